/- Recalls as elements; a slice of one's own that begins as a copy. -/
import Derived.Test.YtlcgckelamhnpaaBase
import Derived.Test.YtlcgckelamhnpaaBigSpec
import Derived.Test.YtlcgckelamhnpaaBigB
import Derived.Test.YtlcgckelamhnpaaBigC
import Derived.Test.YtlcgckelamhnpaaBigD
import Derived.Test.YtlcgckelamhnpaaBigK
import Derived.Test.YtlcgckelamhnpaaBigQ
import Derived.Test.YtlcgckelamhnpaaFd
import Derived.Test.YtlcgckelamhnpaaHeld
import Derived.Test.YtlcgckelamhnpaaAw
import Derived.Test.YtlcgckelamhnpaaFracC
import Derived.Test.YtlcgckelamhnpaaFz
import Derived.Test.YtlcgckelamhnpaaFracR
import Derived.Test.YtlcgckelamhnpaaRefF
import Derived.Test.YtlcgckelamhnpaaRw
import Derived.Test.YtlcgckelamhnpaaScaleE
import Derived.Test.YtlcgckelamhnpaaScaleI
import Derived.Test.YtlcgckelamhnpaaCtLaws
import Derived.Test.YtlcgckelamhnpaaCtA
import Derived.Test.YtlcgckelamhnpaaCtC
import Derived.Test.YtlcgckelamhnpaaLexSpec
import Derived.Test.YtlcgckelamhnpaaCtD
import Derived.Test.YtlcgckelamhnpaaCtE
import Derived.Test.YtlcgckelamhnpaaCtF
import Derived.Test.YtlcgckelamhnpaaScaleP
import Derived.Test.YtlcgckelamhnpaaProg
import Derived.Test.YtlcgckelamhnpaaShelf
import Derived.WalkKit
import Derived.WalkSpells
import Derived.WalkLawsBesides
import Derived.Handy
import Derived.Lib.Hide
import Derived.Lib.Strings
import Derived.Lib.Builder
import Derived.BigQuiet
import Derived.OwnWalk
import Derived.Laws.BitsLemmas
import Derived.WalkSmall
import Derived.Deep.QuietTactic
import Derived.StillTailTactics
import Derived.Maps.AppendAt
import Derived.IntWalk
import Derived.Deep.RegionHeld3
import Derived.Deep.DeepFit
import Derived.Deep.LoopGhost
import Derived.Deep.DeepCutAuto
import Derived.Lib.ItoaNum
import Derived.Lib.Repeat
import Derived.Lib.AppendIntMem
import Derived.Sort.OwnSorted
import Derived.Shelf.Strings.SlTrimAscii
import Derived.Lib.ConvBytes
import Derived.Lib.CutLaws
import Derived.Shelf.Strings.Builder1
import Derived.ArgAppend
namespace Go.Proofs.Ytlcgckelamhnpaa
open Go.RowKit Go.Lib
variable {G : Nat}

def possL (l : List MkC) : Bool := possB (l.map MkC.mk')
def LenL (l : List HdM) (n : Nat) : Prop := ∀ x ∈ l, x.l.length ≤ n
def MkZL (l : List HdM) (n : Nat) : Prop := ∀ x ∈ l, MkZ x.l n
theorem all_next {α : Type} {p : α → Bool} {l : List α} {k : Nat} {x : α} (hx : l[k]? = some x) (h : (l.take k).all p = true) (h1 : p x = true) : (l.take (k + 1)).all p = true := by
 rw [take_snoc_at hx, List.all_append, h]; simp [h1]
theorem all_no {α : Type} {p : α → Bool} {l : List α} {k : Nat} {x : α} (hx : l[k]? = some x) (h1 : p x = false) : l.all p = false := by
 rw [List.all_eq_false]; exact ⟨x, List.mem_of_getElem? hx, by rw [h1]; simp⟩
/-- One mark of a list: nothing contradicts it. -/
def markB (l : List MkC) (y : MkC) : Bool := match mostO (l.map MkC.mk') y.d with | none => true | some h => !decide (h < leastQ (l.map MkC.mk') y.d)
theorem possL_all (l : List MkC) : possL l = l.all (markB l) := by
 unfold possL possB
 rw [List.all_map]; rfl
theorem most_at {l : List MkC} {k : Nat} {x : MkC} (h : l[k]? = some x) : ∃ o, mostO (l.map MkC.mk') x.d = some o := by
 have h1 := most_some (l := l.map MkC.mk') (day := x.d) |>.2 ⟨x.mk', List.mem_map.2 ⟨x, List.mem_of_getElem? h, rfl⟩, Int.le_refl _⟩
 cases e : mostO (l.map MkC.mk') x.d with
 | none => rw [e] at h1; cases h1
 | some o => exact ⟨o, rfl⟩
set_option maxRecDepth 100000 in
set_option maxHeartbeats 4000000 in
theorem ctPossible {l : List HdM} {a : Option Addr} {n c : Nat} {b_ : Bool} {w : World} (hG : G ≤ w.heap.size) (h : RdH G w a n c l) (_hn : n ≤ 1000) (hz : MkZL l 60) (hl : LenL l 1000) (hb : l.all (fun x => possL x.l) = b_) :
  Calls Try.prog 33 #[.slice a n c] w fun e w' => e = .returned (.bool b_) ∧ Below w.heap.size w w' := by
 have HZ := Lib.hid hz; have HLN := Lib.hid hl; have HB := Lib.hid hb; clear hz hl hb
 have HL : Hid (RdH G w a n c l) := h
 clear h
 have M : Hid (Below w.heap.size w w) := Below.refl _ _
 go_enter Try.func33, Try.ntmps33
 go_wp2_with fail
 go_loopw [11] (fun i11 wr => ∃ (k : Nat), i11 = .int .i64 (k : Int) ∧ Hid (k ≤ n) ∧ Hid ((l.take k).all (fun x => possL x.l) = true) ∧ Hid (Below w.heap.size w wr)) (fun i11 _ => n - (RowKit.intOf i11).toNat)
 case atStart =>
  exact ⟨0, rfl, (by show _ ≤ _; omega), (Lib.hid rfl), Lib.hid M.out⟩
 case round =>
  obtain ⟨w1, rfl⟩ : ∃ x, x = wr := ⟨_, rfl⟩
  clear M
  obtain ⟨k, rfl, hk, HA, M⟩ := hrel
  have hk := hk.out
  by_cases hlt : k < n
  ·
   have e1_0 : decide (k < n) = true := decide_eq_true (by omega)
   have e1_1 : decide ((k : Int) < (n : Int)) = true := decide_eq_true (by omega)
   have e1_i : (k : Int) < (n : Int) := by omega
   obtain ⟨b, off, rfl, hb_⟩ := RdL.ptr HL.out (by omega : 0 < n)
   have hkl_ : k < l.length := by rw [HL.out.len]; exact hlt
   obtain ⟨x_, hx_⟩ : ∃ x, l[k]? = some x := ⟨l[k], List.getElem?_eq_getElem hkl_⟩
   obtain ⟨xa, xn, xc, xl⟩ := x_
   have HRx : Hid (Row w b (off + k) [.slice xa xn xc]) := by have h_ := hb_.row hx_; rw [show k * El.sz HdM = k from Nat.mul_one _] at h_; exact h_
   have HDx : Hid (RdM G w xa xn xc xl) := hb_.ok hx_
   have HEx := Lib.hid hx_
   have HZx : Hid (MkZ xl 60) := HZ.out _ (List.mem_of_getElem? hx_)
   have hnx : xn ≤ 1000 := by have h_ := HLN.out _ (List.mem_of_getElem? hx_); have h2_ := (HDx.out).len; simp only at h_; omega
   clear hx_ hb_ hkl_
   have yr0 := (HRx.out.keep M.out).c1; have r0_0 := yr0; clear yr0
   go_wp2_with fail
   clear r0_0
   go_loopw [17] (fun i17 wr => ∃ (j : Nat), i17 = .int .i64 (j : Int) ∧ Hid (j ≤ xn) ∧ Hid ((xl.take j).all (markB xl) = true) ∧ Hid (Below w.heap.size w wr)) (fun i17 _ => xn - (RowKit.intOf i17).toNat)
   case atStart =>
    exact ⟨0, rfl, (by show _ ≤ _; omega), (Lib.hid rfl), Lib.hid M.out⟩
   case round =>
    obtain ⟨w2, rfl⟩ : ∃ x, x = wr := ⟨_, rfl⟩
    clear M
    obtain ⟨j, rfl, hj, HJ, M⟩ := hrel
    have hj := hj.out
    by_cases hlt2 : j < xn
    ·
     have e2_0 : decide (j < xn) = true := decide_eq_true (by omega)
     have e2_1 : decide ((j : Int) < (xn : Int)) = true := decide_eq_true (by omega)
     have e2_i : (j : Int) < (xn : Int) := by omega
     obtain ⟨b2, off2, rfl, hb_⟩ := RdL.ptr HDx.out (by omega : 0 < xn)
     have hkl_ : j < xl.length := by rw [HDx.out.len]; exact hlt2
     obtain ⟨y_, hx_⟩ : ∃ x, xl[j]? = some x := ⟨xl[j], List.getElem?_eq_getElem hkl_⟩
     obtain ⟨yd, yu0, yu1, yu2, yu3, ylo, yv0, yv1, yv2, yv3, yhi⟩ := y_
     have HRy : Hid (Row w b2 (off2 + j * 9) [.int .i64 yd, yu0, yu1, yu2, yu3, yv0, yv1, yv2, yv3]) := hb_.row hx_
     have HQy : Hid (FQ G w yu0 yu1 yu2 yu3 ylo) := (hb_.ok hx_).1
     have HSy : Hid (FQ G w yv0 yv1 yv2 yv3 yhi) := (hb_.ok hx_).2
     have HEy := Lib.hid hx_
     have hz_ := HZx.out _ (List.mem_of_getElem? hx_)
     have HZy1 : Hid (Fz ylo 60) := hz_.1
     have HZy2 : Hid (Fz yhi 60) := hz_.2
     have HMy : Hid ((xl.map MkC.mk')[j]? = some ⟨yd, ylo, yhi⟩) := by show _ = _; rw [List.getElem?_map, hx_]; rfl
     clear hx_ hb_ hkl_ hz_
     obtain ⟨oh, hoh_⟩ := most_at HEy.out
     obtain ⟨ql, hql_⟩ : ∃ q, leastQ (xl.map MkC.mk') yd = q := ⟨_, rfl⟩
     obtain ⟨kv, hkv_⟩ : ∃ k, ordQ ql oh = k := ⟨_, rfl⟩
     obtain ⟨t1, ht1_⟩ : ∃ b, decide (oh < ql) = b := ⟨_, rfl⟩
     have hk1_ : decide (0 < kv) = t1 := by rw [← ht1_, ← hkv_, ordQ_gt0]
     have HZo : Hid (Fz oh 60) := by have h_ := most_oz HZx.out yd; rw [show mostO (xl.map MkC.mk') yd = some oh from hoh_] at h_; exact h_
     have HZq : Hid (Fz ql 60) := by show Fz _ _; rw [← hql_]; exact least_fz HZx.out (by omega) yd
     have HMB : Hid (markB xl ⟨yd, yu0, yu1, yu2, yu3, ylo, yv0, yv1, yv2, yv3, yhi⟩ = !t1) := by show _ = _; unfold markB; simp only; rw [show mostO (xl.map MkC.mk') yd = some oh from hoh_]; show (!decide (oh < leastQ (xl.map MkC.mk') yd)) = _; rw [hql_, ht1_]
     have HOH : Hid (mostO (xl.map MkC.mk') yd = some oh) := hoh_
     have HQL := Lib.hid hql_; have HKV := Lib.hid hkv_; have HT1 := Lib.hid ht1_; clear hoh_ hql_ hkv_ ht1_
     refine cj4 (TQ.st (HQy.out.keep M.out)) fun aa ab ac ad => ?_
     refine cj4 (TQ.st (HSy.out.keep M.out)) fun ae af ag ah => ?_
     refine cj9 (HRy.out.keep M.out).c9 fun r1_0 r1_1 r1_2 r1_3 r1_4 r1_5 r1_6 r1_7 r1_8 => ?_
     go_upto_region 7 with fail
     clear aa ab ac ad ae af ag ah r1_0 r1_1 r1_2 r1_3 r1_4 r1_5 r1_6 r1_7 r1_8
     refine nmW (w2.alloc (.cells #[.int .i64 yd, yu0, yu1, yu2, yu3, yv0, yv1, yv2, yv3] 97)) fun w3 hv => ?_
     rw [← hv]
     have ow0_ : w.heap.size ≤ w2.heap.size := (M.out).size
     replace M := alM hv M
     clear hv
     refine cj9 (M.out.1).d9 fun ai aj ak al am ao ap aq ar => ?_
     go_wp2_with fail
     clear ai aj ak al am ao ap aq ar
     refine (ctMost (G := G) (day := yd) (o := (some oh)) (b_ := true) (Nat.le_trans hG (J1 M).size) (HDx.out.keep (J1 M)) (by omega) HZx.out HOH.out rfl).mono ?_
     rintro e w4 ⟨x_1, x_2, x_3, x_4, rfl, hd5, hb⟩
     replace M := adM hd5 hb M
     clear hb hd5
     refine cj4 (TQ.st (M.out.1)) fun au av aw ax => ?_
     go_wp2_with fail
     clear au av aw ax
     refine nmW (w4.alloc (.cells #[x_1, x_2, x_3, x_4] 38)) fun w5 hv => ?_
     rw [← hv]
     have ow1_ : w2.heap.size < w4.heap.size := ((J1 M).1).lt
     replace M := alM hv M
     clear hv
     refine nmW w5.drew fun w6 hv => ?_
     replace M := drM hv M
     refine wp_region_held_drew (S := (fun w' => w'.cell? ⟨w2.heap.size, 0, none⟩ = some (.int .i64 yd) ∧ w'.cell? ⟨w2.heap.size, 1, none⟩ = some (yu0) ∧ w'.cell? ⟨w2.heap.size, 2, none⟩ = some (yu1) ∧ w'.cell? ⟨w2.heap.size, 3, none⟩ = some (yu2) ∧ w'.cell? ⟨w2.heap.size, 4, none⟩ = some (yu3) ∧ w'.cell? ⟨w2.heap.size, 5, none⟩ = some (yv0) ∧ w'.cell? ⟨w2.heap.size, 6, none⟩ = some (yv1) ∧ w'.cell? ⟨w2.heap.size, 7, none⟩ = some (yv2) ∧ w'.cell? ⟨w2.heap.size, 8, none⟩ = some (yv3) ∧ w'.cell? ⟨w4.heap.size, 0, none⟩ = some (x_1) ∧ w'.cell? ⟨w4.heap.size, 1, none⟩ = some (x_2) ∧ w'.cell? ⟨w4.heap.size, 2, none⟩ = some (x_3) ∧ w'.cell? ⟨w4.heap.size, 3, none⟩ = some (x_4))) (by kernel_rfl) (by rw [← hv]; exact ((J2 M).1.t9 ((M.out.1).d4))) (fun hH11 => ?_)
     rw [← hv] at hH11 ⊢
     clear hv
     refine tk at0 ?_
     refine tk at1 ?_
     refine tk at2 ?_
     refine tk at4 ?_
     refine wpAnyH_ready (rs := [3]) (by kernel_rfl) (by simp) ?_
     refine AllReadyH.cons at3 (fun K hK => ?_) AllReadyH.nil
     go_simp
     refine (ctLeast (G := G) (day := yd) (q := ql) (Nat.le_trans hG (J3 M).size) (HDx.out.keep (J3 M)) (by omega) HZx.out HQL.out).mono ?_
     rintro e w7 ⟨x_12, x_13, x_14, x_15, rfl, hd16, hb⟩
     replace M := adM hd16 hb M
     clear hb hd16
     (try go_wp2_with fail)
     refine hK.out _ _ (((J3 M).1.t9 ((J1 M).1.d4))) (fun hH17 => ?_)
     clear hK K hH11
     (try simp only [Act.put, List.setIfInBounds_toArray, List.set_cons_zero, List.set_cons_succ])
     refine wpAnyH_ready (rs := [5]) (by kernel_rfl) (by simp) ?_
     refine AllReadyH.cons at5 (fun K hK => ?_) AllReadyH.nil
     go_simp
     refine (fqCompare (G := G) (q := ql) (r := oh) (k := kv) (M.out.1) (J2 M).1 (Fz.mono HZq.out (by omega)) (Fz.mono HZo.out (by omega)) HKV.out).mono ?_
     rintro e w8 ⟨rfl, hb⟩
     replace M := gnM hb M
     clear hb
     (try go_wp2_with fail)
     refine hK.out _ _ (((J3 M).1.t9 ((J1 M).1.d4))) (fun hH18 => ?_)
     clear hK K hH17
     (try simp only [Act.put, List.setIfInBounds_toArray, List.set_cons_zero, List.set_cons_succ])
     refine tk at6 ?_
     refine wpAnyH_done (by kernel_rfl) ?_ _
     clear hH18
     cases t1 with
     | false =>
      go_wp2_with fail
      go_roundw
      case rel => exact ⟨(j + 1), by go_num, (by show _ ≤ _; omega), (Lib.hid (all_next HEy.out HJ.out HMB.out)), Lib.hid (J4 M)⟩
      case measure => simp [RowKit.intOf] <;> omega
     | true =>
      go_wp2_with fail
      go_ret
      exact ⟨by rw [← HB.out, all_no HEx.out (show possL xl = false by rw [possL_all]; exact all_no HEy.out HMB.out)] <;> rfl, (J4 M)⟩
    ·
     have e2_0 : decide (j < xn) = false := decide_eq_false (by omega)
     have e2_1 : decide ((j : Int) < (xn : Int)) = false := decide_eq_false (by omega)
     have e2_i : ¬ (j : Int) < (xn : Int) := by omega
     have HXA : Hid (possL xl = true) := by show _ = _; rw [possL_all]; have h_ := HJ.out; rw [List.take_of_length_le (by rw [HDx.out.len]; omega)] at h_; exact h_
     go_wp2_with fail
     go_roundw
     case rel => exact ⟨(k + 1), by go_num, (by show _ ≤ _; omega), (Lib.hid (all_next HEx.out HA.out HXA.out)), Lib.hid M.out⟩
     case measure => simp [RowKit.intOf] <;> omega
  ·
   have e1_0 : decide (k < n) = false := decide_eq_false (by omega)
   have e1_1 : decide ((k : Int) < (n : Int)) = false := decide_eq_false (by omega)
   have e1_i : ¬ (k : Int) < (n : Int) := by omega
   have HT : Hid (b_ = true) := by show _ = _; rw [← HB.out]; rw [List.take_of_length_le (by rw [HL.out.len]; omega)] at HA; exact HA.out
   go_wp2_with fail
   go_ret
   exact ⟨by rw [HT.out] <;> rfl, M.out⟩
end Go.Proofs.Ytlcgckelamhnpaa
namespace Go.Proofs.Ytlcgckelamhnpaa
open Go.RowKit Go.Lib
variable {G : Nat}

theorem rgIn_of {nb big : Bool} {ms : List Mt} {rs : List Rg} (h : formedE nb big ms rs = 0) : RgIn ms.length rs := by
  intro k x hx
  have hk := (List.getElem?_eq_some_iff.1 hx).1
  have h1 := (formed_zero.1 h).2.2.2 k hk
  unfold rErr at h1
  rw [hx] at h1
  have h2 : (if (decide (x.m < 0) || decide ((ms.length : Int) ≤ x.m) || decide (x.c < 0) || decide (1099511627776 < x.c)) = true then 1 else _) = (0 : Int) := h1
  by_cases hc : (decide (x.m < 0) || decide ((ms.length : Int) ≤ x.m) || decide (x.c < 0) || decide (1099511627776 < x.c)) = true
  · rw [if_pos hc] at h2; cases h2
  · simp only [Bool.or_eq_true, decide_eq_true_eq, not_or] at hc
    omega
theorem poss_of {L : List HdM} {nn : Nat} {iv : Iv} {ms : List Mt} {rs : List Rg} (hl : L.map (fun x => x.l.map MkC.mk') = (List.range nn).map (fun i => marksL iv ms rs (i : Nat))) (hn : ms.length = nn) : L.all (fun x => possL x.l) = possA iv ms rs := by
 subst hn
 have h := congrArg (fun z => z.all possB) hl
 simp only [List.all_map] at h
 exact h
theorem lenL_of {L : List HdM} {nn : Nat} {iv : Iv} {ms : List Mt} {rs : List Rg} (hl : L.map (fun x => x.l.map MkC.mk') = (List.range nn).map (fun i => marksL iv ms rs (i : Nat))) (hr : rs.length ≤ 1000) : LenL L 1000 := by
 intro x hx
 have h1 : x.l.map MkC.mk' ∈ L.map (fun x => x.l.map MkC.mk') := List.mem_map.2 ⟨x, hx, rfl⟩
 rw [hl] at h1
 obtain ⟨i, -, h2⟩ := List.mem_map.1 h1
 have h3 := congrArg List.length h2
 rw [List.length_map] at h3
 rw [← h3]
 unfold marksL
 exact Nat.le_trans (Nat.le_trans (List.length_filterMap_le _ _) (List.length_filter_le _ _)) hr
theorem at_of {L : List HdM} {nn k : Nat} {iv : Iv} {ms : List Mt} {rs : List Rg} {x : HdM} (hl : L.map (fun x => x.l.map MkC.mk') = (List.range nn).map (fun i => marksL iv ms rs (i : Nat))) (hx : L[k]? = some x) : x.l.map MkC.mk' = marksL iv ms rs (k : Nat) := by
 have h := congrArg (fun z => z[k]?) hl
 simp only [List.getElem?_map, hx, Option.map_some] at h
 cases hr : (List.range nn)[k]? with
 | none => rw [hr] at h; cases h
 | some j =>
  rw [hr] at h
  obtain ⟨h1, h2⟩ := List.getElem?_eq_some_iff.1 hr
  rw [List.getElem_range] at h2
  subst h2
  exact Option.some.inj h
theorem check_e {iv : Iv} {nb big : Bool} {ms : List Mt} {rs : List Rg} {fe : Int} (h : formedE nb big ms rs = fe) (h0 : ¬ fe = 0) : checkE iv nb big ms rs = fe := by
 unfold checkE; rw [h, if_neg h0]
theorem check_p {iv : Iv} {nb big : Bool} {ms : List Mt} {rs : List Rg} {pa : Bool} (h : formedE nb big ms rs = 0) (hp : possA iv ms rs = pa) : checkE iv nb big ms rs = if pa = true then 0 else 16 := by
 unfold checkE; rw [h, if_pos rfl, hp]
set_option maxRecDepth 100000 in
set_option maxHeartbeats 4000000 in
theorem ctCheck {nm : ByteArray} {am ar ac aq : Option Addr} {nn cm nr cr cc cq : Nat} {ms : List Mt} {rs : List Rg} {cs : List Ct} {rr : List Rc} {nb big : Bool} {er : Int} {w : World} (hG : G ≤ w.heap.size) (hm : RdMt G w am nn cm ms) (hr : RdRg G w ar nr cr rs) (hc : CtIn w (.slice ac cs.length cc) cs) (hq : RcIn w (.slice aq rr.length cq) rr) (_hsz : nm.size ≤ 1000) (_hnn : nn ≤ 1000) (_hnr : nr ≤ 1000) (_hcl : cs.length ≤ 1000) (_hrl : rr.length ≤ 1000) (hnb : nameOk nm.data.toList = nb) (hbg : bigB ms rs cs.length rr.length = big) (he : checkE (ivOf cs rr) nb big ms rs = er) :
  Calls Try.prog 10 #[.agg #[.string nm, .slice am nn cm, .slice ar nr cr], .slice ac cs.length cc, .slice aq rr.length cq] w fun e w' => e = .returned (.int .i64 er) ∧ Below w.heap.size w w' := by
 obtain ⟨fe, hfe_⟩ : ∃ e, formedE nb big ms rs = e := ⟨_, rfl⟩
 obtain ⟨pa, hpa_⟩ : ∃ b, possA (ivOf cs rr) ms rs = b := ⟨_, rfl⟩
 have HFE := Lib.hid hfe_; have HPA := Lib.hid hpa_; have HE := Lib.hid he; have HNB := Lib.hid hnb; have HBG := Lib.hid hbg; clear hfe_ hpa_ he hnb hbg
 have HM : Hid (RdMt G w am nn cm ms) := hm
 have HR : Hid (RdRg G w ar nr cr rs) := hr
 have HC : Hid (CtIn w (.slice ac cs.length cc) cs) := hc
 have HQ : Hid (RcIn w (.slice aq rr.length cq) rr) := hq
 clear hm hr hc hq
 have M : Hid (Below w.heap.size w w) := Below.refl _ _
 go_enter Try.func10, Try.ntmps10
 go_upto_region 1 with fail
 refine nmW (w.alloc (.cells #[.string nm, .slice am nn cm, .slice ar nr cr] 25)) fun w1 hv => ?_
 rw [← hv]
 replace M := alM hv M
 clear hv
 refine cj3 (M.out.1).d3 fun aa ab ad => ?_
 go_wp2_with fail
 clear aa ab ad
 refine (ctFormed (G := G) (nm := nm) (nb := nb) (big := big) (er := fe) (Nat.le_trans hG (J1 M).size) (HM.out.keep (J1 M)) (HR.out.keep (J1 M)) (HC.out.keep (J1 M)) (HQ.out.keep (J1 M)) (by omega) (by omega) (by omega) (by omega) (by omega) HNB.out HBG.out HFE.out).mono ?_
 rintro e w2 ⟨rfl, hb⟩
 replace M := gnM hb M
 clear hb
 go_upto_region 2 with fail
 by_cases hem_ : fe = 0
 ·
  subst hem_
  have HFM : Hid (RgIn ms.length rs) := rgIn_of HFE.out
  refine cj3 (M.out.1).d3 fun aa ab ad => ?_
  go_wp2_with fail
  clear aa ab ad
  refine (ctMarks (G := G) (nm := nm) (Nat.le_trans hG (J1 M).size) (HM.out.keep (J1 M)) (HR.out.keep (J1 M)) (HC.out.keep (J1 M)) (HQ.out.keep (J1 M)) (by omega) (by omega) (by omega) (by omega) (by omega) HFM.out).mono ?_
  rintro e w3 ⟨a_1, L_2, rfl, hd3, hu4, hu5, hb⟩
  replace M := adM hd3 hb M
  clear hb hd3
  replace hu4 := Lib.hid hu4
  replace hu5 := Lib.hid hu5
  go_wp2_with fail
  refine (ctPossible (G := G) (b_ := pa) (Nat.le_trans hG (J2 M).size) (M.out.1) (by omega) (fun x hx => hu5.out x hx) (lenL_of hu4.out (by have := HR.out.len; omega)) ((poss_of hu4.out HM.out.len).trans HPA.out)).mono ?_
  rintro e w4 ⟨rfl, hb⟩
  replace M := gnM hb M
  clear hb
  cases pa with
  | false =>
   go_wp2_with fail
   go_ret
   exact ⟨by rw [← HE.out, check_p HFE.out HPA.out] <;> rfl, (J2 M)⟩
  | true =>
   go_wp2_with fail
   go_ret
   exact ⟨by rw [← HE.out, check_p HFE.out HPA.out] <;> rfl, (J2 M)⟩
 ·
  have em1_ : (fe == 0) = false := beq_false_of_ne hem_
  have em2_ : (fe != 0) = true := bne_iff_ne.2 hem_
  have em3_ : ¬ fe = 0 := hem_
  go_wp2_with fail
  go_ret
  exact ⟨by rw [← HE.out, check_e HFE.out em3_] <;> rfl, (J1 M)⟩
end Go.Proofs.Ytlcgckelamhnpaa
namespace Go.Proofs.Ytlcgckelamhnpaa
open Go.RowKit Go.Lib
variable {G : Nat}

theorem RdL.oksC {α : Type} [El α] {w : World} {a : Option Addr} {n c : Nat} {l : List α} (h : RdL G w a n c l) : ∀ x ∈ l, El.ok G w x := by
  intro x hx
  rcases h.cases with ⟨rfl, rfl⟩ | ⟨b, off, rfl, h0, hl, hc, hb⟩
  · cases hx
  · exact hb.oks x hx
theorem RdH.row_ {w : World} {b off n c k : Nat} {l : List HdM} {x : HdM} (h : RdH G w (some ⟨b, off, none⟩) n c l) (hk : l[k]? = some x) : Row w b (off + k) (El.cells x) := by
 have hn : 0 < n := by
  have h1 := (List.getElem?_eq_some_iff.1 hk).1
  have h2 := h.len
  omega
 obtain ⟨b', off', he, hb⟩ := h.ptr hn
 cases he
 have h_ := hb.row hk
 rw [show k * El.sz HdM = k from Nat.mul_one _] at h_
 exact h_
theorem ivOk (cs : List Ct) (rr : List Rc) : IvOk (ivOf cs rr) := by
 intro s c d p hp
 obtain ⟨l, h⟩ := p
 obtain ⟨g, hg, -, -, hin, hc, rfl, rfl⟩ := ivl_some hp
 have he := errQ_nonneg hc hin
 have h0 : 0 ≤ c := by simp [inR] at hin; omega
 refine ⟨lo_nonneg, Rat.le_trans (lo_le he h0) ?_⟩
 show (c : Rat) ≤ hiQ _ _
 unfold hiQ
 grind
theorem poss_at {cs : List Ct} {rr : List Rc} {nb big : Bool} {ms : List Mt} {rs : List Rg} (hc : checkE (ivOf cs rr) nb big ms rs = 0) {k : Nat} (hk : k < ms.length) : Poss (marksL (ivOf cs rr) ms rs (k : Nat)) :=
 (possA_iff (ivOk cs rr)).1 (check_zero.1 hc).2 k hk
theorem cnt_at {cs : List Ct} {rr : List Rc} {nb big : Bool} {ms : List Mt} {rs : List Rg} {L : List HdM} {nn k : Nat} {x : HdM} {fa fb : Int} {h : Rat} (hc : checkE (ivOf cs rr) nb big ms rs = 0) (hl : L.map (fun x => x.l.map MkC.mk') = (List.range nn).map (fun i => marksL (ivOf cs rr) ms rs (i : Nat))) (hx : L[k]? = some x) (hk : k < ms.length) (hf : fa ≤ fb) (e : cntHi (x.l.map MkC.mk') fa fb = some h) : cntLo (x.l.map MkC.mk') fa fb ≤ h := by
 rw [at_of hl hx] at e ⊢
 exact cnt_ok (poss_at hc hk) (marks_ok (ivOk cs rr) ms rs _) hf e
theorem piece_at {iv : Iv} {ms : List Mt} {rs : List Rg} {L : List HdM} {nn k : Nat} {x : HdM} {z : Mt} {a b fa fb : Int} (hl : L.map (fun x => x.l.map MkC.mk') = (List.range nn).map (fun i => marksL iv ms rs (i : Nat))) (hx : L[k]? = some x) (hz : ms[k]? = some z) (ha : max a z.f = fa) (hb : min b z.u = fb) : pieceM iv ms rs a b k = pieceL (x.l.map MkC.mk') fa fb := by
 unfold pieceM
 rw [getD_of hz, ha, hb, at_of hl hx]
theorem btw_skip {P : Nat → Option (Rat × Rat)} {k : Nat} {x y : Rat} {l : List Mk} {fa fb : Int} (h : btw P k = some (x, y)) (hp : P k = pieceL l fa fb) (hf : fb ≤ fa) : btw P (k + 1) = some (x, y) := by
 rw [btw_mk h (show P k = some (0, 0) by rw [hp]; unfold pieceL; rw [if_pos hf])]
 rw [Rat.add_zero, Rat.add_zero]
theorem btw_free {P : Nat → Option (Rat × Rat)} {k n : Nat} {l : List Mk} {fa fb : Int} (hk : k < n) (hp : P k = pieceL l fa fb) (hf : ¬ fb ≤ fa) (h : cntHi l fa fb = none) : btw P n = none :=
 btw_none hk (by rw [hp]; unfold pieceL; rw [if_neg hf, h]; rfl)
theorem btw_some_ {P : Nat → Option (Rat × Rat)} {k : Nat} {x y lo hi : Rat} {l : List Mk} {fa fb : Int} (h : btw P k = some (x, y)) (hp : P k = pieceL l fa fb) (hf : ¬ fb ≤ fa) (h1 : cntLo l fa fb = lo) (h2 : cntHi l fa fb = some hi) : btw P (k + 1) = some (x + lo, y + hi) :=
 btw_mk h (by rw [hp]; unfold pieceL; rw [if_neg hf, h2, h1]; rfl)
theorem cntLo_fz {l : List MkC} (hz : MkZ l 60) (a b : Int) : Fz (cntLo (l.map MkC.mk') a b) 130 := by
 unfold cntLo
 have h1 := most_oz hz a
 cases e : mostO (l.map MkC.mk') a with
 | none => exact (Fz.int64 (x := 0) (by decide)).mono (by omega)
 | some h =>
  rw [e] at h1
  exact Fz.maxQ ((Fz.sub (least_fz hz (by omega) b) h1).mono (by omega)) ((Fz.int64 (x := 0) (by decide)).mono (by omega))
theorem cntHi_fz {l : List MkC} (hz : MkZ l 60) {a b : Int} {q : Rat} (h : cntHi (l.map MkC.mk') a b = some q) : Fz q 130 := by
 unfold cntHi at h
 have h1 := most_oz hz b
 cases e : mostO (l.map MkC.mk') b with
 | none => rw [e] at h; cases h
 | some g =>
  rw [e] at h h1
  cases h
  exact (Fz.sub h1 (least_fz hz (by omega) a)).mono (by omega)
theorem b_end {X : Int × Option (Rat × Rat)} {er er' : Int} {o o' : Option (Rat × Rat)} {ol oh : Option Rat} (he : X = (er, o)) (hl : o.map Prod.fst = ol) (hh : o.map Prod.snd = oh) (h : X = (er', o')) : er = er' ∧ ol = o'.map Prod.fst ∧ oh = o'.map Prod.snd := by
 rw [he] at h; cases h; exact ⟨rfl, hl.symm, hh.symm⟩
theorem betw_c {iv : Iv} {nb big : Bool} {ms : List Mt} {rs : List Rg} {a b ce : Int} (h : checkE iv nb big ms rs = ce) (h0 : ¬ ce = 0) : betw iv nb big ms rs a b = (ce, none) := by
 unfold betw; rw [h, if_neg h0]
theorem betw_1 {iv : Iv} {nb big : Bool} {ms : List Mt} {rs : List Rg} {a b : Int} (h : checkE iv nb big ms rs = 0) (h1 : b < a) : betw iv nb big ms rs a b = (1, none) := by
 unfold betw; rw [if_pos h, if_pos h1]
theorem betw_4 {iv : Iv} {nb big : Bool} {ms : List Mt} {rs : List Rg} {a b : Int} (h : checkE iv nb big ms rs = 0) (h1 : ¬ b < a) (h2 : ms.length = 0 ∨ a < (ms.getD 0 ⟨0, 0, 0⟩).f ∨ (ms.getD (ms.length - 1) ⟨0, 0, 0⟩).u < b) : betw iv nb big ms rs a b = (4, none) := by
 unfold betw; rw [if_pos h, if_neg h1, if_pos h2]
def bRes : Option (Rat × Rat) → Int × Option (Rat × Rat)
 | none => (17, none)
 | some x => (0, some x)
theorem betw_r {iv : Iv} {nb big : Bool} {ms : List Mt} {rs : List Rg} {a b : Int} {z : Int × Option (Rat × Rat)} (h : checkE iv nb big ms rs = 0) (hd : DaysOk ms a b) {x : Option (Rat × Rat)} (h1 : btw (pieceM iv ms rs a b) ms.length = x) (h2 : bRes x = z) : betw iv nb big ms rs a b = z := by
 rw [betw_ok h hd, h1]; cases x <;> exact h2
set_option maxRecDepth 100000 in
set_option maxHeartbeats 4000000 in
theorem ctBetween {nm : ByteArray} {am ar ac aq : Option Addr} {nn cm nr cr cc cq : Nat} {ms : List Mt} {rs : List Rg} {cs : List Ct} {rr : List Rc} {nb big : Bool} {da db er : Int} {o : Option (Rat × Rat)} {ol oh : Option Rat} {w : World} (hG : G ≤ w.heap.size) (hm : RdMt G w am nn cm ms) (hr : RdRg G w ar nr cr rs) (hc : CtIn w (.slice ac cs.length cc) cs) (hq : RcIn w (.slice aq rr.length cq) rr) (_hsz : nm.size ≤ 1000) (_hnn : nn ≤ 1000) (_hnr : nr ≤ 1000) (_hcl : cs.length ≤ 1000) (_hrl : rr.length ≤ 1000) (hnb : nameOk nm.data.toList = nb) (hbg : bigB ms rs cs.length rr.length = big) (he : betw (ivOf cs rr) nb big ms rs da db = (er, o)) (hl : o.map Prod.fst = ol) (hh : o.map Prod.snd = oh) :
  Calls Try.prog 9 #[.agg #[.string nm, .slice am nn cm, .slice ar nr cr], .slice ac cs.length cc, .slice aq rr.length cq, .int .i64 da, .int .i64 db] w fun e w' => ∃ x0 x1 x2 x3 x4 x5 x6 x7, e = .returned (.tuple #[.agg #[x0, x1, x2, x3, x4, x5, x6, x7], .int .i64 er]) ∧ OQ G w' x0 x1 x2 x3 ol ∧ OQ G w' x4 x5 x6 x7 oh ∧ Oz ol 200000 ∧ Oz oh 200000 ∧ Below w.heap.size w w' := by
 obtain ⟨ce, hce_⟩ : ∃ e, checkE (ivOf cs rr) nb big ms rs = e := ⟨_, rfl⟩
 have HCE := Lib.hid hce_; have HE := Lib.hid he; have HLO := Lib.hid hl; have HHI := Lib.hid hh; have HNB := Lib.hid hnb; have HBG := Lib.hid hbg; clear hce_ he hl hh hnb hbg
 have HM : Hid (RdMt G w am nn cm ms) := hm
 have HR : Hid (RdRg G w ar nr cr rs) := hr
 have HC : Hid (CtIn w (.slice ac cs.length cc) cs) := hc
 have HQ : Hid (RcIn w (.slice aq rr.length cq) rr) := hq
 clear hm hr hc hq
 have M : Hid (Below w.heap.size w w) := Below.refl _ _
 go_enter Try.func9, Try.ntmps9
 go_upto_region 1 with fail
 refine nmW ((w.alloc (.cells #[.string nm, .slice am nn cm, .slice ar nr cr] 25)).alloc (.cells #[.int .i64 0, .slice none 0 0, .int .i64 0, .slice none 0 0, .int .i64 0, .slice none 0 0, .int .i64 0, .slice none 0 0] 40)) fun w1 hv => ?_
 rw [← hv]
 replace M := al2W hv M
 clear hv
 refine cj3 (J1 M).1.d3 fun aa ab ad => ?_
 go_wp2_with fail
 clear aa ab ad
 refine (ctCheck (G := G) (nm := nm) (nb := nb) (big := big) (er := ce) (Nat.le_trans hG (J2 M).size) (HM.out.keep (J2 M)) (HR.out.keep (J2 M)) (HC.out.keep (J2 M)) (HQ.out.keep (J2 M)) (by omega) (by omega) (by omega) (by omega) (by omega) HNB.out HBG.out HCE.out).mono ?_
 rintro e w2 ⟨rfl, hb⟩
 replace M := gnM hb M
 clear hb
 go_upto_region 2 with fail
 by_cases hem_ : ce = 0
 ·
  subst hem_
  have HFM : Hid (RgIn ms.length rs) := rgIn_of (check_zero.1 HCE.out).1
  refine cj3 (J1 M).1.d3 fun aa ab ad => ?_
  go_upto_region 5 with fail
  clear aa ab ad
  by_cases c1_ : db < da
  ·
   have c1 : decide (db < da) = true := decide_eq_true (by omega)
   have c1i : db < da := by omega
   have HR_ := Lib.hid (betw_1 HCE.out c1i)
   refine cj16 (M.out.1).c8 fun ae af ag ah ai aj ak al ao ap au av aw ax ay az => ?_
   go_wp2_with fail
   clear ae af ag ah ai aj ak al ao ap au av aw ax ay az
   have hz : w.heap.size ≤ w.heap.size + 1 := by omega
   refine st8W (.int .i64 0) (.slice none 0 0) (.int .i64 0) (.slice none 0 0) (.int .i64 0) (.slice none 0 0) (.int .i64 0) (.slice none 0 0) (M.out.1) (J2 M) hz fun w3 hv og hk hbw => ?_
   rw [← hv]
   replace M := Lib.hid (aI hk (aI ((J1 M).1.only og (by omega)) hbw))
   clear hk hbw og hv hz
   obtain ⟨rfl, rfl, rfl⟩ := b_end HE.out HLO.out HHI.out HR_.out
   refine bodyPost_ret (results_box2 rfl _ _ (w.heap.size + 1) 40 _ _ _ rfl (M.out.1) Try.underlying40 rfl (by kernel_rfl)) rfl ?_
   exact ⟨_, _, _, _, _, _, _, _, rfl, oq_none _ _ _ _ _, oq_none _ _ _ _ _, Oz.none_, Oz.none_, (J2 M)⟩
  ·
   have c1 : decide (db < da) = false := decide_eq_false (by omega)
   have c1i : ¬ db < da := by omega
   go_upto_region 7 with fail
   by_cases hn0 : nn = 0
   ·
    have en1_ : ((nn : Int) == 0) = true := by simp [hn0]
    have HR_ := Lib.hid (betw_4 HCE.out c1i (.inl (by have := HM.out.len; omega)))
    refine cj16 (M.out.1).c8 fun ae af ag ah ai aj ak al ao ap au av aw ax ay az => ?_
    go_wp2_with fail
    clear ae af ag ah ai aj ak al ao ap au av aw ax ay az
    have hz : w.heap.size ≤ w.heap.size + 1 := by omega
    refine st8W (.int .i64 0) (.slice none 0 0) (.int .i64 0) (.slice none 0 0) (.int .i64 0) (.slice none 0 0) (.int .i64 0) (.slice none 0 0) (M.out.1) (J2 M) hz fun w3 hv og hk hbw => ?_
    rw [← hv]
    replace M := Lib.hid (aI hk (aI ((J1 M).1.only og (by omega)) hbw))
    clear hk hbw og hv hz
    obtain ⟨rfl, rfl, rfl⟩ := b_end HE.out HLO.out HHI.out HR_.out
    refine bodyPost_ret (results_box2 rfl _ _ (w.heap.size + 1) 40 _ _ _ rfl (M.out.1) Try.underlying40 rfl (by kernel_rfl)) rfl ?_
    exact ⟨_, _, _, _, _, _, _, _, rfl, oq_none _ _ _ _ _, oq_none _ _ _ _ _, Oz.none_, Oz.none_, (J2 M)⟩
   ·
    have en1_ : ((nn : Int) == 0) = false := by simp [hn0]
    have hix5 : (0 : Int) < (nn : Int) := by omega
    have hnp_ : 0 < nn := by omega
    obtain ⟨bm, ofm, rfl, hb_⟩ := RdL.ptr HM.out (by omega : 0 < nn)
    have hbkbm := Lib.hid hb_
    have hkl_ : 0 < ms.length := by rw [HM.out.len]; exact hnp_
    obtain ⟨y_, hx_⟩ : ∃ x, ms[0]? = some x := ⟨ms[0], List.getElem?_eq_getElem hkl_⟩
    obtain ⟨ys, yf, yu⟩ := y_
    have HRy : Hid (Row w bm (ofm + 0 * 3) [.int .i64 ys, .int .i64 yf, .int .i64 yu]) := hb_.row hx_
    have HEy := Lib.hid hx_
    have hly := hkl_
    clear hx_ hb_ hkl_
    by_cases c2_ : da < yf
    ·
     have c2 : decide (da < yf) = true := decide_eq_true (by omega)
     have c2i : da < yf := by omega
     have HR_ := Lib.hid (betw_4 HCE.out c1i (.inr (.inl (by rw [getD_of HEy.out]; exact c2i))))
     refine cj3 (J1 M).1.d3 fun aa ab ad => ?_
     refine cj16 (M.out.1).c8 fun ae af ag ah ai aj ak al ao ap au av aw ax ay az => ?_
     refine cj3 (HRy.out.keep (J2 M)).c3 fun r0_0 r0_1 r0_2 => ?_
     go_wp2_with fail
     clear aa ab ad ae af ag ah ai aj ak al ao ap au av aw ax ay az r0_0 r0_1 r0_2
     have hz : w.heap.size ≤ w.heap.size + 1 := by omega
     refine st8W (.int .i64 0) (.slice none 0 0) (.int .i64 0) (.slice none 0 0) (.int .i64 0) (.slice none 0 0) (.int .i64 0) (.slice none 0 0) (M.out.1) (J2 M) hz fun w3 hv og hk hbw => ?_
     rw [← hv]
     replace M := Lib.hid (aI hk (aI ((J1 M).1.only og (by omega)) hbw))
     clear hk hbw og hv hz
     obtain ⟨rfl, rfl, rfl⟩ := b_end HE.out HLO.out HHI.out HR_.out
     refine bodyPost_ret (results_box2 rfl _ _ (w.heap.size + 1) 40 _ _ _ rfl (M.out.1) Try.underlying40 rfl (by kernel_rfl)) rfl ?_
     exact ⟨_, _, _, _, _, _, _, _, rfl, oq_none _ _ _ _ _, oq_none _ _ _ _ _, Oz.none_, Oz.none_, (J2 M)⟩
    ·
     have c2 : decide (da < yf) = false := decide_eq_false (by omega)
     have c2i : ¬ da < yf := by omega
     have hix0 : (0 : Int) ≤ (nn : Int) - 1 := by omega
     have hix1 : (nn : Int) - 1 < (nn : Int) := by omega
     have hix2 : ((nn : Int) - 1).toNat = nn - 1 := by omega
     have hix3 : IntKind.i64.wrap ((nn : Int) - 1) = (nn : Int) - 1 := by rw [IntKind.wrap_i64]; omega
     have hix4 : (1 : Int) ≤ (nn : Int) := by omega
     have hb_ := hbkbm.out
     have hkl_ : (nn - 1) < ms.length := by rw [HM.out.len]; omega
     obtain ⟨v_, hx_⟩ : ∃ x, ms[(nn - 1)]? = some x := ⟨ms[(nn - 1)], List.getElem?_eq_getElem hkl_⟩
     obtain ⟨vs, vf, vu⟩ := v_
     have HRv : Hid (Row w bm (ofm + (nn - 1) * 3) [.int .i64 vs, .int .i64 vf, .int .i64 vu]) := hb_.row hx_
     have HEv := Lib.hid hx_
     have hlv := hkl_
     clear hx_ hb_ hkl_
     by_cases c3_ : vu < db
     ·
      have c3 : decide (vu < db) = true := decide_eq_true (by omega)
      have c3i : vu < db := by omega
      have HR_ := Lib.hid (betw_4 HCE.out c1i (.inr (.inr (by rw [HM.out.len, getD_of HEv.out]; exact c3i))))
      refine cj3 (J1 M).1.d3 fun aa ab ad => ?_
      refine cj16 (M.out.1).c8 fun ae af ag ah ai aj ak al ao ap au av aw ax ay az => ?_
      refine cj3 (HRy.out.keep (J2 M)).c3 fun r0_0 r0_1 r0_2 => ?_
      refine cj3 (HRv.out.keep (J2 M)).c3 fun r1_0 r1_1 r1_2 => ?_
      go_wp2_with fail
      clear aa ab ad ae af ag ah ai aj ak al ao ap au av aw ax ay az r0_0 r0_1 r0_2 r1_0 r1_1 r1_2
      have hz : w.heap.size ≤ w.heap.size + 1 := by omega
      refine st8W (.int .i64 0) (.slice none 0 0) (.int .i64 0) (.slice none 0 0) (.int .i64 0) (.slice none 0 0) (.int .i64 0) (.slice none 0 0) (M.out.1) (J2 M) hz fun w3 hv og hk hbw => ?_
      rw [← hv]
      replace M := Lib.hid (aI hk (aI ((J1 M).1.only og (by omega)) hbw))
      clear hk hbw og hv hz
      obtain ⟨rfl, rfl, rfl⟩ := b_end HE.out HLO.out HHI.out HR_.out
      refine bodyPost_ret (results_box2 rfl _ _ (w.heap.size + 1) 40 _ _ _ rfl (M.out.1) Try.underlying40 rfl (by kernel_rfl)) rfl ?_
      exact ⟨_, _, _, _, _, _, _, _, rfl, oq_none _ _ _ _ _, oq_none _ _ _ _ _, Oz.none_, Oz.none_, (J2 M)⟩
     ·
      have c3 : decide (vu < db) = false := decide_eq_false (by omega)
      have c3i : ¬ vu < db := by omega
      have HDO : Hid (DaysOk ms da db) := ⟨by omega, by have := HM.out.len; omega, by rw [getD_of HEy.out]; exact Int.not_lt.1 c2i, by rw [HM.out.len, getD_of HEv.out]; exact Int.not_lt.1 c3i⟩
      refine cj3 (J1 M).1.d3 fun aa ab ad => ?_
      refine cj3 (HRy.out.keep (J2 M)).c3 fun r0_0 r0_1 r0_2 => ?_
      refine cj3 (HRv.out.keep (J2 M)).c3 fun r1_0 r1_1 r1_2 => ?_
      go_wp2_with fail
      clear aa ab ad r0_0 r0_1 r0_2 r1_0 r1_1 r1_2
      refine nmW (α := Rat) ((0 : Int) : Rat) fun q5 eq5 => ?_
      refine (fqInt (G := G) (x := 0) (by decide)).mono ?_
      rintro e w3 ⟨x_1, x_2, x_3, x_4, rfl, hd6, hb⟩
      rw [← eq5] at hd6
      have Sq5 : Hid (Fz q5 4) := by show Fz q5 4; rw [eq5]; exact (Fz.int64 (by decide))
      have Eq5 := Lib.hid eq5; clear eq5
      replace M := adM hd6 hb M
      clear hb hd6
      go_wp2_with fail
      refine (spPoint_q (G := G) (q := q5) (Nat.le_trans hG (J3 M).size) (M.out.1) (Fz.mono Sq5.out (by omega))).mono ?_
      rintro e w4 ⟨x_7, x_8, x_9, x_10, x_11, x_12, x_13, x_14, rfl, hd15, hd16, hb⟩
      replace M := ad2M hd15 hd16 hb M
      clear hb hd15 hd16
      refine cj4 (TQ.st (M.out.1)) fun ba bb bc bd => ?_
      refine cj4 (TQ.st (J1 M).1) fun bf bg bh bi => ?_
      go_upto_region 10 with fail
      clear ba bb bc bd bf bg bh bi
      refine nmW (w4.alloc (.cells #[x_7, x_8, x_9, x_10, x_11, x_12, x_13, x_14] 40)) fun w5 hv => ?_
      rw [← hv]
      have ow2_ : w.heap.size + 1 < w4.heap.size := ((J3 M).1).lt
      replace M := alM hv M
      clear hv
      refine cj3 (J5 M).1.d3 fun aa ab ad => ?_
      go_wp2_with fail
      clear aa ab ad
      refine (ctMarks (G := G) (nm := nm) (Nat.le_trans hG (J6 M).size) (HM.out.keep (J6 M)) (HR.out.keep (J6 M)) (HC.out.keep (J6 M)) (HQ.out.keep (J6 M)) (by omega) (by omega) (by omega) (by omega) (by omega) HFM.out).mono ?_
      rintro e w6 ⟨a_17, L_18, rfl, hd19, hu20, hu21, hb⟩
      replace M := adM hd19 hb M
      clear hb hd19
      replace hu20 := Lib.hid hu20
      replace hu21 := Lib.hid hu21
      go_wp2_with fail
      replace M := Lib.hid (aI (M.out.1) (aI (J1 M).1 (aI (J2 M).1 (aI (J3 M).1 (aI (J5 M).1 (aI (J6 M).1 (J7 M)))))))
      go_loopw [68] (fun i68 wr => ∃ (k : Nat) (sl : Rat) (sh : Rat) (g0 : Value) (g1 : Value) (g2 : Value) (g3 : Value) (g4 : Value) (g5 : Value) (g6 : Value) (g7 : Value), i68 = .int .i64 (k : Int) ∧ Hid (k ≤ nn) ∧ Hid (btw (pieceM (ivOf cs rr) ms rs da db) k = some (sl, sh)) ∧ Hid (Fz sl (10 + 131 * k)) ∧ Hid (Fz sh (10 + 131 * k)) ∧ Hid (sl ≤ sh) ∧ Hid (Bx wr w4.heap.size 40 #[g0, g1, g2, g3, g4, g5, g6, g7] ∧ FQ G wr g0 g1 g2 g3 sl ∧ FQ G wr g4 g5 g6 g7 sh ∧ RdH G wr a_17 nn nn L_18 ∧ Bx wr (w.heap.size + 1) 40 #[.int .i64 0, .slice none 0 0, .int .i64 0, .slice none 0 0, .int .i64 0, .slice none 0 0, .int .i64 0, .slice none 0 0] ∧ Bx wr w.heap.size 25 #[.string nm, .slice (some ⟨bm, ofm, none⟩) nn cm, .slice ar nr cr] ∧ Below w.heap.size w wr)) (fun i68 _ => nn - (RowKit.intOf i68).toNat)
      case atStart =>
       exact ⟨0, q5, q5, x_7, x_8, x_9, x_10, x_11, x_12, x_13, x_14, rfl, (by show _ ≤ _; omega), (Lib.hid (by rw [Eq5.out]; rfl)), (Lib.hid (Fz.mono Sq5.out (by omega))), (Lib.hid (Fz.mono Sq5.out (by omega))), (Lib.hid (by show _ ≤ _; exact Rat.le_refl)), Lib.hid (aI (J1 M).1 (aI (J2 M).1 (aI (J3 M).1 (aI (M.out.1) (aI (J4 M).1 (aI (J5 M).1 (J6 M)))))))⟩
      case round =>
       obtain ⟨w7, rfl⟩ : ∃ x, x = wr := ⟨_, rfl⟩
       clear M
       obtain ⟨k, sl, sh, g0, g1, g2, g3, g4, g5, g6, g7, rfl, hk, HBT, HSl, HSh, HOr, M⟩ := hrel
       have hk := hk.out
       by_cases hlt : k < nn
       ·
        have e5_0 : decide (k < nn) = true := decide_eq_true (by omega)
        have e5_1 : decide ((k : Int) < (nn : Int)) = true := decide_eq_true (by omega)
        have e5_i : (k : Int) < (nn : Int) := by omega
        obtain ⟨bx, offx, rfl, -⟩ := RdL.ptr (J3 M).1 (by omega : 0 < nn)
        have hkl_ : k < L_18.length := by rw [(J3 M).1.len]; omega
        obtain ⟨x_, hx_⟩ : ∃ x, L_18[k]? = some x := ⟨L_18[k], List.getElem?_eq_getElem hkl_⟩
        obtain ⟨xa, xn, xc, xl⟩ := x_
        have HEx := Lib.hid hx_
        have HZx : Hid (MkZ xl 60) := hu21.out _ (List.mem_of_getElem? hx_)
        have hnx : xn ≤ 1000 := by have h_ := (lenL_of hu20.out (by have := HR.out.len; omega)) _ (List.mem_of_getElem? hx_); have h2_ : xl.length = xn := (RdL.oksC (J3 M).1 _ (List.mem_of_getElem? hx_) : RdM G w7 xa xn xc xl).len; simp only at h_; omega
        clear hx_ hkl_
        have hb_ := hbkbm.out
        have hkl_ : k < ms.length := by rw [HM.out.len]; exact hlt
        obtain ⟨z_, hx_⟩ : ∃ x, ms[k]? = some x := ⟨ms[k], List.getElem?_eq_getElem hkl_⟩
        obtain ⟨zs, zf, zu⟩ := z_
        have HRz : Hid (Row w bm (ofm + k * 3) [.int .i64 zs, .int .i64 zf, .int .i64 zu]) := hb_.row hx_
        have HEz := Lib.hid hx_
        have hlz := hkl_
        clear hx_ hb_ hkl_
        obtain ⟨fa, hfa_⟩ : ∃ x, max da zf = x := ⟨_, rfl⟩
        obtain ⟨fb, hfb_⟩ : ∃ x, min db zu = x := ⟨_, rfl⟩
        have HPI := Lib.hid (piece_at (a := da) (b := db) hu20.out HEx.out HEz.out hfa_ hfb_)
        by_cases c6_ : fb ≤ fa
        ·
         have c6 : decide (fb ≤ fa) = true := decide_eq_true (by omega)
         have c6i : fb ≤ fa := by omega
         have HB2 := Lib.hid (btw_skip HBT.out HPI.out c6i)
         have yr2 := (show Row w7 bx (offx + k) [.slice xa xn xc] from (RdH.row_ (J3 M).1 HEx.out)).c1; have r2_0 := yr2; clear yr2
         go_wp2_with fail
         clear r2_0
         refine nmW w7.drew fun w8 hv => ?_
         replace M := drM hv M
         refine wp_region_held_drew (S := (fun w' => w'.cell? ⟨w.heap.size, 0, none⟩ = some (.string nm) ∧ w'.cell? ⟨w.heap.size, 1, none⟩ = some (.slice (some ⟨bm, ofm, none⟩) nn cm) ∧ w'.cell? ⟨w.heap.size, 2, none⟩ = some (.slice ar nr cr) ∧ w'.cell? ⟨bm, ofm + k * 3, none⟩ = some (.int .i64 zs) ∧ w'.cell? ⟨bm, ofm + k * 3 + 1, none⟩ = some (.int .i64 zf) ∧ w'.cell? ⟨bm, ofm + k * 3 + 2, none⟩ = some (.int .i64 zu))) (by kernel_rfl) (by rw [← hv]; exact ((J5 M).1.t3 ((HRz.out.keep (J6 M)).c3))) (fun hH22 => ?_)
         rw [← hv] at hH22 ⊢
         clear hv
         refine tk at0 ?_
         refine tk at1 ?_
         refine tk at2 ?_
         refine tk at3 ?_
         refine tk at4 ?_
         refine tk at5 ?_
         refine tk at6 ?_
         refine tk at7 ?_
         refine tk at8 ?_
         refine tk at9 ?_
         refine tk at10 ?_
         refine tk at11 ?_
         refine tk at12 ?_
         refine tk at13 ?_
         refine tk at14 ?_
         refine tk at15 ?_
         refine tk at16 ?_
         refine tk at17 ?_
         refine wpAnyH_done (by kernel_rfl) ?_ _
         clear hH22
         go_wp2_with fail
         go_roundw
         case rel => exact ⟨(k + 1), sl, sh, g0, g1, g2, g3, g4, g5, g6, g7, by go_num, (by show _ ≤ _; omega), HB2, (Lib.hid (HSl.out.mono (by omega))), (Lib.hid (HSh.out.mono (by omega))), HOr, Lib.hid (aI (M.out.1) (aI (J1 M).1 (aI (J2 M).1 (aI (J3 M).1 (aI (J4 M).1 (aI (J5 M).1 (J6 M)))))))⟩
         case measure => simp [RowKit.intOf] <;> omega
        ·
         have c6 : decide (fb ≤ fa) = false := decide_eq_false (by omega)
         have c6i : ¬ fb ≤ fa := by omega
         rcases ho_ : cntHi (xl.map MkC.mk') fa fb with _ | hi_
         ·
          have HO := Lib.hid ho_
          have HR_ : Hid (betw (ivOf cs rr) nb big ms rs da db = (17, none)) := betw_r HCE.out HDO.out (btw_free (by have := HM.out.len; omega) HPI.out c6i ho_) rfl
          clear ho_
          have yr2 := (show Row w7 bx (offx + k) [.slice xa xn xc] from (RdH.row_ (J3 M).1 HEx.out)).c1; have r2_0 := yr2; clear yr2
          go_wp2_with fail
          clear r2_0
          refine nmW w7.drew fun w8 hv => ?_
          replace M := drM hv M
          refine wp_region_held_drew (S := (fun w' => w'.cell? ⟨w.heap.size, 0, none⟩ = some (.string nm) ∧ w'.cell? ⟨w.heap.size, 1, none⟩ = some (.slice (some ⟨bm, ofm, none⟩) nn cm) ∧ w'.cell? ⟨w.heap.size, 2, none⟩ = some (.slice ar nr cr) ∧ w'.cell? ⟨bm, ofm + k * 3, none⟩ = some (.int .i64 zs) ∧ w'.cell? ⟨bm, ofm + k * 3 + 1, none⟩ = some (.int .i64 zf) ∧ w'.cell? ⟨bm, ofm + k * 3 + 2, none⟩ = some (.int .i64 zu))) (by kernel_rfl) (by rw [← hv]; exact ((J5 M).1.t3 ((HRz.out.keep (J6 M)).c3))) (fun hH23 => ?_)
          rw [← hv] at hH23 ⊢
          clear hv
          refine tk at0 ?_
          refine tk at1 ?_
          refine tk at2 ?_
          refine tk at3 ?_
          refine tk at4 ?_
          refine tk at5 ?_
          refine tk at6 ?_
          refine tk at7 ?_
          refine tk at8 ?_
          refine tk at9 ?_
          refine tk at10 ?_
          refine tk at11 ?_
          refine tk at12 ?_
          refine tk at13 ?_
          refine tk at14 ?_
          refine tk at15 ?_
          refine tk at16 ?_
          refine tk at17 ?_
          refine wpAnyH_done (by kernel_rfl) ?_ _
          clear hH23
          go_wp2_with fail
          refine (ctCounted (G := G) (da := fa) (db := fb) (lo := (cntLo (xl.map MkC.mk') fa fb)) (hi := none) (b_ := false) (Nat.le_trans hG (J6 M).size) (show RdM G w8 xa xn xc xl from (RdL.oksC (J3 M).1 _ (List.mem_of_getElem? HEx.out))) (by omega) HZx.out rfl HO.out rfl).mono ?_
          rintro e w9 ⟨x_24, x_25, x_26, x_27, x_28, x_29, x_30, x_31, rfl, hd32, hd33, hb⟩
          replace M := ad2M hd32 hd33 hb M
          clear hb hd32 hd33
          refine cj4 (TQ.st (M.out.1)) fun bj bk bl bn => ?_
          refine cj4 (TQ.st (J1 M).1) fun bo bp bq br => ?_
          go_upto_region 16 with fail
          clear bj bk bl bn bo bp bq br
          refine nmW (w9.alloc (.cells #[x_24, x_25, x_26, x_27, x_28, x_29, x_30, x_31] 40)) fun w10 hv => ?_
          rw [← hv]
          have ow3_ : w4.heap.size < w9.heap.size := ((J2 M).1).lt
          replace M := alM hv M
          clear hv
          refine cj16 (J7 M).1.c8 fun ae af ag ah ai aj ak al ao ap au av aw ax ay az => ?_
          go_wp2_with fail
          clear ae af ag ah ai aj ak al ao ap au av aw ax ay az
          have hz : w.heap.size ≤ w.heap.size + 1 := by omega
          refine st8W (.int .i64 0) (.slice none 0 0) (.int .i64 0) (.slice none 0 0) (.int .i64 0) (.slice none 0 0) (.int .i64 0) (.slice none 0 0) (J7 M).1 (J9 M) hz fun w11 hv og hk hbw => ?_
          rw [← hv]
          replace M := Lib.hid (aI ((M.out.1).only og (by omega)) (aI ((J1 M).1.far (J7 M).1 (by rfl) (by omega) og) (aI ((J2 M).1.far (J7 M).1 (by rfl) (by omega) og) (aI ((J3 M).1.only og (by omega)) (aI ((J4 M).1.far (J7 M).1 (by rfl) (by omega) og) (aI ((J5 M).1.far (J7 M).1 (by rfl) (by omega) og) (aI ((J6 M).1.far (J7 M).1 (by rfl) (by omega) og) (aI hk (aI ((J8 M).1.only og (by omega)) hbw)))))))))
          clear hk hbw og hv hz
          obtain ⟨rfl, rfl, rfl⟩ := b_end HE.out HLO.out HHI.out HR_.out
          refine bodyPost_ret (results_box2 rfl _ _ (w.heap.size + 1) 40 _ _ _ rfl (J7 M).1 Try.underlying40 rfl (by kernel_rfl)) rfl ?_
          exact ⟨_, _, _, _, _, _, _, _, rfl, oq_none _ _ _ _ _, oq_none _ _ _ _ _, Oz.none_, Oz.none_, (J9 M)⟩
         ·
          have HO := Lib.hid ho_
          obtain ⟨lo_, hlo_⟩ : ∃ q, cntLo (xl.map MkC.mk') fa fb = q := ⟨_, rfl⟩
          have HLo := Lib.hid hlo_
          have HB2 := Lib.hid (btw_some_ HBT.out HPI.out c6i hlo_ ho_)
          have HZl : Hid (Fz lo_ 130) := by show Fz _ _; rw [← hlo_]; exact cntLo_fz HZx.out _ _
          have HZh : Hid (Fz hi_ 130) := cntHi_fz HZx.out ho_
          have HNN : Hid (lo_ ≤ hi_) := by show _ ≤ _; rw [← hlo_]; exact cnt_at HCE.out hu20.out HEx.out (by have := HM.out.len; omega) (by omega) ho_
          clear ho_ hlo_
          have yr2 := (show Row w7 bx (offx + k) [.slice xa xn xc] from (RdH.row_ (J3 M).1 HEx.out)).c1; have r2_0 := yr2; clear yr2
          go_wp2_with fail
          clear r2_0
          refine nmW w7.drew fun w8 hv => ?_
          replace M := drM hv M
          refine wp_region_held_drew (S := (fun w' => w'.cell? ⟨w.heap.size, 0, none⟩ = some (.string nm) ∧ w'.cell? ⟨w.heap.size, 1, none⟩ = some (.slice (some ⟨bm, ofm, none⟩) nn cm) ∧ w'.cell? ⟨w.heap.size, 2, none⟩ = some (.slice ar nr cr) ∧ w'.cell? ⟨bm, ofm + k * 3, none⟩ = some (.int .i64 zs) ∧ w'.cell? ⟨bm, ofm + k * 3 + 1, none⟩ = some (.int .i64 zf) ∧ w'.cell? ⟨bm, ofm + k * 3 + 2, none⟩ = some (.int .i64 zu))) (by kernel_rfl) (by rw [← hv]; exact ((J5 M).1.t3 ((HRz.out.keep (J6 M)).c3))) (fun hH34 => ?_)
          rw [← hv] at hH34 ⊢
          clear hv
          refine tk at0 ?_
          refine tk at1 ?_
          refine tk at2 ?_
          refine tk at3 ?_
          refine tk at4 ?_
          refine tk at5 ?_
          refine tk at6 ?_
          refine tk at7 ?_
          refine tk at8 ?_
          refine tk at9 ?_
          refine tk at10 ?_
          refine tk at11 ?_
          refine tk at12 ?_
          refine tk at13 ?_
          refine tk at14 ?_
          refine tk at15 ?_
          refine tk at16 ?_
          refine tk at17 ?_
          refine wpAnyH_done (by kernel_rfl) ?_ _
          clear hH34
          go_wp2_with fail
          refine (ctCounted (G := G) (da := fa) (db := fb) (lo := lo_) (hi := (some hi_)) (b_ := true) (Nat.le_trans hG (J6 M).size) (show RdM G w8 xa xn xc xl from (RdL.oksC (J3 M).1 _ (List.mem_of_getElem? HEx.out))) (by omega) HZx.out HLo.out HO.out rfl).mono ?_
          rintro e w9 ⟨x_35, x_36, x_37, x_38, x_39, x_40, x_41, x_42, rfl, hd43, hd44, hb⟩
          replace M := ad2M hd43 hd44 hb M
          clear hb hd43 hd44
          refine cj4 (TQ.st (M.out.1)) fun bs bt bu bv => ?_
          refine cj4 (TQ.st (J1 M).1) fun bw bz ca cb => ?_
          go_upto_region 16 with fail
          clear bs bt bu bv bw bz ca cb
          refine nmW (w9.alloc (.cells #[x_35, x_36, x_37, x_38, x_39, x_40, x_41, x_42] 40)) fun w10 hv => ?_
          rw [← hv]
          have ow3_ : w4.heap.size < w9.heap.size := ((J2 M).1).lt
          replace M := alM hv M
          clear hv
          refine cj8 (J3 M).1.d8 fun cd cf cg ch ci cj ck cl => ?_
          refine cj8 (M.out.1).d8 fun cn co cp ct cu cv cw cx => ?_
          go_wp2_with fail
          clear cd cf cg ch ci cj ck cl cn co cp ct cu cv cw cx
          refine nmW (α := Rat) (sl + lo_) fun q53 eq53 => ?_
          refine nmW (α := Rat) (sh + hi_) fun q54 eq54 => ?_
          refine (spAdd_q (G := G) (p := sl) (q := sh) (r := lo_) (s := hi_) (Nat.le_trans hG (J9 M).size) (J4 M).1 (J5 M).1 (J1 M).1 (J2 M).1 (Fz.mono (show Fz sl 131010 from HSl.out.mono (by omega)) (by omega)) (Fz.mono (show Fz sh 131010 from HSh.out.mono (by omega)) (by omega)) (Fz.mono HZl.out (by omega)) (Fz.mono HZh.out (by omega)) HOr.out HNN.out).mono ?_
          rintro e w11 ⟨x_45, x_46, x_47, x_48, x_49, x_50, x_51, x_52, rfl, hd55, hd56, hb⟩
          rw [← eq53] at hd55
          have Sq53 : Hid (Fz q53 131141) := by show Fz q53 131141; rw [eq53]; exact (Fz.add (show Fz sl 131010 from HSl.out.mono (by omega)) HZl.out)
          have Eq53 := Lib.hid eq53; clear eq53
          rw [← eq54] at hd56
          have Sq54 : Hid (Fz q54 131141) := by show Fz q54 131141; rw [eq54]; exact (Fz.add (show Fz sh 131010 from HSh.out.mono (by omega)) HZh.out)
          have Eq54 := Lib.hid eq54; clear eq54
          replace M := ad2M hd55 hd56 hb M
          clear hb hd55 hd56
          refine cj16 (J5 M).1.c8 fun cd cy cf cz cg dc ch dd ci de cj df ck dg cl dh => ?_
          refine cj4 (TQ.st (M.out.1)) fun di dj dk dl => ?_
          refine cj4 (TQ.st (J1 M).1) fun dm dn dp dq => ?_
          go_upto_region 19 with fail
          clear cd cy cf cz cg dc ch dd ci de cj df ck dg cl dh di dj dk dl dm dn dp dq
          have hz : w.heap.size ≤ w4.heap.size := by omega
          refine st8W (x_45) (x_46) (x_47) (x_48) (x_49) (x_50) (x_51) (x_52) (J5 M).1 (J11 M) hz fun w12 hv og hk hbw => ?_
          rw [← hv]
          replace M := Lib.hid (aI ((M.out.1).far (J5 M).1 (by rfl) (by omega) og) (aI ((J1 M).1.far (J5 M).1 (by rfl) (by omega) og) (aI ((J2 M).1.only og (by omega)) (aI ((J3 M).1.far (J5 M).1 (by rfl) (by omega) og) (aI ((J4 M).1.far (J5 M).1 (by rfl) (by omega) og) (aI hk (aI ((J6 M).1.far (J5 M).1 (by rfl) (by omega) og) (aI ((J7 M).1.far (J5 M).1 (by rfl) (by omega) og) (aI ((J8 M).1.far (J5 M).1 (by rfl) (by omega) og) (aI ((J9 M).1.only og (by omega)) (aI ((J10 M).1.only og (by omega)) hbw)))))))))))
          clear hk hbw og hv hz
          go_wp2_with fail
          go_roundw
          case rel => exact ⟨(k + 1), q53, q54, x_45, x_46, x_47, x_48, x_49, x_50, x_51, x_52, by go_num, (by show _ ≤ _; omega), (Lib.hid (by rw [Eq53.out, Eq54.out]; exact HB2.out)), (Lib.hid (by rw [Eq53.out]; exact (Fz.add HSl.out HZl.out).mono (by omega))), (Lib.hid (by rw [Eq54.out]; exact (Fz.add HSh.out HZh.out).mono (by omega))), (Lib.hid (by rw [Eq53.out, Eq54.out]; exact q_add_le HOr.out HNN.out)), Lib.hid (aI (J5 M).1 (aI (M.out.1) (aI (J1 M).1 (aI (J8 M).1 (aI (J9 M).1 (aI (J10 M).1 (J11 M)))))))⟩
          case measure => simp [RowKit.intOf] <;> omega
       ·
        have e5_0 : decide (k < nn) = false := decide_eq_false (by omega)
        have e5_1 : decide ((k : Int) < (nn : Int)) = false := decide_eq_false (by omega)
        have e5_i : ¬ (k : Int) < (nn : Int) := by omega
        have HR_ : Hid (betw (ivOf cs rr) nb big ms rs da db = (0, some (sl, sh))) := betw_r HCE.out HDO.out (show btw (pieceM (ivOf cs rr) ms rs da db) ms.length = some (sl, sh) from by rw [HM.out.len, show nn = k by omega]; exact HBT.out) rfl
        refine cj8 (M.out.1).d8 fun cd cf cg ch ci cj ck cl => ?_
        refine cj16 (J4 M).1.c8 fun ae af ag ah ai aj ak al ao ap au av aw ax ay az => ?_
        refine cj4 (TQ.st (J1 M).1) fun dr ds dt du => ?_
        refine cj4 (TQ.st (J2 M).1) fun dv dw dx dy => ?_
        go_wp2_with fail
        clear cd cf cg ch ci cj ck cl ae af ag ah ai aj ak al ao ap au av aw ax ay az dr ds dt du dv dw dx dy
        have hz : w.heap.size ≤ w.heap.size + 1 := by omega
        refine st8W (g0) (g1) (g2) (g3) (g4) (g5) (g6) (g7) (J4 M).1 (J6 M) hz fun w8 hv og hk hbw => ?_
        rw [← hv]
        replace M := Lib.hid (aI ((M.out.1).only og (by omega)) (aI ((J1 M).1.far (J4 M).1 (by rfl) (by omega) og) (aI ((J2 M).1.far (J4 M).1 (by rfl) (by omega) og) (aI ((J3 M).1.far (J4 M).1 (by rfl) (by omega) og) (aI hk (aI ((J5 M).1.only og (by omega)) hbw))))))
        clear hk hbw og hv hz
        obtain ⟨rfl, rfl, rfl⟩ := b_end HE.out HLO.out HHI.out HR_.out
        refine bodyPost_ret (results_box2 rfl _ _ (w.heap.size + 1) 40 _ _ _ rfl (J4 M).1 Try.underlying40 rfl (by kernel_rfl)) rfl ?_
        exact ⟨g0, g1, g2, g3, g4, g5, g6, g7, rfl, (J1 M).1, (J2 M).1, HSl.out.mono (by omega), HSh.out.mono (by omega), (J6 M)⟩
 ·
  have em1_ : (ce == 0) = false := beq_false_of_ne hem_
  have em2_ : (ce != 0) = true := bne_iff_ne.2 hem_
  have em3_ : ¬ ce = 0 := hem_
  have HR_ := Lib.hid (betw_c (a := da) (b := db) HCE.out em3_)
  refine cj16 (M.out.1).c8 fun ae af ag ah ai aj ak al ao ap au av aw ax ay az => ?_
  go_wp2_with fail
  clear ae af ag ah ai aj ak al ao ap au av aw ax ay az
  have hz : w.heap.size ≤ w.heap.size + 1 := by omega
  refine st8W (.int .i64 0) (.slice none 0 0) (.int .i64 0) (.slice none 0 0) (.int .i64 0) (.slice none 0 0) (.int .i64 0) (.slice none 0 0) (M.out.1) (J2 M) hz fun w3 hv og hk hbw => ?_
  rw [← hv]
  replace M := Lib.hid (aI hk (aI ((J1 M).1.only og (by omega)) hbw))
  clear hk hbw og hv hz
  obtain ⟨rfl, rfl, rfl⟩ := b_end HE.out HLO.out HHI.out HR_.out
  refine bodyPost_ret (results_box2 rfl _ _ (w.heap.size + 1) 40 _ _ _ rfl (M.out.1) Try.underlying40 rfl (by kernel_rfl)) rfl ?_
  exact ⟨_, _, _, _, _, _, _, _, rfl, oq_none _ _ _ _ _, oq_none _ _ _ _ _, Oz.none_, Oz.none_, (J2 M)⟩
end Go.Proofs.Ytlcgckelamhnpaa
namespace Go.Proofs.Ytlcgckelamhnpaa
open Go.RowKit Go.Lib
variable {G : Nat}

abbrev CtS (w : World) (a : Option Addr) (n c : Nat) (cs : List Ct) : Prop := CtIn w (.slice a n c) cs
abbrev RcS (w : World) (a : Option Addr) (n c : Nat) (rr : List Rc) : Prop := RcIn w (.slice a n c) rr
theorem CtS.len {w : World} {a : Option Addr} {n c : Nat} {cs : List Ct} (h : CtS w a n c cs) : n = cs.length := by
 obtain ⟨a', c', h1⟩ := CtIn.shape h; cases h1; rfl
theorem RcS.len {w : World} {a : Option Addr} {n c : Nat} {rr : List Rc} (h : RcS w a n c rr) : n = rr.length := by
 obtain ⟨a', c', h1, -⟩ := h; cases h1; rfl
instance : El Ct where
 cells x := cCells x
 sz := 6
 T := 94
 deep := []
 ok _ _ _ := True
 len := fun _ => rfl
 one := by
  rintro G w x - u hu
  simp [cCells] at hu; rcases hu with rfl | rfl | rfl | rfl | rfl | rfl <;> rfl
 keep := fun _ _ => trivial
 far := fun _ _ _ _ _ => trivial
abbrev RdCt (G : Nat) (w : World) (a : Option Addr) (n c : Nat) (l : List Ct) : Prop := RdL G w a n c l
theorem CtS.of {w : World} {a : Option Addr} {n c : Nat} {l : List Ct} (h : RdCt G w a n c l) : CtS w a n c l := by
 refine ⟨a, c, by rw [h.len], fun k hk => ?_⟩
 obtain ⟨b, off, rfl, hb⟩ := RdL.ptr h (by have := h.len; omega)
 have hx : l[k]? = some l[k] := List.getElem?_eq_getElem hk
 have h2 := hb.row hx
 refine ⟨b, off, rfl, h2.1, fun j u hu => ?_⟩
 simp only [hx, Option.map_some, Option.getD_some] at hu
 exact h2.2 j u hu
theorem ctCheck_l {nm : ByteArray} {am ar ac aq : Option Addr} {nn cm nr cr kc cc kq cq : Nat} {ms : List Mt} {rs : List Rg} {cs : List Ct} {rr : List Rc} {nb big : Bool} {er : Int} {w : World} (hG : G ≤ w.heap.size) (hm : RdMt G w am nn cm ms) (hr : RdRg G w ar nr cr rs) (hc : CtS w ac kc cc cs) (hq : RcS w aq kq cq rr) (hsz : nm.size ≤ 1000) (hnn : nn ≤ 1000) (hnr : nr ≤ 1000) (hcl : kc ≤ 1000) (hrl : kq ≤ 1000) (hnb : nameOk nm.data.toList = nb) (hbg : bigB ms rs cs.length rr.length = big) (he : checkE (ivOf cs rr) nb big ms rs = er) :
  Calls Try.prog 10 #[.agg #[.string nm, .slice am nn cm, .slice ar nr cr], .slice ac kc cc, .slice aq kq cq] w fun e w' => e = .returned (.int .i64 er) ∧ Below w.heap.size w w' := by
 have h1 := hc.len
 have h2 := hq.len
 subst h1 h2
 exact ctCheck hG hm hr hc hq hsz hnn hnr hcl hrl hnb hbg he
theorem ctBetween_l {nm : ByteArray} {am ar ac aq : Option Addr} {nn cm nr cr kc cc kq cq : Nat} {ms : List Mt} {rs : List Rg} {cs : List Ct} {rr : List Rc} {nb big : Bool} {da db er : Int} {o : Option (Rat × Rat)} {ol oh : Option Rat} {w : World} (hG : G ≤ w.heap.size) (hm : RdMt G w am nn cm ms) (hr : RdRg G w ar nr cr rs) (hc : CtS w ac kc cc cs) (hq : RcS w aq kq cq rr) (hsz : nm.size ≤ 1000) (hnn : nn ≤ 1000) (hnr : nr ≤ 1000) (hcl : kc ≤ 1000) (hrl : kq ≤ 1000) (hnb : nameOk nm.data.toList = nb) (hbg : bigB ms rs cs.length rr.length = big) (he : betw (ivOf cs rr) nb big ms rs da db = (er, o)) (hl : o.map Prod.fst = ol) (hh : o.map Prod.snd = oh) :
  Calls Try.prog 9 #[.agg #[.string nm, .slice am nn cm, .slice ar nr cr], .slice ac kc cc, .slice aq kq cq, .int .i64 da, .int .i64 db] w fun e w' => ∃ x0 x1 x2 x3 x4 x5 x6 x7, e = .returned (.tuple #[.agg #[x0, x1, x2, x3, x4, x5, x6, x7], .int .i64 er]) ∧ OQ G w' x0 x1 x2 x3 ol ∧ OQ G w' x4 x5 x6 x7 oh ∧ Oz ol 200000 ∧ Oz oh 200000 ∧ Below w.heap.size w w' := by
 have h1 := hc.len
 have h2 := hq.len
 subst h1 h2
 exact ctBetween hG hm hr hc hq hsz hnn hnr hcl hrl hnb hbg he hl hh
def exNm : ByteArray := ⟨#[109, 97, 105, 110]⟩
theorem rdct_one {w : World} {A : Nat} {s f u n p d : Int} (h : Bx w A 94 #[.int .i64 s, .int .i64 f, .int .i64 u, .int .i64 n, .int .i64 p, .int .i64 d]) (hG : G ≤ A) : RdCt G w (some ⟨A, 0, none⟩) 1 1 [⟨s, f, u, n, p, d⟩] :=
 RdL.of (OwB.new (α := Ct) (B := A) h rfl hG (Nat.le_refl _) (fun _ _ => trivial)).rd rfl (by omega)
def exM : List Mt := [⟨0, 0, 10⟩]
def exR (c : Int) : List Rg := [⟨0, 2, 100⟩, ⟨0, 8, c⟩]
def exC : List Ct := [⟨0, 0, 20, 2, 0, 0⟩]
def exM2 : List Mt := [⟨0, 0, 10⟩, ⟨1, 10, 20⟩]
def exR2 : List Rg := [⟨0, 2, 100⟩, ⟨0, 8, 130⟩, ⟨1, 12, 7⟩]
theorem exNb : nameOk exNm.data.toList = true := by decide +kernel
theorem exBg : bigB exM (exR 130) exC.length ([] : List Rc).length = false := by decide +kernel
theorem exBg95 : bigB exM (exR 95) exC.length ([] : List Rc).length = false := by decide +kernel
theorem exBg2 : bigB exM2 exR2 exC.length ([] : List Rc).length = false := by decide +kernel
theorem exB28 : betw (ivOf exC []) true false exM (exR 130) 2 8 = (0, some (26, 34)) := by decide +kernel
theorem exB02 : betw (ivOf exC []) true false exM (exR 130) 0 2 = (0, some (0, 102)) := by decide +kernel
theorem exB35 : betw (ivOf exC []) true false exM (exR 130) 3 5 = (0, some (0, 34)) := by decide +kernel
theorem exB29 : betw (ivOf exC []) true false exM (exR 130) 2 9 = (17, none) := by decide +kernel
theorem exB811 : betw (ivOf exC []) true false exM (exR 130) 8 11 = (4, none) := by decide +kernel
theorem exB212 : betw (ivOf exC []) true false exM2 exR2 2 12 = (17, none) := by decide +kernel
theorem exK : checkE (ivOf exC []) true false exM (exR 130) = 0 := by decide +kernel
theorem exK95 : checkE (ivOf exC []) true false exM (exR 95) = 16 := by decide +kernel
theorem exK2 : checkE (ivOf exC []) true false exM2 exR2 = 0 := by decide +kernel
set_option maxRecDepth 100000 in
set_option maxHeartbeats 4000000 in
theorem ctExample {x : Int} {w : World} (hG : G ≤ w.heap.size) :
    Calls Try.prog 28 #[.int .i64 x] w fun e w' => ∃ a1 a2 a3, e = .returned (.tuple #[.agg #[.string exNm, .slice a1 1 1, .slice a2 2 2], .slice a3 1 1]) ∧ RdMt G w' a1 1 1 exM ∧ RdRg G w' a2 2 2 (exR x) ∧ RdCt G w' a3 1 1 exC ∧ Below w.heap.size w w' := by
  have h0_ : True := trivial
  have M : Hid (Below w.heap.size w w) := Below.refl _ _
  go_enter Try.func28, Try.ntmps28
  go_upto_region 1 with fail
  refine nmW (w.alloc (.cells #[.string (⟨#[]⟩), .slice none 0 0, .slice none 0 0] 25)) fun w1 hv => ?_
  rw [← hv]
  replace M := alM hv M
  clear hv
  go_upto_region 2 with fail
  refine nmW (((w1.alloc (.cells #[.int .i64 0, .int .i64 0, .int .i64 10] 52)).alloc (.cells #[.int .i64 0, .int .i64 2, .int .i64 100, .int .i64 0, .int .i64 8, .int .i64 x] 29)).alloc (.cells #[.string ({data := #[109, 97, 105, 110]}), .slice (some ⟨w1.heap.size, 0, none⟩) 1 1, .slice (some ⟨w1.heap.size + 1, 0, none⟩) 2 2] 25)) fun w2 hv => ?_
  rw [← hv]
  have ow1_ : w.heap.size < w1.heap.size := ((M.out.1)).lt
  replace M := al3W hv M
  clear hv
  refine cj3 (M.out.1).d3 fun aa ab ac => ?_
  have z3 : w1.heap.size + 1 + 1 < w2.heap.size := (M.out.1).lt
  refine cj6 (J3 M).1.c3 fun ad ae af ag ah ai => ?_
  have z0 : w.heap.size < w2.heap.size := (J3 M).1.lt
  go_wp2_with fail
  clear aa ab ac z3 ad ae af ag ah ai z0
  have zp0_ : w.heap.size < w2.heap.size := ((J3 M).1).lt
  rw [← World.setCell_alloc_past, ← World.setCell_alloc_past, ← World.setCell_alloc_past]
  rotate_left
  · first | omega | (simp <;> omega)
  · first | omega | (simp <;> omega)
  · first | omega | (simp <;> omega)
  refine nmW (w2.alloc (.cells #[.int .i64 0, .int .i64 0, .int .i64 20, .int .i64 2, .int .i64 0, .int .i64 0] 94)) fun w3 hv => ?_
  rw [← hv]
  have ow4_ : w1.heap.size + 1 + 1 < w2.heap.size := ((M.out.1)).lt
  replace M := alM hv M
  clear hv
  have hz : w.heap.size ≤ w.heap.size := by exact Nat.le_refl _
  refine st3W (.string ({data := #[109, 97, 105, 110]})) (.slice (some ⟨w1.heap.size, 0, none⟩) 1 1) (.slice (some ⟨w1.heap.size + 1, 0, none⟩) 2 2) (J4 M).1 (J5 M) hz fun w4 hv og hk hbw => ?_
  rw [← hv]
  replace M := Lib.hid (aI ((M.out.1).only og (by omega)) (aI ((J1 M).1.only og (by omega)) (aI ((J2 M).1.only og (by omega)) (aI ((J3 M).1.only og (by omega)) (aI hk hbw)))))
  clear hk hbw og hv hz
  refine bodyPost_ret (results_box2 rfl _ _ w.heap.size 25 _ _ _ rfl (J4 M).1 Try.underlying25 rfl (by kernel_rfl)) rfl ?_
  exact ⟨_, _, _, rfl, (show RdMt G w4 (some ⟨w1.heap.size, 0, none⟩) 1 1 exM from RdL.of (OwB.new (α := Mt) (J3 M).1 rfl hG (show w.heap.size ≤ _ by omega) (fun _ _ => trivial)).rd rfl (by omega)), (show RdRg G w4 (some ⟨w1.heap.size + 1, 0, none⟩) 2 2 (exR x) from RdL.of (OwB.new (α := Rg) (J2 M).1 rfl hG (show w.heap.size ≤ _ by omega) (fun _ _ => trivial)).rd rfl (by omega)), (rdct_one (M.out.1) (by omega)), (J5 M)⟩
set_option maxRecDepth 100000 in
set_option maxHeartbeats 4000000 in
theorem ctIs {da db lo hi : Int} {w : World} (hG : G ≤ w.heap.size) (hb : betw (ivOf exC []) true false exM (exR 130) da db = (0, some ((lo : Rat), (hi : Rat)))) (hl : -9223372036854775808 ≤ lo ∧ lo ≤ 9223372036854775807) (hh : -9223372036854775808 ≤ hi ∧ hi ≤ 9223372036854775807) :
  Calls Try.prog 29 #[.int .i64 da, .int .i64 db, .int .i64 lo, .int .i64 hi] w fun e w' => e = .returned (.bool true) ∧ Below w.heap.size w w' := by
 have HB := Lib.hid hb; have HIL := Lib.hid hl; have HIH := Lib.hid hh; clear hb hl hh
 have M : Hid (Below w.heap.size w w) := Below.refl _ _
 go_enter Try.func29, Try.ntmps29
 go_wp2_with fail
 refine (ctExample (G := G) (x := 130) (Nat.le_trans hG M.out.size)).mono ?_
 rintro e w1 ⟨a_1, a_2, a_3, rfl, hd4, hd5, hd6, hb⟩
 replace M := Lib.hid (aI hd4 (aI hd5 (aI hd6 (Goes.go M.out hb))))
 clear hb hd4 hd5 hd6
 go_upto_region 2 with fail
 refine nmW (w1.alloc (.cells #[.string exNm, .slice a_1 1 1, .slice a_2 2 2] 25)) fun w2 hv => ?_
 rw [← hv]
 have ow0_ : w.heap.size ≤ w1.heap.size := ((J3 M)).size
 replace M := alM hv M
 clear hv
 refine cj3 (M.out.1).d3 fun aa ab ac => ?_
 go_wp2_with fail
 clear aa ab ac
 refine (ctBetween_l (G := G) (nm := exNm) (nb := true) (big := false) (da := da) (db := db) (er := 0) (ol := (some (lo : Rat))) (oh := (some (hi : Rat))) (Nat.le_trans hG (J4 M).size) (J1 M).1 (J2 M).1 (CtS.of (J3 M).1) (rcin_nil _ _ _) (by decide) (by decide) (by decide) (by decide) (by decide) exNb exBg HB.out rfl rfl).mono ?_
 rintro e w3 ⟨x_7, x_8, x_9, x_10, x_11, x_12, x_13, x_14, rfl, hd15, hd16, hu17, hu18, hb⟩
 replace M := ad2M hd15 hd16 hb M
 clear hb hd15 hd16
 replace hu17 := Lib.hid hu17
 replace hu18 := Lib.hid hu18
 refine cj4 (TQ.st (M.out.1)) fun ad ae af ag => ?_
 refine cj4 (TQ.st (J1 M).1) fun ah ai aj ak => ?_
 go_wp2_with fail
 clear ad ae af ag ah ai aj ak
 refine nmW (w3.alloc (.cells #[x_7, x_8, x_9, x_10, x_11, x_12, x_13, x_14] 40)) fun w4 hv => ?_
 rw [← hv]
 have ow1_ : w1.heap.size < w3.heap.size := ((J2 M).1).lt
 replace M := alM hv M
 clear hv
 refine nmW w4.drew fun w5 hv => ?_
 replace M := drM hv M
 refine wp_region_held_drew (S := (fun w' => w'.cell? ⟨w3.heap.size, 0, none⟩ = some (x_7) ∧ w'.cell? ⟨w3.heap.size, 1, none⟩ = some (x_8) ∧ w'.cell? ⟨w3.heap.size, 2, none⟩ = some (x_9) ∧ w'.cell? ⟨w3.heap.size, 3, none⟩ = some (x_10) ∧ w'.cell? ⟨w3.heap.size, 4, none⟩ = some (x_11) ∧ w'.cell? ⟨w3.heap.size, 5, none⟩ = some (x_12) ∧ w'.cell? ⟨w3.heap.size, 6, none⟩ = some (x_13) ∧ w'.cell? ⟨w3.heap.size, 7, none⟩ = some (x_14))) (by kernel_rfl) (by rw [← hv]; exact (M.out.1).d8) (fun hH31 => ?_)
 rw [← hv] at hH31 ⊢
 clear hv
 refine tk at0 ?_
 refine tk at1 ?_
 refine tk at2 ?_
 refine tk at3 ?_
 refine tk at4 ?_
 refine tk at5 ?_
 refine wpAnyH_ready (rs := [6]) (by kernel_rfl) (by simp) ?_
 refine AllReadyH.cons at6 (fun K hK => ?_) AllReadyH.nil
 go_simp
 refine nmW (α := Rat) (lo : Rat) fun q36 eq36 => ?_
 refine (fqInt (G := G) (x := lo) HIL.out).mono ?_
 rintro e w6 ⟨x_32, x_33, x_34, x_35, rfl, hd37, hb⟩
 rw [← eq36] at hd37
 have Sq36 : Hid (Fz q36 4) := by show Fz q36 4; rw [eq36]; exact (Fz.int64 HIL.out)
 have Eq36 := Lib.hid eq36; clear eq36
 replace M := adM hd37 hb M
 clear hb hd37
 (try go_wp2_with fail)
 refine hK.out _ _ ((J1 M).1.d8) (fun hH38 => ?_)
 clear hK K hH31
 (try simp only [Act.put, List.setIfInBounds_toArray, List.set_cons_zero, List.set_cons_succ])
 refine wpAnyH_ready (rs := [7]) (by kernel_rfl) (by simp) ?_
 refine AllReadyH.cons at7 (fun K hK => ?_) AllReadyH.nil
 go_simp
 refine (fqCompare (G := G) (q := (lo : Rat)) (r := q36) (k := 0) (J2 M).1 (M.out.1) (Fz.mono (Fz.int64 HIL.out) (by omega)) (Fz.mono Sq36.out (by omega)) (by rw [Eq36.out]; unfold ordQ; rw [if_neg Rat.lt_irrefl, if_neg Rat.lt_irrefl])).mono ?_
 rintro e w7 ⟨rfl, hb⟩
 replace M := gnM hb M
 clear hb
 (try go_wp2_with fail)
 refine hK.out _ _ ((J1 M).1.d8) (fun hH39 => ?_)
 clear hK K hH38
 (try simp only [Act.put, List.setIfInBounds_toArray, List.set_cons_zero, List.set_cons_succ])
 refine tk at8 ?_
 refine tk at9 ?_
 refine tk at10 ?_
 refine tk at11 ?_
 refine tk at12 ?_
 refine tk at13 ?_
 refine wpAnyH_ready (rs := [14]) (by kernel_rfl) (by simp) ?_
 refine AllReadyH.cons at14 (fun K hK => ?_) AllReadyH.nil
 go_simp
 refine nmW (α := Rat) (hi : Rat) fun q44 eq44 => ?_
 refine (fqInt (G := G) (x := hi) HIH.out).mono ?_
 rintro e w8 ⟨x_40, x_41, x_42, x_43, rfl, hd45, hb⟩
 rw [← eq44] at hd45
 have Sq44 : Hid (Fz q44 4) := by show Fz q44 4; rw [eq44]; exact (Fz.int64 HIH.out)
 have Eq44 := Lib.hid eq44; clear eq44
 replace M := adM hd45 hb M
 clear hb hd45
 (try go_wp2_with fail)
 refine hK.out _ _ ((J2 M).1.d8) (fun hH46 => ?_)
 clear hK K hH39
 (try simp only [Act.put, List.setIfInBounds_toArray, List.set_cons_zero, List.set_cons_succ])
 refine wpAnyH_ready (rs := [15]) (by kernel_rfl) (by simp) ?_
 refine AllReadyH.cons at15 (fun K hK => ?_) AllReadyH.nil
 go_simp
 refine (fqCompare (G := G) (q := (hi : Rat)) (r := q44) (k := 0) (J4 M).1 (M.out.1) (Fz.mono (Fz.int64 HIH.out) (by omega)) (Fz.mono Sq44.out (by omega)) (by rw [Eq44.out]; unfold ordQ; rw [if_neg Rat.lt_irrefl, if_neg Rat.lt_irrefl])).mono ?_
 rintro e w9 ⟨rfl, hb⟩
 replace M := gnM hb M
 clear hb
 (try go_wp2_with fail)
 refine hK.out _ _ ((J2 M).1.d8) (fun hH47 => ?_)
 clear hK K hH46
 (try simp only [Act.put, List.setIfInBounds_toArray, List.set_cons_zero, List.set_cons_succ])
 refine tk at16 ?_
 refine tk at17 ?_
 refine tk at18 ?_
 refine tk at19 ?_
 refine tk at20 ?_
 refine wpAnyH_ready (rs := [21]) (by kernel_rfl) (by simp) ?_
 refine AllReadyH.cons at21 (fun K hK => ?_) AllReadyH.nil
 go_simp
 refine (fqRight (G := G) (q := (hi : Rat)) (J4 M).1 (Fz.mono (Fz.int64 HIH.out) (by omega))).mono ?_
 rintro e w10 ⟨rfl, hb⟩
 replace M := gnM hb M
 clear hb
 (try go_wp2_with fail)
 refine hK.out _ _ ((J2 M).1.d8) (fun hH48 => ?_)
 clear hK K hH47
 (try simp only [Act.put, List.setIfInBounds_toArray, List.set_cons_zero, List.set_cons_succ])
 refine tk at22 ?_
 refine tk at23 ?_
 refine wpAnyH_done (by kernel_rfl) ?_ _
 clear hH48
 go_wp2_with fail
 go_ret
 exact ⟨by rfl, (J9 M)⟩
set_option maxRecDepth 100000 in
set_option maxHeartbeats 4000000 in
theorem ctSane {w : World} (hG : G ≤ w.heap.size) :
    Calls Try.prog 7 #[] w fun e w' => e = .returned (.bool true) ∧ Below w.heap.size w w' := by
  have h0_ : True := trivial
  have M : Hid (Below w.heap.size w w) := Below.refl _ _
  go_enter Try.func7, Try.ntmps7
  go_wp2_with fail
  refine (ctExample (G := G) (x := 130) (Nat.le_trans hG M.out.size)).mono ?_
  rintro e w1 ⟨a_1, a_2, a_3, rfl, hd4, hd5, hd6, hb⟩
  replace M := Lib.hid (aI hd4 (aI hd5 (aI hd6 (Goes.go M.out hb))))
  clear hb hd4 hd5 hd6
  go_upto_region 2 with fail
  refine nmW (w1.alloc (.cells #[.string exNm, .slice a_1 1 1, .slice a_2 2 2] 25)) fun w2 hv => ?_
  rw [← hv]
  have ow0_ : w.heap.size ≤ w1.heap.size := ((J3 M)).size
  replace M := alM hv M
  clear hv
  go_wp2_with fail
  refine (ctExample (G := G) (x := 95) (Nat.le_trans hG (J4 M).size)).mono ?_
  rintro e w3 ⟨a_7, a_8, a_9, rfl, hd10, hd11, hd12, hb⟩
  replace M := Lib.hid (aI hd10 (aI hd11 (aI hd12 (Goes.go M.out hb))))
  clear hb hd10 hd11 hd12
  go_upto_region 3 with fail
  refine nmW (w3.alloc (.cells #[.string exNm, .slice a_7 1 1, .slice a_8 2 2] 25)) fun w4 hv => ?_
  rw [← hv]
  have ow1_ : w1.heap.size < w3.heap.size := ((J3 M).1).lt
  replace M := alM hv M
  clear hv
  refine cj3 (J4 M).1.d3 fun aa ab ac => ?_
  go_wp2_with fail
  clear aa ab ac
  refine (ctBetween_l (G := G) (nm := exNm) (nb := true) (big := false) (da := 2) (db := 9) (er := 17) (ol := none) (oh := none) (Nat.le_trans hG (J8 M).size) (J5 M).1 (J6 M).1 (CtS.of (J7 M).1) (rcin_nil _ _ _) (by decide) (by decide) (by decide) (by decide) (by decide) exNb exBg exB29 rfl rfl).mono ?_
  rintro e w5 ⟨x_13, x_14, x_15, x_16, x_17, x_18, x_19, x_20, rfl, hd21, hd22, hu23, hu24, hb⟩
  replace M := ad2M hd21 hd22 hb M
  clear hb hd21 hd22
  replace hu23 := Lib.hid hu23
  replace hu24 := Lib.hid hu24
  refine cj4 (TQ.st (M.out.1)) fun ad ae af ag => ?_
  refine cj4 (TQ.st (J1 M).1) fun ah ai aj ak => ?_
  go_upto_region 4 with fail
  clear ad ae af ag ah ai aj ak
  refine nmW (w5.alloc (.cells #[x_13, x_14, x_15, x_16, x_17, x_18, x_19, x_20] 40)) fun w6 hv => ?_
  rw [← hv]
  have ow2_ : w3.heap.size < w5.heap.size := ((J2 M).1).lt
  replace M := alM hv M
  clear hv
  refine cj3 (J7 M).1.d3 fun aa ab ac => ?_
  go_wp2_with fail
  clear aa ab ac
  refine (ctBetween_l (G := G) (nm := exNm) (nb := true) (big := false) (da := 8) (db := 11) (er := 4) (ol := none) (oh := none) (Nat.le_trans hG (J11 M).size) (J8 M).1 (J9 M).1 (CtS.of (J10 M).1) (rcin_nil _ _ _) (by decide) (by decide) (by decide) (by decide) (by decide) exNb exBg exB811 rfl rfl).mono ?_
  rintro e w7 ⟨x_25, x_26, x_27, x_28, x_29, x_30, x_31, x_32, rfl, hd33, hd34, hu35, hu36, hb⟩
  replace M := ad2M hd33 hd34 hb M
  clear hb hd33 hd34
  replace hu35 := Lib.hid hu35
  replace hu36 := Lib.hid hu36
  refine cj4 (TQ.st (M.out.1)) fun al am ao ap => ?_
  refine cj4 (TQ.st (J1 M).1) fun aq ar au av => ?_
  go_upto_region 5 with fail
  clear al am ao ap aq ar au av
  refine nmW (w7.alloc (.cells #[x_25, x_26, x_27, x_28, x_29, x_30, x_31, x_32] 40)) fun w8 hv => ?_
  rw [← hv]
  have ow3_ : w5.heap.size < w7.heap.size := ((J2 M).1).lt
  replace M := alM hv M
  clear hv
  refine cj3 (J10 M).1.d3 fun aa ab ac => ?_
  have z0 : w1.heap.size < w8.heap.size := (J10 M).1.lt
  go_upto_region 6 with fail
  clear aa ab ac z0
  refine nmW (w8.alloc (.cells #[.string exNm, .slice a_1 1 1, .slice a_2 2 2] 25)) fun w9 hv => ?_
  rw [← hv]
  have ow4_ : w7.heap.size < w8.heap.size := ((M.out.1)).lt
  replace M := alM hv M
  clear hv
  refine cj6 (M.out.1).c3 fun aw ax ay az ba bb => ?_
  have z4 : w8.heap.size < w9.heap.size := (M.out.1).lt
  go_upto_region 7 with fail
  clear aw ax ay az ba bb z4
  have zp4_ : w8.heap.size < w9.heap.size := ((M.out.1)).lt
  rw [← World.setCell_alloc_past]
  rotate_left
  · first | omega | (simp <;> omega)
  refine nmW (w9.alloc (.cells #[.int .i64 0, .int .i64 0, .int .i64 10, .int .i64 1, .int .i64 10, .int .i64 20] 52)) fun w10 hv => ?_
  rw [← hv]
  have ow5_ : w7.heap.size < w9.heap.size := ((J1 M).1).lt
  replace M := alM hv M
  clear hv
  refine nmW (w10.setCell ⟨w8.heap.size, 1, none⟩ (.slice (some ⟨w9.heap.size, 0, none⟩) 2 2)) fun w11 hv => ?_
  rw [← hv]
  have og : w10.grownBy w11 (some w8.heap.size) := by rw [hv]; exact (only_setCell (World.grownBy.refl _ _) _)
  have hz : w.heap.size ≤ w8.heap.size := by omega
  have hk : Bx w11 w8.heap.size 25 #[.string exNm, .slice (some ⟨w9.heap.size, 0, none⟩) 2 2, .slice a_2 2 2] := by rw [hv]; exact ((J1 M).1.set 1 _)
  have hbw : Below w.heap.size w w11 := by rw [hv]; exact (Below.setCell (J16 M) (by omega) _)
  replace M := Lib.hid (aI ((M.out.1).only og (by omega)) (aI hk (aI ((J2 M).1.only og (by omega)) (aI ((J3 M).1.far (J1 M).1 (by rfl) (by omega) og) (aI ((J4 M).1.far (J1 M).1 (by rfl) (by omega) og) (aI ((J5 M).1.only og (by omega)) (aI ((J6 M).1.far (J1 M).1 (by rfl) (by omega) og) (aI ((J7 M).1.far (J1 M).1 (by rfl) (by omega) og) (aI ((J8 M).1.only og (by omega)) (aI ((J9 M).1.far (J1 M).1 (by rfl) (by omega) og) (aI ((J10 M).1.far (J1 M).1 (by rfl) (by omega) og) (aI ((J11 M).1.far (J1 M).1 (by rfl) (by omega) og) (aI ((J12 M).1.only og (by omega)) (aI ((J13 M).1.far (J1 M).1 (by rfl) (by omega) og) (aI ((J14 M).1.far (J1 M).1 (by rfl) (by omega) og) (aI ((J15 M).1.far (J1 M).1 (by rfl) (by omega) og) hbw))))))))))))))))
  clear hk hbw og hv hz
  refine cj6 (J1 M).1.c3 fun aw ax ay az ba bb => ?_
  have z4 : w8.heap.size < w11.heap.size := (J1 M).1.lt
  go_upto_region 8 with fail
  clear aw ax ay az ba bb z4
  have zp4_ : w8.heap.size < w11.heap.size := ((J1 M).1).lt
  rw [← World.setCell_alloc_past]
  rotate_left
  · first | omega | (simp <;> omega)
  refine nmW (w11.alloc (.cells #[.int .i64 0, .int .i64 2, .int .i64 100, .int .i64 0, .int .i64 8, .int .i64 130, .int .i64 1, .int .i64 12, .int .i64 7] 29)) fun w12 hv => ?_
  rw [← hv]
  have ow6_ : w9.heap.size < w11.heap.size := ((M.out.1)).lt
  replace M := alM hv M
  clear hv
  refine nmW (w12.setCell ⟨w8.heap.size, 2, none⟩ (.slice (some ⟨w11.heap.size, 0, none⟩) 3 3)) fun w13 hv => ?_
  rw [← hv]
  have og : w12.grownBy w13 (some w8.heap.size) := by rw [hv]; exact (only_setCell (World.grownBy.refl _ _) _)
  have hz : w.heap.size ≤ w8.heap.size := by omega
  have hk : Bx w13 w8.heap.size 25 #[.string exNm, .slice (some ⟨w9.heap.size, 0, none⟩) 2 2, .slice (some ⟨w11.heap.size, 0, none⟩) 3 3] := by rw [hv]; exact ((J2 M).1.set 2 _)
  have hbw : Below w.heap.size w w13 := by rw [hv]; exact (Below.setCell (J17 M) (by omega) _)
  replace M := Lib.hid (aI ((M.out.1).only og (by omega)) (aI ((J1 M).1.only og (by omega)) (aI hk (aI ((J3 M).1.only og (by omega)) (aI ((J4 M).1.far (J2 M).1 (by rfl) (by omega) og) (aI ((J5 M).1.far (J2 M).1 (by rfl) (by omega) og) (aI ((J6 M).1.only og (by omega)) (aI ((J7 M).1.far (J2 M).1 (by rfl) (by omega) og) (aI ((J8 M).1.far (J2 M).1 (by rfl) (by omega) og) (aI ((J9 M).1.only og (by omega)) (aI ((J10 M).1.far (J2 M).1 (by rfl) (by omega) og) (aI ((J11 M).1.far (J2 M).1 (by rfl) (by omega) og) (aI ((J12 M).1.far (J2 M).1 (by rfl) (by omega) og) (aI ((J13 M).1.only og (by omega)) (aI ((J14 M).1.far (J2 M).1 (by rfl) (by omega) og) (aI ((J15 M).1.far (J2 M).1 (by rfl) (by omega) og) (aI ((J16 M).1.far (J2 M).1 (by rfl) (by omega) og) hbw)))))))))))))))))
  clear hk hbw og hv hz
  refine cj3 (J2 M).1.d3 fun aw ay ba => ?_
  go_wp2_with fail
  clear aw ay ba
  replace M := Lib.hid (aI (M.out.1) (aI (J1 M).1 (aI (J2 M).1 (aI (J9 M).1 (aI (J10 M).1 (aI (J11 M).1 (aI (J12 M).1 (aI (J13 M).1 (aI (J14 M).1 (aI (J15 M).1 (aI (J16 M).1 (J17 M))))))))))))
  refine (ctBetween_l (G := G) (nm := exNm) (nb := true) (big := false) (da := 2) (db := 12) (er := 17) (ol := none) (oh := none) (Nat.le_trans hG (J11 M).size) (show RdMt G w13 (some ⟨w9.heap.size, 0, none⟩) 2 2 exM2 from RdL.of (OwB.new (α := Mt) (J1 M).1 rfl hG (show w.heap.size ≤ _ by omega) (fun _ _ => trivial)).rd rfl (by omega)) (show RdRg G w13 (some ⟨w11.heap.size, 0, none⟩) 3 3 exR2 from RdL.of (OwB.new (α := Rg) (M.out.1) rfl hG (show w.heap.size ≤ _ by omega) (fun _ _ => trivial)).rd rfl (by omega)) (CtS.of (J10 M).1) (rcin_nil _ _ _) (by decide) (by decide) (by decide) (by decide) (by decide) exNb exBg2 exB212 rfl rfl).mono ?_
  rintro e w14 ⟨x_37, x_38, x_39, x_40, x_41, x_42, x_43, x_44, rfl, hd45, hd46, hu47, hu48, hb⟩
  replace M := ad2M hd45 hd46 hb M
  clear hb hd45 hd46
  replace hu47 := Lib.hid hu47
  replace hu48 := Lib.hid hu48
  refine cj4 (TQ.st (M.out.1)) fun bc bd bf bg => ?_
  refine cj4 (TQ.st (J1 M).1) fun bh bi bj bk => ?_
  go_upto_region 9 with fail
  clear bc bd bf bg bh bi bj bk
  refine nmW (w14.alloc (.cells #[x_37, x_38, x_39, x_40, x_41, x_42, x_43, x_44] 40)) fun w15 hv => ?_
  rw [← hv]
  have ow7_ : w11.heap.size < w14.heap.size := ((J2 M).1).lt
  replace M := alM hv M
  clear hv
  refine cj3 (J10 M).1.d3 fun aa ab ac => ?_
  go_wp2_with fail
  clear aa ab ac
  replace M := Lib.hid (aI (J3 M).1 (aI (J4 M).1 (aI (J5 M).1 (aI (J6 M).1 (aI (J7 M).1 (aI (J8 M).1 (aI (J9 M).1 (aI (J11 M).1 (aI (J12 M).1 (aI (J13 M).1 (J14 M)))))))))))
  refine (ctCheck_l (G := G) (nm := exNm) (nb := true) (big := false) (er := 0) (Nat.le_trans hG (J10 M).size) (J7 M).1 (J8 M).1 (CtS.of (J9 M).1) (rcin_nil _ _ _) (by decide) (by decide) (by decide) (by decide) (by decide) exNb exBg exK).mono ?_
  rintro e w16 ⟨rfl, hb⟩
  replace M := gnM hb M
  clear hb
  refine cj3 (J3 M).1.d3 fun bl bm bn => ?_
  go_wp2_with fail
  clear bl bm bn
  refine (ctCheck_l (G := G) (nm := exNm) (nb := true) (big := false) (er := 16) (Nat.le_trans hG (J10 M).size) (J4 M).1 (J5 M).1 (CtS.of (J9 M).1) (rcin_nil _ _ _) (by decide) (by decide) (by decide) (by decide) (by decide) exNb exBg95 exK95).mono ?_
  rintro e w17 ⟨rfl, hb⟩
  replace M := gnM hb M
  clear hb
  refine cj3 (J2 M).1.d3 fun aw ay ba => ?_
  go_wp2_with fail
  clear aw ay ba
  refine (ctCheck_l (G := G) (nm := exNm) (nb := true) (big := false) (er := 0) (Nat.le_trans hG (J10 M).size) (show RdMt G w17 (some ⟨w9.heap.size, 0, none⟩) 2 2 exM2 from RdL.of (OwB.new (α := Mt) (J1 M).1 rfl hG (show w.heap.size ≤ _ by omega) (fun _ _ => trivial)).rd rfl (by omega)) (show RdRg G w17 (some ⟨w11.heap.size, 0, none⟩) 3 3 exR2 from RdL.of (OwB.new (α := Rg) (M.out.1) rfl hG (show w.heap.size ≤ _ by omega) (fun _ _ => trivial)).rd rfl (by omega)) (CtS.of (J9 M).1) (rcin_nil _ _ _) (by decide) (by decide) (by decide) (by decide) (by decide) exNb exBg2 exK2).mono ?_
  rintro e w18 ⟨rfl, hb⟩
  replace M := gnM hb M
  clear hb
  go_wp2_with fail
  replace M := Lib.hid (aI (J4 M).1 (aI (J5 M).1 (aI (J6 M).1 (aI (J7 M).1 (aI (J8 M).1 (aI (J9 M).1 (J10 M)))))))
  refine (ctIs (G := G) (da := 2) (db := 8) (lo := 26) (hi := 34) (Nat.le_trans hG (J6 M).size) exB28 (by decide) (by decide)).mono ?_
  rintro e w19 ⟨rfl, hb⟩
  replace M := gnM hb M
  clear hb
  go_wp2_with fail
  refine (ctIs (G := G) (da := 0) (db := 2) (lo := 0) (hi := 102) (Nat.le_trans hG (J6 M).size) exB02 (by decide) (by decide)).mono ?_
  rintro e w20 ⟨rfl, hb⟩
  replace M := gnM hb M
  clear hb
  go_wp2_with fail
  refine (ctIs (G := G) (da := 3) (db := 5) (lo := 0) (hi := 34) (Nat.le_trans hG (J6 M).size) exB35 (by decide) (by decide)).mono ?_
  rintro e w21 ⟨rfl, hb⟩
  replace M := gnM hb M
  clear hb
  go_wp2_with fail
  go_ret
  exact ⟨by rfl, (J6 M)⟩
end Go.Proofs.Ytlcgckelamhnpaa
namespace Go.Proofs.Ytlcgckelamhnpaa
open Go.RowKit Go.Lib
variable {G : Nat}

def fewCt (nn nr sz kc kq : Nat) : Bool := ((((decide (nn ≤ 4) || (decide (20 < nn) && decide (nn ≤ 25))) && decide (nr ≤ 10)) && decide (sz ≤ 30)) && decide (kc ≤ 8)) && decide (kq ≤ 8)
theorem fewCt_len {nn nr sz kc kq : Nat} (h : fewCt nn nr sz kc kq = true) : nn ≤ 25 ∧ nr ≤ 10 ∧ sz ≤ 30 ∧ kc ≤ 8 ∧ kq ≤ 8 := by
 unfold fewCt at h
 simp only [Bool.and_eq_true, Bool.or_eq_true, decide_eq_true_eq] at h
 omega
set_option maxRecDepth 100000 in
set_option maxHeartbeats 4000000 in
theorem ctFew {nm : ByteArray} {am ar ac aq : Option Addr} {nn cm nr cr kc cc kq cq : Nat} {b_ : Bool} {w : World} (hb : fewCt nn nr nm.size kc kq = b_) :
  Calls Try.prog 8 #[.agg #[.string nm, .slice am nn cm, .slice ar nr cr], .slice ac kc cc, .slice aq kq cq] w fun e w' => e = .returned (.bool b_) ∧ Below w.heap.size w w' := by
 unfold fewCt at hb
 obtain ⟨t1, ht1⟩ : ∃ b, decide (nn ≤ 4) = b := ⟨_, rfl⟩
 have ht1i : decide ((nn : Int) ≤ 4) = t1 := by rw [← ht1]; exact decide_eq_decide.2 (by omega)
 obtain ⟨t2, ht2⟩ : ∃ b, decide (20 < nn) = b := ⟨_, rfl⟩
 have ht2i : decide (20 < (nn : Int)) = t2 := by rw [← ht2]; exact decide_eq_decide.2 (by omega)
 obtain ⟨t3, ht3⟩ : ∃ b, decide (nn ≤ 25) = b := ⟨_, rfl⟩
 have ht3i : decide ((nn : Int) ≤ 25) = t3 := by rw [← ht3]; exact decide_eq_decide.2 (by omega)
 obtain ⟨t4, ht4⟩ : ∃ b, decide (nr ≤ 10) = b := ⟨_, rfl⟩
 have ht4i : decide ((nr : Int) ≤ 10) = t4 := by rw [← ht4]; exact decide_eq_decide.2 (by omega)
 obtain ⟨t5, ht5⟩ : ∃ b, decide (nm.size ≤ 30) = b := ⟨_, rfl⟩
 have ht5i : decide ((nm.size : Int) ≤ 30) = t5 := by rw [← ht5]; exact decide_eq_decide.2 (by omega)
 obtain ⟨t6, ht6⟩ : ∃ b, decide (kc ≤ 8) = b := ⟨_, rfl⟩
 have ht6i : decide ((kc : Int) ≤ 8) = t6 := by rw [← ht6]; exact decide_eq_decide.2 (by omega)
 obtain ⟨t7, ht7⟩ : ∃ b, decide (kq ≤ 8) = b := ⟨_, rfl⟩
 have ht7i : decide ((kq : Int) ≤ 8) = t7 := by rw [← ht7]; exact decide_eq_decide.2 (by omega)
 rw [ht1, ht2, ht3, ht4, ht5, ht6, ht7] at hb
 have HB := Lib.hid hb; clear hb
 have M : Hid (Below w.heap.size w w) := Below.refl _ _
 go_enter Try.func8, Try.ntmps8
 go_upto_region 1 with fail
 refine nmW (w.alloc (.cells #[.string nm, .slice am nn cm, .slice ar nr cr] 25)) fun w1 hv => ?_
 rw [← hv]
 replace M := alM hv M
 clear hv
 cases t1 with
 | false =>
  cases t2 with
  | false =>
   refine cj3 (M.out.1).d3 fun aa ab ad => ?_
   go_wp2_with fail
   clear aa ab ad
   go_ret
   exact ⟨by rw [← HB.out] <;> rfl, (J1 M)⟩
  | true =>
   cases t3 with
   | false =>
    refine cj3 (M.out.1).d3 fun aa ab ad => ?_
    go_wp2_with fail
    clear aa ab ad
    go_ret
    exact ⟨by rw [← HB.out] <;> rfl, (J1 M)⟩
   | true =>
    cases t4 with
    | false =>
     refine cj3 (M.out.1).d3 fun aa ab ad => ?_
     go_wp2_with fail
     clear aa ab ad
     go_ret
     exact ⟨by rw [← HB.out] <;> rfl, (J1 M)⟩
    | true =>
     cases t5 with
     | false =>
      refine cj3 (M.out.1).d3 fun aa ab ad => ?_
      go_wp2_with fail
      clear aa ab ad
      go_ret
      exact ⟨by rw [← HB.out] <;> rfl, (J1 M)⟩
     | true =>
      cases t6 with
      | false =>
       refine cj3 (M.out.1).d3 fun aa ab ad => ?_
       go_wp2_with fail
       clear aa ab ad
       go_ret
       exact ⟨by rw [← HB.out] <;> rfl, (J1 M)⟩
      | true =>
       refine cj3 (M.out.1).d3 fun aa ab ad => ?_
       go_wp2_with fail
       clear aa ab ad
       go_ret
       exact ⟨by rw [← HB.out] <;> rfl, (J1 M)⟩
 | true =>
  cases t4 with
  | false =>
   refine cj3 (M.out.1).d3 fun aa ab ad => ?_
   go_wp2_with fail
   clear aa ab ad
   go_ret
   exact ⟨by rw [← HB.out] <;> rfl, (J1 M)⟩
  | true =>
   cases t5 with
   | false =>
    refine cj3 (M.out.1).d3 fun aa ab ad => ?_
    go_wp2_with fail
    clear aa ab ad
    go_ret
    exact ⟨by rw [← HB.out] <;> rfl, (J1 M)⟩
   | true =>
    cases t6 with
    | false =>
     refine cj3 (M.out.1).d3 fun aa ab ad => ?_
     go_wp2_with fail
     clear aa ab ad
     go_ret
     exact ⟨by rw [← HB.out] <;> rfl, (J1 M)⟩
    | true =>
     refine cj3 (M.out.1).d3 fun aa ab ad => ?_
     go_wp2_with fail
     clear aa ab ad
     go_ret
     exact ⟨by rw [← HB.out] <;> rfl, (J1 M)⟩
end Go.Proofs.Ytlcgckelamhnpaa
namespace Go.Proofs.Ytlcgckelamhnpaa
open Go.RowKit Go.Lib
variable {G : Nat}

instance : El Rc where
 cells x := rcCells x
 sz := 2
 T := 31
 deep := []
 ok _ _ _ := True
 len := fun _ => rfl
 one := by
  rintro G w x - u hu
  simp [rcCells] at hu; rcases hu with rfl | rfl <;> rfl
 keep := fun _ _ => trivial
 far := fun _ _ _ _ _ => trivial
abbrev RdRc (G : Nat) (w : World) (a : Option Addr) (n c : Nat) (l : List Rc) : Prop := RdL G w a n c l
theorem RcS.of {w : World} {a : Option Addr} {n c : Nat} {l : List Rc} (h : RdRc G w a n c l) : RcS w a n c l := by
 refine ⟨a, c, by rw [h.len], fun k hk => ?_⟩
 obtain ⟨b, off, rfl, hb⟩ := RdL.ptr h (by have := h.len; omega)
 have hx : l[k]? = some l[k] := List.getElem?_eq_getElem hk
 have h2 := hb.row hx
 refine ⟨b, off, rfl, h2.1, fun j u hu => ?_⟩
 simp only [hx, Option.map_some, Option.getD_some] at hu
 exact h2.2 j u hu
theorem OwV.emptyC {α : Type} [El α] {w : World} {B g : Nat} (hb : Bx w g (El.T α) #[]) (hG : G ≤ B) (hB : B ≤ g) : OwV G B w (.slice (some ⟨g, 0, none⟩) 0 0) ([] : List α) :=
 ⟨hG, ⟨by simp, .inr ⟨g, 0, #[], rfl, hB, hb, Nat.le_refl _, Nat.zero_le _, by simp, by simp⟩⟩, fun x hx => by cases hx⟩
end Go.Proofs.Ytlcgckelamhnpaa
