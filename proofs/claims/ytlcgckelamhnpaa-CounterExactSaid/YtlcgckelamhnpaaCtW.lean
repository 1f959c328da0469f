/- Which stations and histories are small. -/
import Derived.Test.YtlcgckelamhnpaaBase
import Derived.Test.YtlcgckelamhnpaaBigSpec
import Derived.Test.YtlcgckelamhnpaaBigB
import Derived.Test.YtlcgckelamhnpaaBigD
import Derived.Test.YtlcgckelamhnpaaBigQ
import Derived.Test.YtlcgckelamhnpaaFd
import Derived.Test.YtlcgckelamhnpaaAw
import Derived.Test.YtlcgckelamhnpaaFz
import Derived.Test.YtlcgckelamhnpaaFracR
import Derived.Test.YtlcgckelamhnpaaRw
import Derived.Test.YtlcgckelamhnpaaScaleE
import Derived.Test.YtlcgckelamhnpaaCtLaws
import Derived.Test.YtlcgckelamhnpaaCtA
import Derived.Test.YtlcgckelamhnpaaCtE
import Derived.Test.YtlcgckelamhnpaaCtL
import Derived.Test.YtlcgckelamhnpaaCtHist
import Derived.Test.YtlcgckelamhnpaaCtU
import Derived.Test.YtlcgckelamhnpaaProg
import Derived.Test.YtlcgckelamhnpaaShelf
import Derived.WalkKit
import Derived.WalkSpells
import Derived.WalkLawsBesides
import Derived.Handy
import Derived.Lib.Hide
import Derived.Lib.Strings
import Derived.Lib.Builder
import Derived.BigQuiet
import Derived.OwnWalk
import Derived.Laws.BitsLemmas
import Derived.WalkSmall
import Derived.Deep.QuietTactic
import Derived.StillTailTactics
import Derived.Maps.AppendAt
import Derived.IntWalk
import Derived.Deep.RegionHeld3
import Derived.Deep.DeepFit
import Derived.Deep.LoopGhost
import Derived.Deep.DeepCutAuto
import Derived.Lib.ItoaNum
import Derived.Lib.Repeat
import Derived.Lib.AppendIntMem
import Derived.Sort.OwnSorted
import Derived.Shelf.Strings.SlTrimAscii
import Derived.Lib.ConvBytes
import Derived.Lib.CutLaws
import Derived.Shelf.Strings.Builder1
import Derived.ArgAppend
namespace Go.Proofs.Ytlcgckelamhnpaa
open Go.RowKit Go.Lib
variable {G : Nat}

set_option maxRecDepth 100000 in
set_option maxHeartbeats 4000000 in
theorem ctShort {nm : ByteArray} {am ar : Option Addr} {nn cm nr cr : Nat} {ms : List Mt} {b_ : Bool} {w : World} (_hG : G ≤ w.heap.size) (hm : RdMt G w am nn cm ms) (_hnn : nn ≤ 1000) (hb : shortB ms = b_) :
  Calls Try.prog 18 #[.agg #[.string nm, .slice am nn cm, .slice ar nr cr]] w fun e w' => e = .returned (.bool b_) ∧ Below w.heap.size w w' := by
 have HB := Lib.hid hb; clear hb
 have HM : Hid (RdMt G w am nn cm ms) := hm
 clear hm
 have M : Hid (Below w.heap.size w w) := Below.refl _ _
 go_enter Try.func18, Try.ntmps18
 go_upto_region 1 with fail
 refine nmW (w.alloc (.cells #[.string nm, .slice am nn cm, .slice ar nr cr] 25)) fun w1 hv => ?_
 rw [← hv]
 replace M := alM hv M
 clear hv
 go_wp2_with fail
 go_loopw [3] (fun i3 wr => ∃ (k : Nat), i3 = .int .i64 (k : Int) ∧ Hid (k ≤ nn) ∧ Hid ((ms.take k).all (fun z => !decide (z.f < 0) && !decide (20 < z.u)) = true) ∧ Hid (Bx wr w.heap.size 25 #[.string nm, .slice am nn cm, .slice ar nr cr] ∧ Below w.heap.size w wr)) (fun i3 _ => nn - (RowKit.intOf i3).toNat)
 case atStart =>
  exact ⟨0, rfl, (by show _ ≤ _; omega), (Lib.hid rfl), Lib.hid (aI (M.out.1) (J1 M))⟩
 case round =>
  obtain ⟨w2, rfl⟩ : ∃ x, x = wr := ⟨_, rfl⟩
  clear M
  obtain ⟨k, rfl, hk, HA, M⟩ := hrel
  have hk := hk.out
  by_cases hlt : k < nn
  ·
   have e1_0 : decide (k < nn) = true := decide_eq_true (by omega)
   have e1_1 : decide ((k : Int) < (nn : Int)) = true := decide_eq_true (by omega)
   have e1_i : (k : Int) < (nn : Int) := by omega
   by_cases h5_ : k < 5
   ·
    have e5_0 : decide (k < 5) = true := decide_eq_true (by omega)
    have e5_1 : decide ((k : Int) < 5) = true := decide_eq_true (by omega)
    have e5_i : (k : Int) < 5 := by omega
    obtain ⟨bz, ofz, rfl, hb_⟩ := RdL.ptr HM.out (by omega : 0 < nn)
    have hbkbz := Lib.hid hb_
    have hkl_ : k < ms.length := by rw [HM.out.len]; exact hlt
    obtain ⟨z_, hx_⟩ : ∃ x, ms[k]? = some x := ⟨ms[k], List.getElem?_eq_getElem hkl_⟩
    obtain ⟨zs, zf, zu⟩ := z_
    have HRz : Hid (Row w bz (ofz + k * 3) [.int .i64 zs, .int .i64 zf, .int .i64 zu]) := hb_.row hx_
    have HEz := Lib.hid hx_
    have hlz := hkl_
    clear hx_ hb_ hkl_
    obtain ⟨t1, ht1⟩ : ∃ b, decide (zf < 0) = b := ⟨_, rfl⟩
    obtain ⟨t2, ht2⟩ : ∃ b, decide (20 < zu) = b := ⟨_, rfl⟩
    have HVB : Hid ((!decide (zf < 0) && !decide (20 < zu)) = (!t1 && !t2)) := by show _ = _; rw [ht1, ht2]
    have HNO : Hid ((!t1 && !t2) = false → shortB ms = false) := fun h_ => short_no HEz.out (by omega) (HVB.out.trans h_)
    have HT1 := Lib.hid ht1; have HT2 := Lib.hid ht2
    cases t1 with
    | false =>
     cases t2 with
     | false =>
      refine cj3 (M.out.1).d3 fun aa ab ac => ?_
      refine cj3 (HRz.out.keep (J1 M)).c3 fun r0_0 r0_1 r0_2 => ?_
      go_wp2_with fail
      clear aa ab ac r0_0 r0_1 r0_2
      go_roundw
      case rel => exact ⟨(k + 1), by go_num, (by show _ ≤ _; omega), (Lib.hid (all_next HEz.out HA.out HVB.out)), Lib.hid (aI (M.out.1) (J1 M))⟩
      case measure => simp [RowKit.intOf] <;> omega
     | true =>
      refine cj3 (M.out.1).d3 fun aa ab ac => ?_
      refine cj3 (HRz.out.keep (J1 M)).c3 fun r0_0 r0_1 r0_2 => ?_
      go_wp2_with fail
      clear aa ab ac r0_0 r0_1 r0_2
      go_ret
      exact ⟨by rw [← HB.out, (HNO.out rfl)] <;> rfl, (J1 M)⟩
    | true =>
     refine cj3 (M.out.1).d3 fun aa ab ac => ?_
     refine cj3 (HRz.out.keep (J1 M)).c3 fun r0_0 r0_1 r0_2 => ?_
     go_wp2_with fail
     clear aa ab ac r0_0 r0_1 r0_2
     go_ret
     exact ⟨by rw [← HB.out, (HNO.out rfl)] <;> rfl, (J1 M)⟩
   ·
    have e5_0 : decide (k < 5) = false := decide_eq_false (by omega)
    have e5_1 : decide ((k : Int) < 5) = false := decide_eq_false (by omega)
    have e5_i : ¬ (k : Int) < 5 := by omega
    have HEND := Lib.hid (fun t (ht : decide (ms.length ≤ 4) = t) => short_end (k := k) HA.out (.inr (by omega)) ht)
    obtain ⟨t4, ht4⟩ : ∃ b, decide (nn ≤ 4) = b := ⟨_, rfl⟩
    have ht4i : decide ((nn : Int) ≤ 4) = t4 := by rw [← ht4]; exact decide_eq_decide.2 (by omega)
    have HFIN : Hid (shortB ms = t4) := HEND.out t4 (by rw [HM.out.len]; exact ht4)
    clear ht4
    refine cj3 (M.out.1).d3 fun aa ab ac => ?_
    go_wp2_with fail
    clear aa ab ac
    go_ret
    exact ⟨by rw [← HB.out, HFIN.out] <;> rfl, (J1 M)⟩
  ·
   have e1_0 : decide (k < nn) = false := decide_eq_false (by omega)
   have e1_1 : decide ((k : Int) < (nn : Int)) = false := decide_eq_false (by omega)
   have e1_i : ¬ (k : Int) < (nn : Int) := by omega
   have HEND := Lib.hid (fun t (ht : decide (ms.length ≤ 4) = t) => short_end (k := k) HA.out (.inl (by rw [HM.out.len]; omega)) ht)
   obtain ⟨t4, ht4⟩ : ∃ b, decide (nn ≤ 4) = b := ⟨_, rfl⟩
   have ht4i : decide ((nn : Int) ≤ 4) = t4 := by rw [← ht4]; exact decide_eq_decide.2 (by omega)
   have HFIN : Hid (shortB ms = t4) := HEND.out t4 (by rw [HM.out.len]; exact ht4)
   clear ht4
   refine cj3 (M.out.1).d3 fun aa ab ac => ?_
   go_wp2_with fail
   clear aa ab ac
   go_ret
   exact ⟨by rw [← HB.out, HFIN.out] <;> rfl, (J1 M)⟩
set_option maxRecDepth 100000 in
set_option maxHeartbeats 4000000 in
theorem ctFewH {a : Option Addr} {n c : Nat} {H : List HdX} {b_ : Bool} {w : World} (_hG : G ≤ w.heap.size) (hh : RdHX G w a n c H) (_hn : n ≤ 9223372036854775807) (hb : fewHB H = b_) :
  Calls Try.prog 17 #[.slice a n c] w fun e w' => e = .returned (.bool b_) ∧ Below w.heap.size w w' := by
 have HB := Lib.hid hb; clear hb
 have HHX : Hid (RdHX G w a n c H) := hh
 clear hh
 have M : Hid (Below w.heap.size w w) := Below.refl _ _
 go_enter Try.func17, Try.ntmps17
 go_wp2_with fail
 go_loopw [3] (fun i3 wr => ∃ (k : Nat), i3 = .int .i64 (k : Int) ∧ Hid (k ≤ n) ∧ Hid ((H.take k).all few25 = true) ∧ Hid (Below w.heap.size w wr)) (fun i3 _ => n - (RowKit.intOf i3).toNat)
 case atStart =>
  exact ⟨0, rfl, (by show _ ≤ _; omega), (Lib.hid rfl), Lib.hid M.out⟩
 case round =>
  obtain ⟨w1, rfl⟩ : ∃ x, x = wr := ⟨_, rfl⟩
  clear M
  obtain ⟨k, rfl, hk, HA, M⟩ := hrel
  have hk := hk.out
  by_cases hlt : k < n
  ·
   have e1_0 : decide (k < n) = true := decide_eq_true (by omega)
   have e1_1 : decide ((k : Int) < (n : Int)) = true := decide_eq_true (by omega)
   have e1_i : (k : Int) < (n : Int) := by omega
   by_cases h6_ : k < 6
   ·
    have e6_0 : decide (k < 6) = true := decide_eq_true (by omega)
    have e6_1 : decide ((k : Int) < 6) = true := decide_eq_true (by omega)
    have e6_i : (k : Int) < 6 := by omega
    obtain ⟨bh, ofh, rfl, hb_⟩ := RdL.ptr HHX.out (by omega : 0 < n)
    have hkl_ : k < H.length := by rw [HHX.out.len]; exact hlt
    obtain ⟨y_, hx_⟩ : ∃ x, H[k]? = some x := ⟨H[k], List.getElem?_eq_getElem hkl_⟩
    obtain ⟨ya, yn, yc, yl⟩ := y_
    have HRy : Hid (Row w bh (ofh + k) [.slice ya yn yc]) := by have h_ := hb_.row hx_; rw [show k * El.sz HdX = k from Nat.mul_one _] at h_; exact h_
    have HDy : Hid (RdX G w ya yn yc yl) := hb_.ok hx_
    have HEy := Lib.hid hx_
    clear hx_ hb_ hkl_
    by_cases h25_ : 25 < yn
    ·
     have e25_0 : decide (25 < yn) = true := decide_eq_true (by omega)
     have e25_1 : decide (25 < (yn : Int)) = true := decide_eq_true (by omega)
     have e25_i : 25 < (yn : Int) := by omega
     have HNO : Hid (fewHB H = false) := fewH_no HEy.out h6_ (few_lenX (by rw [HDy.out.len]; omega))
     have yr0 := (HRy.out.keep M.out).c1; have r0_0 := yr0; clear yr0
     go_wp2_with fail
     clear r0_0
     go_ret
     exact ⟨by rw [← HB.out, HNO.out] <;> rfl, M.out⟩
    ·
     have e25_0 : decide (25 < yn) = false := decide_eq_false (by omega)
     have e25_1 : decide (25 < (yn : Int)) = false := decide_eq_false (by omega)
     have e25_i : ¬ 25 < (yn : Int) := by omega
     have yr0 := (HRy.out.keep M.out).c1; have r0_0 := yr0; clear yr0
     go_wp2_with fail
     clear r0_0
     go_loopw [4] (fun i4 wr => ∃ (j : Nat), i4 = .int .i64 (j : Int) ∧ Hid (j ≤ yn) ∧ Hid ((yl.take j).all few4 = true) ∧ Hid (Below w.heap.size w wr)) (fun i4 _ => yn - (RowKit.intOf i4).toNat)
     case atStart =>
      exact ⟨0, rfl, (by show _ ≤ _; omega), (Lib.hid rfl), Lib.hid M.out⟩
     case round =>
      obtain ⟨w2, rfl⟩ : ∃ x, x = wr := ⟨_, rfl⟩
      clear M
      obtain ⟨j, rfl, hj, HJ, M⟩ := hrel
      have hj := hj.out
      by_cases hlt2 : j < yn
      ·
       have e2_0 : decide (j < yn) = true := decide_eq_true (by omega)
       have e2_1 : decide ((j : Int) < (yn : Int)) = true := decide_eq_true (by omega)
       have e2_i : (j : Int) < (yn : Int) := by omega
       obtain ⟨bv, ofv, rfl, hb_⟩ := RdL.ptr HDy.out (by omega : 0 < yn)
       have hkl_ : j < yl.length := by rw [HDy.out.len]; exact hlt2
       obtain ⟨x_, hx_⟩ : ∃ x, yl[j]? = some x := ⟨yl[j], List.getElem?_eq_getElem hkl_⟩
       obtain ⟨xu0, xu1, xu2, xu3, xa, xb, xo⟩ := x_
       have HRx : Hid (Row w bv (ofv + j * 4) [xu0, xu1, xu2, xu3]) := hb_.row hx_
       have HKx : Hid (XOk G w xu0 xu1 xu2 xu3 xa xb xo) := hb_.ok hx_
       have HEx := Lib.hid hx_
       clear hx_ hb_ hkl_
       obtain ⟨t1, ht1⟩ : ∃ b, (decide (xa ≤ 4) && decide (xb ≤ 4)) = b := ⟨_, rfl⟩
       have HT1 := Lib.hid ht1; clear ht1
       have HF4 : Hid (few4 ⟨xu0, xu1, xu2, xu3, xa, xb, xo⟩ = t1) := HT1.out
       have HNO : Hid (t1 = false → fewHB H = false) := fun h_ => fewH_no HEy.out h6_ (few_noX (all_no HEx.out (HF4.out.trans h_)))
       have yr0 := (HRy.out.keep M.out).c1; have r0_0 := yr0; clear yr0
       refine cj4 (HRx.out.keep M.out).c4 fun r1_0 r1_1 r1_2 r1_3 => ?_
       go_wp2_with fail
       clear r0_0 r1_0 r1_1 r1_2 r1_3
       refine (xFew_ok (HKx.out.keep M.out) HT1.out).mono ?_
       rintro e w3 ⟨rfl, hb⟩
       replace M := gnM hb M
       clear hb
       cases t1 with
       | false =>
        go_wp2_with fail
        go_ret
        exact ⟨by rw [← HB.out, (HNO.out trivial)] <;> rfl, M.out⟩
       | true =>
        go_wp2_with fail
        go_roundw
        case rel => exact ⟨(j + 1), by go_num, (by show _ ≤ _; omega), (Lib.hid (all_next HEx.out HJ.out HF4.out)), Lib.hid M.out⟩
        case measure => simp [RowKit.intOf] <;> omega
      ·
       have e2_0 : decide (j < yn) = false := decide_eq_false (by omega)
       have e2_1 : decide ((j : Int) < (yn : Int)) = false := decide_eq_false (by omega)
       have e2_i : ¬ (j : Int) < (yn : Int) := by omega
       have HFY : Hid (few25 ⟨ya, yn, yc, yl⟩ = true) := few_yesX (by show yl.length ≤ 25; rw [HDy.out.len]; omega) (by have h_ := HJ.out; rw [List.take_of_length_le (by rw [HDy.out.len]; omega)] at h_; exact h_)
       have yr0 := (HRy.out.keep M.out).c1; have r0_0 := yr0; clear yr0
       go_wp2_with fail
       clear r0_0
       go_roundw
       case rel => exact ⟨(k + 1), by go_num, (by show _ ≤ _; omega), (Lib.hid (all_next HEy.out HA.out HFY.out)), Lib.hid M.out⟩
       case measure => simp [RowKit.intOf] <;> omega
   ·
    have e6_0 : decide (k < 6) = false := decide_eq_false (by omega)
    have e6_1 : decide ((k : Int) < 6) = false := decide_eq_false (by omega)
    have e6_i : ¬ (k : Int) < 6 := by omega
    have HEND := Lib.hid (fun t (ht : decide (H.length ≤ 5) = t) => fewH_end (k := k) HA.out (.inr (by omega)) ht)
    obtain ⟨t4, ht4⟩ : ∃ b, decide (n ≤ 5) = b := ⟨_, rfl⟩
    have ht4i : decide ((n : Int) ≤ 5) = t4 := by rw [← ht4]; exact decide_eq_decide.2 (by omega)
    have HFIN : Hid (fewHB H = t4) := HEND.out t4 (by rw [HHX.out.len]; exact ht4)
    clear ht4
    go_wp2_with fail
    go_ret
    exact ⟨by rw [← HB.out, HFIN.out] <;> rfl, M.out⟩
  ·
   have e1_0 : decide (k < n) = false := decide_eq_false (by omega)
   have e1_1 : decide ((k : Int) < (n : Int)) = false := decide_eq_false (by omega)
   have e1_i : ¬ (k : Int) < (n : Int) := by omega
   have HEND := Lib.hid (fun t (ht : decide (H.length ≤ 5) = t) => fewH_end (k := k) HA.out (.inl (by rw [HHX.out.len]; omega)) ht)
   obtain ⟨t4, ht4⟩ : ∃ b, decide (n ≤ 5) = b := ⟨_, rfl⟩
   have ht4i : decide ((n : Int) ≤ 5) = t4 := by rw [← ht4]; exact decide_eq_decide.2 (by omega)
   have HFIN : Hid (fewHB H = t4) := HEND.out t4 (by rw [HHX.out.len]; exact ht4)
   clear ht4
   go_wp2_with fail
   go_ret
   exact ⟨by rw [← HB.out, HFIN.out] <;> rfl, M.out⟩
end Go.Proofs.Ytlcgckelamhnpaa
