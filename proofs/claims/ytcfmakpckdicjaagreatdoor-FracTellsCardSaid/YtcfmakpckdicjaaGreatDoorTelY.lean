/- Walks of the verifier's reference: a tenth of digits; the text of a big integer. -/
import Derived.Test.YtcfmakpckdicjaaGreatDoorBase
import Derived.Test.YtcfmakpckdicjaaGreatDoorBigSpec
import Derived.Test.YtcfmakpckdicjaaGreatDoorBigB
import Derived.Test.YtcfmakpckdicjaaGreatDoorBigC
import Derived.Test.YtcfmakpckdicjaaGreatDoorBigD
import Derived.Test.YtcfmakpckdicjaaGreatDoorBigH
import Derived.Test.YtcfmakpckdicjaaGreatDoorBigQ
import Derived.Test.YtcfmakpckdicjaaGreatDoorFracA
import Derived.Test.YtcfmakpckdicjaaGreatDoorRefE
import Derived.Test.YtcfmakpckdicjaaGreatDoorRefJ
import Derived.Test.YtcfmakpckdicjaaGreatDoorAw
import Derived.Test.YtcfmakpckdicjaaGreatDoorBigDec
import Derived.Test.YtcfmakpckdicjaaGreatDoorBigRead
import Derived.Test.YtcfmakpckdicjaaGreatDoorTelP
import Derived.Test.YtcfmakpckdicjaaGreatDoorProg
import Derived.Test.YtcfmakpckdicjaaGreatDoorShelf
import Derived.Lib.ItoaNum
import Derived.Lib.Repeat
import Derived.WalkKit
import Derived.WalkSpells
import Derived.WalkLawsBesides
import Derived.Handy
import Derived.Lib.Hide
import Derived.Lib.Strings
import Derived.Lib.Builder
import Derived.BigQuiet
import Derived.OwnWalk
import Derived.Laws.BitsLemmas
import Derived.WalkSmall
import Derived.Deep.QuietTactic
import Derived.StillTailTactics
import Derived.Maps.AppendAt
import Derived.IntWalk
import Derived.Deep.RegionHeld3
import Derived.Deep.DeepFit
import Derived.Deep.LoopGhost
import Derived.Deep.DeepCutAuto
import Derived.Lib.AppendIntMem
import Derived.Sort.OwnSorted
namespace Go.Proofs.YtcfmakpckdicjaaGreatDoor
open Go.RowKit Go.Lib
variable {G : Nat}

set_option maxRecDepth 100000 in
set_option maxHeartbeats 4000000 in
theorem rtenth_any (p : Value) (P : Digs) (w : World) (hp : RdN w p P) (sp : small P) (hn : P.length ≤ 2199023255552) :
    Calls Tryz.prog 104 #[p] w fun e w' => ∃ v, e = .returned (.tuple #[v, .int .i64 (val P % 10 : Nat)]) ∧ OwnN w' w.heap.size v (digs (val P / 10)) ∧ Below w.heap.size w w' := by
  obtain ⟨a1, cap1, rfl⟩ := hp.shape
  have HP := Lib.hid hp; clear hp
  go_enter Tryz.func104, Tryz.ntmps104
  go_wp2_with (at_make; go_must (refine wpList_mkints rfl _ _ rfl w w.heap.size P.length _ _ rfl rfl (by simp) (by simp) (by omega) (Nat.le_refl _) ?_; intro w1 ho hb))
  have HO := Lib.hid ho; clear ho
  have HB0 := Lib.hid hb; clear hb
  go_loopw [5, 6] (fun r i wr => ∃ (k rm : Nat) (os : Digs), k ≤ P.length ∧ rm < 10 ∧ os.length = P.length ∧ r = .int .i64 rm ∧ i = .int .i64 ((k : Int) - 1) ∧ Hid (small os) ∧ Hid (val (os.drop k) * 10 + rm = val (P.drop k)) ∧ Hid (OwnN wr w.heap.size (.slice (some ⟨w.heap.size, 0, none⟩) P.length P.length) os) ∧ Hid (Below w.heap.size w wr)) (fun _ i _ => (RowKit.intOf i + 1).toNat)
  case atStart => exact ⟨P.length, 0, List.replicate P.length 0, Nat.le_refl _, by omega, by simp, rfl, rfl, small_replicate _, by show _ = _; rw [List.drop_of_length_le (by simp), List.drop_of_length_le (by simp)]; simp [val], HO, HB0⟩
  case round =>
    obtain ⟨k, rm, os, hk, hrm, hlo, rfl, rfl, HSm, HE, HW, HB⟩ := hrel
    have HLo := Lib.hid hlo
    by_cases h0 : 0 < k
    · obtain ⟨m, rfl⟩ : ∃ m, k = m + 1 := ⟨k - 1, by omega⟩
      have em : (((m + 1 : Nat) : Int) - 1) = (m : Int) := by omega
      rw [em]; clear em
      have hm1 : m < P.length := by omega
      obtain ⟨b1, off1, rfl, hb1, hcell⟩ := (HP.out.keep HB.out).at hm1
      obtain ⟨x, hx⟩ : ∃ x, x = P[m] := ⟨_, rfl⟩
      rw [← hx] at hcell
      have hxs : x < 1048576 := by rw [hx]; exact small_get sp m hm1
      have HX := Lib.hid hx
      clear hx
      have hmo : m < os.length := by omega
      obtain ⟨o, ho⟩ : ∃ o, o = os[m] := ⟨_, rfl⟩
      have hold := HW.out.cell hmo
      rw [← ho] at hold
      have hfr := HW.out.live m
      have HOo := Lib.hid ho
      clear ho hlo
      obtain ⟨n, hn1⟩ : ∃ n : Nat, n = rm * 1048576 + x := ⟨_, rfl⟩
      have hor : (rm : Int) * 1048576 + (x : Int) = (n : Int) := by omega
      obtain ⟨q, hq⟩ : ∃ q : Nat, q = n / 10 := ⟨_, rfl⟩
      obtain ⟨r, hr⟩ : ∃ r : Nat, r = n % 10 := ⟨_, rfl⟩
      have hnb : n < 1099511627776 := by omega
      have hqn : q ≤ n := by omega
      have hrd : r < 10 := by omega
      have hqr : q * 10 + r = n := by omega
      have hqs : q < 1048576 := by omega
      have htd : ((n : Int).tdiv 10) = (q : Int) := by rw [hq, Int.tdiv_eq_ediv_of_nonneg (by omega)]; rfl
      have htm : ((n : Int).tmod 10) = (r : Int) := by rw [hr, Int.tmod_eq_emod_of_nonneg (by omega)]; rfl
      have hed : (n : Int) / 10 = (q : Int) := by omega
      have hem : (n : Int) % 10 = (r : Int) := by omega
      have HE2 : Hid (val ((os.set m q).drop m) * 10 + r = val (P.drop m)) := by
        show _ = _
        have e1 : (os.set m q).drop m = q :: os.drop (m + 1) := by
          rw [List.drop_eq_getElem_cons (by rw [List.length_set]; exact hmo), List.getElem_set_self, drop_set_succ]
        rw [e1, List.drop_eq_getElem_cons hm1, val, val, ← HX.out, ← HE.out]
        exact short_step hqr hn1
      clear hn1 hq hr hqr
      go_wp2_with fail
      go_roundw
      case rel => exact ⟨m, r, os.set m q, by omega, hrd, by rw [List.length_set]; exact HLo.out, by rfl, rfl, small_set HSm.out hqs, HE2, HW.out.set m q, HB.out.setCell (Nat.le_refl _) _⟩
      case measure => simp [RowKit.intOf]
    · obtain rfl : k = 0 := by omega
      have em : ((0 : Nat) : Int) - 1 = -1 := rfl
      rw [em]; clear em
      have hV := HE.out
      rw [List.drop_zero, List.drop_zero] at hV
      have HV : Hid (val os = val P / 10 ∧ rm = val P % 10) := by
        show _ ∧ _
        omega
      have hol : os.length ≤ 8796093022208 := by omega
      have HOL := Lib.hid hol
      clear hlo hol hV
      go_wp2_with fail
      refine (refTrim_own HW.out HSm.out HOL.out).mono ?_
      rintro e w2 ⟨v', rfl, ho, hb⟩
      have HO2 := Lib.hid (OwnN.mono ho HB.out.size); clear ho
      have HB2 := Lib.hid (below_call HB.out hb); clear hb
      rw [HV.out.1] at HO2
      go_wp2_with fail
      go_ret2
      exact ⟨v', by rw [HV.out.2]; rfl, HO2.out, HB2.out⟩
theorem rtenth_n {n q r : Nat} {a : Option Addr} {c : Nat} {w : World} (h : RdN w (.slice a (lnN n) c) (digs n)) (hn : lnN n ≤ 2199023255552) (hq : n / 10 = q) (hr : n % 10 = r) :
  Calls Tryz.prog 104 #[.slice a (lnN n) c] w fun e w' => ∃ b d, e = .returned (.tuple #[.slice b (lnN q) d, .int .i64 r]) ∧ RdN w' (.slice b (lnN q) d) (digs q) ∧ Below w.heap.size w w' := by
 subst hq hr
 refine (rtenth_any _ (digs n) w h (digs_small n) hn).mono ?_
 rintro e w' ⟨v, rfl, ho, hb⟩
 rw [val_digs] at ho ⊢
 obtain ⟨b, d, rfl⟩ := ho.slice
 exact ⟨b, d, rfl, ho.rd, hb⟩
set_option maxRecDepth 100000 in
set_option maxHeartbeats 4000000 in
theorem rText_ok {x : Int} {a1 : Option Addr} {c1 : Nat} {w : World} (h1 : BD G w a1 c1 x) (hX : Sz x 1073741824) :
    Calls Tryz.prog 74 #[.agg #[.int .i64 (sg x), .slice a1 (ln x) c1]] w fun e w' => e = .returned (.string ⟨(textZ x).toArray⟩) ∧ Below w.heap.size w w' := by
  have H1 := Lib.hid h1; have HX := Lib.hid hX
  clear h1 hX
  go_enter Tryz.func74, Tryz.ntmps74
  go_upto_region 1 with fail
  refine nmW (w.alloc (.cells #[.int .i64 (sg x), .slice a1 (ln x) c1] 24)) fun w1 hv => ?_
  rw [← hv]
  have K : Hid (Bx w1 w.heap.size 24 #[.int .i64 (sg x), .slice a1 (ln x) c1]) := by show Bx _ _ _ _; rw [hv]; exact bx1 w _ _
  have HB1 : Hid (Below w.heap.size w w1) := by show Below _ _ _; rw [hv]; exact below_alloc _ _
  clear hv
  obtain ⟨p0, q0, p1, q1⟩ := K.out.c2
  go_wp2_with fail
  clear p0 q0 p1 q1
  refine (rright_ok (G := G) (H1.out.keep HB1.out) (HX.out.mono (by omega))).mono ?_
  rintro e w2 ⟨rfl, hb⟩
  have HB2 := Lib.hid (below_call HB1.out hb)
  replace K : Hid (Bx w2 w.heap.size 24 #[.int .i64 (sg x), .slice a1 (ln x) c1]) := K.out.keep hb
  clear hb
  obtain ⟨p0, q0, p1, q1⟩ := K.out.c2
  by_cases hx0 : x = 0
  · have e0 : (sg x == 0) = true := by rw [hx0]; rfl
    have HT : Hid (textZ x = [48]) := by show _ = _; rw [textZ_tx, hx0]; rfl
    clear hx0
    go_wp2_with fail
    go_ret
    exact ⟨by rw [HT.out]; rfl, HB2.out⟩
  have e0 : (sg x == 0) = false := by
    rw [beq_eq_false_iff_ne]
    intro h; exact hx0 (Int.sign_eq_zero_iff_zero.1 h)
  have HX0 := Lib.hid hx0; clear hx0
  go_wp2_with fail
  clear p0 q0 p1 q1
  have HDX := Lib.hid (dec_len HX.out (by omega))
  go_loopg [3, 4] x.natAbs (fun k sv lv wr => ∃ (a : Option Addr) (c : Nat) (S : List UInt8), sv = .string ⟨S.toArray⟩ ∧ lv = .slice a (lnN k) c ∧ Hid (k ≤ x.natAbs) ∧ Hid (RdN wr (.slice a (lnN k) c) (digs k)) ∧ Hid (tx x.natAbs = tx k ++ S) ∧ Hid (Below w2.heap.size w2 wr))
  case atStart => exact ⟨a1, c1, [], rfl, rfl, Nat.le_refl _, (H1.out.keep HB2.out).rd, by show _ = _; simp, Below.refl _ _⟩
  case round =>
    obtain ⟨a, c, S, rfl, rfl, HK, HR, HP, HB⟩ := hrel
    have hln := lnN_le HK.out
    have hX' : lnN x.natAbs ≤ 1073741824 := HX.out
    have HSL : Hid (S.length ≤ 10737418240) := by
      show _ ≤ _
      have h1 := congrArg List.length HP.out
      rw [List.length_append, tx_pos (by have := HX0.out; omega)] at h1
      have := HDX.out; omega
    by_cases hk : gk = 0
    · subst hk
      have e1 : decide (0 < lnN 0) = false := rfl
      have e2 : decide (0 < ((lnN 0 : Nat) : Int)) = false := rfl
      have HS : Hid (S = tx x.natAbs) := by show _ = _; rw [HP.out]; rfl
      have K4 : Hid (Bx wr w.heap.size 24 #[.int .i64 (sg x), .slice a1 (ln x) c1]) := K.out.keep HB.out
      have HE := Lib.hid (HB2.out.trans (HB.out.mono HB2.out.size))
      obtain ⟨p0, q0, p1, q1⟩ := K4.out.c2
      rcases Int.lt_or_gt_of_ne HX0.out with hx | hx
      · have f0 : sg x = -1 := sg_neg hx
        rw [f0] at p0
        have HT2 : Hid (textZ x = 45 :: S) := by show _ = _; rw [textZ_tx, if_pos hx, HS.out]
        have hS1 : ¬ 9223372036854775807 < 1 + S.length := by have := HSL.out; omega
        clear hx
        go_wp2_with fail
        go_ret
        refine ⟨?_, HE.out⟩
        rw [HT2.out]
        exact congrArg (fun x => Ending.returned (.string x)) (ba_app [45] S)
      · have f0 : sg x = 1 := sg_pos hx
        rw [f0] at p0
        have HT2 : Hid (textZ x = S) := by show _ = _; rw [textZ_tx, if_neg (by omega), if_neg HX0.out, HS.out]
        clear hx
        go_wp2_with fail
        go_ret
        exact ⟨by rw [HT2.out]; rfl, HE.out⟩
    · have hpos := lnN_pos hk
      have e1 : decide (0 < lnN gk) = true := by simpa using hpos
      have e2 : decide (0 < ((lnN gk : Nat) : Int)) = true := by simpa using hpos
      obtain ⟨q, hq⟩ : ∃ q, gk / 10 = q := ⟨_, rfl⟩
      obtain ⟨r, hr⟩ : ∃ r, gk % 10 = r := ⟨_, rfl⟩
      go_wp2_with fail
      refine (rtenth_n HR.out (by omega) hq hr).mono ?_
      rintro e w3 ⟨b, d, rfl, hrd, hb⟩
      have hr5 : r < 10 := by omega
      have HRD := Lib.hid hrd
      have HB3 := Lib.hid (HB.out.trans (hb.mono HB.out.size))
      have HN := Lib.hid (tx_next hk hq hr HP.out)
      have hlt : q < gk := by omega
      have HKQ : Hid (q ≤ x.natAbs) := by show _ ≤ _; have := HK.out; omega
      have hS2 : ¬ 9223372036854775807 < 1 + S.length := by have := HSL.out; omega
      clear hrd hb hq hr
      have HL := Lib.hid (lit_digit hr5)
      go_wp2_with fail
      go_roundg q
      case measure => omega
      case rel => exact ⟨b, d, UInt8.ofNat (48 + r) :: S, by first | rfl | (rw [HL.out]; exact congrArg Value.string (ba_app [_] S)), rfl, HKQ.out, HRD.out, HN.out, HB3.out⟩
end Go.Proofs.YtcfmakpckdicjaaGreatDoor
