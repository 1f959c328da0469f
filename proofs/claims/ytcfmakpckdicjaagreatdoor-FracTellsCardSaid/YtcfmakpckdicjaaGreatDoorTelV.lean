/- What a text is read as by the reference: what the program reads it as. -/
import Derived.Test.YtcfmakpckdicjaaGreatDoorBase
import Derived.Test.YtcfmakpckdicjaaGreatDoorBigSpec
import Derived.Test.YtcfmakpckdicjaaGreatDoorBigB
import Derived.Test.YtcfmakpckdicjaaGreatDoorBigD
import Derived.Test.YtcfmakpckdicjaaGreatDoorBigK
import Derived.Test.YtcfmakpckdicjaaGreatDoorBigQ
import Derived.Test.YtcfmakpckdicjaaGreatDoorFracA
import Derived.Test.YtcfmakpckdicjaaGreatDoorRefE
import Derived.Test.YtcfmakpckdicjaaGreatDoorRefN
import Derived.Test.YtcfmakpckdicjaaGreatDoorHeld
import Derived.Test.YtcfmakpckdicjaaGreatDoorAw
import Derived.Test.YtcfmakpckdicjaaGreatDoorBigDec
import Derived.Test.YtcfmakpckdicjaaGreatDoorBigRead
import Derived.Test.YtcfmakpckdicjaaGreatDoorBigRead3
import Derived.Test.YtcfmakpckdicjaaGreatDoorProg
import Derived.Test.YtcfmakpckdicjaaGreatDoorShelf
import Derived.WalkKit
import Derived.WalkSpells
import Derived.WalkLawsBesides
import Derived.Handy
import Derived.Lib.Hide
import Derived.Lib.Strings
import Derived.Lib.Builder
import Derived.BigQuiet
import Derived.OwnWalk
import Derived.Laws.BitsLemmas
import Derived.WalkSmall
import Derived.Deep.QuietTactic
import Derived.StillTailTactics
import Derived.Maps.AppendAt
import Derived.IntWalk
import Derived.Deep.RegionHeld3
import Derived.Deep.DeepFit
import Derived.Deep.LoopGhost
import Derived.Deep.DeepCutAuto
import Derived.Lib.ItoaNum
import Derived.Lib.Repeat
import Derived.Lib.AppendIntMem
import Derived.Sort.OwnSorted
import Derived.Shelf.Strings.SlTrimAscii
import Derived.Lib.ConvBytes
namespace Go.Proofs.YtcfmakpckdicjaaGreatDoor
open Go.RowKit Go.Lib
variable {G : Nat}

/-- Digits of the call's own. -/
def Dn (w : World) (v : Value) (n : Nat) : Prop := ∃ B, OwnN w B v (digs n)
theorem Dn.keep {w w' : World} {v : Value} {n : Nat} (h : Dn w v n) (hb : Below w.heap.size w w') : Dn w' v n := h.elim fun B h => ⟨B, h.keep hb⟩
instance {w w' : World} {v : Value} {n : Nat} : Goes (Dn w v n) w w' (Dn w' v n) := ⟨fun h hb => h.keep hb⟩
theorem Dn.nil (w : World) : Dn w (.slice none 0 0) 0 := ⟨0, World.ownsRow_nil _ _ _ _⟩
theorem lit_rd {w : World} {A d : Nat} (h : Bx w A 3 #[.int .i64 (d : Int)]) : RdN w (.slice (some ⟨A, 0, none⟩) 1 1) [d] := by
  refine ⟨some ⟨A, 0, none⟩, 1, rfl, fun k hk => ⟨A, 0, rfl, h.lt, fun j u hj => ?_⟩⟩
  have hk' : k < 1 := by simpa [ints] using hk
  obtain rfl : k = 0 := by omega
  dsimp only at hj
  have hj0 : j = 0 := by
    rcases Nat.eq_zero_or_pos j with h0 | h0
    · exact h0
    · rw [show ((ints [d])[0]?.map fun d => [Value.int .i64 d]).getD [] = [Value.int .i64 (d : Int)] from rfl, List.getElem?_eq_none (by simp; omega)] at hj; cases hj
  subst hj0
  have hu : Value.int .i64 (d : Int) = u := by simpa [ints] using hj
  rw [← hu]; exact h.at.1 0
theorem rtimes_ten {v : Value} {p : Option Addr} {A n m : Nat} {w : World} (h : Dn w v n) (hp : p = some ⟨A, 0, none⟩) (hl : Bx w A 3 #[.int .i64 10]) (hn : lnN n ≤ 1000001) (hm : n * 10 = m) :
  Calls Tryz.prog 84 #[v, .slice p 1 1] w fun e w' => ∃ v', e = .returned v' ∧ Dn w' v' m ∧ Below w.heap.size w w' := by
 obtain ⟨B, h⟩ := h
 subst hm hp
 refine (rtimes_ok _ _ (digs n) [10] w h.rd (lit_rd (d := 10) hl) (digs_small _) (small_one (by omega)) (Nat.le_trans hn (by decide)) (by simp)).mono ?_
 rintro e w' ⟨v', rfl, ho, hb⟩
 rw [val_digs, show val [10] = 10 from rfl] at ho
 exact ⟨v', rfl, ⟨_, ho⟩, hb⟩
theorem rtrim_one {p : Option Addr} {A d : Nat} {w : World} (hp : p = some ⟨A, 0, none⟩) (hl : Bx w A 3 #[.int .i64 (d : Int)]) (hd : d < 10) :
  Calls Tryz.prog 92 #[.slice p 1 1] w fun e w' => ∃ v', e = .returned v' ∧ Dn w' v' d ∧ Below w.heap.size w w' := by
 subst hp
 refine (refTrim_ok _ 1 [d] w (lit_rd hl) (small_one (by omega)) (by simp) (by simp)).mono ?_
 rintro e w' ⟨v', rfl, ho, hb⟩
 rw [show val [d] = d by simp [val]] at ho
 exact ⟨v', rfl, ⟨_, ho⟩, hb⟩
theorem rplus_d {u v : Value} {n m k : Nat} {w : World} (h1 : Dn w u n) (h2 : Dn w v m) (hn : lnN n ≤ 1000002) (hm : lnN m ≤ 1000002) (hk : n + m = k) :
  Calls Tryz.prog 85 #[u, v] w fun e w' => ∃ v', e = .returned v' ∧ Dn w' v' k ∧ Below w.heap.size w w' := by
 obtain ⟨B, h1⟩ := h1; obtain ⟨C, h2⟩ := h2
 subst hk
 refine (plus_ok _ _ (digs n) (digs m) w h1.rd h2.rd (digs_small _) (digs_small _) (Nat.le_trans hn (by decide)) (Nat.le_trans hm (by decide))).mono ?_
 rintro e w' ⟨v', rfl, ho, hb⟩
 rw [val_digs, val_digs] at ho
 exact ⟨v', rfl, ⟨_, ho⟩, hb⟩
theorem rmade_d {s z : Int} {v : Value} {n : Nat} {w : World} (h : Dn w v n) (hn : lnN n ≤ 1000002) (hz : s * n = z) (h1 : s = 1 ∨ s = -1) :
  Calls Tryz.prog 83 #[.int .i64 s, v] w fun e w' => ∃ a c, e = .returned (.agg #[.int .i64 (sg z), .slice a (ln z) c]) ∧ BD G w' a c z ∧ Below w.heap.size w w' := by
 obtain ⟨B, h⟩ := h
 exact made_own_any (G := G) h (digs_small _) (Nat.le_trans hn (by decide)) (val_digs n) hz (fun _ => h1)
theorem dg_small8 {d : UInt8} (h : isDg d = true) : IntKind.u8.wrap ((d.toNat : Int) - 48) = ((dgv d : Nat) : Int) ∧ IntKind.i64.wrap ((dgv d : Nat) : Int) = ((dgv d : Nat) : Int) ∧ dgv d < 10 := by
 have h1 := (isDg_bounds h).1
 exact ⟨dg_wrap h, IntWalk.i64_in _ (by omega), h1⟩
theorem isDg_or {c : UInt8} {b1 b2 : Bool} (h1 : decide ((c.toNat : Int) < 48) = b1) (h2 : decide ((57 : Int) < (c.toNat : Int)) = b2) : isDg c = !(b1 || b2) := by
 unfold isDg
 have e1 : decide ((48 : UInt8) ≤ c) = !b1 := by
  rw [← h1, ← decide_not]; apply decide_eq_decide.2
  rw [UInt8.le_iff_toNat_le]; show 48 ≤ _ ↔ _; omega
 have e2 : decide (c ≤ (57 : UInt8)) = !b2 := by
  rw [← h2, ← decide_not]; apply decide_eq_decide.2
  rw [UInt8.le_iff_toNat_le]; show _ ≤ 57 ↔ _; omega
 rw [e1, e2]; cases b1 <;> cases b2 <;> rfl
theorem ba_len (T : ByteArray) : T.data.toList.length = T.size := rfl
theorem ba_get {T : ByteArray} {k : Nat} (h : k < T.size) : T.data.toList[k]'(by rw [ba_len]; exact h) = T[k] := rfl
theorem all_hit {T : ByteArray} {k : Nat} (h : k < T.size) (hd : isDg T[k] = false) : T.data.toList.all isDg = false := by
 cases hq : T.data.toList.all isDg with
 | false => rfl
 | true =>
  have := List.all_eq_true.1 hq _ (List.getElem_mem (by rw [ba_len]; exact h : k < T.data.toList.length))
  rw [ba_get h, hd] at this; cases this
theorem all_step {T : ByteArray} {k : Nat} (h : k < T.size) (ha : (T.data.toList.take k).all isDg = true) (hd : isDg T[k] = true) : (T.data.toList.take (k + 1)).all isDg = true := by
 rw [List.take_succ_eq_append_getElem (by rw [ba_len]; exact h), List.all_append, ha, ba_get h]
 simp [hd]
theorem all_done {T : ByteArray} {k : Nat} (h : T.size ≤ k) (ha : (T.data.toList.take k).all isDg = true) : T.data.toList.all isDg = true := by
 rw [List.take_of_length_le (by rw [ba_len]; exact h)] at ha; exact ha
theorem dec_next {T : ByteArray} {k v : Nat} (h : k < T.size) (hv : decVal (T.data.toList.take k) = v) : v * 10 + dgv T[k] = decVal (T.data.toList.take (k + 1)) := by
 rw [List.take_succ_eq_append_getElem (by rw [ba_len]; exact h), decVal_snoc, hv, ba_get h]
theorem dec_done {T : ByteArray} {k v : Nat} (h : T.size ≤ k) (hv : decVal (T.data.toList.take k) = v) : decVal T.data.toList = v := by
 rw [List.take_of_length_le (by rw [ba_len]; exact h)] at hv; exact hv
theorem dec_fits {T : ByteArray} {k v : Nat} (ha : T.data.toList.all isDg = true) (hv : decVal (T.data.toList.take k) = v) (hk : k ≤ 1000000) : lnN v ≤ 1000000 := by
 rw [← hv]; exact dec_room (all_take ha k) hk
theorem lnN_ten {v m : Nat} (h : lnN v ≤ 1000000) (hm : v * 10 = m) : lnN m ≤ 1000001 := by
 subst hm
 have := digs_len_mul_one (a := v) (b := 10) (by omega)
 show (digs _).length ≤ _
 have : (digs v).length ≤ 1000000 := h
 omega
theorem lnN_dig {d : Nat} (h : d < 10) : lnN d ≤ 1000002 := by
 have := digs_len_of_lt (n := d) (k := 1) (by omega)
 show (digs d).length ≤ _; omega
theorem ba_ne_nil {T : ByteArray} (h : 0 < T.size) : T.toList.isEmpty = false := by
 rw [Lib.toList_data]
 have : T.data.toList.length = T.size := rfl
 cases hq : T.data.toList with
 | nil => rw [hq] at this; simp at this; omega
 | cons a b => rfl
theorem all_get {T : ByteArray} {j : Nat} (ha : T.data.toList.all isDg = true) (h : j < T.size) : isDg T[j] = true := by
 have := List.all_eq_true.1 ha _ (List.getElem_mem (by rw [ba_len]; exact h : j < T.data.toList.length))
 rwa [ba_get h] at this
set_option maxRecDepth 100000 in
set_option maxHeartbeats 8000000 in
theorem rread_pos {T : ByteArray} {z er : Int} {b48 bS : Bool} {w : World} (_hG : G ≤ w.heap.size) (hs0 : 0 < T.size) (hsz : T.size ≤ 1000000) (_hp1 : ((T[0].toNat : Int) == 45) = false) (_hb48 : ((T[0].toNat : Int) == 48) = b48) (_hbS : (T.toList == [48]) = !bS) (hc1 : (b48 && bS) = true → z = 0 ∧ er = 2) (hc2 : T.data.toList.all isDg = false → z = 0 ∧ er = 2) (hc3 : (b48 && bS) = false → T.data.toList.all isDg = true → er = 0 ∧ z = 1 * (decVal T.data.toList : Int)) :
  Calls Tryz.prog 59 #[.string T] w fun e w' => ∃ a c, e = .returned (.tuple #[.agg #[.int .i64 (sg z), .slice a (ln z) c], .int .i64 er]) ∧ BD G w' a c z ∧ Below w.heap.size w w' := by
 have HSZ := Lib.hid hsz; have HC1 := Lib.hid hc1; have HC2 := Lib.hid hc2; have HC3 := Lib.hid hc3
 clear hc1 hc2 hc3
 have e10 : decide (0 < T.size) = true := decide_eq_true hs0
 have e10i : decide ((0 : Int) < (T.size : Int)) = true := decide_eq_true (by omega)
 have e11 : T.toList.isEmpty = false := ba_ne_nil hs0
 have M : Hid (Below w.heap.size w w) := Below.refl _ _
 go_enter Tryz.func59, Tryz.ntmps59
 go_upto_region 1 with fail
 refine nmW (w.alloc (.cells #[.int .i64 0, .slice none 0 0] 24)) fun w1 hv => ?_
 rw [← hv]
 replace M := alM hv M
 clear hv
 cases b48 with
 | false =>
  go_upto_region 8 with fail
  have HB_ : Hid ((false && bS) = false) := rfl
  go_wp2_with fail
  go_loopw [6] (fun i6 wr => ∃ (k : Nat), i6 = .int .i64 (k : Int) ∧ Hid (k ≤ T.size) ∧ Hid ((T.data.toList.take k).all isDg = true) ∧ Hid (Bx wr w.heap.size 24 #[.int .i64 0, .slice none 0 0] ∧ Below w.heap.size w wr)) (fun i6 _ => T.size - (RowKit.intOf i6).toNat)
  case atStart =>
   exact ⟨0, rfl, (Nat.zero_le _), (by show _ = _; simp), Lib.hid (aI (M.out.1) (J1 M))⟩
  case round =>
   obtain ⟨w2, rfl⟩ : ∃ x, x = wr := ⟨_, rfl⟩
   clear M
   obtain ⟨k, rfl, hk, HA, M⟩ := hrel
   have hk := hk.out
   by_cases hlt : k < T.size
   ·
    have e1 : decide (k < T.size) = true := decide_eq_true hlt
    have e1i : decide ((k : Int) < (T.size : Int)) = true := decide_eq_true (by omega)
    obtain ⟨b1, hb1⟩ : ∃ b, decide ((T[k].toNat : Int) < 48) = b := ⟨_, rfl⟩
    obtain ⟨b2, hb2⟩ : ∃ b, decide ((57 : Int) < (T[k].toNat : Int)) = b := ⟨_, rfl⟩
    have HOD := Lib.hid (isDg_or hb1 hb2)
    have hi1_ : (k : Int) < (T.size : Int) := by omega
    have hi0_ : (0 : Int) ≤ (k : Int) := by omega
    cases b1 with
    | false =>
     cases b2 with
     | false =>
      go_wp2_with fail
      go_roundw
      case rel => exact ⟨(k + 1), by go_num, (by show _ ≤ _; omega), (all_step hlt HA.out HOD.out), Lib.hid (aI (M.out.1) (J1 M))⟩
      case measure => simp [RowKit.intOf] <;> omega
     | true =>
      go_upto_region 12 with fail
      obtain ⟨rfl, rfl⟩ := HC2.out (all_hit hlt (HOD.out.trans rfl))
      refine cj4 (M.out.1).c2 fun aa ab ac ad => ?_
      go_wp2_with fail
      clear aa ab ac ad
      have hz : w.heap.size ≤ w.heap.size := by exact Nat.le_refl _
      refine st2W (.int .i64 0) (.slice none 0 0) (M.out.1) (J1 M) hz fun w3 hv og hk hbw => ?_
      rw [← hv]
      replace M := Lib.hid (aI hk hbw)
      clear hk hbw og hv hz
      refine bodyPost_ret (results_box2 rfl _ _ w.heap.size 24 _ _ _ rfl (M.out.1) Tryz.underlying24 rfl (by kernel_rfl)) rfl ?_
      exact ⟨none, 0, rfl, bd_zero _ _ _, (J1 M)⟩
    | true =>
     go_upto_region 12 with fail
     obtain ⟨rfl, rfl⟩ := HC2.out (all_hit hlt (HOD.out.trans rfl))
     refine cj4 (M.out.1).c2 fun aa ab ac ad => ?_
     go_wp2_with fail
     clear aa ab ac ad
     have hz : w.heap.size ≤ w.heap.size := by exact Nat.le_refl _
     refine st2W (.int .i64 0) (.slice none 0 0) (M.out.1) (J1 M) hz fun w3 hv og hk hbw => ?_
     rw [← hv]
     replace M := Lib.hid (aI hk hbw)
     clear hk hbw og hv hz
     refine bodyPost_ret (results_box2 rfl _ _ w.heap.size 24 _ _ _ rfl (M.out.1) Tryz.underlying24 rfl (by kernel_rfl)) rfl ?_
     exact ⟨none, 0, rfl, bd_zero _ _ _, (J1 M)⟩
   ·
    have e1 : decide (k < T.size) = false := decide_eq_false hlt
    have e1i : decide ((k : Int) < (T.size : Int)) = false := decide_eq_false (by omega)
    have HDG := Lib.hid (all_done (by omega) HA.out)
    go_wp2_with fail
    go_loopw [7, 8] (fun i7 i8 wr => ∃ (j : Nat) (v : Nat) (vg : Value), vg = i7 ∧ i8 = .int .i64 (j : Int) ∧ Hid (j ≤ T.size) ∧ Hid (decVal (T.data.toList.take j) = v) ∧ Hid (Dn wr vg v ∧ Bx wr w.heap.size 24 #[.int .i64 0, .slice none 0 0] ∧ Below w.heap.size w wr)) (fun i7 i8 _ => T.size - (RowKit.intOf i8).toNat)
    case atStart =>
     exact ⟨0, 0, (.slice none 0 0), rfl, rfl, (Nat.zero_le _), (by show _ = _; rfl), Lib.hid (aI (Dn.nil _) (aI (M.out.1) (J1 M)))⟩
    case round =>
     obtain ⟨w3, rfl⟩ : ∃ x, x = wr := ⟨_, rfl⟩
     clear M
     obtain ⟨j, v, vg, rfl, rfl, hj, HV, M⟩ := hrel
     have hj := hj.out
     by_cases hlt2 : j < T.size
     ·
      have f1 : decide (j < T.size) = true := decide_eq_true hlt2
      have f1i : decide ((j : Int) < (T.size : Int)) = true := decide_eq_true (by omega)
      have hi1_ : (j : Int) < (T.size : Int) := by omega
      have hi0_ : (0 : Int) ≤ (j : Int) := by omega
      have HDJ := Lib.hid (all_get HDG.out hlt2)
      obtain ⟨dd, hdd⟩ : ∃ d, dgv T[j] = d := ⟨_, rfl⟩
      obtain ⟨m, hm⟩ : ∃ m, v * 10 = m := ⟨_, rfl⟩
      obtain ⟨v2, hv2⟩ : ∃ u, m + dd = u := ⟨_, rfl⟩
      have HNX : Hid (decVal (T.data.toList.take (j + 1)) = v2) := by show _ = _; rw [← dec_next hlt2 HV.out, hdd, hm, hv2]
      obtain ⟨g1, g2, g3⟩ := dg_small8 HDJ.out
      rw [hdd] at g1 g2 g3
      have HLV := Lib.hid (dec_fits HDG.out HV.out (by have := HSZ.out; omega))
      have HLM := Lib.hid (lnN_ten HLV.out hm)
      have HM := Lib.hid hm; have HV2 := Lib.hid hv2
      clear hm hv2 hdd
      go_wp2_with fail
      refine nmW w3.drew fun w4 hv => ?_
      replace M := drM hv M
      refine wp_region_held_drew (S := (fun _ => True)) (by kernel_rfl) trivial (fun hH7 => ?_)
      rw [← hv]
      clear hv
      refine tk at0 ?_
      refine tk at3 ?_
      refine tk at4 ?_
      refine wpAnyH_ready (rs := [1, 5]) (by kernel_rfl) (by simp) ?_
      refine AllReadyH.cons at1 (fun K hK => ?_) ?_
      ·
       go_simp
       refine nmW (w4.alloc (.cells #[.int .i64 10] 3)) fun w5 hv => ?_
       rw [← hv]
       have ow1_ : w.heap.size < w4.heap.size := ((J1 M).1).lt
       replace M := alM hv M
       clear hv
       refine hK.out _ _ (trivial) (fun hH8 => ?_)
       clear hK K hH7
       (try simp only [Act.put, List.setIfInBounds_toArray, List.set_cons_zero, List.set_cons_succ])
       refine wpAnyH_ready (rs := [2, 5]) (by kernel_rfl) (by simp) ?_
       refine AllReadyH.cons at2 (fun K hK => ?_) ?_
       ·
        go_simp
        refine (rtimes_ten (J1 M).1 rfl (M.out.1) (Nat.le_trans HLV.out (by decide)) HM.out).mono ?_
        rintro e w6 ⟨v_9, rfl, hd10, hb⟩
        replace M := adM hd10 hb M
        clear hb hd10
        (try go_wp2_with fail)
        refine hK.out _ _ (trivial) (fun hH11 => ?_)
        clear hK K hH8
        (try simp only [Act.put, List.setIfInBounds_toArray, List.set_cons_zero, List.set_cons_succ])
        refine wpAnyH_ready (rs := [5]) (by kernel_rfl) (by simp) ?_
        refine AllReadyH.cons at5 (fun K hK => ?_) AllReadyH.nil
        go_simp
        refine hK.out _ _ (trivial) (fun hH12 => ?_)
        clear hK K hH11
        (try simp only [Act.put, List.setIfInBounds_toArray, List.set_cons_zero, List.set_cons_succ])
        refine tk at6 ?_
        refine tk at7 ?_
        refine wpAnyH_ready (rs := [8]) (by kernel_rfl) (by simp) ?_
        refine AllReadyH.cons at8 (fun K hK => ?_) AllReadyH.nil
        go_simp
        refine nmW (w6.alloc (.cells #[.int .i64 (dd : Int)] 3)) fun w7 hv => ?_
        rw [← hv]
        have ow2_ : w4.heap.size < w6.heap.size := ((J1 M).1).lt
        replace M := alM hv M
        clear hv
        refine hK.out _ _ (trivial) (fun hH13 => ?_)
        clear hK K hH12
        (try simp only [Act.put, List.setIfInBounds_toArray, List.set_cons_zero, List.set_cons_succ])
        refine wpAnyH_ready (rs := [9]) (by kernel_rfl) (by simp) ?_
        refine AllReadyH.cons at9 (fun K hK => ?_) AllReadyH.nil
        go_simp
        refine (rtrim_one rfl (M.out.1) g3).mono ?_
        rintro e w8 ⟨v_14, rfl, hd15, hb⟩
        replace M := adM hd15 hb M
        clear hb hd15
        (try go_wp2_with fail)
        refine hK.out _ _ (trivial) (fun hH16 => ?_)
        clear hK K hH13
        (try simp only [Act.put, List.setIfInBounds_toArray, List.set_cons_zero, List.set_cons_succ])
        refine wpAnyH_ready (rs := [10]) (by kernel_rfl) (by simp) ?_
        refine AllReadyH.cons at10 (fun K hK => ?_) AllReadyH.nil
        go_simp
        refine (rplus_d (J2 M).1 (M.out.1) (Nat.le_trans HLM.out (by decide)) (lnN_dig g3) HV2.out).mono ?_
        rintro e w9 ⟨v_17, rfl, hd18, hb⟩
        replace M := adM hd18 hb M
        clear hb hd18
        (try go_wp2_with fail)
        refine hK.out _ _ (trivial) (fun hH19 => ?_)
        clear hK K hH16
        (try simp only [Act.put, List.setIfInBounds_toArray, List.set_cons_zero, List.set_cons_succ])
        refine tk at11 ?_
        refine wpAnyH_done (by kernel_rfl) ?_ _
        clear hH19
        go_wp2_with fail
        go_roundw
        case rel => exact ⟨(j + 1), v2, v_17, rfl, by go_num, (by show _ ≤ _; omega), HNX, Lib.hid (aI (M.out.1) (aI (J6 M).1 (J7 M)))⟩
        case measure => simp [RowKit.intOf] <;> omega
       refine AllReadyH.cons at5 (fun K hK => ?_) AllReadyH.nil
       go_simp
       refine hK.out _ _ (trivial) (fun hH20 => ?_)
       clear hK K hH8
       (try simp only [Act.put, List.setIfInBounds_toArray, List.set_cons_zero, List.set_cons_succ])
       refine tk at6 ?_
       refine tk at7 ?_
       refine wpAnyH_ready (rs := [2, 8]) (by kernel_rfl) (by simp) ?_
       refine AllReadyH.cons at2 (fun K hK => ?_) ?_
       ·
        go_simp
        refine (rtimes_ten (J1 M).1 rfl (M.out.1) (Nat.le_trans HLV.out (by decide)) HM.out).mono ?_
        rintro e w6 ⟨v_21, rfl, hd22, hb⟩
        replace M := adM hd22 hb M
        clear hb hd22
        (try go_wp2_with fail)
        refine hK.out _ _ (trivial) (fun hH23 => ?_)
        clear hK K hH20
        (try simp only [Act.put, List.setIfInBounds_toArray, List.set_cons_zero, List.set_cons_succ])
        refine wpAnyH_ready (rs := [8]) (by kernel_rfl) (by simp) ?_
        refine AllReadyH.cons at8 (fun K hK => ?_) AllReadyH.nil
        go_simp
        refine nmW (w6.alloc (.cells #[.int .i64 (dd : Int)] 3)) fun w7 hv => ?_
        rw [← hv]
        have ow2_ : w4.heap.size < w6.heap.size := ((J1 M).1).lt
        replace M := alM hv M
        clear hv
        refine hK.out _ _ (trivial) (fun hH24 => ?_)
        clear hK K hH23
        (try simp only [Act.put, List.setIfInBounds_toArray, List.set_cons_zero, List.set_cons_succ])
        refine wpAnyH_ready (rs := [9]) (by kernel_rfl) (by simp) ?_
        refine AllReadyH.cons at9 (fun K hK => ?_) AllReadyH.nil
        go_simp
        refine (rtrim_one rfl (M.out.1) g3).mono ?_
        rintro e w8 ⟨v_25, rfl, hd26, hb⟩
        replace M := adM hd26 hb M
        clear hb hd26
        (try go_wp2_with fail)
        refine hK.out _ _ (trivial) (fun hH27 => ?_)
        clear hK K hH24
        (try simp only [Act.put, List.setIfInBounds_toArray, List.set_cons_zero, List.set_cons_succ])
        refine wpAnyH_ready (rs := [10]) (by kernel_rfl) (by simp) ?_
        refine AllReadyH.cons at10 (fun K hK => ?_) AllReadyH.nil
        go_simp
        refine (rplus_d (J2 M).1 (M.out.1) (Nat.le_trans HLM.out (by decide)) (lnN_dig g3) HV2.out).mono ?_
        rintro e w9 ⟨v_28, rfl, hd29, hb⟩
        replace M := adM hd29 hb M
        clear hb hd29
        (try go_wp2_with fail)
        refine hK.out _ _ (trivial) (fun hH30 => ?_)
        clear hK K hH27
        (try simp only [Act.put, List.setIfInBounds_toArray, List.set_cons_zero, List.set_cons_succ])
        refine tk at11 ?_
        refine wpAnyH_done (by kernel_rfl) ?_ _
        clear hH30
        go_wp2_with fail
        go_roundw
        case rel => exact ⟨(j + 1), v2, v_28, rfl, by go_num, (by show _ ≤ _; omega), HNX, Lib.hid (aI (M.out.1) (aI (J6 M).1 (J7 M)))⟩
        case measure => simp [RowKit.intOf] <;> omega
       refine AllReadyH.cons at8 (fun K hK => ?_) AllReadyH.nil
       go_simp
       refine nmW (w5.alloc (.cells #[.int .i64 (dd : Int)] 3)) fun w6 hv => ?_
       rw [← hv]
       have ow2_ : w4.heap.size < w5.heap.size := ((M.out.1)).lt
       replace M := alM hv M
       clear hv
       refine hK.out _ _ (trivial) (fun hH31 => ?_)
       clear hK K hH20
       (try simp only [Act.put, List.setIfInBounds_toArray, List.set_cons_zero, List.set_cons_succ])
       refine wpAnyH_ready (rs := [2]) (by kernel_rfl) (by simp) ?_
       refine AllReadyH.cons at2 (fun K hK => ?_) AllReadyH.nil
       go_simp
       refine (rtimes_ten (J2 M).1 rfl (J1 M).1 (Nat.le_trans HLV.out (by decide)) HM.out).mono ?_
       rintro e w7 ⟨v_32, rfl, hd33, hb⟩
       replace M := adM hd33 hb M
       clear hb hd33
       (try go_wp2_with fail)
       refine hK.out _ _ (trivial) (fun hH34 => ?_)
       clear hK K hH31
       (try simp only [Act.put, List.setIfInBounds_toArray, List.set_cons_zero, List.set_cons_succ])
       refine wpAnyH_ready (rs := [9]) (by kernel_rfl) (by simp) ?_
       refine AllReadyH.cons at9 (fun K hK => ?_) AllReadyH.nil
       go_simp
       refine (rtrim_one rfl (J1 M).1 g3).mono ?_
       rintro e w8 ⟨v_35, rfl, hd36, hb⟩
       replace M := adM hd36 hb M
       clear hb hd36
       (try go_wp2_with fail)
       refine hK.out _ _ (trivial) (fun hH37 => ?_)
       clear hK K hH34
       (try simp only [Act.put, List.setIfInBounds_toArray, List.set_cons_zero, List.set_cons_succ])
       refine wpAnyH_ready (rs := [10]) (by kernel_rfl) (by simp) ?_
       refine AllReadyH.cons at10 (fun K hK => ?_) AllReadyH.nil
       go_simp
       refine (rplus_d (J1 M).1 (M.out.1) (Nat.le_trans HLM.out (by decide)) (lnN_dig g3) HV2.out).mono ?_
       rintro e w9 ⟨v_38, rfl, hd39, hb⟩
       replace M := adM hd39 hb M
       clear hb hd39
       (try go_wp2_with fail)
       refine hK.out _ _ (trivial) (fun hH40 => ?_)
       clear hK K hH37
       (try simp only [Act.put, List.setIfInBounds_toArray, List.set_cons_zero, List.set_cons_succ])
       refine tk at11 ?_
       refine wpAnyH_done (by kernel_rfl) ?_ _
       clear hH40
       go_wp2_with fail
       go_roundw
       case rel => exact ⟨(j + 1), v2, v_38, rfl, by go_num, (by show _ ≤ _; omega), HNX, Lib.hid (aI (M.out.1) (aI (J6 M).1 (J7 M)))⟩
       case measure => simp [RowKit.intOf] <;> omega
      refine AllReadyH.cons at5 (fun K hK => ?_) AllReadyH.nil
      go_simp
      refine hK.out _ _ (trivial) (fun hH41 => ?_)
      clear hK K hH7
      (try simp only [Act.put, List.setIfInBounds_toArray, List.set_cons_zero, List.set_cons_succ])
      refine tk at6 ?_
      refine tk at7 ?_
      refine wpAnyH_ready (rs := [1, 8]) (by kernel_rfl) (by simp) ?_
      refine AllReadyH.cons at1 (fun K hK => ?_) ?_
      ·
       go_simp
       refine nmW (w4.alloc (.cells #[.int .i64 10] 3)) fun w5 hv => ?_
       rw [← hv]
       have ow1_ : w.heap.size < w4.heap.size := ((J1 M).1).lt
       replace M := alM hv M
       clear hv
       refine hK.out _ _ (trivial) (fun hH42 => ?_)
       clear hK K hH41
       (try simp only [Act.put, List.setIfInBounds_toArray, List.set_cons_zero, List.set_cons_succ])
       refine wpAnyH_ready (rs := [2, 8]) (by kernel_rfl) (by simp) ?_
       refine AllReadyH.cons at2 (fun K hK => ?_) ?_
       ·
        go_simp
        refine (rtimes_ten (J1 M).1 rfl (M.out.1) (Nat.le_trans HLV.out (by decide)) HM.out).mono ?_
        rintro e w6 ⟨v_43, rfl, hd44, hb⟩
        replace M := adM hd44 hb M
        clear hb hd44
        (try go_wp2_with fail)
        refine hK.out _ _ (trivial) (fun hH45 => ?_)
        clear hK K hH42
        (try simp only [Act.put, List.setIfInBounds_toArray, List.set_cons_zero, List.set_cons_succ])
        refine wpAnyH_ready (rs := [8]) (by kernel_rfl) (by simp) ?_
        refine AllReadyH.cons at8 (fun K hK => ?_) AllReadyH.nil
        go_simp
        refine nmW (w6.alloc (.cells #[.int .i64 (dd : Int)] 3)) fun w7 hv => ?_
        rw [← hv]
        have ow2_ : w4.heap.size < w6.heap.size := ((J1 M).1).lt
        replace M := alM hv M
        clear hv
        refine hK.out _ _ (trivial) (fun hH46 => ?_)
        clear hK K hH45
        (try simp only [Act.put, List.setIfInBounds_toArray, List.set_cons_zero, List.set_cons_succ])
        refine wpAnyH_ready (rs := [9]) (by kernel_rfl) (by simp) ?_
        refine AllReadyH.cons at9 (fun K hK => ?_) AllReadyH.nil
        go_simp
        refine (rtrim_one rfl (M.out.1) g3).mono ?_
        rintro e w8 ⟨v_47, rfl, hd48, hb⟩
        replace M := adM hd48 hb M
        clear hb hd48
        (try go_wp2_with fail)
        refine hK.out _ _ (trivial) (fun hH49 => ?_)
        clear hK K hH46
        (try simp only [Act.put, List.setIfInBounds_toArray, List.set_cons_zero, List.set_cons_succ])
        refine wpAnyH_ready (rs := [10]) (by kernel_rfl) (by simp) ?_
        refine AllReadyH.cons at10 (fun K hK => ?_) AllReadyH.nil
        go_simp
        refine (rplus_d (J2 M).1 (M.out.1) (Nat.le_trans HLM.out (by decide)) (lnN_dig g3) HV2.out).mono ?_
        rintro e w9 ⟨v_50, rfl, hd51, hb⟩
        replace M := adM hd51 hb M
        clear hb hd51
        (try go_wp2_with fail)
        refine hK.out _ _ (trivial) (fun hH52 => ?_)
        clear hK K hH49
        (try simp only [Act.put, List.setIfInBounds_toArray, List.set_cons_zero, List.set_cons_succ])
        refine tk at11 ?_
        refine wpAnyH_done (by kernel_rfl) ?_ _
        clear hH52
        go_wp2_with fail
        go_roundw
        case rel => exact ⟨(j + 1), v2, v_50, rfl, by go_num, (by show _ ≤ _; omega), HNX, Lib.hid (aI (M.out.1) (aI (J6 M).1 (J7 M)))⟩
        case measure => simp [RowKit.intOf] <;> omega
       refine AllReadyH.cons at8 (fun K hK => ?_) AllReadyH.nil
       go_simp
       refine nmW (w5.alloc (.cells #[.int .i64 (dd : Int)] 3)) fun w6 hv => ?_
       rw [← hv]
       have ow2_ : w4.heap.size < w5.heap.size := ((M.out.1)).lt
       replace M := alM hv M
       clear hv
       refine hK.out _ _ (trivial) (fun hH53 => ?_)
       clear hK K hH42
       (try simp only [Act.put, List.setIfInBounds_toArray, List.set_cons_zero, List.set_cons_succ])
       refine wpAnyH_ready (rs := [2]) (by kernel_rfl) (by simp) ?_
       refine AllReadyH.cons at2 (fun K hK => ?_) AllReadyH.nil
       go_simp
       refine (rtimes_ten (J2 M).1 rfl (J1 M).1 (Nat.le_trans HLV.out (by decide)) HM.out).mono ?_
       rintro e w7 ⟨v_54, rfl, hd55, hb⟩
       replace M := adM hd55 hb M
       clear hb hd55
       (try go_wp2_with fail)
       refine hK.out _ _ (trivial) (fun hH56 => ?_)
       clear hK K hH53
       (try simp only [Act.put, List.setIfInBounds_toArray, List.set_cons_zero, List.set_cons_succ])
       refine wpAnyH_ready (rs := [9]) (by kernel_rfl) (by simp) ?_
       refine AllReadyH.cons at9 (fun K hK => ?_) AllReadyH.nil
       go_simp
       refine (rtrim_one rfl (J1 M).1 g3).mono ?_
       rintro e w8 ⟨v_57, rfl, hd58, hb⟩
       replace M := adM hd58 hb M
       clear hb hd58
       (try go_wp2_with fail)
       refine hK.out _ _ (trivial) (fun hH59 => ?_)
       clear hK K hH56
       (try simp only [Act.put, List.setIfInBounds_toArray, List.set_cons_zero, List.set_cons_succ])
       refine wpAnyH_ready (rs := [10]) (by kernel_rfl) (by simp) ?_
       refine AllReadyH.cons at10 (fun K hK => ?_) AllReadyH.nil
       go_simp
       refine (rplus_d (J1 M).1 (M.out.1) (Nat.le_trans HLM.out (by decide)) (lnN_dig g3) HV2.out).mono ?_
       rintro e w9 ⟨v_60, rfl, hd61, hb⟩
       replace M := adM hd61 hb M
       clear hb hd61
       (try go_wp2_with fail)
       refine hK.out _ _ (trivial) (fun hH62 => ?_)
       clear hK K hH59
       (try simp only [Act.put, List.setIfInBounds_toArray, List.set_cons_zero, List.set_cons_succ])
       refine tk at11 ?_
       refine wpAnyH_done (by kernel_rfl) ?_ _
       clear hH62
       go_wp2_with fail
       go_roundw
       case rel => exact ⟨(j + 1), v2, v_60, rfl, by go_num, (by show _ ≤ _; omega), HNX, Lib.hid (aI (M.out.1) (aI (J6 M).1 (J7 M)))⟩
       case measure => simp [RowKit.intOf] <;> omega
      refine AllReadyH.cons at8 (fun K hK => ?_) AllReadyH.nil
      go_simp
      refine nmW (w4.alloc (.cells #[.int .i64 (dd : Int)] 3)) fun w5 hv => ?_
      rw [← hv]
      have ow1_ : w.heap.size < w4.heap.size := ((J1 M).1).lt
      replace M := alM hv M
      clear hv
      refine hK.out _ _ (trivial) (fun hH63 => ?_)
      clear hK K hH41
      (try simp only [Act.put, List.setIfInBounds_toArray, List.set_cons_zero, List.set_cons_succ])
      refine wpAnyH_ready (rs := [1]) (by kernel_rfl) (by simp) ?_
      refine AllReadyH.cons at1 (fun K hK => ?_) AllReadyH.nil
      go_simp
      refine nmW (w5.alloc (.cells #[.int .i64 10] 3)) fun w6 hv => ?_
      rw [← hv]
      have ow2_ : w4.heap.size < w5.heap.size := ((M.out.1)).lt
      replace M := alM hv M
      clear hv
      refine hK.out _ _ (trivial) (fun hH64 => ?_)
      clear hK K hH63
      (try simp only [Act.put, List.setIfInBounds_toArray, List.set_cons_zero, List.set_cons_succ])
      refine wpAnyH_ready (rs := [2]) (by kernel_rfl) (by simp) ?_
      refine AllReadyH.cons at2 (fun K hK => ?_) AllReadyH.nil
      go_simp
      refine (rtimes_ten (J2 M).1 rfl (M.out.1) (Nat.le_trans HLV.out (by decide)) HM.out).mono ?_
      rintro e w7 ⟨v_65, rfl, hd66, hb⟩
      replace M := adM hd66 hb M
      clear hb hd66
      (try go_wp2_with fail)
      refine hK.out _ _ (trivial) (fun hH67 => ?_)
      clear hK K hH64
      (try simp only [Act.put, List.setIfInBounds_toArray, List.set_cons_zero, List.set_cons_succ])
      refine wpAnyH_ready (rs := [9]) (by kernel_rfl) (by simp) ?_
      refine AllReadyH.cons at9 (fun K hK => ?_) AllReadyH.nil
      go_simp
      refine (rtrim_one rfl (J2 M).1 g3).mono ?_
      rintro e w8 ⟨v_68, rfl, hd69, hb⟩
      replace M := adM hd69 hb M
      clear hb hd69
      (try go_wp2_with fail)
      refine hK.out _ _ (trivial) (fun hH70 => ?_)
      clear hK K hH67
      (try simp only [Act.put, List.setIfInBounds_toArray, List.set_cons_zero, List.set_cons_succ])
      refine wpAnyH_ready (rs := [10]) (by kernel_rfl) (by simp) ?_
      refine AllReadyH.cons at10 (fun K hK => ?_) AllReadyH.nil
      go_simp
      refine (rplus_d (J1 M).1 (M.out.1) (Nat.le_trans HLM.out (by decide)) (lnN_dig g3) HV2.out).mono ?_
      rintro e w9 ⟨v_71, rfl, hd72, hb⟩
      replace M := adM hd72 hb M
      clear hb hd72
      (try go_wp2_with fail)
      refine hK.out _ _ (trivial) (fun hH73 => ?_)
      clear hK K hH70
      (try simp only [Act.put, List.setIfInBounds_toArray, List.set_cons_zero, List.set_cons_succ])
      refine tk at11 ?_
      refine wpAnyH_done (by kernel_rfl) ?_ _
      clear hH73
      go_wp2_with fail
      go_roundw
      case rel => exact ⟨(j + 1), v2, v_71, rfl, by go_num, (by show _ ≤ _; omega), HNX, Lib.hid (aI (M.out.1) (aI (J6 M).1 (J7 M)))⟩
      case measure => simp [RowKit.intOf] <;> omega
     ·
      have f1 : decide (j < T.size) = false := decide_eq_false hlt2
      have f1i : decide ((j : Int) < (T.size : Int)) = false := decide_eq_false (by omega)
      have HFIN := Lib.hid (dec_done (by omega) HV.out)
      have HLF := Lib.hid (dec_fits HDG.out HV.out (by have := HSZ.out; omega))
      obtain ⟨rfl, hz3⟩ := HC3.out HB_.out HDG.out
      have HZ3 := Lib.hid hz3; clear hz3
      have HZF : Hid (1 * (v : Int) = z) := by show _ = _; rw [HZ3.out, HFIN.out]
      have HDN := Lib.hid (M.out.1)
      replace M := Lib.hid (aI (J1 M).1 (J2 M))
      go_wp2_with fail
      refine (rmade_d (G := G) (s := 1) (z := z) HDN.out (Nat.le_trans HLF.out (by decide)) HZF.out (by decide)).mono ?_
      rintro e w4 ⟨a_74, c_75, rfl, hd76, hb⟩
      replace M := adM hd76 hb M
      clear hb hd76
      refine cj4 (J1 M).1.c2 fun aa ab ac ad => ?_
      go_wp2_with fail
      clear aa ab ac ad
      have hz : w.heap.size ≤ w.heap.size := by exact Nat.le_refl _
      refine st2W (.int .i64 (sg z)) (.slice a_74 (ln z) c_75) (J1 M).1 (J2 M) hz fun w5 hv og hk hbw => ?_
      rw [← hv]
      replace M := Lib.hid (aI ((M.out.1).far (J1 M).1 (by rfl) (by omega) og) (aI hk hbw))
      clear hk hbw og hv hz
      refine bodyPost_ret (results_box2 rfl _ _ w.heap.size 24 _ _ _ rfl (J1 M).1 Tryz.underlying24 rfl (by kernel_rfl)) rfl ?_
      exact ⟨a_74, c_75, rfl, (M.out.1), (J2 M)⟩
 | true =>
  cases bS with
  | false =>
   go_upto_region 8 with fail
   have HB_ : Hid ((true && false) = false) := rfl
   go_wp2_with fail
   go_loopw [6] (fun i6 wr => ∃ (k : Nat), i6 = .int .i64 (k : Int) ∧ Hid (k ≤ T.size) ∧ Hid ((T.data.toList.take k).all isDg = true) ∧ Hid (Bx wr w.heap.size 24 #[.int .i64 0, .slice none 0 0] ∧ Below w.heap.size w wr)) (fun i6 _ => T.size - (RowKit.intOf i6).toNat)
   case atStart =>
    exact ⟨0, rfl, (Nat.zero_le _), (by show _ = _; simp), Lib.hid (aI (M.out.1) (J1 M))⟩
   case round =>
    obtain ⟨w2, rfl⟩ : ∃ x, x = wr := ⟨_, rfl⟩
    clear M
    obtain ⟨k, rfl, hk, HA, M⟩ := hrel
    have hk := hk.out
    by_cases hlt : k < T.size
    ·
     have e1 : decide (k < T.size) = true := decide_eq_true hlt
     have e1i : decide ((k : Int) < (T.size : Int)) = true := decide_eq_true (by omega)
     obtain ⟨b1, hb1⟩ : ∃ b, decide ((T[k].toNat : Int) < 48) = b := ⟨_, rfl⟩
     obtain ⟨b2, hb2⟩ : ∃ b, decide ((57 : Int) < (T[k].toNat : Int)) = b := ⟨_, rfl⟩
     have HOD := Lib.hid (isDg_or hb1 hb2)
     have hi1_ : (k : Int) < (T.size : Int) := by omega
     have hi0_ : (0 : Int) ≤ (k : Int) := by omega
     cases b1 with
     | false =>
      cases b2 with
      | false =>
       go_wp2_with fail
       go_roundw
       case rel => exact ⟨(k + 1), by go_num, (by show _ ≤ _; omega), (all_step hlt HA.out HOD.out), Lib.hid (aI (M.out.1) (J1 M))⟩
       case measure => simp [RowKit.intOf] <;> omega
      | true =>
       go_upto_region 12 with fail
       obtain ⟨rfl, rfl⟩ := HC2.out (all_hit hlt (HOD.out.trans rfl))
       refine cj4 (M.out.1).c2 fun aa ab ac ad => ?_
       go_wp2_with fail
       clear aa ab ac ad
       have hz : w.heap.size ≤ w.heap.size := by exact Nat.le_refl _
       refine st2W (.int .i64 0) (.slice none 0 0) (M.out.1) (J1 M) hz fun w3 hv og hk hbw => ?_
       rw [← hv]
       replace M := Lib.hid (aI hk hbw)
       clear hk hbw og hv hz
       refine bodyPost_ret (results_box2 rfl _ _ w.heap.size 24 _ _ _ rfl (M.out.1) Tryz.underlying24 rfl (by kernel_rfl)) rfl ?_
       exact ⟨none, 0, rfl, bd_zero _ _ _, (J1 M)⟩
     | true =>
      go_upto_region 12 with fail
      obtain ⟨rfl, rfl⟩ := HC2.out (all_hit hlt (HOD.out.trans rfl))
      refine cj4 (M.out.1).c2 fun aa ab ac ad => ?_
      go_wp2_with fail
      clear aa ab ac ad
      have hz : w.heap.size ≤ w.heap.size := by exact Nat.le_refl _
      refine st2W (.int .i64 0) (.slice none 0 0) (M.out.1) (J1 M) hz fun w3 hv og hk hbw => ?_
      rw [← hv]
      replace M := Lib.hid (aI hk hbw)
      clear hk hbw og hv hz
      refine bodyPost_ret (results_box2 rfl _ _ w.heap.size 24 _ _ _ rfl (M.out.1) Tryz.underlying24 rfl (by kernel_rfl)) rfl ?_
      exact ⟨none, 0, rfl, bd_zero _ _ _, (J1 M)⟩
    ·
     have e1 : decide (k < T.size) = false := decide_eq_false hlt
     have e1i : decide ((k : Int) < (T.size : Int)) = false := decide_eq_false (by omega)
     have HDG := Lib.hid (all_done (by omega) HA.out)
     go_wp2_with fail
     go_loopw [7, 8] (fun i7 i8 wr => ∃ (j : Nat) (v : Nat) (vg : Value), vg = i7 ∧ i8 = .int .i64 (j : Int) ∧ Hid (j ≤ T.size) ∧ Hid (decVal (T.data.toList.take j) = v) ∧ Hid (Dn wr vg v ∧ Bx wr w.heap.size 24 #[.int .i64 0, .slice none 0 0] ∧ Below w.heap.size w wr)) (fun i7 i8 _ => T.size - (RowKit.intOf i8).toNat)
     case atStart =>
      exact ⟨0, 0, (.slice none 0 0), rfl, rfl, (Nat.zero_le _), (by show _ = _; rfl), Lib.hid (aI (Dn.nil _) (aI (M.out.1) (J1 M)))⟩
     case round =>
      obtain ⟨w3, rfl⟩ : ∃ x, x = wr := ⟨_, rfl⟩
      clear M
      obtain ⟨j, v, vg, rfl, rfl, hj, HV, M⟩ := hrel
      have hj := hj.out
      by_cases hlt2 : j < T.size
      ·
       have f1 : decide (j < T.size) = true := decide_eq_true hlt2
       have f1i : decide ((j : Int) < (T.size : Int)) = true := decide_eq_true (by omega)
       have hi1_ : (j : Int) < (T.size : Int) := by omega
       have hi0_ : (0 : Int) ≤ (j : Int) := by omega
       have HDJ := Lib.hid (all_get HDG.out hlt2)
       obtain ⟨dd, hdd⟩ : ∃ d, dgv T[j] = d := ⟨_, rfl⟩
       obtain ⟨m, hm⟩ : ∃ m, v * 10 = m := ⟨_, rfl⟩
       obtain ⟨v2, hv2⟩ : ∃ u, m + dd = u := ⟨_, rfl⟩
       have HNX : Hid (decVal (T.data.toList.take (j + 1)) = v2) := by show _ = _; rw [← dec_next hlt2 HV.out, hdd, hm, hv2]
       obtain ⟨g1, g2, g3⟩ := dg_small8 HDJ.out
       rw [hdd] at g1 g2 g3
       have HLV := Lib.hid (dec_fits HDG.out HV.out (by have := HSZ.out; omega))
       have HLM := Lib.hid (lnN_ten HLV.out hm)
       have HM := Lib.hid hm; have HV2 := Lib.hid hv2
       clear hm hv2 hdd
       go_wp2_with fail
       refine nmW w3.drew fun w4 hv => ?_
       replace M := drM hv M
       refine wp_region_held_drew (S := (fun _ => True)) (by kernel_rfl) trivial (fun hH83 => ?_)
       rw [← hv]
       clear hv
       refine tk at0 ?_
       refine tk at3 ?_
       refine tk at4 ?_
       refine wpAnyH_ready (rs := [1, 5]) (by kernel_rfl) (by simp) ?_
       refine AllReadyH.cons at1 (fun K hK => ?_) ?_
       ·
        go_simp
        refine nmW (w4.alloc (.cells #[.int .i64 10] 3)) fun w5 hv => ?_
        rw [← hv]
        have ow1_ : w.heap.size < w4.heap.size := ((J1 M).1).lt
        replace M := alM hv M
        clear hv
        refine hK.out _ _ (trivial) (fun hH84 => ?_)
        clear hK K hH83
        (try simp only [Act.put, List.setIfInBounds_toArray, List.set_cons_zero, List.set_cons_succ])
        refine wpAnyH_ready (rs := [2, 5]) (by kernel_rfl) (by simp) ?_
        refine AllReadyH.cons at2 (fun K hK => ?_) ?_
        ·
         go_simp
         refine (rtimes_ten (J1 M).1 rfl (M.out.1) (Nat.le_trans HLV.out (by decide)) HM.out).mono ?_
         rintro e w6 ⟨v_85, rfl, hd86, hb⟩
         replace M := adM hd86 hb M
         clear hb hd86
         (try go_wp2_with fail)
         refine hK.out _ _ (trivial) (fun hH87 => ?_)
         clear hK K hH84
         (try simp only [Act.put, List.setIfInBounds_toArray, List.set_cons_zero, List.set_cons_succ])
         refine wpAnyH_ready (rs := [5]) (by kernel_rfl) (by simp) ?_
         refine AllReadyH.cons at5 (fun K hK => ?_) AllReadyH.nil
         go_simp
         refine hK.out _ _ (trivial) (fun hH88 => ?_)
         clear hK K hH87
         (try simp only [Act.put, List.setIfInBounds_toArray, List.set_cons_zero, List.set_cons_succ])
         refine tk at6 ?_
         refine tk at7 ?_
         refine wpAnyH_ready (rs := [8]) (by kernel_rfl) (by simp) ?_
         refine AllReadyH.cons at8 (fun K hK => ?_) AllReadyH.nil
         go_simp
         refine nmW (w6.alloc (.cells #[.int .i64 (dd : Int)] 3)) fun w7 hv => ?_
         rw [← hv]
         have ow2_ : w4.heap.size < w6.heap.size := ((J1 M).1).lt
         replace M := alM hv M
         clear hv
         refine hK.out _ _ (trivial) (fun hH89 => ?_)
         clear hK K hH88
         (try simp only [Act.put, List.setIfInBounds_toArray, List.set_cons_zero, List.set_cons_succ])
         refine wpAnyH_ready (rs := [9]) (by kernel_rfl) (by simp) ?_
         refine AllReadyH.cons at9 (fun K hK => ?_) AllReadyH.nil
         go_simp
         refine (rtrim_one rfl (M.out.1) g3).mono ?_
         rintro e w8 ⟨v_90, rfl, hd91, hb⟩
         replace M := adM hd91 hb M
         clear hb hd91
         (try go_wp2_with fail)
         refine hK.out _ _ (trivial) (fun hH92 => ?_)
         clear hK K hH89
         (try simp only [Act.put, List.setIfInBounds_toArray, List.set_cons_zero, List.set_cons_succ])
         refine wpAnyH_ready (rs := [10]) (by kernel_rfl) (by simp) ?_
         refine AllReadyH.cons at10 (fun K hK => ?_) AllReadyH.nil
         go_simp
         refine (rplus_d (J2 M).1 (M.out.1) (Nat.le_trans HLM.out (by decide)) (lnN_dig g3) HV2.out).mono ?_
         rintro e w9 ⟨v_93, rfl, hd94, hb⟩
         replace M := adM hd94 hb M
         clear hb hd94
         (try go_wp2_with fail)
         refine hK.out _ _ (trivial) (fun hH95 => ?_)
         clear hK K hH92
         (try simp only [Act.put, List.setIfInBounds_toArray, List.set_cons_zero, List.set_cons_succ])
         refine tk at11 ?_
         refine wpAnyH_done (by kernel_rfl) ?_ _
         clear hH95
         go_wp2_with fail
         go_roundw
         case rel => exact ⟨(j + 1), v2, v_93, rfl, by go_num, (by show _ ≤ _; omega), HNX, Lib.hid (aI (M.out.1) (aI (J6 M).1 (J7 M)))⟩
         case measure => simp [RowKit.intOf] <;> omega
        refine AllReadyH.cons at5 (fun K hK => ?_) AllReadyH.nil
        go_simp
        refine hK.out _ _ (trivial) (fun hH96 => ?_)
        clear hK K hH84
        (try simp only [Act.put, List.setIfInBounds_toArray, List.set_cons_zero, List.set_cons_succ])
        refine tk at6 ?_
        refine tk at7 ?_
        refine wpAnyH_ready (rs := [2, 8]) (by kernel_rfl) (by simp) ?_
        refine AllReadyH.cons at2 (fun K hK => ?_) ?_
        ·
         go_simp
         refine (rtimes_ten (J1 M).1 rfl (M.out.1) (Nat.le_trans HLV.out (by decide)) HM.out).mono ?_
         rintro e w6 ⟨v_97, rfl, hd98, hb⟩
         replace M := adM hd98 hb M
         clear hb hd98
         (try go_wp2_with fail)
         refine hK.out _ _ (trivial) (fun hH99 => ?_)
         clear hK K hH96
         (try simp only [Act.put, List.setIfInBounds_toArray, List.set_cons_zero, List.set_cons_succ])
         refine wpAnyH_ready (rs := [8]) (by kernel_rfl) (by simp) ?_
         refine AllReadyH.cons at8 (fun K hK => ?_) AllReadyH.nil
         go_simp
         refine nmW (w6.alloc (.cells #[.int .i64 (dd : Int)] 3)) fun w7 hv => ?_
         rw [← hv]
         have ow2_ : w4.heap.size < w6.heap.size := ((J1 M).1).lt
         replace M := alM hv M
         clear hv
         refine hK.out _ _ (trivial) (fun hH100 => ?_)
         clear hK K hH99
         (try simp only [Act.put, List.setIfInBounds_toArray, List.set_cons_zero, List.set_cons_succ])
         refine wpAnyH_ready (rs := [9]) (by kernel_rfl) (by simp) ?_
         refine AllReadyH.cons at9 (fun K hK => ?_) AllReadyH.nil
         go_simp
         refine (rtrim_one rfl (M.out.1) g3).mono ?_
         rintro e w8 ⟨v_101, rfl, hd102, hb⟩
         replace M := adM hd102 hb M
         clear hb hd102
         (try go_wp2_with fail)
         refine hK.out _ _ (trivial) (fun hH103 => ?_)
         clear hK K hH100
         (try simp only [Act.put, List.setIfInBounds_toArray, List.set_cons_zero, List.set_cons_succ])
         refine wpAnyH_ready (rs := [10]) (by kernel_rfl) (by simp) ?_
         refine AllReadyH.cons at10 (fun K hK => ?_) AllReadyH.nil
         go_simp
         refine (rplus_d (J2 M).1 (M.out.1) (Nat.le_trans HLM.out (by decide)) (lnN_dig g3) HV2.out).mono ?_
         rintro e w9 ⟨v_104, rfl, hd105, hb⟩
         replace M := adM hd105 hb M
         clear hb hd105
         (try go_wp2_with fail)
         refine hK.out _ _ (trivial) (fun hH106 => ?_)
         clear hK K hH103
         (try simp only [Act.put, List.setIfInBounds_toArray, List.set_cons_zero, List.set_cons_succ])
         refine tk at11 ?_
         refine wpAnyH_done (by kernel_rfl) ?_ _
         clear hH106
         go_wp2_with fail
         go_roundw
         case rel => exact ⟨(j + 1), v2, v_104, rfl, by go_num, (by show _ ≤ _; omega), HNX, Lib.hid (aI (M.out.1) (aI (J6 M).1 (J7 M)))⟩
         case measure => simp [RowKit.intOf] <;> omega
        refine AllReadyH.cons at8 (fun K hK => ?_) AllReadyH.nil
        go_simp
        refine nmW (w5.alloc (.cells #[.int .i64 (dd : Int)] 3)) fun w6 hv => ?_
        rw [← hv]
        have ow2_ : w4.heap.size < w5.heap.size := ((M.out.1)).lt
        replace M := alM hv M
        clear hv
        refine hK.out _ _ (trivial) (fun hH107 => ?_)
        clear hK K hH96
        (try simp only [Act.put, List.setIfInBounds_toArray, List.set_cons_zero, List.set_cons_succ])
        refine wpAnyH_ready (rs := [2]) (by kernel_rfl) (by simp) ?_
        refine AllReadyH.cons at2 (fun K hK => ?_) AllReadyH.nil
        go_simp
        refine (rtimes_ten (J2 M).1 rfl (J1 M).1 (Nat.le_trans HLV.out (by decide)) HM.out).mono ?_
        rintro e w7 ⟨v_108, rfl, hd109, hb⟩
        replace M := adM hd109 hb M
        clear hb hd109
        (try go_wp2_with fail)
        refine hK.out _ _ (trivial) (fun hH110 => ?_)
        clear hK K hH107
        (try simp only [Act.put, List.setIfInBounds_toArray, List.set_cons_zero, List.set_cons_succ])
        refine wpAnyH_ready (rs := [9]) (by kernel_rfl) (by simp) ?_
        refine AllReadyH.cons at9 (fun K hK => ?_) AllReadyH.nil
        go_simp
        refine (rtrim_one rfl (J1 M).1 g3).mono ?_
        rintro e w8 ⟨v_111, rfl, hd112, hb⟩
        replace M := adM hd112 hb M
        clear hb hd112
        (try go_wp2_with fail)
        refine hK.out _ _ (trivial) (fun hH113 => ?_)
        clear hK K hH110
        (try simp only [Act.put, List.setIfInBounds_toArray, List.set_cons_zero, List.set_cons_succ])
        refine wpAnyH_ready (rs := [10]) (by kernel_rfl) (by simp) ?_
        refine AllReadyH.cons at10 (fun K hK => ?_) AllReadyH.nil
        go_simp
        refine (rplus_d (J1 M).1 (M.out.1) (Nat.le_trans HLM.out (by decide)) (lnN_dig g3) HV2.out).mono ?_
        rintro e w9 ⟨v_114, rfl, hd115, hb⟩
        replace M := adM hd115 hb M
        clear hb hd115
        (try go_wp2_with fail)
        refine hK.out _ _ (trivial) (fun hH116 => ?_)
        clear hK K hH113
        (try simp only [Act.put, List.setIfInBounds_toArray, List.set_cons_zero, List.set_cons_succ])
        refine tk at11 ?_
        refine wpAnyH_done (by kernel_rfl) ?_ _
        clear hH116
        go_wp2_with fail
        go_roundw
        case rel => exact ⟨(j + 1), v2, v_114, rfl, by go_num, (by show _ ≤ _; omega), HNX, Lib.hid (aI (M.out.1) (aI (J6 M).1 (J7 M)))⟩
        case measure => simp [RowKit.intOf] <;> omega
       refine AllReadyH.cons at5 (fun K hK => ?_) AllReadyH.nil
       go_simp
       refine hK.out _ _ (trivial) (fun hH117 => ?_)
       clear hK K hH83
       (try simp only [Act.put, List.setIfInBounds_toArray, List.set_cons_zero, List.set_cons_succ])
       refine tk at6 ?_
       refine tk at7 ?_
       refine wpAnyH_ready (rs := [1, 8]) (by kernel_rfl) (by simp) ?_
       refine AllReadyH.cons at1 (fun K hK => ?_) ?_
       ·
        go_simp
        refine nmW (w4.alloc (.cells #[.int .i64 10] 3)) fun w5 hv => ?_
        rw [← hv]
        have ow1_ : w.heap.size < w4.heap.size := ((J1 M).1).lt
        replace M := alM hv M
        clear hv
        refine hK.out _ _ (trivial) (fun hH118 => ?_)
        clear hK K hH117
        (try simp only [Act.put, List.setIfInBounds_toArray, List.set_cons_zero, List.set_cons_succ])
        refine wpAnyH_ready (rs := [2, 8]) (by kernel_rfl) (by simp) ?_
        refine AllReadyH.cons at2 (fun K hK => ?_) ?_
        ·
         go_simp
         refine (rtimes_ten (J1 M).1 rfl (M.out.1) (Nat.le_trans HLV.out (by decide)) HM.out).mono ?_
         rintro e w6 ⟨v_119, rfl, hd120, hb⟩
         replace M := adM hd120 hb M
         clear hb hd120
         (try go_wp2_with fail)
         refine hK.out _ _ (trivial) (fun hH121 => ?_)
         clear hK K hH118
         (try simp only [Act.put, List.setIfInBounds_toArray, List.set_cons_zero, List.set_cons_succ])
         refine wpAnyH_ready (rs := [8]) (by kernel_rfl) (by simp) ?_
         refine AllReadyH.cons at8 (fun K hK => ?_) AllReadyH.nil
         go_simp
         refine nmW (w6.alloc (.cells #[.int .i64 (dd : Int)] 3)) fun w7 hv => ?_
         rw [← hv]
         have ow2_ : w4.heap.size < w6.heap.size := ((J1 M).1).lt
         replace M := alM hv M
         clear hv
         refine hK.out _ _ (trivial) (fun hH122 => ?_)
         clear hK K hH121
         (try simp only [Act.put, List.setIfInBounds_toArray, List.set_cons_zero, List.set_cons_succ])
         refine wpAnyH_ready (rs := [9]) (by kernel_rfl) (by simp) ?_
         refine AllReadyH.cons at9 (fun K hK => ?_) AllReadyH.nil
         go_simp
         refine (rtrim_one rfl (M.out.1) g3).mono ?_
         rintro e w8 ⟨v_123, rfl, hd124, hb⟩
         replace M := adM hd124 hb M
         clear hb hd124
         (try go_wp2_with fail)
         refine hK.out _ _ (trivial) (fun hH125 => ?_)
         clear hK K hH122
         (try simp only [Act.put, List.setIfInBounds_toArray, List.set_cons_zero, List.set_cons_succ])
         refine wpAnyH_ready (rs := [10]) (by kernel_rfl) (by simp) ?_
         refine AllReadyH.cons at10 (fun K hK => ?_) AllReadyH.nil
         go_simp
         refine (rplus_d (J2 M).1 (M.out.1) (Nat.le_trans HLM.out (by decide)) (lnN_dig g3) HV2.out).mono ?_
         rintro e w9 ⟨v_126, rfl, hd127, hb⟩
         replace M := adM hd127 hb M
         clear hb hd127
         (try go_wp2_with fail)
         refine hK.out _ _ (trivial) (fun hH128 => ?_)
         clear hK K hH125
         (try simp only [Act.put, List.setIfInBounds_toArray, List.set_cons_zero, List.set_cons_succ])
         refine tk at11 ?_
         refine wpAnyH_done (by kernel_rfl) ?_ _
         clear hH128
         go_wp2_with fail
         go_roundw
         case rel => exact ⟨(j + 1), v2, v_126, rfl, by go_num, (by show _ ≤ _; omega), HNX, Lib.hid (aI (M.out.1) (aI (J6 M).1 (J7 M)))⟩
         case measure => simp [RowKit.intOf] <;> omega
        refine AllReadyH.cons at8 (fun K hK => ?_) AllReadyH.nil
        go_simp
        refine nmW (w5.alloc (.cells #[.int .i64 (dd : Int)] 3)) fun w6 hv => ?_
        rw [← hv]
        have ow2_ : w4.heap.size < w5.heap.size := ((M.out.1)).lt
        replace M := alM hv M
        clear hv
        refine hK.out _ _ (trivial) (fun hH129 => ?_)
        clear hK K hH118
        (try simp only [Act.put, List.setIfInBounds_toArray, List.set_cons_zero, List.set_cons_succ])
        refine wpAnyH_ready (rs := [2]) (by kernel_rfl) (by simp) ?_
        refine AllReadyH.cons at2 (fun K hK => ?_) AllReadyH.nil
        go_simp
        refine (rtimes_ten (J2 M).1 rfl (J1 M).1 (Nat.le_trans HLV.out (by decide)) HM.out).mono ?_
        rintro e w7 ⟨v_130, rfl, hd131, hb⟩
        replace M := adM hd131 hb M
        clear hb hd131
        (try go_wp2_with fail)
        refine hK.out _ _ (trivial) (fun hH132 => ?_)
        clear hK K hH129
        (try simp only [Act.put, List.setIfInBounds_toArray, List.set_cons_zero, List.set_cons_succ])
        refine wpAnyH_ready (rs := [9]) (by kernel_rfl) (by simp) ?_
        refine AllReadyH.cons at9 (fun K hK => ?_) AllReadyH.nil
        go_simp
        refine (rtrim_one rfl (J1 M).1 g3).mono ?_
        rintro e w8 ⟨v_133, rfl, hd134, hb⟩
        replace M := adM hd134 hb M
        clear hb hd134
        (try go_wp2_with fail)
        refine hK.out _ _ (trivial) (fun hH135 => ?_)
        clear hK K hH132
        (try simp only [Act.put, List.setIfInBounds_toArray, List.set_cons_zero, List.set_cons_succ])
        refine wpAnyH_ready (rs := [10]) (by kernel_rfl) (by simp) ?_
        refine AllReadyH.cons at10 (fun K hK => ?_) AllReadyH.nil
        go_simp
        refine (rplus_d (J1 M).1 (M.out.1) (Nat.le_trans HLM.out (by decide)) (lnN_dig g3) HV2.out).mono ?_
        rintro e w9 ⟨v_136, rfl, hd137, hb⟩
        replace M := adM hd137 hb M
        clear hb hd137
        (try go_wp2_with fail)
        refine hK.out _ _ (trivial) (fun hH138 => ?_)
        clear hK K hH135
        (try simp only [Act.put, List.setIfInBounds_toArray, List.set_cons_zero, List.set_cons_succ])
        refine tk at11 ?_
        refine wpAnyH_done (by kernel_rfl) ?_ _
        clear hH138
        go_wp2_with fail
        go_roundw
        case rel => exact ⟨(j + 1), v2, v_136, rfl, by go_num, (by show _ ≤ _; omega), HNX, Lib.hid (aI (M.out.1) (aI (J6 M).1 (J7 M)))⟩
        case measure => simp [RowKit.intOf] <;> omega
       refine AllReadyH.cons at8 (fun K hK => ?_) AllReadyH.nil
       go_simp
       refine nmW (w4.alloc (.cells #[.int .i64 (dd : Int)] 3)) fun w5 hv => ?_
       rw [← hv]
       have ow1_ : w.heap.size < w4.heap.size := ((J1 M).1).lt
       replace M := alM hv M
       clear hv
       refine hK.out _ _ (trivial) (fun hH139 => ?_)
       clear hK K hH117
       (try simp only [Act.put, List.setIfInBounds_toArray, List.set_cons_zero, List.set_cons_succ])
       refine wpAnyH_ready (rs := [1]) (by kernel_rfl) (by simp) ?_
       refine AllReadyH.cons at1 (fun K hK => ?_) AllReadyH.nil
       go_simp
       refine nmW (w5.alloc (.cells #[.int .i64 10] 3)) fun w6 hv => ?_
       rw [← hv]
       have ow2_ : w4.heap.size < w5.heap.size := ((M.out.1)).lt
       replace M := alM hv M
       clear hv
       refine hK.out _ _ (trivial) (fun hH140 => ?_)
       clear hK K hH139
       (try simp only [Act.put, List.setIfInBounds_toArray, List.set_cons_zero, List.set_cons_succ])
       refine wpAnyH_ready (rs := [2]) (by kernel_rfl) (by simp) ?_
       refine AllReadyH.cons at2 (fun K hK => ?_) AllReadyH.nil
       go_simp
       refine (rtimes_ten (J2 M).1 rfl (M.out.1) (Nat.le_trans HLV.out (by decide)) HM.out).mono ?_
       rintro e w7 ⟨v_141, rfl, hd142, hb⟩
       replace M := adM hd142 hb M
       clear hb hd142
       (try go_wp2_with fail)
       refine hK.out _ _ (trivial) (fun hH143 => ?_)
       clear hK K hH140
       (try simp only [Act.put, List.setIfInBounds_toArray, List.set_cons_zero, List.set_cons_succ])
       refine wpAnyH_ready (rs := [9]) (by kernel_rfl) (by simp) ?_
       refine AllReadyH.cons at9 (fun K hK => ?_) AllReadyH.nil
       go_simp
       refine (rtrim_one rfl (J2 M).1 g3).mono ?_
       rintro e w8 ⟨v_144, rfl, hd145, hb⟩
       replace M := adM hd145 hb M
       clear hb hd145
       (try go_wp2_with fail)
       refine hK.out _ _ (trivial) (fun hH146 => ?_)
       clear hK K hH143
       (try simp only [Act.put, List.setIfInBounds_toArray, List.set_cons_zero, List.set_cons_succ])
       refine wpAnyH_ready (rs := [10]) (by kernel_rfl) (by simp) ?_
       refine AllReadyH.cons at10 (fun K hK => ?_) AllReadyH.nil
       go_simp
       refine (rplus_d (J1 M).1 (M.out.1) (Nat.le_trans HLM.out (by decide)) (lnN_dig g3) HV2.out).mono ?_
       rintro e w9 ⟨v_147, rfl, hd148, hb⟩
       replace M := adM hd148 hb M
       clear hb hd148
       (try go_wp2_with fail)
       refine hK.out _ _ (trivial) (fun hH149 => ?_)
       clear hK K hH146
       (try simp only [Act.put, List.setIfInBounds_toArray, List.set_cons_zero, List.set_cons_succ])
       refine tk at11 ?_
       refine wpAnyH_done (by kernel_rfl) ?_ _
       clear hH149
       go_wp2_with fail
       go_roundw
       case rel => exact ⟨(j + 1), v2, v_147, rfl, by go_num, (by show _ ≤ _; omega), HNX, Lib.hid (aI (M.out.1) (aI (J6 M).1 (J7 M)))⟩
       case measure => simp [RowKit.intOf] <;> omega
      ·
       have f1 : decide (j < T.size) = false := decide_eq_false hlt2
       have f1i : decide ((j : Int) < (T.size : Int)) = false := decide_eq_false (by omega)
       have HFIN := Lib.hid (dec_done (by omega) HV.out)
       have HLF := Lib.hid (dec_fits HDG.out HV.out (by have := HSZ.out; omega))
       obtain ⟨rfl, hz3⟩ := HC3.out HB_.out HDG.out
       have HZ3 := Lib.hid hz3; clear hz3
       have HZF : Hid (1 * (v : Int) = z) := by show _ = _; rw [HZ3.out, HFIN.out]
       have HDN := Lib.hid (M.out.1)
       replace M := Lib.hid (aI (J1 M).1 (J2 M))
       go_wp2_with fail
       refine (rmade_d (G := G) (s := 1) (z := z) HDN.out (Nat.le_trans HLF.out (by decide)) HZF.out (by decide)).mono ?_
       rintro e w4 ⟨a_150, c_151, rfl, hd152, hb⟩
       replace M := adM hd152 hb M
       clear hb hd152
       refine cj4 (J1 M).1.c2 fun aa ab ac ad => ?_
       go_wp2_with fail
       clear aa ab ac ad
       have hz : w.heap.size ≤ w.heap.size := by exact Nat.le_refl _
       refine st2W (.int .i64 (sg z)) (.slice a_150 (ln z) c_151) (J1 M).1 (J2 M) hz fun w5 hv og hk hbw => ?_
       rw [← hv]
       replace M := Lib.hid (aI ((M.out.1).far (J1 M).1 (by rfl) (by omega) og) (aI hk hbw))
       clear hk hbw og hv hz
       refine bodyPost_ret (results_box2 rfl _ _ w.heap.size 24 _ _ _ rfl (J1 M).1 Tryz.underlying24 rfl (by kernel_rfl)) rfl ?_
       exact ⟨a_150, c_151, rfl, (M.out.1), (J2 M)⟩
  | true =>
   go_upto_region 7 with fail
   obtain ⟨rfl, rfl⟩ := HC1.out rfl
   refine cj4 (M.out.1).c2 fun aa ab ac ad => ?_
   go_wp2_with fail
   clear aa ab ac ad
   have hz : w.heap.size ≤ w.heap.size := by exact Nat.le_refl _
   refine st2W (.int .i64 0) (.slice none 0 0) (M.out.1) (J1 M) hz fun w2 hv og hk hbw => ?_
   rw [← hv]
   replace M := Lib.hid (aI hk hbw)
   clear hk hbw og hv hz
   refine bodyPost_ret (results_box2 rfl _ _ w.heap.size 24 _ _ _ rfl (M.out.1) Tryz.underlying24 rfl (by kernel_rfl)) rfl ?_
   exact ⟨none, 0, rfl, bd_zero _ _ _, (J1 M)⟩
set_option maxRecDepth 100000 in
set_option maxHeartbeats 8000000 in
theorem rread_neg {S T : ByteArray} {z er : Int} {b48 : Bool} {w : World} (_hG : G ≤ w.heap.size) (hs0 : 0 < T.size) (hsz : T.size ≤ 1000000) (hp0 : 0 < S.size) (hp1 : (S[0].toNat : Int) = 45) (_hT : S.extract 1 S.size = T) (_hb48 : ((T[0].toNat : Int) == 48) = b48) (_hbS : (S.toList == [48]) = false) (hc1 : (b48 && true) = true → z = 0 ∧ er = 2) (hc2 : T.data.toList.all isDg = false → z = 0 ∧ er = 2) (hc3 : (b48 && true) = false → T.data.toList.all isDg = true → er = 0 ∧ z = -1 * (decVal T.data.toList : Int)) :
  Calls Tryz.prog 59 #[.string S] w fun e w' => ∃ a c, e = .returned (.tuple #[.agg #[.int .i64 (sg z), .slice a (ln z) c], .int .i64 er]) ∧ BD G w' a c z ∧ Below w.heap.size w w' := by
 have HSZ := Lib.hid hsz; have HC1 := Lib.hid hc1; have HC2 := Lib.hid hc2; have HC3 := Lib.hid hc3
 clear hc1 hc2 hc3
 have e10 : decide (0 < T.size) = true := decide_eq_true hs0
 have e10i : decide ((0 : Int) < (T.size : Int)) = true := decide_eq_true (by omega)
 have e11 : T.toList.isEmpty = false := ba_ne_nil hs0
 have e12 : decide (0 < S.size) = true := decide_eq_true hp0
 have e12i : decide ((0 : Int) < (S.size : Int)) = true := decide_eq_true (by omega)
 have e13 : ((S[0].toNat : Int) == 45) = true := by rw [hp1]; rfl
 have M : Hid (Below w.heap.size w w) := Below.refl _ _
 go_enter Tryz.func59, Tryz.ntmps59
 go_upto_region 1 with fail
 refine nmW (w.alloc (.cells #[.int .i64 0, .slice none 0 0] 24)) fun w1 hv => ?_
 rw [← hv]
 replace M := alM hv M
 clear hv
 cases b48 with
 | false =>
  go_upto_region 8 with fail
  have HB_ : Hid ((false && true) = false) := rfl
  go_wp2_with fail
  go_loopw [6] (fun i6 wr => ∃ (k : Nat), i6 = .int .i64 (k : Int) ∧ Hid (k ≤ T.size) ∧ Hid ((T.data.toList.take k).all isDg = true) ∧ Hid (Bx wr w.heap.size 24 #[.int .i64 0, .slice none 0 0] ∧ Below w.heap.size w wr)) (fun i6 _ => T.size - (RowKit.intOf i6).toNat)
  case atStart =>
   exact ⟨0, rfl, (Nat.zero_le _), (by show _ = _; simp), Lib.hid (aI (M.out.1) (J1 M))⟩
  case round =>
   obtain ⟨w2, rfl⟩ : ∃ x, x = wr := ⟨_, rfl⟩
   clear M
   obtain ⟨k, rfl, hk, HA, M⟩ := hrel
   have hk := hk.out
   by_cases hlt : k < T.size
   ·
    have e1 : decide (k < T.size) = true := decide_eq_true hlt
    have e1i : decide ((k : Int) < (T.size : Int)) = true := decide_eq_true (by omega)
    obtain ⟨b1, hb1⟩ : ∃ b, decide ((T[k].toNat : Int) < 48) = b := ⟨_, rfl⟩
    obtain ⟨b2, hb2⟩ : ∃ b, decide ((57 : Int) < (T[k].toNat : Int)) = b := ⟨_, rfl⟩
    have HOD := Lib.hid (isDg_or hb1 hb2)
    have hi1_ : (k : Int) < (T.size : Int) := by omega
    have hi0_ : (0 : Int) ≤ (k : Int) := by omega
    cases b1 with
    | false =>
     cases b2 with
     | false =>
      go_wp2_with fail
      go_roundw
      case rel => exact ⟨(k + 1), by go_num, (by show _ ≤ _; omega), (all_step hlt HA.out HOD.out), Lib.hid (aI (M.out.1) (J1 M))⟩
      case measure => simp [RowKit.intOf] <;> omega
     | true =>
      go_upto_region 12 with fail
      obtain ⟨rfl, rfl⟩ := HC2.out (all_hit hlt (HOD.out.trans rfl))
      refine cj4 (M.out.1).c2 fun aa ab ac ad => ?_
      go_wp2_with fail
      clear aa ab ac ad
      have hz : w.heap.size ≤ w.heap.size := by exact Nat.le_refl _
      refine st2W (.int .i64 0) (.slice none 0 0) (M.out.1) (J1 M) hz fun w3 hv og hk hbw => ?_
      rw [← hv]
      replace M := Lib.hid (aI hk hbw)
      clear hk hbw og hv hz
      refine bodyPost_ret (results_box2 rfl _ _ w.heap.size 24 _ _ _ rfl (M.out.1) Tryz.underlying24 rfl (by kernel_rfl)) rfl ?_
      exact ⟨none, 0, rfl, bd_zero _ _ _, (J1 M)⟩
    | true =>
     go_upto_region 12 with fail
     obtain ⟨rfl, rfl⟩ := HC2.out (all_hit hlt (HOD.out.trans rfl))
     refine cj4 (M.out.1).c2 fun aa ab ac ad => ?_
     go_wp2_with fail
     clear aa ab ac ad
     have hz : w.heap.size ≤ w.heap.size := by exact Nat.le_refl _
     refine st2W (.int .i64 0) (.slice none 0 0) (M.out.1) (J1 M) hz fun w3 hv og hk hbw => ?_
     rw [← hv]
     replace M := Lib.hid (aI hk hbw)
     clear hk hbw og hv hz
     refine bodyPost_ret (results_box2 rfl _ _ w.heap.size 24 _ _ _ rfl (M.out.1) Tryz.underlying24 rfl (by kernel_rfl)) rfl ?_
     exact ⟨none, 0, rfl, bd_zero _ _ _, (J1 M)⟩
   ·
    have e1 : decide (k < T.size) = false := decide_eq_false hlt
    have e1i : decide ((k : Int) < (T.size : Int)) = false := decide_eq_false (by omega)
    have HDG := Lib.hid (all_done (by omega) HA.out)
    go_wp2_with fail
    go_loopw [7, 8] (fun i7 i8 wr => ∃ (j : Nat) (v : Nat) (vg : Value), vg = i7 ∧ i8 = .int .i64 (j : Int) ∧ Hid (j ≤ T.size) ∧ Hid (decVal (T.data.toList.take j) = v) ∧ Hid (Dn wr vg v ∧ Bx wr w.heap.size 24 #[.int .i64 0, .slice none 0 0] ∧ Below w.heap.size w wr)) (fun i7 i8 _ => T.size - (RowKit.intOf i8).toNat)
    case atStart =>
     exact ⟨0, 0, (.slice none 0 0), rfl, rfl, (Nat.zero_le _), (by show _ = _; rfl), Lib.hid (aI (Dn.nil _) (aI (M.out.1) (J1 M)))⟩
    case round =>
     obtain ⟨w3, rfl⟩ : ∃ x, x = wr := ⟨_, rfl⟩
     clear M
     obtain ⟨j, v, vg, rfl, rfl, hj, HV, M⟩ := hrel
     have hj := hj.out
     by_cases hlt2 : j < T.size
     ·
      have f1 : decide (j < T.size) = true := decide_eq_true hlt2
      have f1i : decide ((j : Int) < (T.size : Int)) = true := decide_eq_true (by omega)
      have hi1_ : (j : Int) < (T.size : Int) := by omega
      have hi0_ : (0 : Int) ≤ (j : Int) := by omega
      have HDJ := Lib.hid (all_get HDG.out hlt2)
      obtain ⟨dd, hdd⟩ : ∃ d, dgv T[j] = d := ⟨_, rfl⟩
      obtain ⟨m, hm⟩ : ∃ m, v * 10 = m := ⟨_, rfl⟩
      obtain ⟨v2, hv2⟩ : ∃ u, m + dd = u := ⟨_, rfl⟩
      have HNX : Hid (decVal (T.data.toList.take (j + 1)) = v2) := by show _ = _; rw [← dec_next hlt2 HV.out, hdd, hm, hv2]
      obtain ⟨g1, g2, g3⟩ := dg_small8 HDJ.out
      rw [hdd] at g1 g2 g3
      have HLV := Lib.hid (dec_fits HDG.out HV.out (by have := HSZ.out; omega))
      have HLM := Lib.hid (lnN_ten HLV.out hm)
      have HM := Lib.hid hm; have HV2 := Lib.hid hv2
      clear hm hv2 hdd
      go_wp2_with fail
      refine nmW w3.drew fun w4 hv => ?_
      replace M := drM hv M
      refine wp_region_held_drew (S := (fun _ => True)) (by kernel_rfl) trivial (fun hH7 => ?_)
      rw [← hv]
      clear hv
      refine tk at0 ?_
      refine tk at3 ?_
      refine tk at4 ?_
      refine wpAnyH_ready (rs := [1, 5]) (by kernel_rfl) (by simp) ?_
      refine AllReadyH.cons at1 (fun K hK => ?_) ?_
      ·
       go_simp
       refine nmW (w4.alloc (.cells #[.int .i64 10] 3)) fun w5 hv => ?_
       rw [← hv]
       have ow1_ : w.heap.size < w4.heap.size := ((J1 M).1).lt
       replace M := alM hv M
       clear hv
       refine hK.out _ _ (trivial) (fun hH8 => ?_)
       clear hK K hH7
       (try simp only [Act.put, List.setIfInBounds_toArray, List.set_cons_zero, List.set_cons_succ])
       refine wpAnyH_ready (rs := [2, 5]) (by kernel_rfl) (by simp) ?_
       refine AllReadyH.cons at2 (fun K hK => ?_) ?_
       ·
        go_simp
        refine (rtimes_ten (J1 M).1 rfl (M.out.1) (Nat.le_trans HLV.out (by decide)) HM.out).mono ?_
        rintro e w6 ⟨v_9, rfl, hd10, hb⟩
        replace M := adM hd10 hb M
        clear hb hd10
        (try go_wp2_with fail)
        refine hK.out _ _ (trivial) (fun hH11 => ?_)
        clear hK K hH8
        (try simp only [Act.put, List.setIfInBounds_toArray, List.set_cons_zero, List.set_cons_succ])
        refine wpAnyH_ready (rs := [5]) (by kernel_rfl) (by simp) ?_
        refine AllReadyH.cons at5 (fun K hK => ?_) AllReadyH.nil
        go_simp
        refine hK.out _ _ (trivial) (fun hH12 => ?_)
        clear hK K hH11
        (try simp only [Act.put, List.setIfInBounds_toArray, List.set_cons_zero, List.set_cons_succ])
        refine tk at6 ?_
        refine tk at7 ?_
        refine wpAnyH_ready (rs := [8]) (by kernel_rfl) (by simp) ?_
        refine AllReadyH.cons at8 (fun K hK => ?_) AllReadyH.nil
        go_simp
        refine nmW (w6.alloc (.cells #[.int .i64 (dd : Int)] 3)) fun w7 hv => ?_
        rw [← hv]
        have ow2_ : w4.heap.size < w6.heap.size := ((J1 M).1).lt
        replace M := alM hv M
        clear hv
        refine hK.out _ _ (trivial) (fun hH13 => ?_)
        clear hK K hH12
        (try simp only [Act.put, List.setIfInBounds_toArray, List.set_cons_zero, List.set_cons_succ])
        refine wpAnyH_ready (rs := [9]) (by kernel_rfl) (by simp) ?_
        refine AllReadyH.cons at9 (fun K hK => ?_) AllReadyH.nil
        go_simp
        refine (rtrim_one rfl (M.out.1) g3).mono ?_
        rintro e w8 ⟨v_14, rfl, hd15, hb⟩
        replace M := adM hd15 hb M
        clear hb hd15
        (try go_wp2_with fail)
        refine hK.out _ _ (trivial) (fun hH16 => ?_)
        clear hK K hH13
        (try simp only [Act.put, List.setIfInBounds_toArray, List.set_cons_zero, List.set_cons_succ])
        refine wpAnyH_ready (rs := [10]) (by kernel_rfl) (by simp) ?_
        refine AllReadyH.cons at10 (fun K hK => ?_) AllReadyH.nil
        go_simp
        refine (rplus_d (J2 M).1 (M.out.1) (Nat.le_trans HLM.out (by decide)) (lnN_dig g3) HV2.out).mono ?_
        rintro e w9 ⟨v_17, rfl, hd18, hb⟩
        replace M := adM hd18 hb M
        clear hb hd18
        (try go_wp2_with fail)
        refine hK.out _ _ (trivial) (fun hH19 => ?_)
        clear hK K hH16
        (try simp only [Act.put, List.setIfInBounds_toArray, List.set_cons_zero, List.set_cons_succ])
        refine tk at11 ?_
        refine wpAnyH_done (by kernel_rfl) ?_ _
        clear hH19
        go_wp2_with fail
        go_roundw
        case rel => exact ⟨(j + 1), v2, v_17, rfl, by go_num, (by show _ ≤ _; omega), HNX, Lib.hid (aI (M.out.1) (aI (J6 M).1 (J7 M)))⟩
        case measure => simp [RowKit.intOf] <;> omega
       refine AllReadyH.cons at5 (fun K hK => ?_) AllReadyH.nil
       go_simp
       refine hK.out _ _ (trivial) (fun hH20 => ?_)
       clear hK K hH8
       (try simp only [Act.put, List.setIfInBounds_toArray, List.set_cons_zero, List.set_cons_succ])
       refine tk at6 ?_
       refine tk at7 ?_
       refine wpAnyH_ready (rs := [2, 8]) (by kernel_rfl) (by simp) ?_
       refine AllReadyH.cons at2 (fun K hK => ?_) ?_
       ·
        go_simp
        refine (rtimes_ten (J1 M).1 rfl (M.out.1) (Nat.le_trans HLV.out (by decide)) HM.out).mono ?_
        rintro e w6 ⟨v_21, rfl, hd22, hb⟩
        replace M := adM hd22 hb M
        clear hb hd22
        (try go_wp2_with fail)
        refine hK.out _ _ (trivial) (fun hH23 => ?_)
        clear hK K hH20
        (try simp only [Act.put, List.setIfInBounds_toArray, List.set_cons_zero, List.set_cons_succ])
        refine wpAnyH_ready (rs := [8]) (by kernel_rfl) (by simp) ?_
        refine AllReadyH.cons at8 (fun K hK => ?_) AllReadyH.nil
        go_simp
        refine nmW (w6.alloc (.cells #[.int .i64 (dd : Int)] 3)) fun w7 hv => ?_
        rw [← hv]
        have ow2_ : w4.heap.size < w6.heap.size := ((J1 M).1).lt
        replace M := alM hv M
        clear hv
        refine hK.out _ _ (trivial) (fun hH24 => ?_)
        clear hK K hH23
        (try simp only [Act.put, List.setIfInBounds_toArray, List.set_cons_zero, List.set_cons_succ])
        refine wpAnyH_ready (rs := [9]) (by kernel_rfl) (by simp) ?_
        refine AllReadyH.cons at9 (fun K hK => ?_) AllReadyH.nil
        go_simp
        refine (rtrim_one rfl (M.out.1) g3).mono ?_
        rintro e w8 ⟨v_25, rfl, hd26, hb⟩
        replace M := adM hd26 hb M
        clear hb hd26
        (try go_wp2_with fail)
        refine hK.out _ _ (trivial) (fun hH27 => ?_)
        clear hK K hH24
        (try simp only [Act.put, List.setIfInBounds_toArray, List.set_cons_zero, List.set_cons_succ])
        refine wpAnyH_ready (rs := [10]) (by kernel_rfl) (by simp) ?_
        refine AllReadyH.cons at10 (fun K hK => ?_) AllReadyH.nil
        go_simp
        refine (rplus_d (J2 M).1 (M.out.1) (Nat.le_trans HLM.out (by decide)) (lnN_dig g3) HV2.out).mono ?_
        rintro e w9 ⟨v_28, rfl, hd29, hb⟩
        replace M := adM hd29 hb M
        clear hb hd29
        (try go_wp2_with fail)
        refine hK.out _ _ (trivial) (fun hH30 => ?_)
        clear hK K hH27
        (try simp only [Act.put, List.setIfInBounds_toArray, List.set_cons_zero, List.set_cons_succ])
        refine tk at11 ?_
        refine wpAnyH_done (by kernel_rfl) ?_ _
        clear hH30
        go_wp2_with fail
        go_roundw
        case rel => exact ⟨(j + 1), v2, v_28, rfl, by go_num, (by show _ ≤ _; omega), HNX, Lib.hid (aI (M.out.1) (aI (J6 M).1 (J7 M)))⟩
        case measure => simp [RowKit.intOf] <;> omega
       refine AllReadyH.cons at8 (fun K hK => ?_) AllReadyH.nil
       go_simp
       refine nmW (w5.alloc (.cells #[.int .i64 (dd : Int)] 3)) fun w6 hv => ?_
       rw [← hv]
       have ow2_ : w4.heap.size < w5.heap.size := ((M.out.1)).lt
       replace M := alM hv M
       clear hv
       refine hK.out _ _ (trivial) (fun hH31 => ?_)
       clear hK K hH20
       (try simp only [Act.put, List.setIfInBounds_toArray, List.set_cons_zero, List.set_cons_succ])
       refine wpAnyH_ready (rs := [2]) (by kernel_rfl) (by simp) ?_
       refine AllReadyH.cons at2 (fun K hK => ?_) AllReadyH.nil
       go_simp
       refine (rtimes_ten (J2 M).1 rfl (J1 M).1 (Nat.le_trans HLV.out (by decide)) HM.out).mono ?_
       rintro e w7 ⟨v_32, rfl, hd33, hb⟩
       replace M := adM hd33 hb M
       clear hb hd33
       (try go_wp2_with fail)
       refine hK.out _ _ (trivial) (fun hH34 => ?_)
       clear hK K hH31
       (try simp only [Act.put, List.setIfInBounds_toArray, List.set_cons_zero, List.set_cons_succ])
       refine wpAnyH_ready (rs := [9]) (by kernel_rfl) (by simp) ?_
       refine AllReadyH.cons at9 (fun K hK => ?_) AllReadyH.nil
       go_simp
       refine (rtrim_one rfl (J1 M).1 g3).mono ?_
       rintro e w8 ⟨v_35, rfl, hd36, hb⟩
       replace M := adM hd36 hb M
       clear hb hd36
       (try go_wp2_with fail)
       refine hK.out _ _ (trivial) (fun hH37 => ?_)
       clear hK K hH34
       (try simp only [Act.put, List.setIfInBounds_toArray, List.set_cons_zero, List.set_cons_succ])
       refine wpAnyH_ready (rs := [10]) (by kernel_rfl) (by simp) ?_
       refine AllReadyH.cons at10 (fun K hK => ?_) AllReadyH.nil
       go_simp
       refine (rplus_d (J1 M).1 (M.out.1) (Nat.le_trans HLM.out (by decide)) (lnN_dig g3) HV2.out).mono ?_
       rintro e w9 ⟨v_38, rfl, hd39, hb⟩
       replace M := adM hd39 hb M
       clear hb hd39
       (try go_wp2_with fail)
       refine hK.out _ _ (trivial) (fun hH40 => ?_)
       clear hK K hH37
       (try simp only [Act.put, List.setIfInBounds_toArray, List.set_cons_zero, List.set_cons_succ])
       refine tk at11 ?_
       refine wpAnyH_done (by kernel_rfl) ?_ _
       clear hH40
       go_wp2_with fail
       go_roundw
       case rel => exact ⟨(j + 1), v2, v_38, rfl, by go_num, (by show _ ≤ _; omega), HNX, Lib.hid (aI (M.out.1) (aI (J6 M).1 (J7 M)))⟩
       case measure => simp [RowKit.intOf] <;> omega
      refine AllReadyH.cons at5 (fun K hK => ?_) AllReadyH.nil
      go_simp
      refine hK.out _ _ (trivial) (fun hH41 => ?_)
      clear hK K hH7
      (try simp only [Act.put, List.setIfInBounds_toArray, List.set_cons_zero, List.set_cons_succ])
      refine tk at6 ?_
      refine tk at7 ?_
      refine wpAnyH_ready (rs := [1, 8]) (by kernel_rfl) (by simp) ?_
      refine AllReadyH.cons at1 (fun K hK => ?_) ?_
      ·
       go_simp
       refine nmW (w4.alloc (.cells #[.int .i64 10] 3)) fun w5 hv => ?_
       rw [← hv]
       have ow1_ : w.heap.size < w4.heap.size := ((J1 M).1).lt
       replace M := alM hv M
       clear hv
       refine hK.out _ _ (trivial) (fun hH42 => ?_)
       clear hK K hH41
       (try simp only [Act.put, List.setIfInBounds_toArray, List.set_cons_zero, List.set_cons_succ])
       refine wpAnyH_ready (rs := [2, 8]) (by kernel_rfl) (by simp) ?_
       refine AllReadyH.cons at2 (fun K hK => ?_) ?_
       ·
        go_simp
        refine (rtimes_ten (J1 M).1 rfl (M.out.1) (Nat.le_trans HLV.out (by decide)) HM.out).mono ?_
        rintro e w6 ⟨v_43, rfl, hd44, hb⟩
        replace M := adM hd44 hb M
        clear hb hd44
        (try go_wp2_with fail)
        refine hK.out _ _ (trivial) (fun hH45 => ?_)
        clear hK K hH42
        (try simp only [Act.put, List.setIfInBounds_toArray, List.set_cons_zero, List.set_cons_succ])
        refine wpAnyH_ready (rs := [8]) (by kernel_rfl) (by simp) ?_
        refine AllReadyH.cons at8 (fun K hK => ?_) AllReadyH.nil
        go_simp
        refine nmW (w6.alloc (.cells #[.int .i64 (dd : Int)] 3)) fun w7 hv => ?_
        rw [← hv]
        have ow2_ : w4.heap.size < w6.heap.size := ((J1 M).1).lt
        replace M := alM hv M
        clear hv
        refine hK.out _ _ (trivial) (fun hH46 => ?_)
        clear hK K hH45
        (try simp only [Act.put, List.setIfInBounds_toArray, List.set_cons_zero, List.set_cons_succ])
        refine wpAnyH_ready (rs := [9]) (by kernel_rfl) (by simp) ?_
        refine AllReadyH.cons at9 (fun K hK => ?_) AllReadyH.nil
        go_simp
        refine (rtrim_one rfl (M.out.1) g3).mono ?_
        rintro e w8 ⟨v_47, rfl, hd48, hb⟩
        replace M := adM hd48 hb M
        clear hb hd48
        (try go_wp2_with fail)
        refine hK.out _ _ (trivial) (fun hH49 => ?_)
        clear hK K hH46
        (try simp only [Act.put, List.setIfInBounds_toArray, List.set_cons_zero, List.set_cons_succ])
        refine wpAnyH_ready (rs := [10]) (by kernel_rfl) (by simp) ?_
        refine AllReadyH.cons at10 (fun K hK => ?_) AllReadyH.nil
        go_simp
        refine (rplus_d (J2 M).1 (M.out.1) (Nat.le_trans HLM.out (by decide)) (lnN_dig g3) HV2.out).mono ?_
        rintro e w9 ⟨v_50, rfl, hd51, hb⟩
        replace M := adM hd51 hb M
        clear hb hd51
        (try go_wp2_with fail)
        refine hK.out _ _ (trivial) (fun hH52 => ?_)
        clear hK K hH49
        (try simp only [Act.put, List.setIfInBounds_toArray, List.set_cons_zero, List.set_cons_succ])
        refine tk at11 ?_
        refine wpAnyH_done (by kernel_rfl) ?_ _
        clear hH52
        go_wp2_with fail
        go_roundw
        case rel => exact ⟨(j + 1), v2, v_50, rfl, by go_num, (by show _ ≤ _; omega), HNX, Lib.hid (aI (M.out.1) (aI (J6 M).1 (J7 M)))⟩
        case measure => simp [RowKit.intOf] <;> omega
       refine AllReadyH.cons at8 (fun K hK => ?_) AllReadyH.nil
       go_simp
       refine nmW (w5.alloc (.cells #[.int .i64 (dd : Int)] 3)) fun w6 hv => ?_
       rw [← hv]
       have ow2_ : w4.heap.size < w5.heap.size := ((M.out.1)).lt
       replace M := alM hv M
       clear hv
       refine hK.out _ _ (trivial) (fun hH53 => ?_)
       clear hK K hH42
       (try simp only [Act.put, List.setIfInBounds_toArray, List.set_cons_zero, List.set_cons_succ])
       refine wpAnyH_ready (rs := [2]) (by kernel_rfl) (by simp) ?_
       refine AllReadyH.cons at2 (fun K hK => ?_) AllReadyH.nil
       go_simp
       refine (rtimes_ten (J2 M).1 rfl (J1 M).1 (Nat.le_trans HLV.out (by decide)) HM.out).mono ?_
       rintro e w7 ⟨v_54, rfl, hd55, hb⟩
       replace M := adM hd55 hb M
       clear hb hd55
       (try go_wp2_with fail)
       refine hK.out _ _ (trivial) (fun hH56 => ?_)
       clear hK K hH53
       (try simp only [Act.put, List.setIfInBounds_toArray, List.set_cons_zero, List.set_cons_succ])
       refine wpAnyH_ready (rs := [9]) (by kernel_rfl) (by simp) ?_
       refine AllReadyH.cons at9 (fun K hK => ?_) AllReadyH.nil
       go_simp
       refine (rtrim_one rfl (J1 M).1 g3).mono ?_
       rintro e w8 ⟨v_57, rfl, hd58, hb⟩
       replace M := adM hd58 hb M
       clear hb hd58
       (try go_wp2_with fail)
       refine hK.out _ _ (trivial) (fun hH59 => ?_)
       clear hK K hH56
       (try simp only [Act.put, List.setIfInBounds_toArray, List.set_cons_zero, List.set_cons_succ])
       refine wpAnyH_ready (rs := [10]) (by kernel_rfl) (by simp) ?_
       refine AllReadyH.cons at10 (fun K hK => ?_) AllReadyH.nil
       go_simp
       refine (rplus_d (J1 M).1 (M.out.1) (Nat.le_trans HLM.out (by decide)) (lnN_dig g3) HV2.out).mono ?_
       rintro e w9 ⟨v_60, rfl, hd61, hb⟩
       replace M := adM hd61 hb M
       clear hb hd61
       (try go_wp2_with fail)
       refine hK.out _ _ (trivial) (fun hH62 => ?_)
       clear hK K hH59
       (try simp only [Act.put, List.setIfInBounds_toArray, List.set_cons_zero, List.set_cons_succ])
       refine tk at11 ?_
       refine wpAnyH_done (by kernel_rfl) ?_ _
       clear hH62
       go_wp2_with fail
       go_roundw
       case rel => exact ⟨(j + 1), v2, v_60, rfl, by go_num, (by show _ ≤ _; omega), HNX, Lib.hid (aI (M.out.1) (aI (J6 M).1 (J7 M)))⟩
       case measure => simp [RowKit.intOf] <;> omega
      refine AllReadyH.cons at8 (fun K hK => ?_) AllReadyH.nil
      go_simp
      refine nmW (w4.alloc (.cells #[.int .i64 (dd : Int)] 3)) fun w5 hv => ?_
      rw [← hv]
      have ow1_ : w.heap.size < w4.heap.size := ((J1 M).1).lt
      replace M := alM hv M
      clear hv
      refine hK.out _ _ (trivial) (fun hH63 => ?_)
      clear hK K hH41
      (try simp only [Act.put, List.setIfInBounds_toArray, List.set_cons_zero, List.set_cons_succ])
      refine wpAnyH_ready (rs := [1]) (by kernel_rfl) (by simp) ?_
      refine AllReadyH.cons at1 (fun K hK => ?_) AllReadyH.nil
      go_simp
      refine nmW (w5.alloc (.cells #[.int .i64 10] 3)) fun w6 hv => ?_
      rw [← hv]
      have ow2_ : w4.heap.size < w5.heap.size := ((M.out.1)).lt
      replace M := alM hv M
      clear hv
      refine hK.out _ _ (trivial) (fun hH64 => ?_)
      clear hK K hH63
      (try simp only [Act.put, List.setIfInBounds_toArray, List.set_cons_zero, List.set_cons_succ])
      refine wpAnyH_ready (rs := [2]) (by kernel_rfl) (by simp) ?_
      refine AllReadyH.cons at2 (fun K hK => ?_) AllReadyH.nil
      go_simp
      refine (rtimes_ten (J2 M).1 rfl (M.out.1) (Nat.le_trans HLV.out (by decide)) HM.out).mono ?_
      rintro e w7 ⟨v_65, rfl, hd66, hb⟩
      replace M := adM hd66 hb M
      clear hb hd66
      (try go_wp2_with fail)
      refine hK.out _ _ (trivial) (fun hH67 => ?_)
      clear hK K hH64
      (try simp only [Act.put, List.setIfInBounds_toArray, List.set_cons_zero, List.set_cons_succ])
      refine wpAnyH_ready (rs := [9]) (by kernel_rfl) (by simp) ?_
      refine AllReadyH.cons at9 (fun K hK => ?_) AllReadyH.nil
      go_simp
      refine (rtrim_one rfl (J2 M).1 g3).mono ?_
      rintro e w8 ⟨v_68, rfl, hd69, hb⟩
      replace M := adM hd69 hb M
      clear hb hd69
      (try go_wp2_with fail)
      refine hK.out _ _ (trivial) (fun hH70 => ?_)
      clear hK K hH67
      (try simp only [Act.put, List.setIfInBounds_toArray, List.set_cons_zero, List.set_cons_succ])
      refine wpAnyH_ready (rs := [10]) (by kernel_rfl) (by simp) ?_
      refine AllReadyH.cons at10 (fun K hK => ?_) AllReadyH.nil
      go_simp
      refine (rplus_d (J1 M).1 (M.out.1) (Nat.le_trans HLM.out (by decide)) (lnN_dig g3) HV2.out).mono ?_
      rintro e w9 ⟨v_71, rfl, hd72, hb⟩
      replace M := adM hd72 hb M
      clear hb hd72
      (try go_wp2_with fail)
      refine hK.out _ _ (trivial) (fun hH73 => ?_)
      clear hK K hH70
      (try simp only [Act.put, List.setIfInBounds_toArray, List.set_cons_zero, List.set_cons_succ])
      refine tk at11 ?_
      refine wpAnyH_done (by kernel_rfl) ?_ _
      clear hH73
      go_wp2_with fail
      go_roundw
      case rel => exact ⟨(j + 1), v2, v_71, rfl, by go_num, (by show _ ≤ _; omega), HNX, Lib.hid (aI (M.out.1) (aI (J6 M).1 (J7 M)))⟩
      case measure => simp [RowKit.intOf] <;> omega
     ·
      have f1 : decide (j < T.size) = false := decide_eq_false hlt2
      have f1i : decide ((j : Int) < (T.size : Int)) = false := decide_eq_false (by omega)
      have HFIN := Lib.hid (dec_done (by omega) HV.out)
      have HLF := Lib.hid (dec_fits HDG.out HV.out (by have := HSZ.out; omega))
      obtain ⟨rfl, hz3⟩ := HC3.out HB_.out HDG.out
      have HZ3 := Lib.hid hz3; clear hz3
      have HZF : Hid (-1 * (v : Int) = z) := by show _ = _; rw [HZ3.out, HFIN.out]
      have HDN := Lib.hid (M.out.1)
      replace M := Lib.hid (aI (J1 M).1 (J2 M))
      go_wp2_with fail
      refine (rmade_d (G := G) (s := (-1)) (z := z) HDN.out (Nat.le_trans HLF.out (by decide)) HZF.out (by decide)).mono ?_
      rintro e w4 ⟨a_74, c_75, rfl, hd76, hb⟩
      replace M := adM hd76 hb M
      clear hb hd76
      refine cj4 (J1 M).1.c2 fun aa ab ac ad => ?_
      go_wp2_with fail
      clear aa ab ac ad
      have hz : w.heap.size ≤ w.heap.size := by exact Nat.le_refl _
      refine st2W (.int .i64 (sg z)) (.slice a_74 (ln z) c_75) (J1 M).1 (J2 M) hz fun w5 hv og hk hbw => ?_
      rw [← hv]
      replace M := Lib.hid (aI ((M.out.1).far (J1 M).1 (by rfl) (by omega) og) (aI hk hbw))
      clear hk hbw og hv hz
      refine bodyPost_ret (results_box2 rfl _ _ w.heap.size 24 _ _ _ rfl (J1 M).1 Tryz.underlying24 rfl (by kernel_rfl)) rfl ?_
      exact ⟨a_74, c_75, rfl, (M.out.1), (J2 M)⟩
 | true =>
  go_upto_region 7 with fail
  obtain ⟨rfl, rfl⟩ := HC1.out rfl
  refine cj4 (M.out.1).c2 fun aa ab ac ad => ?_
  go_wp2_with fail
  clear aa ab ac ad
  have hz : w.heap.size ≤ w.heap.size := by exact Nat.le_refl _
  refine st2W (.int .i64 0) (.slice none 0 0) (M.out.1) (J1 M) hz fun w2 hv og hk hbw => ?_
  rw [← hv]
  replace M := Lib.hid (aI hk hbw)
  clear hk hbw og hv hz
  refine bodyPost_ret (results_box2 rfl _ _ w.heap.size 24 _ _ _ rfl (M.out.1) Tryz.underlying24 rfl (by kernel_rfl)) rfl ?_
  exact ⟨none, 0, rfl, bd_zero _ _ _, (J1 M)⟩
set_option maxRecDepth 100000 in
set_option maxHeartbeats 4000000 in
theorem rread_none {w : World} :
  Calls Tryz.prog 59 #[.string ⟨#[]⟩] w fun e w' => e = .returned (.tuple #[.agg #[.int .i64 0, .slice none 0 0], .int .i64 2]) ∧ Below w.heap.size w w' := by
 go_enter Tryz.func59, Tryz.ntmps59
 go_upto_region 1 with fail
 refine nmW (w.alloc (.cells #[.int .i64 0, .slice none 0 0] 24)) fun w1 hv => ?_
 rw [← hv]
 have K : Hid (Bx w1 w.heap.size 24 #[.int .i64 0, .slice none 0 0]) := by show Bx _ _ _ _; rw [hv]; exact bx1 w _ _
 have HB1 : Hid (Below w.heap.size w w1) := by show Below _ _ _; rw [hv]; exact below_alloc _ _
 clear hv
 obtain ⟨p0, q0, p1, q1⟩ := K.out.c2
 have e1 : (⟨#[]⟩ : ByteArray).toList.isEmpty = true := by rw [Lib.toList_data]; rfl
 go_wp2_with fail
 refine bodyPost_ret (results_box2 rfl _ _ w.heap.size 24 _ _ _ rfl (K.out.set2 _ _) Tryz.underlying24 rfl (by kernel_rfl)) rfl ?_
 exact ⟨rfl, (HB1.out.setCell (Nat.le_refl _) _).setCell (Nat.le_refl _) _⟩
set_option maxRecDepth 100000 in
set_option maxHeartbeats 4000000 in
theorem rread_minus {w : World} :
  Calls Tryz.prog 59 #[.string ⟨#[45]⟩] w fun e w' => e = .returned (.tuple #[.agg #[.int .i64 0, .slice none 0 0], .int .i64 2]) ∧ Below w.heap.size w w' := by
 go_enter Tryz.func59, Tryz.ntmps59
 go_upto_region 1 with fail
 refine nmW (w.alloc (.cells #[.int .i64 0, .slice none 0 0] 24)) fun w1 hv => ?_
 rw [← hv]
 have K : Hid (Bx w1 w.heap.size 24 #[.int .i64 0, .slice none 0 0]) := by show Bx _ _ _ _; rw [hv]; exact bx1 w _ _
 have HB1 : Hid (Below w.heap.size w w1) := by show Below _ _ _; rw [hv]; exact below_alloc _ _
 clear hv
 obtain ⟨p0, q0, p1, q1⟩ := K.out.c2
 have e1 : ((⟨#[45]⟩ : ByteArray).extract 1 1).toList.isEmpty = true := by rw [Lib.toList_data, Lib.extract_data]; rfl
 go_wp2_with fail
 refine bodyPost_ret (results_box2 rfl _ _ w.heap.size 24 _ _ _ rfl (K.out.set2 _ _) Tryz.underlying24 rfl (by kernel_rfl)) rfl ?_
 exact ⟨rfl, (HB1.out.setCell (Nat.le_refl _) _).setCell (Nat.le_refl _) _⟩
end Go.Proofs.YtcfmakpckdicjaaGreatDoor
namespace Go.Proofs.YtcfmakpckdicjaaGreatDoor
open Go.RowKit Go.Lib
variable {G : Nat}

theorem readO_neg (d : UInt8) (t : List UInt8) : readO (45 :: d :: t) = if d = 48 then none else if (d :: t).all isDg = true then some (-((decVal (d :: t) : Nat) : Int)) else none := by
 unfold readO
 rw [if_neg (by simp), (pre_minus _).2, (pre_minus _).1]
 rfl
theorem readO_pos {c : UInt8} {r : List UInt8} (hc : c ≠ 45) : readO (c :: r) = if c :: r = [48] then some 0 else if c = 48 then none else if (c :: r).all isDg = true then some ((decVal (c :: r) : Nat) : Int) else none := by
  unfold readO
  by_cases h : c :: r = [48]
  · rw [if_pos h, if_pos h]
  · rw [if_neg h, if_neg h, (pre_cons hc).2, (pre_cons hc).1]
    rfl
theorem toNat_beq {c k : UInt8} {n : Nat} (hk : k.toNat = n) : ((c.toNat : Int) == (n : Int)) = decide (c = k) := by
  by_cases h : c = k
  · subst h; rw [hk]; simp
  · rw [decide_eq_false h, beq_eq_false_iff_ne]
    intro h'; apply h; apply UInt8.toNat_inj.1; omega
theorem rRead_v {S : ByteArray} {l : List UInt8} {z er : Int} {w : World} (hG : G ≤ w.heap.size) (hl : S = ⟨l.toArray⟩) (hn : l.length ≤ 1000000) (hz : rdZ l = z) (he : rdE l = er) :
    Calls Tryz.prog 59 #[.string S] w fun e w' => ∃ a c, e = .returned (.tuple #[.agg #[.int .i64 (sg z), .slice a (ln z) c], .int .i64 er]) ∧ BD G w' a c z ∧ Below w.heap.size w w' := by
  subst hl
  have none_ : readO l = none → z = 0 ∧ er = 2 := fun h => by
    unfold rdZ rdE at *; rw [h] at hz he; exact ⟨hz.symm, by simpa using he.symm⟩
  have some_ : ∀ {x : Int}, readO l = some x → er = 0 ∧ z = x := fun h => by
    unfold rdZ rdE at *; rw [h] at hz he; exact ⟨by simpa using he.symm, hz.symm⟩
  cases l with
  | nil =>
    obtain ⟨rfl, rfl⟩ := none_ rfl
    exact rread_none.mono fun e w' ⟨he, hb⟩ => ⟨none, 0, he, bd_zero _ _ _, hb⟩
  | cons c r =>
    by_cases hc : c = 45
    · subst hc
      cases r with
      | nil =>
        obtain ⟨rfl, rfl⟩ := none_ rfl
        exact rread_minus.mono fun e w' ⟨he, hb⟩ => ⟨none, 0, he, bd_zero _ _ _, hb⟩
      | cons d t =>
        rw [readO_neg] at none_ some_
        have hlen : (d :: t).length ≤ 1000000 := by simp at hn ⊢; omega
        refine rread_neg (S := ⟨(45 :: d :: t).toArray⟩) (T := ⟨(d :: t).toArray⟩) (b48 := decide (d = 48)) hG (by show 0 < t.length + 1; omega) hlen (by show 0 < t.length + 2; omega) rfl ?_ (toNat_beq (c := d) (k := 48) (n := 48) rfl) ?_ ?_ ?_ ?_
        · apply ByteArray.ext
          apply Array.ext'
          rw [Lib.extract_data]
          show List.take _ (List.drop 1 (45 :: d :: t)) = d :: t
          rw [List.take_of_length_le (by simp [ByteArray.size])]; rfl
        · rw [Lib.toList_data]
          show (45 :: d :: t == [48]) = false
          rw [beq_eq_false_iff_ne]; simp
        · intro h
          have hd : d = 48 := by simpa using h
          exact none_ (if_pos hd)
        · intro h
          have h' : (d :: t).all isDg = false := h
          refine none_ ?_
          split
          · rfl
          · rw [h']; rfl
        · intro h h2
          have hd : d ≠ 48 := by simpa using h
          have h2' : (d :: t).all isDg = true := h2
          have := some_ (x := -((decVal (d :: t) : Nat) : Int)) (by rw [if_neg hd, if_pos h2'])
          refine ⟨this.1, ?_⟩
          rw [this.2]
          show _ = -1 * ((decVal (d :: t) : Nat) : Int)
          omega
    · rw [readO_pos hc] at none_ some_
      refine rread_pos (T := ⟨(c :: r).toArray⟩) (b48 := decide (c = 48)) (bS := !decide (c :: r = [48])) hG (by show 0 < r.length + 1; omega) hn ?_ (toNat_beq (c := c) (k := 48) (n := 48) rfl) ?_ ?_ ?_ ?_
      · exact (toNat_beq (c := c) (k := 45) (n := 45) rfl).trans (decide_eq_false hc)
      · rw [Lib.toList_data, Bool.not_not]
        show (c :: r == [48]) = decide (c :: r = [48])
        by_cases h : c :: r = [48]
        · rw [h]; rfl
        · rw [decide_eq_false h, beq_eq_false_iff_ne]; exact h
      · intro h
        have hd : c = 48 ∧ ¬ c :: r = [48] := by
          rw [Bool.and_eq_true, Bool.not_eq_true', decide_eq_true_eq, decide_eq_false_iff_not] at h; exact h
        exact none_ (by rw [if_neg hd.2, if_pos hd.1])
      · intro h
        have h' : (c :: r).all isDg = false := h
        refine none_ ?_
        have h3 : ¬ c :: r = [48] := by intro h4; rw [h4] at h'; revert h'; decide
        rw [if_neg h3]
        split
        · rfl
        · rw [h']; rfl
      · intro h h2
        have h2' : (c :: r).all isDg = true := h2
        have := some_ (x := ((decVal (c :: r) : Nat) : Int)) (by
          by_cases h4 : c :: r = [48]
          · rw [if_pos h4, h4]; rfl
          · have hd : c ≠ 48 := by
              intro h5
              rw [decide_eq_true h5, decide_eq_false h4] at h; cases h
            rw [if_neg h4, if_neg hd, if_pos h2'])
        refine ⟨this.1, ?_⟩
        rw [this.2]
        show _ = 1 * ((decVal (c :: r) : Nat) : Int)
        omega
end Go.Proofs.YtcfmakpckdicjaaGreatDoor
