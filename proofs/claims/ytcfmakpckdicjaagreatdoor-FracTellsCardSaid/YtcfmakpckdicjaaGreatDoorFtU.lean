/- One contract for each function on fractions, whether they are right or not, the program's and the reference's. -/
import Derived.Test.YtcfmakpckdicjaaGreatDoorBase
import Derived.Test.YtcfmakpckdicjaaGreatDoorBigSpec
import Derived.Test.YtcfmakpckdicjaaGreatDoorBigB
import Derived.Test.YtcfmakpckdicjaaGreatDoorBigC
import Derived.Test.YtcfmakpckdicjaaGreatDoorBigD
import Derived.Test.YtcfmakpckdicjaaGreatDoorBigK
import Derived.Test.YtcfmakpckdicjaaGreatDoorBigQ
import Derived.Test.YtcfmakpckdicjaaGreatDoorFracA
import Derived.Test.YtcfmakpckdicjaaGreatDoorRefE
import Derived.Test.YtcfmakpckdicjaaGreatDoorRefN
import Derived.Test.YtcfmakpckdicjaaGreatDoorFz
import Derived.Test.YtcfmakpckdicjaaGreatDoorHeld
import Derived.Test.YtcfmakpckdicjaaGreatDoorAw
import Derived.Test.YtcfmakpckdicjaaGreatDoorFracD
import Derived.Test.YtcfmakpckdicjaaGreatDoorBigDec
import Derived.Test.YtcfmakpckdicjaaGreatDoorBigRead
import Derived.Test.YtcfmakpckdicjaaGreatDoorBigRead3
import Derived.Test.YtcfmakpckdicjaaGreatDoorRefO
import Derived.Test.YtcfmakpckdicjaaGreatDoorFtX
import Derived.Test.YtcfmakpckdicjaaGreatDoorTelV
import Derived.Test.YtcfmakpckdicjaaGreatDoorTelY
import Derived.Test.YtcfmakpckdicjaaGreatDoorProg
import Derived.Test.YtcfmakpckdicjaaGreatDoorShelf
import Derived.WalkKit
import Derived.WalkSpells
import Derived.WalkLawsBesides
import Derived.Handy
import Derived.Lib.Hide
import Derived.Lib.Strings
import Derived.Lib.Builder
import Derived.BigQuiet
import Derived.OwnWalk
import Derived.Laws.BitsLemmas
import Derived.WalkSmall
import Derived.Deep.QuietTactic
import Derived.StillTailTactics
import Derived.Maps.AppendAt
import Derived.IntWalk
import Derived.Deep.RegionHeld3
import Derived.Deep.DeepFit
import Derived.Deep.LoopGhost
import Derived.Deep.DeepCutAuto
import Derived.Lib.ItoaNum
import Derived.Lib.Repeat
import Derived.Lib.AppendIntMem
import Derived.Sort.OwnSorted
import Derived.Shelf.Strings.SlTrimAscii
import Derived.Lib.ConvBytes
import Derived.Lib.CutLaws
namespace Go.Proofs.YtcfmakpckdicjaaGreatDoor
open Go.RowKit Go.Lib
variable {G : Nat}

theorem rText_lit {x : Int} {s : ByteArray} {a1 : Option Addr} {c1 : Nat} {w : World} (h1 : BD G w a1 c1 x) (hX : Sz x 1073741824) (hs : (⟨(textZ x).toArray⟩ : ByteArray) = s) :
  Calls Tryz.prog 74 #[.agg #[.int .i64 (sg x), .slice a1 (ln x) c1]] w fun e w' => e = .returned (.string s) ∧ Below w.heap.size w w' := by
 subst hs; exact rText_ok h1 hX
theorem cut_none {l : List UInt8} (h : ∀ c ∈ l, c ≠ 47) : readF l = none := by
 have e : (cutS l).2 = [] := by
  induction l with
  | nil => rfl
  | cons c r ih =>
   unfold cutS
   rw [if_neg (h c (List.mem_cons_self ..))]
   exact ih fun d hd => h d (List.mem_cons_of_mem _ hd)
 unfold readF
 rw [e, show readO [] = none from rfl]
 split <;> simp_all
theorem cut_at {S : ByteArray} {l : List UInt8} {k : Nat} (hS : S = ⟨l.toArray⟩) (hk : k < S.size) (ha : ∀ c ∈ l.take k, c ≠ 47) (h47 : ((S[k].toNat : Int) != 47) = false) :
    S.extract 0 k = ⟨(cutS l).1.toArray⟩ ∧ S.extract (k + 1) S.size = ⟨(cutS l).2.toArray⟩ := by
  subst hS
  have hk' : k < l.length := hk
  have e47 : l[k] = 47 := by
    have h47' : ((l[k].toNat : Int) != 47) = false := h47
    have : (l[k].toNat : Int) = 47 := by simpa using h47'
    exact UInt8.toNat_inj.1 (by show _ = 47; omega)
  have hl : l = l.take k ++ 47 :: l.drop (k + 1) := by rw [← e47, List.getElem_cons_drop, List.take_append_drop]
  have hc := cutS_mk (a := l.take k) (b := l.drop (k + 1)) ha
  rw [← hl] at hc
  rw [hc]
  constructor
  · apply ByteArray.ext; apply Array.ext'; rw [Lib.extract_data]; simp
  · apply ByteArray.ext; apply Array.ext'; rw [Lib.extract_data]; simp [ByteArray.size, List.take_of_length_le]
theorem txt_same {p q : Int} {l : List UInt8} {S T : ByteArray} {b3 b4 : Bool} (hT : (⟨(if rightP p q = true then textZ p ++ 47 :: textZ q else []).toArray⟩ : ByteArray) = T) (hS : S = ⟨l.toArray⟩) (hl : 0 < S.size) (k3 : rightP p q = b3) (k4 : ((textZ p ++ 47 :: textZ q) == l) = b4) : (T.toList == S.toList) = (b3 && b4) := by
 have hl' : l ≠ [] := by rintro rfl; rw [hS] at hl; exact absurd hl (by decide)
 rw [← hT, hS, Lib.toList_data, Lib.toList_data, k3]
 cases b3 with
 | true => rw [← k4]; simp
 | false =>
  cases l with
  | nil => exact absurd rfl hl'
  | cons c r => rfl
theorem no47_step {S : ByteArray} {l : List UInt8} {k : Nat} (hS : S = ⟨l.toArray⟩) (hk : k < S.size) (ha : ∀ c ∈ l.take k, c ≠ 47) (h47 : ((S[k].toNat : Int) != 47) = true) : ∀ c ∈ l.take (k + 1), c ≠ 47 := by
  subst hS
  have hk' : k < l.length := hk
  intro c hc
  rw [List.take_succ_eq_append_getElem hk'] at hc
  rcases List.mem_append.1 hc with h | h
  · exact ha c h
  · simp at h; subst h
    rintro h'
    have h47' : ((l[k].toNat : Int) != 47) = true := h47
    have : (l[k].toNat : Int) ≠ 47 := by simpa using h47'
    rw [h'] at this; exact this rfl
theorem no47_all {S : ByteArray} {l : List UInt8} {k : Nat} (hS : S = ⟨l.toArray⟩) (hk : S.size ≤ k) (ha : ∀ c ∈ l.take k, c ≠ 47) : ∀ c ∈ l, c ≠ 47 := by
 subst hS
 rwa [List.take_of_length_le (show l.length ≤ k from hk)] at ha
set_option maxRecDepth 100000 in
set_option maxHeartbeats 4000000 in
theorem rfText_lit {q : Rat} {s : ByteArray} {a1 b1 : Option Addr} {c1 d1 : Nat} {w : World} (_hG : G ≤ w.heap.size) (h1 : FD G w a1 c1 b1 d1 q) (hx : Fz q 1000) (hs : (⟨(textF q).toArray⟩ : ByteArray) = s)  :
    Calls Tryz.prog 41 #[.agg #[.int .i64 (sg (nu q)), .slice a1 (ln (nu q)) c1, .int .i64 (sg (de q)), .slice b1 (ln (de q)) d1]] w fun e w' => e = .returned (.string s) ∧ Below w.heap.size w w' := by
  obtain ⟨S1, hS1⟩ : ∃ s : ByteArray, (⟨(textZ (nu q)).toArray⟩ : ByteArray) = s := ⟨_, rfl⟩
  obtain ⟨S2, hS2⟩ : ∃ s : ByteArray, (⟨(textZ (de q)).toArray⟩ : ByteArray) = s := ⟨_, rfl⟩
  obtain ⟨S3, hS3⟩ : ∃ s : ByteArray, S1 ++ {data := #[47]} = s := ⟨_, rfl⟩
  have hl1 := textZ_len hx.1 (by omega)
  have hl2 := textZ_len hx.2 (by omega)
  have hz1 : S1.size = (textZ (nu q)).length := by rw [← hS1]; simp [ByteArray.size]
  have hz2 : S2.size = (textZ (de q)).length := by rw [← hS2]; simp [ByteArray.size]
  have hS3' : S3 = ⟨(textZ (nu q) ++ [47]).toArray⟩ := by rw [← hS3, ← hS1]; exact ba_app _ [47]
  have hz3 : S3.size = (textZ (nu q)).length + 1 := by rw [hS3']; simp [ByteArray.size]
  have hcat1 : ¬ 9223372036854775807 < S1.size + 1 := by omega
  have hcat2 : ¬ 9223372036854775807 < S3.size + S2.size := by omega
  have hs4 : S3 ++ S2 = s := by
    rw [← hs, hS3', ← hS2]; unfold textF
    rw [ba_app, List.append_assoc]; rfl
  have HS1 := Lib.hid hS1; have HS2 := Lib.hid hS2
  have HX := Lib.hid hx
  clear hS1 hS2 hl1 hl2 hz1 hz2 hz3 hS3' hx hs
  have H1 : Hid (FD G w a1 c1 b1 d1 q) := h1
  clear h1
  have M : Hid (Below w.heap.size w w) := Below.refl _ _
  go_enter Tryz.func41, Tryz.ntmps41
  go_upto_region 1 with fail
  refine nmW (w.alloc (.cells #[.int .i64 (sg (nu q)), .slice a1 (ln (nu q)) c1, .int .i64 (sg (de q)), .slice b1 (ln (de q)) d1] 26)) fun w1 hv => ?_
  rw [← hv]
  replace M := alM hv M
  clear hv
  refine cj4 (M.out.1).d4 fun aa ab ac ad => ?_
  go_wp2_with fail
  clear aa ab ac ad
  refine (rfright_ok (G := G) (q := q) (H1.out.keep (J1 M)) (Fz.mono HX.out (by omega))).mono ?_
  rintro e w2 ⟨rfl, hb⟩
  replace M := gnM hb M
  clear hb
  go_wp2_with fail
  refine nmW w2.drew fun w3 hv => ?_
  replace M := drM hv M
  refine wp_region_held_drew (S := (fun w' => w'.cell? ⟨w.heap.size, 0, none⟩ = some (.int .i64 (sg (nu q))) ∧ w'.cell? ⟨w.heap.size, 1, none⟩ = some (.slice a1 (ln (nu q)) c1) ∧ w'.cell? ⟨w.heap.size, 2, none⟩ = some (.int .i64 (sg (de q))) ∧ w'.cell? ⟨w.heap.size, 3, none⟩ = some (.slice b1 (ln (de q)) d1))) (by kernel_rfl) (by rw [← hv]; exact (M.out.1).d4) (fun hH1 => ?_)
  rw [← hv] at hH1 ⊢
  clear hv
  refine tk at0 ?_
  refine tk at1 ?_
  refine tk at4 ?_
  refine tk at5 ?_
  refine wpAnyH_ready (rs := [2]) (by kernel_rfl) (by simp) ?_
  refine AllReadyH.cons at2 (fun K hK => ?_) AllReadyH.nil
  go_simp
  refine (rText_lit (G := G) (x := (nu q)) (s := S1) (H1.out.keep (J1 M)).n (Sz.mono HX.out.1 (by omega)) HS1.out).mono ?_
  rintro e w4 ⟨rfl, hb⟩
  replace M := gnM hb M
  clear hb
  (try go_wp2_with fail)
  refine hK.out _ _ ((M.out.1).d4) (fun hH2 => ?_)
  clear hK K hH1
  (try simp only [Act.put, List.setIfInBounds_toArray, List.set_cons_zero, List.set_cons_succ])
  refine tk at3 ?_
  refine wpAnyH_ready (rs := [6]) (by kernel_rfl) (by simp) ?_
  refine AllReadyH.cons at6 (fun K hK => ?_) AllReadyH.nil
  go_simp
  refine (rText_lit (G := G) (x := (de q)) (s := S2) (H1.out.keep (J1 M)).d (Sz.mono HX.out.2 (by omega)) HS2.out).mono ?_
  rintro e w5 ⟨rfl, hb⟩
  replace M := gnM hb M
  clear hb
  (try go_wp2_with fail)
  refine hK.out _ _ ((M.out.1).d4) (fun hH3 => ?_)
  clear hK K hH2
  (try simp only [Act.put, List.setIfInBounds_toArray, List.set_cons_zero, List.set_cons_succ])
  refine tk at7 ?_
  refine tk at8 ?_
  refine wpAnyH_done (by kernel_rfl) ?_ _
  clear hH3
  go_wp2_with fail
  go_ret
  exact ⟨rfl, (J1 M)⟩
set_option maxRecDepth 100000 in
set_option maxHeartbeats 4000000 in
theorem rfText_no {x y : Int} {a1 b1 : Option Addr} {c1 d1 : Nat} {w : World} (hG : G ≤ w.heap.size) (h1 : BD G w a1 c1 x) (k1 : BD G w b1 d1 y) (hx : Sz x 549755813888) (hy : Sz y 549755813888) (hb : rightP x y = false) :
    Calls Tryz.prog 41 #[.agg #[.int .i64 (sg x), .slice a1 (ln x) c1, .int .i64 (sg y), .slice b1 (ln y) d1]] w fun e w' => e = .returned (.string {data := #[]}) ∧ Below w.heap.size w w' := by
  have HX := Lib.hid hx; have HY := Lib.hid hy; have HB := Lib.hid hb; clear hx hy hb
  have H1 : Hid (BD G w a1 c1 x) := h1
  have K1 : Hid (BD G w b1 d1 y) := k1
  clear h1 k1
  have M : Hid (Below w.heap.size w w) := Below.refl _ _
  go_enter Tryz.func41, Tryz.ntmps41
  go_upto_region 1 with fail
  refine nmW (w.alloc (.cells #[.int .i64 (sg x), .slice a1 (ln x) c1, .int .i64 (sg y), .slice b1 (ln y) d1] 26)) fun w1 hv => ?_
  rw [← hv]
  replace M := alM hv M
  clear hv
  refine cj4 (M.out.1).d4 fun aa ab ac ad => ?_
  go_wp2_with fail
  clear aa ab ac ad
  refine (rfRight_bd (G := G) (x := x) (y := y) (b_ := false) (Nat.le_trans hG (J1 M).size) (H1.out.keep (J1 M)) (K1.out.keep (J1 M)) HX.out HY.out HB.out).mono ?_
  rintro e w2 ⟨rfl, hb⟩
  replace M := gnM hb M
  clear hb
  go_wp2_with fail
  go_ret
  exact ⟨rfl, (J1 M)⟩
theorem rfText_any {x y : Int} {s : ByteArray} {a1 b1 : Option Addr} {c1 d1 : Nat} {w : World} (hG : G ≤ w.heap.size) (h1 : BD G w a1 c1 x) (k1 : BD G w b1 d1 y) (hx : Sz x 1000) (hy : Sz y 1000) (hs : (⟨(if rightP x y = true then textZ x ++ 47 :: textZ y else []).toArray⟩ : ByteArray) = s) :
  Calls Tryz.prog 41 #[.agg #[.int .i64 (sg x), .slice a1 (ln x) c1, .int .i64 (sg y), .slice b1 (ln y) d1]] w fun e w' => e = .returned (.string s) ∧ Below w.heap.size w w' := by
 subst hs
 cases hr : rightP x y with
 | false => exact rfText_no hG h1 k1 (hx.mono (by decide)) (hy.mono (by decide)) hr
 | true =>
  obtain ⟨e1, e2⟩ := rightP_parts hr
  have := rfText_lit (G := G) (q := Rat.divInt x y) (s := ⟨(textZ x ++ 47 :: textZ y).toArray⟩) (a1 := a1) (b1 := b1) (c1 := c1) (d1 := d1) (w := w) hG ⟨by rw [e1]; exact h1, by rw [e2]; exact k1⟩ ⟨by rw [e1]; exact hx, by rw [e2]; exact hy⟩ (by unfold textF; rw [e1, e2])
  rw [e1, e2] at this; exact this
set_option maxRecDepth 100000 in
set_option maxHeartbeats 8000000 in
theorem rfRead_v {S : ByteArray} {l : List UInt8} {o : Option Rat} {er : Int} {w : World} (hG : G ≤ w.heap.size) (hS : S = ⟨l.toArray⟩) (hn : l.length ≤ 1000) (ho : readF l = o) (he : rfE l = er) :
  Calls Tryz.prog 22 #[.string S] w fun e w' => ∃ a c b d, e = .returned (.tuple #[.agg #[.int .i64 (sg (oN o)), .slice a (ln (oN o)) c, .int .i64 (sg (oD o)), .slice b (ln (oD o)) d], .int .i64 er]) ∧ BD G w' a c (oN o) ∧ BD G w' b d (oD o) ∧ Below w.heap.size w w' := by
 have HS := Lib.hid hS; have HN := Lib.hid hn; have HO := Lib.hid ho; have HE := Lib.hid he
 have hsz : S.size ≤ 1000 := by rw [hS]; exact hn
 clear hS hn ho he
 have M : Hid (Below w.heap.size w w) := Below.refl _ _
 go_enter Tryz.func22, Tryz.ntmps22
 go_upto_region 1 with fail
 refine nmW (w.alloc (.cells #[.int .i64 0, .slice none 0 0, .int .i64 0, .slice none 0 0] 26)) fun w1 hv => ?_
 rw [← hv]
 replace M := alM hv M
 clear hv
 go_wp2_with fail
 go_loopw [4] (fun i4 wr => ∃ (k : Nat), i4 = .int .i64 (k : Int) ∧ Hid (k ≤ S.size) ∧ Hid (∀ c ∈ l.take k, c ≠ 47) ∧ Hid (Bx wr w.heap.size 26 #[.int .i64 0, .slice none 0 0, .int .i64 0, .slice none 0 0] ∧ Below w.heap.size w wr)) (fun i4 _ => S.size - (RowKit.intOf i4).toNat)
 case atStart =>
  exact ⟨0, rfl, (Nat.zero_le _), (by show ∀ c ∈ _, _; simp), Lib.hid (aI (M.out.1) (J1 M))⟩
 case round =>
  obtain ⟨w2, rfl⟩ : ∃ x, x = wr := ⟨_, rfl⟩
  clear M
  obtain ⟨k, rfl, hk, HA, M⟩ := hrel
  have hk := hk.out
  by_cases hlt : k < S.size
  ·
   have e1 : decide (k < S.size) = true := decide_eq_true hlt
   have e1i : decide ((k : Int) < (S.size : Int)) = true := decide_eq_true (by omega)
   have e2i : ((k : Int) == (S.size : Int)) = false := by rw [beq_eq_false_iff_ne]; omega
   have e2 : (k == S.size) = false := by rw [beq_eq_false_iff_ne]; omega
   obtain ⟨b1, hb1⟩ : ∃ b, ((S[k].toNat : Int) != 47) = b := ⟨_, rfl⟩
   have HB1 := Lib.hid hb1
   have hi1_ : (k : Int) < (S.size : Int) := by omega
   have hi0_ : (0 : Int) ≤ (k : Int) := by omega
   cases b1 with
   | false =>
    go_upto_region 6 with fail
    obtain ⟨A, hA⟩ : ∃ s : ByteArray, S.extract 0 k = s := ⟨_, rfl⟩
    obtain ⟨B, hB⟩ : ∃ s : ByteArray, S.extract (k + 1) S.size = s := ⟨_, rfl⟩
    have hcut := cut_at HS.out hlt HA.out HB1.out
    rw [hA, hB] at hcut
    have HCA := Lib.hid hcut.1; have HCB := Lib.hid hcut.2
    clear hcut
    obtain ⟨p, hp⟩ : ∃ z, rdZ (cutS l).1 = z := ⟨_, rfl⟩
    obtain ⟨q, hq⟩ : ∃ z, rdZ (cutS l).2 = z := ⟨_, rfl⟩
    obtain ⟨er1, h1⟩ : ∃ z, rdE (cutS l).1 = z := ⟨_, rfl⟩
    obtain ⟨er2, h2⟩ : ∃ z, rdE (cutS l).2 = z := ⟨_, rfl⟩
    obtain ⟨c1, k1⟩ : ∃ b, (er1 != 0) = b := ⟨_, rfl⟩
    obtain ⟨c2, k2⟩ : ∃ b, (er2 != 0) = b := ⟨_, rfl⟩
    obtain ⟨b3, k3⟩ : ∃ b, rightP p q = b := ⟨_, rfl⟩
    obtain ⟨b4, k4⟩ : ∃ b, ((textZ p ++ 47 :: textZ q) == l) = b := ⟨_, rfl⟩
    obtain ⟨T, hT⟩ : ∃ s : ByteArray, (⟨(if rightP p q = true then textZ p ++ 47 :: textZ q else []).toArray⟩ : ByteArray) = s := ⟨_, rfl⟩
    have hts := txt_same hT HS.out (by omega) k3 k4
    obtain ⟨c4, hc4⟩ : ∃ b, (T.toList != S.toList) = b := ⟨_, rfl⟩
    have hb34 : (b3 && b4) = !c4 := by rw [← hts, ← hc4]; show _ = !(!_); rw [Bool.not_not]
    have hts2 : (T.toList == S.toList) = !c4 := hts.trans hb34
    clear hts
    have j1 : (er1 == 0) = !c1 := by rw [← k1]; show _ = !(!_); rw [Bool.not_not]
    have j2 : (er2 == 0) = !c2 := by rw [← k2]; show _ = !(!_); rw [Bool.not_not]
    have hrf := readF_parts hp hq h1 h2 j1 j2 k3 k4 HO.out
    rw [Bool.and_assoc, hb34] at hrf
    have HRF := Lib.hid hrf
    have HER : Hid ((o.isSome = true → er = 0) ∧ (o = none → er = 2)) := by
     show _ ∧ _
     rw [← HE.out]; unfold rfE; rw [HO.out]
     exact ⟨fun h => by rw [if_pos h], fun h => by rw [h]; rfl⟩
    have hl := cutS_len l
    have HL1 : Hid ((cutS l).1.length ≤ 1000000) := by show _ ≤ _; have := HN.out; omega
    have HL2 : Hid ((cutS l).2.length ≤ 1000000) := by show _ ≤ _; have := HN.out; omega
    have HZP : Hid (Sz p 1000) := by show Sz _ _; rw [← hp]; exact rd_size (by have := HN.out; omega)
    have HZQ : Hid (Sz q 1000) := by show Sz _ _; rw [← hq]; exact rd_size (by have := HN.out; omega)
    have HP := Lib.hid hp; have HQ := Lib.hid hq; have HE1 := Lib.hid h1; have HE2 := Lib.hid h2; have HTX := Lib.hid hT
    clear hp hq h1 h2 k3 k4 hT hl hrf hb34 j1 j2
    obtain ⟨la, hla⟩ : ∃ x, (cutS l).1 = x := ⟨_, rfl⟩
    obtain ⟨lb, hlb⟩ : ∃ x, (cutS l).2 = x := ⟨_, rfl⟩
    rw [hla] at HCA HL1 HP HE1
    rw [hlb] at HCB HL2 HQ HE2
    clear hla hlb
    go_wp2_with fail
    refine (rRead_v (G := G) (S := A) (l := la) (z := p) (er := er1) (Nat.le_trans hG (J1 M).size) HCA.out HL1.out HP.out HE1.out).mono ?_
    rintro e w3 ⟨a_1, c_2, rfl, hd3, hb⟩
    replace M := adM hd3 hb M
    clear hb hd3
    go_upto_region 7 with fail
    refine nmW (w3.alloc (.cells #[.int .i64 (sg p), .slice a_1 (ln p) c_2] 24)) fun w4 hv => ?_
    rw [← hv]
    have ow1_ : w.heap.size < w3.heap.size := ((J1 M).1).lt
    replace M := alM hv M
    clear hv
    go_wp2_with fail
    refine (rRead_v (G := G) (S := B) (l := lb) (z := q) (er := er2) (Nat.le_trans hG (J3 M).size) HCB.out HL2.out HQ.out HE2.out).mono ?_
    rintro e w5 ⟨a_4, c_5, rfl, hd6, hb⟩
    replace M := adM hd6 hb M
    clear hb hd6
    go_upto_region 8 with fail
    refine nmW (w5.alloc (.cells #[.int .i64 (sg q), .slice a_4 (ln q) c_5] 24)) fun w6 hv => ?_
    rw [← hv]
    have ow2_ : w3.heap.size < w5.heap.size := ((J1 M).1).lt
    replace M := alM hv M
    clear hv
    refine cj2 (J2 M).1.d2 fun aa ab => ?_
    have z1 : w3.heap.size < w6.heap.size := (J2 M).1.lt
    refine cj2 (M.out.1).d2 fun ac ad => ?_
    have z2 : w5.heap.size < w6.heap.size := (M.out.1).lt
    go_upto_region 9 with fail
    clear aa ab z1 ac ad z2
    refine nmW (w6.alloc (.cells #[.int .i64 (sg p), .slice a_1 (ln p) c_2, .int .i64 (sg q), .slice a_4 (ln q) c_5] 26)) fun w7 hv => ?_
    rw [← hv]
    have ow3_ : w5.heap.size < w6.heap.size := ((M.out.1)).lt
    replace M := alM hv M
    clear hv
    cases c1 with
    | false =>
     cases c2 with
     | false =>
      refine cj4 (M.out.1).d4 fun ae af ag ah => ?_
      go_wp2_with fail
      clear ae af ag ah
      refine (rfText_any (G := G) (x := p) (y := q) (s := T) (Nat.le_trans hG (J6 M).size) (J4 M).1 (J2 M).1 HZP.out HZQ.out HTX.out).mono ?_
      rintro e w8 ⟨rfl, hb⟩
      replace M := gnM hb M
      clear hb
      cases c4 with
      | false =>
       refine cj4 (M.out.1).d4 fun ae af ag ah => ?_
       refine cj8 (J5 M).1.c4 fun ai aj ak al am ao ap aq => ?_
       go_wp2_with fail
       clear ae af ag ah ai aj ak al am ao ap aq
       have hz : w.heap.size ≤ w.heap.size := by exact Nat.le_refl _
       refine st4W (.int .i64 (sg p)) (.slice a_1 (ln p) c_2) (.int .i64 (sg q)) (.slice a_4 (ln q) c_5) (J5 M).1 (J6 M) hz fun w9 hv og hk hbw => ?_
       rw [← hv]
       replace M := Lib.hid (aI ((M.out.1).only og (by omega)) (aI ((J1 M).1.only og (by omega)) (aI ((J2 M).1.far (J5 M).1 (by rfl) (by omega) og) (aI ((J3 M).1.only og (by omega)) (aI ((J4 M).1.far (J5 M).1 (by rfl) (by omega) og) (aI hk hbw))))))
       clear hk hbw og hv hz
       have hO := HRF.out.1 (by rfl)
       have hE := HER.out.1 (by rw [hO.1]; rfl)
       rw [hO.2.1, hO.2.2, hE]
       refine bodyPost_ret (results_box2 rfl _ _ w.heap.size 26 _ _ _ rfl (J5 M).1 Tryz.underlying26 rfl (by kernel_rfl)) rfl ?_
       exact ⟨a_1, c_2, a_4, c_5, rfl, (J4 M).1, (J2 M).1, (J6 M)⟩
      | true =>
       refine cj8 (J5 M).1.c4 fun ai aj ak al am ao ap aq => ?_
       go_wp2_with fail
       clear ai aj ak al am ao ap aq
       have hz : w.heap.size ≤ w.heap.size := by exact Nat.le_refl _
       refine st4W (.int .i64 0) (.slice none 0 0) (.int .i64 0) (.slice none 0 0) (J5 M).1 (J6 M) hz fun w9 hv og hk hbw => ?_
       rw [← hv]
       replace M := Lib.hid (aI ((M.out.1).only og (by omega)) (aI ((J1 M).1.only og (by omega)) (aI ((J2 M).1.far (J5 M).1 (by rfl) (by omega) og) (aI ((J3 M).1.only og (by omega)) (aI ((J4 M).1.far (J5 M).1 (by rfl) (by omega) og) (aI hk hbw))))))
       clear hk hbw og hv hz
       have hO := HRF.out.2 (by rfl)
       have hE := HER.out.2 hO
       rw [hO, hE]
       refine bodyPost_ret (results_box2 rfl _ _ w.heap.size 26 _ _ _ rfl (J5 M).1 Tryz.underlying26 rfl (by kernel_rfl)) rfl ?_
       exact ⟨none, 0, none, 0, rfl, (bd_zero _ _ _), (bd_zero _ _ _), (J6 M)⟩
     | true =>
      refine cj8 (J5 M).1.c4 fun ai aj ak al am ao ap aq => ?_
      go_wp2_with fail
      clear ai aj ak al am ao ap aq
      have hz : w.heap.size ≤ w.heap.size := by exact Nat.le_refl _
      refine st4W (.int .i64 0) (.slice none 0 0) (.int .i64 0) (.slice none 0 0) (J5 M).1 (J6 M) hz fun w8 hv og hk hbw => ?_
      rw [← hv]
      replace M := Lib.hid (aI ((M.out.1).only og (by omega)) (aI ((J1 M).1.only og (by omega)) (aI ((J2 M).1.far (J5 M).1 (by rfl) (by omega) og) (aI ((J3 M).1.only og (by omega)) (aI ((J4 M).1.far (J5 M).1 (by rfl) (by omega) og) (aI hk hbw))))))
      clear hk hbw og hv hz
      have hO := HRF.out.2 (by rfl)
      have hE := HER.out.2 hO
      rw [hO, hE]
      refine bodyPost_ret (results_box2 rfl _ _ w.heap.size 26 _ _ _ rfl (J5 M).1 Tryz.underlying26 rfl (by kernel_rfl)) rfl ?_
      exact ⟨none, 0, none, 0, rfl, (bd_zero _ _ _), (bd_zero _ _ _), (J6 M)⟩
    | true =>
     refine cj8 (J5 M).1.c4 fun ai aj ak al am ao ap aq => ?_
     go_wp2_with fail
     clear ai aj ak al am ao ap aq
     have hz : w.heap.size ≤ w.heap.size := by exact Nat.le_refl _
     refine st4W (.int .i64 0) (.slice none 0 0) (.int .i64 0) (.slice none 0 0) (J5 M).1 (J6 M) hz fun w8 hv og hk hbw => ?_
     rw [← hv]
     replace M := Lib.hid (aI ((M.out.1).only og (by omega)) (aI ((J1 M).1.only og (by omega)) (aI ((J2 M).1.far (J5 M).1 (by rfl) (by omega) og) (aI ((J3 M).1.only og (by omega)) (aI ((J4 M).1.far (J5 M).1 (by rfl) (by omega) og) (aI hk hbw))))))
     clear hk hbw og hv hz
     have hO := HRF.out.2 (by rfl)
     have hE := HER.out.2 hO
     rw [hO, hE]
     refine bodyPost_ret (results_box2 rfl _ _ w.heap.size 26 _ _ _ rfl (J5 M).1 Tryz.underlying26 rfl (by kernel_rfl)) rfl ?_
     exact ⟨none, 0, none, 0, rfl, (bd_zero _ _ _), (bd_zero _ _ _), (J6 M)⟩
   | true =>
    go_wp2_with fail
    go_roundw
    case rel => exact ⟨(k + 1), by go_num, (by show _ ≤ _; omega), (no47_step HS.out hlt HA.out HB1.out), Lib.hid (aI (M.out.1) (J1 M))⟩
    case measure => simp [RowKit.intOf] <;> omega
  ·
   have e1 : decide (k < S.size) = false := decide_eq_false hlt
   have e1i : decide ((k : Int) < (S.size : Int)) = false := decide_eq_false (by omega)
   have e2i : ((k : Int) == (S.size : Int)) = true := by rw [beq_iff_eq]; omega
   have e2 : (k == S.size) = true := by rw [beq_iff_eq]; omega
   have HNO := Lib.hid (cut_none (no47_all HS.out (by omega) HA.out))
   refine cj8 (M.out.1).c4 fun ai aj ak al am ao ap aq => ?_
   go_wp2_with fail
   clear ai aj ak al am ao ap aq
   have hz : w.heap.size ≤ w.heap.size := by exact Nat.le_refl _
   refine st4W (.int .i64 0) (.slice none 0 0) (.int .i64 0) (.slice none 0 0) (M.out.1) (J1 M) hz fun w3 hv og hk hbw => ?_
   rw [← hv]
   replace M := Lib.hid (aI hk hbw)
   clear hk hbw og hv hz
   have hO := HNO.out
   rw [HO.out] at hO
   have hE : er = 2 := by rw [← HE.out]; unfold rfE; rw [HO.out, hO]; rfl
   subst hO; subst hE
   refine bodyPost_ret (results_box2 rfl _ _ w.heap.size 26 _ _ _ rfl (M.out.1) Tryz.underlying26 rfl (by kernel_rfl)) rfl ?_
   exact ⟨none, 0, none, 0, rfl, (bd_zero _ _ _), (bd_zero _ _ _), (J1 M)⟩
end Go.Proofs.YtcfmakpckdicjaaGreatDoor
namespace Go.Proofs.YtcfmakpckdicjaaGreatDoor
open Go.RowKit Go.Lib
variable {G : Nat}

def op2 (f : Rat → Rat → Rat) (a b : Option Rat) : Option Rat := match a, b with | some q, some r => some (f q r) | _, _ => none
def opE2 (a b : Option Rat) : Int := match a, b with | some _, some _ => 0 | _, _ => 1
def opDv (a b : Option Rat) : Option Rat := match a, b with | some q, some r => divO q r | _, _ => none
def opDvE (a b : Option Rat) : Int := match a, b with | some _, some r => divE r | _, _ => 1
def opCm (a b : Option Rat) : Int := match a, b with | some q, some r => ordQ q r | _, _ => 0
def newO (a b : Option Int) : Option Rat := match a, b with | some x, some y => if y = 0 then none else some (Rat.divInt x y) | _, _ => none
def newE (a b : Option Int) : Int := match a, b with | some _, some y => if y = 0 then 15 else 0 | _, _ => 1
def ngO (a : Option Rat) : Option Rat := a.map fun q => -q
def sgO (a : Option Rat) : Int := match a with | some q => sg (nu q) | none => 0
def floO (a : Option Rat) : Int := match a with | some q => flo q | none => 0
def txO (a : Option Rat) : List UInt8 := match a with | some q => textF q | none => []
theorem Oz.of {o : Option Rat} {n : Nat} (h : ∀ q, o = some q → Fz q n) : Oz o n := by
 cases o with
 | none => exact Oz.none_
 | some q => exact Oz.some_ (h q rfl)
theorem FY.fz {w : World} {u0 u1 u2 u3 : Value} {n m k : Nat} {o : Option Rat} (h : FY G w u0 u1 u2 u3 n m o) (hn : n ≤ k) (hm : m ≤ k) : ∀ q, o = some q → Fz q k := fun q hq => by
 subst hq; exact h.1.fz hn hm
theorem op2_oz {f : Rat → Rat → Rat} {a b : Option Rat} {n k : Nat} (ha : ∀ q, a = some q → Fz q n) (hb : ∀ q, b = some q → Fz q n) (hf : ∀ q r, Fz q n → Fz r n → Fz (f q r) k) : Oz (op2 f a b) k := by
 cases a with
 | none => exact Oz.none_
 | some q =>
  cases b with
  | none => exact Oz.none_
  | some r => exact Oz.some_ (hf q r (ha _ rfl) (hb _ rfl))
theorem opDv_oz {a b : Option Rat} {n : Nat} (ha : ∀ q, a = some q → Fz q n) (hb : ∀ q, b = some q → Fz q n) : Oz (opDv a b) (n + n) := by
  cases a with
  | none => exact Oz.none_
  | some q =>
    cases b with
    | none => exact Oz.none_
    | some r =>
      show Oz (divO q r) _
      unfold divO
      split
      · exact Oz.none_
      · rename_i h; exact Oz.some_ ((ha _ rfl).div (hb _ rfl) h)
theorem ngO_oz {a : Option Rat} {n : Nat} (ha : ∀ q, a = some q → Fz q n) : Oz (ngO a) n := by
 cases a with
 | none => exact Oz.none_
 | some q => exact Oz.some_ (ha _ rfl).neg
theorem pick_fz {q r : Rat} {s : Int} {n : Nat} (h : Fz q n) (h' : Fz r n) : Fz (pick q r s) n := by unfold pick; split <;> assumption
theorem floO_sz {a : Option Rat} {n : Nat} (ha : ∀ q, a = some q → Fz q n) : Sz (floO a) n := by
 cases a with
 | none => show Sz 0 n; exact Nat.zero_le _
 | some q => exact flo_size (ha _ rfl)
theorem newO_oz {a b : Option Int} {n : Nat} (ha : ∀ x, a = some x → Sz x n) (hb : ∀ x, b = some x → Sz x n) : Oz (newO a b) n := by
  cases a with
  | none => exact Oz.none_
  | some x =>
    cases b with
    | none => exact Oz.none_
    | some y =>
      show Oz (if y = 0 then none else some (Rat.divInt x y)) _
      split
      · exact Oz.none_
      · rename_i h; exact Oz.some_ (new_size_any (ha _ rfl) (hb _ rfl) h)
theorem readF_fz {l : List UInt8} {n : Nat} {q : Rat} (hn : l.length ≤ n) (h : readF l = some q) : Fz q n := by
  have hl := cutS_len l
  unfold readF at h
  have h1 : Sz (rdZ (cutS l).1) n := rd_size (by omega)
  have h2 : Sz (rdZ (cutS l).2) n := rd_size (by omega)
  unfold rdZ at h1 h2
  cases c1 : readO (cutS l).1 with
  | none => rw [c1] at h; cases h
  | some x =>
    cases c2 : readO (cutS l).2 with
    | none => rw [c1, c2] at h; cases h
    | some y =>
      rw [c1, c2] at h; rw [c1] at h1; rw [c2] at h2
      dsimp only at h
      split at h
      · rename_i hb
        have hp := rightP_parts (Bool.and_eq_true _ _ ▸ hb : _ ∧ _).1
        cases h
        exact ⟨by rw [hp.1]; exact h1, by rw [hp.2]; exact h2⟩
      · cases h
theorem fAdd_u {u0 u1 u2 u3 v0 v1 v2 v3 : Value} {n1 m1 n2 m2 : Nat} {o1 o2 o : Option Rat} {er : Int} {w : World} (_hG : G ≤ w.heap.size) (h1 : FY G w u0 u1 u2 u3 n1 m1 o1) (h2 : FY G w v0 v1 v2 v3 n2 m2 o2) (k1 : n1 ≤ 1000) (k2 : m1 ≤ 1000) (k3 : n2 ≤ 1000) (k4 : m2 ≤ 1000) (ho : op2 (fun x y => x + y) o1 o2 = o) (he : opE2 o1 o2 = er) :
  Calls Tryz.prog 10 #[.agg #[u0, u1, u2, u3], .agg #[v0, v1, v2, v3]] w fun e w' => ∃ x0 x1 x2 x3, e = .returned (.tuple #[.agg #[x0, x1, x2, x3], .int .i64 er]) ∧ OQ G w' x0 x1 x2 x3 o ∧ Below w.heap.size w w' := by
 subst ho he
 cases o1 with
 | none =>
  exact (fAdd_n1 h1.1 (Nat.le_trans k1 (by decide)) (Nat.le_trans k2 (by decide))).mono fun _ _ ⟨he, hb⟩ => ⟨_, _, _, _, he, oq_none _ _ _ _ _, hb⟩
 | some q =>
  cases o2 with
  | none => exact (fAdd_n2 h1.1 h2.1 (Nat.le_trans k1 (by decide)) (Nat.le_trans k2 (by decide)) (Nat.le_trans k3 (by decide)) (Nat.le_trans k4 (by decide))).mono fun _ _ ⟨he, hb⟩ => ⟨_, _, _, _, he, oq_none _ _ _ _ _, hb⟩
  | some r =>
   exact (fqAdd (h1.2 _ rfl) (h2.2 _ rfl) (h1.fz k1 k2 _ rfl |>.mono (by decide)) (h2.fz k3 k4 _ rfl |>.mono (by decide))).mono fun _ _ ⟨x0, x1, x2, x3, he, hq, hb⟩ => ⟨x0, x1, x2, x3, he, hq, hb⟩
theorem fSub_u {u0 u1 u2 u3 v0 v1 v2 v3 : Value} {n1 m1 n2 m2 : Nat} {o1 o2 o : Option Rat} {er : Int} {w : World} (_hG : G ≤ w.heap.size) (h1 : FY G w u0 u1 u2 u3 n1 m1 o1) (h2 : FY G w v0 v1 v2 v3 n2 m2 o2) (k1 : n1 ≤ 1000) (k2 : m1 ≤ 1000) (k3 : n2 ≤ 1000) (k4 : m2 ≤ 1000) (ho : op2 (fun x y => x - y) o1 o2 = o) (he : opE2 o1 o2 = er) :
  Calls Tryz.prog 12 #[.agg #[u0, u1, u2, u3], .agg #[v0, v1, v2, v3]] w fun e w' => ∃ x0 x1 x2 x3, e = .returned (.tuple #[.agg #[x0, x1, x2, x3], .int .i64 er]) ∧ OQ G w' x0 x1 x2 x3 o ∧ Below w.heap.size w w' := by
 subst ho he
 cases o1 with
 | none =>
  exact (fSub_n1 h1.1 (Nat.le_trans k1 (by decide)) (Nat.le_trans k2 (by decide))).mono fun _ _ ⟨he, hb⟩ => ⟨_, _, _, _, he, oq_none _ _ _ _ _, hb⟩
 | some q =>
  cases o2 with
  | none => exact (fSub_n2 h1.1 h2.1 (Nat.le_trans k1 (by decide)) (Nat.le_trans k2 (by decide)) (Nat.le_trans k3 (by decide)) (Nat.le_trans k4 (by decide))).mono fun _ _ ⟨he, hb⟩ => ⟨_, _, _, _, he, oq_none _ _ _ _ _, hb⟩
  | some r =>
   exact (fqSub (h1.2 _ rfl) (h2.2 _ rfl) (h1.fz k1 k2 _ rfl |>.mono (by decide)) (h2.fz k3 k4 _ rfl |>.mono (by decide))).mono fun _ _ ⟨x0, x1, x2, x3, he, hq, hb⟩ => ⟨x0, x1, x2, x3, he, hq, hb⟩
theorem fMul_u {u0 u1 u2 u3 v0 v1 v2 v3 : Value} {n1 m1 n2 m2 : Nat} {o1 o2 o : Option Rat} {er : Int} {w : World} (hG : G ≤ w.heap.size) (h1 : FY G w u0 u1 u2 u3 n1 m1 o1) (h2 : FY G w v0 v1 v2 v3 n2 m2 o2) (k1 : n1 ≤ 1000) (k2 : m1 ≤ 1000) (k3 : n2 ≤ 1000) (k4 : m2 ≤ 1000) (ho : op2 (fun x y => x * y) o1 o2 = o) (he : opE2 o1 o2 = er) :
  Calls Tryz.prog 15 #[.agg #[u0, u1, u2, u3], .agg #[v0, v1, v2, v3]] w fun e w' => ∃ x0 x1 x2 x3, e = .returned (.tuple #[.agg #[x0, x1, x2, x3], .int .i64 er]) ∧ OQ G w' x0 x1 x2 x3 o ∧ Below w.heap.size w w' := by
 subst ho he
 cases o1 with
 | none =>
  exact (fMul_n1 h1.1 (Nat.le_trans k1 (by decide)) (Nat.le_trans k2 (by decide))).mono fun _ _ ⟨he, hb⟩ => ⟨_, _, _, _, he, oq_none _ _ _ _ _, hb⟩
 | some q =>
  cases o2 with
  | none => exact (fMul_n2 h1.1 h2.1 (Nat.le_trans k1 (by decide)) (Nat.le_trans k2 (by decide)) (Nat.le_trans k3 (by decide)) (Nat.le_trans k4 (by decide))).mono fun _ _ ⟨he, hb⟩ => ⟨_, _, _, _, he, oq_none _ _ _ _ _, hb⟩
  | some r =>
   exact (fqMul hG (h1.2 _ rfl) (h2.2 _ rfl) (h1.fz k1 k2 _ rfl |>.mono (by decide)) (h2.fz k3 k4 _ rfl |>.mono (by decide))).mono fun _ _ ⟨x0, x1, x2, x3, he, hq, hb⟩ => ⟨x0, x1, x2, x3, he, hq, hb⟩
theorem fDiv_u {u0 u1 u2 u3 v0 v1 v2 v3 : Value} {n1 m1 n2 m2 : Nat} {o1 o2 o : Option Rat} {er : Int} {w : World} (hG : G ≤ w.heap.size) (h1 : FY G w u0 u1 u2 u3 n1 m1 o1) (h2 : FY G w v0 v1 v2 v3 n2 m2 o2) (k1 : n1 ≤ 1000) (k2 : m1 ≤ 1000) (k3 : n2 ≤ 1000) (k4 : m2 ≤ 1000) (ho : opDv o1 o2 = o) (he : opDvE o1 o2 = er) :
  Calls Tryz.prog 17 #[.agg #[u0, u1, u2, u3], .agg #[v0, v1, v2, v3]] w fun e w' => ∃ x0 x1 x2 x3, e = .returned (.tuple #[.agg #[x0, x1, x2, x3], .int .i64 er]) ∧ OQ G w' x0 x1 x2 x3 o ∧ Below w.heap.size w w' := by
 subst ho he
 cases o1 with
 | none =>
  exact (fDiv_n1 h1.1 (Nat.le_trans k1 (by decide)) (Nat.le_trans k2 (by decide))).mono fun _ _ ⟨he, hb⟩ => ⟨_, _, _, _, he, oq_none _ _ _ _ _, hb⟩
 | some q =>
  cases o2 with
  | none => exact (fDiv_n2 h1.1 h2.1 (Nat.le_trans k1 (by decide)) (Nat.le_trans k2 (by decide)) (Nat.le_trans k3 (by decide)) (Nat.le_trans k4 (by decide))).mono fun _ _ ⟨he, hb⟩ => ⟨_, _, _, _, he, oq_none _ _ _ _ _, hb⟩
  | some r =>
   exact (fqDivAny hG (h1.2 _ rfl) (h2.2 _ rfl) (h1.fz k1 k2 _ rfl |>.mono (by decide)) (h2.fz k3 k4 _ rfl |>.mono (by decide)) rfl rfl).mono fun _ _ ⟨x0, x1, x2, x3, he, hq, hb⟩ => ⟨x0, x1, x2, x3, he, hq, hb⟩
theorem fMin_u {u0 u1 u2 u3 v0 v1 v2 v3 : Value} {n1 m1 n2 m2 : Nat} {o1 o2 o : Option Rat} {er : Int} {w : World} (hG : G ≤ w.heap.size) (h1 : FY G w u0 u1 u2 u3 n1 m1 o1) (h2 : FY G w v0 v1 v2 v3 n2 m2 o2) (k1 : n1 ≤ 1000) (k2 : m1 ≤ 1000) (k3 : n2 ≤ 1000) (k4 : m2 ≤ 1000) (ho : op2 (fun x y => pick x y (-1)) o1 o2 = o) (he : opE2 o1 o2 = er) :
  Calls Tryz.prog 30 #[.agg #[u0, u1, u2, u3], .agg #[v0, v1, v2, v3]] w fun e w' => ∃ x0 x1 x2 x3, e = .returned (.tuple #[.agg #[x0, x1, x2, x3], .int .i64 er]) ∧ OQ G w' x0 x1 x2 x3 o ∧ Below w.heap.size w w' := by
 subst ho he
 cases o1 with
 | none =>
  exact (fMin_n1 h1.1 (Nat.le_trans k1 (by decide)) (Nat.le_trans k2 (by decide))).mono fun _ _ ⟨he, hb⟩ => ⟨_, _, _, _, he, oq_none _ _ _ _ _, hb⟩
 | some q =>
  cases o2 with
  | none => exact (fMin_n2 h1.1 h2.1 (Nat.le_trans k1 (by decide)) (Nat.le_trans k2 (by decide)) (Nat.le_trans k3 (by decide)) (Nat.le_trans k4 (by decide))).mono fun _ _ ⟨he, hb⟩ => ⟨_, _, _, _, he, oq_none _ _ _ _ _, hb⟩
  | some r =>
   exact (fqMin hG (h1.2 _ rfl) (h2.2 _ rfl) (h1.fz k1 k2 _ rfl |>.mono (by decide)) (h2.fz k3 k4 _ rfl |>.mono (by decide)) rfl).mono fun _ _ ⟨x0, x1, x2, x3, he, hq, hb⟩ => ⟨x0, x1, x2, x3, he, hq, hb⟩
theorem fMax_u {u0 u1 u2 u3 v0 v1 v2 v3 : Value} {n1 m1 n2 m2 : Nat} {o1 o2 o : Option Rat} {er : Int} {w : World} (hG : G ≤ w.heap.size) (h1 : FY G w u0 u1 u2 u3 n1 m1 o1) (h2 : FY G w v0 v1 v2 v3 n2 m2 o2) (k1 : n1 ≤ 1000) (k2 : m1 ≤ 1000) (k3 : n2 ≤ 1000) (k4 : m2 ≤ 1000) (ho : op2 (fun x y => pick x y 1) o1 o2 = o) (he : opE2 o1 o2 = er) :
  Calls Tryz.prog 32 #[.agg #[u0, u1, u2, u3], .agg #[v0, v1, v2, v3]] w fun e w' => ∃ x0 x1 x2 x3, e = .returned (.tuple #[.agg #[x0, x1, x2, x3], .int .i64 er]) ∧ OQ G w' x0 x1 x2 x3 o ∧ Below w.heap.size w w' := by
 subst ho he
 cases o1 with
 | none =>
  exact (fMax_n1 h1.1 (Nat.le_trans k1 (by decide)) (Nat.le_trans k2 (by decide))).mono fun _ _ ⟨he, hb⟩ => ⟨_, _, _, _, he, oq_none _ _ _ _ _, hb⟩
 | some q =>
  cases o2 with
  | none => exact (fMax_n2 h1.1 h2.1 (Nat.le_trans k1 (by decide)) (Nat.le_trans k2 (by decide)) (Nat.le_trans k3 (by decide)) (Nat.le_trans k4 (by decide))).mono fun _ _ ⟨he, hb⟩ => ⟨_, _, _, _, he, oq_none _ _ _ _ _, hb⟩
  | some r =>
   exact (fqMax hG (h1.2 _ rfl) (h2.2 _ rfl) (h1.fz k1 k2 _ rfl |>.mono (by decide)) (h2.fz k3 k4 _ rfl |>.mono (by decide)) rfl).mono fun _ _ ⟨x0, x1, x2, x3, he, hq, hb⟩ => ⟨x0, x1, x2, x3, he, hq, hb⟩
theorem fCompare_u {u0 u1 u2 u3 v0 v1 v2 v3 : Value} {n1 m1 n2 m2 : Nat} {o1 o2 : Option Rat} {k : Int} {w : World} (_hG : G ≤ w.heap.size) (h1 : FY G w u0 u1 u2 u3 n1 m1 o1) (h2 : FY G w v0 v1 v2 v3 n2 m2 o2) (k1 : n1 ≤ 1000) (k2 : m1 ≤ 1000) (k3 : n2 ≤ 1000) (k4 : m2 ≤ 1000) (hc : opCm o1 o2 = k) :
  Calls Tryz.prog 27 #[.agg #[u0, u1, u2, u3], .agg #[v0, v1, v2, v3]] w fun e w' => e = .returned (.int .i64 k) ∧ Below w.heap.size w w' := by
 subst hc
 cases o1 with
 | none =>
  exact (fCompare_n1 h1.1 (Nat.le_trans k1 (by decide)) (Nat.le_trans k2 (by decide)))
 | some q =>
  cases o2 with
  | none => exact (fCompare_n2 h1.1 h2.1 (Nat.le_trans k1 (by decide)) (Nat.le_trans k2 (by decide)) (Nat.le_trans k3 (by decide)) (Nat.le_trans k4 (by decide)))
  | some r =>
   exact fqCompare (h1.2 _ rfl) (h2.2 _ rfl) (h1.fz k1 k2 _ rfl |>.mono (by decide)) (h2.fz k3 k4 _ rfl |>.mono (by decide)) rfl
theorem fNeg_u {u0 u1 u2 u3 : Value} {n1 m1 : Nat} {o1 o : Option Rat} {w : World} (hG : G ≤ w.heap.size) (h1 : FY G w u0 u1 u2 u3 n1 m1 o1) (k1 : n1 ≤ 1000) (k2 : m1 ≤ 1000) (ho : ngO o1 = o) :
  Calls Tryz.prog 34 #[.agg #[u0, u1, u2, u3]] w fun e w' => ∃ x0 x1 x2 x3, e = .returned (.agg #[x0, x1, x2, x3]) ∧ OQ G w' x0 x1 x2 x3 o ∧ Below w.heap.size w w' := by
 subst ho
 cases o1 with
 | none => exact (fNeg_n h1.1 (Nat.le_trans k1 (by decide)) (Nat.le_trans k2 (by decide))).mono fun _ _ ⟨he, hb⟩ => ⟨_, _, _, _, he, oq_none _ _ _ _ _, hb⟩
 | some q =>
  exact (fqNeg hG (h1.2 _ rfl) (h1.fz k1 k2 _ rfl |>.mono (by decide))).mono fun _ _ ⟨x0, x1, x2, x3, he, hq, hb⟩ => ⟨x0, x1, x2, x3, he, hq, hb⟩
theorem fSign_u {u0 u1 u2 u3 : Value} {n1 m1 : Nat} {o1 : Option Rat} {k : Int} {w : World} (hG : G ≤ w.heap.size) (h1 : FY G w u0 u1 u2 u3 n1 m1 o1) (k1 : n1 ≤ 1000) (k2 : m1 ≤ 1000) (hk : sgO o1 = k) :
  Calls Tryz.prog 36 #[.agg #[u0, u1, u2, u3]] w fun e w' => e = .returned (.int .i64 k) ∧ Below w.heap.size w w' := by
 subst hk
 cases o1 with
 | none => exact (fSign_n h1.1 (Nat.le_trans k1 (by decide)) (Nat.le_trans k2 (by decide)))
 | some q =>
  exact fqSign hG (h1.2 _ rfl) (h1.fz k1 k2 _ rfl |>.mono (by decide)) rfl
theorem fFloor_u {u0 u1 u2 u3 : Value} {n1 m1 : Nat} {o1 : Option Rat} {z : Int} {w : World} (hG : G ≤ w.heap.size) (h1 : FY G w u0 u1 u2 u3 n1 m1 o1) (k1 : n1 ≤ 1000) (k2 : m1 ≤ 1000) (hf : floO o1 = z) :
  Calls Tryz.prog 43 #[.agg #[u0, u1, u2, u3]] w fun e w' => ∃ a c, e = .returned (.agg #[.int .i64 (sg z), .slice a (ln z) c]) ∧ BD G w' a c z ∧ Below w.heap.size w w' := by
 subst hf
 cases o1 with
 | none => exact (fFloor_n h1.1 (Nat.le_trans k1 (by decide)) (Nat.le_trans k2 (by decide))).mono fun _ _ ⟨he, hb⟩ => ⟨none, 0, he, bd_zero _ _ _, hb⟩
 | some q =>
  obtain ⟨a1, c1, b1, d1, rfl, rfl, rfl, rfl, f1⟩ := (h1.2 _ rfl).ex
  exact fracFloor_ok hG f1 (h1.fz k1 k2 _ rfl |>.mono (by decide))
theorem fText_u {u0 u1 u2 u3 : Value} {n1 m1 : Nat} {o1 : Option Rat} {s : ByteArray} {w : World} (_hG : G ≤ w.heap.size) (h1 : FY G w u0 u1 u2 u3 n1 m1 o1) (k1 : n1 ≤ 1000) (k2 : m1 ≤ 1000) (ht : Tab w) (hs : (⟨(txO o1).toArray⟩ : ByteArray) = s) :
  Calls Tryz.prog 40 #[.agg #[u0, u1, u2, u3]] w fun e w' => e = .returned (.string s) ∧ Below w.heap.size w w' := by
 subst hs
 cases o1 with
 | none => exact (fText_n h1.1 (Nat.le_trans k1 (by decide)) (Nat.le_trans k2 (by decide)))
 | some q =>
  obtain ⟨a1, c1, b1, d1, rfl, rfl, rfl, rfl, f1⟩ := (h1.2 _ rfl).ex
  exact fracText_lit f1 (h1.fz k1 k2 _ rfl) ht rfl
theorem fNew_u {u0 u1 v0 v1 : Value} {p q : Option Int} {o : Option Rat} {er : Int} {w : World} (hG : G ≤ w.heap.size) (h1 : BX G w u0 u1 p) (h2 : BX G w v0 v1 q) (ho : newO p q = o) (he : newE p q = er) :
    Calls Tryz.prog 23 #[.agg #[u0, u1], .agg #[v0, v1]] w fun e w' => ∃ x0 x1 x2 x3, e = .returned (.tuple #[.agg #[x0, x1, x2, x3], .int .i64 er]) ∧ OQ G w' x0 x1 x2 x3 o ∧ Below w.heap.size w w' := by
  subst ho he
  cases p with
  | none => exact (fNew_n1 h1).mono fun _ _ ⟨he, hb⟩ => ⟨_, _, _, _, he, oq_none _ _ _ _ _, hb⟩
  | some x =>
    cases q with
    | none => exact (fNew_n2 h1 h2).mono fun _ _ ⟨he, hb⟩ => ⟨_, _, _, _, he, oq_none _ _ _ _ _, hb⟩
    | some y =>
      obtain ⟨s, a, n, c, l, rfl, rfl, g1, -, h1⟩ := h1
      obtain ⟨t, b, m, d, k, rfl, rfl, g2, -, h2⟩ := h2
      rcases h1 with ⟨h, -⟩ | ⟨x', e1, -, rfl, rfl, b1⟩
      · cases h
      rcases h2 with ⟨h, -⟩ | ⟨y', e2, -, rfl, rfl, b2⟩
      · cases h
      cases e1; cases e2
      by_cases h0 : y = 0
      · rw [show newO (some x) (some y) = none from if_pos h0, show newE (some x) (some y) = 15 from if_pos h0]
        exact (new_zero hG b1 b2 g1 g2 h0).mono fun _ _ ⟨he, hb⟩ => ⟨_, _, _, _, he, oq_none _ _ _ _ _, hb⟩
      · rw [show newO (some x) (some y) = some (Rat.divInt x y) from if_neg h0, show newE (some x) (some y) = 0 from if_neg h0]
        exact (new_ok hG b1 b2 g1 g2 h0).mono fun _ _ ⟨a, c, b, d, he, hq, hb⟩ => ⟨_, _, _, _, he, FQ.of hq, hb⟩
theorem fOf_u {x y : Int} {o : Option Rat} {er : Int} {w : World} (hG : G ≤ w.heap.size) (hx : -9223372036854775808 ≤ x ∧ x ≤ 9223372036854775807) (hy : -9223372036854775808 ≤ y ∧ y ≤ 9223372036854775807) (ho : newO (some x) (some y) = o) (he : newE (some x) (some y) = er) :
    Calls Tryz.prog 19 #[.int .i64 x, .int .i64 y] w fun e w' => ∃ x0 x1 x2 x3, e = .returned (.tuple #[.agg #[x0, x1, x2, x3], .int .i64 er]) ∧ OQ G w' x0 x1 x2 x3 o ∧ Below w.heap.size w w' := by
  subst ho he
  by_cases h0 : y = 0
  · rw [show newO (some x) (some y) = none from if_pos h0, show newE (some x) (some y) = 15 from if_pos h0]
    exact (fracOf_zero hG hx hy h0).mono fun _ _ ⟨he, hb⟩ => ⟨_, _, _, _, he, oq_none _ _ _ _ _, hb⟩
  · rw [show newO (some x) (some y) = some (Rat.divInt x y) from if_neg h0, show newE (some x) (some y) = 0 from if_neg h0]
    exact (fracOf_ok hG hx hy h0).mono fun _ _ ⟨a, c, b, d, he, hq, hb⟩ => ⟨_, _, _, _, he, FQ.of hq, hb⟩
theorem fInt_u {x : Int} {o : Option Rat} {w : World} (hx : -9223372036854775808 ≤ x ∧ x ≤ 9223372036854775807) (ho : some (x : Rat) = o) :
  Calls Tryz.prog 38 #[.int .i64 x] w fun e w' => ∃ x0 x1 x2 x3, e = .returned (.agg #[x0, x1, x2, x3]) ∧ OQ G w' x0 x1 x2 x3 o ∧ Below w.heap.size w w' := by
 subst ho; exact fqInt hx
theorem fRead_u {S : ByteArray} {l : List UInt8} {o : Option Rat} {er : Int} {w : World} (hG : G ≤ w.heap.size) (ht : Tab w) (hm : Mx w) (hS : S = ⟨l.toArray⟩) (hn : l.length ≤ 1000) (ho : readF l = o) (he : rfE l = er) :
  Calls Tryz.prog 21 #[.string S] w fun e w' => ∃ x0 x1 x2 x3, e = .returned (.tuple #[.agg #[x0, x1, x2, x3], .int .i64 er]) ∧ OQ G w' x0 x1 x2 x3 o ∧ Below w.heap.size w w' := by
 exact (fracRead_v hG ht hm hS hn ho he).mono fun _ _ ⟨a, c, b, d, he, hq, hq2, hb⟩ => ⟨_, _, _, _, he, OQ.of hq hq2, hb⟩
theorem gAdd_u {u0 u1 u2 u3 v0 v1 v2 v3 : Value} {n1 m1 n2 m2 : Nat} {o1 o2 o : Option Rat} {er : Int} {w : World} (_hG : G ≤ w.heap.size) (h1 : FY G w u0 u1 u2 u3 n1 m1 o1) (h2 : FY G w v0 v1 v2 v3 n2 m2 o2) (k1 : n1 ≤ 1000) (k2 : m1 ≤ 1000) (k3 : n2 ≤ 1000) (k4 : m2 ≤ 1000) (ho : op2 (fun x y => x + y) o1 o2 = o) (he : opE2 o1 o2 = er) :
  Calls Tryz.prog 11 #[.agg #[u0, u1, u2, u3], .agg #[v0, v1, v2, v3]] w fun e w' => ∃ x0 x1 x2 x3, e = .returned (.tuple #[.agg #[x0, x1, x2, x3], .int .i64 er]) ∧ OQ G w' x0 x1 x2 x3 o ∧ Below w.heap.size w w' := by
 subst ho he
 cases o1 with
 | none =>
  exact (gAdd_n1 h1.1 (Nat.le_trans k1 (by decide)) (Nat.le_trans k2 (by decide))).mono fun _ _ ⟨he, hb⟩ => ⟨_, _, _, _, he, oq_none _ _ _ _ _, hb⟩
 | some q =>
  cases o2 with
  | none => exact (gAdd_n2 h1.1 h2.1 (Nat.le_trans k1 (by decide)) (Nat.le_trans k2 (by decide)) (Nat.le_trans k3 (by decide)) (Nat.le_trans k4 (by decide))).mono fun _ _ ⟨he, hb⟩ => ⟨_, _, _, _, he, oq_none _ _ _ _ _, hb⟩
  | some r =>
   exact (rqAdd (h1.2 _ rfl) (h2.2 _ rfl) (h1.fz k1 k2 _ rfl |>.mono (by decide)) (h2.fz k3 k4 _ rfl |>.mono (by decide))).mono fun _ _ ⟨x0, x1, x2, x3, he, hq, hb⟩ => ⟨x0, x1, x2, x3, he, hq, hb⟩
theorem gSub_u {u0 u1 u2 u3 v0 v1 v2 v3 : Value} {n1 m1 n2 m2 : Nat} {o1 o2 o : Option Rat} {er : Int} {w : World} (_hG : G ≤ w.heap.size) (h1 : FY G w u0 u1 u2 u3 n1 m1 o1) (h2 : FY G w v0 v1 v2 v3 n2 m2 o2) (k1 : n1 ≤ 1000) (k2 : m1 ≤ 1000) (k3 : n2 ≤ 1000) (k4 : m2 ≤ 1000) (ho : op2 (fun x y => x - y) o1 o2 = o) (he : opE2 o1 o2 = er) :
  Calls Tryz.prog 13 #[.agg #[u0, u1, u2, u3], .agg #[v0, v1, v2, v3]] w fun e w' => ∃ x0 x1 x2 x3, e = .returned (.tuple #[.agg #[x0, x1, x2, x3], .int .i64 er]) ∧ OQ G w' x0 x1 x2 x3 o ∧ Below w.heap.size w w' := by
 subst ho he
 cases o1 with
 | none =>
  exact (gSub_n1 h1.1 (Nat.le_trans k1 (by decide)) (Nat.le_trans k2 (by decide))).mono fun _ _ ⟨he, hb⟩ => ⟨_, _, _, _, he, oq_none _ _ _ _ _, hb⟩
 | some q =>
  cases o2 with
  | none => exact (gSub_n2 h1.1 h2.1 (Nat.le_trans k1 (by decide)) (Nat.le_trans k2 (by decide)) (Nat.le_trans k3 (by decide)) (Nat.le_trans k4 (by decide))).mono fun _ _ ⟨he, hb⟩ => ⟨_, _, _, _, he, oq_none _ _ _ _ _, hb⟩
  | some r =>
   exact (rqSub (h1.2 _ rfl) (h2.2 _ rfl) (h1.fz k1 k2 _ rfl |>.mono (by decide)) (h2.fz k3 k4 _ rfl |>.mono (by decide))).mono fun _ _ ⟨x0, x1, x2, x3, he, hq, hb⟩ => ⟨x0, x1, x2, x3, he, hq, hb⟩
theorem gMul_u {u0 u1 u2 u3 v0 v1 v2 v3 : Value} {n1 m1 n2 m2 : Nat} {o1 o2 o : Option Rat} {er : Int} {w : World} (hG : G ≤ w.heap.size) (h1 : FY G w u0 u1 u2 u3 n1 m1 o1) (h2 : FY G w v0 v1 v2 v3 n2 m2 o2) (k1 : n1 ≤ 1000) (k2 : m1 ≤ 1000) (k3 : n2 ≤ 1000) (k4 : m2 ≤ 1000) (ho : op2 (fun x y => x * y) o1 o2 = o) (he : opE2 o1 o2 = er) :
  Calls Tryz.prog 16 #[.agg #[u0, u1, u2, u3], .agg #[v0, v1, v2, v3]] w fun e w' => ∃ x0 x1 x2 x3, e = .returned (.tuple #[.agg #[x0, x1, x2, x3], .int .i64 er]) ∧ OQ G w' x0 x1 x2 x3 o ∧ Below w.heap.size w w' := by
 subst ho he
 cases o1 with
 | none =>
  exact (gMul_n1 h1.1 (Nat.le_trans k1 (by decide)) (Nat.le_trans k2 (by decide))).mono fun _ _ ⟨he, hb⟩ => ⟨_, _, _, _, he, oq_none _ _ _ _ _, hb⟩
 | some q =>
  cases o2 with
  | none => exact (gMul_n2 h1.1 h2.1 (Nat.le_trans k1 (by decide)) (Nat.le_trans k2 (by decide)) (Nat.le_trans k3 (by decide)) (Nat.le_trans k4 (by decide))).mono fun _ _ ⟨he, hb⟩ => ⟨_, _, _, _, he, oq_none _ _ _ _ _, hb⟩
  | some r =>
   exact (rqMul hG (h1.2 _ rfl) (h2.2 _ rfl) (h1.fz k1 k2 _ rfl |>.mono (by decide)) (h2.fz k3 k4 _ rfl |>.mono (by decide))).mono fun _ _ ⟨x0, x1, x2, x3, he, hq, hb⟩ => ⟨x0, x1, x2, x3, he, hq, hb⟩
theorem gDiv_u {u0 u1 u2 u3 v0 v1 v2 v3 : Value} {n1 m1 n2 m2 : Nat} {o1 o2 o : Option Rat} {er : Int} {w : World} (hG : G ≤ w.heap.size) (h1 : FY G w u0 u1 u2 u3 n1 m1 o1) (h2 : FY G w v0 v1 v2 v3 n2 m2 o2) (k1 : n1 ≤ 1000) (k2 : m1 ≤ 1000) (k3 : n2 ≤ 1000) (k4 : m2 ≤ 1000) (ho : opDv o1 o2 = o) (he : opDvE o1 o2 = er) :
    Calls Tryz.prog 18 #[.agg #[u0, u1, u2, u3], .agg #[v0, v1, v2, v3]] w fun e w' => ∃ x0 x1 x2 x3, e = .returned (.tuple #[.agg #[x0, x1, x2, x3], .int .i64 er]) ∧ OQ G w' x0 x1 x2 x3 o ∧ Below w.heap.size w w' := by
  subst ho he
  cases o1 with
  | none =>
    exact (gDiv_n1 h1.1 (Nat.le_trans k1 (by decide)) (Nat.le_trans k2 (by decide))).mono fun _ _ ⟨he, hb⟩ => ⟨_, _, _, _, he, oq_none _ _ _ _ _, hb⟩
  | some q =>
    cases o2 with
    | none => exact (gDiv_n2 h1.1 h2.1 (Nat.le_trans k1 (by decide)) (Nat.le_trans k2 (by decide)) (Nat.le_trans k3 (by decide)) (Nat.le_trans k4 (by decide))).mono fun _ _ ⟨he, hb⟩ => ⟨_, _, _, _, he, oq_none _ _ _ _ _, hb⟩
    | some r =>
      by_cases h0 : r = 0
      · obtain ⟨a1, c1, b1, d1, rfl, rfl, rfl, rfl, f1⟩ := (h1.2 _ rfl).ex
        obtain ⟨a2, c2, b2, d2, rfl, rfl, rfl, rfl, f2⟩ := (h2.2 _ rfl).ex
        rw [show opDv (some q) (some r) = none from if_pos h0, show opDvE (some q) (some r) = 15 from if_pos h0]
        exact (rfdiv_zero hG f1 f2 (h1.fz k1 k2 _ rfl |>.mono (by decide)) (h2.fz k3 k4 _ rfl |>.mono (by decide)) h0).mono fun _ _ ⟨he, hb⟩ => ⟨_, _, _, _, he, oq_none _ _ _ _ _, hb⟩
      · rw [show opDv (some q) (some r) = some (q / r) from if_neg h0, show opDvE (some q) (some r) = 0 from if_neg h0]
        exact (rqDiv hG (h1.2 _ rfl) (h2.2 _ rfl) (h1.fz k1 k2 _ rfl |>.mono (by decide)) (h2.fz k3 k4 _ rfl |>.mono (by decide)) h0).mono fun _ _ ⟨x0, x1, x2, x3, he, hq, hb⟩ => ⟨x0, x1, x2, x3, he, hq, hb⟩
theorem gMin_u {u0 u1 u2 u3 v0 v1 v2 v3 : Value} {n1 m1 n2 m2 : Nat} {o1 o2 o : Option Rat} {er : Int} {w : World} (hG : G ≤ w.heap.size) (h1 : FY G w u0 u1 u2 u3 n1 m1 o1) (h2 : FY G w v0 v1 v2 v3 n2 m2 o2) (k1 : n1 ≤ 1000) (k2 : m1 ≤ 1000) (k3 : n2 ≤ 1000) (k4 : m2 ≤ 1000) (ho : op2 (fun x y => pick x y (-1)) o1 o2 = o) (he : opE2 o1 o2 = er) :
    Calls Tryz.prog 31 #[.agg #[u0, u1, u2, u3], .agg #[v0, v1, v2, v3]] w fun e w' => ∃ x0 x1 x2 x3, e = .returned (.tuple #[.agg #[x0, x1, x2, x3], .int .i64 er]) ∧ OQ G w' x0 x1 x2 x3 o ∧ Below w.heap.size w w' := by
  subst ho he
  cases o1 with
  | none =>
    exact (gMin_n1 h1.1 (Nat.le_trans k1 (by decide)) (Nat.le_trans k2 (by decide))).mono fun _ _ ⟨he, hb⟩ => ⟨_, _, _, _, he, oq_none _ _ _ _ _, hb⟩
  | some q =>
    cases o2 with
    | none => exact (gMin_n2 h1.1 h2.1 (Nat.le_trans k1 (by decide)) (Nat.le_trans k2 (by decide)) (Nat.le_trans k3 (by decide)) (Nat.le_trans k4 (by decide))).mono fun _ _ ⟨he, hb⟩ => ⟨_, _, _, _, he, oq_none _ _ _ _ _, hb⟩
    | some r =>
      rcases (show q ≤ r ∨ r < q by grind) with h | h
      · have := fracMin_1 h
        refine (rqMin1 hG (h1.2 _ rfl) (h2.2 _ rfl) (h1.fz k1 k2 _ rfl |>.mono (by decide)) (h2.fz k3 k4 _ rfl |>.mono (by decide)) h).mono fun _ _ ⟨x0, x1, x2, x3, he, hq, hb⟩ => ⟨x0, x1, x2, x3, he, ?_, hb⟩
        show OQ _ _ _ _ _ _ (some (pick q r (-1))); rw [this]; exact hq
      · have := fracMin_2 h
        refine (rqMin2 hG (h1.2 _ rfl) (h2.2 _ rfl) (h1.fz k1 k2 _ rfl |>.mono (by decide)) (h2.fz k3 k4 _ rfl |>.mono (by decide)) h).mono fun _ _ ⟨x0, x1, x2, x3, he, hq, hb⟩ => ⟨x0, x1, x2, x3, he, ?_, hb⟩
        show OQ _ _ _ _ _ _ (some (pick q r (-1))); rw [this]; exact hq
theorem gMax_u {u0 u1 u2 u3 v0 v1 v2 v3 : Value} {n1 m1 n2 m2 : Nat} {o1 o2 o : Option Rat} {er : Int} {w : World} (hG : G ≤ w.heap.size) (h1 : FY G w u0 u1 u2 u3 n1 m1 o1) (h2 : FY G w v0 v1 v2 v3 n2 m2 o2) (k1 : n1 ≤ 1000) (k2 : m1 ≤ 1000) (k3 : n2 ≤ 1000) (k4 : m2 ≤ 1000) (ho : op2 (fun x y => pick x y 1) o1 o2 = o) (he : opE2 o1 o2 = er) :
    Calls Tryz.prog 33 #[.agg #[u0, u1, u2, u3], .agg #[v0, v1, v2, v3]] w fun e w' => ∃ x0 x1 x2 x3, e = .returned (.tuple #[.agg #[x0, x1, x2, x3], .int .i64 er]) ∧ OQ G w' x0 x1 x2 x3 o ∧ Below w.heap.size w w' := by
  subst ho he
  cases o1 with
  | none =>
    exact (gMax_n1 h1.1 (Nat.le_trans k1 (by decide)) (Nat.le_trans k2 (by decide))).mono fun _ _ ⟨he, hb⟩ => ⟨_, _, _, _, he, oq_none _ _ _ _ _, hb⟩
  | some q =>
    cases o2 with
    | none => exact (gMax_n2 h1.1 h2.1 (Nat.le_trans k1 (by decide)) (Nat.le_trans k2 (by decide)) (Nat.le_trans k3 (by decide)) (Nat.le_trans k4 (by decide))).mono fun _ _ ⟨he, hb⟩ => ⟨_, _, _, _, he, oq_none _ _ _ _ _, hb⟩
    | some r =>
      rcases (show r ≤ q ∨ q < r by grind) with h | h
      · have : pick q r 1 = q := by
          rcases (show q = r ∨ r < q by grind) with h' | h'
          · rw [fracMax_3 (by grind)]; exact h'.symm
          · exact fracMax_2 h'
        refine (rqMax1 hG (h1.2 _ rfl) (h2.2 _ rfl) (h1.fz k1 k2 _ rfl |>.mono (by decide)) (h2.fz k3 k4 _ rfl |>.mono (by decide)) h).mono fun _ _ ⟨x0, x1, x2, x3, he, hq, hb⟩ => ⟨x0, x1, x2, x3, he, ?_, hb⟩
        show OQ _ _ _ _ _ _ (some (pick q r 1)); rw [this]; exact hq
      · have := fracMax_3 (show q ≤ r by grind)
        refine (rqMax2 hG (h1.2 _ rfl) (h2.2 _ rfl) (h1.fz k1 k2 _ rfl |>.mono (by decide)) (h2.fz k3 k4 _ rfl |>.mono (by decide)) h).mono fun _ _ ⟨x0, x1, x2, x3, he, hq, hb⟩ => ⟨x0, x1, x2, x3, he, ?_, hb⟩
        show OQ _ _ _ _ _ _ (some (pick q r 1)); rw [this]; exact hq
theorem gCompare_u {u0 u1 u2 u3 v0 v1 v2 v3 : Value} {n1 m1 n2 m2 : Nat} {o1 o2 : Option Rat} {k : Int} {w : World} (_hG : G ≤ w.heap.size) (h1 : FY G w u0 u1 u2 u3 n1 m1 o1) (h2 : FY G w v0 v1 v2 v3 n2 m2 o2) (k1 : n1 ≤ 1000) (k2 : m1 ≤ 1000) (k3 : n2 ≤ 1000) (k4 : m2 ≤ 1000) (hc : opCm o1 o2 = k) :
  Calls Tryz.prog 28 #[.agg #[u0, u1, u2, u3], .agg #[v0, v1, v2, v3]] w fun e w' => e = .returned (.int .i64 k) ∧ Below w.heap.size w w' := by
 subst hc
 cases o1 with
 | none =>
  exact (gCompare_n1 h1.1 (Nat.le_trans k1 (by decide)) (Nat.le_trans k2 (by decide)))
 | some q =>
  cases o2 with
  | none => exact (gCompare_n2 h1.1 h2.1 (Nat.le_trans k1 (by decide)) (Nat.le_trans k2 (by decide)) (Nat.le_trans k3 (by decide)) (Nat.le_trans k4 (by decide)))
  | some r =>
   exact rqCompare (h1.2 _ rfl) (h2.2 _ rfl) (h1.fz k1 k2 _ rfl |>.mono (by decide)) (h2.fz k3 k4 _ rfl |>.mono (by decide)) rfl
theorem gNeg_u {u0 u1 u2 u3 : Value} {n1 m1 : Nat} {o1 o : Option Rat} {w : World} (hG : G ≤ w.heap.size) (h1 : FY G w u0 u1 u2 u3 n1 m1 o1) (k1 : n1 ≤ 1000) (k2 : m1 ≤ 1000) (ho : ngO o1 = o) :
  Calls Tryz.prog 35 #[.agg #[u0, u1, u2, u3]] w fun e w' => ∃ x0 x1 x2 x3, e = .returned (.agg #[x0, x1, x2, x3]) ∧ OQ G w' x0 x1 x2 x3 o ∧ Below w.heap.size w w' := by
 subst ho
 cases o1 with
 | none => exact (gNeg_n h1.1 (Nat.le_trans k1 (by decide)) (Nat.le_trans k2 (by decide))).mono fun _ _ ⟨he, hb⟩ => ⟨_, _, _, _, he, oq_none _ _ _ _ _, hb⟩
 | some q =>
  exact (rqNeg hG (h1.2 _ rfl) (h1.fz k1 k2 _ rfl |>.mono (by decide))).mono fun _ _ ⟨x0, x1, x2, x3, he, hq, hb⟩ => ⟨x0, x1, x2, x3, he, hq, hb⟩
theorem gSign_u {u0 u1 u2 u3 : Value} {n1 m1 : Nat} {o1 : Option Rat} {k : Int} {w : World} (_hG : G ≤ w.heap.size) (h1 : FY G w u0 u1 u2 u3 n1 m1 o1) (k1 : n1 ≤ 1000) (k2 : m1 ≤ 1000) (hk : sgO o1 = k) :
  Calls Tryz.prog 37 #[.agg #[u0, u1, u2, u3]] w fun e w' => e = .returned (.int .i64 k) ∧ Below w.heap.size w w' := by
 subst hk
 cases o1 with
 | none => exact (gSign_n h1.1 (Nat.le_trans k1 (by decide)) (Nat.le_trans k2 (by decide)))
 | some q =>
  obtain ⟨a1, c1, b1, d1, rfl, rfl, rfl, rfl, f1⟩ := (h1.2 _ rfl).ex
  exact rfsign_ok f1 (h1.fz k1 k2 _ rfl |>.mono (by decide))
theorem gFloor_u {u0 u1 u2 u3 : Value} {n1 m1 : Nat} {o1 : Option Rat} {z : Int} {w : World} (hG : G ≤ w.heap.size) (h1 : FY G w u0 u1 u2 u3 n1 m1 o1) (k1 : n1 ≤ 1000) (k2 : m1 ≤ 1000) (hf : floO o1 = z) :
  Calls Tryz.prog 44 #[.agg #[u0, u1, u2, u3]] w fun e w' => ∃ a c, e = .returned (.agg #[.int .i64 (sg z), .slice a (ln z) c]) ∧ BD G w' a c z ∧ Below w.heap.size w w' := by
 subst hf
 cases o1 with
 | none => exact (gFloor_n h1.1 (Nat.le_trans k1 (by decide)) (Nat.le_trans k2 (by decide))).mono fun _ _ ⟨he, hb⟩ => ⟨none, 0, he, bd_zero _ _ _, hb⟩
 | some q =>
  obtain ⟨a1, c1, b1, d1, rfl, rfl, rfl, rfl, f1⟩ := (h1.2 _ rfl).ex
  exact rffloor_ok hG f1 (h1.fz k1 k2 _ rfl |>.mono (by decide))
theorem gText_u {u0 u1 u2 u3 : Value} {n1 m1 : Nat} {o1 : Option Rat} {s : ByteArray} {w : World} (hG : G ≤ w.heap.size) (h1 : FY G w u0 u1 u2 u3 n1 m1 o1) (k1 : n1 ≤ 1000) (k2 : m1 ≤ 1000) (hs : (⟨(txO o1).toArray⟩ : ByteArray) = s) :
  Calls Tryz.prog 41 #[.agg #[u0, u1, u2, u3]] w fun e w' => e = .returned (.string s) ∧ Below w.heap.size w w' := by
 subst hs
 cases o1 with
 | none => exact (gText_n h1.1 (Nat.le_trans k1 (by decide)) (Nat.le_trans k2 (by decide)))
 | some q =>
  obtain ⟨a1, c1, b1, d1, rfl, rfl, rfl, rfl, f1⟩ := (h1.2 _ rfl).ex
  exact rfText_lit hG f1 (h1.fz k1 k2 _ rfl) rfl
theorem gNew_u {u0 u1 v0 v1 : Value} {p q : Option Int} {o : Option Rat} {er : Int} {w : World} (hG : G ≤ w.heap.size) (h1 : BX G w u0 u1 p) (h2 : BX G w v0 v1 q) (ho : newO p q = o) (he : newE p q = er) :
    Calls Tryz.prog 24 #[.agg #[u0, u1], .agg #[v0, v1]] w fun e w' => ∃ x0 x1 x2 x3, e = .returned (.tuple #[.agg #[x0, x1, x2, x3], .int .i64 er]) ∧ OQ G w' x0 x1 x2 x3 o ∧ Below w.heap.size w w' := by
  subst ho he
  cases p with
  | none => exact (gNew_n1 h1).mono fun _ _ ⟨he, hb⟩ => ⟨_, _, _, _, he, oq_none _ _ _ _ _, hb⟩
  | some x =>
    cases q with
    | none => exact (gNew_n2 h1 h2).mono fun _ _ ⟨he, hb⟩ => ⟨_, _, _, _, he, oq_none _ _ _ _ _, hb⟩
    | some y =>
      obtain ⟨s, a, n, c, l, rfl, rfl, g1, -, h1⟩ := h1
      obtain ⟨t, b, m, d, k, rfl, rfl, g2, -, h2⟩ := h2
      rcases h1 with ⟨h, -⟩ | ⟨x', e1, -, rfl, rfl, b1⟩
      · cases h
      rcases h2 with ⟨h, -⟩ | ⟨y', e2, -, rfl, rfl, b2⟩
      · cases h
      cases e1; cases e2
      by_cases h0 : y = 0
      · rw [show newO (some x) (some y) = none from if_pos h0, show newE (some x) (some y) = 15 from if_pos h0]
        exact (rnew_zero hG b1 b2 g1 g2 h0).mono fun _ _ ⟨he, hb⟩ => ⟨_, _, _, _, he, oq_none _ _ _ _ _, hb⟩
      · rw [show newO (some x) (some y) = some (Rat.divInt x y) from if_neg h0, show newE (some x) (some y) = 0 from if_neg h0]
        exact (rnew_ok hG b1 b2 g1 g2 h0).mono fun _ _ ⟨a, c, b, d, he, hq, hb⟩ => ⟨_, _, _, _, he, FQ.of hq, hb⟩
theorem gOf_u {x y : Int} {o : Option Rat} {er : Int} {w : World} (hG : G ≤ w.heap.size) (hx : -9223372036854775808 ≤ x ∧ x ≤ 9223372036854775807) (hy : -9223372036854775808 ≤ y ∧ y ≤ 9223372036854775807) (ho : newO (some x) (some y) = o) (he : newE (some x) (some y) = er) :
    Calls Tryz.prog 20 #[.int .i64 x, .int .i64 y] w fun e w' => ∃ x0 x1 x2 x3, e = .returned (.tuple #[.agg #[x0, x1, x2, x3], .int .i64 er]) ∧ OQ G w' x0 x1 x2 x3 o ∧ Below w.heap.size w w' := by
  subst ho he
  by_cases h0 : y = 0
  · rw [show newO (some x) (some y) = none from if_pos h0, show newE (some x) (some y) = 15 from if_pos h0]
    exact (rfof_zero hG hx hy h0).mono fun _ _ ⟨he, hb⟩ => ⟨_, _, _, _, he, oq_none _ _ _ _ _, hb⟩
  · rw [show newO (some x) (some y) = some (Rat.divInt x y) from if_neg h0, show newE (some x) (some y) = 0 from if_neg h0]
    exact (rfof_ok hG hx hy h0).mono fun _ _ ⟨a, c, b, d, he, hq, hb⟩ => ⟨_, _, _, _, he, FQ.of hq, hb⟩
theorem gInt_u {x : Int} {o : Option Rat} {w : World} (hx : -9223372036854775808 ≤ x ∧ x ≤ 9223372036854775807) (ho : some (x : Rat) = o) :
  Calls Tryz.prog 39 #[.int .i64 x] w fun e w' => ∃ x0 x1 x2 x3, e = .returned (.agg #[x0, x1, x2, x3]) ∧ OQ G w' x0 x1 x2 x3 o ∧ Below w.heap.size w w' := by
 subst ho; exact rqInt hx
theorem gRead_u {S : ByteArray} {l : List UInt8} {o : Option Rat} {er : Int} {w : World} (hG : G ≤ w.heap.size) (hS : S = ⟨l.toArray⟩) (hn : l.length ≤ 1000) (ho : readF l = o) (he : rfE l = er) :
  Calls Tryz.prog 22 #[.string S] w fun e w' => ∃ x0 x1 x2 x3, e = .returned (.tuple #[.agg #[x0, x1, x2, x3], .int .i64 er]) ∧ OQ G w' x0 x1 x2 x3 o ∧ Below w.heap.size w w' := by
 exact (rfRead_v hG hS hn ho he).mono fun _ _ ⟨a, c, b, d, he, hq, hq2, hb⟩ => ⟨_, _, _, _, he, OQ.of hq hq2, hb⟩
end Go.Proofs.YtcfmakpckdicjaaGreatDoor
