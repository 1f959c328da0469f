/- The reference's least span around some fractions; operations by their number. -/
import Derived.Test.YtjbfngjlepafgaaGreatBase
import Derived.Test.YtjbfngjlepafgaaGreatBigSpec
import Derived.Test.YtjbfngjlepafgaaGreatBigB
import Derived.Test.YtjbfngjlepafgaaGreatBigC
import Derived.Test.YtjbfngjlepafgaaGreatBigD
import Derived.Test.YtjbfngjlepafgaaGreatBigK
import Derived.Test.YtjbfngjlepafgaaGreatBigQ
import Derived.Test.YtjbfngjlepafgaaGreatFracA
import Derived.Test.YtjbfngjlepafgaaGreatRefE
import Derived.Test.YtjbfngjlepafgaaGreatFz
import Derived.Test.YtjbfngjlepafgaaGreatHeld
import Derived.Test.YtjbfngjlepafgaaGreatAw
import Derived.Test.YtjbfngjlepafgaaGreatRefO
import Derived.Test.YtjbfngjlepafgaaGreatFq
import Derived.Test.YtjbfngjlepafgaaGreatRefY
import Derived.Test.YtjbfngjlepafgaaGreatOwn
import Derived.Test.YtjbfngjlepafgaaGreatRefSpA
import Derived.Test.YtjbfngjlepafgaaGreatProg
import Derived.Test.YtjbfngjlepafgaaGreatShelf
import Derived.WalkKit
import Derived.WalkSpells
import Derived.WalkLawsBesides
import Derived.Handy
import Derived.Lib.Hide
import Derived.Lib.Strings
import Derived.Lib.Builder
import Derived.BigQuiet
import Derived.OwnWalk
import Derived.Laws.BitsLemmas
import Derived.WalkSmall
import Derived.Deep.QuietTactic
import Derived.StillTailTactics
import Derived.Maps.AppendAt
import Derived.IntWalk
import Derived.Deep.RegionHeld3
import Derived.Deep.DeepFit
import Derived.Deep.LoopGhost
import Derived.Deep.DeepCutAuto
import Derived.Lib.ItoaNum
import Derived.Lib.Repeat
import Derived.Lib.AppendIntMem
import Derived.Sort.OwnSorted
import Derived.Shelf.Strings.SlTrimAscii
import Derived.Lib.ConvBytes
import Derived.Lib.CutLaws
namespace Go.Proofs.YtjbfngjlepafgaaGreat
open Go.RowKit Go.Lib
variable {G : Nat}

set_option maxRecDepth 100000 in
set_option maxHeartbeats 4000000 in
theorem raround_ok {l : List Rat} {b off c : Nat} {w : World} (_hG : G ≤ w.heap.size) (h1 : Ls G w b off l) (hl : 0 < l.length) (_hn : l.length ≤ 1099511627776) (hs : ∀ q ∈ l, Fz q 137438953472) :
  Calls Tryz.prog 40 #[.slice (some ⟨b, off, none⟩) l.length c] w fun e w' => ∃ x0 x1 x2 x3 x4 x5 x6 x7, e = .returned (.agg #[x0, x1, x2, x3, x4, x5, x6, x7]) ∧ FQ G w' x0 x1 x2 x3 (minL l) ∧ FQ G w' x4 x5 x6 x7 (maxL l) ∧ Below w.heap.size w w' := by
 have HL := Lib.hid h1; have HS := Lib.hid hs; clear h1 hs
 have hI0 : (0 : Int) < (l.length : Int) := by omega
 obtain ⟨cs_, HR0_, z0, z1, z2, z3, rfl, HQ0_⟩ := HL.out 0 hl
 have HR0 : Hid (Row w b off [z0, z1, z2, z3]) := by rw [Nat.zero_mul, Nat.add_zero] at HR0_; exact HR0_
 have HQ0 : Hid (FQ G w z0 z1 z2 z3 l[0]) := HQ0_
 have HS0 := Lib.hid (HS.out _ (List.getElem_mem hl))
 clear HR0_ HQ0_
 have HR0 : Hid (Row w b off [z0, z1, z2, z3]) := HR0.out
 have HQ0 : Hid (FQ G w z0 z1 z2 z3 l[0]) := HQ0.out
 have M : Hid (Below w.heap.size w w) := Below.refl _ _
 go_enter Tryz.func40, Tryz.ntmps40
 go_upto_region 1 with fail
 refine nmW (w.alloc (.cells #[.int .i64 0, .slice none 0 0, .int .i64 0, .slice none 0 0, .int .i64 0, .slice none 0 0, .int .i64 0, .slice none 0 0] 28)) fun w1 hv => ?_
 rw [← hv]
 replace M := alM hv M
 clear hv
 go_cut [3] (fun s3 wx => ∃ (A1 : Nat), s3 = .pointer (some ⟨A1, 0, none⟩) ∧ w.heap.size < A1 ∧ Hid (Bx wx A1 28 #[z0, z1, z2, z3, z0, z1, z2, z3] ∧ Bx wx w.heap.size 28 #[.int .i64 0, .slice none 0 0, .int .i64 0, .slice none 0 0, .int .i64 0, .slice none 0 0, .int .i64 0, .slice none 0 0] ∧ Below w.heap.size w wx))
 case first =>
  refine nmW w1.drew fun w2 hv => ?_
  replace M := drM hv M
  refine wp_region_held_drew (S := (fun w' => w'.cell? ⟨b, off, none⟩ = some (z0) ∧ w'.cell? ⟨b, off + 1, none⟩ = some (z1) ∧ w'.cell? ⟨b, off + 2, none⟩ = some (z2) ∧ w'.cell? ⟨b, off + 3, none⟩ = some (z3))) (by kernel_rfl) (by rw [← hv]; exact ((HR0.out.keep (J1 M)).c4)) (fun hH2 => ?_)
  rw [← hv] at hH2 ⊢
  clear hv
  refine tk at0 ?_
  refine tk at1 ?_
  refine tk at2 ?_
  refine tk at3 ?_
  refine tk at4 ?_
  refine tk at5 ?_
  refine tk at6 ?_
  refine wpAnyH_ready (rs := [7]) (by kernel_rfl) (by simp) ?_
  refine AllReadyH.cons at7 (fun K hK => ?_) AllReadyH.nil
  go_simp
  refine nmW (w2.alloc (.cells #[.int .i64 0, .slice none 0 0, .int .i64 0, .slice none 0 0, .int .i64 0, .slice none 0 0, .int .i64 0, .slice none 0 0] 28)) fun w3 hv => ?_
  rw [← hv]
  have ow1_ : w.heap.size < w2.heap.size := ((M.out.1)).lt
  replace M := alM hv M
  clear hv
  refine hK.out _ _ (((HR0.out.keep (J2 M)).c4)) (fun hH3 => ?_)
  clear hK K hH2
  (try simp only [Act.put, List.setIfInBounds_toArray, List.set_cons_zero, List.set_cons_succ])
  refine wpAnyH_ready (rs := [8]) (by kernel_rfl) (by simp) ?_
  refine AllReadyH.cons at8 (fun K hK => ?_) AllReadyH.nil
  refine cj16 (M.out.1).c8 fun aa ab ac ad ae af ag ah ai aj ak al am ao ap aq => ?_
  refine cj4 (TQ.st (HQ0.out.keep (J2 M))) fun ar au av aw => ?_
  go_simp
  clear aa ab ac ad ae af ag ah ai aj ak al am ao ap aq ar au av aw
  have hz : w.heap.size ≤ w2.heap.size := by omega
  refine st8W (z0) (z1) (z2) (z3) (z0) (z1) (z2) (z3) (M.out.1) (J2 M) hz fun w4 hv og hk hbw => ?_
  rw [← hv]
  replace M := Lib.hid (aI hk (aI ((J1 M).1.only og (by omega)) hbw))
  clear hk hbw og hv hz
  refine hK.out _ _ (((HR0.out.keep (J2 M)).c4)) (fun hH4 => ?_)
  clear hK K hH3
  (try simp only [Act.put, List.setIfInBounds_toArray, List.set_cons_zero, List.set_cons_succ])
  refine wpAnyH_done (by kernel_rfl) ?_ _
  clear hH4
  go_wp2_with fail
  go_meet
  exact ⟨w2.heap.size, rfl, (by omega), (M.out.1), (J1 M).1, (J2 M)⟩
 case rest =>
  obtain ⟨A1, rfl, oA1, M⟩ := hcut
  obtain ⟨w2, rfl⟩ : ∃ w_ : World, w_ = wc := ⟨_, rfl⟩
  go_wp2_with fail
  go_loopw [4] (fun i4 wr => ∃ (k : Nat) (m : Rat) (x : Rat) (g0 : Value) (g1 : Value) (g2 : Value) (g3 : Value) (g4 : Value) (g5 : Value) (g6 : Value) (g7 : Value), i4 = .int .i64 (k : Int) ∧ Hid (k ≤ l.length) ∧ Hid (foldM l[0] (l.take k) = m) ∧ Hid (foldX l[0] (l.take k) = x) ∧ Hid (Fz m 137438953472) ∧ Hid (Fz x 137438953472) ∧ Hid (Bx wr A1 28 #[g0, g1, g2, g3, g4, g5, g6, g7] ∧ FQ G wr g0 g1 g2 g3 m ∧ FQ G wr g4 g5 g6 g7 x ∧ Bx wr w.heap.size 28 #[.int .i64 0, .slice none 0 0, .int .i64 0, .slice none 0 0, .int .i64 0, .slice none 0 0, .int .i64 0, .slice none 0 0] ∧ Below w.heap.size w wr)) (fun i4 _ => l.length - (RowKit.intOf i4).toNat)
  case atStart =>
   exact ⟨0, l[0], l[0], z0, z1, z2, z3, z0, z1, z2, z3, rfl, (by show _ ≤ _; omega), (show foldM _ [] = _ from rfl), (show foldX _ [] = _ from rfl), HS0.out, HS0.out, Lib.hid (aI (M.out.1) (aI (HQ0.out.keep (J2 M)) (aI (HQ0.out.keep (J2 M)) (aI (J1 M).1 (J2 M)))))⟩
  case round =>
   obtain ⟨w3, rfl⟩ : ∃ x, x = wr := ⟨_, rfl⟩
   clear M
   obtain ⟨k, m, x, g0, g1, g2, g3, g4, g5, g6, g7, rfl, hk, HM, HX, HSm, HSx, M⟩ := hrel
   replace hk := hk.out
   by_cases hlt : k < l.length
   ·
    have hI : (k : Int) < (l.length : Int) := by omega
    obtain ⟨cs_, HR_, x0, x1, x2, x3, rfl, HQ_⟩ := HL.out k hlt
    have HR : Hid (Row w b (off + k * 4) [x0, x1, x2, x3]) := HR_
    have HQ : Hid (FQ G w x0 x1 x2 x3 l[k]) := HQ_
    clear HR_ HQ_
    have HN1 := Lib.hid (foldM_next hlt HM.out)
    have HN2 := Lib.hid (foldX_next hlt HX.out)
    obtain ⟨qk, hqk⟩ : ∃ q, q = l[k] := ⟨_, rfl⟩
    rw [← hqk] at HQ HN1 HN2
    have HSk : Hid (Fz qk 137438953472) := by show Fz _ _; rw [hqk]; exact HS.out _ (List.getElem_mem hlt)
    clear hqk
    obtain ⟨k1, hk1⟩ : ∃ k, ordQ qk m = k := ⟨_, rfl⟩
    obtain ⟨b1, hb1⟩ : ∃ b, decide (qk < m) = b := ⟨_, rfl⟩
    have hd1 : decide (k1 < 0) = b1 := by rw [← hb1, ← hk1]; exact ordQ_lt0 qk m
    have Hk1 := Lib.hid hk1; have HB1 := Lib.hid hb1; clear hk1 hb1
    obtain ⟨k2, hk2⟩ : ∃ k, ordQ qk x = k := ⟨_, rfl⟩
    obtain ⟨b2, hb2⟩ : ∃ b, decide (x < qk) = b := ⟨_, rfl⟩
    have hd2 : decide (0 < k2) = b2 := by rw [← hb2, ← hk2]; exact ordQ_gt0 qk x
    have Hk2 := Lib.hid hk2; have HB2 := Lib.hid hb2; clear hk2 hb2
    go_wp2_with fail
    refine nmW w3.drew fun w4 hv => ?_
    replace M := drM hv M
    refine wp_region_held_drew (S := (fun w' => w'.cell? ⟨A1, 0, none⟩ = some (g0) ∧ w'.cell? ⟨A1, 1, none⟩ = some (g1) ∧ w'.cell? ⟨A1, 2, none⟩ = some (g2) ∧ w'.cell? ⟨A1, 3, none⟩ = some (g3) ∧ w'.cell? ⟨A1, 4, none⟩ = some (g4) ∧ w'.cell? ⟨A1, 5, none⟩ = some (g5) ∧ w'.cell? ⟨A1, 6, none⟩ = some (g6) ∧ w'.cell? ⟨A1, 7, none⟩ = some (g7) ∧ w'.cell? ⟨b, off + k * 4, none⟩ = some (x0) ∧ w'.cell? ⟨b, off + k * 4 + 1, none⟩ = some (x1) ∧ w'.cell? ⟨b, off + k * 4 + 2, none⟩ = some (x2) ∧ w'.cell? ⟨b, off + k * 4 + 3, none⟩ = some (x3))) (by kernel_rfl) (by rw [← hv]; exact ((M.out.1).t8 ((HR.out.keep (J4 M)).c4))) (fun hH5 => ?_)
    rw [← hv] at hH5 ⊢
    clear hv
    refine tk at0 ?_
    refine tk at1 ?_
    refine tk at2 ?_
    refine tk at3 ?_
    refine tk at4 ?_
    refine tk at5 ?_
    refine wpAnyH_ready (rs := [6]) (by kernel_rfl) (by simp) ?_
    refine AllReadyH.cons at6 (fun K hK => ?_) AllReadyH.nil
    go_simp
    refine (rqCompare (G := G) (q := qk) (r := m) (k := k1) (HQ.out.keep (J4 M)) (J1 M).1 HSk.out HSm.out Hk1.out).mono ?_
    rintro e w5 ⟨rfl, hb⟩
    replace M := gnM hb M
    clear hb
    (try go_wp2_with fail)
    refine hK.out _ _ (((M.out.1).t8 ((HR.out.keep (J4 M)).c4))) (fun hH6 => ?_)
    clear hK K hH5
    (try simp only [Act.put, List.setIfInBounds_toArray, List.set_cons_zero, List.set_cons_succ])
    refine tk at7 ?_
    refine wpAnyH_done (by kernel_rfl) ?_ _
    clear hH6
    cases b1 with
    | false =>
     go_wp2_with fail
     refine nmW w5.drew fun w6 hv => ?_
     replace M := drM hv M
     refine wp_region_held_drew (S := (fun w' => w'.cell? ⟨A1, 0, none⟩ = some (g0) ∧ w'.cell? ⟨A1, 1, none⟩ = some (g1) ∧ w'.cell? ⟨A1, 2, none⟩ = some (g2) ∧ w'.cell? ⟨A1, 3, none⟩ = some (g3) ∧ w'.cell? ⟨A1, 4, none⟩ = some (g4) ∧ w'.cell? ⟨A1, 5, none⟩ = some (g5) ∧ w'.cell? ⟨A1, 6, none⟩ = some (g6) ∧ w'.cell? ⟨A1, 7, none⟩ = some (g7) ∧ w'.cell? ⟨b, off + k * 4, none⟩ = some (x0) ∧ w'.cell? ⟨b, off + k * 4 + 1, none⟩ = some (x1) ∧ w'.cell? ⟨b, off + k * 4 + 2, none⟩ = some (x2) ∧ w'.cell? ⟨b, off + k * 4 + 3, none⟩ = some (x3))) (by kernel_rfl) (by rw [← hv]; exact ((M.out.1).t8 ((HR.out.keep (J4 M)).c4))) (fun hH7 => ?_)
     rw [← hv] at hH7 ⊢
     clear hv
     refine tk at0 ?_
     refine tk at1 ?_
     refine tk at2 ?_
     refine tk at3 ?_
     refine tk at4 ?_
     refine tk at5 ?_
     refine wpAnyH_ready (rs := [6]) (by kernel_rfl) (by simp) ?_
     refine AllReadyH.cons at6 (fun K hK => ?_) AllReadyH.nil
     go_simp
     refine (rqCompare (G := G) (q := qk) (r := x) (k := k2) (HQ.out.keep (J4 M)) (J2 M).1 HSk.out HSx.out Hk2.out).mono ?_
     rintro e w7 ⟨rfl, hb⟩
     replace M := gnM hb M
     clear hb
     (try go_wp2_with fail)
     refine hK.out _ _ (((M.out.1).t8 ((HR.out.keep (J4 M)).c4))) (fun hH8 => ?_)
     clear hK K hH7
     (try simp only [Act.put, List.setIfInBounds_toArray, List.set_cons_zero, List.set_cons_succ])
     refine tk at7 ?_
     refine wpAnyH_done (by kernel_rfl) ?_ _
     clear hH8
     cases b2 with
     | false =>
      go_wp2_with fail
      go_roundw
      case rel => exact ⟨(k + 1), m, x, g0, g1, g2, g3, g4, g5, g6, g7, by go_num, (by show _ ≤ _; omega), (HN1.out.trans (minQ_ge (of_decide_eq_false HB1.out))), (HN2.out.trans (maxQ_ge (of_decide_eq_false HB2.out))), HSm.out, HSx.out, Lib.hid (aI (M.out.1) (aI (J1 M).1 (aI (J2 M).1 (aI (J3 M).1 (J4 M)))))⟩
      case measure => simp [RowKit.intOf] <;> omega
     | true =>
      refine cj16 (M.out.1).c8 fun aa ab ac ad ae af ag ah ai aj ak al am ao ap aq => ?_
      refine cj4 (TQ.st (HQ.out.keep (J4 M))) fun ax ay az ba => ?_
      refine cj4 (HR.out.keep (J4 M)).c4 fun r1_0 r1_1 r1_2 r1_3 => ?_
      go_upto_region 4 with fail
      clear aa ab ac ad ae af ag ah ai aj ak al am ao ap aq ax ay az ba r1_0 r1_1 r1_2 r1_3
      refine nmW ((((w7.setCell ⟨A1, 4, none⟩ (x0)).setCell ⟨A1, 5, none⟩ (x1)).setCell ⟨A1, 6, none⟩ (x2)).setCell ⟨A1, 7, none⟩ (x3)) fun w8 hv => ?_
      rw [← hv]
      have og : w7.grownBy w8 (some A1) := by rw [hv]; exact (only_setCell (only_setCell (only_setCell (only_setCell (World.grownBy.refl _ _) _) _) _) _)
      have hz : w.heap.size ≤ A1 := by omega
      have hk : Bx w8 A1 28 #[g0, g1, g2, g3, x0, x1, x2, x3] := by rw [hv]; exact (((((M.out.1).set 4 _).set 5 _).set 6 _).set 7 _)
      have hbw : Below w.heap.size w w8 := by rw [hv]; exact (Below.setCell (Below.setCell (Below.setCell (Below.setCell (J4 M) (by omega) _) (by omega) _) (by omega) _) (by omega) _)
      replace M := Lib.hid (aI hk (aI ((J1 M).1.far (M.out.1) (by rfl) (by omega) og) (aI ((J2 M).1.far (M.out.1) (by rfl) (by omega) og) (aI ((J3 M).1.only og (by omega)) hbw))))
      clear hk hbw og hv hz
      go_wp2_with fail
      go_roundw
      case rel => exact ⟨(k + 1), m, qk, g0, g1, g2, g3, x0, x1, x2, x3, by go_num, (by show _ ≤ _; omega), (HN1.out.trans (minQ_ge (of_decide_eq_false HB1.out))), (HN2.out.trans (maxQ_lt (of_decide_eq_true HB2.out))), HSm.out, HSk.out, Lib.hid (aI (M.out.1) (aI (J1 M).1 (aI (HQ.out.keep (J4 M)) (aI (J3 M).1 (J4 M)))))⟩
      case measure => simp [RowKit.intOf] <;> omega
    | true =>
     refine cj16 (M.out.1).c8 fun aa ab ac ad ae af ag ah ai aj ak al am ao ap aq => ?_
     refine cj4 (TQ.st (HQ.out.keep (J4 M))) fun ax ay az ba => ?_
     refine cj4 (HR.out.keep (J4 M)).c4 fun r1_0 r1_1 r1_2 r1_3 => ?_
     go_wp2_with fail
     clear aa ab ac ad ae af ag ah ai aj ak al am ao ap aq ax ay az ba r1_0 r1_1 r1_2 r1_3
     refine nmW ((((w5.setCell ⟨A1, 0, none⟩ (x0)).setCell ⟨A1, 1, none⟩ (x1)).setCell ⟨A1, 2, none⟩ (x2)).setCell ⟨A1, 3, none⟩ (x3)) fun w6 hv => ?_
     rw [← hv]
     have og : w5.grownBy w6 (some A1) := by rw [hv]; exact (only_setCell (only_setCell (only_setCell (only_setCell (World.grownBy.refl _ _) _) _) _) _)
     have hz : w.heap.size ≤ A1 := by omega
     have hk : Bx w6 A1 28 #[x0, x1, x2, x3, g4, g5, g6, g7] := by rw [hv]; exact (((((M.out.1).set 0 _).set 1 _).set 2 _).set 3 _)
     have hbw : Below w.heap.size w w6 := by rw [hv]; exact (Below.setCell (Below.setCell (Below.setCell (Below.setCell (J4 M) (by omega) _) (by omega) _) (by omega) _) (by omega) _)
     replace M := Lib.hid (aI hk (aI ((J1 M).1.far (M.out.1) (by rfl) (by omega) og) (aI ((J2 M).1.far (M.out.1) (by rfl) (by omega) og) (aI ((J3 M).1.only og (by omega)) hbw))))
     clear hk hbw og hv hz
     refine nmW w6.drew fun w7 hv => ?_
     replace M := drM hv M
     refine wp_region_held_drew (S := (fun w' => w'.cell? ⟨A1, 0, none⟩ = some (x0) ∧ w'.cell? ⟨A1, 1, none⟩ = some (x1) ∧ w'.cell? ⟨A1, 2, none⟩ = some (x2) ∧ w'.cell? ⟨A1, 3, none⟩ = some (x3) ∧ w'.cell? ⟨A1, 4, none⟩ = some (g4) ∧ w'.cell? ⟨A1, 5, none⟩ = some (g5) ∧ w'.cell? ⟨A1, 6, none⟩ = some (g6) ∧ w'.cell? ⟨A1, 7, none⟩ = some (g7) ∧ w'.cell? ⟨b, off + k * 4, none⟩ = some (x0) ∧ w'.cell? ⟨b, off + k * 4 + 1, none⟩ = some (x1) ∧ w'.cell? ⟨b, off + k * 4 + 2, none⟩ = some (x2) ∧ w'.cell? ⟨b, off + k * 4 + 3, none⟩ = some (x3))) (by kernel_rfl) (by rw [← hv]; exact ((M.out.1).t8 ((HR.out.keep (J4 M)).c4))) (fun hH9 => ?_)
     rw [← hv] at hH9 ⊢
     clear hv
     refine tk at0 ?_
     refine tk at1 ?_
     refine tk at2 ?_
     refine tk at3 ?_
     refine tk at4 ?_
     refine tk at5 ?_
     refine wpAnyH_ready (rs := [6]) (by kernel_rfl) (by simp) ?_
     refine AllReadyH.cons at6 (fun K hK => ?_) AllReadyH.nil
     go_simp
     refine (rqCompare (G := G) (q := qk) (r := x) (k := k2) (HQ.out.keep (J4 M)) (J2 M).1 HSk.out HSx.out Hk2.out).mono ?_
     rintro e w8 ⟨rfl, hb⟩
     replace M := gnM hb M
     clear hb
     (try go_wp2_with fail)
     refine hK.out _ _ (((M.out.1).t8 ((HR.out.keep (J4 M)).c4))) (fun hH10 => ?_)
     clear hK K hH9
     (try simp only [Act.put, List.setIfInBounds_toArray, List.set_cons_zero, List.set_cons_succ])
     refine tk at7 ?_
     refine wpAnyH_done (by kernel_rfl) ?_ _
     clear hH10
     cases b2 with
     | false =>
      go_wp2_with fail
      go_roundw
      case rel => exact ⟨(k + 1), qk, x, x0, x1, x2, x3, g4, g5, g6, g7, by go_num, (by show _ ≤ _; omega), (HN1.out.trans (minQ_lt (of_decide_eq_true HB1.out))), (HN2.out.trans (maxQ_ge (of_decide_eq_false HB2.out))), HSk.out, HSx.out, Lib.hid (aI (M.out.1) (aI (HQ.out.keep (J4 M)) (aI (J2 M).1 (aI (J3 M).1 (J4 M)))))⟩
      case measure => simp [RowKit.intOf] <;> omega
     | true =>
      refine cj16 (M.out.1).c8 fun aa ab ac ad ae af ag ah ai aj ak al am ao ap aq => ?_
      refine cj4 (TQ.st (HQ.out.keep (J4 M))) fun ax ay az ba => ?_
      refine cj4 (HR.out.keep (J4 M)).c4 fun r1_0 r1_1 r1_2 r1_3 => ?_
      go_upto_region 4 with fail
      clear aa ab ac ad ae af ag ah ai aj ak al am ao ap aq ax ay az ba r1_0 r1_1 r1_2 r1_3
      refine nmW ((((w8.setCell ⟨A1, 4, none⟩ (x0)).setCell ⟨A1, 5, none⟩ (x1)).setCell ⟨A1, 6, none⟩ (x2)).setCell ⟨A1, 7, none⟩ (x3)) fun w9 hv => ?_
      rw [← hv]
      have og : w8.grownBy w9 (some A1) := by rw [hv]; exact (only_setCell (only_setCell (only_setCell (only_setCell (World.grownBy.refl _ _) _) _) _) _)
      have hz : w.heap.size ≤ A1 := by omega
      have hk : Bx w9 A1 28 #[x0, x1, x2, x3, x0, x1, x2, x3] := by rw [hv]; exact (((((M.out.1).set 4 _).set 5 _).set 6 _).set 7 _)
      have hbw : Below w.heap.size w w9 := by rw [hv]; exact (Below.setCell (Below.setCell (Below.setCell (Below.setCell (J4 M) (by omega) _) (by omega) _) (by omega) _) (by omega) _)
      replace M := Lib.hid (aI hk (aI ((J1 M).1.far (M.out.1) (by rfl) (by omega) og) (aI ((J2 M).1.far (M.out.1) (by rfl) (by omega) og) (aI ((J3 M).1.only og (by omega)) hbw))))
      clear hk hbw og hv hz
      go_wp2_with fail
      go_roundw
      case rel => exact ⟨(k + 1), qk, qk, x0, x1, x2, x3, x0, x1, x2, x3, by go_num, (by show _ ≤ _; omega), (HN1.out.trans (minQ_lt (of_decide_eq_true HB1.out))), (HN2.out.trans (maxQ_lt (of_decide_eq_true HB2.out))), HSk.out, HSk.out, Lib.hid (aI (M.out.1) (aI (HQ.out.keep (J4 M)) (aI (HQ.out.keep (J4 M)) (aI (J3 M).1 (J4 M)))))⟩
      case measure => simp [RowKit.intOf] <;> omega
   ·
    have hI : ¬ (k : Int) < (l.length : Int) := by omega
    have HE1 : Hid (minL l = m) := by show _ = _; rw [← foldM_all hl, ← HM.out, List.take_of_length_le (by omega)]
    have HE2 : Hid (maxL l = x) := by show _ = _; rw [← foldX_all hl, ← HX.out, List.take_of_length_le (by omega)]
    refine cj8 (M.out.1).d8 fun aa ac ae ag ai ak am ap => ?_
    refine cj16 (J3 M).1.c8 fun bb bc bd bf bg bh bi bj bk bl bm bn bo bp bq br => ?_
    refine cj4 (TQ.st (J1 M).1) fun bs bt bu bv => ?_
    refine cj4 (TQ.st (J2 M).1) fun bw bx bz ca => ?_
    go_wp2_with fail
    clear aa ac ae ag ai ak am ap bb bc bd bf bg bh bi bj bk bl bm bn bo bp bq br bs bt bu bv bw bx bz ca
    have hz : w.heap.size ≤ w.heap.size := by exact Nat.le_refl _
    refine st8W (g0) (g1) (g2) (g3) (g4) (g5) (g6) (g7) (J3 M).1 (J4 M) hz fun w4 hv og hk hbw => ?_
    rw [← hv]
    replace M := Lib.hid (aI ((M.out.1).only og (by omega)) (aI ((J1 M).1.far (J3 M).1 (by rfl) (by omega) og) (aI ((J2 M).1.far (J3 M).1 (by rfl) (by omega) og) (aI hk hbw))))
    clear hk hbw og hv hz
    refine bodyPost_ret (results_box1 rfl _ _ w.heap.size 28 _ _ _ rfl (J3 M).1 Tryz.underlying28 rfl (by kernel_rfl)) rfl ?_
    exact ⟨g0, g1, g2, g3, g4, g5, g6, g7, rfl, (by have h_ := (J1 M).1; rw [← HE1.out] at h_; exact h_), (by have h_ := (J2 M).1; rw [← HE2.out] at h_; exact h_), (J4 M)⟩
end Go.Proofs.YtjbfngjlepafgaaGreat
