/- Goods are drawn from a right stock, the last ones first. -/
import Derived.Test.YtgmngkbocpadaaaBase
import Derived.Test.YtgmngkbocpadaaaBigSpec
import Derived.Test.YtgmngkbocpadaaaBigB
import Derived.Test.YtgmngkbocpadaaaBigC
import Derived.Test.YtgmngkbocpadaaaBigD
import Derived.Test.YtgmngkbocpadaaaBigK
import Derived.Test.YtgmngkbocpadaaaBigL
import Derived.Test.YtgmngkbocpadaaaBigQ
import Derived.Test.YtgmngkbocpadaaaFracA
import Derived.Test.YtgmngkbocpadaaaFz
import Derived.Test.YtgmngkbocpadaaaHeld
import Derived.Test.YtgmngkbocpadaaaAw
import Derived.Test.YtgmngkbocpadaaaFracR
import Derived.Test.YtgmngkbocpadaaaRefF
import Derived.Test.YtgmngkbocpadaaaRw
import Derived.Test.YtgmngkbocpadaaaStockPlain
import Derived.Test.YtgmngkbocpadaaaStB
import Derived.Test.YtgmngkbocpadaaaStH
import Derived.Test.YtgmngkbocpadaaaStI
import Derived.Test.YtgmngkbocpadaaaProg
import Derived.Test.YtgmngkbocpadaaaShelf
import Derived.WalkKit
import Derived.WalkSpells
import Derived.WalkLawsBesides
import Derived.Handy
import Derived.Lib.Hide
import Derived.Lib.Strings
import Derived.Lib.Builder
import Derived.BigQuiet
import Derived.OwnWalk
import Derived.Laws.BitsLemmas
import Derived.WalkSmall
import Derived.Deep.QuietTactic
import Derived.StillTailTactics
import Derived.Maps.AppendAt
import Derived.IntWalk
import Derived.Deep.RegionHeld3
import Derived.Deep.DeepFit
import Derived.Deep.LoopGhost
import Derived.Deep.DeepCutAuto
import Derived.Lib.ItoaNum
import Derived.Lib.Repeat
import Derived.Lib.AppendIntMem
import Derived.Sort.OwnSorted
import Derived.Shelf.Strings.SlTrimAscii
import Derived.Lib.ConvBytes
import Derived.Lib.CutLaws
namespace Go.Proofs.Ytgmngkbocpadaaa
open Go.RowKit Go.Lib
variable {G : Nat}

set_option maxRecDepth 100000 in
set_option maxHeartbeats 4000000 in
theorem draw_1 {l : List LC} {a : Option Addr} {n c : Nat} {am0 : Int} {w : World} (hG : G ≤ w.heap.size) (h : RdC G w a n c l) (ok : OkC l) (hz : FzL l 100000000) (_ha0 : 1 ≤ am0) (_ha : am0 ≤ sumN (l.map LC.ly))  :
    Calls Try.prog 11 #[.slice a n c, .int .i64 1, .int .i64 am0] w fun e w' => ∃ a2 n2 c2 l2 x0 x1 x2 x3, e = .returned (.tuple #[.slice a2 n2 c2, .agg #[x0, x1, x2, x3], .int .i64 0]) ∧ RdC G w' a2 n2 c2 l2 ∧ l2.map LC.ly = (drawR 1 (l.map LC.ly) am0).1 ∧ FQ G w' x0 x1 x2 x3 (drawR 1 (l.map LC.ly) am0).2 ∧ Below w.heap.size w w' := by
  have ha1 : am0 ≤ 1099511627776 := by have h_ := ok.sum; omega
  have hp : 0 < n := by have h_ := sum_pos_len (l := l) (by omega); rw [h.len] at h_; exact h_
  have e3 : decide (am0 < 1) = false := decide_eq_false (by omega)
  have e3i : ¬ am0 < 1 := by omega
  have e4 : decide (1099511627776 < am0) = false := decide_eq_false (by omega)
  have e4i : ¬ 1099511627776 < am0 := by omega
  have e5 : decide (sumN (l.map LC.ly) < am0) = false := decide_eq_false (by omega)
  have e5i : ¬ sumN (l.map LC.ly) < am0 := by omega
  have hn : n ≤ 200 := by rw [← h.len]; exact ok.len
  have HOK := Lib.hid ok; have HZ := Lib.hid hz; clear ok hz
  have HL : Hid (RdC G w a n c l) := h
  clear h
  have M : Hid (Below w.heap.size w w) := Below.refl _ _
  go_enter Try.func11, Try.ntmps11
  go_upto_region 1 with fail
  obtain ⟨w1, hv⟩ : ∃ w_ : World, w_ = (w.alloc (.cells #[.int .i64 0, .slice none 0 0, .int .i64 0, .slice none 0 0] 29)) := ⟨_, rfl⟩
  rw [← hv]
  replace M := Lib.hid (And.intro (hv ▸ bx1 w 29 #[.int .i64 0, .slice none 0 0, .int .i64 0, .slice none 0 0]) (Goes.go M.out (hv ▸ below_alloc _ _ : Below w.heap.size w w1)))
  clear hv
  go_wp2_with fail
  refine (stRight_c (G := G) (l := l) (Nat.le_trans hG (M.out.2).size) (HL.out.keep (M.out.2)) HOK.out HZ.out).mono ?_
  rintro e w2 ⟨rfl, hb⟩
  replace M := Lib.hid (Goes.go M.out hb)
  clear hb
  go_wp2_with fail
  obtain ⟨q5, eq5⟩ : ∃ v_ : Rat, v_ = (sumB (l.map LC.ly)) := ⟨_, rfl⟩
  refine (stTotal (G := G) (l := l) (Nat.le_trans hG (M.out.2).size) (HL.out.keep (M.out.2)) HOK.out HZ.out).mono ?_
  rintro e w3 ⟨x_1, x_2, x_3, x_4, rfl, hd6, hb⟩
  rw [← eq5] at hd6
  have Eq5 := Lib.hid eq5; clear eq5
  replace M := Lib.hid (And.intro hd6 (Goes.go M.out hb))
  clear hb hd6
  have ys_x_1 := TQ.st (M.out.1); have st_x_1 := ys_x_1.1; have st_x_2 := ys_x_1.2.1; have st_x_3 := ys_x_1.2.2.1; have st_x_4 := ys_x_1.2.2.2; clear ys_x_1
  go_upto_region 6 with fail
  clear st_x_1 st_x_2 st_x_3 st_x_4
  obtain ⟨w4, hv⟩ : ∃ w_ : World, w_ = (w3.alloc (.cells #[x_1, x_2, x_3, x_4] 29)) := ⟨_, rfl⟩
  rw [← hv]
  have ow1_ : w.heap.size < w3.heap.size := ((M.out.2.1)).lt
  replace M := Lib.hid (And.intro (hv ▸ bx1 w3 29 #[x_1, x_2, x_3, x_4]) (Goes.go M.out (hv ▸ below_alloc _ _ : Below w3.heap.size w3 w4)))
  clear hv
  go_wp2_with fail
  refine (cloneB (G := G) (l := l) hG (M.out.2.2.2).size (HL.out.keep (M.out.2.2.2)) (by omega) (by omega)).mono ?_
  rintro e w5 ⟨g_7, d_8, rfl, hd9, hu10, hb⟩
  replace M := Lib.hid (And.intro hd9 (Goes.go M.out hb))
  clear hb hd9
  go_wp2_with fail
  refine (reverseA (G := G) (M.out.1) HL.out.len (by omega)).mono ?_
  have hle_ := (M.out.1).le
  obtain ⟨ys_, hbk_⟩ := (M.out.1).bk
  rintro e w6 ⟨rfl, ho2, og⟩
  replace M := Lib.hid (And.intro ho2 (And.intro ((M.out.2.1).only og (Bx.ne_ty (M.out.2.1) hbk_ (by rfl))) (And.intro ((M.out.2.2.1).far hbk_ (by rfl) (by omega) og) (And.intro ((M.out.2.2.2.1).only og (Bx.ne_ty (M.out.2.2.2.1) hbk_ (by rfl))) (Below.grown (M.out.2.2.2.2) og (M.out.2.2.2.2).size (fun k_ hk_ => by cases hk_; omega))))))
  clear hbk_ og hle_
  clear ho2
  go_upto_region 14 with fail
  have HSL : Hid (l.reverse.length = n) := by show _ = _; rw [List.length_reverse]; exact HL.out.len
  have HSN := Lib.hid HOK.out.ns.rev
  have HSF := Lib.hid HZ.out.rev
  obtain ⟨R1, hR1⟩ : ∃ R, (drawF (l.reverse.map LC.ly) am0).1 = R := ⟨_, rfl⟩
  obtain ⟨R2, hR2⟩ : ∃ R, (drawF (l.reverse.map LC.ly) am0).2 = R := ⟨_, rfl⟩
  have HR1 := Lib.hid hR1; have HR2 := Lib.hid hR2; clear hR1 hR2
  have HSS : Hid (0 ≤ am0 ∧ am0 ≤ 1099511627776 ∧ am0 ≤ sumN ((l.reverse : List LC).map LC.ly)) := by show _ ∧ _; rw [sumN_rev']; exact ⟨by omega, by omega, by omega⟩
  go_wp2_with fail
  obtain ⟨q15, eq15⟩ : ∃ v_ : Rat, v_ = ((0 : Int) : Rat) := ⟨_, rfl⟩
  refine (fqInt (G := G) (x := 0) (by decide)).mono ?_
  rintro e w7 ⟨x_11, x_12, x_13, x_14, rfl, hd16, hb⟩
  rw [← eq15] at hd16
  have Eq15 := Lib.hid eq15; clear eq15
  replace M := Lib.hid (And.intro hd16 (Goes.go M.out hb))
  clear hb hd16
  have ys_x_11 := TQ.st (M.out.1); have st_x_11 := ys_x_11.1; have st_x_12 := ys_x_11.2.1; have st_x_13 := ys_x_11.2.2.1; have st_x_14 := ys_x_11.2.2.2; clear ys_x_11
  go_wp2_with fail
  clear st_x_11 st_x_12 st_x_13 st_x_14
  obtain ⟨w8, hv⟩ : ∃ w_ : World, w_ = (w7.alloc (.cells #[x_11, x_12, x_13, x_14] 29)) := ⟨_, rfl⟩
  rw [← hv]
  have ow2_ : w3.heap.size < w7.heap.size := ((M.out.2.2.1)).lt
  replace M := Lib.hid (And.intro (hv ▸ bx1 w7 29 #[x_11, x_12, x_13, x_14]) (Goes.go M.out (hv ▸ below_alloc _ _ : Below w7.heap.size w7 w8)))
  clear hv
  replace M := Lib.hid (And.intro (M.out.1) (And.intro (M.out.2.1) (And.intro (M.out.2.2.1) (And.intro (M.out.2.2.2.2.2.1) (M.out.2.2.2.2.2.2)))))
  go_loopw [0, 2] (fun i0 i2 wr => ∃ (g : Nat) (o : Nat) (r : List LC) (nn : Nat) (cc : Nat) (am : Int) (gq : Rat) (m : Nat) (g0 : Value) (g1 : Value) (g2 : Value) (g3 : Value), i0 = .slice (some ⟨g, o, none⟩) nn cc ∧ i2 = .int .i64 am ∧ Hid (r.length = nn) ∧ Hid (nn ≤ cc ∧ w.heap.size ≤ g) ∧ Hid (0 ≤ am ∧ am ≤ 1099511627776 ∧ am ≤ sumN (r.map LC.ly)) ∧ Hid (Ns r) ∧ Hid (FzL r 100000000000) ∧ Hid (0 < am → FzL r 100000000) ∧ Hid ((drawF (r.map LC.ly) am).1 = R1) ∧ Hid (gq + (drawF (r.map LC.ly) am).2 = R2) ∧ Hid (Fz gq (100000010 * m + 1)) ∧ Hid (m + nn ≤ 201 ∧ (0 < am → m + nn ≤ 200)) ∧ Hid (Bx wr w7.heap.size 29 #[g0, g1, g2, g3] ∧ OwC G w.heap.size wr g o r ∧ FQ G wr g0 g1 g2 g3 gq ∧ Bx wr w.heap.size 29 #[.int .i64 0, .slice none 0 0, .int .i64 0, .slice none 0 0] ∧ Below w.heap.size w wr)) (fun i0 i2 _ => (RowKit.intOf i2).toNat)
  case atStart =>
    exact ⟨g_7, 0, (l).reverse, n, d_8, am0, q15, 0, x_11, x_12, x_13, x_14, rfl, rfl, HSL, (by show _ ∧ _; exact ⟨hu10, (M.out.2.2.1).le⟩), HSS, HSN, (Lib.hid (HSF.out.mono (by omega))), (Lib.hid (fun _ => HSF.out)), HR1, (Lib.hid (by rw [Eq15.out, HR2.out]; exact Rat.zero_add _)), (Lib.hid (by rw [Eq15.out]; exact fz0 (by omega))), (by show _ ∧ _; exact ⟨by omega, fun _ => by omega⟩), Lib.hid (And.intro (M.out.1) (And.intro (M.out.2.2.1) (And.intro (M.out.2.1) (And.intro (M.out.2.2.2.1) (M.out.2.2.2.2)))))⟩
  case round =>
    obtain ⟨w9, rfl⟩ : ∃ x, x = wr := ⟨_, rfl⟩
    clear M
    obtain ⟨g, o, r, nn, cc, am, gq, m, g0, g1, g2, g3, rfl, rfl, HRL, hcc, HS, HNS, HZ1, HZ2, HD1, HD2, HGQ, HMM, M⟩ := hrel
    have hcc1 := hcc.out.1
    have hgB := hcc.out.2
    have hs0 := HS.out.1
    have hs1 := HS.out.2.1
    have hs2 := HS.out.2.2
    have hmm1 := HMM.out.1
    clear hcc HS
    by_cases h0 : 0 < am
    ·
      have HSg : Hid (Fz gq 20000002001) := Fz.mono HGQ.out (by have h_ := HMM.out.2 h0; omega)
      have hpos_ := sum_pos_len (l := r) (by omega)
      rw [HRL.out] at hpos_
      obtain ⟨x_, r2, hr_, hrl⟩ := drop0 HRL.out hpos_
      subst hr_
      obtain ⟨xn, xu0, xu1, xu2, xu3, xq⟩ := x_
      clear hpos_
      have hx_ := HNS.out _ (List.mem_cons_self)
      have hx1 : 1 ≤ xn := hx_.1
      have hx2 : xn ≤ 1099511627776 := hx_.2
      have HN2 := Lib.hid HNS.out.tail
      have hz_ := HZ2.out (show 0 < am by omega)
      have HZx : Hid (Fz xq 100000000) := hz_ _ (List.mem_cons_self)
      have HZr := Lib.hid hz_.tail
      clear hx_ hz_
      obtain ⟨P_, R_, hb_, hq_, ho_, hcl_⟩ := (M.out.2.1).open0
      have HCL := Lib.hid hcl_; clear hcl_
      replace M := Lib.hid (And.intro hb_ (And.intro hq_ (And.intro ho_ (And.intro (M.out.1) (And.intro (M.out.2.2.1) (And.intro (M.out.2.2.2.1) (M.out.2.2.2.2)))))))
      clear hb_ hq_ ho_
      have hs2x : am ≤ xn + sumN (r2.map LC.ly) := hs2
      have hI1 : (1 : Int) ≤ (nn : Int) := by omega
      have hI0 : (0 : Int) < (nn : Int) := by omega
      have e9 : decide (0 < am) = true := decide_eq_true (by omega)
      have e9i : 0 < am := by omega
      have hw : (xn ≤ am ∧ cc = 1) ∨ (xn ≤ am ∧ ¬ cc = 1) ∨ am < xn := by omega
      rcases hw with hw | hw | hw
      ·
        obtain ⟨hw, hc1⟩ := hw
        have hm1 : min am xn = xn := by omega
        obtain ⟨sq, hsq⟩ : ∃ q, Rat.divInt xn xn = q := ⟨_, rfl⟩
        have HSZ : Hid (Fz sq 4) := by show Fz _ _; rw [← hsq]; exact Fz.of64 (by omega) (by omega) (by omega)
        have HSQ := Lib.hid hsq; clear hsq
        have hsx : xn - xn = 0 := by omega
        have HD := Lib.hid (draw_A (x := ⟨xn, xq⟩) (r := r2.map LC.ly) hx1 h0 hw)
        obtain rfl : cc = 1 := hc1
        obtain rfl : nn = 1 := by omega
        obtain rfl : r2 = [] := List.eq_nil_of_length_eq_zero (by omega)
        have y3 := (M.out.1).d5; have p3_0 := y3.1; have p3_1 := y3.2.1; have p3_2 := y3.2.2.1; have p3_3 := y3.2.2.2.1; have p3_4 := y3.2.2.2.2; clear y3
        go_wp2_with fail
        clear p3_0 p3_1 p3_2 p3_3 p3_4
        refine (fqOf (G := G) (x := xn) (y := xn) (q := sq) (Nat.le_trans hG (M.out.2.2.2.2.2.2).size) (by omega) (by omega) (by omega) HSQ.out).mono ?_
        rintro e w10 ⟨x_17, x_18, x_19, x_20, rfl, hd21, hb⟩
        replace M := Lib.hid (And.intro hd21 (Goes.go M.out hb))
        clear hb hd21
        have ys_x_17 := TQ.st (M.out.1); have st_x_17 := ys_x_17.1; have st_x_18 := ys_x_17.2.1; have st_x_19 := ys_x_17.2.2.1; have st_x_20 := ys_x_17.2.2.2; clear ys_x_17
        go_upto_region 19 with fail
        clear st_x_17 st_x_18 st_x_19 st_x_20
        obtain ⟨w11, hv⟩ : ∃ w_ : World, w_ = (w10.alloc (.cells #[x_17, x_18, x_19, x_20] 29)) := ⟨_, rfl⟩
        rw [← hv]
        have ow4_ : w7.heap.size < w10.heap.size := ((M.out.2.2.2.2.1)).lt
        replace M := Lib.hid (And.intro (hv ▸ bx1 w10 29 #[x_17, x_18, x_19, x_20]) (Goes.go M.out (hv ▸ below_alloc _ _ : Below w10.heap.size w10 w11)))
        clear hv
        go_cut [16, 17] (fun s16 s17 wx => ∃ (A28 : Nat), ∃ (x_22 : Value), ∃ (x_23 : Value), ∃ (x_24 : Value), ∃ (x_25 : Value), ∃ (q26 : Rat), s16 = .pointer (some ⟨A28, 0, none⟩) ∧ s17 = .int .i64 0 ∧ Hid (q26 = (xq * sq)) ∧ Hid (Fz q26 100000004) ∧ w10.heap.size < A28 ∧ Hid (Bx wx A28 29 #[x_22, x_23, x_24, x_25] ∧ FQ G wx x_22 x_23 x_24 x_25 q26 ∧ FQ G wx x_17 x_18 x_19 x_20 sq ∧ FQ G wx xu0 xu1 xu2 xu3 xq ∧ Oks G wx [] ∧ FQ G wx g0 g1 g2 g3 gq ∧ Bx wx w.heap.size 29 #[.int .i64 0, .slice none 0 0, .int .i64 0, .slice none 0 0] ∧ Bx wx w7.heap.size 29 #[g0, g1, g2, g3] ∧ Bo wx g o P_ R_ 48 [.int .i64 xn, xu0, xu1, xu2, xu3] ∧ Bx wx w10.heap.size 29 #[x_17, x_18, x_19, x_20] ∧ Below w.heap.size w wx))
        case first =>
          obtain ⟨w12, hv⟩ : ∃ w_ : World, w_ = w11.drew := ⟨_, rfl⟩
          replace M := Lib.hid (Goes.go M.out (hv ▸ below_drew _ : Below w11.heap.size w11 w12))
          refine wp_region_held_drew (S := (fun w' => w'.cell? ⟨g, o, none⟩ = some (.int .i64 xn) ∧ w'.cell? ⟨g, o + 1, none⟩ = some (xu0) ∧ w'.cell? ⟨g, o + 2, none⟩ = some (xu1) ∧ w'.cell? ⟨g, o + 3, none⟩ = some (xu2) ∧ w'.cell? ⟨g, o + 4, none⟩ = some (xu3) ∧ w'.cell? ⟨w10.heap.size, 0, none⟩ = some (x_17) ∧ w'.cell? ⟨w10.heap.size, 1, none⟩ = some (x_18) ∧ w'.cell? ⟨w10.heap.size, 2, none⟩ = some (x_19) ∧ w'.cell? ⟨w10.heap.size, 3, none⟩ = some (x_20))) (by kernel_rfl) (by rw [← hv]; exact ⟨((M.out.2.2.1).at 0 (show 0 < 5 by omega)).1, ((M.out.2.2.1).at 1 (show 1 < 5 by omega)).1, ((M.out.2.2.1).at 2 (show 2 < 5 by omega)).1, ((M.out.2.2.1).at 3 (show 3 < 5 by omega)).1, ((M.out.2.2.1).at 4 (show 4 < 5 by omega)).1, (M.out.1).at.1 0, (M.out.1).at.1 1, (M.out.1).at.1 2, (M.out.1).at.1 3⟩) (fun hH29 => ?_)
          rw [← hv] at hH29 ⊢
          clear hv
          refine tk at0 ?_
          refine tk at1 ?_
          refine tk at2 ?_
          refine tk at3 ?_
          refine tk at4 ?_
          refine wpAnyH_ready (rs := [5, 9]) (by kernel_rfl) (by simp) ?_
          refine AllReadyH.cons at5 (fun K hK => ?_) ?_
          ·
            go_simp
            obtain ⟨q34, eq34⟩ : ∃ v_ : Rat, v_ = (xq * sq) := ⟨_, rfl⟩
            refine (fqMul (G := G) (q := xq) (r := sq) (Nat.le_trans hG (M.out.2.2.2.2.2.2.2.2).size) (M.out.2.2.2.1) (M.out.2.1) (Fz.mono HZx.out (by omega)) (Fz.mono HSZ.out (by omega))).mono ?_
            rintro e w13 ⟨x_30, x_31, x_32, x_33, rfl, hd35, hb⟩
            rw [← eq34] at hd35
            have Sq34 : Hid (Fz q34 100000004) := by show Fz q34 100000004; rw [eq34]; exact (Fz.mul HZx.out HSZ.out)
            have Eq34 := Lib.hid eq34; clear eq34
            replace M := Lib.hid (And.intro hd35 (Goes.go M.out hb))
            clear hb hd35
            (try go_wp2_with fail)
            refine hK.out _ _ (⟨((M.out.2.2.2.1).at 0 (show 0 < 5 by omega)).1, ((M.out.2.2.2.1).at 1 (show 1 < 5 by omega)).1, ((M.out.2.2.2.1).at 2 (show 2 < 5 by omega)).1, ((M.out.2.2.2.1).at 3 (show 3 < 5 by omega)).1, ((M.out.2.2.2.1).at 4 (show 4 < 5 by omega)).1, (M.out.2.1).at.1 0, (M.out.2.1).at.1 1, (M.out.2.1).at.1 2, (M.out.2.1).at.1 3⟩) (fun hH36 => ?_)
            clear hK K hH29
            (try simp only [Act.put, List.setIfInBounds_toArray, List.set_cons_zero, List.set_cons_succ])
            refine tk at6 ?_
            refine tk at7 ?_
            refine tk at8 ?_
            refine wpAnyH_ready (rs := [9]) (by kernel_rfl) (by simp) ?_
            refine AllReadyH.cons at9 (fun K hK => ?_) AllReadyH.nil
            go_simp
            obtain ⟨w14, hv⟩ : ∃ w_ : World, w_ = (w13.alloc (.cells #[.int .i64 0, .slice none 0 0, .int .i64 0, .slice none 0 0] 29)) := ⟨_, rfl⟩
            rw [← hv]
            have ow5_ : w10.heap.size < w13.heap.size := ((M.out.2.1)).lt
            replace M := Lib.hid (And.intro (hv ▸ bx1 w13 29 #[.int .i64 0, .slice none 0 0, .int .i64 0, .slice none 0 0]) (Goes.go M.out (hv ▸ below_alloc _ _ : Below w13.heap.size w13 w14)))
            clear hv
            refine hK.out _ _ (⟨((M.out.2.2.2.2.1).at 0 (show 0 < 5 by omega)).1, ((M.out.2.2.2.2.1).at 1 (show 1 < 5 by omega)).1, ((M.out.2.2.2.2.1).at 2 (show 2 < 5 by omega)).1, ((M.out.2.2.2.2.1).at 3 (show 3 < 5 by omega)).1, ((M.out.2.2.2.2.1).at 4 (show 4 < 5 by omega)).1, (M.out.2.2.1).at.1 0, (M.out.2.2.1).at.1 1, (M.out.2.2.1).at.1 2, (M.out.2.2.1).at.1 3⟩) (fun hH37 => ?_)
            clear hK K hH36
            (try simp only [Act.put, List.setIfInBounds_toArray, List.set_cons_zero, List.set_cons_succ])
            refine wpAnyH_ready (rs := [10]) (by kernel_rfl) (by simp) ?_
            refine AllReadyH.cons at10 (fun K hK => ?_) AllReadyH.nil
            have y5 := (M.out.1).c4; have p5_0 := y5.1; have q5_0 := y5.2.1; have p5_1 := y5.2.2.1; have q5_1 := y5.2.2.2.1; have p5_2 := y5.2.2.2.2.1; have q5_2 := y5.2.2.2.2.2.1; have p5_3 := y5.2.2.2.2.2.2.1; have q5_3 := y5.2.2.2.2.2.2.2; clear y5
            have ys_x_30 := TQ.st (M.out.2.1); have st_x_30 := ys_x_30.1; have st_x_31 := ys_x_30.2.1; have st_x_32 := ys_x_30.2.2.1; have st_x_33 := ys_x_30.2.2.2; clear ys_x_30
            go_simp
            clear p5_0 q5_0 p5_1 q5_1 p5_2 q5_2 p5_3 q5_3 st_x_30 st_x_31 st_x_32 st_x_33
            obtain ⟨w15, hv⟩ : ∃ w_ : World, w_ = ((((w14.setCell ⟨w13.heap.size, 0, none⟩ (x_30)).setCell ⟨w13.heap.size, 1, none⟩ (x_31)).setCell ⟨w13.heap.size, 2, none⟩ (x_32)).setCell ⟨w13.heap.size, 3, none⟩ (x_33)) := ⟨_, rfl⟩
            rw [← hv]
            have og : w14.grownBy w15 (some w13.heap.size) := by rw [hv]; exact (only_setCell (only_setCell (only_setCell (only_setCell (World.grownBy.refl _ _) _) _) _) _)
            have hz : w.heap.size ≤ w13.heap.size := by omega
            have hk : Bx w15 w13.heap.size 29 #[x_30, x_31, x_32, x_33] := by rw [hv]; exact (((((M.out.1).set 0 _).set 1 _).set 2 _).set 3 _)
            have hbw : Below w.heap.size w w15 := by rw [hv]; exact (Below.setCell (Below.setCell (Below.setCell (Below.setCell (M.out.2.2.2.2.2.2.2.2.2.2) (by omega) _) (by omega) _) (by omega) _) (by omega) _)
            replace M := Lib.hid (And.intro hk (And.intro ((M.out.2.1).far (M.out.1) (by rfl) (by omega) og) (And.intro ((M.out.2.2.1).only og (by omega)) (And.intro ((M.out.2.2.2.1).far (M.out.1) (by rfl) (by omega) og) (And.intro ((M.out.2.2.2.2.1).only og (Bx.ne_ty (M.out.2.2.2.2.1).bx (M.out.1) (by rfl))) (And.intro ((M.out.2.2.2.2.2.1).far (M.out.1) (by rfl) (by omega) og) (And.intro ((M.out.2.2.2.2.2.2.1).far (M.out.1) (by rfl) (by omega) og) (And.intro ((M.out.2.2.2.2.2.2.2.1).only og (by omega)) (And.intro ((M.out.2.2.2.2.2.2.2.2.1).far (M.out.1) (by rfl) (by omega) og) (And.intro ((M.out.2.2.2.2.2.2.2.2.2.1).only og (by omega)) hbw))))))))))
            clear hk hbw og hv hz
            refine hK.out _ _ (⟨((M.out.2.2.2.2.1).at 0 (show 0 < 5 by omega)).1, ((M.out.2.2.2.2.1).at 1 (show 1 < 5 by omega)).1, ((M.out.2.2.2.2.1).at 2 (show 2 < 5 by omega)).1, ((M.out.2.2.2.2.1).at 3 (show 3 < 5 by omega)).1, ((M.out.2.2.2.2.1).at 4 (show 4 < 5 by omega)).1, (M.out.2.2.1).at.1 0, (M.out.2.2.1).at.1 1, (M.out.2.2.1).at.1 2, (M.out.2.2.1).at.1 3⟩) (fun hH38 => ?_)
            clear hK K hH37
            (try simp only [Act.put, List.setIfInBounds_toArray, List.set_cons_zero, List.set_cons_succ])
            refine tk at11 ?_
            refine wpAnyH_done (by kernel_rfl) ?_ _
            clear hH38
            go_wp2_with fail
            go_meet
            exact ⟨w13.heap.size, x_30, x_31, x_32, x_33, q34, rfl, rfl, Eq34, Sq34, (by omega), (M.out.1), (M.out.2.1), (M.out.2.2.2.1), (M.out.2.2.2.2.2.1), (M.out.2.2.2.2.2.2.1), (M.out.2.2.2.2.2.2.2.2.1), (M.out.2.2.2.2.2.2.2.2.2.1), (M.out.2.2.2.2.2.2.2.1), (M.out.2.2.2.2.1), (M.out.2.2.1), (M.out.2.2.2.2.2.2.2.2.2.2)⟩
          refine AllReadyH.cons at9 (fun K hK => ?_) AllReadyH.nil
          go_simp
          obtain ⟨w13, hv⟩ : ∃ w_ : World, w_ = (w12.alloc (.cells #[.int .i64 0, .slice none 0 0, .int .i64 0, .slice none 0 0] 29)) := ⟨_, rfl⟩
          rw [← hv]
          have ow5_ : w10.heap.size < w12.heap.size := ((M.out.1)).lt
          replace M := Lib.hid (And.intro (hv ▸ bx1 w12 29 #[.int .i64 0, .slice none 0 0, .int .i64 0, .slice none 0 0]) (Goes.go M.out (hv ▸ below_alloc _ _ : Below w12.heap.size w12 w13)))
          clear hv
          refine hK.out _ _ (⟨((M.out.2.2.2.1).at 0 (show 0 < 5 by omega)).1, ((M.out.2.2.2.1).at 1 (show 1 < 5 by omega)).1, ((M.out.2.2.2.1).at 2 (show 2 < 5 by omega)).1, ((M.out.2.2.2.1).at 3 (show 3 < 5 by omega)).1, ((M.out.2.2.2.1).at 4 (show 4 < 5 by omega)).1, (M.out.2.1).at.1 0, (M.out.2.1).at.1 1, (M.out.2.1).at.1 2, (M.out.2.1).at.1 3⟩) (fun hH39 => ?_)
          clear hK K hH29
          (try simp only [Act.put, List.setIfInBounds_toArray, List.set_cons_zero, List.set_cons_succ])
          refine wpAnyH_ready (rs := [5]) (by kernel_rfl) (by simp) ?_
          refine AllReadyH.cons at5 (fun K hK => ?_) AllReadyH.nil
          go_simp
          obtain ⟨q44, eq44⟩ : ∃ v_ : Rat, v_ = (xq * sq) := ⟨_, rfl⟩
          refine (fqMul (G := G) (q := xq) (r := sq) (Nat.le_trans hG (M.out.2.2.2.2.2.2.2.2.2).size) (M.out.2.2.2.2.1) (M.out.2.2.1) (Fz.mono HZx.out (by omega)) (Fz.mono HSZ.out (by omega))).mono ?_
          rintro e w14 ⟨x_40, x_41, x_42, x_43, rfl, hd45, hb⟩
          rw [← eq44] at hd45
          have Sq44 : Hid (Fz q44 100000004) := by show Fz q44 100000004; rw [eq44]; exact (Fz.mul HZx.out HSZ.out)
          have Eq44 := Lib.hid eq44; clear eq44
          replace M := Lib.hid (And.intro hd45 (Goes.go M.out hb))
          clear hb hd45
          (try go_wp2_with fail)
          refine hK.out _ _ (⟨((M.out.2.2.2.2.1).at 0 (show 0 < 5 by omega)).1, ((M.out.2.2.2.2.1).at 1 (show 1 < 5 by omega)).1, ((M.out.2.2.2.2.1).at 2 (show 2 < 5 by omega)).1, ((M.out.2.2.2.2.1).at 3 (show 3 < 5 by omega)).1, ((M.out.2.2.2.2.1).at 4 (show 4 < 5 by omega)).1, (M.out.2.2.1).at.1 0, (M.out.2.2.1).at.1 1, (M.out.2.2.1).at.1 2, (M.out.2.2.1).at.1 3⟩) (fun hH46 => ?_)
          clear hK K hH39
          (try simp only [Act.put, List.setIfInBounds_toArray, List.set_cons_zero, List.set_cons_succ])
          refine tk at6 ?_
          refine tk at7 ?_
          refine tk at8 ?_
          refine wpAnyH_ready (rs := [10]) (by kernel_rfl) (by simp) ?_
          refine AllReadyH.cons at10 (fun K hK => ?_) AllReadyH.nil
          have y5 := (M.out.2.1).c4; have p5_0 := y5.1; have q5_0 := y5.2.1; have p5_1 := y5.2.2.1; have q5_1 := y5.2.2.2.1; have p5_2 := y5.2.2.2.2.1; have q5_2 := y5.2.2.2.2.2.1; have p5_3 := y5.2.2.2.2.2.2.1; have q5_3 := y5.2.2.2.2.2.2.2; clear y5
          have ys_x_40 := TQ.st (M.out.1); have st_x_40 := ys_x_40.1; have st_x_41 := ys_x_40.2.1; have st_x_42 := ys_x_40.2.2.1; have st_x_43 := ys_x_40.2.2.2; clear ys_x_40
          go_simp
          clear p5_0 q5_0 p5_1 q5_1 p5_2 q5_2 p5_3 q5_3 st_x_40 st_x_41 st_x_42 st_x_43
          obtain ⟨w15, hv⟩ : ∃ w_ : World, w_ = ((((w14.setCell ⟨w12.heap.size, 0, none⟩ (x_40)).setCell ⟨w12.heap.size, 1, none⟩ (x_41)).setCell ⟨w12.heap.size, 2, none⟩ (x_42)).setCell ⟨w12.heap.size, 3, none⟩ (x_43)) := ⟨_, rfl⟩
          rw [← hv]
          have og : w14.grownBy w15 (some w12.heap.size) := by rw [hv]; exact (only_setCell (only_setCell (only_setCell (only_setCell (World.grownBy.refl _ _) _) _) _) _)
          have hz : w.heap.size ≤ w12.heap.size := by omega
          have hk : Bx w15 w12.heap.size 29 #[x_40, x_41, x_42, x_43] := by rw [hv]; exact (((((M.out.2.1).set 0 _).set 1 _).set 2 _).set 3 _)
          have hbw : Below w.heap.size w w15 := by rw [hv]; exact (Below.setCell (Below.setCell (Below.setCell (Below.setCell (M.out.2.2.2.2.2.2.2.2.2.2) (by omega) _) (by omega) _) (by omega) _) (by omega) _)
          replace M := Lib.hid (And.intro ((M.out.1).far (M.out.2.1) (by rfl) (by omega) og) (And.intro hk (And.intro ((M.out.2.2.1).only og (by omega)) (And.intro ((M.out.2.2.2.1).far (M.out.2.1) (by rfl) (by omega) og) (And.intro ((M.out.2.2.2.2.1).only og (Bx.ne_ty (M.out.2.2.2.2.1).bx (M.out.2.1) (by rfl))) (And.intro ((M.out.2.2.2.2.2.1).far (M.out.2.1) (by rfl) (by omega) og) (And.intro ((M.out.2.2.2.2.2.2.1).far (M.out.2.1) (by rfl) (by omega) og) (And.intro ((M.out.2.2.2.2.2.2.2.1).only og (by omega)) (And.intro ((M.out.2.2.2.2.2.2.2.2.1).far (M.out.2.1) (by rfl) (by omega) og) (And.intro ((M.out.2.2.2.2.2.2.2.2.2.1).only og (by omega)) hbw))))))))))
          clear hk hbw og hv hz
          refine hK.out _ _ (⟨((M.out.2.2.2.2.1).at 0 (show 0 < 5 by omega)).1, ((M.out.2.2.2.2.1).at 1 (show 1 < 5 by omega)).1, ((M.out.2.2.2.2.1).at 2 (show 2 < 5 by omega)).1, ((M.out.2.2.2.2.1).at 3 (show 3 < 5 by omega)).1, ((M.out.2.2.2.2.1).at 4 (show 4 < 5 by omega)).1, (M.out.2.2.1).at.1 0, (M.out.2.2.1).at.1 1, (M.out.2.2.1).at.1 2, (M.out.2.2.1).at.1 3⟩) (fun hH47 => ?_)
          clear hK K hH46
          (try simp only [Act.put, List.setIfInBounds_toArray, List.set_cons_zero, List.set_cons_succ])
          refine tk at11 ?_
          refine wpAnyH_done (by kernel_rfl) ?_ _
          clear hH47
          go_wp2_with fail
          go_meet
          exact ⟨w12.heap.size, x_40, x_41, x_42, x_43, q44, rfl, rfl, Eq44, Sq44, (by omega), (M.out.2.1), (M.out.1), (M.out.2.2.2.1), (M.out.2.2.2.2.2.1), (M.out.2.2.2.2.2.2.1), (M.out.2.2.2.2.2.2.2.2.1), (M.out.2.2.2.2.2.2.2.2.2.1), (M.out.2.2.2.2.2.2.2.1), (M.out.2.2.2.2.1), (M.out.2.2.1), (M.out.2.2.2.2.2.2.2.2.2.2)⟩
        case rest =>
          obtain ⟨A28, x_22, x_23, x_24, x_25, q26, rfl, rfl, Eq26, Sq26, oA28, M⟩ := hcut
          obtain ⟨w12, rfl⟩ : ∃ w_ : World, w_ = wc := ⟨_, rfl⟩
          have y2 := (M.out.2.2.2.2.2.2.2.1).d4; have p2_0 := y2.1; have p2_1 := y2.2.1; have p2_2 := y2.2.2.1; have p2_3 := y2.2.2.2; clear y2
          have y5 := (M.out.1).d4; have p5_0 := y5.1; have p5_1 := y5.2.1; have p5_2 := y5.2.2.1; have p5_3 := y5.2.2.2; clear y5
          go_wp2_with fail
          clear p2_0 p2_1 p2_2 p2_3 p5_0 p5_1 p5_2 p5_3
          obtain ⟨q52, eq52⟩ : ∃ v_ : Rat, v_ = (gq + q26) := ⟨_, rfl⟩
          refine (fqAdd (G := G) (q := gq) (r := q26) (M.out.2.2.2.2.2.1) (M.out.2.1) (Fz.mono HSg.out (by omega)) (Fz.mono Sq26.out (by omega))).mono ?_
          rintro e w13 ⟨x_48, x_49, x_50, x_51, rfl, hd53, hb⟩
          rw [← eq52] at hd53
          have Sq52 : Hid (Fz q52 20100002006) := by show Fz q52 20100002006; rw [eq52]; exact (Fz.add HSg.out Sq26.out)
          have Eq52 := Lib.hid eq52; clear eq52
          replace M := Lib.hid (And.intro hd53 (Goes.go M.out hb))
          clear hb hd53
          have y2 := (M.out.2.2.2.2.2.2.2.2.1).c4; have p2_0 := y2.1; have q2_0 := y2.2.1; have p2_1 := y2.2.2.1; have q2_1 := y2.2.2.2.1; have p2_2 := y2.2.2.2.2.1; have q2_2 := y2.2.2.2.2.2.1; have p2_3 := y2.2.2.2.2.2.2.1; have q2_3 := y2.2.2.2.2.2.2.2; clear y2
          have ys_x_48 := TQ.st (M.out.1); have st_x_48 := ys_x_48.1; have st_x_49 := ys_x_48.2.1; have st_x_50 := ys_x_48.2.2.1; have st_x_51 := ys_x_48.2.2.2; clear ys_x_48
          go_wp2_with fail
          clear p2_0 q2_0 p2_1 q2_1 p2_2 q2_2 p2_3 q2_3 st_x_48 st_x_49 st_x_50 st_x_51
          obtain ⟨w14, hv⟩ : ∃ w_ : World, w_ = ((((w13.setCell ⟨w7.heap.size, 0, none⟩ (x_48)).setCell ⟨w7.heap.size, 1, none⟩ (x_49)).setCell ⟨w7.heap.size, 2, none⟩ (x_50)).setCell ⟨w7.heap.size, 3, none⟩ (x_51)) := ⟨_, rfl⟩
          rw [← hv]
          have og : w13.grownBy w14 (some w7.heap.size) := by rw [hv]; exact (only_setCell (only_setCell (only_setCell (only_setCell (World.grownBy.refl _ _) _) _) _) _)
          have hz : w.heap.size ≤ w7.heap.size := by omega
          have hk : Bx w14 w7.heap.size 29 #[x_48, x_49, x_50, x_51] := by rw [hv]; exact (((((M.out.2.2.2.2.2.2.2.2.1).set 0 _).set 1 _).set 2 _).set 3 _)
          have hbw : Below w.heap.size w w14 := by rw [hv]; exact (Below.setCell (Below.setCell (Below.setCell (Below.setCell (M.out.2.2.2.2.2.2.2.2.2.2.2) (by omega) _) (by omega) _) (by omega) _) (by omega) _)
          replace M := Lib.hid (And.intro ((M.out.1).far (M.out.2.2.2.2.2.2.2.2.1) (by rfl) (by omega) og) (And.intro ((M.out.2.1).only og (by omega)) (And.intro ((M.out.2.2.1).far (M.out.2.2.2.2.2.2.2.2.1) (by rfl) (by omega) og) (And.intro ((M.out.2.2.2.1).far (M.out.2.2.2.2.2.2.2.2.1) (by rfl) (by omega) og) (And.intro ((M.out.2.2.2.2.1).far (M.out.2.2.2.2.2.2.2.2.1) (by rfl) (by omega) og) (And.intro ((M.out.2.2.2.2.2.1).far (M.out.2.2.2.2.2.2.2.2.1) (by rfl) (by omega) og) (And.intro ((M.out.2.2.2.2.2.2.1).far (M.out.2.2.2.2.2.2.2.2.1) (by rfl) (by omega) og) (And.intro ((M.out.2.2.2.2.2.2.2.1).only og (by omega)) (And.intro hk (And.intro ((M.out.2.2.2.2.2.2.2.2.2.1).only og (Bx.ne_ty (M.out.2.2.2.2.2.2.2.2.2.1).bx (M.out.2.2.2.2.2.2.2.2.1) (by rfl))) (And.intro ((M.out.2.2.2.2.2.2.2.2.2.2.1).only og (by omega)) hbw)))))))))))
          clear hk hbw og hv hz
          obtain ⟨w15, hv⟩ : ∃ w_ : World, w_ = w14.drew := ⟨_, rfl⟩
          replace M := Lib.hid (Goes.go M.out (hv ▸ below_drew _ : Below w14.heap.size w14 w15))
          refine wp_region_held_drew (S := (fun w' => w'.cell? ⟨A28, 0, none⟩ = some (x_22) ∧ w'.cell? ⟨A28, 1, none⟩ = some (x_23) ∧ w'.cell? ⟨A28, 2, none⟩ = some (x_24) ∧ w'.cell? ⟨A28, 3, none⟩ = some (x_25))) (by kernel_rfl) (by rw [← hv]; exact ⟨(M.out.2.1).at.1 0, (M.out.2.1).at.1 1, (M.out.2.1).at.1 2, (M.out.2.1).at.1 3⟩) (fun hH60 => ?_)
          rw [← hv] at hH60 ⊢
          clear hv
          refine tk at0 ?_
          refine tk at1 ?_
          refine tk at2 ?_
          refine tk at3 ?_
          refine tk at5 ?_
          refine wpAnyH_ready (rs := [4]) (by kernel_rfl) (by simp) ?_
          refine AllReadyH.cons at4 (fun K hK => ?_) AllReadyH.nil
          have y3 := (M.out.2.2.2.2.2.2.2.2.2.1).d5; have p3_0 := y3.1; have p3_1 := y3.2.1; have p3_2 := y3.2.2.1; have p3_3 := y3.2.2.2.1; have p3_4 := y3.2.2.2.2; clear y3
          go_simp
          clear p3_0 p3_1 p3_2 p3_3 p3_4
          refine hK.out _ _ (⟨(M.out.2.1).at.1 0, (M.out.2.1).at.1 1, (M.out.2.1).at.1 2, (M.out.2.1).at.1 3⟩) (fun hH61 => ?_)
          clear hK K hH60
          (try simp only [Act.put, List.setIfInBounds_toArray, List.set_cons_zero, List.set_cons_succ])
          refine wpAnyH_ready (rs := [6]) (by kernel_rfl) (by simp) ?_
          refine AllReadyH.cons at6 (fun K hK => ?_) AllReadyH.nil
          go_simp
          obtain ⟨q66, eq66⟩ : ∃ v_ : Rat, v_ = (xq - q26) := ⟨_, rfl⟩
          refine (fqSub (G := G) (q := xq) (r := q26) (M.out.2.2.2.2.1) (M.out.2.2.1) (Fz.mono HZx.out (by omega)) (Fz.mono Sq26.out (by omega))).mono ?_
          rintro e w16 ⟨x_62, x_63, x_64, x_65, rfl, hd67, hb⟩
          rw [← eq66] at hd67
          have Sq66 : Hid (Fz q66 200000005) := by show Fz q66 200000005; rw [eq66]; exact (Fz.sub HZx.out Sq26.out)
          have Eq66 := Lib.hid eq66; clear eq66
          replace M := Lib.hid (And.intro hd67 (Goes.go M.out hb))
          clear hb hd67
          (try go_wp2_with fail)
          refine hK.out _ _ (⟨(M.out.2.2.1).at.1 0, (M.out.2.2.1).at.1 1, (M.out.2.2.1).at.1 2, (M.out.2.2.1).at.1 3⟩) (fun hH68 => ?_)
          clear hK K hH61
          (try simp only [Act.put, List.setIfInBounds_toArray, List.set_cons_zero, List.set_cons_succ])
          refine tk at7 ?_
          refine tk at8 ?_
          refine tk at9 ?_
          refine tk at10 ?_
          refine tk at11 ?_
          refine wpAnyH_ready (rs := [12]) (by kernel_rfl) (by simp) ?_
          refine AllReadyH.cons at12 (fun K hK => ?_) AllReadyH.nil
          have y3 := (M.out.2.2.2.2.2.2.2.2.2.2.1).c5; have p3_0 := y3.1; have q3_0 := y3.2.1; have p3_1 := y3.2.2.1; have q3_1 := y3.2.2.2.1; have p3_2 := y3.2.2.2.2.1; have q3_2 := y3.2.2.2.2.2.1; have p3_3 := y3.2.2.2.2.2.2.1; have q3_3 := y3.2.2.2.2.2.2.2.1; have p3_4 := y3.2.2.2.2.2.2.2.2.1; have q3_4 := y3.2.2.2.2.2.2.2.2.2; clear y3
          have ys_x_62 := TQ.st (M.out.1); have st_x_62 := ys_x_62.1; have st_x_63 := ys_x_62.2.1; have st_x_64 := ys_x_62.2.2.1; have st_x_65 := ys_x_62.2.2.2; clear ys_x_62
          go_simp
          clear p3_0 q3_0 p3_1 q3_1 p3_2 q3_2 p3_3 q3_3 p3_4 q3_4 st_x_62 st_x_63 st_x_64 st_x_65
          obtain ⟨w17, hv⟩ : ∃ w_ : World, w_ = ((((w16.setCell ⟨g, o + 1, none⟩ (x_62)).setCell ⟨g, o + 2, none⟩ (x_63)).setCell ⟨g, o + 3, none⟩ (x_64)).setCell ⟨g, o + 4, none⟩ (x_65)) := ⟨_, rfl⟩
          rw [← hv]
          have og : w16.grownBy w17 (some g) := by rw [hv]; exact (only_setCell (only_setCell (only_setCell (only_setCell (World.grownBy.refl _ _) _) _) _) _)
          have hz : w.heap.size ≤ g := by omega
          have hk : Bo w17 g o P_ R_ 48 [.int .i64 xn, x_62, x_63, x_64, x_65] := by rw [hv]; exact (((((M.out.2.2.2.2.2.2.2.2.2.2.1).set 1 (show 1 < 5 by omega) _).set 2 (show 2 < 5 by omega) _).set 3 (show 3 < 5 by omega) _).set 4 (show 4 < 5 by omega) _)
          have hbw : Below w.heap.size w w17 := by rw [hv]; exact (Below.setCell (Below.setCell (Below.setCell (Below.setCell (M.out.2.2.2.2.2.2.2.2.2.2.2.2) (by omega) _) (by omega) _) (by omega) _) (by omega) _)
          replace M := Lib.hid (And.intro ((M.out.1).far (M.out.2.2.2.2.2.2.2.2.2.2.1).bx (by rfl) (by omega) og) (And.intro ((M.out.2.1).far (M.out.2.2.2.2.2.2.2.2.2.2.1).bx (by rfl) (by omega) og) (And.intro ((M.out.2.2.1).only og (Bx.ne_ty (M.out.2.2.1) (M.out.2.2.2.2.2.2.2.2.2.2.1).bx (by rfl))) (And.intro ((M.out.2.2.2.1).far (M.out.2.2.2.2.2.2.2.2.2.2.1).bx (by rfl) (by omega) og) (And.intro ((M.out.2.2.2.2.1).far (M.out.2.2.2.2.2.2.2.2.2.2.1).bx (by rfl) (by omega) og) (And.intro ((M.out.2.2.2.2.2.1).far (M.out.2.2.2.2.2.2.2.2.2.2.1).bx (by rfl) (by omega) og) (And.intro ((M.out.2.2.2.2.2.2.1).far (M.out.2.2.2.2.2.2.2.2.2.2.1).bx (by rfl) (by omega) og) (And.intro ((M.out.2.2.2.2.2.2.2.1).far (M.out.2.2.2.2.2.2.2.2.2.2.1).bx (by rfl) (by omega) og) (And.intro ((M.out.2.2.2.2.2.2.2.2.1).only og (Bx.ne_ty (M.out.2.2.2.2.2.2.2.2.1) (M.out.2.2.2.2.2.2.2.2.2.2.1).bx (by rfl))) (And.intro ((M.out.2.2.2.2.2.2.2.2.2.1).only og (Bx.ne_ty (M.out.2.2.2.2.2.2.2.2.2.1) (M.out.2.2.2.2.2.2.2.2.2.2.1).bx (by rfl))) (And.intro hk (And.intro ((M.out.2.2.2.2.2.2.2.2.2.2.2.1).only og (Bx.ne_ty (M.out.2.2.2.2.2.2.2.2.2.2.2.1) (M.out.2.2.2.2.2.2.2.2.2.2.1).bx (by rfl))) hbw))))))))))))
          clear hk hbw og hv hz
          refine hK.out _ _ (⟨(M.out.2.2.1).at.1 0, (M.out.2.2.1).at.1 1, (M.out.2.2.1).at.1 2, (M.out.2.2.1).at.1 3⟩) (fun hH69 => ?_)
          clear hK K hH68
          (try simp only [Act.put, List.setIfInBounds_toArray, List.set_cons_zero, List.set_cons_succ])
          refine wpAnyH_done (by kernel_rfl) ?_ _
          clear hH69
          have y3 := (M.out.2.2.2.2.2.2.2.2.2.2.1).c5; have p3_0 := y3.1; have q3_0 := y3.2.1; have p3_1 := y3.2.2.1; have q3_1 := y3.2.2.2.1; have p3_2 := y3.2.2.2.2.1; have q3_2 := y3.2.2.2.2.2.1; have p3_3 := y3.2.2.2.2.2.2.1; have q3_3 := y3.2.2.2.2.2.2.2.1; have p3_4 := y3.2.2.2.2.2.2.2.2.1; have q3_4 := y3.2.2.2.2.2.2.2.2.2; clear y3
          go_upto_region 23 with fail
          clear p3_0 q3_0 p3_1 q3_1 p3_2 q3_2 p3_3 q3_3 p3_4 q3_4
          obtain ⟨w18, hv⟩ : ∃ w_ : World, w_ = (w17.setCell ⟨g, o, none⟩ (.int .i64 0)) := ⟨_, rfl⟩
          rw [← hv]
          have og : w17.grownBy w18 (some g) := by rw [hv]; exact (only_setCell (World.grownBy.refl _ _) _)
          have hz : w.heap.size ≤ g := by omega
          have hk : Bo w18 g o P_ R_ 48 [.int .i64 0, x_62, x_63, x_64, x_65] := by rw [hv]; exact ((M.out.2.2.2.2.2.2.2.2.2.2.1).set 0 (show 0 < 5 by omega) _)
          have hbw : Below w.heap.size w w18 := by rw [hv]; exact (Below.setCell (M.out.2.2.2.2.2.2.2.2.2.2.2.2) (by omega) _)
          replace M := Lib.hid (And.intro ((M.out.1).far (M.out.2.2.2.2.2.2.2.2.2.2.1).bx (by rfl) (by omega) og) (And.intro ((M.out.2.1).far (M.out.2.2.2.2.2.2.2.2.2.2.1).bx (by rfl) (by omega) og) (And.intro ((M.out.2.2.1).only og (Bx.ne_ty (M.out.2.2.1) (M.out.2.2.2.2.2.2.2.2.2.2.1).bx (by rfl))) (And.intro ((M.out.2.2.2.1).far (M.out.2.2.2.2.2.2.2.2.2.2.1).bx (by rfl) (by omega) og) (And.intro ((M.out.2.2.2.2.1).far (M.out.2.2.2.2.2.2.2.2.2.2.1).bx (by rfl) (by omega) og) (And.intro ((M.out.2.2.2.2.2.1).far (M.out.2.2.2.2.2.2.2.2.2.2.1).bx (by rfl) (by omega) og) (And.intro ((M.out.2.2.2.2.2.2.1).far (M.out.2.2.2.2.2.2.2.2.2.2.1).bx (by rfl) (by omega) og) (And.intro ((M.out.2.2.2.2.2.2.2.1).far (M.out.2.2.2.2.2.2.2.2.2.2.1).bx (by rfl) (by omega) og) (And.intro ((M.out.2.2.2.2.2.2.2.2.1).only og (Bx.ne_ty (M.out.2.2.2.2.2.2.2.2.1) (M.out.2.2.2.2.2.2.2.2.2.2.1).bx (by rfl))) (And.intro ((M.out.2.2.2.2.2.2.2.2.2.1).only og (Bx.ne_ty (M.out.2.2.2.2.2.2.2.2.2.1) (M.out.2.2.2.2.2.2.2.2.2.2.1).bx (by rfl))) (And.intro hk (And.intro ((M.out.2.2.2.2.2.2.2.2.2.2.2.1).only og (Bx.ne_ty (M.out.2.2.2.2.2.2.2.2.2.2.2.1) (M.out.2.2.2.2.2.2.2.2.2.2.1).bx (by rfl))) hbw))))))))))))
          clear hk hbw og hv hz
          have y3 := (M.out.2.2.2.2.2.2.2.2.2.2.1).d5; have p3_0 := y3.1; have p3_1 := y3.2.1; have p3_2 := y3.2.2.1; have p3_3 := y3.2.2.2.1; have p3_4 := y3.2.2.2.2; clear y3
          go_wp2_with fail
          clear p3_0 p3_1 p3_2 p3_3 p3_4
          go_roundw
          case rel => exact ⟨g, o, [], 0, 0, (am - xn), q52, (m + 1), x_48, x_49, x_50, x_51, rfl, by go_num, (Lib.hid rfl), (by show _ ∧ _; omega), (by show _ ∧ _; have h_ : sumN (([] : List LC).map LC.ly) = 0 := rfl; omega), HN2, (Lib.hid (HZr.out.mono (by omega))), (Lib.hid (fun _ => HZr.out)), (Lib.hid (by rw [← HD1.out, map_ly]; exact (congrArg Prod.fst HD.out).symm)), (Lib.hid (by rw [Eq52.out, Eq26.out, ← HSQ.out]; rw [← HD2.out, map_ly]; have h_ := congrArg Prod.snd HD.out; dsimp only at h_; rw [show drawF (LC.ly ⟨xn, xu0, xu1, xu2, xu3, xq⟩ :: _) am = _ from HD.out]; dsimp only; rw [Rat.add_assoc])), (Lib.hid (by rw [Eq52.out, Eq26.out, ← HSQ.out]; rw [HSQ.out]; exact ((HGQ.out.add (HZx.out.mul HSZ.out)).mono (by omega)))), (by show _ ∧ _; have h_ := HMM.out.2 h0; exact ⟨by omega, fun _ => by omega⟩), Lib.hid (And.intro (M.out.2.2.2.2.2.2.2.2.2.1) (And.intro (OwB.stay (HCL.out _ _ _ _ _ _ _ (M.out.2.2.2.2.2.2.2.2.2.2.1) (M.out.1) (M.out.2.2.2.2.2.2.1))) (And.intro (M.out.2.1) (And.intro (M.out.2.2.2.2.2.2.2.2.1) (M.out.2.2.2.2.2.2.2.2.2.2.2.2)))))⟩
          case measure => simp [RowKit.intOf] <;> omega
      ·
        obtain ⟨hw, hc1⟩ := hw
        have hm1 : min am xn = xn := by omega
        obtain ⟨sq, hsq⟩ : ∃ q, Rat.divInt xn xn = q := ⟨_, rfl⟩
        have HSZ : Hid (Fz sq 4) := by show Fz _ _; rw [← hsq]; exact Fz.of64 (by omega) (by omega) (by omega)
        have HSQ := Lib.hid hsq; clear hsq
        have hsx : xn - xn = 0 := by omega
        have HD := Lib.hid (draw_A (x := ⟨xn, xq⟩) (r := r2.map LC.ly) hx1 h0 hw)
        have hc2 : ¬ 1 = cc := by omega
        have y3 := (M.out.1).d5; have p3_0 := y3.1; have p3_1 := y3.2.1; have p3_2 := y3.2.2.1; have p3_3 := y3.2.2.2.1; have p3_4 := y3.2.2.2.2; clear y3
        go_wp2_with fail
        clear p3_0 p3_1 p3_2 p3_3 p3_4
        refine (fqOf (G := G) (x := xn) (y := xn) (q := sq) (Nat.le_trans hG (M.out.2.2.2.2.2.2).size) (by omega) (by omega) (by omega) HSQ.out).mono ?_
        rintro e w10 ⟨x_70, x_71, x_72, x_73, rfl, hd74, hb⟩
        replace M := Lib.hid (And.intro hd74 (Goes.go M.out hb))
        clear hb hd74
        have ys_x_70 := TQ.st (M.out.1); have st_x_70 := ys_x_70.1; have st_x_71 := ys_x_70.2.1; have st_x_72 := ys_x_70.2.2.1; have st_x_73 := ys_x_70.2.2.2; clear ys_x_70
        go_upto_region 19 with fail
        clear st_x_70 st_x_71 st_x_72 st_x_73
        obtain ⟨w11, hv⟩ : ∃ w_ : World, w_ = (w10.alloc (.cells #[x_70, x_71, x_72, x_73] 29)) := ⟨_, rfl⟩
        rw [← hv]
        have ow4_ : w7.heap.size < w10.heap.size := ((M.out.2.2.2.2.1)).lt
        replace M := Lib.hid (And.intro (hv ▸ bx1 w10 29 #[x_70, x_71, x_72, x_73]) (Goes.go M.out (hv ▸ below_alloc _ _ : Below w10.heap.size w10 w11)))
        clear hv
        go_cut [16, 17] (fun s16 s17 wx => ∃ (A81 : Nat), ∃ (x_75 : Value), ∃ (x_76 : Value), ∃ (x_77 : Value), ∃ (x_78 : Value), ∃ (q79 : Rat), s16 = .pointer (some ⟨A81, 0, none⟩) ∧ s17 = .int .i64 0 ∧ Hid (q79 = (xq * sq)) ∧ Hid (Fz q79 100000004) ∧ w10.heap.size < A81 ∧ Hid (Bx wx A81 29 #[x_75, x_76, x_77, x_78] ∧ FQ G wx x_75 x_76 x_77 x_78 q79 ∧ FQ G wx x_70 x_71 x_72 x_73 sq ∧ FQ G wx xu0 xu1 xu2 xu3 xq ∧ Oks G wx r2 ∧ FQ G wx g0 g1 g2 g3 gq ∧ Bx wx w.heap.size 29 #[.int .i64 0, .slice none 0 0, .int .i64 0, .slice none 0 0] ∧ Bx wx w7.heap.size 29 #[g0, g1, g2, g3] ∧ Bo wx g o P_ R_ 48 [.int .i64 xn, xu0, xu1, xu2, xu3] ∧ Bx wx w10.heap.size 29 #[x_70, x_71, x_72, x_73] ∧ Below w.heap.size w wx))
        case first =>
          obtain ⟨w12, hv⟩ : ∃ w_ : World, w_ = w11.drew := ⟨_, rfl⟩
          replace M := Lib.hid (Goes.go M.out (hv ▸ below_drew _ : Below w11.heap.size w11 w12))
          refine wp_region_held_drew (S := (fun w' => w'.cell? ⟨g, o, none⟩ = some (.int .i64 xn) ∧ w'.cell? ⟨g, o + 1, none⟩ = some (xu0) ∧ w'.cell? ⟨g, o + 2, none⟩ = some (xu1) ∧ w'.cell? ⟨g, o + 3, none⟩ = some (xu2) ∧ w'.cell? ⟨g, o + 4, none⟩ = some (xu3) ∧ w'.cell? ⟨w10.heap.size, 0, none⟩ = some (x_70) ∧ w'.cell? ⟨w10.heap.size, 1, none⟩ = some (x_71) ∧ w'.cell? ⟨w10.heap.size, 2, none⟩ = some (x_72) ∧ w'.cell? ⟨w10.heap.size, 3, none⟩ = some (x_73))) (by kernel_rfl) (by rw [← hv]; exact ⟨((M.out.2.2.1).at 0 (show 0 < 5 by omega)).1, ((M.out.2.2.1).at 1 (show 1 < 5 by omega)).1, ((M.out.2.2.1).at 2 (show 2 < 5 by omega)).1, ((M.out.2.2.1).at 3 (show 3 < 5 by omega)).1, ((M.out.2.2.1).at 4 (show 4 < 5 by omega)).1, (M.out.1).at.1 0, (M.out.1).at.1 1, (M.out.1).at.1 2, (M.out.1).at.1 3⟩) (fun hH82 => ?_)
          rw [← hv] at hH82 ⊢
          clear hv
          refine tk at0 ?_
          refine tk at1 ?_
          refine tk at2 ?_
          refine tk at3 ?_
          refine tk at4 ?_
          refine wpAnyH_ready (rs := [5, 9]) (by kernel_rfl) (by simp) ?_
          refine AllReadyH.cons at5 (fun K hK => ?_) ?_
          ·
            go_simp
            obtain ⟨q87, eq87⟩ : ∃ v_ : Rat, v_ = (xq * sq) := ⟨_, rfl⟩
            refine (fqMul (G := G) (q := xq) (r := sq) (Nat.le_trans hG (M.out.2.2.2.2.2.2.2.2).size) (M.out.2.2.2.1) (M.out.2.1) (Fz.mono HZx.out (by omega)) (Fz.mono HSZ.out (by omega))).mono ?_
            rintro e w13 ⟨x_83, x_84, x_85, x_86, rfl, hd88, hb⟩
            rw [← eq87] at hd88
            have Sq87 : Hid (Fz q87 100000004) := by show Fz q87 100000004; rw [eq87]; exact (Fz.mul HZx.out HSZ.out)
            have Eq87 := Lib.hid eq87; clear eq87
            replace M := Lib.hid (And.intro hd88 (Goes.go M.out hb))
            clear hb hd88
            (try go_wp2_with fail)
            refine hK.out _ _ (⟨((M.out.2.2.2.1).at 0 (show 0 < 5 by omega)).1, ((M.out.2.2.2.1).at 1 (show 1 < 5 by omega)).1, ((M.out.2.2.2.1).at 2 (show 2 < 5 by omega)).1, ((M.out.2.2.2.1).at 3 (show 3 < 5 by omega)).1, ((M.out.2.2.2.1).at 4 (show 4 < 5 by omega)).1, (M.out.2.1).at.1 0, (M.out.2.1).at.1 1, (M.out.2.1).at.1 2, (M.out.2.1).at.1 3⟩) (fun hH89 => ?_)
            clear hK K hH82
            (try simp only [Act.put, List.setIfInBounds_toArray, List.set_cons_zero, List.set_cons_succ])
            refine tk at6 ?_
            refine tk at7 ?_
            refine tk at8 ?_
            refine wpAnyH_ready (rs := [9]) (by kernel_rfl) (by simp) ?_
            refine AllReadyH.cons at9 (fun K hK => ?_) AllReadyH.nil
            go_simp
            obtain ⟨w14, hv⟩ : ∃ w_ : World, w_ = (w13.alloc (.cells #[.int .i64 0, .slice none 0 0, .int .i64 0, .slice none 0 0] 29)) := ⟨_, rfl⟩
            rw [← hv]
            have ow5_ : w10.heap.size < w13.heap.size := ((M.out.2.1)).lt
            replace M := Lib.hid (And.intro (hv ▸ bx1 w13 29 #[.int .i64 0, .slice none 0 0, .int .i64 0, .slice none 0 0]) (Goes.go M.out (hv ▸ below_alloc _ _ : Below w13.heap.size w13 w14)))
            clear hv
            refine hK.out _ _ (⟨((M.out.2.2.2.2.1).at 0 (show 0 < 5 by omega)).1, ((M.out.2.2.2.2.1).at 1 (show 1 < 5 by omega)).1, ((M.out.2.2.2.2.1).at 2 (show 2 < 5 by omega)).1, ((M.out.2.2.2.2.1).at 3 (show 3 < 5 by omega)).1, ((M.out.2.2.2.2.1).at 4 (show 4 < 5 by omega)).1, (M.out.2.2.1).at.1 0, (M.out.2.2.1).at.1 1, (M.out.2.2.1).at.1 2, (M.out.2.2.1).at.1 3⟩) (fun hH90 => ?_)
            clear hK K hH89
            (try simp only [Act.put, List.setIfInBounds_toArray, List.set_cons_zero, List.set_cons_succ])
            refine wpAnyH_ready (rs := [10]) (by kernel_rfl) (by simp) ?_
            refine AllReadyH.cons at10 (fun K hK => ?_) AllReadyH.nil
            have y5 := (M.out.1).c4; have p5_0 := y5.1; have q5_0 := y5.2.1; have p5_1 := y5.2.2.1; have q5_1 := y5.2.2.2.1; have p5_2 := y5.2.2.2.2.1; have q5_2 := y5.2.2.2.2.2.1; have p5_3 := y5.2.2.2.2.2.2.1; have q5_3 := y5.2.2.2.2.2.2.2; clear y5
            have ys_x_83 := TQ.st (M.out.2.1); have st_x_83 := ys_x_83.1; have st_x_84 := ys_x_83.2.1; have st_x_85 := ys_x_83.2.2.1; have st_x_86 := ys_x_83.2.2.2; clear ys_x_83
            go_simp
            clear p5_0 q5_0 p5_1 q5_1 p5_2 q5_2 p5_3 q5_3 st_x_83 st_x_84 st_x_85 st_x_86
            obtain ⟨w15, hv⟩ : ∃ w_ : World, w_ = ((((w14.setCell ⟨w13.heap.size, 0, none⟩ (x_83)).setCell ⟨w13.heap.size, 1, none⟩ (x_84)).setCell ⟨w13.heap.size, 2, none⟩ (x_85)).setCell ⟨w13.heap.size, 3, none⟩ (x_86)) := ⟨_, rfl⟩
            rw [← hv]
            have og : w14.grownBy w15 (some w13.heap.size) := by rw [hv]; exact (only_setCell (only_setCell (only_setCell (only_setCell (World.grownBy.refl _ _) _) _) _) _)
            have hz : w.heap.size ≤ w13.heap.size := by omega
            have hk : Bx w15 w13.heap.size 29 #[x_83, x_84, x_85, x_86] := by rw [hv]; exact (((((M.out.1).set 0 _).set 1 _).set 2 _).set 3 _)
            have hbw : Below w.heap.size w w15 := by rw [hv]; exact (Below.setCell (Below.setCell (Below.setCell (Below.setCell (M.out.2.2.2.2.2.2.2.2.2.2) (by omega) _) (by omega) _) (by omega) _) (by omega) _)
            replace M := Lib.hid (And.intro hk (And.intro ((M.out.2.1).far (M.out.1) (by rfl) (by omega) og) (And.intro ((M.out.2.2.1).only og (by omega)) (And.intro ((M.out.2.2.2.1).far (M.out.1) (by rfl) (by omega) og) (And.intro ((M.out.2.2.2.2.1).only og (Bx.ne_ty (M.out.2.2.2.2.1).bx (M.out.1) (by rfl))) (And.intro ((M.out.2.2.2.2.2.1).far (M.out.1) (by rfl) (by omega) og) (And.intro ((M.out.2.2.2.2.2.2.1).far (M.out.1) (by rfl) (by omega) og) (And.intro ((M.out.2.2.2.2.2.2.2.1).only og (by omega)) (And.intro ((M.out.2.2.2.2.2.2.2.2.1).far (M.out.1) (by rfl) (by omega) og) (And.intro ((M.out.2.2.2.2.2.2.2.2.2.1).only og (by omega)) hbw))))))))))
            clear hk hbw og hv hz
            refine hK.out _ _ (⟨((M.out.2.2.2.2.1).at 0 (show 0 < 5 by omega)).1, ((M.out.2.2.2.2.1).at 1 (show 1 < 5 by omega)).1, ((M.out.2.2.2.2.1).at 2 (show 2 < 5 by omega)).1, ((M.out.2.2.2.2.1).at 3 (show 3 < 5 by omega)).1, ((M.out.2.2.2.2.1).at 4 (show 4 < 5 by omega)).1, (M.out.2.2.1).at.1 0, (M.out.2.2.1).at.1 1, (M.out.2.2.1).at.1 2, (M.out.2.2.1).at.1 3⟩) (fun hH91 => ?_)
            clear hK K hH90
            (try simp only [Act.put, List.setIfInBounds_toArray, List.set_cons_zero, List.set_cons_succ])
            refine tk at11 ?_
            refine wpAnyH_done (by kernel_rfl) ?_ _
            clear hH91
            go_wp2_with fail
            go_meet
            exact ⟨w13.heap.size, x_83, x_84, x_85, x_86, q87, rfl, rfl, Eq87, Sq87, (by omega), (M.out.1), (M.out.2.1), (M.out.2.2.2.1), (M.out.2.2.2.2.2.1), (M.out.2.2.2.2.2.2.1), (M.out.2.2.2.2.2.2.2.2.1), (M.out.2.2.2.2.2.2.2.2.2.1), (M.out.2.2.2.2.2.2.2.1), (M.out.2.2.2.2.1), (M.out.2.2.1), (M.out.2.2.2.2.2.2.2.2.2.2)⟩
          refine AllReadyH.cons at9 (fun K hK => ?_) AllReadyH.nil
          go_simp
          obtain ⟨w13, hv⟩ : ∃ w_ : World, w_ = (w12.alloc (.cells #[.int .i64 0, .slice none 0 0, .int .i64 0, .slice none 0 0] 29)) := ⟨_, rfl⟩
          rw [← hv]
          have ow5_ : w10.heap.size < w12.heap.size := ((M.out.1)).lt
          replace M := Lib.hid (And.intro (hv ▸ bx1 w12 29 #[.int .i64 0, .slice none 0 0, .int .i64 0, .slice none 0 0]) (Goes.go M.out (hv ▸ below_alloc _ _ : Below w12.heap.size w12 w13)))
          clear hv
          refine hK.out _ _ (⟨((M.out.2.2.2.1).at 0 (show 0 < 5 by omega)).1, ((M.out.2.2.2.1).at 1 (show 1 < 5 by omega)).1, ((M.out.2.2.2.1).at 2 (show 2 < 5 by omega)).1, ((M.out.2.2.2.1).at 3 (show 3 < 5 by omega)).1, ((M.out.2.2.2.1).at 4 (show 4 < 5 by omega)).1, (M.out.2.1).at.1 0, (M.out.2.1).at.1 1, (M.out.2.1).at.1 2, (M.out.2.1).at.1 3⟩) (fun hH92 => ?_)
          clear hK K hH82
          (try simp only [Act.put, List.setIfInBounds_toArray, List.set_cons_zero, List.set_cons_succ])
          refine wpAnyH_ready (rs := [5]) (by kernel_rfl) (by simp) ?_
          refine AllReadyH.cons at5 (fun K hK => ?_) AllReadyH.nil
          go_simp
          obtain ⟨q97, eq97⟩ : ∃ v_ : Rat, v_ = (xq * sq) := ⟨_, rfl⟩
          refine (fqMul (G := G) (q := xq) (r := sq) (Nat.le_trans hG (M.out.2.2.2.2.2.2.2.2.2).size) (M.out.2.2.2.2.1) (M.out.2.2.1) (Fz.mono HZx.out (by omega)) (Fz.mono HSZ.out (by omega))).mono ?_
          rintro e w14 ⟨x_93, x_94, x_95, x_96, rfl, hd98, hb⟩
          rw [← eq97] at hd98
          have Sq97 : Hid (Fz q97 100000004) := by show Fz q97 100000004; rw [eq97]; exact (Fz.mul HZx.out HSZ.out)
          have Eq97 := Lib.hid eq97; clear eq97
          replace M := Lib.hid (And.intro hd98 (Goes.go M.out hb))
          clear hb hd98
          (try go_wp2_with fail)
          refine hK.out _ _ (⟨((M.out.2.2.2.2.1).at 0 (show 0 < 5 by omega)).1, ((M.out.2.2.2.2.1).at 1 (show 1 < 5 by omega)).1, ((M.out.2.2.2.2.1).at 2 (show 2 < 5 by omega)).1, ((M.out.2.2.2.2.1).at 3 (show 3 < 5 by omega)).1, ((M.out.2.2.2.2.1).at 4 (show 4 < 5 by omega)).1, (M.out.2.2.1).at.1 0, (M.out.2.2.1).at.1 1, (M.out.2.2.1).at.1 2, (M.out.2.2.1).at.1 3⟩) (fun hH99 => ?_)
          clear hK K hH92
          (try simp only [Act.put, List.setIfInBounds_toArray, List.set_cons_zero, List.set_cons_succ])
          refine tk at6 ?_
          refine tk at7 ?_
          refine tk at8 ?_
          refine wpAnyH_ready (rs := [10]) (by kernel_rfl) (by simp) ?_
          refine AllReadyH.cons at10 (fun K hK => ?_) AllReadyH.nil
          have y5 := (M.out.2.1).c4; have p5_0 := y5.1; have q5_0 := y5.2.1; have p5_1 := y5.2.2.1; have q5_1 := y5.2.2.2.1; have p5_2 := y5.2.2.2.2.1; have q5_2 := y5.2.2.2.2.2.1; have p5_3 := y5.2.2.2.2.2.2.1; have q5_3 := y5.2.2.2.2.2.2.2; clear y5
          have ys_x_93 := TQ.st (M.out.1); have st_x_93 := ys_x_93.1; have st_x_94 := ys_x_93.2.1; have st_x_95 := ys_x_93.2.2.1; have st_x_96 := ys_x_93.2.2.2; clear ys_x_93
          go_simp
          clear p5_0 q5_0 p5_1 q5_1 p5_2 q5_2 p5_3 q5_3 st_x_93 st_x_94 st_x_95 st_x_96
          obtain ⟨w15, hv⟩ : ∃ w_ : World, w_ = ((((w14.setCell ⟨w12.heap.size, 0, none⟩ (x_93)).setCell ⟨w12.heap.size, 1, none⟩ (x_94)).setCell ⟨w12.heap.size, 2, none⟩ (x_95)).setCell ⟨w12.heap.size, 3, none⟩ (x_96)) := ⟨_, rfl⟩
          rw [← hv]
          have og : w14.grownBy w15 (some w12.heap.size) := by rw [hv]; exact (only_setCell (only_setCell (only_setCell (only_setCell (World.grownBy.refl _ _) _) _) _) _)
          have hz : w.heap.size ≤ w12.heap.size := by omega
          have hk : Bx w15 w12.heap.size 29 #[x_93, x_94, x_95, x_96] := by rw [hv]; exact (((((M.out.2.1).set 0 _).set 1 _).set 2 _).set 3 _)
          have hbw : Below w.heap.size w w15 := by rw [hv]; exact (Below.setCell (Below.setCell (Below.setCell (Below.setCell (M.out.2.2.2.2.2.2.2.2.2.2) (by omega) _) (by omega) _) (by omega) _) (by omega) _)
          replace M := Lib.hid (And.intro ((M.out.1).far (M.out.2.1) (by rfl) (by omega) og) (And.intro hk (And.intro ((M.out.2.2.1).only og (by omega)) (And.intro ((M.out.2.2.2.1).far (M.out.2.1) (by rfl) (by omega) og) (And.intro ((M.out.2.2.2.2.1).only og (Bx.ne_ty (M.out.2.2.2.2.1).bx (M.out.2.1) (by rfl))) (And.intro ((M.out.2.2.2.2.2.1).far (M.out.2.1) (by rfl) (by omega) og) (And.intro ((M.out.2.2.2.2.2.2.1).far (M.out.2.1) (by rfl) (by omega) og) (And.intro ((M.out.2.2.2.2.2.2.2.1).only og (by omega)) (And.intro ((M.out.2.2.2.2.2.2.2.2.1).far (M.out.2.1) (by rfl) (by omega) og) (And.intro ((M.out.2.2.2.2.2.2.2.2.2.1).only og (by omega)) hbw))))))))))
          clear hk hbw og hv hz
          refine hK.out _ _ (⟨((M.out.2.2.2.2.1).at 0 (show 0 < 5 by omega)).1, ((M.out.2.2.2.2.1).at 1 (show 1 < 5 by omega)).1, ((M.out.2.2.2.2.1).at 2 (show 2 < 5 by omega)).1, ((M.out.2.2.2.2.1).at 3 (show 3 < 5 by omega)).1, ((M.out.2.2.2.2.1).at 4 (show 4 < 5 by omega)).1, (M.out.2.2.1).at.1 0, (M.out.2.2.1).at.1 1, (M.out.2.2.1).at.1 2, (M.out.2.2.1).at.1 3⟩) (fun hH100 => ?_)
          clear hK K hH99
          (try simp only [Act.put, List.setIfInBounds_toArray, List.set_cons_zero, List.set_cons_succ])
          refine tk at11 ?_
          refine wpAnyH_done (by kernel_rfl) ?_ _
          clear hH100
          go_wp2_with fail
          go_meet
          exact ⟨w12.heap.size, x_93, x_94, x_95, x_96, q97, rfl, rfl, Eq97, Sq97, (by omega), (M.out.2.1), (M.out.1), (M.out.2.2.2.1), (M.out.2.2.2.2.2.1), (M.out.2.2.2.2.2.2.1), (M.out.2.2.2.2.2.2.2.2.1), (M.out.2.2.2.2.2.2.2.2.2.1), (M.out.2.2.2.2.2.2.2.1), (M.out.2.2.2.2.1), (M.out.2.2.1), (M.out.2.2.2.2.2.2.2.2.2.2)⟩
        case rest =>
          obtain ⟨A81, x_75, x_76, x_77, x_78, q79, rfl, rfl, Eq79, Sq79, oA81, M⟩ := hcut
          obtain ⟨w12, rfl⟩ : ∃ w_ : World, w_ = wc := ⟨_, rfl⟩
          have y2 := (M.out.2.2.2.2.2.2.2.1).d4; have p2_0 := y2.1; have p2_1 := y2.2.1; have p2_2 := y2.2.2.1; have p2_3 := y2.2.2.2; clear y2
          have y5 := (M.out.1).d4; have p5_0 := y5.1; have p5_1 := y5.2.1; have p5_2 := y5.2.2.1; have p5_3 := y5.2.2.2; clear y5
          go_wp2_with fail
          clear p2_0 p2_1 p2_2 p2_3 p5_0 p5_1 p5_2 p5_3
          obtain ⟨q105, eq105⟩ : ∃ v_ : Rat, v_ = (gq + q79) := ⟨_, rfl⟩
          refine (fqAdd (G := G) (q := gq) (r := q79) (M.out.2.2.2.2.2.1) (M.out.2.1) (Fz.mono HSg.out (by omega)) (Fz.mono Sq79.out (by omega))).mono ?_
          rintro e w13 ⟨x_101, x_102, x_103, x_104, rfl, hd106, hb⟩
          rw [← eq105] at hd106
          have Sq105 : Hid (Fz q105 20100002006) := by show Fz q105 20100002006; rw [eq105]; exact (Fz.add HSg.out Sq79.out)
          have Eq105 := Lib.hid eq105; clear eq105
          replace M := Lib.hid (And.intro hd106 (Goes.go M.out hb))
          clear hb hd106
          have y2 := (M.out.2.2.2.2.2.2.2.2.1).c4; have p2_0 := y2.1; have q2_0 := y2.2.1; have p2_1 := y2.2.2.1; have q2_1 := y2.2.2.2.1; have p2_2 := y2.2.2.2.2.1; have q2_2 := y2.2.2.2.2.2.1; have p2_3 := y2.2.2.2.2.2.2.1; have q2_3 := y2.2.2.2.2.2.2.2; clear y2
          have ys_x_101 := TQ.st (M.out.1); have st_x_101 := ys_x_101.1; have st_x_102 := ys_x_101.2.1; have st_x_103 := ys_x_101.2.2.1; have st_x_104 := ys_x_101.2.2.2; clear ys_x_101
          go_wp2_with fail
          clear p2_0 q2_0 p2_1 q2_1 p2_2 q2_2 p2_3 q2_3 st_x_101 st_x_102 st_x_103 st_x_104
          obtain ⟨w14, hv⟩ : ∃ w_ : World, w_ = ((((w13.setCell ⟨w7.heap.size, 0, none⟩ (x_101)).setCell ⟨w7.heap.size, 1, none⟩ (x_102)).setCell ⟨w7.heap.size, 2, none⟩ (x_103)).setCell ⟨w7.heap.size, 3, none⟩ (x_104)) := ⟨_, rfl⟩
          rw [← hv]
          have og : w13.grownBy w14 (some w7.heap.size) := by rw [hv]; exact (only_setCell (only_setCell (only_setCell (only_setCell (World.grownBy.refl _ _) _) _) _) _)
          have hz : w.heap.size ≤ w7.heap.size := by omega
          have hk : Bx w14 w7.heap.size 29 #[x_101, x_102, x_103, x_104] := by rw [hv]; exact (((((M.out.2.2.2.2.2.2.2.2.1).set 0 _).set 1 _).set 2 _).set 3 _)
          have hbw : Below w.heap.size w w14 := by rw [hv]; exact (Below.setCell (Below.setCell (Below.setCell (Below.setCell (M.out.2.2.2.2.2.2.2.2.2.2.2) (by omega) _) (by omega) _) (by omega) _) (by omega) _)
          replace M := Lib.hid (And.intro ((M.out.1).far (M.out.2.2.2.2.2.2.2.2.1) (by rfl) (by omega) og) (And.intro ((M.out.2.1).only og (by omega)) (And.intro ((M.out.2.2.1).far (M.out.2.2.2.2.2.2.2.2.1) (by rfl) (by omega) og) (And.intro ((M.out.2.2.2.1).far (M.out.2.2.2.2.2.2.2.2.1) (by rfl) (by omega) og) (And.intro ((M.out.2.2.2.2.1).far (M.out.2.2.2.2.2.2.2.2.1) (by rfl) (by omega) og) (And.intro ((M.out.2.2.2.2.2.1).far (M.out.2.2.2.2.2.2.2.2.1) (by rfl) (by omega) og) (And.intro ((M.out.2.2.2.2.2.2.1).far (M.out.2.2.2.2.2.2.2.2.1) (by rfl) (by omega) og) (And.intro ((M.out.2.2.2.2.2.2.2.1).only og (by omega)) (And.intro hk (And.intro ((M.out.2.2.2.2.2.2.2.2.2.1).only og (Bx.ne_ty (M.out.2.2.2.2.2.2.2.2.2.1).bx (M.out.2.2.2.2.2.2.2.2.1) (by rfl))) (And.intro ((M.out.2.2.2.2.2.2.2.2.2.2.1).only og (by omega)) hbw)))))))))))
          clear hk hbw og hv hz
          obtain ⟨w15, hv⟩ : ∃ w_ : World, w_ = w14.drew := ⟨_, rfl⟩
          replace M := Lib.hid (Goes.go M.out (hv ▸ below_drew _ : Below w14.heap.size w14 w15))
          refine wp_region_held_drew (S := (fun w' => w'.cell? ⟨A81, 0, none⟩ = some (x_75) ∧ w'.cell? ⟨A81, 1, none⟩ = some (x_76) ∧ w'.cell? ⟨A81, 2, none⟩ = some (x_77) ∧ w'.cell? ⟨A81, 3, none⟩ = some (x_78))) (by kernel_rfl) (by rw [← hv]; exact ⟨(M.out.2.1).at.1 0, (M.out.2.1).at.1 1, (M.out.2.1).at.1 2, (M.out.2.1).at.1 3⟩) (fun hH113 => ?_)
          rw [← hv] at hH113 ⊢
          clear hv
          refine tk at0 ?_
          refine tk at1 ?_
          refine tk at2 ?_
          refine tk at3 ?_
          refine tk at5 ?_
          refine wpAnyH_ready (rs := [4]) (by kernel_rfl) (by simp) ?_
          refine AllReadyH.cons at4 (fun K hK => ?_) AllReadyH.nil
          have y3 := (M.out.2.2.2.2.2.2.2.2.2.1).d5; have p3_0 := y3.1; have p3_1 := y3.2.1; have p3_2 := y3.2.2.1; have p3_3 := y3.2.2.2.1; have p3_4 := y3.2.2.2.2; clear y3
          go_simp
          clear p3_0 p3_1 p3_2 p3_3 p3_4
          refine hK.out _ _ (⟨(M.out.2.1).at.1 0, (M.out.2.1).at.1 1, (M.out.2.1).at.1 2, (M.out.2.1).at.1 3⟩) (fun hH114 => ?_)
          clear hK K hH113
          (try simp only [Act.put, List.setIfInBounds_toArray, List.set_cons_zero, List.set_cons_succ])
          refine wpAnyH_ready (rs := [6]) (by kernel_rfl) (by simp) ?_
          refine AllReadyH.cons at6 (fun K hK => ?_) AllReadyH.nil
          go_simp
          obtain ⟨q119, eq119⟩ : ∃ v_ : Rat, v_ = (xq - q79) := ⟨_, rfl⟩
          refine (fqSub (G := G) (q := xq) (r := q79) (M.out.2.2.2.2.1) (M.out.2.2.1) (Fz.mono HZx.out (by omega)) (Fz.mono Sq79.out (by omega))).mono ?_
          rintro e w16 ⟨x_115, x_116, x_117, x_118, rfl, hd120, hb⟩
          rw [← eq119] at hd120
          have Sq119 : Hid (Fz q119 200000005) := by show Fz q119 200000005; rw [eq119]; exact (Fz.sub HZx.out Sq79.out)
          have Eq119 := Lib.hid eq119; clear eq119
          replace M := Lib.hid (And.intro hd120 (Goes.go M.out hb))
          clear hb hd120
          (try go_wp2_with fail)
          refine hK.out _ _ (⟨(M.out.2.2.1).at.1 0, (M.out.2.2.1).at.1 1, (M.out.2.2.1).at.1 2, (M.out.2.2.1).at.1 3⟩) (fun hH121 => ?_)
          clear hK K hH114
          (try simp only [Act.put, List.setIfInBounds_toArray, List.set_cons_zero, List.set_cons_succ])
          refine tk at7 ?_
          refine tk at8 ?_
          refine tk at9 ?_
          refine tk at10 ?_
          refine tk at11 ?_
          refine wpAnyH_ready (rs := [12]) (by kernel_rfl) (by simp) ?_
          refine AllReadyH.cons at12 (fun K hK => ?_) AllReadyH.nil
          have y3 := (M.out.2.2.2.2.2.2.2.2.2.2.1).c5; have p3_0 := y3.1; have q3_0 := y3.2.1; have p3_1 := y3.2.2.1; have q3_1 := y3.2.2.2.1; have p3_2 := y3.2.2.2.2.1; have q3_2 := y3.2.2.2.2.2.1; have p3_3 := y3.2.2.2.2.2.2.1; have q3_3 := y3.2.2.2.2.2.2.2.1; have p3_4 := y3.2.2.2.2.2.2.2.2.1; have q3_4 := y3.2.2.2.2.2.2.2.2.2; clear y3
          have ys_x_115 := TQ.st (M.out.1); have st_x_115 := ys_x_115.1; have st_x_116 := ys_x_115.2.1; have st_x_117 := ys_x_115.2.2.1; have st_x_118 := ys_x_115.2.2.2; clear ys_x_115
          go_simp
          clear p3_0 q3_0 p3_1 q3_1 p3_2 q3_2 p3_3 q3_3 p3_4 q3_4 st_x_115 st_x_116 st_x_117 st_x_118
          obtain ⟨w17, hv⟩ : ∃ w_ : World, w_ = ((((w16.setCell ⟨g, o + 1, none⟩ (x_115)).setCell ⟨g, o + 2, none⟩ (x_116)).setCell ⟨g, o + 3, none⟩ (x_117)).setCell ⟨g, o + 4, none⟩ (x_118)) := ⟨_, rfl⟩
          rw [← hv]
          have og : w16.grownBy w17 (some g) := by rw [hv]; exact (only_setCell (only_setCell (only_setCell (only_setCell (World.grownBy.refl _ _) _) _) _) _)
          have hz : w.heap.size ≤ g := by omega
          have hk : Bo w17 g o P_ R_ 48 [.int .i64 xn, x_115, x_116, x_117, x_118] := by rw [hv]; exact (((((M.out.2.2.2.2.2.2.2.2.2.2.1).set 1 (show 1 < 5 by omega) _).set 2 (show 2 < 5 by omega) _).set 3 (show 3 < 5 by omega) _).set 4 (show 4 < 5 by omega) _)
          have hbw : Below w.heap.size w w17 := by rw [hv]; exact (Below.setCell (Below.setCell (Below.setCell (Below.setCell (M.out.2.2.2.2.2.2.2.2.2.2.2.2) (by omega) _) (by omega) _) (by omega) _) (by omega) _)
          replace M := Lib.hid (And.intro ((M.out.1).far (M.out.2.2.2.2.2.2.2.2.2.2.1).bx (by rfl) (by omega) og) (And.intro ((M.out.2.1).far (M.out.2.2.2.2.2.2.2.2.2.2.1).bx (by rfl) (by omega) og) (And.intro ((M.out.2.2.1).only og (Bx.ne_ty (M.out.2.2.1) (M.out.2.2.2.2.2.2.2.2.2.2.1).bx (by rfl))) (And.intro ((M.out.2.2.2.1).far (M.out.2.2.2.2.2.2.2.2.2.2.1).bx (by rfl) (by omega) og) (And.intro ((M.out.2.2.2.2.1).far (M.out.2.2.2.2.2.2.2.2.2.2.1).bx (by rfl) (by omega) og) (And.intro ((M.out.2.2.2.2.2.1).far (M.out.2.2.2.2.2.2.2.2.2.2.1).bx (by rfl) (by omega) og) (And.intro ((M.out.2.2.2.2.2.2.1).far (M.out.2.2.2.2.2.2.2.2.2.2.1).bx (by rfl) (by omega) og) (And.intro ((M.out.2.2.2.2.2.2.2.1).far (M.out.2.2.2.2.2.2.2.2.2.2.1).bx (by rfl) (by omega) og) (And.intro ((M.out.2.2.2.2.2.2.2.2.1).only og (Bx.ne_ty (M.out.2.2.2.2.2.2.2.2.1) (M.out.2.2.2.2.2.2.2.2.2.2.1).bx (by rfl))) (And.intro ((M.out.2.2.2.2.2.2.2.2.2.1).only og (Bx.ne_ty (M.out.2.2.2.2.2.2.2.2.2.1) (M.out.2.2.2.2.2.2.2.2.2.2.1).bx (by rfl))) (And.intro hk (And.intro ((M.out.2.2.2.2.2.2.2.2.2.2.2.1).only og (Bx.ne_ty (M.out.2.2.2.2.2.2.2.2.2.2.2.1) (M.out.2.2.2.2.2.2.2.2.2.2.1).bx (by rfl))) hbw))))))))))))
          clear hk hbw og hv hz
          refine hK.out _ _ (⟨(M.out.2.2.1).at.1 0, (M.out.2.2.1).at.1 1, (M.out.2.2.1).at.1 2, (M.out.2.2.1).at.1 3⟩) (fun hH122 => ?_)
          clear hK K hH121
          (try simp only [Act.put, List.setIfInBounds_toArray, List.set_cons_zero, List.set_cons_succ])
          refine wpAnyH_done (by kernel_rfl) ?_ _
          clear hH122
          have y3 := (M.out.2.2.2.2.2.2.2.2.2.2.1).c5; have p3_0 := y3.1; have q3_0 := y3.2.1; have p3_1 := y3.2.2.1; have q3_1 := y3.2.2.2.1; have p3_2 := y3.2.2.2.2.1; have q3_2 := y3.2.2.2.2.2.1; have p3_3 := y3.2.2.2.2.2.2.1; have q3_3 := y3.2.2.2.2.2.2.2.1; have p3_4 := y3.2.2.2.2.2.2.2.2.1; have q3_4 := y3.2.2.2.2.2.2.2.2.2; clear y3
          go_upto_region 23 with fail
          clear p3_0 q3_0 p3_1 q3_1 p3_2 q3_2 p3_3 q3_3 p3_4 q3_4
          obtain ⟨w18, hv⟩ : ∃ w_ : World, w_ = (w17.setCell ⟨g, o, none⟩ (.int .i64 0)) := ⟨_, rfl⟩
          rw [← hv]
          have og : w17.grownBy w18 (some g) := by rw [hv]; exact (only_setCell (World.grownBy.refl _ _) _)
          have hz : w.heap.size ≤ g := by omega
          have hk : Bo w18 g o P_ R_ 48 [.int .i64 0, x_115, x_116, x_117, x_118] := by rw [hv]; exact ((M.out.2.2.2.2.2.2.2.2.2.2.1).set 0 (show 0 < 5 by omega) _)
          have hbw : Below w.heap.size w w18 := by rw [hv]; exact (Below.setCell (M.out.2.2.2.2.2.2.2.2.2.2.2.2) (by omega) _)
          replace M := Lib.hid (And.intro ((M.out.1).far (M.out.2.2.2.2.2.2.2.2.2.2.1).bx (by rfl) (by omega) og) (And.intro ((M.out.2.1).far (M.out.2.2.2.2.2.2.2.2.2.2.1).bx (by rfl) (by omega) og) (And.intro ((M.out.2.2.1).only og (Bx.ne_ty (M.out.2.2.1) (M.out.2.2.2.2.2.2.2.2.2.2.1).bx (by rfl))) (And.intro ((M.out.2.2.2.1).far (M.out.2.2.2.2.2.2.2.2.2.2.1).bx (by rfl) (by omega) og) (And.intro ((M.out.2.2.2.2.1).far (M.out.2.2.2.2.2.2.2.2.2.2.1).bx (by rfl) (by omega) og) (And.intro ((M.out.2.2.2.2.2.1).far (M.out.2.2.2.2.2.2.2.2.2.2.1).bx (by rfl) (by omega) og) (And.intro ((M.out.2.2.2.2.2.2.1).far (M.out.2.2.2.2.2.2.2.2.2.2.1).bx (by rfl) (by omega) og) (And.intro ((M.out.2.2.2.2.2.2.2.1).far (M.out.2.2.2.2.2.2.2.2.2.2.1).bx (by rfl) (by omega) og) (And.intro ((M.out.2.2.2.2.2.2.2.2.1).only og (Bx.ne_ty (M.out.2.2.2.2.2.2.2.2.1) (M.out.2.2.2.2.2.2.2.2.2.2.1).bx (by rfl))) (And.intro ((M.out.2.2.2.2.2.2.2.2.2.1).only og (Bx.ne_ty (M.out.2.2.2.2.2.2.2.2.2.1) (M.out.2.2.2.2.2.2.2.2.2.2.1).bx (by rfl))) (And.intro hk (And.intro ((M.out.2.2.2.2.2.2.2.2.2.2.2.1).only og (Bx.ne_ty (M.out.2.2.2.2.2.2.2.2.2.2.2.1) (M.out.2.2.2.2.2.2.2.2.2.2.1).bx (by rfl))) hbw))))))))))))
          clear hk hbw og hv hz
          have y3 := (M.out.2.2.2.2.2.2.2.2.2.2.1).d5; have p3_0 := y3.1; have p3_1 := y3.2.1; have p3_2 := y3.2.2.1; have p3_3 := y3.2.2.2.1; have p3_4 := y3.2.2.2.2; clear y3
          go_wp2_with fail
          clear p3_0 p3_1 p3_2 p3_3 p3_4
          go_roundw
          case rel => exact ⟨g, (o + 5), r2, (nn - 1), (cc - 1), (am - xn), q105, (m + 1), x_101, x_102, x_103, x_104, rfl, by go_num, (Lib.hid (by omega)), (by show _ ∧ _; omega), (by show _ ∧ _; omega), HN2, (Lib.hid (HZr.out.mono (by omega))), (Lib.hid (fun _ => HZr.out)), (Lib.hid (by rw [← HD1.out, map_ly]; exact (congrArg Prod.fst HD.out).symm)), (Lib.hid (by rw [Eq105.out, Eq79.out, ← HSQ.out]; rw [← HD2.out, map_ly]; have h_ := congrArg Prod.snd HD.out; dsimp only at h_; rw [show drawF (LC.ly ⟨xn, xu0, xu1, xu2, xu3, xq⟩ :: _) am = _ from HD.out]; dsimp only; rw [Rat.add_assoc])), (Lib.hid (by rw [Eq105.out, Eq79.out, ← HSQ.out]; rw [HSQ.out]; exact ((HGQ.out.add (HZx.out.mul HSZ.out)).mono (by omega)))), (by show _ ∧ _; have h_ := HMM.out.2 h0; exact ⟨by omega, fun _ => by omega⟩), Lib.hid (And.intro (M.out.2.2.2.2.2.2.2.2.2.1) (And.intro (OwB.tail (HCL.out _ _ _ _ _ _ _ (M.out.2.2.2.2.2.2.2.2.2.2.1) (M.out.1) (M.out.2.2.2.2.2.2.1))) (And.intro (M.out.2.1) (And.intro (M.out.2.2.2.2.2.2.2.2.1) (M.out.2.2.2.2.2.2.2.2.2.2.2.2)))))⟩
          case measure => simp [RowKit.intOf] <;> omega
      ·
        have hm1 : min am xn = am := by omega
        obtain ⟨sq, hsq⟩ : ∃ q, Rat.divInt am xn = q := ⟨_, rfl⟩
        have HSZ : Hid (Fz sq 4) := by show Fz _ _; rw [← hsq]; exact Fz.of64 (by omega) (by omega) (by omega)
        have HSQ := Lib.hid hsq; clear hsq
        have hsx : am - am = 0 := by omega
        have hn1 : ¬ xn - am = 0 := by omega
        have hn2 : (xn - am == 0) = false := beq_false_of_ne hn1
        have hn3 : ¬ xn = am := by omega
        have hn4 : (xn == am) = false := beq_false_of_ne hn3
        have HD := Lib.hid (draw_B (x := ⟨xn, xq⟩) (r := r2.map LC.ly) h0 hw)
        have y3 := (M.out.1).d5; have p3_0 := y3.1; have p3_1 := y3.2.1; have p3_2 := y3.2.2.1; have p3_3 := y3.2.2.2.1; have p3_4 := y3.2.2.2.2; clear y3
        go_wp2_with fail
        clear p3_0 p3_1 p3_2 p3_3 p3_4
        refine (fqOf (G := G) (x := am) (y := xn) (q := sq) (Nat.le_trans hG (M.out.2.2.2.2.2.2).size) (by omega) (by omega) (by omega) HSQ.out).mono ?_
        rintro e w10 ⟨x_123, x_124, x_125, x_126, rfl, hd127, hb⟩
        replace M := Lib.hid (And.intro hd127 (Goes.go M.out hb))
        clear hb hd127
        have ys_x_123 := TQ.st (M.out.1); have st_x_123 := ys_x_123.1; have st_x_124 := ys_x_123.2.1; have st_x_125 := ys_x_123.2.2.1; have st_x_126 := ys_x_123.2.2.2; clear ys_x_123
        go_upto_region 19 with fail
        clear st_x_123 st_x_124 st_x_125 st_x_126
        obtain ⟨w11, hv⟩ : ∃ w_ : World, w_ = (w10.alloc (.cells #[x_123, x_124, x_125, x_126] 29)) := ⟨_, rfl⟩
        rw [← hv]
        have ow4_ : w7.heap.size < w10.heap.size := ((M.out.2.2.2.2.1)).lt
        replace M := Lib.hid (And.intro (hv ▸ bx1 w10 29 #[x_123, x_124, x_125, x_126]) (Goes.go M.out (hv ▸ below_alloc _ _ : Below w10.heap.size w10 w11)))
        clear hv
        go_cut [16, 17] (fun s16 s17 wx => ∃ (A134 : Nat), ∃ (x_128 : Value), ∃ (x_129 : Value), ∃ (x_130 : Value), ∃ (x_131 : Value), ∃ (q132 : Rat), s16 = .pointer (some ⟨A134, 0, none⟩) ∧ s17 = .int .i64 0 ∧ Hid (q132 = (xq * sq)) ∧ Hid (Fz q132 100000004) ∧ w10.heap.size < A134 ∧ Hid (Bx wx A134 29 #[x_128, x_129, x_130, x_131] ∧ FQ G wx x_128 x_129 x_130 x_131 q132 ∧ FQ G wx x_123 x_124 x_125 x_126 sq ∧ FQ G wx xu0 xu1 xu2 xu3 xq ∧ Oks G wx r2 ∧ FQ G wx g0 g1 g2 g3 gq ∧ Bx wx w.heap.size 29 #[.int .i64 0, .slice none 0 0, .int .i64 0, .slice none 0 0] ∧ Bx wx w7.heap.size 29 #[g0, g1, g2, g3] ∧ Bo wx g o P_ R_ 48 [.int .i64 xn, xu0, xu1, xu2, xu3] ∧ Bx wx w10.heap.size 29 #[x_123, x_124, x_125, x_126] ∧ Below w.heap.size w wx))
        case first =>
          obtain ⟨w12, hv⟩ : ∃ w_ : World, w_ = w11.drew := ⟨_, rfl⟩
          replace M := Lib.hid (Goes.go M.out (hv ▸ below_drew _ : Below w11.heap.size w11 w12))
          refine wp_region_held_drew (S := (fun w' => w'.cell? ⟨g, o, none⟩ = some (.int .i64 xn) ∧ w'.cell? ⟨g, o + 1, none⟩ = some (xu0) ∧ w'.cell? ⟨g, o + 2, none⟩ = some (xu1) ∧ w'.cell? ⟨g, o + 3, none⟩ = some (xu2) ∧ w'.cell? ⟨g, o + 4, none⟩ = some (xu3) ∧ w'.cell? ⟨w10.heap.size, 0, none⟩ = some (x_123) ∧ w'.cell? ⟨w10.heap.size, 1, none⟩ = some (x_124) ∧ w'.cell? ⟨w10.heap.size, 2, none⟩ = some (x_125) ∧ w'.cell? ⟨w10.heap.size, 3, none⟩ = some (x_126))) (by kernel_rfl) (by rw [← hv]; exact ⟨((M.out.2.2.1).at 0 (show 0 < 5 by omega)).1, ((M.out.2.2.1).at 1 (show 1 < 5 by omega)).1, ((M.out.2.2.1).at 2 (show 2 < 5 by omega)).1, ((M.out.2.2.1).at 3 (show 3 < 5 by omega)).1, ((M.out.2.2.1).at 4 (show 4 < 5 by omega)).1, (M.out.1).at.1 0, (M.out.1).at.1 1, (M.out.1).at.1 2, (M.out.1).at.1 3⟩) (fun hH135 => ?_)
          rw [← hv] at hH135 ⊢
          clear hv
          refine tk at0 ?_
          refine tk at1 ?_
          refine tk at2 ?_
          refine tk at3 ?_
          refine tk at4 ?_
          refine wpAnyH_ready (rs := [5, 9]) (by kernel_rfl) (by simp) ?_
          refine AllReadyH.cons at5 (fun K hK => ?_) ?_
          ·
            go_simp
            obtain ⟨q140, eq140⟩ : ∃ v_ : Rat, v_ = (xq * sq) := ⟨_, rfl⟩
            refine (fqMul (G := G) (q := xq) (r := sq) (Nat.le_trans hG (M.out.2.2.2.2.2.2.2.2).size) (M.out.2.2.2.1) (M.out.2.1) (Fz.mono HZx.out (by omega)) (Fz.mono HSZ.out (by omega))).mono ?_
            rintro e w13 ⟨x_136, x_137, x_138, x_139, rfl, hd141, hb⟩
            rw [← eq140] at hd141
            have Sq140 : Hid (Fz q140 100000004) := by show Fz q140 100000004; rw [eq140]; exact (Fz.mul HZx.out HSZ.out)
            have Eq140 := Lib.hid eq140; clear eq140
            replace M := Lib.hid (And.intro hd141 (Goes.go M.out hb))
            clear hb hd141
            (try go_wp2_with fail)
            refine hK.out _ _ (⟨((M.out.2.2.2.1).at 0 (show 0 < 5 by omega)).1, ((M.out.2.2.2.1).at 1 (show 1 < 5 by omega)).1, ((M.out.2.2.2.1).at 2 (show 2 < 5 by omega)).1, ((M.out.2.2.2.1).at 3 (show 3 < 5 by omega)).1, ((M.out.2.2.2.1).at 4 (show 4 < 5 by omega)).1, (M.out.2.1).at.1 0, (M.out.2.1).at.1 1, (M.out.2.1).at.1 2, (M.out.2.1).at.1 3⟩) (fun hH142 => ?_)
            clear hK K hH135
            (try simp only [Act.put, List.setIfInBounds_toArray, List.set_cons_zero, List.set_cons_succ])
            refine tk at6 ?_
            refine tk at7 ?_
            refine tk at8 ?_
            refine wpAnyH_ready (rs := [9]) (by kernel_rfl) (by simp) ?_
            refine AllReadyH.cons at9 (fun K hK => ?_) AllReadyH.nil
            go_simp
            obtain ⟨w14, hv⟩ : ∃ w_ : World, w_ = (w13.alloc (.cells #[.int .i64 0, .slice none 0 0, .int .i64 0, .slice none 0 0] 29)) := ⟨_, rfl⟩
            rw [← hv]
            have ow5_ : w10.heap.size < w13.heap.size := ((M.out.2.1)).lt
            replace M := Lib.hid (And.intro (hv ▸ bx1 w13 29 #[.int .i64 0, .slice none 0 0, .int .i64 0, .slice none 0 0]) (Goes.go M.out (hv ▸ below_alloc _ _ : Below w13.heap.size w13 w14)))
            clear hv
            refine hK.out _ _ (⟨((M.out.2.2.2.2.1).at 0 (show 0 < 5 by omega)).1, ((M.out.2.2.2.2.1).at 1 (show 1 < 5 by omega)).1, ((M.out.2.2.2.2.1).at 2 (show 2 < 5 by omega)).1, ((M.out.2.2.2.2.1).at 3 (show 3 < 5 by omega)).1, ((M.out.2.2.2.2.1).at 4 (show 4 < 5 by omega)).1, (M.out.2.2.1).at.1 0, (M.out.2.2.1).at.1 1, (M.out.2.2.1).at.1 2, (M.out.2.2.1).at.1 3⟩) (fun hH143 => ?_)
            clear hK K hH142
            (try simp only [Act.put, List.setIfInBounds_toArray, List.set_cons_zero, List.set_cons_succ])
            refine wpAnyH_ready (rs := [10]) (by kernel_rfl) (by simp) ?_
            refine AllReadyH.cons at10 (fun K hK => ?_) AllReadyH.nil
            have y5 := (M.out.1).c4; have p5_0 := y5.1; have q5_0 := y5.2.1; have p5_1 := y5.2.2.1; have q5_1 := y5.2.2.2.1; have p5_2 := y5.2.2.2.2.1; have q5_2 := y5.2.2.2.2.2.1; have p5_3 := y5.2.2.2.2.2.2.1; have q5_3 := y5.2.2.2.2.2.2.2; clear y5
            have ys_x_136 := TQ.st (M.out.2.1); have st_x_136 := ys_x_136.1; have st_x_137 := ys_x_136.2.1; have st_x_138 := ys_x_136.2.2.1; have st_x_139 := ys_x_136.2.2.2; clear ys_x_136
            go_simp
            clear p5_0 q5_0 p5_1 q5_1 p5_2 q5_2 p5_3 q5_3 st_x_136 st_x_137 st_x_138 st_x_139
            obtain ⟨w15, hv⟩ : ∃ w_ : World, w_ = ((((w14.setCell ⟨w13.heap.size, 0, none⟩ (x_136)).setCell ⟨w13.heap.size, 1, none⟩ (x_137)).setCell ⟨w13.heap.size, 2, none⟩ (x_138)).setCell ⟨w13.heap.size, 3, none⟩ (x_139)) := ⟨_, rfl⟩
            rw [← hv]
            have og : w14.grownBy w15 (some w13.heap.size) := by rw [hv]; exact (only_setCell (only_setCell (only_setCell (only_setCell (World.grownBy.refl _ _) _) _) _) _)
            have hz : w.heap.size ≤ w13.heap.size := by omega
            have hk : Bx w15 w13.heap.size 29 #[x_136, x_137, x_138, x_139] := by rw [hv]; exact (((((M.out.1).set 0 _).set 1 _).set 2 _).set 3 _)
            have hbw : Below w.heap.size w w15 := by rw [hv]; exact (Below.setCell (Below.setCell (Below.setCell (Below.setCell (M.out.2.2.2.2.2.2.2.2.2.2) (by omega) _) (by omega) _) (by omega) _) (by omega) _)
            replace M := Lib.hid (And.intro hk (And.intro ((M.out.2.1).far (M.out.1) (by rfl) (by omega) og) (And.intro ((M.out.2.2.1).only og (by omega)) (And.intro ((M.out.2.2.2.1).far (M.out.1) (by rfl) (by omega) og) (And.intro ((M.out.2.2.2.2.1).only og (Bx.ne_ty (M.out.2.2.2.2.1).bx (M.out.1) (by rfl))) (And.intro ((M.out.2.2.2.2.2.1).far (M.out.1) (by rfl) (by omega) og) (And.intro ((M.out.2.2.2.2.2.2.1).far (M.out.1) (by rfl) (by omega) og) (And.intro ((M.out.2.2.2.2.2.2.2.1).only og (by omega)) (And.intro ((M.out.2.2.2.2.2.2.2.2.1).far (M.out.1) (by rfl) (by omega) og) (And.intro ((M.out.2.2.2.2.2.2.2.2.2.1).only og (by omega)) hbw))))))))))
            clear hk hbw og hv hz
            refine hK.out _ _ (⟨((M.out.2.2.2.2.1).at 0 (show 0 < 5 by omega)).1, ((M.out.2.2.2.2.1).at 1 (show 1 < 5 by omega)).1, ((M.out.2.2.2.2.1).at 2 (show 2 < 5 by omega)).1, ((M.out.2.2.2.2.1).at 3 (show 3 < 5 by omega)).1, ((M.out.2.2.2.2.1).at 4 (show 4 < 5 by omega)).1, (M.out.2.2.1).at.1 0, (M.out.2.2.1).at.1 1, (M.out.2.2.1).at.1 2, (M.out.2.2.1).at.1 3⟩) (fun hH144 => ?_)
            clear hK K hH143
            (try simp only [Act.put, List.setIfInBounds_toArray, List.set_cons_zero, List.set_cons_succ])
            refine tk at11 ?_
            refine wpAnyH_done (by kernel_rfl) ?_ _
            clear hH144
            go_wp2_with fail
            go_meet
            exact ⟨w13.heap.size, x_136, x_137, x_138, x_139, q140, rfl, rfl, Eq140, Sq140, (by omega), (M.out.1), (M.out.2.1), (M.out.2.2.2.1), (M.out.2.2.2.2.2.1), (M.out.2.2.2.2.2.2.1), (M.out.2.2.2.2.2.2.2.2.1), (M.out.2.2.2.2.2.2.2.2.2.1), (M.out.2.2.2.2.2.2.2.1), (M.out.2.2.2.2.1), (M.out.2.2.1), (M.out.2.2.2.2.2.2.2.2.2.2)⟩
          refine AllReadyH.cons at9 (fun K hK => ?_) AllReadyH.nil
          go_simp
          obtain ⟨w13, hv⟩ : ∃ w_ : World, w_ = (w12.alloc (.cells #[.int .i64 0, .slice none 0 0, .int .i64 0, .slice none 0 0] 29)) := ⟨_, rfl⟩
          rw [← hv]
          have ow5_ : w10.heap.size < w12.heap.size := ((M.out.1)).lt
          replace M := Lib.hid (And.intro (hv ▸ bx1 w12 29 #[.int .i64 0, .slice none 0 0, .int .i64 0, .slice none 0 0]) (Goes.go M.out (hv ▸ below_alloc _ _ : Below w12.heap.size w12 w13)))
          clear hv
          refine hK.out _ _ (⟨((M.out.2.2.2.1).at 0 (show 0 < 5 by omega)).1, ((M.out.2.2.2.1).at 1 (show 1 < 5 by omega)).1, ((M.out.2.2.2.1).at 2 (show 2 < 5 by omega)).1, ((M.out.2.2.2.1).at 3 (show 3 < 5 by omega)).1, ((M.out.2.2.2.1).at 4 (show 4 < 5 by omega)).1, (M.out.2.1).at.1 0, (M.out.2.1).at.1 1, (M.out.2.1).at.1 2, (M.out.2.1).at.1 3⟩) (fun hH145 => ?_)
          clear hK K hH135
          (try simp only [Act.put, List.setIfInBounds_toArray, List.set_cons_zero, List.set_cons_succ])
          refine wpAnyH_ready (rs := [5]) (by kernel_rfl) (by simp) ?_
          refine AllReadyH.cons at5 (fun K hK => ?_) AllReadyH.nil
          go_simp
          obtain ⟨q150, eq150⟩ : ∃ v_ : Rat, v_ = (xq * sq) := ⟨_, rfl⟩
          refine (fqMul (G := G) (q := xq) (r := sq) (Nat.le_trans hG (M.out.2.2.2.2.2.2.2.2.2).size) (M.out.2.2.2.2.1) (M.out.2.2.1) (Fz.mono HZx.out (by omega)) (Fz.mono HSZ.out (by omega))).mono ?_
          rintro e w14 ⟨x_146, x_147, x_148, x_149, rfl, hd151, hb⟩
          rw [← eq150] at hd151
          have Sq150 : Hid (Fz q150 100000004) := by show Fz q150 100000004; rw [eq150]; exact (Fz.mul HZx.out HSZ.out)
          have Eq150 := Lib.hid eq150; clear eq150
          replace M := Lib.hid (And.intro hd151 (Goes.go M.out hb))
          clear hb hd151
          (try go_wp2_with fail)
          refine hK.out _ _ (⟨((M.out.2.2.2.2.1).at 0 (show 0 < 5 by omega)).1, ((M.out.2.2.2.2.1).at 1 (show 1 < 5 by omega)).1, ((M.out.2.2.2.2.1).at 2 (show 2 < 5 by omega)).1, ((M.out.2.2.2.2.1).at 3 (show 3 < 5 by omega)).1, ((M.out.2.2.2.2.1).at 4 (show 4 < 5 by omega)).1, (M.out.2.2.1).at.1 0, (M.out.2.2.1).at.1 1, (M.out.2.2.1).at.1 2, (M.out.2.2.1).at.1 3⟩) (fun hH152 => ?_)
          clear hK K hH145
          (try simp only [Act.put, List.setIfInBounds_toArray, List.set_cons_zero, List.set_cons_succ])
          refine tk at6 ?_
          refine tk at7 ?_
          refine tk at8 ?_
          refine wpAnyH_ready (rs := [10]) (by kernel_rfl) (by simp) ?_
          refine AllReadyH.cons at10 (fun K hK => ?_) AllReadyH.nil
          have y5 := (M.out.2.1).c4; have p5_0 := y5.1; have q5_0 := y5.2.1; have p5_1 := y5.2.2.1; have q5_1 := y5.2.2.2.1; have p5_2 := y5.2.2.2.2.1; have q5_2 := y5.2.2.2.2.2.1; have p5_3 := y5.2.2.2.2.2.2.1; have q5_3 := y5.2.2.2.2.2.2.2; clear y5
          have ys_x_146 := TQ.st (M.out.1); have st_x_146 := ys_x_146.1; have st_x_147 := ys_x_146.2.1; have st_x_148 := ys_x_146.2.2.1; have st_x_149 := ys_x_146.2.2.2; clear ys_x_146
          go_simp
          clear p5_0 q5_0 p5_1 q5_1 p5_2 q5_2 p5_3 q5_3 st_x_146 st_x_147 st_x_148 st_x_149
          obtain ⟨w15, hv⟩ : ∃ w_ : World, w_ = ((((w14.setCell ⟨w12.heap.size, 0, none⟩ (x_146)).setCell ⟨w12.heap.size, 1, none⟩ (x_147)).setCell ⟨w12.heap.size, 2, none⟩ (x_148)).setCell ⟨w12.heap.size, 3, none⟩ (x_149)) := ⟨_, rfl⟩
          rw [← hv]
          have og : w14.grownBy w15 (some w12.heap.size) := by rw [hv]; exact (only_setCell (only_setCell (only_setCell (only_setCell (World.grownBy.refl _ _) _) _) _) _)
          have hz : w.heap.size ≤ w12.heap.size := by omega
          have hk : Bx w15 w12.heap.size 29 #[x_146, x_147, x_148, x_149] := by rw [hv]; exact (((((M.out.2.1).set 0 _).set 1 _).set 2 _).set 3 _)
          have hbw : Below w.heap.size w w15 := by rw [hv]; exact (Below.setCell (Below.setCell (Below.setCell (Below.setCell (M.out.2.2.2.2.2.2.2.2.2.2) (by omega) _) (by omega) _) (by omega) _) (by omega) _)
          replace M := Lib.hid (And.intro ((M.out.1).far (M.out.2.1) (by rfl) (by omega) og) (And.intro hk (And.intro ((M.out.2.2.1).only og (by omega)) (And.intro ((M.out.2.2.2.1).far (M.out.2.1) (by rfl) (by omega) og) (And.intro ((M.out.2.2.2.2.1).only og (Bx.ne_ty (M.out.2.2.2.2.1).bx (M.out.2.1) (by rfl))) (And.intro ((M.out.2.2.2.2.2.1).far (M.out.2.1) (by rfl) (by omega) og) (And.intro ((M.out.2.2.2.2.2.2.1).far (M.out.2.1) (by rfl) (by omega) og) (And.intro ((M.out.2.2.2.2.2.2.2.1).only og (by omega)) (And.intro ((M.out.2.2.2.2.2.2.2.2.1).far (M.out.2.1) (by rfl) (by omega) og) (And.intro ((M.out.2.2.2.2.2.2.2.2.2.1).only og (by omega)) hbw))))))))))
          clear hk hbw og hv hz
          refine hK.out _ _ (⟨((M.out.2.2.2.2.1).at 0 (show 0 < 5 by omega)).1, ((M.out.2.2.2.2.1).at 1 (show 1 < 5 by omega)).1, ((M.out.2.2.2.2.1).at 2 (show 2 < 5 by omega)).1, ((M.out.2.2.2.2.1).at 3 (show 3 < 5 by omega)).1, ((M.out.2.2.2.2.1).at 4 (show 4 < 5 by omega)).1, (M.out.2.2.1).at.1 0, (M.out.2.2.1).at.1 1, (M.out.2.2.1).at.1 2, (M.out.2.2.1).at.1 3⟩) (fun hH153 => ?_)
          clear hK K hH152
          (try simp only [Act.put, List.setIfInBounds_toArray, List.set_cons_zero, List.set_cons_succ])
          refine tk at11 ?_
          refine wpAnyH_done (by kernel_rfl) ?_ _
          clear hH153
          go_wp2_with fail
          go_meet
          exact ⟨w12.heap.size, x_146, x_147, x_148, x_149, q150, rfl, rfl, Eq150, Sq150, (by omega), (M.out.2.1), (M.out.1), (M.out.2.2.2.1), (M.out.2.2.2.2.2.1), (M.out.2.2.2.2.2.2.1), (M.out.2.2.2.2.2.2.2.2.1), (M.out.2.2.2.2.2.2.2.2.2.1), (M.out.2.2.2.2.2.2.2.1), (M.out.2.2.2.2.1), (M.out.2.2.1), (M.out.2.2.2.2.2.2.2.2.2.2)⟩
        case rest =>
          obtain ⟨A134, x_128, x_129, x_130, x_131, q132, rfl, rfl, Eq132, Sq132, oA134, M⟩ := hcut
          obtain ⟨w12, rfl⟩ : ∃ w_ : World, w_ = wc := ⟨_, rfl⟩
          have y2 := (M.out.2.2.2.2.2.2.2.1).d4; have p2_0 := y2.1; have p2_1 := y2.2.1; have p2_2 := y2.2.2.1; have p2_3 := y2.2.2.2; clear y2
          have y5 := (M.out.1).d4; have p5_0 := y5.1; have p5_1 := y5.2.1; have p5_2 := y5.2.2.1; have p5_3 := y5.2.2.2; clear y5
          go_wp2_with fail
          clear p2_0 p2_1 p2_2 p2_3 p5_0 p5_1 p5_2 p5_3
          obtain ⟨q158, eq158⟩ : ∃ v_ : Rat, v_ = (gq + q132) := ⟨_, rfl⟩
          refine (fqAdd (G := G) (q := gq) (r := q132) (M.out.2.2.2.2.2.1) (M.out.2.1) (Fz.mono HSg.out (by omega)) (Fz.mono Sq132.out (by omega))).mono ?_
          rintro e w13 ⟨x_154, x_155, x_156, x_157, rfl, hd159, hb⟩
          rw [← eq158] at hd159
          have Sq158 : Hid (Fz q158 20100002006) := by show Fz q158 20100002006; rw [eq158]; exact (Fz.add HSg.out Sq132.out)
          have Eq158 := Lib.hid eq158; clear eq158
          replace M := Lib.hid (And.intro hd159 (Goes.go M.out hb))
          clear hb hd159
          have y2 := (M.out.2.2.2.2.2.2.2.2.1).c4; have p2_0 := y2.1; have q2_0 := y2.2.1; have p2_1 := y2.2.2.1; have q2_1 := y2.2.2.2.1; have p2_2 := y2.2.2.2.2.1; have q2_2 := y2.2.2.2.2.2.1; have p2_3 := y2.2.2.2.2.2.2.1; have q2_3 := y2.2.2.2.2.2.2.2; clear y2
          have ys_x_154 := TQ.st (M.out.1); have st_x_154 := ys_x_154.1; have st_x_155 := ys_x_154.2.1; have st_x_156 := ys_x_154.2.2.1; have st_x_157 := ys_x_154.2.2.2; clear ys_x_154
          go_wp2_with fail
          clear p2_0 q2_0 p2_1 q2_1 p2_2 q2_2 p2_3 q2_3 st_x_154 st_x_155 st_x_156 st_x_157
          obtain ⟨w14, hv⟩ : ∃ w_ : World, w_ = ((((w13.setCell ⟨w7.heap.size, 0, none⟩ (x_154)).setCell ⟨w7.heap.size, 1, none⟩ (x_155)).setCell ⟨w7.heap.size, 2, none⟩ (x_156)).setCell ⟨w7.heap.size, 3, none⟩ (x_157)) := ⟨_, rfl⟩
          rw [← hv]
          have og : w13.grownBy w14 (some w7.heap.size) := by rw [hv]; exact (only_setCell (only_setCell (only_setCell (only_setCell (World.grownBy.refl _ _) _) _) _) _)
          have hz : w.heap.size ≤ w7.heap.size := by omega
          have hk : Bx w14 w7.heap.size 29 #[x_154, x_155, x_156, x_157] := by rw [hv]; exact (((((M.out.2.2.2.2.2.2.2.2.1).set 0 _).set 1 _).set 2 _).set 3 _)
          have hbw : Below w.heap.size w w14 := by rw [hv]; exact (Below.setCell (Below.setCell (Below.setCell (Below.setCell (M.out.2.2.2.2.2.2.2.2.2.2.2) (by omega) _) (by omega) _) (by omega) _) (by omega) _)
          replace M := Lib.hid (And.intro ((M.out.1).far (M.out.2.2.2.2.2.2.2.2.1) (by rfl) (by omega) og) (And.intro ((M.out.2.1).only og (by omega)) (And.intro ((M.out.2.2.1).far (M.out.2.2.2.2.2.2.2.2.1) (by rfl) (by omega) og) (And.intro ((M.out.2.2.2.1).far (M.out.2.2.2.2.2.2.2.2.1) (by rfl) (by omega) og) (And.intro ((M.out.2.2.2.2.1).far (M.out.2.2.2.2.2.2.2.2.1) (by rfl) (by omega) og) (And.intro ((M.out.2.2.2.2.2.1).far (M.out.2.2.2.2.2.2.2.2.1) (by rfl) (by omega) og) (And.intro ((M.out.2.2.2.2.2.2.1).far (M.out.2.2.2.2.2.2.2.2.1) (by rfl) (by omega) og) (And.intro ((M.out.2.2.2.2.2.2.2.1).only og (by omega)) (And.intro hk (And.intro ((M.out.2.2.2.2.2.2.2.2.2.1).only og (Bx.ne_ty (M.out.2.2.2.2.2.2.2.2.2.1).bx (M.out.2.2.2.2.2.2.2.2.1) (by rfl))) (And.intro ((M.out.2.2.2.2.2.2.2.2.2.2.1).only og (by omega)) hbw)))))))))))
          clear hk hbw og hv hz
          obtain ⟨w15, hv⟩ : ∃ w_ : World, w_ = w14.drew := ⟨_, rfl⟩
          replace M := Lib.hid (Goes.go M.out (hv ▸ below_drew _ : Below w14.heap.size w14 w15))
          refine wp_region_held_drew (S := (fun w' => w'.cell? ⟨A134, 0, none⟩ = some (x_128) ∧ w'.cell? ⟨A134, 1, none⟩ = some (x_129) ∧ w'.cell? ⟨A134, 2, none⟩ = some (x_130) ∧ w'.cell? ⟨A134, 3, none⟩ = some (x_131))) (by kernel_rfl) (by rw [← hv]; exact ⟨(M.out.2.1).at.1 0, (M.out.2.1).at.1 1, (M.out.2.1).at.1 2, (M.out.2.1).at.1 3⟩) (fun hH166 => ?_)
          rw [← hv] at hH166 ⊢
          clear hv
          refine tk at0 ?_
          refine tk at1 ?_
          refine tk at2 ?_
          refine tk at3 ?_
          refine tk at5 ?_
          refine wpAnyH_ready (rs := [4]) (by kernel_rfl) (by simp) ?_
          refine AllReadyH.cons at4 (fun K hK => ?_) AllReadyH.nil
          have y3 := (M.out.2.2.2.2.2.2.2.2.2.1).d5; have p3_0 := y3.1; have p3_1 := y3.2.1; have p3_2 := y3.2.2.1; have p3_3 := y3.2.2.2.1; have p3_4 := y3.2.2.2.2; clear y3
          go_simp
          clear p3_0 p3_1 p3_2 p3_3 p3_4
          refine hK.out _ _ (⟨(M.out.2.1).at.1 0, (M.out.2.1).at.1 1, (M.out.2.1).at.1 2, (M.out.2.1).at.1 3⟩) (fun hH167 => ?_)
          clear hK K hH166
          (try simp only [Act.put, List.setIfInBounds_toArray, List.set_cons_zero, List.set_cons_succ])
          refine wpAnyH_ready (rs := [6]) (by kernel_rfl) (by simp) ?_
          refine AllReadyH.cons at6 (fun K hK => ?_) AllReadyH.nil
          go_simp
          obtain ⟨q172, eq172⟩ : ∃ v_ : Rat, v_ = (xq - q132) := ⟨_, rfl⟩
          refine (fqSub (G := G) (q := xq) (r := q132) (M.out.2.2.2.2.1) (M.out.2.2.1) (Fz.mono HZx.out (by omega)) (Fz.mono Sq132.out (by omega))).mono ?_
          rintro e w16 ⟨x_168, x_169, x_170, x_171, rfl, hd173, hb⟩
          rw [← eq172] at hd173
          have Sq172 : Hid (Fz q172 200000005) := by show Fz q172 200000005; rw [eq172]; exact (Fz.sub HZx.out Sq132.out)
          have Eq172 := Lib.hid eq172; clear eq172
          replace M := Lib.hid (And.intro hd173 (Goes.go M.out hb))
          clear hb hd173
          (try go_wp2_with fail)
          refine hK.out _ _ (⟨(M.out.2.2.1).at.1 0, (M.out.2.2.1).at.1 1, (M.out.2.2.1).at.1 2, (M.out.2.2.1).at.1 3⟩) (fun hH174 => ?_)
          clear hK K hH167
          (try simp only [Act.put, List.setIfInBounds_toArray, List.set_cons_zero, List.set_cons_succ])
          refine tk at7 ?_
          refine tk at8 ?_
          refine tk at9 ?_
          refine tk at10 ?_
          refine tk at11 ?_
          refine wpAnyH_ready (rs := [12]) (by kernel_rfl) (by simp) ?_
          refine AllReadyH.cons at12 (fun K hK => ?_) AllReadyH.nil
          have y3 := (M.out.2.2.2.2.2.2.2.2.2.2.1).c5; have p3_0 := y3.1; have q3_0 := y3.2.1; have p3_1 := y3.2.2.1; have q3_1 := y3.2.2.2.1; have p3_2 := y3.2.2.2.2.1; have q3_2 := y3.2.2.2.2.2.1; have p3_3 := y3.2.2.2.2.2.2.1; have q3_3 := y3.2.2.2.2.2.2.2.1; have p3_4 := y3.2.2.2.2.2.2.2.2.1; have q3_4 := y3.2.2.2.2.2.2.2.2.2; clear y3
          have ys_x_168 := TQ.st (M.out.1); have st_x_168 := ys_x_168.1; have st_x_169 := ys_x_168.2.1; have st_x_170 := ys_x_168.2.2.1; have st_x_171 := ys_x_168.2.2.2; clear ys_x_168
          go_simp
          clear p3_0 q3_0 p3_1 q3_1 p3_2 q3_2 p3_3 q3_3 p3_4 q3_4 st_x_168 st_x_169 st_x_170 st_x_171
          obtain ⟨w17, hv⟩ : ∃ w_ : World, w_ = ((((w16.setCell ⟨g, o + 1, none⟩ (x_168)).setCell ⟨g, o + 2, none⟩ (x_169)).setCell ⟨g, o + 3, none⟩ (x_170)).setCell ⟨g, o + 4, none⟩ (x_171)) := ⟨_, rfl⟩
          rw [← hv]
          have og : w16.grownBy w17 (some g) := by rw [hv]; exact (only_setCell (only_setCell (only_setCell (only_setCell (World.grownBy.refl _ _) _) _) _) _)
          have hz : w.heap.size ≤ g := by omega
          have hk : Bo w17 g o P_ R_ 48 [.int .i64 xn, x_168, x_169, x_170, x_171] := by rw [hv]; exact (((((M.out.2.2.2.2.2.2.2.2.2.2.1).set 1 (show 1 < 5 by omega) _).set 2 (show 2 < 5 by omega) _).set 3 (show 3 < 5 by omega) _).set 4 (show 4 < 5 by omega) _)
          have hbw : Below w.heap.size w w17 := by rw [hv]; exact (Below.setCell (Below.setCell (Below.setCell (Below.setCell (M.out.2.2.2.2.2.2.2.2.2.2.2.2) (by omega) _) (by omega) _) (by omega) _) (by omega) _)
          replace M := Lib.hid (And.intro ((M.out.1).far (M.out.2.2.2.2.2.2.2.2.2.2.1).bx (by rfl) (by omega) og) (And.intro ((M.out.2.1).far (M.out.2.2.2.2.2.2.2.2.2.2.1).bx (by rfl) (by omega) og) (And.intro ((M.out.2.2.1).only og (Bx.ne_ty (M.out.2.2.1) (M.out.2.2.2.2.2.2.2.2.2.2.1).bx (by rfl))) (And.intro ((M.out.2.2.2.1).far (M.out.2.2.2.2.2.2.2.2.2.2.1).bx (by rfl) (by omega) og) (And.intro ((M.out.2.2.2.2.1).far (M.out.2.2.2.2.2.2.2.2.2.2.1).bx (by rfl) (by omega) og) (And.intro ((M.out.2.2.2.2.2.1).far (M.out.2.2.2.2.2.2.2.2.2.2.1).bx (by rfl) (by omega) og) (And.intro ((M.out.2.2.2.2.2.2.1).far (M.out.2.2.2.2.2.2.2.2.2.2.1).bx (by rfl) (by omega) og) (And.intro ((M.out.2.2.2.2.2.2.2.1).far (M.out.2.2.2.2.2.2.2.2.2.2.1).bx (by rfl) (by omega) og) (And.intro ((M.out.2.2.2.2.2.2.2.2.1).only og (Bx.ne_ty (M.out.2.2.2.2.2.2.2.2.1) (M.out.2.2.2.2.2.2.2.2.2.2.1).bx (by rfl))) (And.intro ((M.out.2.2.2.2.2.2.2.2.2.1).only og (Bx.ne_ty (M.out.2.2.2.2.2.2.2.2.2.1) (M.out.2.2.2.2.2.2.2.2.2.2.1).bx (by rfl))) (And.intro hk (And.intro ((M.out.2.2.2.2.2.2.2.2.2.2.2.1).only og (Bx.ne_ty (M.out.2.2.2.2.2.2.2.2.2.2.2.1) (M.out.2.2.2.2.2.2.2.2.2.2.1).bx (by rfl))) hbw))))))))))))
          clear hk hbw og hv hz
          refine hK.out _ _ (⟨(M.out.2.2.1).at.1 0, (M.out.2.2.1).at.1 1, (M.out.2.2.1).at.1 2, (M.out.2.2.1).at.1 3⟩) (fun hH175 => ?_)
          clear hK K hH174
          (try simp only [Act.put, List.setIfInBounds_toArray, List.set_cons_zero, List.set_cons_succ])
          refine wpAnyH_done (by kernel_rfl) ?_ _
          clear hH175
          have y3 := (M.out.2.2.2.2.2.2.2.2.2.2.1).c5; have p3_0 := y3.1; have q3_0 := y3.2.1; have p3_1 := y3.2.2.1; have q3_1 := y3.2.2.2.1; have p3_2 := y3.2.2.2.2.1; have q3_2 := y3.2.2.2.2.2.1; have p3_3 := y3.2.2.2.2.2.2.1; have q3_3 := y3.2.2.2.2.2.2.2.1; have p3_4 := y3.2.2.2.2.2.2.2.2.1; have q3_4 := y3.2.2.2.2.2.2.2.2.2; clear y3
          go_upto_region 23 with fail
          clear p3_0 q3_0 p3_1 q3_1 p3_2 q3_2 p3_3 q3_3 p3_4 q3_4
          obtain ⟨w18, hv⟩ : ∃ w_ : World, w_ = (w17.setCell ⟨g, o, none⟩ (.int .i64 (xn - am))) := ⟨_, rfl⟩
          rw [← hv]
          have og : w17.grownBy w18 (some g) := by rw [hv]; exact (only_setCell (World.grownBy.refl _ _) _)
          have hz : w.heap.size ≤ g := by omega
          have hk : Bo w18 g o P_ R_ 48 [.int .i64 (xn - am), x_168, x_169, x_170, x_171] := by rw [hv]; exact ((M.out.2.2.2.2.2.2.2.2.2.2.1).set 0 (show 0 < 5 by omega) _)
          have hbw : Below w.heap.size w w18 := by rw [hv]; exact (Below.setCell (M.out.2.2.2.2.2.2.2.2.2.2.2.2) (by omega) _)
          replace M := Lib.hid (And.intro ((M.out.1).far (M.out.2.2.2.2.2.2.2.2.2.2.1).bx (by rfl) (by omega) og) (And.intro ((M.out.2.1).far (M.out.2.2.2.2.2.2.2.2.2.2.1).bx (by rfl) (by omega) og) (And.intro ((M.out.2.2.1).only og (Bx.ne_ty (M.out.2.2.1) (M.out.2.2.2.2.2.2.2.2.2.2.1).bx (by rfl))) (And.intro ((M.out.2.2.2.1).far (M.out.2.2.2.2.2.2.2.2.2.2.1).bx (by rfl) (by omega) og) (And.intro ((M.out.2.2.2.2.1).far (M.out.2.2.2.2.2.2.2.2.2.2.1).bx (by rfl) (by omega) og) (And.intro ((M.out.2.2.2.2.2.1).far (M.out.2.2.2.2.2.2.2.2.2.2.1).bx (by rfl) (by omega) og) (And.intro ((M.out.2.2.2.2.2.2.1).far (M.out.2.2.2.2.2.2.2.2.2.2.1).bx (by rfl) (by omega) og) (And.intro ((M.out.2.2.2.2.2.2.2.1).far (M.out.2.2.2.2.2.2.2.2.2.2.1).bx (by rfl) (by omega) og) (And.intro ((M.out.2.2.2.2.2.2.2.2.1).only og (Bx.ne_ty (M.out.2.2.2.2.2.2.2.2.1) (M.out.2.2.2.2.2.2.2.2.2.2.1).bx (by rfl))) (And.intro ((M.out.2.2.2.2.2.2.2.2.2.1).only og (Bx.ne_ty (M.out.2.2.2.2.2.2.2.2.2.1) (M.out.2.2.2.2.2.2.2.2.2.2.1).bx (by rfl))) (And.intro hk (And.intro ((M.out.2.2.2.2.2.2.2.2.2.2.2.1).only og (Bx.ne_ty (M.out.2.2.2.2.2.2.2.2.2.2.2.1) (M.out.2.2.2.2.2.2.2.2.2.2.1).bx (by rfl))) hbw))))))))))))
          clear hk hbw og hv hz
          have y3 := (M.out.2.2.2.2.2.2.2.2.2.2.1).d5; have p3_0 := y3.1; have p3_1 := y3.2.1; have p3_2 := y3.2.2.1; have p3_3 := y3.2.2.2.1; have p3_4 := y3.2.2.2.2; clear y3
          go_wp2_with fail
          clear p3_0 p3_1 p3_2 p3_3 p3_4
          go_roundw
          case rel => exact ⟨g, o, (⟨xn - am, x_168, x_169, x_170, x_171, q172⟩ :: r2), nn, cc, 0, q158, (m + 1), x_154, x_155, x_156, x_157, rfl, by go_num, (Lib.hid (by show r2.length + 1 = _; omega)), (by show _ ∧ _; omega), (by show _ ∧ _ ∧ 0 ≤ (xn - am) + sumN (r2.map LC.ly); omega), (Lib.hid (Ns.cons (by show 1 ≤ xn - am ∧ xn - am ≤ _; omega) HN2.out)), (Lib.hid (FzL.cons (by show Fz q172 _; rw [Eq172.out, Eq132.out]; exact ((HZx.out.sub (HZx.out.mul HSZ.out)).mono (by omega))) (HZr.out.mono (by omega)))), (Lib.hid (fun h_ => absurd h_ (by omega))), (Lib.hid (by rw [← HD1.out, draw_zero _ (Int.le_refl 0), map_ly, map_ly]; show _ = (drawF (⟨xn, xq⟩ :: _) am).1; rw [HD.out]; dsimp only [LC.ly]; rw [Eq172.out, Eq132.out, ← HSQ.out])), (Lib.hid (by rw [Eq158.out, Eq132.out, ← HSQ.out]; rw [draw_zero _ (Int.le_refl 0), Rat.add_zero, ← HD2.out, map_ly]; show _ = gq + (drawF (⟨xn, xq⟩ :: _) am).2; rw [HD.out])), (Lib.hid (by rw [Eq158.out, Eq132.out, ← HSQ.out]; rw [HSQ.out]; exact ((HGQ.out.add (HZx.out.mul HSZ.out)).mono (by omega)))), (by show _ ∧ _; have h_ := HMM.out.2 h0; exact ⟨by omega, fun h2_ => absurd h2_ (by omega)⟩), Lib.hid (And.intro (M.out.2.2.2.2.2.2.2.2.2.1) (And.intro (HCL.out _ _ _ _ _ _ _ (M.out.2.2.2.2.2.2.2.2.2.2.1) (M.out.1) (M.out.2.2.2.2.2.2.1)) (And.intro (M.out.2.1) (And.intro (M.out.2.2.2.2.2.2.2.2.1) (M.out.2.2.2.2.2.2.2.2.2.2.2.2)))))⟩
          case measure => simp [RowKit.intOf] <;> omega
    ·
      obtain rfl : am = 0 := by omega
      have HE1 : Hid (r.map LC.ly = R1) := by show _ = _; rw [← HD1.out, draw_zero _ (Int.le_refl 0)]
      have HE2 : Hid (gq = R2) := by show _ = _; rw [← HD2.out, draw_zero _ (Int.le_refl 0), Rat.add_zero]
      have HRLf := HRL; have HZf := HZ1
      go_wp2_with fail
      refine (reverseA (G := G) (M.out.2.1) HRL.out (by omega)).mono ?_
      have hle_ := (M.out.2.1).le
      obtain ⟨ys_, hbk_⟩ := (M.out.2.1).bk
      rintro e w10 ⟨rfl, ho2, og⟩
      replace M := Lib.hid (And.intro ho2 (And.intro ((M.out.1).only og (Bx.ne_ty (M.out.1) hbk_ (by rfl))) (And.intro ((M.out.2.2.1).far hbk_ (by rfl) (by omega) og) (And.intro ((M.out.2.2.2.1).only og (Bx.ne_ty (M.out.2.2.2.1) hbk_ (by rfl))) (Below.grown (M.out.2.2.2.2) og (M.out.2.2.2.2).size (fun k_ hk_ => by cases hk_; omega))))))
      clear hbk_ og hle_
      clear ho2
      go_upto_region 28 with fail
      have HRLf : Hid (r.reverse.length = nn) := by show _ = _; rw [List.length_reverse]; exact HRL.out
      replace HZf := Lib.hid HZ1.out.rev
      go_wp2_with fail
      obtain ⟨w11, hv⟩ : ∃ w_ : World, w_ = w10.drew := ⟨_, rfl⟩
      replace M := Lib.hid (Goes.go M.out (hv ▸ below_drew _ : Below w10.heap.size w10 w11))
      refine wp_region_held_drew (S := (fun w' => w'.cell? ⟨w7.heap.size, 0, none⟩ = some (g0) ∧ w'.cell? ⟨w7.heap.size, 1, none⟩ = some (g1) ∧ w'.cell? ⟨w7.heap.size, 2, none⟩ = some (g2) ∧ w'.cell? ⟨w7.heap.size, 3, none⟩ = some (g3))) (by kernel_rfl) (by rw [← hv]; exact ⟨(M.out.2.1).at.1 0, (M.out.2.1).at.1 1, (M.out.2.1).at.1 2, (M.out.2.1).at.1 3⟩) (fun hH176 => ?_)
      rw [← hv] at hH176 ⊢
      clear hv
      refine tk at0 ?_
      refine tk at2 ?_
      refine wpAnyH_ready (rs := [1]) (by kernel_rfl) (by simp) ?_
      refine AllReadyH.cons at1 (fun K hK => ?_) AllReadyH.nil
      go_simp
      refine (ownC (G := G) (Nat.le_trans hG (M.out.2.2.2.2).size) (M.out.1) HRLf.out (by omega) HZf.out).mono ?_
      have hle_ := (M.out.1).le
      obtain ⟨ys_, hbk_⟩ := (M.out.1).bk
      rintro e w12 ⟨rfl, ⟨lf, ho2, hlf⟩, og⟩
      have HLF := Lib.hid hlf; clear hlf
      replace M := Lib.hid (And.intro ho2 (And.intro ((M.out.2.1).only og (Bx.ne_ty (M.out.2.1) hbk_ (by rfl))) (And.intro ((M.out.2.2.1).far hbk_ (by rfl) (by omega) og) (And.intro ((M.out.2.2.2.1).only og (Bx.ne_ty (M.out.2.2.2.1) hbk_ (by rfl))) (Below.grown (M.out.2.2.2.2) og (M.out.2.2.2.2).size (fun k_ hk_ => by cases hk_; omega))))))
      clear hbk_ og hle_
      clear ho2
      (try go_wp2_with fail)
      refine hK.out _ _ (⟨(M.out.2.1).at.1 0, (M.out.2.1).at.1 1, (M.out.2.1).at.1 2, (M.out.2.1).at.1 3⟩) (fun hH177 => ?_)
      clear hK K hH176
      (try simp only [Act.put, List.setIfInBounds_toArray, List.set_cons_zero, List.set_cons_succ])
      refine tk at3 ?_
      refine wpAnyH_ready (rs := [4]) (by kernel_rfl) (by simp) ?_
      refine AllReadyH.cons at4 (fun K hK => ?_) AllReadyH.nil
      have y0 := (M.out.2.2.2.1).c4; have p0_0 := y0.1; have q0_0 := y0.2.1; have p0_1 := y0.2.2.1; have q0_1 := y0.2.2.2.1; have p0_2 := y0.2.2.2.2.1; have q0_2 := y0.2.2.2.2.2.1; have p0_3 := y0.2.2.2.2.2.2.1; have q0_3 := y0.2.2.2.2.2.2.2; clear y0
      have ys_g0 := TQ.st (M.out.2.2.1); have st_g0 := ys_g0.1; have st_g1 := ys_g0.2.1; have st_g2 := ys_g0.2.2.1; have st_g3 := ys_g0.2.2.2; clear ys_g0
      go_simp
      clear p0_0 q0_0 p0_1 q0_1 p0_2 q0_2 p0_3 q0_3 st_g0 st_g1 st_g2 st_g3
      obtain ⟨w13, hv⟩ : ∃ w_ : World, w_ = ((((w12.setCell ⟨w.heap.size, 0, none⟩ (g0)).setCell ⟨w.heap.size, 1, none⟩ (g1)).setCell ⟨w.heap.size, 2, none⟩ (g2)).setCell ⟨w.heap.size, 3, none⟩ (g3)) := ⟨_, rfl⟩
      rw [← hv]
      have og : w12.grownBy w13 (some w.heap.size) := by rw [hv]; exact (only_setCell (only_setCell (only_setCell (only_setCell (World.grownBy.refl _ _) _) _) _) _)
      have hz : w.heap.size ≤ w.heap.size := by exact Nat.le_refl _
      have hk : Bx w13 w.heap.size 29 #[g0, g1, g2, g3] := by rw [hv]; exact (((((M.out.2.2.2.1).set 0 _).set 1 _).set 2 _).set 3 _)
      have hbw : Below w.heap.size w w13 := by rw [hv]; exact (Below.setCell (Below.setCell (Below.setCell (Below.setCell (M.out.2.2.2.2) (by omega) _) (by omega) _) (by omega) _) (by omega) _)
      replace M := Lib.hid (And.intro ((M.out.1).far (M.out.2.2.2.1) (by rfl) (by omega) og) (And.intro ((M.out.2.1).only og (by omega)) (And.intro ((M.out.2.2.1).far (M.out.2.2.2.1) (by rfl) (by omega) og) (And.intro hk hbw))))
      clear hk hbw og hv hz
      refine hK.out _ _ (⟨(M.out.2.1).at.1 0, (M.out.2.1).at.1 1, (M.out.2.1).at.1 2, (M.out.2.1).at.1 3⟩) (fun hH178 => ?_)
      clear hK K hH177
      (try simp only [Act.put, List.setIfInBounds_toArray, List.set_cons_zero, List.set_cons_succ])
      refine tk at5 ?_
      refine wpAnyH_done (by kernel_rfl) ?_ _
      clear hH178
      go_wp2_with fail
      refine bodyPost_ret (results_tct rfl _ _ w.heap.size 29 _ _ _ rfl (M.out.2.2.2.1) Try.underlying29 rfl (by kernel_rfl)) rfl ?_
      have hlf_ : lf.length = nn := by have h_ := congrArg List.length HLF.out; rw [List.length_map, List.length_map] at h_; rw [h_]; rw [List.length_reverse]; exact HRL.out
      exact ⟨_, _, _, lf, g0, g1, g2, g3, rfl, RdL.of (M.out.1).rd hlf_ hcc1, (by rw [drawR1, HLF.out, List.map_reverse, HE1.out, ← HR1.out, List.map_reverse]), (by rw [drawR1]; dsimp only; rw [← List.map_reverse, HR2.out, ← HE2.out]; exact (M.out.2.2.1)), (M.out.2.2.2.2)⟩
end Go.Proofs.Ytgmngkbocpadaaa
