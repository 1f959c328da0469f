/- The walk of BigTells: whatever the arguments, it returns true. -/
import Derived.Test.YtlinegodpoihoaaGreatDoorBase
import Derived.Test.YtlinegodpoihoaaGreatDoorBigSpec
import Derived.Test.YtlinegodpoihoaaGreatDoorBigA
import Derived.Test.YtlinegodpoihoaaGreatDoorBigB
import Derived.Test.YtlinegodpoihoaaGreatDoorBigC
import Derived.Test.YtlinegodpoihoaaGreatDoorBigD
import Derived.Test.YtlinegodpoihoaaGreatDoorBigK
import Derived.Test.YtlinegodpoihoaaGreatDoorBigL
import Derived.Test.YtlinegodpoihoaaGreatDoorBigQ
import Derived.Test.YtlinegodpoihoaaGreatDoorRefS
import Derived.Test.YtlinegodpoihoaaGreatDoorHeld
import Derived.Test.YtlinegodpoihoaaGreatDoorAw
import Derived.Test.YtlinegodpoihoaaGreatDoorBigU
import Derived.Test.YtlinegodpoihoaaGreatDoorBigDec
import Derived.Test.YtlinegodpoihoaaGreatDoorBigRead
import Derived.Test.YtlinegodpoihoaaGreatDoorBigV
import Derived.Test.YtlinegodpoihoaaGreatDoorLaw04a
import Derived.Test.YtlinegodpoihoaaGreatDoorRefR4
import Derived.Test.YtlinegodpoihoaaGreatDoorTelX
import Derived.Test.YtlinegodpoihoaaGreatDoorTelP
import Derived.Test.YtlinegodpoihoaaGreatDoorRefK
import Derived.Test.YtlinegodpoihoaaGreatDoorBigRead3
import Derived.Test.YtlinegodpoihoaaGreatDoorTelU
import Derived.Test.YtlinegodpoihoaaGreatDoorTelV
import Derived.Test.YtlinegodpoihoaaGreatDoorProg
import Derived.Test.YtlinegodpoihoaaGreatDoorShelf
import Derived.WalkKit
import Derived.WalkSpells
import Derived.WalkLawsBesides
import Derived.Handy
import Derived.Lib.Hide
import Derived.Lib.Strings
import Derived.Lib.Builder
import Derived.BigQuiet
import Derived.OwnWalk
import Derived.Laws.BitsLemmas
import Derived.WalkSmall
import Derived.Deep.QuietTactic
import Derived.StillTailTactics
import Derived.Maps.AppendAt
import Derived.IntWalk
import Derived.Deep.RegionHeld3
import Derived.Deep.DeepFit
import Derived.Deep.LoopGhost
import Derived.Deep.DeepCutAuto
import Derived.Lib.ItoaNum
import Derived.Lib.Repeat
import Derived.Lib.AppendIntMem
import Derived.Sort.OwnSorted
import Derived.Shelf.Strings.SlTrimAscii
import Derived.Lib.ConvBytes
import Derived.Lib.CutLaws
namespace Go.Proofs.YtlinegodpoihoaaGreatDoor
open Go.RowKit Go.Lib
variable {G : Nat}

theorem small_04 {w : World} (hG : G ≤ w.heap.size) (ht : Tab w) :
  Calls Tryz.prog 4 #[] w fun e w' => e = .returned (.bool true) ∧ Below w.heap.size w w' := small_ok (G := G) hG ht
theorem dv_less (x y : Int) : (dv x y).natAbs ≤ x.natAbs := by
  rcases Int.lt_trichotomy y 0 with h | h | h
  · have : dv x y = (-x) / (-y) := by unfold dv; rw [← Int.neg_fdiv_neg, Int.fdiv_eq_ediv_of_nonneg _ (by omega)]
    rw [this]; have := Int.natAbs_ediv_le_natAbs (-x) (-y); omega
  · subst h; unfold dv; rw [Int.fdiv_zero]; omega
  · unfold dv; rw [Int.fdiv_eq_ediv_of_nonneg _ (by omega)]; exact Int.natAbs_ediv_le_natAbs x y
theorem md_less {x y : Int} (h : y ≠ 0) : (md x y).natAbs ≤ y.natAbs := by
  have pos : ∀ {x y : Int}, 0 < y → 0 ≤ md x y ∧ md x y < y := fun {x y} h => by
    unfold md; rw [Int.fmod_eq_emod_of_nonneg x (by omega)]
    exact ⟨Int.emod_nonneg x (by omega), Int.emod_lt_of_pos x h⟩
  rcases Int.lt_or_gt_of_ne h with h' | h'
  · have := pos (x := -x) (y := -y) (by omega)
    have e : md (-x) (-y) = -md x y := by unfold md; rw [Int.neg_fmod_neg]
    rw [e] at this; omega
  · have := pos (x := x) h'; omega
theorem gcd_less (x y : Int) {n : Nat} (hx : Sz x n) (hy : Sz y n) : Sz ((Nat.gcd x.natAbs y.natAbs : Nat) : Int) n := by
  by_cases h : x.natAbs = 0
  · refine hy.le ?_; rw [h, Nat.gcd_zero_left]; omega
  · refine hx.le ?_; have := Nat.gcd_le_left y.natAbs (show 0 < x.natAbs by omega); omega
theorem rd_room {l : List UInt8} {n : Nat} (h : l.length ≤ n) : Sz (rdZ l) n := by
  have hn : ∀ t : List UInt8, t.all isDg = true → t.length ≤ n → Sz ((decVal t : Nat) : Int) n := fun t ht hl => by
    have := dec_room (l := t) (k := t.length) (n := n) (by rw [List.take_length]; exact ht) hl
    rw [List.take_length] at this
    exact this
  unfold rdZ readO
  have hlen : (Lib.trimPrefix l [45]).length ≤ l.length := by unfold Lib.trimPrefix; split <;> simp
  by_cases h48 : l = [48]
  · rw [if_pos h48]; show (digs 0).length ≤ n; simp [digs_zero]
  · rw [if_neg h48]
    cases ht : Lib.trimPrefix l [45] with
    | nil => show (digs 0).length ≤ n; simp [digs_zero]
    | cons c r =>
      rw [ht] at hlen
      dsimp only
      split
      · show (digs 0).length ≤ n; simp [digs_zero]
      · split
        · rename_i hd
          split
          · exact (hn _ hd (by omega)).neg
          · exact hn _ hd (by omega)
        · show (digs 0).length ≤ n; simp [digs_zero]
set_option maxRecDepth 100000 in
set_option maxHeartbeats 4000000 in
theorem btells_far {S : ByteArray} {sa sb n : Int} {la lb : List Int} {a1 a2 : Option Addr} {c1 c2 : Nat} {w : World} (hG : G ≤ w.heap.size) (ht : Tab w) (hn : (decide ((la.length : Int) ≤ 62) && (decide ((lb.length : Int) ≤ 62) && !decide (400 < S.size))) = false) :
  Calls Tryz.prog 3 #[.agg #[.int .i64 sa, .slice a1 la.length c1], .agg #[.int .i64 sb, .slice a2 lb.length c2], .int .i64 n, .string S] w fun e w' => e = .returned (.bool true) ∧ Below w.heap.size w w' := by
 obtain ⟨fa, hfa⟩ : ∃ b, decide ((la.length : Int) ≤ 62) = b := ⟨_, rfl⟩
 obtain ⟨fb, hfb⟩ : ∃ b, decide ((lb.length : Int) ≤ 62) = b := ⟨_, rfl⟩
 obtain ⟨bl, hbl⟩ : ∃ b, decide (400 < S.size) = b := ⟨_, rfl⟩
 rw [hfa, hfb, hbl] at hn
 have hbl2 : decide ((400 : Int) < (S.size : Int)) = bl := by rw [← hbl]; congr 1; simp; omega
 have HFa := Lib.hid hfa; have HFb := Lib.hid hfb; have HN := Lib.hid hn; clear hn hfa hfb
 have HT : Hid (Tab w) := ht
 clear ht
 have M : Hid (Below w.heap.size w w) := Below.refl _ _
 go_enter Tryz.func3, Tryz.ntmps3
 go_upto_region 1 with fail
 refine nmW ((w.alloc (.cells #[.int .i64 sa, .slice a1 la.length c1] 24)).alloc (.cells #[.int .i64 sb, .slice a2 lb.length c2] 24)) fun w1 hv => ?_
 rw [← hv]
 replace M := al2W hv M
 clear hv
 go_wp2_with fail
 refine (small_04 (G := G) (Nat.le_trans hG (J2 M).size) (HT.out.keep (J2 M))).mono ?_
 rintro e w2 ⟨rfl, hb⟩
 replace M := gnM hb M
 clear hb
 refine cj2 (J1 M).1.d2 fun aa ab => ?_
 go_wp2_with fail
 clear aa ab
 refine (bigFew_ok (s := sa) (m := 62) (b := fa) HFa.out).mono ?_
 rintro e w3 ⟨rfl, hb⟩
 replace M := gnM hb M
 clear hb
 cases fa with
 | false =>
  go_wp2_with fail
  go_ret
  exact ⟨rfl, (J2 M)⟩
 | true =>
  refine cj2 (M.out.1).d2 fun ac ad => ?_
  go_wp2_with fail
  clear ac ad
  refine (bigFew_ok (s := sb) (m := 62) (b := fb) HFb.out).mono ?_
  rintro e w4 ⟨rfl, hb⟩
  replace M := gnM hb M
  clear hb
  cases fb with
  | false =>
   go_wp2_with fail
   go_ret
   exact ⟨rfl, (J2 M)⟩
  | true =>
   cases bl with
   | false =>
    go_upto_region 4 with fail
    exact absurd HN.out (by decide)
   | true =>
    go_wp2_with fail
    go_ret
    exact ⟨rfl, (J2 M)⟩
theorem bigSame_u {s t : Int} {n k : Nat} {l m : List Int} {a1 a2 : Option Addr} {c1 c2 : Nat} {q : Bool} {w : World} (h1 : RB G w a1 n c1 s l) (h2 : RB G w a2 k c2 t m) (hx : n ≤ 1099511627776) (hy : k ≤ 1099511627776) (hq : (s == t && l == m) = q) :
  Calls Tryz.prog 25 #[.agg #[.int .i64 s, .slice a1 n c1], .agg #[.int .i64 t, .slice a2 k c2]] w fun e w' => e = .returned (.bool q) ∧ Below w.heap.size w w' := by
 obtain rfl := h1.len; obtain rfl := h2.len
 rw [← hq]; exact bigSame_raw h1.rd h2.rd hx hy
theorem rsame_u {s t : Int} {n k : Nat} {l m : List Int} {a1 a2 : Option Addr} {c1 c2 : Nat} {q : Bool} {w : World} (h1 : RB G w a1 n c1 s l) (h2 : RB G w a2 k c2 t m) (hx : n ≤ 1099511627776) (hy : k ≤ 1099511627776) (hq : (s == t && l == m) = q) :
  Calls Tryz.prog 12 #[.agg #[.int .i64 s, .slice a1 n c1], .agg #[.int .i64 t, .slice a2 k c2]] w fun e w' => e = .returned (.bool q) ∧ Below w.heap.size w w' := by
 obtain rfl := h1.len; obtain rfl := h2.len
 rw [← hq]; exact rsame_raw h1.rd h2.rd hx hy
theorem bigRight_u {s : Int} {n c : Nat} {l : List Int} {a : Option Addr} {q : Bool} {w : World} (h : RB G w a n c s l) (hn : n ≤ 1099511627776) (hq : rightB s l = q) :
  Calls Tryz.prog 21 #[.agg #[.int .i64 s, .slice a n c]] w fun e w' => e = .returned (.bool q) ∧ Below w.heap.size w w' := bigRight_x h.rd hn hq
theorem rright_u {s : Int} {n c : Nat} {l : List Int} {a : Option Addr} {q : Bool} {w : World} (h : RB G w a n c s l) (hn : n ≤ 1099511627776) (hq : rightB s l = q) :
  Calls Tryz.prog 22 #[.agg #[.int .i64 s, .slice a n c]] w fun e w' => e = .returned (.bool q) ∧ Below w.heap.size w w' := rright_x h.rd hn hq
set_option maxRecDepth 100000 in
set_option maxHeartbeats 16000000 in
theorem btells_near {S : ByteArray} {l : List UInt8} {sa sb n : Int} {la lb : List Int} {a1 a2 : Option Addr} {c1 c2 : Nat} {w : World} (hG : G ≤ w.heap.size) (ht : Tab w) (h1 : RB G w a1 la.length c1 sa la) (h2 : RB G w a2 lb.length c2 sb lb) (hS : S = ⟨l.toArray⟩) (hlen : l.length ≤ 400) (hfa : decide ((la.length : Int) ≤ 62) = true) (hfb : decide ((lb.length : Int) ≤ 62) = true) (hnn : -9223372036854775808 ≤ n ∧ n ≤ 9223372036854775807) :
  Calls Tryz.prog 3 #[.agg #[.int .i64 sa, .slice a1 la.length c1], .agg #[.int .i64 sb, .slice a2 lb.length c2], .int .i64 n, .string S] w fun e w' => e = .returned (.bool true) ∧ Below w.heap.size w w' := by
 have hsz : ¬ 400 < S.size := by rw [hS]; simp [ByteArray.size]; omega
 have hbl : decide (400 < S.size) = false := decide_eq_false hsz
 have hbl2 : decide ((400 : Int) < (S.size : Int)) = false := decide_eq_false (by omega)
 clear hsz
 obtain ⟨zA, hzA⟩ : ∃ z : Int, opZ (rightB sa la) (rightB sb lb) (zR sa la + zR sb lb) = z := ⟨_, rfl⟩
 obtain ⟨zS, hzS⟩ : ∃ z : Int, opZ (rightB sa la) (rightB sb lb) (zR sa la - zR sb lb) = z := ⟨_, rfl⟩
 obtain ⟨zM, hzM⟩ : ∃ z : Int, opZ (rightB sa la) (rightB sb lb) (zR sa la * zR sb lb) = z := ⟨_, rfl⟩
 obtain ⟨zQ, hzQ⟩ : ∃ z : Int, opD (rightB sa la) (rightB sb lb) (zR sb lb) (dv (zR sa la) (zR sb lb)) = z := ⟨_, rfl⟩
 obtain ⟨zV, hzV⟩ : ∃ z : Int, opD (rightB sa la) (rightB sb lb) (zR sb lb) (md (zR sa la) (zR sb lb)) = z := ⟨_, rfl⟩
 obtain ⟨zG, hzG⟩ : ∃ z : Int, opZ (rightB sa la) (rightB sb lb) ((Nat.gcd (zR sa la).natAbs (zR sb lb).natAbs : Nat) : Int) = z := ⟨_, rfl⟩
 obtain ⟨zC, hzC⟩ : ∃ z : Int, opZ (rightB sa la) (rightB sb lb) (ord (zR sa la) (zR sb lb)) = z := ⟨_, rfl⟩
 obtain ⟨zN, hzN⟩ : ∃ z : Int, -zR sa la = z := ⟨_, rfl⟩
 obtain ⟨zI, hzI⟩ : ∃ z : Int, intZ (rightB sa la) (zR sa la) = z := ⟨_, rfl⟩
 obtain ⟨eO, heO⟩ : ∃ z : Int, opE (rightB sa la) (rightB sb lb) = z := ⟨_, rfl⟩
 obtain ⟨eD, heD⟩ : ∃ z : Int, opDE (rightB sa la) (rightB sb lb) (zR sb lb) = z := ⟨_, rfl⟩
 obtain ⟨zT, hzT⟩ : ∃ z : Int, rdZ l = z := ⟨_, rfl⟩
 obtain ⟨eT, heT⟩ : ∃ z : Int, rdE l = z := ⟨_, rfl⟩
 obtain ⟨qI, hqI⟩ : ∃ b, intB (rightB sa la) (zR sa la) = b := ⟨_, rfl⟩
 obtain ⟨ra, hra⟩ : ∃ b, rightB sa la = b := ⟨_, rfl⟩
 obtain ⟨qS, hqS⟩ : ∃ b, (sa == sb && la == lb) = b := ⟨_, rfl⟩
 obtain ⟨tx, htx⟩ : ∃ t, (if rightB sa la = true then textZ (zR sa la) else []) = t := ⟨_, rfl⟩
 obtain ⟨ga, hga⟩ : ∃ b, decide ((la.length : Int) ≤ 16) = b := ⟨_, rfl⟩
 obtain ⟨gb, hgb⟩ : ∃ b, decide ((lb.length : Int) ≤ 16) = b := ⟨_, rfl⟩
 have hla : la.length ≤ 62 := by have := of_decide_eq_true hfa; omega
 have hlb : lb.length ≤ 62 := by have := of_decide_eq_true hfb; omega
 have HXA := Lib.hid (zR_sz h1 hla); have HXB := Lib.hid (zR_sz h2 hlb)
 have SzA : Hid (Sz zA 63) := by show Sz _ _; rw [← hzA]; exact opZ_sz (HXA.out.add HXB.out)
 have SzS : Hid (Sz zS 63) := by show Sz _ _; rw [← hzS]; exact opZ_sz (HXA.out.sub HXB.out)
 have SzM : Hid (Sz zM 124) := by show Sz _ _; rw [← hzM]; exact opZ_sz (HXA.out.mul HXB.out)
 have SzQ : Hid (Sz zQ 62) := by show Sz _ _; rw [← hzQ]; exact opD_sz (fun _ => HXA.out.le (dv_less _ _))
 have SzV : Hid (Sz zV 62) := by show Sz _ _; rw [← hzV]; exact opD_sz (fun h => HXB.out.le (md_less h))
 have SzG : Hid (Sz zG 62) := by show Sz _ _; rw [← hzG]; exact opZ_sz (gcd_less _ _ HXA.out HXB.out)
 have SzN : Hid (Sz zN 62) := by show Sz _ _; rw [← hzN]; exact HXA.out.neg
 have SzT : Hid (Sz zT 400) := by show Sz _ _; rw [← hzT]; exact rd_room hlen
 have HzA := Lib.hid hzA; have HzS := Lib.hid hzS; have HzM := Lib.hid hzM; have HzQ := Lib.hid hzQ; have HzV := Lib.hid hzV; have HzG := Lib.hid hzG; have HzC := Lib.hid hzC; have HzN := Lib.hid hzN; have HzI := Lib.hid hzI; have HeO := Lib.hid heO; have HeD := Lib.hid heD; have HzT := Lib.hid hzT; have HeT := Lib.hid heT; have HqI := Lib.hid hqI; have Hra := Lib.hid hra; have HqS := Lib.hid hqS; have Htx := Lib.hid htx; have Hga := Lib.hid hga; have Hgb := Lib.hid hgb
 have HFa := Lib.hid hfa; have HFb := Lib.hid hfb; have HS := Lib.hid hS; have HNN := Lib.hid hnn; have HLA := Lib.hid hla; have HLB := Lib.hid hlb; have HLN : Hid (l.length ≤ 1000000) := by show _ ≤ _; omega
 clear hfa hfb hS hnn hla hlb hlen hzA hzS hzM hzQ hzV hzG hzC hzN hzI heO heD hzT heT hqI hra hqS htx hga hgb
 have HT : Hid (Tab w) := ht
 have H1 : Hid (RB G w a1 la.length c1 sa la) := h1
 have H2 : Hid (RB G w a2 lb.length c2 sb lb) := h2
 clear ht h1 h2
 have M : Hid (Below w.heap.size w w) := Below.refl _ _
 go_enter Tryz.func3, Tryz.ntmps3
 go_upto_region 1 with fail
 refine nmW ((w.alloc (.cells #[.int .i64 sa, .slice a1 la.length c1] 24)).alloc (.cells #[.int .i64 sb, .slice a2 lb.length c2] 24)) fun w1 hv => ?_
 rw [← hv]
 replace M := al2W hv M
 clear hv
 go_wp2_with fail
 refine (small_04 (G := G) (Nat.le_trans hG (J2 M).size) (HT.out.keep (J2 M))).mono ?_
 rintro e w2 ⟨rfl, hb⟩
 replace M := gnM hb M
 clear hb
 refine cj2 (J1 M).1.d2 fun aa ab => ?_
 go_wp2_with fail
 clear aa ab
 refine (bigFew_ok (s := sa) (m := 62) (b := true) HFa.out).mono ?_
 rintro e w3 ⟨rfl, hb⟩
 replace M := gnM hb M
 clear hb
 refine cj2 (M.out.1).d2 fun ac ad => ?_
 go_wp2_with fail
 clear ac ad
 refine (bigFew_ok (s := sb) (m := 62) (b := true) HFb.out).mono ?_
 rintro e w4 ⟨rfl, hb⟩
 replace M := gnM hb M
 clear hb
 refine cj2 (J1 M).1.d2 fun aa ab => ?_
 refine cj2 (M.out.1).d2 fun ac ad => ?_
 go_wp2_with fail
 clear aa ab ac ad
 refine (bAdd_u (G := G) (s := sa) (t := sb) (z := zA) (er := eO) (l := la) (m := lb) (H1.out.keep (J2 M)) (H2.out.keep (J2 M)) (Nat.le_trans HLA.out (by decide)) (Nat.le_trans HLB.out (by decide)) HzA.out HeO.out).mono ?_
 rintro e w5 ⟨a_1, c_2, rfl, hd3, hb⟩
 replace M := adM hd3 hb M
 clear hb hd3
 go_upto_region 5 with fail
 refine nmW (w5.alloc (.cells #[.int .i64 (sg zA), .slice a_1 (ln zA) c_2] 24)) fun w6 hv => ?_
 rw [← hv]
 have ow2_ : w.heap.size + 1 < w5.heap.size := ((J1 M).1).lt
 replace M := alM hv M
 clear hv
 refine cj2 (J3 M).1.d2 fun aa ab => ?_
 refine cj2 (J2 M).1.d2 fun ac ad => ?_
 go_wp2_with fail
 clear aa ab ac ad
 refine (rAdd_u (G := G) (s := sa) (t := sb) (z := zA) (er := eO) (l := la) (m := lb) (H1.out.keep (J4 M)) (H2.out.keep (J4 M)) (Nat.le_trans HLA.out (by decide)) (Nat.le_trans HLB.out (by decide)) HzA.out HeO.out).mono ?_
 rintro e w7 ⟨a_4, c_5, rfl, hd6, hb⟩
 replace M := adM hd6 hb M
 clear hb hd6
 go_upto_region 6 with fail
 refine nmW (w7.alloc (.cells #[.int .i64 (sg zA), .slice a_4 (ln zA) c_5] 24)) fun w8 hv => ?_
 rw [← hv]
 have ow3_ : w5.heap.size < w7.heap.size := ((J1 M).1).lt
 replace M := alM hv M
 clear hv
 refine cj2 (J5 M).1.d2 fun aa ab => ?_
 refine cj2 (J4 M).1.d2 fun ac ad => ?_
 go_wp2_with fail
 clear aa ab ac ad
 refine (bSub_u (G := G) (s := sa) (t := sb) (z := zS) (er := eO) (l := la) (m := lb) (Nat.le_trans hG (J6 M).size) (H1.out.keep (J6 M)) (H2.out.keep (J6 M)) (Nat.le_trans HLA.out (by decide)) (Nat.le_trans HLB.out (by decide)) HzS.out HeO.out).mono ?_
 rintro e w9 ⟨a_7, c_8, rfl, hd9, hb⟩
 replace M := adM hd9 hb M
 clear hb hd9
 go_upto_region 7 with fail
 refine nmW (w9.alloc (.cells #[.int .i64 (sg zS), .slice a_7 (ln zS) c_8] 24)) fun w10 hv => ?_
 rw [← hv]
 have ow4_ : w7.heap.size < w9.heap.size := ((J1 M).1).lt
 replace M := alM hv M
 clear hv
 refine cj2 (J7 M).1.d2 fun aa ab => ?_
 refine cj2 (J6 M).1.d2 fun ac ad => ?_
 go_wp2_with fail
 clear aa ab ac ad
 refine (rSub_u (G := G) (s := sa) (t := sb) (z := zS) (er := eO) (l := la) (m := lb) (Nat.le_trans hG (J8 M).size) (H1.out.keep (J8 M)) (H2.out.keep (J8 M)) (Nat.le_trans HLA.out (by decide)) (Nat.le_trans HLB.out (by decide)) HzS.out HeO.out).mono ?_
 rintro e w11 ⟨a_10, c_11, rfl, hd12, hb⟩
 replace M := adM hd12 hb M
 clear hb hd12
 go_upto_region 8 with fail
 refine nmW (w11.alloc (.cells #[.int .i64 (sg zS), .slice a_10 (ln zS) c_11] 24)) fun w12 hv => ?_
 rw [← hv]
 have ow5_ : w9.heap.size < w11.heap.size := ((J1 M).1).lt
 replace M := alM hv M
 clear hv
 refine cj2 (J9 M).1.d2 fun aa ab => ?_
 refine cj2 (J8 M).1.d2 fun ac ad => ?_
 go_wp2_with fail
 clear aa ab ac ad
 refine (bMul_u (G := G) (s := sa) (t := sb) (z := zM) (er := eO) (l := la) (m := lb) (H1.out.keep (J10 M)) (H2.out.keep (J10 M)) (Nat.le_trans HLA.out (by decide)) (Nat.le_trans HLB.out (by decide)) HzM.out HeO.out).mono ?_
 rintro e w13 ⟨a_13, c_14, rfl, hd15, hb⟩
 replace M := adM hd15 hb M
 clear hb hd15
 go_upto_region 9 with fail
 refine nmW (w13.alloc (.cells #[.int .i64 (sg zM), .slice a_13 (ln zM) c_14] 24)) fun w14 hv => ?_
 rw [← hv]
 have ow6_ : w11.heap.size < w13.heap.size := ((J1 M).1).lt
 replace M := alM hv M
 clear hv
 refine cj2 (J11 M).1.d2 fun aa ab => ?_
 refine cj2 (J10 M).1.d2 fun ac ad => ?_
 go_wp2_with fail
 clear aa ab ac ad
 refine (rMul_u (G := G) (s := sa) (t := sb) (z := zM) (er := eO) (l := la) (m := lb) (H1.out.keep (J12 M)) (H2.out.keep (J12 M)) (Nat.le_trans HLA.out (by decide)) (Nat.le_trans HLB.out (by decide)) HzM.out HeO.out).mono ?_
 rintro e w15 ⟨a_16, c_17, rfl, hd18, hb⟩
 replace M := adM hd18 hb M
 clear hb hd18
 go_upto_region 10 with fail
 refine nmW (w15.alloc (.cells #[.int .i64 (sg zM), .slice a_16 (ln zM) c_17] 24)) fun w16 hv => ?_
 rw [← hv]
 have ow7_ : w13.heap.size < w15.heap.size := ((J1 M).1).lt
 replace M := alM hv M
 clear hv
 refine cj2 (J10 M).1.d2 fun ae af => ?_
 refine cj2 (J8 M).1.d2 fun ag ah => ?_
 go_wp2_with fail
 clear ae af ag ah
 refine (rsame_is (G := G) (x := zA) (y := zA) (b := true) (J11 M).1 (J9 M).1 (Sz.mono SzA.out (by omega)) (Sz.mono SzA.out (by omega)) (eqZ_of rfl)).mono ?_
 rintro e w17 ⟨rfl, hb⟩
 replace M := gnM hb M
 clear hb
 refine cj2 (J6 M).1.d2 fun ai aj => ?_
 refine cj2 (J4 M).1.d2 fun ak al => ?_
 go_wp2_with fail
 clear ai aj ak al
 refine (rsame_is (G := G) (x := zS) (y := zS) (b := true) (J7 M).1 (J5 M).1 (Sz.mono SzS.out (by omega)) (Sz.mono SzS.out (by omega)) (eqZ_of rfl)).mono ?_
 rintro e w18 ⟨rfl, hb⟩
 replace M := gnM hb M
 clear hb
 refine cj2 (J2 M).1.d2 fun am ao => ?_
 refine cj2 (M.out.1).d2 fun ap aq => ?_
 go_wp2_with fail
 clear am ao ap aq
 refine (rsame_is (G := G) (x := zM) (y := zM) (b := true) (J3 M).1 (J1 M).1 (Sz.mono SzM.out (by omega)) (Sz.mono SzM.out (by omega)) (eqZ_of rfl)).mono ?_
 rintro e w19 ⟨rfl, hb⟩
 replace M := gnM hb M
 clear hb
 refine cj2 (J13 M).1.d2 fun aa ab => ?_
 refine cj2 (J12 M).1.d2 fun ac ad => ?_
 go_wp2_with fail
 clear aa ab ac ad
 replace M := Lib.hid (aI (J4 M).1 (aI (J5 M).1 (aI (J6 M).1 (aI (J7 M).1 (aI (J8 M).1 (aI (J9 M).1 (aI (J10 M).1 (aI (J11 M).1 (aI (J12 M).1 (aI (J13 M).1 (J14 M)))))))))))
 refine (bDiv_u (G := G) (s := sa) (t := sb) (z := zQ) (v := zV) (er := eD) (l := la) (m := lb) (Nat.le_trans hG (J10 M).size) (H1.out.keep (J10 M)) (H2.out.keep (J10 M)) (Nat.le_trans HLA.out (by decide)) (Nat.le_trans HLB.out (by decide)) HzQ.out HzV.out HeD.out).mono ?_
 rintro e w20 ⟨a_19, c_20, b_21, d_22, rfl, hd23, hd24, hb⟩
 replace M := ad2M hd23 hd24 hb M
 clear hb hd23 hd24
 refine cj4 (J8 M).1.c2 fun ae ar af au => ?_
 refine cj4 (J6 M).1.c2 fun ag av ah aw => ?_
 go_upto_region 13 with fail
 clear ae ar af au ag av ah aw
 have hz : w.heap.size ≤ w5.heap.size := by omega
 refine st2W (.int .i64 (sg zQ)) (.slice a_19 (ln zQ) c_20) (J8 M).1 (J12 M) hz fun w21 hv og hk hbw => ?_
 rw [← hv]
 replace M := Lib.hid (aI ((M.out.1).far (J8 M).1 (by rfl) (by omega) og) (aI ((J1 M).1.far (J8 M).1 (by rfl) (by omega) og) (aI ((J2 M).1.only og (by omega)) (aI ((J3 M).1.far (J8 M).1 (by rfl) (by omega) og) (aI ((J4 M).1.only og (by omega)) (aI ((J5 M).1.far (J8 M).1 (by rfl) (by omega) og) (aI ((J6 M).1.only og (by omega)) (aI ((J7 M).1.far (J8 M).1 (by rfl) (by omega) og) (aI hk (aI ((J9 M).1.far (J8 M).1 (by rfl) (by omega) og) (aI ((J10 M).1.only og (by omega)) (aI ((J11 M).1.only og (by omega)) hbw))))))))))))
 clear hk hbw og hv hz
 have hz : w.heap.size ≤ w7.heap.size := by omega
 refine st2W (.int .i64 (sg zV)) (.slice b_21 (ln zV) d_22) (J6 M).1 (J12 M) hz fun w22 hv og hk hbw => ?_
 rw [← hv]
 replace M := Lib.hid (aI ((M.out.1).far (J6 M).1 (by rfl) (by omega) og) (aI ((J1 M).1.far (J6 M).1 (by rfl) (by omega) og) (aI ((J2 M).1.only og (by omega)) (aI ((J3 M).1.far (J6 M).1 (by rfl) (by omega) og) (aI ((J4 M).1.only og (by omega)) (aI ((J5 M).1.far (J6 M).1 (by rfl) (by omega) og) (aI hk (aI ((J7 M).1.far (J6 M).1 (by rfl) (by omega) og) (aI ((J8 M).1.only og (by omega)) (aI ((J9 M).1.far (J6 M).1 (by rfl) (by omega) og) (aI ((J10 M).1.only og (by omega)) (aI ((J11 M).1.only og (by omega)) hbw))))))))))))
 clear hk hbw og hv hz
 refine cj2 (J11 M).1.d2 fun aa ab => ?_
 refine cj2 (J10 M).1.d2 fun ac ad => ?_
 go_wp2_with fail
 clear aa ab ac ad
 refine (rDiv_u (G := G) (s := sa) (t := sb) (z := zQ) (v := zV) (er := eD) (l := la) (m := lb) (Nat.le_trans hG (J12 M).size) (H1.out.keep (J12 M)) (H2.out.keep (J12 M)) (Nat.le_trans HLA.out (by decide)) (Nat.le_trans HLB.out (by decide)) HzQ.out HzV.out HeD.out).mono ?_
 rintro e w23 ⟨a_25, c_26, b_27, d_28, rfl, hd29, hd30, hb⟩
 replace M := ad2M hd29 hd30 hb M
 clear hb hd29 hd30
 refine cj4 (J6 M).1.c2 fun ai ax aj ay => ?_
 refine cj4 (J4 M).1.c2 fun ak az al ba => ?_
 go_upto_region 14 with fail
 clear ai ax aj ay ak az al ba
 have hz : w.heap.size ≤ w9.heap.size := by omega
 refine st2W (.int .i64 (sg zQ)) (.slice a_25 (ln zQ) c_26) (J6 M).1 (J14 M) hz fun w24 hv og hk hbw => ?_
 rw [← hv]
 replace M := Lib.hid (aI ((M.out.1).far (J6 M).1 (by rfl) (by omega) og) (aI ((J1 M).1.far (J6 M).1 (by rfl) (by omega) og) (aI ((J2 M).1.far (J6 M).1 (by rfl) (by omega) og) (aI ((J3 M).1.far (J6 M).1 (by rfl) (by omega) og) (aI ((J4 M).1.only og (by omega)) (aI ((J5 M).1.far (J6 M).1 (by rfl) (by omega) og) (aI hk (aI ((J7 M).1.far (J6 M).1 (by rfl) (by omega) og) (aI ((J8 M).1.only og (by omega)) (aI ((J9 M).1.far (J6 M).1 (by rfl) (by omega) og) (aI ((J10 M).1.only og (by omega)) (aI ((J11 M).1.far (J6 M).1 (by rfl) (by omega) og) (aI ((J12 M).1.only og (by omega)) (aI ((J13 M).1.only og (by omega)) hbw))))))))))))))
 clear hk hbw og hv hz
 have hz : w.heap.size ≤ w11.heap.size := by omega
 refine st2W (.int .i64 (sg zV)) (.slice b_27 (ln zV) d_28) (J4 M).1 (J14 M) hz fun w25 hv og hk hbw => ?_
 rw [← hv]
 replace M := Lib.hid (aI ((M.out.1).far (J4 M).1 (by rfl) (by omega) og) (aI ((J1 M).1.far (J4 M).1 (by rfl) (by omega) og) (aI ((J2 M).1.far (J4 M).1 (by rfl) (by omega) og) (aI ((J3 M).1.far (J4 M).1 (by rfl) (by omega) og) (aI hk (aI ((J5 M).1.far (J4 M).1 (by rfl) (by omega) og) (aI ((J6 M).1.only og (by omega)) (aI ((J7 M).1.far (J4 M).1 (by rfl) (by omega) og) (aI ((J8 M).1.only og (by omega)) (aI ((J9 M).1.far (J4 M).1 (by rfl) (by omega) og) (aI ((J10 M).1.only og (by omega)) (aI ((J11 M).1.far (J4 M).1 (by rfl) (by omega) og) (aI ((J12 M).1.only og (by omega)) (aI ((J13 M).1.only og (by omega)) hbw))))))))))))))
 clear hk hbw og hv hz
 refine cj2 (J13 M).1.d2 fun aa ab => ?_
 go_wp2_with fail
 clear aa ab
 replace M := Lib.hid (aI (M.out.1) (aI (J1 M).1 (aI (J2 M).1 (aI (J3 M).1 (aI (J4 M).1 (aI (J6 M).1 (aI (J8 M).1 (aI (J10 M).1 (aI (J12 M).1 (aI (J13 M).1 (J14 M)))))))))))
 refine (bInt_u (G := G) (s := sa) (z := zI) (q := qI) (l := la) (H1.out.keep (J10 M)) (Nat.le_trans HLA.out (by decide)) HzI.out HqI.out).mono ?_
 rintro e w26 ⟨rfl, hb⟩
 replace M := gnM hb M
 clear hb
 refine cj2 (J9 M).1.d2 fun aa ab => ?_
 go_wp2_with fail
 clear aa ab
 refine (rInt_u (G := G) (s := sa) (z := zI) (q := qI) (l := la) (H1.out.keep (J10 M)) (Nat.le_trans HLA.out (by decide)) HzI.out HqI.out).mono ?_
 rintro e w27 ⟨rfl, hb⟩
 replace M := gnM hb M
 clear hb
 go_wp2_with fail
 refine (bigRead_v (G := G) (S := S) (l := l) (z := zT) (er := eT) HS.out HLN.out HzT.out HeT.out).mono ?_
 rintro e w28 ⟨a_31, c_32, rfl, hd33, hb⟩
 replace M := adM hd33 hb M
 clear hb hd33
 go_upto_region 17 with fail
 refine nmW (w28.alloc (.cells #[.int .i64 (sg zT), .slice a_31 (ln zT) c_32] 24)) fun w29 hv => ?_
 rw [← hv]
 have ow8_ : w11.heap.size < w28.heap.size := ((J5 M).1).lt
 replace M := alM hv M
 clear hv
 go_wp2_with fail
 refine (rRead_v (G := G) (S := S) (l := l) (z := zT) (er := eT) (Nat.le_trans hG (J12 M).size) HS.out HLN.out HzT.out HeT.out).mono ?_
 rintro e w30 ⟨a_34, c_35, rfl, hd36, hb⟩
 replace M := adM hd36 hb M
 clear hb hd36
 go_upto_region 18 with fail
 refine nmW (w30.alloc (.cells #[.int .i64 (sg zT), .slice a_34 (ln zT) c_35] 24)) fun w31 hv => ?_
 rw [← hv]
 have ow9_ : w28.heap.size < w30.heap.size := ((J1 M).1).lt
 replace M := alM hv M
 clear hv
 refine cj2 (J11 M).1.d2 fun ae af => ?_
 refine cj2 (J9 M).1.d2 fun ai aj => ?_
 go_wp2_with fail
 clear ae af ai aj
 refine (rsame_is (G := G) (x := zQ) (y := zQ) (b := true) (J6 M).1 (J4 M).1 (Sz.mono SzQ.out (by omega)) (Sz.mono SzQ.out (by omega)) (eqZ_of rfl)).mono ?_
 rintro e w32 ⟨rfl, hb⟩
 replace M := gnM hb M
 clear hb
 refine cj2 (J10 M).1.d2 fun ag ah => ?_
 refine cj2 (J8 M).1.d2 fun ak al => ?_
 go_wp2_with fail
 clear ag ah ak al
 replace M := Lib.hid (aI (M.out.1) (aI (J1 M).1 (aI (J2 M).1 (aI (J3 M).1 (aI (J5 M).1 (aI (J7 M).1 (aI (J12 M).1 (aI (J13 M).1 (J14 M)))))))))
 refine (rsame_is (G := G) (x := zV) (y := zV) (b := true) (J5 M).1 (J4 M).1 (Sz.mono SzV.out (by omega)) (Sz.mono SzV.out (by omega)) (eqZ_of rfl)).mono ?_
 rintro e w33 ⟨rfl, hb⟩
 replace M := gnM hb M
 clear hb
 refine cj2 (J2 M).1.d2 fun bb bc => ?_
 refine cj2 (M.out.1).d2 fun bd bf => ?_
 go_wp2_with fail
 clear bb bc bd bf
 replace M := Lib.hid (aI (J1 M).1 (aI (J3 M).1 (aI (J6 M).1 (aI (J7 M).1 (J8 M)))))
 refine (rsame_is (G := G) (x := zT) (y := zT) (b := true) (J1 M).1 (M.out.1) (Sz.mono SzT.out (by omega)) (Sz.mono SzT.out (by omega)) (eqZ_of rfl)).mono ?_
 rintro e w34 ⟨rfl, hb⟩
 replace M := gnM hb M
 clear hb
 refine cj2 (J3 M).1.d2 fun aa ab => ?_
 go_wp2_with fail
 clear aa ab
 refine (bigFew_ok (s := sa) (m := 16) (b := ga) Hga.out).mono ?_
 rintro e w35 ⟨rfl, hb⟩
 replace M := gnM hb M
 clear hb
 cases ga with
 | false =>
  go_wp2_with fail
  replace M := Lib.hid (aI (J2 M).1 (aI (J3 M).1 (J4 M)))
  refine nmW w35.drew fun w36 hv => ?_
  replace M := drM hv M
  refine wp_region_held_drew (S := (fun w' => w'.cell? ⟨w.heap.size, 0, none⟩ = some (.int .i64 sa) ∧ w'.cell? ⟨w.heap.size, 1, none⟩ = some (.slice a1 la.length c1) ∧ w'.cell? ⟨w.heap.size + 1, 0, none⟩ = some (.int .i64 sb) ∧ w'.cell? ⟨w.heap.size + 1, 1, none⟩ = some (.slice a2 lb.length c2))) (by kernel_rfl) (by rw [← hv]; exact ((J1 M).1.t2 ((M.out.1).d2))) (fun hH37 => ?_)
  rw [← hv] at hH37 ⊢
  clear hv
  refine tk at0 ?_
  refine tk at2 ?_
  refine wpAnyH_ready (rs := [1]) (by kernel_rfl) (by simp) ?_
  refine AllReadyH.cons at1 (fun K hK => ?_) AllReadyH.nil
  go_simp
  refine (bigRight_u (G := G) (s := sa) (l := la) (q := ra) (H1.out.keep (J2 M)) (Nat.le_trans HLA.out (by decide)) Hra.out).mono ?_
  rintro e w37 ⟨rfl, hb⟩
  replace M := gnM hb M
  clear hb
  (try go_wp2_with fail)
  refine hK.out _ _ (((J1 M).1.t2 ((M.out.1).d2))) (fun hH38 => ?_)
  clear hK K hH37
  (try simp only [Act.put, List.setIfInBounds_toArray, List.set_cons_zero, List.set_cons_succ])
  refine wpAnyH_ready (rs := [3]) (by kernel_rfl) (by simp) ?_
  refine AllReadyH.cons at3 (fun K hK => ?_) AllReadyH.nil
  go_simp
  refine (rright_u (G := G) (s := sa) (l := la) (q := ra) (H1.out.keep (J2 M)) (Nat.le_trans HLA.out (by decide)) Hra.out).mono ?_
  rintro e w38 ⟨rfl, hb⟩
  replace M := gnM hb M
  clear hb
  (try go_wp2_with fail)
  refine hK.out _ _ (((J1 M).1.t2 ((M.out.1).d2))) (fun hH39 => ?_)
  clear hK K hH38
  (try simp only [Act.put, List.setIfInBounds_toArray, List.set_cons_zero, List.set_cons_succ])
  refine tk at4 ?_
  refine tk at5 ?_
  refine tk at6 ?_
  refine tk at7 ?_
  refine tk at9 ?_
  refine tk at10 ?_
  refine wpAnyH_ready (rs := [8]) (by kernel_rfl) (by simp) ?_
  refine AllReadyH.cons at8 (fun K hK => ?_) AllReadyH.nil
  go_simp
  refine (bCompare_u (G := G) (s := sa) (t := sb) (z := zC) (l := la) (m := lb) (H1.out.keep (J2 M)) (H2.out.keep (J2 M)) (Nat.le_trans HLA.out (by decide)) (Nat.le_trans HLB.out (by decide)) HzC.out).mono ?_
  rintro e w39 ⟨rfl, hb⟩
  replace M := gnM hb M
  clear hb
  (try go_wp2_with fail)
  refine hK.out _ _ (((J1 M).1.t2 ((M.out.1).d2))) (fun hH40 => ?_)
  clear hK K hH39
  (try simp only [Act.put, List.setIfInBounds_toArray, List.set_cons_zero, List.set_cons_succ])
  refine wpAnyH_ready (rs := [11]) (by kernel_rfl) (by simp) ?_
  refine AllReadyH.cons at11 (fun K hK => ?_) AllReadyH.nil
  go_simp
  refine (rCompare_u (G := G) (s := sa) (t := sb) (z := zC) (l := la) (m := lb) (H1.out.keep (J2 M)) (H2.out.keep (J2 M)) (Nat.le_trans HLA.out (by decide)) (Nat.le_trans HLB.out (by decide)) HzC.out).mono ?_
  rintro e w40 ⟨rfl, hb⟩
  replace M := gnM hb M
  clear hb
  (try go_wp2_with fail)
  refine hK.out _ _ (((J1 M).1.t2 ((M.out.1).d2))) (fun hH41 => ?_)
  clear hK K hH40
  (try simp only [Act.put, List.setIfInBounds_toArray, List.set_cons_zero, List.set_cons_succ])
  refine tk at12 ?_
  refine tk at13 ?_
  refine tk at14 ?_
  refine tk at15 ?_
  refine tk at16 ?_
  refine tk at18 ?_
  refine tk at19 ?_
  refine wpAnyH_ready (rs := [17]) (by kernel_rfl) (by simp) ?_
  refine AllReadyH.cons at17 (fun K hK => ?_) AllReadyH.nil
  go_simp
  refine (bigSame_u (G := G) (s := sa) (t := sb) (l := la) (m := lb) (q := qS) (H1.out.keep (J2 M)) (H2.out.keep (J2 M)) (Nat.le_trans HLA.out (by decide)) (Nat.le_trans HLB.out (by decide)) HqS.out).mono ?_
  rintro e w41 ⟨rfl, hb⟩
  replace M := gnM hb M
  clear hb
  (try go_wp2_with fail)
  refine hK.out _ _ (((J1 M).1.t2 ((M.out.1).d2))) (fun hH42 => ?_)
  clear hK K hH41
  (try simp only [Act.put, List.setIfInBounds_toArray, List.set_cons_zero, List.set_cons_succ])
  refine wpAnyH_ready (rs := [20]) (by kernel_rfl) (by simp) ?_
  refine AllReadyH.cons at20 (fun K hK => ?_) AllReadyH.nil
  go_simp
  refine (rsame_u (G := G) (s := sa) (t := sb) (l := la) (m := lb) (q := qS) (H1.out.keep (J2 M)) (H2.out.keep (J2 M)) (Nat.le_trans HLA.out (by decide)) (Nat.le_trans HLB.out (by decide)) HqS.out).mono ?_
  rintro e w42 ⟨rfl, hb⟩
  replace M := gnM hb M
  clear hb
  (try go_wp2_with fail)
  refine hK.out _ _ (((J1 M).1.t2 ((M.out.1).d2))) (fun hH43 => ?_)
  clear hK K hH42
  (try simp only [Act.put, List.setIfInBounds_toArray, List.set_cons_zero, List.set_cons_succ])
  refine tk at21 ?_
  refine tk at22 ?_
  refine tk at23 ?_
  refine tk at24 ?_
  refine tk at26 ?_
  refine wpAnyH_ready (rs := [25]) (by kernel_rfl) (by simp) ?_
  refine AllReadyH.cons at25 (fun K hK => ?_) AllReadyH.nil
  go_simp
  refine (bText_u (G := G) (s := sa) (z := tx) (l := la) (H1.out.keep (J2 M)) (Nat.le_trans HLA.out (by decide)) (HT.out.keep (J2 M)) Htx.out).mono ?_
  rintro e w43 ⟨rfl, hb⟩
  replace M := gnM hb M
  clear hb
  (try go_wp2_with fail)
  refine hK.out _ _ (((J1 M).1.t2 ((M.out.1).d2))) (fun hH44 => ?_)
  clear hK K hH43
  (try simp only [Act.put, List.setIfInBounds_toArray, List.set_cons_zero, List.set_cons_succ])
  refine wpAnyH_ready (rs := [27]) (by kernel_rfl) (by simp) ?_
  refine AllReadyH.cons at27 (fun K hK => ?_) AllReadyH.nil
  go_simp
  refine (rText_u (G := G) (s := sa) (z := tx) (l := la) (H1.out.keep (J2 M)) (Nat.le_trans HLA.out (by decide)) Htx.out).mono ?_
  rintro e w44 ⟨rfl, hb⟩
  replace M := gnM hb M
  clear hb
  (try go_wp2_with fail)
  refine hK.out _ _ (((J1 M).1.t2 ((M.out.1).d2))) (fun hH45 => ?_)
  clear hK K hH44
  (try simp only [Act.put, List.setIfInBounds_toArray, List.set_cons_zero, List.set_cons_succ])
  refine tk at28 ?_
  refine tk at29 ?_
  refine tk at30 ?_
  refine wpAnyH_done (by kernel_rfl) ?_ _
  clear hH45
  go_wp2_with fail
  replace M := Lib.hid (aI (J1 M).1 (J2 M))
  refine nmW w44.drew fun w45 hv => ?_
  replace M := drM hv M
  refine wp_region_held_drew (S := (fun w' => w'.cell? ⟨w.heap.size, 0, none⟩ = some (.int .i64 sa) ∧ w'.cell? ⟨w.heap.size, 1, none⟩ = some (.slice a1 la.length c1))) (by kernel_rfl) (by rw [← hv]; exact (M.out.1).d2) (fun hH58 => ?_)
  rw [← hv] at hH58 ⊢
  clear hv
  refine tk at0 ?_
  refine tk at1 ?_
  refine tk at2 ?_
  refine tk at3 ?_
  refine tk at4 ?_
  refine tk at5 ?_
  refine tk at7 ?_
  refine wpAnyH_ready (rs := [6]) (by kernel_rfl) (by simp) ?_
  refine AllReadyH.cons at6 (fun K hK => ?_) AllReadyH.nil
  go_simp
  refine (bNeg_u (G := G) (s := sa) (z := zN) (l := la) (H1.out.keep (J1 M)) (Nat.le_trans HLA.out (by decide)) HzN.out).mono ?_
  rintro e w46 ⟨a_59, c_60, rfl, hd61, hb⟩
  replace M := adM hd61 hb M
  clear hb hd61
  (try go_wp2_with fail)
  refine hK.out _ _ ((J1 M).1.d2) (fun hH62 => ?_)
  clear hK K hH58
  (try simp only [Act.put, List.setIfInBounds_toArray, List.set_cons_zero, List.set_cons_succ])
  refine wpAnyH_ready (rs := [8]) (by kernel_rfl) (by simp) ?_
  refine AllReadyH.cons at8 (fun K hK => ?_) AllReadyH.nil
  go_simp
  refine (rNeg_u (G := G) (s := sa) (z := zN) (l := la) (H1.out.keep (J2 M)) (Nat.le_trans HLA.out (by decide)) HzN.out).mono ?_
  rintro e w47 ⟨a_63, c_64, rfl, hd65, hb⟩
  replace M := adM hd65 hb M
  clear hb hd65
  (try go_wp2_with fail)
  refine hK.out _ _ ((J2 M).1.d2) (fun hH66 => ?_)
  clear hK K hH62
  (try simp only [Act.put, List.setIfInBounds_toArray, List.set_cons_zero, List.set_cons_succ])
  refine wpAnyH_ready (rs := [9]) (by kernel_rfl) (by simp) ?_
  refine AllReadyH.cons at9 (fun K hK => ?_) AllReadyH.nil
  go_simp
  refine (rsame_is (G := G) (x := zN) (y := zN) (b := true) (J1 M).1 (M.out.1) (Sz.mono SzN.out (by omega)) (Sz.mono SzN.out (by omega)) (eqZ_of rfl)).mono ?_
  rintro e w48 ⟨rfl, hb⟩
  replace M := gnM hb M
  clear hb
  (try go_wp2_with fail)
  refine hK.out _ _ ((J2 M).1.d2) (fun hH67 => ?_)
  clear hK K hH66
  (try simp only [Act.put, List.setIfInBounds_toArray, List.set_cons_zero, List.set_cons_succ])
  refine tk at10 ?_
  refine tk at11 ?_
  refine tk at12 ?_
  refine tk at14 ?_
  refine wpAnyH_ready (rs := [13]) (by kernel_rfl) (by simp) ?_
  refine AllReadyH.cons at13 (fun K hK => ?_) AllReadyH.nil
  go_simp
  refine (bigOf_ok (G := G) n _ HNN.out).mono ?_
  rintro e w49 ⟨a_68, c_69, rfl, hd70, hb⟩
  replace M := adM hd70 hb M
  clear hb hd70
  (try go_wp2_with fail)
  refine hK.out _ _ ((J3 M).1.d2) (fun hH71 => ?_)
  clear hK K hH67
  (try simp only [Act.put, List.setIfInBounds_toArray, List.set_cons_zero, List.set_cons_succ])
  refine wpAnyH_ready (rs := [15]) (by kernel_rfl) (by simp) ?_
  refine AllReadyH.cons at15 (fun K hK => ?_) AllReadyH.nil
  go_simp
  refine (rof_ok (G := G) n _ HNN.out).mono ?_
  rintro e w50 ⟨a_72, c_73, rfl, hd74, hb⟩
  replace M := adM hd74 hb M
  clear hb hd74
  (try go_wp2_with fail)
  refine hK.out _ _ ((J4 M).1.d2) (fun hH75 => ?_)
  clear hK K hH71
  (try simp only [Act.put, List.setIfInBounds_toArray, List.set_cons_zero, List.set_cons_succ])
  refine wpAnyH_ready (rs := [16]) (by kernel_rfl) (by simp) ?_
  refine AllReadyH.cons at16 (fun K hK => ?_) AllReadyH.nil
  go_simp
  refine (rsame_is (G := G) (x := n) (y := n) (b := true) (J1 M).1 (M.out.1) (Sz.mono (Sz.i64 HNN.out) (by omega)) (Sz.mono (Sz.i64 HNN.out) (by omega)) (eqZ_of rfl)).mono ?_
  rintro e w51 ⟨rfl, hb⟩
  replace M := gnM hb M
  clear hb
  (try go_wp2_with fail)
  refine hK.out _ _ ((J4 M).1.d2) (fun hH76 => ?_)
  clear hK K hH75
  (try simp only [Act.put, List.setIfInBounds_toArray, List.set_cons_zero, List.set_cons_succ])
  refine tk at17 ?_
  refine tk at18 ?_
  refine wpAnyH_done (by kernel_rfl) ?_ _
  clear hH76
  go_wp2_with fail
  go_ret
  exact ⟨rfl, (J5 M)⟩
 | true =>
  refine cj2 (J2 M).1.d2 fun ac ad => ?_
  go_wp2_with fail
  clear ac ad
  refine (bigFew_ok (s := sb) (m := 16) (b := gb) Hgb.out).mono ?_
  rintro e w36 ⟨rfl, hb⟩
  replace M := gnM hb M
  clear hb
  cases gb with
  | false =>
   go_wp2_with fail
   replace M := Lib.hid (aI (J2 M).1 (aI (J3 M).1 (J4 M)))
   refine nmW w36.drew fun w37 hv => ?_
   replace M := drM hv M
   refine wp_region_held_drew (S := (fun w' => w'.cell? ⟨w.heap.size, 0, none⟩ = some (.int .i64 sa) ∧ w'.cell? ⟨w.heap.size, 1, none⟩ = some (.slice a1 la.length c1) ∧ w'.cell? ⟨w.heap.size + 1, 0, none⟩ = some (.int .i64 sb) ∧ w'.cell? ⟨w.heap.size + 1, 1, none⟩ = some (.slice a2 lb.length c2))) (by kernel_rfl) (by rw [← hv]; exact ((J1 M).1.t2 ((M.out.1).d2))) (fun hH77 => ?_)
   rw [← hv] at hH77 ⊢
   clear hv
   refine tk at0 ?_
   refine tk at2 ?_
   refine wpAnyH_ready (rs := [1]) (by kernel_rfl) (by simp) ?_
   refine AllReadyH.cons at1 (fun K hK => ?_) AllReadyH.nil
   go_simp
   refine (bigRight_u (G := G) (s := sa) (l := la) (q := ra) (H1.out.keep (J2 M)) (Nat.le_trans HLA.out (by decide)) Hra.out).mono ?_
   rintro e w38 ⟨rfl, hb⟩
   replace M := gnM hb M
   clear hb
   (try go_wp2_with fail)
   refine hK.out _ _ (((J1 M).1.t2 ((M.out.1).d2))) (fun hH78 => ?_)
   clear hK K hH77
   (try simp only [Act.put, List.setIfInBounds_toArray, List.set_cons_zero, List.set_cons_succ])
   refine wpAnyH_ready (rs := [3]) (by kernel_rfl) (by simp) ?_
   refine AllReadyH.cons at3 (fun K hK => ?_) AllReadyH.nil
   go_simp
   refine (rright_u (G := G) (s := sa) (l := la) (q := ra) (H1.out.keep (J2 M)) (Nat.le_trans HLA.out (by decide)) Hra.out).mono ?_
   rintro e w39 ⟨rfl, hb⟩
   replace M := gnM hb M
   clear hb
   (try go_wp2_with fail)
   refine hK.out _ _ (((J1 M).1.t2 ((M.out.1).d2))) (fun hH79 => ?_)
   clear hK K hH78
   (try simp only [Act.put, List.setIfInBounds_toArray, List.set_cons_zero, List.set_cons_succ])
   refine tk at4 ?_
   refine tk at5 ?_
   refine tk at6 ?_
   refine tk at7 ?_
   refine tk at9 ?_
   refine tk at10 ?_
   refine wpAnyH_ready (rs := [8]) (by kernel_rfl) (by simp) ?_
   refine AllReadyH.cons at8 (fun K hK => ?_) AllReadyH.nil
   go_simp
   refine (bCompare_u (G := G) (s := sa) (t := sb) (z := zC) (l := la) (m := lb) (H1.out.keep (J2 M)) (H2.out.keep (J2 M)) (Nat.le_trans HLA.out (by decide)) (Nat.le_trans HLB.out (by decide)) HzC.out).mono ?_
   rintro e w40 ⟨rfl, hb⟩
   replace M := gnM hb M
   clear hb
   (try go_wp2_with fail)
   refine hK.out _ _ (((J1 M).1.t2 ((M.out.1).d2))) (fun hH80 => ?_)
   clear hK K hH79
   (try simp only [Act.put, List.setIfInBounds_toArray, List.set_cons_zero, List.set_cons_succ])
   refine wpAnyH_ready (rs := [11]) (by kernel_rfl) (by simp) ?_
   refine AllReadyH.cons at11 (fun K hK => ?_) AllReadyH.nil
   go_simp
   refine (rCompare_u (G := G) (s := sa) (t := sb) (z := zC) (l := la) (m := lb) (H1.out.keep (J2 M)) (H2.out.keep (J2 M)) (Nat.le_trans HLA.out (by decide)) (Nat.le_trans HLB.out (by decide)) HzC.out).mono ?_
   rintro e w41 ⟨rfl, hb⟩
   replace M := gnM hb M
   clear hb
   (try go_wp2_with fail)
   refine hK.out _ _ (((J1 M).1.t2 ((M.out.1).d2))) (fun hH81 => ?_)
   clear hK K hH80
   (try simp only [Act.put, List.setIfInBounds_toArray, List.set_cons_zero, List.set_cons_succ])
   refine tk at12 ?_
   refine tk at13 ?_
   refine tk at14 ?_
   refine tk at15 ?_
   refine tk at16 ?_
   refine tk at18 ?_
   refine tk at19 ?_
   refine wpAnyH_ready (rs := [17]) (by kernel_rfl) (by simp) ?_
   refine AllReadyH.cons at17 (fun K hK => ?_) AllReadyH.nil
   go_simp
   refine (bigSame_u (G := G) (s := sa) (t := sb) (l := la) (m := lb) (q := qS) (H1.out.keep (J2 M)) (H2.out.keep (J2 M)) (Nat.le_trans HLA.out (by decide)) (Nat.le_trans HLB.out (by decide)) HqS.out).mono ?_
   rintro e w42 ⟨rfl, hb⟩
   replace M := gnM hb M
   clear hb
   (try go_wp2_with fail)
   refine hK.out _ _ (((J1 M).1.t2 ((M.out.1).d2))) (fun hH82 => ?_)
   clear hK K hH81
   (try simp only [Act.put, List.setIfInBounds_toArray, List.set_cons_zero, List.set_cons_succ])
   refine wpAnyH_ready (rs := [20]) (by kernel_rfl) (by simp) ?_
   refine AllReadyH.cons at20 (fun K hK => ?_) AllReadyH.nil
   go_simp
   refine (rsame_u (G := G) (s := sa) (t := sb) (l := la) (m := lb) (q := qS) (H1.out.keep (J2 M)) (H2.out.keep (J2 M)) (Nat.le_trans HLA.out (by decide)) (Nat.le_trans HLB.out (by decide)) HqS.out).mono ?_
   rintro e w43 ⟨rfl, hb⟩
   replace M := gnM hb M
   clear hb
   (try go_wp2_with fail)
   refine hK.out _ _ (((J1 M).1.t2 ((M.out.1).d2))) (fun hH83 => ?_)
   clear hK K hH82
   (try simp only [Act.put, List.setIfInBounds_toArray, List.set_cons_zero, List.set_cons_succ])
   refine tk at21 ?_
   refine tk at22 ?_
   refine tk at23 ?_
   refine tk at24 ?_
   refine tk at26 ?_
   refine wpAnyH_ready (rs := [25]) (by kernel_rfl) (by simp) ?_
   refine AllReadyH.cons at25 (fun K hK => ?_) AllReadyH.nil
   go_simp
   refine (bText_u (G := G) (s := sa) (z := tx) (l := la) (H1.out.keep (J2 M)) (Nat.le_trans HLA.out (by decide)) (HT.out.keep (J2 M)) Htx.out).mono ?_
   rintro e w44 ⟨rfl, hb⟩
   replace M := gnM hb M
   clear hb
   (try go_wp2_with fail)
   refine hK.out _ _ (((J1 M).1.t2 ((M.out.1).d2))) (fun hH84 => ?_)
   clear hK K hH83
   (try simp only [Act.put, List.setIfInBounds_toArray, List.set_cons_zero, List.set_cons_succ])
   refine wpAnyH_ready (rs := [27]) (by kernel_rfl) (by simp) ?_
   refine AllReadyH.cons at27 (fun K hK => ?_) AllReadyH.nil
   go_simp
   refine (rText_u (G := G) (s := sa) (z := tx) (l := la) (H1.out.keep (J2 M)) (Nat.le_trans HLA.out (by decide)) Htx.out).mono ?_
   rintro e w45 ⟨rfl, hb⟩
   replace M := gnM hb M
   clear hb
   (try go_wp2_with fail)
   refine hK.out _ _ (((J1 M).1.t2 ((M.out.1).d2))) (fun hH85 => ?_)
   clear hK K hH84
   (try simp only [Act.put, List.setIfInBounds_toArray, List.set_cons_zero, List.set_cons_succ])
   refine tk at28 ?_
   refine tk at29 ?_
   refine tk at30 ?_
   refine wpAnyH_done (by kernel_rfl) ?_ _
   clear hH85
   go_wp2_with fail
   replace M := Lib.hid (aI (J1 M).1 (J2 M))
   refine nmW w45.drew fun w46 hv => ?_
   replace M := drM hv M
   refine wp_region_held_drew (S := (fun w' => w'.cell? ⟨w.heap.size, 0, none⟩ = some (.int .i64 sa) ∧ w'.cell? ⟨w.heap.size, 1, none⟩ = some (.slice a1 la.length c1))) (by kernel_rfl) (by rw [← hv]; exact (M.out.1).d2) (fun hH98 => ?_)
   rw [← hv] at hH98 ⊢
   clear hv
   refine tk at0 ?_
   refine tk at1 ?_
   refine tk at2 ?_
   refine tk at3 ?_
   refine tk at4 ?_
   refine tk at5 ?_
   refine tk at7 ?_
   refine wpAnyH_ready (rs := [6]) (by kernel_rfl) (by simp) ?_
   refine AllReadyH.cons at6 (fun K hK => ?_) AllReadyH.nil
   go_simp
   refine (bNeg_u (G := G) (s := sa) (z := zN) (l := la) (H1.out.keep (J1 M)) (Nat.le_trans HLA.out (by decide)) HzN.out).mono ?_
   rintro e w47 ⟨a_99, c_100, rfl, hd101, hb⟩
   replace M := adM hd101 hb M
   clear hb hd101
   (try go_wp2_with fail)
   refine hK.out _ _ ((J1 M).1.d2) (fun hH102 => ?_)
   clear hK K hH98
   (try simp only [Act.put, List.setIfInBounds_toArray, List.set_cons_zero, List.set_cons_succ])
   refine wpAnyH_ready (rs := [8]) (by kernel_rfl) (by simp) ?_
   refine AllReadyH.cons at8 (fun K hK => ?_) AllReadyH.nil
   go_simp
   refine (rNeg_u (G := G) (s := sa) (z := zN) (l := la) (H1.out.keep (J2 M)) (Nat.le_trans HLA.out (by decide)) HzN.out).mono ?_
   rintro e w48 ⟨a_103, c_104, rfl, hd105, hb⟩
   replace M := adM hd105 hb M
   clear hb hd105
   (try go_wp2_with fail)
   refine hK.out _ _ ((J2 M).1.d2) (fun hH106 => ?_)
   clear hK K hH102
   (try simp only [Act.put, List.setIfInBounds_toArray, List.set_cons_zero, List.set_cons_succ])
   refine wpAnyH_ready (rs := [9]) (by kernel_rfl) (by simp) ?_
   refine AllReadyH.cons at9 (fun K hK => ?_) AllReadyH.nil
   go_simp
   refine (rsame_is (G := G) (x := zN) (y := zN) (b := true) (J1 M).1 (M.out.1) (Sz.mono SzN.out (by omega)) (Sz.mono SzN.out (by omega)) (eqZ_of rfl)).mono ?_
   rintro e w49 ⟨rfl, hb⟩
   replace M := gnM hb M
   clear hb
   (try go_wp2_with fail)
   refine hK.out _ _ ((J2 M).1.d2) (fun hH107 => ?_)
   clear hK K hH106
   (try simp only [Act.put, List.setIfInBounds_toArray, List.set_cons_zero, List.set_cons_succ])
   refine tk at10 ?_
   refine tk at11 ?_
   refine tk at12 ?_
   refine tk at14 ?_
   refine wpAnyH_ready (rs := [13]) (by kernel_rfl) (by simp) ?_
   refine AllReadyH.cons at13 (fun K hK => ?_) AllReadyH.nil
   go_simp
   refine (bigOf_ok (G := G) n _ HNN.out).mono ?_
   rintro e w50 ⟨a_108, c_109, rfl, hd110, hb⟩
   replace M := adM hd110 hb M
   clear hb hd110
   (try go_wp2_with fail)
   refine hK.out _ _ ((J3 M).1.d2) (fun hH111 => ?_)
   clear hK K hH107
   (try simp only [Act.put, List.setIfInBounds_toArray, List.set_cons_zero, List.set_cons_succ])
   refine wpAnyH_ready (rs := [15]) (by kernel_rfl) (by simp) ?_
   refine AllReadyH.cons at15 (fun K hK => ?_) AllReadyH.nil
   go_simp
   refine (rof_ok (G := G) n _ HNN.out).mono ?_
   rintro e w51 ⟨a_112, c_113, rfl, hd114, hb⟩
   replace M := adM hd114 hb M
   clear hb hd114
   (try go_wp2_with fail)
   refine hK.out _ _ ((J4 M).1.d2) (fun hH115 => ?_)
   clear hK K hH111
   (try simp only [Act.put, List.setIfInBounds_toArray, List.set_cons_zero, List.set_cons_succ])
   refine wpAnyH_ready (rs := [16]) (by kernel_rfl) (by simp) ?_
   refine AllReadyH.cons at16 (fun K hK => ?_) AllReadyH.nil
   go_simp
   refine (rsame_is (G := G) (x := n) (y := n) (b := true) (J1 M).1 (M.out.1) (Sz.mono (Sz.i64 HNN.out) (by omega)) (Sz.mono (Sz.i64 HNN.out) (by omega)) (eqZ_of rfl)).mono ?_
   rintro e w52 ⟨rfl, hb⟩
   replace M := gnM hb M
   clear hb
   (try go_wp2_with fail)
   refine hK.out _ _ ((J4 M).1.d2) (fun hH116 => ?_)
   clear hK K hH115
   (try simp only [Act.put, List.setIfInBounds_toArray, List.set_cons_zero, List.set_cons_succ])
   refine tk at17 ?_
   refine tk at18 ?_
   refine wpAnyH_done (by kernel_rfl) ?_ _
   clear hH116
   go_wp2_with fail
   go_ret
   exact ⟨rfl, (J5 M)⟩
  | true =>
   refine cj2 (J3 M).1.d2 fun aa ab => ?_
   refine cj2 (J2 M).1.d2 fun ac ad => ?_
   go_wp2_with fail
   clear aa ab ac ad
   refine (bGcd_u (G := G) (s := sa) (t := sb) (z := zG) (er := eO) (l := la) (m := lb) (H1.out.keep (J4 M)) (H2.out.keep (J4 M)) (Nat.le_trans HLA.out (by decide)) (Nat.le_trans HLB.out (by decide)) HzG.out HeO.out).mono ?_
   rintro e w37 ⟨a_117, c_118, rfl, hd119, hb⟩
   replace M := adM hd119 hb M
   clear hb hd119
   go_upto_region 22 with fail
   refine nmW (w37.alloc (.cells #[.int .i64 (sg zG), .slice a_117 (ln zG) c_118] 24)) fun w38 hv => ?_
   rw [← hv]
   have ow10_ : w.heap.size + 1 < w37.heap.size := ((J3 M).1).lt
   replace M := alM hv M
   clear hv
   refine cj2 (J5 M).1.d2 fun aa ab => ?_
   refine cj2 (J4 M).1.d2 fun ac ad => ?_
   go_wp2_with fail
   clear aa ab ac ad
   refine (rGcd_u (G := G) (s := sa) (t := sb) (z := zG) (er := eO) (l := la) (m := lb) (H1.out.keep (J6 M)) (H2.out.keep (J6 M)) (Nat.le_trans HLA.out (by decide)) (Nat.le_trans HLB.out (by decide)) HzG.out HeO.out).mono ?_
   rintro e w39 ⟨a_120, c_121, rfl, hd122, hb⟩
   replace M := adM hd122 hb M
   clear hb hd122
   go_upto_region 23 with fail
   refine nmW (w39.alloc (.cells #[.int .i64 (sg zG), .slice a_120 (ln zG) c_121] 24)) fun w40 hv => ?_
   rw [← hv]
   have ow11_ : w37.heap.size < w39.heap.size := ((J1 M).1).lt
   replace M := alM hv M
   clear hv
   refine cj2 (J2 M).1.d2 fun bg bh => ?_
   refine cj2 (M.out.1).d2 fun bi bj => ?_
   go_wp2_with fail
   clear bg bh bi bj
   replace M := Lib.hid (aI (J1 M).1 (aI (J3 M).1 (aI (J6 M).1 (aI (J7 M).1 (J8 M)))))
   refine (rsame_is (G := G) (x := zG) (y := zG) (b := true) (J1 M).1 (M.out.1) (Sz.mono SzG.out (by omega)) (Sz.mono SzG.out (by omega)) (eqZ_of rfl)).mono ?_
   rintro e w41 ⟨rfl, hb⟩
   replace M := gnM hb M
   clear hb
   go_wp2_with fail
   replace M := Lib.hid (aI (J2 M).1 (aI (J3 M).1 (J4 M)))
   refine nmW w41.drew fun w42 hv => ?_
   replace M := drM hv M
   refine wp_region_held_drew (S := (fun w' => w'.cell? ⟨w.heap.size, 0, none⟩ = some (.int .i64 sa) ∧ w'.cell? ⟨w.heap.size, 1, none⟩ = some (.slice a1 la.length c1) ∧ w'.cell? ⟨w.heap.size + 1, 0, none⟩ = some (.int .i64 sb) ∧ w'.cell? ⟨w.heap.size + 1, 1, none⟩ = some (.slice a2 lb.length c2))) (by kernel_rfl) (by rw [← hv]; exact ((J1 M).1.t2 ((M.out.1).d2))) (fun hH123 => ?_)
   rw [← hv] at hH123 ⊢
   clear hv
   refine tk at0 ?_
   refine tk at2 ?_
   refine wpAnyH_ready (rs := [1]) (by kernel_rfl) (by simp) ?_
   refine AllReadyH.cons at1 (fun K hK => ?_) AllReadyH.nil
   go_simp
   refine (bigRight_u (G := G) (s := sa) (l := la) (q := ra) (H1.out.keep (J2 M)) (Nat.le_trans HLA.out (by decide)) Hra.out).mono ?_
   rintro e w43 ⟨rfl, hb⟩
   replace M := gnM hb M
   clear hb
   (try go_wp2_with fail)
   refine hK.out _ _ (((J1 M).1.t2 ((M.out.1).d2))) (fun hH124 => ?_)
   clear hK K hH123
   (try simp only [Act.put, List.setIfInBounds_toArray, List.set_cons_zero, List.set_cons_succ])
   refine wpAnyH_ready (rs := [3]) (by kernel_rfl) (by simp) ?_
   refine AllReadyH.cons at3 (fun K hK => ?_) AllReadyH.nil
   go_simp
   refine (rright_u (G := G) (s := sa) (l := la) (q := ra) (H1.out.keep (J2 M)) (Nat.le_trans HLA.out (by decide)) Hra.out).mono ?_
   rintro e w44 ⟨rfl, hb⟩
   replace M := gnM hb M
   clear hb
   (try go_wp2_with fail)
   refine hK.out _ _ (((J1 M).1.t2 ((M.out.1).d2))) (fun hH125 => ?_)
   clear hK K hH124
   (try simp only [Act.put, List.setIfInBounds_toArray, List.set_cons_zero, List.set_cons_succ])
   refine tk at4 ?_
   refine tk at5 ?_
   refine tk at6 ?_
   refine tk at7 ?_
   refine tk at9 ?_
   refine tk at10 ?_
   refine wpAnyH_ready (rs := [8]) (by kernel_rfl) (by simp) ?_
   refine AllReadyH.cons at8 (fun K hK => ?_) AllReadyH.nil
   go_simp
   refine (bCompare_u (G := G) (s := sa) (t := sb) (z := zC) (l := la) (m := lb) (H1.out.keep (J2 M)) (H2.out.keep (J2 M)) (Nat.le_trans HLA.out (by decide)) (Nat.le_trans HLB.out (by decide)) HzC.out).mono ?_
   rintro e w45 ⟨rfl, hb⟩
   replace M := gnM hb M
   clear hb
   (try go_wp2_with fail)
   refine hK.out _ _ (((J1 M).1.t2 ((M.out.1).d2))) (fun hH126 => ?_)
   clear hK K hH125
   (try simp only [Act.put, List.setIfInBounds_toArray, List.set_cons_zero, List.set_cons_succ])
   refine wpAnyH_ready (rs := [11]) (by kernel_rfl) (by simp) ?_
   refine AllReadyH.cons at11 (fun K hK => ?_) AllReadyH.nil
   go_simp
   refine (rCompare_u (G := G) (s := sa) (t := sb) (z := zC) (l := la) (m := lb) (H1.out.keep (J2 M)) (H2.out.keep (J2 M)) (Nat.le_trans HLA.out (by decide)) (Nat.le_trans HLB.out (by decide)) HzC.out).mono ?_
   rintro e w46 ⟨rfl, hb⟩
   replace M := gnM hb M
   clear hb
   (try go_wp2_with fail)
   refine hK.out _ _ (((J1 M).1.t2 ((M.out.1).d2))) (fun hH127 => ?_)
   clear hK K hH126
   (try simp only [Act.put, List.setIfInBounds_toArray, List.set_cons_zero, List.set_cons_succ])
   refine tk at12 ?_
   refine tk at13 ?_
   refine tk at14 ?_
   refine tk at15 ?_
   refine tk at16 ?_
   refine tk at18 ?_
   refine tk at19 ?_
   refine wpAnyH_ready (rs := [17]) (by kernel_rfl) (by simp) ?_
   refine AllReadyH.cons at17 (fun K hK => ?_) AllReadyH.nil
   go_simp
   refine (bigSame_u (G := G) (s := sa) (t := sb) (l := la) (m := lb) (q := qS) (H1.out.keep (J2 M)) (H2.out.keep (J2 M)) (Nat.le_trans HLA.out (by decide)) (Nat.le_trans HLB.out (by decide)) HqS.out).mono ?_
   rintro e w47 ⟨rfl, hb⟩
   replace M := gnM hb M
   clear hb
   (try go_wp2_with fail)
   refine hK.out _ _ (((J1 M).1.t2 ((M.out.1).d2))) (fun hH128 => ?_)
   clear hK K hH127
   (try simp only [Act.put, List.setIfInBounds_toArray, List.set_cons_zero, List.set_cons_succ])
   refine wpAnyH_ready (rs := [20]) (by kernel_rfl) (by simp) ?_
   refine AllReadyH.cons at20 (fun K hK => ?_) AllReadyH.nil
   go_simp
   refine (rsame_u (G := G) (s := sa) (t := sb) (l := la) (m := lb) (q := qS) (H1.out.keep (J2 M)) (H2.out.keep (J2 M)) (Nat.le_trans HLA.out (by decide)) (Nat.le_trans HLB.out (by decide)) HqS.out).mono ?_
   rintro e w48 ⟨rfl, hb⟩
   replace M := gnM hb M
   clear hb
   (try go_wp2_with fail)
   refine hK.out _ _ (((J1 M).1.t2 ((M.out.1).d2))) (fun hH129 => ?_)
   clear hK K hH128
   (try simp only [Act.put, List.setIfInBounds_toArray, List.set_cons_zero, List.set_cons_succ])
   refine tk at21 ?_
   refine tk at22 ?_
   refine tk at23 ?_
   refine tk at24 ?_
   refine tk at26 ?_
   refine wpAnyH_ready (rs := [25]) (by kernel_rfl) (by simp) ?_
   refine AllReadyH.cons at25 (fun K hK => ?_) AllReadyH.nil
   go_simp
   refine (bText_u (G := G) (s := sa) (z := tx) (l := la) (H1.out.keep (J2 M)) (Nat.le_trans HLA.out (by decide)) (HT.out.keep (J2 M)) Htx.out).mono ?_
   rintro e w49 ⟨rfl, hb⟩
   replace M := gnM hb M
   clear hb
   (try go_wp2_with fail)
   refine hK.out _ _ (((J1 M).1.t2 ((M.out.1).d2))) (fun hH130 => ?_)
   clear hK K hH129
   (try simp only [Act.put, List.setIfInBounds_toArray, List.set_cons_zero, List.set_cons_succ])
   refine wpAnyH_ready (rs := [27]) (by kernel_rfl) (by simp) ?_
   refine AllReadyH.cons at27 (fun K hK => ?_) AllReadyH.nil
   go_simp
   refine (rText_u (G := G) (s := sa) (z := tx) (l := la) (H1.out.keep (J2 M)) (Nat.le_trans HLA.out (by decide)) Htx.out).mono ?_
   rintro e w50 ⟨rfl, hb⟩
   replace M := gnM hb M
   clear hb
   (try go_wp2_with fail)
   refine hK.out _ _ (((J1 M).1.t2 ((M.out.1).d2))) (fun hH131 => ?_)
   clear hK K hH130
   (try simp only [Act.put, List.setIfInBounds_toArray, List.set_cons_zero, List.set_cons_succ])
   refine tk at28 ?_
   refine tk at29 ?_
   refine tk at30 ?_
   refine wpAnyH_done (by kernel_rfl) ?_ _
   clear hH131
   go_wp2_with fail
   replace M := Lib.hid (aI (J1 M).1 (J2 M))
   refine nmW w50.drew fun w51 hv => ?_
   replace M := drM hv M
   refine wp_region_held_drew (S := (fun w' => w'.cell? ⟨w.heap.size, 0, none⟩ = some (.int .i64 sa) ∧ w'.cell? ⟨w.heap.size, 1, none⟩ = some (.slice a1 la.length c1))) (by kernel_rfl) (by rw [← hv]; exact (M.out.1).d2) (fun hH144 => ?_)
   rw [← hv] at hH144 ⊢
   clear hv
   refine tk at0 ?_
   refine tk at1 ?_
   refine tk at2 ?_
   refine tk at3 ?_
   refine tk at4 ?_
   refine tk at5 ?_
   refine tk at7 ?_
   refine wpAnyH_ready (rs := [6]) (by kernel_rfl) (by simp) ?_
   refine AllReadyH.cons at6 (fun K hK => ?_) AllReadyH.nil
   go_simp
   refine (bNeg_u (G := G) (s := sa) (z := zN) (l := la) (H1.out.keep (J1 M)) (Nat.le_trans HLA.out (by decide)) HzN.out).mono ?_
   rintro e w52 ⟨a_145, c_146, rfl, hd147, hb⟩
   replace M := adM hd147 hb M
   clear hb hd147
   (try go_wp2_with fail)
   refine hK.out _ _ ((J1 M).1.d2) (fun hH148 => ?_)
   clear hK K hH144
   (try simp only [Act.put, List.setIfInBounds_toArray, List.set_cons_zero, List.set_cons_succ])
   refine wpAnyH_ready (rs := [8]) (by kernel_rfl) (by simp) ?_
   refine AllReadyH.cons at8 (fun K hK => ?_) AllReadyH.nil
   go_simp
   refine (rNeg_u (G := G) (s := sa) (z := zN) (l := la) (H1.out.keep (J2 M)) (Nat.le_trans HLA.out (by decide)) HzN.out).mono ?_
   rintro e w53 ⟨a_149, c_150, rfl, hd151, hb⟩
   replace M := adM hd151 hb M
   clear hb hd151
   (try go_wp2_with fail)
   refine hK.out _ _ ((J2 M).1.d2) (fun hH152 => ?_)
   clear hK K hH148
   (try simp only [Act.put, List.setIfInBounds_toArray, List.set_cons_zero, List.set_cons_succ])
   refine wpAnyH_ready (rs := [9]) (by kernel_rfl) (by simp) ?_
   refine AllReadyH.cons at9 (fun K hK => ?_) AllReadyH.nil
   go_simp
   refine (rsame_is (G := G) (x := zN) (y := zN) (b := true) (J1 M).1 (M.out.1) (Sz.mono SzN.out (by omega)) (Sz.mono SzN.out (by omega)) (eqZ_of rfl)).mono ?_
   rintro e w54 ⟨rfl, hb⟩
   replace M := gnM hb M
   clear hb
   (try go_wp2_with fail)
   refine hK.out _ _ ((J2 M).1.d2) (fun hH153 => ?_)
   clear hK K hH152
   (try simp only [Act.put, List.setIfInBounds_toArray, List.set_cons_zero, List.set_cons_succ])
   refine tk at10 ?_
   refine tk at11 ?_
   refine tk at12 ?_
   refine tk at14 ?_
   refine wpAnyH_ready (rs := [13]) (by kernel_rfl) (by simp) ?_
   refine AllReadyH.cons at13 (fun K hK => ?_) AllReadyH.nil
   go_simp
   refine (bigOf_ok (G := G) n _ HNN.out).mono ?_
   rintro e w55 ⟨a_154, c_155, rfl, hd156, hb⟩
   replace M := adM hd156 hb M
   clear hb hd156
   (try go_wp2_with fail)
   refine hK.out _ _ ((J3 M).1.d2) (fun hH157 => ?_)
   clear hK K hH153
   (try simp only [Act.put, List.setIfInBounds_toArray, List.set_cons_zero, List.set_cons_succ])
   refine wpAnyH_ready (rs := [15]) (by kernel_rfl) (by simp) ?_
   refine AllReadyH.cons at15 (fun K hK => ?_) AllReadyH.nil
   go_simp
   refine (rof_ok (G := G) n _ HNN.out).mono ?_
   rintro e w56 ⟨a_158, c_159, rfl, hd160, hb⟩
   replace M := adM hd160 hb M
   clear hb hd160
   (try go_wp2_with fail)
   refine hK.out _ _ ((J4 M).1.d2) (fun hH161 => ?_)
   clear hK K hH157
   (try simp only [Act.put, List.setIfInBounds_toArray, List.set_cons_zero, List.set_cons_succ])
   refine wpAnyH_ready (rs := [16]) (by kernel_rfl) (by simp) ?_
   refine AllReadyH.cons at16 (fun K hK => ?_) AllReadyH.nil
   go_simp
   refine (rsame_is (G := G) (x := n) (y := n) (b := true) (J1 M).1 (M.out.1) (Sz.mono (Sz.i64 HNN.out) (by omega)) (Sz.mono (Sz.i64 HNN.out) (by omega)) (eqZ_of rfl)).mono ?_
   rintro e w57 ⟨rfl, hb⟩
   replace M := gnM hb M
   clear hb
   (try go_wp2_with fail)
   refine hK.out _ _ ((J4 M).1.d2) (fun hH162 => ?_)
   clear hK K hH161
   (try simp only [Act.put, List.setIfInBounds_toArray, List.set_cons_zero, List.set_cons_succ])
   refine tk at17 ?_
   refine tk at18 ?_
   refine wpAnyH_done (by kernel_rfl) ?_ _
   clear hH162
   go_wp2_with fail
   go_ret
   exact ⟨rfl, (J5 M)⟩
theorem btells_walk {S : ByteArray} {sa sb n : Int} {la lb : List Int} {a1 a2 : Option Addr} {c1 c2 : Nat} {w : World} (ht : Tab w) (h1 : RdZ w (.slice a1 la.length c1) la) (k1 : la.length ≤ c1) (h2 : RdZ w (.slice a2 lb.length c2) lb) (k2 : lb.length ≤ c2) (hn : (Lit.int .i64 n).wf = true) :
  Calls Tryz.prog 3 #[.agg #[.int .i64 sa, .slice a1 la.length c1], .agg #[.int .i64 sb, .slice a2 lb.length c2], .int .i64 n, .string S] w fun e w' => e = .returned (.bool true) ∧ Below w.heap.size w w' := by
 have hn' : -9223372036854775808 ≤ n ∧ n ≤ 9223372036854775807 := by simpa [Lit.wf, IntKind.min, IntKind.max, IntKind.signed, IntKind.bits] using hn
 cases hq : (decide ((la.length : Int) ≤ 62) && (decide ((lb.length : Int) ≤ 62) && !decide (400 < S.size))) with
 | false => exact btells_far (G := w.heap.size) (Nat.le_refl _) ht hq
 | true =>
  simp only [Bool.and_eq_true, Bool.not_eq_true'] at hq
  obtain ⟨fa, fb, fs⟩ := hq
  have hS : S = ⟨S.data.toList.toArray⟩ := by cases S; simp
  have hl : S.data.toList.length ≤ 400 := by
   have := of_decide_eq_false fs
   have : S.data.toList.length = S.size := rfl
   omega
  exact btells_near (G := w.heap.size) (Nat.le_refl _) ht (RB.of h1 k1) (RB.of h2 k2) hS hl fa fb hn'
end Go.Proofs.YtlinegodpoihoaaGreatDoor
