/- The reference's least span around the results. -/
import Derived.Test.YtjbfngjlepafgaaGreatBase
import Derived.Test.YtjbfngjlepafgaaGreatBigSpec
import Derived.Test.YtjbfngjlepafgaaGreatBigB
import Derived.Test.YtjbfngjlepafgaaGreatBigC
import Derived.Test.YtjbfngjlepafgaaGreatBigD
import Derived.Test.YtjbfngjlepafgaaGreatBigK
import Derived.Test.YtjbfngjlepafgaaGreatBigQ
import Derived.Test.YtjbfngjlepafgaaGreatFracA
import Derived.Test.YtjbfngjlepafgaaGreatRefE
import Derived.Test.YtjbfngjlepafgaaGreatFz
import Derived.Test.YtjbfngjlepafgaaGreatHeld
import Derived.Test.YtjbfngjlepafgaaGreatAw
import Derived.Test.YtjbfngjlepafgaaGreatRefO
import Derived.Test.YtjbfngjlepafgaaGreatStage
import Derived.Test.YtjbfngjlepafgaaGreatFq
import Derived.Test.YtjbfngjlepafgaaGreatSpanPlain
import Derived.Test.YtjbfngjlepafgaaGreatRefY
import Derived.Test.YtjbfngjlepafgaaGreatOwn
import Derived.Test.YtjbfngjlepafgaaGreatRefSpA
import Derived.Test.YtjbfngjlepafgaaGreatRefSpC
import Derived.Test.YtjbfngjlepafgaaGreatReA
import Derived.Test.YtjbfngjlepafgaaGreatReD
import Derived.Test.YtjbfngjlepafgaaGreatReH
import Derived.Test.YtjbfngjlepafgaaGreatProg
import Derived.Test.YtjbfngjlepafgaaGreatShelf
import Derived.WalkKit
import Derived.WalkSpells
import Derived.WalkLawsBesides
import Derived.Handy
import Derived.Lib.Hide
import Derived.Lib.Strings
import Derived.Lib.Builder
import Derived.BigQuiet
import Derived.OwnWalk
import Derived.Laws.BitsLemmas
import Derived.WalkSmall
import Derived.Deep.QuietTactic
import Derived.StillTailTactics
import Derived.Maps.AppendAt
import Derived.IntWalk
import Derived.Deep.RegionHeld3
import Derived.Deep.DeepFit
import Derived.Deep.LoopGhost
import Derived.Deep.DeepCutAuto
import Derived.Lib.ItoaNum
import Derived.Lib.Repeat
import Derived.Lib.AppendIntMem
import Derived.Sort.OwnSorted
import Derived.Shelf.Strings.SlTrimAscii
import Derived.Lib.ConvBytes
import Derived.Lib.CutLaws
import Derived.Maps.Own
import Derived.Maps.Views
import Derived.Maps.OwnOps
import Derived.RangeFuncNested
import Derived.RangeFuncBound
import Derived.RangeFuncCalls
import Derived.RangeFuncLeaves
import Derived.Shelf.Abstract
import Derived.Shelf.RegionOpen
import Derived.OwnWalkIn
import Derived.TacticsInMore
import Derived.LoopNIn
import Derived.LoopIn
import Derived.Laws.RangeAny
namespace Go.Proofs.YtjbfngjlepafgaaGreat
open Go.RowKit Go.Lib
variable {G : Nat}

theorem OwV.empty {α : Type} [El α] {w : World} {B g : Nat} (hb : Bx w g (El.T α) #[]) (hG : G ≤ B) (hB : B ≤ g) : OwV G B w (.slice (some ⟨g, 0, none⟩) 0 0) ([] : List α) :=
 ⟨hG, ⟨by simp, .inr ⟨g, 0, #[], rfl, hB, hb, Nat.le_refl _, Nat.zero_le _, by simp, by simp⟩⟩, fun x hx => by cases hx⟩
end Go.Proofs.YtjbfngjlepafgaaGreat
namespace Go.Proofs.YtjbfngjlepafgaaGreat
open Go.RowKit Go.Lib
variable {G : Nat}

theorem sl_of_rdq {w : World} {a : Option Addr} {n c : Nat} {gl : List QC} {l : List Rat} (h : RdQ G w a n c gl) (hq : gl.map QC.q = l) : Sl G w a l := by
  subst hq
  rcases RdL.cases h with ⟨-, rfl⟩ | ⟨b, off, rfl, -, -, -, hb⟩
  · exact .inl rfl
  · refine .inr ⟨b, off, rfl, fun k hk => ?_⟩
    have hk' : k < gl.length := by simpa using hk
    have hx : gl[k]? = some gl[k] := List.getElem?_eq_getElem hk'
    have h2 := RdB.ok hb hx
    refine ⟨_, RdB.row hb hx, gl[k].u0, gl[k].u1, gl[k].u2, gl[k].u3, rfl, ?_⟩
    rw [List.getElem_map]
    exact h2
theorem raround_q {p q r s lo hi : Rat} {a : Option Addr} {c : Nat} {gl : List QC} {w : World} (hG : G ≤ w.heap.size) (h : RdQ G w a 4 c gl) (hq_ : gl.map QC.q = [p, q, r, s]) (h1 : Fz p 137438953472) (h2 : Fz q 137438953472) (h3 : Fz r 137438953472) (h4 : Fz s 137438953472) (hl : minL [p, q, r, s] = lo) (hh : maxL [p, q, r, s] = hi) :
  Calls Tryz.prog 40 #[.slice a 4 c] w fun e w' => ∃ x0 x1 x2 x3 x4 x5 x6 x7, e = .returned (.agg #[x0, x1, x2, x3, x4, x5, x6, x7]) ∧ FQ G w' x0 x1 x2 x3 lo ∧ FQ G w' x4 x5 x6 x7 hi ∧ Below w.heap.size w w' :=
 raround_four hG (sl_of_rdq h hq_) h1 h2 h3 h4 hl hh
set_option maxRecDepth 100000 in
set_option maxHeartbeats 4000000 in
theorem rboth_sw_s5 {u0 u1 u2 u3 u4 u5 u6 u7 v0 v1 v2 v3 v4 v5 v6 v7 : Value} {p q r s : Rat} {k : Nat} {i : Int} {lo hi z0 z1 z2 z3 : Rat} {w : World}  {w4 : World}  {B0 B1 B2 : Nat} {x1_ x2_ x3_ x8_ x9_ x10_ x11_ x12_ x13_ x14_ x15_ x16_ x17_ x18_ x19_ x20_ x21_ x22_ x23_ x24_ x25_ x26_ x27_ x28_ x29_ : Value} (hG : G ≤ w.heap.size) (HP : Hid (Fz p 8589934592)) (HQ : Hid (Fz q 8589934592)) (HR : Hid (Fz r 8589934592)) (HS : Hid (Fz s 8589934592)) (_HA : Hid (decide (p ≤ q) = true)) (_HB : Hid (decide (r ≤ s) = true)) (_HAA : Hid (p ≤ q)) (_HBB : Hid (r ≤ s)) (HLO : Hid (minL [z0, z1, z2, z3] = lo)) (HHI : Hid (maxL [z0, z1, z2, z3] = hi)) (HZ0 : Hid (Fz z0 137438953472)) (HZ1 : Hid (Fz z1 137438953472)) (HZ2 : Hid (Fz z2 137438953472)) (HZ3 : Hid (Fz z3 137438953472)) (HC0 : Hid (calcQ k p r = some z0)) (HC1 : Hid (calcQ k q r = some z1)) (HC2 : Hid (calcQ k p s = some z2)) (HC3 : Hid (calcQ k q s = some z3)) (HK : Hid (k < 6)) (HI : Hid ((k : Int) = i)) (H1 : Hid (FQ G w u0 u1 u2 u3 p)) (H2 : Hid (FQ G w u4 u5 u6 u7 q)) (H3 : Hid (FQ G w v0 v1 v2 v3 r)) (H4 : Hid (FQ G w v4 v5 v6 v7 s)) (_oB0 : w.heap.size ≤ B0) (_oB1 : B0 < B1) (_oB2 : B1 < B2) (M : Hid (Bx w4 B2 28 #[.int .i64 0, .slice none 0 0, .int .i64 0, .slice none 0 0, .int .i64 0, .slice none 0 0, .int .i64 0, .slice none 0 0] ∧ Bx w4 B1 28 #[v0, v1, v2, v3, v4, v5, v6, v7] ∧ Bx w4 B0 28 #[u0, u1, u2, u3, u4, u5, u6, u7] ∧ Below w.heap.size w w4)) :
  ∀ K : Act → World → Prop, (∀ a_ w_, Code.wp Tryz.prog (restAt Tryz.f8 5) (bodyPost Tryz.prog Tryz.f8 fun e w' => ∃ x0 x1 x2 x3 x4 x5 x6 x7, e = .returned (.tuple #[.agg #[x0, x1, x2, x3, x4, x5, x6, x7], .int .i64 0]) ∧ FQ G w' x0 x1 x2 x3 lo ∧ FQ G w' x4 x5 x6 x7 hi ∧ Below w.heap.size w w') a_ w_ → K a_ w_) → Code.wp Tryz.prog (regAt Tryz.f8 5) (Exit.then K (bodyPost Tryz.prog Tryz.f8 fun e w' => ∃ x0 x1 x2 x3 x4 x5 x6 x7, e = .returned (.tuple #[.agg #[x0, x1, x2, x3, x4, x5, x6, x7], .int .i64 0]) ∧ FQ G w' x0 x1 x2 x3 lo ∧ FQ G w' x4 x5 x6 x7 hi ∧ Below w.heap.size w w')) ⟨List.toArray (.int .i64 i :: x1_ :: x2_ :: x3_ :: .pointer (some ⟨B0, 0, none⟩) :: .pointer (some ⟨B1, 0, none⟩) :: .pointer (some ⟨B2, 0, none⟩) :: .int .i64 0 :: x8_ :: x9_ :: x10_ :: x11_ :: x12_ :: x13_ :: x14_ :: x15_ :: x16_ :: x17_ :: x18_ :: x19_ :: x20_ :: x21_ :: x22_ :: x23_ :: x24_ :: x25_ :: x26_ :: x27_ :: x28_ :: x29_ :: undef :: undef :: undef :: undef :: undef :: undef :: undef :: undef :: undef :: undef :: undef :: undef :: undef :: undef :: undef :: undef :: undef :: undef :: undef :: undef :: undef :: undef :: undef :: undef :: undef :: undef :: undef :: undef :: undef :: undef :: undef :: undef :: undef :: []), []⟩ w4 := by
 intro Kst_ hst_
 conv => arg 2; whnf
 conv at hst_ => enter [a_, w_, 1, 2]; whnf
 go_upto_region 6 with fail
 refine nmW (w4.alloc (.cells #[] 26)) fun w5 hv => ?_
 rw [← hv]
 have ow3_ : B2 < w4.heap.size := ((M.out.1)).lt
 replace M := alM hv M
 clear hv
 go_wp2_with fail
 go_loopw [8, 9] (fun s8 i9 wr => ∃ (n : Nat) (gl : List QC) (vl : Value), vl = s8 ∧ i9 = .int .i64 (n : Int) ∧ Hid (n ≤ 4) ∧ Hid (gl.length = n) ∧ Hid (gl.map QC.q = ([z0, z1, z2, z3] : List Rat).take n) ∧ Hid (OwVQ G w.heap.size wr vl gl ∧ Bx wr B2 28 #[.int .i64 0, .slice none 0 0, .int .i64 0, .slice none 0 0, .int .i64 0, .slice none 0 0, .int .i64 0, .slice none 0 0] ∧ Bx wr B1 28 #[v0, v1, v2, v3, v4, v5, v6, v7] ∧ Bx wr B0 28 #[u0, u1, u2, u3, u4, u5, u6, u7] ∧ Below w.heap.size w wr)) (fun s8 i9 _ => 4 - (RowKit.intOf i9).toNat)
 case atStart =>
  exact ⟨0, [], _, rfl, rfl, (by show _ ≤ _; omega), (Lib.hid rfl), (Lib.hid rfl), Lib.hid (aI (OwV.empty (M.out.1) hG (by omega)) (aI (J1 M).1 (aI (J2 M).1 (aI (J3 M).1 (J4 M)))))⟩
 case round =>
  obtain ⟨w6, rfl⟩ : ∃ x, x = wr := ⟨_, rfl⟩
  clear M
  obtain ⟨n, gl, vl, rfl, rfl, hn, HGL, HL, M⟩ := hrel
  replace hn := hn.out
  rcases (show n = 0 ∨ n = 1 ∨ n = 2 ∨ n = 3 ∨ n = 4 by omega) with rfl | rfl | rfl | rfl | rfl
  ·
   have e1_ : (bits BinOp.and IntKind.i64 0 1 == 1) = false := by decide
   have e2_ : (bits BinOp.and IntKind.i64 0 2 == 2) = false := by decide
   refine cj8 (J3 M).1.d8 fun aa ab ac ad ae af ah ai => ?_
   have z0 : B0 < w6.heap.size := (J3 M).1.lt
   refine cj4 (TQ.st (H1.out.keep (J4 M))) fun aj ak al am => ?_
   go_upto_region 10 with fail
   clear aa ab ac ad ae af ah ai z0 aj ak al am
   refine nmW (w6.alloc (.cells #[u0, u1, u2, u3] 26)) fun w7 hv => ?_
   rw [← hv]
   have ow4_ : B2 < w6.heap.size := ((J1 M).1).lt
   have no_b4_vl := OwV.no (M.out.1)
   replace M := alM hv M
   clear hv
   refine cj8 (J3 M).1.d8 fun ao ap aq ar au av aw ax => ?_
   have z1 : B1 < w7.heap.size := (J3 M).1.lt
   refine cj4 (TQ.st (H3.out.keep (J5 M))) fun ay az ba bb => ?_
   go_upto_region 11 with fail
   clear ao ap aq ar au av aw ax z1 ay az ba bb
   refine nmW (w7.alloc (.cells #[v0, v1, v2, v3] 26)) fun w8 hv => ?_
   rw [← hv]
   have ow5_ : w6.heap.size < w7.heap.size := ((M.out.1)).lt
   have no_b5_vl := OwV.no (J1 M).1
   replace M := alM hv M
   clear hv
   refine cj4 (J1 M).1.d4 fun bc bd bf bg => ?_
   refine cj4 (M.out.1).d4 fun bh bi bj bk => ?_
   go_wp2_with fail
   clear bc bd bf bg bh bi bj bk
   refine (rop_some (G := G) (q := p) (r := r) (z := z0) (i := i) (Nat.le_trans hG (J6 M).size) (H1.out.keep (J6 M)) (H3.out.keep (J6 M)) (Fz.mono HP.out (by omega)) (Fz.mono HR.out (by omega)) HK.out HI.out HC0.out).mono ?_
   rintro e w9 ⟨x_2, x_3, x_4, x_5, rfl, hd6, hb⟩
   replace M := adM hd6 hb M
   clear hb hd6
   refine cj4 (TQ.st (M.out.1)) fun bl bm bn bo => ?_
   go_upto_region 16 with fail
   clear bl bm bn bo
   refine nmW (w9.alloc (.cells #[x_2, x_3, x_4, x_5] 26)) fun w10 hv => ?_
   rw [← hv]
   have ow6_ : w7.heap.size < w9.heap.size := ((J1 M).1).lt
   have no_b6_vl := OwV.no (J3 M).1
   replace M := alM hv M
   clear hv
   refine cj4 (M.out.1).d4 fun bp bq br bs => ?_
   have z6 : w9.heap.size < w10.heap.size := (M.out.1).lt
   go_upto_region 8 with (at_builtin; go_must (refine wpList_pushV rfl _ _ elemFr rfl w10 (J4 M).1 HGL.out (⟨x_2, x_3, x_4, x_5, z0⟩ : QC) (J1 M).1 rfl rfl rfl rfl (by rfl) (by omega) (by omega) (J8 M).size ?_; intro vv_7 w11 ho_ hg_))
   clear bp bq br bs z6
   replace M := Lib.hid (aI ho_ (aI ((J1 M).1.grown (J4 M).1.own (by rfl) (J4 M).1.leG hg_) (aI ((J5 M).1.grownT (J4 M).1.own (by rfl) hg_) (aI ((J6 M).1.grownT (J4 M).1.own (by rfl) hg_) (aI ((J7 M).1.grownT (J4 M).1.own (by rfl) hg_) (below_grown (J8 M) (J4 M).1.own (Nat.le_refl _) (J8 M).size hg_))))))
   clear ho_ hg_
   go_wp2_with fail
   go_roundw
   case rel => exact ⟨1, (gl ++ [(⟨x_2, x_3, x_4, x_5, z0⟩ : QC)]), vv_7, rfl, by go_num, (by show _ ≤ _; omega), (Lib.hid (by rw [List.length_append, HGL.out]; rfl)), (Lib.hid (by rw [List.map_append, HL.out]; rfl)), Lib.hid (aI (M.out.1) (aI (J2 M).1 (aI (J3 M).1 (aI (J4 M).1 (J5 M)))))⟩
   case measure => simp [RowKit.intOf] <;> omega
  ·
   have e1_ : (bits BinOp.and IntKind.i64 1 1 == 1) = true := by decide
   have e2_ : (bits BinOp.and IntKind.i64 1 2 == 2) = false := by decide
   refine cj8 (J3 M).1.d8 fun aa ab ac ad ae af ah ai => ?_
   have z0 : B0 < w6.heap.size := (J3 M).1.lt
   refine cj4 (TQ.st (H1.out.keep (J4 M))) fun aj ak al am => ?_
   go_upto_region 10 with fail
   clear aa ab ac ad ae af ah ai z0 aj ak al am
   refine nmW (w6.alloc (.cells #[u0, u1, u2, u3] 26)) fun w7 hv => ?_
   rw [← hv]
   have ow4_ : B2 < w6.heap.size := ((J1 M).1).lt
   have no_b4_vl := OwV.no (M.out.1)
   replace M := alM hv M
   clear hv
   refine cj8 (J3 M).1.d8 fun ao ap aq ar au av aw ax => ?_
   have z1 : B1 < w7.heap.size := (J3 M).1.lt
   refine cj4 (TQ.st (H3.out.keep (J5 M))) fun ay az ba bb => ?_
   go_upto_region 11 with fail
   clear ao ap aq ar au av aw ax z1 ay az ba bb
   refine nmW (w7.alloc (.cells #[v0, v1, v2, v3] 26)) fun w8 hv => ?_
   rw [← hv]
   have ow5_ : w6.heap.size < w7.heap.size := ((M.out.1)).lt
   have no_b5_vl := OwV.no (J1 M).1
   replace M := alM hv M
   clear hv
   refine cj8 (J5 M).1.d8 fun aa ab ac ad ae af ah ai => ?_
   refine cj8 (J1 M).1.c4 fun bc bt bd bu bf bv bg bw => ?_
   refine cj4 (TQ.st (H2.out.keep (J6 M))) fun bx bz ca cb => ?_
   go_upto_region 13 with fail
   clear aa ab ac ad ae af ah ai bc bt bd bu bf bv bg bw bx bz ca cb
   have hz : w.heap.size ≤ w6.heap.size := by omega
   refine st4W (u4) (u5) (u6) (u7) (J1 M).1 (J6 M) hz fun w9 hv og hk hbw => ?_
   rw [← hv]
   replace M := Lib.hid (aI ((M.out.1).only og (by omega)) (aI hk (aI (OwV.far_no (J2 M).1 (J1 M).1 no_b4_vl (by rfl) (by omega) og) (aI ((J3 M).1.only og (by omega)) (aI ((J4 M).1.only og (by omega)) (aI ((J5 M).1.only og (by omega)) hbw))))))
   clear hk hbw og hv hz
   refine cj4 (J1 M).1.d4 fun bc bd bf bg => ?_
   refine cj4 (M.out.1).d4 fun bh bi bj bk => ?_
   go_wp2_with fail
   clear bc bd bf bg bh bi bj bk
   refine (rop_some (G := G) (q := q) (r := r) (z := z1) (i := i) (Nat.le_trans hG (J6 M).size) (H2.out.keep (J6 M)) (H3.out.keep (J6 M)) (Fz.mono HQ.out (by omega)) (Fz.mono HR.out (by omega)) HK.out HI.out HC1.out).mono ?_
   rintro e w10 ⟨x_8, x_9, x_10, x_11, rfl, hd12, hb⟩
   replace M := adM hd12 hb M
   clear hb hd12
   refine cj4 (TQ.st (M.out.1)) fun cc cd ce cf => ?_
   go_upto_region 16 with fail
   clear cc cd ce cf
   refine nmW (w10.alloc (.cells #[x_8, x_9, x_10, x_11] 26)) fun w11 hv => ?_
   rw [← hv]
   have ow6_ : w7.heap.size < w10.heap.size := ((J1 M).1).lt
   have no_b6_vl := OwV.no (J3 M).1
   replace M := alM hv M
   clear hv
   refine cj4 (M.out.1).d4 fun bp bq br bs => ?_
   have z6 : w10.heap.size < w11.heap.size := (M.out.1).lt
   go_upto_region 8 with (at_builtin; go_must (refine wpList_pushV rfl _ _ elemFr rfl w11 (J4 M).1 HGL.out (⟨x_8, x_9, x_10, x_11, z1⟩ : QC) (J1 M).1 rfl rfl rfl rfl (by rfl) (by omega) (by omega) (J8 M).size ?_; intro vv_13 w12 ho_ hg_))
   clear bp bq br bs z6
   replace M := Lib.hid (aI ho_ (aI ((J1 M).1.grown (J4 M).1.own (by rfl) (J4 M).1.leG hg_) (aI ((J5 M).1.grownT (J4 M).1.own (by rfl) hg_) (aI ((J6 M).1.grownT (J4 M).1.own (by rfl) hg_) (aI ((J7 M).1.grownT (J4 M).1.own (by rfl) hg_) (below_grown (J8 M) (J4 M).1.own (Nat.le_refl _) (J8 M).size hg_))))))
   clear ho_ hg_
   go_wp2_with fail
   go_roundw
   case rel => exact ⟨2, (gl ++ [(⟨x_8, x_9, x_10, x_11, z1⟩ : QC)]), vv_13, rfl, by go_num, (by show _ ≤ _; omega), (Lib.hid (by rw [List.length_append, HGL.out]; rfl)), (Lib.hid (by rw [List.map_append, HL.out]; rfl)), Lib.hid (aI (M.out.1) (aI (J2 M).1 (aI (J3 M).1 (aI (J4 M).1 (J5 M)))))⟩
   case measure => simp [RowKit.intOf] <;> omega
  ·
   have e1_ : (bits BinOp.and IntKind.i64 2 1 == 1) = false := by decide
   have e2_ : (bits BinOp.and IntKind.i64 2 2 == 2) = true := by decide
   refine cj8 (J3 M).1.d8 fun aa ab ac ad ae af ah ai => ?_
   have z0 : B0 < w6.heap.size := (J3 M).1.lt
   refine cj4 (TQ.st (H1.out.keep (J4 M))) fun aj ak al am => ?_
   go_upto_region 10 with fail
   clear aa ab ac ad ae af ah ai z0 aj ak al am
   refine nmW (w6.alloc (.cells #[u0, u1, u2, u3] 26)) fun w7 hv => ?_
   rw [← hv]
   have ow4_ : B2 < w6.heap.size := ((J1 M).1).lt
   have no_b4_vl := OwV.no (M.out.1)
   replace M := alM hv M
   clear hv
   refine cj8 (J3 M).1.d8 fun ao ap aq ar au av aw ax => ?_
   have z1 : B1 < w7.heap.size := (J3 M).1.lt
   refine cj4 (TQ.st (H3.out.keep (J5 M))) fun ay az ba bb => ?_
   go_upto_region 11 with fail
   clear ao ap aq ar au av aw ax z1 ay az ba bb
   refine nmW (w7.alloc (.cells #[v0, v1, v2, v3] 26)) fun w8 hv => ?_
   rw [← hv]
   have ow5_ : w6.heap.size < w7.heap.size := ((M.out.1)).lt
   have no_b5_vl := OwV.no (J1 M).1
   replace M := alM hv M
   clear hv
   refine cj8 (J4 M).1.d8 fun ao ap aq ar au av aw ax => ?_
   refine cj8 (M.out.1).c4 fun bh ch bi ci bj cj bk ck => ?_
   refine cj4 (TQ.st (H4.out.keep (J6 M))) fun cl cm cn co => ?_
   go_upto_region 15 with fail
   clear ao ap aq ar au av aw ax bh ch bi ci bj cj bk ck cl cm cn co
   have hz : w.heap.size ≤ w7.heap.size := by omega
   refine st4W (v4) (v5) (v6) (v7) (M.out.1) (J6 M) hz fun w9 hv og hk hbw => ?_
   rw [← hv]
   replace M := Lib.hid (aI hk (aI ((J1 M).1.only og (by omega)) (aI (OwV.far_no (J2 M).1 (M.out.1) no_b5_vl (by rfl) (by omega) og) (aI ((J3 M).1.only og (by omega)) (aI ((J4 M).1.only og (by omega)) (aI ((J5 M).1.only og (by omega)) hbw))))))
   clear hk hbw og hv hz
   refine cj4 (J1 M).1.d4 fun bc bd bf bg => ?_
   refine cj4 (M.out.1).d4 fun bh bi bj bk => ?_
   go_wp2_with fail
   clear bc bd bf bg bh bi bj bk
   refine (rop_some (G := G) (q := p) (r := s) (z := z2) (i := i) (Nat.le_trans hG (J6 M).size) (H1.out.keep (J6 M)) (H4.out.keep (J6 M)) (Fz.mono HP.out (by omega)) (Fz.mono HS.out (by omega)) HK.out HI.out HC2.out).mono ?_
   rintro e w10 ⟨x_14, x_15, x_16, x_17, rfl, hd18, hb⟩
   replace M := adM hd18 hb M
   clear hb hd18
   refine cj4 (TQ.st (M.out.1)) fun cp cq cr cs => ?_
   go_upto_region 16 with fail
   clear cp cq cr cs
   refine nmW (w10.alloc (.cells #[x_14, x_15, x_16, x_17] 26)) fun w11 hv => ?_
   rw [← hv]
   have ow6_ : w7.heap.size < w10.heap.size := ((J1 M).1).lt
   have no_b6_vl := OwV.no (J3 M).1
   replace M := alM hv M
   clear hv
   refine cj4 (M.out.1).d4 fun bp bq br bs => ?_
   have z6 : w10.heap.size < w11.heap.size := (M.out.1).lt
   go_upto_region 8 with (at_builtin; go_must (refine wpList_pushV rfl _ _ elemFr rfl w11 (J4 M).1 HGL.out (⟨x_14, x_15, x_16, x_17, z2⟩ : QC) (J1 M).1 rfl rfl rfl rfl (by rfl) (by omega) (by omega) (J8 M).size ?_; intro vv_19 w12 ho_ hg_))
   clear bp bq br bs z6
   replace M := Lib.hid (aI ho_ (aI ((J1 M).1.grown (J4 M).1.own (by rfl) (J4 M).1.leG hg_) (aI ((J5 M).1.grownT (J4 M).1.own (by rfl) hg_) (aI ((J6 M).1.grownT (J4 M).1.own (by rfl) hg_) (aI ((J7 M).1.grownT (J4 M).1.own (by rfl) hg_) (below_grown (J8 M) (J4 M).1.own (Nat.le_refl _) (J8 M).size hg_))))))
   clear ho_ hg_
   go_wp2_with fail
   go_roundw
   case rel => exact ⟨3, (gl ++ [(⟨x_14, x_15, x_16, x_17, z2⟩ : QC)]), vv_19, rfl, by go_num, (by show _ ≤ _; omega), (Lib.hid (by rw [List.length_append, HGL.out]; rfl)), (Lib.hid (by rw [List.map_append, HL.out]; rfl)), Lib.hid (aI (M.out.1) (aI (J2 M).1 (aI (J3 M).1 (aI (J4 M).1 (J5 M)))))⟩
   case measure => simp [RowKit.intOf] <;> omega
  ·
   have e1_ : (bits BinOp.and IntKind.i64 3 1 == 1) = true := by decide
   have e2_ : (bits BinOp.and IntKind.i64 3 2 == 2) = true := by decide
   refine cj8 (J3 M).1.d8 fun aa ab ac ad ae af ah ai => ?_
   have z0 : B0 < w6.heap.size := (J3 M).1.lt
   refine cj4 (TQ.st (H1.out.keep (J4 M))) fun aj ak al am => ?_
   go_upto_region 10 with fail
   clear aa ab ac ad ae af ah ai z0 aj ak al am
   refine nmW (w6.alloc (.cells #[u0, u1, u2, u3] 26)) fun w7 hv => ?_
   rw [← hv]
   have ow4_ : B2 < w6.heap.size := ((J1 M).1).lt
   have no_b4_vl := OwV.no (M.out.1)
   replace M := alM hv M
   clear hv
   refine cj8 (J3 M).1.d8 fun ao ap aq ar au av aw ax => ?_
   have z1 : B1 < w7.heap.size := (J3 M).1.lt
   refine cj4 (TQ.st (H3.out.keep (J5 M))) fun ay az ba bb => ?_
   go_upto_region 11 with fail
   clear ao ap aq ar au av aw ax z1 ay az ba bb
   refine nmW (w7.alloc (.cells #[v0, v1, v2, v3] 26)) fun w8 hv => ?_
   rw [← hv]
   have ow5_ : w6.heap.size < w7.heap.size := ((M.out.1)).lt
   have no_b5_vl := OwV.no (J1 M).1
   replace M := alM hv M
   clear hv
   refine cj8 (J5 M).1.d8 fun aa ab ac ad ae af ah ai => ?_
   refine cj8 (J1 M).1.c4 fun bc bt bd bu bf bv bg bw => ?_
   refine cj4 (TQ.st (H2.out.keep (J6 M))) fun bx bz ca cb => ?_
   go_upto_region 13 with fail
   clear aa ab ac ad ae af ah ai bc bt bd bu bf bv bg bw bx bz ca cb
   have hz : w.heap.size ≤ w6.heap.size := by omega
   refine st4W (u4) (u5) (u6) (u7) (J1 M).1 (J6 M) hz fun w9 hv og hk hbw => ?_
   rw [← hv]
   replace M := Lib.hid (aI ((M.out.1).only og (by omega)) (aI hk (aI (OwV.far_no (J2 M).1 (J1 M).1 no_b4_vl (by rfl) (by omega) og) (aI ((J3 M).1.only og (by omega)) (aI ((J4 M).1.only og (by omega)) (aI ((J5 M).1.only og (by omega)) hbw))))))
   clear hk hbw og hv hz
   refine cj8 (J4 M).1.d8 fun ao ap aq ar au av aw ax => ?_
   refine cj8 (M.out.1).c4 fun bh ch bi ci bj cj bk ck => ?_
   refine cj4 (TQ.st (H4.out.keep (J6 M))) fun cl cm cn co => ?_
   go_upto_region 15 with fail
   clear ao ap aq ar au av aw ax bh ch bi ci bj cj bk ck cl cm cn co
   have hz : w.heap.size ≤ w7.heap.size := by omega
   refine st4W (v4) (v5) (v6) (v7) (M.out.1) (J6 M) hz fun w10 hv og hk hbw => ?_
   rw [← hv]
   replace M := Lib.hid (aI hk (aI ((J1 M).1.only og (by omega)) (aI (OwV.far_no (J2 M).1 (M.out.1) no_b5_vl (by rfl) (by omega) og) (aI ((J3 M).1.only og (by omega)) (aI ((J4 M).1.only og (by omega)) (aI ((J5 M).1.only og (by omega)) hbw))))))
   clear hk hbw og hv hz
   refine cj4 (J1 M).1.d4 fun bc bd bf bg => ?_
   refine cj4 (M.out.1).d4 fun bh bi bj bk => ?_
   go_wp2_with fail
   clear bc bd bf bg bh bi bj bk
   refine (rop_some (G := G) (q := q) (r := s) (z := z3) (i := i) (Nat.le_trans hG (J6 M).size) (H2.out.keep (J6 M)) (H4.out.keep (J6 M)) (Fz.mono HQ.out (by omega)) (Fz.mono HS.out (by omega)) HK.out HI.out HC3.out).mono ?_
   rintro e w11 ⟨x_20, x_21, x_22, x_23, rfl, hd24, hb⟩
   replace M := adM hd24 hb M
   clear hb hd24
   refine cj4 (TQ.st (M.out.1)) fun ct cu cv cw => ?_
   go_upto_region 16 with fail
   clear ct cu cv cw
   refine nmW (w11.alloc (.cells #[x_20, x_21, x_22, x_23] 26)) fun w12 hv => ?_
   rw [← hv]
   have ow6_ : w7.heap.size < w11.heap.size := ((J1 M).1).lt
   have no_b6_vl := OwV.no (J3 M).1
   replace M := alM hv M
   clear hv
   refine cj4 (M.out.1).d4 fun bp bq br bs => ?_
   have z6 : w11.heap.size < w12.heap.size := (M.out.1).lt
   go_upto_region 8 with (at_builtin; go_must (refine wpList_pushV rfl _ _ elemFr rfl w12 (J4 M).1 HGL.out (⟨x_20, x_21, x_22, x_23, z3⟩ : QC) (J1 M).1 rfl rfl rfl rfl (by rfl) (by omega) (by omega) (J8 M).size ?_; intro vv_25 w13 ho_ hg_))
   clear bp bq br bs z6
   replace M := Lib.hid (aI ho_ (aI ((J1 M).1.grown (J4 M).1.own (by rfl) (J4 M).1.leG hg_) (aI ((J5 M).1.grownT (J4 M).1.own (by rfl) hg_) (aI ((J6 M).1.grownT (J4 M).1.own (by rfl) hg_) (aI ((J7 M).1.grownT (J4 M).1.own (by rfl) hg_) (below_grown (J8 M) (J4 M).1.own (Nat.le_refl _) (J8 M).size hg_))))))
   clear ho_ hg_
   go_wp2_with fail
   go_roundw
   case rel => exact ⟨4, (gl ++ [(⟨x_20, x_21, x_22, x_23, z3⟩ : QC)]), vv_25, rfl, by go_num, (by show _ ≤ _; omega), (Lib.hid (by rw [List.length_append, HGL.out]; rfl)), (Lib.hid (by rw [List.map_append, HL.out]; rfl)), Lib.hid (aI (M.out.1) (aI (J2 M).1 (aI (J3 M).1 (aI (J4 M).1 (J5 M)))))⟩
   case measure => simp [RowKit.intOf] <;> omega
  ·
   have HL4 : Hid (gl.map QC.q = [z0, z1, z2, z3]) := HL.out
   obtain ⟨ag, cg, hvg_, hrd_⟩ := OwV.rdl (M.out.1) HGL.out
   subst hvg_
   replace M := Lib.hid (aI hrd_ (aI (J1 M).1 (aI (J2 M).1 (aI (J3 M).1 (J4 M)))))
   clear hrd_
   go_wp2_with fail
   refine (raround_q (G := G) (p := z0) (q := z1) (r := z2) (s := z3) (lo := lo) (hi := hi) (gl := gl) (Nat.le_trans hG (J4 M).size) (M.out.1) HL4.out HZ0.out HZ1.out HZ2.out HZ3.out HLO.out HHI.out).mono ?_
   rintro e w7 ⟨x_26, x_27, x_28, x_29, x_30, x_31, x_32, x_33, rfl, hd34, hd35, hb⟩
   replace M := ad2M hd34 hd35 hb M
   clear hb hd34 hd35
   refine cj16 (J3 M).1.c8 fun cx cy cz da db dc dd de df dg dh di dj dk dl dm => ?_
   refine cj4 (TQ.st (M.out.1)) fun dn dp dq dr => ?_
   refine cj4 (TQ.st (J1 M).1) fun ds dt du dv => ?_
   go_wp2_with fail
   clear cx cy cz da db dc dd de df dg dh di dj dk dl dm dn dp dq dr ds dt du dv
   have hz : w.heap.size ≤ B2 := by omega
   refine st8W (x_26) (x_27) (x_28) (x_29) (x_30) (x_31) (x_32) (x_33) (J3 M).1 (J6 M) hz fun w8 hv og hk hbw => ?_
   rw [← hv]
   replace M := Lib.hid (aI ((M.out.1).far (J3 M).1 (by rfl) (by omega) og) (aI ((J1 M).1.far (J3 M).1 (by rfl) (by omega) og) (aI ((J2 M).1.far (J3 M).1 (by rfl) (by omega) og) (aI hk (aI ((J4 M).1.only og (by omega)) (aI ((J5 M).1.only og (by omega)) hbw))))))
   clear hk hbw og hv hz
   refine bodyPost_ret (results_box2 rfl _ _ B2 28 _ _ _ rfl (J3 M).1 Tryz.underlying28 rfl (by kernel_rfl)) rfl ?_
   exact ⟨x_26, x_27, x_28, x_29, x_30, x_31, x_32, x_33, rfl, (M.out.1), (J1 M).1, (J6 M)⟩
set_option maxRecDepth 100000 in
set_option maxHeartbeats 4000000 in
theorem rboth_sw {u0 u1 u2 u3 u4 u5 u6 u7 v0 v1 v2 v3 v4 v5 v6 v7 : Value} {p q r s : Rat} {k : Nat} {i : Int} {lo hi z0 z1 z2 z3 : Rat} {bk : Bool} {w : World}  (hG : G ≤ w.heap.size) (HP : Hid (Fz p 8589934592)) (HQ : Hid (Fz q 8589934592)) (HR : Hid (Fz r 8589934592)) (HS : Hid (Fz s 8589934592)) (HA : Hid (decide (p ≤ q) = true)) (HB : Hid (decide (r ≤ s) = true)) (HAA : Hid (p ≤ q)) (HBB : Hid (r ≤ s)) (HLO : Hid (minL [z0, z1, z2, z3] = lo)) (HHI : Hid (maxL [z0, z1, z2, z3] = hi)) (HZ0 : Hid (Fz z0 137438953472)) (HZ1 : Hid (Fz z1 137438953472)) (HZ2 : Hid (Fz z2 137438953472)) (HZ3 : Hid (Fz z3 137438953472)) (HC0 : Hid (calcQ k p r = some z0)) (HC1 : Hid (calcQ k q r = some z1)) (HC2 : Hid (calcQ k p s = some z2)) (HC3 : Hid (calcQ k q s = some z3)) (HK : Hid (k < 6)) (HI : Hid ((k : Int) = i)) (hbk : (i == 3) = bk) (HZ : Hid (bk = true → (decide (r ≤ ((0 : Int) : Rat)) && decide (((0 : Int) : Rat) ≤ s)) = false)) (h1 : FQ G w u0 u1 u2 u3 p) (h2 : FQ G w u4 u5 u6 u7 q) (h3 : FQ G w v0 v1 v2 v3 r) (h4 : FQ G w v4 v5 v6 v7 s) :
  Calls Tryz.prog 8 #[.int .i64 i, .agg #[u0, u1, u2, u3, u4, u5, u6, u7], .agg #[v0, v1, v2, v3, v4, v5, v6, v7]] w fun e w' => ∃ x0 x1 x2 x3 x4 x5 x6 x7, e = .returned (.tuple #[.agg #[x0, x1, x2, x3, x4, x5, x6, x7], .int .i64 0]) ∧ FQ G w' x0 x1 x2 x3 lo ∧ FQ G w' x4 x5 x6 x7 hi ∧ Below w.heap.size w w' := by
 have H1 : Hid (FQ G w u0 u1 u2 u3 p) := h1
 have H2 : Hid (FQ G w u4 u5 u6 u7 q) := h2
 have H3 : Hid (FQ G w v0 v1 v2 v3 r) := h3
 have H4 : Hid (FQ G w v4 v5 v6 v7 s) := h4
 clear h1 h2 h3 h4
 have M : Hid (Below w.heap.size w w) := Below.refl _ _
 go_enter Tryz.func8, Tryz.ntmps8
 go_upto_region 1 with fail
 refine nmW (((w.alloc (.cells #[u0, u1, u2, u3, u4, u5, u6, u7] 28)).alloc (.cells #[v0, v1, v2, v3, v4, v5, v6, v7] 28)).alloc (.cells #[.int .i64 0, .slice none 0 0, .int .i64 0, .slice none 0 0, .int .i64 0, .slice none 0 0, .int .i64 0, .slice none 0 0] 28)) fun w1 hv => ?_
 rw [← hv]
 replace M := al3W hv M
 clear hv
 refine cj8 (J2 M).1.d8 fun aa ab ac ad ae af ag ah => ?_
 go_wp2_with fail
 clear aa ab ac ad ae af ag ah
 refine (rsRight_q (G := G) (p := p) (q := q) (b_ := true) (H1.out.keep (J3 M)) (H2.out.keep (J3 M)) (Fz.mono HP.out (by omega)) (Fz.mono HQ.out (by omega)) HA.out).mono ?_
 rintro e w2 ⟨rfl, hb⟩
 replace M := gnM hb M
 clear hb
 refine cj8 (J1 M).1.d8 fun ai aj ak al am ao ap aq => ?_
 go_wp2_with fail
 clear ai aj ak al am ao ap aq
 refine (rsRight_q (G := G) (p := r) (q := s) (b_ := true) (H3.out.keep (J3 M)) (H4.out.keep (J3 M)) (Fz.mono HR.out (by omega)) (Fz.mono HS.out (by omega)) HB.out).mono ?_
 rintro e w3 ⟨rfl, hb⟩
 replace M := gnM hb M
 clear hb
 cases bk with
 | false =>
  go_wp2_with fail
  refine nmW w3.drew fun w4 hv => ?_
  replace M := drM hv M
  refine wp_region_held_drew (S := (fun _ => True)) (by kernel_rfl) trivial (fun hH1 => ?_)
  rw [← hv]
  clear hv
  refine tk at0 ?_
  refine tk at1 ?_
  refine tk at2 ?_
  refine tu at3 ?_
  refine wpAnyH_ready (rs := [4]) (by kernel_rfl) (by simp) ?_
  refine AllReadyH.cons at4 (fun K hK => ?_) AllReadyH.nil
  rw [if_neg]
  rotate_left
  focus (intro h; exact Bool.noConfusion h)
  refine hK.out _ _ hH1 (fun _ => ?_)
  clear hK K
  (try simp only [Act.put, List.setIfInBounds_toArray, List.set_cons_zero, List.set_cons_succ])
  refine wpAnyH_ready (rs := [5]) (by kernel_rfl) (by simp) ?_
  refine AllReadyH.cons at5 (fun K hK => ?_) AllReadyH.nil
  rw [if_neg]
  rotate_left
  focus (intro h; exact Bool.noConfusion h)
  refine hK.out _ _ hH1 (fun _ => ?_)
  clear hK K
  (try simp only [Act.put, List.setIfInBounds_toArray, List.set_cons_zero, List.set_cons_succ])
  refine tk at6 ?_
  refine wpAnyH_done (by kernel_rfl) ?_ _
  clear hH1
  go_upto_region 5 with fail
  rename_i Kst_ hst_
  exact rboth_sw_s5 hG HP HQ HR HS HA HB HAA HBB HLO HHI HZ0 HZ1 HZ2 HZ3 HC0 HC1 HC2 HC3 HK HI H1 H2 H3 H4 (by omega) (by omega) (by omega) M Kst_ hst_
 | true =>
  go_wp2_with fail
  refine nmW w3.drew fun w4 hv => ?_
  replace M := drM hv M
  refine wp_region_held_drew (S := (fun w' => w'.cell? ⟨w.heap.size + 1, 0, none⟩ = some (v0) ∧ w'.cell? ⟨w.heap.size + 1, 1, none⟩ = some (v1) ∧ w'.cell? ⟨w.heap.size + 1, 2, none⟩ = some (v2) ∧ w'.cell? ⟨w.heap.size + 1, 3, none⟩ = some (v3) ∧ w'.cell? ⟨w.heap.size + 1, 4, none⟩ = some (v4) ∧ w'.cell? ⟨w.heap.size + 1, 5, none⟩ = some (v5) ∧ w'.cell? ⟨w.heap.size + 1, 6, none⟩ = some (v6) ∧ w'.cell? ⟨w.heap.size + 1, 7, none⟩ = some (v7))) (by kernel_rfl) (by rw [← hv]; exact (J1 M).1.d8) (fun hH42 => ?_)
  rw [← hv] at hH42 ⊢
  clear hv
  refine tk at0 ?_
  refine tk at1 ?_
  refine tk at2 ?_
  refine tk at3 ?_
  refine wpAnyH_ready (rs := [4]) (by kernel_rfl) (by simp) ?_
  refine AllReadyH.cons at4 (fun K hK => ?_) AllReadyH.nil
  go_simp
  refine nmW (α := Rat) ((0 : Int) : Rat) fun q47 eq47 => ?_
  refine (rqInt (G := G) (x := 0) (by decide)).mono ?_
  rintro e w5 ⟨x_43, x_44, x_45, x_46, rfl, hd48, hb⟩
  rw [← eq47] at hd48
  have Sq47 : Hid (Fz q47 4) := by show Fz q47 4; rw [eq47]; exact (Fz.int64 (by decide))
  have Eq47 := Lib.hid eq47; clear eq47
  replace M := adM hd48 hb M
  clear hb hd48
  (try go_wp2_with fail)
  refine hK.out _ _ ((J2 M).1.d8) (fun hH49 => ?_)
  clear hK K hH42
  (try simp only [Act.put, List.setIfInBounds_toArray, List.set_cons_zero, List.set_cons_succ])
  refine wpAnyH_ready (rs := [5]) (by kernel_rfl) (by simp) ?_
  refine AllReadyH.cons at5 (fun K hK => ?_) AllReadyH.nil
  go_simp
  refine (rsHas_q (G := G) (p := r) (q := s) (x := q47) (b_ := false) (Nat.le_trans hG (J4 M).size) (H3.out.keep (J4 M)) (H4.out.keep (J4 M)) (Fz.mono HR.out (by omega)) (Fz.mono HS.out (by omega)) HBB.out (M.out.1) (Fz.mono Sq47.out (by omega)) (by rw [Eq47.out]; exact HZ.out (by trivial))).mono ?_
  rintro e w6 ⟨rfl, hb⟩
  replace M := gnM hb M
  clear hb
  (try go_wp2_with fail)
  refine hK.out _ _ ((J2 M).1.d8) (fun hH50 => ?_)
  clear hK K hH49
  (try simp only [Act.put, List.setIfInBounds_toArray, List.set_cons_zero, List.set_cons_succ])
  refine tk at6 ?_
  refine wpAnyH_done (by kernel_rfl) ?_ _
  clear hH50
  go_upto_region 5 with fail
  replace M := Lib.hid (aI (J1 M).1 (aI (J2 M).1 (aI (J3 M).1 (J4 M))))
  rename_i Kst_ hst_
  exact rboth_sw_s5 hG HP HQ HR HS HA HB HAA HBB HLO HHI HZ0 HZ1 HZ2 HZ3 HC0 HC1 HC2 HC3 HK HI H1 H2 H3 H4 (by omega) (by omega) (by omega) M Kst_ hst_
theorem rboth_some {u0 u1 u2 u3 u4 u5 u6 u7 v0 v1 v2 v3 v4 v5 v6 v7 : Value} {p q r s : Rat} {k : Nat} {i : Int} {lo hi : Rat} {w : World} (hG : G ≤ w.heap.size) (h1 : FQ G w u0 u1 u2 u3 p) (h2 : FQ G w u4 u5 u6 u7 q) (h3 : FQ G w v0 v1 v2 v3 r) (h4 : FQ G w v4 v5 v6 v7 s) (hp : Fz p 8589934592) (hq : Fz q 8589934592) (hr : Fz r 8589934592) (hs : Fz s 8589934592) (ha : p ≤ q) (hb : r ≤ s) (hk : k < 6) (hi_ : (k : Int) = i) (ho : opS k ⟨p, q⟩ ⟨r, s⟩ = some ⟨lo, hi⟩) :
  Calls Tryz.prog 8 #[.int .i64 i, .agg #[u0, u1, u2, u3, u4, u5, u6, u7], .agg #[v0, v1, v2, v3, v4, v5, v6, v7]] w fun e w' => ∃ x0 x1 x2 x3 x4 x5 x6 x7, e = .returned (.tuple #[.agg #[x0, x1, x2, x3, x4, x5, x6, x7], .int .i64 0]) ∧ FQ G w' x0 x1 x2 x3 lo ∧ FQ G w' x4 x5 x6 x7 hi ∧ Below w.heap.size w w' := by
 obtain ⟨z0, z1, z2, z3, hc0, hc1, hc2, hc3, hlo, hhi⟩ := both_ends ha hb ho
 refine rboth_sw hG (Lib.hid hp) (Lib.hid hq) (Lib.hid hr) (Lib.hid hs) (Lib.hid (decide_eq_true ha)) (Lib.hid (decide_eq_true hb)) (Lib.hid ha) (Lib.hid hb) (Lib.hid hlo) (Lib.hid hhi) (Lib.hid (calcz hp hr hc0)) (Lib.hid (calcz hq hr hc1)) (Lib.hid (calcz hp hs hc2)) (Lib.hid (calcz hq hs hc3)) (Lib.hid hc0) (Lib.hid hc1) (Lib.hid hc2) (Lib.hid hc3) (Lib.hid hk) (Lib.hid hi_) rfl ?_ h1 h2 h3 h4
 show _ → _
 intro e_
 rw [← hi_] at e_
 have e3 : k = 3 := by have := beq_iff_eq.1 e_; omega
 subst e3
 rw [← Bool.decide_and]
 exact decide_eq_false (divS_some ho).1
set_option maxRecDepth 100000 in
set_option maxHeartbeats 4000000 in
theorem rboth_none3 {u0 u1 u2 u3 u4 u5 u6 u7 v0 v1 v2 v3 v4 v5 v6 v7 : Value} {p q r s : Rat} {w : World} (hG : G ≤ w.heap.size) (h1 : FQ G w u0 u1 u2 u3 p) (h2 : FQ G w u4 u5 u6 u7 q) (h3 : FQ G w v0 v1 v2 v3 r) (h4 : FQ G w v4 v5 v6 v7 s) (hp : Fz p 8589934592) (hq : Fz q 8589934592) (hr : Fz r 8589934592) (hs : Fz s 8589934592) (ha : p ≤ q) (hb : r ≤ s) (h0 : r ≤ 0 ∧ 0 ≤ s) :
  Calls Tryz.prog 8 #[.int .i64 3, .agg #[u0, u1, u2, u3, u4, u5, u6, u7], .agg #[v0, v1, v2, v3, v4, v5, v6, v7]] w fun e w' => e = .returned (.tuple #[.agg #[.int .i64 0, .slice none 0 0, .int .i64 0, .slice none 0 0, .int .i64 0, .slice none 0 0, .int .i64 0, .slice none 0 0], .int .i64 15]) ∧ Below w.heap.size w w' := by
 have HZ : Hid ((decide (r ≤ ((0 : Int) : Rat)) && decide (((0 : Int) : Rat) ≤ s)) = true) := by show _ = _; rw [← Bool.decide_and]; exact decide_eq_true h0
 clear h0
 have HP := Lib.hid hp; have HQ := Lib.hid hq; have HR := Lib.hid hr; have HS := Lib.hid hs; have HA := Lib.hid (decide_eq_true ha); have HB := Lib.hid (decide_eq_true hb); have HAA := Lib.hid ha; have HBB := Lib.hid hb; clear hp hq hr hs ha hb
 have H1 : Hid (FQ G w u0 u1 u2 u3 p) := h1
 have H2 : Hid (FQ G w u4 u5 u6 u7 q) := h2
 have H3 : Hid (FQ G w v0 v1 v2 v3 r) := h3
 have H4 : Hid (FQ G w v4 v5 v6 v7 s) := h4
 clear h1 h2 h3 h4
 have M : Hid (Below w.heap.size w w) := Below.refl _ _
 go_enter Tryz.func8, Tryz.ntmps8
 go_upto_region 1 with fail
 refine nmW (((w.alloc (.cells #[u0, u1, u2, u3, u4, u5, u6, u7] 28)).alloc (.cells #[v0, v1, v2, v3, v4, v5, v6, v7] 28)).alloc (.cells #[.int .i64 0, .slice none 0 0, .int .i64 0, .slice none 0 0, .int .i64 0, .slice none 0 0, .int .i64 0, .slice none 0 0] 28)) fun w1 hv => ?_
 rw [← hv]
 replace M := al3W hv M
 clear hv
 refine cj8 (J2 M).1.d8 fun aa ab ac ad ae af ag ah => ?_
 go_wp2_with fail
 clear aa ab ac ad ae af ag ah
 refine (rsRight_q (G := G) (p := p) (q := q) (b_ := true) (H1.out.keep (J3 M)) (H2.out.keep (J3 M)) (Fz.mono HP.out (by omega)) (Fz.mono HQ.out (by omega)) HA.out).mono ?_
 rintro e w2 ⟨rfl, hb⟩
 replace M := gnM hb M
 clear hb
 refine cj8 (J1 M).1.d8 fun ai aj ak al am ao ap aq => ?_
 go_wp2_with fail
 clear ai aj ak al am ao ap aq
 refine (rsRight_q (G := G) (p := r) (q := s) (b_ := true) (H3.out.keep (J3 M)) (H4.out.keep (J3 M)) (Fz.mono HR.out (by omega)) (Fz.mono HS.out (by omega)) HB.out).mono ?_
 rintro e w3 ⟨rfl, hb⟩
 replace M := gnM hb M
 clear hb
 go_wp2_with fail
 refine nmW w3.drew fun w4 hv => ?_
 replace M := drM hv M
 refine wp_region_held_drew (S := (fun w' => w'.cell? ⟨w.heap.size + 1, 0, none⟩ = some (v0) ∧ w'.cell? ⟨w.heap.size + 1, 1, none⟩ = some (v1) ∧ w'.cell? ⟨w.heap.size + 1, 2, none⟩ = some (v2) ∧ w'.cell? ⟨w.heap.size + 1, 3, none⟩ = some (v3) ∧ w'.cell? ⟨w.heap.size + 1, 4, none⟩ = some (v4) ∧ w'.cell? ⟨w.heap.size + 1, 5, none⟩ = some (v5) ∧ w'.cell? ⟨w.heap.size + 1, 6, none⟩ = some (v6) ∧ w'.cell? ⟨w.heap.size + 1, 7, none⟩ = some (v7))) (by kernel_rfl) (by rw [← hv]; exact (J1 M).1.d8) (fun hH7 => ?_)
 rw [← hv] at hH7 ⊢
 clear hv
 refine tk at0 ?_
 refine tk at1 ?_
 refine tk at2 ?_
 refine tk at3 ?_
 refine wpAnyH_ready (rs := [4]) (by kernel_rfl) (by simp) ?_
 refine AllReadyH.cons at4 (fun K hK => ?_) AllReadyH.nil
 go_simp
 refine nmW (α := Rat) ((0 : Int) : Rat) fun q12 eq12 => ?_
 refine (rqInt (G := G) (x := 0) (by decide)).mono ?_
 rintro e w5 ⟨x_8, x_9, x_10, x_11, rfl, hd13, hb⟩
 rw [← eq12] at hd13
 have Sq12 : Hid (Fz q12 4) := by show Fz q12 4; rw [eq12]; exact (Fz.int64 (by decide))
 have Eq12 := Lib.hid eq12; clear eq12
 replace M := adM hd13 hb M
 clear hb hd13
 (try go_wp2_with fail)
 refine hK.out _ _ ((J2 M).1.d8) (fun hH14 => ?_)
 clear hK K hH7
 (try simp only [Act.put, List.setIfInBounds_toArray, List.set_cons_zero, List.set_cons_succ])
 refine wpAnyH_ready (rs := [5]) (by kernel_rfl) (by simp) ?_
 refine AllReadyH.cons at5 (fun K hK => ?_) AllReadyH.nil
 go_simp
 refine (rsHas_q (G := G) (p := r) (q := s) (x := q12) (b_ := true) (Nat.le_trans hG (J4 M).size) (H3.out.keep (J4 M)) (H4.out.keep (J4 M)) (Fz.mono HR.out (by omega)) (Fz.mono HS.out (by omega)) HBB.out (M.out.1) (Fz.mono Sq12.out (by omega)) (by rw [Eq12.out]; exact HZ.out)).mono ?_
 rintro e w6 ⟨rfl, hb⟩
 replace M := gnM hb M
 clear hb
 (try go_wp2_with fail)
 refine hK.out _ _ ((J2 M).1.d8) (fun hH15 => ?_)
 clear hK K hH14
 (try simp only [Act.put, List.setIfInBounds_toArray, List.set_cons_zero, List.set_cons_succ])
 refine tk at6 ?_
 refine wpAnyH_done (by kernel_rfl) ?_ _
 clear hH15
 refine cj16 (J1 M).1.c8 fun ar au av aw ax ay az ba bb bc bd bf bg bh bi bj => ?_
 go_wp2_with fail
 clear ar au av aw ax ay az ba bb bc bd bf bg bh bi bj
 have hz : w.heap.size ≤ w.heap.size + 1 + 1 := by omega
 refine st8W (.int .i64 0) (.slice none 0 0) (.int .i64 0) (.slice none 0 0) (.int .i64 0) (.slice none 0 0) (.int .i64 0) (.slice none 0 0) (J1 M).1 (J4 M) hz fun w7 hv og hk hbw => ?_
 rw [← hv]
 replace M := Lib.hid (aI ((M.out.1).far (J1 M).1 (by rfl) (by omega) og) (aI hk (aI ((J2 M).1.only og (by omega)) (aI ((J3 M).1.only og (by omega)) hbw))))
 clear hk hbw og hv hz
 refine bodyPost_ret (results_box2 rfl _ _ (w.heap.size + 1 + 1) 28 _ _ _ rfl (J1 M).1 Tryz.underlying28 rfl (by kernel_rfl)) rfl ?_
 exact ⟨rfl, (J4 M)⟩
end Go.Proofs.YtjbfngjlepafgaaGreat
