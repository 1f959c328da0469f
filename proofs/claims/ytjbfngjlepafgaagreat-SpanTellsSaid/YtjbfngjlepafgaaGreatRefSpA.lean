/- The reference's spans, at right arguments. -/
import Derived.Test.YtjbfngjlepafgaaGreatBase
import Derived.Test.YtjbfngjlepafgaaGreatBigSpec
import Derived.Test.YtjbfngjlepafgaaGreatBigB
import Derived.Test.YtjbfngjlepafgaaGreatBigC
import Derived.Test.YtjbfngjlepafgaaGreatBigD
import Derived.Test.YtjbfngjlepafgaaGreatBigK
import Derived.Test.YtjbfngjlepafgaaGreatBigQ
import Derived.Test.YtjbfngjlepafgaaGreatFracA
import Derived.Test.YtjbfngjlepafgaaGreatRefE
import Derived.Test.YtjbfngjlepafgaaGreatFz
import Derived.Test.YtjbfngjlepafgaaGreatHeld
import Derived.Test.YtjbfngjlepafgaaGreatAw
import Derived.Test.YtjbfngjlepafgaaGreatFracD
import Derived.Test.YtjbfngjlepafgaaGreatRefO
import Derived.Test.YtjbfngjlepafgaaGreatFq
import Derived.Test.YtjbfngjlepafgaaGreatSpanPlain
import Derived.Test.YtjbfngjlepafgaaGreatRefY
import Derived.Test.YtjbfngjlepafgaaGreatOwn
import Derived.Test.YtjbfngjlepafgaaGreatProg
import Derived.Test.YtjbfngjlepafgaaGreatShelf
import Derived.WalkKit
import Derived.WalkSpells
import Derived.WalkLawsBesides
import Derived.Handy
import Derived.Lib.Hide
import Derived.Lib.Strings
import Derived.Lib.Builder
import Derived.BigQuiet
import Derived.OwnWalk
import Derived.Laws.BitsLemmas
import Derived.WalkSmall
import Derived.Deep.QuietTactic
import Derived.StillTailTactics
import Derived.Maps.AppendAt
import Derived.IntWalk
import Derived.Deep.RegionHeld3
import Derived.Deep.DeepFit
import Derived.Deep.LoopGhost
import Derived.Deep.DeepCutAuto
import Derived.Lib.ItoaNum
import Derived.Lib.Repeat
import Derived.Lib.AppendIntMem
import Derived.Sort.OwnSorted
import Derived.Shelf.Strings.SlTrimAscii
import Derived.Lib.ConvBytes
import Derived.Lib.CutLaws
namespace Go.Proofs.YtjbfngjlepafgaaGreat
open Go.RowKit Go.Lib
variable {G : Nat}

set_option maxRecDepth 100000 in
set_option maxHeartbeats 4000000 in
theorem spAdd_q {u0 u1 u2 u3 u4 u5 u6 u7 v0 v1 v2 v3 v4 v5 v6 v7 : Value} {p q r s : Rat} {w : World} (_hG : G ≤ w.heap.size) (h1 : FQ G w u0 u1 u2 u3 p) (h2 : FQ G w u4 u5 u6 u7 q) (h3 : FQ G w v0 v1 v2 v3 r) (h4 : FQ G w v4 v5 v6 v7 s) (hp : Fz p 34359738368) (hq : Fz q 34359738368) (hr : Fz r 34359738368) (hs : Fz s 34359738368) (ha : p ≤ q) (hb : r ≤ s)  :
  Calls Tryz.prog 28 #[.agg #[u0, u1, u2, u3, u4, u5, u6, u7], .agg #[v0, v1, v2, v3, v4, v5, v6, v7]] w fun e w' => ∃ x0 x1 x2 x3 x4 x5 x6 x7, e = .returned (.tuple #[.agg #[x0, x1, x2, x3, x4, x5, x6, x7], .int .i64 0]) ∧ FQ G w' x0 x1 x2 x3 (p + r) ∧ FQ G w' x4 x5 x6 x7 (q + s) ∧ Below w.heap.size w w' := by
 have HP := Lib.hid hp; have HQ := Lib.hid hq; have HR := Lib.hid hr; have HS := Lib.hid hs; have HA := Lib.hid (decide_eq_true ha); have HB := Lib.hid (decide_eq_true hb); have HAA := Lib.hid ha; have HBB := Lib.hid hb; clear hp hq hr hs ha hb
 have H1 : Hid (FQ G w u0 u1 u2 u3 p) := h1
 have H2 : Hid (FQ G w u4 u5 u6 u7 q) := h2
 have H3 : Hid (FQ G w v0 v1 v2 v3 r) := h3
 have H4 : Hid (FQ G w v4 v5 v6 v7 s) := h4
 clear h1 h2 h3 h4
 have M : Hid (Below w.heap.size w w) := Below.refl _ _
 go_enter Tryz.func28, Tryz.ntmps28
 go_upto_region 1 with fail
 refine nmW (((w.alloc (.cells #[u0, u1, u2, u3, u4, u5, u6, u7] 28)).alloc (.cells #[v0, v1, v2, v3, v4, v5, v6, v7] 28)).alloc (.cells #[.int .i64 0, .slice none 0 0, .int .i64 0, .slice none 0 0, .int .i64 0, .slice none 0 0, .int .i64 0, .slice none 0 0] 28)) fun w1 hv => ?_
 rw [← hv]
 replace M := al3W hv M
 clear hv
 refine cj8 (J2 M).1.d8 fun aa ab ac ad ae af ag ah => ?_
 go_wp2_with fail
 clear aa ab ac ad ae af ag ah
 refine (spRight_q (G := G) (p := p) (q := q) (b_ := true) (H1.out.keep (J3 M)) (H2.out.keep (J3 M)) (Fz.mono HP.out (by omega)) (Fz.mono HQ.out (by omega)) HA.out).mono ?_
 rintro e w2 ⟨rfl, hb⟩
 replace M := gnM hb M
 clear hb
 refine cj8 (J1 M).1.d8 fun ai aj ak al am ao ap aq => ?_
 go_wp2_with fail
 clear ai aj ak al am ao ap aq
 refine (spRight_q (G := G) (p := r) (q := s) (b_ := true) (H3.out.keep (J3 M)) (H4.out.keep (J3 M)) (Fz.mono HR.out (by omega)) (Fz.mono HS.out (by omega)) HB.out).mono ?_
 rintro e w3 ⟨rfl, hb⟩
 replace M := gnM hb M
 clear hb
 refine cj8 (J2 M).1.d8 fun aa ab ac ad ae af ag ah => ?_
 refine cj8 (J1 M).1.d8 fun ai aj ak al am ao ap aq => ?_
 go_wp2_with fail
 clear aa ab ac ad ae af ag ah ai aj ak al am ao ap aq
 refine nmW (α := Rat) (p + r) fun q5 eq5 => ?_
 refine (fqAdd (G := G) (q := p) (r := r) (H1.out.keep (J3 M)) (H3.out.keep (J3 M)) (Fz.mono HP.out (by omega)) (Fz.mono HR.out (by omega))).mono ?_
 rintro e w4 ⟨x_1, x_2, x_3, x_4, rfl, hd6, hb⟩
 rw [← eq5] at hd6
 have Sq5 : Hid (Fz q5 68719476737) := by show Fz q5 68719476737; rw [eq5]; exact (Fz.add HP.out HR.out)
 have Eq5 := Lib.hid eq5; clear eq5
 replace M := adM hd6 hb M
 clear hb hd6
 refine cj4 (TQ.st (M.out.1)) fun ar au av aw => ?_
 go_upto_region 4 with fail
 clear ar au av aw
 refine nmW (w4.alloc (.cells #[x_1, x_2, x_3, x_4] 26)) fun w5 hv => ?_
 rw [← hv]
 have ow3_ : w.heap.size + 1 + 1 < w4.heap.size := ((J1 M).1).lt
 replace M := alM hv M
 clear hv
 refine cj8 (J4 M).1.d8 fun aa ab ac ad ae af ag ah => ?_
 refine cj8 (J3 M).1.d8 fun ai aj ak al am ao ap aq => ?_
 go_wp2_with fail
 clear aa ab ac ad ae af ag ah ai aj ak al am ao ap aq
 refine nmW (α := Rat) (q + s) fun q11 eq11 => ?_
 refine (fqAdd (G := G) (q := q) (r := s) (H2.out.keep (J5 M)) (H4.out.keep (J5 M)) (Fz.mono HQ.out (by omega)) (Fz.mono HS.out (by omega))).mono ?_
 rintro e w6 ⟨x_7, x_8, x_9, x_10, rfl, hd12, hb⟩
 rw [← eq11] at hd12
 have Sq11 : Hid (Fz q11 68719476737) := by show Fz q11 68719476737; rw [eq11]; exact (Fz.add HQ.out HS.out)
 have Eq11 := Lib.hid eq11; clear eq11
 replace M := adM hd12 hb M
 clear hb hd12
 refine cj4 (TQ.st (M.out.1)) fun ax ay az ba => ?_
 go_upto_region 5 with fail
 clear ax ay az ba
 refine nmW (w6.alloc (.cells #[x_7, x_8, x_9, x_10] 26)) fun w7 hv => ?_
 rw [← hv]
 have ow4_ : w4.heap.size < w6.heap.size := ((J1 M).1).lt
 replace M := alM hv M
 clear hv
 refine cj4 (J2 M).1.d4 fun bb bc bd bf => ?_
 refine cj4 (M.out.1).d4 fun bg bh bi bj => ?_
 refine cj16 (J4 M).1.c8 fun bk bl bm bn bo bp bq br bs bt bu bv bw bx bz ca => ?_
 refine cj4 (TQ.st (J3 M).1) fun ar au av aw => ?_
 refine cj4 (TQ.st (J1 M).1) fun ax ay az ba => ?_
 go_wp2_with fail
 clear bb bc bd bf bg bh bi bj bk bl bm bn bo bp bq br bs bt bu bv bw bx bz ca ar au av aw ax ay az ba
 have hz : w.heap.size ≤ w.heap.size + 1 + 1 := by omega
 refine st8W (x_1) (x_2) (x_3) (x_4) (x_7) (x_8) (x_9) (x_10) (J4 M).1 (J7 M) hz fun w8 hv og hk hbw => ?_
 rw [← hv]
 replace M := Lib.hid (aI ((M.out.1).only og (by omega)) (aI ((J1 M).1.far (J4 M).1 (by rfl) (by omega) og) (aI ((J2 M).1.only og (by omega)) (aI ((J3 M).1.far (J4 M).1 (by rfl) (by omega) og) (aI hk (aI ((J5 M).1.only og (by omega)) (aI ((J6 M).1.only og (by omega)) hbw)))))))
 clear hk hbw og hv hz
 refine bodyPost_ret (results_box2 rfl _ _ (w.heap.size + 1 + 1) 28 _ _ _ rfl (J4 M).1 Tryz.underlying28 rfl (by kernel_rfl)) rfl ?_
 exact ⟨x_1, x_2, x_3, x_4, x_7, x_8, x_9, x_10, rfl, (by have h_ := (J3 M).1; rw [Eq5.out] at h_; exact h_), (by have h_ := (J1 M).1; rw [Eq11.out] at h_; exact h_), (J7 M)⟩
set_option maxRecDepth 100000 in
set_option maxHeartbeats 4000000 in
theorem spMin_q {u0 u1 u2 u3 u4 u5 u6 u7 v0 v1 v2 v3 v4 v5 v6 v7 : Value} {p q r s : Rat} {w : World} (hG : G ≤ w.heap.size) (h1 : FQ G w u0 u1 u2 u3 p) (h2 : FQ G w u4 u5 u6 u7 q) (h3 : FQ G w v0 v1 v2 v3 r) (h4 : FQ G w v4 v5 v6 v7 s) (hp : Fz p 34359738368) (hq : Fz q 34359738368) (hr : Fz r 34359738368) (hs : Fz s 34359738368) (ha : p ≤ q) (hb : r ≤ s)  :
  Calls Tryz.prog 33 #[.agg #[u0, u1, u2, u3, u4, u5, u6, u7], .agg #[v0, v1, v2, v3, v4, v5, v6, v7]] w fun e w' => ∃ x0 x1 x2 x3 x4 x5 x6 x7, e = .returned (.tuple #[.agg #[x0, x1, x2, x3, x4, x5, x6, x7], .int .i64 0]) ∧ FQ G w' x0 x1 x2 x3 (minQ p r) ∧ FQ G w' x4 x5 x6 x7 (minQ q s) ∧ Below w.heap.size w w' := by
 have HP := Lib.hid hp; have HQ := Lib.hid hq; have HR := Lib.hid hr; have HS := Lib.hid hs; have HA := Lib.hid (decide_eq_true ha); have HB := Lib.hid (decide_eq_true hb); have HAA := Lib.hid ha; have HBB := Lib.hid hb; clear hp hq hr hs ha hb
 have H1 : Hid (FQ G w u0 u1 u2 u3 p) := h1
 have H2 : Hid (FQ G w u4 u5 u6 u7 q) := h2
 have H3 : Hid (FQ G w v0 v1 v2 v3 r) := h3
 have H4 : Hid (FQ G w v4 v5 v6 v7 s) := h4
 clear h1 h2 h3 h4
 have M : Hid (Below w.heap.size w w) := Below.refl _ _
 go_enter Tryz.func33, Tryz.ntmps33
 go_upto_region 1 with fail
 refine nmW (((w.alloc (.cells #[u0, u1, u2, u3, u4, u5, u6, u7] 28)).alloc (.cells #[v0, v1, v2, v3, v4, v5, v6, v7] 28)).alloc (.cells #[.int .i64 0, .slice none 0 0, .int .i64 0, .slice none 0 0, .int .i64 0, .slice none 0 0, .int .i64 0, .slice none 0 0] 28)) fun w1 hv => ?_
 rw [← hv]
 replace M := al3W hv M
 clear hv
 refine cj8 (J2 M).1.d8 fun aa ab ac ad ae af ag ah => ?_
 go_wp2_with fail
 clear aa ab ac ad ae af ag ah
 refine (spRight_q (G := G) (p := p) (q := q) (b_ := true) (H1.out.keep (J3 M)) (H2.out.keep (J3 M)) (Fz.mono HP.out (by omega)) (Fz.mono HQ.out (by omega)) HA.out).mono ?_
 rintro e w2 ⟨rfl, hb⟩
 replace M := gnM hb M
 clear hb
 refine cj8 (J1 M).1.d8 fun ai aj ak al am ao ap aq => ?_
 go_wp2_with fail
 clear ai aj ak al am ao ap aq
 refine (spRight_q (G := G) (p := r) (q := s) (b_ := true) (H3.out.keep (J3 M)) (H4.out.keep (J3 M)) (Fz.mono HR.out (by omega)) (Fz.mono HS.out (by omega)) HB.out).mono ?_
 rintro e w3 ⟨rfl, hb⟩
 replace M := gnM hb M
 clear hb
 refine cj8 (J2 M).1.d8 fun aa ab ac ad ae af ag ah => ?_
 refine cj8 (J1 M).1.d8 fun ai aj ak al am ao ap aq => ?_
 go_wp2_with fail
 clear aa ab ac ad ae af ag ah ai aj ak al am ao ap aq
 refine (ends_ok (G := G) (q := p) (r := r) (lo := (minQ p r)) (hi := (maxQ p r)) (Nat.le_trans hG (J3 M).size) (H1.out.keep (J3 M)) (H3.out.keep (J3 M)) (Fz.mono HP.out (by omega)) (Fz.mono HR.out (by omega)) rfl rfl).mono ?_
 rintro e w4 ⟨x_1, x_2, x_3, x_4, x_5, x_6, x_7, x_8, rfl, hd9, hd10, hb⟩
 replace M := ad2M hd9 hd10 hb M
 clear hb hd9 hd10
 refine cj4 (TQ.st (M.out.1)) fun ar au av aw => ?_
 refine cj4 (TQ.st (J1 M).1) fun ax ay az ba => ?_
 go_upto_region 4 with fail
 clear ar au av aw ax ay az ba
 refine nmW ((w4.alloc (.cells #[x_1, x_2, x_3, x_4] 26)).alloc (.cells #[x_5, x_6, x_7, x_8] 26)) fun w5 hv => ?_
 rw [← hv]
 have ow3_ : w.heap.size + 1 + 1 < w4.heap.size := ((J2 M).1).lt
 replace M := al2W hv M
 clear hv
 refine cj8 (J6 M).1.d8 fun aa ab ac ad ae af ag ah => ?_
 refine cj8 (J5 M).1.d8 fun ai aj ak al am ao ap aq => ?_
 go_wp2_with fail
 clear aa ab ac ad ae af ag ah ai aj ak al am ao ap aq
 refine (ends_ok (G := G) (q := q) (r := s) (lo := (minQ q s)) (hi := (maxQ q s)) (Nat.le_trans hG (J7 M).size) (H2.out.keep (J7 M)) (H4.out.keep (J7 M)) (Fz.mono HQ.out (by omega)) (Fz.mono HS.out (by omega)) rfl rfl).mono ?_
 rintro e w6 ⟨x_11, x_12, x_13, x_14, x_15, x_16, x_17, x_18, rfl, hd19, hd20, hb⟩
 replace M := ad2M hd19 hd20 hb M
 clear hb hd19 hd20
 refine cj4 (TQ.st (M.out.1)) fun bb bc bd bf => ?_
 refine cj4 (TQ.st (J1 M).1) fun bg bh bi bj => ?_
 go_upto_region 5 with fail
 clear bb bc bd bf bg bh bi bj
 refine nmW ((w6.alloc (.cells #[x_11, x_12, x_13, x_14] 26)).alloc (.cells #[x_15, x_16, x_17, x_18] 26)) fun w7 hv => ?_
 rw [← hv]
 have ow5_ : w4.heap.size + 1 < w6.heap.size := ((J2 M).1).lt
 replace M := al2W hv M
 clear hv
 refine cj4 (J5 M).1.d4 fun bk bl bm bn => ?_
 refine cj4 (J1 M).1.d4 fun bo bp bq br => ?_
 refine cj16 (J8 M).1.c8 fun bs bt bu bv bw bx bz ca cb cc cd ce cf cg ch ci => ?_
 refine cj4 (TQ.st (J6 M).1) fun ar au av aw => ?_
 refine cj4 (TQ.st (J2 M).1) fun bb bc bd bf => ?_
 go_wp2_with fail
 clear bk bl bm bn bo bp bq br bs bt bu bv bw bx bz ca cb cc cd ce cf cg ch ci ar au av aw bb bc bd bf
 have hz : w.heap.size ≤ w.heap.size + 1 + 1 := by omega
 refine st8W (x_1) (x_2) (x_3) (x_4) (x_11) (x_12) (x_13) (x_14) (J8 M).1 (J11 M) hz fun w8 hv og hk hbw => ?_
 rw [← hv]
 replace M := Lib.hid (aI ((M.out.1).only og (by omega)) (aI ((J1 M).1.only og (by omega)) (aI ((J2 M).1.far (J8 M).1 (by rfl) (by omega) og) (aI ((J3 M).1.far (J8 M).1 (by rfl) (by omega) og) (aI ((J4 M).1.only og (by omega)) (aI ((J5 M).1.only og (by omega)) (aI ((J6 M).1.far (J8 M).1 (by rfl) (by omega) og) (aI ((J7 M).1.far (J8 M).1 (by rfl) (by omega) og) (aI hk (aI ((J9 M).1.only og (by omega)) (aI ((J10 M).1.only og (by omega)) hbw)))))))))))
 clear hk hbw og hv hz
 refine bodyPost_ret (results_box2 rfl _ _ (w.heap.size + 1 + 1) 28 _ _ _ rfl (J8 M).1 Tryz.underlying28 rfl (by kernel_rfl)) rfl ?_
 exact ⟨x_1, x_2, x_3, x_4, x_11, x_12, x_13, x_14, rfl, (J6 M).1, (J2 M).1, (J11 M)⟩
set_option maxRecDepth 100000 in
set_option maxHeartbeats 4000000 in
theorem spMax_q {u0 u1 u2 u3 u4 u5 u6 u7 v0 v1 v2 v3 v4 v5 v6 v7 : Value} {p q r s : Rat} {w : World} (hG : G ≤ w.heap.size) (h1 : FQ G w u0 u1 u2 u3 p) (h2 : FQ G w u4 u5 u6 u7 q) (h3 : FQ G w v0 v1 v2 v3 r) (h4 : FQ G w v4 v5 v6 v7 s) (hp : Fz p 34359738368) (hq : Fz q 34359738368) (hr : Fz r 34359738368) (hs : Fz s 34359738368) (ha : p ≤ q) (hb : r ≤ s)  :
  Calls Tryz.prog 34 #[.agg #[u0, u1, u2, u3, u4, u5, u6, u7], .agg #[v0, v1, v2, v3, v4, v5, v6, v7]] w fun e w' => ∃ x0 x1 x2 x3 x4 x5 x6 x7, e = .returned (.tuple #[.agg #[x0, x1, x2, x3, x4, x5, x6, x7], .int .i64 0]) ∧ FQ G w' x0 x1 x2 x3 (maxQ p r) ∧ FQ G w' x4 x5 x6 x7 (maxQ q s) ∧ Below w.heap.size w w' := by
 have HP := Lib.hid hp; have HQ := Lib.hid hq; have HR := Lib.hid hr; have HS := Lib.hid hs; have HA := Lib.hid (decide_eq_true ha); have HB := Lib.hid (decide_eq_true hb); have HAA := Lib.hid ha; have HBB := Lib.hid hb; clear hp hq hr hs ha hb
 have H1 : Hid (FQ G w u0 u1 u2 u3 p) := h1
 have H2 : Hid (FQ G w u4 u5 u6 u7 q) := h2
 have H3 : Hid (FQ G w v0 v1 v2 v3 r) := h3
 have H4 : Hid (FQ G w v4 v5 v6 v7 s) := h4
 clear h1 h2 h3 h4
 have M : Hid (Below w.heap.size w w) := Below.refl _ _
 go_enter Tryz.func34, Tryz.ntmps34
 go_upto_region 1 with fail
 refine nmW (((w.alloc (.cells #[u0, u1, u2, u3, u4, u5, u6, u7] 28)).alloc (.cells #[v0, v1, v2, v3, v4, v5, v6, v7] 28)).alloc (.cells #[.int .i64 0, .slice none 0 0, .int .i64 0, .slice none 0 0, .int .i64 0, .slice none 0 0, .int .i64 0, .slice none 0 0] 28)) fun w1 hv => ?_
 rw [← hv]
 replace M := al3W hv M
 clear hv
 refine cj8 (J2 M).1.d8 fun aa ab ac ad ae af ag ah => ?_
 go_wp2_with fail
 clear aa ab ac ad ae af ag ah
 refine (spRight_q (G := G) (p := p) (q := q) (b_ := true) (H1.out.keep (J3 M)) (H2.out.keep (J3 M)) (Fz.mono HP.out (by omega)) (Fz.mono HQ.out (by omega)) HA.out).mono ?_
 rintro e w2 ⟨rfl, hb⟩
 replace M := gnM hb M
 clear hb
 refine cj8 (J1 M).1.d8 fun ai aj ak al am ao ap aq => ?_
 go_wp2_with fail
 clear ai aj ak al am ao ap aq
 refine (spRight_q (G := G) (p := r) (q := s) (b_ := true) (H3.out.keep (J3 M)) (H4.out.keep (J3 M)) (Fz.mono HR.out (by omega)) (Fz.mono HS.out (by omega)) HB.out).mono ?_
 rintro e w3 ⟨rfl, hb⟩
 replace M := gnM hb M
 clear hb
 refine cj8 (J2 M).1.d8 fun aa ab ac ad ae af ag ah => ?_
 refine cj8 (J1 M).1.d8 fun ai aj ak al am ao ap aq => ?_
 go_wp2_with fail
 clear aa ab ac ad ae af ag ah ai aj ak al am ao ap aq
 refine (ends_ok (G := G) (q := p) (r := r) (lo := (minQ p r)) (hi := (maxQ p r)) (Nat.le_trans hG (J3 M).size) (H1.out.keep (J3 M)) (H3.out.keep (J3 M)) (Fz.mono HP.out (by omega)) (Fz.mono HR.out (by omega)) rfl rfl).mono ?_
 rintro e w4 ⟨x_1, x_2, x_3, x_4, x_5, x_6, x_7, x_8, rfl, hd9, hd10, hb⟩
 replace M := ad2M hd9 hd10 hb M
 clear hb hd9 hd10
 refine cj4 (TQ.st (M.out.1)) fun ar au av aw => ?_
 refine cj4 (TQ.st (J1 M).1) fun ax ay az ba => ?_
 go_upto_region 4 with fail
 clear ar au av aw ax ay az ba
 refine nmW ((w4.alloc (.cells #[x_1, x_2, x_3, x_4] 26)).alloc (.cells #[x_5, x_6, x_7, x_8] 26)) fun w5 hv => ?_
 rw [← hv]
 have ow3_ : w.heap.size + 1 + 1 < w4.heap.size := ((J2 M).1).lt
 replace M := al2W hv M
 clear hv
 refine cj8 (J6 M).1.d8 fun aa ab ac ad ae af ag ah => ?_
 refine cj8 (J5 M).1.d8 fun ai aj ak al am ao ap aq => ?_
 go_wp2_with fail
 clear aa ab ac ad ae af ag ah ai aj ak al am ao ap aq
 refine (ends_ok (G := G) (q := q) (r := s) (lo := (minQ q s)) (hi := (maxQ q s)) (Nat.le_trans hG (J7 M).size) (H2.out.keep (J7 M)) (H4.out.keep (J7 M)) (Fz.mono HQ.out (by omega)) (Fz.mono HS.out (by omega)) rfl rfl).mono ?_
 rintro e w6 ⟨x_11, x_12, x_13, x_14, x_15, x_16, x_17, x_18, rfl, hd19, hd20, hb⟩
 replace M := ad2M hd19 hd20 hb M
 clear hb hd19 hd20
 refine cj4 (TQ.st (M.out.1)) fun bb bc bd bf => ?_
 refine cj4 (TQ.st (J1 M).1) fun bg bh bi bj => ?_
 go_upto_region 5 with fail
 clear bb bc bd bf bg bh bi bj
 refine nmW ((w6.alloc (.cells #[x_11, x_12, x_13, x_14] 26)).alloc (.cells #[x_15, x_16, x_17, x_18] 26)) fun w7 hv => ?_
 rw [← hv]
 have ow5_ : w4.heap.size + 1 < w6.heap.size := ((J2 M).1).lt
 replace M := al2W hv M
 clear hv
 refine cj4 (J4 M).1.d4 fun bk bl bm bn => ?_
 refine cj4 (M.out.1).d4 fun bo bp bq br => ?_
 refine cj16 (J8 M).1.c8 fun bs bt bu bv bw bx bz ca cb cc cd ce cf cg ch ci => ?_
 refine cj4 (TQ.st (J7 M).1) fun ax ay az ba => ?_
 refine cj4 (TQ.st (J3 M).1) fun bg bh bi bj => ?_
 go_wp2_with fail
 clear bk bl bm bn bo bp bq br bs bt bu bv bw bx bz ca cb cc cd ce cf cg ch ci ax ay az ba bg bh bi bj
 have hz : w.heap.size ≤ w.heap.size + 1 + 1 := by omega
 refine st8W (x_5) (x_6) (x_7) (x_8) (x_15) (x_16) (x_17) (x_18) (J8 M).1 (J11 M) hz fun w8 hv og hk hbw => ?_
 rw [← hv]
 replace M := Lib.hid (aI ((M.out.1).only og (by omega)) (aI ((J1 M).1.only og (by omega)) (aI ((J2 M).1.far (J8 M).1 (by rfl) (by omega) og) (aI ((J3 M).1.far (J8 M).1 (by rfl) (by omega) og) (aI ((J4 M).1.only og (by omega)) (aI ((J5 M).1.only og (by omega)) (aI ((J6 M).1.far (J8 M).1 (by rfl) (by omega) og) (aI ((J7 M).1.far (J8 M).1 (by rfl) (by omega) og) (aI hk (aI ((J9 M).1.only og (by omega)) (aI ((J10 M).1.only og (by omega)) hbw)))))))))))
 clear hk hbw og hv hz
 refine bodyPost_ret (results_box2 rfl _ _ (w.heap.size + 1 + 1) 28 _ _ _ rfl (J8 M).1 Tryz.underlying28 rfl (by kernel_rfl)) rfl ?_
 exact ⟨x_5, x_6, x_7, x_8, x_15, x_16, x_17, x_18, rfl, (J7 M).1, (J3 M).1, (J11 M)⟩
end Go.Proofs.YtjbfngjlepafgaaGreat
namespace Go.Proofs.YtjbfngjlepafgaaGreat
open Go.RowKit Go.Lib
variable {G : Nat}

set_option maxRecDepth 100000 in
set_option maxHeartbeats 4000000 in
theorem spNeg_q {u0 u1 u2 u3 u4 u5 u6 u7 : Value} {p q : Rat} {w : World} (hG : G ≤ w.heap.size) (h1 : FQ G w u0 u1 u2 u3 p) (h2 : FQ G w u4 u5 u6 u7 q) (hp : Fz p 34359738368) (hq : Fz q 34359738368) (ha : p ≤ q)  :
  Calls Tryz.prog 26 #[.agg #[u0, u1, u2, u3, u4, u5, u6, u7]] w fun e w' => ∃ x0 x1 x2 x3 x4 x5 x6 x7, e = .returned (.agg #[x0, x1, x2, x3, x4, x5, x6, x7]) ∧ FQ G w' x0 x1 x2 x3 (-q) ∧ FQ G w' x4 x5 x6 x7 (-p) ∧ Below w.heap.size w w' := by
 have HP := Lib.hid hp; have HQ := Lib.hid hq; have HA := Lib.hid (decide_eq_true ha); have HAA := Lib.hid ha; clear hp hq ha
 have H1 : Hid (FQ G w u0 u1 u2 u3 p) := h1
 have H2 : Hid (FQ G w u4 u5 u6 u7 q) := h2
 clear h1 h2
 have M : Hid (Below w.heap.size w w) := Below.refl _ _
 go_enter Tryz.func26, Tryz.ntmps26
 go_upto_region 1 with fail
 refine nmW ((w.alloc (.cells #[u0, u1, u2, u3, u4, u5, u6, u7] 28)).alloc (.cells #[.int .i64 0, .slice none 0 0, .int .i64 0, .slice none 0 0, .int .i64 0, .slice none 0 0, .int .i64 0, .slice none 0 0] 28)) fun w1 hv => ?_
 rw [← hv]
 replace M := al2W hv M
 clear hv
 refine cj8 (J1 M).1.d8 fun aa ab ac ad ae af ag ah => ?_
 go_wp2_with fail
 clear aa ab ac ad ae af ag ah
 refine (spRight_q (G := G) (p := p) (q := q) (b_ := true) (H1.out.keep (J2 M)) (H2.out.keep (J2 M)) (Fz.mono HP.out (by omega)) (Fz.mono HQ.out (by omega)) HA.out).mono ?_
 rintro e w2 ⟨rfl, hb⟩
 replace M := gnM hb M
 clear hb
 go_wp2_with fail
 refine nmW w2.drew fun w3 hv => ?_
 replace M := drM hv M
 refine wp_region_held_drew (S := (fun w' => w'.cell? ⟨w.heap.size, 0, none⟩ = some (u0) ∧ w'.cell? ⟨w.heap.size, 1, none⟩ = some (u1) ∧ w'.cell? ⟨w.heap.size, 2, none⟩ = some (u2) ∧ w'.cell? ⟨w.heap.size, 3, none⟩ = some (u3) ∧ w'.cell? ⟨w.heap.size, 4, none⟩ = some (u4) ∧ w'.cell? ⟨w.heap.size, 5, none⟩ = some (u5) ∧ w'.cell? ⟨w.heap.size, 6, none⟩ = some (u6) ∧ w'.cell? ⟨w.heap.size, 7, none⟩ = some (u7))) (by kernel_rfl) (by rw [← hv]; exact (J1 M).1.d8) (fun hH13 => ?_)
 rw [← hv] at hH13 ⊢
 clear hv
 refine tk at0 ?_
 refine tk at1 ?_
 refine tk at3 ?_
 refine tk at4 ?_
 refine wpAnyH_ready (rs := [2]) (by kernel_rfl) (by simp) ?_
 refine AllReadyH.cons at2 (fun K hK => ?_) AllReadyH.nil
 go_simp
 refine nmW (α := Rat) (-q) fun q18 eq18 => ?_
 refine (fqNeg (G := G) (q := q) (Nat.le_trans hG (J2 M).size) (H2.out.keep (J2 M)) (Fz.mono HQ.out (by omega))).mono ?_
 rintro e w4 ⟨x_14, x_15, x_16, x_17, rfl, hd19, hb⟩
 rw [← eq18] at hd19
 have Sq18 : Hid (Fz q18 34359738368) := by show Fz q18 34359738368; rw [eq18]; exact (Fz.neg HQ.out)
 have Eq18 := Lib.hid eq18; clear eq18
 replace M := adM hd19 hb M
 clear hb hd19
 (try go_wp2_with fail)
 refine hK.out _ _ ((J2 M).1.d8) (fun hH20 => ?_)
 clear hK K hH13
 (try simp only [Act.put, List.setIfInBounds_toArray, List.set_cons_zero, List.set_cons_succ])
 refine wpAnyH_ready (rs := [5]) (by kernel_rfl) (by simp) ?_
 refine AllReadyH.cons at5 (fun K hK => ?_) AllReadyH.nil
 go_simp
 refine nmW (α := Rat) (-p) fun q25 eq25 => ?_
 refine (fqNeg (G := G) (q := p) (Nat.le_trans hG (J3 M).size) (H1.out.keep (J3 M)) (Fz.mono HP.out (by omega))).mono ?_
 rintro e w5 ⟨x_21, x_22, x_23, x_24, rfl, hd26, hb⟩
 rw [← eq25] at hd26
 have Sq25 : Hid (Fz q25 34359738368) := by show Fz q25 34359738368; rw [eq25]; exact (Fz.neg HP.out)
 have Eq25 := Lib.hid eq25; clear eq25
 replace M := adM hd26 hb M
 clear hb hd26
 (try go_wp2_with fail)
 refine hK.out _ _ ((J3 M).1.d8) (fun hH27 => ?_)
 clear hK K hH20
 (try simp only [Act.put, List.setIfInBounds_toArray, List.set_cons_zero, List.set_cons_succ])
 refine tk at6 ?_
 refine wpAnyH_ready (rs := [7]) (by kernel_rfl) (by simp) ?_
 refine AllReadyH.cons at7 (fun K hK => ?_) AllReadyH.nil
 refine cj16 (J2 M).1.c8 fun ai aj ak al am ao ap aq ar au av aw ax ay az ba => ?_
 refine cj4 (TQ.st (J1 M).1) fun bb bc bd bf => ?_
 refine cj4 (TQ.st (M.out.1)) fun bg bh bi bj => ?_
 go_simp
 clear ai aj ak al am ao ap aq ar au av aw ax ay az ba bb bc bd bf bg bh bi bj
 have hz : w.heap.size ≤ w.heap.size + 1 := by omega
 refine st8W (x_14) (x_15) (x_16) (x_17) (x_21) (x_22) (x_23) (x_24) (J2 M).1 (J4 M) hz fun w6 hv og hk hbw => ?_
 rw [← hv]
 replace M := Lib.hid (aI ((M.out.1).far (J2 M).1 (by rfl) (by omega) og) (aI ((J1 M).1.far (J2 M).1 (by rfl) (by omega) og) (aI hk (aI ((J3 M).1.only og (by omega)) hbw))))
 clear hk hbw og hv hz
 refine hK.out _ _ ((J3 M).1.d8) (fun hH28 => ?_)
 clear hK K hH27
 (try simp only [Act.put, List.setIfInBounds_toArray, List.set_cons_zero, List.set_cons_succ])
 refine wpAnyH_done (by kernel_rfl) ?_ _
 clear hH28
 go_wp2_with fail
 refine bodyPost_ret (results_box1 rfl _ _ (w.heap.size + 1) 28 _ _ _ rfl (J2 M).1 Tryz.underlying28 rfl (by kernel_rfl)) rfl ?_
 exact ⟨x_14, x_15, x_16, x_17, x_21, x_22, x_23, x_24, rfl, (by have h_ := (J1 M).1; rw [Eq18.out] at h_; exact h_), (by have h_ := (M.out.1); rw [Eq25.out] at h_; exact h_), (J4 M)⟩
set_option maxRecDepth 100000 in
set_option maxHeartbeats 4000000 in
theorem spWidth_q {u0 u1 u2 u3 u4 u5 u6 u7 : Value} {p q : Rat} {w : World} (_hG : G ≤ w.heap.size) (h1 : FQ G w u0 u1 u2 u3 p) (h2 : FQ G w u4 u5 u6 u7 q) (hp : Fz p 34359738368) (hq : Fz q 34359738368) (ha : p ≤ q)  :
  Calls Tryz.prog 24 #[.agg #[u0, u1, u2, u3, u4, u5, u6, u7]] w fun e w' => ∃ x0 x1 x2 x3, e = .returned (.agg #[x0, x1, x2, x3]) ∧ FQ G w' x0 x1 x2 x3 (q - p) ∧ Below w.heap.size w w' := by
 have HP := Lib.hid hp; have HQ := Lib.hid hq; have HA := Lib.hid (decide_eq_true ha); have HAA := Lib.hid ha; clear hp hq ha
 have H1 : Hid (FQ G w u0 u1 u2 u3 p) := h1
 have H2 : Hid (FQ G w u4 u5 u6 u7 q) := h2
 clear h1 h2
 have M : Hid (Below w.heap.size w w) := Below.refl _ _
 go_enter Tryz.func24, Tryz.ntmps24
 go_upto_region 1 with fail
 refine nmW ((w.alloc (.cells #[u0, u1, u2, u3, u4, u5, u6, u7] 28)).alloc (.cells #[.int .i64 0, .slice none 0 0, .int .i64 0, .slice none 0 0] 26)) fun w1 hv => ?_
 rw [← hv]
 replace M := al2W hv M
 clear hv
 refine cj8 (J1 M).1.d8 fun aa ab ac ad ae af ag ah => ?_
 go_wp2_with fail
 clear aa ab ac ad ae af ag ah
 refine (spRight_q (G := G) (p := p) (q := q) (b_ := true) (H1.out.keep (J2 M)) (H2.out.keep (J2 M)) (Fz.mono HP.out (by omega)) (Fz.mono HQ.out (by omega)) HA.out).mono ?_
 rintro e w2 ⟨rfl, hb⟩
 replace M := gnM hb M
 clear hb
 refine cj8 (J1 M).1.d8 fun aa ab ac ad ae af ag ah => ?_
 go_wp2_with fail
 clear aa ab ac ad ae af ag ah
 refine nmW (α := Rat) (q - p) fun q5 eq5 => ?_
 refine (fqSub (G := G) (q := q) (r := p) (H2.out.keep (J2 M)) (H1.out.keep (J2 M)) (Fz.mono HQ.out (by omega)) (Fz.mono HP.out (by omega))).mono ?_
 rintro e w3 ⟨x_1, x_2, x_3, x_4, rfl, hd6, hb⟩
 rw [← eq5] at hd6
 have Sq5 : Hid (Fz q5 68719476737) := by show Fz q5 68719476737; rw [eq5]; exact (Fz.sub HQ.out HP.out)
 have Eq5 := Lib.hid eq5; clear eq5
 replace M := adM hd6 hb M
 clear hb hd6
 refine cj4 (TQ.st (M.out.1)) fun ai aj ak al => ?_
 go_upto_region 4 with fail
 clear ai aj ak al
 refine nmW (w3.alloc (.cells #[x_1, x_2, x_3, x_4] 26)) fun w4 hv => ?_
 rw [← hv]
 have ow2_ : w.heap.size + 1 < w3.heap.size := ((J1 M).1).lt
 replace M := alM hv M
 clear hv
 refine cj4 (M.out.1).d4 fun am ao ap aq => ?_
 refine cj8 (J2 M).1.c4 fun ar au av aw ax ay az ba => ?_
 refine cj4 (TQ.st (J1 M).1) fun ai aj ak al => ?_
 go_wp2_with fail
 clear am ao ap aq ar au av aw ax ay az ba ai aj ak al
 have hz : w.heap.size ≤ w.heap.size + 1 := by omega
 refine st4W (x_1) (x_2) (x_3) (x_4) (J2 M).1 (J4 M) hz fun w5 hv og hk hbw => ?_
 rw [← hv]
 replace M := Lib.hid (aI ((M.out.1).only og (by omega)) (aI ((J1 M).1.far (J2 M).1 (by rfl) (by omega) og) (aI hk (aI ((J3 M).1.only og (by omega)) hbw))))
 clear hk hbw og hv hz
 refine bodyPost_ret (results_box1 rfl _ _ (w.heap.size + 1) 26 _ _ _ rfl (J2 M).1 Tryz.underlying26 rfl (by kernel_rfl)) rfl ?_
 exact ⟨x_1, x_2, x_3, x_4, rfl, (by have h_ := (J1 M).1; rw [Eq5.out] at h_; exact h_), (J4 M)⟩
set_option maxRecDepth 100000 in
set_option maxHeartbeats 4000000 in
theorem spSub_q {u0 u1 u2 u3 u4 u5 u6 u7 v0 v1 v2 v3 v4 v5 v6 v7 : Value} {p q r s : Rat} {w : World} (hG : G ≤ w.heap.size) (h1 : FQ G w u0 u1 u2 u3 p) (h2 : FQ G w u4 u5 u6 u7 q) (h3 : FQ G w v0 v1 v2 v3 r) (h4 : FQ G w v4 v5 v6 v7 s) (hp : Fz p 34359738368) (hq : Fz q 34359738368) (hr : Fz r 34359738368) (hs : Fz s 34359738368) (ha : p ≤ q) (hb : r ≤ s)  :
  Calls Tryz.prog 30 #[.agg #[u0, u1, u2, u3, u4, u5, u6, u7], .agg #[v0, v1, v2, v3, v4, v5, v6, v7]] w fun e w' => ∃ x0 x1 x2 x3 x4 x5 x6 x7, e = .returned (.tuple #[.agg #[x0, x1, x2, x3, x4, x5, x6, x7], .int .i64 0]) ∧ FQ G w' x0 x1 x2 x3 (p - s) ∧ FQ G w' x4 x5 x6 x7 (q - r) ∧ Below w.heap.size w w' := by
 have HP := Lib.hid hp; have HQ := Lib.hid hq; have HR := Lib.hid hr; have HS := Lib.hid hs; have HA := Lib.hid (decide_eq_true ha); have HB := Lib.hid (decide_eq_true hb); have HAA := Lib.hid ha; have HBB := Lib.hid hb; clear hp hq hr hs ha hb
 have H1 : Hid (FQ G w u0 u1 u2 u3 p) := h1
 have H2 : Hid (FQ G w u4 u5 u6 u7 q) := h2
 have H3 : Hid (FQ G w v0 v1 v2 v3 r) := h3
 have H4 : Hid (FQ G w v4 v5 v6 v7 s) := h4
 clear h1 h2 h3 h4
 have M : Hid (Below w.heap.size w w) := Below.refl _ _
 go_enter Tryz.func30, Tryz.ntmps30
 go_wp2_with fail
 refine nmW (((w.alloc (.cells #[u0, u1, u2, u3, u4, u5, u6, u7] 28)).alloc (.cells #[v0, v1, v2, v3, v4, v5, v6, v7] 28)).alloc (.cells #[.int .i64 0, .slice none 0 0, .int .i64 0, .slice none 0 0, .int .i64 0, .slice none 0 0, .int .i64 0, .slice none 0 0] 28)) fun w1 hv => ?_
 rw [← hv]
 replace M := al3W hv M
 clear hv
 refine nmW w1.drew fun w2 hv => ?_
 replace M := drM hv M
 refine wp_region_held_drew (S := (fun w' => w'.cell? ⟨w.heap.size, 0, none⟩ = some (u0) ∧ w'.cell? ⟨w.heap.size, 1, none⟩ = some (u1) ∧ w'.cell? ⟨w.heap.size, 2, none⟩ = some (u2) ∧ w'.cell? ⟨w.heap.size, 3, none⟩ = some (u3) ∧ w'.cell? ⟨w.heap.size, 4, none⟩ = some (u4) ∧ w'.cell? ⟨w.heap.size, 5, none⟩ = some (u5) ∧ w'.cell? ⟨w.heap.size, 6, none⟩ = some (u6) ∧ w'.cell? ⟨w.heap.size, 7, none⟩ = some (u7) ∧ w'.cell? ⟨w.heap.size + 1, 0, none⟩ = some (v0) ∧ w'.cell? ⟨w.heap.size + 1, 1, none⟩ = some (v1) ∧ w'.cell? ⟨w.heap.size + 1, 2, none⟩ = some (v2) ∧ w'.cell? ⟨w.heap.size + 1, 3, none⟩ = some (v3) ∧ w'.cell? ⟨w.heap.size + 1, 4, none⟩ = some (v4) ∧ w'.cell? ⟨w.heap.size + 1, 5, none⟩ = some (v5) ∧ w'.cell? ⟨w.heap.size + 1, 6, none⟩ = some (v6) ∧ w'.cell? ⟨w.heap.size + 1, 7, none⟩ = some (v7))) (by kernel_rfl) (by rw [← hv]; exact ((J2 M).1.t8 ((J1 M).1.d8))) (fun hH25 => ?_)
 rw [← hv] at hH25 ⊢
 clear hv
 refine tk at0 ?_
 refine tk at1 ?_
 refine wpAnyH_ready (rs := [2]) (by kernel_rfl) (by simp) ?_
 refine AllReadyH.cons at2 (fun K hK => ?_) AllReadyH.nil
 go_simp
 refine nmW (α := Rat) (-s) fun q34 eq34 => ?_
 refine nmW (α := Rat) (-r) fun q35 eq35 => ?_
 refine (spNeg_q (G := G) (p := r) (q := s) (Nat.le_trans hG (J3 M).size) (H3.out.keep (J3 M)) (H4.out.keep (J3 M)) HR.out HS.out HBB.out).mono ?_
 rintro e w3 ⟨x_26, x_27, x_28, x_29, x_30, x_31, x_32, x_33, rfl, hd36, hd37, hb⟩
 rw [← eq34] at hd36
 have Sq34 : Hid (Fz q34 34359738368) := by show Fz q34 34359738368; rw [eq34]; exact (Fz.neg HS.out)
 have Eq34 := Lib.hid eq34; clear eq34
 rw [← eq35] at hd37
 have Sq35 : Hid (Fz q35 34359738368) := by show Fz q35 34359738368; rw [eq35]; exact (Fz.neg HR.out)
 have Eq35 := Lib.hid eq35; clear eq35
 replace M := ad2M hd36 hd37 hb M
 clear hb hd36 hd37
 (try go_wp2_with fail)
 refine hK.out _ _ (((J4 M).1.t8 ((J3 M).1.d8))) (fun hH38 => ?_)
 clear hK K hH25
 (try simp only [Act.put, List.setIfInBounds_toArray, List.set_cons_zero, List.set_cons_succ])
 refine wpAnyH_ready (rs := [3]) (by kernel_rfl) (by simp) ?_
 refine AllReadyH.cons at3 (fun K hK => ?_) AllReadyH.nil
 go_simp
 refine nmW (α := Rat) (p + q34) fun q47 eq47 => ?_
 refine nmW (α := Rat) (q + q35) fun q48 eq48 => ?_
 refine (spAdd_q (G := G) (p := p) (q := q) (r := q34) (s := q35) (Nat.le_trans hG (J5 M).size) (H1.out.keep (J5 M)) (H2.out.keep (J5 M)) (M.out.1) (J1 M).1 HP.out HQ.out Sq34.out Sq35.out HAA.out (by rw [Eq35.out, Eq34.out]; exact Rat.neg_le_neg HBB.out)).mono ?_
 rintro e w4 ⟨x_39, x_40, x_41, x_42, x_43, x_44, x_45, x_46, rfl, hd49, hd50, hb⟩
 rw [← eq47] at hd49
 have Sq47 : Hid (Fz q47 68719476737) := by show Fz q47 68719476737; rw [eq47]; exact (Fz.add HP.out Sq34.out)
 have Eq47 := Lib.hid eq47; clear eq47
 rw [← eq48] at hd50
 have Sq48 : Hid (Fz q48 68719476737) := by show Fz q48 68719476737; rw [eq48]; exact (Fz.add HQ.out Sq35.out)
 have Eq48 := Lib.hid eq48; clear eq48
 replace M := ad2M hd49 hd50 hb M
 clear hb hd49 hd50
 (try go_wp2_with fail)
 refine hK.out _ _ (((J6 M).1.t8 ((J5 M).1.d8))) (fun hH51 => ?_)
 clear hK K hH38
 (try simp only [Act.put, List.setIfInBounds_toArray, List.set_cons_zero, List.set_cons_succ])
 refine tk at4 ?_
 refine tk at5 ?_
 refine wpAnyH_ready (rs := [6]) (by kernel_rfl) (by simp) ?_
 refine AllReadyH.cons at6 (fun K hK => ?_) AllReadyH.nil
 refine cj16 (J4 M).1.c8 fun aa ab ac ad ae af ag ah ai aj ak al am ao ap aq => ?_
 refine cj4 (TQ.st (M.out.1)) fun ar au av aw => ?_
 refine cj4 (TQ.st (J1 M).1) fun ax ay az ba => ?_
 go_simp
 clear aa ab ac ad ae af ag ah ai aj ak al am ao ap aq ar au av aw ax ay az ba
 have hz : w.heap.size ≤ w.heap.size + 1 + 1 := by omega
 refine st8W (x_39) (x_40) (x_41) (x_42) (x_43) (x_44) (x_45) (x_46) (J4 M).1 (J7 M) hz fun w5 hv og hk hbw => ?_
 rw [← hv]
 replace M := Lib.hid (aI ((M.out.1).far (J4 M).1 (by rfl) (by omega) og) (aI ((J1 M).1.far (J4 M).1 (by rfl) (by omega) og) (aI ((J2 M).1.far (J4 M).1 (by rfl) (by omega) og) (aI ((J3 M).1.far (J4 M).1 (by rfl) (by omega) og) (aI hk (aI ((J5 M).1.only og (by omega)) (aI ((J6 M).1.only og (by omega)) hbw)))))))
 clear hk hbw og hv hz
 refine hK.out _ _ (((J6 M).1.t8 ((J5 M).1.d8))) (fun hH52 => ?_)
 clear hK K hH51
 (try simp only [Act.put, List.setIfInBounds_toArray, List.set_cons_zero, List.set_cons_succ])
 refine tk at7 ?_
 refine wpAnyH_done (by kernel_rfl) ?_ _
 clear hH52
 go_wp2_with fail
 refine bodyPost_ret (results_box2 rfl _ _ (w.heap.size + 1 + 1) 28 _ _ _ rfl (J4 M).1 Tryz.underlying28 rfl (by kernel_rfl)) rfl ?_
 exact ⟨x_39, x_40, x_41, x_42, x_43, x_44, x_45, x_46, rfl, (by have h_ := (M.out.1); rw [Eq47.out, Eq34.out, ← Rat.sub_eq_add_neg] at h_; exact h_), (by have h_ := (J1 M).1; rw [Eq48.out, Eq35.out, ← Rat.sub_eq_add_neg] at h_; exact h_), (J7 M)⟩
set_option maxRecDepth 100000 in
set_option maxHeartbeats 4000000 in
theorem spMul_q {u0 u1 u2 u3 u4 u5 u6 u7 v0 v1 v2 v3 v4 v5 v6 v7 : Value} {p q r s : Rat} {lo hi : Rat} {w : World} (hG : G ≤ w.heap.size) (h1 : FQ G w u0 u1 u2 u3 p) (h2 : FQ G w u4 u5 u6 u7 q) (h3 : FQ G w v0 v1 v2 v3 r) (h4 : FQ G w v4 v5 v6 v7 s) (hp : Fz p 34359738368) (hq : Fz q 34359738368) (hr : Fz r 34359738368) (hs : Fz s 34359738368) (ha : p ≤ q) (hb : r ≤ s) (hlo : min4 (p * r) (p * s) (q * r) (q * s) = lo) (hhi : max4 (p * r) (p * s) (q * r) (q * s) = hi)  :
  Calls Tryz.prog 31 #[.agg #[u0, u1, u2, u3, u4, u5, u6, u7], .agg #[v0, v1, v2, v3, v4, v5, v6, v7]] w fun e w' => ∃ x0 x1 x2 x3 x4 x5 x6 x7, e = .returned (.tuple #[.agg #[x0, x1, x2, x3, x4, x5, x6, x7], .int .i64 0]) ∧ FQ G w' x0 x1 x2 x3 lo ∧ FQ G w' x4 x5 x6 x7 hi ∧ Below w.heap.size w w' := by
 have HP := Lib.hid hp; have HQ := Lib.hid hq; have HR := Lib.hid hr; have HS := Lib.hid hs; have HA := Lib.hid (decide_eq_true ha); have HB := Lib.hid (decide_eq_true hb); have HAA := Lib.hid ha; have HBB := Lib.hid hb; clear hp hq hr hs ha hb
 have HLO := Lib.hid hlo; have HHI := Lib.hid hhi; clear hlo hhi
 have H1 : Hid (FQ G w u0 u1 u2 u3 p) := h1
 have H2 : Hid (FQ G w u4 u5 u6 u7 q) := h2
 have H3 : Hid (FQ G w v0 v1 v2 v3 r) := h3
 have H4 : Hid (FQ G w v4 v5 v6 v7 s) := h4
 clear h1 h2 h3 h4
 have M : Hid (Below w.heap.size w w) := Below.refl _ _
 go_enter Tryz.func31, Tryz.ntmps31
 go_upto_region 1 with fail
 refine nmW (((w.alloc (.cells #[u0, u1, u2, u3, u4, u5, u6, u7] 28)).alloc (.cells #[v0, v1, v2, v3, v4, v5, v6, v7] 28)).alloc (.cells #[.int .i64 0, .slice none 0 0, .int .i64 0, .slice none 0 0, .int .i64 0, .slice none 0 0, .int .i64 0, .slice none 0 0] 28)) fun w1 hv => ?_
 rw [← hv]
 replace M := al3W hv M
 clear hv
 refine cj8 (J2 M).1.d8 fun aa ab ac ad ae af ag ah => ?_
 go_wp2_with fail
 clear aa ab ac ad ae af ag ah
 refine (spRight_q (G := G) (p := p) (q := q) (b_ := true) (H1.out.keep (J3 M)) (H2.out.keep (J3 M)) (Fz.mono HP.out (by omega)) (Fz.mono HQ.out (by omega)) HA.out).mono ?_
 rintro e w2 ⟨rfl, hb⟩
 replace M := gnM hb M
 clear hb
 refine cj8 (J1 M).1.d8 fun ai aj ak al am ao ap aq => ?_
 go_wp2_with fail
 clear ai aj ak al am ao ap aq
 refine (spRight_q (G := G) (p := r) (q := s) (b_ := true) (H3.out.keep (J3 M)) (H4.out.keep (J3 M)) (Fz.mono HR.out (by omega)) (Fz.mono HS.out (by omega)) HB.out).mono ?_
 rintro e w3 ⟨rfl, hb⟩
 replace M := gnM hb M
 clear hb
 go_wp2_with fail
 refine nmW w3.drew fun w4 hv => ?_
 replace M := drM hv M
 refine wp_region_held_drew (S := (fun w' => w'.cell? ⟨w.heap.size, 0, none⟩ = some (u0) ∧ w'.cell? ⟨w.heap.size, 1, none⟩ = some (u1) ∧ w'.cell? ⟨w.heap.size, 2, none⟩ = some (u2) ∧ w'.cell? ⟨w.heap.size, 3, none⟩ = some (u3) ∧ w'.cell? ⟨w.heap.size, 4, none⟩ = some (u4) ∧ w'.cell? ⟨w.heap.size, 5, none⟩ = some (u5) ∧ w'.cell? ⟨w.heap.size, 6, none⟩ = some (u6) ∧ w'.cell? ⟨w.heap.size, 7, none⟩ = some (u7) ∧ w'.cell? ⟨w.heap.size + 1, 0, none⟩ = some (v0) ∧ w'.cell? ⟨w.heap.size + 1, 1, none⟩ = some (v1) ∧ w'.cell? ⟨w.heap.size + 1, 2, none⟩ = some (v2) ∧ w'.cell? ⟨w.heap.size + 1, 3, none⟩ = some (v3) ∧ w'.cell? ⟨w.heap.size + 1, 4, none⟩ = some (v4) ∧ w'.cell? ⟨w.heap.size + 1, 5, none⟩ = some (v5) ∧ w'.cell? ⟨w.heap.size + 1, 6, none⟩ = some (v6) ∧ w'.cell? ⟨w.heap.size + 1, 7, none⟩ = some (v7))) (by kernel_rfl) (by rw [← hv]; exact ((J2 M).1.t8 ((J1 M).1.d8))) (fun hH35 => ?_)
 rw [← hv] at hH35 ⊢
 clear hv
 refine tk at0 ?_
 refine tk at1 ?_
 refine tk at2 ?_
 refine tk at3 ?_
 refine tk at5 ?_
 refine tk at6 ?_
 refine tk at7 ?_
 refine tk at8 ?_
 refine tk at10 ?_
 refine tk at11 ?_
 refine tk at12 ?_
 refine tk at13 ?_
 refine tk at15 ?_
 refine tk at16 ?_
 refine tk at17 ?_
 refine tk at18 ?_
 refine wpAnyH_ready (rs := [4]) (by kernel_rfl) (by simp) ?_
 refine AllReadyH.cons at4 (fun K hK => ?_) AllReadyH.nil
 go_simp
 refine nmW (α := Rat) (p * r) fun q40 eq40 => ?_
 refine (product_ok (G := G) (q := p) (r := r) (Nat.le_trans hG (J3 M).size) (H1.out.keep (J3 M)) (H3.out.keep (J3 M)) (Fz.mono HP.out (by omega)) (Fz.mono HR.out (by omega))).mono ?_
 rintro e w5 ⟨x_36, x_37, x_38, x_39, rfl, hd41, hb⟩
 rw [← eq40] at hd41
 have Sq40 : Hid (Fz q40 68719476736) := by show Fz q40 68719476736; rw [eq40]; exact (Fz.mul HP.out HR.out)
 have Eq40 := Lib.hid eq40; clear eq40
 replace M := adM hd41 hb M
 clear hb hd41
 (try go_wp2_with fail)
 refine hK.out _ _ (((J3 M).1.t8 ((J2 M).1.d8))) (fun hH42 => ?_)
 clear hK K hH35
 (try simp only [Act.put, List.setIfInBounds_toArray, List.set_cons_zero, List.set_cons_succ])
 refine wpAnyH_ready (rs := [9]) (by kernel_rfl) (by simp) ?_
 refine AllReadyH.cons at9 (fun K hK => ?_) AllReadyH.nil
 go_simp
 refine nmW (α := Rat) (p * s) fun q47 eq47 => ?_
 refine (product_ok (G := G) (q := p) (r := s) (Nat.le_trans hG (J4 M).size) (H1.out.keep (J4 M)) (H4.out.keep (J4 M)) (Fz.mono HP.out (by omega)) (Fz.mono HS.out (by omega))).mono ?_
 rintro e w6 ⟨x_43, x_44, x_45, x_46, rfl, hd48, hb⟩
 rw [← eq47] at hd48
 have Sq47 : Hid (Fz q47 68719476736) := by show Fz q47 68719476736; rw [eq47]; exact (Fz.mul HP.out HS.out)
 have Eq47 := Lib.hid eq47; clear eq47
 replace M := adM hd48 hb M
 clear hb hd48
 (try go_wp2_with fail)
 refine hK.out _ _ (((J4 M).1.t8 ((J3 M).1.d8))) (fun hH49 => ?_)
 clear hK K hH42
 (try simp only [Act.put, List.setIfInBounds_toArray, List.set_cons_zero, List.set_cons_succ])
 refine wpAnyH_ready (rs := [14]) (by kernel_rfl) (by simp) ?_
 refine AllReadyH.cons at14 (fun K hK => ?_) AllReadyH.nil
 go_simp
 refine nmW (α := Rat) (q * r) fun q54 eq54 => ?_
 refine (product_ok (G := G) (q := q) (r := r) (Nat.le_trans hG (J5 M).size) (H2.out.keep (J5 M)) (H3.out.keep (J5 M)) (Fz.mono HQ.out (by omega)) (Fz.mono HR.out (by omega))).mono ?_
 rintro e w7 ⟨x_50, x_51, x_52, x_53, rfl, hd55, hb⟩
 rw [← eq54] at hd55
 have Sq54 : Hid (Fz q54 68719476736) := by show Fz q54 68719476736; rw [eq54]; exact (Fz.mul HQ.out HR.out)
 have Eq54 := Lib.hid eq54; clear eq54
 replace M := adM hd55 hb M
 clear hb hd55
 (try go_wp2_with fail)
 refine hK.out _ _ (((J5 M).1.t8 ((J4 M).1.d8))) (fun hH56 => ?_)
 clear hK K hH49
 (try simp only [Act.put, List.setIfInBounds_toArray, List.set_cons_zero, List.set_cons_succ])
 refine wpAnyH_ready (rs := [19]) (by kernel_rfl) (by simp) ?_
 refine AllReadyH.cons at19 (fun K hK => ?_) AllReadyH.nil
 go_simp
 refine nmW (α := Rat) (q * s) fun q61 eq61 => ?_
 refine (product_ok (G := G) (q := q) (r := s) (Nat.le_trans hG (J6 M).size) (H2.out.keep (J6 M)) (H4.out.keep (J6 M)) (Fz.mono HQ.out (by omega)) (Fz.mono HS.out (by omega))).mono ?_
 rintro e w8 ⟨x_57, x_58, x_59, x_60, rfl, hd62, hb⟩
 rw [← eq61] at hd62
 have Sq61 : Hid (Fz q61 68719476736) := by show Fz q61 68719476736; rw [eq61]; exact (Fz.mul HQ.out HS.out)
 have Eq61 := Lib.hid eq61; clear eq61
 replace M := adM hd62 hb M
 clear hb hd62
 (try go_wp2_with fail)
 refine hK.out _ _ (((J6 M).1.t8 ((J5 M).1.d8))) (fun hH63 => ?_)
 clear hK K hH56
 (try simp only [Act.put, List.setIfInBounds_toArray, List.set_cons_zero, List.set_cons_succ])
 refine wpAnyH_ready (rs := [20]) (by kernel_rfl) (by simp) ?_
 refine AllReadyH.cons at20 (fun K hK => ?_) AllReadyH.nil
 go_simp
 refine nmW (w8.alloc (.cells #[x_36, x_37, x_38, x_39, x_43, x_44, x_45, x_46, x_50, x_51, x_52, x_53, x_57, x_58, x_59, x_60] 26)) fun w9 hv => ?_
 rw [← hv]
 have ow3_ : w.heap.size + 1 + 1 < w8.heap.size := ((J4 M).1).lt
 replace M := alM hv M
 clear hv
 refine hK.out _ _ (((J7 M).1.t8 ((J6 M).1.d8))) (fun hH64 => ?_)
 clear hK K hH63
 (try simp only [Act.put, List.setIfInBounds_toArray, List.set_cons_zero, List.set_cons_succ])
 refine wpAnyH_ready (rs := [21]) (by kernel_rfl) (by simp) ?_
 refine AllReadyH.cons at21 (fun K hK => ?_) AllReadyH.nil
 go_simp
 refine (around_four (G := G) (p := q40) (q := q47) (r := q54) (s := q61) (lo := lo) (hi := hi) (Nat.le_trans hG (J8 M).size) ⟨_, 0, rfl, fs_four (M.out.1) (J4 M).1 (J3 M).1 (J2 M).1 (J1 M).1⟩ (Fz.mono Sq40.out (by omega)) (Fz.mono Sq47.out (by omega)) (Fz.mono Sq54.out (by omega)) (Fz.mono Sq61.out (by omega)) (by rw [Eq61.out, Eq54.out, Eq47.out, Eq40.out]; exact HLO.out) (by rw [Eq61.out, Eq54.out, Eq47.out, Eq40.out]; exact HHI.out)).mono ?_
 rintro e w10 ⟨x_65, x_66, x_67, x_68, x_69, x_70, x_71, x_72, rfl, hd73, hd74, hb⟩
 replace M := ad2M hd73 hd74 hb M
 clear hb hd73 hd74
 (try go_wp2_with fail)
 refine hK.out _ _ (((J9 M).1.t8 ((J8 M).1.d8))) (fun hH75 => ?_)
 clear hK K hH64
 (try simp only [Act.put, List.setIfInBounds_toArray, List.set_cons_zero, List.set_cons_succ])
 refine wpAnyH_ready (rs := [22]) (by kernel_rfl) (by simp) ?_
 refine AllReadyH.cons at22 (fun K hK => ?_) AllReadyH.nil
 refine cj16 (J7 M).1.c8 fun ar au av aw ax ay az ba bb bc bd bf bg bh bi bj => ?_
 refine cj4 (TQ.st (M.out.1)) fun bk bl bm bn => ?_
 refine cj4 (TQ.st (J1 M).1) fun bo bp bq br => ?_
 go_simp
 clear ar au av aw ax ay az ba bb bc bd bf bg bh bi bj bk bl bm bn bo bp bq br
 have hz : w.heap.size ≤ w.heap.size + 1 + 1 := by omega
 refine st8W (x_65) (x_66) (x_67) (x_68) (x_69) (x_70) (x_71) (x_72) (J7 M).1 (J10 M) hz fun w11 hv og hk hbw => ?_
 rw [← hv]
 replace M := Lib.hid (aI ((M.out.1).far (J7 M).1 (by rfl) (by omega) og) (aI ((J1 M).1.far (J7 M).1 (by rfl) (by omega) og) (aI ((J2 M).1.only og (by omega)) (aI ((J3 M).1.far (J7 M).1 (by rfl) (by omega) og) (aI ((J4 M).1.far (J7 M).1 (by rfl) (by omega) og) (aI ((J5 M).1.far (J7 M).1 (by rfl) (by omega) og) (aI ((J6 M).1.far (J7 M).1 (by rfl) (by omega) og) (aI hk (aI ((J8 M).1.only og (by omega)) (aI ((J9 M).1.only og (by omega)) hbw))))))))))
 clear hk hbw og hv hz
 refine hK.out _ _ (((J9 M).1.t8 ((J8 M).1.d8))) (fun hH76 => ?_)
 clear hK K hH75
 (try simp only [Act.put, List.setIfInBounds_toArray, List.set_cons_zero, List.set_cons_succ])
 refine tk at23 ?_
 refine wpAnyH_done (by kernel_rfl) ?_ _
 clear hH76
 go_wp2_with fail
 refine bodyPost_ret (results_box2 rfl _ _ (w.heap.size + 1 + 1) 28 _ _ _ rfl (J7 M).1 Tryz.underlying28 rfl (by kernel_rfl)) rfl ?_
 exact ⟨x_65, x_66, x_67, x_68, x_69, x_70, x_71, x_72, rfl, (M.out.1), (J1 M).1, (J10 M)⟩
set_option maxRecDepth 100000 in
set_option maxHeartbeats 4000000 in
theorem spHull_q {u0 u1 u2 u3 u4 u5 u6 u7 v0 v1 v2 v3 v4 v5 v6 v7 : Value} {p q r s : Rat} {lo hi : Rat} {w : World} (hG : G ≤ w.heap.size) (h1 : FQ G w u0 u1 u2 u3 p) (h2 : FQ G w u4 u5 u6 u7 q) (h3 : FQ G w v0 v1 v2 v3 r) (h4 : FQ G w v4 v5 v6 v7 s) (hp : Fz p 34359738368) (hq : Fz q 34359738368) (hr : Fz r 34359738368) (hs : Fz s 34359738368) (ha : p ≤ q) (hb : r ≤ s) (hlo : min4 p q r s = lo) (hhi : max4 p q r s = hi)  :
  Calls Tryz.prog 10 #[.agg #[u0, u1, u2, u3, u4, u5, u6, u7], .agg #[v0, v1, v2, v3, v4, v5, v6, v7]] w fun e w' => ∃ x0 x1 x2 x3 x4 x5 x6 x7, e = .returned (.tuple #[.agg #[x0, x1, x2, x3, x4, x5, x6, x7], .int .i64 0]) ∧ FQ G w' x0 x1 x2 x3 lo ∧ FQ G w' x4 x5 x6 x7 hi ∧ Below w.heap.size w w' := by
 have HP := Lib.hid hp; have HQ := Lib.hid hq; have HR := Lib.hid hr; have HS := Lib.hid hs; have HA := Lib.hid (decide_eq_true ha); have HB := Lib.hid (decide_eq_true hb); have HAA := Lib.hid ha; have HBB := Lib.hid hb; clear hp hq hr hs ha hb
 have HLO := Lib.hid hlo; have HHI := Lib.hid hhi; clear hlo hhi
 have H1 : Hid (FQ G w u0 u1 u2 u3 p) := h1
 have H2 : Hid (FQ G w u4 u5 u6 u7 q) := h2
 have H3 : Hid (FQ G w v0 v1 v2 v3 r) := h3
 have H4 : Hid (FQ G w v4 v5 v6 v7 s) := h4
 clear h1 h2 h3 h4
 have M : Hid (Below w.heap.size w w) := Below.refl _ _
 go_enter Tryz.func10, Tryz.ntmps10
 go_upto_region 1 with fail
 refine nmW (((w.alloc (.cells #[u0, u1, u2, u3, u4, u5, u6, u7] 28)).alloc (.cells #[v0, v1, v2, v3, v4, v5, v6, v7] 28)).alloc (.cells #[.int .i64 0, .slice none 0 0, .int .i64 0, .slice none 0 0, .int .i64 0, .slice none 0 0, .int .i64 0, .slice none 0 0] 28)) fun w1 hv => ?_
 rw [← hv]
 replace M := al3W hv M
 clear hv
 refine cj8 (J2 M).1.d8 fun aa ab ac ad ae af ag ah => ?_
 go_wp2_with fail
 clear aa ab ac ad ae af ag ah
 refine (spRight_q (G := G) (p := p) (q := q) (b_ := true) (H1.out.keep (J3 M)) (H2.out.keep (J3 M)) (Fz.mono HP.out (by omega)) (Fz.mono HQ.out (by omega)) HA.out).mono ?_
 rintro e w2 ⟨rfl, hb⟩
 replace M := gnM hb M
 clear hb
 refine cj8 (J1 M).1.d8 fun ai aj ak al am ao ap aq => ?_
 go_wp2_with fail
 clear ai aj ak al am ao ap aq
 refine (spRight_q (G := G) (p := r) (q := s) (b_ := true) (H3.out.keep (J3 M)) (H4.out.keep (J3 M)) (Fz.mono HR.out (by omega)) (Fz.mono HS.out (by omega)) HB.out).mono ?_
 rintro e w3 ⟨rfl, hb⟩
 replace M := gnM hb M
 clear hb
 refine cj8 (J2 M).1.d8 fun aa ab ac ad ae af ag ah => ?_
 have z0 : w.heap.size < w3.heap.size := (J2 M).1.lt
 refine cj8 (J1 M).1.d8 fun ai aj ak al am ao ap aq => ?_
 have z1 : w.heap.size + 1 < w3.heap.size := (J1 M).1.lt
 go_wp2_with fail
 clear aa ab ac ad ae af ag ah z0 ai aj ak al am ao ap aq z1
 refine nmW (w3.alloc (.cells #[u0, u1, u2, u3, u4, u5, u6, u7, v0, v1, v2, v3, v4, v5, v6, v7] 26)) fun w4 hv => ?_
 rw [← hv]
 have ow3_ : w.heap.size + 1 + 1 < w3.heap.size := ((M.out.1)).lt
 replace M := alM hv M
 clear hv
 refine (around_four (G := G) (p := p) (q := q) (r := r) (s := s) (lo := lo) (hi := hi) (Nat.le_trans hG (J4 M).size) ⟨_, 0, rfl, fs_four (M.out.1) (H1.out.keep (J4 M)) (H2.out.keep (J4 M)) (H3.out.keep (J4 M)) (H4.out.keep (J4 M))⟩ (Fz.mono HP.out (by omega)) (Fz.mono HQ.out (by omega)) (Fz.mono HR.out (by omega)) (Fz.mono HS.out (by omega)) (by exact HLO.out) (by exact HHI.out)).mono ?_
 rintro e w5 ⟨x_1, x_2, x_3, x_4, x_5, x_6, x_7, x_8, rfl, hd9, hd10, hb⟩
 replace M := ad2M hd9 hd10 hb M
 clear hb hd9 hd10
 refine cj16 (J3 M).1.c8 fun ar au av aw ax ay az ba bb bc bd bf bg bh bi bj => ?_
 refine cj4 (TQ.st (M.out.1)) fun bk bl bm bn => ?_
 refine cj4 (TQ.st (J1 M).1) fun bo bp bq br => ?_
 go_wp2_with fail
 clear ar au av aw ax ay az ba bb bc bd bf bg bh bi bj bk bl bm bn bo bp bq br
 have hz : w.heap.size ≤ w.heap.size + 1 + 1 := by omega
 refine st8W (x_1) (x_2) (x_3) (x_4) (x_5) (x_6) (x_7) (x_8) (J3 M).1 (J6 M) hz fun w6 hv og hk hbw => ?_
 rw [← hv]
 replace M := Lib.hid (aI ((M.out.1).far (J3 M).1 (by rfl) (by omega) og) (aI ((J1 M).1.far (J3 M).1 (by rfl) (by omega) og) (aI ((J2 M).1.only og (by omega)) (aI hk (aI ((J4 M).1.only og (by omega)) (aI ((J5 M).1.only og (by omega)) hbw))))))
 clear hk hbw og hv hz
 refine bodyPost_ret (results_box2 rfl _ _ (w.heap.size + 1 + 1) 28 _ _ _ rfl (J3 M).1 Tryz.underlying28 rfl (by kernel_rfl)) rfl ?_
 exact ⟨x_1, x_2, x_3, x_4, x_5, x_6, x_7, x_8, rfl, (M.out.1), (J1 M).1, (J6 M)⟩
set_option maxRecDepth 100000 in
set_option maxHeartbeats 4000000 in
theorem spMeet_q {u0 u1 u2 u3 u4 u5 u6 u7 v0 v1 v2 v3 v4 v5 v6 v7 : Value} {p q r s : Rat} {w : World} (hG : G ≤ w.heap.size) (h1 : FQ G w u0 u1 u2 u3 p) (h2 : FQ G w u4 u5 u6 u7 q) (h3 : FQ G w v0 v1 v2 v3 r) (h4 : FQ G w v4 v5 v6 v7 s) (hp : Fz p 34359738368) (hq : Fz q 34359738368) (hr : Fz r 34359738368) (hs : Fz s 34359738368) (ha : p ≤ q) (hb : r ≤ s) (hm : ¬ minQ q s < maxQ p r)  :
  Calls Tryz.prog 12 #[.agg #[u0, u1, u2, u3, u4, u5, u6, u7], .agg #[v0, v1, v2, v3, v4, v5, v6, v7]] w fun e w' => ∃ x0 x1 x2 x3 x4 x5 x6 x7, e = .returned (.tuple #[.agg #[x0, x1, x2, x3, x4, x5, x6, x7], .bool true]) ∧ FQ G w' x0 x1 x2 x3 (maxQ p r) ∧ FQ G w' x4 x5 x6 x7 (minQ q s) ∧ Below w.heap.size w w' := by
 have HP := Lib.hid hp; have HQ := Lib.hid hq; have HR := Lib.hid hr; have HS := Lib.hid hs; have HA := Lib.hid (decide_eq_true ha); have HB := Lib.hid (decide_eq_true hb); have HAA := Lib.hid ha; have HBB := Lib.hid hb; clear hp hq hr hs ha hb
 obtain ⟨k1, hk1⟩ : ∃ k, ordQ (maxQ p r) (minQ q s) = k := ⟨_, rfl⟩
 have hd1 : decide (0 < k1) = false := by rw [← hk1, ordQ_gt0]; exact decide_eq_false hm
 have HK1 := Lib.hid hk1; clear hk1 hm
 have H1 : Hid (FQ G w u0 u1 u2 u3 p) := h1
 have H2 : Hid (FQ G w u4 u5 u6 u7 q) := h2
 have H3 : Hid (FQ G w v0 v1 v2 v3 r) := h3
 have H4 : Hid (FQ G w v4 v5 v6 v7 s) := h4
 clear h1 h2 h3 h4
 have M : Hid (Below w.heap.size w w) := Below.refl _ _
 go_enter Tryz.func12, Tryz.ntmps12
 go_upto_region 1 with fail
 refine nmW (((w.alloc (.cells #[u0, u1, u2, u3, u4, u5, u6, u7] 28)).alloc (.cells #[v0, v1, v2, v3, v4, v5, v6, v7] 28)).alloc (.cells #[.int .i64 0, .slice none 0 0, .int .i64 0, .slice none 0 0, .int .i64 0, .slice none 0 0, .int .i64 0, .slice none 0 0] 28)) fun w1 hv => ?_
 rw [← hv]
 replace M := al3W hv M
 clear hv
 refine cj8 (J2 M).1.d8 fun aa ab ac ad ae af ag ah => ?_
 go_wp2_with fail
 clear aa ab ac ad ae af ag ah
 refine (spRight_q (G := G) (p := p) (q := q) (b_ := true) (H1.out.keep (J3 M)) (H2.out.keep (J3 M)) (Fz.mono HP.out (by omega)) (Fz.mono HQ.out (by omega)) HA.out).mono ?_
 rintro e w2 ⟨rfl, hb⟩
 replace M := gnM hb M
 clear hb
 refine cj8 (J1 M).1.d8 fun ai aj ak al am ao ap aq => ?_
 go_wp2_with fail
 clear ai aj ak al am ao ap aq
 refine (spRight_q (G := G) (p := r) (q := s) (b_ := true) (H3.out.keep (J3 M)) (H4.out.keep (J3 M)) (Fz.mono HR.out (by omega)) (Fz.mono HS.out (by omega)) HB.out).mono ?_
 rintro e w3 ⟨rfl, hb⟩
 replace M := gnM hb M
 clear hb
 refine cj8 (J2 M).1.d8 fun aa ab ac ad ae af ag ah => ?_
 refine cj8 (J1 M).1.d8 fun ai aj ak al am ao ap aq => ?_
 go_wp2_with fail
 clear aa ab ac ad ae af ag ah ai aj ak al am ao ap aq
 refine (ends_ok (G := G) (q := p) (r := r) (lo := (minQ p r)) (hi := (maxQ p r)) (Nat.le_trans hG (J3 M).size) (H1.out.keep (J3 M)) (H3.out.keep (J3 M)) (Fz.mono HP.out (by omega)) (Fz.mono HR.out (by omega)) rfl rfl).mono ?_
 rintro e w4 ⟨x_1, x_2, x_3, x_4, x_5, x_6, x_7, x_8, rfl, hd9, hd10, hb⟩
 replace M := ad2M hd9 hd10 hb M
 clear hb hd9 hd10
 refine cj4 (TQ.st (M.out.1)) fun ar au av aw => ?_
 refine cj4 (TQ.st (J1 M).1) fun ax ay az ba => ?_
 go_upto_region 4 with fail
 clear ar au av aw ax ay az ba
 refine nmW ((w4.alloc (.cells #[x_1, x_2, x_3, x_4] 26)).alloc (.cells #[x_5, x_6, x_7, x_8] 26)) fun w5 hv => ?_
 rw [← hv]
 have ow3_ : w.heap.size + 1 + 1 < w4.heap.size := ((J2 M).1).lt
 replace M := al2W hv M
 clear hv
 refine cj8 (J6 M).1.d8 fun aa ab ac ad ae af ag ah => ?_
 refine cj8 (J5 M).1.d8 fun ai aj ak al am ao ap aq => ?_
 go_wp2_with fail
 clear aa ab ac ad ae af ag ah ai aj ak al am ao ap aq
 refine (ends_ok (G := G) (q := q) (r := s) (lo := (minQ q s)) (hi := (maxQ q s)) (Nat.le_trans hG (J7 M).size) (H2.out.keep (J7 M)) (H4.out.keep (J7 M)) (Fz.mono HQ.out (by omega)) (Fz.mono HS.out (by omega)) rfl rfl).mono ?_
 rintro e w6 ⟨x_11, x_12, x_13, x_14, x_15, x_16, x_17, x_18, rfl, hd19, hd20, hb⟩
 replace M := ad2M hd19 hd20 hb M
 clear hb hd19 hd20
 refine cj4 (TQ.st (M.out.1)) fun bb bc bd bf => ?_
 refine cj4 (TQ.st (J1 M).1) fun bg bh bi bj => ?_
 go_upto_region 5 with fail
 clear bb bc bd bf bg bh bi bj
 refine nmW ((w6.alloc (.cells #[x_11, x_12, x_13, x_14] 26)).alloc (.cells #[x_15, x_16, x_17, x_18] 26)) fun w7 hv => ?_
 rw [← hv]
 have ow5_ : w4.heap.size + 1 < w6.heap.size := ((J2 M).1).lt
 replace M := al2W hv M
 clear hv
 refine cj4 (J4 M).1.d4 fun bk bl bm bn => ?_
 refine cj4 (J1 M).1.d4 fun bo bp bq br => ?_
 go_wp2_with fail
 clear bk bl bm bn bo bp bq br
 refine (fqCompare (G := G) (q := (maxQ p r)) (r := (minQ q s)) (k := k1) (J7 M).1 (J2 M).1 (Fz.mono (Fz.maxQ HP.out HR.out) (by omega)) (Fz.mono (Fz.minQ HQ.out HS.out) (by omega)) (by exact HK1.out)).mono ?_
 rintro e w8 ⟨rfl, hb⟩
 replace M := gnM hb M
 clear hb
 refine cj4 (J4 M).1.d4 fun bk bl bm bn => ?_
 refine cj4 (J1 M).1.d4 fun bo bp bq br => ?_
 refine cj16 (J8 M).1.c8 fun bs bt bu bv bw bx bz ca cb cc cd ce cf cg ch ci => ?_
 refine cj4 (TQ.st (J7 M).1) fun ax ay az ba => ?_
 refine cj4 (TQ.st (J2 M).1) fun bb bc bd bf => ?_
 go_wp2_with fail
 clear bk bl bm bn bo bp bq br bs bt bu bv bw bx bz ca cb cc cd ce cf cg ch ci ax ay az ba bb bc bd bf
 have hz : w.heap.size ≤ w.heap.size + 1 + 1 := by omega
 refine st8W (x_5) (x_6) (x_7) (x_8) (x_11) (x_12) (x_13) (x_14) (J8 M).1 (J11 M) hz fun w9 hv og hk hbw => ?_
 rw [← hv]
 replace M := Lib.hid (aI ((M.out.1).only og (by omega)) (aI ((J1 M).1.only og (by omega)) (aI ((J2 M).1.far (J8 M).1 (by rfl) (by omega) og) (aI ((J3 M).1.far (J8 M).1 (by rfl) (by omega) og) (aI ((J4 M).1.only og (by omega)) (aI ((J5 M).1.only og (by omega)) (aI ((J6 M).1.far (J8 M).1 (by rfl) (by omega) og) (aI ((J7 M).1.far (J8 M).1 (by rfl) (by omega) og) (aI hk (aI ((J9 M).1.only og (by omega)) (aI ((J10 M).1.only og (by omega)) hbw)))))))))))
 clear hk hbw og hv hz
 refine bodyPost_ret (results_box2 rfl _ _ (w.heap.size + 1 + 1) 28 _ _ _ rfl (J8 M).1 Tryz.underlying28 rfl (by kernel_rfl)) rfl ?_
 exact ⟨x_5, x_6, x_7, x_8, x_11, x_12, x_13, x_14, rfl, (J7 M).1, (J2 M).1, (J11 M)⟩
set_option maxRecDepth 100000 in
set_option maxHeartbeats 4000000 in
theorem spMeet_none {u0 u1 u2 u3 u4 u5 u6 u7 v0 v1 v2 v3 v4 v5 v6 v7 : Value} {p q r s : Rat} {w : World} (hG : G ≤ w.heap.size) (h1 : FQ G w u0 u1 u2 u3 p) (h2 : FQ G w u4 u5 u6 u7 q) (h3 : FQ G w v0 v1 v2 v3 r) (h4 : FQ G w v4 v5 v6 v7 s) (hp : Fz p 34359738368) (hq : Fz q 34359738368) (hr : Fz r 34359738368) (hs : Fz s 34359738368) (ha : p ≤ q) (hb : r ≤ s) (hm : minQ q s < maxQ p r)  :
  Calls Tryz.prog 12 #[.agg #[u0, u1, u2, u3, u4, u5, u6, u7], .agg #[v0, v1, v2, v3, v4, v5, v6, v7]] w fun e w' => e = .returned (.tuple #[.agg #[.int .i64 0, .slice none 0 0, .int .i64 0, .slice none 0 0, .int .i64 0, .slice none 0 0, .int .i64 0, .slice none 0 0], .bool false]) ∧ Below w.heap.size w w' := by
 have HP := Lib.hid hp; have HQ := Lib.hid hq; have HR := Lib.hid hr; have HS := Lib.hid hs; have HA := Lib.hid (decide_eq_true ha); have HB := Lib.hid (decide_eq_true hb); have HAA := Lib.hid ha; have HBB := Lib.hid hb; clear hp hq hr hs ha hb
 obtain ⟨k1, hk1⟩ : ∃ k, ordQ (maxQ p r) (minQ q s) = k := ⟨_, rfl⟩
 have hd1 : decide (0 < k1) = true := by rw [← hk1, ordQ_gt0]; exact decide_eq_true hm
 have HK1 := Lib.hid hk1; clear hk1 hm
 have H1 : Hid (FQ G w u0 u1 u2 u3 p) := h1
 have H2 : Hid (FQ G w u4 u5 u6 u7 q) := h2
 have H3 : Hid (FQ G w v0 v1 v2 v3 r) := h3
 have H4 : Hid (FQ G w v4 v5 v6 v7 s) := h4
 clear h1 h2 h3 h4
 have M : Hid (Below w.heap.size w w) := Below.refl _ _
 go_enter Tryz.func12, Tryz.ntmps12
 go_upto_region 1 with fail
 refine nmW (((w.alloc (.cells #[u0, u1, u2, u3, u4, u5, u6, u7] 28)).alloc (.cells #[v0, v1, v2, v3, v4, v5, v6, v7] 28)).alloc (.cells #[.int .i64 0, .slice none 0 0, .int .i64 0, .slice none 0 0, .int .i64 0, .slice none 0 0, .int .i64 0, .slice none 0 0] 28)) fun w1 hv => ?_
 rw [← hv]
 replace M := al3W hv M
 clear hv
 refine cj8 (J2 M).1.d8 fun aa ab ac ad ae af ag ah => ?_
 go_wp2_with fail
 clear aa ab ac ad ae af ag ah
 refine (spRight_q (G := G) (p := p) (q := q) (b_ := true) (H1.out.keep (J3 M)) (H2.out.keep (J3 M)) (Fz.mono HP.out (by omega)) (Fz.mono HQ.out (by omega)) HA.out).mono ?_
 rintro e w2 ⟨rfl, hb⟩
 replace M := gnM hb M
 clear hb
 refine cj8 (J1 M).1.d8 fun ai aj ak al am ao ap aq => ?_
 go_wp2_with fail
 clear ai aj ak al am ao ap aq
 refine (spRight_q (G := G) (p := r) (q := s) (b_ := true) (H3.out.keep (J3 M)) (H4.out.keep (J3 M)) (Fz.mono HR.out (by omega)) (Fz.mono HS.out (by omega)) HB.out).mono ?_
 rintro e w3 ⟨rfl, hb⟩
 replace M := gnM hb M
 clear hb
 refine cj8 (J2 M).1.d8 fun aa ab ac ad ae af ag ah => ?_
 refine cj8 (J1 M).1.d8 fun ai aj ak al am ao ap aq => ?_
 go_wp2_with fail
 clear aa ab ac ad ae af ag ah ai aj ak al am ao ap aq
 refine (ends_ok (G := G) (q := p) (r := r) (lo := (minQ p r)) (hi := (maxQ p r)) (Nat.le_trans hG (J3 M).size) (H1.out.keep (J3 M)) (H3.out.keep (J3 M)) (Fz.mono HP.out (by omega)) (Fz.mono HR.out (by omega)) rfl rfl).mono ?_
 rintro e w4 ⟨x_1, x_2, x_3, x_4, x_5, x_6, x_7, x_8, rfl, hd9, hd10, hb⟩
 replace M := ad2M hd9 hd10 hb M
 clear hb hd9 hd10
 refine cj4 (TQ.st (M.out.1)) fun ar au av aw => ?_
 refine cj4 (TQ.st (J1 M).1) fun ax ay az ba => ?_
 go_upto_region 4 with fail
 clear ar au av aw ax ay az ba
 refine nmW ((w4.alloc (.cells #[x_1, x_2, x_3, x_4] 26)).alloc (.cells #[x_5, x_6, x_7, x_8] 26)) fun w5 hv => ?_
 rw [← hv]
 have ow3_ : w.heap.size + 1 + 1 < w4.heap.size := ((J2 M).1).lt
 replace M := al2W hv M
 clear hv
 refine cj8 (J6 M).1.d8 fun aa ab ac ad ae af ag ah => ?_
 refine cj8 (J5 M).1.d8 fun ai aj ak al am ao ap aq => ?_
 go_wp2_with fail
 clear aa ab ac ad ae af ag ah ai aj ak al am ao ap aq
 refine (ends_ok (G := G) (q := q) (r := s) (lo := (minQ q s)) (hi := (maxQ q s)) (Nat.le_trans hG (J7 M).size) (H2.out.keep (J7 M)) (H4.out.keep (J7 M)) (Fz.mono HQ.out (by omega)) (Fz.mono HS.out (by omega)) rfl rfl).mono ?_
 rintro e w6 ⟨x_11, x_12, x_13, x_14, x_15, x_16, x_17, x_18, rfl, hd19, hd20, hb⟩
 replace M := ad2M hd19 hd20 hb M
 clear hb hd19 hd20
 refine cj4 (TQ.st (M.out.1)) fun bb bc bd bf => ?_
 refine cj4 (TQ.st (J1 M).1) fun bg bh bi bj => ?_
 go_upto_region 5 with fail
 clear bb bc bd bf bg bh bi bj
 refine nmW ((w6.alloc (.cells #[x_11, x_12, x_13, x_14] 26)).alloc (.cells #[x_15, x_16, x_17, x_18] 26)) fun w7 hv => ?_
 rw [← hv]
 have ow5_ : w4.heap.size + 1 < w6.heap.size := ((J2 M).1).lt
 replace M := al2W hv M
 clear hv
 refine cj4 (J4 M).1.d4 fun bk bl bm bn => ?_
 refine cj4 (J1 M).1.d4 fun bo bp bq br => ?_
 go_wp2_with fail
 clear bk bl bm bn bo bp bq br
 refine (fqCompare (G := G) (q := (maxQ p r)) (r := (minQ q s)) (k := k1) (J7 M).1 (J2 M).1 (Fz.mono (Fz.maxQ HP.out HR.out) (by omega)) (Fz.mono (Fz.minQ HQ.out HS.out) (by omega)) (by exact HK1.out)).mono ?_
 rintro e w8 ⟨rfl, hb⟩
 replace M := gnM hb M
 clear hb
 refine cj16 (J8 M).1.c8 fun bs bt bu bv bw bx bz ca cb cc cd ce cf cg ch ci => ?_
 go_wp2_with fail
 clear bs bt bu bv bw bx bz ca cb cc cd ce cf cg ch ci
 have hz : w.heap.size ≤ w.heap.size + 1 + 1 := by omega
 refine st8W (.int .i64 0) (.slice none 0 0) (.int .i64 0) (.slice none 0 0) (.int .i64 0) (.slice none 0 0) (.int .i64 0) (.slice none 0 0) (J8 M).1 (J11 M) hz fun w9 hv og hk hbw => ?_
 rw [← hv]
 replace M := Lib.hid (aI ((M.out.1).only og (by omega)) (aI ((J1 M).1.only og (by omega)) (aI ((J2 M).1.far (J8 M).1 (by rfl) (by omega) og) (aI ((J3 M).1.far (J8 M).1 (by rfl) (by omega) og) (aI ((J4 M).1.only og (by omega)) (aI ((J5 M).1.only og (by omega)) (aI ((J6 M).1.far (J8 M).1 (by rfl) (by omega) og) (aI ((J7 M).1.far (J8 M).1 (by rfl) (by omega) og) (aI hk (aI ((J9 M).1.only og (by omega)) (aI ((J10 M).1.only og (by omega)) hbw)))))))))))
 clear hk hbw og hv hz
 refine bodyPost_ret (results_box2 rfl _ _ (w.heap.size + 1 + 1) 28 _ _ _ rfl (J8 M).1 Tryz.underlying28 rfl (by kernel_rfl)) rfl ?_
 exact ⟨rfl, (J11 M)⟩
end Go.Proofs.YtjbfngjlepafgaaGreat
namespace Go.Proofs.YtjbfngjlepafgaaGreat
open Go.RowKit Go.Lib
variable {G : Nat}

set_option maxRecDepth 100000 in
set_option maxHeartbeats 4000000 in
theorem spHas_q {u0 u1 u2 u3 u4 u5 u6 u7 v0 v1 v2 v3 : Value} {p q x : Rat} {b_ : Bool} {w : World} (_hG : G ≤ w.heap.size) (h1 : FQ G w u0 u1 u2 u3 p) (h2 : FQ G w u4 u5 u6 u7 q) (hp : Fz p 137438953472) (hq : Fz q 137438953472) (ha : p ≤ q) (h3 : FQ G w v0 v1 v2 v3 x) (hx : Fz x 137438953472) (hb : (decide (p ≤ x) && decide (x ≤ q)) = b_) :
  Calls Tryz.prog 19 #[.agg #[u0, u1, u2, u3, u4, u5, u6, u7], .agg #[v0, v1, v2, v3]] w fun e w' => e = .returned (.bool b_) ∧ Below w.heap.size w w' := by
 have HP := Lib.hid hp; have HQ := Lib.hid hq; have HA := Lib.hid (decide_eq_true ha); have HAA := Lib.hid ha; clear hp hq ha
 have HX := Lib.hid hx; clear hx
 obtain ⟨k1, hk1⟩ : ∃ k, ordQ p x = k := ⟨_, rfl⟩
 obtain ⟨b1, hb1⟩ : ∃ b, decide (p ≤ x) = b := ⟨_, rfl⟩
 have hd1 : decide (k1 ≤ 0) = b1 := by rw [← hb1, ← hk1]; exact ordQ_le0 p x
 have Hk1 := Lib.hid hk1; have HB1 := Lib.hid hb1; clear hk1 hb1
 obtain ⟨k2, hk2⟩ : ∃ k, ordQ x q = k := ⟨_, rfl⟩
 obtain ⟨b2, hb2⟩ : ∃ b, decide (x ≤ q) = b := ⟨_, rfl⟩
 have hd2 : decide (k2 ≤ 0) = b2 := by rw [← hb2, ← hk2]; exact ordQ_le0 x q
 have Hk2 := Lib.hid hk2; have HB2 := Lib.hid hb2; clear hk2 hb2
 rw [HB1.out, HB2.out] at hb; subst hb
 have H1 : Hid (FQ G w u0 u1 u2 u3 p) := h1
 have H2 : Hid (FQ G w u4 u5 u6 u7 q) := h2
 have H3 : Hid (FQ G w v0 v1 v2 v3 x) := h3
 clear h1 h2 h3
 have M : Hid (Below w.heap.size w w) := Below.refl _ _
 go_enter Tryz.func19, Tryz.ntmps19
 go_upto_region 1 with fail
 refine nmW ((w.alloc (.cells #[u0, u1, u2, u3, u4, u5, u6, u7] 28)).alloc (.cells #[v0, v1, v2, v3] 26)) fun w1 hv => ?_
 rw [← hv]
 replace M := al2W hv M
 clear hv
 refine cj8 (J1 M).1.d8 fun aa ab ac ad ae af ag ah => ?_
 go_wp2_with fail
 clear aa ab ac ad ae af ag ah
 refine (spRight_q (G := G) (p := p) (q := q) (b_ := true) (H1.out.keep (J2 M)) (H2.out.keep (J2 M)) HP.out HQ.out HA.out).mono ?_
 rintro e w2 ⟨rfl, hb⟩
 replace M := gnM hb M
 clear hb
 refine cj4 (M.out.1).d4 fun ai aj ak al => ?_
 go_wp2_with fail
 clear ai aj ak al
 refine (fqRight (G := G) (q := x) (H3.out.keep (J2 M)) (Fz.mono HX.out (by omega))).mono ?_
 rintro e w3 ⟨rfl, hb⟩
 replace M := gnM hb M
 clear hb
 refine cj8 (J1 M).1.d8 fun aa ab ac ad ae af ag ah => ?_
 refine cj4 (M.out.1).d4 fun ai aj ak al => ?_
 go_wp2_with fail
 clear aa ab ac ad ae af ag ah ai aj ak al
 refine (fqCompare (G := G) (q := p) (r := x) (k := k1) (H1.out.keep (J2 M)) (H3.out.keep (J2 M)) HP.out HX.out Hk1.out).mono ?_
 rintro e w4 ⟨rfl, hb⟩
 replace M := gnM hb M
 clear hb
 cases b1 with
 | false =>
  go_wp2_with fail
  go_ret
  exact ⟨rfl, (J2 M)⟩
 | true =>
  refine cj4 (M.out.1).d4 fun ai aj ak al => ?_
  refine cj8 (J1 M).1.d8 fun aa ab ac ad ae af ag ah => ?_
  go_wp2_with fail
  clear ai aj ak al aa ab ac ad ae af ag ah
  refine (fqCompare (G := G) (q := x) (r := q) (k := k2) (H3.out.keep (J2 M)) (H2.out.keep (J2 M)) HX.out HQ.out Hk2.out).mono ?_
  rintro e w5 ⟨rfl, hb⟩
  replace M := gnM hb M
  clear hb
  go_wp2_with fail
  go_ret
  exact ⟨rfl, (J2 M)⟩
set_option maxRecDepth 100000 in
set_option maxHeartbeats 4000000 in
theorem spInside_q {u0 u1 u2 u3 u4 u5 u6 u7 v0 v1 v2 v3 v4 v5 v6 v7 : Value} {p q r s : Rat} {b_ : Bool} {w : World} (_hG : G ≤ w.heap.size) (h1 : FQ G w u0 u1 u2 u3 p) (h2 : FQ G w u4 u5 u6 u7 q) (h3 : FQ G w v0 v1 v2 v3 r) (h4 : FQ G w v4 v5 v6 v7 s) (hp : Fz p 137438953472) (hq : Fz q 137438953472) (hr : Fz r 137438953472) (hs : Fz s 137438953472) (ha : p ≤ q) (hb : r ≤ s) (hi : (decide (r ≤ p) && decide (q ≤ s)) = b_) :
  Calls Tryz.prog 21 #[.agg #[u0, u1, u2, u3, u4, u5, u6, u7], .agg #[v0, v1, v2, v3, v4, v5, v6, v7]] w fun e w' => e = .returned (.bool b_) ∧ Below w.heap.size w w' := by
 have HP := Lib.hid hp; have HQ := Lib.hid hq; have HR := Lib.hid hr; have HS := Lib.hid hs; have HA := Lib.hid (decide_eq_true ha); have HB := Lib.hid (decide_eq_true hb); have HAA := Lib.hid ha; have HBB := Lib.hid hb; clear hp hq hr hs ha hb
 obtain ⟨k1, hk1⟩ : ∃ k, ordQ r p = k := ⟨_, rfl⟩
 obtain ⟨b1, hb1⟩ : ∃ b, decide (r ≤ p) = b := ⟨_, rfl⟩
 have hd1 : decide (k1 ≤ 0) = b1 := by rw [← hb1, ← hk1]; exact ordQ_le0 r p
 have Hk1 := Lib.hid hk1; have HB1 := Lib.hid hb1; clear hk1 hb1
 obtain ⟨k2, hk2⟩ : ∃ k, ordQ q s = k := ⟨_, rfl⟩
 obtain ⟨b2, hb2⟩ : ∃ b, decide (q ≤ s) = b := ⟨_, rfl⟩
 have hd2 : decide (k2 ≤ 0) = b2 := by rw [← hb2, ← hk2]; exact ordQ_le0 q s
 have Hk2 := Lib.hid hk2; have HB2 := Lib.hid hb2; clear hk2 hb2
 rw [HB1.out, HB2.out] at hi; subst hi
 have H1 : Hid (FQ G w u0 u1 u2 u3 p) := h1
 have H2 : Hid (FQ G w u4 u5 u6 u7 q) := h2
 have H3 : Hid (FQ G w v0 v1 v2 v3 r) := h3
 have H4 : Hid (FQ G w v4 v5 v6 v7 s) := h4
 clear h1 h2 h3 h4
 have M : Hid (Below w.heap.size w w) := Below.refl _ _
 go_enter Tryz.func21, Tryz.ntmps21
 go_upto_region 1 with fail
 refine nmW ((w.alloc (.cells #[u0, u1, u2, u3, u4, u5, u6, u7] 28)).alloc (.cells #[v0, v1, v2, v3, v4, v5, v6, v7] 28)) fun w1 hv => ?_
 rw [← hv]
 replace M := al2W hv M
 clear hv
 refine cj8 (J1 M).1.d8 fun aa ab ac ad ae af ag ah => ?_
 go_wp2_with fail
 clear aa ab ac ad ae af ag ah
 refine (spRight_q (G := G) (p := p) (q := q) (b_ := true) (H1.out.keep (J2 M)) (H2.out.keep (J2 M)) HP.out HQ.out HA.out).mono ?_
 rintro e w2 ⟨rfl, hb⟩
 replace M := gnM hb M
 clear hb
 refine cj8 (M.out.1).d8 fun ai aj ak al am ao ap aq => ?_
 go_wp2_with fail
 clear ai aj ak al am ao ap aq
 refine (spRight_q (G := G) (p := r) (q := s) (b_ := true) (H3.out.keep (J2 M)) (H4.out.keep (J2 M)) HR.out HS.out HB.out).mono ?_
 rintro e w3 ⟨rfl, hb⟩
 replace M := gnM hb M
 clear hb
 refine cj8 (M.out.1).d8 fun ai aj ak al am ao ap aq => ?_
 refine cj8 (J1 M).1.d8 fun aa ab ac ad ae af ag ah => ?_
 go_wp2_with fail
 clear ai aj ak al am ao ap aq aa ab ac ad ae af ag ah
 refine (fqCompare (G := G) (q := r) (r := p) (k := k1) (H3.out.keep (J2 M)) (H1.out.keep (J2 M)) HR.out HP.out Hk1.out).mono ?_
 rintro e w4 ⟨rfl, hb⟩
 replace M := gnM hb M
 clear hb
 cases b1 with
 | false =>
  go_wp2_with fail
  go_ret
  exact ⟨rfl, (J2 M)⟩
 | true =>
  refine cj8 (J1 M).1.d8 fun aa ab ac ad ae af ag ah => ?_
  refine cj8 (M.out.1).d8 fun ai aj ak al am ao ap aq => ?_
  go_wp2_with fail
  clear aa ab ac ad ae af ag ah ai aj ak al am ao ap aq
  refine (fqCompare (G := G) (q := q) (r := s) (k := k2) (H2.out.keep (J2 M)) (H4.out.keep (J2 M)) HQ.out HS.out Hk2.out).mono ?_
  rintro e w5 ⟨rfl, hb⟩
  replace M := gnM hb M
  clear hb
  go_wp2_with fail
  go_ret
  exact ⟨rfl, (J2 M)⟩
set_option maxRecDepth 100000 in
set_option maxHeartbeats 4000000 in
theorem spPoint_q {u0 u1 u2 u3 : Value} {q : Rat} {w : World} (hG : G ≤ w.heap.size) (h1 : FQ G w u0 u1 u2 u3 q) (hx : Fz q 137438953472) :
  Calls Tryz.prog 17 #[.agg #[u0, u1, u2, u3]] w fun e w' => ∃ x0 x1 x2 x3 x4 x5 x6 x7, e = .returned (.agg #[x0, x1, x2, x3, x4, x5, x6, x7]) ∧ FQ G w' x0 x1 x2 x3 q ∧ FQ G w' x4 x5 x6 x7 q ∧ Below w.heap.size w w' := by
 have HX := Lib.hid hx; clear hx
 have H1 : Hid (FQ G w u0 u1 u2 u3 q) := h1
 clear h1
 have M : Hid (Below w.heap.size w w) := Below.refl _ _
 go_enter Tryz.func17, Tryz.ntmps17
 go_upto_region 1 with fail
 refine nmW ((w.alloc (.cells #[u0, u1, u2, u3] 26)).alloc (.cells #[.int .i64 0, .slice none 0 0, .int .i64 0, .slice none 0 0, .int .i64 0, .slice none 0 0, .int .i64 0, .slice none 0 0] 28)) fun w1 hv => ?_
 rw [← hv]
 replace M := al2W hv M
 clear hv
 refine cj4 (J1 M).1.d4 fun aa ab ac ad => ?_
 go_wp2_with fail
 clear aa ab ac ad
 refine (fqRight (G := G) (q := q) (H1.out.keep (J2 M)) (Fz.mono HX.out (by omega))).mono ?_
 rintro e w2 ⟨rfl, hb⟩
 replace M := gnM hb M
 clear hb
 go_wp2_with fail
 refine nmW w2.drew fun w3 hv => ?_
 replace M := drM hv M
 refine wp_region_held_drew (S := (fun w' => w'.cell? ⟨w.heap.size, 0, none⟩ = some (u0) ∧ w'.cell? ⟨w.heap.size, 1, none⟩ = some (u1) ∧ w'.cell? ⟨w.heap.size, 2, none⟩ = some (u2) ∧ w'.cell? ⟨w.heap.size, 3, none⟩ = some (u3))) (by kernel_rfl) (by rw [← hv]; exact (J1 M).1.d4) (fun hH11 => ?_)
 rw [← hv] at hH11 ⊢
 clear hv
 refine tk at0 ?_
 refine tk at2 ?_
 refine wpAnyH_ready (rs := [1]) (by kernel_rfl) (by simp) ?_
 refine AllReadyH.cons at1 (fun K hK => ?_) AllReadyH.nil
 go_simp
 refine (fresh_ok (G := G) (q := q) (Nat.le_trans hG (J2 M).size) (H1.out.keep (J2 M)) HX.out).mono ?_
 rintro e w4 ⟨x_12, x_13, x_14, x_15, rfl, hd16, hb⟩
 replace M := adM hd16 hb M
 clear hb hd16
 (try go_wp2_with fail)
 refine hK.out _ _ ((J2 M).1.d4) (fun hH17 => ?_)
 clear hK K hH11
 (try simp only [Act.put, List.setIfInBounds_toArray, List.set_cons_zero, List.set_cons_succ])
 refine wpAnyH_ready (rs := [3]) (by kernel_rfl) (by simp) ?_
 refine AllReadyH.cons at3 (fun K hK => ?_) AllReadyH.nil
 go_simp
 refine (fresh_ok (G := G) (q := q) (Nat.le_trans hG (J3 M).size) (H1.out.keep (J3 M)) HX.out).mono ?_
 rintro e w5 ⟨x_18, x_19, x_20, x_21, rfl, hd22, hb⟩
 replace M := adM hd22 hb M
 clear hb hd22
 (try go_wp2_with fail)
 refine hK.out _ _ ((J3 M).1.d4) (fun hH23 => ?_)
 clear hK K hH17
 (try simp only [Act.put, List.setIfInBounds_toArray, List.set_cons_zero, List.set_cons_succ])
 refine tk at4 ?_
 refine wpAnyH_ready (rs := [5]) (by kernel_rfl) (by simp) ?_
 refine AllReadyH.cons at5 (fun K hK => ?_) AllReadyH.nil
 refine cj16 (J2 M).1.c8 fun ae af ag ah ai aj ak al am ao ap aq ar au av aw => ?_
 refine cj4 (TQ.st (J1 M).1) fun ax ay az ba => ?_
 refine cj4 (TQ.st (M.out.1)) fun bb bc bd bf => ?_
 go_simp
 clear ae af ag ah ai aj ak al am ao ap aq ar au av aw ax ay az ba bb bc bd bf
 have hz : w.heap.size ≤ w.heap.size + 1 := by omega
 refine st8W (x_12) (x_13) (x_14) (x_15) (x_18) (x_19) (x_20) (x_21) (J2 M).1 (J4 M) hz fun w6 hv og hk hbw => ?_
 rw [← hv]
 replace M := Lib.hid (aI ((M.out.1).far (J2 M).1 (by rfl) (by omega) og) (aI ((J1 M).1.far (J2 M).1 (by rfl) (by omega) og) (aI hk (aI ((J3 M).1.only og (by omega)) hbw))))
 clear hk hbw og hv hz
 refine hK.out _ _ ((J3 M).1.d4) (fun hH24 => ?_)
 clear hK K hH23
 (try simp only [Act.put, List.setIfInBounds_toArray, List.set_cons_zero, List.set_cons_succ])
 refine wpAnyH_done (by kernel_rfl) ?_ _
 clear hH24
 go_wp2_with fail
 refine bodyPost_ret (results_box1 rfl _ _ (w.heap.size + 1) 28 _ _ _ rfl (J2 M).1 Tryz.underlying28 rfl (by kernel_rfl)) rfl ?_
 exact ⟨x_12, x_13, x_14, x_15, x_18, x_19, x_20, x_21, rfl, (J1 M).1, (M.out.1), (J4 M)⟩
set_option maxRecDepth 100000 in
set_option maxHeartbeats 4000000 in
theorem spDiv_none {u0 u1 u2 u3 u4 u5 u6 u7 v0 v1 v2 v3 v4 v5 v6 v7 : Value} {p q r s : Rat} {w : World} (hG : G ≤ w.heap.size) (h1 : FQ G w u0 u1 u2 u3 p) (h2 : FQ G w u4 u5 u6 u7 q) (h3 : FQ G w v0 v1 v2 v3 r) (h4 : FQ G w v4 v5 v6 v7 s) (hp : Fz p 17179869184) (hq : Fz q 17179869184) (hr : Fz r 17179869184) (hs : Fz s 17179869184) (ha : p ≤ q) (hb : r ≤ s) (h0 : r ≤ 0 ∧ 0 ≤ s)  :
  Calls Tryz.prog 32 #[.agg #[u0, u1, u2, u3, u4, u5, u6, u7], .agg #[v0, v1, v2, v3, v4, v5, v6, v7]] w fun e w' => e = .returned (.tuple #[.agg #[.int .i64 0, .slice none 0 0, .int .i64 0, .slice none 0 0, .int .i64 0, .slice none 0 0, .int .i64 0, .slice none 0 0], .int .i64 15]) ∧ Below w.heap.size w w' := by
 have HZ : Hid ((decide (r ≤ ((0 : Int) : Rat)) && decide (((0 : Int) : Rat) ≤ s)) = true) := by show _ = _; rw [← Bool.decide_and]; exact decide_eq_true h0
 clear h0
 have HP := Lib.hid hp; have HQ := Lib.hid hq; have HR := Lib.hid hr; have HS := Lib.hid hs; have HA := Lib.hid (decide_eq_true ha); have HB := Lib.hid (decide_eq_true hb); have HAA := Lib.hid ha; have HBB := Lib.hid hb; clear hp hq hr hs ha hb
 have H1 : Hid (FQ G w u0 u1 u2 u3 p) := h1
 have H2 : Hid (FQ G w u4 u5 u6 u7 q) := h2
 have H3 : Hid (FQ G w v0 v1 v2 v3 r) := h3
 have H4 : Hid (FQ G w v4 v5 v6 v7 s) := h4
 clear h1 h2 h3 h4
 have M : Hid (Below w.heap.size w w) := Below.refl _ _
 go_enter Tryz.func32, Tryz.ntmps32
 go_upto_region 1 with fail
 refine nmW (((w.alloc (.cells #[u0, u1, u2, u3, u4, u5, u6, u7] 28)).alloc (.cells #[v0, v1, v2, v3, v4, v5, v6, v7] 28)).alloc (.cells #[.int .i64 0, .slice none 0 0, .int .i64 0, .slice none 0 0, .int .i64 0, .slice none 0 0, .int .i64 0, .slice none 0 0] 28)) fun w1 hv => ?_
 rw [← hv]
 replace M := al3W hv M
 clear hv
 refine cj8 (J2 M).1.d8 fun aa ab ac ad ae af ag ah => ?_
 go_wp2_with fail
 clear aa ab ac ad ae af ag ah
 refine (spRight_q (G := G) (p := p) (q := q) (b_ := true) (H1.out.keep (J3 M)) (H2.out.keep (J3 M)) (Fz.mono HP.out (by omega)) (Fz.mono HQ.out (by omega)) HA.out).mono ?_
 rintro e w2 ⟨rfl, hb⟩
 replace M := gnM hb M
 clear hb
 refine cj8 (J1 M).1.d8 fun ai aj ak al am ao ap aq => ?_
 go_wp2_with fail
 clear ai aj ak al am ao ap aq
 refine (spRight_q (G := G) (p := r) (q := s) (b_ := true) (H3.out.keep (J3 M)) (H4.out.keep (J3 M)) (Fz.mono HR.out (by omega)) (Fz.mono HS.out (by omega)) HB.out).mono ?_
 rintro e w3 ⟨rfl, hb⟩
 replace M := gnM hb M
 clear hb
 go_wp2_with fail
 refine nmW w3.drew fun w4 hv => ?_
 replace M := drM hv M
 refine wp_region_held_drew (S := (fun w' => w'.cell? ⟨w.heap.size + 1, 0, none⟩ = some (v0) ∧ w'.cell? ⟨w.heap.size + 1, 1, none⟩ = some (v1) ∧ w'.cell? ⟨w.heap.size + 1, 2, none⟩ = some (v2) ∧ w'.cell? ⟨w.heap.size + 1, 3, none⟩ = some (v3) ∧ w'.cell? ⟨w.heap.size + 1, 4, none⟩ = some (v4) ∧ w'.cell? ⟨w.heap.size + 1, 5, none⟩ = some (v5) ∧ w'.cell? ⟨w.heap.size + 1, 6, none⟩ = some (v6) ∧ w'.cell? ⟨w.heap.size + 1, 7, none⟩ = some (v7))) (by kernel_rfl) (by rw [← hv]; exact (J1 M).1.d8) (fun hH7 => ?_)
 rw [← hv] at hH7 ⊢
 clear hv
 refine tk at0 ?_
 refine wpAnyH_ready (rs := [1]) (by kernel_rfl) (by simp) ?_
 refine AllReadyH.cons at1 (fun K hK => ?_) AllReadyH.nil
 go_simp
 refine nmW (α := Rat) ((0 : Int) : Rat) fun q12 eq12 => ?_
 refine (fqInt (G := G) (x := 0) (by decide)).mono ?_
 rintro e w5 ⟨x_8, x_9, x_10, x_11, rfl, hd13, hb⟩
 rw [← eq12] at hd13
 have Sq12 : Hid (Fz q12 4) := by show Fz q12 4; rw [eq12]; exact (Fz.int64 (by decide))
 have Eq12 := Lib.hid eq12; clear eq12
 replace M := adM hd13 hb M
 clear hb hd13
 (try go_wp2_with fail)
 refine hK.out _ _ ((J2 M).1.d8) (fun hH14 => ?_)
 clear hK K hH7
 (try simp only [Act.put, List.setIfInBounds_toArray, List.set_cons_zero, List.set_cons_succ])
 refine wpAnyH_ready (rs := [2]) (by kernel_rfl) (by simp) ?_
 refine AllReadyH.cons at2 (fun K hK => ?_) AllReadyH.nil
 go_simp
 refine (spHas_q (G := G) (p := r) (q := s) (x := q12) (b_ := true) (Nat.le_trans hG (J4 M).size) (H3.out.keep (J4 M)) (H4.out.keep (J4 M)) (Fz.mono HR.out (by omega)) (Fz.mono HS.out (by omega)) HBB.out (M.out.1) (Fz.mono Sq12.out (by omega)) (by rw [Eq12.out]; exact HZ.out)).mono ?_
 rintro e w6 ⟨rfl, hb⟩
 replace M := gnM hb M
 clear hb
 (try go_wp2_with fail)
 refine hK.out _ _ ((J2 M).1.d8) (fun hH15 => ?_)
 clear hK K hH14
 (try simp only [Act.put, List.setIfInBounds_toArray, List.set_cons_zero, List.set_cons_succ])
 refine tk at3 ?_
 refine wpAnyH_done (by kernel_rfl) ?_ _
 clear hH15
 refine cj16 (J1 M).1.c8 fun ar au av aw ax ay az ba bb bc bd bf bg bh bi bj => ?_
 go_wp2_with fail
 clear ar au av aw ax ay az ba bb bc bd bf bg bh bi bj
 have hz : w.heap.size ≤ w.heap.size + 1 + 1 := by omega
 refine st8W (.int .i64 0) (.slice none 0 0) (.int .i64 0) (.slice none 0 0) (.int .i64 0) (.slice none 0 0) (.int .i64 0) (.slice none 0 0) (J1 M).1 (J4 M) hz fun w7 hv og hk hbw => ?_
 rw [← hv]
 replace M := Lib.hid (aI ((M.out.1).far (J1 M).1 (by rfl) (by omega) og) (aI hk (aI ((J2 M).1.only og (by omega)) (aI ((J3 M).1.only og (by omega)) hbw))))
 clear hk hbw og hv hz
 refine bodyPost_ret (results_box2 rfl _ _ (w.heap.size + 1 + 1) 28 _ _ _ rfl (J1 M).1 Tryz.underlying28 rfl (by kernel_rfl)) rfl ?_
 exact ⟨rfl, (J4 M)⟩
set_option maxRecDepth 100000 in
set_option maxHeartbeats 4000000 in
theorem spDiv_q {u0 u1 u2 u3 u4 u5 u6 u7 v0 v1 v2 v3 v4 v5 v6 v7 : Value} {p q r s : Rat} {lo hi : Rat} {w : World} (hG : G ≤ w.heap.size) (h1 : FQ G w u0 u1 u2 u3 p) (h2 : FQ G w u4 u5 u6 u7 q) (h3 : FQ G w v0 v1 v2 v3 r) (h4 : FQ G w v4 v5 v6 v7 s) (hp : Fz p 17179869184) (hq : Fz q 17179869184) (hr : Fz r 17179869184) (hs : Fz s 17179869184) (ha : p ≤ q) (hb : r ≤ s) (h0 : ¬ (r ≤ 0 ∧ 0 ≤ s)) (hlo : min4 (p * (1 / s)) (p * (1 / r)) (q * (1 / s)) (q * (1 / r)) = lo) (hhi : max4 (p * (1 / s)) (p * (1 / r)) (q * (1 / s)) (q * (1 / r)) = hi)  :
  Calls Tryz.prog 32 #[.agg #[u0, u1, u2, u3, u4, u5, u6, u7], .agg #[v0, v1, v2, v3, v4, v5, v6, v7]] w fun e w' => ∃ x0 x1 x2 x3 x4 x5 x6 x7, e = .returned (.tuple #[.agg #[x0, x1, x2, x3, x4, x5, x6, x7], .int .i64 0]) ∧ FQ G w' x0 x1 x2 x3 lo ∧ FQ G w' x4 x5 x6 x7 hi ∧ Below w.heap.size w w' := by
 have HZ : Hid ((decide (r ≤ ((0 : Int) : Rat)) && decide (((0 : Int) : Rat) ≤ s)) = false) := by show _ = _; rw [← Bool.decide_and]; exact decide_eq_false h0
 have hnr : r ≠ 0 := has_ne (b := ⟨r, s⟩) h0 (has_lo hb)
 have hns : s ≠ 0 := has_ne (b := ⟨r, s⟩) h0 (has_hi hb)
 have HNr := Lib.hid hnr; have HNs := Lib.hid hns; clear hnr hns
 have HIV : Hid (((1 : Int) : Rat) / s ≤ ((1 : Int) : Rat) / r) := invS_ok (b := ⟨r, s⟩) hb h0
 clear h0
 have HP := Lib.hid hp; have HQ := Lib.hid hq; have HR := Lib.hid hr; have HS := Lib.hid hs; have HA := Lib.hid (decide_eq_true ha); have HB := Lib.hid (decide_eq_true hb); have HAA := Lib.hid ha; have HBB := Lib.hid hb; clear hp hq hr hs ha hb
 have HLO := Lib.hid hlo; have HHI := Lib.hid hhi; clear hlo hhi
 have H1 : Hid (FQ G w u0 u1 u2 u3 p) := h1
 have H2 : Hid (FQ G w u4 u5 u6 u7 q) := h2
 have H3 : Hid (FQ G w v0 v1 v2 v3 r) := h3
 have H4 : Hid (FQ G w v4 v5 v6 v7 s) := h4
 clear h1 h2 h3 h4
 have M : Hid (Below w.heap.size w w) := Below.refl _ _
 go_enter Tryz.func32, Tryz.ntmps32
 go_upto_region 1 with fail
 refine nmW (((w.alloc (.cells #[u0, u1, u2, u3, u4, u5, u6, u7] 28)).alloc (.cells #[v0, v1, v2, v3, v4, v5, v6, v7] 28)).alloc (.cells #[.int .i64 0, .slice none 0 0, .int .i64 0, .slice none 0 0, .int .i64 0, .slice none 0 0, .int .i64 0, .slice none 0 0] 28)) fun w1 hv => ?_
 rw [← hv]
 replace M := al3W hv M
 clear hv
 refine cj8 (J2 M).1.d8 fun aa ab ac ad ae af ag ah => ?_
 go_wp2_with fail
 clear aa ab ac ad ae af ag ah
 refine (spRight_q (G := G) (p := p) (q := q) (b_ := true) (H1.out.keep (J3 M)) (H2.out.keep (J3 M)) (Fz.mono HP.out (by omega)) (Fz.mono HQ.out (by omega)) HA.out).mono ?_
 rintro e w2 ⟨rfl, hb⟩
 replace M := gnM hb M
 clear hb
 refine cj8 (J1 M).1.d8 fun ai aj ak al am ao ap aq => ?_
 go_wp2_with fail
 clear ai aj ak al am ao ap aq
 refine (spRight_q (G := G) (p := r) (q := s) (b_ := true) (H3.out.keep (J3 M)) (H4.out.keep (J3 M)) (Fz.mono HR.out (by omega)) (Fz.mono HS.out (by omega)) HB.out).mono ?_
 rintro e w3 ⟨rfl, hb⟩
 replace M := gnM hb M
 clear hb
 go_wp2_with fail
 refine nmW w3.drew fun w4 hv => ?_
 replace M := drM hv M
 refine wp_region_held_drew (S := (fun w' => w'.cell? ⟨w.heap.size + 1, 0, none⟩ = some (v0) ∧ w'.cell? ⟨w.heap.size + 1, 1, none⟩ = some (v1) ∧ w'.cell? ⟨w.heap.size + 1, 2, none⟩ = some (v2) ∧ w'.cell? ⟨w.heap.size + 1, 3, none⟩ = some (v3) ∧ w'.cell? ⟨w.heap.size + 1, 4, none⟩ = some (v4) ∧ w'.cell? ⟨w.heap.size + 1, 5, none⟩ = some (v5) ∧ w'.cell? ⟨w.heap.size + 1, 6, none⟩ = some (v6) ∧ w'.cell? ⟨w.heap.size + 1, 7, none⟩ = some (v7))) (by kernel_rfl) (by rw [← hv]; exact (J1 M).1.d8) (fun hH7 => ?_)
 rw [← hv] at hH7 ⊢
 clear hv
 refine tk at0 ?_
 refine wpAnyH_ready (rs := [1]) (by kernel_rfl) (by simp) ?_
 refine AllReadyH.cons at1 (fun K hK => ?_) AllReadyH.nil
 go_simp
 refine nmW (α := Rat) ((0 : Int) : Rat) fun q12 eq12 => ?_
 refine (fqInt (G := G) (x := 0) (by decide)).mono ?_
 rintro e w5 ⟨x_8, x_9, x_10, x_11, rfl, hd13, hb⟩
 rw [← eq12] at hd13
 have Sq12 : Hid (Fz q12 4) := by show Fz q12 4; rw [eq12]; exact (Fz.int64 (by decide))
 have Eq12 := Lib.hid eq12; clear eq12
 replace M := adM hd13 hb M
 clear hb hd13
 (try go_wp2_with fail)
 refine hK.out _ _ ((J2 M).1.d8) (fun hH14 => ?_)
 clear hK K hH7
 (try simp only [Act.put, List.setIfInBounds_toArray, List.set_cons_zero, List.set_cons_succ])
 refine wpAnyH_ready (rs := [2]) (by kernel_rfl) (by simp) ?_
 refine AllReadyH.cons at2 (fun K hK => ?_) AllReadyH.nil
 go_simp
 refine (spHas_q (G := G) (p := r) (q := s) (x := q12) (b_ := false) (Nat.le_trans hG (J4 M).size) (H3.out.keep (J4 M)) (H4.out.keep (J4 M)) (Fz.mono HR.out (by omega)) (Fz.mono HS.out (by omega)) HBB.out (M.out.1) (Fz.mono Sq12.out (by omega)) (by rw [Eq12.out]; exact HZ.out)).mono ?_
 rintro e w6 ⟨rfl, hb⟩
 replace M := gnM hb M
 clear hb
 (try go_wp2_with fail)
 refine hK.out _ _ ((J2 M).1.d8) (fun hH15 => ?_)
 clear hK K hH14
 (try simp only [Act.put, List.setIfInBounds_toArray, List.set_cons_zero, List.set_cons_succ])
 refine tk at3 ?_
 refine wpAnyH_done (by kernel_rfl) ?_ _
 clear hH15
 go_upto_region 5 with fail
 go_cut [6, 7] (fun s6 s7 wx => ∃ (A28 : Nat), ∃ (x_16 : Value), ∃ (x_17 : Value), ∃ (x_18 : Value), ∃ (x_19 : Value), ∃ (q20 : Rat), ∃ (x_22 : Value), ∃ (x_23 : Value), ∃ (x_24 : Value), ∃ (x_25 : Value), ∃ (q26 : Rat), s6 = .pointer (some ⟨A28, 0, none⟩) ∧ s7 = .int .i64 0 ∧ Hid (q20 = ((1 : Int) : Rat)) ∧ Hid (q26 = (q20 / s)) ∧ Hid (Fz q20 4) ∧ Hid (Fz q26 17179869188) ∧ w.heap.size + 1 + 1 < A28 ∧ Hid (Bx wx A28 26 #[x_22, x_23, x_24, x_25] ∧ FQ G wx x_22 x_23 x_24 x_25 q26 ∧ FQ G wx x_16 x_17 x_18 x_19 q20 ∧ FQ G wx x_8 x_9 x_10 x_11 q12 ∧ Bx wx w.heap.size 28 #[u0, u1, u2, u3, u4, u5, u6, u7] ∧ Bx wx (w.heap.size + 1) 28 #[v0, v1, v2, v3, v4, v5, v6, v7] ∧ Bx wx (w.heap.size + 1 + 1) 28 #[.int .i64 0, .slice none 0 0, .int .i64 0, .slice none 0 0, .int .i64 0, .slice none 0 0, .int .i64 0, .slice none 0 0] ∧ Below w.heap.size w wx))
 case first =>
  refine nmW w6.drew fun w7 hv => ?_
  replace M := drM hv M
  refine wp_region_held_drew (S := (fun w' => w'.cell? ⟨w.heap.size + 1, 0, none⟩ = some (v0) ∧ w'.cell? ⟨w.heap.size + 1, 1, none⟩ = some (v1) ∧ w'.cell? ⟨w.heap.size + 1, 2, none⟩ = some (v2) ∧ w'.cell? ⟨w.heap.size + 1, 3, none⟩ = some (v3) ∧ w'.cell? ⟨w.heap.size + 1, 4, none⟩ = some (v4) ∧ w'.cell? ⟨w.heap.size + 1, 5, none⟩ = some (v5) ∧ w'.cell? ⟨w.heap.size + 1, 6, none⟩ = some (v6) ∧ w'.cell? ⟨w.heap.size + 1, 7, none⟩ = some (v7))) (by kernel_rfl) (by rw [← hv]; exact (J2 M).1.d8) (fun hH29 => ?_)
  rw [← hv] at hH29 ⊢
  clear hv
  refine tk at1 ?_
  refine tk at2 ?_
  refine wpAnyH_ready (rs := [0, 7]) (by kernel_rfl) (by simp) ?_
  refine AllReadyH.cons at0 (fun K hK => ?_) ?_
  ·
   go_simp
   refine nmW (α := Rat) ((1 : Int) : Rat) fun q34 eq34 => ?_
   refine (fqInt (G := G) (x := 1) (by decide)).mono ?_
   rintro e w8 ⟨x_30, x_31, x_32, x_33, rfl, hd35, hb⟩
   rw [← eq34] at hd35
   have Sq34 : Hid (Fz q34 4) := by show Fz q34 4; rw [eq34]; exact (Fz.int64 (by decide))
   have Eq34 := Lib.hid eq34; clear eq34
   replace M := adM hd35 hb M
   clear hb hd35
   (try go_wp2_with fail)
   refine hK.out _ _ ((J3 M).1.d8) (fun hH36 => ?_)
   clear hK K hH29
   (try simp only [Act.put, List.setIfInBounds_toArray, List.set_cons_zero, List.set_cons_succ])
   refine wpAnyH_ready (rs := [3, 7]) (by kernel_rfl) (by simp) ?_
   refine AllReadyH.cons at3 (fun K hK => ?_) ?_
   ·
    go_simp
    refine nmW (α := Rat) (q34 / s) fun q41 eq41 => ?_
    refine (fqDiv (G := G) (q := q34) (r := s) (Nat.le_trans hG (J5 M).size) (M.out.1) (H4.out.keep (J5 M)) (Fz.mono Sq34.out (by omega)) (Fz.mono HS.out (by omega)) HNs.out).mono ?_
    rintro e w9 ⟨x_37, x_38, x_39, x_40, rfl, hd42, hb⟩
    rw [← eq41] at hd42
    have Sq41 : Hid (Fz q41 17179869188) := by show Fz q41 17179869188; rw [eq41]; exact (Fz.div Sq34.out HS.out HNs.out)
    have Eq41 := Lib.hid eq41; clear eq41
    replace M := adM hd42 hb M
    clear hb hd42
    (try go_wp2_with fail)
    refine hK.out _ _ ((J4 M).1.d8) (fun hH43 => ?_)
    clear hK K hH36
    (try simp only [Act.put, List.setIfInBounds_toArray, List.set_cons_zero, List.set_cons_succ])
    refine tk at4 ?_
    refine tk at5 ?_
    refine tk at6 ?_
    refine wpAnyH_ready (rs := [7]) (by kernel_rfl) (by simp) ?_
    refine AllReadyH.cons at7 (fun K hK => ?_) AllReadyH.nil
    go_simp
    refine nmW (w9.alloc (.cells #[.int .i64 0, .slice none 0 0, .int .i64 0, .slice none 0 0] 26)) fun w10 hv => ?_
    rw [← hv]
    have ow3_ : w.heap.size + 1 + 1 < w9.heap.size := ((J3 M).1).lt
    replace M := alM hv M
    clear hv
    refine hK.out _ _ ((J5 M).1.d8) (fun hH44 => ?_)
    clear hK K hH43
    (try simp only [Act.put, List.setIfInBounds_toArray, List.set_cons_zero, List.set_cons_succ])
    refine wpAnyH_ready (rs := [8]) (by kernel_rfl) (by simp) ?_
    refine AllReadyH.cons at8 (fun K hK => ?_) AllReadyH.nil
    refine cj8 (M.out.1).c4 fun ar au av aw ax ay az ba => ?_
    refine cj4 (TQ.st (J1 M).1) fun bb bc bd bf => ?_
    go_simp
    clear ar au av aw ax ay az ba bb bc bd bf
    have hz : w.heap.size ≤ w9.heap.size := by omega
    refine st4W (x_37) (x_38) (x_39) (x_40) (M.out.1) (J7 M) hz fun w11 hv og hk hbw => ?_
    rw [← hv]
    replace M := Lib.hid (aI hk (aI ((J1 M).1.far (M.out.1) (by rfl) (by omega) og) (aI ((J2 M).1.far (M.out.1) (by rfl) (by omega) og) (aI ((J3 M).1.far (M.out.1) (by rfl) (by omega) og) (aI ((J4 M).1.only og (by omega)) (aI ((J5 M).1.only og (by omega)) (aI ((J6 M).1.only og (by omega)) hbw)))))))
    clear hk hbw og hv hz
    refine hK.out _ _ ((J5 M).1.d8) (fun hH45 => ?_)
    clear hK K hH44
    (try simp only [Act.put, List.setIfInBounds_toArray, List.set_cons_zero, List.set_cons_succ])
    refine tk at9 ?_
    refine wpAnyH_done (by kernel_rfl) ?_ _
    clear hH45
    go_wp2_with fail
    go_meet
    exact ⟨w9.heap.size, x_30, x_31, x_32, x_33, q34, x_37, x_38, x_39, x_40, q41, rfl, rfl, Eq34, Eq41, Sq34, Sq41, (by omega), (M.out.1), (J1 M).1, (J2 M).1, (J3 M).1, (J6 M).1, (J5 M).1, (J4 M).1, (J7 M)⟩
   refine AllReadyH.cons at7 (fun K hK => ?_) AllReadyH.nil
   go_simp
   refine nmW (w8.alloc (.cells #[.int .i64 0, .slice none 0 0, .int .i64 0, .slice none 0 0] 26)) fun w9 hv => ?_
   rw [← hv]
   have ow3_ : w.heap.size + 1 + 1 < w8.heap.size := ((J2 M).1).lt
   replace M := alM hv M
   clear hv
   refine hK.out _ _ ((J4 M).1.d8) (fun hH46 => ?_)
   clear hK K hH36
   (try simp only [Act.put, List.setIfInBounds_toArray, List.set_cons_zero, List.set_cons_succ])
   refine wpAnyH_ready (rs := [3]) (by kernel_rfl) (by simp) ?_
   refine AllReadyH.cons at3 (fun K hK => ?_) AllReadyH.nil
   go_simp
   refine nmW (α := Rat) (q34 / s) fun q51 eq51 => ?_
   refine (fqDiv (G := G) (q := q34) (r := s) (Nat.le_trans hG (J6 M).size) (J1 M).1 (H4.out.keep (J6 M)) (Fz.mono Sq34.out (by omega)) (Fz.mono HS.out (by omega)) HNs.out).mono ?_
   rintro e w10 ⟨x_47, x_48, x_49, x_50, rfl, hd52, hb⟩
   rw [← eq51] at hd52
   have Sq51 : Hid (Fz q51 17179869188) := by show Fz q51 17179869188; rw [eq51]; exact (Fz.div Sq34.out HS.out HNs.out)
   have Eq51 := Lib.hid eq51; clear eq51
   replace M := adM hd52 hb M
   clear hb hd52
   (try go_wp2_with fail)
   refine hK.out _ _ ((J5 M).1.d8) (fun hH53 => ?_)
   clear hK K hH46
   (try simp only [Act.put, List.setIfInBounds_toArray, List.set_cons_zero, List.set_cons_succ])
   refine tk at4 ?_
   refine tk at5 ?_
   refine tk at6 ?_
   refine wpAnyH_ready (rs := [8]) (by kernel_rfl) (by simp) ?_
   refine AllReadyH.cons at8 (fun K hK => ?_) AllReadyH.nil
   refine cj8 (J1 M).1.c4 fun ar au av aw ax ay az ba => ?_
   refine cj4 (TQ.st (M.out.1)) fun bg bh bi bj => ?_
   go_simp
   clear ar au av aw ax ay az ba bg bh bi bj
   have hz : w.heap.size ≤ w8.heap.size := by omega
   refine st4W (x_47) (x_48) (x_49) (x_50) (J1 M).1 (J7 M) hz fun w11 hv og hk hbw => ?_
   rw [← hv]
   replace M := Lib.hid (aI ((M.out.1).far (J1 M).1 (by rfl) (by omega) og) (aI hk (aI ((J2 M).1.far (J1 M).1 (by rfl) (by omega) og) (aI ((J3 M).1.far (J1 M).1 (by rfl) (by omega) og) (aI ((J4 M).1.only og (by omega)) (aI ((J5 M).1.only og (by omega)) (aI ((J6 M).1.only og (by omega)) hbw)))))))
   clear hk hbw og hv hz
   refine hK.out _ _ ((J5 M).1.d8) (fun hH54 => ?_)
   clear hK K hH53
   (try simp only [Act.put, List.setIfInBounds_toArray, List.set_cons_zero, List.set_cons_succ])
   refine tk at9 ?_
   refine wpAnyH_done (by kernel_rfl) ?_ _
   clear hH54
   go_wp2_with fail
   go_meet
   exact ⟨w8.heap.size, x_30, x_31, x_32, x_33, q34, x_47, x_48, x_49, x_50, q51, rfl, rfl, Eq34, Eq51, Sq34, Sq51, (by omega), (J1 M).1, (M.out.1), (J2 M).1, (J3 M).1, (J6 M).1, (J5 M).1, (J4 M).1, (J7 M)⟩
  refine AllReadyH.cons at7 (fun K hK => ?_) AllReadyH.nil
  go_simp
  refine nmW (w7.alloc (.cells #[.int .i64 0, .slice none 0 0, .int .i64 0, .slice none 0 0] 26)) fun w8 hv => ?_
  rw [← hv]
  have ow3_ : w.heap.size + 1 + 1 < w7.heap.size := ((J1 M).1).lt
  replace M := alM hv M
  clear hv
  refine hK.out _ _ ((J3 M).1.d8) (fun hH55 => ?_)
  clear hK K hH29
  (try simp only [Act.put, List.setIfInBounds_toArray, List.set_cons_zero, List.set_cons_succ])
  refine wpAnyH_ready (rs := [0]) (by kernel_rfl) (by simp) ?_
  refine AllReadyH.cons at0 (fun K hK => ?_) AllReadyH.nil
  go_simp
  refine nmW (α := Rat) ((1 : Int) : Rat) fun q60 eq60 => ?_
  refine (fqInt (G := G) (x := 1) (by decide)).mono ?_
  rintro e w9 ⟨x_56, x_57, x_58, x_59, rfl, hd61, hb⟩
  rw [← eq60] at hd61
  have Sq60 : Hid (Fz q60 4) := by show Fz q60 4; rw [eq60]; exact (Fz.int64 (by decide))
  have Eq60 := Lib.hid eq60; clear eq60
  replace M := adM hd61 hb M
  clear hb hd61
  (try go_wp2_with fail)
  refine hK.out _ _ ((J4 M).1.d8) (fun hH62 => ?_)
  clear hK K hH55
  (try simp only [Act.put, List.setIfInBounds_toArray, List.set_cons_zero, List.set_cons_succ])
  refine wpAnyH_ready (rs := [3]) (by kernel_rfl) (by simp) ?_
  refine AllReadyH.cons at3 (fun K hK => ?_) AllReadyH.nil
  go_simp
  refine nmW (α := Rat) (q60 / s) fun q67 eq67 => ?_
  refine (fqDiv (G := G) (q := q60) (r := s) (Nat.le_trans hG (J6 M).size) (M.out.1) (H4.out.keep (J6 M)) (Fz.mono Sq60.out (by omega)) (Fz.mono HS.out (by omega)) HNs.out).mono ?_
  rintro e w10 ⟨x_63, x_64, x_65, x_66, rfl, hd68, hb⟩
  rw [← eq67] at hd68
  have Sq67 : Hid (Fz q67 17179869188) := by show Fz q67 17179869188; rw [eq67]; exact (Fz.div Sq60.out HS.out HNs.out)
  have Eq67 := Lib.hid eq67; clear eq67
  replace M := adM hd68 hb M
  clear hb hd68
  (try go_wp2_with fail)
  refine hK.out _ _ ((J5 M).1.d8) (fun hH69 => ?_)
  clear hK K hH62
  (try simp only [Act.put, List.setIfInBounds_toArray, List.set_cons_zero, List.set_cons_succ])
  refine tk at4 ?_
  refine tk at5 ?_
  refine tk at6 ?_
  refine wpAnyH_ready (rs := [8]) (by kernel_rfl) (by simp) ?_
  refine AllReadyH.cons at8 (fun K hK => ?_) AllReadyH.nil
  refine cj8 (J2 M).1.c4 fun ar au av aw ax ay az ba => ?_
  refine cj4 (TQ.st (M.out.1)) fun bk bl bm bn => ?_
  go_simp
  clear ar au av aw ax ay az ba bk bl bm bn
  have hz : w.heap.size ≤ w7.heap.size := by omega
  refine st4W (x_63) (x_64) (x_65) (x_66) (J2 M).1 (J7 M) hz fun w11 hv og hk hbw => ?_
  rw [← hv]
  replace M := Lib.hid (aI ((M.out.1).far (J2 M).1 (by rfl) (by omega) og) (aI ((J1 M).1.far (J2 M).1 (by rfl) (by omega) og) (aI hk (aI ((J3 M).1.far (J2 M).1 (by rfl) (by omega) og) (aI ((J4 M).1.only og (by omega)) (aI ((J5 M).1.only og (by omega)) (aI ((J6 M).1.only og (by omega)) hbw)))))))
  clear hk hbw og hv hz
  refine hK.out _ _ ((J5 M).1.d8) (fun hH70 => ?_)
  clear hK K hH69
  (try simp only [Act.put, List.setIfInBounds_toArray, List.set_cons_zero, List.set_cons_succ])
  refine tk at9 ?_
  refine wpAnyH_done (by kernel_rfl) ?_ _
  clear hH70
  go_wp2_with fail
  go_meet
  exact ⟨w7.heap.size, x_56, x_57, x_58, x_59, q60, x_63, x_64, x_65, x_66, q67, rfl, rfl, Eq60, Eq67, Sq60, Sq67, (by omega), (J2 M).1, (M.out.1), (J1 M).1, (J3 M).1, (J6 M).1, (J5 M).1, (J4 M).1, (J7 M)⟩
 case rest =>
  obtain ⟨A28, x_16, x_17, x_18, x_19, q20, x_22, x_23, x_24, x_25, q26, rfl, rfl, Eq20, Eq26, Sq20, Sq26, oA28, M⟩ := hcut
  obtain ⟨w7, rfl⟩ : ∃ w_ : World, w_ = wc := ⟨_, rfl⟩
  go_upto_region 6 with fail
  go_cut [8, 9] (fun s8 s9 wx => ∃ (A83 : Nat), ∃ (x_71 : Value), ∃ (x_72 : Value), ∃ (x_73 : Value), ∃ (x_74 : Value), ∃ (q75 : Rat), ∃ (x_77 : Value), ∃ (x_78 : Value), ∃ (x_79 : Value), ∃ (x_80 : Value), ∃ (q81 : Rat), s8 = .pointer (some ⟨A83, 0, none⟩) ∧ s9 = .int .i64 0 ∧ Hid (q75 = ((1 : Int) : Rat)) ∧ Hid (q81 = (q75 / r)) ∧ Hid (Fz q75 4) ∧ Hid (Fz q81 17179869188) ∧ A28 < A83 ∧ Hid (Bx wx A83 26 #[x_77, x_78, x_79, x_80] ∧ FQ G wx x_77 x_78 x_79 x_80 q81 ∧ FQ G wx x_71 x_72 x_73 x_74 q75 ∧ FQ G wx x_22 x_23 x_24 x_25 q26 ∧ FQ G wx x_16 x_17 x_18 x_19 q20 ∧ FQ G wx x_8 x_9 x_10 x_11 q12 ∧ Bx wx w.heap.size 28 #[u0, u1, u2, u3, u4, u5, u6, u7] ∧ Bx wx (w.heap.size + 1) 28 #[v0, v1, v2, v3, v4, v5, v6, v7] ∧ Bx wx (w.heap.size + 1 + 1) 28 #[.int .i64 0, .slice none 0 0, .int .i64 0, .slice none 0 0, .int .i64 0, .slice none 0 0, .int .i64 0, .slice none 0 0] ∧ Bx wx A28 26 #[x_22, x_23, x_24, x_25] ∧ Below w.heap.size w wx))
  case first =>
   refine nmW w7.drew fun w8 hv => ?_
   replace M := drM hv M
   refine wp_region_held_drew (S := (fun w' => w'.cell? ⟨w.heap.size + 1, 0, none⟩ = some (v0) ∧ w'.cell? ⟨w.heap.size + 1, 1, none⟩ = some (v1) ∧ w'.cell? ⟨w.heap.size + 1, 2, none⟩ = some (v2) ∧ w'.cell? ⟨w.heap.size + 1, 3, none⟩ = some (v3) ∧ w'.cell? ⟨w.heap.size + 1, 4, none⟩ = some (v4) ∧ w'.cell? ⟨w.heap.size + 1, 5, none⟩ = some (v5) ∧ w'.cell? ⟨w.heap.size + 1, 6, none⟩ = some (v6) ∧ w'.cell? ⟨w.heap.size + 1, 7, none⟩ = some (v7))) (by kernel_rfl) (by rw [← hv]; exact (J5 M).1.d8) (fun hH84 => ?_)
   rw [← hv] at hH84 ⊢
   clear hv
   refine tk at1 ?_
   refine tk at2 ?_
   refine wpAnyH_ready (rs := [0, 7]) (by kernel_rfl) (by simp) ?_
   refine AllReadyH.cons at0 (fun K hK => ?_) ?_
   ·
    go_simp
    refine nmW (α := Rat) ((1 : Int) : Rat) fun q89 eq89 => ?_
    refine (fqInt (G := G) (x := 1) (by decide)).mono ?_
    rintro e w9 ⟨x_85, x_86, x_87, x_88, rfl, hd90, hb⟩
    rw [← eq89] at hd90
    have Sq89 : Hid (Fz q89 4) := by show Fz q89 4; rw [eq89]; exact (Fz.int64 (by decide))
    have Eq89 := Lib.hid eq89; clear eq89
    replace M := adM hd90 hb M
    clear hb hd90
    (try go_wp2_with fail)
    refine hK.out _ _ ((J6 M).1.d8) (fun hH91 => ?_)
    clear hK K hH84
    (try simp only [Act.put, List.setIfInBounds_toArray, List.set_cons_zero, List.set_cons_succ])
    refine wpAnyH_ready (rs := [3, 7]) (by kernel_rfl) (by simp) ?_
    refine AllReadyH.cons at3 (fun K hK => ?_) ?_
    ·
     go_simp
     refine nmW (α := Rat) (q89 / r) fun q96 eq96 => ?_
     refine (fqDiv (G := G) (q := q89) (r := r) (Nat.le_trans hG (J8 M).size) (M.out.1) (H3.out.keep (J8 M)) (Fz.mono Sq89.out (by omega)) (Fz.mono HR.out (by omega)) HNr.out).mono ?_
     rintro e w10 ⟨x_92, x_93, x_94, x_95, rfl, hd97, hb⟩
     rw [← eq96] at hd97
     have Sq96 : Hid (Fz q96 17179869188) := by show Fz q96 17179869188; rw [eq96]; exact (Fz.div Sq89.out HR.out HNr.out)
     have Eq96 := Lib.hid eq96; clear eq96
     replace M := adM hd97 hb M
     clear hb hd97
     (try go_wp2_with fail)
     refine hK.out _ _ ((J7 M).1.d8) (fun hH98 => ?_)
     clear hK K hH91
     (try simp only [Act.put, List.setIfInBounds_toArray, List.set_cons_zero, List.set_cons_succ])
     refine tk at4 ?_
     refine tk at5 ?_
     refine tk at6 ?_
     refine wpAnyH_ready (rs := [7]) (by kernel_rfl) (by simp) ?_
     refine AllReadyH.cons at7 (fun K hK => ?_) AllReadyH.nil
     go_simp
     refine nmW (w10.alloc (.cells #[.int .i64 0, .slice none 0 0, .int .i64 0, .slice none 0 0] 26)) fun w11 hv => ?_
     rw [← hv]
     have ow4_ : A28 < w10.heap.size := ((J2 M).1).lt
     replace M := alM hv M
     clear hv
     refine hK.out _ _ ((J8 M).1.d8) (fun hH99 => ?_)
     clear hK K hH98
     (try simp only [Act.put, List.setIfInBounds_toArray, List.set_cons_zero, List.set_cons_succ])
     refine wpAnyH_ready (rs := [8]) (by kernel_rfl) (by simp) ?_
     refine AllReadyH.cons at8 (fun K hK => ?_) AllReadyH.nil
     refine cj8 (M.out.1).c4 fun bo bp bq br bs bt bu bv => ?_
     refine cj4 (TQ.st (J1 M).1) fun bw bx bz ca => ?_
     go_simp
     clear bo bp bq br bs bt bu bv bw bx bz ca
     have hz : w.heap.size ≤ w10.heap.size := by omega
     refine st4W (x_92) (x_93) (x_94) (x_95) (M.out.1) (J10 M) hz fun w12 hv og hk hbw => ?_
     rw [← hv]
     replace M := Lib.hid (aI hk (aI ((J1 M).1.far (M.out.1) (by rfl) (by omega) og) (aI ((J2 M).1.far (M.out.1) (by rfl) (by omega) og) (aI ((J3 M).1.only og (by omega)) (aI ((J4 M).1.far (M.out.1) (by rfl) (by omega) og) (aI ((J5 M).1.far (M.out.1) (by rfl) (by omega) og) (aI ((J6 M).1.far (M.out.1) (by rfl) (by omega) og) (aI ((J7 M).1.only og (by omega)) (aI ((J8 M).1.only og (by omega)) (aI ((J9 M).1.only og (by omega)) hbw))))))))))
     clear hk hbw og hv hz
     refine hK.out _ _ ((J8 M).1.d8) (fun hH100 => ?_)
     clear hK K hH99
     (try simp only [Act.put, List.setIfInBounds_toArray, List.set_cons_zero, List.set_cons_succ])
     refine tk at9 ?_
     refine wpAnyH_done (by kernel_rfl) ?_ _
     clear hH100
     go_wp2_with fail
     go_meet
     exact ⟨w10.heap.size, x_85, x_86, x_87, x_88, q89, x_92, x_93, x_94, x_95, q96, rfl, rfl, Eq89, Eq96, Sq89, Sq96, (by omega), (M.out.1), (J1 M).1, (J2 M).1, (J4 M).1, (J5 M).1, (J6 M).1, (J7 M).1, (J8 M).1, (J9 M).1, (J3 M).1, (J10 M)⟩
    refine AllReadyH.cons at7 (fun K hK => ?_) AllReadyH.nil
    go_simp
    refine nmW (w9.alloc (.cells #[.int .i64 0, .slice none 0 0, .int .i64 0, .slice none 0 0] 26)) fun w10 hv => ?_
    rw [← hv]
    have ow4_ : A28 < w9.heap.size := ((J1 M).1).lt
    replace M := alM hv M
    clear hv
    refine hK.out _ _ ((J7 M).1.d8) (fun hH101 => ?_)
    clear hK K hH91
    (try simp only [Act.put, List.setIfInBounds_toArray, List.set_cons_zero, List.set_cons_succ])
    refine wpAnyH_ready (rs := [3]) (by kernel_rfl) (by simp) ?_
    refine AllReadyH.cons at3 (fun K hK => ?_) AllReadyH.nil
    go_simp
    refine nmW (α := Rat) (q89 / r) fun q106 eq106 => ?_
    refine (fqDiv (G := G) (q := q89) (r := r) (Nat.le_trans hG (J9 M).size) (J1 M).1 (H3.out.keep (J9 M)) (Fz.mono Sq89.out (by omega)) (Fz.mono HR.out (by omega)) HNr.out).mono ?_
    rintro e w11 ⟨x_102, x_103, x_104, x_105, rfl, hd107, hb⟩
    rw [← eq106] at hd107
    have Sq106 : Hid (Fz q106 17179869188) := by show Fz q106 17179869188; rw [eq106]; exact (Fz.div Sq89.out HR.out HNr.out)
    have Eq106 := Lib.hid eq106; clear eq106
    replace M := adM hd107 hb M
    clear hb hd107
    (try go_wp2_with fail)
    refine hK.out _ _ ((J8 M).1.d8) (fun hH108 => ?_)
    clear hK K hH101
    (try simp only [Act.put, List.setIfInBounds_toArray, List.set_cons_zero, List.set_cons_succ])
    refine tk at4 ?_
    refine tk at5 ?_
    refine tk at6 ?_
    refine wpAnyH_ready (rs := [8]) (by kernel_rfl) (by simp) ?_
    refine AllReadyH.cons at8 (fun K hK => ?_) AllReadyH.nil
    refine cj8 (J1 M).1.c4 fun bo bp bq br bs bt bu bv => ?_
    refine cj4 (TQ.st (M.out.1)) fun cb cc cd ce => ?_
    go_simp
    clear bo bp bq br bs bt bu bv cb cc cd ce
    have hz : w.heap.size ≤ w9.heap.size := by omega
    refine st4W (x_102) (x_103) (x_104) (x_105) (J1 M).1 (J10 M) hz fun w12 hv og hk hbw => ?_
    rw [← hv]
    replace M := Lib.hid (aI ((M.out.1).far (J1 M).1 (by rfl) (by omega) og) (aI hk (aI ((J2 M).1.far (J1 M).1 (by rfl) (by omega) og) (aI ((J3 M).1.only og (by omega)) (aI ((J4 M).1.far (J1 M).1 (by rfl) (by omega) og) (aI ((J5 M).1.far (J1 M).1 (by rfl) (by omega) og) (aI ((J6 M).1.far (J1 M).1 (by rfl) (by omega) og) (aI ((J7 M).1.only og (by omega)) (aI ((J8 M).1.only og (by omega)) (aI ((J9 M).1.only og (by omega)) hbw))))))))))
    clear hk hbw og hv hz
    refine hK.out _ _ ((J8 M).1.d8) (fun hH109 => ?_)
    clear hK K hH108
    (try simp only [Act.put, List.setIfInBounds_toArray, List.set_cons_zero, List.set_cons_succ])
    refine tk at9 ?_
    refine wpAnyH_done (by kernel_rfl) ?_ _
    clear hH109
    go_wp2_with fail
    go_meet
    exact ⟨w9.heap.size, x_85, x_86, x_87, x_88, q89, x_102, x_103, x_104, x_105, q106, rfl, rfl, Eq89, Eq106, Sq89, Sq106, (by omega), (J1 M).1, (M.out.1), (J2 M).1, (J4 M).1, (J5 M).1, (J6 M).1, (J7 M).1, (J8 M).1, (J9 M).1, (J3 M).1, (J10 M)⟩
   refine AllReadyH.cons at7 (fun K hK => ?_) AllReadyH.nil
   go_simp
   refine nmW (w8.alloc (.cells #[.int .i64 0, .slice none 0 0, .int .i64 0, .slice none 0 0] 26)) fun w9 hv => ?_
   rw [← hv]
   have ow4_ : A28 < w8.heap.size := ((M.out.1)).lt
   replace M := alM hv M
   clear hv
   refine hK.out _ _ ((J6 M).1.d8) (fun hH110 => ?_)
   clear hK K hH84
   (try simp only [Act.put, List.setIfInBounds_toArray, List.set_cons_zero, List.set_cons_succ])
   refine wpAnyH_ready (rs := [0]) (by kernel_rfl) (by simp) ?_
   refine AllReadyH.cons at0 (fun K hK => ?_) AllReadyH.nil
   go_simp
   refine nmW (α := Rat) ((1 : Int) : Rat) fun q115 eq115 => ?_
   refine (fqInt (G := G) (x := 1) (by decide)).mono ?_
   rintro e w10 ⟨x_111, x_112, x_113, x_114, rfl, hd116, hb⟩
   rw [← eq115] at hd116
   have Sq115 : Hid (Fz q115 4) := by show Fz q115 4; rw [eq115]; exact (Fz.int64 (by decide))
   have Eq115 := Lib.hid eq115; clear eq115
   replace M := adM hd116 hb M
   clear hb hd116
   (try go_wp2_with fail)
   refine hK.out _ _ ((J7 M).1.d8) (fun hH117 => ?_)
   clear hK K hH110
   (try simp only [Act.put, List.setIfInBounds_toArray, List.set_cons_zero, List.set_cons_succ])
   refine wpAnyH_ready (rs := [3]) (by kernel_rfl) (by simp) ?_
   refine AllReadyH.cons at3 (fun K hK => ?_) AllReadyH.nil
   go_simp
   refine nmW (α := Rat) (q115 / r) fun q122 eq122 => ?_
   refine (fqDiv (G := G) (q := q115) (r := r) (Nat.le_trans hG (J9 M).size) (M.out.1) (H3.out.keep (J9 M)) (Fz.mono Sq115.out (by omega)) (Fz.mono HR.out (by omega)) HNr.out).mono ?_
   rintro e w11 ⟨x_118, x_119, x_120, x_121, rfl, hd123, hb⟩
   rw [← eq122] at hd123
   have Sq122 : Hid (Fz q122 17179869188) := by show Fz q122 17179869188; rw [eq122]; exact (Fz.div Sq115.out HR.out HNr.out)
   have Eq122 := Lib.hid eq122; clear eq122
   replace M := adM hd123 hb M
   clear hb hd123
   (try go_wp2_with fail)
   refine hK.out _ _ ((J8 M).1.d8) (fun hH124 => ?_)
   clear hK K hH117
   (try simp only [Act.put, List.setIfInBounds_toArray, List.set_cons_zero, List.set_cons_succ])
   refine tk at4 ?_
   refine tk at5 ?_
   refine tk at6 ?_
   refine wpAnyH_ready (rs := [8]) (by kernel_rfl) (by simp) ?_
   refine AllReadyH.cons at8 (fun K hK => ?_) AllReadyH.nil
   refine cj8 (J2 M).1.c4 fun bo bp bq br bs bt bu bv => ?_
   refine cj4 (TQ.st (M.out.1)) fun cf cg ch ci => ?_
   go_simp
   clear bo bp bq br bs bt bu bv cf cg ch ci
   have hz : w.heap.size ≤ w8.heap.size := by omega
   refine st4W (x_118) (x_119) (x_120) (x_121) (J2 M).1 (J10 M) hz fun w12 hv og hk hbw => ?_
   rw [← hv]
   replace M := Lib.hid (aI ((M.out.1).far (J2 M).1 (by rfl) (by omega) og) (aI ((J1 M).1.far (J2 M).1 (by rfl) (by omega) og) (aI hk (aI ((J3 M).1.only og (by omega)) (aI ((J4 M).1.far (J2 M).1 (by rfl) (by omega) og) (aI ((J5 M).1.far (J2 M).1 (by rfl) (by omega) og) (aI ((J6 M).1.far (J2 M).1 (by rfl) (by omega) og) (aI ((J7 M).1.only og (by omega)) (aI ((J8 M).1.only og (by omega)) (aI ((J9 M).1.only og (by omega)) hbw))))))))))
   clear hk hbw og hv hz
   refine hK.out _ _ ((J8 M).1.d8) (fun hH125 => ?_)
   clear hK K hH124
   (try simp only [Act.put, List.setIfInBounds_toArray, List.set_cons_zero, List.set_cons_succ])
   refine tk at9 ?_
   refine wpAnyH_done (by kernel_rfl) ?_ _
   clear hH125
   go_wp2_with fail
   go_meet
   exact ⟨w8.heap.size, x_111, x_112, x_113, x_114, q115, x_118, x_119, x_120, x_121, q122, rfl, rfl, Eq115, Eq122, Sq115, Sq122, (by omega), (J2 M).1, (M.out.1), (J1 M).1, (J4 M).1, (J5 M).1, (J6 M).1, (J7 M).1, (J8 M).1, (J9 M).1, (J3 M).1, (J10 M)⟩
  case rest =>
   obtain ⟨A83, x_71, x_72, x_73, x_74, q75, x_77, x_78, x_79, x_80, q81, rfl, rfl, Eq75, Eq81, Sq75, Sq81, oA83, M⟩ := hcut
   obtain ⟨w8, rfl⟩ : ∃ w_ : World, w_ = wc := ⟨_, rfl⟩
   refine cj8 (J6 M).1.d8 fun aa ab ac ad ae af ag ah => ?_
   refine cj4 (J9 M).1.d4 fun ar av ax az => ?_
   refine cj4 (M.out.1).d4 fun bo bq bs bu => ?_
   go_wp2_with fail
   clear aa ab ac ad ae af ag ah ar av ax az bo bq bs bu
   refine (spMul_q (G := G) (p := p) (q := q) (r := q26) (s := q81) (lo := lo) (hi := hi) (Nat.le_trans hG (J10 M).size) (H1.out.keep (J10 M)) (H2.out.keep (J10 M)) (J3 M).1 (J1 M).1 (Fz.mono HP.out (by omega)) (Fz.mono HQ.out (by omega)) (Fz.mono Sq26.out (by omega)) (Fz.mono Sq81.out (by omega)) HAA.out (by rw [Eq81.out, Eq75.out, Eq26.out, Eq20.out]; exact HIV.out) (by rw [Eq81.out, Eq75.out, Eq26.out, Eq20.out]; exact HLO.out) (by rw [Eq81.out, Eq75.out, Eq26.out, Eq20.out]; exact HHI.out)).mono ?_
   rintro e w9 ⟨x_126, x_127, x_128, x_129, x_130, x_131, x_132, x_133, rfl, hd134, hd135, hb⟩
   replace M := ad2M hd134 hd135 hb M
   clear hb hd134 hd135
   refine cj16 (J10 M).1.c8 fun cj ck cl cm cn co cp cq cr cs ct cu cv cw cx cy => ?_
   refine cj4 (TQ.st (M.out.1)) fun cz da db dc => ?_
   refine cj4 (TQ.st (J1 M).1) fun dd de df dg => ?_
   go_wp2_with fail
   clear cj ck cl cm cn co cp cq cr cs ct cu cv cw cx cy cz da db dc dd de df dg
   have hz : w.heap.size ≤ w.heap.size + 1 + 1 := by omega
   refine st8W (x_126) (x_127) (x_128) (x_129) (x_130) (x_131) (x_132) (x_133) (J10 M).1 (J12 M) hz fun w10 hv og hk hbw => ?_
   rw [← hv]
   replace M := Lib.hid (aI ((M.out.1).far (J10 M).1 (by rfl) (by omega) og) (aI ((J1 M).1.far (J10 M).1 (by rfl) (by omega) og) (aI ((J2 M).1.only og (by omega)) (aI ((J3 M).1.far (J10 M).1 (by rfl) (by omega) og) (aI ((J4 M).1.far (J10 M).1 (by rfl) (by omega) og) (aI ((J5 M).1.far (J10 M).1 (by rfl) (by omega) og) (aI ((J6 M).1.far (J10 M).1 (by rfl) (by omega) og) (aI ((J7 M).1.far (J10 M).1 (by rfl) (by omega) og) (aI ((J8 M).1.only og (by omega)) (aI ((J9 M).1.only og (by omega)) (aI hk (aI ((J11 M).1.only og (by omega)) hbw))))))))))))
   clear hk hbw og hv hz
   refine bodyPost_ret (results_box2 rfl _ _ (w.heap.size + 1 + 1) 28 _ _ _ rfl (J10 M).1 Tryz.underlying28 rfl (by kernel_rfl)) rfl ?_
   exact ⟨x_126, x_127, x_128, x_129, x_130, x_131, x_132, x_133, rfl, (M.out.1), (J1 M).1, (J12 M)⟩
end Go.Proofs.YtjbfngjlepafgaaGreat
namespace Go.Proofs.YtjbfngjlepafgaaGreat
open Go.RowKit Go.Lib
variable {G : Nat}

def foldM (q0 : Rat) (l : List Rat) : Rat := l.foldl minQ q0
def foldX (q0 : Rat) (l : List Rat) : Rat := l.foldl maxQ q0
theorem foldM_next {q0 m : Rat} {l : List Rat} {k : Nat} (h : k < l.length) (hm : foldM q0 (l.take k) = m) : foldM q0 (l.take (k + 1)) = minQ m l[k] := by
 unfold foldM at *; rw [List.take_succ_eq_append_getElem h, List.foldl_append, hm]; rfl
theorem foldX_next {q0 m : Rat} {l : List Rat} {k : Nat} (h : k < l.length) (hm : foldX q0 (l.take k) = m) : foldX q0 (l.take (k + 1)) = maxQ m l[k] := by
 unfold foldX at *; rw [List.take_succ_eq_append_getElem h, List.foldl_append, hm]; rfl
theorem foldM_all {l : List Rat} (h : 0 < l.length) : foldM l[0] l = minL l := by
 cases l with
 | nil => simp at h
 | cons x r =>
  show List.foldl minQ x (x :: r) = List.foldl minQ x r
  rw [List.foldl_cons]; congr 1; unfold minQ; split <;> rfl
theorem foldX_all {l : List Rat} (h : 0 < l.length) : foldX l[0] l = maxL l := by
 cases l with
 | nil => simp at h
 | cons x r =>
  show List.foldl maxQ x (x :: r) = List.foldl maxQ x r
  rw [List.foldl_cons]; congr 1; unfold maxQ; split <;> rfl
set_option maxRecDepth 100000 in
set_option maxHeartbeats 4000000 in
theorem rsRight_q {u0 u1 u2 u3 u4 u5 u6 u7 : Value} {p q : Rat} {b_ : Bool} {w : World} (h1 : FQ G w u0 u1 u2 u3 p) (h2 : FQ G w u4 u5 u6 u7 q) (hx : Fz p 137438953472) (hy : Fz q 137438953472) (hb : decide (p ≤ q) = b_) :
  Calls Tryz.prog 15 #[.agg #[u0, u1, u2, u3, u4, u5, u6, u7]] w fun e w' => e = .returned (.bool b_) ∧ Below w.heap.size w w' := by
 have HX := Lib.hid hx; have HY := Lib.hid hy; clear hx hy
 obtain ⟨k1, hk1⟩ : ∃ k, ordQ p q = k := ⟨_, rfl⟩
 obtain ⟨b1, hb1⟩ : ∃ b, decide (p ≤ q) = b := ⟨_, rfl⟩
 have hd1 : decide (k1 ≤ 0) = b1 := by rw [← hb1, ← hk1]; exact ordQ_le0 p q
 have Hk1 := Lib.hid hk1; have HB1 := Lib.hid hb1; clear hk1 hb1
 rw [HB1.out] at hb; subst hb
 have H1 : Hid (FQ G w u0 u1 u2 u3 p) := h1
 have H2 : Hid (FQ G w u4 u5 u6 u7 q) := h2
 clear h1 h2
 have M : Hid (Below w.heap.size w w) := Below.refl _ _
 go_enter Tryz.func15, Tryz.ntmps15
 go_upto_region 1 with fail
 refine nmW (w.alloc (.cells #[u0, u1, u2, u3, u4, u5, u6, u7] 28)) fun w1 hv => ?_
 rw [← hv]
 replace M := alM hv M
 clear hv
 refine cj8 (M.out.1).d8 fun aa ab ac ad ae af ag ah => ?_
 go_wp2_with fail
 clear aa ab ac ad ae af ag ah
 refine (rqRight (G := G) (q := p) (H1.out.keep (J1 M)) (Fz.mono HX.out (by omega))).mono ?_
 rintro e w2 ⟨rfl, hb⟩
 replace M := gnM hb M
 clear hb
 refine cj8 (M.out.1).d8 fun aa ab ac ad ae af ag ah => ?_
 go_wp2_with fail
 clear aa ab ac ad ae af ag ah
 refine (rqRight (G := G) (q := q) (H2.out.keep (J1 M)) (Fz.mono HY.out (by omega))).mono ?_
 rintro e w3 ⟨rfl, hb⟩
 replace M := gnM hb M
 clear hb
 refine cj8 (M.out.1).d8 fun aa ab ac ad ae af ag ah => ?_
 go_wp2_with fail
 clear aa ab ac ad ae af ag ah
 refine (rqCompare (G := G) (q := p) (r := q) (k := k1) (H1.out.keep (J1 M)) (H2.out.keep (J1 M)) HX.out HY.out Hk1.out).mono ?_
 rintro e w4 ⟨rfl, hb⟩
 replace M := gnM hb M
 clear hb
 go_wp2_with fail
 go_ret
 exact ⟨rfl, (J1 M)⟩
set_option maxRecDepth 100000 in
set_option maxHeartbeats 4000000 in
theorem rsHas_q {u0 u1 u2 u3 u4 u5 u6 u7 v0 v1 v2 v3 : Value} {p q x : Rat} {b_ : Bool} {w : World} (_hG : G ≤ w.heap.size) (h1 : FQ G w u0 u1 u2 u3 p) (h2 : FQ G w u4 u5 u6 u7 q) (hp : Fz p 137438953472) (hq : Fz q 137438953472) (ha : p ≤ q) (h3 : FQ G w v0 v1 v2 v3 x) (hx : Fz x 137438953472) (hb : (decide (p ≤ x) && decide (x ≤ q)) = b_) :
  Calls Tryz.prog 20 #[.agg #[u0, u1, u2, u3, u4, u5, u6, u7], .agg #[v0, v1, v2, v3]] w fun e w' => e = .returned (.bool b_) ∧ Below w.heap.size w w' := by
 have HP := Lib.hid hp; have HQ := Lib.hid hq; have HA := Lib.hid (decide_eq_true ha); have HAA := Lib.hid ha; clear hp hq ha
 have HX := Lib.hid hx; clear hx
 obtain ⟨k1, hk1⟩ : ∃ k, ordQ p x = k := ⟨_, rfl⟩
 obtain ⟨b1, hb1⟩ : ∃ b, decide (p ≤ x) = b := ⟨_, rfl⟩
 have hd1 : decide (k1 ≤ 0) = b1 := by rw [← hb1, ← hk1]; exact ordQ_le0 p x
 have Hk1 := Lib.hid hk1; have HB1 := Lib.hid hb1; clear hk1 hb1
 obtain ⟨k2, hk2⟩ : ∃ k, ordQ x q = k := ⟨_, rfl⟩
 obtain ⟨b2, hb2⟩ : ∃ b, decide (x ≤ q) = b := ⟨_, rfl⟩
 have hd2 : decide (k2 ≤ 0) = b2 := by rw [← hb2, ← hk2]; exact ordQ_le0 x q
 have Hk2 := Lib.hid hk2; have HB2 := Lib.hid hb2; clear hk2 hb2
 rw [HB1.out, HB2.out] at hb; subst hb
 have H1 : Hid (FQ G w u0 u1 u2 u3 p) := h1
 have H2 : Hid (FQ G w u4 u5 u6 u7 q) := h2
 have H3 : Hid (FQ G w v0 v1 v2 v3 x) := h3
 clear h1 h2 h3
 have M : Hid (Below w.heap.size w w) := Below.refl _ _
 go_enter Tryz.func20, Tryz.ntmps20
 go_upto_region 1 with fail
 refine nmW ((w.alloc (.cells #[u0, u1, u2, u3, u4, u5, u6, u7] 28)).alloc (.cells #[v0, v1, v2, v3] 26)) fun w1 hv => ?_
 rw [← hv]
 replace M := al2W hv M
 clear hv
 refine cj8 (J1 M).1.d8 fun aa ab ac ad ae af ag ah => ?_
 go_wp2_with fail
 clear aa ab ac ad ae af ag ah
 refine (rsRight_q (G := G) (p := p) (q := q) (b_ := true) (H1.out.keep (J2 M)) (H2.out.keep (J2 M)) HP.out HQ.out HA.out).mono ?_
 rintro e w2 ⟨rfl, hb⟩
 replace M := gnM hb M
 clear hb
 refine cj4 (M.out.1).d4 fun ai aj ak al => ?_
 go_wp2_with fail
 clear ai aj ak al
 refine (rqRight (G := G) (q := x) (H3.out.keep (J2 M)) (Fz.mono HX.out (by omega))).mono ?_
 rintro e w3 ⟨rfl, hb⟩
 replace M := gnM hb M
 clear hb
 refine cj8 (J1 M).1.d8 fun aa ab ac ad ae af ag ah => ?_
 refine cj4 (M.out.1).d4 fun ai aj ak al => ?_
 go_wp2_with fail
 clear aa ab ac ad ae af ag ah ai aj ak al
 refine (rqCompare (G := G) (q := p) (r := x) (k := k1) (H1.out.keep (J2 M)) (H3.out.keep (J2 M)) HP.out HX.out Hk1.out).mono ?_
 rintro e w4 ⟨rfl, hb⟩
 replace M := gnM hb M
 clear hb
 cases b1 with
 | false =>
  go_wp2_with fail
  go_ret
  exact ⟨rfl, (J2 M)⟩
 | true =>
  refine cj4 (M.out.1).d4 fun ai aj ak al => ?_
  refine cj8 (J1 M).1.d8 fun aa ab ac ad ae af ag ah => ?_
  go_wp2_with fail
  clear ai aj ak al aa ab ac ad ae af ag ah
  refine (rqCompare (G := G) (q := x) (r := q) (k := k2) (H3.out.keep (J2 M)) (H2.out.keep (J2 M)) HX.out HQ.out Hk2.out).mono ?_
  rintro e w5 ⟨rfl, hb⟩
  replace M := gnM hb M
  clear hb
  go_wp2_with fail
  go_ret
  exact ⟨rfl, (J2 M)⟩
theorem ins_has {p q r s : Rat} (h : p ≤ q) (_h' : r ≤ s) : (decide (r ≤ p) && decide (q ≤ s)) = ((decide (r ≤ p) && decide (p ≤ s)) && (decide (r ≤ q) && decide (q ≤ s))) := by
 rw [Bool.eq_iff_iff]; simp only [Bool.and_eq_true, decide_eq_true_eq]; grind
set_option maxRecDepth 100000 in
set_option maxHeartbeats 4000000 in
theorem rsNeg_q {u0 u1 u2 u3 u4 u5 u6 u7 : Value} {p q : Rat} {w : World} (hG : G ≤ w.heap.size) (h1 : FQ G w u0 u1 u2 u3 p) (h2 : FQ G w u4 u5 u6 u7 q) (hp : Fz p 34359738368) (hq : Fz q 34359738368) (ha : p ≤ q)  :
  Calls Tryz.prog 27 #[.agg #[u0, u1, u2, u3, u4, u5, u6, u7]] w fun e w' => ∃ x0 x1 x2 x3 x4 x5 x6 x7, e = .returned (.agg #[x0, x1, x2, x3, x4, x5, x6, x7]) ∧ FQ G w' x0 x1 x2 x3 (-q) ∧ FQ G w' x4 x5 x6 x7 (-p) ∧ Below w.heap.size w w' := by
 have HP := Lib.hid hp; have HQ := Lib.hid hq; have HA := Lib.hid (decide_eq_true ha); have HAA := Lib.hid ha; clear hp hq ha
 have H1 : Hid (FQ G w u0 u1 u2 u3 p) := h1
 have H2 : Hid (FQ G w u4 u5 u6 u7 q) := h2
 clear h1 h2
 have M : Hid (Below w.heap.size w w) := Below.refl _ _
 go_enter Tryz.func27, Tryz.ntmps27
 go_upto_region 1 with fail
 refine nmW ((w.alloc (.cells #[u0, u1, u2, u3, u4, u5, u6, u7] 28)).alloc (.cells #[.int .i64 0, .slice none 0 0, .int .i64 0, .slice none 0 0, .int .i64 0, .slice none 0 0, .int .i64 0, .slice none 0 0] 28)) fun w1 hv => ?_
 rw [← hv]
 replace M := al2W hv M
 clear hv
 refine cj8 (J1 M).1.d8 fun aa ab ac ad ae af ag ah => ?_
 go_wp2_with fail
 clear aa ab ac ad ae af ag ah
 refine (rsRight_q (G := G) (p := p) (q := q) (b_ := true) (H1.out.keep (J2 M)) (H2.out.keep (J2 M)) (Fz.mono HP.out (by omega)) (Fz.mono HQ.out (by omega)) HA.out).mono ?_
 rintro e w2 ⟨rfl, hb⟩
 replace M := gnM hb M
 clear hb
 go_wp2_with fail
 refine nmW w2.drew fun w3 hv => ?_
 replace M := drM hv M
 refine wp_region_held_drew (S := (fun w' => w'.cell? ⟨w.heap.size, 0, none⟩ = some (u0) ∧ w'.cell? ⟨w.heap.size, 1, none⟩ = some (u1) ∧ w'.cell? ⟨w.heap.size, 2, none⟩ = some (u2) ∧ w'.cell? ⟨w.heap.size, 3, none⟩ = some (u3) ∧ w'.cell? ⟨w.heap.size, 4, none⟩ = some (u4) ∧ w'.cell? ⟨w.heap.size, 5, none⟩ = some (u5) ∧ w'.cell? ⟨w.heap.size, 6, none⟩ = some (u6) ∧ w'.cell? ⟨w.heap.size, 7, none⟩ = some (u7))) (by kernel_rfl) (by rw [← hv]; exact (J1 M).1.d8) (fun hH13 => ?_)
 rw [← hv] at hH13 ⊢
 clear hv
 refine tk at0 ?_
 refine tk at1 ?_
 refine tk at3 ?_
 refine tk at4 ?_
 refine wpAnyH_ready (rs := [2]) (by kernel_rfl) (by simp) ?_
 refine AllReadyH.cons at2 (fun K hK => ?_) AllReadyH.nil
 go_simp
 refine nmW (α := Rat) (-q) fun q18 eq18 => ?_
 refine (rqNeg (G := G) (q := q) (Nat.le_trans hG (J2 M).size) (H2.out.keep (J2 M)) (Fz.mono HQ.out (by omega))).mono ?_
 rintro e w4 ⟨x_14, x_15, x_16, x_17, rfl, hd19, hb⟩
 rw [← eq18] at hd19
 have Sq18 : Hid (Fz q18 34359738368) := by show Fz q18 34359738368; rw [eq18]; exact (Fz.neg HQ.out)
 have Eq18 := Lib.hid eq18; clear eq18
 replace M := adM hd19 hb M
 clear hb hd19
 (try go_wp2_with fail)
 refine hK.out _ _ ((J2 M).1.d8) (fun hH20 => ?_)
 clear hK K hH13
 (try simp only [Act.put, List.setIfInBounds_toArray, List.set_cons_zero, List.set_cons_succ])
 refine wpAnyH_ready (rs := [5]) (by kernel_rfl) (by simp) ?_
 refine AllReadyH.cons at5 (fun K hK => ?_) AllReadyH.nil
 go_simp
 refine nmW (α := Rat) (-p) fun q25 eq25 => ?_
 refine (rqNeg (G := G) (q := p) (Nat.le_trans hG (J3 M).size) (H1.out.keep (J3 M)) (Fz.mono HP.out (by omega))).mono ?_
 rintro e w5 ⟨x_21, x_22, x_23, x_24, rfl, hd26, hb⟩
 rw [← eq25] at hd26
 have Sq25 : Hid (Fz q25 34359738368) := by show Fz q25 34359738368; rw [eq25]; exact (Fz.neg HP.out)
 have Eq25 := Lib.hid eq25; clear eq25
 replace M := adM hd26 hb M
 clear hb hd26
 (try go_wp2_with fail)
 refine hK.out _ _ ((J3 M).1.d8) (fun hH27 => ?_)
 clear hK K hH20
 (try simp only [Act.put, List.setIfInBounds_toArray, List.set_cons_zero, List.set_cons_succ])
 refine tk at6 ?_
 refine wpAnyH_ready (rs := [7]) (by kernel_rfl) (by simp) ?_
 refine AllReadyH.cons at7 (fun K hK => ?_) AllReadyH.nil
 refine cj16 (J2 M).1.c8 fun ai aj ak al am ao ap aq ar au av aw ax ay az ba => ?_
 refine cj4 (TQ.st (J1 M).1) fun bb bc bd bf => ?_
 refine cj4 (TQ.st (M.out.1)) fun bg bh bi bj => ?_
 go_simp
 clear ai aj ak al am ao ap aq ar au av aw ax ay az ba bb bc bd bf bg bh bi bj
 have hz : w.heap.size ≤ w.heap.size + 1 := by omega
 refine st8W (x_14) (x_15) (x_16) (x_17) (x_21) (x_22) (x_23) (x_24) (J2 M).1 (J4 M) hz fun w6 hv og hk hbw => ?_
 rw [← hv]
 replace M := Lib.hid (aI ((M.out.1).far (J2 M).1 (by rfl) (by omega) og) (aI ((J1 M).1.far (J2 M).1 (by rfl) (by omega) og) (aI hk (aI ((J3 M).1.only og (by omega)) hbw))))
 clear hk hbw og hv hz
 refine hK.out _ _ ((J3 M).1.d8) (fun hH28 => ?_)
 clear hK K hH27
 (try simp only [Act.put, List.setIfInBounds_toArray, List.set_cons_zero, List.set_cons_succ])
 refine wpAnyH_done (by kernel_rfl) ?_ _
 clear hH28
 go_wp2_with fail
 refine bodyPost_ret (results_box1 rfl _ _ (w.heap.size + 1) 28 _ _ _ rfl (J2 M).1 Tryz.underlying28 rfl (by kernel_rfl)) rfl ?_
 exact ⟨x_14, x_15, x_16, x_17, x_21, x_22, x_23, x_24, rfl, (by have h_ := (J1 M).1; rw [Eq18.out] at h_; exact h_), (by have h_ := (M.out.1); rw [Eq25.out] at h_; exact h_), (J4 M)⟩
set_option maxRecDepth 100000 in
set_option maxHeartbeats 4000000 in
theorem rsWidth_q {u0 u1 u2 u3 u4 u5 u6 u7 : Value} {p q : Rat} {w : World} (_hG : G ≤ w.heap.size) (h1 : FQ G w u0 u1 u2 u3 p) (h2 : FQ G w u4 u5 u6 u7 q) (hp : Fz p 34359738368) (hq : Fz q 34359738368) (ha : p ≤ q)  :
  Calls Tryz.prog 25 #[.agg #[u0, u1, u2, u3, u4, u5, u6, u7]] w fun e w' => ∃ x0 x1 x2 x3, e = .returned (.agg #[x0, x1, x2, x3]) ∧ FQ G w' x0 x1 x2 x3 (q - p) ∧ Below w.heap.size w w' := by
 have HP := Lib.hid hp; have HQ := Lib.hid hq; have HA := Lib.hid (decide_eq_true ha); have HAA := Lib.hid ha; clear hp hq ha
 have H1 : Hid (FQ G w u0 u1 u2 u3 p) := h1
 have H2 : Hid (FQ G w u4 u5 u6 u7 q) := h2
 clear h1 h2
 have M : Hid (Below w.heap.size w w) := Below.refl _ _
 go_enter Tryz.func25, Tryz.ntmps25
 go_upto_region 1 with fail
 refine nmW ((w.alloc (.cells #[u0, u1, u2, u3, u4, u5, u6, u7] 28)).alloc (.cells #[.int .i64 0, .slice none 0 0, .int .i64 0, .slice none 0 0] 26)) fun w1 hv => ?_
 rw [← hv]
 replace M := al2W hv M
 clear hv
 refine cj8 (J1 M).1.d8 fun aa ab ac ad ae af ag ah => ?_
 go_wp2_with fail
 clear aa ab ac ad ae af ag ah
 refine (rsRight_q (G := G) (p := p) (q := q) (b_ := true) (H1.out.keep (J2 M)) (H2.out.keep (J2 M)) (Fz.mono HP.out (by omega)) (Fz.mono HQ.out (by omega)) HA.out).mono ?_
 rintro e w2 ⟨rfl, hb⟩
 replace M := gnM hb M
 clear hb
 refine cj8 (J1 M).1.d8 fun aa ab ac ad ae af ag ah => ?_
 go_wp2_with fail
 clear aa ab ac ad ae af ag ah
 refine nmW (α := Rat) (q - p) fun q5 eq5 => ?_
 refine (rqSub (G := G) (q := q) (r := p) (H2.out.keep (J2 M)) (H1.out.keep (J2 M)) (Fz.mono HQ.out (by omega)) (Fz.mono HP.out (by omega))).mono ?_
 rintro e w3 ⟨x_1, x_2, x_3, x_4, rfl, hd6, hb⟩
 rw [← eq5] at hd6
 have Sq5 : Hid (Fz q5 68719476737) := by show Fz q5 68719476737; rw [eq5]; exact (Fz.sub HQ.out HP.out)
 have Eq5 := Lib.hid eq5; clear eq5
 replace M := adM hd6 hb M
 clear hb hd6
 refine cj4 (TQ.st (M.out.1)) fun ai aj ak al => ?_
 go_upto_region 4 with fail
 clear ai aj ak al
 refine nmW (w3.alloc (.cells #[x_1, x_2, x_3, x_4] 26)) fun w4 hv => ?_
 rw [← hv]
 have ow2_ : w.heap.size + 1 < w3.heap.size := ((J1 M).1).lt
 replace M := alM hv M
 clear hv
 refine cj4 (M.out.1).d4 fun am ao ap aq => ?_
 refine cj8 (J2 M).1.c4 fun ar au av aw ax ay az ba => ?_
 refine cj4 (TQ.st (J1 M).1) fun ai aj ak al => ?_
 go_wp2_with fail
 clear am ao ap aq ar au av aw ax ay az ba ai aj ak al
 have hz : w.heap.size ≤ w.heap.size + 1 := by omega
 refine st4W (x_1) (x_2) (x_3) (x_4) (J2 M).1 (J4 M) hz fun w5 hv og hk hbw => ?_
 rw [← hv]
 replace M := Lib.hid (aI ((M.out.1).only og (by omega)) (aI ((J1 M).1.far (J2 M).1 (by rfl) (by omega) og) (aI hk (aI ((J3 M).1.only og (by omega)) hbw))))
 clear hk hbw og hv hz
 refine bodyPost_ret (results_box1 rfl _ _ (w.heap.size + 1) 26 _ _ _ rfl (J2 M).1 Tryz.underlying26 rfl (by kernel_rfl)) rfl ?_
 exact ⟨x_1, x_2, x_3, x_4, rfl, (by have h_ := (J1 M).1; rw [Eq5.out] at h_; exact h_), (J4 M)⟩
set_option maxRecDepth 100000 in
set_option maxHeartbeats 4000000 in
theorem rsPoint_q {u0 u1 u2 u3 : Value} {q : Rat} {w : World} (_hG : G ≤ w.heap.size) (h1 : FQ G w u0 u1 u2 u3 q) (hx : Fz q 137438953472) :
  Calls Tryz.prog 18 #[.agg #[u0, u1, u2, u3]] w fun e w' => ∃ x0 x1 x2 x3 x4 x5 x6 x7, e = .returned (.agg #[x0, x1, x2, x3, x4, x5, x6, x7]) ∧ FQ G w' x0 x1 x2 x3 q ∧ FQ G w' x4 x5 x6 x7 q ∧ Below w.heap.size w w' := by
 have HX := Lib.hid hx; clear hx
 have H1 : Hid (FQ G w u0 u1 u2 u3 q) := h1
 clear h1
 have M : Hid (Below w.heap.size w w) := Below.refl _ _
 go_enter Tryz.func18, Tryz.ntmps18
 go_upto_region 1 with fail
 refine nmW ((w.alloc (.cells #[u0, u1, u2, u3] 26)).alloc (.cells #[.int .i64 0, .slice none 0 0, .int .i64 0, .slice none 0 0, .int .i64 0, .slice none 0 0, .int .i64 0, .slice none 0 0] 28)) fun w1 hv => ?_
 rw [← hv]
 replace M := al2W hv M
 clear hv
 refine cj4 (J1 M).1.d4 fun aa ab ac ad => ?_
 go_wp2_with fail
 clear aa ab ac ad
 refine (rqRight (G := G) (q := q) (H1.out.keep (J2 M)) (Fz.mono HX.out (by omega))).mono ?_
 rintro e w2 ⟨rfl, hb⟩
 replace M := gnM hb M
 clear hb
 refine cj4 (J1 M).1.d4 fun aa ab ac ad => ?_
 refine cj16 (M.out.1).c8 fun ae af ag ah ai aj ak al am ao ap aq ar au av aw => ?_
 refine cj4 (TQ.st (H1.out.keep (J2 M))) fun ax ay az ba => ?_
 go_wp2_with fail
 clear aa ab ac ad ae af ag ah ai aj ak al am ao ap aq ar au av aw ax ay az ba
 have hz : w.heap.size ≤ w.heap.size + 1 := by omega
 refine st8W (u0) (u1) (u2) (u3) (u0) (u1) (u2) (u3) (M.out.1) (J2 M) hz fun w3 hv og hk hbw => ?_
 rw [← hv]
 replace M := Lib.hid (aI hk (aI ((J1 M).1.only og (by omega)) hbw))
 clear hk hbw og hv hz
 refine bodyPost_ret (results_box1 rfl _ _ (w.heap.size + 1) 28 _ _ _ rfl (M.out.1) Tryz.underlying28 rfl (by kernel_rfl)) rfl ?_
 exact ⟨u0, u1, u2, u3, u0, u1, u2, u3, rfl, (H1.out.keep (J2 M)), (H1.out.keep (J2 M)), (J2 M)⟩
set_option maxRecDepth 100000 in
set_option maxHeartbeats 4000000 in
theorem rsMeet_q {u0 u1 u2 u3 u4 u5 u6 u7 v0 v1 v2 v3 v4 v5 v6 v7 : Value} {p q r s : Rat} {w : World} (hG : G ≤ w.heap.size) (h1 : FQ G w u0 u1 u2 u3 p) (h2 : FQ G w u4 u5 u6 u7 q) (h3 : FQ G w v0 v1 v2 v3 r) (h4 : FQ G w v4 v5 v6 v7 s) (hp : Fz p 34359738368) (hq : Fz q 34359738368) (hr : Fz r 34359738368) (hs : Fz s 34359738368) (ha : p ≤ q) (hb : r ≤ s) (hm : ¬ minQ q s < maxQ p r)  :
  Calls Tryz.prog 13 #[.agg #[u0, u1, u2, u3, u4, u5, u6, u7], .agg #[v0, v1, v2, v3, v4, v5, v6, v7]] w fun e w' => ∃ x0 x1 x2 x3 x4 x5 x6 x7, e = .returned (.tuple #[.agg #[x0, x1, x2, x3, x4, x5, x6, x7], .bool true]) ∧ FQ G w' x0 x1 x2 x3 (maxQ p r) ∧ FQ G w' x4 x5 x6 x7 (minQ q s) ∧ Below w.heap.size w w' := by
 have HP := Lib.hid hp; have HQ := Lib.hid hq; have HR := Lib.hid hr; have HS := Lib.hid hs; have HA := Lib.hid (decide_eq_true ha); have HB := Lib.hid (decide_eq_true hb); have HAA := Lib.hid ha; have HBB := Lib.hid hb; clear hp hq hr hs ha hb
 obtain ⟨k1, hk1⟩ : ∃ k, ordQ (maxQ p r) (minQ q s) = k := ⟨_, rfl⟩
 have hd1 : decide (0 < k1) = false := by rw [← hk1, ordQ_gt0]; exact decide_eq_false hm
 have HK1 := Lib.hid hk1; clear hk1 hm
 have H1 : Hid (FQ G w u0 u1 u2 u3 p) := h1
 have H2 : Hid (FQ G w u4 u5 u6 u7 q) := h2
 have H3 : Hid (FQ G w v0 v1 v2 v3 r) := h3
 have H4 : Hid (FQ G w v4 v5 v6 v7 s) := h4
 clear h1 h2 h3 h4
 have M : Hid (Below w.heap.size w w) := Below.refl _ _
 go_enter Tryz.func13, Tryz.ntmps13
 go_upto_region 1 with fail
 refine nmW (((w.alloc (.cells #[u0, u1, u2, u3, u4, u5, u6, u7] 28)).alloc (.cells #[v0, v1, v2, v3, v4, v5, v6, v7] 28)).alloc (.cells #[.int .i64 0, .slice none 0 0, .int .i64 0, .slice none 0 0, .int .i64 0, .slice none 0 0, .int .i64 0, .slice none 0 0] 28)) fun w1 hv => ?_
 rw [← hv]
 replace M := al3W hv M
 clear hv
 refine cj8 (J2 M).1.d8 fun aa ab ac ad ae af ag ah => ?_
 go_wp2_with fail
 clear aa ab ac ad ae af ag ah
 refine (rsRight_q (G := G) (p := p) (q := q) (b_ := true) (H1.out.keep (J3 M)) (H2.out.keep (J3 M)) (Fz.mono HP.out (by omega)) (Fz.mono HQ.out (by omega)) HA.out).mono ?_
 rintro e w2 ⟨rfl, hb⟩
 replace M := gnM hb M
 clear hb
 refine cj8 (J1 M).1.d8 fun ai aj ak al am ao ap aq => ?_
 go_wp2_with fail
 clear ai aj ak al am ao ap aq
 refine (rsRight_q (G := G) (p := r) (q := s) (b_ := true) (H3.out.keep (J3 M)) (H4.out.keep (J3 M)) (Fz.mono HR.out (by omega)) (Fz.mono HS.out (by omega)) HB.out).mono ?_
 rintro e w3 ⟨rfl, hb⟩
 replace M := gnM hb M
 clear hb
 refine cj8 (J2 M).1.d8 fun aa ab ac ad ae af ag ah => ?_
 refine cj8 (J1 M).1.d8 fun ai aj ak al am ao ap aq => ?_
 go_wp2_with fail
 clear aa ab ac ad ae af ag ah ai aj ak al am ao ap aq
 refine (rqMax (G := G) (q := p) (r := r) (m := (maxQ p r)) (Nat.le_trans hG (J3 M).size) (H1.out.keep (J3 M)) (H3.out.keep (J3 M)) (Fz.mono HP.out (by omega)) (Fz.mono HR.out (by omega)) rfl).mono ?_
 rintro e w4 ⟨x_1, x_2, x_3, x_4, rfl, hd5, hb⟩
 replace M := adM hd5 hb M
 clear hb hd5
 refine cj4 (TQ.st (M.out.1)) fun ar au av aw => ?_
 go_upto_region 4 with fail
 clear ar au av aw
 refine nmW (w4.alloc (.cells #[x_1, x_2, x_3, x_4] 26)) fun w5 hv => ?_
 rw [← hv]
 have ow3_ : w.heap.size + 1 + 1 < w4.heap.size := ((J1 M).1).lt
 replace M := alM hv M
 clear hv
 refine cj8 (J4 M).1.d8 fun aa ab ac ad ae af ag ah => ?_
 refine cj8 (J3 M).1.d8 fun ai aj ak al am ao ap aq => ?_
 go_wp2_with fail
 clear aa ab ac ad ae af ag ah ai aj ak al am ao ap aq
 refine (rqMin (G := G) (q := q) (r := s) (m := (minQ q s)) (Nat.le_trans hG (J5 M).size) (H2.out.keep (J5 M)) (H4.out.keep (J5 M)) (Fz.mono HQ.out (by omega)) (Fz.mono HS.out (by omega)) rfl).mono ?_
 rintro e w6 ⟨x_6, x_7, x_8, x_9, rfl, hd10, hb⟩
 replace M := adM hd10 hb M
 clear hb hd10
 refine cj4 (TQ.st (M.out.1)) fun ax ay az ba => ?_
 go_upto_region 5 with fail
 clear ax ay az ba
 refine nmW (w6.alloc (.cells #[x_6, x_7, x_8, x_9] 26)) fun w7 hv => ?_
 rw [← hv]
 have ow4_ : w4.heap.size < w6.heap.size := ((J1 M).1).lt
 replace M := alM hv M
 clear hv
 refine cj4 (J2 M).1.d4 fun bb bc bd bf => ?_
 refine cj4 (M.out.1).d4 fun bg bh bi bj => ?_
 go_wp2_with fail
 clear bb bc bd bf bg bh bi bj
 refine (rqCompare (G := G) (q := (maxQ p r)) (r := (minQ q s)) (k := k1) (J3 M).1 (J1 M).1 (Fz.mono (Fz.maxQ HP.out HR.out) (by omega)) (Fz.mono (Fz.minQ HQ.out HS.out) (by omega)) (by exact HK1.out)).mono ?_
 rintro e w8 ⟨rfl, hb⟩
 replace M := gnM hb M
 clear hb
 refine cj4 (J2 M).1.d4 fun bb bc bd bf => ?_
 refine cj4 (M.out.1).d4 fun bg bh bi bj => ?_
 refine cj16 (J4 M).1.c8 fun bk bl bm bn bo bp bq br bs bt bu bv bw bx bz ca => ?_
 refine cj4 (TQ.st (J3 M).1) fun ar au av aw => ?_
 refine cj4 (TQ.st (J1 M).1) fun ax ay az ba => ?_
 go_wp2_with fail
 clear bb bc bd bf bg bh bi bj bk bl bm bn bo bp bq br bs bt bu bv bw bx bz ca ar au av aw ax ay az ba
 have hz : w.heap.size ≤ w.heap.size + 1 + 1 := by omega
 refine st8W (x_1) (x_2) (x_3) (x_4) (x_6) (x_7) (x_8) (x_9) (J4 M).1 (J7 M) hz fun w9 hv og hk hbw => ?_
 rw [← hv]
 replace M := Lib.hid (aI ((M.out.1).only og (by omega)) (aI ((J1 M).1.far (J4 M).1 (by rfl) (by omega) og) (aI ((J2 M).1.only og (by omega)) (aI ((J3 M).1.far (J4 M).1 (by rfl) (by omega) og) (aI hk (aI ((J5 M).1.only og (by omega)) (aI ((J6 M).1.only og (by omega)) hbw)))))))
 clear hk hbw og hv hz
 refine bodyPost_ret (results_box2 rfl _ _ (w.heap.size + 1 + 1) 28 _ _ _ rfl (J4 M).1 Tryz.underlying28 rfl (by kernel_rfl)) rfl ?_
 exact ⟨x_1, x_2, x_3, x_4, x_6, x_7, x_8, x_9, rfl, (J3 M).1, (J1 M).1, (J7 M)⟩
set_option maxRecDepth 100000 in
set_option maxHeartbeats 4000000 in
theorem rsMeet_none {u0 u1 u2 u3 u4 u5 u6 u7 v0 v1 v2 v3 v4 v5 v6 v7 : Value} {p q r s : Rat} {w : World} (hG : G ≤ w.heap.size) (h1 : FQ G w u0 u1 u2 u3 p) (h2 : FQ G w u4 u5 u6 u7 q) (h3 : FQ G w v0 v1 v2 v3 r) (h4 : FQ G w v4 v5 v6 v7 s) (hp : Fz p 34359738368) (hq : Fz q 34359738368) (hr : Fz r 34359738368) (hs : Fz s 34359738368) (ha : p ≤ q) (hb : r ≤ s) (hm : minQ q s < maxQ p r)  :
  Calls Tryz.prog 13 #[.agg #[u0, u1, u2, u3, u4, u5, u6, u7], .agg #[v0, v1, v2, v3, v4, v5, v6, v7]] w fun e w' => e = .returned (.tuple #[.agg #[.int .i64 0, .slice none 0 0, .int .i64 0, .slice none 0 0, .int .i64 0, .slice none 0 0, .int .i64 0, .slice none 0 0], .bool false]) ∧ Below w.heap.size w w' := by
 have HP := Lib.hid hp; have HQ := Lib.hid hq; have HR := Lib.hid hr; have HS := Lib.hid hs; have HA := Lib.hid (decide_eq_true ha); have HB := Lib.hid (decide_eq_true hb); have HAA := Lib.hid ha; have HBB := Lib.hid hb; clear hp hq hr hs ha hb
 obtain ⟨k1, hk1⟩ : ∃ k, ordQ (maxQ p r) (minQ q s) = k := ⟨_, rfl⟩
 have hd1 : decide (0 < k1) = true := by rw [← hk1, ordQ_gt0]; exact decide_eq_true hm
 have HK1 := Lib.hid hk1; clear hk1 hm
 have H1 : Hid (FQ G w u0 u1 u2 u3 p) := h1
 have H2 : Hid (FQ G w u4 u5 u6 u7 q) := h2
 have H3 : Hid (FQ G w v0 v1 v2 v3 r) := h3
 have H4 : Hid (FQ G w v4 v5 v6 v7 s) := h4
 clear h1 h2 h3 h4
 have M : Hid (Below w.heap.size w w) := Below.refl _ _
 go_enter Tryz.func13, Tryz.ntmps13
 go_upto_region 1 with fail
 refine nmW (((w.alloc (.cells #[u0, u1, u2, u3, u4, u5, u6, u7] 28)).alloc (.cells #[v0, v1, v2, v3, v4, v5, v6, v7] 28)).alloc (.cells #[.int .i64 0, .slice none 0 0, .int .i64 0, .slice none 0 0, .int .i64 0, .slice none 0 0, .int .i64 0, .slice none 0 0] 28)) fun w1 hv => ?_
 rw [← hv]
 replace M := al3W hv M
 clear hv
 refine cj8 (J2 M).1.d8 fun aa ab ac ad ae af ag ah => ?_
 go_wp2_with fail
 clear aa ab ac ad ae af ag ah
 refine (rsRight_q (G := G) (p := p) (q := q) (b_ := true) (H1.out.keep (J3 M)) (H2.out.keep (J3 M)) (Fz.mono HP.out (by omega)) (Fz.mono HQ.out (by omega)) HA.out).mono ?_
 rintro e w2 ⟨rfl, hb⟩
 replace M := gnM hb M
 clear hb
 refine cj8 (J1 M).1.d8 fun ai aj ak al am ao ap aq => ?_
 go_wp2_with fail
 clear ai aj ak al am ao ap aq
 refine (rsRight_q (G := G) (p := r) (q := s) (b_ := true) (H3.out.keep (J3 M)) (H4.out.keep (J3 M)) (Fz.mono HR.out (by omega)) (Fz.mono HS.out (by omega)) HB.out).mono ?_
 rintro e w3 ⟨rfl, hb⟩
 replace M := gnM hb M
 clear hb
 refine cj8 (J2 M).1.d8 fun aa ab ac ad ae af ag ah => ?_
 refine cj8 (J1 M).1.d8 fun ai aj ak al am ao ap aq => ?_
 go_wp2_with fail
 clear aa ab ac ad ae af ag ah ai aj ak al am ao ap aq
 refine (rqMax (G := G) (q := p) (r := r) (m := (maxQ p r)) (Nat.le_trans hG (J3 M).size) (H1.out.keep (J3 M)) (H3.out.keep (J3 M)) (Fz.mono HP.out (by omega)) (Fz.mono HR.out (by omega)) rfl).mono ?_
 rintro e w4 ⟨x_1, x_2, x_3, x_4, rfl, hd5, hb⟩
 replace M := adM hd5 hb M
 clear hb hd5
 refine cj4 (TQ.st (M.out.1)) fun ar au av aw => ?_
 go_upto_region 4 with fail
 clear ar au av aw
 refine nmW (w4.alloc (.cells #[x_1, x_2, x_3, x_4] 26)) fun w5 hv => ?_
 rw [← hv]
 have ow3_ : w.heap.size + 1 + 1 < w4.heap.size := ((J1 M).1).lt
 replace M := alM hv M
 clear hv
 refine cj8 (J4 M).1.d8 fun aa ab ac ad ae af ag ah => ?_
 refine cj8 (J3 M).1.d8 fun ai aj ak al am ao ap aq => ?_
 go_wp2_with fail
 clear aa ab ac ad ae af ag ah ai aj ak al am ao ap aq
 refine (rqMin (G := G) (q := q) (r := s) (m := (minQ q s)) (Nat.le_trans hG (J5 M).size) (H2.out.keep (J5 M)) (H4.out.keep (J5 M)) (Fz.mono HQ.out (by omega)) (Fz.mono HS.out (by omega)) rfl).mono ?_
 rintro e w6 ⟨x_6, x_7, x_8, x_9, rfl, hd10, hb⟩
 replace M := adM hd10 hb M
 clear hb hd10
 refine cj4 (TQ.st (M.out.1)) fun ax ay az ba => ?_
 go_upto_region 5 with fail
 clear ax ay az ba
 refine nmW (w6.alloc (.cells #[x_6, x_7, x_8, x_9] 26)) fun w7 hv => ?_
 rw [← hv]
 have ow4_ : w4.heap.size < w6.heap.size := ((J1 M).1).lt
 replace M := alM hv M
 clear hv
 refine cj4 (J2 M).1.d4 fun bb bc bd bf => ?_
 refine cj4 (M.out.1).d4 fun bg bh bi bj => ?_
 go_wp2_with fail
 clear bb bc bd bf bg bh bi bj
 refine (rqCompare (G := G) (q := (maxQ p r)) (r := (minQ q s)) (k := k1) (J3 M).1 (J1 M).1 (Fz.mono (Fz.maxQ HP.out HR.out) (by omega)) (Fz.mono (Fz.minQ HQ.out HS.out) (by omega)) (by exact HK1.out)).mono ?_
 rintro e w8 ⟨rfl, hb⟩
 replace M := gnM hb M
 clear hb
 refine cj16 (J4 M).1.c8 fun bk bl bm bn bo bp bq br bs bt bu bv bw bx bz ca => ?_
 go_wp2_with fail
 clear bk bl bm bn bo bp bq br bs bt bu bv bw bx bz ca
 have hz : w.heap.size ≤ w.heap.size + 1 + 1 := by omega
 refine st8W (.int .i64 0) (.slice none 0 0) (.int .i64 0) (.slice none 0 0) (.int .i64 0) (.slice none 0 0) (.int .i64 0) (.slice none 0 0) (J4 M).1 (J7 M) hz fun w9 hv og hk hbw => ?_
 rw [← hv]
 replace M := Lib.hid (aI ((M.out.1).only og (by omega)) (aI ((J1 M).1.far (J4 M).1 (by rfl) (by omega) og) (aI ((J2 M).1.only og (by omega)) (aI ((J3 M).1.far (J4 M).1 (by rfl) (by omega) og) (aI hk (aI ((J5 M).1.only og (by omega)) (aI ((J6 M).1.only og (by omega)) hbw)))))))
 clear hk hbw og hv hz
 refine bodyPost_ret (results_box2 rfl _ _ (w.heap.size + 1 + 1) 28 _ _ _ rfl (J4 M).1 Tryz.underlying28 rfl (by kernel_rfl)) rfl ?_
 exact ⟨rfl, (J7 M)⟩
end Go.Proofs.YtjbfngjlepafgaaGreat
