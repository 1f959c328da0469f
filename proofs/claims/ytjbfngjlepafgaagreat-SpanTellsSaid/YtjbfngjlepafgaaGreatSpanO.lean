/- Spans that are not right: operations by their number, parts. -/
import Derived.Test.YtjbfngjlepafgaaGreatBase
import Derived.Test.YtjbfngjlepafgaaGreatBigSpec
import Derived.Test.YtjbfngjlepafgaaGreatBigB
import Derived.Test.YtjbfngjlepafgaaGreatBigC
import Derived.Test.YtjbfngjlepafgaaGreatBigD
import Derived.Test.YtjbfngjlepafgaaGreatBigK
import Derived.Test.YtjbfngjlepafgaaGreatBigQ
import Derived.Test.YtjbfngjlepafgaaGreatFracA
import Derived.Test.YtjbfngjlepafgaaGreatFz
import Derived.Test.YtjbfngjlepafgaaGreatHeld
import Derived.Test.YtjbfngjlepafgaaGreatAw
import Derived.Test.YtjbfngjlepafgaaGreatRefO
import Derived.Test.YtjbfngjlepafgaaGreatFq
import Derived.Test.YtjbfngjlepafgaaGreatRefY
import Derived.Test.YtjbfngjlepafgaaGreatOwn
import Derived.Test.YtjbfngjlepafgaaGreatRefSpA
import Derived.Test.YtjbfngjlepafgaaGreatRefSpC
import Derived.Test.YtjbfngjlepafgaaGreatSpanN
import Derived.Test.YtjbfngjlepafgaaGreatProg
import Derived.Test.YtjbfngjlepafgaaGreatShelf
import Derived.WalkKit
import Derived.WalkSpells
import Derived.WalkLawsBesides
import Derived.Handy
import Derived.Lib.Hide
import Derived.Lib.Strings
import Derived.Lib.Builder
import Derived.BigQuiet
import Derived.OwnWalk
import Derived.Laws.BitsLemmas
import Derived.WalkSmall
import Derived.Deep.QuietTactic
import Derived.StillTailTactics
import Derived.Maps.AppendAt
import Derived.IntWalk
import Derived.Deep.RegionHeld3
import Derived.Deep.DeepFit
import Derived.Deep.LoopGhost
import Derived.Deep.DeepCutAuto
import Derived.Lib.ItoaNum
import Derived.Lib.Repeat
import Derived.Lib.AppendIntMem
import Derived.Sort.OwnSorted
import Derived.Shelf.Strings.SlTrimAscii
import Derived.Lib.ConvBytes
import Derived.Lib.CutLaws
namespace Go.Proofs.YtjbfngjlepafgaaGreat
open Go.RowKit Go.Lib
variable {G : Nat}

set_option maxRecDepth 100000 in
set_option maxHeartbeats 4000000 in
theorem spNeg_no {u0 u1 u2 u3 u4 u5 u6 u7 : Value} {n1 m1 n2 m2 : Nat} {o1 o2 : Option Rat} {w : World} (h1 : FX w u0 u1 u2 u3 n1 m1 o1) (h2 : FX w u4 u5 u6 u7 n2 m2 o2) (hz1 : fewF n1 m1 = true) (hz2 : fewF n2 m2 = true) (hr : rightX o1 o2 = false) :
  Calls Tryz.prog 26 #[.agg #[u0, u1, u2, u3, u4, u5, u6, u7]] w fun e w' => e = .returned (.agg #[.int .i64 0, .slice none 0 0, .int .i64 0, .slice none 0 0, .int .i64 0, .slice none 0 0, .int .i64 0, .slice none 0 0]) ∧ Below w.heap.size w w' := by
 have HZ1 := Lib.hid hz1
 have HZ2 := Lib.hid hz2
 clear hz1 hz2
 have HR := Lib.hid hr; clear hr
 have H1 : Hid (FX w u0 u1 u2 u3 n1 m1 o1) := h1
 have H2 : Hid (FX w u4 u5 u6 u7 n2 m2 o2) := h2
 clear h1 h2
 have M : Hid (Below w.heap.size w w) := Below.refl _ _
 go_enter Tryz.func26, Tryz.ntmps26
 go_upto_region 1 with fail
 refine nmW ((w.alloc (.cells #[u0, u1, u2, u3, u4, u5, u6, u7] 28)).alloc (.cells #[.int .i64 0, .slice none 0 0, .int .i64 0, .slice none 0 0, .int .i64 0, .slice none 0 0, .int .i64 0, .slice none 0 0] 28)) fun w1 hv => ?_
 rw [← hv]
 replace M := al2W hv M
 clear hv
 refine cj8 (J1 M).1.d8 fun aa ab ac ad ae af ag ah => ?_
 go_wp2_with fail
 clear aa ab ac ad ae af ag ah
 refine (spRight_x (o1 := o1) (o2 := o2) (b_ := false) (H1.out.keep (J2 M)) (H2.out.keep (J2 M)) HZ1.out HZ2.out HR.out).mono ?_
 rintro e w2 ⟨rfl, hb⟩
 replace M := gnM hb M
 clear hb
 refine cj16 (M.out.1).c8 fun ai aj ak al am ao ap aq ar au av aw ax ay az ba => ?_
 go_wp2_with fail
 clear ai aj ak al am ao ap aq ar au av aw ax ay az ba
 have hz : w.heap.size ≤ w.heap.size + 1 := by omega
 refine st8W (.int .i64 0) (.slice none 0 0) (.int .i64 0) (.slice none 0 0) (.int .i64 0) (.slice none 0 0) (.int .i64 0) (.slice none 0 0) (M.out.1) (J2 M) hz fun w3 hv og hk hbw => ?_
 rw [← hv]
 replace M := Lib.hid (aI hk (aI ((J1 M).1.only og (by omega)) hbw))
 clear hk hbw og hv hz
 refine bodyPost_ret (results_box1 rfl _ _ (w.heap.size + 1) 28 _ _ _ rfl (M.out.1) Tryz.underlying28 rfl (by kernel_rfl)) rfl ?_
 exact ⟨rfl, (J2 M)⟩
set_option maxRecDepth 100000 in
set_option maxHeartbeats 4000000 in
theorem rsNeg_no {u0 u1 u2 u3 u4 u5 u6 u7 : Value} {n1 m1 n2 m2 : Nat} {o1 o2 : Option Rat} {w : World} (h1 : FX w u0 u1 u2 u3 n1 m1 o1) (h2 : FX w u4 u5 u6 u7 n2 m2 o2) (hz1 : fewF n1 m1 = true) (hz2 : fewF n2 m2 = true) (hr : rightX o1 o2 = false) :
  Calls Tryz.prog 27 #[.agg #[u0, u1, u2, u3, u4, u5, u6, u7]] w fun e w' => e = .returned (.agg #[.int .i64 0, .slice none 0 0, .int .i64 0, .slice none 0 0, .int .i64 0, .slice none 0 0, .int .i64 0, .slice none 0 0]) ∧ Below w.heap.size w w' := by
 have HZ1 := Lib.hid hz1
 have HZ2 := Lib.hid hz2
 clear hz1 hz2
 have HR := Lib.hid hr; clear hr
 have H1 : Hid (FX w u0 u1 u2 u3 n1 m1 o1) := h1
 have H2 : Hid (FX w u4 u5 u6 u7 n2 m2 o2) := h2
 clear h1 h2
 have M : Hid (Below w.heap.size w w) := Below.refl _ _
 go_enter Tryz.func27, Tryz.ntmps27
 go_upto_region 1 with fail
 refine nmW ((w.alloc (.cells #[u0, u1, u2, u3, u4, u5, u6, u7] 28)).alloc (.cells #[.int .i64 0, .slice none 0 0, .int .i64 0, .slice none 0 0, .int .i64 0, .slice none 0 0, .int .i64 0, .slice none 0 0] 28)) fun w1 hv => ?_
 rw [← hv]
 replace M := al2W hv M
 clear hv
 refine cj8 (J1 M).1.d8 fun aa ab ac ad ae af ag ah => ?_
 go_wp2_with fail
 clear aa ab ac ad ae af ag ah
 refine (rsRight_x (o1 := o1) (o2 := o2) (b_ := false) (H1.out.keep (J2 M)) (H2.out.keep (J2 M)) HZ1.out HZ2.out HR.out).mono ?_
 rintro e w2 ⟨rfl, hb⟩
 replace M := gnM hb M
 clear hb
 refine cj16 (M.out.1).c8 fun ai aj ak al am ao ap aq ar au av aw ax ay az ba => ?_
 go_wp2_with fail
 clear ai aj ak al am ao ap aq ar au av aw ax ay az ba
 have hz : w.heap.size ≤ w.heap.size + 1 := by omega
 refine st8W (.int .i64 0) (.slice none 0 0) (.int .i64 0) (.slice none 0 0) (.int .i64 0) (.slice none 0 0) (.int .i64 0) (.slice none 0 0) (M.out.1) (J2 M) hz fun w3 hv og hk hbw => ?_
 rw [← hv]
 replace M := Lib.hid (aI hk (aI ((J1 M).1.only og (by omega)) hbw))
 clear hk hbw og hv hz
 refine bodyPost_ret (results_box1 rfl _ _ (w.heap.size + 1) 28 _ _ _ rfl (M.out.1) Tryz.underlying28 rfl (by kernel_rfl)) rfl ?_
 exact ⟨rfl, (J2 M)⟩
set_option maxRecDepth 100000 in
set_option maxHeartbeats 4000000 in
theorem spWidth_no {u0 u1 u2 u3 u4 u5 u6 u7 : Value} {n1 m1 n2 m2 : Nat} {o1 o2 : Option Rat} {w : World} (h1 : FX w u0 u1 u2 u3 n1 m1 o1) (h2 : FX w u4 u5 u6 u7 n2 m2 o2) (hz1 : fewF n1 m1 = true) (hz2 : fewF n2 m2 = true) (hr : rightX o1 o2 = false) :
  Calls Tryz.prog 24 #[.agg #[u0, u1, u2, u3, u4, u5, u6, u7]] w fun e w' => e = .returned (.agg #[.int .i64 0, .slice none 0 0, .int .i64 0, .slice none 0 0]) ∧ Below w.heap.size w w' := by
 have HZ1 := Lib.hid hz1
 have HZ2 := Lib.hid hz2
 clear hz1 hz2
 have HR := Lib.hid hr; clear hr
 have H1 : Hid (FX w u0 u1 u2 u3 n1 m1 o1) := h1
 have H2 : Hid (FX w u4 u5 u6 u7 n2 m2 o2) := h2
 clear h1 h2
 have M : Hid (Below w.heap.size w w) := Below.refl _ _
 go_enter Tryz.func24, Tryz.ntmps24
 go_upto_region 1 with fail
 refine nmW ((w.alloc (.cells #[u0, u1, u2, u3, u4, u5, u6, u7] 28)).alloc (.cells #[.int .i64 0, .slice none 0 0, .int .i64 0, .slice none 0 0] 26)) fun w1 hv => ?_
 rw [← hv]
 replace M := al2W hv M
 clear hv
 refine cj8 (J1 M).1.d8 fun aa ab ac ad ae af ag ah => ?_
 go_wp2_with fail
 clear aa ab ac ad ae af ag ah
 refine (spRight_x (o1 := o1) (o2 := o2) (b_ := false) (H1.out.keep (J2 M)) (H2.out.keep (J2 M)) HZ1.out HZ2.out HR.out).mono ?_
 rintro e w2 ⟨rfl, hb⟩
 replace M := gnM hb M
 clear hb
 refine cj8 (M.out.1).c4 fun ai aj ak al am ao ap aq => ?_
 go_wp2_with fail
 clear ai aj ak al am ao ap aq
 have hz : w.heap.size ≤ w.heap.size + 1 := by omega
 refine st4W (.int .i64 0) (.slice none 0 0) (.int .i64 0) (.slice none 0 0) (M.out.1) (J2 M) hz fun w3 hv og hk hbw => ?_
 rw [← hv]
 replace M := Lib.hid (aI hk (aI ((J1 M).1.only og (by omega)) hbw))
 clear hk hbw og hv hz
 refine bodyPost_ret (results_box1 rfl _ _ (w.heap.size + 1) 26 _ _ _ rfl (M.out.1) Tryz.underlying26 rfl (by kernel_rfl)) rfl ?_
 exact ⟨rfl, (J2 M)⟩
set_option maxRecDepth 100000 in
set_option maxHeartbeats 4000000 in
theorem rsWidth_no {u0 u1 u2 u3 u4 u5 u6 u7 : Value} {n1 m1 n2 m2 : Nat} {o1 o2 : Option Rat} {w : World} (h1 : FX w u0 u1 u2 u3 n1 m1 o1) (h2 : FX w u4 u5 u6 u7 n2 m2 o2) (hz1 : fewF n1 m1 = true) (hz2 : fewF n2 m2 = true) (hr : rightX o1 o2 = false) :
  Calls Tryz.prog 25 #[.agg #[u0, u1, u2, u3, u4, u5, u6, u7]] w fun e w' => e = .returned (.agg #[.int .i64 0, .slice none 0 0, .int .i64 0, .slice none 0 0]) ∧ Below w.heap.size w w' := by
 have HZ1 := Lib.hid hz1
 have HZ2 := Lib.hid hz2
 clear hz1 hz2
 have HR := Lib.hid hr; clear hr
 have H1 : Hid (FX w u0 u1 u2 u3 n1 m1 o1) := h1
 have H2 : Hid (FX w u4 u5 u6 u7 n2 m2 o2) := h2
 clear h1 h2
 have M : Hid (Below w.heap.size w w) := Below.refl _ _
 go_enter Tryz.func25, Tryz.ntmps25
 go_upto_region 1 with fail
 refine nmW ((w.alloc (.cells #[u0, u1, u2, u3, u4, u5, u6, u7] 28)).alloc (.cells #[.int .i64 0, .slice none 0 0, .int .i64 0, .slice none 0 0] 26)) fun w1 hv => ?_
 rw [← hv]
 replace M := al2W hv M
 clear hv
 refine cj8 (J1 M).1.d8 fun aa ab ac ad ae af ag ah => ?_
 go_wp2_with fail
 clear aa ab ac ad ae af ag ah
 refine (rsRight_x (o1 := o1) (o2 := o2) (b_ := false) (H1.out.keep (J2 M)) (H2.out.keep (J2 M)) HZ1.out HZ2.out HR.out).mono ?_
 rintro e w2 ⟨rfl, hb⟩
 replace M := gnM hb M
 clear hb
 refine cj8 (M.out.1).c4 fun ai aj ak al am ao ap aq => ?_
 go_wp2_with fail
 clear ai aj ak al am ao ap aq
 have hz : w.heap.size ≤ w.heap.size + 1 := by omega
 refine st4W (.int .i64 0) (.slice none 0 0) (.int .i64 0) (.slice none 0 0) (M.out.1) (J2 M) hz fun w3 hv og hk hbw => ?_
 rw [← hv]
 replace M := Lib.hid (aI hk (aI ((J1 M).1.only og (by omega)) hbw))
 clear hk hbw og hv hz
 refine bodyPost_ret (results_box1 rfl _ _ (w.heap.size + 1) 26 _ _ _ rfl (M.out.1) Tryz.underlying26 rfl (by kernel_rfl)) rfl ?_
 exact ⟨rfl, (J2 M)⟩
set_option maxRecDepth 100000 in
set_option maxHeartbeats 4000000 in
theorem spPoint_no {u0 u1 u2 u3 : Value} {n1 m1 : Nat} {o1 : Option Rat} {w : World} (h1 : FX w u0 u1 u2 u3 n1 m1 o1) (hz1 : fewF n1 m1 = true) (ho : o1.isSome = false) :
  Calls Tryz.prog 17 #[.agg #[u0, u1, u2, u3]] w fun e w' => e = .returned (.agg #[.int .i64 0, .slice none 0 0, .int .i64 0, .slice none 0 0, .int .i64 0, .slice none 0 0, .int .i64 0, .slice none 0 0]) ∧ Below w.heap.size w w' := by
 have k1 := few_le hz1
 have HO := Lib.hid ho; clear ho hz1
 have H1 : Hid (FX w u0 u1 u2 u3 n1 m1 o1) := h1
 clear h1
 have M : Hid (Below w.heap.size w w) := Below.refl _ _
 go_enter Tryz.func17, Tryz.ntmps17
 go_upto_region 1 with fail
 refine nmW ((w.alloc (.cells #[u0, u1, u2, u3] 26)).alloc (.cells #[.int .i64 0, .slice none 0 0, .int .i64 0, .slice none 0 0, .int .i64 0, .slice none 0 0, .int .i64 0, .slice none 0 0] 28)) fun w1 hv => ?_
 rw [← hv]
 replace M := al2W hv M
 clear hv
 refine cj4 (J1 M).1.d4 fun aa ab ac ad => ?_
 go_wp2_with fail
 clear aa ab ac ad
 refine (fxRight_ok (o := o1) (b_ := false) (H1.out.keep (J2 M)) (by omega) (by omega) HO.out).mono ?_
 rintro e w2 ⟨rfl, hb⟩
 replace M := gnM hb M
 clear hb
 refine cj16 (M.out.1).c8 fun ae af ag ah ai aj ak al am ao ap aq ar au av aw => ?_
 go_wp2_with fail
 clear ae af ag ah ai aj ak al am ao ap aq ar au av aw
 have hz : w.heap.size ≤ w.heap.size + 1 := by omega
 refine st8W (.int .i64 0) (.slice none 0 0) (.int .i64 0) (.slice none 0 0) (.int .i64 0) (.slice none 0 0) (.int .i64 0) (.slice none 0 0) (M.out.1) (J2 M) hz fun w3 hv og hk hbw => ?_
 rw [← hv]
 replace M := Lib.hid (aI hk (aI ((J1 M).1.only og (by omega)) hbw))
 clear hk hbw og hv hz
 refine bodyPost_ret (results_box1 rfl _ _ (w.heap.size + 1) 28 _ _ _ rfl (M.out.1) Tryz.underlying28 rfl (by kernel_rfl)) rfl ?_
 exact ⟨rfl, (J2 M)⟩
set_option maxRecDepth 100000 in
set_option maxHeartbeats 4000000 in
theorem rsPoint_no {u0 u1 u2 u3 : Value} {n1 m1 : Nat} {o1 : Option Rat} {w : World} (h1 : FX w u0 u1 u2 u3 n1 m1 o1) (hz1 : fewF n1 m1 = true) (ho : o1.isSome = false) :
  Calls Tryz.prog 18 #[.agg #[u0, u1, u2, u3]] w fun e w' => e = .returned (.agg #[.int .i64 0, .slice none 0 0, .int .i64 0, .slice none 0 0, .int .i64 0, .slice none 0 0, .int .i64 0, .slice none 0 0]) ∧ Below w.heap.size w w' := by
 have k1 := few_le hz1
 have HO := Lib.hid ho; clear ho hz1
 have H1 : Hid (FX w u0 u1 u2 u3 n1 m1 o1) := h1
 clear h1
 have M : Hid (Below w.heap.size w w) := Below.refl _ _
 go_enter Tryz.func18, Tryz.ntmps18
 go_upto_region 1 with fail
 refine nmW ((w.alloc (.cells #[u0, u1, u2, u3] 26)).alloc (.cells #[.int .i64 0, .slice none 0 0, .int .i64 0, .slice none 0 0, .int .i64 0, .slice none 0 0, .int .i64 0, .slice none 0 0] 28)) fun w1 hv => ?_
 rw [← hv]
 replace M := al2W hv M
 clear hv
 refine cj4 (J1 M).1.d4 fun aa ab ac ad => ?_
 go_wp2_with fail
 clear aa ab ac ad
 refine (fyRight_ok (o := o1) (b_ := false) (H1.out.keep (J2 M)) (by omega) (by omega) HO.out).mono ?_
 rintro e w2 ⟨rfl, hb⟩
 replace M := gnM hb M
 clear hb
 refine cj16 (M.out.1).c8 fun ae af ag ah ai aj ak al am ao ap aq ar au av aw => ?_
 go_wp2_with fail
 clear ae af ag ah ai aj ak al am ao ap aq ar au av aw
 have hz : w.heap.size ≤ w.heap.size + 1 := by omega
 refine st8W (.int .i64 0) (.slice none 0 0) (.int .i64 0) (.slice none 0 0) (.int .i64 0) (.slice none 0 0) (.int .i64 0) (.slice none 0 0) (M.out.1) (J2 M) hz fun w3 hv og hk hbw => ?_
 rw [← hv]
 replace M := Lib.hid (aI hk (aI ((J1 M).1.only og (by omega)) hbw))
 clear hk hbw og hv hz
 refine bodyPost_ret (results_box1 rfl _ _ (w.heap.size + 1) 28 _ _ _ rfl (M.out.1) Tryz.underlying28 rfl (by kernel_rfl)) rfl ?_
 exact ⟨rfl, (J2 M)⟩
set_option maxRecDepth 100000 in
set_option maxHeartbeats 4000000 in
theorem spSub_no2 {u0 u1 u2 u3 u4 u5 u6 u7 v0 v1 v2 v3 v4 v5 v6 v7 : Value} {n1 m1 n2 m2 n3 m3 n4 m4 : Nat} {o1 o2 o3 o4 : Option Rat} {w : World} (h1 : FX w u0 u1 u2 u3 n1 m1 o1) (h2 : FX w u4 u5 u6 u7 n2 m2 o2) (h3 : FX w v0 v1 v2 v3 n3 m3 o3) (h4 : FX w v4 v5 v6 v7 n4 m4 o4) (hz1 : fewF n1 m1 = true) (hz2 : fewF n2 m2 = true) (hz3 : fewF n3 m3 = true) (hz4 : fewF n4 m4 = true) (hr2 : rightX o3 o4 = false) :
  Calls Tryz.prog 30 #[.agg #[u0, u1, u2, u3, u4, u5, u6, u7], .agg #[v0, v1, v2, v3, v4, v5, v6, v7]] w fun e w' => e = .returned (.tuple #[.agg #[.int .i64 0, .slice none 0 0, .int .i64 0, .slice none 0 0, .int .i64 0, .slice none 0 0, .int .i64 0, .slice none 0 0], .int .i64 1]) ∧ Below w.heap.size w w' := by
 have HZ1 := Lib.hid hz1
 have HZ2 := Lib.hid hz2
 have HZ3 := Lib.hid hz3
 have HZ4 := Lib.hid hz4
 clear hz1 hz2 hz3 hz4
 have HR2 := Lib.hid hr2; clear hr2
 have H1 : Hid (FX w u0 u1 u2 u3 n1 m1 o1) := h1
 have H2 : Hid (FX w u4 u5 u6 u7 n2 m2 o2) := h2
 have H3 : Hid (FX w v0 v1 v2 v3 n3 m3 o3) := h3
 have H4 : Hid (FX w v4 v5 v6 v7 n4 m4 o4) := h4
 clear h1 h2 h3 h4
 have M : Hid (Below w.heap.size w w) := Below.refl _ _
 go_enter Tryz.func30, Tryz.ntmps30
 go_wp2_with fail
 refine nmW (((w.alloc (.cells #[u0, u1, u2, u3, u4, u5, u6, u7] 28)).alloc (.cells #[v0, v1, v2, v3, v4, v5, v6, v7] 28)).alloc (.cells #[.int .i64 0, .slice none 0 0, .int .i64 0, .slice none 0 0, .int .i64 0, .slice none 0 0, .int .i64 0, .slice none 0 0] 28)) fun w1 hv => ?_
 rw [← hv]
 replace M := al3W hv M
 clear hv
 refine nmW w1.drew fun w2 hv => ?_
 replace M := drM hv M
 refine wp_region_held_drew (S := (fun w' => w'.cell? ⟨w.heap.size, 0, none⟩ = some (u0) ∧ w'.cell? ⟨w.heap.size, 1, none⟩ = some (u1) ∧ w'.cell? ⟨w.heap.size, 2, none⟩ = some (u2) ∧ w'.cell? ⟨w.heap.size, 3, none⟩ = some (u3) ∧ w'.cell? ⟨w.heap.size, 4, none⟩ = some (u4) ∧ w'.cell? ⟨w.heap.size, 5, none⟩ = some (u5) ∧ w'.cell? ⟨w.heap.size, 6, none⟩ = some (u6) ∧ w'.cell? ⟨w.heap.size, 7, none⟩ = some (u7) ∧ w'.cell? ⟨w.heap.size + 1, 0, none⟩ = some (v0) ∧ w'.cell? ⟨w.heap.size + 1, 1, none⟩ = some (v1) ∧ w'.cell? ⟨w.heap.size + 1, 2, none⟩ = some (v2) ∧ w'.cell? ⟨w.heap.size + 1, 3, none⟩ = some (v3) ∧ w'.cell? ⟨w.heap.size + 1, 4, none⟩ = some (v4) ∧ w'.cell? ⟨w.heap.size + 1, 5, none⟩ = some (v5) ∧ w'.cell? ⟨w.heap.size + 1, 6, none⟩ = some (v6) ∧ w'.cell? ⟨w.heap.size + 1, 7, none⟩ = some (v7))) (by kernel_rfl) (by rw [← hv]; exact ((J2 M).1.t8 ((J1 M).1.d8))) (fun hH1 => ?_)
 rw [← hv] at hH1 ⊢
 clear hv
 refine tk at0 ?_
 refine tk at1 ?_
 refine wpAnyH_ready (rs := [2]) (by kernel_rfl) (by simp) ?_
 refine AllReadyH.cons at2 (fun K hK => ?_) AllReadyH.nil
 go_simp
 refine (spNeg_no (o1 := o3) (o2 := o4) (H3.out.keep (J3 M)) (H4.out.keep (J3 M)) HZ3.out HZ4.out HR2.out).mono ?_
 rintro e w3 ⟨rfl, hb⟩
 replace M := gnM hb M
 clear hb
 (try go_wp2_with fail)
 refine hK.out _ _ (((J2 M).1.t8 ((J1 M).1.d8))) (fun hH2 => ?_)
 clear hK K hH1
 (try simp only [Act.put, List.setIfInBounds_toArray, List.set_cons_zero, List.set_cons_succ])
 refine wpAnyH_ready (rs := [3]) (by kernel_rfl) (by simp) ?_
 refine AllReadyH.cons at3 (fun K hK => ?_) AllReadyH.nil
 go_simp
 refine (spAdd_no (o1 := o1) (o2 := o2) (o3 := none) (o4 := none) (H1.out.keep (J3 M)) (H2.out.keep (J3 M)) (fx_zero _) (fx_zero _) HZ1.out HZ2.out rfl rfl (by simp [rightX])).mono ?_
 rintro e w4 ⟨rfl, hb⟩
 replace M := gnM hb M
 clear hb
 (try go_wp2_with fail)
 refine hK.out _ _ (((J2 M).1.t8 ((J1 M).1.d8))) (fun hH3 => ?_)
 clear hK K hH2
 (try simp only [Act.put, List.setIfInBounds_toArray, List.set_cons_zero, List.set_cons_succ])
 refine tk at4 ?_
 refine tk at5 ?_
 refine wpAnyH_ready (rs := [6]) (by kernel_rfl) (by simp) ?_
 refine AllReadyH.cons at6 (fun K hK => ?_) AllReadyH.nil
 refine cj16 (M.out.1).c8 fun aa ab ac ad ae af ag ah ai aj ak al am ao ap aq => ?_
 go_simp
 clear aa ab ac ad ae af ag ah ai aj ak al am ao ap aq
 have hz : w.heap.size ≤ w.heap.size + 1 + 1 := by omega
 refine st8W (.int .i64 0) (.slice none 0 0) (.int .i64 0) (.slice none 0 0) (.int .i64 0) (.slice none 0 0) (.int .i64 0) (.slice none 0 0) (M.out.1) (J3 M) hz fun w5 hv og hk hbw => ?_
 rw [← hv]
 replace M := Lib.hid (aI hk (aI ((J1 M).1.only og (by omega)) (aI ((J2 M).1.only og (by omega)) hbw)))
 clear hk hbw og hv hz
 refine hK.out _ _ (((J2 M).1.t8 ((J1 M).1.d8))) (fun hH4 => ?_)
 clear hK K hH3
 (try simp only [Act.put, List.setIfInBounds_toArray, List.set_cons_zero, List.set_cons_succ])
 refine tk at7 ?_
 refine wpAnyH_done (by kernel_rfl) ?_ _
 clear hH4
 go_wp2_with fail
 refine bodyPost_ret (results_box2 rfl _ _ (w.heap.size + 1 + 1) 28 _ _ _ rfl (M.out.1) Tryz.underlying28 rfl (by kernel_rfl)) rfl ?_
 exact ⟨rfl, (J3 M)⟩
set_option maxRecDepth 100000 in
set_option maxHeartbeats 4000000 in
theorem spSub_no1 {u0 u1 u2 u3 u4 u5 u6 u7 v0 v1 v2 v3 v4 v5 v6 v7 : Value} {n1 m1 n2 m2 : Nat} {o1 o2 : Option Rat} {r s : Rat} {w : World} (hG : G ≤ w.heap.size) (h1 : FX w u0 u1 u2 u3 n1 m1 o1) (h2 : FX w u4 u5 u6 u7 n2 m2 o2) (hz1 : fewF n1 m1 = true) (hz2 : fewF n2 m2 = true) (h3 : FQ G w v0 v1 v2 v3 r) (h4 : FQ G w v4 v5 v6 v7 s) (hr_ : Fz r 4) (hs_ : Fz s 4) (hrs : r ≤ s) (hr : rightX o1 o2 = false) :
  Calls Tryz.prog 30 #[.agg #[u0, u1, u2, u3, u4, u5, u6, u7], .agg #[v0, v1, v2, v3, v4, v5, v6, v7]] w fun e w' => e = .returned (.tuple #[.agg #[.int .i64 0, .slice none 0 0, .int .i64 0, .slice none 0 0, .int .i64 0, .slice none 0 0, .int .i64 0, .slice none 0 0], .int .i64 1]) ∧ Below w.heap.size w w' := by
 have HZ1 := Lib.hid hz1
 have HZ2 := Lib.hid hz2
 clear hz1 hz2
 have HR := Lib.hid hr; have HZr := Lib.hid hr_; have HZs := Lib.hid hs_; have HRS := Lib.hid hrs; clear hr hr_ hs_ hrs
 have H1 : Hid (FX w u0 u1 u2 u3 n1 m1 o1) := h1
 have H2 : Hid (FX w u4 u5 u6 u7 n2 m2 o2) := h2
 have H3 : Hid (FQ G w v0 v1 v2 v3 r) := h3
 have H4 : Hid (FQ G w v4 v5 v6 v7 s) := h4
 clear h1 h2 h3 h4
 have M : Hid (Below w.heap.size w w) := Below.refl _ _
 go_enter Tryz.func30, Tryz.ntmps30
 go_wp2_with fail
 refine nmW (((w.alloc (.cells #[u0, u1, u2, u3, u4, u5, u6, u7] 28)).alloc (.cells #[v0, v1, v2, v3, v4, v5, v6, v7] 28)).alloc (.cells #[.int .i64 0, .slice none 0 0, .int .i64 0, .slice none 0 0, .int .i64 0, .slice none 0 0, .int .i64 0, .slice none 0 0] 28)) fun w1 hv => ?_
 rw [← hv]
 replace M := al3W hv M
 clear hv
 refine nmW w1.drew fun w2 hv => ?_
 replace M := drM hv M
 refine wp_region_held_drew (S := (fun w' => w'.cell? ⟨w.heap.size, 0, none⟩ = some (u0) ∧ w'.cell? ⟨w.heap.size, 1, none⟩ = some (u1) ∧ w'.cell? ⟨w.heap.size, 2, none⟩ = some (u2) ∧ w'.cell? ⟨w.heap.size, 3, none⟩ = some (u3) ∧ w'.cell? ⟨w.heap.size, 4, none⟩ = some (u4) ∧ w'.cell? ⟨w.heap.size, 5, none⟩ = some (u5) ∧ w'.cell? ⟨w.heap.size, 6, none⟩ = some (u6) ∧ w'.cell? ⟨w.heap.size, 7, none⟩ = some (u7) ∧ w'.cell? ⟨w.heap.size + 1, 0, none⟩ = some (v0) ∧ w'.cell? ⟨w.heap.size + 1, 1, none⟩ = some (v1) ∧ w'.cell? ⟨w.heap.size + 1, 2, none⟩ = some (v2) ∧ w'.cell? ⟨w.heap.size + 1, 3, none⟩ = some (v3) ∧ w'.cell? ⟨w.heap.size + 1, 4, none⟩ = some (v4) ∧ w'.cell? ⟨w.heap.size + 1, 5, none⟩ = some (v5) ∧ w'.cell? ⟨w.heap.size + 1, 6, none⟩ = some (v6) ∧ w'.cell? ⟨w.heap.size + 1, 7, none⟩ = some (v7))) (by kernel_rfl) (by rw [← hv]; exact ((J2 M).1.t8 ((J1 M).1.d8))) (fun hH13 => ?_)
 rw [← hv] at hH13 ⊢
 clear hv
 refine tk at0 ?_
 refine tk at1 ?_
 refine wpAnyH_ready (rs := [2]) (by kernel_rfl) (by simp) ?_
 refine AllReadyH.cons at2 (fun K hK => ?_) AllReadyH.nil
 go_simp
 refine nmW (α := Rat) (-s) fun q22 eq22 => ?_
 refine nmW (α := Rat) (-r) fun q23 eq23 => ?_
 refine (spNeg_q (G := G) (p := r) (q := s) (Nat.le_trans hG (J3 M).size) (H3.out.keep (J3 M)) (H4.out.keep (J3 M)) (Fz.mono HZr.out (by omega)) (Fz.mono HZs.out (by omega)) HRS.out).mono ?_
 rintro e w3 ⟨x_14, x_15, x_16, x_17, x_18, x_19, x_20, x_21, rfl, hd24, hd25, hb⟩
 rw [← eq22] at hd24
 have Sq22 : Hid (Fz q22 4) := by show Fz q22 4; rw [eq22]; exact (Fz.neg HZs.out)
 have Eq22 := Lib.hid eq22; clear eq22
 rw [← eq23] at hd25
 have Sq23 : Hid (Fz q23 4) := by show Fz q23 4; rw [eq23]; exact (Fz.neg HZr.out)
 have Eq23 := Lib.hid eq23; clear eq23
 replace M := ad2M hd24 hd25 hb M
 clear hb hd24 hd25
 (try go_wp2_with fail)
 refine hK.out _ _ (((J4 M).1.t8 ((J3 M).1.d8))) (fun hH26 => ?_)
 clear hK K hH13
 (try simp only [Act.put, List.setIfInBounds_toArray, List.set_cons_zero, List.set_cons_succ])
 refine wpAnyH_ready (rs := [3]) (by kernel_rfl) (by simp) ?_
 refine AllReadyH.cons at3 (fun K hK => ?_) AllReadyH.nil
 go_simp
 refine (spAdd_no1 (o1 := o1) (o2 := o2) (H1.out.keep (J5 M)) (H2.out.keep (J5 M)) HZ1.out HZ2.out HR.out).mono ?_
 rintro e w4 ⟨rfl, hb⟩
 replace M := gnM hb M
 clear hb
 (try go_wp2_with fail)
 refine hK.out _ _ (((J4 M).1.t8 ((J3 M).1.d8))) (fun hH27 => ?_)
 clear hK K hH26
 (try simp only [Act.put, List.setIfInBounds_toArray, List.set_cons_zero, List.set_cons_succ])
 refine tk at4 ?_
 refine tk at5 ?_
 refine wpAnyH_ready (rs := [6]) (by kernel_rfl) (by simp) ?_
 refine AllReadyH.cons at6 (fun K hK => ?_) AllReadyH.nil
 refine cj16 (J2 M).1.c8 fun aa ab ac ad ae af ag ah ai aj ak al am ao ap aq => ?_
 go_simp
 clear aa ab ac ad ae af ag ah ai aj ak al am ao ap aq
 have hz : w.heap.size ≤ w.heap.size + 1 + 1 := by omega
 refine st8W (.int .i64 0) (.slice none 0 0) (.int .i64 0) (.slice none 0 0) (.int .i64 0) (.slice none 0 0) (.int .i64 0) (.slice none 0 0) (J2 M).1 (J5 M) hz fun w5 hv og hk hbw => ?_
 rw [← hv]
 replace M := Lib.hid (aI ((M.out.1).far (J2 M).1 (by rfl) (by omega) og) (aI ((J1 M).1.far (J2 M).1 (by rfl) (by omega) og) (aI hk (aI ((J3 M).1.only og (by omega)) (aI ((J4 M).1.only og (by omega)) hbw)))))
 clear hk hbw og hv hz
 refine hK.out _ _ (((J4 M).1.t8 ((J3 M).1.d8))) (fun hH28 => ?_)
 clear hK K hH27
 (try simp only [Act.put, List.setIfInBounds_toArray, List.set_cons_zero, List.set_cons_succ])
 refine tk at7 ?_
 refine wpAnyH_done (by kernel_rfl) ?_ _
 clear hH28
 go_wp2_with fail
 refine bodyPost_ret (results_box2 rfl _ _ (w.heap.size + 1 + 1) 28 _ _ _ rfl (J2 M).1 Tryz.underlying28 rfl (by kernel_rfl)) rfl ?_
 exact ⟨rfl, (J5 M)⟩
theorem spSub_no {u0 u1 u2 u3 u4 u5 u6 u7 v0 v1 v2 v3 v4 v5 v6 v7 : Value} {n1 m1 n2 m2 n3 m3 n4 m4 : Nat} {o1 o2 o3 o4 : Option Rat} {w : World} (h1 : FX w u0 u1 u2 u3 n1 m1 o1) (h2 : FX w u4 u5 u6 u7 n2 m2 o2) (h3 : FX w v0 v1 v2 v3 n3 m3 o3) (h4 : FX w v4 v5 v6 v7 n4 m4 o4) (hz1 : fewF n1 m1 = true) (hz2 : fewF n2 m2 = true) (hz3 : fewF n3 m3 = true) (hz4 : fewF n4 m4 = true) (hr : (rightX o1 o2 && rightX o3 o4) = false) :
  Calls Tryz.prog 30 #[.agg #[u0, u1, u2, u3, u4, u5, u6, u7], .agg #[v0, v1, v2, v3, v4, v5, v6, v7]] w fun e w' => e = .returned (.tuple #[.agg #[.int .i64 0, .slice none 0 0, .int .i64 0, .slice none 0 0, .int .i64 0, .slice none 0 0, .int .i64 0, .slice none 0 0], .int .i64 1]) ∧ Below w.heap.size w w' := by
 cases h : rightX o3 o4 with
 | false => exact spSub_no2 h1 h2 h3 h4 hz1 hz2 hz3 hz4 h
 | true =>
  rw [h, Bool.and_true] at hr
  obtain ⟨r, s, rfl, rfl, hrs⟩ := right_some h
  exact spSub_no1 (G := w.heap.size) (Nat.le_refl _) h1 h2 hz1 hz2 h3.fq h4.fq (h3.fz (few_le hz3).1 (few_le hz3).2) (h4.fz (few_le hz4).1 (few_le hz4).2) hrs hr
set_option maxRecDepth 100000 in
set_option maxHeartbeats 4000000 in
theorem play_no0 {u0 u1 u2 u3 u4 u5 u6 u7 v0 v1 v2 v3 v4 v5 v6 v7 : Value} {n1 m1 n2 m2 n3 m3 n4 m4 : Nat} {o1 o2 o3 o4 : Option Rat} {w : World} (h1 : FX w u0 u1 u2 u3 n1 m1 o1) (h2 : FX w u4 u5 u6 u7 n2 m2 o2) (h3 : FX w v0 v1 v2 v3 n3 m3 o3) (h4 : FX w v4 v5 v6 v7 n4 m4 o4) (hz1 : fewF n1 m1 = true) (hz2 : fewF n2 m2 = true) (hz3 : fewF n3 m3 = true) (hz4 : fewF n4 m4 = true) (hr : (rightX o1 o2 && rightX o3 o4) = false) :
  Calls Tryz.prog 7 #[.int .i64 0, .agg #[u0, u1, u2, u3, u4, u5, u6, u7], .agg #[v0, v1, v2, v3, v4, v5, v6, v7]] w fun e w' => e = .returned (.tuple #[.agg #[.int .i64 0, .slice none 0 0, .int .i64 0, .slice none 0 0, .int .i64 0, .slice none 0 0, .int .i64 0, .slice none 0 0], .int .i64 1]) ∧ Below w.heap.size w w' := by
 have HZ1 := Lib.hid hz1
 have HZ2 := Lib.hid hz2
 have HZ3 := Lib.hid hz3
 have HZ4 := Lib.hid hz4
 clear hz1 hz2 hz3 hz4
 have HR := Lib.hid hr; clear hr
 have H1 : Hid (FX w u0 u1 u2 u3 n1 m1 o1) := h1
 have H2 : Hid (FX w u4 u5 u6 u7 n2 m2 o2) := h2
 have H3 : Hid (FX w v0 v1 v2 v3 n3 m3 o3) := h3
 have H4 : Hid (FX w v4 v5 v6 v7 n4 m4 o4) := h4
 clear h1 h2 h3 h4
 have M : Hid (Below w.heap.size w w) := Below.refl _ _
 go_enter Tryz.func7, Tryz.ntmps7
 go_upto_region 1 with fail
 refine nmW (((w.alloc (.cells #[u0, u1, u2, u3, u4, u5, u6, u7] 28)).alloc (.cells #[v0, v1, v2, v3, v4, v5, v6, v7] 28)).alloc (.cells #[.int .i64 0, .slice none 0 0, .int .i64 0, .slice none 0 0, .int .i64 0, .slice none 0 0, .int .i64 0, .slice none 0 0] 28)) fun w1 hv => ?_
 rw [← hv]
 replace M := al3W hv M
 clear hv
 refine cj8 (J2 M).1.d8 fun aa ab ac ad ae af ag ah => ?_
 refine cj8 (J1 M).1.d8 fun ai aj ak al am ao ap aq => ?_
 go_wp2_with fail
 clear aa ab ac ad ae af ag ah ai aj ak al am ao ap aq
 refine (spAdd_no (o1 := o1) (o2 := o2) (o3 := o3) (o4 := o4) (H1.out.keep (J3 M)) (H2.out.keep (J3 M)) (H3.out.keep (J3 M)) (H4.out.keep (J3 M)) HZ1.out HZ2.out HZ3.out HZ4.out HR.out).mono ?_
 rintro e w2 ⟨rfl, hb⟩
 replace M := gnM hb M
 clear hb
 go_upto_region 4 with fail
 refine nmW (w2.alloc (.cells #[.int .i64 0, .slice none 0 0, .int .i64 0, .slice none 0 0, .int .i64 0, .slice none 0 0, .int .i64 0, .slice none 0 0] 28)) fun w3 hv => ?_
 rw [← hv]
 have ow3_ : w.heap.size + 1 + 1 < w2.heap.size := ((M.out.1)).lt
 replace M := alM hv M
 clear hv
 refine cj8 (M.out.1).d8 fun ar au av aw ax ay az ba => ?_
 refine cj16 (J1 M).1.c8 fun bb bc bd bf bg bh bi bj bk bl bm bn bo bp bq br => ?_
 go_wp2_with fail
 clear ar au av aw ax ay az ba bb bc bd bf bg bh bi bj bk bl bm bn bo bp bq br
 have hz : w.heap.size ≤ w.heap.size + 1 + 1 := by omega
 refine st8W (.int .i64 0) (.slice none 0 0) (.int .i64 0) (.slice none 0 0) (.int .i64 0) (.slice none 0 0) (.int .i64 0) (.slice none 0 0) (J1 M).1 (J4 M) hz fun w4 hv og hk hbw => ?_
 rw [← hv]
 replace M := Lib.hid (aI ((M.out.1).only og (by omega)) (aI hk (aI ((J2 M).1.only og (by omega)) (aI ((J3 M).1.only og (by omega)) hbw))))
 clear hk hbw og hv hz
 refine bodyPost_ret (results_box2 rfl _ _ (w.heap.size + 1 + 1) 28 _ _ _ rfl (J1 M).1 Tryz.underlying28 rfl (by kernel_rfl)) rfl ?_
 exact ⟨rfl, (J4 M)⟩
set_option maxRecDepth 100000 in
set_option maxHeartbeats 4000000 in
theorem play_no1 {u0 u1 u2 u3 u4 u5 u6 u7 v0 v1 v2 v3 v4 v5 v6 v7 : Value} {n1 m1 n2 m2 n3 m3 n4 m4 : Nat} {o1 o2 o3 o4 : Option Rat} {w : World} (h1 : FX w u0 u1 u2 u3 n1 m1 o1) (h2 : FX w u4 u5 u6 u7 n2 m2 o2) (h3 : FX w v0 v1 v2 v3 n3 m3 o3) (h4 : FX w v4 v5 v6 v7 n4 m4 o4) (hz1 : fewF n1 m1 = true) (hz2 : fewF n2 m2 = true) (hz3 : fewF n3 m3 = true) (hz4 : fewF n4 m4 = true) (hr : (rightX o1 o2 && rightX o3 o4) = false) :
  Calls Tryz.prog 7 #[.int .i64 1, .agg #[u0, u1, u2, u3, u4, u5, u6, u7], .agg #[v0, v1, v2, v3, v4, v5, v6, v7]] w fun e w' => e = .returned (.tuple #[.agg #[.int .i64 0, .slice none 0 0, .int .i64 0, .slice none 0 0, .int .i64 0, .slice none 0 0, .int .i64 0, .slice none 0 0], .int .i64 1]) ∧ Below w.heap.size w w' := by
 have HZ1 := Lib.hid hz1
 have HZ2 := Lib.hid hz2
 have HZ3 := Lib.hid hz3
 have HZ4 := Lib.hid hz4
 clear hz1 hz2 hz3 hz4
 have HR := Lib.hid hr; clear hr
 have H1 : Hid (FX w u0 u1 u2 u3 n1 m1 o1) := h1
 have H2 : Hid (FX w u4 u5 u6 u7 n2 m2 o2) := h2
 have H3 : Hid (FX w v0 v1 v2 v3 n3 m3 o3) := h3
 have H4 : Hid (FX w v4 v5 v6 v7 n4 m4 o4) := h4
 clear h1 h2 h3 h4
 have M : Hid (Below w.heap.size w w) := Below.refl _ _
 go_enter Tryz.func7, Tryz.ntmps7
 go_upto_region 1 with fail
 refine nmW (((w.alloc (.cells #[u0, u1, u2, u3, u4, u5, u6, u7] 28)).alloc (.cells #[v0, v1, v2, v3, v4, v5, v6, v7] 28)).alloc (.cells #[.int .i64 0, .slice none 0 0, .int .i64 0, .slice none 0 0, .int .i64 0, .slice none 0 0, .int .i64 0, .slice none 0 0] 28)) fun w1 hv => ?_
 rw [← hv]
 replace M := al3W hv M
 clear hv
 refine cj8 (J2 M).1.d8 fun aa ab ac ad ae af ag ah => ?_
 refine cj8 (J1 M).1.d8 fun ai aj ak al am ao ap aq => ?_
 go_wp2_with fail
 clear aa ab ac ad ae af ag ah ai aj ak al am ao ap aq
 refine (spSub_no (o1 := o1) (o2 := o2) (o3 := o3) (o4 := o4) (H1.out.keep (J3 M)) (H2.out.keep (J3 M)) (H3.out.keep (J3 M)) (H4.out.keep (J3 M)) HZ1.out HZ2.out HZ3.out HZ4.out HR.out).mono ?_
 rintro e w2 ⟨rfl, hb⟩
 replace M := gnM hb M
 clear hb
 go_upto_region 7 with fail
 refine nmW (w2.alloc (.cells #[.int .i64 0, .slice none 0 0, .int .i64 0, .slice none 0 0, .int .i64 0, .slice none 0 0, .int .i64 0, .slice none 0 0] 28)) fun w3 hv => ?_
 rw [← hv]
 have ow3_ : w.heap.size + 1 + 1 < w2.heap.size := ((M.out.1)).lt
 replace M := alM hv M
 clear hv
 refine cj8 (M.out.1).d8 fun ar au av aw ax ay az ba => ?_
 refine cj16 (J1 M).1.c8 fun bb bc bd bf bg bh bi bj bk bl bm bn bo bp bq br => ?_
 go_wp2_with fail
 clear ar au av aw ax ay az ba bb bc bd bf bg bh bi bj bk bl bm bn bo bp bq br
 have hz : w.heap.size ≤ w.heap.size + 1 + 1 := by omega
 refine st8W (.int .i64 0) (.slice none 0 0) (.int .i64 0) (.slice none 0 0) (.int .i64 0) (.slice none 0 0) (.int .i64 0) (.slice none 0 0) (J1 M).1 (J4 M) hz fun w4 hv og hk hbw => ?_
 rw [← hv]
 replace M := Lib.hid (aI ((M.out.1).only og (by omega)) (aI hk (aI ((J2 M).1.only og (by omega)) (aI ((J3 M).1.only og (by omega)) hbw))))
 clear hk hbw og hv hz
 refine bodyPost_ret (results_box2 rfl _ _ (w.heap.size + 1 + 1) 28 _ _ _ rfl (J1 M).1 Tryz.underlying28 rfl (by kernel_rfl)) rfl ?_
 exact ⟨rfl, (J4 M)⟩
set_option maxRecDepth 100000 in
set_option maxHeartbeats 4000000 in
theorem play_no2 {u0 u1 u2 u3 u4 u5 u6 u7 v0 v1 v2 v3 v4 v5 v6 v7 : Value} {n1 m1 n2 m2 n3 m3 n4 m4 : Nat} {o1 o2 o3 o4 : Option Rat} {w : World} (h1 : FX w u0 u1 u2 u3 n1 m1 o1) (h2 : FX w u4 u5 u6 u7 n2 m2 o2) (h3 : FX w v0 v1 v2 v3 n3 m3 o3) (h4 : FX w v4 v5 v6 v7 n4 m4 o4) (hz1 : fewF n1 m1 = true) (hz2 : fewF n2 m2 = true) (hz3 : fewF n3 m3 = true) (hz4 : fewF n4 m4 = true) (hr : (rightX o1 o2 && rightX o3 o4) = false) :
  Calls Tryz.prog 7 #[.int .i64 2, .agg #[u0, u1, u2, u3, u4, u5, u6, u7], .agg #[v0, v1, v2, v3, v4, v5, v6, v7]] w fun e w' => e = .returned (.tuple #[.agg #[.int .i64 0, .slice none 0 0, .int .i64 0, .slice none 0 0, .int .i64 0, .slice none 0 0, .int .i64 0, .slice none 0 0], .int .i64 1]) ∧ Below w.heap.size w w' := by
 have HZ1 := Lib.hid hz1
 have HZ2 := Lib.hid hz2
 have HZ3 := Lib.hid hz3
 have HZ4 := Lib.hid hz4
 clear hz1 hz2 hz3 hz4
 have HR := Lib.hid hr; clear hr
 have H1 : Hid (FX w u0 u1 u2 u3 n1 m1 o1) := h1
 have H2 : Hid (FX w u4 u5 u6 u7 n2 m2 o2) := h2
 have H3 : Hid (FX w v0 v1 v2 v3 n3 m3 o3) := h3
 have H4 : Hid (FX w v4 v5 v6 v7 n4 m4 o4) := h4
 clear h1 h2 h3 h4
 have M : Hid (Below w.heap.size w w) := Below.refl _ _
 go_enter Tryz.func7, Tryz.ntmps7
 go_upto_region 1 with fail
 refine nmW (((w.alloc (.cells #[u0, u1, u2, u3, u4, u5, u6, u7] 28)).alloc (.cells #[v0, v1, v2, v3, v4, v5, v6, v7] 28)).alloc (.cells #[.int .i64 0, .slice none 0 0, .int .i64 0, .slice none 0 0, .int .i64 0, .slice none 0 0, .int .i64 0, .slice none 0 0] 28)) fun w1 hv => ?_
 rw [← hv]
 replace M := al3W hv M
 clear hv
 refine cj8 (J2 M).1.d8 fun aa ab ac ad ae af ag ah => ?_
 refine cj8 (J1 M).1.d8 fun ai aj ak al am ao ap aq => ?_
 go_wp2_with fail
 clear aa ab ac ad ae af ag ah ai aj ak al am ao ap aq
 refine (spMul_no (o1 := o1) (o2 := o2) (o3 := o3) (o4 := o4) (H1.out.keep (J3 M)) (H2.out.keep (J3 M)) (H3.out.keep (J3 M)) (H4.out.keep (J3 M)) HZ1.out HZ2.out HZ3.out HZ4.out HR.out).mono ?_
 rintro e w2 ⟨rfl, hb⟩
 replace M := gnM hb M
 clear hb
 go_upto_region 10 with fail
 refine nmW (w2.alloc (.cells #[.int .i64 0, .slice none 0 0, .int .i64 0, .slice none 0 0, .int .i64 0, .slice none 0 0, .int .i64 0, .slice none 0 0] 28)) fun w3 hv => ?_
 rw [← hv]
 have ow3_ : w.heap.size + 1 + 1 < w2.heap.size := ((M.out.1)).lt
 replace M := alM hv M
 clear hv
 refine cj8 (M.out.1).d8 fun ar au av aw ax ay az ba => ?_
 refine cj16 (J1 M).1.c8 fun bb bc bd bf bg bh bi bj bk bl bm bn bo bp bq br => ?_
 go_wp2_with fail
 clear ar au av aw ax ay az ba bb bc bd bf bg bh bi bj bk bl bm bn bo bp bq br
 have hz : w.heap.size ≤ w.heap.size + 1 + 1 := by omega
 refine st8W (.int .i64 0) (.slice none 0 0) (.int .i64 0) (.slice none 0 0) (.int .i64 0) (.slice none 0 0) (.int .i64 0) (.slice none 0 0) (J1 M).1 (J4 M) hz fun w4 hv og hk hbw => ?_
 rw [← hv]
 replace M := Lib.hid (aI ((M.out.1).only og (by omega)) (aI hk (aI ((J2 M).1.only og (by omega)) (aI ((J3 M).1.only og (by omega)) hbw))))
 clear hk hbw og hv hz
 refine bodyPost_ret (results_box2 rfl _ _ (w.heap.size + 1 + 1) 28 _ _ _ rfl (J1 M).1 Tryz.underlying28 rfl (by kernel_rfl)) rfl ?_
 exact ⟨rfl, (J4 M)⟩
set_option maxRecDepth 100000 in
set_option maxHeartbeats 4000000 in
theorem play_no3 {u0 u1 u2 u3 u4 u5 u6 u7 v0 v1 v2 v3 v4 v5 v6 v7 : Value} {n1 m1 n2 m2 n3 m3 n4 m4 : Nat} {o1 o2 o3 o4 : Option Rat} {w : World} (h1 : FX w u0 u1 u2 u3 n1 m1 o1) (h2 : FX w u4 u5 u6 u7 n2 m2 o2) (h3 : FX w v0 v1 v2 v3 n3 m3 o3) (h4 : FX w v4 v5 v6 v7 n4 m4 o4) (hz1 : fewF n1 m1 = true) (hz2 : fewF n2 m2 = true) (hz3 : fewF n3 m3 = true) (hz4 : fewF n4 m4 = true) (hr : (rightX o1 o2 && rightX o3 o4) = false) :
  Calls Tryz.prog 7 #[.int .i64 3, .agg #[u0, u1, u2, u3, u4, u5, u6, u7], .agg #[v0, v1, v2, v3, v4, v5, v6, v7]] w fun e w' => e = .returned (.tuple #[.agg #[.int .i64 0, .slice none 0 0, .int .i64 0, .slice none 0 0, .int .i64 0, .slice none 0 0, .int .i64 0, .slice none 0 0], .int .i64 1]) ∧ Below w.heap.size w w' := by
 have HZ1 := Lib.hid hz1
 have HZ2 := Lib.hid hz2
 have HZ3 := Lib.hid hz3
 have HZ4 := Lib.hid hz4
 clear hz1 hz2 hz3 hz4
 have HR := Lib.hid hr; clear hr
 have H1 : Hid (FX w u0 u1 u2 u3 n1 m1 o1) := h1
 have H2 : Hid (FX w u4 u5 u6 u7 n2 m2 o2) := h2
 have H3 : Hid (FX w v0 v1 v2 v3 n3 m3 o3) := h3
 have H4 : Hid (FX w v4 v5 v6 v7 n4 m4 o4) := h4
 clear h1 h2 h3 h4
 have M : Hid (Below w.heap.size w w) := Below.refl _ _
 go_enter Tryz.func7, Tryz.ntmps7
 go_upto_region 1 with fail
 refine nmW (((w.alloc (.cells #[u0, u1, u2, u3, u4, u5, u6, u7] 28)).alloc (.cells #[v0, v1, v2, v3, v4, v5, v6, v7] 28)).alloc (.cells #[.int .i64 0, .slice none 0 0, .int .i64 0, .slice none 0 0, .int .i64 0, .slice none 0 0, .int .i64 0, .slice none 0 0] 28)) fun w1 hv => ?_
 rw [← hv]
 replace M := al3W hv M
 clear hv
 refine cj8 (J2 M).1.d8 fun aa ab ac ad ae af ag ah => ?_
 refine cj8 (J1 M).1.d8 fun ai aj ak al am ao ap aq => ?_
 go_wp2_with fail
 clear aa ab ac ad ae af ag ah ai aj ak al am ao ap aq
 refine (spDiv_no (o1 := o1) (o2 := o2) (o3 := o3) (o4 := o4) (H1.out.keep (J3 M)) (H2.out.keep (J3 M)) (H3.out.keep (J3 M)) (H4.out.keep (J3 M)) HZ1.out HZ2.out HZ3.out HZ4.out HR.out).mono ?_
 rintro e w2 ⟨rfl, hb⟩
 replace M := gnM hb M
 clear hb
 go_upto_region 13 with fail
 refine nmW (w2.alloc (.cells #[.int .i64 0, .slice none 0 0, .int .i64 0, .slice none 0 0, .int .i64 0, .slice none 0 0, .int .i64 0, .slice none 0 0] 28)) fun w3 hv => ?_
 rw [← hv]
 have ow3_ : w.heap.size + 1 + 1 < w2.heap.size := ((M.out.1)).lt
 replace M := alM hv M
 clear hv
 refine cj8 (M.out.1).d8 fun ar au av aw ax ay az ba => ?_
 refine cj16 (J1 M).1.c8 fun bb bc bd bf bg bh bi bj bk bl bm bn bo bp bq br => ?_
 go_wp2_with fail
 clear ar au av aw ax ay az ba bb bc bd bf bg bh bi bj bk bl bm bn bo bp bq br
 have hz : w.heap.size ≤ w.heap.size + 1 + 1 := by omega
 refine st8W (.int .i64 0) (.slice none 0 0) (.int .i64 0) (.slice none 0 0) (.int .i64 0) (.slice none 0 0) (.int .i64 0) (.slice none 0 0) (J1 M).1 (J4 M) hz fun w4 hv og hk hbw => ?_
 rw [← hv]
 replace M := Lib.hid (aI ((M.out.1).only og (by omega)) (aI hk (aI ((J2 M).1.only og (by omega)) (aI ((J3 M).1.only og (by omega)) hbw))))
 clear hk hbw og hv hz
 refine bodyPost_ret (results_box2 rfl _ _ (w.heap.size + 1 + 1) 28 _ _ _ rfl (J1 M).1 Tryz.underlying28 rfl (by kernel_rfl)) rfl ?_
 exact ⟨rfl, (J4 M)⟩
set_option maxRecDepth 100000 in
set_option maxHeartbeats 4000000 in
theorem play_no4 {u0 u1 u2 u3 u4 u5 u6 u7 v0 v1 v2 v3 v4 v5 v6 v7 : Value} {n1 m1 n2 m2 n3 m3 n4 m4 : Nat} {o1 o2 o3 o4 : Option Rat} {w : World} (h1 : FX w u0 u1 u2 u3 n1 m1 o1) (h2 : FX w u4 u5 u6 u7 n2 m2 o2) (h3 : FX w v0 v1 v2 v3 n3 m3 o3) (h4 : FX w v4 v5 v6 v7 n4 m4 o4) (hz1 : fewF n1 m1 = true) (hz2 : fewF n2 m2 = true) (hz3 : fewF n3 m3 = true) (hz4 : fewF n4 m4 = true) (hr : (rightX o1 o2 && rightX o3 o4) = false) :
  Calls Tryz.prog 7 #[.int .i64 4, .agg #[u0, u1, u2, u3, u4, u5, u6, u7], .agg #[v0, v1, v2, v3, v4, v5, v6, v7]] w fun e w' => e = .returned (.tuple #[.agg #[.int .i64 0, .slice none 0 0, .int .i64 0, .slice none 0 0, .int .i64 0, .slice none 0 0, .int .i64 0, .slice none 0 0], .int .i64 1]) ∧ Below w.heap.size w w' := by
 have HZ1 := Lib.hid hz1
 have HZ2 := Lib.hid hz2
 have HZ3 := Lib.hid hz3
 have HZ4 := Lib.hid hz4
 clear hz1 hz2 hz3 hz4
 have HR := Lib.hid hr; clear hr
 have H1 : Hid (FX w u0 u1 u2 u3 n1 m1 o1) := h1
 have H2 : Hid (FX w u4 u5 u6 u7 n2 m2 o2) := h2
 have H3 : Hid (FX w v0 v1 v2 v3 n3 m3 o3) := h3
 have H4 : Hid (FX w v4 v5 v6 v7 n4 m4 o4) := h4
 clear h1 h2 h3 h4
 have M : Hid (Below w.heap.size w w) := Below.refl _ _
 go_enter Tryz.func7, Tryz.ntmps7
 go_upto_region 1 with fail
 refine nmW (((w.alloc (.cells #[u0, u1, u2, u3, u4, u5, u6, u7] 28)).alloc (.cells #[v0, v1, v2, v3, v4, v5, v6, v7] 28)).alloc (.cells #[.int .i64 0, .slice none 0 0, .int .i64 0, .slice none 0 0, .int .i64 0, .slice none 0 0, .int .i64 0, .slice none 0 0] 28)) fun w1 hv => ?_
 rw [← hv]
 replace M := al3W hv M
 clear hv
 refine cj8 (J2 M).1.d8 fun aa ab ac ad ae af ag ah => ?_
 refine cj8 (J1 M).1.d8 fun ai aj ak al am ao ap aq => ?_
 go_wp2_with fail
 clear aa ab ac ad ae af ag ah ai aj ak al am ao ap aq
 refine (spMin_no (o1 := o1) (o2 := o2) (o3 := o3) (o4 := o4) (H1.out.keep (J3 M)) (H2.out.keep (J3 M)) (H3.out.keep (J3 M)) (H4.out.keep (J3 M)) HZ1.out HZ2.out HZ3.out HZ4.out HR.out).mono ?_
 rintro e w2 ⟨rfl, hb⟩
 replace M := gnM hb M
 clear hb
 go_upto_region 16 with fail
 refine nmW (w2.alloc (.cells #[.int .i64 0, .slice none 0 0, .int .i64 0, .slice none 0 0, .int .i64 0, .slice none 0 0, .int .i64 0, .slice none 0 0] 28)) fun w3 hv => ?_
 rw [← hv]
 have ow3_ : w.heap.size + 1 + 1 < w2.heap.size := ((M.out.1)).lt
 replace M := alM hv M
 clear hv
 refine cj8 (M.out.1).d8 fun ar au av aw ax ay az ba => ?_
 refine cj16 (J1 M).1.c8 fun bb bc bd bf bg bh bi bj bk bl bm bn bo bp bq br => ?_
 go_wp2_with fail
 clear ar au av aw ax ay az ba bb bc bd bf bg bh bi bj bk bl bm bn bo bp bq br
 have hz : w.heap.size ≤ w.heap.size + 1 + 1 := by omega
 refine st8W (.int .i64 0) (.slice none 0 0) (.int .i64 0) (.slice none 0 0) (.int .i64 0) (.slice none 0 0) (.int .i64 0) (.slice none 0 0) (J1 M).1 (J4 M) hz fun w4 hv og hk hbw => ?_
 rw [← hv]
 replace M := Lib.hid (aI ((M.out.1).only og (by omega)) (aI hk (aI ((J2 M).1.only og (by omega)) (aI ((J3 M).1.only og (by omega)) hbw))))
 clear hk hbw og hv hz
 refine bodyPost_ret (results_box2 rfl _ _ (w.heap.size + 1 + 1) 28 _ _ _ rfl (J1 M).1 Tryz.underlying28 rfl (by kernel_rfl)) rfl ?_
 exact ⟨rfl, (J4 M)⟩
set_option maxRecDepth 100000 in
set_option maxHeartbeats 4000000 in
theorem play_no5 {u0 u1 u2 u3 u4 u5 u6 u7 v0 v1 v2 v3 v4 v5 v6 v7 : Value} {n1 m1 n2 m2 n3 m3 n4 m4 : Nat} {o1 o2 o3 o4 : Option Rat} {w : World} (h1 : FX w u0 u1 u2 u3 n1 m1 o1) (h2 : FX w u4 u5 u6 u7 n2 m2 o2) (h3 : FX w v0 v1 v2 v3 n3 m3 o3) (h4 : FX w v4 v5 v6 v7 n4 m4 o4) (hz1 : fewF n1 m1 = true) (hz2 : fewF n2 m2 = true) (hz3 : fewF n3 m3 = true) (hz4 : fewF n4 m4 = true) (hr : (rightX o1 o2 && rightX o3 o4) = false) :
  Calls Tryz.prog 7 #[.int .i64 5, .agg #[u0, u1, u2, u3, u4, u5, u6, u7], .agg #[v0, v1, v2, v3, v4, v5, v6, v7]] w fun e w' => e = .returned (.tuple #[.agg #[.int .i64 0, .slice none 0 0, .int .i64 0, .slice none 0 0, .int .i64 0, .slice none 0 0, .int .i64 0, .slice none 0 0], .int .i64 1]) ∧ Below w.heap.size w w' := by
 have HZ1 := Lib.hid hz1
 have HZ2 := Lib.hid hz2
 have HZ3 := Lib.hid hz3
 have HZ4 := Lib.hid hz4
 clear hz1 hz2 hz3 hz4
 have HR := Lib.hid hr; clear hr
 have H1 : Hid (FX w u0 u1 u2 u3 n1 m1 o1) := h1
 have H2 : Hid (FX w u4 u5 u6 u7 n2 m2 o2) := h2
 have H3 : Hid (FX w v0 v1 v2 v3 n3 m3 o3) := h3
 have H4 : Hid (FX w v4 v5 v6 v7 n4 m4 o4) := h4
 clear h1 h2 h3 h4
 have M : Hid (Below w.heap.size w w) := Below.refl _ _
 go_enter Tryz.func7, Tryz.ntmps7
 go_upto_region 1 with fail
 refine nmW (((w.alloc (.cells #[u0, u1, u2, u3, u4, u5, u6, u7] 28)).alloc (.cells #[v0, v1, v2, v3, v4, v5, v6, v7] 28)).alloc (.cells #[.int .i64 0, .slice none 0 0, .int .i64 0, .slice none 0 0, .int .i64 0, .slice none 0 0, .int .i64 0, .slice none 0 0] 28)) fun w1 hv => ?_
 rw [← hv]
 replace M := al3W hv M
 clear hv
 refine cj8 (J2 M).1.d8 fun aa ab ac ad ae af ag ah => ?_
 refine cj8 (J1 M).1.d8 fun ai aj ak al am ao ap aq => ?_
 go_wp2_with fail
 clear aa ab ac ad ae af ag ah ai aj ak al am ao ap aq
 refine (spMax_no (o1 := o1) (o2 := o2) (o3 := o3) (o4 := o4) (H1.out.keep (J3 M)) (H2.out.keep (J3 M)) (H3.out.keep (J3 M)) (H4.out.keep (J3 M)) HZ1.out HZ2.out HZ3.out HZ4.out HR.out).mono ?_
 rintro e w2 ⟨rfl, hb⟩
 replace M := gnM hb M
 clear hb
 go_upto_region 18 with fail
 refine nmW (w2.alloc (.cells #[.int .i64 0, .slice none 0 0, .int .i64 0, .slice none 0 0, .int .i64 0, .slice none 0 0, .int .i64 0, .slice none 0 0] 28)) fun w3 hv => ?_
 rw [← hv]
 have ow3_ : w.heap.size + 1 + 1 < w2.heap.size := ((M.out.1)).lt
 replace M := alM hv M
 clear hv
 refine cj8 (M.out.1).d8 fun ar au av aw ax ay az ba => ?_
 refine cj16 (J1 M).1.c8 fun bb bc bd bf bg bh bi bj bk bl bm bn bo bp bq br => ?_
 go_wp2_with fail
 clear ar au av aw ax ay az ba bb bc bd bf bg bh bi bj bk bl bm bn bo bp bq br
 have hz : w.heap.size ≤ w.heap.size + 1 + 1 := by omega
 refine st8W (.int .i64 0) (.slice none 0 0) (.int .i64 0) (.slice none 0 0) (.int .i64 0) (.slice none 0 0) (.int .i64 0) (.slice none 0 0) (J1 M).1 (J4 M) hz fun w4 hv og hk hbw => ?_
 rw [← hv]
 replace M := Lib.hid (aI ((M.out.1).only og (by omega)) (aI hk (aI ((J2 M).1.only og (by omega)) (aI ((J3 M).1.only og (by omega)) hbw))))
 clear hk hbw og hv hz
 refine bodyPost_ret (results_box2 rfl _ _ (w.heap.size + 1 + 1) 28 _ _ _ rfl (J1 M).1 Tryz.underlying28 rfl (by kernel_rfl)) rfl ?_
 exact ⟨rfl, (J4 M)⟩
theorem play_no {u0 u1 u2 u3 u4 u5 u6 u7 v0 v1 v2 v3 v4 v5 v6 v7 : Value} {n1 m1 n2 m2 n3 m3 n4 m4 : Nat} {o1 o2 o3 o4 : Option Rat} {k : Nat} {i : Int} {w : World} (h1 : FX w u0 u1 u2 u3 n1 m1 o1) (h2 : FX w u4 u5 u6 u7 n2 m2 o2) (h3 : FX w v0 v1 v2 v3 n3 m3 o3) (h4 : FX w v4 v5 v6 v7 n4 m4 o4) (hz1 : fewF n1 m1 = true) (hz2 : fewF n2 m2 = true) (hz3 : fewF n3 m3 = true) (hz4 : fewF n4 m4 = true) (hr : (rightX o1 o2 && rightX o3 o4) = false) (hk : k < 6) (hi : (k : Int) = i) :
  Calls Tryz.prog 7 #[.int .i64 i, .agg #[u0, u1, u2, u3, u4, u5, u6, u7], .agg #[v0, v1, v2, v3, v4, v5, v6, v7]] w fun e w' => e = .returned (.tuple #[.agg #[.int .i64 0, .slice none 0 0, .int .i64 0, .slice none 0 0, .int .i64 0, .slice none 0 0, .int .i64 0, .slice none 0 0], .int .i64 1]) ∧ Below w.heap.size w w' := by
 subst hi
 match k, hk with
 | 0, _ => exact play_no0 h1 h2 h3 h4 hz1 hz2 hz3 hz4 hr
 | 1, _ => exact play_no1 h1 h2 h3 h4 hz1 hz2 hz3 hz4 hr
 | 2, _ => exact play_no2 h1 h2 h3 h4 hz1 hz2 hz3 hz4 hr
 | 3, _ => exact play_no3 h1 h2 h3 h4 hz1 hz2 hz3 hz4 hr
 | 4, _ => exact play_no4 h1 h2 h3 h4 hz1 hz2 hz3 hz4 hr
 | 5, _ => exact play_no5 h1 h2 h3 h4 hz1 hz2 hz3 hz4 hr
 | k + 6, hk => omega
end Go.Proofs.YtjbfngjlepafgaaGreat
