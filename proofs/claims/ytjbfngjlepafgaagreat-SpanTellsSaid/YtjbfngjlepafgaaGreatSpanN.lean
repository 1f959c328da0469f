/- Spans that are not right: refusals. -/
import Derived.Test.YtjbfngjlepafgaaGreatBase
import Derived.Test.YtjbfngjlepafgaaGreatBigSpec
import Derived.Test.YtjbfngjlepafgaaGreatBigB
import Derived.Test.YtjbfngjlepafgaaGreatBigD
import Derived.Test.YtjbfngjlepafgaaGreatBigQ
import Derived.Test.YtjbfngjlepafgaaGreatFracA
import Derived.Test.YtjbfngjlepafgaaGreatFz
import Derived.Test.YtjbfngjlepafgaaGreatAw
import Derived.Test.YtjbfngjlepafgaaGreatRefO
import Derived.Test.YtjbfngjlepafgaaGreatFq
import Derived.Test.YtjbfngjlepafgaaGreatRefY
import Derived.Test.YtjbfngjlepafgaaGreatOwn
import Derived.Test.YtjbfngjlepafgaaGreatRefSpA
import Derived.Test.YtjbfngjlepafgaaGreatRefSpC
import Derived.Test.YtjbfngjlepafgaaGreatProg
import Derived.Test.YtjbfngjlepafgaaGreatShelf
import Derived.WalkKit
import Derived.WalkSpells
import Derived.WalkLawsBesides
import Derived.Handy
import Derived.Lib.Hide
import Derived.Lib.Strings
import Derived.Lib.Builder
import Derived.BigQuiet
import Derived.OwnWalk
import Derived.Laws.BitsLemmas
import Derived.WalkSmall
import Derived.Deep.QuietTactic
import Derived.StillTailTactics
import Derived.Maps.AppendAt
import Derived.IntWalk
import Derived.Deep.RegionHeld3
import Derived.Deep.DeepFit
import Derived.Deep.LoopGhost
import Derived.Deep.DeepCutAuto
import Derived.Lib.ItoaNum
import Derived.Lib.Repeat
import Derived.Lib.AppendIntMem
import Derived.Sort.OwnSorted
import Derived.Shelf.Strings.SlTrimAscii
import Derived.Lib.ConvBytes
import Derived.Lib.CutLaws
namespace Go.Proofs.YtjbfngjlepafgaaGreat
open Go.RowKit Go.Lib
variable {G : Nat}

theorem fx_zero (w : World) : FX w (.int .i64 0) (.slice none 0 0) (.int .i64 0) (.slice none 0 0) 0 0 none :=
 ⟨0, none, 0, 0, none, 0, [], [], rfl, rfl, rfl, rfl, rfl, rfl, ⟨rdZ_nil _ _ _, rdZ_nil _ _ _, Nat.zero_le _, Nat.zero_le _⟩, .inl ⟨rfl, rfl⟩⟩
set_option maxRecDepth 100000 in
set_option maxHeartbeats 4000000 in
theorem rsrightx_1 {u0 u1 u2 u3 u4 u5 u6 u7 : Value} {n1 m1 n2 m2 : Nat} {o1 o2 : Option Rat} {w : World} (h1 : FX w u0 u1 u2 u3 n1 m1 o1) (h2 : FX w u4 u5 u6 u7 n2 m2 o2) (hz1 : fewF n1 m1 = true) (ho : o1.isSome = false) :
  Calls Tryz.prog 15 #[.agg #[u0, u1, u2, u3, u4, u5, u6, u7]] w fun e w' => e = .returned (.bool false) ∧ Below w.heap.size w w' := by
 have k1 := few_le hz1
 have HO := Lib.hid ho; clear ho hz1
 have H1 : Hid (FX w u0 u1 u2 u3 n1 m1 o1) := h1
 have H2 : Hid (FX w u4 u5 u6 u7 n2 m2 o2) := h2
 clear h1 h2
 have M : Hid (Below w.heap.size w w) := Below.refl _ _
 go_enter Tryz.func15, Tryz.ntmps15
 go_upto_region 1 with fail
 refine nmW (w.alloc (.cells #[u0, u1, u2, u3, u4, u5, u6, u7] 28)) fun w1 hv => ?_
 rw [← hv]
 replace M := alM hv M
 clear hv
 refine cj8 (M.out.1).d8 fun aa ab ac ad ae af ag ah => ?_
 go_wp2_with fail
 clear aa ab ac ad ae af ag ah
 refine (fyRight_ok (o := o1) (b_ := false) (H1.out.keep (J1 M)) (by omega) (by omega) HO.out).mono ?_
 rintro e w2 ⟨rfl, hb⟩
 replace M := gnM hb M
 clear hb
 go_wp2_with fail
 go_ret
 exact ⟨rfl, (J1 M)⟩
set_option maxRecDepth 100000 in
set_option maxHeartbeats 4000000 in
theorem rsrightx_2 {u0 u1 u2 u3 u4 u5 u6 u7 : Value} {n1 m1 n2 m2 : Nat} {o1 o2 : Option Rat} {w : World} (h1 : FX w u0 u1 u2 u3 n1 m1 o1) (h2 : FX w u4 u5 u6 u7 n2 m2 o2) (hz1 : fewF n1 m1 = true) (hz2 : fewF n2 m2 = true) (ho : o1.isSome = true) (ho2 : o2.isSome = false) :
  Calls Tryz.prog 15 #[.agg #[u0, u1, u2, u3, u4, u5, u6, u7]] w fun e w' => e = .returned (.bool false) ∧ Below w.heap.size w w' := by
 have k1 := few_le hz1; have k2 := few_le hz2
 have HO := Lib.hid ho; have HO2 := Lib.hid ho2; clear ho ho2 hz1 hz2
 have H1 : Hid (FX w u0 u1 u2 u3 n1 m1 o1) := h1
 have H2 : Hid (FX w u4 u5 u6 u7 n2 m2 o2) := h2
 clear h1 h2
 have M : Hid (Below w.heap.size w w) := Below.refl _ _
 go_enter Tryz.func15, Tryz.ntmps15
 go_upto_region 1 with fail
 refine nmW (w.alloc (.cells #[u0, u1, u2, u3, u4, u5, u6, u7] 28)) fun w1 hv => ?_
 rw [← hv]
 replace M := alM hv M
 clear hv
 refine cj8 (M.out.1).d8 fun aa ab ac ad ae af ag ah => ?_
 go_wp2_with fail
 clear aa ab ac ad ae af ag ah
 refine (fyRight_ok (o := o1) (b_ := true) (H1.out.keep (J1 M)) (by omega) (by omega) HO.out).mono ?_
 rintro e w2 ⟨rfl, hb⟩
 replace M := gnM hb M
 clear hb
 refine cj8 (M.out.1).d8 fun aa ab ac ad ae af ag ah => ?_
 go_wp2_with fail
 clear aa ab ac ad ae af ag ah
 refine (fyRight_ok (o := o2) (b_ := false) (H2.out.keep (J1 M)) (by omega) (by omega) HO2.out).mono ?_
 rintro e w3 ⟨rfl, hb⟩
 replace M := gnM hb M
 clear hb
 go_wp2_with fail
 go_ret
 exact ⟨rfl, (J1 M)⟩
theorem rsRight_x {u0 u1 u2 u3 u4 u5 u6 u7 : Value} {n1 m1 n2 m2 : Nat} {o1 o2 : Option Rat} {b_ : Bool} {w : World} (h1 : FX w u0 u1 u2 u3 n1 m1 o1) (h2 : FX w u4 u5 u6 u7 n2 m2 o2) (hz1 : fewF n1 m1 = true) (hz2 : fewF n2 m2 = true) (hb : rightX o1 o2 = b_) :
  Calls Tryz.prog 15 #[.agg #[u0, u1, u2, u3, u4, u5, u6, u7]] w fun e w' => e = .returned (.bool b_) ∧ Below w.heap.size w w' := by
 have k1 := few_le hz1
 have k2 := few_le hz2
 subst hb
 cases o1 with
 | none => exact rsrightx_1 h1 h2 hz1 rfl
 | some p =>
  cases o2 with
  | none => exact rsrightx_2 h1 h2 hz1 hz2 rfl rfl
  | some q => exact rsRight_q h1.fq h2.fq (h1.fz (by omega) (by omega)) (h2.fz (by omega) (by omega)) rfl
set_option maxRecDepth 100000 in
set_option maxHeartbeats 4000000 in
theorem spAdd_no1 {u0 u1 u2 u3 u4 u5 u6 u7 v0 v1 v2 v3 v4 v5 v6 v7 : Value} {n1 m1 n2 m2 : Nat} {o1 o2 : Option Rat} {w : World} (h1 : FX w u0 u1 u2 u3 n1 m1 o1) (h2 : FX w u4 u5 u6 u7 n2 m2 o2) (hz1 : fewF n1 m1 = true) (hz2 : fewF n2 m2 = true) (hr : rightX o1 o2 = false) :
  Calls Tryz.prog 28 #[.agg #[u0, u1, u2, u3, u4, u5, u6, u7], .agg #[v0, v1, v2, v3, v4, v5, v6, v7]] w fun e w' => e = .returned (.tuple #[.agg #[.int .i64 0, .slice none 0 0, .int .i64 0, .slice none 0 0, .int .i64 0, .slice none 0 0, .int .i64 0, .slice none 0 0], .int .i64 1]) ∧ Below w.heap.size w w' := by
 have HZ1 := Lib.hid hz1
 have HZ2 := Lib.hid hz2
 clear hz1 hz2
 have HR := Lib.hid hr; clear hr
 have H1 : Hid (FX w u0 u1 u2 u3 n1 m1 o1) := h1
 have H2 : Hid (FX w u4 u5 u6 u7 n2 m2 o2) := h2
 clear h1 h2
 have M : Hid (Below w.heap.size w w) := Below.refl _ _
 go_enter Tryz.func28, Tryz.ntmps28
 go_upto_region 1 with fail
 refine nmW (((w.alloc (.cells #[u0, u1, u2, u3, u4, u5, u6, u7] 28)).alloc (.cells #[v0, v1, v2, v3, v4, v5, v6, v7] 28)).alloc (.cells #[.int .i64 0, .slice none 0 0, .int .i64 0, .slice none 0 0, .int .i64 0, .slice none 0 0, .int .i64 0, .slice none 0 0] 28)) fun w1 hv => ?_
 rw [← hv]
 replace M := al3W hv M
 clear hv
 refine cj8 (J2 M).1.d8 fun aa ab ac ad ae af ag ah => ?_
 go_wp2_with fail
 clear aa ab ac ad ae af ag ah
 refine (spRight_x (o1 := o1) (o2 := o2) (b_ := false) (H1.out.keep (J3 M)) (H2.out.keep (J3 M)) HZ1.out HZ2.out HR.out).mono ?_
 rintro e w2 ⟨rfl, hb⟩
 replace M := gnM hb M
 clear hb
 refine cj16 (M.out.1).c8 fun ai aj ak al am ao ap aq ar au av aw ax ay az ba => ?_
 go_wp2_with fail
 clear ai aj ak al am ao ap aq ar au av aw ax ay az ba
 have hz : w.heap.size ≤ w.heap.size + 1 + 1 := by omega
 refine st8W (.int .i64 0) (.slice none 0 0) (.int .i64 0) (.slice none 0 0) (.int .i64 0) (.slice none 0 0) (.int .i64 0) (.slice none 0 0) (M.out.1) (J3 M) hz fun w3 hv og hk hbw => ?_
 rw [← hv]
 replace M := Lib.hid (aI hk (aI ((J1 M).1.only og (by omega)) (aI ((J2 M).1.only og (by omega)) hbw)))
 clear hk hbw og hv hz
 refine bodyPost_ret (results_box2 rfl _ _ (w.heap.size + 1 + 1) 28 _ _ _ rfl (M.out.1) Tryz.underlying28 rfl (by kernel_rfl)) rfl ?_
 exact ⟨rfl, (J3 M)⟩
set_option maxRecDepth 100000 in
set_option maxHeartbeats 4000000 in
theorem spAdd_no2 {u0 u1 u2 u3 u4 u5 u6 u7 v0 v1 v2 v3 v4 v5 v6 v7 : Value} {n1 m1 n2 m2 n3 m3 n4 m4 : Nat} {o1 o2 o3 o4 : Option Rat} {w : World} (h1 : FX w u0 u1 u2 u3 n1 m1 o1) (h2 : FX w u4 u5 u6 u7 n2 m2 o2) (h3 : FX w v0 v1 v2 v3 n3 m3 o3) (h4 : FX w v4 v5 v6 v7 n4 m4 o4) (hz1 : fewF n1 m1 = true) (hz2 : fewF n2 m2 = true) (hz3 : fewF n3 m3 = true) (hz4 : fewF n4 m4 = true) (hr : rightX o1 o2 = true) (hr2 : rightX o3 o4 = false) :
  Calls Tryz.prog 28 #[.agg #[u0, u1, u2, u3, u4, u5, u6, u7], .agg #[v0, v1, v2, v3, v4, v5, v6, v7]] w fun e w' => e = .returned (.tuple #[.agg #[.int .i64 0, .slice none 0 0, .int .i64 0, .slice none 0 0, .int .i64 0, .slice none 0 0, .int .i64 0, .slice none 0 0], .int .i64 1]) ∧ Below w.heap.size w w' := by
 have HZ1 := Lib.hid hz1
 have HZ2 := Lib.hid hz2
 have HZ3 := Lib.hid hz3
 have HZ4 := Lib.hid hz4
 clear hz1 hz2 hz3 hz4
 have HR := Lib.hid hr; have HR2 := Lib.hid hr2; clear hr hr2
 have H1 : Hid (FX w u0 u1 u2 u3 n1 m1 o1) := h1
 have H2 : Hid (FX w u4 u5 u6 u7 n2 m2 o2) := h2
 have H3 : Hid (FX w v0 v1 v2 v3 n3 m3 o3) := h3
 have H4 : Hid (FX w v4 v5 v6 v7 n4 m4 o4) := h4
 clear h1 h2 h3 h4
 have M : Hid (Below w.heap.size w w) := Below.refl _ _
 go_enter Tryz.func28, Tryz.ntmps28
 go_upto_region 1 with fail
 refine nmW (((w.alloc (.cells #[u0, u1, u2, u3, u4, u5, u6, u7] 28)).alloc (.cells #[v0, v1, v2, v3, v4, v5, v6, v7] 28)).alloc (.cells #[.int .i64 0, .slice none 0 0, .int .i64 0, .slice none 0 0, .int .i64 0, .slice none 0 0, .int .i64 0, .slice none 0 0] 28)) fun w1 hv => ?_
 rw [← hv]
 replace M := al3W hv M
 clear hv
 refine cj8 (J2 M).1.d8 fun aa ab ac ad ae af ag ah => ?_
 go_wp2_with fail
 clear aa ab ac ad ae af ag ah
 refine (spRight_x (o1 := o1) (o2 := o2) (b_ := true) (H1.out.keep (J3 M)) (H2.out.keep (J3 M)) HZ1.out HZ2.out HR.out).mono ?_
 rintro e w2 ⟨rfl, hb⟩
 replace M := gnM hb M
 clear hb
 refine cj8 (J1 M).1.d8 fun ai aj ak al am ao ap aq => ?_
 go_wp2_with fail
 clear ai aj ak al am ao ap aq
 refine (spRight_x (o1 := o3) (o2 := o4) (b_ := false) (H3.out.keep (J3 M)) (H4.out.keep (J3 M)) HZ3.out HZ4.out HR2.out).mono ?_
 rintro e w3 ⟨rfl, hb⟩
 replace M := gnM hb M
 clear hb
 refine cj16 (M.out.1).c8 fun ar au av aw ax ay az ba bb bc bd bf bg bh bi bj => ?_
 go_wp2_with fail
 clear ar au av aw ax ay az ba bb bc bd bf bg bh bi bj
 have hz : w.heap.size ≤ w.heap.size + 1 + 1 := by omega
 refine st8W (.int .i64 0) (.slice none 0 0) (.int .i64 0) (.slice none 0 0) (.int .i64 0) (.slice none 0 0) (.int .i64 0) (.slice none 0 0) (M.out.1) (J3 M) hz fun w4 hv og hk hbw => ?_
 rw [← hv]
 replace M := Lib.hid (aI hk (aI ((J1 M).1.only og (by omega)) (aI ((J2 M).1.only og (by omega)) hbw)))
 clear hk hbw og hv hz
 refine bodyPost_ret (results_box2 rfl _ _ (w.heap.size + 1 + 1) 28 _ _ _ rfl (M.out.1) Tryz.underlying28 rfl (by kernel_rfl)) rfl ?_
 exact ⟨rfl, (J3 M)⟩
theorem spAdd_no {u0 u1 u2 u3 u4 u5 u6 u7 v0 v1 v2 v3 v4 v5 v6 v7 : Value} {n1 m1 n2 m2 n3 m3 n4 m4 : Nat} {o1 o2 o3 o4 : Option Rat} {w : World} (h1 : FX w u0 u1 u2 u3 n1 m1 o1) (h2 : FX w u4 u5 u6 u7 n2 m2 o2) (h3 : FX w v0 v1 v2 v3 n3 m3 o3) (h4 : FX w v4 v5 v6 v7 n4 m4 o4) (hz1 : fewF n1 m1 = true) (hz2 : fewF n2 m2 = true) (hz3 : fewF n3 m3 = true) (hz4 : fewF n4 m4 = true) (hr : (rightX o1 o2 && rightX o3 o4) = false) :
  Calls Tryz.prog 28 #[.agg #[u0, u1, u2, u3, u4, u5, u6, u7], .agg #[v0, v1, v2, v3, v4, v5, v6, v7]] w fun e w' => e = .returned (.tuple #[.agg #[.int .i64 0, .slice none 0 0, .int .i64 0, .slice none 0 0, .int .i64 0, .slice none 0 0, .int .i64 0, .slice none 0 0], .int .i64 1]) ∧ Below w.heap.size w w' := by
 cases h : rightX o1 o2 with
 | false => exact spAdd_no1 h1 h2 hz1 hz2 h
 | true => rw [h] at hr; exact spAdd_no2 h1 h2 h3 h4 hz1 hz2 hz3 hz4 h hr
set_option maxRecDepth 100000 in
set_option maxHeartbeats 4000000 in
theorem spMul_no1 {u0 u1 u2 u3 u4 u5 u6 u7 v0 v1 v2 v3 v4 v5 v6 v7 : Value} {n1 m1 n2 m2 : Nat} {o1 o2 : Option Rat} {w : World} (h1 : FX w u0 u1 u2 u3 n1 m1 o1) (h2 : FX w u4 u5 u6 u7 n2 m2 o2) (hz1 : fewF n1 m1 = true) (hz2 : fewF n2 m2 = true) (hr : rightX o1 o2 = false) :
  Calls Tryz.prog 31 #[.agg #[u0, u1, u2, u3, u4, u5, u6, u7], .agg #[v0, v1, v2, v3, v4, v5, v6, v7]] w fun e w' => e = .returned (.tuple #[.agg #[.int .i64 0, .slice none 0 0, .int .i64 0, .slice none 0 0, .int .i64 0, .slice none 0 0, .int .i64 0, .slice none 0 0], .int .i64 1]) ∧ Below w.heap.size w w' := by
 have HZ1 := Lib.hid hz1
 have HZ2 := Lib.hid hz2
 clear hz1 hz2
 have HR := Lib.hid hr; clear hr
 have H1 : Hid (FX w u0 u1 u2 u3 n1 m1 o1) := h1
 have H2 : Hid (FX w u4 u5 u6 u7 n2 m2 o2) := h2
 clear h1 h2
 have M : Hid (Below w.heap.size w w) := Below.refl _ _
 go_enter Tryz.func31, Tryz.ntmps31
 go_upto_region 1 with fail
 refine nmW (((w.alloc (.cells #[u0, u1, u2, u3, u4, u5, u6, u7] 28)).alloc (.cells #[v0, v1, v2, v3, v4, v5, v6, v7] 28)).alloc (.cells #[.int .i64 0, .slice none 0 0, .int .i64 0, .slice none 0 0, .int .i64 0, .slice none 0 0, .int .i64 0, .slice none 0 0] 28)) fun w1 hv => ?_
 rw [← hv]
 replace M := al3W hv M
 clear hv
 refine cj8 (J2 M).1.d8 fun aa ab ac ad ae af ag ah => ?_
 go_wp2_with fail
 clear aa ab ac ad ae af ag ah
 refine (spRight_x (o1 := o1) (o2 := o2) (b_ := false) (H1.out.keep (J3 M)) (H2.out.keep (J3 M)) HZ1.out HZ2.out HR.out).mono ?_
 rintro e w2 ⟨rfl, hb⟩
 replace M := gnM hb M
 clear hb
 refine cj16 (M.out.1).c8 fun ai aj ak al am ao ap aq ar au av aw ax ay az ba => ?_
 go_wp2_with fail
 clear ai aj ak al am ao ap aq ar au av aw ax ay az ba
 have hz : w.heap.size ≤ w.heap.size + 1 + 1 := by omega
 refine st8W (.int .i64 0) (.slice none 0 0) (.int .i64 0) (.slice none 0 0) (.int .i64 0) (.slice none 0 0) (.int .i64 0) (.slice none 0 0) (M.out.1) (J3 M) hz fun w3 hv og hk hbw => ?_
 rw [← hv]
 replace M := Lib.hid (aI hk (aI ((J1 M).1.only og (by omega)) (aI ((J2 M).1.only og (by omega)) hbw)))
 clear hk hbw og hv hz
 refine bodyPost_ret (results_box2 rfl _ _ (w.heap.size + 1 + 1) 28 _ _ _ rfl (M.out.1) Tryz.underlying28 rfl (by kernel_rfl)) rfl ?_
 exact ⟨rfl, (J3 M)⟩
set_option maxRecDepth 100000 in
set_option maxHeartbeats 4000000 in
theorem spMul_no2 {u0 u1 u2 u3 u4 u5 u6 u7 v0 v1 v2 v3 v4 v5 v6 v7 : Value} {n1 m1 n2 m2 n3 m3 n4 m4 : Nat} {o1 o2 o3 o4 : Option Rat} {w : World} (h1 : FX w u0 u1 u2 u3 n1 m1 o1) (h2 : FX w u4 u5 u6 u7 n2 m2 o2) (h3 : FX w v0 v1 v2 v3 n3 m3 o3) (h4 : FX w v4 v5 v6 v7 n4 m4 o4) (hz1 : fewF n1 m1 = true) (hz2 : fewF n2 m2 = true) (hz3 : fewF n3 m3 = true) (hz4 : fewF n4 m4 = true) (hr : rightX o1 o2 = true) (hr2 : rightX o3 o4 = false) :
  Calls Tryz.prog 31 #[.agg #[u0, u1, u2, u3, u4, u5, u6, u7], .agg #[v0, v1, v2, v3, v4, v5, v6, v7]] w fun e w' => e = .returned (.tuple #[.agg #[.int .i64 0, .slice none 0 0, .int .i64 0, .slice none 0 0, .int .i64 0, .slice none 0 0, .int .i64 0, .slice none 0 0], .int .i64 1]) ∧ Below w.heap.size w w' := by
 have HZ1 := Lib.hid hz1
 have HZ2 := Lib.hid hz2
 have HZ3 := Lib.hid hz3
 have HZ4 := Lib.hid hz4
 clear hz1 hz2 hz3 hz4
 have HR := Lib.hid hr; have HR2 := Lib.hid hr2; clear hr hr2
 have H1 : Hid (FX w u0 u1 u2 u3 n1 m1 o1) := h1
 have H2 : Hid (FX w u4 u5 u6 u7 n2 m2 o2) := h2
 have H3 : Hid (FX w v0 v1 v2 v3 n3 m3 o3) := h3
 have H4 : Hid (FX w v4 v5 v6 v7 n4 m4 o4) := h4
 clear h1 h2 h3 h4
 have M : Hid (Below w.heap.size w w) := Below.refl _ _
 go_enter Tryz.func31, Tryz.ntmps31
 go_upto_region 1 with fail
 refine nmW (((w.alloc (.cells #[u0, u1, u2, u3, u4, u5, u6, u7] 28)).alloc (.cells #[v0, v1, v2, v3, v4, v5, v6, v7] 28)).alloc (.cells #[.int .i64 0, .slice none 0 0, .int .i64 0, .slice none 0 0, .int .i64 0, .slice none 0 0, .int .i64 0, .slice none 0 0] 28)) fun w1 hv => ?_
 rw [← hv]
 replace M := al3W hv M
 clear hv
 refine cj8 (J2 M).1.d8 fun aa ab ac ad ae af ag ah => ?_
 go_wp2_with fail
 clear aa ab ac ad ae af ag ah
 refine (spRight_x (o1 := o1) (o2 := o2) (b_ := true) (H1.out.keep (J3 M)) (H2.out.keep (J3 M)) HZ1.out HZ2.out HR.out).mono ?_
 rintro e w2 ⟨rfl, hb⟩
 replace M := gnM hb M
 clear hb
 refine cj8 (J1 M).1.d8 fun ai aj ak al am ao ap aq => ?_
 go_wp2_with fail
 clear ai aj ak al am ao ap aq
 refine (spRight_x (o1 := o3) (o2 := o4) (b_ := false) (H3.out.keep (J3 M)) (H4.out.keep (J3 M)) HZ3.out HZ4.out HR2.out).mono ?_
 rintro e w3 ⟨rfl, hb⟩
 replace M := gnM hb M
 clear hb
 refine cj16 (M.out.1).c8 fun ar au av aw ax ay az ba bb bc bd bf bg bh bi bj => ?_
 go_wp2_with fail
 clear ar au av aw ax ay az ba bb bc bd bf bg bh bi bj
 have hz : w.heap.size ≤ w.heap.size + 1 + 1 := by omega
 refine st8W (.int .i64 0) (.slice none 0 0) (.int .i64 0) (.slice none 0 0) (.int .i64 0) (.slice none 0 0) (.int .i64 0) (.slice none 0 0) (M.out.1) (J3 M) hz fun w4 hv og hk hbw => ?_
 rw [← hv]
 replace M := Lib.hid (aI hk (aI ((J1 M).1.only og (by omega)) (aI ((J2 M).1.only og (by omega)) hbw)))
 clear hk hbw og hv hz
 refine bodyPost_ret (results_box2 rfl _ _ (w.heap.size + 1 + 1) 28 _ _ _ rfl (M.out.1) Tryz.underlying28 rfl (by kernel_rfl)) rfl ?_
 exact ⟨rfl, (J3 M)⟩
theorem spMul_no {u0 u1 u2 u3 u4 u5 u6 u7 v0 v1 v2 v3 v4 v5 v6 v7 : Value} {n1 m1 n2 m2 n3 m3 n4 m4 : Nat} {o1 o2 o3 o4 : Option Rat} {w : World} (h1 : FX w u0 u1 u2 u3 n1 m1 o1) (h2 : FX w u4 u5 u6 u7 n2 m2 o2) (h3 : FX w v0 v1 v2 v3 n3 m3 o3) (h4 : FX w v4 v5 v6 v7 n4 m4 o4) (hz1 : fewF n1 m1 = true) (hz2 : fewF n2 m2 = true) (hz3 : fewF n3 m3 = true) (hz4 : fewF n4 m4 = true) (hr : (rightX o1 o2 && rightX o3 o4) = false) :
  Calls Tryz.prog 31 #[.agg #[u0, u1, u2, u3, u4, u5, u6, u7], .agg #[v0, v1, v2, v3, v4, v5, v6, v7]] w fun e w' => e = .returned (.tuple #[.agg #[.int .i64 0, .slice none 0 0, .int .i64 0, .slice none 0 0, .int .i64 0, .slice none 0 0, .int .i64 0, .slice none 0 0], .int .i64 1]) ∧ Below w.heap.size w w' := by
 cases h : rightX o1 o2 with
 | false => exact spMul_no1 h1 h2 hz1 hz2 h
 | true => rw [h] at hr; exact spMul_no2 h1 h2 h3 h4 hz1 hz2 hz3 hz4 h hr
set_option maxRecDepth 100000 in
set_option maxHeartbeats 4000000 in
theorem spDiv_no1 {u0 u1 u2 u3 u4 u5 u6 u7 v0 v1 v2 v3 v4 v5 v6 v7 : Value} {n1 m1 n2 m2 : Nat} {o1 o2 : Option Rat} {w : World} (h1 : FX w u0 u1 u2 u3 n1 m1 o1) (h2 : FX w u4 u5 u6 u7 n2 m2 o2) (hz1 : fewF n1 m1 = true) (hz2 : fewF n2 m2 = true) (hr : rightX o1 o2 = false) :
  Calls Tryz.prog 32 #[.agg #[u0, u1, u2, u3, u4, u5, u6, u7], .agg #[v0, v1, v2, v3, v4, v5, v6, v7]] w fun e w' => e = .returned (.tuple #[.agg #[.int .i64 0, .slice none 0 0, .int .i64 0, .slice none 0 0, .int .i64 0, .slice none 0 0, .int .i64 0, .slice none 0 0], .int .i64 1]) ∧ Below w.heap.size w w' := by
 have HZ1 := Lib.hid hz1
 have HZ2 := Lib.hid hz2
 clear hz1 hz2
 have HR := Lib.hid hr; clear hr
 have H1 : Hid (FX w u0 u1 u2 u3 n1 m1 o1) := h1
 have H2 : Hid (FX w u4 u5 u6 u7 n2 m2 o2) := h2
 clear h1 h2
 have M : Hid (Below w.heap.size w w) := Below.refl _ _
 go_enter Tryz.func32, Tryz.ntmps32
 go_upto_region 1 with fail
 refine nmW (((w.alloc (.cells #[u0, u1, u2, u3, u4, u5, u6, u7] 28)).alloc (.cells #[v0, v1, v2, v3, v4, v5, v6, v7] 28)).alloc (.cells #[.int .i64 0, .slice none 0 0, .int .i64 0, .slice none 0 0, .int .i64 0, .slice none 0 0, .int .i64 0, .slice none 0 0] 28)) fun w1 hv => ?_
 rw [← hv]
 replace M := al3W hv M
 clear hv
 refine cj8 (J2 M).1.d8 fun aa ab ac ad ae af ag ah => ?_
 go_wp2_with fail
 clear aa ab ac ad ae af ag ah
 refine (spRight_x (o1 := o1) (o2 := o2) (b_ := false) (H1.out.keep (J3 M)) (H2.out.keep (J3 M)) HZ1.out HZ2.out HR.out).mono ?_
 rintro e w2 ⟨rfl, hb⟩
 replace M := gnM hb M
 clear hb
 refine cj16 (M.out.1).c8 fun ai aj ak al am ao ap aq ar au av aw ax ay az ba => ?_
 go_wp2_with fail
 clear ai aj ak al am ao ap aq ar au av aw ax ay az ba
 have hz : w.heap.size ≤ w.heap.size + 1 + 1 := by omega
 refine st8W (.int .i64 0) (.slice none 0 0) (.int .i64 0) (.slice none 0 0) (.int .i64 0) (.slice none 0 0) (.int .i64 0) (.slice none 0 0) (M.out.1) (J3 M) hz fun w3 hv og hk hbw => ?_
 rw [← hv]
 replace M := Lib.hid (aI hk (aI ((J1 M).1.only og (by omega)) (aI ((J2 M).1.only og (by omega)) hbw)))
 clear hk hbw og hv hz
 refine bodyPost_ret (results_box2 rfl _ _ (w.heap.size + 1 + 1) 28 _ _ _ rfl (M.out.1) Tryz.underlying28 rfl (by kernel_rfl)) rfl ?_
 exact ⟨rfl, (J3 M)⟩
set_option maxRecDepth 100000 in
set_option maxHeartbeats 4000000 in
theorem spDiv_no2 {u0 u1 u2 u3 u4 u5 u6 u7 v0 v1 v2 v3 v4 v5 v6 v7 : Value} {n1 m1 n2 m2 n3 m3 n4 m4 : Nat} {o1 o2 o3 o4 : Option Rat} {w : World} (h1 : FX w u0 u1 u2 u3 n1 m1 o1) (h2 : FX w u4 u5 u6 u7 n2 m2 o2) (h3 : FX w v0 v1 v2 v3 n3 m3 o3) (h4 : FX w v4 v5 v6 v7 n4 m4 o4) (hz1 : fewF n1 m1 = true) (hz2 : fewF n2 m2 = true) (hz3 : fewF n3 m3 = true) (hz4 : fewF n4 m4 = true) (hr : rightX o1 o2 = true) (hr2 : rightX o3 o4 = false) :
  Calls Tryz.prog 32 #[.agg #[u0, u1, u2, u3, u4, u5, u6, u7], .agg #[v0, v1, v2, v3, v4, v5, v6, v7]] w fun e w' => e = .returned (.tuple #[.agg #[.int .i64 0, .slice none 0 0, .int .i64 0, .slice none 0 0, .int .i64 0, .slice none 0 0, .int .i64 0, .slice none 0 0], .int .i64 1]) ∧ Below w.heap.size w w' := by
 have HZ1 := Lib.hid hz1
 have HZ2 := Lib.hid hz2
 have HZ3 := Lib.hid hz3
 have HZ4 := Lib.hid hz4
 clear hz1 hz2 hz3 hz4
 have HR := Lib.hid hr; have HR2 := Lib.hid hr2; clear hr hr2
 have H1 : Hid (FX w u0 u1 u2 u3 n1 m1 o1) := h1
 have H2 : Hid (FX w u4 u5 u6 u7 n2 m2 o2) := h2
 have H3 : Hid (FX w v0 v1 v2 v3 n3 m3 o3) := h3
 have H4 : Hid (FX w v4 v5 v6 v7 n4 m4 o4) := h4
 clear h1 h2 h3 h4
 have M : Hid (Below w.heap.size w w) := Below.refl _ _
 go_enter Tryz.func32, Tryz.ntmps32
 go_upto_region 1 with fail
 refine nmW (((w.alloc (.cells #[u0, u1, u2, u3, u4, u5, u6, u7] 28)).alloc (.cells #[v0, v1, v2, v3, v4, v5, v6, v7] 28)).alloc (.cells #[.int .i64 0, .slice none 0 0, .int .i64 0, .slice none 0 0, .int .i64 0, .slice none 0 0, .int .i64 0, .slice none 0 0] 28)) fun w1 hv => ?_
 rw [← hv]
 replace M := al3W hv M
 clear hv
 refine cj8 (J2 M).1.d8 fun aa ab ac ad ae af ag ah => ?_
 go_wp2_with fail
 clear aa ab ac ad ae af ag ah
 refine (spRight_x (o1 := o1) (o2 := o2) (b_ := true) (H1.out.keep (J3 M)) (H2.out.keep (J3 M)) HZ1.out HZ2.out HR.out).mono ?_
 rintro e w2 ⟨rfl, hb⟩
 replace M := gnM hb M
 clear hb
 refine cj8 (J1 M).1.d8 fun ai aj ak al am ao ap aq => ?_
 go_wp2_with fail
 clear ai aj ak al am ao ap aq
 refine (spRight_x (o1 := o3) (o2 := o4) (b_ := false) (H3.out.keep (J3 M)) (H4.out.keep (J3 M)) HZ3.out HZ4.out HR2.out).mono ?_
 rintro e w3 ⟨rfl, hb⟩
 replace M := gnM hb M
 clear hb
 refine cj16 (M.out.1).c8 fun ar au av aw ax ay az ba bb bc bd bf bg bh bi bj => ?_
 go_wp2_with fail
 clear ar au av aw ax ay az ba bb bc bd bf bg bh bi bj
 have hz : w.heap.size ≤ w.heap.size + 1 + 1 := by omega
 refine st8W (.int .i64 0) (.slice none 0 0) (.int .i64 0) (.slice none 0 0) (.int .i64 0) (.slice none 0 0) (.int .i64 0) (.slice none 0 0) (M.out.1) (J3 M) hz fun w4 hv og hk hbw => ?_
 rw [← hv]
 replace M := Lib.hid (aI hk (aI ((J1 M).1.only og (by omega)) (aI ((J2 M).1.only og (by omega)) hbw)))
 clear hk hbw og hv hz
 refine bodyPost_ret (results_box2 rfl _ _ (w.heap.size + 1 + 1) 28 _ _ _ rfl (M.out.1) Tryz.underlying28 rfl (by kernel_rfl)) rfl ?_
 exact ⟨rfl, (J3 M)⟩
theorem spDiv_no {u0 u1 u2 u3 u4 u5 u6 u7 v0 v1 v2 v3 v4 v5 v6 v7 : Value} {n1 m1 n2 m2 n3 m3 n4 m4 : Nat} {o1 o2 o3 o4 : Option Rat} {w : World} (h1 : FX w u0 u1 u2 u3 n1 m1 o1) (h2 : FX w u4 u5 u6 u7 n2 m2 o2) (h3 : FX w v0 v1 v2 v3 n3 m3 o3) (h4 : FX w v4 v5 v6 v7 n4 m4 o4) (hz1 : fewF n1 m1 = true) (hz2 : fewF n2 m2 = true) (hz3 : fewF n3 m3 = true) (hz4 : fewF n4 m4 = true) (hr : (rightX o1 o2 && rightX o3 o4) = false) :
  Calls Tryz.prog 32 #[.agg #[u0, u1, u2, u3, u4, u5, u6, u7], .agg #[v0, v1, v2, v3, v4, v5, v6, v7]] w fun e w' => e = .returned (.tuple #[.agg #[.int .i64 0, .slice none 0 0, .int .i64 0, .slice none 0 0, .int .i64 0, .slice none 0 0, .int .i64 0, .slice none 0 0], .int .i64 1]) ∧ Below w.heap.size w w' := by
 cases h : rightX o1 o2 with
 | false => exact spDiv_no1 h1 h2 hz1 hz2 h
 | true => rw [h] at hr; exact spDiv_no2 h1 h2 h3 h4 hz1 hz2 hz3 hz4 h hr
set_option maxRecDepth 100000 in
set_option maxHeartbeats 4000000 in
theorem spMin_no1 {u0 u1 u2 u3 u4 u5 u6 u7 v0 v1 v2 v3 v4 v5 v6 v7 : Value} {n1 m1 n2 m2 : Nat} {o1 o2 : Option Rat} {w : World} (h1 : FX w u0 u1 u2 u3 n1 m1 o1) (h2 : FX w u4 u5 u6 u7 n2 m2 o2) (hz1 : fewF n1 m1 = true) (hz2 : fewF n2 m2 = true) (hr : rightX o1 o2 = false) :
  Calls Tryz.prog 33 #[.agg #[u0, u1, u2, u3, u4, u5, u6, u7], .agg #[v0, v1, v2, v3, v4, v5, v6, v7]] w fun e w' => e = .returned (.tuple #[.agg #[.int .i64 0, .slice none 0 0, .int .i64 0, .slice none 0 0, .int .i64 0, .slice none 0 0, .int .i64 0, .slice none 0 0], .int .i64 1]) ∧ Below w.heap.size w w' := by
 have HZ1 := Lib.hid hz1
 have HZ2 := Lib.hid hz2
 clear hz1 hz2
 have HR := Lib.hid hr; clear hr
 have H1 : Hid (FX w u0 u1 u2 u3 n1 m1 o1) := h1
 have H2 : Hid (FX w u4 u5 u6 u7 n2 m2 o2) := h2
 clear h1 h2
 have M : Hid (Below w.heap.size w w) := Below.refl _ _
 go_enter Tryz.func33, Tryz.ntmps33
 go_upto_region 1 with fail
 refine nmW (((w.alloc (.cells #[u0, u1, u2, u3, u4, u5, u6, u7] 28)).alloc (.cells #[v0, v1, v2, v3, v4, v5, v6, v7] 28)).alloc (.cells #[.int .i64 0, .slice none 0 0, .int .i64 0, .slice none 0 0, .int .i64 0, .slice none 0 0, .int .i64 0, .slice none 0 0] 28)) fun w1 hv => ?_
 rw [← hv]
 replace M := al3W hv M
 clear hv
 refine cj8 (J2 M).1.d8 fun aa ab ac ad ae af ag ah => ?_
 go_wp2_with fail
 clear aa ab ac ad ae af ag ah
 refine (spRight_x (o1 := o1) (o2 := o2) (b_ := false) (H1.out.keep (J3 M)) (H2.out.keep (J3 M)) HZ1.out HZ2.out HR.out).mono ?_
 rintro e w2 ⟨rfl, hb⟩
 replace M := gnM hb M
 clear hb
 refine cj16 (M.out.1).c8 fun ai aj ak al am ao ap aq ar au av aw ax ay az ba => ?_
 go_wp2_with fail
 clear ai aj ak al am ao ap aq ar au av aw ax ay az ba
 have hz : w.heap.size ≤ w.heap.size + 1 + 1 := by omega
 refine st8W (.int .i64 0) (.slice none 0 0) (.int .i64 0) (.slice none 0 0) (.int .i64 0) (.slice none 0 0) (.int .i64 0) (.slice none 0 0) (M.out.1) (J3 M) hz fun w3 hv og hk hbw => ?_
 rw [← hv]
 replace M := Lib.hid (aI hk (aI ((J1 M).1.only og (by omega)) (aI ((J2 M).1.only og (by omega)) hbw)))
 clear hk hbw og hv hz
 refine bodyPost_ret (results_box2 rfl _ _ (w.heap.size + 1 + 1) 28 _ _ _ rfl (M.out.1) Tryz.underlying28 rfl (by kernel_rfl)) rfl ?_
 exact ⟨rfl, (J3 M)⟩
set_option maxRecDepth 100000 in
set_option maxHeartbeats 4000000 in
theorem spMin_no2 {u0 u1 u2 u3 u4 u5 u6 u7 v0 v1 v2 v3 v4 v5 v6 v7 : Value} {n1 m1 n2 m2 n3 m3 n4 m4 : Nat} {o1 o2 o3 o4 : Option Rat} {w : World} (h1 : FX w u0 u1 u2 u3 n1 m1 o1) (h2 : FX w u4 u5 u6 u7 n2 m2 o2) (h3 : FX w v0 v1 v2 v3 n3 m3 o3) (h4 : FX w v4 v5 v6 v7 n4 m4 o4) (hz1 : fewF n1 m1 = true) (hz2 : fewF n2 m2 = true) (hz3 : fewF n3 m3 = true) (hz4 : fewF n4 m4 = true) (hr : rightX o1 o2 = true) (hr2 : rightX o3 o4 = false) :
  Calls Tryz.prog 33 #[.agg #[u0, u1, u2, u3, u4, u5, u6, u7], .agg #[v0, v1, v2, v3, v4, v5, v6, v7]] w fun e w' => e = .returned (.tuple #[.agg #[.int .i64 0, .slice none 0 0, .int .i64 0, .slice none 0 0, .int .i64 0, .slice none 0 0, .int .i64 0, .slice none 0 0], .int .i64 1]) ∧ Below w.heap.size w w' := by
 have HZ1 := Lib.hid hz1
 have HZ2 := Lib.hid hz2
 have HZ3 := Lib.hid hz3
 have HZ4 := Lib.hid hz4
 clear hz1 hz2 hz3 hz4
 have HR := Lib.hid hr; have HR2 := Lib.hid hr2; clear hr hr2
 have H1 : Hid (FX w u0 u1 u2 u3 n1 m1 o1) := h1
 have H2 : Hid (FX w u4 u5 u6 u7 n2 m2 o2) := h2
 have H3 : Hid (FX w v0 v1 v2 v3 n3 m3 o3) := h3
 have H4 : Hid (FX w v4 v5 v6 v7 n4 m4 o4) := h4
 clear h1 h2 h3 h4
 have M : Hid (Below w.heap.size w w) := Below.refl _ _
 go_enter Tryz.func33, Tryz.ntmps33
 go_upto_region 1 with fail
 refine nmW (((w.alloc (.cells #[u0, u1, u2, u3, u4, u5, u6, u7] 28)).alloc (.cells #[v0, v1, v2, v3, v4, v5, v6, v7] 28)).alloc (.cells #[.int .i64 0, .slice none 0 0, .int .i64 0, .slice none 0 0, .int .i64 0, .slice none 0 0, .int .i64 0, .slice none 0 0] 28)) fun w1 hv => ?_
 rw [← hv]
 replace M := al3W hv M
 clear hv
 refine cj8 (J2 M).1.d8 fun aa ab ac ad ae af ag ah => ?_
 go_wp2_with fail
 clear aa ab ac ad ae af ag ah
 refine (spRight_x (o1 := o1) (o2 := o2) (b_ := true) (H1.out.keep (J3 M)) (H2.out.keep (J3 M)) HZ1.out HZ2.out HR.out).mono ?_
 rintro e w2 ⟨rfl, hb⟩
 replace M := gnM hb M
 clear hb
 refine cj8 (J1 M).1.d8 fun ai aj ak al am ao ap aq => ?_
 go_wp2_with fail
 clear ai aj ak al am ao ap aq
 refine (spRight_x (o1 := o3) (o2 := o4) (b_ := false) (H3.out.keep (J3 M)) (H4.out.keep (J3 M)) HZ3.out HZ4.out HR2.out).mono ?_
 rintro e w3 ⟨rfl, hb⟩
 replace M := gnM hb M
 clear hb
 refine cj16 (M.out.1).c8 fun ar au av aw ax ay az ba bb bc bd bf bg bh bi bj => ?_
 go_wp2_with fail
 clear ar au av aw ax ay az ba bb bc bd bf bg bh bi bj
 have hz : w.heap.size ≤ w.heap.size + 1 + 1 := by omega
 refine st8W (.int .i64 0) (.slice none 0 0) (.int .i64 0) (.slice none 0 0) (.int .i64 0) (.slice none 0 0) (.int .i64 0) (.slice none 0 0) (M.out.1) (J3 M) hz fun w4 hv og hk hbw => ?_
 rw [← hv]
 replace M := Lib.hid (aI hk (aI ((J1 M).1.only og (by omega)) (aI ((J2 M).1.only og (by omega)) hbw)))
 clear hk hbw og hv hz
 refine bodyPost_ret (results_box2 rfl _ _ (w.heap.size + 1 + 1) 28 _ _ _ rfl (M.out.1) Tryz.underlying28 rfl (by kernel_rfl)) rfl ?_
 exact ⟨rfl, (J3 M)⟩
theorem spMin_no {u0 u1 u2 u3 u4 u5 u6 u7 v0 v1 v2 v3 v4 v5 v6 v7 : Value} {n1 m1 n2 m2 n3 m3 n4 m4 : Nat} {o1 o2 o3 o4 : Option Rat} {w : World} (h1 : FX w u0 u1 u2 u3 n1 m1 o1) (h2 : FX w u4 u5 u6 u7 n2 m2 o2) (h3 : FX w v0 v1 v2 v3 n3 m3 o3) (h4 : FX w v4 v5 v6 v7 n4 m4 o4) (hz1 : fewF n1 m1 = true) (hz2 : fewF n2 m2 = true) (hz3 : fewF n3 m3 = true) (hz4 : fewF n4 m4 = true) (hr : (rightX o1 o2 && rightX o3 o4) = false) :
  Calls Tryz.prog 33 #[.agg #[u0, u1, u2, u3, u4, u5, u6, u7], .agg #[v0, v1, v2, v3, v4, v5, v6, v7]] w fun e w' => e = .returned (.tuple #[.agg #[.int .i64 0, .slice none 0 0, .int .i64 0, .slice none 0 0, .int .i64 0, .slice none 0 0, .int .i64 0, .slice none 0 0], .int .i64 1]) ∧ Below w.heap.size w w' := by
 cases h : rightX o1 o2 with
 | false => exact spMin_no1 h1 h2 hz1 hz2 h
 | true => rw [h] at hr; exact spMin_no2 h1 h2 h3 h4 hz1 hz2 hz3 hz4 h hr
set_option maxRecDepth 100000 in
set_option maxHeartbeats 4000000 in
theorem spMax_no1 {u0 u1 u2 u3 u4 u5 u6 u7 v0 v1 v2 v3 v4 v5 v6 v7 : Value} {n1 m1 n2 m2 : Nat} {o1 o2 : Option Rat} {w : World} (h1 : FX w u0 u1 u2 u3 n1 m1 o1) (h2 : FX w u4 u5 u6 u7 n2 m2 o2) (hz1 : fewF n1 m1 = true) (hz2 : fewF n2 m2 = true) (hr : rightX o1 o2 = false) :
  Calls Tryz.prog 34 #[.agg #[u0, u1, u2, u3, u4, u5, u6, u7], .agg #[v0, v1, v2, v3, v4, v5, v6, v7]] w fun e w' => e = .returned (.tuple #[.agg #[.int .i64 0, .slice none 0 0, .int .i64 0, .slice none 0 0, .int .i64 0, .slice none 0 0, .int .i64 0, .slice none 0 0], .int .i64 1]) ∧ Below w.heap.size w w' := by
 have HZ1 := Lib.hid hz1
 have HZ2 := Lib.hid hz2
 clear hz1 hz2
 have HR := Lib.hid hr; clear hr
 have H1 : Hid (FX w u0 u1 u2 u3 n1 m1 o1) := h1
 have H2 : Hid (FX w u4 u5 u6 u7 n2 m2 o2) := h2
 clear h1 h2
 have M : Hid (Below w.heap.size w w) := Below.refl _ _
 go_enter Tryz.func34, Tryz.ntmps34
 go_upto_region 1 with fail
 refine nmW (((w.alloc (.cells #[u0, u1, u2, u3, u4, u5, u6, u7] 28)).alloc (.cells #[v0, v1, v2, v3, v4, v5, v6, v7] 28)).alloc (.cells #[.int .i64 0, .slice none 0 0, .int .i64 0, .slice none 0 0, .int .i64 0, .slice none 0 0, .int .i64 0, .slice none 0 0] 28)) fun w1 hv => ?_
 rw [← hv]
 replace M := al3W hv M
 clear hv
 refine cj8 (J2 M).1.d8 fun aa ab ac ad ae af ag ah => ?_
 go_wp2_with fail
 clear aa ab ac ad ae af ag ah
 refine (spRight_x (o1 := o1) (o2 := o2) (b_ := false) (H1.out.keep (J3 M)) (H2.out.keep (J3 M)) HZ1.out HZ2.out HR.out).mono ?_
 rintro e w2 ⟨rfl, hb⟩
 replace M := gnM hb M
 clear hb
 refine cj16 (M.out.1).c8 fun ai aj ak al am ao ap aq ar au av aw ax ay az ba => ?_
 go_wp2_with fail
 clear ai aj ak al am ao ap aq ar au av aw ax ay az ba
 have hz : w.heap.size ≤ w.heap.size + 1 + 1 := by omega
 refine st8W (.int .i64 0) (.slice none 0 0) (.int .i64 0) (.slice none 0 0) (.int .i64 0) (.slice none 0 0) (.int .i64 0) (.slice none 0 0) (M.out.1) (J3 M) hz fun w3 hv og hk hbw => ?_
 rw [← hv]
 replace M := Lib.hid (aI hk (aI ((J1 M).1.only og (by omega)) (aI ((J2 M).1.only og (by omega)) hbw)))
 clear hk hbw og hv hz
 refine bodyPost_ret (results_box2 rfl _ _ (w.heap.size + 1 + 1) 28 _ _ _ rfl (M.out.1) Tryz.underlying28 rfl (by kernel_rfl)) rfl ?_
 exact ⟨rfl, (J3 M)⟩
set_option maxRecDepth 100000 in
set_option maxHeartbeats 4000000 in
theorem spMax_no2 {u0 u1 u2 u3 u4 u5 u6 u7 v0 v1 v2 v3 v4 v5 v6 v7 : Value} {n1 m1 n2 m2 n3 m3 n4 m4 : Nat} {o1 o2 o3 o4 : Option Rat} {w : World} (h1 : FX w u0 u1 u2 u3 n1 m1 o1) (h2 : FX w u4 u5 u6 u7 n2 m2 o2) (h3 : FX w v0 v1 v2 v3 n3 m3 o3) (h4 : FX w v4 v5 v6 v7 n4 m4 o4) (hz1 : fewF n1 m1 = true) (hz2 : fewF n2 m2 = true) (hz3 : fewF n3 m3 = true) (hz4 : fewF n4 m4 = true) (hr : rightX o1 o2 = true) (hr2 : rightX o3 o4 = false) :
  Calls Tryz.prog 34 #[.agg #[u0, u1, u2, u3, u4, u5, u6, u7], .agg #[v0, v1, v2, v3, v4, v5, v6, v7]] w fun e w' => e = .returned (.tuple #[.agg #[.int .i64 0, .slice none 0 0, .int .i64 0, .slice none 0 0, .int .i64 0, .slice none 0 0, .int .i64 0, .slice none 0 0], .int .i64 1]) ∧ Below w.heap.size w w' := by
 have HZ1 := Lib.hid hz1
 have HZ2 := Lib.hid hz2
 have HZ3 := Lib.hid hz3
 have HZ4 := Lib.hid hz4
 clear hz1 hz2 hz3 hz4
 have HR := Lib.hid hr; have HR2 := Lib.hid hr2; clear hr hr2
 have H1 : Hid (FX w u0 u1 u2 u3 n1 m1 o1) := h1
 have H2 : Hid (FX w u4 u5 u6 u7 n2 m2 o2) := h2
 have H3 : Hid (FX w v0 v1 v2 v3 n3 m3 o3) := h3
 have H4 : Hid (FX w v4 v5 v6 v7 n4 m4 o4) := h4
 clear h1 h2 h3 h4
 have M : Hid (Below w.heap.size w w) := Below.refl _ _
 go_enter Tryz.func34, Tryz.ntmps34
 go_upto_region 1 with fail
 refine nmW (((w.alloc (.cells #[u0, u1, u2, u3, u4, u5, u6, u7] 28)).alloc (.cells #[v0, v1, v2, v3, v4, v5, v6, v7] 28)).alloc (.cells #[.int .i64 0, .slice none 0 0, .int .i64 0, .slice none 0 0, .int .i64 0, .slice none 0 0, .int .i64 0, .slice none 0 0] 28)) fun w1 hv => ?_
 rw [← hv]
 replace M := al3W hv M
 clear hv
 refine cj8 (J2 M).1.d8 fun aa ab ac ad ae af ag ah => ?_
 go_wp2_with fail
 clear aa ab ac ad ae af ag ah
 refine (spRight_x (o1 := o1) (o2 := o2) (b_ := true) (H1.out.keep (J3 M)) (H2.out.keep (J3 M)) HZ1.out HZ2.out HR.out).mono ?_
 rintro e w2 ⟨rfl, hb⟩
 replace M := gnM hb M
 clear hb
 refine cj8 (J1 M).1.d8 fun ai aj ak al am ao ap aq => ?_
 go_wp2_with fail
 clear ai aj ak al am ao ap aq
 refine (spRight_x (o1 := o3) (o2 := o4) (b_ := false) (H3.out.keep (J3 M)) (H4.out.keep (J3 M)) HZ3.out HZ4.out HR2.out).mono ?_
 rintro e w3 ⟨rfl, hb⟩
 replace M := gnM hb M
 clear hb
 refine cj16 (M.out.1).c8 fun ar au av aw ax ay az ba bb bc bd bf bg bh bi bj => ?_
 go_wp2_with fail
 clear ar au av aw ax ay az ba bb bc bd bf bg bh bi bj
 have hz : w.heap.size ≤ w.heap.size + 1 + 1 := by omega
 refine st8W (.int .i64 0) (.slice none 0 0) (.int .i64 0) (.slice none 0 0) (.int .i64 0) (.slice none 0 0) (.int .i64 0) (.slice none 0 0) (M.out.1) (J3 M) hz fun w4 hv og hk hbw => ?_
 rw [← hv]
 replace M := Lib.hid (aI hk (aI ((J1 M).1.only og (by omega)) (aI ((J2 M).1.only og (by omega)) hbw)))
 clear hk hbw og hv hz
 refine bodyPost_ret (results_box2 rfl _ _ (w.heap.size + 1 + 1) 28 _ _ _ rfl (M.out.1) Tryz.underlying28 rfl (by kernel_rfl)) rfl ?_
 exact ⟨rfl, (J3 M)⟩
theorem spMax_no {u0 u1 u2 u3 u4 u5 u6 u7 v0 v1 v2 v3 v4 v5 v6 v7 : Value} {n1 m1 n2 m2 n3 m3 n4 m4 : Nat} {o1 o2 o3 o4 : Option Rat} {w : World} (h1 : FX w u0 u1 u2 u3 n1 m1 o1) (h2 : FX w u4 u5 u6 u7 n2 m2 o2) (h3 : FX w v0 v1 v2 v3 n3 m3 o3) (h4 : FX w v4 v5 v6 v7 n4 m4 o4) (hz1 : fewF n1 m1 = true) (hz2 : fewF n2 m2 = true) (hz3 : fewF n3 m3 = true) (hz4 : fewF n4 m4 = true) (hr : (rightX o1 o2 && rightX o3 o4) = false) :
  Calls Tryz.prog 34 #[.agg #[u0, u1, u2, u3, u4, u5, u6, u7], .agg #[v0, v1, v2, v3, v4, v5, v6, v7]] w fun e w' => e = .returned (.tuple #[.agg #[.int .i64 0, .slice none 0 0, .int .i64 0, .slice none 0 0, .int .i64 0, .slice none 0 0, .int .i64 0, .slice none 0 0], .int .i64 1]) ∧ Below w.heap.size w w' := by
 cases h : rightX o1 o2 with
 | false => exact spMax_no1 h1 h2 hz1 hz2 h
 | true => rw [h] at hr; exact spMax_no2 h1 h2 h3 h4 hz1 hz2 hz3 hz4 h hr
set_option maxRecDepth 100000 in
set_option maxHeartbeats 4000000 in
theorem spHull_no1 {u0 u1 u2 u3 u4 u5 u6 u7 v0 v1 v2 v3 v4 v5 v6 v7 : Value} {n1 m1 n2 m2 : Nat} {o1 o2 : Option Rat} {w : World} (h1 : FX w u0 u1 u2 u3 n1 m1 o1) (h2 : FX w u4 u5 u6 u7 n2 m2 o2) (hz1 : fewF n1 m1 = true) (hz2 : fewF n2 m2 = true) (hr : rightX o1 o2 = false) :
  Calls Tryz.prog 10 #[.agg #[u0, u1, u2, u3, u4, u5, u6, u7], .agg #[v0, v1, v2, v3, v4, v5, v6, v7]] w fun e w' => e = .returned (.tuple #[.agg #[.int .i64 0, .slice none 0 0, .int .i64 0, .slice none 0 0, .int .i64 0, .slice none 0 0, .int .i64 0, .slice none 0 0], .int .i64 1]) ∧ Below w.heap.size w w' := by
 have HZ1 := Lib.hid hz1
 have HZ2 := Lib.hid hz2
 clear hz1 hz2
 have HR := Lib.hid hr; clear hr
 have H1 : Hid (FX w u0 u1 u2 u3 n1 m1 o1) := h1
 have H2 : Hid (FX w u4 u5 u6 u7 n2 m2 o2) := h2
 clear h1 h2
 have M : Hid (Below w.heap.size w w) := Below.refl _ _
 go_enter Tryz.func10, Tryz.ntmps10
 go_upto_region 1 with fail
 refine nmW (((w.alloc (.cells #[u0, u1, u2, u3, u4, u5, u6, u7] 28)).alloc (.cells #[v0, v1, v2, v3, v4, v5, v6, v7] 28)).alloc (.cells #[.int .i64 0, .slice none 0 0, .int .i64 0, .slice none 0 0, .int .i64 0, .slice none 0 0, .int .i64 0, .slice none 0 0] 28)) fun w1 hv => ?_
 rw [← hv]
 replace M := al3W hv M
 clear hv
 refine cj8 (J2 M).1.d8 fun aa ab ac ad ae af ag ah => ?_
 go_wp2_with fail
 clear aa ab ac ad ae af ag ah
 refine (spRight_x (o1 := o1) (o2 := o2) (b_ := false) (H1.out.keep (J3 M)) (H2.out.keep (J3 M)) HZ1.out HZ2.out HR.out).mono ?_
 rintro e w2 ⟨rfl, hb⟩
 replace M := gnM hb M
 clear hb
 refine cj16 (M.out.1).c8 fun ai aj ak al am ao ap aq ar au av aw ax ay az ba => ?_
 go_wp2_with fail
 clear ai aj ak al am ao ap aq ar au av aw ax ay az ba
 have hz : w.heap.size ≤ w.heap.size + 1 + 1 := by omega
 refine st8W (.int .i64 0) (.slice none 0 0) (.int .i64 0) (.slice none 0 0) (.int .i64 0) (.slice none 0 0) (.int .i64 0) (.slice none 0 0) (M.out.1) (J3 M) hz fun w3 hv og hk hbw => ?_
 rw [← hv]
 replace M := Lib.hid (aI hk (aI ((J1 M).1.only og (by omega)) (aI ((J2 M).1.only og (by omega)) hbw)))
 clear hk hbw og hv hz
 refine bodyPost_ret (results_box2 rfl _ _ (w.heap.size + 1 + 1) 28 _ _ _ rfl (M.out.1) Tryz.underlying28 rfl (by kernel_rfl)) rfl ?_
 exact ⟨rfl, (J3 M)⟩
set_option maxRecDepth 100000 in
set_option maxHeartbeats 4000000 in
theorem spHull_no2 {u0 u1 u2 u3 u4 u5 u6 u7 v0 v1 v2 v3 v4 v5 v6 v7 : Value} {n1 m1 n2 m2 n3 m3 n4 m4 : Nat} {o1 o2 o3 o4 : Option Rat} {w : World} (h1 : FX w u0 u1 u2 u3 n1 m1 o1) (h2 : FX w u4 u5 u6 u7 n2 m2 o2) (h3 : FX w v0 v1 v2 v3 n3 m3 o3) (h4 : FX w v4 v5 v6 v7 n4 m4 o4) (hz1 : fewF n1 m1 = true) (hz2 : fewF n2 m2 = true) (hz3 : fewF n3 m3 = true) (hz4 : fewF n4 m4 = true) (hr : rightX o1 o2 = true) (hr2 : rightX o3 o4 = false) :
  Calls Tryz.prog 10 #[.agg #[u0, u1, u2, u3, u4, u5, u6, u7], .agg #[v0, v1, v2, v3, v4, v5, v6, v7]] w fun e w' => e = .returned (.tuple #[.agg #[.int .i64 0, .slice none 0 0, .int .i64 0, .slice none 0 0, .int .i64 0, .slice none 0 0, .int .i64 0, .slice none 0 0], .int .i64 1]) ∧ Below w.heap.size w w' := by
 have HZ1 := Lib.hid hz1
 have HZ2 := Lib.hid hz2
 have HZ3 := Lib.hid hz3
 have HZ4 := Lib.hid hz4
 clear hz1 hz2 hz3 hz4
 have HR := Lib.hid hr; have HR2 := Lib.hid hr2; clear hr hr2
 have H1 : Hid (FX w u0 u1 u2 u3 n1 m1 o1) := h1
 have H2 : Hid (FX w u4 u5 u6 u7 n2 m2 o2) := h2
 have H3 : Hid (FX w v0 v1 v2 v3 n3 m3 o3) := h3
 have H4 : Hid (FX w v4 v5 v6 v7 n4 m4 o4) := h4
 clear h1 h2 h3 h4
 have M : Hid (Below w.heap.size w w) := Below.refl _ _
 go_enter Tryz.func10, Tryz.ntmps10
 go_upto_region 1 with fail
 refine nmW (((w.alloc (.cells #[u0, u1, u2, u3, u4, u5, u6, u7] 28)).alloc (.cells #[v0, v1, v2, v3, v4, v5, v6, v7] 28)).alloc (.cells #[.int .i64 0, .slice none 0 0, .int .i64 0, .slice none 0 0, .int .i64 0, .slice none 0 0, .int .i64 0, .slice none 0 0] 28)) fun w1 hv => ?_
 rw [← hv]
 replace M := al3W hv M
 clear hv
 refine cj8 (J2 M).1.d8 fun aa ab ac ad ae af ag ah => ?_
 go_wp2_with fail
 clear aa ab ac ad ae af ag ah
 refine (spRight_x (o1 := o1) (o2 := o2) (b_ := true) (H1.out.keep (J3 M)) (H2.out.keep (J3 M)) HZ1.out HZ2.out HR.out).mono ?_
 rintro e w2 ⟨rfl, hb⟩
 replace M := gnM hb M
 clear hb
 refine cj8 (J1 M).1.d8 fun ai aj ak al am ao ap aq => ?_
 go_wp2_with fail
 clear ai aj ak al am ao ap aq
 refine (spRight_x (o1 := o3) (o2 := o4) (b_ := false) (H3.out.keep (J3 M)) (H4.out.keep (J3 M)) HZ3.out HZ4.out HR2.out).mono ?_
 rintro e w3 ⟨rfl, hb⟩
 replace M := gnM hb M
 clear hb
 refine cj16 (M.out.1).c8 fun ar au av aw ax ay az ba bb bc bd bf bg bh bi bj => ?_
 go_wp2_with fail
 clear ar au av aw ax ay az ba bb bc bd bf bg bh bi bj
 have hz : w.heap.size ≤ w.heap.size + 1 + 1 := by omega
 refine st8W (.int .i64 0) (.slice none 0 0) (.int .i64 0) (.slice none 0 0) (.int .i64 0) (.slice none 0 0) (.int .i64 0) (.slice none 0 0) (M.out.1) (J3 M) hz fun w4 hv og hk hbw => ?_
 rw [← hv]
 replace M := Lib.hid (aI hk (aI ((J1 M).1.only og (by omega)) (aI ((J2 M).1.only og (by omega)) hbw)))
 clear hk hbw og hv hz
 refine bodyPost_ret (results_box2 rfl _ _ (w.heap.size + 1 + 1) 28 _ _ _ rfl (M.out.1) Tryz.underlying28 rfl (by kernel_rfl)) rfl ?_
 exact ⟨rfl, (J3 M)⟩
theorem spHull_no {u0 u1 u2 u3 u4 u5 u6 u7 v0 v1 v2 v3 v4 v5 v6 v7 : Value} {n1 m1 n2 m2 n3 m3 n4 m4 : Nat} {o1 o2 o3 o4 : Option Rat} {w : World} (h1 : FX w u0 u1 u2 u3 n1 m1 o1) (h2 : FX w u4 u5 u6 u7 n2 m2 o2) (h3 : FX w v0 v1 v2 v3 n3 m3 o3) (h4 : FX w v4 v5 v6 v7 n4 m4 o4) (hz1 : fewF n1 m1 = true) (hz2 : fewF n2 m2 = true) (hz3 : fewF n3 m3 = true) (hz4 : fewF n4 m4 = true) (hr : (rightX o1 o2 && rightX o3 o4) = false) :
  Calls Tryz.prog 10 #[.agg #[u0, u1, u2, u3, u4, u5, u6, u7], .agg #[v0, v1, v2, v3, v4, v5, v6, v7]] w fun e w' => e = .returned (.tuple #[.agg #[.int .i64 0, .slice none 0 0, .int .i64 0, .slice none 0 0, .int .i64 0, .slice none 0 0, .int .i64 0, .slice none 0 0], .int .i64 1]) ∧ Below w.heap.size w w' := by
 cases h : rightX o1 o2 with
 | false => exact spHull_no1 h1 h2 hz1 hz2 h
 | true => rw [h] at hr; exact spHull_no2 h1 h2 h3 h4 hz1 hz2 hz3 hz4 h hr
set_option maxRecDepth 100000 in
set_option maxHeartbeats 4000000 in
theorem spMeet_no1 {u0 u1 u2 u3 u4 u5 u6 u7 v0 v1 v2 v3 v4 v5 v6 v7 : Value} {n1 m1 n2 m2 : Nat} {o1 o2 : Option Rat} {w : World} (h1 : FX w u0 u1 u2 u3 n1 m1 o1) (h2 : FX w u4 u5 u6 u7 n2 m2 o2) (hz1 : fewF n1 m1 = true) (hz2 : fewF n2 m2 = true) (hr : rightX o1 o2 = false) :
  Calls Tryz.prog 12 #[.agg #[u0, u1, u2, u3, u4, u5, u6, u7], .agg #[v0, v1, v2, v3, v4, v5, v6, v7]] w fun e w' => e = .returned (.tuple #[.agg #[.int .i64 0, .slice none 0 0, .int .i64 0, .slice none 0 0, .int .i64 0, .slice none 0 0, .int .i64 0, .slice none 0 0], .bool false]) ∧ Below w.heap.size w w' := by
 have HZ1 := Lib.hid hz1
 have HZ2 := Lib.hid hz2
 clear hz1 hz2
 have HR := Lib.hid hr; clear hr
 have H1 : Hid (FX w u0 u1 u2 u3 n1 m1 o1) := h1
 have H2 : Hid (FX w u4 u5 u6 u7 n2 m2 o2) := h2
 clear h1 h2
 have M : Hid (Below w.heap.size w w) := Below.refl _ _
 go_enter Tryz.func12, Tryz.ntmps12
 go_upto_region 1 with fail
 refine nmW (((w.alloc (.cells #[u0, u1, u2, u3, u4, u5, u6, u7] 28)).alloc (.cells #[v0, v1, v2, v3, v4, v5, v6, v7] 28)).alloc (.cells #[.int .i64 0, .slice none 0 0, .int .i64 0, .slice none 0 0, .int .i64 0, .slice none 0 0, .int .i64 0, .slice none 0 0] 28)) fun w1 hv => ?_
 rw [← hv]
 replace M := al3W hv M
 clear hv
 refine cj8 (J2 M).1.d8 fun aa ab ac ad ae af ag ah => ?_
 go_wp2_with fail
 clear aa ab ac ad ae af ag ah
 refine (spRight_x (o1 := o1) (o2 := o2) (b_ := false) (H1.out.keep (J3 M)) (H2.out.keep (J3 M)) HZ1.out HZ2.out HR.out).mono ?_
 rintro e w2 ⟨rfl, hb⟩
 replace M := gnM hb M
 clear hb
 refine cj16 (M.out.1).c8 fun ai aj ak al am ao ap aq ar au av aw ax ay az ba => ?_
 go_wp2_with fail
 clear ai aj ak al am ao ap aq ar au av aw ax ay az ba
 have hz : w.heap.size ≤ w.heap.size + 1 + 1 := by omega
 refine st8W (.int .i64 0) (.slice none 0 0) (.int .i64 0) (.slice none 0 0) (.int .i64 0) (.slice none 0 0) (.int .i64 0) (.slice none 0 0) (M.out.1) (J3 M) hz fun w3 hv og hk hbw => ?_
 rw [← hv]
 replace M := Lib.hid (aI hk (aI ((J1 M).1.only og (by omega)) (aI ((J2 M).1.only og (by omega)) hbw)))
 clear hk hbw og hv hz
 refine bodyPost_ret (results_box2 rfl _ _ (w.heap.size + 1 + 1) 28 _ _ _ rfl (M.out.1) Tryz.underlying28 rfl (by kernel_rfl)) rfl ?_
 exact ⟨rfl, (J3 M)⟩
set_option maxRecDepth 100000 in
set_option maxHeartbeats 4000000 in
theorem spMeet_no2 {u0 u1 u2 u3 u4 u5 u6 u7 v0 v1 v2 v3 v4 v5 v6 v7 : Value} {n1 m1 n2 m2 n3 m3 n4 m4 : Nat} {o1 o2 o3 o4 : Option Rat} {w : World} (h1 : FX w u0 u1 u2 u3 n1 m1 o1) (h2 : FX w u4 u5 u6 u7 n2 m2 o2) (h3 : FX w v0 v1 v2 v3 n3 m3 o3) (h4 : FX w v4 v5 v6 v7 n4 m4 o4) (hz1 : fewF n1 m1 = true) (hz2 : fewF n2 m2 = true) (hz3 : fewF n3 m3 = true) (hz4 : fewF n4 m4 = true) (hr : rightX o1 o2 = true) (hr2 : rightX o3 o4 = false) :
  Calls Tryz.prog 12 #[.agg #[u0, u1, u2, u3, u4, u5, u6, u7], .agg #[v0, v1, v2, v3, v4, v5, v6, v7]] w fun e w' => e = .returned (.tuple #[.agg #[.int .i64 0, .slice none 0 0, .int .i64 0, .slice none 0 0, .int .i64 0, .slice none 0 0, .int .i64 0, .slice none 0 0], .bool false]) ∧ Below w.heap.size w w' := by
 have HZ1 := Lib.hid hz1
 have HZ2 := Lib.hid hz2
 have HZ3 := Lib.hid hz3
 have HZ4 := Lib.hid hz4
 clear hz1 hz2 hz3 hz4
 have HR := Lib.hid hr; have HR2 := Lib.hid hr2; clear hr hr2
 have H1 : Hid (FX w u0 u1 u2 u3 n1 m1 o1) := h1
 have H2 : Hid (FX w u4 u5 u6 u7 n2 m2 o2) := h2
 have H3 : Hid (FX w v0 v1 v2 v3 n3 m3 o3) := h3
 have H4 : Hid (FX w v4 v5 v6 v7 n4 m4 o4) := h4
 clear h1 h2 h3 h4
 have M : Hid (Below w.heap.size w w) := Below.refl _ _
 go_enter Tryz.func12, Tryz.ntmps12
 go_upto_region 1 with fail
 refine nmW (((w.alloc (.cells #[u0, u1, u2, u3, u4, u5, u6, u7] 28)).alloc (.cells #[v0, v1, v2, v3, v4, v5, v6, v7] 28)).alloc (.cells #[.int .i64 0, .slice none 0 0, .int .i64 0, .slice none 0 0, .int .i64 0, .slice none 0 0, .int .i64 0, .slice none 0 0] 28)) fun w1 hv => ?_
 rw [← hv]
 replace M := al3W hv M
 clear hv
 refine cj8 (J2 M).1.d8 fun aa ab ac ad ae af ag ah => ?_
 go_wp2_with fail
 clear aa ab ac ad ae af ag ah
 refine (spRight_x (o1 := o1) (o2 := o2) (b_ := true) (H1.out.keep (J3 M)) (H2.out.keep (J3 M)) HZ1.out HZ2.out HR.out).mono ?_
 rintro e w2 ⟨rfl, hb⟩
 replace M := gnM hb M
 clear hb
 refine cj8 (J1 M).1.d8 fun ai aj ak al am ao ap aq => ?_
 go_wp2_with fail
 clear ai aj ak al am ao ap aq
 refine (spRight_x (o1 := o3) (o2 := o4) (b_ := false) (H3.out.keep (J3 M)) (H4.out.keep (J3 M)) HZ3.out HZ4.out HR2.out).mono ?_
 rintro e w3 ⟨rfl, hb⟩
 replace M := gnM hb M
 clear hb
 refine cj16 (M.out.1).c8 fun ar au av aw ax ay az ba bb bc bd bf bg bh bi bj => ?_
 go_wp2_with fail
 clear ar au av aw ax ay az ba bb bc bd bf bg bh bi bj
 have hz : w.heap.size ≤ w.heap.size + 1 + 1 := by omega
 refine st8W (.int .i64 0) (.slice none 0 0) (.int .i64 0) (.slice none 0 0) (.int .i64 0) (.slice none 0 0) (.int .i64 0) (.slice none 0 0) (M.out.1) (J3 M) hz fun w4 hv og hk hbw => ?_
 rw [← hv]
 replace M := Lib.hid (aI hk (aI ((J1 M).1.only og (by omega)) (aI ((J2 M).1.only og (by omega)) hbw)))
 clear hk hbw og hv hz
 refine bodyPost_ret (results_box2 rfl _ _ (w.heap.size + 1 + 1) 28 _ _ _ rfl (M.out.1) Tryz.underlying28 rfl (by kernel_rfl)) rfl ?_
 exact ⟨rfl, (J3 M)⟩
theorem spMeet_no {u0 u1 u2 u3 u4 u5 u6 u7 v0 v1 v2 v3 v4 v5 v6 v7 : Value} {n1 m1 n2 m2 n3 m3 n4 m4 : Nat} {o1 o2 o3 o4 : Option Rat} {w : World} (h1 : FX w u0 u1 u2 u3 n1 m1 o1) (h2 : FX w u4 u5 u6 u7 n2 m2 o2) (h3 : FX w v0 v1 v2 v3 n3 m3 o3) (h4 : FX w v4 v5 v6 v7 n4 m4 o4) (hz1 : fewF n1 m1 = true) (hz2 : fewF n2 m2 = true) (hz3 : fewF n3 m3 = true) (hz4 : fewF n4 m4 = true) (hr : (rightX o1 o2 && rightX o3 o4) = false) :
  Calls Tryz.prog 12 #[.agg #[u0, u1, u2, u3, u4, u5, u6, u7], .agg #[v0, v1, v2, v3, v4, v5, v6, v7]] w fun e w' => e = .returned (.tuple #[.agg #[.int .i64 0, .slice none 0 0, .int .i64 0, .slice none 0 0, .int .i64 0, .slice none 0 0, .int .i64 0, .slice none 0 0], .bool false]) ∧ Below w.heap.size w w' := by
 cases h : rightX o1 o2 with
 | false => exact spMeet_no1 h1 h2 hz1 hz2 h
 | true => rw [h] at hr; exact spMeet_no2 h1 h2 h3 h4 hz1 hz2 hz3 hz4 h hr
set_option maxRecDepth 100000 in
set_option maxHeartbeats 4000000 in
theorem rsHull_no1 {u0 u1 u2 u3 u4 u5 u6 u7 v0 v1 v2 v3 v4 v5 v6 v7 : Value} {n1 m1 n2 m2 : Nat} {o1 o2 : Option Rat} {w : World} (h1 : FX w u0 u1 u2 u3 n1 m1 o1) (h2 : FX w u4 u5 u6 u7 n2 m2 o2) (hz1 : fewF n1 m1 = true) (hz2 : fewF n2 m2 = true) (hr : rightX o1 o2 = false) :
  Calls Tryz.prog 11 #[.agg #[u0, u1, u2, u3, u4, u5, u6, u7], .agg #[v0, v1, v2, v3, v4, v5, v6, v7]] w fun e w' => e = .returned (.tuple #[.agg #[.int .i64 0, .slice none 0 0, .int .i64 0, .slice none 0 0, .int .i64 0, .slice none 0 0, .int .i64 0, .slice none 0 0], .int .i64 1]) ∧ Below w.heap.size w w' := by
 have HZ1 := Lib.hid hz1
 have HZ2 := Lib.hid hz2
 clear hz1 hz2
 have HR := Lib.hid hr; clear hr
 have H1 : Hid (FX w u0 u1 u2 u3 n1 m1 o1) := h1
 have H2 : Hid (FX w u4 u5 u6 u7 n2 m2 o2) := h2
 clear h1 h2
 have M : Hid (Below w.heap.size w w) := Below.refl _ _
 go_enter Tryz.func11, Tryz.ntmps11
 go_upto_region 1 with fail
 refine nmW (((w.alloc (.cells #[u0, u1, u2, u3, u4, u5, u6, u7] 28)).alloc (.cells #[v0, v1, v2, v3, v4, v5, v6, v7] 28)).alloc (.cells #[.int .i64 0, .slice none 0 0, .int .i64 0, .slice none 0 0, .int .i64 0, .slice none 0 0, .int .i64 0, .slice none 0 0] 28)) fun w1 hv => ?_
 rw [← hv]
 replace M := al3W hv M
 clear hv
 refine cj8 (J2 M).1.d8 fun aa ab ac ad ae af ag ah => ?_
 go_wp2_with fail
 clear aa ab ac ad ae af ag ah
 refine (rsRight_x (o1 := o1) (o2 := o2) (b_ := false) (H1.out.keep (J3 M)) (H2.out.keep (J3 M)) HZ1.out HZ2.out HR.out).mono ?_
 rintro e w2 ⟨rfl, hb⟩
 replace M := gnM hb M
 clear hb
 refine cj16 (M.out.1).c8 fun ai aj ak al am ao ap aq ar au av aw ax ay az ba => ?_
 go_wp2_with fail
 clear ai aj ak al am ao ap aq ar au av aw ax ay az ba
 have hz : w.heap.size ≤ w.heap.size + 1 + 1 := by omega
 refine st8W (.int .i64 0) (.slice none 0 0) (.int .i64 0) (.slice none 0 0) (.int .i64 0) (.slice none 0 0) (.int .i64 0) (.slice none 0 0) (M.out.1) (J3 M) hz fun w3 hv og hk hbw => ?_
 rw [← hv]
 replace M := Lib.hid (aI hk (aI ((J1 M).1.only og (by omega)) (aI ((J2 M).1.only og (by omega)) hbw)))
 clear hk hbw og hv hz
 refine bodyPost_ret (results_box2 rfl _ _ (w.heap.size + 1 + 1) 28 _ _ _ rfl (M.out.1) Tryz.underlying28 rfl (by kernel_rfl)) rfl ?_
 exact ⟨rfl, (J3 M)⟩
set_option maxRecDepth 100000 in
set_option maxHeartbeats 4000000 in
theorem rsHull_no2 {u0 u1 u2 u3 u4 u5 u6 u7 v0 v1 v2 v3 v4 v5 v6 v7 : Value} {n1 m1 n2 m2 n3 m3 n4 m4 : Nat} {o1 o2 o3 o4 : Option Rat} {w : World} (h1 : FX w u0 u1 u2 u3 n1 m1 o1) (h2 : FX w u4 u5 u6 u7 n2 m2 o2) (h3 : FX w v0 v1 v2 v3 n3 m3 o3) (h4 : FX w v4 v5 v6 v7 n4 m4 o4) (hz1 : fewF n1 m1 = true) (hz2 : fewF n2 m2 = true) (hz3 : fewF n3 m3 = true) (hz4 : fewF n4 m4 = true) (hr : rightX o1 o2 = true) (hr2 : rightX o3 o4 = false) :
  Calls Tryz.prog 11 #[.agg #[u0, u1, u2, u3, u4, u5, u6, u7], .agg #[v0, v1, v2, v3, v4, v5, v6, v7]] w fun e w' => e = .returned (.tuple #[.agg #[.int .i64 0, .slice none 0 0, .int .i64 0, .slice none 0 0, .int .i64 0, .slice none 0 0, .int .i64 0, .slice none 0 0], .int .i64 1]) ∧ Below w.heap.size w w' := by
 have HZ1 := Lib.hid hz1
 have HZ2 := Lib.hid hz2
 have HZ3 := Lib.hid hz3
 have HZ4 := Lib.hid hz4
 clear hz1 hz2 hz3 hz4
 have HR := Lib.hid hr; have HR2 := Lib.hid hr2; clear hr hr2
 have H1 : Hid (FX w u0 u1 u2 u3 n1 m1 o1) := h1
 have H2 : Hid (FX w u4 u5 u6 u7 n2 m2 o2) := h2
 have H3 : Hid (FX w v0 v1 v2 v3 n3 m3 o3) := h3
 have H4 : Hid (FX w v4 v5 v6 v7 n4 m4 o4) := h4
 clear h1 h2 h3 h4
 have M : Hid (Below w.heap.size w w) := Below.refl _ _
 go_enter Tryz.func11, Tryz.ntmps11
 go_upto_region 1 with fail
 refine nmW (((w.alloc (.cells #[u0, u1, u2, u3, u4, u5, u6, u7] 28)).alloc (.cells #[v0, v1, v2, v3, v4, v5, v6, v7] 28)).alloc (.cells #[.int .i64 0, .slice none 0 0, .int .i64 0, .slice none 0 0, .int .i64 0, .slice none 0 0, .int .i64 0, .slice none 0 0] 28)) fun w1 hv => ?_
 rw [← hv]
 replace M := al3W hv M
 clear hv
 refine cj8 (J2 M).1.d8 fun aa ab ac ad ae af ag ah => ?_
 go_wp2_with fail
 clear aa ab ac ad ae af ag ah
 refine (rsRight_x (o1 := o1) (o2 := o2) (b_ := true) (H1.out.keep (J3 M)) (H2.out.keep (J3 M)) HZ1.out HZ2.out HR.out).mono ?_
 rintro e w2 ⟨rfl, hb⟩
 replace M := gnM hb M
 clear hb
 refine cj8 (J1 M).1.d8 fun ai aj ak al am ao ap aq => ?_
 go_wp2_with fail
 clear ai aj ak al am ao ap aq
 refine (rsRight_x (o1 := o3) (o2 := o4) (b_ := false) (H3.out.keep (J3 M)) (H4.out.keep (J3 M)) HZ3.out HZ4.out HR2.out).mono ?_
 rintro e w3 ⟨rfl, hb⟩
 replace M := gnM hb M
 clear hb
 refine cj16 (M.out.1).c8 fun ar au av aw ax ay az ba bb bc bd bf bg bh bi bj => ?_
 go_wp2_with fail
 clear ar au av aw ax ay az ba bb bc bd bf bg bh bi bj
 have hz : w.heap.size ≤ w.heap.size + 1 + 1 := by omega
 refine st8W (.int .i64 0) (.slice none 0 0) (.int .i64 0) (.slice none 0 0) (.int .i64 0) (.slice none 0 0) (.int .i64 0) (.slice none 0 0) (M.out.1) (J3 M) hz fun w4 hv og hk hbw => ?_
 rw [← hv]
 replace M := Lib.hid (aI hk (aI ((J1 M).1.only og (by omega)) (aI ((J2 M).1.only og (by omega)) hbw)))
 clear hk hbw og hv hz
 refine bodyPost_ret (results_box2 rfl _ _ (w.heap.size + 1 + 1) 28 _ _ _ rfl (M.out.1) Tryz.underlying28 rfl (by kernel_rfl)) rfl ?_
 exact ⟨rfl, (J3 M)⟩
theorem rsHull_no {u0 u1 u2 u3 u4 u5 u6 u7 v0 v1 v2 v3 v4 v5 v6 v7 : Value} {n1 m1 n2 m2 n3 m3 n4 m4 : Nat} {o1 o2 o3 o4 : Option Rat} {w : World} (h1 : FX w u0 u1 u2 u3 n1 m1 o1) (h2 : FX w u4 u5 u6 u7 n2 m2 o2) (h3 : FX w v0 v1 v2 v3 n3 m3 o3) (h4 : FX w v4 v5 v6 v7 n4 m4 o4) (hz1 : fewF n1 m1 = true) (hz2 : fewF n2 m2 = true) (hz3 : fewF n3 m3 = true) (hz4 : fewF n4 m4 = true) (hr : (rightX o1 o2 && rightX o3 o4) = false) :
  Calls Tryz.prog 11 #[.agg #[u0, u1, u2, u3, u4, u5, u6, u7], .agg #[v0, v1, v2, v3, v4, v5, v6, v7]] w fun e w' => e = .returned (.tuple #[.agg #[.int .i64 0, .slice none 0 0, .int .i64 0, .slice none 0 0, .int .i64 0, .slice none 0 0, .int .i64 0, .slice none 0 0], .int .i64 1]) ∧ Below w.heap.size w w' := by
 cases h : rightX o1 o2 with
 | false => exact rsHull_no1 h1 h2 hz1 hz2 h
 | true => rw [h] at hr; exact rsHull_no2 h1 h2 h3 h4 hz1 hz2 hz3 hz4 h hr
set_option maxRecDepth 100000 in
set_option maxHeartbeats 4000000 in
theorem rsMeet_no1 {u0 u1 u2 u3 u4 u5 u6 u7 v0 v1 v2 v3 v4 v5 v6 v7 : Value} {n1 m1 n2 m2 : Nat} {o1 o2 : Option Rat} {w : World} (h1 : FX w u0 u1 u2 u3 n1 m1 o1) (h2 : FX w u4 u5 u6 u7 n2 m2 o2) (hz1 : fewF n1 m1 = true) (hz2 : fewF n2 m2 = true) (hr : rightX o1 o2 = false) :
  Calls Tryz.prog 13 #[.agg #[u0, u1, u2, u3, u4, u5, u6, u7], .agg #[v0, v1, v2, v3, v4, v5, v6, v7]] w fun e w' => e = .returned (.tuple #[.agg #[.int .i64 0, .slice none 0 0, .int .i64 0, .slice none 0 0, .int .i64 0, .slice none 0 0, .int .i64 0, .slice none 0 0], .bool false]) ∧ Below w.heap.size w w' := by
 have HZ1 := Lib.hid hz1
 have HZ2 := Lib.hid hz2
 clear hz1 hz2
 have HR := Lib.hid hr; clear hr
 have H1 : Hid (FX w u0 u1 u2 u3 n1 m1 o1) := h1
 have H2 : Hid (FX w u4 u5 u6 u7 n2 m2 o2) := h2
 clear h1 h2
 have M : Hid (Below w.heap.size w w) := Below.refl _ _
 go_enter Tryz.func13, Tryz.ntmps13
 go_upto_region 1 with fail
 refine nmW (((w.alloc (.cells #[u0, u1, u2, u3, u4, u5, u6, u7] 28)).alloc (.cells #[v0, v1, v2, v3, v4, v5, v6, v7] 28)).alloc (.cells #[.int .i64 0, .slice none 0 0, .int .i64 0, .slice none 0 0, .int .i64 0, .slice none 0 0, .int .i64 0, .slice none 0 0] 28)) fun w1 hv => ?_
 rw [← hv]
 replace M := al3W hv M
 clear hv
 refine cj8 (J2 M).1.d8 fun aa ab ac ad ae af ag ah => ?_
 go_wp2_with fail
 clear aa ab ac ad ae af ag ah
 refine (rsRight_x (o1 := o1) (o2 := o2) (b_ := false) (H1.out.keep (J3 M)) (H2.out.keep (J3 M)) HZ1.out HZ2.out HR.out).mono ?_
 rintro e w2 ⟨rfl, hb⟩
 replace M := gnM hb M
 clear hb
 refine cj16 (M.out.1).c8 fun ai aj ak al am ao ap aq ar au av aw ax ay az ba => ?_
 go_wp2_with fail
 clear ai aj ak al am ao ap aq ar au av aw ax ay az ba
 have hz : w.heap.size ≤ w.heap.size + 1 + 1 := by omega
 refine st8W (.int .i64 0) (.slice none 0 0) (.int .i64 0) (.slice none 0 0) (.int .i64 0) (.slice none 0 0) (.int .i64 0) (.slice none 0 0) (M.out.1) (J3 M) hz fun w3 hv og hk hbw => ?_
 rw [← hv]
 replace M := Lib.hid (aI hk (aI ((J1 M).1.only og (by omega)) (aI ((J2 M).1.only og (by omega)) hbw)))
 clear hk hbw og hv hz
 refine bodyPost_ret (results_box2 rfl _ _ (w.heap.size + 1 + 1) 28 _ _ _ rfl (M.out.1) Tryz.underlying28 rfl (by kernel_rfl)) rfl ?_
 exact ⟨rfl, (J3 M)⟩
set_option maxRecDepth 100000 in
set_option maxHeartbeats 4000000 in
theorem rsMeet_no2 {u0 u1 u2 u3 u4 u5 u6 u7 v0 v1 v2 v3 v4 v5 v6 v7 : Value} {n1 m1 n2 m2 n3 m3 n4 m4 : Nat} {o1 o2 o3 o4 : Option Rat} {w : World} (h1 : FX w u0 u1 u2 u3 n1 m1 o1) (h2 : FX w u4 u5 u6 u7 n2 m2 o2) (h3 : FX w v0 v1 v2 v3 n3 m3 o3) (h4 : FX w v4 v5 v6 v7 n4 m4 o4) (hz1 : fewF n1 m1 = true) (hz2 : fewF n2 m2 = true) (hz3 : fewF n3 m3 = true) (hz4 : fewF n4 m4 = true) (hr : rightX o1 o2 = true) (hr2 : rightX o3 o4 = false) :
  Calls Tryz.prog 13 #[.agg #[u0, u1, u2, u3, u4, u5, u6, u7], .agg #[v0, v1, v2, v3, v4, v5, v6, v7]] w fun e w' => e = .returned (.tuple #[.agg #[.int .i64 0, .slice none 0 0, .int .i64 0, .slice none 0 0, .int .i64 0, .slice none 0 0, .int .i64 0, .slice none 0 0], .bool false]) ∧ Below w.heap.size w w' := by
 have HZ1 := Lib.hid hz1
 have HZ2 := Lib.hid hz2
 have HZ3 := Lib.hid hz3
 have HZ4 := Lib.hid hz4
 clear hz1 hz2 hz3 hz4
 have HR := Lib.hid hr; have HR2 := Lib.hid hr2; clear hr hr2
 have H1 : Hid (FX w u0 u1 u2 u3 n1 m1 o1) := h1
 have H2 : Hid (FX w u4 u5 u6 u7 n2 m2 o2) := h2
 have H3 : Hid (FX w v0 v1 v2 v3 n3 m3 o3) := h3
 have H4 : Hid (FX w v4 v5 v6 v7 n4 m4 o4) := h4
 clear h1 h2 h3 h4
 have M : Hid (Below w.heap.size w w) := Below.refl _ _
 go_enter Tryz.func13, Tryz.ntmps13
 go_upto_region 1 with fail
 refine nmW (((w.alloc (.cells #[u0, u1, u2, u3, u4, u5, u6, u7] 28)).alloc (.cells #[v0, v1, v2, v3, v4, v5, v6, v7] 28)).alloc (.cells #[.int .i64 0, .slice none 0 0, .int .i64 0, .slice none 0 0, .int .i64 0, .slice none 0 0, .int .i64 0, .slice none 0 0] 28)) fun w1 hv => ?_
 rw [← hv]
 replace M := al3W hv M
 clear hv
 refine cj8 (J2 M).1.d8 fun aa ab ac ad ae af ag ah => ?_
 go_wp2_with fail
 clear aa ab ac ad ae af ag ah
 refine (rsRight_x (o1 := o1) (o2 := o2) (b_ := true) (H1.out.keep (J3 M)) (H2.out.keep (J3 M)) HZ1.out HZ2.out HR.out).mono ?_
 rintro e w2 ⟨rfl, hb⟩
 replace M := gnM hb M
 clear hb
 refine cj8 (J1 M).1.d8 fun ai aj ak al am ao ap aq => ?_
 go_wp2_with fail
 clear ai aj ak al am ao ap aq
 refine (rsRight_x (o1 := o3) (o2 := o4) (b_ := false) (H3.out.keep (J3 M)) (H4.out.keep (J3 M)) HZ3.out HZ4.out HR2.out).mono ?_
 rintro e w3 ⟨rfl, hb⟩
 replace M := gnM hb M
 clear hb
 refine cj16 (M.out.1).c8 fun ar au av aw ax ay az ba bb bc bd bf bg bh bi bj => ?_
 go_wp2_with fail
 clear ar au av aw ax ay az ba bb bc bd bf bg bh bi bj
 have hz : w.heap.size ≤ w.heap.size + 1 + 1 := by omega
 refine st8W (.int .i64 0) (.slice none 0 0) (.int .i64 0) (.slice none 0 0) (.int .i64 0) (.slice none 0 0) (.int .i64 0) (.slice none 0 0) (M.out.1) (J3 M) hz fun w4 hv og hk hbw => ?_
 rw [← hv]
 replace M := Lib.hid (aI hk (aI ((J1 M).1.only og (by omega)) (aI ((J2 M).1.only og (by omega)) hbw)))
 clear hk hbw og hv hz
 refine bodyPost_ret (results_box2 rfl _ _ (w.heap.size + 1 + 1) 28 _ _ _ rfl (M.out.1) Tryz.underlying28 rfl (by kernel_rfl)) rfl ?_
 exact ⟨rfl, (J3 M)⟩
theorem rsMeet_no {u0 u1 u2 u3 u4 u5 u6 u7 v0 v1 v2 v3 v4 v5 v6 v7 : Value} {n1 m1 n2 m2 n3 m3 n4 m4 : Nat} {o1 o2 o3 o4 : Option Rat} {w : World} (h1 : FX w u0 u1 u2 u3 n1 m1 o1) (h2 : FX w u4 u5 u6 u7 n2 m2 o2) (h3 : FX w v0 v1 v2 v3 n3 m3 o3) (h4 : FX w v4 v5 v6 v7 n4 m4 o4) (hz1 : fewF n1 m1 = true) (hz2 : fewF n2 m2 = true) (hz3 : fewF n3 m3 = true) (hz4 : fewF n4 m4 = true) (hr : (rightX o1 o2 && rightX o3 o4) = false) :
  Calls Tryz.prog 13 #[.agg #[u0, u1, u2, u3, u4, u5, u6, u7], .agg #[v0, v1, v2, v3, v4, v5, v6, v7]] w fun e w' => e = .returned (.tuple #[.agg #[.int .i64 0, .slice none 0 0, .int .i64 0, .slice none 0 0, .int .i64 0, .slice none 0 0, .int .i64 0, .slice none 0 0], .bool false]) ∧ Below w.heap.size w w' := by
 cases h : rightX o1 o2 with
 | false => exact rsMeet_no1 h1 h2 hz1 hz2 h
 | true => rw [h] at hr; exact rsMeet_no2 h1 h2 h3 h4 hz1 hz2 hz3 hz4 h hr
set_option maxRecDepth 100000 in
set_option maxHeartbeats 4000000 in
theorem rboth_no1 {u0 u1 u2 u3 u4 u5 u6 u7 v0 v1 v2 v3 v4 v5 v6 v7 : Value} {n1 m1 n2 m2 : Nat} {o1 o2 : Option Rat} {i : Int} {w : World} (h1 : FX w u0 u1 u2 u3 n1 m1 o1) (h2 : FX w u4 u5 u6 u7 n2 m2 o2) (hz1 : fewF n1 m1 = true) (hz2 : fewF n2 m2 = true) (hr : rightX o1 o2 = false) :
  Calls Tryz.prog 8 #[.int .i64 i, .agg #[u0, u1, u2, u3, u4, u5, u6, u7], .agg #[v0, v1, v2, v3, v4, v5, v6, v7]] w fun e w' => e = .returned (.tuple #[.agg #[.int .i64 0, .slice none 0 0, .int .i64 0, .slice none 0 0, .int .i64 0, .slice none 0 0, .int .i64 0, .slice none 0 0], .int .i64 1]) ∧ Below w.heap.size w w' := by
 have HZ1 := Lib.hid hz1
 have HZ2 := Lib.hid hz2
 clear hz1 hz2
 have HR := Lib.hid hr; clear hr
 have H1 : Hid (FX w u0 u1 u2 u3 n1 m1 o1) := h1
 have H2 : Hid (FX w u4 u5 u6 u7 n2 m2 o2) := h2
 clear h1 h2
 have M : Hid (Below w.heap.size w w) := Below.refl _ _
 go_enter Tryz.func8, Tryz.ntmps8
 go_upto_region 1 with fail
 refine nmW (((w.alloc (.cells #[u0, u1, u2, u3, u4, u5, u6, u7] 28)).alloc (.cells #[v0, v1, v2, v3, v4, v5, v6, v7] 28)).alloc (.cells #[.int .i64 0, .slice none 0 0, .int .i64 0, .slice none 0 0, .int .i64 0, .slice none 0 0, .int .i64 0, .slice none 0 0] 28)) fun w1 hv => ?_
 rw [← hv]
 replace M := al3W hv M
 clear hv
 refine cj8 (J2 M).1.d8 fun aa ab ac ad ae af ag ah => ?_
 go_wp2_with fail
 clear aa ab ac ad ae af ag ah
 refine (rsRight_x (o1 := o1) (o2 := o2) (b_ := false) (H1.out.keep (J3 M)) (H2.out.keep (J3 M)) HZ1.out HZ2.out HR.out).mono ?_
 rintro e w2 ⟨rfl, hb⟩
 replace M := gnM hb M
 clear hb
 refine cj16 (M.out.1).c8 fun ai aj ak al am ao ap aq ar au av aw ax ay az ba => ?_
 go_wp2_with fail
 clear ai aj ak al am ao ap aq ar au av aw ax ay az ba
 have hz : w.heap.size ≤ w.heap.size + 1 + 1 := by omega
 refine st8W (.int .i64 0) (.slice none 0 0) (.int .i64 0) (.slice none 0 0) (.int .i64 0) (.slice none 0 0) (.int .i64 0) (.slice none 0 0) (M.out.1) (J3 M) hz fun w3 hv og hk hbw => ?_
 rw [← hv]
 replace M := Lib.hid (aI hk (aI ((J1 M).1.only og (by omega)) (aI ((J2 M).1.only og (by omega)) hbw)))
 clear hk hbw og hv hz
 refine bodyPost_ret (results_box2 rfl _ _ (w.heap.size + 1 + 1) 28 _ _ _ rfl (M.out.1) Tryz.underlying28 rfl (by kernel_rfl)) rfl ?_
 exact ⟨rfl, (J3 M)⟩
set_option maxRecDepth 100000 in
set_option maxHeartbeats 4000000 in
theorem rboth_no2 {u0 u1 u2 u3 u4 u5 u6 u7 v0 v1 v2 v3 v4 v5 v6 v7 : Value} {n1 m1 n2 m2 n3 m3 n4 m4 : Nat} {o1 o2 o3 o4 : Option Rat} {i : Int} {w : World} (h1 : FX w u0 u1 u2 u3 n1 m1 o1) (h2 : FX w u4 u5 u6 u7 n2 m2 o2) (h3 : FX w v0 v1 v2 v3 n3 m3 o3) (h4 : FX w v4 v5 v6 v7 n4 m4 o4) (hz1 : fewF n1 m1 = true) (hz2 : fewF n2 m2 = true) (hz3 : fewF n3 m3 = true) (hz4 : fewF n4 m4 = true) (hr : rightX o1 o2 = true) (hr2 : rightX o3 o4 = false) :
  Calls Tryz.prog 8 #[.int .i64 i, .agg #[u0, u1, u2, u3, u4, u5, u6, u7], .agg #[v0, v1, v2, v3, v4, v5, v6, v7]] w fun e w' => e = .returned (.tuple #[.agg #[.int .i64 0, .slice none 0 0, .int .i64 0, .slice none 0 0, .int .i64 0, .slice none 0 0, .int .i64 0, .slice none 0 0], .int .i64 1]) ∧ Below w.heap.size w w' := by
 have HZ1 := Lib.hid hz1
 have HZ2 := Lib.hid hz2
 have HZ3 := Lib.hid hz3
 have HZ4 := Lib.hid hz4
 clear hz1 hz2 hz3 hz4
 have HR := Lib.hid hr; have HR2 := Lib.hid hr2; clear hr hr2
 have H1 : Hid (FX w u0 u1 u2 u3 n1 m1 o1) := h1
 have H2 : Hid (FX w u4 u5 u6 u7 n2 m2 o2) := h2
 have H3 : Hid (FX w v0 v1 v2 v3 n3 m3 o3) := h3
 have H4 : Hid (FX w v4 v5 v6 v7 n4 m4 o4) := h4
 clear h1 h2 h3 h4
 have M : Hid (Below w.heap.size w w) := Below.refl _ _
 go_enter Tryz.func8, Tryz.ntmps8
 go_upto_region 1 with fail
 refine nmW (((w.alloc (.cells #[u0, u1, u2, u3, u4, u5, u6, u7] 28)).alloc (.cells #[v0, v1, v2, v3, v4, v5, v6, v7] 28)).alloc (.cells #[.int .i64 0, .slice none 0 0, .int .i64 0, .slice none 0 0, .int .i64 0, .slice none 0 0, .int .i64 0, .slice none 0 0] 28)) fun w1 hv => ?_
 rw [← hv]
 replace M := al3W hv M
 clear hv
 refine cj8 (J2 M).1.d8 fun aa ab ac ad ae af ag ah => ?_
 go_wp2_with fail
 clear aa ab ac ad ae af ag ah
 refine (rsRight_x (o1 := o1) (o2 := o2) (b_ := true) (H1.out.keep (J3 M)) (H2.out.keep (J3 M)) HZ1.out HZ2.out HR.out).mono ?_
 rintro e w2 ⟨rfl, hb⟩
 replace M := gnM hb M
 clear hb
 refine cj8 (J1 M).1.d8 fun ai aj ak al am ao ap aq => ?_
 go_wp2_with fail
 clear ai aj ak al am ao ap aq
 refine (rsRight_x (o1 := o3) (o2 := o4) (b_ := false) (H3.out.keep (J3 M)) (H4.out.keep (J3 M)) HZ3.out HZ4.out HR2.out).mono ?_
 rintro e w3 ⟨rfl, hb⟩
 replace M := gnM hb M
 clear hb
 refine cj16 (M.out.1).c8 fun ar au av aw ax ay az ba bb bc bd bf bg bh bi bj => ?_
 go_wp2_with fail
 clear ar au av aw ax ay az ba bb bc bd bf bg bh bi bj
 have hz : w.heap.size ≤ w.heap.size + 1 + 1 := by omega
 refine st8W (.int .i64 0) (.slice none 0 0) (.int .i64 0) (.slice none 0 0) (.int .i64 0) (.slice none 0 0) (.int .i64 0) (.slice none 0 0) (M.out.1) (J3 M) hz fun w4 hv og hk hbw => ?_
 rw [← hv]
 replace M := Lib.hid (aI hk (aI ((J1 M).1.only og (by omega)) (aI ((J2 M).1.only og (by omega)) hbw)))
 clear hk hbw og hv hz
 refine bodyPost_ret (results_box2 rfl _ _ (w.heap.size + 1 + 1) 28 _ _ _ rfl (M.out.1) Tryz.underlying28 rfl (by kernel_rfl)) rfl ?_
 exact ⟨rfl, (J3 M)⟩
theorem rboth_no {u0 u1 u2 u3 u4 u5 u6 u7 v0 v1 v2 v3 v4 v5 v6 v7 : Value} {n1 m1 n2 m2 n3 m3 n4 m4 : Nat} {o1 o2 o3 o4 : Option Rat} {i : Int} {w : World} (h1 : FX w u0 u1 u2 u3 n1 m1 o1) (h2 : FX w u4 u5 u6 u7 n2 m2 o2) (h3 : FX w v0 v1 v2 v3 n3 m3 o3) (h4 : FX w v4 v5 v6 v7 n4 m4 o4) (hz1 : fewF n1 m1 = true) (hz2 : fewF n2 m2 = true) (hz3 : fewF n3 m3 = true) (hz4 : fewF n4 m4 = true) (hr : (rightX o1 o2 && rightX o3 o4) = false) :
  Calls Tryz.prog 8 #[.int .i64 i, .agg #[u0, u1, u2, u3, u4, u5, u6, u7], .agg #[v0, v1, v2, v3, v4, v5, v6, v7]] w fun e w' => e = .returned (.tuple #[.agg #[.int .i64 0, .slice none 0 0, .int .i64 0, .slice none 0 0, .int .i64 0, .slice none 0 0, .int .i64 0, .slice none 0 0], .int .i64 1]) ∧ Below w.heap.size w w' := by
 cases h : rightX o1 o2 with
 | false => exact rboth_no1 h1 h2 hz1 hz2 h
 | true => rw [h] at hr; exact rboth_no2 h1 h2 h3 h4 hz1 hz2 hz3 hz4 h hr
end Go.Proofs.YtjbfngjlepafgaaGreat
