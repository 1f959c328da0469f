/- Walks: what is no right big integer is refused, by the program and by the reference. -/
import Derived.Test.YtlinegodpoihoaaGreatDoorBase
import Derived.Test.YtlinegodpoihoaaGreatDoorBigSpec
import Derived.Test.YtlinegodpoihoaaGreatDoorBigA
import Derived.Test.YtlinegodpoihoaaGreatDoorBigB
import Derived.Test.YtlinegodpoihoaaGreatDoorBigC
import Derived.Test.YtlinegodpoihoaaGreatDoorBigD
import Derived.Test.YtlinegodpoihoaaGreatDoorBigK
import Derived.Test.YtlinegodpoihoaaGreatDoorBigQ
import Derived.Test.YtlinegodpoihoaaGreatDoorHeld
import Derived.Test.YtlinegodpoihoaaGreatDoorAw
import Derived.Test.YtlinegodpoihoaaGreatDoorBigU
import Derived.Test.YtlinegodpoihoaaGreatDoorRefR4
import Derived.Test.YtlinegodpoihoaaGreatDoorRefH
import Derived.Test.YtlinegodpoihoaaGreatDoorProg
import Derived.Test.YtlinegodpoihoaaGreatDoorShelf
import Derived.WalkKit
import Derived.WalkSpells
import Derived.WalkLawsBesides
import Derived.Handy
import Derived.Lib.Hide
import Derived.Lib.Strings
import Derived.Lib.Builder
import Derived.BigQuiet
import Derived.OwnWalk
import Derived.Laws.BitsLemmas
import Derived.WalkSmall
import Derived.Deep.QuietTactic
import Derived.StillTailTactics
import Derived.Maps.AppendAt
import Derived.IntWalk
import Derived.Deep.RegionHeld3
import Derived.Deep.DeepFit
import Derived.Deep.LoopGhost
import Derived.Deep.DeepCutAuto
namespace Go.Proofs.YtlinegodpoihoaaGreatDoor
open Go.RowKit Go.Lib
variable {G : Nat}

theorem bigRight_x {s : Int} {a : Option Addr} {n c : Nat} {l : List Int} {b : Bool} {w : World} (h : RdZ w (.slice a n c) l) (hn : n ≤ 1099511627776) (hb : rightB s l = b) :
  Calls Tryz.prog 21 #[.agg #[.int .i64 s, .slice a n c]] w fun e w' => e = .returned (.bool b) ∧ Below w.heap.size w w' := by
 obtain ⟨a', c', hv, hc⟩ := h
 cases hv
 exact bigRight_raw ⟨_, _, rfl, hc⟩ hn hb
theorem rright_x {s : Int} {a : Option Addr} {n c : Nat} {l : List Int} {b : Bool} {w : World} (h : RdZ w (.slice a n c) l) (hn : n ≤ 1099511627776) (hb : rightB s l = b) :
  Calls Tryz.prog 22 #[.agg #[.int .i64 s, .slice a n c]] w fun e w' => e = .returned (.bool b) ∧ Below w.heap.size w w' := by
 obtain ⟨a', c', hv, hc⟩ := h
 cases hv
 exact rright_raw ⟨_, _, rfl, hc⟩ hn hb
set_option maxRecDepth 100000 in
set_option maxHeartbeats 4000000 in
theorem bAdd_n1 {s t : Int} {n k : Nat} {a1 a2 : Option Addr} {c1 c2 : Nat} {l : List Int} {w : World} (h1 : RdZ w (.slice a1 n c1) l) (hl : n ≤ 1099511627776) (hr : rightB s l = false) :
  Calls Tryz.prog 6 #[.agg #[.int .i64 s, .slice a1 n c1], .agg #[.int .i64 t, .slice a2 k c2]] w fun e w' => e = .returned (.tuple #[.agg #[.int .i64 0, .slice none 0 0], .int .i64 1]) ∧ Below w.heap.size w w' := by
 have HL := Lib.hid hl; have HR := Lib.hid hr; clear hl hr
 have H1 : Hid (RdZ w (.slice a1 n c1) l) := h1
 clear h1
 have M : Hid (Below w.heap.size w w) := Below.refl _ _
 go_enter Tryz.func6, Tryz.ntmps6
 go_upto_region 1 with fail
 refine nmW (((w.alloc (.cells #[.int .i64 s, .slice a1 n c1] 24)).alloc (.cells #[.int .i64 t, .slice a2 k c2] 24)).alloc (.cells #[.int .i64 0, .slice none 0 0] 24)) fun w1 hv => ?_
 rw [← hv]
 replace M := al3W hv M
 clear hv
 refine cj2 (J2 M).1.d2 fun aa ab => ?_
 go_wp2_with fail
 clear aa ab
 refine (bigRight_x (s := s) (l := l) (b := false) (H1.out.keep (J3 M)) HL.out HR.out).mono ?_
 rintro e w2 ⟨rfl, hb⟩
 replace M := gnM hb M
 clear hb
 go_wp2_with fail
 refine (checked_no (s := 0) _).mono ?_
 rintro e w3 ⟨rfl, hb⟩
 replace M := gnM hb M
 clear hb
 refine cj4 (M.out.1).c2 fun ac ad ae af => ?_
 go_wp2_with fail
 clear ac ad ae af
 have hz : w.heap.size ≤ w.heap.size + 1 + 1 := by omega
 refine st2W (.int .i64 0) (.slice none 0 0) (M.out.1) (J3 M) hz fun w4 hv og hk hbw => ?_
 rw [← hv]
 replace M := Lib.hid (aI hk (aI ((J1 M).1.only og (by omega)) (aI ((J2 M).1.only og (by omega)) hbw)))
 clear hk hbw og hv hz
 refine bodyPost_ret (results_box2 rfl _ _ (w.heap.size + 1 + 1) 24 _ _ _ rfl (M.out.1) Tryz.underlying24 rfl (by kernel_rfl)) rfl ?_
 exact ⟨rfl, (J3 M)⟩
set_option maxRecDepth 100000 in
set_option maxHeartbeats 4000000 in
theorem bAdd_n2 {s t : Int} {n k : Nat} {a1 a2 : Option Addr} {c1 c2 : Nat} {l m : List Int} {w : World} (h1 : RdZ w (.slice a1 n c1) l) (hl : n ≤ 1099511627776) (hr : rightB s l = true) (h2 : RdZ w (.slice a2 k c2) m) (hk : k ≤ 1099511627776) (hq : rightB t m = false) :
  Calls Tryz.prog 6 #[.agg #[.int .i64 s, .slice a1 n c1], .agg #[.int .i64 t, .slice a2 k c2]] w fun e w' => e = .returned (.tuple #[.agg #[.int .i64 0, .slice none 0 0], .int .i64 1]) ∧ Below w.heap.size w w' := by
 have HL := Lib.hid hl; have HR := Lib.hid hr
 have HK := Lib.hid hk; have HQ := Lib.hid hq; clear hl hr hk hq
 have H1 : Hid (RdZ w (.slice a1 n c1) l) := h1
 have H2 : Hid (RdZ w (.slice a2 k c2) m) := h2
 clear h1 h2
 have M : Hid (Below w.heap.size w w) := Below.refl _ _
 go_enter Tryz.func6, Tryz.ntmps6
 go_upto_region 1 with fail
 refine nmW (((w.alloc (.cells #[.int .i64 s, .slice a1 n c1] 24)).alloc (.cells #[.int .i64 t, .slice a2 k c2] 24)).alloc (.cells #[.int .i64 0, .slice none 0 0] 24)) fun w1 hv => ?_
 rw [← hv]
 replace M := al3W hv M
 clear hv
 refine cj2 (J2 M).1.d2 fun aa ab => ?_
 go_wp2_with fail
 clear aa ab
 refine (bigRight_x (s := s) (l := l) (b := true) (H1.out.keep (J3 M)) HL.out HR.out).mono ?_
 rintro e w2 ⟨rfl, hb⟩
 replace M := gnM hb M
 clear hb
 refine cj2 (J1 M).1.d2 fun ac ad => ?_
 go_wp2_with fail
 clear ac ad
 refine (bigRight_x (s := t) (l := m) (b := false) (H2.out.keep (J3 M)) HK.out HQ.out).mono ?_
 rintro e w3 ⟨rfl, hb⟩
 replace M := gnM hb M
 clear hb
 go_wp2_with fail
 refine (checked_no (s := 0) _).mono ?_
 rintro e w4 ⟨rfl, hb⟩
 replace M := gnM hb M
 clear hb
 refine cj4 (M.out.1).c2 fun ae af ag ah => ?_
 go_wp2_with fail
 clear ae af ag ah
 have hz : w.heap.size ≤ w.heap.size + 1 + 1 := by omega
 refine st2W (.int .i64 0) (.slice none 0 0) (M.out.1) (J3 M) hz fun w5 hv og hk hbw => ?_
 rw [← hv]
 replace M := Lib.hid (aI hk (aI ((J1 M).1.only og (by omega)) (aI ((J2 M).1.only og (by omega)) hbw)))
 clear hk hbw og hv hz
 refine bodyPost_ret (results_box2 rfl _ _ (w.heap.size + 1 + 1) 24 _ _ _ rfl (M.out.1) Tryz.underlying24 rfl (by kernel_rfl)) rfl ?_
 exact ⟨rfl, (J3 M)⟩
set_option maxRecDepth 100000 in
set_option maxHeartbeats 4000000 in
theorem bMul_n1 {s t : Int} {n k : Nat} {a1 a2 : Option Addr} {c1 c2 : Nat} {l : List Int} {w : World} (h1 : RdZ w (.slice a1 n c1) l) (hl : n ≤ 1099511627776) (hr : rightB s l = false) :
  Calls Tryz.prog 10 #[.agg #[.int .i64 s, .slice a1 n c1], .agg #[.int .i64 t, .slice a2 k c2]] w fun e w' => e = .returned (.tuple #[.agg #[.int .i64 0, .slice none 0 0], .int .i64 1]) ∧ Below w.heap.size w w' := by
 have HL := Lib.hid hl; have HR := Lib.hid hr; clear hl hr
 have H1 : Hid (RdZ w (.slice a1 n c1) l) := h1
 clear h1
 have M : Hid (Below w.heap.size w w) := Below.refl _ _
 go_enter Tryz.func10, Tryz.ntmps10
 go_upto_region 1 with fail
 refine nmW (((w.alloc (.cells #[.int .i64 s, .slice a1 n c1] 24)).alloc (.cells #[.int .i64 t, .slice a2 k c2] 24)).alloc (.cells #[.int .i64 0, .slice none 0 0] 24)) fun w1 hv => ?_
 rw [← hv]
 replace M := al3W hv M
 clear hv
 refine cj2 (J2 M).1.d2 fun aa ab => ?_
 go_wp2_with fail
 clear aa ab
 refine (bigRight_x (s := s) (l := l) (b := false) (H1.out.keep (J3 M)) HL.out HR.out).mono ?_
 rintro e w2 ⟨rfl, hb⟩
 replace M := gnM hb M
 clear hb
 go_wp2_with fail
 refine (checked_no (s := 0) _).mono ?_
 rintro e w3 ⟨rfl, hb⟩
 replace M := gnM hb M
 clear hb
 refine cj4 (M.out.1).c2 fun ac ad ae af => ?_
 go_wp2_with fail
 clear ac ad ae af
 have hz : w.heap.size ≤ w.heap.size + 1 + 1 := by omega
 refine st2W (.int .i64 0) (.slice none 0 0) (M.out.1) (J3 M) hz fun w4 hv og hk hbw => ?_
 rw [← hv]
 replace M := Lib.hid (aI hk (aI ((J1 M).1.only og (by omega)) (aI ((J2 M).1.only og (by omega)) hbw)))
 clear hk hbw og hv hz
 refine bodyPost_ret (results_box2 rfl _ _ (w.heap.size + 1 + 1) 24 _ _ _ rfl (M.out.1) Tryz.underlying24 rfl (by kernel_rfl)) rfl ?_
 exact ⟨rfl, (J3 M)⟩
set_option maxRecDepth 100000 in
set_option maxHeartbeats 4000000 in
theorem bMul_n2 {s t : Int} {n k : Nat} {a1 a2 : Option Addr} {c1 c2 : Nat} {l m : List Int} {w : World} (h1 : RdZ w (.slice a1 n c1) l) (hl : n ≤ 1099511627776) (hr : rightB s l = true) (h2 : RdZ w (.slice a2 k c2) m) (hk : k ≤ 1099511627776) (hq : rightB t m = false) :
  Calls Tryz.prog 10 #[.agg #[.int .i64 s, .slice a1 n c1], .agg #[.int .i64 t, .slice a2 k c2]] w fun e w' => e = .returned (.tuple #[.agg #[.int .i64 0, .slice none 0 0], .int .i64 1]) ∧ Below w.heap.size w w' := by
 have HL := Lib.hid hl; have HR := Lib.hid hr
 have HK := Lib.hid hk; have HQ := Lib.hid hq; clear hl hr hk hq
 have H1 : Hid (RdZ w (.slice a1 n c1) l) := h1
 have H2 : Hid (RdZ w (.slice a2 k c2) m) := h2
 clear h1 h2
 have M : Hid (Below w.heap.size w w) := Below.refl _ _
 go_enter Tryz.func10, Tryz.ntmps10
 go_upto_region 1 with fail
 refine nmW (((w.alloc (.cells #[.int .i64 s, .slice a1 n c1] 24)).alloc (.cells #[.int .i64 t, .slice a2 k c2] 24)).alloc (.cells #[.int .i64 0, .slice none 0 0] 24)) fun w1 hv => ?_
 rw [← hv]
 replace M := al3W hv M
 clear hv
 refine cj2 (J2 M).1.d2 fun aa ab => ?_
 go_wp2_with fail
 clear aa ab
 refine (bigRight_x (s := s) (l := l) (b := true) (H1.out.keep (J3 M)) HL.out HR.out).mono ?_
 rintro e w2 ⟨rfl, hb⟩
 replace M := gnM hb M
 clear hb
 refine cj2 (J1 M).1.d2 fun ac ad => ?_
 go_wp2_with fail
 clear ac ad
 refine (bigRight_x (s := t) (l := m) (b := false) (H2.out.keep (J3 M)) HK.out HQ.out).mono ?_
 rintro e w3 ⟨rfl, hb⟩
 replace M := gnM hb M
 clear hb
 go_wp2_with fail
 refine (checked_no (s := 0) _).mono ?_
 rintro e w4 ⟨rfl, hb⟩
 replace M := gnM hb M
 clear hb
 refine cj4 (M.out.1).c2 fun ae af ag ah => ?_
 go_wp2_with fail
 clear ae af ag ah
 have hz : w.heap.size ≤ w.heap.size + 1 + 1 := by omega
 refine st2W (.int .i64 0) (.slice none 0 0) (M.out.1) (J3 M) hz fun w5 hv og hk hbw => ?_
 rw [← hv]
 replace M := Lib.hid (aI hk (aI ((J1 M).1.only og (by omega)) (aI ((J2 M).1.only og (by omega)) hbw)))
 clear hk hbw og hv hz
 refine bodyPost_ret (results_box2 rfl _ _ (w.heap.size + 1 + 1) 24 _ _ _ rfl (M.out.1) Tryz.underlying24 rfl (by kernel_rfl)) rfl ?_
 exact ⟨rfl, (J3 M)⟩
set_option maxRecDepth 100000 in
set_option maxHeartbeats 4000000 in
theorem bDiv_n1 {s t : Int} {n k : Nat} {a1 a2 : Option Addr} {c1 c2 : Nat} {l : List Int} {w : World} (h1 : RdZ w (.slice a1 n c1) l) (hl : n ≤ 1099511627776) (hr : rightB s l = false) :
  Calls Tryz.prog 13 #[.agg #[.int .i64 s, .slice a1 n c1], .agg #[.int .i64 t, .slice a2 k c2]] w fun e w' => e = .returned (.tuple #[.agg #[.int .i64 0, .slice none 0 0], .agg #[.int .i64 0, .slice none 0 0], .int .i64 1]) ∧ Below w.heap.size w w' := by
 have HL := Lib.hid hl; have HR := Lib.hid hr; clear hl hr
 have H1 : Hid (RdZ w (.slice a1 n c1) l) := h1
 clear h1
 have M : Hid (Below w.heap.size w w) := Below.refl _ _
 go_enter Tryz.func13, Tryz.ntmps13
 go_upto_region 1 with fail
 refine nmW ((((w.alloc (.cells #[.int .i64 s, .slice a1 n c1] 24)).alloc (.cells #[.int .i64 t, .slice a2 k c2] 24)).alloc (.cells #[.int .i64 0, .slice none 0 0] 24)).alloc (.cells #[.int .i64 0, .slice none 0 0] 24)) fun w1 hv => ?_
 rw [← hv]
 replace M := al4W hv M
 clear hv
 refine cj2 (J3 M).1.d2 fun aa ab => ?_
 go_wp2_with fail
 clear aa ab
 refine (bigRight_x (s := s) (l := l) (b := false) (H1.out.keep (J4 M)) HL.out HR.out).mono ?_
 rintro e w2 ⟨rfl, hb⟩
 replace M := gnM hb M
 clear hb
 refine cj4 (J1 M).1.c2 fun ac ad ae af => ?_
 refine cj4 (M.out.1).c2 fun ag ah ai aj => ?_
 go_wp2_with fail
 clear ac ad ae af ag ah ai aj
 have hz : w.heap.size ≤ w.heap.size + 1 + 1 := by omega
 refine st2W (.int .i64 0) (.slice none 0 0) (J1 M).1 (J4 M) hz fun w3 hv og hk hbw => ?_
 rw [← hv]
 replace M := Lib.hid (aI ((M.out.1).only og (by omega)) (aI hk (aI ((J2 M).1.only og (by omega)) (aI ((J3 M).1.only og (by omega)) hbw))))
 clear hk hbw og hv hz
 have hz : w.heap.size ≤ w.heap.size + 1 + 1 + 1 := by omega
 refine st2W (.int .i64 0) (.slice none 0 0) (M.out.1) (J4 M) hz fun w4 hv og hk hbw => ?_
 rw [← hv]
 replace M := Lib.hid (aI hk (aI ((J1 M).1.only og (by omega)) (aI ((J2 M).1.only og (by omega)) (aI ((J3 M).1.only og (by omega)) hbw))))
 clear hk hbw og hv hz
 refine bodyPost_ret (results_box2t rfl _ _ (w.heap.size + 1 + 1) (w.heap.size + 1 + 1 + 1) 24 24 _ _ _ _ _ _ rfl (J1 M).1 Tryz.underlying24 rfl (by kernel_rfl) rfl (M.out.1) Tryz.underlying24 rfl (by kernel_rfl)) rfl ?_
 exact ⟨rfl, (J4 M)⟩
set_option maxRecDepth 100000 in
set_option maxHeartbeats 4000000 in
theorem bDiv_n2 {s t : Int} {n k : Nat} {a1 a2 : Option Addr} {c1 c2 : Nat} {l m : List Int} {w : World} (h1 : RdZ w (.slice a1 n c1) l) (hl : n ≤ 1099511627776) (hr : rightB s l = true) (h2 : RdZ w (.slice a2 k c2) m) (hk : k ≤ 1099511627776) (hq : rightB t m = false) :
  Calls Tryz.prog 13 #[.agg #[.int .i64 s, .slice a1 n c1], .agg #[.int .i64 t, .slice a2 k c2]] w fun e w' => e = .returned (.tuple #[.agg #[.int .i64 0, .slice none 0 0], .agg #[.int .i64 0, .slice none 0 0], .int .i64 1]) ∧ Below w.heap.size w w' := by
 have HL := Lib.hid hl; have HR := Lib.hid hr
 have HK := Lib.hid hk; have HQ := Lib.hid hq; clear hl hr hk hq
 have H1 : Hid (RdZ w (.slice a1 n c1) l) := h1
 have H2 : Hid (RdZ w (.slice a2 k c2) m) := h2
 clear h1 h2
 have M : Hid (Below w.heap.size w w) := Below.refl _ _
 go_enter Tryz.func13, Tryz.ntmps13
 go_upto_region 1 with fail
 refine nmW ((((w.alloc (.cells #[.int .i64 s, .slice a1 n c1] 24)).alloc (.cells #[.int .i64 t, .slice a2 k c2] 24)).alloc (.cells #[.int .i64 0, .slice none 0 0] 24)).alloc (.cells #[.int .i64 0, .slice none 0 0] 24)) fun w1 hv => ?_
 rw [← hv]
 replace M := al4W hv M
 clear hv
 refine cj2 (J3 M).1.d2 fun aa ab => ?_
 go_wp2_with fail
 clear aa ab
 refine (bigRight_x (s := s) (l := l) (b := true) (H1.out.keep (J4 M)) HL.out HR.out).mono ?_
 rintro e w2 ⟨rfl, hb⟩
 replace M := gnM hb M
 clear hb
 refine cj2 (J2 M).1.d2 fun ac ad => ?_
 go_wp2_with fail
 clear ac ad
 refine (bigRight_x (s := t) (l := m) (b := false) (H2.out.keep (J4 M)) HK.out HQ.out).mono ?_
 rintro e w3 ⟨rfl, hb⟩
 replace M := gnM hb M
 clear hb
 refine cj4 (J1 M).1.c2 fun ae af ag ah => ?_
 refine cj4 (M.out.1).c2 fun ai aj ak al => ?_
 go_wp2_with fail
 clear ae af ag ah ai aj ak al
 have hz : w.heap.size ≤ w.heap.size + 1 + 1 := by omega
 refine st2W (.int .i64 0) (.slice none 0 0) (J1 M).1 (J4 M) hz fun w4 hv og hk hbw => ?_
 rw [← hv]
 replace M := Lib.hid (aI ((M.out.1).only og (by omega)) (aI hk (aI ((J2 M).1.only og (by omega)) (aI ((J3 M).1.only og (by omega)) hbw))))
 clear hk hbw og hv hz
 have hz : w.heap.size ≤ w.heap.size + 1 + 1 + 1 := by omega
 refine st2W (.int .i64 0) (.slice none 0 0) (M.out.1) (J4 M) hz fun w5 hv og hk hbw => ?_
 rw [← hv]
 replace M := Lib.hid (aI hk (aI ((J1 M).1.only og (by omega)) (aI ((J2 M).1.only og (by omega)) (aI ((J3 M).1.only og (by omega)) hbw))))
 clear hk hbw og hv hz
 refine bodyPost_ret (results_box2t rfl _ _ (w.heap.size + 1 + 1) (w.heap.size + 1 + 1 + 1) 24 24 _ _ _ _ _ _ rfl (J1 M).1 Tryz.underlying24 rfl (by kernel_rfl) rfl (M.out.1) Tryz.underlying24 rfl (by kernel_rfl)) rfl ?_
 exact ⟨rfl, (J4 M)⟩
set_option maxRecDepth 100000 in
set_option maxHeartbeats 4000000 in
theorem bGcd_n1 {s t : Int} {n k : Nat} {a1 a2 : Option Addr} {c1 c2 : Nat} {l : List Int} {w : World} (h1 : RdZ w (.slice a1 n c1) l) (hl : n ≤ 1099511627776) (hr : rightB s l = false) :
  Calls Tryz.prog 19 #[.agg #[.int .i64 s, .slice a1 n c1], .agg #[.int .i64 t, .slice a2 k c2]] w fun e w' => e = .returned (.tuple #[.agg #[.int .i64 0, .slice none 0 0], .int .i64 1]) ∧ Below w.heap.size w w' := by
 have HL := Lib.hid hl; have HR := Lib.hid hr; clear hl hr
 have H1 : Hid (RdZ w (.slice a1 n c1) l) := h1
 clear h1
 have M : Hid (Below w.heap.size w w) := Below.refl _ _
 go_enter Tryz.func19, Tryz.ntmps19
 go_upto_region 1 with fail
 refine nmW (((w.alloc (.cells #[.int .i64 s, .slice a1 n c1] 24)).alloc (.cells #[.int .i64 t, .slice a2 k c2] 24)).alloc (.cells #[.int .i64 0, .slice none 0 0] 24)) fun w1 hv => ?_
 rw [← hv]
 replace M := al3W hv M
 clear hv
 refine cj2 (J2 M).1.d2 fun aa ab => ?_
 go_wp2_with fail
 clear aa ab
 refine (bigRight_x (s := s) (l := l) (b := false) (H1.out.keep (J3 M)) HL.out HR.out).mono ?_
 rintro e w2 ⟨rfl, hb⟩
 replace M := gnM hb M
 clear hb
 go_wp2_with fail
 refine (checked_no (s := 0) _).mono ?_
 rintro e w3 ⟨rfl, hb⟩
 replace M := gnM hb M
 clear hb
 refine cj4 (M.out.1).c2 fun ac ad ae af => ?_
 go_wp2_with fail
 clear ac ad ae af
 have hz : w.heap.size ≤ w.heap.size + 1 + 1 := by omega
 refine st2W (.int .i64 0) (.slice none 0 0) (M.out.1) (J3 M) hz fun w4 hv og hk hbw => ?_
 rw [← hv]
 replace M := Lib.hid (aI hk (aI ((J1 M).1.only og (by omega)) (aI ((J2 M).1.only og (by omega)) hbw)))
 clear hk hbw og hv hz
 refine bodyPost_ret (results_box2 rfl _ _ (w.heap.size + 1 + 1) 24 _ _ _ rfl (M.out.1) Tryz.underlying24 rfl (by kernel_rfl)) rfl ?_
 exact ⟨rfl, (J3 M)⟩
set_option maxRecDepth 100000 in
set_option maxHeartbeats 4000000 in
theorem bGcd_n2 {s t : Int} {n k : Nat} {a1 a2 : Option Addr} {c1 c2 : Nat} {l m : List Int} {w : World} (h1 : RdZ w (.slice a1 n c1) l) (hl : n ≤ 1099511627776) (hr : rightB s l = true) (h2 : RdZ w (.slice a2 k c2) m) (hk : k ≤ 1099511627776) (hq : rightB t m = false) :
  Calls Tryz.prog 19 #[.agg #[.int .i64 s, .slice a1 n c1], .agg #[.int .i64 t, .slice a2 k c2]] w fun e w' => e = .returned (.tuple #[.agg #[.int .i64 0, .slice none 0 0], .int .i64 1]) ∧ Below w.heap.size w w' := by
 have HL := Lib.hid hl; have HR := Lib.hid hr
 have HK := Lib.hid hk; have HQ := Lib.hid hq; clear hl hr hk hq
 have H1 : Hid (RdZ w (.slice a1 n c1) l) := h1
 have H2 : Hid (RdZ w (.slice a2 k c2) m) := h2
 clear h1 h2
 have M : Hid (Below w.heap.size w w) := Below.refl _ _
 go_enter Tryz.func19, Tryz.ntmps19
 go_upto_region 1 with fail
 refine nmW (((w.alloc (.cells #[.int .i64 s, .slice a1 n c1] 24)).alloc (.cells #[.int .i64 t, .slice a2 k c2] 24)).alloc (.cells #[.int .i64 0, .slice none 0 0] 24)) fun w1 hv => ?_
 rw [← hv]
 replace M := al3W hv M
 clear hv
 refine cj2 (J2 M).1.d2 fun aa ab => ?_
 go_wp2_with fail
 clear aa ab
 refine (bigRight_x (s := s) (l := l) (b := true) (H1.out.keep (J3 M)) HL.out HR.out).mono ?_
 rintro e w2 ⟨rfl, hb⟩
 replace M := gnM hb M
 clear hb
 refine cj2 (J1 M).1.d2 fun ac ad => ?_
 go_wp2_with fail
 clear ac ad
 refine (bigRight_x (s := t) (l := m) (b := false) (H2.out.keep (J3 M)) HK.out HQ.out).mono ?_
 rintro e w3 ⟨rfl, hb⟩
 replace M := gnM hb M
 clear hb
 go_wp2_with fail
 refine (checked_no (s := 0) _).mono ?_
 rintro e w4 ⟨rfl, hb⟩
 replace M := gnM hb M
 clear hb
 refine cj4 (M.out.1).c2 fun ae af ag ah => ?_
 go_wp2_with fail
 clear ae af ag ah
 have hz : w.heap.size ≤ w.heap.size + 1 + 1 := by omega
 refine st2W (.int .i64 0) (.slice none 0 0) (M.out.1) (J3 M) hz fun w5 hv og hk hbw => ?_
 rw [← hv]
 replace M := Lib.hid (aI hk (aI ((J1 M).1.only og (by omega)) (aI ((J2 M).1.only og (by omega)) hbw)))
 clear hk hbw og hv hz
 refine bodyPost_ret (results_box2 rfl _ _ (w.heap.size + 1 + 1) 24 _ _ _ rfl (M.out.1) Tryz.underlying24 rfl (by kernel_rfl)) rfl ?_
 exact ⟨rfl, (J3 M)⟩
set_option maxRecDepth 100000 in
set_option maxHeartbeats 4000000 in
theorem bCompare_n1 {s t : Int} {n k : Nat} {a1 a2 : Option Addr} {c1 c2 : Nat} {l : List Int} {w : World} (h1 : RdZ w (.slice a1 n c1) l) (hl : n ≤ 1099511627776) (hr : rightB s l = false) :
  Calls Tryz.prog 23 #[.agg #[.int .i64 s, .slice a1 n c1], .agg #[.int .i64 t, .slice a2 k c2]] w fun e w' => e = .returned (.int .i64 0) ∧ Below w.heap.size w w' := by
 have HL := Lib.hid hl; have HR := Lib.hid hr; clear hl hr
 have H1 : Hid (RdZ w (.slice a1 n c1) l) := h1
 clear h1
 have M : Hid (Below w.heap.size w w) := Below.refl _ _
 go_enter Tryz.func23, Tryz.ntmps23
 go_upto_region 1 with fail
 refine nmW ((w.alloc (.cells #[.int .i64 s, .slice a1 n c1] 24)).alloc (.cells #[.int .i64 t, .slice a2 k c2] 24)) fun w1 hv => ?_
 rw [← hv]
 replace M := al2W hv M
 clear hv
 refine cj2 (J1 M).1.d2 fun aa ab => ?_
 go_wp2_with fail
 clear aa ab
 refine (bigRight_x (s := s) (l := l) (b := false) (H1.out.keep (J2 M)) HL.out HR.out).mono ?_
 rintro e w2 ⟨rfl, hb⟩
 replace M := gnM hb M
 clear hb
 go_wp2_with fail
 go_ret
 exact ⟨rfl, (J2 M)⟩
set_option maxRecDepth 100000 in
set_option maxHeartbeats 4000000 in
theorem bCompare_n2 {s t : Int} {n k : Nat} {a1 a2 : Option Addr} {c1 c2 : Nat} {l m : List Int} {w : World} (h1 : RdZ w (.slice a1 n c1) l) (hl : n ≤ 1099511627776) (hr : rightB s l = true) (h2 : RdZ w (.slice a2 k c2) m) (hk : k ≤ 1099511627776) (hq : rightB t m = false) :
  Calls Tryz.prog 23 #[.agg #[.int .i64 s, .slice a1 n c1], .agg #[.int .i64 t, .slice a2 k c2]] w fun e w' => e = .returned (.int .i64 0) ∧ Below w.heap.size w w' := by
 have HL := Lib.hid hl; have HR := Lib.hid hr
 have HK := Lib.hid hk; have HQ := Lib.hid hq; clear hl hr hk hq
 have H1 : Hid (RdZ w (.slice a1 n c1) l) := h1
 have H2 : Hid (RdZ w (.slice a2 k c2) m) := h2
 clear h1 h2
 have M : Hid (Below w.heap.size w w) := Below.refl _ _
 go_enter Tryz.func23, Tryz.ntmps23
 go_upto_region 1 with fail
 refine nmW ((w.alloc (.cells #[.int .i64 s, .slice a1 n c1] 24)).alloc (.cells #[.int .i64 t, .slice a2 k c2] 24)) fun w1 hv => ?_
 rw [← hv]
 replace M := al2W hv M
 clear hv
 refine cj2 (J1 M).1.d2 fun aa ab => ?_
 go_wp2_with fail
 clear aa ab
 refine (bigRight_x (s := s) (l := l) (b := true) (H1.out.keep (J2 M)) HL.out HR.out).mono ?_
 rintro e w2 ⟨rfl, hb⟩
 replace M := gnM hb M
 clear hb
 refine cj2 (M.out.1).d2 fun ac ad => ?_
 go_wp2_with fail
 clear ac ad
 refine (bigRight_x (s := t) (l := m) (b := false) (H2.out.keep (J2 M)) HK.out HQ.out).mono ?_
 rintro e w3 ⟨rfl, hb⟩
 replace M := gnM hb M
 clear hb
 go_wp2_with fail
 go_ret
 exact ⟨rfl, (J2 M)⟩
set_option maxRecDepth 100000 in
set_option maxHeartbeats 4000000 in
theorem bSub_n3 {s t : Int} {n k : Nat} {a1 a2 : Option Addr} {c1 c2 : Nat} {l : List Int} {w : World} (h2 : RdZ w (.slice a2 k c2) l) (hk : k ≤ 1099511627776) (hq : rightB t l = false) :
  Calls Tryz.prog 8 #[.agg #[.int .i64 s, .slice a1 n c1], .agg #[.int .i64 t, .slice a2 k c2]] w fun e w' => e = .returned (.tuple #[.agg #[.int .i64 0, .slice none 0 0], .int .i64 1]) ∧ Below w.heap.size w w' := by
 have HK := Lib.hid hk; have HQ := Lib.hid hq; clear hk hq
 have H2 : Hid (RdZ w (.slice a2 k c2) l) := h2
 clear h2
 have M : Hid (Below w.heap.size w w) := Below.refl _ _
 go_enter Tryz.func8, Tryz.ntmps8
 go_upto_region 1 with fail
 refine nmW (((w.alloc (.cells #[.int .i64 s, .slice a1 n c1] 24)).alloc (.cells #[.int .i64 t, .slice a2 k c2] 24)).alloc (.cells #[.int .i64 0, .slice none 0 0] 24)) fun w1 hv => ?_
 rw [← hv]
 replace M := al3W hv M
 clear hv
 refine cj2 (J1 M).1.d2 fun aa ab => ?_
 go_wp2_with fail
 clear aa ab
 refine (bigRight_x (s := t) (l := l) (b := false) (H2.out.keep (J3 M)) HK.out HQ.out).mono ?_
 rintro e w2 ⟨rfl, hb⟩
 replace M := gnM hb M
 clear hb
 go_wp2_with fail
 refine (checked_no (s := 0) _).mono ?_
 rintro e w3 ⟨rfl, hb⟩
 replace M := gnM hb M
 clear hb
 refine cj4 (M.out.1).c2 fun ac ad ae af => ?_
 go_wp2_with fail
 clear ac ad ae af
 have hz : w.heap.size ≤ w.heap.size + 1 + 1 := by omega
 refine st2W (.int .i64 0) (.slice none 0 0) (M.out.1) (J3 M) hz fun w4 hv og hk hbw => ?_
 rw [← hv]
 replace M := Lib.hid (aI hk (aI ((J1 M).1.only og (by omega)) (aI ((J2 M).1.only og (by omega)) hbw)))
 clear hk hbw og hv hz
 refine bodyPost_ret (results_box2 rfl _ _ (w.heap.size + 1 + 1) 24 _ _ _ rfl (M.out.1) Tryz.underlying24 rfl (by kernel_rfl)) rfl ?_
 exact ⟨rfl, (J3 M)⟩
set_option maxRecDepth 100000 in
set_option maxHeartbeats 4000000 in
theorem bSub_n4 {s y : Int} {n : Nat} {a1 a2 : Option Addr} {c1 c2 : Nat} {l : List Int} {w : World} (_hG : G ≤ w.heap.size) (h1 : RdZ w (.slice a1 n c1) l) (hl : n ≤ 1099511627776) (hr : rightB s l = false) (h2 : BD G w a2 c2 y) (hy : Sz y 549755813888) :
  Calls Tryz.prog 8 #[.agg #[.int .i64 s, .slice a1 n c1], .agg #[.int .i64 (sg y), .slice a2 (ln y) c2]] w fun e w' => e = .returned (.tuple #[.agg #[.int .i64 0, .slice none 0 0], .int .i64 1]) ∧ Below w.heap.size w w' := by
 have HL := Lib.hid hl; have HR := Lib.hid hr; have HY := Lib.hid hy; clear hl hr hy
 have H1 : Hid (RdZ w (.slice a1 n c1) l) := h1
 have H2 : Hid (BD G w a2 c2 y) := h2
 clear h1 h2
 have M : Hid (Below w.heap.size w w) := Below.refl _ _
 go_enter Tryz.func8, Tryz.ntmps8
 go_upto_region 1 with fail
 refine nmW (((w.alloc (.cells #[.int .i64 s, .slice a1 n c1] 24)).alloc (.cells #[.int .i64 (sg y), .slice a2 (ln y) c2] 24)).alloc (.cells #[.int .i64 0, .slice none 0 0] 24)) fun w1 hv => ?_
 rw [← hv]
 replace M := al3W hv M
 clear hv
 refine cj2 (J1 M).1.d2 fun aa ab => ?_
 go_wp2_with fail
 clear aa ab
 refine (bigRight_ok (G := G) (z := y) (H2.out.keep (J3 M)) (Sz.mono HY.out (by omega))).mono ?_
 rintro e w2 ⟨rfl, hb⟩
 replace M := gnM hb M
 clear hb
 go_wp2_with fail
 refine nmW w2.drew fun w3 hv => ?_
 replace M := drM hv M
 refine wp_region_held_drew (S := (fun w' => w'.cell? ⟨w.heap.size, 0, none⟩ = some (.int .i64 s) ∧ w'.cell? ⟨w.heap.size, 1, none⟩ = some (.slice a1 n c1) ∧ w'.cell? ⟨w.heap.size + 1, 0, none⟩ = some (.int .i64 (sg y)) ∧ w'.cell? ⟨w.heap.size + 1, 1, none⟩ = some (.slice a2 (ln y) c2))) (by kernel_rfl) (by rw [← hv]; exact ((J2 M).1.t2 ((J1 M).1.d2))) (fun hH5 => ?_)
 rw [← hv] at hH5 ⊢
 clear hv
 refine tk at0 ?_
 refine tk at1 ?_
 refine wpAnyH_ready (rs := [2]) (by kernel_rfl) (by simp) ?_
 refine AllReadyH.cons at2 (fun K hK => ?_) AllReadyH.nil
 go_simp
 obtain ⟨z8, ez8⟩ : ∃ v_ : Int, v_ = (-y) := ⟨_, rfl⟩
 refine (bigNeg_ok (G := G) (x := y) (H2.out.keep (J3 M)) HY.out).mono ?_
 rintro e w4 ⟨a_6, c_7, rfl, hd9, hb⟩
 rw [← ez8] at hd9 ⊢
 have Sz8 : Hid (Sz z8 549755813888) := by show Sz z8 549755813888; rw [ez8]; exact (Sz.neg HY.out)
 have Ez8 := Lib.hid ez8; clear ez8
 replace M := adM hd9 hb M
 clear hb hd9
 (try go_wp2_with fail)
 refine hK.out _ _ (((J3 M).1.t2 ((J2 M).1.d2))) (fun hH10 => ?_)
 clear hK K hH5
 (try simp only [Act.put, List.setIfInBounds_toArray, List.set_cons_zero, List.set_cons_succ])
 refine wpAnyH_ready (rs := [3]) (by kernel_rfl) (by simp) ?_
 refine AllReadyH.cons at3 (fun K hK => ?_) AllReadyH.nil
 go_simp
 refine (bAdd_n1 (s := s) (t := (sg z8)) (l := l) (H1.out.keep (J4 M)) HL.out HR.out).mono ?_
 rintro e w5 ⟨rfl, hb⟩
 replace M := gnM hb M
 clear hb
 (try go_wp2_with fail)
 refine hK.out _ _ (((J3 M).1.t2 ((J2 M).1.d2))) (fun hH11 => ?_)
 clear hK K hH10
 (try simp only [Act.put, List.setIfInBounds_toArray, List.set_cons_zero, List.set_cons_succ])
 refine tk at4 ?_
 refine tk at5 ?_
 refine wpAnyH_ready (rs := [6]) (by kernel_rfl) (by simp) ?_
 refine AllReadyH.cons at6 (fun K hK => ?_) AllReadyH.nil
 refine cj4 (J1 M).1.c2 fun ac ad ae af => ?_
 go_simp
 clear ac ad ae af
 have hz : w.heap.size ≤ w.heap.size + 1 + 1 := by omega
 refine st2W (.int .i64 0) (.slice none 0 0) (J1 M).1 (J4 M) hz fun w6 hv og hk hbw => ?_
 rw [← hv]
 replace M := Lib.hid (aI ((M.out.1).far (J1 M).1 (by rfl) (by omega) og) (aI hk (aI ((J2 M).1.only og (by omega)) (aI ((J3 M).1.only og (by omega)) hbw))))
 clear hk hbw og hv hz
 refine hK.out _ _ (((J3 M).1.t2 ((J2 M).1.d2))) (fun hH12 => ?_)
 clear hK K hH11
 (try simp only [Act.put, List.setIfInBounds_toArray, List.set_cons_zero, List.set_cons_succ])
 refine tk at7 ?_
 refine wpAnyH_done (by kernel_rfl) ?_ _
 clear hH12
 go_wp2_with fail
 refine bodyPost_ret (results_box2 rfl _ _ (w.heap.size + 1 + 1) 24 _ _ _ rfl (J1 M).1 Tryz.underlying24 rfl (by kernel_rfl)) rfl ?_
 exact ⟨rfl, (J4 M)⟩
set_option maxRecDepth 100000 in
set_option maxHeartbeats 4000000 in
theorem bDiv_z {x y : Int} {a1 a2 : Option Addr} {c1 c2 : Nat} {w : World} (_hG : G ≤ w.heap.size) (h1 : BD G w a1 c1 x) (h2 : BD G w a2 c2 y) (hx : Sz x 549755813888) (hy : Sz y 549755813888) (hy0 : y = 0) :
  Calls Tryz.prog 13 #[.agg #[.int .i64 (sg x), .slice a1 (ln x) c1], .agg #[.int .i64 (sg y), .slice a2 (ln y) c2]] w fun e w' => e = .returned (.tuple #[.agg #[.int .i64 0, .slice none 0 0], .agg #[.int .i64 0, .slice none 0 0], .int .i64 15]) ∧ Below w.heap.size w w' := by
 have e0 : (sg y == 0) = true := by rw [hy0]; rfl
 have HX := Lib.hid hx; have HY := Lib.hid hy; clear hx hy hy0
 have H1 : Hid (BD G w a1 c1 x) := h1
 have H2 : Hid (BD G w a2 c2 y) := h2
 clear h1 h2
 have M : Hid (Below w.heap.size w w) := Below.refl _ _
 go_enter Tryz.func13, Tryz.ntmps13
 go_upto_region 1 with fail
 refine nmW ((((w.alloc (.cells #[.int .i64 (sg x), .slice a1 (ln x) c1] 24)).alloc (.cells #[.int .i64 (sg y), .slice a2 (ln y) c2] 24)).alloc (.cells #[.int .i64 0, .slice none 0 0] 24)).alloc (.cells #[.int .i64 0, .slice none 0 0] 24)) fun w1 hv => ?_
 rw [← hv]
 replace M := al4W hv M
 clear hv
 refine cj2 (J3 M).1.d2 fun aa ab => ?_
 go_wp2_with fail
 clear aa ab
 refine (bigRight_ok (G := G) (z := x) (H1.out.keep (J4 M)) (Sz.mono HX.out (by omega))).mono ?_
 rintro e w2 ⟨rfl, hb⟩
 replace M := gnM hb M
 clear hb
 refine cj2 (J2 M).1.d2 fun ac ad => ?_
 go_wp2_with fail
 clear ac ad
 refine (bigRight_ok (G := G) (z := y) (H2.out.keep (J4 M)) (Sz.mono HY.out (by omega))).mono ?_
 rintro e w3 ⟨rfl, hb⟩
 replace M := gnM hb M
 clear hb
 refine cj2 (J2 M).1.d2 fun ac ad => ?_
 refine cj4 (J1 M).1.c2 fun ae af ag ah => ?_
 refine cj4 (M.out.1).c2 fun ai aj ak al => ?_
 go_wp2_with fail
 clear ac ad ae af ag ah ai aj ak al
 have hz : w.heap.size ≤ w.heap.size + 1 + 1 := by omega
 refine st2W (.int .i64 0) (.slice none 0 0) (J1 M).1 (J4 M) hz fun w4 hv og hk hbw => ?_
 rw [← hv]
 replace M := Lib.hid (aI ((M.out.1).only og (by omega)) (aI hk (aI ((J2 M).1.only og (by omega)) (aI ((J3 M).1.only og (by omega)) hbw))))
 clear hk hbw og hv hz
 have hz : w.heap.size ≤ w.heap.size + 1 + 1 + 1 := by omega
 refine st2W (.int .i64 0) (.slice none 0 0) (M.out.1) (J4 M) hz fun w5 hv og hk hbw => ?_
 rw [← hv]
 replace M := Lib.hid (aI hk (aI ((J1 M).1.only og (by omega)) (aI ((J2 M).1.only og (by omega)) (aI ((J3 M).1.only og (by omega)) hbw))))
 clear hk hbw og hv hz
 refine bodyPost_ret (results_box2t rfl _ _ (w.heap.size + 1 + 1) (w.heap.size + 1 + 1 + 1) 24 24 _ _ _ _ _ _ rfl (J1 M).1 Tryz.underlying24 rfl (by kernel_rfl) rfl (M.out.1) Tryz.underlying24 rfl (by kernel_rfl)) rfl ?_
 exact ⟨rfl, (J4 M)⟩
set_option maxRecDepth 100000 in
set_option maxHeartbeats 4000000 in
theorem bNeg_n {s : Int} {n : Nat} {a1 : Option Addr} {c1 : Nat} {l : List Int} {w : World} (h1 : RdZ w (.slice a1 n c1) l) (hl : n ≤ 1099511627776) (hr : rightB s l = false) :
  Calls Tryz.prog 28 #[.agg #[.int .i64 s, .slice a1 n c1]] w fun e w' => e = .returned (.agg #[.int .i64 0, .slice none 0 0]) ∧ Below w.heap.size w w' := by
 have HL := Lib.hid hl; have HR := Lib.hid hr; clear hl hr
 have H1 : Hid (RdZ w (.slice a1 n c1) l) := h1
 clear h1
 have M : Hid (Below w.heap.size w w) := Below.refl _ _
 go_enter Tryz.func28, Tryz.ntmps28
 go_upto_region 1 with fail
 refine nmW ((w.alloc (.cells #[.int .i64 s, .slice a1 n c1] 24)).alloc (.cells #[.int .i64 0, .slice none 0 0] 24)) fun w1 hv => ?_
 rw [← hv]
 replace M := al2W hv M
 clear hv
 refine cj2 (J1 M).1.d2 fun aa ab => ?_
 go_wp2_with fail
 clear aa ab
 refine (bigRight_x (s := s) (l := l) (b := false) (H1.out.keep (J2 M)) HL.out HR.out).mono ?_
 rintro e w2 ⟨rfl, hb⟩
 replace M := gnM hb M
 clear hb
 refine cj4 (M.out.1).c2 fun ac ad ae af => ?_
 go_wp2_with fail
 clear ac ad ae af
 have hz : w.heap.size ≤ w.heap.size + 1 := by omega
 refine st2W (.int .i64 0) (.slice none 0 0) (M.out.1) (J2 M) hz fun w3 hv og hk hbw => ?_
 rw [← hv]
 replace M := Lib.hid (aI hk (aI ((J1 M).1.only og (by omega)) hbw))
 clear hk hbw og hv hz
 refine bodyPost_ret (results_box1 rfl _ _ (w.heap.size + 1) 24 _ _ _ rfl (M.out.1) Tryz.underlying24 rfl (by kernel_rfl)) rfl ?_
 exact ⟨rfl, (J2 M)⟩
set_option maxRecDepth 100000 in
set_option maxHeartbeats 4000000 in
theorem bInt_n {s : Int} {n : Nat} {a1 : Option Addr} {c1 : Nat} {l : List Int} {w : World} (h1 : RdZ w (.slice a1 n c1) l) (hl : n ≤ 1099511627776) (hr : rightB s l = false) :
  Calls Tryz.prog 15 #[.agg #[.int .i64 s, .slice a1 n c1]] w fun e w' => e = .returned (.tuple #[.int .i64 0, .bool false]) ∧ Below w.heap.size w w' := by
 have HL := Lib.hid hl; have HR := Lib.hid hr; clear hl hr
 have H1 : Hid (RdZ w (.slice a1 n c1) l) := h1
 clear h1
 have M : Hid (Below w.heap.size w w) := Below.refl _ _
 go_enter Tryz.func15, Tryz.ntmps15
 go_upto_region 1 with fail
 refine nmW (w.alloc (.cells #[.int .i64 s, .slice a1 n c1] 24)) fun w1 hv => ?_
 rw [← hv]
 replace M := alM hv M
 clear hv
 refine cj2 (M.out.1).d2 fun aa ab => ?_
 go_wp2_with fail
 clear aa ab
 refine (bigRight_x (s := s) (l := l) (b := false) (H1.out.keep (J1 M)) HL.out HR.out).mono ?_
 rintro e w2 ⟨rfl, hb⟩
 replace M := gnM hb M
 clear hb
 go_wp2_with fail
 go_ret2
 exact ⟨rfl, (J1 M)⟩
set_option maxRecDepth 100000 in
set_option maxHeartbeats 4000000 in
theorem bText_n {s : Int} {n : Nat} {a1 : Option Addr} {c1 : Nat} {l : List Int} {w : World} (h1 : RdZ w (.slice a1 n c1) l) (hl : n ≤ 1099511627776) (hr : rightB s l = false) :
    Calls Tryz.prog 26 #[.agg #[.int .i64 s, .slice a1 n c1]] w fun e w' => e = .returned (.string {data := #[]}) ∧ Below w.heap.size w w' := by
  have HL := Lib.hid hl; have HR := Lib.hid hr; clear hl hr
  have H1 : Hid (RdZ w (.slice a1 n c1) l) := h1
  clear h1
  have M : Hid (Below w.heap.size w w) := Below.refl _ _
  go_enter Tryz.func26, Tryz.ntmps26
  go_upto_region 1 with fail
  refine nmW (w.alloc (.cells #[.int .i64 s, .slice a1 n c1] 24)) fun w1 hv => ?_
  rw [← hv]
  replace M := alM hv M
  clear hv
  refine cj2 (M.out.1).d2 fun aa ab => ?_
  go_wp2_with fail
  clear aa ab
  refine (bigRight_x (s := s) (l := l) (b := false) (H1.out.keep (J1 M)) HL.out HR.out).mono ?_
  rintro e w2 ⟨rfl, hb⟩
  replace M := gnM hb M
  clear hb
  go_wp2_with fail
  go_ret
  exact ⟨rfl, (J1 M)⟩
set_option maxRecDepth 100000 in
set_option maxHeartbeats 4000000 in
theorem rAdd_n1 {s t : Int} {n k : Nat} {a1 a2 : Option Addr} {c1 c2 : Nat} {l : List Int} {w : World} (h1 : RdZ w (.slice a1 n c1) l) (hl : n ≤ 1099511627776) (hr : rightB s l = false) :
  Calls Tryz.prog 7 #[.agg #[.int .i64 s, .slice a1 n c1], .agg #[.int .i64 t, .slice a2 k c2]] w fun e w' => e = .returned (.tuple #[.agg #[.int .i64 0, .slice none 0 0], .int .i64 1]) ∧ Below w.heap.size w w' := by
 have HL := Lib.hid hl; have HR := Lib.hid hr; clear hl hr
 have H1 : Hid (RdZ w (.slice a1 n c1) l) := h1
 clear h1
 have M : Hid (Below w.heap.size w w) := Below.refl _ _
 go_enter Tryz.func7, Tryz.ntmps7
 go_upto_region 1 with fail
 refine nmW (((w.alloc (.cells #[.int .i64 s, .slice a1 n c1] 24)).alloc (.cells #[.int .i64 t, .slice a2 k c2] 24)).alloc (.cells #[.int .i64 0, .slice none 0 0] 24)) fun w1 hv => ?_
 rw [← hv]
 replace M := al3W hv M
 clear hv
 refine cj2 (J2 M).1.d2 fun aa ab => ?_
 go_wp2_with fail
 clear aa ab
 refine (rright_x (s := s) (l := l) (b := false) (H1.out.keep (J3 M)) HL.out HR.out).mono ?_
 rintro e w2 ⟨rfl, hb⟩
 replace M := gnM hb M
 clear hb
 refine cj4 (M.out.1).c2 fun ac ad ae af => ?_
 go_wp2_with fail
 clear ac ad ae af
 have hz : w.heap.size ≤ w.heap.size + 1 + 1 := by omega
 refine st2W (.int .i64 0) (.slice none 0 0) (M.out.1) (J3 M) hz fun w3 hv og hk hbw => ?_
 rw [← hv]
 replace M := Lib.hid (aI hk (aI ((J1 M).1.only og (by omega)) (aI ((J2 M).1.only og (by omega)) hbw)))
 clear hk hbw og hv hz
 refine bodyPost_ret (results_box2 rfl _ _ (w.heap.size + 1 + 1) 24 _ _ _ rfl (M.out.1) Tryz.underlying24 rfl (by kernel_rfl)) rfl ?_
 exact ⟨rfl, (J3 M)⟩
set_option maxRecDepth 100000 in
set_option maxHeartbeats 4000000 in
theorem rAdd_n2 {s t : Int} {n k : Nat} {a1 a2 : Option Addr} {c1 c2 : Nat} {l m : List Int} {w : World} (h1 : RdZ w (.slice a1 n c1) l) (hl : n ≤ 1099511627776) (hr : rightB s l = true) (h2 : RdZ w (.slice a2 k c2) m) (hk : k ≤ 1099511627776) (hq : rightB t m = false) :
  Calls Tryz.prog 7 #[.agg #[.int .i64 s, .slice a1 n c1], .agg #[.int .i64 t, .slice a2 k c2]] w fun e w' => e = .returned (.tuple #[.agg #[.int .i64 0, .slice none 0 0], .int .i64 1]) ∧ Below w.heap.size w w' := by
 have HL := Lib.hid hl; have HR := Lib.hid hr
 have HK := Lib.hid hk; have HQ := Lib.hid hq; clear hl hr hk hq
 have H1 : Hid (RdZ w (.slice a1 n c1) l) := h1
 have H2 : Hid (RdZ w (.slice a2 k c2) m) := h2
 clear h1 h2
 have M : Hid (Below w.heap.size w w) := Below.refl _ _
 go_enter Tryz.func7, Tryz.ntmps7
 go_upto_region 1 with fail
 refine nmW (((w.alloc (.cells #[.int .i64 s, .slice a1 n c1] 24)).alloc (.cells #[.int .i64 t, .slice a2 k c2] 24)).alloc (.cells #[.int .i64 0, .slice none 0 0] 24)) fun w1 hv => ?_
 rw [← hv]
 replace M := al3W hv M
 clear hv
 refine cj2 (J2 M).1.d2 fun aa ab => ?_
 go_wp2_with fail
 clear aa ab
 refine (rright_x (s := s) (l := l) (b := true) (H1.out.keep (J3 M)) HL.out HR.out).mono ?_
 rintro e w2 ⟨rfl, hb⟩
 replace M := gnM hb M
 clear hb
 refine cj2 (J1 M).1.d2 fun ac ad => ?_
 go_wp2_with fail
 clear ac ad
 refine (rright_x (s := t) (l := m) (b := false) (H2.out.keep (J3 M)) HK.out HQ.out).mono ?_
 rintro e w3 ⟨rfl, hb⟩
 replace M := gnM hb M
 clear hb
 refine cj4 (M.out.1).c2 fun ae af ag ah => ?_
 go_wp2_with fail
 clear ae af ag ah
 have hz : w.heap.size ≤ w.heap.size + 1 + 1 := by omega
 refine st2W (.int .i64 0) (.slice none 0 0) (M.out.1) (J3 M) hz fun w4 hv og hk hbw => ?_
 rw [← hv]
 replace M := Lib.hid (aI hk (aI ((J1 M).1.only og (by omega)) (aI ((J2 M).1.only og (by omega)) hbw)))
 clear hk hbw og hv hz
 refine bodyPost_ret (results_box2 rfl _ _ (w.heap.size + 1 + 1) 24 _ _ _ rfl (M.out.1) Tryz.underlying24 rfl (by kernel_rfl)) rfl ?_
 exact ⟨rfl, (J3 M)⟩
set_option maxRecDepth 100000 in
set_option maxHeartbeats 4000000 in
theorem rMul_n1 {s t : Int} {n k : Nat} {a1 a2 : Option Addr} {c1 c2 : Nat} {l : List Int} {w : World} (h1 : RdZ w (.slice a1 n c1) l) (hl : n ≤ 1099511627776) (hr : rightB s l = false) :
  Calls Tryz.prog 11 #[.agg #[.int .i64 s, .slice a1 n c1], .agg #[.int .i64 t, .slice a2 k c2]] w fun e w' => e = .returned (.tuple #[.agg #[.int .i64 0, .slice none 0 0], .int .i64 1]) ∧ Below w.heap.size w w' := by
 have HL := Lib.hid hl; have HR := Lib.hid hr; clear hl hr
 have H1 : Hid (RdZ w (.slice a1 n c1) l) := h1
 clear h1
 have M : Hid (Below w.heap.size w w) := Below.refl _ _
 go_enter Tryz.func11, Tryz.ntmps11
 go_upto_region 1 with fail
 refine nmW (((w.alloc (.cells #[.int .i64 s, .slice a1 n c1] 24)).alloc (.cells #[.int .i64 t, .slice a2 k c2] 24)).alloc (.cells #[.int .i64 0, .slice none 0 0] 24)) fun w1 hv => ?_
 rw [← hv]
 replace M := al3W hv M
 clear hv
 refine cj2 (J2 M).1.d2 fun aa ab => ?_
 go_wp2_with fail
 clear aa ab
 refine (rright_x (s := s) (l := l) (b := false) (H1.out.keep (J3 M)) HL.out HR.out).mono ?_
 rintro e w2 ⟨rfl, hb⟩
 replace M := gnM hb M
 clear hb
 refine cj4 (M.out.1).c2 fun ac ad ae af => ?_
 go_wp2_with fail
 clear ac ad ae af
 have hz : w.heap.size ≤ w.heap.size + 1 + 1 := by omega
 refine st2W (.int .i64 0) (.slice none 0 0) (M.out.1) (J3 M) hz fun w3 hv og hk hbw => ?_
 rw [← hv]
 replace M := Lib.hid (aI hk (aI ((J1 M).1.only og (by omega)) (aI ((J2 M).1.only og (by omega)) hbw)))
 clear hk hbw og hv hz
 refine bodyPost_ret (results_box2 rfl _ _ (w.heap.size + 1 + 1) 24 _ _ _ rfl (M.out.1) Tryz.underlying24 rfl (by kernel_rfl)) rfl ?_
 exact ⟨rfl, (J3 M)⟩
set_option maxRecDepth 100000 in
set_option maxHeartbeats 4000000 in
theorem rMul_n2 {s t : Int} {n k : Nat} {a1 a2 : Option Addr} {c1 c2 : Nat} {l m : List Int} {w : World} (h1 : RdZ w (.slice a1 n c1) l) (hl : n ≤ 1099511627776) (hr : rightB s l = true) (h2 : RdZ w (.slice a2 k c2) m) (hk : k ≤ 1099511627776) (hq : rightB t m = false) :
  Calls Tryz.prog 11 #[.agg #[.int .i64 s, .slice a1 n c1], .agg #[.int .i64 t, .slice a2 k c2]] w fun e w' => e = .returned (.tuple #[.agg #[.int .i64 0, .slice none 0 0], .int .i64 1]) ∧ Below w.heap.size w w' := by
 have HL := Lib.hid hl; have HR := Lib.hid hr
 have HK := Lib.hid hk; have HQ := Lib.hid hq; clear hl hr hk hq
 have H1 : Hid (RdZ w (.slice a1 n c1) l) := h1
 have H2 : Hid (RdZ w (.slice a2 k c2) m) := h2
 clear h1 h2
 have M : Hid (Below w.heap.size w w) := Below.refl _ _
 go_enter Tryz.func11, Tryz.ntmps11
 go_upto_region 1 with fail
 refine nmW (((w.alloc (.cells #[.int .i64 s, .slice a1 n c1] 24)).alloc (.cells #[.int .i64 t, .slice a2 k c2] 24)).alloc (.cells #[.int .i64 0, .slice none 0 0] 24)) fun w1 hv => ?_
 rw [← hv]
 replace M := al3W hv M
 clear hv
 refine cj2 (J2 M).1.d2 fun aa ab => ?_
 go_wp2_with fail
 clear aa ab
 refine (rright_x (s := s) (l := l) (b := true) (H1.out.keep (J3 M)) HL.out HR.out).mono ?_
 rintro e w2 ⟨rfl, hb⟩
 replace M := gnM hb M
 clear hb
 refine cj2 (J1 M).1.d2 fun ac ad => ?_
 go_wp2_with fail
 clear ac ad
 refine (rright_x (s := t) (l := m) (b := false) (H2.out.keep (J3 M)) HK.out HQ.out).mono ?_
 rintro e w3 ⟨rfl, hb⟩
 replace M := gnM hb M
 clear hb
 refine cj4 (M.out.1).c2 fun ae af ag ah => ?_
 go_wp2_with fail
 clear ae af ag ah
 have hz : w.heap.size ≤ w.heap.size + 1 + 1 := by omega
 refine st2W (.int .i64 0) (.slice none 0 0) (M.out.1) (J3 M) hz fun w4 hv og hk hbw => ?_
 rw [← hv]
 replace M := Lib.hid (aI hk (aI ((J1 M).1.only og (by omega)) (aI ((J2 M).1.only og (by omega)) hbw)))
 clear hk hbw og hv hz
 refine bodyPost_ret (results_box2 rfl _ _ (w.heap.size + 1 + 1) 24 _ _ _ rfl (M.out.1) Tryz.underlying24 rfl (by kernel_rfl)) rfl ?_
 exact ⟨rfl, (J3 M)⟩
set_option maxRecDepth 100000 in
set_option maxHeartbeats 4000000 in
theorem rDiv_n1 {s t : Int} {n k : Nat} {a1 a2 : Option Addr} {c1 c2 : Nat} {l : List Int} {w : World} (h1 : RdZ w (.slice a1 n c1) l) (hl : n ≤ 1099511627776) (hr : rightB s l = false) :
  Calls Tryz.prog 14 #[.agg #[.int .i64 s, .slice a1 n c1], .agg #[.int .i64 t, .slice a2 k c2]] w fun e w' => e = .returned (.tuple #[.agg #[.int .i64 0, .slice none 0 0], .agg #[.int .i64 0, .slice none 0 0], .int .i64 1]) ∧ Below w.heap.size w w' := by
 have HL := Lib.hid hl; have HR := Lib.hid hr; clear hl hr
 have H1 : Hid (RdZ w (.slice a1 n c1) l) := h1
 clear h1
 have M : Hid (Below w.heap.size w w) := Below.refl _ _
 go_enter Tryz.func14, Tryz.ntmps14
 go_upto_region 1 with fail
 refine nmW ((((w.alloc (.cells #[.int .i64 s, .slice a1 n c1] 24)).alloc (.cells #[.int .i64 t, .slice a2 k c2] 24)).alloc (.cells #[.int .i64 0, .slice none 0 0] 24)).alloc (.cells #[.int .i64 0, .slice none 0 0] 24)) fun w1 hv => ?_
 rw [← hv]
 replace M := al4W hv M
 clear hv
 refine cj2 (J3 M).1.d2 fun aa ab => ?_
 go_wp2_with fail
 clear aa ab
 refine (rright_x (s := s) (l := l) (b := false) (H1.out.keep (J4 M)) HL.out HR.out).mono ?_
 rintro e w2 ⟨rfl, hb⟩
 replace M := gnM hb M
 clear hb
 refine cj4 (J1 M).1.c2 fun ac ad ae af => ?_
 refine cj4 (M.out.1).c2 fun ag ah ai aj => ?_
 go_wp2_with fail
 clear ac ad ae af ag ah ai aj
 have hz : w.heap.size ≤ w.heap.size + 1 + 1 := by omega
 refine st2W (.int .i64 0) (.slice none 0 0) (J1 M).1 (J4 M) hz fun w3 hv og hk hbw => ?_
 rw [← hv]
 replace M := Lib.hid (aI ((M.out.1).only og (by omega)) (aI hk (aI ((J2 M).1.only og (by omega)) (aI ((J3 M).1.only og (by omega)) hbw))))
 clear hk hbw og hv hz
 have hz : w.heap.size ≤ w.heap.size + 1 + 1 + 1 := by omega
 refine st2W (.int .i64 0) (.slice none 0 0) (M.out.1) (J4 M) hz fun w4 hv og hk hbw => ?_
 rw [← hv]
 replace M := Lib.hid (aI hk (aI ((J1 M).1.only og (by omega)) (aI ((J2 M).1.only og (by omega)) (aI ((J3 M).1.only og (by omega)) hbw))))
 clear hk hbw og hv hz
 refine bodyPost_ret (results_box2t rfl _ _ (w.heap.size + 1 + 1) (w.heap.size + 1 + 1 + 1) 24 24 _ _ _ _ _ _ rfl (J1 M).1 Tryz.underlying24 rfl (by kernel_rfl) rfl (M.out.1) Tryz.underlying24 rfl (by kernel_rfl)) rfl ?_
 exact ⟨rfl, (J4 M)⟩
set_option maxRecDepth 100000 in
set_option maxHeartbeats 4000000 in
theorem rDiv_n2 {s t : Int} {n k : Nat} {a1 a2 : Option Addr} {c1 c2 : Nat} {l m : List Int} {w : World} (h1 : RdZ w (.slice a1 n c1) l) (hl : n ≤ 1099511627776) (hr : rightB s l = true) (h2 : RdZ w (.slice a2 k c2) m) (hk : k ≤ 1099511627776) (hq : rightB t m = false) :
  Calls Tryz.prog 14 #[.agg #[.int .i64 s, .slice a1 n c1], .agg #[.int .i64 t, .slice a2 k c2]] w fun e w' => e = .returned (.tuple #[.agg #[.int .i64 0, .slice none 0 0], .agg #[.int .i64 0, .slice none 0 0], .int .i64 1]) ∧ Below w.heap.size w w' := by
 have HL := Lib.hid hl; have HR := Lib.hid hr
 have HK := Lib.hid hk; have HQ := Lib.hid hq; clear hl hr hk hq
 have H1 : Hid (RdZ w (.slice a1 n c1) l) := h1
 have H2 : Hid (RdZ w (.slice a2 k c2) m) := h2
 clear h1 h2
 have M : Hid (Below w.heap.size w w) := Below.refl _ _
 go_enter Tryz.func14, Tryz.ntmps14
 go_upto_region 1 with fail
 refine nmW ((((w.alloc (.cells #[.int .i64 s, .slice a1 n c1] 24)).alloc (.cells #[.int .i64 t, .slice a2 k c2] 24)).alloc (.cells #[.int .i64 0, .slice none 0 0] 24)).alloc (.cells #[.int .i64 0, .slice none 0 0] 24)) fun w1 hv => ?_
 rw [← hv]
 replace M := al4W hv M
 clear hv
 refine cj2 (J3 M).1.d2 fun aa ab => ?_
 go_wp2_with fail
 clear aa ab
 refine (rright_x (s := s) (l := l) (b := true) (H1.out.keep (J4 M)) HL.out HR.out).mono ?_
 rintro e w2 ⟨rfl, hb⟩
 replace M := gnM hb M
 clear hb
 refine cj2 (J2 M).1.d2 fun ac ad => ?_
 go_wp2_with fail
 clear ac ad
 refine (rright_x (s := t) (l := m) (b := false) (H2.out.keep (J4 M)) HK.out HQ.out).mono ?_
 rintro e w3 ⟨rfl, hb⟩
 replace M := gnM hb M
 clear hb
 refine cj4 (J1 M).1.c2 fun ae af ag ah => ?_
 refine cj4 (M.out.1).c2 fun ai aj ak al => ?_
 go_wp2_with fail
 clear ae af ag ah ai aj ak al
 have hz : w.heap.size ≤ w.heap.size + 1 + 1 := by omega
 refine st2W (.int .i64 0) (.slice none 0 0) (J1 M).1 (J4 M) hz fun w4 hv og hk hbw => ?_
 rw [← hv]
 replace M := Lib.hid (aI ((M.out.1).only og (by omega)) (aI hk (aI ((J2 M).1.only og (by omega)) (aI ((J3 M).1.only og (by omega)) hbw))))
 clear hk hbw og hv hz
 have hz : w.heap.size ≤ w.heap.size + 1 + 1 + 1 := by omega
 refine st2W (.int .i64 0) (.slice none 0 0) (M.out.1) (J4 M) hz fun w5 hv og hk hbw => ?_
 rw [← hv]
 replace M := Lib.hid (aI hk (aI ((J1 M).1.only og (by omega)) (aI ((J2 M).1.only og (by omega)) (aI ((J3 M).1.only og (by omega)) hbw))))
 clear hk hbw og hv hz
 refine bodyPost_ret (results_box2t rfl _ _ (w.heap.size + 1 + 1) (w.heap.size + 1 + 1 + 1) 24 24 _ _ _ _ _ _ rfl (J1 M).1 Tryz.underlying24 rfl (by kernel_rfl) rfl (M.out.1) Tryz.underlying24 rfl (by kernel_rfl)) rfl ?_
 exact ⟨rfl, (J4 M)⟩
set_option maxRecDepth 100000 in
set_option maxHeartbeats 4000000 in
theorem rGcd_n1 {s t : Int} {n k : Nat} {a1 a2 : Option Addr} {c1 c2 : Nat} {l : List Int} {w : World} (h1 : RdZ w (.slice a1 n c1) l) (hl : n ≤ 1099511627776) (hr : rightB s l = false) :
  Calls Tryz.prog 20 #[.agg #[.int .i64 s, .slice a1 n c1], .agg #[.int .i64 t, .slice a2 k c2]] w fun e w' => e = .returned (.tuple #[.agg #[.int .i64 0, .slice none 0 0], .int .i64 1]) ∧ Below w.heap.size w w' := by
 have HL := Lib.hid hl; have HR := Lib.hid hr; clear hl hr
 have H1 : Hid (RdZ w (.slice a1 n c1) l) := h1
 clear h1
 have M : Hid (Below w.heap.size w w) := Below.refl _ _
 go_enter Tryz.func20, Tryz.ntmps20
 go_upto_region 1 with fail
 refine nmW (((w.alloc (.cells #[.int .i64 s, .slice a1 n c1] 24)).alloc (.cells #[.int .i64 t, .slice a2 k c2] 24)).alloc (.cells #[.int .i64 0, .slice none 0 0] 24)) fun w1 hv => ?_
 rw [← hv]
 replace M := al3W hv M
 clear hv
 refine cj2 (J2 M).1.d2 fun aa ab => ?_
 go_wp2_with fail
 clear aa ab
 refine (rright_x (s := s) (l := l) (b := false) (H1.out.keep (J3 M)) HL.out HR.out).mono ?_
 rintro e w2 ⟨rfl, hb⟩
 replace M := gnM hb M
 clear hb
 refine cj4 (M.out.1).c2 fun ac ad ae af => ?_
 go_wp2_with fail
 clear ac ad ae af
 have hz : w.heap.size ≤ w.heap.size + 1 + 1 := by omega
 refine st2W (.int .i64 0) (.slice none 0 0) (M.out.1) (J3 M) hz fun w3 hv og hk hbw => ?_
 rw [← hv]
 replace M := Lib.hid (aI hk (aI ((J1 M).1.only og (by omega)) (aI ((J2 M).1.only og (by omega)) hbw)))
 clear hk hbw og hv hz
 refine bodyPost_ret (results_box2 rfl _ _ (w.heap.size + 1 + 1) 24 _ _ _ rfl (M.out.1) Tryz.underlying24 rfl (by kernel_rfl)) rfl ?_
 exact ⟨rfl, (J3 M)⟩
set_option maxRecDepth 100000 in
set_option maxHeartbeats 4000000 in
theorem rGcd_n2 {s t : Int} {n k : Nat} {a1 a2 : Option Addr} {c1 c2 : Nat} {l m : List Int} {w : World} (h1 : RdZ w (.slice a1 n c1) l) (hl : n ≤ 1099511627776) (hr : rightB s l = true) (h2 : RdZ w (.slice a2 k c2) m) (hk : k ≤ 1099511627776) (hq : rightB t m = false) :
  Calls Tryz.prog 20 #[.agg #[.int .i64 s, .slice a1 n c1], .agg #[.int .i64 t, .slice a2 k c2]] w fun e w' => e = .returned (.tuple #[.agg #[.int .i64 0, .slice none 0 0], .int .i64 1]) ∧ Below w.heap.size w w' := by
 have HL := Lib.hid hl; have HR := Lib.hid hr
 have HK := Lib.hid hk; have HQ := Lib.hid hq; clear hl hr hk hq
 have H1 : Hid (RdZ w (.slice a1 n c1) l) := h1
 have H2 : Hid (RdZ w (.slice a2 k c2) m) := h2
 clear h1 h2
 have M : Hid (Below w.heap.size w w) := Below.refl _ _
 go_enter Tryz.func20, Tryz.ntmps20
 go_upto_region 1 with fail
 refine nmW (((w.alloc (.cells #[.int .i64 s, .slice a1 n c1] 24)).alloc (.cells #[.int .i64 t, .slice a2 k c2] 24)).alloc (.cells #[.int .i64 0, .slice none 0 0] 24)) fun w1 hv => ?_
 rw [← hv]
 replace M := al3W hv M
 clear hv
 refine cj2 (J2 M).1.d2 fun aa ab => ?_
 go_wp2_with fail
 clear aa ab
 refine (rright_x (s := s) (l := l) (b := true) (H1.out.keep (J3 M)) HL.out HR.out).mono ?_
 rintro e w2 ⟨rfl, hb⟩
 replace M := gnM hb M
 clear hb
 refine cj2 (J1 M).1.d2 fun ac ad => ?_
 go_wp2_with fail
 clear ac ad
 refine (rright_x (s := t) (l := m) (b := false) (H2.out.keep (J3 M)) HK.out HQ.out).mono ?_
 rintro e w3 ⟨rfl, hb⟩
 replace M := gnM hb M
 clear hb
 refine cj4 (M.out.1).c2 fun ae af ag ah => ?_
 go_wp2_with fail
 clear ae af ag ah
 have hz : w.heap.size ≤ w.heap.size + 1 + 1 := by omega
 refine st2W (.int .i64 0) (.slice none 0 0) (M.out.1) (J3 M) hz fun w4 hv og hk hbw => ?_
 rw [← hv]
 replace M := Lib.hid (aI hk (aI ((J1 M).1.only og (by omega)) (aI ((J2 M).1.only og (by omega)) hbw)))
 clear hk hbw og hv hz
 refine bodyPost_ret (results_box2 rfl _ _ (w.heap.size + 1 + 1) 24 _ _ _ rfl (M.out.1) Tryz.underlying24 rfl (by kernel_rfl)) rfl ?_
 exact ⟨rfl, (J3 M)⟩
set_option maxRecDepth 100000 in
set_option maxHeartbeats 4000000 in
theorem rCompare_n1 {s t : Int} {n k : Nat} {a1 a2 : Option Addr} {c1 c2 : Nat} {l : List Int} {w : World} (h1 : RdZ w (.slice a1 n c1) l) (hl : n ≤ 1099511627776) (hr : rightB s l = false) :
  Calls Tryz.prog 24 #[.agg #[.int .i64 s, .slice a1 n c1], .agg #[.int .i64 t, .slice a2 k c2]] w fun e w' => e = .returned (.int .i64 0) ∧ Below w.heap.size w w' := by
 have HL := Lib.hid hl; have HR := Lib.hid hr; clear hl hr
 have H1 : Hid (RdZ w (.slice a1 n c1) l) := h1
 clear h1
 have M : Hid (Below w.heap.size w w) := Below.refl _ _
 go_enter Tryz.func24, Tryz.ntmps24
 go_upto_region 1 with fail
 refine nmW ((w.alloc (.cells #[.int .i64 s, .slice a1 n c1] 24)).alloc (.cells #[.int .i64 t, .slice a2 k c2] 24)) fun w1 hv => ?_
 rw [← hv]
 replace M := al2W hv M
 clear hv
 refine cj2 (J1 M).1.d2 fun aa ab => ?_
 go_wp2_with fail
 clear aa ab
 refine (rright_x (s := s) (l := l) (b := false) (H1.out.keep (J2 M)) HL.out HR.out).mono ?_
 rintro e w2 ⟨rfl, hb⟩
 replace M := gnM hb M
 clear hb
 go_wp2_with fail
 go_ret
 exact ⟨rfl, (J2 M)⟩
set_option maxRecDepth 100000 in
set_option maxHeartbeats 4000000 in
theorem rCompare_n2 {s t : Int} {n k : Nat} {a1 a2 : Option Addr} {c1 c2 : Nat} {l m : List Int} {w : World} (h1 : RdZ w (.slice a1 n c1) l) (hl : n ≤ 1099511627776) (hr : rightB s l = true) (h2 : RdZ w (.slice a2 k c2) m) (hk : k ≤ 1099511627776) (hq : rightB t m = false) :
  Calls Tryz.prog 24 #[.agg #[.int .i64 s, .slice a1 n c1], .agg #[.int .i64 t, .slice a2 k c2]] w fun e w' => e = .returned (.int .i64 0) ∧ Below w.heap.size w w' := by
 have HL := Lib.hid hl; have HR := Lib.hid hr
 have HK := Lib.hid hk; have HQ := Lib.hid hq; clear hl hr hk hq
 have H1 : Hid (RdZ w (.slice a1 n c1) l) := h1
 have H2 : Hid (RdZ w (.slice a2 k c2) m) := h2
 clear h1 h2
 have M : Hid (Below w.heap.size w w) := Below.refl _ _
 go_enter Tryz.func24, Tryz.ntmps24
 go_upto_region 1 with fail
 refine nmW ((w.alloc (.cells #[.int .i64 s, .slice a1 n c1] 24)).alloc (.cells #[.int .i64 t, .slice a2 k c2] 24)) fun w1 hv => ?_
 rw [← hv]
 replace M := al2W hv M
 clear hv
 refine cj2 (J1 M).1.d2 fun aa ab => ?_
 go_wp2_with fail
 clear aa ab
 refine (rright_x (s := s) (l := l) (b := true) (H1.out.keep (J2 M)) HL.out HR.out).mono ?_
 rintro e w2 ⟨rfl, hb⟩
 replace M := gnM hb M
 clear hb
 refine cj2 (M.out.1).d2 fun ac ad => ?_
 go_wp2_with fail
 clear ac ad
 refine (rright_x (s := t) (l := m) (b := false) (H2.out.keep (J2 M)) HK.out HQ.out).mono ?_
 rintro e w3 ⟨rfl, hb⟩
 replace M := gnM hb M
 clear hb
 go_wp2_with fail
 go_ret
 exact ⟨rfl, (J2 M)⟩
set_option maxRecDepth 100000 in
set_option maxHeartbeats 4000000 in
theorem rSub_n3 {s t : Int} {n k : Nat} {a1 a2 : Option Addr} {c1 c2 : Nat} {l : List Int} {w : World} (h2 : RdZ w (.slice a2 k c2) l) (hk : k ≤ 1099511627776) (hq : rightB t l = false) :
  Calls Tryz.prog 9 #[.agg #[.int .i64 s, .slice a1 n c1], .agg #[.int .i64 t, .slice a2 k c2]] w fun e w' => e = .returned (.tuple #[.agg #[.int .i64 0, .slice none 0 0], .int .i64 1]) ∧ Below w.heap.size w w' := by
 have HK := Lib.hid hk; have HQ := Lib.hid hq; clear hk hq
 have H2 : Hid (RdZ w (.slice a2 k c2) l) := h2
 clear h2
 have M : Hid (Below w.heap.size w w) := Below.refl _ _
 go_enter Tryz.func9, Tryz.ntmps9
 go_upto_region 1 with fail
 refine nmW (((w.alloc (.cells #[.int .i64 s, .slice a1 n c1] 24)).alloc (.cells #[.int .i64 t, .slice a2 k c2] 24)).alloc (.cells #[.int .i64 0, .slice none 0 0] 24)) fun w1 hv => ?_
 rw [← hv]
 replace M := al3W hv M
 clear hv
 refine cj2 (J1 M).1.d2 fun aa ab => ?_
 go_wp2_with fail
 clear aa ab
 refine (rright_x (s := t) (l := l) (b := false) (H2.out.keep (J3 M)) HK.out HQ.out).mono ?_
 rintro e w2 ⟨rfl, hb⟩
 replace M := gnM hb M
 clear hb
 refine cj4 (M.out.1).c2 fun ac ad ae af => ?_
 go_wp2_with fail
 clear ac ad ae af
 have hz : w.heap.size ≤ w.heap.size + 1 + 1 := by omega
 refine st2W (.int .i64 0) (.slice none 0 0) (M.out.1) (J3 M) hz fun w3 hv og hk hbw => ?_
 rw [← hv]
 replace M := Lib.hid (aI hk (aI ((J1 M).1.only og (by omega)) (aI ((J2 M).1.only og (by omega)) hbw)))
 clear hk hbw og hv hz
 refine bodyPost_ret (results_box2 rfl _ _ (w.heap.size + 1 + 1) 24 _ _ _ rfl (M.out.1) Tryz.underlying24 rfl (by kernel_rfl)) rfl ?_
 exact ⟨rfl, (J3 M)⟩
set_option maxRecDepth 100000 in
set_option maxHeartbeats 4000000 in
theorem rSub_n4 {s y : Int} {n : Nat} {a1 a2 : Option Addr} {c1 c2 : Nat} {l : List Int} {w : World} (_hG : G ≤ w.heap.size) (h1 : RdZ w (.slice a1 n c1) l) (hl : n ≤ 1099511627776) (hr : rightB s l = false) (h2 : BD G w a2 c2 y) (hy : Sz y 549755813888) :
  Calls Tryz.prog 9 #[.agg #[.int .i64 s, .slice a1 n c1], .agg #[.int .i64 (sg y), .slice a2 (ln y) c2]] w fun e w' => e = .returned (.tuple #[.agg #[.int .i64 0, .slice none 0 0], .int .i64 1]) ∧ Below w.heap.size w w' := by
 have HL := Lib.hid hl; have HR := Lib.hid hr; have HY := Lib.hid hy; clear hl hr hy
 have H1 : Hid (RdZ w (.slice a1 n c1) l) := h1
 have H2 : Hid (BD G w a2 c2 y) := h2
 clear h1 h2
 have M : Hid (Below w.heap.size w w) := Below.refl _ _
 go_enter Tryz.func9, Tryz.ntmps9
 go_upto_region 1 with fail
 refine nmW (((w.alloc (.cells #[.int .i64 s, .slice a1 n c1] 24)).alloc (.cells #[.int .i64 (sg y), .slice a2 (ln y) c2] 24)).alloc (.cells #[.int .i64 0, .slice none 0 0] 24)) fun w1 hv => ?_
 rw [← hv]
 replace M := al3W hv M
 clear hv
 refine cj2 (J1 M).1.d2 fun aa ab => ?_
 go_wp2_with fail
 clear aa ab
 refine (rright_ok (G := G) (x := y) (H2.out.keep (J3 M)) (Sz.mono HY.out (by omega))).mono ?_
 rintro e w2 ⟨rfl, hb⟩
 replace M := gnM hb M
 clear hb
 go_wp2_with fail
 refine nmW w2.drew fun w3 hv => ?_
 replace M := drM hv M
 refine wp_region_held_drew (S := (fun w' => w'.cell? ⟨w.heap.size, 0, none⟩ = some (.int .i64 s) ∧ w'.cell? ⟨w.heap.size, 1, none⟩ = some (.slice a1 n c1) ∧ w'.cell? ⟨w.heap.size + 1, 0, none⟩ = some (.int .i64 (sg y)) ∧ w'.cell? ⟨w.heap.size + 1, 1, none⟩ = some (.slice a2 (ln y) c2))) (by kernel_rfl) (by rw [← hv]; exact ((J2 M).1.t2 ((J1 M).1.d2))) (fun hH5 => ?_)
 rw [← hv] at hH5 ⊢
 clear hv
 refine tk at0 ?_
 refine tk at1 ?_
 refine wpAnyH_ready (rs := [2, 7]) (by kernel_rfl) (by simp) ?_
 refine AllReadyH.cons at2 (fun K hK => ?_) ?_
 ·
  go_simp
  obtain ⟨z8, ez8⟩ : ∃ v_ : Int, v_ = (-y) := ⟨_, rfl⟩
  refine (rneg_ok (G := G) (x := y) (H2.out.keep (J3 M)) HY.out).mono ?_
  rintro e w4 ⟨a_6, c_7, rfl, hd9, hb⟩
  rw [← ez8] at hd9 ⊢
  have Sz8 : Hid (Sz z8 549755813888) := by show Sz z8 549755813888; rw [ez8]; exact (Sz.neg HY.out)
  have Ez8 := Lib.hid ez8; clear ez8
  replace M := adM hd9 hb M
  clear hb hd9
  (try go_wp2_with fail)
  refine hK.out _ _ (((J3 M).1.t2 ((J2 M).1.d2))) (fun hH10 => ?_)
  clear hK K hH5
  (try simp only [Act.put, List.setIfInBounds_toArray, List.set_cons_zero, List.set_cons_succ])
  refine wpAnyH_ready (rs := [3, 7]) (by kernel_rfl) (by simp) ?_
  refine AllReadyH.cons at3 (fun K hK => ?_) ?_
  ·
   go_simp
   refine (rAdd_n1 (s := s) (t := (sg z8)) (l := l) (H1.out.keep (J4 M)) HL.out HR.out).mono ?_
   rintro e w5 ⟨rfl, hb⟩
   replace M := gnM hb M
   clear hb
   (try go_wp2_with fail)
   refine hK.out _ _ (((J3 M).1.t2 ((J2 M).1.d2))) (fun hH11 => ?_)
   clear hK K hH10
   (try simp only [Act.put, List.setIfInBounds_toArray, List.set_cons_zero, List.set_cons_succ])
   refine tk at4 ?_
   refine tk at5 ?_
   refine tk at6 ?_
   refine wpAnyH_ready (rs := [7]) (by kernel_rfl) (by simp) ?_
   refine AllReadyH.cons at7 (fun K hK => ?_) AllReadyH.nil
   go_simp
   refine nmW (w5.alloc (.cells #[.int .i64 0, .slice none 0 0] 24)) fun w6 hv => ?_
   rw [← hv]
   have ow3_ : w.heap.size + 1 + 1 < w5.heap.size := ((J1 M).1).lt
   replace M := alM hv M
   clear hv
   refine hK.out _ _ (((J4 M).1.t2 ((J3 M).1.d2))) (fun hH12 => ?_)
   clear hK K hH11
   (try simp only [Act.put, List.setIfInBounds_toArray, List.set_cons_zero, List.set_cons_succ])
   refine wpAnyH_ready (rs := [8]) (by kernel_rfl) (by simp) ?_
   refine AllReadyH.cons at8 (fun K hK => ?_) AllReadyH.nil
   refine cj4 (M.out.1).c2 fun ac ad ae af => ?_
   go_simp
   clear ac ad ae af
   have hz : w.heap.size ≤ w5.heap.size := by omega
   refine st2W (.int .i64 0) (.slice none 0 0) (M.out.1) (J5 M) hz fun w7 hv og hk hbw => ?_
   rw [← hv]
   replace M := Lib.hid (aI hk (aI ((J1 M).1.far (M.out.1) (by rfl) (by omega) og) (aI ((J2 M).1.only og (by omega)) (aI ((J3 M).1.only og (by omega)) (aI ((J4 M).1.only og (by omega)) hbw)))))
   clear hk hbw og hv hz
   refine hK.out _ _ (((J4 M).1.t2 ((J3 M).1.d2))) (fun hH13 => ?_)
   clear hK K hH12
   (try simp only [Act.put, List.setIfInBounds_toArray, List.set_cons_zero, List.set_cons_succ])
   refine tk at9 ?_
   refine wpAnyH_done (by kernel_rfl) ?_ _
   clear hH13
   refine cj2 (M.out.1).d2 fun ac ae => ?_
   refine cj4 (J2 M).1.c2 fun ag ah ai aj => ?_
   go_wp2_with fail
   clear ac ae ag ah ai aj
   have hz : w.heap.size ≤ w.heap.size + 1 + 1 := by omega
   refine st2W (.int .i64 0) (.slice none 0 0) (J2 M).1 (J5 M) hz fun w8 hv og hk hbw => ?_
   rw [← hv]
   replace M := Lib.hid (aI ((M.out.1).only og (by omega)) (aI ((J1 M).1.far (J2 M).1 (by rfl) (by omega) og) (aI hk (aI ((J3 M).1.only og (by omega)) (aI ((J4 M).1.only og (by omega)) hbw)))))
   clear hk hbw og hv hz
   refine bodyPost_ret (results_box2 rfl _ _ (w.heap.size + 1 + 1) 24 _ _ _ rfl (J2 M).1 Tryz.underlying24 rfl (by kernel_rfl)) rfl ?_
   exact ⟨rfl, (J5 M)⟩
  refine AllReadyH.cons at7 (fun K hK => ?_) AllReadyH.nil
  go_simp
  refine nmW (w4.alloc (.cells #[.int .i64 0, .slice none 0 0] 24)) fun w5 hv => ?_
  rw [← hv]
  have ow3_ : w.heap.size + 1 + 1 < w4.heap.size := ((J1 M).1).lt
  replace M := alM hv M
  clear hv
  refine hK.out _ _ (((J4 M).1.t2 ((J3 M).1.d2))) (fun hH14 => ?_)
  clear hK K hH10
  (try simp only [Act.put, List.setIfInBounds_toArray, List.set_cons_zero, List.set_cons_succ])
  refine wpAnyH_ready (rs := [3]) (by kernel_rfl) (by simp) ?_
  refine AllReadyH.cons at3 (fun K hK => ?_) AllReadyH.nil
  go_simp
  refine (rAdd_n1 (s := s) (t := (sg z8)) (l := l) (H1.out.keep (J5 M)) HL.out HR.out).mono ?_
  rintro e w6 ⟨rfl, hb⟩
  replace M := gnM hb M
  clear hb
  (try go_wp2_with fail)
  refine hK.out _ _ (((J4 M).1.t2 ((J3 M).1.d2))) (fun hH15 => ?_)
  clear hK K hH14
  (try simp only [Act.put, List.setIfInBounds_toArray, List.set_cons_zero, List.set_cons_succ])
  refine tk at4 ?_
  refine tk at5 ?_
  refine tk at6 ?_
  refine wpAnyH_ready (rs := [8]) (by kernel_rfl) (by simp) ?_
  refine AllReadyH.cons at8 (fun K hK => ?_) AllReadyH.nil
  refine cj4 (M.out.1).c2 fun ac ad ae af => ?_
  go_simp
  clear ac ad ae af
  have hz : w.heap.size ≤ w4.heap.size := by omega
  refine st2W (.int .i64 0) (.slice none 0 0) (M.out.1) (J5 M) hz fun w7 hv og hk hbw => ?_
  rw [← hv]
  replace M := Lib.hid (aI hk (aI ((J1 M).1.far (M.out.1) (by rfl) (by omega) og) (aI ((J2 M).1.only og (by omega)) (aI ((J3 M).1.only og (by omega)) (aI ((J4 M).1.only og (by omega)) hbw)))))
  clear hk hbw og hv hz
  refine hK.out _ _ (((J4 M).1.t2 ((J3 M).1.d2))) (fun hH16 => ?_)
  clear hK K hH15
  (try simp only [Act.put, List.setIfInBounds_toArray, List.set_cons_zero, List.set_cons_succ])
  refine tk at9 ?_
  refine wpAnyH_done (by kernel_rfl) ?_ _
  clear hH16
  refine cj2 (M.out.1).d2 fun ac ae => ?_
  refine cj4 (J2 M).1.c2 fun ag ah ai aj => ?_
  go_wp2_with fail
  clear ac ae ag ah ai aj
  have hz : w.heap.size ≤ w.heap.size + 1 + 1 := by omega
  refine st2W (.int .i64 0) (.slice none 0 0) (J2 M).1 (J5 M) hz fun w8 hv og hk hbw => ?_
  rw [← hv]
  replace M := Lib.hid (aI ((M.out.1).only og (by omega)) (aI ((J1 M).1.far (J2 M).1 (by rfl) (by omega) og) (aI hk (aI ((J3 M).1.only og (by omega)) (aI ((J4 M).1.only og (by omega)) hbw)))))
  clear hk hbw og hv hz
  refine bodyPost_ret (results_box2 rfl _ _ (w.heap.size + 1 + 1) 24 _ _ _ rfl (J2 M).1 Tryz.underlying24 rfl (by kernel_rfl)) rfl ?_
  exact ⟨rfl, (J5 M)⟩
 refine AllReadyH.cons at7 (fun K hK => ?_) AllReadyH.nil
 go_simp
 refine nmW (w3.alloc (.cells #[.int .i64 0, .slice none 0 0] 24)) fun w4 hv => ?_
 rw [← hv]
 have ow3_ : w.heap.size + 1 + 1 < w3.heap.size := ((M.out.1)).lt
 replace M := alM hv M
 clear hv
 refine hK.out _ _ (((J3 M).1.t2 ((J2 M).1.d2))) (fun hH17 => ?_)
 clear hK K hH5
 (try simp only [Act.put, List.setIfInBounds_toArray, List.set_cons_zero, List.set_cons_succ])
 refine wpAnyH_ready (rs := [2]) (by kernel_rfl) (by simp) ?_
 refine AllReadyH.cons at2 (fun K hK => ?_) AllReadyH.nil
 go_simp
 obtain ⟨z20, ez20⟩ : ∃ v_ : Int, v_ = (-y) := ⟨_, rfl⟩
 refine (rneg_ok (G := G) (x := y) (H2.out.keep (J4 M)) HY.out).mono ?_
 rintro e w5 ⟨a_18, c_19, rfl, hd21, hb⟩
 rw [← ez20] at hd21 ⊢
 have Sz20 : Hid (Sz z20 549755813888) := by show Sz z20 549755813888; rw [ez20]; exact (Sz.neg HY.out)
 have Ez20 := Lib.hid ez20; clear ez20
 replace M := adM hd21 hb M
 clear hb hd21
 (try go_wp2_with fail)
 refine hK.out _ _ (((J4 M).1.t2 ((J3 M).1.d2))) (fun hH22 => ?_)
 clear hK K hH17
 (try simp only [Act.put, List.setIfInBounds_toArray, List.set_cons_zero, List.set_cons_succ])
 refine wpAnyH_ready (rs := [3]) (by kernel_rfl) (by simp) ?_
 refine AllReadyH.cons at3 (fun K hK => ?_) AllReadyH.nil
 go_simp
 refine (rAdd_n1 (s := s) (t := (sg z20)) (l := l) (H1.out.keep (J5 M)) HL.out HR.out).mono ?_
 rintro e w6 ⟨rfl, hb⟩
 replace M := gnM hb M
 clear hb
 (try go_wp2_with fail)
 refine hK.out _ _ (((J4 M).1.t2 ((J3 M).1.d2))) (fun hH23 => ?_)
 clear hK K hH22
 (try simp only [Act.put, List.setIfInBounds_toArray, List.set_cons_zero, List.set_cons_succ])
 refine tk at4 ?_
 refine tk at5 ?_
 refine tk at6 ?_
 refine wpAnyH_ready (rs := [8]) (by kernel_rfl) (by simp) ?_
 refine AllReadyH.cons at8 (fun K hK => ?_) AllReadyH.nil
 refine cj4 (J1 M).1.c2 fun ac ad ae af => ?_
 go_simp
 clear ac ad ae af
 have hz : w.heap.size ≤ w3.heap.size := by omega
 refine st2W (.int .i64 0) (.slice none 0 0) (J1 M).1 (J5 M) hz fun w7 hv og hk hbw => ?_
 rw [← hv]
 replace M := Lib.hid (aI ((M.out.1).far (J1 M).1 (by rfl) (by omega) og) (aI hk (aI ((J2 M).1.only og (by omega)) (aI ((J3 M).1.only og (by omega)) (aI ((J4 M).1.only og (by omega)) hbw)))))
 clear hk hbw og hv hz
 refine hK.out _ _ (((J4 M).1.t2 ((J3 M).1.d2))) (fun hH24 => ?_)
 clear hK K hH23
 (try simp only [Act.put, List.setIfInBounds_toArray, List.set_cons_zero, List.set_cons_succ])
 refine tk at9 ?_
 refine wpAnyH_done (by kernel_rfl) ?_ _
 clear hH24
 refine cj2 (J1 M).1.d2 fun ac ae => ?_
 refine cj4 (J2 M).1.c2 fun ag ah ai aj => ?_
 go_wp2_with fail
 clear ac ae ag ah ai aj
 have hz : w.heap.size ≤ w.heap.size + 1 + 1 := by omega
 refine st2W (.int .i64 0) (.slice none 0 0) (J2 M).1 (J5 M) hz fun w8 hv og hk hbw => ?_
 rw [← hv]
 replace M := Lib.hid (aI ((M.out.1).far (J2 M).1 (by rfl) (by omega) og) (aI ((J1 M).1.only og (by omega)) (aI hk (aI ((J3 M).1.only og (by omega)) (aI ((J4 M).1.only og (by omega)) hbw)))))
 clear hk hbw og hv hz
 refine bodyPost_ret (results_box2 rfl _ _ (w.heap.size + 1 + 1) 24 _ _ _ rfl (J2 M).1 Tryz.underlying24 rfl (by kernel_rfl)) rfl ?_
 exact ⟨rfl, (J5 M)⟩
set_option maxRecDepth 100000 in
set_option maxHeartbeats 4000000 in
theorem rDiv_z {x y : Int} {a1 a2 : Option Addr} {c1 c2 : Nat} {w : World} (_hG : G ≤ w.heap.size) (h1 : BD G w a1 c1 x) (h2 : BD G w a2 c2 y) (hx : Sz x 549755813888) (hy : Sz y 549755813888) (hy0 : y = 0) :
  Calls Tryz.prog 14 #[.agg #[.int .i64 (sg x), .slice a1 (ln x) c1], .agg #[.int .i64 (sg y), .slice a2 (ln y) c2]] w fun e w' => e = .returned (.tuple #[.agg #[.int .i64 0, .slice none 0 0], .agg #[.int .i64 0, .slice none 0 0], .int .i64 15]) ∧ Below w.heap.size w w' := by
 have e0 : (sg y == 0) = true := by rw [hy0]; rfl
 have HX := Lib.hid hx; have HY := Lib.hid hy; clear hx hy hy0
 have H1 : Hid (BD G w a1 c1 x) := h1
 have H2 : Hid (BD G w a2 c2 y) := h2
 clear h1 h2
 have M : Hid (Below w.heap.size w w) := Below.refl _ _
 go_enter Tryz.func14, Tryz.ntmps14
 go_upto_region 1 with fail
 refine nmW ((((w.alloc (.cells #[.int .i64 (sg x), .slice a1 (ln x) c1] 24)).alloc (.cells #[.int .i64 (sg y), .slice a2 (ln y) c2] 24)).alloc (.cells #[.int .i64 0, .slice none 0 0] 24)).alloc (.cells #[.int .i64 0, .slice none 0 0] 24)) fun w1 hv => ?_
 rw [← hv]
 replace M := al4W hv M
 clear hv
 refine cj2 (J3 M).1.d2 fun aa ab => ?_
 go_wp2_with fail
 clear aa ab
 refine (rright_ok (G := G) (x := x) (H1.out.keep (J4 M)) (Sz.mono HX.out (by omega))).mono ?_
 rintro e w2 ⟨rfl, hb⟩
 replace M := gnM hb M
 clear hb
 refine cj2 (J2 M).1.d2 fun ac ad => ?_
 go_wp2_with fail
 clear ac ad
 refine (rright_ok (G := G) (x := y) (H2.out.keep (J4 M)) (Sz.mono HY.out (by omega))).mono ?_
 rintro e w3 ⟨rfl, hb⟩
 replace M := gnM hb M
 clear hb
 refine cj2 (J2 M).1.d2 fun ac ad => ?_
 refine cj4 (J1 M).1.c2 fun ae af ag ah => ?_
 refine cj4 (M.out.1).c2 fun ai aj ak al => ?_
 go_wp2_with fail
 clear ac ad ae af ag ah ai aj ak al
 have hz : w.heap.size ≤ w.heap.size + 1 + 1 := by omega
 refine st2W (.int .i64 0) (.slice none 0 0) (J1 M).1 (J4 M) hz fun w4 hv og hk hbw => ?_
 rw [← hv]
 replace M := Lib.hid (aI ((M.out.1).only og (by omega)) (aI hk (aI ((J2 M).1.only og (by omega)) (aI ((J3 M).1.only og (by omega)) hbw))))
 clear hk hbw og hv hz
 have hz : w.heap.size ≤ w.heap.size + 1 + 1 + 1 := by omega
 refine st2W (.int .i64 0) (.slice none 0 0) (M.out.1) (J4 M) hz fun w5 hv og hk hbw => ?_
 rw [← hv]
 replace M := Lib.hid (aI hk (aI ((J1 M).1.only og (by omega)) (aI ((J2 M).1.only og (by omega)) (aI ((J3 M).1.only og (by omega)) hbw))))
 clear hk hbw og hv hz
 refine bodyPost_ret (results_box2t rfl _ _ (w.heap.size + 1 + 1) (w.heap.size + 1 + 1 + 1) 24 24 _ _ _ _ _ _ rfl (J1 M).1 Tryz.underlying24 rfl (by kernel_rfl) rfl (M.out.1) Tryz.underlying24 rfl (by kernel_rfl)) rfl ?_
 exact ⟨rfl, (J4 M)⟩
set_option maxRecDepth 100000 in
set_option maxHeartbeats 4000000 in
theorem rNeg_n {s : Int} {n : Nat} {a1 : Option Addr} {c1 : Nat} {l : List Int} {w : World} (h1 : RdZ w (.slice a1 n c1) l) (hl : n ≤ 1099511627776) (hr : rightB s l = false) :
  Calls Tryz.prog 29 #[.agg #[.int .i64 s, .slice a1 n c1]] w fun e w' => e = .returned (.agg #[.int .i64 0, .slice none 0 0]) ∧ Below w.heap.size w w' := by
 have HL := Lib.hid hl; have HR := Lib.hid hr; clear hl hr
 have H1 : Hid (RdZ w (.slice a1 n c1) l) := h1
 clear h1
 have M : Hid (Below w.heap.size w w) := Below.refl _ _
 go_enter Tryz.func29, Tryz.ntmps29
 go_upto_region 1 with fail
 refine nmW ((w.alloc (.cells #[.int .i64 s, .slice a1 n c1] 24)).alloc (.cells #[.int .i64 0, .slice none 0 0] 24)) fun w1 hv => ?_
 rw [← hv]
 replace M := al2W hv M
 clear hv
 refine cj2 (J1 M).1.d2 fun aa ab => ?_
 go_wp2_with fail
 clear aa ab
 refine (rright_x (s := s) (l := l) (b := false) (H1.out.keep (J2 M)) HL.out HR.out).mono ?_
 rintro e w2 ⟨rfl, hb⟩
 replace M := gnM hb M
 clear hb
 refine cj4 (M.out.1).c2 fun ac ad ae af => ?_
 go_wp2_with fail
 clear ac ad ae af
 have hz : w.heap.size ≤ w.heap.size + 1 := by omega
 refine st2W (.int .i64 0) (.slice none 0 0) (M.out.1) (J2 M) hz fun w3 hv og hk hbw => ?_
 rw [← hv]
 replace M := Lib.hid (aI hk (aI ((J1 M).1.only og (by omega)) hbw))
 clear hk hbw og hv hz
 refine bodyPost_ret (results_box1 rfl _ _ (w.heap.size + 1) 24 _ _ _ rfl (M.out.1) Tryz.underlying24 rfl (by kernel_rfl)) rfl ?_
 exact ⟨rfl, (J2 M)⟩
set_option maxRecDepth 100000 in
set_option maxHeartbeats 4000000 in
theorem rInt_n {s : Int} {n : Nat} {a1 : Option Addr} {c1 : Nat} {l : List Int} {w : World} (h1 : RdZ w (.slice a1 n c1) l) (hl : n ≤ 1099511627776) (hr : rightB s l = false) :
  Calls Tryz.prog 16 #[.agg #[.int .i64 s, .slice a1 n c1]] w fun e w' => e = .returned (.tuple #[.int .i64 0, .bool false]) ∧ Below w.heap.size w w' := by
 have HL := Lib.hid hl; have HR := Lib.hid hr; clear hl hr
 have H1 : Hid (RdZ w (.slice a1 n c1) l) := h1
 clear h1
 have M : Hid (Below w.heap.size w w) := Below.refl _ _
 go_enter Tryz.func16, Tryz.ntmps16
 go_upto_region 1 with fail
 refine nmW (w.alloc (.cells #[.int .i64 s, .slice a1 n c1] 24)) fun w1 hv => ?_
 rw [← hv]
 replace M := alM hv M
 clear hv
 refine cj2 (M.out.1).d2 fun aa ab => ?_
 go_wp2_with fail
 clear aa ab
 refine (rright_x (s := s) (l := l) (b := false) (H1.out.keep (J1 M)) HL.out HR.out).mono ?_
 rintro e w2 ⟨rfl, hb⟩
 replace M := gnM hb M
 clear hb
 go_wp2_with fail
 go_ret2
 exact ⟨rfl, (J1 M)⟩
set_option maxRecDepth 100000 in
set_option maxHeartbeats 4000000 in
theorem rText_n {s : Int} {n : Nat} {a1 : Option Addr} {c1 : Nat} {l : List Int} {w : World} (h1 : RdZ w (.slice a1 n c1) l) (hl : n ≤ 1099511627776) (hr : rightB s l = false) :
    Calls Tryz.prog 27 #[.agg #[.int .i64 s, .slice a1 n c1]] w fun e w' => e = .returned (.string {data := #[]}) ∧ Below w.heap.size w w' := by
  have HL := Lib.hid hl; have HR := Lib.hid hr; clear hl hr
  have H1 : Hid (RdZ w (.slice a1 n c1) l) := h1
  clear h1
  have M : Hid (Below w.heap.size w w) := Below.refl _ _
  go_enter Tryz.func27, Tryz.ntmps27
  go_upto_region 1 with fail
  refine nmW (w.alloc (.cells #[.int .i64 s, .slice a1 n c1] 24)) fun w1 hv => ?_
  rw [← hv]
  replace M := alM hv M
  clear hv
  refine cj2 (M.out.1).d2 fun aa ab => ?_
  go_wp2_with fail
  clear aa ab
  refine (rright_x (s := s) (l := l) (b := false) (H1.out.keep (J1 M)) HL.out HR.out).mono ?_
  rintro e w2 ⟨rfl, hb⟩
  replace M := gnM hb M
  clear hb
  go_wp2_with fail
  go_ret
  exact ⟨rfl, (J1 M)⟩
end Go.Proofs.YtlinegodpoihoaaGreatDoor
