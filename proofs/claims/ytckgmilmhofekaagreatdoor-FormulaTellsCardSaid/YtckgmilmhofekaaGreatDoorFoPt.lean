/- Formulas, plain: which expressions are right, which are few. -/
import Derived.Test.YtckgmilmhofekaaGreatDoorLexLaws
import Derived.Test.YtckgmilmhofekaaGreatDoorFoBack
import Derived.Test.YtckgmilmhofekaaGreatDoorBase
import Derived.Test.YtckgmilmhofekaaGreatDoorLexBytes
import Derived.Test.YtckgmilmhofekaaGreatDoorLexPrint
import Derived.Test.YtckgmilmhofekaaGreatDoorBigSpec
import Derived.Test.YtckgmilmhofekaaGreatDoorBigD
import Derived.Test.YtckgmilmhofekaaGreatDoorBigQ
import Derived.Test.YtckgmilmhofekaaGreatDoorFd
import Derived.Test.YtckgmilmhofekaaGreatDoorHeld
import Derived.Test.YtckgmilmhofekaaGreatDoorOwn
import Derived.Test.YtckgmilmhofekaaGreatDoorFoWd
import Derived.Test.YtckgmilmhofekaaGreatDoorFoOx
import Derived.Test.YtckgmilmhofekaaGreatDoorFoCn
import Derived.Test.YtckgmilmhofekaaGreatDoorFoWl
import Derived.Test.YtckgmilmhofekaaGreatDoorFoSz
import Derived.Test.YtckgmilmhofekaaGreatDoorProg
import Derived.Test.YtckgmilmhofekaaGreatDoorShelf
import Derived.WalkKit
import Derived.Lib.ItoaNum
import Derived.WalkSpells
import Derived.WalkLawsBesides
import Derived.Handy
import Derived.Lib.Hide
import Derived.Lib.Strings
import Derived.Lib.Builder
import Derived.Shelf.Strings.Builder1
import Derived.BigQuiet
import Derived.OwnWalk
import Derived.Laws.BitsLemmas
import Derived.WalkSmall
import Derived.Deep.QuietTactic
import Derived.StillTailTactics
import Derived.Maps.AppendAt
import Derived.IntWalk
import Derived.Deep.RegionHeld3
import Derived.Deep.DeepFit
import Derived.Deep.LoopGhost
import Derived.Deep.DeepCutAuto
import Derived.Lib.Repeat
import Derived.Lib.AppendIntMem
import Derived.Sort.OwnSorted
import Derived.Shelf.Strings.SlTrimAscii
import Derived.Lib.ConvBytes
import Derived.Lib.CutLaws
import Derived.ArgAppend
namespace Go.Proofs.YtckgmilmhofekaaGreatDoor
open Go.RowKit

def sameF : Fo → Fo → Bool
 | .nil, .nil => true
 | .cons op n u m a r, .cons op' n' u' m' a' r' => ((op == op') && (n == n') && (u == u') && (m == m') && sameF a a') && sameF r r'
 | _, _ => false
def sameX (x y : Ex) : Bool := (x.op == y.op) && (x.n == y.n) && (x.unit == y.unit) && (x.name == y.name) && sameF x.args y.args
theorem sameF_then (x y : Ex) (r s : Fo) : sameF (x.then r) (y.then s) = (sameX x y && sameF r s) := rfl
theorem sameF_iff : ∀ a b : Fo, sameF a b = true ↔ a = b
 | .nil, .nil => ⟨fun _ => rfl, fun _ => rfl⟩
 | .nil, .cons _ _ _ _ _ _ => ⟨fun h => (by cases h), fun h => (by cases h)⟩
 | .cons _ _ _ _ _ _, .nil => ⟨fun h => (by cases h), fun h => (by cases h)⟩
 | .cons op n u m a r, .cons op' n' u' m' a' r' => by
  have h1 := sameF_iff a a'
  have h2 := sameF_iff r r'
  unfold sameF
  simp only [Bool.and_eq_true, beq_iff_eq, h1, h2, Fo.cons.injEq]
  exact ⟨fun ⟨⟨⟨⟨⟨h1, h2⟩, h3⟩, h4⟩, h5⟩, h6⟩ => ⟨h1, h2, h3, h4, h5, h6⟩, fun ⟨h1, h2, h3, h4, h5, h6⟩ => ⟨⟨⟨⟨⟨h1, h2⟩, h3⟩, h4⟩, h5⟩, h6⟩⟩
theorem sameX_iff (x y : Ex) : sameX x y = true ↔ x = y := by
 obtain ⟨op, n, u, m, a⟩ := x
 obtain ⟨op', n', u', m', a'⟩ := y
 unfold sameX
 simp only [Bool.and_eq_true, beq_iff_eq, sameF_iff, Ex.mk.injEq]
 exact ⟨fun ⟨⟨⟨⟨h1, h2⟩, h3⟩, h4⟩, h5⟩ => ⟨h1, h2, h3, h4, h5⟩, fun ⟨h1, h2, h3, h4, h5⟩ => ⟨⟨⟨⟨h1, h2⟩, h3⟩, h4⟩, h5⟩⟩
theorem sameX_no {x y : Ex} (h : x ≠ y) : sameX x y = false := by
 cases hs : sameX x y with
 | false => rfl
 | true => exact absurd ((sameX_iff x y).1 hs) h
/-- How 'Same' compares expressions with these arguments. -/
def SmOK (a : Fo) : Prop := ∀ (D : Nat → Prop) (w : World) (op n op' n' : Int) (u m u' m' : Bytes) (a' : Fo) (q q' : Option Addr) (d d' : Nat), a.len ≤ 9223372036854775807 → smF a → FoS D w q d a → FoS D w q' d' a' →
 Calls Tryz.prog 13 #[.agg (hdC ⟨op, n, u, m, a⟩ q d).toArray, .agg (hdC ⟨op', n', u', m', a'⟩ q' d').toArray] w fun e w' => e = .returned (.bool (sameX ⟨op, n, u, m, a⟩ ⟨op', n', u', m', a'⟩)) ∧ Below w.heap.size w w'
set_option maxRecDepth 100000 in
set_option maxHeartbeats 4000000 in
theorem same_d0 {w : World} {op n op' n' : Int} {u m u' m' : Bytes} {a a' : Fo} {q q' : Option Addr} {d d' : Nat}  (hd : op ≠ op') :
  Calls Tryz.prog 13 #[.agg (hdC ⟨op, n, u, m, a⟩ q d).toArray, .agg (hdC ⟨op', n', u', m', a'⟩ q' d').toArray] w fun e w' => e = .returned (.bool false) ∧ Below w.heap.size w w' := by
 have e1 : (op == op') = false := by rw [beq_eq_false_iff_ne]; exact hd
 have e2 : (op != op') = true := by rw [bne_iff_ne]; exact hd
 have B : Hid (Below w.heap.size w w) := be_refl w
 unfold hdC
 go_enter Tryz.func13, Tryz.ntmps13
 go_upto_region 1 with fail
 refine nmW ((w.alloc (.cells #[.int .i64 op, .int .i64 n, .string ⟨u.toArray⟩, .string ⟨m.toArray⟩, .slice q a.len d] 24)).alloc (.cells #[.int .i64 op', .int .i64 n', .string ⟨u'.toArray⟩, .string ⟨m'.toArray⟩, .slice q' a'.len d'] 24)) fun w1 hv => ?_
 rw [← hv]
 have hb_ : Below w.heap.size w w1 := by rw [hv]; exact (below_alloc _ _).trans ((below_alloc _ _).mono (by simp))
 have K : Hid (Bx w1 w.heap.size 24 #[.int .i64 op, .int .i64 n, .string ⟨u.toArray⟩, .string ⟨m.toArray⟩, .slice q a.len d]) := by show Bx _ _ _ _; rw [hv]; exact (bx1 w _ _).keep (below_alloc _ _)
 have J : Hid (Bx w1 (w.heap.size + 1) 24 #[.int .i64 op', .int .i64 n', .string ⟨u'.toArray⟩, .string ⟨m'.toArray⟩, .slice q' a'.len d']) := by show Bx _ _ _ _; rw [hv]; have := bx1 (w.alloc (.cells #[.int .i64 op, .int .i64 n, .string ⟨u.toArray⟩, .string ⟨m.toArray⟩, .slice q a.len d] 24)) 24 #[.int .i64 op', .int .i64 n', .string ⟨u'.toArray⟩, .string ⟨m'.toArray⟩, .slice q' a'.len d']; simpa using this
 clear hv
 replace B := Lib.hid (be_call B.out hb_)
 have z1_ := hb_.size
 clear hb_
 refine K.out.q5 fun pK_0 pK_1 pK_2 pK_3 pK_4 => ?_
 refine J.out.q5 fun pJ_0 pJ_1 pJ_2 pJ_3 pJ_4 => ?_
 go_wp2_with fail
 clear pK_0 pK_1 pK_2 pK_3 pK_4 pJ_0 pJ_1 pJ_2 pJ_3 pJ_4
 go_ret
 exact ⟨rfl, B.out⟩
set_option maxRecDepth 100000 in
set_option maxHeartbeats 4000000 in
theorem same_d1 {w : World} {op n op' n' : Int} {u m u' m' : Bytes} {a a' : Fo} {q q' : Option Addr} {d d' : Nat} (h0 : op = op') (hd : n ≠ n') :
  Calls Tryz.prog 13 #[.agg (hdC ⟨op, n, u, m, a⟩ q d).toArray, .agg (hdC ⟨op', n', u', m', a'⟩ q' d').toArray] w fun e w' => e = .returned (.bool false) ∧ Below w.heap.size w w' := by
 subst h0
 have e1 : (n == n') = false := by rw [beq_eq_false_iff_ne]; exact hd
 have e2 : (n != n') = true := by rw [bne_iff_ne]; exact hd
 have B : Hid (Below w.heap.size w w) := be_refl w
 unfold hdC
 go_enter Tryz.func13, Tryz.ntmps13
 go_upto_region 1 with fail
 refine nmW ((w.alloc (.cells #[.int .i64 op, .int .i64 n, .string ⟨u.toArray⟩, .string ⟨m.toArray⟩, .slice q a.len d] 24)).alloc (.cells #[.int .i64 op, .int .i64 n', .string ⟨u'.toArray⟩, .string ⟨m'.toArray⟩, .slice q' a'.len d'] 24)) fun w1 hv => ?_
 rw [← hv]
 have hb_ : Below w.heap.size w w1 := by rw [hv]; exact (below_alloc _ _).trans ((below_alloc _ _).mono (by simp))
 have K : Hid (Bx w1 w.heap.size 24 #[.int .i64 op, .int .i64 n, .string ⟨u.toArray⟩, .string ⟨m.toArray⟩, .slice q a.len d]) := by show Bx _ _ _ _; rw [hv]; exact (bx1 w _ _).keep (below_alloc _ _)
 have J : Hid (Bx w1 (w.heap.size + 1) 24 #[.int .i64 op, .int .i64 n', .string ⟨u'.toArray⟩, .string ⟨m'.toArray⟩, .slice q' a'.len d']) := by show Bx _ _ _ _; rw [hv]; have := bx1 (w.alloc (.cells #[.int .i64 op, .int .i64 n, .string ⟨u.toArray⟩, .string ⟨m.toArray⟩, .slice q a.len d] 24)) 24 #[.int .i64 op, .int .i64 n', .string ⟨u'.toArray⟩, .string ⟨m'.toArray⟩, .slice q' a'.len d']; simpa using this
 clear hv
 replace B := Lib.hid (be_call B.out hb_)
 have z1_ := hb_.size
 clear hb_
 refine K.out.q5 fun pK_0 pK_1 pK_2 pK_3 pK_4 => ?_
 refine J.out.q5 fun pJ_0 pJ_1 pJ_2 pJ_3 pJ_4 => ?_
 go_wp2_with fail
 clear pK_0 pK_1 pK_2 pK_3 pK_4 pJ_0 pJ_1 pJ_2 pJ_3 pJ_4
 go_ret
 exact ⟨rfl, B.out⟩
set_option maxRecDepth 100000 in
set_option maxHeartbeats 4000000 in
theorem same_d2 {w : World} {op n op' n' : Int} {u m u' m' : Bytes} {a a' : Fo} {q q' : Option Addr} {d d' : Nat} (h0 : op = op') (h1 : n = n') (hd : u ≠ u') :
  Calls Tryz.prog 13 #[.agg (hdC ⟨op, n, u, m, a⟩ q d).toArray, .agg (hdC ⟨op', n', u', m', a'⟩ q' d').toArray] w fun e w' => e = .returned (.bool false) ∧ Below w.heap.size w w' := by
 subst h0
 subst h1
 have e1 : (u == u') = false := by rw [beq_eq_false_iff_ne]; exact hd
 have e2 : (u != u') = true := by rw [bne_iff_ne]; exact hd
 have B : Hid (Below w.heap.size w w) := be_refl w
 unfold hdC
 go_enter Tryz.func13, Tryz.ntmps13
 go_upto_region 1 with fail
 refine nmW ((w.alloc (.cells #[.int .i64 op, .int .i64 n, .string ⟨u.toArray⟩, .string ⟨m.toArray⟩, .slice q a.len d] 24)).alloc (.cells #[.int .i64 op, .int .i64 n, .string ⟨u'.toArray⟩, .string ⟨m'.toArray⟩, .slice q' a'.len d'] 24)) fun w1 hv => ?_
 rw [← hv]
 have hb_ : Below w.heap.size w w1 := by rw [hv]; exact (below_alloc _ _).trans ((below_alloc _ _).mono (by simp))
 have K : Hid (Bx w1 w.heap.size 24 #[.int .i64 op, .int .i64 n, .string ⟨u.toArray⟩, .string ⟨m.toArray⟩, .slice q a.len d]) := by show Bx _ _ _ _; rw [hv]; exact (bx1 w _ _).keep (below_alloc _ _)
 have J : Hid (Bx w1 (w.heap.size + 1) 24 #[.int .i64 op, .int .i64 n, .string ⟨u'.toArray⟩, .string ⟨m'.toArray⟩, .slice q' a'.len d']) := by show Bx _ _ _ _; rw [hv]; have := bx1 (w.alloc (.cells #[.int .i64 op, .int .i64 n, .string ⟨u.toArray⟩, .string ⟨m.toArray⟩, .slice q a.len d] 24)) 24 #[.int .i64 op, .int .i64 n, .string ⟨u'.toArray⟩, .string ⟨m'.toArray⟩, .slice q' a'.len d']; simpa using this
 clear hv
 replace B := Lib.hid (be_call B.out hb_)
 have z1_ := hb_.size
 clear hb_
 refine K.out.q5 fun pK_0 pK_1 pK_2 pK_3 pK_4 => ?_
 refine J.out.q5 fun pJ_0 pJ_1 pJ_2 pJ_3 pJ_4 => ?_
 go_wp2_with fail
 clear pK_0 pK_1 pK_2 pK_3 pK_4 pJ_0 pJ_1 pJ_2 pJ_3 pJ_4
 go_ret
 exact ⟨rfl, B.out⟩
set_option maxRecDepth 100000 in
set_option maxHeartbeats 4000000 in
theorem same_d3 {w : World} {op n op' n' : Int} {u m u' m' : Bytes} {a a' : Fo} {q q' : Option Addr} {d d' : Nat} (h0 : op = op') (h1 : n = n') (h2 : u = u') (hd : m ≠ m') :
  Calls Tryz.prog 13 #[.agg (hdC ⟨op, n, u, m, a⟩ q d).toArray, .agg (hdC ⟨op', n', u', m', a'⟩ q' d').toArray] w fun e w' => e = .returned (.bool false) ∧ Below w.heap.size w w' := by
 subst h0
 subst h1
 subst h2
 have e1 : (m == m') = false := by rw [beq_eq_false_iff_ne]; exact hd
 have e2 : (m != m') = true := by rw [bne_iff_ne]; exact hd
 have B : Hid (Below w.heap.size w w) := be_refl w
 unfold hdC
 go_enter Tryz.func13, Tryz.ntmps13
 go_upto_region 1 with fail
 refine nmW ((w.alloc (.cells #[.int .i64 op, .int .i64 n, .string ⟨u.toArray⟩, .string ⟨m.toArray⟩, .slice q a.len d] 24)).alloc (.cells #[.int .i64 op, .int .i64 n, .string ⟨u.toArray⟩, .string ⟨m'.toArray⟩, .slice q' a'.len d'] 24)) fun w1 hv => ?_
 rw [← hv]
 have hb_ : Below w.heap.size w w1 := by rw [hv]; exact (below_alloc _ _).trans ((below_alloc _ _).mono (by simp))
 have K : Hid (Bx w1 w.heap.size 24 #[.int .i64 op, .int .i64 n, .string ⟨u.toArray⟩, .string ⟨m.toArray⟩, .slice q a.len d]) := by show Bx _ _ _ _; rw [hv]; exact (bx1 w _ _).keep (below_alloc _ _)
 have J : Hid (Bx w1 (w.heap.size + 1) 24 #[.int .i64 op, .int .i64 n, .string ⟨u.toArray⟩, .string ⟨m'.toArray⟩, .slice q' a'.len d']) := by show Bx _ _ _ _; rw [hv]; have := bx1 (w.alloc (.cells #[.int .i64 op, .int .i64 n, .string ⟨u.toArray⟩, .string ⟨m.toArray⟩, .slice q a.len d] 24)) 24 #[.int .i64 op, .int .i64 n, .string ⟨u.toArray⟩, .string ⟨m'.toArray⟩, .slice q' a'.len d']; simpa using this
 clear hv
 replace B := Lib.hid (be_call B.out hb_)
 have z1_ := hb_.size
 clear hb_
 refine K.out.q5 fun pK_0 pK_1 pK_2 pK_3 pK_4 => ?_
 refine J.out.q5 fun pJ_0 pJ_1 pJ_2 pJ_3 pJ_4 => ?_
 go_wp2_with fail
 clear pK_0 pK_1 pK_2 pK_3 pK_4 pJ_0 pJ_1 pJ_2 pJ_3 pJ_4
 go_ret
 exact ⟨rfl, B.out⟩
set_option maxRecDepth 100000 in
set_option maxHeartbeats 4000000 in
theorem same_d4 {w : World} {op n op' n' : Int} {u m u' m' : Bytes} {a a' : Fo} {q q' : Option Addr} {d d' : Nat} (h0 : op = op') (h1 : n = n') (h2 : u = u') (h3 : m = m') (hd : a.len ≠ a'.len) :
  Calls Tryz.prog 13 #[.agg (hdC ⟨op, n, u, m, a⟩ q d).toArray, .agg (hdC ⟨op', n', u', m', a'⟩ q' d').toArray] w fun e w' => e = .returned (.bool false) ∧ Below w.heap.size w w' := by
 subst h0
 subst h1
 subst h2
 subst h3
 have e1 : ((a.len : Int) == (a'.len : Int)) = false := by rw [beq_eq_false_iff_ne]; omega
 have e2 : ((a.len : Int) != (a'.len : Int)) = true := by rw [bne_iff_ne]; omega
 have B : Hid (Below w.heap.size w w) := be_refl w
 unfold hdC
 go_enter Tryz.func13, Tryz.ntmps13
 go_upto_region 1 with fail
 refine nmW ((w.alloc (.cells #[.int .i64 op, .int .i64 n, .string ⟨u.toArray⟩, .string ⟨m.toArray⟩, .slice q a.len d] 24)).alloc (.cells #[.int .i64 op, .int .i64 n, .string ⟨u.toArray⟩, .string ⟨m.toArray⟩, .slice q' a'.len d'] 24)) fun w1 hv => ?_
 rw [← hv]
 have hb_ : Below w.heap.size w w1 := by rw [hv]; exact (below_alloc _ _).trans ((below_alloc _ _).mono (by simp))
 have K : Hid (Bx w1 w.heap.size 24 #[.int .i64 op, .int .i64 n, .string ⟨u.toArray⟩, .string ⟨m.toArray⟩, .slice q a.len d]) := by show Bx _ _ _ _; rw [hv]; exact (bx1 w _ _).keep (below_alloc _ _)
 have J : Hid (Bx w1 (w.heap.size + 1) 24 #[.int .i64 op, .int .i64 n, .string ⟨u.toArray⟩, .string ⟨m.toArray⟩, .slice q' a'.len d']) := by show Bx _ _ _ _; rw [hv]; have := bx1 (w.alloc (.cells #[.int .i64 op, .int .i64 n, .string ⟨u.toArray⟩, .string ⟨m.toArray⟩, .slice q a.len d] 24)) 24 #[.int .i64 op, .int .i64 n, .string ⟨u.toArray⟩, .string ⟨m.toArray⟩, .slice q' a'.len d']; simpa using this
 clear hv
 replace B := Lib.hid (be_call B.out hb_)
 have z1_ := hb_.size
 clear hb_
 refine K.out.q5 fun pK_0 pK_1 pK_2 pK_3 pK_4 => ?_
 refine J.out.q5 fun pJ_0 pJ_1 pJ_2 pJ_3 pJ_4 => ?_
 go_wp2_with fail
 clear pK_0 pK_1 pK_2 pK_3 pK_4 pJ_0 pJ_1 pJ_2 pJ_3 pJ_4
 go_ret
 exact ⟨rfl, B.out⟩
set_option maxRecDepth 100000 in
set_option maxHeartbeats 4000000 in
theorem same_args {a a' : Fo} (hi : ∀ x ∈ a.list, SmOK x.args) (hal : a.len ≤ 9223372036854775807) (hsm : smF a) {D : Nat → Prop} {w : World} {op n : Int} {u m : Bytes} {q q' : Option Addr} {d d' : Nat} (hS : FoS D w q d a) (hS2 : FoS D w q' d' a') (hle : a'.len = a.len) :
    Calls Tryz.prog 13 #[.agg (hdC ⟨op, n, u, m, a⟩ q d).toArray, .agg (hdC ⟨op, n, u, m, a'⟩ q' d').toArray] w fun e w' => e = .returned (.bool (sameF a a')) ∧ Below w.heap.size w w' := by
  have F := Lib.hid hS; have F2 := Lib.hid hS2; have HI := Lib.hid hi; have SM := Lib.hid hsm; have HE := Lib.hid hle
  clear hS hS2 hi hsm
  unfold hdC
  dsimp only
  rw [HE.out]
  have B : Hid (Below w.heap.size w w) := be_refl w
  go_enter Tryz.func13, Tryz.ntmps13
  go_upto_region 1 with fail
  refine nmW ((w.alloc (.cells #[.int .i64 op, .int .i64 n, .string ⟨u.toArray⟩, .string ⟨m.toArray⟩, .slice q a.len d] 24)).alloc (.cells #[.int .i64 op, .int .i64 n, .string ⟨u.toArray⟩, .string ⟨m.toArray⟩, .slice q' a.len d'] 24)) fun w1 hv => ?_
  rw [← hv]
  have hb_ : Below w.heap.size w w1 := by rw [hv]; exact (below_alloc _ _).trans ((below_alloc _ _).mono (by simp))
  have K : Hid (Bx w1 w.heap.size 24 #[.int .i64 op, .int .i64 n, .string ⟨u.toArray⟩, .string ⟨m.toArray⟩, .slice q a.len d]) := by show Bx _ _ _ _; rw [hv]; exact (bx1 w _ _).keep (below_alloc _ _)
  have J : Hid (Bx w1 (w.heap.size + 1) 24 #[.int .i64 op, .int .i64 n, .string ⟨u.toArray⟩, .string ⟨m.toArray⟩, .slice q' a.len d']) := by show Bx _ _ _ _; rw [hv]; have := bx1 (w.alloc (.cells #[.int .i64 op, .int .i64 n, .string ⟨u.toArray⟩, .string ⟨m.toArray⟩, .slice q a.len d] 24)) 24 #[.int .i64 op, .int .i64 n, .string ⟨u.toArray⟩, .string ⟨m.toArray⟩, .slice q' a.len d']; simpa using this
  clear hv
  replace F := Lib.hid (F.out.keep hb_)
  replace F2 := Lib.hid (F2.out.keep hb_)
  replace B := Lib.hid (be_call B.out hb_)
  have z1_ := hb_.size
  clear hb_
  refine K.out.q5 fun pK_0 pK_1 pK_2 pK_3 pK_4 => ?_
  refine J.out.q5 fun pJ_0 pJ_1 pJ_2 pJ_3 pJ_4 => ?_
  go_wp2_with fail
  clear pK_0 pK_1 pK_2 pK_3 pK_4 pJ_0 pJ_1 pJ_2 pJ_3 pJ_4
  have hR0 : Hid (sameF a a' = sameF (Fo.of (a.list.drop 0)) (Fo.of (a'.list.drop 0))) := by show _ = _; rw [List.drop_zero, List.drop_zero, Fo.of_list, Fo.of_list]
  go_loopw [5] (fun i wr => ∃ (j : Nat), i = .int .i64 (j : Int) ∧ j ≤ a.len ∧ Hid (sameF a a' = sameF (Fo.of (a.list.drop j)) (Fo.of (a'.list.drop j))) ∧ Hid (Bx wr w.heap.size 24 #[.int .i64 op, .int .i64 n, .string ⟨u.toArray⟩, .string ⟨m.toArray⟩, .slice q a.len d]) ∧ Hid (Bx wr (w.heap.size + 1) 24 #[.int .i64 op, .int .i64 n, .string ⟨u.toArray⟩, .string ⟨m.toArray⟩, .slice q' a.len d']) ∧ Hid (FoS D wr q d a) ∧ Hid (FoS D wr q' d' a') ∧ Hid (Below w.heap.size w wr)) (fun i _ => a.len - (intOf i).toNat)
  case atStart => exact ⟨0, rfl, Nat.zero_le _, hR0, K, J, F, F2, B⟩
  case round =>
    clear K J F F2 B
    obtain ⟨j, rfl, hj, HR, K, J, F, F2, B⟩ := hrel
    clear hR0
    by_cases hlt : j < a.len
    · obtain ⟨x, hx⟩ : ∃ x, a.list[j]? = some x := ⟨_, List.getElem?_eq_getElem (by rw [Fo.len_list]; exact hlt)⟩
      obtain ⟨y, hy⟩ : ∃ y, a'.list[j]? = some y := ⟨_, List.getElem?_eq_getElem (by rw [Fo.len_list, HE.out]; exact hlt)⟩
      obtain ⟨b1, o1, q1, d1, rfl, hb1, hc1, hs1⟩ := F.out.at hx
      obtain ⟨b2, o2, q2, d2, rfl, hb2, hc2, hs2⟩ := F2.out.at hy
      have HX := Lib.hid hx; have HY := Lib.hid hy; have E1 := Lib.hid hs1; have E2 := Lib.hid hs2; clear hx hy hs1 hs2
      have HC1 := Lib.hid hc1; have HC2 := Lib.hid hc2; clear hc1 hc2
      have hjl : (j : Int) < (a.len : Int) := by omega
      have HLT := Lib.hid hlt
      have HAT : ∀ (W : World), wr.heap.size ≤ W.heap.size → (∀ b o v, b < wr.heap.size → wr.cell? ⟨b, o, none⟩ = some v → W.cell? ⟨b, o, none⟩ = some v) → True := fun _ _ _ => trivial
      clear HAT
      refine K.out.q5 fun pK_0 pK_1 pK_2 pK_3 pK_4 => ?_
      refine J.out.q5 fun pJ_0 pJ_1 pJ_2 pJ_3 pJ_4 => ?_
      go_upto_region 6 with fail
      clear pK_0 pK_1 pK_2 pK_3 pK_4 pJ_0 pJ_1 pJ_2 pJ_3 pJ_4
      have hcell : wr.cell? ⟨w.heap.size, 4, none⟩ = some (.slice (some ⟨b1, o1, none⟩) a.len d) ∧ wr.cell? ⟨w.heap.size + 1, 4, none⟩ = some (.slice (some ⟨b2, o2, none⟩) a.len d') ∧ wr.cell? ⟨b1, o1 + j * 5, none⟩ = some (.int .i64 x.op) ∧ wr.cell? ⟨b1, o1 + j * 5 + 1, none⟩ = some (.int .i64 x.n) ∧ wr.cell? ⟨b1, o1 + j * 5 + 2, none⟩ = some (.string ⟨x.unit.toArray⟩) ∧ wr.cell? ⟨b1, o1 + j * 5 + 3, none⟩ = some (.string ⟨x.name.toArray⟩) ∧ wr.cell? ⟨b1, o1 + j * 5 + 4, none⟩ = some (.slice q1 x.args.len d1) ∧ wr.cell? ⟨b2, o2 + j * 5, none⟩ = some (.int .i64 y.op) ∧ wr.cell? ⟨b2, o2 + j * 5 + 1, none⟩ = some (.int .i64 y.n) ∧ wr.cell? ⟨b2, o2 + j * 5 + 2, none⟩ = some (.string ⟨y.unit.toArray⟩) ∧ wr.cell? ⟨b2, o2 + j * 5 + 3, none⟩ = some (.string ⟨y.name.toArray⟩) ∧ wr.cell? ⟨b2, o2 + j * 5 + 4, none⟩ = some (.slice q2 y.args.len d2) := ⟨K.out.at.1 4, J.out.at.1 4, by have := HC1.out 0 _ rfl; rw [Nat.mul_comm] at this; exact this, by have := HC1.out 1 _ rfl; rw [Nat.mul_comm] at this; exact this, by have := HC1.out 2 _ rfl; rw [Nat.mul_comm] at this; exact this, by have := HC1.out 3 _ rfl; rw [Nat.mul_comm] at this; exact this, by have := HC1.out 4 _ rfl; rw [Nat.mul_comm] at this; exact this, by have := HC2.out 0 _ rfl; rw [Nat.mul_comm] at this; exact this, by have := HC2.out 1 _ rfl; rw [Nat.mul_comm] at this; exact this, by have := HC2.out 2 _ rfl; rw [Nat.mul_comm] at this; exact this, by have := HC2.out 3 _ rfl; rw [Nat.mul_comm] at this; exact this, by have := HC2.out 4 _ rfl; rw [Nat.mul_comm] at this; exact this⟩
      have hkeep : ∀ W : World, Below wr.heap.size wr W → (W.cell? ⟨w.heap.size, 4, none⟩ = some (.slice (some ⟨b1, o1, none⟩) a.len d) ∧ W.cell? ⟨w.heap.size + 1, 4, none⟩ = some (.slice (some ⟨b2, o2, none⟩) a.len d') ∧ W.cell? ⟨b1, o1 + j * 5, none⟩ = some (.int .i64 x.op) ∧ W.cell? ⟨b1, o1 + j * 5 + 1, none⟩ = some (.int .i64 x.n) ∧ W.cell? ⟨b1, o1 + j * 5 + 2, none⟩ = some (.string ⟨x.unit.toArray⟩) ∧ W.cell? ⟨b1, o1 + j * 5 + 3, none⟩ = some (.string ⟨x.name.toArray⟩) ∧ W.cell? ⟨b1, o1 + j * 5 + 4, none⟩ = some (.slice q1 x.args.len d1) ∧ W.cell? ⟨b2, o2 + j * 5, none⟩ = some (.int .i64 y.op) ∧ W.cell? ⟨b2, o2 + j * 5 + 1, none⟩ = some (.int .i64 y.n) ∧ W.cell? ⟨b2, o2 + j * 5 + 2, none⟩ = some (.string ⟨y.unit.toArray⟩) ∧ W.cell? ⟨b2, o2 + j * 5 + 3, none⟩ = some (.string ⟨y.name.toArray⟩) ∧ W.cell? ⟨b2, o2 + j * 5 + 4, none⟩ = some (.slice q2 y.args.len d2)) := fun W hb => by
        obtain ⟨k0, k1, k2, k3, k4, k5, k6, k7, k8, k9, k10, k11⟩ := hcell
        have hk := K.out.lt; have hj2 := J.out.lt
        exact ⟨by rw [hb.cell (p := ⟨_, _, none⟩) (by assumption)]; exact k0, by rw [hb.cell (p := ⟨_, _, none⟩) (by assumption)]; exact k1, by rw [hb.cell (p := ⟨_, _, none⟩) (by assumption)]; exact k2, by rw [hb.cell (p := ⟨_, _, none⟩) (by assumption)]; exact k3, by rw [hb.cell (p := ⟨_, _, none⟩) (by assumption)]; exact k4, by rw [hb.cell (p := ⟨_, _, none⟩) (by assumption)]; exact k5, by rw [hb.cell (p := ⟨_, _, none⟩) (by assumption)]; exact k6, by rw [hb.cell (p := ⟨_, _, none⟩) (by assumption)]; exact k7, by rw [hb.cell (p := ⟨_, _, none⟩) (by assumption)]; exact k8, by rw [hb.cell (p := ⟨_, _, none⟩) (by assumption)]; exact k9, by rw [hb.cell (p := ⟨_, _, none⟩) (by assumption)]; exact k10, by rw [hb.cell (p := ⟨_, _, none⟩) (by assumption)]; exact k11⟩
      have HK := Lib.hid hkeep; clear hkeep hcell
      refine nmW wr.drew fun wd hW => ?_
      have hb_ := bdh hW
      have BD : Hid (Below wr.heap.size wr wd) := hb_
      replace F := Lib.hid (F.out.keep hb_)
      replace F2 := Lib.hid (F2.out.keep hb_)
      replace B := Lib.hid (be_call B.out hb_)
      replace K := Lib.hid (K.out.keep hb_)
      replace J := Lib.hid (J.out.keep hb_)
      replace E1 := Lib.hid (E1.out.keep hb_)
      replace E2 := Lib.hid (E2.out.keep hb_)
      have z2_ := hb_.size
      clear hb_
      refine wp_region_held_drew (S := (fun w' => w'.cell? ⟨w.heap.size, 4, none⟩ = some (.slice (some ⟨b1, o1, none⟩) a.len d) ∧ w'.cell? ⟨w.heap.size + 1, 4, none⟩ = some (.slice (some ⟨b2, o2, none⟩) a.len d') ∧ w'.cell? ⟨b1, o1 + j * 5, none⟩ = some (.int .i64 x.op) ∧ w'.cell? ⟨b1, o1 + j * 5 + 1, none⟩ = some (.int .i64 x.n) ∧ w'.cell? ⟨b1, o1 + j * 5 + 2, none⟩ = some (.string ⟨x.unit.toArray⟩) ∧ w'.cell? ⟨b1, o1 + j * 5 + 3, none⟩ = some (.string ⟨x.name.toArray⟩) ∧ w'.cell? ⟨b1, o1 + j * 5 + 4, none⟩ = some (.slice q1 x.args.len d1) ∧ w'.cell? ⟨b2, o2 + j * 5, none⟩ = some (.int .i64 y.op) ∧ w'.cell? ⟨b2, o2 + j * 5 + 1, none⟩ = some (.int .i64 y.n) ∧ w'.cell? ⟨b2, o2 + j * 5 + 2, none⟩ = some (.string ⟨y.unit.toArray⟩) ∧ w'.cell? ⟨b2, o2 + j * 5 + 3, none⟩ = some (.string ⟨y.name.toArray⟩) ∧ w'.cell? ⟨b2, o2 + j * 5 + 4, none⟩ = some (.slice q2 y.args.len d2))) (by kernel_rfl) (by rw [← hW]; exact HK.out _ BD.out) (fun hH => ?_)
      rw [← hW] at hH ⊢
      clear hW
      refine tk at0 ?_
      refine tk at1 (v := .slice (some ⟨b1, o1, none⟩) a.len d) ?_
      refine tk at2 ?_
      refine tk at3 ?_
      refine tk at4 (v := .agg #[.int .i64 x.op, .int .i64 x.n, .string ⟨x.unit.toArray⟩, .string ⟨x.name.toArray⟩, .slice q1 x.args.len d1]) ?_
      refine tk at5 ?_
      refine tk at6 (v := (.slice (some ⟨b2, o2, none⟩) a.len d')) ?_
      refine tk at7 ?_
      refine tk at8 ?_
      refine tk at9 (v := .agg #[.int .i64 y.op, .int .i64 y.n, .string ⟨y.unit.toArray⟩, .string ⟨y.name.toArray⟩, .slice q2 y.args.len d2]) ?_
      refine wpAnyH_ready (rs := [10]) (by kernel_rfl) (by simp) ?_
      refine AllReadyH.cons at10 (fun K_ hK => ?_) AllReadyH.nil
      obtain ⟨sb, hsb⟩ : ∃ sb, sameX x y = sb := ⟨_, rfl⟩
      have HSB := Lib.hid hsb; clear hsb
      have hsx := SM.out.mem (List.mem_of_getElem? HX.out)
      have HC := Lib.hid (HI.out x (List.mem_of_getElem? HX.out) D wd x.op x.n y.op y.n x.unit x.name y.unit y.name y.args q1 q2 d1 d2 hsx.2.2.1 hsx.2.2.2 E1.out E2.out)
      rw [show sameX (Ex.mk x.op x.n x.unit x.name x.args) (Ex.mk y.op y.n y.unit y.name y.args) = sb from HSB.out] at HC
      clear hsx
      unfold hdC at HC
      go_simp
      refine HC.out.mono ?_
      rintro e w5 ⟨rfl, hb⟩
      clear HC
      replace BD := Lib.hid (be_call BD.out hb)
      replace F := Lib.hid (F.out.keep hb)
      replace F2 := Lib.hid (F2.out.keep hb)
      replace B := Lib.hid (be_call B.out hb)
      replace K := Lib.hid (K.out.keep hb)
      replace J := Lib.hid (J.out.keep hb)
      replace E1 := Lib.hid (E1.out.keep hb)
      replace E2 := Lib.hid (E2.out.keep hb)
      have z3_ := hb.size
      clear hb
      (try go_wp2_with fail)
      refine hK.out _ _ (HK.out _ BD.out) (fun hH2 => ?_)
      clear hK K_ hH
      have hH := hH2; clear hH2
      (try simp only [Act.put, kS, kZ, kC])
      refine tk at11 ?_
      refine wpAnyH_done (by kernel_rfl) ?_ _
      clear hH
      have HRN : Hid (sameF a a' = (sb && sameF (Fo.of (a.list.drop (j + 1))) (Fo.of (a'.list.drop (j + 1))))) := by show _ = _; rw [HR.out, drop_list HX.out, drop_list HY.out, sameF_then, HSB.out]
      clear HR
      cases sb with
      | false =>
        have HF : Hid (sameF a a' = false) := by show _ = _; rw [HRN.out]; rfl
        go_wp2_with fail
        go_ret
        exact ⟨by rw [HF.out]; rfl, B.out⟩
      | true =>
        have HT : Hid (sameF a a' = sameF (Fo.of (a.list.drop (j + 1))) (Fo.of (a'.list.drop (j + 1)))) := by show _ = _; rw [HRN.out]; rfl
        go_wp2_with fail
        go_roundw
        case rel => exact ⟨j + 1, by go_num, HLT.out, HT, K, J, F, F2, B⟩
        case measure => have := HLT.out; simp [intOf]; omega
    · have hje : j = a.len := by omega
      have hjl : ¬ (j : Int) < (a.len : Int) := by omega
      have HT : Hid (sameF a a' = true) := by show _ = _; rw [HR.out, hje, List.drop_of_length_le (by rw [Fo.len_list]; exact Nat.le_refl _), List.drop_of_length_le (by rw [Fo.len_list, HE.out]; exact Nat.le_refl _)]; rfl
      have p4 := K.out.at.1 4
      go_wp2_with fail
      go_ret
      exact ⟨by rw [HT.out]; rfl, B.out⟩
theorem same_all (a : Fo) : SmOK a := Fo.ind (fun a hi D w op n op' n' u m u' m' a' q q' d d' hal hsm hS hS2 => by
 by_cases h0 : op = op'
 case neg => rw [sameX_no (fun h => h0 (congrArg Ex.op h))]; exact same_d0 h0
 by_cases h1 : n = n'
 case neg => rw [sameX_no (fun h => h1 (congrArg Ex.n h))]; exact same_d1 h0 h1
 by_cases h2 : u = u'
 case neg => rw [sameX_no (fun h => h2 (congrArg Ex.unit h))]; exact same_d2 h0 h1 h2
 by_cases h3 : m = m'
 case neg => rw [sameX_no (fun h => h3 (congrArg Ex.name h))]; exact same_d3 h0 h1 h2 h3
 by_cases h4 : a.len = a'.len
 case neg => rw [sameX_no (fun h => h4 (congrArg (fun x => x.args.len) h))]; exact same_d4 h0 h1 h2 h3 h4
 subst h0 h1 h2 h3
 rw [show sameX ⟨op, n, u, m, a⟩ ⟨op, n, u, m, a'⟩ = sameF a a' by unfold sameX; simp]
 exact same_args hi hal hsm hS hS2 h4.symm) a
theorem same_ok {x y : Ex} {D D' : Nat → Prop} {w : World} {q q' : Option Addr} {d d' : Nat} (hsm : smX x) (hS : FoS D w q d x.args) (hS2 : FoS D' w q' d' y.args) {r : Bool} (hr : sameX x y = r) :
  Calls Tryz.prog 13 #[.agg (hdC x q d).toArray, .agg (hdC y q' d').toArray] w fun e w' => e = .returned (.bool r) ∧ Below w.heap.size w w' := by
 subst hr
 exact same_all x.args _ w x.op x.n y.op y.n x.unit x.name y.unit y.name y.args q q' d d' hsm.2.2.1 hsm.2.2.2 hS.inH hS2.inH
end Go.Proofs.YtckgmilmhofekaaGreatDoor
namespace Go.Proofs.YtckgmilmhofekaaGreatDoor
open Go.RowKit

/-- A slice reads as these expressions, wherever they lie. -/
abbrev FoT (w : World) (q : Option Addr) (d : Nat) (a : Fo) : Prop := FoS (fun _ => True) w q d a
theorem FoS.inHD {D : Nat → Prop} {w : World} {p : Option Addr} {c : Nat} {a : Fo} (h : FoS D w p c a) : FoS (fun b => b < w.heap.size ∧ D b) w p c a :=
 ⟨h.1, h.2.imp id fun ⟨b, o, e, k1, k2, k3⟩ => ⟨b, o, e, ⟨k2, k1⟩, k2, FoC.inHeap k1 k2 k3⟩⟩
set_option maxRecDepth 100000 in
set_option maxHeartbeats 4000000 in
theorem lname_ok {w : World} (m : Bytes) :
  Calls Tryz.prog 23 #[.string ⟨m.toArray⟩] w fun e w' => e = .returned (.agg (hdC ⟨1, 0, [], m, .nil⟩ none 0).toArray) ∧ Below w.heap.size w w' := by
 have B : Hid (Below w.heap.size w w) := be_refl w
 go_enter Tryz.func23, Tryz.ntmps23
 go_upto_region 1 with fail
 refine nmW (w.alloc (.cells #[.int .i64 0, .int .i64 0, .string ⟨#[]⟩, .string ⟨#[]⟩, .slice none 0 0] 24)) fun w1 hv => ?_
 rw [← hv]
 have K := bxh hv
 have hb_ := bah hv
 clear hv
 have z1_ := K.out.lt
 replace B := Lib.hid (be_call B.out hb_)
 have z2_ := hb_.size
 clear hb_
 refine K.out.e5 fun pK_0 qK_0 pK_1 qK_1 pK_2 qK_2 pK_3 qK_3 pK_4 qK_4 => ?_
 go_wp2_with fail
 clear pK_0 qK_0 pK_1 qK_1 pK_2 qK_2 pK_3 qK_3 pK_4 qK_4
 refine nmW (((((w1.setCell ⟨w.heap.size, 0, none⟩ (.int .i64 1)).setCell ⟨w.heap.size, 1, none⟩ (.int .i64 0)).setCell ⟨w.heap.size, 2, none⟩ (.string ⟨#[]⟩)).setCell ⟨w.heap.size, 3, none⟩ (.string ⟨m.toArray⟩)).setCell ⟨w.heap.size, 4, none⟩ (.slice none 0 0)) fun w2 hv => ?_
 rw [← hv]
 have og_ : w1.grownBy w2 (some w.heap.size) := by rw [hv]; exact gs5
 have kb_ : Bx w2 w.heap.size 24 #[.int .i64 1, .int .i64 0, .string ⟨#[]⟩, .string ⟨m.toArray⟩, .slice none 0 0] := by rw [hv]; exact (((((K.out.set 0 _).set 1 _).set 2 _).set 3 _).set 4 _)
 clear hv
 replace B := Lib.hid (B.out.trans (gr_to og_ (by omega) B.out.size))
 replace K := Lib.hid kb_
 have z3_ := og_.size
 clear og_ kb_
 refine bodyPost_ret (results_box1 rfl _ _ w.heap.size 24 _ _ _ rfl K.out Tryz.underlying24 rfl (by kernel_rfl)) rfl ?_
 exact ⟨rfl, B.out⟩
set_option maxRecDepth 100000 in
set_option maxHeartbeats 4000000 in
theorem lnumber_ok {w : World} (n : Int) :
  Calls Tryz.prog 24 #[.int .i64 n] w fun e w' => e = .returned (.agg (hdC ⟨0, n, [], [], .nil⟩ none 0).toArray) ∧ Below w.heap.size w w' := by
 have B : Hid (Below w.heap.size w w) := be_refl w
 go_enter Tryz.func24, Tryz.ntmps24
 go_upto_region 1 with fail
 refine nmW (w.alloc (.cells #[.int .i64 0, .int .i64 0, .string ⟨#[]⟩, .string ⟨#[]⟩, .slice none 0 0] 24)) fun w1 hv => ?_
 rw [← hv]
 have K := bxh hv
 have hb_ := bah hv
 clear hv
 have z1_ := K.out.lt
 replace B := Lib.hid (be_call B.out hb_)
 have z2_ := hb_.size
 clear hb_
 refine K.out.e5 fun pK_0 qK_0 pK_1 qK_1 pK_2 qK_2 pK_3 qK_3 pK_4 qK_4 => ?_
 go_wp2_with fail
 clear pK_0 qK_0 pK_1 qK_1 pK_2 qK_2 pK_3 qK_3 pK_4 qK_4
 refine nmW (((((w1.setCell ⟨w.heap.size, 0, none⟩ (.int .i64 0)).setCell ⟨w.heap.size, 1, none⟩ (.int .i64 n)).setCell ⟨w.heap.size, 2, none⟩ (.string ⟨#[]⟩)).setCell ⟨w.heap.size, 3, none⟩ (.string ⟨#[]⟩)).setCell ⟨w.heap.size, 4, none⟩ (.slice none 0 0)) fun w2 hv => ?_
 rw [← hv]
 have og_ : w1.grownBy w2 (some w.heap.size) := by rw [hv]; exact gs5
 have kb_ : Bx w2 w.heap.size 24 #[.int .i64 0, .int .i64 n, .string ⟨#[]⟩, .string ⟨#[]⟩, .slice none 0 0] := by rw [hv]; exact (((((K.out.set 0 _).set 1 _).set 2 _).set 3 _).set 4 _)
 clear hv
 replace B := Lib.hid (B.out.trans (gr_to og_ (by omega) B.out.size))
 replace K := Lib.hid kb_
 have z3_ := og_.size
 clear og_ kb_
 refine bodyPost_ret (results_box1 rfl _ _ w.heap.size 24 _ _ _ rfl K.out Tryz.underlying24 rfl (by kernel_rfl)) rfl ?_
 exact ⟨rfl, B.out⟩
set_option maxRecDepth 100000 in
set_option maxHeartbeats 4000000 in
theorem lfails_ok {w : World} (s : ByteArray) (hs : s.size ≤ 137438953472) (hsig : SignsIn w) {p : Nat} {x : Ex} (h : parseX s.data.toList = (x, p, 12)) {pi : Int} (hp : pi = p) :
  Calls Tryz.prog 25 #[.string s, .int .i64 pi] w fun e w' => e = .returned (.bool true) ∧ Below w.heap.size w w' := by
 subst hp
 have HG := Lib.hid hsig; have HP := Lib.hid h
 have B : Hid (Below w.heap.size w w) := be_refl w
 clear hsig h
 go_enter Tryz.func25, Tryz.ntmps25
 go_wp2_with fail
 refine (parse_any s hs HG.out).mono ?_
 rintro e w1 ⟨y, q, d, p1, e1, rfl, hf, hb, hx⟩
 replace B := Lib.hid (be_call B.out hb)
 replace HG := Lib.hid (HG.out.keep hb)
 have z1_ := hb.size
 clear hb
 rw [HP.out] at hx
 obtain ⟨rfl, rfl, rfl⟩ : x = y ∧ p = p1 ∧ 12 = e1 := by have h1 := congrArg Prod.fst hx; have h2 := congrArg Prod.snd hx; exact ⟨h1, congrArg Prod.fst h2, congrArg Prod.snd h2⟩
 clear hx hf
 unfold hdC
 go_wp2_with fail
 go_ret
 exact ⟨by simp, be_call B.out (below_alloc _ _)⟩
set_option maxRecDepth 100000 in
set_option maxHeartbeats 4000000 in
theorem lmeans_ok {w : World} (s : ByteArray) (hs : s.size ≤ 137438953472) (hsig : SignsIn w) (hT : PowT w.heap.size w) {x : Ex} {q : Option Addr} {d : Nat} (hsm : smX x) (hS : FoT w q d x.args) (hpn : rightX x = true → Prn x) (h : parseX s.data.toList = (x, 0, 0)) {pr : Bytes} (hpr : printX x = some pr) :
  Calls Tryz.prog 21 #[.string s, .agg (hdC x q d).toArray, .string ⟨pr.toArray⟩] w fun e w' => e = .returned (.bool true) ∧ Below w.heap.size w w' := by
 have HG := Lib.hid hsig; have HP := Lib.hid h; have T := Lib.hid hT; have F := Lib.hid hS; have SM := Lib.hid hsm; have PN := Lib.hid hpn; have PR := Lib.hid hpr
 have B : Hid (Below w.heap.size w w) := be_refl w
 clear hsig h hT hS hsm hpn hpr
 unfold hdC
 go_enter Tryz.func21, Tryz.ntmps21
 go_upto_region 1 with fail
 refine nmW (w.alloc (.cells #[.int .i64 x.op, .int .i64 x.n, .string ⟨x.unit.toArray⟩, .string ⟨x.name.toArray⟩, .slice q x.args.len d] 24)) fun w1 hv => ?_
 rw [← hv]
 have K := bxh hv
 have hb_ := bah hv
 clear hv
 have z1_ := K.out.lt
 replace B := Lib.hid (be_call B.out hb_)
 replace HG := Lib.hid (HG.out.keep hb_)
 replace T := Lib.hid (T.out.keepG (hb_.mono (by omega)))
 replace F := Lib.hid (F.out.keep hb_)
 have z2_ := hb_.size
 clear hb_
 go_wp2_with fail
 refine (parse_any s hs HG.out).mono ?_
 rintro e w2 ⟨y, q2, d2, p1, e1, rfl, hf, hb, hx⟩
 replace B := Lib.hid (be_call B.out hb)
 replace HG := Lib.hid (HG.out.keep hb)
 replace T := Lib.hid (T.out.keepG (hb.mono (by omega)))
 replace F := Lib.hid (F.out.keep hb)
 replace K := Lib.hid (K.out.keep hb)
 have z3_ := hb.size
 clear hb
 rw [HP.out] at hx
 obtain ⟨rfl, rfl, rfl⟩ : x = y ∧ 0 = p1 ∧ 0 = e1 := by have h1 := congrArg Prod.fst hx; have h2 := congrArg Prod.snd hx; exact ⟨h1, congrArg Prod.fst h2, congrArg Prod.snd h2⟩
 clear hx
 have F2 := Lib.hid hf; clear hf
 unfold hdC
 go_upto_region 2 with fail
 refine nmW (w2.alloc (.cells #[.int .i64 x.op, .int .i64 x.n, .string ⟨x.unit.toArray⟩, .string ⟨x.name.toArray⟩, .slice q2 x.args.len d2] 24)) fun w3 hv => ?_
 rw [← hv]
 have L := bxh hv
 have hb_ := bah hv
 clear hv
 have z4_ := L.out.lt
 replace B := Lib.hid (be_call B.out hb_)
 replace HG := Lib.hid (HG.out.keep hb_)
 replace T := Lib.hid (T.out.keepG (hb_.mono (by omega)))
 replace F := Lib.hid (F.out.keep hb_)
 replace K := Lib.hid (K.out.keep hb_)
 replace F2 := Lib.hid (F2.out.keep hb_)
 have z5_ := hb_.size
 clear hb_
 have HC := Lib.hid (print_x SM.out F.out (T.out.mono (by omega)) PN.out PR.out)
 unfold hdC at HC
 simp only [Option.getD_some, Option.isSome_some] at HC
 refine K.out.q5 fun pK_0 pK_1 pK_2 pK_3 pK_4 => ?_
 go_wp2_with fail
 clear pK_0 pK_1 pK_2 pK_3 pK_4
 refine (HC.out).mono ?_
 rintro e w4 ⟨rfl, hb⟩
 clear HC
 replace B := Lib.hid (be_call B.out hb)
 replace HG := Lib.hid (HG.out.keep hb)
 replace T := Lib.hid (T.out.keepG (hb.mono (by omega)))
 replace F := Lib.hid (F.out.keep hb)
 replace K := Lib.hid (K.out.keep hb)
 replace F2 := Lib.hid (F2.out.keep hb)
 replace L := Lib.hid (L.out.keep hb)
 have z6_ := hb.size
 clear hb
 have HC := Lib.hid (same_ok SM.out F.out F2.out ((sameX_iff x x).2 rfl))
 unfold hdC at HC
 refine K.out.q5 fun pK_0 pK_1 pK_2 pK_3 pK_4 => ?_
 refine L.out.q5 fun pL_0 pL_1 pL_2 pL_3 pL_4 => ?_
 go_wp2_with fail
 clear pK_0 pK_1 pK_2 pK_3 pK_4 pL_0 pL_1 pL_2 pL_3 pL_4
 refine (HC.out).mono ?_
 rintro e w5 ⟨rfl, hb⟩
 clear HC
 replace B := Lib.hid (be_call B.out hb)
 replace HG := Lib.hid (HG.out.keep hb)
 replace T := Lib.hid (T.out.keepG (hb.mono (by omega)))
 replace F := Lib.hid (F.out.keep hb)
 replace K := Lib.hid (K.out.keep hb)
 replace F2 := Lib.hid (F2.out.keep hb)
 replace L := Lib.hid (L.out.keep hb)
 have z7_ := hb.size
 clear hb
 go_wp2_with fail
 go_ret
 exact ⟨by simp, B.out⟩
set_option maxRecDepth 100000 in
set_option maxHeartbeats 4000000 in
theorem ltwo_D {D : Nat → Prop} {w : World} (op : Int) {x y : Ex} {q q2 : Option Addr} {d d2 : Nat} (hS : FoS D w q d x.args) (hS2 : FoS D w q2 d2 y.args) :
    Calls Tryz.prog 22 #[.int .i64 op, .agg (hdC x q d).toArray, .agg (hdC y q2 d2).toArray] w fun e w' => ∃ q3 d3, e = .returned (.agg (hdC ⟨op, 0, [], [], x.then (y.then .nil)⟩ q3 d3).toArray) ∧ FoS (fun b => D b ∨ mid w w' b) w' q3 d3 (x.then (y.then .nil)) ∧ Below w.heap.size w w' := by
  have F := Lib.hid hS.inHD; have F2 := Lib.hid hS2.inHD
  clear hS hS2
  have B : Hid (Below w.heap.size w w) := be_refl w
  unfold hdC
  go_enter Tryz.func22, Tryz.ntmps22
  go_upto_region 1 with fail
  refine nmW (((w.alloc (.cells #[.int .i64 x.op, .int .i64 x.n, .string ⟨x.unit.toArray⟩, .string ⟨x.name.toArray⟩, .slice q x.args.len d] 24)).alloc (.cells #[.int .i64 y.op, .int .i64 y.n, .string ⟨y.unit.toArray⟩, .string ⟨y.name.toArray⟩, .slice q2 y.args.len d2] 24)).alloc (.cells #[.int .i64 0, .int .i64 0, .string ⟨#[]⟩, .string ⟨#[]⟩, .slice none 0 0] 24)) fun w1 hv => ?_
  rw [← hv]
  have hb_ : Below w.heap.size w w1 := by rw [hv]; exact ((below_alloc _ _).trans ((below_alloc _ _).mono (by simp))).trans ((below_alloc _ _).mono (by simp; omega))
  have K : Hid (Bx w1 w.heap.size 24 #[.int .i64 x.op, .int .i64 x.n, .string ⟨x.unit.toArray⟩, .string ⟨x.name.toArray⟩, .slice q x.args.len d]) := by show Bx _ _ _ _; rw [hv]; exact ((bx1 w _ _).keep (below_alloc _ _)).keep (below_alloc _ _)
  have J : Hid (Bx w1 (w.heap.size + 1) 24 #[.int .i64 y.op, .int .i64 y.n, .string ⟨y.unit.toArray⟩, .string ⟨y.name.toArray⟩, .slice q2 y.args.len d2]) := by show Bx _ _ _ _; rw [hv]; have := (bx1 (w.alloc (.cells #[.int .i64 x.op, .int .i64 x.n, .string ⟨x.unit.toArray⟩, .string ⟨x.name.toArray⟩, .slice q x.args.len d] 24)) 24 #[.int .i64 y.op, .int .i64 y.n, .string ⟨y.unit.toArray⟩, .string ⟨y.name.toArray⟩, .slice q2 y.args.len d2]).keep (below_alloc _ (.cells #[.int .i64 0, .int .i64 0, .string ⟨#[]⟩, .string ⟨#[]⟩, .slice none 0 0] 24)); simpa using this
  have Z : Hid (Bx w1 (w.heap.size + 1 + 1) 24 #[.int .i64 0, .int .i64 0, .string ⟨#[]⟩, .string ⟨#[]⟩, .slice none 0 0]) := by show Bx _ _ _ _; rw [hv]; have := bx1 ((w.alloc (.cells #[.int .i64 x.op, .int .i64 x.n, .string ⟨x.unit.toArray⟩, .string ⟨x.name.toArray⟩, .slice q x.args.len d] 24)).alloc (.cells #[.int .i64 y.op, .int .i64 y.n, .string ⟨y.unit.toArray⟩, .string ⟨y.name.toArray⟩, .slice q2 y.args.len d2] 24)) 24 #[.int .i64 0, .int .i64 0, .string ⟨#[]⟩, .string ⟨#[]⟩, .slice none 0 0]; simpa using this
  clear hv
  replace B := Lib.hid (be_call B.out hb_)
  replace F := Lib.hid (F.out.keep hb_)
  replace F2 := Lib.hid (F2.out.keep hb_)
  have z1_ := hb_.size
  clear hb_
  refine K.out.q5 fun pK_0 pK_1 pK_2 pK_3 pK_4 => ?_
  refine J.out.q5 fun pJ_0 pJ_1 pJ_2 pJ_3 pJ_4 => ?_
  have ka_ : Bx (w1.alloc (.cells #[.int .i64 x.op, .int .i64 x.n, .string ⟨x.unit.toArray⟩, .string ⟨x.name.toArray⟩, .slice q x.args.len d, .int .i64 y.op, .int .i64 y.n, .string ⟨y.unit.toArray⟩, .string ⟨y.name.toArray⟩, .slice q2 y.args.len d2] 24)) (w.heap.size + 1 + 1) 24 #[.int .i64 0, .int .i64 0, .string ⟨#[]⟩, .string ⟨#[]⟩, .slice none 0 0] := Z.out.keep (below_alloc _ _)
  have paZ_0 := ka_.at.1 0
  have qaZ_0 := ka_.at.2 0
  have paZ_1 := ka_.at.1 1
  have qaZ_1 := ka_.at.2 1
  have paZ_2 := ka_.at.1 2
  have qaZ_2 := ka_.at.2 2
  have paZ_3 := ka_.at.1 3
  have qaZ_3 := ka_.at.2 3
  have paZ_4 := ka_.at.1 4
  have qaZ_4 := ka_.at.2 4
  go_wp2_with fail
  clear pK_0 pK_1 pK_2 pK_3 pK_4 pJ_0 pJ_1 pJ_2 pJ_3 pJ_4 ka_ paZ_0 qaZ_0 paZ_1 qaZ_1 paZ_2 qaZ_2 paZ_3 qaZ_3 paZ_4 qaZ_4
  have hz : w.heap.size + 1 + 1 < w1.heap.size := Z.out.lt
  refine nmW (w1.alloc (.cells #[.int .i64 x.op, .int .i64 x.n, .string ⟨x.unit.toArray⟩, .string ⟨x.name.toArray⟩, .slice q x.args.len d, .int .i64 y.op, .int .i64 y.n, .string ⟨y.unit.toArray⟩, .string ⟨y.name.toArray⟩, .slice q2 y.args.len d2] 24)) fun w2 hv => ?_
  rw [← hv]
  have L := bxh hv
  have hb_ := bah hv
  clear hv
  have z2_ := L.out.lt
  replace B := Lib.hid (be_call B.out hb_)
  replace F := Lib.hid (F.out.keep hb_)
  replace F2 := Lib.hid (F2.out.keep hb_)
  replace K := Lib.hid (K.out.keep hb_)
  replace J := Lib.hid (J.out.keep hb_)
  replace Z := Lib.hid (Z.out.keep hb_)
  have z3_ := hb_.size
  clear hb_
  refine nmW (((((w2.setCell ⟨w.heap.size + 1 + 1, 0, none⟩ (.int .i64 op)).setCell ⟨w.heap.size + 1 + 1, 1, none⟩ (.int .i64 0)).setCell ⟨w.heap.size + 1 + 1, 2, none⟩ (.string ⟨#[]⟩)).setCell ⟨w.heap.size + 1 + 1, 3, none⟩ (.string ⟨#[]⟩)).setCell ⟨w.heap.size + 1 + 1, 4, none⟩ (.slice (some ⟨w1.heap.size, 0, none⟩) 2 2)) fun w3 hv => ?_
  rw [← hv]
  have og_ : w2.grownBy w3 (some (w.heap.size + 1 + 1)) := by rw [hv]; exact gs5
  have kb_ : Bx w3 (w.heap.size + 1 + 1) 24 #[.int .i64 op, .int .i64 0, .string ⟨#[]⟩, .string ⟨#[]⟩, .slice (some ⟨w1.heap.size, 0, none⟩) 2 2] := by rw [hv]; exact (((((Z.out.set 0 _).set 1 _).set 2 _).set 3 _).set 4 _)
  clear hv
  replace B := Lib.hid (B.out.trans (gr_to og_ (by omega) B.out.size))
  replace F := Lib.hid (F.out.grown og_ (fun hd => by have := hd.1; have := hd.2; omega))
  replace F2 := Lib.hid (F2.out.grown og_ (fun hd => by have := hd.1; have := hd.2; omega))
  replace K := Lib.hid (K.out.only og_ (by omega))
  replace J := Lib.hid (J.out.only og_ (by omega))
  replace Z := Lib.hid kb_
  replace L := Lib.hid (L.out.only og_ (by omega))
  have z4_ := og_.size
  clear og_ kb_
  refine bodyPost_ret (results_box1 rfl _ _ (w.heap.size + 1 + 1) 24 _ _ _ rfl Z.out Tryz.underlying24 rfl (by kernel_rfl)) rfl ?_
  refine ⟨some ⟨w1.heap.size, 0, none⟩, 2, rfl, ?_, B.out⟩
  exact FoS.lit (l := ([⟨x, q, d⟩, ⟨y, q2, d2⟩] : List Hd)) L.out rfl (.inr ⟨by omega, L.out.lt⟩) (fun h hh => by
    simp at hh
    rcases hh with rfl | rfl
    · exact F.out.mono fun _ h => .inl h.2
    · exact F2.out.mono fun _ h => .inl h.2)
theorem ltwo_ok {w : World} (op : Int) {x y : Ex} {q q2 : Option Addr} {d d2 : Nat} (hS : FoT w q d x.args) (hS2 : FoT w q2 d2 y.args) :
  Calls Tryz.prog 22 #[.int .i64 op, .agg (hdC x q d).toArray, .agg (hdC y q2 d2).toArray] w fun e w' => ∃ q3 d3, e = .returned (.agg (hdC ⟨op, 0, [], [], x.then (y.then .nil)⟩ q3 d3).toArray) ∧ FoT w' q3 d3 (x.then (y.then .nil)) ∧ Below w.heap.size w w' := by
 refine (ltwo_D op hS hS2).mono ?_
 rintro e w' ⟨q3, d3, rfl, hf, hb⟩
 exact ⟨q3, d3, rfl, hf.mono fun _ _ => trivial, hb⟩
end Go.Proofs.YtckgmilmhofekaaGreatDoor
namespace Go.Proofs.YtckgmilmhofekaaGreatDoor

def kA : Ex := (⟨8, 0, [], [], (Ex.mk 0 2 [107, 87, 104] [] .nil).then ((Ex.mk 1 0 [] [112, 111, 119, 101, 114] .nil).then .nil)⟩ : Ex)
theorem ka_parse : parseX [50, 32, 34, 107, 87, 104, 34, 32, 42, 32, 112, 111, 119, 101, 114] = (kA, 0, 0) := by kernel_rfl
theorem ka_print : printX kA = some [50, 32, 34, 107, 87, 104, 34, 32, 42, 32, 112, 111, 119, 101, 114] := by kernel_rfl
theorem ka_prn : Prn kA := ⟨of_decide_eq_true (by kernel_rfl), of_decide_eq_true (by kernel_rfl), of_decide_eq_true (by kernel_rfl)⟩
theorem ka_sm : smX kA := smX_of (by decide)
def kB : Ex := (⟨6, 0, [], [], (Ex.mk 10 0 [] [] ((Ex.mk 1 0 [] [97] .nil).then ((Ex.mk 0 3 [] [] .nil).then .nil))).then ((Ex.mk 2 0 [] [103, 114, 105, 100] ((Ex.mk 7 0 [] [] ((Ex.mk 1 0 [] [104, 111, 117, 114] .nil).then ((Ex.mk 0 1 [] [] .nil).then .nil))).then .nil)).then .nil)⟩ : Ex)
theorem kb_parse : parseX [109, 105, 110, 40, 97, 44, 32, 51, 41, 32, 43, 32, 108, 111, 111, 107, 40, 103, 114, 105, 100, 44, 32, 104, 111, 117, 114, 32, 45, 32, 49, 41] = (kB, 0, 0) := by kernel_rfl
theorem kb_print : printX kB = some [109, 105, 110, 32, 40, 32, 97, 32, 44, 32, 51, 32, 41, 32, 43, 32, 108, 111, 111, 107, 32, 40, 32, 103, 114, 105, 100, 32, 44, 32, 104, 111, 117, 114, 32, 45, 32, 49, 32, 41] := by kernel_rfl
theorem kb_prn : Prn kB := ⟨of_decide_eq_true (by kernel_rfl), of_decide_eq_true (by kernel_rfl), of_decide_eq_true (by kernel_rfl)⟩
theorem kb_sm : smX kB := smX_of (by decide)
def kCx : Ex := (⟨3, 0, [], [102], (Ex.mk 1 0 [] [97] .nil).then .nil⟩ : Ex)
theorem kc_parse : parseX [40, 32, 102, 40, 97, 41, 32, 41] = (kCx, 0, 0) := by kernel_rfl
theorem kc_print : printX kCx = some [102, 32, 40, 32, 97, 32, 41] := by kernel_rfl
theorem kc_prn : Prn kCx := ⟨of_decide_eq_true (by kernel_rfl), of_decide_eq_true (by kernel_rfl), of_decide_eq_true (by kernel_rfl)⟩
theorem kc_sm : smX kCx := smX_of (by decide)
def kD : Ex := (⟨5, 0, [], [], (Ex.mk 12 0 [] [] ((Ex.mk 1 0 [] [97] .nil).then ((Ex.mk 1 0 [] [98] .nil).then .nil))).then ((Ex.mk 0 1 [] [] .nil).then ((Ex.mk 0 2 [] [] .nil).then .nil))⟩ : Ex)
theorem kd_parse : parseX [105, 102, 32, 40, 97, 32, 60, 32, 98, 41, 32, 116, 104, 101, 110, 32, 49, 32, 101, 108, 115, 101, 32, 50] = (kD, 0, 0) := by kernel_rfl
theorem kd_print : printX kD = some [105, 102, 32, 40, 32, 97, 32, 60, 32, 98, 32, 41, 32, 116, 104, 101, 110, 32, 49, 32, 101, 108, 115, 101, 32, 50] := by kernel_rfl
theorem kd_prn : Prn kD := ⟨of_decide_eq_true (by kernel_rfl), of_decide_eq_true (by kernel_rfl), of_decide_eq_true (by kernel_rfl)⟩
theorem kd_sm : smX kD := smX_of (by decide)
theorem f0_parse : parseX [49, 32, 43, 32, 50, 32, 43, 32, 51] = (Ex.zero, 6, 12) := by kernel_rfl
theorem f1_parse : parseX [105, 102, 32, 97, 32, 60, 32, 98, 32, 116, 104, 101, 110, 32, 49, 32, 101, 108, 115, 101, 32, 50] = (Ex.zero, 5, 12) := by kernel_rfl
theorem f2_parse : parseX [108, 111, 111, 107] = (Ex.zero, 4, 12) := by kernel_rfl
theorem f3_parse : parseX [116, 111] = (Ex.zero, 0, 12) := by kernel_rfl
theorem f4_parse : parseX [102, 40, 41] = (Ex.zero, 2, 12) := by kernel_rfl
end Go.Proofs.YtckgmilmhofekaaGreatDoor
namespace Go.Proofs.YtckgmilmhofekaaGreatDoor
open Go.RowKit

set_option maxRecDepth 100000 in
set_option maxHeartbeats 4000000 in
theorem sane_ok {w : World} (hsig : SignsIn w) (hT : PowT w.heap.size w) :
    Calls Tryz.prog 4 #[] w fun e w' => e = .returned (.bool true) ∧ Below w.heap.size w w' := by
  have HG := Lib.hid hsig; have T := Lib.hid hT
  have B : Hid (Below w.heap.size w w) := be_refl w
  clear hsig hT
  go_enter Tryz.func4, Tryz.ntmps4
  go_wp2_with fail
  refine (lname_ok [112, 111, 119, 101, 114]).mono ?_
  rintro e w1 ⟨rfl, hb⟩
  replace B := Lib.hid (be_call B.out hb)
  replace HG := Lib.hid (HG.out.keep hb)
  replace T := Lib.hid (T.out.keepG (hb.mono (by omega)))
  have z1_ := hb.size
  clear hb
  go_wp2_with fail
  refine (ltwo_ok 8 (x := (Ex.mk 0 2 [107, 87, 104] [] .nil)) (y := (Ex.mk 1 0 [] [112, 111, 119, 101, 114] .nil)) (q := none) (d := 0) (q2 := none) (d2 := 0) FoS.nil FoS.nil).mono ?_
  rintro e w2 ⟨qa, da, rfl, hf, hb⟩
  replace B := Lib.hid (be_call B.out hb)
  replace HG := Lib.hid (HG.out.keep hb)
  replace T := Lib.hid (T.out.keepG (hb.mono (by omega)))
  have z2_ := hb.size
  clear hb
  have FA := Lib.hid hf; clear hf
  go_wp2_with fail
  refine (lmeans_ok (x := kA) (q := qa) (d := da) ⟨#[50, 32, 34, 107, 87, 104, 34, 32, 42, 32, 112, 111, 119, 101, 114]⟩ (by decide) HG.out (T.out.mono (by omega)) ka_sm FA.out (fun _ => ka_prn) ka_parse (pr := [50, 32, 34, 107, 87, 104, 34, 32, 42, 32, 112, 111, 119, 101, 114]) ka_print).mono ?_
  rintro e w3 ⟨rfl, hb⟩
  replace B := Lib.hid (be_call B.out hb)
  replace HG := Lib.hid (HG.out.keep hb)
  replace T := Lib.hid (T.out.keepG (hb.mono (by omega)))
  replace FA := Lib.hid (FA.out.keep hb)
  have z3_ := hb.size
  clear hb
  go_wp2_with fail
  refine (lname_ok [104, 111, 117, 114]).mono ?_
  rintro e w4 ⟨rfl, hb⟩
  replace B := Lib.hid (be_call B.out hb)
  replace HG := Lib.hid (HG.out.keep hb)
  replace T := Lib.hid (T.out.keepG (hb.mono (by omega)))
  replace FA := Lib.hid (FA.out.keep hb)
  have z4_ := hb.size
  clear hb
  go_wp2_with fail
  refine (lnumber_ok 1).mono ?_
  rintro e w5 ⟨rfl, hb⟩
  replace B := Lib.hid (be_call B.out hb)
  replace HG := Lib.hid (HG.out.keep hb)
  replace T := Lib.hid (T.out.keepG (hb.mono (by omega)))
  replace FA := Lib.hid (FA.out.keep hb)
  have z5_ := hb.size
  clear hb
  go_wp2_with fail
  refine (ltwo_ok 7 (x := (Ex.mk 1 0 [] [104, 111, 117, 114] .nil)) (y := (Ex.mk 0 1 [] [] .nil)) (q := none) (d := 0) (q2 := none) (d2 := 0) FoS.nil FoS.nil).mono ?_
  rintro e w6 ⟨qb, db, rfl, hf, hb⟩
  replace B := Lib.hid (be_call B.out hb)
  replace HG := Lib.hid (HG.out.keep hb)
  replace T := Lib.hid (T.out.keepG (hb.mono (by omega)))
  replace FA := Lib.hid (FA.out.keep hb)
  have z6_ := hb.size
  clear hb
  have FB := Lib.hid hf; clear hf
  unfold hdC
  go_upto_region 3 with fail
  refine nmW ((w6.alloc (.cells #[.int .i64 7, .int .i64 0, .string ⟨#[]⟩, .string ⟨#[]⟩, .slice qb (Fo.len ((Ex.mk 1 0 [] [104, 111, 117, 114] .nil).then ((Ex.mk 0 1 [] [] .nil).then .nil))) db] 24)).alloc (.cells #[.int .i64 2, .int .i64 0, .string ⟨#[]⟩, .string ⟨#[103, 114, 105, 100]⟩, .slice (some ⟨w6.heap.size, 0, none⟩) 1 1] 24)) fun w7 hv => ?_
  rw [← hv]
  have hb_ : Below w6.heap.size w6 w7 := by rw [hv]; exact (below_alloc _ _).trans ((below_alloc _ _).mono (by simp))
  have L : Hid (Bx w7 w6.heap.size 24 #[.int .i64 7, .int .i64 0, .string ⟨#[]⟩, .string ⟨#[]⟩, .slice qb (Fo.len ((Ex.mk 1 0 [] [104, 111, 117, 114] .nil).then ((Ex.mk 0 1 [] [] .nil).then .nil))) db]) := by show Bx _ _ _ _; rw [hv]; exact (bx1 w6 _ _).keep (below_alloc _ _)
  have K : Hid (Bx w7 (w6.heap.size + 1) 24 #[.int .i64 2, .int .i64 0, .string ⟨#[]⟩, .string ⟨#[103, 114, 105, 100]⟩, .slice (some ⟨w6.heap.size, 0, none⟩) 1 1]) := by show Bx _ _ _ _; rw [hv]; have := bx1 (w6.alloc (.cells #[.int .i64 7, .int .i64 0, .string ⟨#[]⟩, .string ⟨#[]⟩, .slice qb (Fo.len ((Ex.mk 1 0 [] [104, 111, 117, 114] .nil).then ((Ex.mk 0 1 [] [] .nil).then .nil))) db] 24)) 24 #[.int .i64 2, .int .i64 0, .string ⟨#[]⟩, .string ⟨#[103, 114, 105, 100]⟩, .slice (some ⟨w6.heap.size, 0, none⟩) 1 1]; simpa using this
  clear hv
  replace B := Lib.hid (be_call B.out hb_)
  replace HG := Lib.hid (HG.out.keep hb_)
  replace T := Lib.hid (T.out.keepG (hb_.mono (by omega)))
  replace FA := Lib.hid (FA.out.keep hb_)
  replace FB := Lib.hid (FB.out.keep hb_)
  have z7_ := hb_.size
  clear hb_
  have FL : Hid (FoT w7 (some ⟨w6.heap.size, 0, none⟩) 1 ((Ex.mk 7 0 [] [] ((Ex.mk 1 0 [] [104, 111, 117, 114] .nil).then ((Ex.mk 0 1 [] [] .nil).then .nil))).then .nil)) := FoS.lit (l := [(⟨(Ex.mk 7 0 [] [] ((Ex.mk 1 0 [] [104, 111, 117, 114] .nil).then ((Ex.mk 0 1 [] [] .nil).then .nil))), qb, db⟩ : Hd)]) L.out rfl trivial (fun h hh => by simp at hh; subst hh; exact FB.out)
  refine nmW w7.drew fun w8 hW => ?_
  have hb_ := bdh hW
  replace B := Lib.hid (be_call B.out hb_)
  replace HG := Lib.hid (HG.out.keep hb_)
  replace T := Lib.hid (T.out.keepG (hb_.mono (by omega)))
  replace FA := Lib.hid (FA.out.keep hb_)
  replace FB := Lib.hid (FB.out.keep hb_)
  replace K := Lib.hid (K.out.keep hb_)
  replace FL := Lib.hid (FL.out.keep hb_)
  have z8_ := hb_.size
  clear hb_
  refine wp_region_held_drew (S := (fun w' => w'.cell? ⟨w6.heap.size + 1, 0, none⟩ = some (.int .i64 2) ∧ w'.cell? ⟨w6.heap.size + 1, 1, none⟩ = some (.int .i64 0) ∧ w'.cell? ⟨w6.heap.size + 1, 2, none⟩ = some (.string ⟨#[]⟩) ∧ w'.cell? ⟨w6.heap.size + 1, 3, none⟩ = some (.string ⟨#[103, 114, 105, 100]⟩) ∧ w'.cell? ⟨w6.heap.size + 1, 4, none⟩ = some (.slice (some ⟨w6.heap.size, 0, none⟩) 1 1))) (by kernel_rfl) (by rw [← hW]; exact K.out.d5) (fun hH => ?_)
  rw [← hW] at hH ⊢
  clear hW
  refine tk at3 (v := .agg #[.int .i64 2, .int .i64 0, .string ⟨#[]⟩, .string ⟨#[103, 114, 105, 100]⟩, .slice (some ⟨w6.heap.size, 0, none⟩) 1 1]) ?_
  refine wpAnyH_ready (rs := [0]) (by kernel_rfl) (by simp) ?_
  refine AllReadyH.cons at0 (fun K_ hK => ?_) AllReadyH.nil
  go_simp
  refine (lname_ok [97]).mono ?_
  rintro e w9 ⟨rfl, hb⟩
  replace B := Lib.hid (be_call B.out hb)
  replace HG := Lib.hid (HG.out.keep hb)
  replace T := Lib.hid (T.out.keepG (hb.mono (by omega)))
  replace FA := Lib.hid (FA.out.keep hb)
  replace FB := Lib.hid (FB.out.keep hb)
  replace K := Lib.hid (K.out.keep hb)
  replace FL := Lib.hid (FL.out.keep hb)
  have z9_ := hb.size
  clear hb
  (try go_wp2_with fail)
  refine hK.out _ _ (K.out.d5) (fun hH2 => ?_)
  clear hK K_ hH
  have hH := hH2; clear hH2
  (try simp only [Act.put, kS, kZ, kC])
  refine wpAnyH_ready (rs := [1]) (by kernel_rfl) (by simp) ?_
  refine AllReadyH.cons at1 (fun K_ hK => ?_) AllReadyH.nil
  go_simp
  refine (lnumber_ok 3).mono ?_
  rintro e w10 ⟨rfl, hb⟩
  replace B := Lib.hid (be_call B.out hb)
  replace HG := Lib.hid (HG.out.keep hb)
  replace T := Lib.hid (T.out.keepG (hb.mono (by omega)))
  replace FA := Lib.hid (FA.out.keep hb)
  replace FB := Lib.hid (FB.out.keep hb)
  replace K := Lib.hid (K.out.keep hb)
  replace FL := Lib.hid (FL.out.keep hb)
  have z10_ := hb.size
  clear hb
  (try go_wp2_with fail)
  refine hK.out _ _ (K.out.d5) (fun hH2 => ?_)
  clear hK K_ hH
  have hH := hH2; clear hH2
  (try simp only [Act.put, kS, kZ, kC])
  refine wpAnyH_ready (rs := [2]) (by kernel_rfl) (by simp) ?_
  refine AllReadyH.cons at2 (fun K_ hK => ?_) AllReadyH.nil
  go_simp
  refine (ltwo_ok 10 (x := (Ex.mk 1 0 [] [97] .nil)) (y := (Ex.mk 0 3 [] [] .nil)) (q := none) (d := 0) (q2 := none) (d2 := 0) FoS.nil FoS.nil).mono ?_
  rintro e w11 ⟨qc, dc, rfl, hf, hb⟩
  replace B := Lib.hid (be_call B.out hb)
  replace HG := Lib.hid (HG.out.keep hb)
  replace T := Lib.hid (T.out.keepG (hb.mono (by omega)))
  replace FA := Lib.hid (FA.out.keep hb)
  replace FB := Lib.hid (FB.out.keep hb)
  replace K := Lib.hid (K.out.keep hb)
  replace FL := Lib.hid (FL.out.keep hb)
  have z11_ := hb.size
  clear hb
  have FC := Lib.hid hf; clear hf
  (try go_wp2_with fail)
  refine hK.out _ _ (K.out.d5) (fun hH2 => ?_)
  clear hK K_ hH
  have hH := hH2; clear hH2
  (try simp only [Act.put, kS, kZ, kC])
  refine wpAnyH_ready (rs := [4]) (by kernel_rfl) (by simp) ?_
  refine AllReadyH.cons at4 (fun K_ hK => ?_) AllReadyH.nil
  go_simp
  refine (ltwo_ok 6 (x := (Ex.mk 10 0 [] [] ((Ex.mk 1 0 [] [97] .nil).then ((Ex.mk 0 3 [] [] .nil).then .nil)))) (y := (Ex.mk 2 0 [] [103, 114, 105, 100] ((Ex.mk 7 0 [] [] ((Ex.mk 1 0 [] [104, 111, 117, 114] .nil).then ((Ex.mk 0 1 [] [] .nil).then .nil))).then .nil))) (q := qc) (d := dc) (q2 := (some ⟨w6.heap.size, 0, none⟩)) (d2 := 1) FC.out FL.out).mono ?_
  rintro e w12 ⟨qe, de, rfl, hf, hb⟩
  replace B := Lib.hid (be_call B.out hb)
  replace HG := Lib.hid (HG.out.keep hb)
  replace T := Lib.hid (T.out.keepG (hb.mono (by omega)))
  replace FA := Lib.hid (FA.out.keep hb)
  replace FB := Lib.hid (FB.out.keep hb)
  replace K := Lib.hid (K.out.keep hb)
  replace FL := Lib.hid (FL.out.keep hb)
  replace FC := Lib.hid (FC.out.keep hb)
  have z12_ := hb.size
  clear hb
  have FE := Lib.hid hf; clear hf
  (try go_wp2_with fail)
  refine hK.out _ _ (K.out.d5) (fun hH2 => ?_)
  clear hK K_ hH
  have hH := hH2; clear hH2
  (try simp only [Act.put, kS, kZ, kC])
  refine wpAnyH_ready (rs := [5]) (by kernel_rfl) (by simp) ?_
  refine AllReadyH.cons at5 (fun K_ hK => ?_) AllReadyH.nil
  go_simp
  refine (lmeans_ok (x := kB) (q := qe) (d := de) ⟨#[109, 105, 110, 40, 97, 44, 32, 51, 41, 32, 43, 32, 108, 111, 111, 107, 40, 103, 114, 105, 100, 44, 32, 104, 111, 117, 114, 32, 45, 32, 49, 41]⟩ (by decide) HG.out (T.out.mono (by omega)) kb_sm FE.out (fun _ => kb_prn) kb_parse (pr := [109, 105, 110, 32, 40, 32, 97, 32, 44, 32, 51, 32, 41, 32, 43, 32, 108, 111, 111, 107, 32, 40, 32, 103, 114, 105, 100, 32, 44, 32, 104, 111, 117, 114, 32, 45, 32, 49, 32, 41]) kb_print).mono ?_
  rintro e w13 ⟨rfl, hb⟩
  replace B := Lib.hid (be_call B.out hb)
  replace HG := Lib.hid (HG.out.keep hb)
  replace T := Lib.hid (T.out.keepG (hb.mono (by omega)))
  replace FA := Lib.hid (FA.out.keep hb)
  replace FB := Lib.hid (FB.out.keep hb)
  replace K := Lib.hid (K.out.keep hb)
  replace FL := Lib.hid (FL.out.keep hb)
  replace FC := Lib.hid (FC.out.keep hb)
  replace FE := Lib.hid (FE.out.keep hb)
  have z13_ := hb.size
  clear hb
  (try go_wp2_with fail)
  refine hK.out _ _ (K.out.d5) (fun hH2 => ?_)
  clear hK K_ hH
  have hH := hH2; clear hH2
  (try simp only [Act.put, kS, kZ, kC])
  refine tk at6 ?_
  refine wpAnyH_done (by kernel_rfl) ?_ _
  clear hH
  go_wp2_with fail
  refine (lname_ok [97]).mono ?_
  rintro e w14 ⟨rfl, hb⟩
  replace B := Lib.hid (be_call B.out hb)
  replace HG := Lib.hid (HG.out.keep hb)
  replace T := Lib.hid (T.out.keepG (hb.mono (by omega)))
  replace FA := Lib.hid (FA.out.keep hb)
  replace FB := Lib.hid (FB.out.keep hb)
  replace K := Lib.hid (K.out.keep hb)
  replace FL := Lib.hid (FL.out.keep hb)
  replace FC := Lib.hid (FC.out.keep hb)
  replace FE := Lib.hid (FE.out.keep hb)
  have z14_ := hb.size
  clear hb
  unfold hdC
  go_wp2_with fail
  refine nmW (w14.alloc (.cells #[.int .i64 1, .int .i64 0, .string ⟨#[]⟩, .string ⟨#[97]⟩, .slice none (Fo.len .nil) 0] 24)) fun w15 hv => ?_
  rw [← hv]
  have hl_ : Bx w15 w14.heap.size 24 #[.int .i64 1, .int .i64 0, .string ⟨#[]⟩, .string ⟨#[97]⟩, .slice none (Fo.len .nil) 0] := by rw [hv]; exact bx1 _ _ _
  have hb_ := bah hv
  clear hv
  replace B := Lib.hid (be_call B.out hb_)
  replace HG := Lib.hid (HG.out.keep hb_)
  replace T := Lib.hid (T.out.keepG (hb_.mono (by omega)))
  replace FA := Lib.hid (FA.out.keep hb_)
  replace FB := Lib.hid (FB.out.keep hb_)
  replace K := Lib.hid (K.out.keep hb_)
  replace FL := Lib.hid (FL.out.keep hb_)
  replace FC := Lib.hid (FC.out.keep hb_)
  replace FE := Lib.hid (FE.out.keep hb_)
  have z15_ := hb_.size
  clear hb_
  have FG : Hid (FoT w15 (some ⟨w14.heap.size, 0, none⟩) 1 ((Ex.mk 1 0 [] [97] .nil).then .nil)) := FoS.lit (l := [(⟨(Ex.mk 1 0 [] [97] .nil), none, 0⟩ : Hd)]) hl_ rfl trivial (fun h hh => by
    simp at hh
    rcases hh with rfl
    · exact FoS.nil)
  clear hl_
  refine (lmeans_ok (x := kCx) (q := (some ⟨w14.heap.size, 0, none⟩)) (d := 1) ⟨#[40, 32, 102, 40, 97, 41, 32, 41]⟩ (by decide) HG.out (T.out.mono (by omega)) kc_sm FG.out (fun _ => kc_prn) kc_parse (pr := [102, 32, 40, 32, 97, 32, 41]) kc_print).mono ?_
  rintro e w16 ⟨rfl, hb⟩
  replace B := Lib.hid (be_call B.out hb)
  replace HG := Lib.hid (HG.out.keep hb)
  replace T := Lib.hid (T.out.keepG (hb.mono (by omega)))
  replace FA := Lib.hid (FA.out.keep hb)
  replace FB := Lib.hid (FB.out.keep hb)
  replace K := Lib.hid (K.out.keep hb)
  replace FL := Lib.hid (FL.out.keep hb)
  replace FC := Lib.hid (FC.out.keep hb)
  replace FE := Lib.hid (FE.out.keep hb)
  replace FG := Lib.hid (FG.out.keep hb)
  have z16_ := hb.size
  clear hb
  go_wp2_with fail
  refine (lname_ok [97]).mono ?_
  rintro e w17 ⟨rfl, hb⟩
  replace B := Lib.hid (be_call B.out hb)
  replace HG := Lib.hid (HG.out.keep hb)
  replace T := Lib.hid (T.out.keepG (hb.mono (by omega)))
  replace FA := Lib.hid (FA.out.keep hb)
  replace FB := Lib.hid (FB.out.keep hb)
  replace K := Lib.hid (K.out.keep hb)
  replace FL := Lib.hid (FL.out.keep hb)
  replace FC := Lib.hid (FC.out.keep hb)
  replace FE := Lib.hid (FE.out.keep hb)
  replace FG := Lib.hid (FG.out.keep hb)
  have z17_ := hb.size
  clear hb
  go_wp2_with fail
  refine (lname_ok [98]).mono ?_
  rintro e w18 ⟨rfl, hb⟩
  replace B := Lib.hid (be_call B.out hb)
  replace HG := Lib.hid (HG.out.keep hb)
  replace T := Lib.hid (T.out.keepG (hb.mono (by omega)))
  replace FA := Lib.hid (FA.out.keep hb)
  replace FB := Lib.hid (FB.out.keep hb)
  replace K := Lib.hid (K.out.keep hb)
  replace FL := Lib.hid (FL.out.keep hb)
  replace FC := Lib.hid (FC.out.keep hb)
  replace FE := Lib.hid (FE.out.keep hb)
  replace FG := Lib.hid (FG.out.keep hb)
  have z18_ := hb.size
  clear hb
  go_wp2_with fail
  refine (ltwo_ok 12 (x := (Ex.mk 1 0 [] [97] .nil)) (y := (Ex.mk 1 0 [] [98] .nil)) (q := none) (d := 0) (q2 := none) (d2 := 0) FoS.nil FoS.nil).mono ?_
  rintro e w19 ⟨qh, dh, rfl, hf, hb⟩
  replace B := Lib.hid (be_call B.out hb)
  replace HG := Lib.hid (HG.out.keep hb)
  replace T := Lib.hid (T.out.keepG (hb.mono (by omega)))
  replace FA := Lib.hid (FA.out.keep hb)
  replace FB := Lib.hid (FB.out.keep hb)
  replace K := Lib.hid (K.out.keep hb)
  replace FL := Lib.hid (FL.out.keep hb)
  replace FC := Lib.hid (FC.out.keep hb)
  replace FE := Lib.hid (FE.out.keep hb)
  replace FG := Lib.hid (FG.out.keep hb)
  have z19_ := hb.size
  clear hb
  have FH := Lib.hid hf; clear hf
  go_wp2_with fail
  refine (lnumber_ok 1).mono ?_
  rintro e w20 ⟨rfl, hb⟩
  replace B := Lib.hid (be_call B.out hb)
  replace HG := Lib.hid (HG.out.keep hb)
  replace T := Lib.hid (T.out.keepG (hb.mono (by omega)))
  replace FA := Lib.hid (FA.out.keep hb)
  replace FB := Lib.hid (FB.out.keep hb)
  replace K := Lib.hid (K.out.keep hb)
  replace FL := Lib.hid (FL.out.keep hb)
  replace FC := Lib.hid (FC.out.keep hb)
  replace FE := Lib.hid (FE.out.keep hb)
  replace FG := Lib.hid (FG.out.keep hb)
  replace FH := Lib.hid (FH.out.keep hb)
  have z20_ := hb.size
  clear hb
  go_wp2_with fail
  refine (lnumber_ok 2).mono ?_
  rintro e w21 ⟨rfl, hb⟩
  replace B := Lib.hid (be_call B.out hb)
  replace HG := Lib.hid (HG.out.keep hb)
  replace T := Lib.hid (T.out.keepG (hb.mono (by omega)))
  replace FA := Lib.hid (FA.out.keep hb)
  replace FB := Lib.hid (FB.out.keep hb)
  replace K := Lib.hid (K.out.keep hb)
  replace FL := Lib.hid (FL.out.keep hb)
  replace FC := Lib.hid (FC.out.keep hb)
  replace FE := Lib.hid (FE.out.keep hb)
  replace FG := Lib.hid (FG.out.keep hb)
  replace FH := Lib.hid (FH.out.keep hb)
  have z21_ := hb.size
  clear hb
  unfold hdC
  go_wp2_with fail
  refine nmW (w21.alloc (.cells #[.int .i64 12, .int .i64 0, .string ⟨#[]⟩, .string ⟨#[]⟩, .slice qh (Fo.len ((Ex.mk 1 0 [] [97] .nil).then ((Ex.mk 1 0 [] [98] .nil).then .nil))) dh, .int .i64 0, .int .i64 1, .string ⟨#[]⟩, .string ⟨#[]⟩, .slice none (Fo.len .nil) 0, .int .i64 0, .int .i64 2, .string ⟨#[]⟩, .string ⟨#[]⟩, .slice none (Fo.len .nil) 0] 24)) fun w22 hv => ?_
  rw [← hv]
  have hl_ : Bx w22 w21.heap.size 24 #[.int .i64 12, .int .i64 0, .string ⟨#[]⟩, .string ⟨#[]⟩, .slice qh (Fo.len ((Ex.mk 1 0 [] [97] .nil).then ((Ex.mk 1 0 [] [98] .nil).then .nil))) dh, .int .i64 0, .int .i64 1, .string ⟨#[]⟩, .string ⟨#[]⟩, .slice none (Fo.len .nil) 0, .int .i64 0, .int .i64 2, .string ⟨#[]⟩, .string ⟨#[]⟩, .slice none (Fo.len .nil) 0] := by rw [hv]; exact bx1 _ _ _
  have hb_ := bah hv
  clear hv
  replace B := Lib.hid (be_call B.out hb_)
  replace HG := Lib.hid (HG.out.keep hb_)
  replace T := Lib.hid (T.out.keepG (hb_.mono (by omega)))
  replace FA := Lib.hid (FA.out.keep hb_)
  replace FB := Lib.hid (FB.out.keep hb_)
  replace K := Lib.hid (K.out.keep hb_)
  replace FL := Lib.hid (FL.out.keep hb_)
  replace FC := Lib.hid (FC.out.keep hb_)
  replace FE := Lib.hid (FE.out.keep hb_)
  replace FG := Lib.hid (FG.out.keep hb_)
  replace FH := Lib.hid (FH.out.keep hb_)
  have z22_ := hb_.size
  clear hb_
  have FI : Hid (FoT w22 (some ⟨w21.heap.size, 0, none⟩) 3 ((Ex.mk 12 0 [] [] ((Ex.mk 1 0 [] [97] .nil).then ((Ex.mk 1 0 [] [98] .nil).then .nil))).then ((Ex.mk 0 1 [] [] .nil).then ((Ex.mk 0 2 [] [] .nil).then .nil)))) := FoS.lit (l := [(⟨(Ex.mk 12 0 [] [] ((Ex.mk 1 0 [] [97] .nil).then ((Ex.mk 1 0 [] [98] .nil).then .nil))), qh, dh⟩ : Hd), (⟨(Ex.mk 0 1 [] [] .nil), none, 0⟩ : Hd), (⟨(Ex.mk 0 2 [] [] .nil), none, 0⟩ : Hd)]) hl_ rfl trivial (fun h hh => by
    simp at hh
    rcases hh with rfl | rfl | rfl
    · exact FH.out
    · exact FoS.nil
    · exact FoS.nil)
  clear hl_
  refine (lmeans_ok (x := kD) (q := (some ⟨w21.heap.size, 0, none⟩)) (d := 3) ⟨#[105, 102, 32, 40, 97, 32, 60, 32, 98, 41, 32, 116, 104, 101, 110, 32, 49, 32, 101, 108, 115, 101, 32, 50]⟩ (by decide) HG.out (T.out.mono (by omega)) kd_sm FI.out (fun _ => kd_prn) kd_parse (pr := [105, 102, 32, 40, 32, 97, 32, 60, 32, 98, 32, 41, 32, 116, 104, 101, 110, 32, 49, 32, 101, 108, 115, 101, 32, 50]) kd_print).mono ?_
  rintro e w23 ⟨rfl, hb⟩
  replace B := Lib.hid (be_call B.out hb)
  replace HG := Lib.hid (HG.out.keep hb)
  replace T := Lib.hid (T.out.keepG (hb.mono (by omega)))
  replace FA := Lib.hid (FA.out.keep hb)
  replace FB := Lib.hid (FB.out.keep hb)
  replace K := Lib.hid (K.out.keep hb)
  replace FL := Lib.hid (FL.out.keep hb)
  replace FC := Lib.hid (FC.out.keep hb)
  replace FE := Lib.hid (FE.out.keep hb)
  replace FG := Lib.hid (FG.out.keep hb)
  replace FH := Lib.hid (FH.out.keep hb)
  replace FI := Lib.hid (FI.out.keep hb)
  have z23_ := hb.size
  clear hb
  go_wp2_with fail
  refine (lfails_ok ⟨#[49, 32, 43, 32, 50, 32, 43, 32, 51]⟩ (by decide) HG.out f0_parse (pi := 6) rfl).mono ?_
  rintro e w24 ⟨rfl, hb⟩
  replace B := Lib.hid (be_call B.out hb)
  replace HG := Lib.hid (HG.out.keep hb)
  replace T := Lib.hid (T.out.keepG (hb.mono (by omega)))
  replace FA := Lib.hid (FA.out.keep hb)
  replace FB := Lib.hid (FB.out.keep hb)
  replace K := Lib.hid (K.out.keep hb)
  replace FL := Lib.hid (FL.out.keep hb)
  replace FC := Lib.hid (FC.out.keep hb)
  replace FE := Lib.hid (FE.out.keep hb)
  replace FG := Lib.hid (FG.out.keep hb)
  replace FH := Lib.hid (FH.out.keep hb)
  replace FI := Lib.hid (FI.out.keep hb)
  have z24_ := hb.size
  clear hb
  go_wp2_with fail
  refine (lfails_ok ⟨#[105, 102, 32, 97, 32, 60, 32, 98, 32, 116, 104, 101, 110, 32, 49, 32, 101, 108, 115, 101, 32, 50]⟩ (by decide) HG.out f1_parse (pi := 5) rfl).mono ?_
  rintro e w25 ⟨rfl, hb⟩
  replace B := Lib.hid (be_call B.out hb)
  replace HG := Lib.hid (HG.out.keep hb)
  replace T := Lib.hid (T.out.keepG (hb.mono (by omega)))
  replace FA := Lib.hid (FA.out.keep hb)
  replace FB := Lib.hid (FB.out.keep hb)
  replace K := Lib.hid (K.out.keep hb)
  replace FL := Lib.hid (FL.out.keep hb)
  replace FC := Lib.hid (FC.out.keep hb)
  replace FE := Lib.hid (FE.out.keep hb)
  replace FG := Lib.hid (FG.out.keep hb)
  replace FH := Lib.hid (FH.out.keep hb)
  replace FI := Lib.hid (FI.out.keep hb)
  have z25_ := hb.size
  clear hb
  go_wp2_with fail
  refine (lfails_ok ⟨#[108, 111, 111, 107]⟩ (by decide) HG.out f2_parse (pi := 4) rfl).mono ?_
  rintro e w26 ⟨rfl, hb⟩
  replace B := Lib.hid (be_call B.out hb)
  replace HG := Lib.hid (HG.out.keep hb)
  replace T := Lib.hid (T.out.keepG (hb.mono (by omega)))
  replace FA := Lib.hid (FA.out.keep hb)
  replace FB := Lib.hid (FB.out.keep hb)
  replace K := Lib.hid (K.out.keep hb)
  replace FL := Lib.hid (FL.out.keep hb)
  replace FC := Lib.hid (FC.out.keep hb)
  replace FE := Lib.hid (FE.out.keep hb)
  replace FG := Lib.hid (FG.out.keep hb)
  replace FH := Lib.hid (FH.out.keep hb)
  replace FI := Lib.hid (FI.out.keep hb)
  have z26_ := hb.size
  clear hb
  go_wp2_with fail
  refine (lfails_ok ⟨#[116, 111]⟩ (by decide) HG.out f3_parse (pi := 0) rfl).mono ?_
  rintro e w27 ⟨rfl, hb⟩
  replace B := Lib.hid (be_call B.out hb)
  replace HG := Lib.hid (HG.out.keep hb)
  replace T := Lib.hid (T.out.keepG (hb.mono (by omega)))
  replace FA := Lib.hid (FA.out.keep hb)
  replace FB := Lib.hid (FB.out.keep hb)
  replace K := Lib.hid (K.out.keep hb)
  replace FL := Lib.hid (FL.out.keep hb)
  replace FC := Lib.hid (FC.out.keep hb)
  replace FE := Lib.hid (FE.out.keep hb)
  replace FG := Lib.hid (FG.out.keep hb)
  replace FH := Lib.hid (FH.out.keep hb)
  replace FI := Lib.hid (FI.out.keep hb)
  have z27_ := hb.size
  clear hb
  go_wp2_with fail
  refine (lfails_ok ⟨#[102, 40, 41]⟩ (by decide) HG.out f4_parse (pi := 2) rfl).mono ?_
  rintro e w28 ⟨rfl, hb⟩
  replace B := Lib.hid (be_call B.out hb)
  replace HG := Lib.hid (HG.out.keep hb)
  replace T := Lib.hid (T.out.keepG (hb.mono (by omega)))
  replace FA := Lib.hid (FA.out.keep hb)
  replace FB := Lib.hid (FB.out.keep hb)
  replace K := Lib.hid (K.out.keep hb)
  replace FL := Lib.hid (FL.out.keep hb)
  replace FC := Lib.hid (FC.out.keep hb)
  replace FE := Lib.hid (FE.out.keep hb)
  replace FG := Lib.hid (FG.out.keep hb)
  replace FH := Lib.hid (FH.out.keep hb)
  replace FI := Lib.hid (FI.out.keep hb)
  have z28_ := hb.size
  clear hb
  go_wp2_with fail
  refine (word_ok ⟨#[105, 110, 116, 111]⟩ (b_ := true) (by rw [Lib.toList_data]; rfl)).mono ?_
  rintro e w28 ⟨rfl, rfl⟩
  go_wp2_with fail
  refine (word_ok ⟨#[115, 104, 101, 101, 116]⟩ (b_ := false) (by rw [Lib.toList_data]; rfl)).mono ?_
  rintro e w28 ⟨rfl, rfl⟩
  go_wp2_with fail
  go_ret
  exact ⟨rfl, B.out⟩
end Go.Proofs.YtckgmilmhofekaaGreatDoor
namespace Go.Proofs.YtckgmilmhofekaaGreatDoor

theorem nodesF_then (x : Ex) (r : Fo) : nodesF (x.then r) = 1 + nodesF x.args + nodesF r := rfl
theorem depF_then (x : Ex) (r : Fo) : depF (x.then r) = max (1 + depF x.args) (depF r) := rfl
theorem cntF_is : ∀ (f : Fo) (k lv : Nat), k ≤ 200 → lv ≤ 21 → cntF f k lv = if k + nodesF f ≤ 200 ∧ depF f + lv ≤ 21 then some (k + nodesF f) else none
  | .nil, k, lv, hk, hl => by
    rw [cntF_nil, if_pos ⟨hk, by show 0 + lv ≤ 21; omega⟩]; rfl
  | .cons op n u m a r, k, lv, hk, hl => by
    have h : cntF (.cons op n u m a r) k lv = if 200 < k + 1 ∨ 20 < lv then none else match cntF a (k + 1) (lv + 1) with | none => none | some k' => cntF r k' lv := rfl
    have e1 : nodesF (.cons op n u m a r) = 1 + nodesF a + nodesF r := rfl
    have e2 : depF (.cons op n u m a r) = max (1 + depF a) (depF r) := rfl
    rw [h, e1, e2]
    by_cases h1 : 200 < k + 1 ∨ 20 < lv
    · rw [if_pos h1, if_neg (by omega)]
    rw [if_neg h1, cntF_is a (k + 1) (lv + 1) (by omega) (by omega)]
    by_cases h2 : k + 1 + nodesF a ≤ 200 ∧ depF a + (lv + 1) ≤ 21
    · rw [if_pos h2]
      show cntF r (k + 1 + nodesF a) lv = _
      rw [cntF_is r _ lv (by omega) hl]
      by_cases h3 : k + 1 + nodesF a + nodesF r ≤ 200 ∧ depF r + lv ≤ 21
      · rw [if_pos h3, if_pos (by omega)]; congr 1; omega
      · rw [if_neg h3, if_neg (by omega)]
    · rw [if_neg h2]
      show none = _
      rw [if_neg (by omega)]
theorem szF_is : ∀ (f : Fo) (b lv : Nat), szF f b lv = if nodesF f ≤ b ∧ depF f ≤ lv then some (nodesF f) else none
  | .nil, b, lv => by
    show some 0 = _
    rw [if_pos ⟨Nat.zero_le _, Nat.zero_le _⟩]; rfl
  | .cons op n u m a r, b, lv => by
    have h : szF (.cons op n u m a r) b lv = if b < 1 ∨ lv < 1 then none else match szF a (b - 1) (lv - 1) with | none => none | some m => match szF r (b - (1 + m)) lv with | none => none | some m' => some (1 + m + m') := rfl
    have e1 : nodesF (.cons op n u m a r) = 1 + nodesF a + nodesF r := rfl
    have e2 : depF (.cons op n u m a r) = max (1 + depF a) (depF r) := rfl
    rw [h, e1, e2]
    by_cases h1 : b < 1 ∨ lv < 1
    · rw [if_pos h1, if_neg (by omega)]
    rw [if_neg h1, szF_is a (b - 1) (lv - 1)]
    by_cases h2 : nodesF a ≤ b - 1 ∧ depF a ≤ lv - 1
    · rw [if_pos h2]
      show (match szF r (b - (1 + nodesF a)) lv with | none => none | some m' => some (1 + nodesF a + m')) = _
      rw [szF_is r _ lv]
      by_cases h3 : nodesF r ≤ b - (1 + nodesF a) ∧ depF r ≤ lv
      · rw [if_pos h3, if_pos (by omega)]
      · rw [if_neg h3, if_neg (by omega)]
    · rw [if_neg h2]
      show none = _
      rw [if_neg (by omega)]
theorem rightX_iff (x : Ex) : rightX x = true ↔ (1 + nodesF x.args ≤ 200 ∧ 1 + depF x.args ≤ 20) ∧ shF (x.then .nil) = true := by
  unfold rightX
  rw [cntF_is _ 0 1 (by omega) (by omega), nodesF_then, depF_then, Bool.and_eq_true]
  have e1 : nodesF .nil = 0 := rfl
  have e2 : depF .nil = 0 := rfl
  rw [e1, e2]
  refine and_congr ?_ Iff.rfl
  by_cases h : 0 + (1 + nodesF x.args + 0) ≤ 200 ∧ max (1 + depF x.args) 0 + 1 ≤ 21
  · rw [if_pos h]; exact ⟨fun _ => by omega, fun _ => rfl⟩
  · rw [if_neg h]; exact ⟨fun hq => (by cases hq), fun h2 => absurd (by omega) h⟩
theorem fewX_iff (x : Ex) (b lv : Nat) : (szF (x.then .nil) b lv).isSome = true ↔ 1 + nodesF x.args ≤ b ∧ 1 + depF x.args ≤ lv := by
  rw [szF_is, nodesF_then, depF_then]
  have e1 : nodesF .nil = 0 := rfl
  have e2 : depF .nil = 0 := rfl
  rw [e1, e2]
  by_cases h : 1 + nodesF x.args + 0 ≤ b ∧ max (1 + depF x.args) 0 ≤ lv
  · rw [if_pos h]; exact ⟨fun _ => by omega, fun _ => rfl⟩
  · rw [if_neg h]; exact ⟨fun hq => (by cases hq), fun h2 => absurd (by omega) h⟩
theorem right_nodes {x : Ex} (h : rightX x = true) : 1 + nodesF x.args ≤ 200 := ((rightX_iff x).1 h).1.1
theorem right_few {x : Ex} (h : rightX x = true) {b lv : Nat} (hb : 200 ≤ b) (hl : 20 ≤ lv) : (szF (x.then .nil) b lv).isSome = true := by
 rw [fewX_iff]; have := (rightX_iff x).1 h; omega
end Go.Proofs.YtckgmilmhofekaaGreatDoor
