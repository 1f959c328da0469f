/- The walk of SpanTells: whatever the arguments, it returns true. -/
import Derived.Test.YtjbfngjlepafgaaGreatBase
import Derived.Test.YtjbfngjlepafgaaGreatBigSpec
import Derived.Test.YtjbfngjlepafgaaGreatBigB
import Derived.Test.YtjbfngjlepafgaaGreatBigC
import Derived.Test.YtjbfngjlepafgaaGreatBigD
import Derived.Test.YtjbfngjlepafgaaGreatBigQ
import Derived.Test.YtjbfngjlepafgaaGreatFracA
import Derived.Test.YtjbfngjlepafgaaGreatRefE
import Derived.Test.YtjbfngjlepafgaaGreatFz
import Derived.Test.YtjbfngjlepafgaaGreatHeld
import Derived.Test.YtjbfngjlepafgaaGreatAw
import Derived.Test.YtjbfngjlepafgaaGreatRefO
import Derived.Test.YtjbfngjlepafgaaGreatFq
import Derived.Test.YtjbfngjlepafgaaGreatSpanPlain
import Derived.Test.YtjbfngjlepafgaaGreatRefY
import Derived.Test.YtjbfngjlepafgaaGreatOwn
import Derived.Test.YtjbfngjlepafgaaGreatRefSpA
import Derived.Test.YtjbfngjlepafgaaGreatRefSpC
import Derived.Test.YtjbfngjlepafgaaGreatReA
import Derived.Test.YtjbfngjlepafgaaGreatSpanN
import Derived.Test.YtjbfngjlepafgaaGreatRefSpD
import Derived.Test.YtjbfngjlepafgaaGreatSpanO
import Derived.Test.YtjbfngjlepafgaaGreatSpanI
import Derived.Test.YtjbfngjlepafgaaGreatSameRaw
import Derived.Test.YtjbfngjlepafgaaGreatProg
import Derived.Test.YtjbfngjlepafgaaGreatShelf
import Derived.WalkKit
import Derived.WalkSpells
import Derived.WalkLawsBesides
import Derived.Handy
import Derived.Lib.Hide
import Derived.Lib.Strings
import Derived.Lib.Builder
import Derived.BigQuiet
import Derived.OwnWalk
import Derived.Laws.BitsLemmas
import Derived.WalkSmall
import Derived.Deep.QuietTactic
import Derived.StillTailTactics
import Derived.Maps.AppendAt
import Derived.IntWalk
import Derived.Deep.RegionHeld3
import Derived.Deep.DeepFit
import Derived.Deep.LoopGhost
import Derived.Deep.DeepCutAuto
import Derived.Lib.ItoaNum
import Derived.Lib.Repeat
import Derived.Lib.AppendIntMem
import Derived.Sort.OwnSorted
import Derived.Shelf.Strings.SlTrimAscii
import Derived.Lib.ConvBytes
import Derived.Lib.CutLaws
import Derived.Maps.Own
import Derived.Maps.Views
import Derived.Maps.OwnOps
import Derived.RangeFuncNested
import Derived.RangeFuncBound
import Derived.RangeFuncCalls
import Derived.RangeFuncLeaves
import Derived.Shelf.Abstract
import Derived.Shelf.RegionOpen
import Derived.OwnWalkIn
import Derived.TacticsInMore
import Derived.LoopNIn
import Derived.LoopIn
import Derived.Laws.RangeAny
namespace Go.Proofs.YtjbfngjlepafgaaGreat
open Go.RowKit Go.Lib
variable {G : Nat}

/-- A fraction's cells, right or not; if it is right, its digits lie below the level. -/
def FY (G : Nat) (w : World) (u0 u1 u2 u3 : Value) (n m : Nat) (o : Option Rat) : Prop := FX w u0 u1 u2 u3 n m o ∧ ∀ q, o = some q → FQ G w u0 u1 u2 u3 q
theorem FY.keep {w w' : World} {u0 u1 u2 u3 : Value} {n m : Nat} {o : Option Rat} (h : FY G w u0 u1 u2 u3 n m o) (hb : Below w.heap.size w w') : FY G w' u0 u1 u2 u3 n m o := ⟨h.1.keep hb, fun q hq => (h.2 q hq).keep hb⟩
instance {w w' : World} {u0 u1 u2 u3 : Value} {n m : Nat} {o : Option Rat} : Goes (FY G w u0 u1 u2 u3 n m o) w w' (FY G w' u0 u1 u2 u3 n m o) := ⟨fun h hb => h.keep hb⟩
theorem fy_of {w : World} {u0 u1 u2 u3 : Value} {n m : Nat} {o : Option Rat} (h : FX w u0 u1 u2 u3 n m o) : FY w.heap.size w u0 u1 u2 u3 n m o := ⟨h, fun q hq => by subst hq; exact h.fq⟩
def opX (k : Nat) : Option Rat → Option Rat → Option Rat → Option Rat → Option Rat × Option Rat × Int
 | some p, some q, some r, some s => if p ≤ q ∧ r ≤ s then (match opS k ⟨p, q⟩ ⟨r, s⟩ with | some x => (some x.lo, some x.hi, 0) | none => (none, none, 15)) else (none, none, 1)
 | _, _, _, _ => (none, none, 1)
def hullX : Option Rat → Option Rat → Option Rat → Option Rat → Option Rat × Option Rat × Int
 | some p, some q, some r, some s => if p ≤ q ∧ r ≤ s then (some (min4 p q r s), some (max4 p q r s), 0) else (none, none, 1)
 | _, _, _, _ => (none, none, 1)
def meetX : Option Rat → Option Rat → Option Rat → Option Rat → Option Rat × Option Rat × Bool
 | some p, some q, some r, some s => if p ≤ q ∧ r ≤ s then (if minQ q s < maxQ p r then (none, none, false) else (some (maxQ p r), some (minQ q s), true)) else (none, none, false)
 | _, _, _, _ => (none, none, false)
def negX : Option Rat → Option Rat → Option Rat × Option Rat
 | some p, some q => if p ≤ q then (some (-q), some (-p)) else (none, none)
 | _, _ => (none, none)
def widX : Option Rat → Option Rat → Option Rat
 | some p, some q => if p ≤ q then some (q - p) else none
 | _, _ => none
theorem ways4 (o1 o2 o3 o4 : Option Rat) : (rightX o1 o2 && rightX o3 o4) = false ∨ ∃ p q r s, o1 = some p ∧ o2 = some q ∧ o3 = some r ∧ o4 = some s ∧ p ≤ q ∧ r ≤ s := by
 cases h : rightX o1 o2 with
 | false => exact .inl rfl
 | true =>
  cases h' : rightX o3 o4 with
  | false => exact .inl rfl
  | true =>
   obtain ⟨p, q, e1, e2, h1⟩ := right_some h
   obtain ⟨r, s, e3, e4, h2⟩ := right_some h'
   exact .inr ⟨p, q, r, s, e1, e2, e3, e4, h1, h2⟩
theorem ways2 (o1 o2 : Option Rat) : rightX o1 o2 = false ∨ ∃ p q, o1 = some p ∧ o2 = some q ∧ p ≤ q := by
 cases h : rightX o1 o2 with
 | false => exact .inl rfl
 | true => exact .inr (right_some h)
theorem no4 {α : Type} {o1 o2 o3 o4 : Option Rat} {f : Option Rat → Option Rat → Option Rat → Option Rat → α} {x : α} (hr : (rightX o1 o2 && rightX o3 o4) = false)
  (h : ∀ p q r s, ¬ (p ≤ q ∧ r ≤ s) → f (some p) (some q) (some r) (some s) = x) (h1 : ∀ b c d, f none b c d = x) (h2 : ∀ a c d, f a none c d = x) (h3 : ∀ a b d, f a b none d = x) (h4 : ∀ a b c, f a b c none = x) : f o1 o2 o3 o4 = x := by
 cases o1 with
 | none => exact h1 _ _ _
 | some p =>
  cases o2 with
  | none => exact h2 _ _ _
  | some q =>
   cases o3 with
   | none => exact h3 _ _ _
   | some r =>
    cases o4 with
    | none => exact h4 _ _ _
    | some s =>
     refine h _ _ _ _ fun hc => ?_
     simp [rightX, hc.1, hc.2] at hr
theorem opX_no {k : Nat} {o1 o2 o3 o4 : Option Rat} (hr : (rightX o1 o2 && rightX o3 o4) = false) : opX k o1 o2 o3 o4 = (none, none, 1) :=
 no4 hr (fun p q r s hc => by show (if _ then _ else _) = _; rw [if_neg hc]) (fun _ _ _ => rfl) (fun a _ _ => by cases a <;> rfl) (fun a b _ => by cases a <;> cases b <;> rfl) (fun a b c => by cases a <;> cases b <;> cases c <;> rfl)
theorem hullX_no {o1 o2 o3 o4 : Option Rat} (hr : (rightX o1 o2 && rightX o3 o4) = false) : hullX o1 o2 o3 o4 = (none, none, 1) :=
 no4 hr (fun p q r s hc => by show (if _ then _ else _) = _; rw [if_neg hc]) (fun _ _ _ => rfl) (fun a _ _ => by cases a <;> rfl) (fun a b _ => by cases a <;> cases b <;> rfl) (fun a b c => by cases a <;> cases b <;> cases c <;> rfl)
theorem meetX_no {o1 o2 o3 o4 : Option Rat} (hr : (rightX o1 o2 && rightX o3 o4) = false) : meetX o1 o2 o3 o4 = (none, none, false) :=
 no4 hr (fun p q r s hc => by show (if _ then _ else _) = _; rw [if_neg hc]) (fun _ _ _ => rfl) (fun a _ _ => by cases a <;> rfl) (fun a b _ => by cases a <;> cases b <;> rfl) (fun a b c => by cases a <;> cases b <;> cases c <;> rfl)
theorem opX_yes {k : Nat} {p q r s : Rat} (h : p ≤ q) (h' : r ≤ s) : opX k (some p) (some q) (some r) (some s) = (match opS k ⟨p, q⟩ ⟨r, s⟩ with | some x => (some x.lo, some x.hi, 0) | none => (none, none, 15)) := by
 show (if _ then _ else _) = _; rw [if_pos ⟨h, h'⟩]
theorem hullX_yes {p q r s : Rat} (h : p ≤ q) (h' : r ≤ s) : hullX (some p) (some q) (some r) (some s) = (some (min4 p q r s), some (max4 p q r s), 0) := by
 show (if _ then _ else _) = _; rw [if_pos ⟨h, h'⟩]
theorem meetX_yes {p q r s : Rat} (h : p ≤ q) (h' : r ≤ s) : meetX (some p) (some q) (some r) (some s) = (if minQ q s < maxQ p r then (none, none, false) else (some (maxQ p r), some (minQ q s), true)) := by
 show (if _ then _ else _) = _; rw [if_pos ⟨h, h'⟩]
theorem negX_no {o1 o2 : Option Rat} (hr : rightX o1 o2 = false) : negX o1 o2 = (none, none) := by
 cases o1 with
 | none => rfl
 | some p => cases o2 with
  | none => rfl
  | some q => show (if _ then _ else _) = _; rw [if_neg (of_decide_eq_false hr)]
theorem widX_no {o1 o2 : Option Rat} (hr : rightX o1 o2 = false) : widX o1 o2 = none := by
 cases o1 with
 | none => rfl
 | some p => cases o2 with
  | none => rfl
  | some q => show (if _ then _ else _) = _; rw [if_neg (of_decide_eq_false hr)]
/-- The sizes of the results. -/
theorem opX_oz {w : World} {k : Nat} {u0 u1 u2 u3 u4 u5 u6 u7 : Value} {v0 v1 v2 v3 v4 v5 v6 v7 : Value} {n1 m1 n2 m2 n3 m3 n4 m4 : Nat} {o1 o2 o3 o4 : Option Rat} {lo hi : Option Rat} {er : Int} (h1 : FY G w u0 u1 u2 u3 n1 m1 o1) (h2 : FY G w u4 u5 u6 u7 n2 m2 o2) (h3 : FY G w v0 v1 v2 v3 n3 m3 o3) (h4 : FY G w v4 v5 v6 v7 n4 m4 o4) (hz1 : fewF n1 m1 = true) (hz2 : fewF n2 m2 = true) (hz3 : fewF n3 m3 = true) (hz4 : fewF n4 m4 = true) (ho : opX k o1 o2 o3 o4 = (lo, hi, er)) : Oz lo 12 ∧ Oz hi 12 := by
  rcases ways4 o1 o2 o3 o4 with hr | ⟨p, q, r, s, rfl, rfl, rfl, rfl, hpq, hrs⟩
  · rw [opX_no hr] at ho; cases ho; exact ⟨Oz.none_, Oz.none_⟩
  · have z1 := h1.1.z4 hz1; have z2 := h2.1.z4 hz2; have z3 := h3.1.z4 hz3; have z4 := h4.1.z4 hz4
    rw [opX_yes hpq hrs] at ho
    cases hs : opS k ⟨p, q⟩ ⟨r, s⟩ with
    | none => rw [hs] at ho; cases ho; exact ⟨Oz.none_, Oz.none_⟩
    | some x => rw [hs] at ho; cases ho; have := op_size (n := 4) (m := 4) z1 z2 z3 z4 hs; exact ⟨Oz.some_ this.1, Oz.some_ this.2⟩
theorem hullX_oz {w : World} {u0 u1 u2 u3 u4 u5 u6 u7 : Value} {v0 v1 v2 v3 v4 v5 v6 v7 : Value} {n1 m1 n2 m2 n3 m3 n4 m4 : Nat} {o1 o2 o3 o4 : Option Rat} {lo hi : Option Rat} {er : Int} (h1 : FY G w u0 u1 u2 u3 n1 m1 o1) (h2 : FY G w u4 u5 u6 u7 n2 m2 o2) (h3 : FY G w v0 v1 v2 v3 n3 m3 o3) (h4 : FY G w v4 v5 v6 v7 n4 m4 o4) (hz1 : fewF n1 m1 = true) (hz2 : fewF n2 m2 = true) (hz3 : fewF n3 m3 = true) (hz4 : fewF n4 m4 = true) (ho : hullX o1 o2 o3 o4 = (lo, hi, er)) : Oz lo 12 ∧ Oz hi 12 := by
  rcases ways4 o1 o2 o3 o4 with hr | ⟨p, q, r, s, rfl, rfl, rfl, rfl, hpq, hrs⟩
  · rw [hullX_no hr] at ho; cases ho; exact ⟨Oz.none_, Oz.none_⟩
  · have z1 := h1.1.z4 hz1; have z2 := h2.1.z4 hz2; have z3 := h3.1.z4 hz3; have z4 := h4.1.z4 hz4
    rw [hullX_yes hpq hrs] at ho; cases ho
    exact ⟨Oz.some_ ((Fz.min4 z1 z2 z3 z4).mono (by omega)), Oz.some_ ((Fz.max4 z1 z2 z3 z4).mono (by omega))⟩
theorem meetX_oz {w : World} {u0 u1 u2 u3 u4 u5 u6 u7 : Value} {v0 v1 v2 v3 v4 v5 v6 v7 : Value} {n1 m1 n2 m2 n3 m3 n4 m4 : Nat} {o1 o2 o3 o4 : Option Rat} {lo hi : Option Rat} {mb : Bool} (h1 : FY G w u0 u1 u2 u3 n1 m1 o1) (h2 : FY G w u4 u5 u6 u7 n2 m2 o2) (h3 : FY G w v0 v1 v2 v3 n3 m3 o3) (h4 : FY G w v4 v5 v6 v7 n4 m4 o4) (hz1 : fewF n1 m1 = true) (hz2 : fewF n2 m2 = true) (hz3 : fewF n3 m3 = true) (hz4 : fewF n4 m4 = true) (ho : meetX o1 o2 o3 o4 = (lo, hi, mb)) : Oz lo 12 ∧ Oz hi 12 := by
  rcases ways4 o1 o2 o3 o4 with hr | ⟨p, q, r, s, rfl, rfl, rfl, rfl, hpq, hrs⟩
  · rw [meetX_no hr] at ho; cases ho; exact ⟨Oz.none_, Oz.none_⟩
  · have z1 := h1.1.z4 hz1; have z2 := h2.1.z4 hz2; have z3 := h3.1.z4 hz3; have z4 := h4.1.z4 hz4
    rw [meetX_yes hpq hrs] at ho
    by_cases hm : minQ q s < maxQ p r
    · rw [if_pos hm] at ho; cases ho; exact ⟨Oz.none_, Oz.none_⟩
    · rw [if_neg hm] at ho; cases ho; exact ⟨Oz.some_ ((Fz.maxQ z1 z3).mono (by omega)), Oz.some_ ((Fz.minQ z2 z4).mono (by omega))⟩
theorem negX_oz {w : World} {u0 u1 u2 u3 u4 u5 u6 u7 : Value} {n1 m1 n2 m2 : Nat} {o1 o2 : Option Rat} {lo hi : Option Rat} (h1 : FY G w u0 u1 u2 u3 n1 m1 o1) (h2 : FY G w u4 u5 u6 u7 n2 m2 o2) (hz1 : fewF n1 m1 = true) (hz2 : fewF n2 m2 = true) (ho : negX o1 o2 = (lo, hi)) : Oz lo 12 ∧ Oz hi 12 := by
  rcases ways2 o1 o2 with hr | ⟨p, q, rfl, rfl, hpq⟩
  · rw [negX_no hr] at ho; cases ho; exact ⟨Oz.none_, Oz.none_⟩
  · have z1 := h1.1.z4 hz1; have z2 := h2.1.z4 hz2
    have ho' : (if p ≤ q then (some (-q), some (-p)) else (none, none)) = (lo, hi) := ho
    rw [if_pos hpq] at ho'; cases ho'
    exact ⟨Oz.some_ (z2.neg.mono (by omega)), Oz.some_ (z1.neg.mono (by omega))⟩
theorem widX_oz {w : World} {u0 u1 u2 u3 u4 u5 u6 u7 : Value} {n1 m1 n2 m2 : Nat} {o1 o2 : Option Rat} {lo : Option Rat} (h1 : FY G w u0 u1 u2 u3 n1 m1 o1) (h2 : FY G w u4 u5 u6 u7 n2 m2 o2) (hz1 : fewF n1 m1 = true) (hz2 : fewF n2 m2 = true) (ho : widX o1 o2 = lo) : Oz lo 12 := by
  rcases ways2 o1 o2 with hr | ⟨p, q, rfl, rfl, hpq⟩
  · rw [widX_no hr] at ho; cases ho; exact Oz.none_
  · have z1 := h1.1.z4 hz1; have z2 := h2.1.z4 hz2
    have ho' : (if p ≤ q then some (q - p) else none) = lo := ho
    rw [if_pos hpq] at ho'; cases ho'
    exact Oz.some_ ((z2.sub z1).mono (by omega))
theorem play_u {k : Nat} {i : Int} {u0 u1 u2 u3 u4 u5 u6 u7 : Value} {v0 v1 v2 v3 v4 v5 v6 v7 : Value} {n1 m1 n2 m2 n3 m3 n4 m4 : Nat} {o1 o2 o3 o4 : Option Rat} {lo hi : Option Rat} {er : Int} {w : World} (hG : G ≤ w.heap.size) (h1 : FY G w u0 u1 u2 u3 n1 m1 o1) (h2 : FY G w u4 u5 u6 u7 n2 m2 o2) (h3 : FY G w v0 v1 v2 v3 n3 m3 o3) (h4 : FY G w v4 v5 v6 v7 n4 m4 o4) (hz1 : fewF n1 m1 = true) (hz2 : fewF n2 m2 = true) (hz3 : fewF n3 m3 = true) (hz4 : fewF n4 m4 = true) (hk : k < 6) (hi_ : (k : Int) = i) (ho : opX k o1 o2 o3 o4 = (lo, hi, er)) :
    Calls Tryz.prog 7 #[.int .i64 i, .agg #[u0, u1, u2, u3, u4, u5, u6, u7], .agg #[v0, v1, v2, v3, v4, v5, v6, v7]] w fun e w' => ∃ x0 x1 x2 x3 x4 x5 x6 x7, e = .returned (.tuple #[.agg #[x0, x1, x2, x3, x4, x5, x6, x7], .int .i64 er]) ∧ OQ G w' x0 x1 x2 x3 lo ∧ OQ G w' x4 x5 x6 x7 hi ∧ Below w.heap.size w w' := by
  rcases ways4 o1 o2 o3 o4 with hr | ⟨p, q, r, s, rfl, rfl, rfl, rfl, hpq, hrs⟩
  · rw [opX_no hr] at ho; cases ho
    exact (play_no h1.1 h2.1 h3.1 h4.1 hz1 hz2 hz3 hz4 hr hk hi_).mono fun e w' ⟨he, hb⟩ => ⟨_, _, _, _, _, _, _, _, he, oq_none _ _ _ _ _, oq_none _ _ _ _ _, hb⟩
  · have z1 := h1.1.z4 hz1; have z2 := h2.1.z4 hz2; have z3 := h3.1.z4 hz3; have z4 := h4.1.z4 hz4
    rw [opX_yes hpq hrs] at ho
    cases hs : opS k ⟨p, q⟩ ⟨r, s⟩ with
    | some x => rw [hs] at ho; cases ho; exact (play_some hG (h1.2 _ rfl) (h2.2 _ rfl) (h3.2 _ rfl) (h4.2 _ rfl) (z1.mono (by omega)) (z2.mono (by omega)) (z3.mono (by omega)) (z4.mono (by omega)) hpq hrs hk hi_ hs).mono fun e w' ⟨_, _, _, _, _, _, _, _, he, h1, h2, hb⟩ => ⟨_, _, _, _, _, _, _, _, he, h1, h2, hb⟩
    | none => rw [hs] at ho; cases ho; exact (play_none hG (h1.2 _ rfl) (h2.2 _ rfl) (h3.2 _ rfl) (h4.2 _ rfl) (z1.mono (by omega)) (z2.mono (by omega)) (z3.mono (by omega)) (z4.mono (by omega)) hpq hrs hi_ hs).mono fun e w' ⟨he, hb⟩ => ⟨_, _, _, _, _, _, _, _, he, oq_none _ _ _ _ _, oq_none _ _ _ _ _, hb⟩
theorem rboth_u {k : Nat} {i : Int} {u0 u1 u2 u3 u4 u5 u6 u7 : Value} {v0 v1 v2 v3 v4 v5 v6 v7 : Value} {n1 m1 n2 m2 n3 m3 n4 m4 : Nat} {o1 o2 o3 o4 : Option Rat} {lo hi : Option Rat} {er : Int} {w : World} (hG : G ≤ w.heap.size) (h1 : FY G w u0 u1 u2 u3 n1 m1 o1) (h2 : FY G w u4 u5 u6 u7 n2 m2 o2) (h3 : FY G w v0 v1 v2 v3 n3 m3 o3) (h4 : FY G w v4 v5 v6 v7 n4 m4 o4) (hz1 : fewF n1 m1 = true) (hz2 : fewF n2 m2 = true) (hz3 : fewF n3 m3 = true) (hz4 : fewF n4 m4 = true) (hk : k < 6) (hi_ : (k : Int) = i) (ho : opX k o1 o2 o3 o4 = (lo, hi, er)) :
    Calls Tryz.prog 8 #[.int .i64 i, .agg #[u0, u1, u2, u3, u4, u5, u6, u7], .agg #[v0, v1, v2, v3, v4, v5, v6, v7]] w fun e w' => ∃ x0 x1 x2 x3 x4 x5 x6 x7, e = .returned (.tuple #[.agg #[x0, x1, x2, x3, x4, x5, x6, x7], .int .i64 er]) ∧ OQ G w' x0 x1 x2 x3 lo ∧ OQ G w' x4 x5 x6 x7 hi ∧ Below w.heap.size w w' := by
  rcases ways4 o1 o2 o3 o4 with hr | ⟨p, q, r, s, rfl, rfl, rfl, rfl, hpq, hrs⟩
  · rw [opX_no hr] at ho; cases ho
    exact (rboth_no h1.1 h2.1 h3.1 h4.1 hz1 hz2 hz3 hz4 hr).mono fun e w' ⟨he, hb⟩ => ⟨_, _, _, _, _, _, _, _, he, oq_none _ _ _ _ _, oq_none _ _ _ _ _, hb⟩
  · have z1 := h1.1.z4 hz1; have z2 := h2.1.z4 hz2; have z3 := h3.1.z4 hz3; have z4 := h4.1.z4 hz4
    rw [opX_yes hpq hrs] at ho
    cases hs : opS k ⟨p, q⟩ ⟨r, s⟩ with
    | some x => rw [hs] at ho; cases ho; exact (rboth_some hG (h1.2 _ rfl) (h2.2 _ rfl) (h3.2 _ rfl) (h4.2 _ rfl) (z1.mono (by omega)) (z2.mono (by omega)) (z3.mono (by omega)) (z4.mono (by omega)) hpq hrs hk hi_ hs).mono fun e w' ⟨_, _, _, _, _, _, _, _, he, h1, h2, hb⟩ => ⟨_, _, _, _, _, _, _, _, he, h1, h2, hb⟩
    | none =>
      rw [hs] at ho; cases ho
      obtain ⟨rfl, h0⟩ := op_none hs
      subst hi_
      exact (rboth_none3 hG (h1.2 _ rfl) (h2.2 _ rfl) (h3.2 _ rfl) (h4.2 _ rfl) (z1.mono (by omega)) (z2.mono (by omega)) (z3.mono (by omega)) (z4.mono (by omega)) hpq hrs h0).mono fun e w' ⟨he, hb⟩ => ⟨_, _, _, _, _, _, _, _, he, oq_none _ _ _ _ _, oq_none _ _ _ _ _, hb⟩
theorem spHull_u {u0 u1 u2 u3 u4 u5 u6 u7 : Value} {v0 v1 v2 v3 v4 v5 v6 v7 : Value} {n1 m1 n2 m2 n3 m3 n4 m4 : Nat} {o1 o2 o3 o4 : Option Rat} {lo hi : Option Rat} {er : Int} {w : World} (hG : G ≤ w.heap.size) (h1 : FY G w u0 u1 u2 u3 n1 m1 o1) (h2 : FY G w u4 u5 u6 u7 n2 m2 o2) (h3 : FY G w v0 v1 v2 v3 n3 m3 o3) (h4 : FY G w v4 v5 v6 v7 n4 m4 o4) (hz1 : fewF n1 m1 = true) (hz2 : fewF n2 m2 = true) (hz3 : fewF n3 m3 = true) (hz4 : fewF n4 m4 = true) (ho : hullX o1 o2 o3 o4 = (lo, hi, er)) :
    Calls Tryz.prog 10 #[.agg #[u0, u1, u2, u3, u4, u5, u6, u7], .agg #[v0, v1, v2, v3, v4, v5, v6, v7]] w fun e w' => ∃ x0 x1 x2 x3 x4 x5 x6 x7, e = .returned (.tuple #[.agg #[x0, x1, x2, x3, x4, x5, x6, x7], .int .i64 er]) ∧ OQ G w' x0 x1 x2 x3 lo ∧ OQ G w' x4 x5 x6 x7 hi ∧ Below w.heap.size w w' := by
  rcases ways4 o1 o2 o3 o4 with hr | ⟨p, q, r, s, rfl, rfl, rfl, rfl, hpq, hrs⟩
  · rw [hullX_no hr] at ho; cases ho
    exact (spHull_no h1.1 h2.1 h3.1 h4.1 hz1 hz2 hz3 hz4 hr).mono fun e w' ⟨he, hb⟩ => ⟨_, _, _, _, _, _, _, _, he, oq_none _ _ _ _ _, oq_none _ _ _ _ _, hb⟩
  · have z1 := h1.1.z4 hz1; have z2 := h2.1.z4 hz2; have z3 := h3.1.z4 hz3; have z4 := h4.1.z4 hz4
    rw [hullX_yes hpq hrs] at ho; cases ho
    exact (spHull_q hG (h1.2 _ rfl) (h2.2 _ rfl) (h3.2 _ rfl) (h4.2 _ rfl) (z1.mono (by omega)) (z2.mono (by omega)) (z3.mono (by omega)) (z4.mono (by omega)) hpq hrs rfl rfl).mono fun e w' ⟨_, _, _, _, _, _, _, _, he, h1, h2, hb⟩ => ⟨_, _, _, _, _, _, _, _, he, h1, h2, hb⟩
theorem spMeet_u {u0 u1 u2 u3 u4 u5 u6 u7 : Value} {v0 v1 v2 v3 v4 v5 v6 v7 : Value} {n1 m1 n2 m2 n3 m3 n4 m4 : Nat} {o1 o2 o3 o4 : Option Rat} {lo hi : Option Rat} {mb : Bool} {w : World} (hG : G ≤ w.heap.size) (h1 : FY G w u0 u1 u2 u3 n1 m1 o1) (h2 : FY G w u4 u5 u6 u7 n2 m2 o2) (h3 : FY G w v0 v1 v2 v3 n3 m3 o3) (h4 : FY G w v4 v5 v6 v7 n4 m4 o4) (hz1 : fewF n1 m1 = true) (hz2 : fewF n2 m2 = true) (hz3 : fewF n3 m3 = true) (hz4 : fewF n4 m4 = true) (ho : meetX o1 o2 o3 o4 = (lo, hi, mb)) :
    Calls Tryz.prog 12 #[.agg #[u0, u1, u2, u3, u4, u5, u6, u7], .agg #[v0, v1, v2, v3, v4, v5, v6, v7]] w fun e w' => ∃ x0 x1 x2 x3 x4 x5 x6 x7, e = .returned (.tuple #[.agg #[x0, x1, x2, x3, x4, x5, x6, x7], .bool mb]) ∧ OQ G w' x0 x1 x2 x3 lo ∧ OQ G w' x4 x5 x6 x7 hi ∧ Below w.heap.size w w' := by
  rcases ways4 o1 o2 o3 o4 with hr | ⟨p, q, r, s, rfl, rfl, rfl, rfl, hpq, hrs⟩
  · rw [meetX_no hr] at ho; cases ho
    exact (spMeet_no h1.1 h2.1 h3.1 h4.1 hz1 hz2 hz3 hz4 hr).mono fun e w' ⟨he, hb⟩ => ⟨_, _, _, _, _, _, _, _, he, oq_none _ _ _ _ _, oq_none _ _ _ _ _, hb⟩
  · have z1 := h1.1.z4 hz1; have z2 := h2.1.z4 hz2; have z3 := h3.1.z4 hz3; have z4 := h4.1.z4 hz4
    rw [meetX_yes hpq hrs] at ho
    by_cases hm : minQ q s < maxQ p r
    · rw [if_pos hm] at ho; cases ho; exact (spMeet_none hG (h1.2 _ rfl) (h2.2 _ rfl) (h3.2 _ rfl) (h4.2 _ rfl) (z1.mono (by omega)) (z2.mono (by omega)) (z3.mono (by omega)) (z4.mono (by omega)) hpq hrs hm).mono fun e w' ⟨he, hb⟩ => ⟨_, _, _, _, _, _, _, _, he, oq_none _ _ _ _ _, oq_none _ _ _ _ _, hb⟩
    · rw [if_neg hm] at ho; cases ho; exact (spMeet_q hG (h1.2 _ rfl) (h2.2 _ rfl) (h3.2 _ rfl) (h4.2 _ rfl) (z1.mono (by omega)) (z2.mono (by omega)) (z3.mono (by omega)) (z4.mono (by omega)) hpq hrs hm).mono fun e w' ⟨_, _, _, _, _, _, _, _, he, h1, h2, hb⟩ => ⟨_, _, _, _, _, _, _, _, he, h1, h2, hb⟩
theorem spNeg_u {u0 u1 u2 u3 u4 u5 u6 u7 : Value} {n1 m1 n2 m2 : Nat} {o1 o2 : Option Rat} {lo hi : Option Rat} {w : World} (hG : G ≤ w.heap.size) (h1 : FY G w u0 u1 u2 u3 n1 m1 o1) (h2 : FY G w u4 u5 u6 u7 n2 m2 o2) (hz1 : fewF n1 m1 = true) (hz2 : fewF n2 m2 = true) (ho : negX o1 o2 = (lo, hi)) :
    Calls Tryz.prog 26 #[.agg #[u0, u1, u2, u3, u4, u5, u6, u7]] w fun e w' => ∃ x0 x1 x2 x3 x4 x5 x6 x7, e = .returned (.agg #[x0, x1, x2, x3, x4, x5, x6, x7]) ∧ OQ G w' x0 x1 x2 x3 lo ∧ OQ G w' x4 x5 x6 x7 hi ∧ Below w.heap.size w w' := by
  rcases ways2 o1 o2 with hr | ⟨p, q, rfl, rfl, hpq⟩
  · rw [negX_no hr] at ho; cases ho
    exact (spNeg_no h1.1 h2.1 hz1 hz2 hr).mono fun e w' ⟨he, hb⟩ => ⟨_, _, _, _, _, _, _, _, he, oq_none _ _ _ _ _, oq_none _ _ _ _ _, hb⟩
  · have z1 := h1.1.z4 hz1; have z2 := h2.1.z4 hz2
    have ho' : (if p ≤ q then (some (-q), some (-p)) else (none, none)) = (lo, hi) := ho
    rw [if_pos hpq] at ho'; cases ho'
    exact (spNeg_q hG (h1.2 _ rfl) (h2.2 _ rfl) (z1.mono (by omega)) (z2.mono (by omega)) hpq).mono fun e w' ⟨_, _, _, _, _, _, _, _, he, h1, h2, hb⟩ => ⟨_, _, _, _, _, _, _, _, he, h1, h2, hb⟩
theorem spWidth_u {u0 u1 u2 u3 u4 u5 u6 u7 : Value} {n1 m1 n2 m2 : Nat} {o1 o2 : Option Rat} {lo : Option Rat} {w : World} (hG : G ≤ w.heap.size) (h1 : FY G w u0 u1 u2 u3 n1 m1 o1) (h2 : FY G w u4 u5 u6 u7 n2 m2 o2) (hz1 : fewF n1 m1 = true) (hz2 : fewF n2 m2 = true) (ho : widX o1 o2 = lo) :
    Calls Tryz.prog 24 #[.agg #[u0, u1, u2, u3, u4, u5, u6, u7]] w fun e w' => ∃ x0 x1 x2 x3, e = .returned (.agg #[x0, x1, x2, x3]) ∧ OQ G w' x0 x1 x2 x3 lo ∧ Below w.heap.size w w' := by
  rcases ways2 o1 o2 with hr | ⟨p, q, rfl, rfl, hpq⟩
  · rw [widX_no hr] at ho; cases ho
    exact (spWidth_no h1.1 h2.1 hz1 hz2 hr).mono fun e w' ⟨he, hb⟩ => ⟨_, _, _, _, he, oq_none _ _ _ _ _, hb⟩
  · have z1 := h1.1.z4 hz1; have z2 := h2.1.z4 hz2
    have ho' : (if p ≤ q then some (q - p) else none) = lo := ho
    rw [if_pos hpq] at ho'; cases ho'
    exact (spWidth_q hG (h1.2 _ rfl) (h2.2 _ rfl) (z1.mono (by omega)) (z2.mono (by omega)) hpq).mono fun e w' ⟨_, _, _, _, he, h1, hb⟩ => ⟨_, _, _, _, he, h1, hb⟩
theorem spPoint_u {u0 u1 u2 u3 : Value} {n1 m1 : Nat} {o1 lo hi : Option Rat} {w : World} (hG : G ≤ w.heap.size) (h1 : FY G w u0 u1 u2 u3 n1 m1 o1) (hz1 : fewF n1 m1 = true) (e1 : o1 = lo) (e2 : o1 = hi) :
  Calls Tryz.prog 17 #[.agg #[u0, u1, u2, u3]] w fun e w' => ∃ x0 x1 x2 x3 x4 x5 x6 x7, e = .returned (.agg #[x0, x1, x2, x3, x4, x5, x6, x7]) ∧ OQ G w' x0 x1 x2 x3 lo ∧ OQ G w' x4 x5 x6 x7 hi ∧ Below w.heap.size w w' := by
 subst e1 e2
 cases o1 with
 | none => exact (spPoint_no h1.1 hz1 rfl).mono fun e w' ⟨he, hb⟩ => ⟨_, _, _, _, _, _, _, _, he, oq_none _ _ _ _ _, oq_none _ _ _ _ _, hb⟩
 | some q => exact (spPoint_q hG (h1.2 _ rfl) ((h1.1.z4 hz1).mono (by omega))).mono fun e w' ⟨_, _, _, _, _, _, _, _, he, h1, h2, hb⟩ => ⟨_, _, _, _, _, _, _, _, he, h1, h2, hb⟩
theorem rsHull_u {u0 u1 u2 u3 u4 u5 u6 u7 : Value} {v0 v1 v2 v3 v4 v5 v6 v7 : Value} {n1 m1 n2 m2 n3 m3 n4 m4 : Nat} {o1 o2 o3 o4 : Option Rat} {lo hi : Option Rat} {er : Int} {w : World} (hG : G ≤ w.heap.size) (h1 : FY G w u0 u1 u2 u3 n1 m1 o1) (h2 : FY G w u4 u5 u6 u7 n2 m2 o2) (h3 : FY G w v0 v1 v2 v3 n3 m3 o3) (h4 : FY G w v4 v5 v6 v7 n4 m4 o4) (hz1 : fewF n1 m1 = true) (hz2 : fewF n2 m2 = true) (hz3 : fewF n3 m3 = true) (hz4 : fewF n4 m4 = true) (ho : hullX o1 o2 o3 o4 = (lo, hi, er)) :
    Calls Tryz.prog 11 #[.agg #[u0, u1, u2, u3, u4, u5, u6, u7], .agg #[v0, v1, v2, v3, v4, v5, v6, v7]] w fun e w' => ∃ x0 x1 x2 x3 x4 x5 x6 x7, e = .returned (.tuple #[.agg #[x0, x1, x2, x3, x4, x5, x6, x7], .int .i64 er]) ∧ OQ G w' x0 x1 x2 x3 lo ∧ OQ G w' x4 x5 x6 x7 hi ∧ Below w.heap.size w w' := by
  rcases ways4 o1 o2 o3 o4 with hr | ⟨p, q, r, s, rfl, rfl, rfl, rfl, hpq, hrs⟩
  · rw [hullX_no hr] at ho; cases ho
    exact (rsHull_no h1.1 h2.1 h3.1 h4.1 hz1 hz2 hz3 hz4 hr).mono fun e w' ⟨he, hb⟩ => ⟨_, _, _, _, _, _, _, _, he, oq_none _ _ _ _ _, oq_none _ _ _ _ _, hb⟩
  · have z1 := h1.1.z4 hz1; have z2 := h2.1.z4 hz2; have z3 := h3.1.z4 hz3; have z4 := h4.1.z4 hz4
    rw [hullX_yes hpq hrs] at ho; cases ho
    exact (rsHull_q hG (h1.2 _ rfl) (h2.2 _ rfl) (h3.2 _ rfl) (h4.2 _ rfl) (z1.mono (by omega)) (z2.mono (by omega)) (z3.mono (by omega)) (z4.mono (by omega)) hpq hrs rfl rfl).mono fun e w' ⟨_, _, _, _, _, _, _, _, he, h1, h2, hb⟩ => ⟨_, _, _, _, _, _, _, _, he, h1, h2, hb⟩
theorem rsMeet_u {u0 u1 u2 u3 u4 u5 u6 u7 : Value} {v0 v1 v2 v3 v4 v5 v6 v7 : Value} {n1 m1 n2 m2 n3 m3 n4 m4 : Nat} {o1 o2 o3 o4 : Option Rat} {lo hi : Option Rat} {mb : Bool} {w : World} (hG : G ≤ w.heap.size) (h1 : FY G w u0 u1 u2 u3 n1 m1 o1) (h2 : FY G w u4 u5 u6 u7 n2 m2 o2) (h3 : FY G w v0 v1 v2 v3 n3 m3 o3) (h4 : FY G w v4 v5 v6 v7 n4 m4 o4) (hz1 : fewF n1 m1 = true) (hz2 : fewF n2 m2 = true) (hz3 : fewF n3 m3 = true) (hz4 : fewF n4 m4 = true) (ho : meetX o1 o2 o3 o4 = (lo, hi, mb)) :
    Calls Tryz.prog 13 #[.agg #[u0, u1, u2, u3, u4, u5, u6, u7], .agg #[v0, v1, v2, v3, v4, v5, v6, v7]] w fun e w' => ∃ x0 x1 x2 x3 x4 x5 x6 x7, e = .returned (.tuple #[.agg #[x0, x1, x2, x3, x4, x5, x6, x7], .bool mb]) ∧ OQ G w' x0 x1 x2 x3 lo ∧ OQ G w' x4 x5 x6 x7 hi ∧ Below w.heap.size w w' := by
  rcases ways4 o1 o2 o3 o4 with hr | ⟨p, q, r, s, rfl, rfl, rfl, rfl, hpq, hrs⟩
  · rw [meetX_no hr] at ho; cases ho
    exact (rsMeet_no h1.1 h2.1 h3.1 h4.1 hz1 hz2 hz3 hz4 hr).mono fun e w' ⟨he, hb⟩ => ⟨_, _, _, _, _, _, _, _, he, oq_none _ _ _ _ _, oq_none _ _ _ _ _, hb⟩
  · have z1 := h1.1.z4 hz1; have z2 := h2.1.z4 hz2; have z3 := h3.1.z4 hz3; have z4 := h4.1.z4 hz4
    rw [meetX_yes hpq hrs] at ho
    by_cases hm : minQ q s < maxQ p r
    · rw [if_pos hm] at ho; cases ho; exact (rsMeet_none hG (h1.2 _ rfl) (h2.2 _ rfl) (h3.2 _ rfl) (h4.2 _ rfl) (z1.mono (by omega)) (z2.mono (by omega)) (z3.mono (by omega)) (z4.mono (by omega)) hpq hrs hm).mono fun e w' ⟨he, hb⟩ => ⟨_, _, _, _, _, _, _, _, he, oq_none _ _ _ _ _, oq_none _ _ _ _ _, hb⟩
    · rw [if_neg hm] at ho; cases ho; exact (rsMeet_q hG (h1.2 _ rfl) (h2.2 _ rfl) (h3.2 _ rfl) (h4.2 _ rfl) (z1.mono (by omega)) (z2.mono (by omega)) (z3.mono (by omega)) (z4.mono (by omega)) hpq hrs hm).mono fun e w' ⟨_, _, _, _, _, _, _, _, he, h1, h2, hb⟩ => ⟨_, _, _, _, _, _, _, _, he, h1, h2, hb⟩
theorem rsNeg_u {u0 u1 u2 u3 u4 u5 u6 u7 : Value} {n1 m1 n2 m2 : Nat} {o1 o2 : Option Rat} {lo hi : Option Rat} {w : World} (hG : G ≤ w.heap.size) (h1 : FY G w u0 u1 u2 u3 n1 m1 o1) (h2 : FY G w u4 u5 u6 u7 n2 m2 o2) (hz1 : fewF n1 m1 = true) (hz2 : fewF n2 m2 = true) (ho : negX o1 o2 = (lo, hi)) :
    Calls Tryz.prog 27 #[.agg #[u0, u1, u2, u3, u4, u5, u6, u7]] w fun e w' => ∃ x0 x1 x2 x3 x4 x5 x6 x7, e = .returned (.agg #[x0, x1, x2, x3, x4, x5, x6, x7]) ∧ OQ G w' x0 x1 x2 x3 lo ∧ OQ G w' x4 x5 x6 x7 hi ∧ Below w.heap.size w w' := by
  rcases ways2 o1 o2 with hr | ⟨p, q, rfl, rfl, hpq⟩
  · rw [negX_no hr] at ho; cases ho
    exact (rsNeg_no h1.1 h2.1 hz1 hz2 hr).mono fun e w' ⟨he, hb⟩ => ⟨_, _, _, _, _, _, _, _, he, oq_none _ _ _ _ _, oq_none _ _ _ _ _, hb⟩
  · have z1 := h1.1.z4 hz1; have z2 := h2.1.z4 hz2
    have ho' : (if p ≤ q then (some (-q), some (-p)) else (none, none)) = (lo, hi) := ho
    rw [if_pos hpq] at ho'; cases ho'
    exact (rsNeg_q hG (h1.2 _ rfl) (h2.2 _ rfl) (z1.mono (by omega)) (z2.mono (by omega)) hpq).mono fun e w' ⟨_, _, _, _, _, _, _, _, he, h1, h2, hb⟩ => ⟨_, _, _, _, _, _, _, _, he, h1, h2, hb⟩
theorem rsWidth_u {u0 u1 u2 u3 u4 u5 u6 u7 : Value} {n1 m1 n2 m2 : Nat} {o1 o2 : Option Rat} {lo : Option Rat} {w : World} (hG : G ≤ w.heap.size) (h1 : FY G w u0 u1 u2 u3 n1 m1 o1) (h2 : FY G w u4 u5 u6 u7 n2 m2 o2) (hz1 : fewF n1 m1 = true) (hz2 : fewF n2 m2 = true) (ho : widX o1 o2 = lo) :
    Calls Tryz.prog 25 #[.agg #[u0, u1, u2, u3, u4, u5, u6, u7]] w fun e w' => ∃ x0 x1 x2 x3, e = .returned (.agg #[x0, x1, x2, x3]) ∧ OQ G w' x0 x1 x2 x3 lo ∧ Below w.heap.size w w' := by
  rcases ways2 o1 o2 with hr | ⟨p, q, rfl, rfl, hpq⟩
  · rw [widX_no hr] at ho; cases ho
    exact (rsWidth_no h1.1 h2.1 hz1 hz2 hr).mono fun e w' ⟨he, hb⟩ => ⟨_, _, _, _, he, oq_none _ _ _ _ _, hb⟩
  · have z1 := h1.1.z4 hz1; have z2 := h2.1.z4 hz2
    have ho' : (if p ≤ q then some (q - p) else none) = lo := ho
    rw [if_pos hpq] at ho'; cases ho'
    exact (rsWidth_q hG (h1.2 _ rfl) (h2.2 _ rfl) (z1.mono (by omega)) (z2.mono (by omega)) hpq).mono fun e w' ⟨_, _, _, _, he, h1, hb⟩ => ⟨_, _, _, _, he, h1, hb⟩
theorem rsPoint_u {u0 u1 u2 u3 : Value} {n1 m1 : Nat} {o1 lo hi : Option Rat} {w : World} (hG : G ≤ w.heap.size) (h1 : FY G w u0 u1 u2 u3 n1 m1 o1) (hz1 : fewF n1 m1 = true) (e1 : o1 = lo) (e2 : o1 = hi) :
  Calls Tryz.prog 18 #[.agg #[u0, u1, u2, u3]] w fun e w' => ∃ x0 x1 x2 x3 x4 x5 x6 x7, e = .returned (.agg #[x0, x1, x2, x3, x4, x5, x6, x7]) ∧ OQ G w' x0 x1 x2 x3 lo ∧ OQ G w' x4 x5 x6 x7 hi ∧ Below w.heap.size w w' := by
 subst e1 e2
 cases o1 with
 | none => exact (rsPoint_no h1.1 hz1 rfl).mono fun e w' ⟨he, hb⟩ => ⟨_, _, _, _, _, _, _, _, he, oq_none _ _ _ _ _, oq_none _ _ _ _ _, hb⟩
 | some q => exact (rsPoint_q hG (h1.2 _ rfl) ((h1.1.z4 hz1).mono (by omega))).mono fun e w' ⟨_, _, _, _, _, _, _, _, he, h1, h2, hb⟩ => ⟨_, _, _, _, _, _, _, _, he, h1, h2, hb⟩
set_option maxRecDepth 100000 in
set_option maxHeartbeats 4000000 in
theorem rhasx_1 {u0 u1 u2 u3 u4 u5 u6 u7 v0 v1 v2 v3 : Value} {n1 m1 n2 m2 n3 m3 : Nat} {o1 o2 o3 : Option Rat} {w : World} (h1 : FX w u0 u1 u2 u3 n1 m1 o1) (h2 : FX w u4 u5 u6 u7 n2 m2 o2) (h3 : FX w v0 v1 v2 v3 n3 m3 o3) (hz1 : fewF n1 m1 = true) (hz2 : fewF n2 m2 = true) (hz3 : fewF n3 m3 = true) (hr : rightX o1 o2 = false) :
  Calls Tryz.prog 20 #[.agg #[u0, u1, u2, u3, u4, u5, u6, u7], .agg #[v0, v1, v2, v3]] w fun e w' => e = .returned (.bool false) ∧ Below w.heap.size w w' := by
 have HZ1 := Lib.hid hz1
 have HZ2 := Lib.hid hz2
 have HZ3 := Lib.hid hz3
 have k1 := few_le hz1
 have k2 := few_le hz2
 have k3 := few_le hz3
 clear hz1 hz2 hz3
 have HR := Lib.hid hr; clear hr
 have H1 : Hid (FX w u0 u1 u2 u3 n1 m1 o1) := h1
 have H2 : Hid (FX w u4 u5 u6 u7 n2 m2 o2) := h2
 have H3 : Hid (FX w v0 v1 v2 v3 n3 m3 o3) := h3
 clear h1 h2 h3
 have M : Hid (Below w.heap.size w w) := Below.refl _ _
 go_enter Tryz.func20, Tryz.ntmps20
 go_upto_region 1 with fail
 refine nmW ((w.alloc (.cells #[u0, u1, u2, u3, u4, u5, u6, u7] 28)).alloc (.cells #[v0, v1, v2, v3] 26)) fun w1 hv => ?_
 rw [← hv]
 replace M := al2W hv M
 clear hv
 refine cj8 (J1 M).1.d8 fun aa ab ac ad ae af ag ah => ?_
 go_wp2_with fail
 clear aa ab ac ad ae af ag ah
 refine (rsRight_x (o1 := o1) (o2 := o2) (b_ := false) (H1.out.keep (J2 M)) (H2.out.keep (J2 M)) HZ1.out HZ2.out HR.out).mono ?_
 rintro e w2 ⟨rfl, hb⟩
 replace M := gnM hb M
 clear hb
 go_wp2_with fail
 go_ret
 exact ⟨rfl, (J2 M)⟩
set_option maxRecDepth 100000 in
set_option maxHeartbeats 4000000 in
theorem rhasx_2 {u0 u1 u2 u3 u4 u5 u6 u7 v0 v1 v2 v3 : Value} {n1 m1 n2 m2 n3 m3 : Nat} {o1 o2 o3 : Option Rat} {w : World} (h1 : FX w u0 u1 u2 u3 n1 m1 o1) (h2 : FX w u4 u5 u6 u7 n2 m2 o2) (h3 : FX w v0 v1 v2 v3 n3 m3 o3) (hz1 : fewF n1 m1 = true) (hz2 : fewF n2 m2 = true) (hz3 : fewF n3 m3 = true) (hr : rightX o1 o2 = true) (ho : o3.isSome = false) :
  Calls Tryz.prog 20 #[.agg #[u0, u1, u2, u3, u4, u5, u6, u7], .agg #[v0, v1, v2, v3]] w fun e w' => e = .returned (.bool false) ∧ Below w.heap.size w w' := by
 have HZ1 := Lib.hid hz1
 have HZ2 := Lib.hid hz2
 have HZ3 := Lib.hid hz3
 have k1 := few_le hz1
 have k2 := few_le hz2
 have k3 := few_le hz3
 clear hz1 hz2 hz3
 have HR := Lib.hid hr; have HO := Lib.hid ho; clear hr ho
 have H1 : Hid (FX w u0 u1 u2 u3 n1 m1 o1) := h1
 have H2 : Hid (FX w u4 u5 u6 u7 n2 m2 o2) := h2
 have H3 : Hid (FX w v0 v1 v2 v3 n3 m3 o3) := h3
 clear h1 h2 h3
 have M : Hid (Below w.heap.size w w) := Below.refl _ _
 go_enter Tryz.func20, Tryz.ntmps20
 go_upto_region 1 with fail
 refine nmW ((w.alloc (.cells #[u0, u1, u2, u3, u4, u5, u6, u7] 28)).alloc (.cells #[v0, v1, v2, v3] 26)) fun w1 hv => ?_
 rw [← hv]
 replace M := al2W hv M
 clear hv
 refine cj8 (J1 M).1.d8 fun aa ab ac ad ae af ag ah => ?_
 go_wp2_with fail
 clear aa ab ac ad ae af ag ah
 refine (rsRight_x (o1 := o1) (o2 := o2) (b_ := true) (H1.out.keep (J2 M)) (H2.out.keep (J2 M)) HZ1.out HZ2.out HR.out).mono ?_
 rintro e w2 ⟨rfl, hb⟩
 replace M := gnM hb M
 clear hb
 refine cj4 (M.out.1).d4 fun ai aj ak al => ?_
 go_wp2_with fail
 clear ai aj ak al
 refine (fyRight_ok (o := o3) (b_ := false) (H3.out.keep (J2 M)) (by omega) (by omega) HO.out).mono ?_
 rintro e w3 ⟨rfl, hb⟩
 replace M := gnM hb M
 clear hb
 go_wp2_with fail
 go_ret
 exact ⟨rfl, (J2 M)⟩
theorem rsHas_x {u0 u1 u2 u3 u4 u5 u6 u7 v0 v1 v2 v3 : Value} {n1 m1 n2 m2 n3 m3 : Nat} {o1 o2 o3 : Option Rat} {b_ : Bool} {w : World} (h1 : FX w u0 u1 u2 u3 n1 m1 o1) (h2 : FX w u4 u5 u6 u7 n2 m2 o2) (h3 : FX w v0 v1 v2 v3 n3 m3 o3) (hz1 : fewF n1 m1 = true) (hz2 : fewF n2 m2 = true) (hz3 : fewF n3 m3 = true) (hb : hasX o1 o2 o3 = b_) :
  Calls Tryz.prog 20 #[.agg #[u0, u1, u2, u3, u4, u5, u6, u7], .agg #[v0, v1, v2, v3]] w fun e w' => e = .returned (.bool b_) ∧ Below w.heap.size w w' := by
 have k1 := few_le hz1
 have k2 := few_le hz2
 have k3 := few_le hz3
 subst hb
 cases hr : rightX o1 o2 with
 | false =>
  rw [show hasX o1 o2 o3 = false by cases o1 <;> cases o2 <;> cases o3 <;> simp_all [hasX, rightX]]
  exact rhasx_1 h1 h2 h3 hz1 hz2 hz3 hr
 | true =>
  cases o3 with
  | none =>
   rw [show hasX o1 o2 none = false by cases o1 <;> cases o2 <;> rfl]
   exact rhasx_2 h1 h2 h3 hz1 hz2 hz3 hr rfl
  | some x =>
   obtain ⟨p, q, rfl, rfl, hpq⟩ := right_some hr
   refine rsHas_q (G := w.heap.size) (Nat.le_refl _) h1.fq h2.fq (h1.fz (by omega) (by omega)) (h2.fz (by omega) (by omega)) hpq h3.fq (h3.fz (by omega) (by omega)) ?_
   show _ = (decide (p ≤ q) && _)
   rw [decide_eq_true hpq]; rfl
set_option maxRecDepth 100000 in
set_option maxHeartbeats 4000000 in
theorem rinsx_1 {u0 u1 u2 u3 u4 u5 u6 u7 v0 v1 v2 v3 v4 v5 v6 v7 : Value} {n1 m1 n2 m2 n3 m3 n4 m4 : Nat} {o1 o2 o3 o4 : Option Rat} {w : World} (h1 : FX w u0 u1 u2 u3 n1 m1 o1) (h2 : FX w u4 u5 u6 u7 n2 m2 o2) (h3 : FX w v0 v1 v2 v3 n3 m3 o3) (h4 : FX w v4 v5 v6 v7 n4 m4 o4) (hz1 : fewF n1 m1 = true) (hz2 : fewF n2 m2 = true) (hz3 : fewF n3 m3 = true) (hz4 : fewF n4 m4 = true) (hr : rightX o1 o2 = false) :
  Calls Tryz.prog 22 #[.agg #[u0, u1, u2, u3, u4, u5, u6, u7], .agg #[v0, v1, v2, v3, v4, v5, v6, v7]] w fun e w' => e = .returned (.bool false) ∧ Below w.heap.size w w' := by
 have HZ1 := Lib.hid hz1
 have HZ2 := Lib.hid hz2
 have HZ3 := Lib.hid hz3
 have HZ4 := Lib.hid hz4
 have k1 := few_le hz1
 have k2 := few_le hz2
 have k3 := few_le hz3
 have k4 := few_le hz4
 clear hz1 hz2 hz3 hz4
 have HR := Lib.hid hr; clear hr
 have H1 : Hid (FX w u0 u1 u2 u3 n1 m1 o1) := h1
 have H2 : Hid (FX w u4 u5 u6 u7 n2 m2 o2) := h2
 have H3 : Hid (FX w v0 v1 v2 v3 n3 m3 o3) := h3
 have H4 : Hid (FX w v4 v5 v6 v7 n4 m4 o4) := h4
 clear h1 h2 h3 h4
 have M : Hid (Below w.heap.size w w) := Below.refl _ _
 go_enter Tryz.func22, Tryz.ntmps22
 go_upto_region 1 with fail
 refine nmW ((w.alloc (.cells #[u0, u1, u2, u3, u4, u5, u6, u7] 28)).alloc (.cells #[v0, v1, v2, v3, v4, v5, v6, v7] 28)) fun w1 hv => ?_
 rw [← hv]
 replace M := al2W hv M
 clear hv
 refine cj8 (J1 M).1.d8 fun aa ab ac ad ae af ag ah => ?_
 go_wp2_with fail
 clear aa ab ac ad ae af ag ah
 refine (rsRight_x (o1 := o1) (o2 := o2) (b_ := false) (H1.out.keep (J2 M)) (H2.out.keep (J2 M)) HZ1.out HZ2.out HR.out).mono ?_
 rintro e w2 ⟨rfl, hb⟩
 replace M := gnM hb M
 clear hb
 go_wp2_with fail
 go_ret
 exact ⟨rfl, (J2 M)⟩
set_option maxRecDepth 100000 in
set_option maxHeartbeats 4000000 in
theorem rinsx_2 {u0 u1 u2 u3 u4 u5 u6 u7 v0 v1 v2 v3 v4 v5 v6 v7 : Value} {n1 m1 n2 m2 n3 m3 n4 m4 : Nat} {o1 o2 o3 o4 : Option Rat} {c1 c2 b_ : Bool} {w : World} (h1 : FX w u0 u1 u2 u3 n1 m1 o1) (h2 : FX w u4 u5 u6 u7 n2 m2 o2) (h3 : FX w v0 v1 v2 v3 n3 m3 o3) (h4 : FX w v4 v5 v6 v7 n4 m4 o4) (hz1 : fewF n1 m1 = true) (hz2 : fewF n2 m2 = true) (hz3 : fewF n3 m3 = true) (hz4 : fewF n4 m4 = true) (hr : rightX o1 o2 = true) (hc1 : hasX o3 o4 o1 = c1) (hc2 : hasX o3 o4 o2 = c2) (hb : (c1 && c2) = b_) :
  Calls Tryz.prog 22 #[.agg #[u0, u1, u2, u3, u4, u5, u6, u7], .agg #[v0, v1, v2, v3, v4, v5, v6, v7]] w fun e w' => e = .returned (.bool b_) ∧ Below w.heap.size w w' := by
 have HZ1 := Lib.hid hz1
 have HZ2 := Lib.hid hz2
 have HZ3 := Lib.hid hz3
 have HZ4 := Lib.hid hz4
 have k1 := few_le hz1
 have k2 := few_le hz2
 have k3 := few_le hz3
 have k4 := few_le hz4
 clear hz1 hz2 hz3 hz4
 have HR := Lib.hid hr; have HC1 := Lib.hid hc1; have HC2 := Lib.hid hc2; clear hr hc1 hc2; subst hb
 have H1 : Hid (FX w u0 u1 u2 u3 n1 m1 o1) := h1
 have H2 : Hid (FX w u4 u5 u6 u7 n2 m2 o2) := h2
 have H3 : Hid (FX w v0 v1 v2 v3 n3 m3 o3) := h3
 have H4 : Hid (FX w v4 v5 v6 v7 n4 m4 o4) := h4
 clear h1 h2 h3 h4
 have M : Hid (Below w.heap.size w w) := Below.refl _ _
 go_enter Tryz.func22, Tryz.ntmps22
 go_upto_region 1 with fail
 refine nmW ((w.alloc (.cells #[u0, u1, u2, u3, u4, u5, u6, u7] 28)).alloc (.cells #[v0, v1, v2, v3, v4, v5, v6, v7] 28)) fun w1 hv => ?_
 rw [← hv]
 replace M := al2W hv M
 clear hv
 refine cj8 (J1 M).1.d8 fun aa ab ac ad ae af ag ah => ?_
 go_wp2_with fail
 clear aa ab ac ad ae af ag ah
 refine (rsRight_x (o1 := o1) (o2 := o2) (b_ := true) (H1.out.keep (J2 M)) (H2.out.keep (J2 M)) HZ1.out HZ2.out HR.out).mono ?_
 rintro e w2 ⟨rfl, hb⟩
 replace M := gnM hb M
 clear hb
 refine cj8 (M.out.1).d8 fun ai aj ak al am ao ap aq => ?_
 refine cj8 (J1 M).1.d8 fun aa ab ac ad ae af ag ah => ?_
 go_wp2_with fail
 clear ai aj ak al am ao ap aq aa ab ac ad ae af ag ah
 refine (rsHas_x (o1 := o3) (o2 := o4) (o3 := o1) (b_ := c1) (H3.out.keep (J2 M)) (H4.out.keep (J2 M)) (H1.out.keep (J2 M)) HZ3.out HZ4.out HZ1.out HC1.out).mono ?_
 rintro e w3 ⟨rfl, hb⟩
 replace M := gnM hb M
 clear hb
 cases c1 with
 | false =>
  go_wp2_with fail
  go_ret
  exact ⟨rfl, (J2 M)⟩
 | true =>
  refine cj8 (M.out.1).d8 fun ai aj ak al am ao ap aq => ?_
  refine cj8 (J1 M).1.d8 fun aa ab ac ad ae af ag ah => ?_
  go_wp2_with fail
  clear ai aj ak al am ao ap aq aa ab ac ad ae af ag ah
  refine (rsHas_x (o1 := o3) (o2 := o4) (o3 := o2) (b_ := c2) (H3.out.keep (J2 M)) (H4.out.keep (J2 M)) (H2.out.keep (J2 M)) HZ3.out HZ4.out HZ2.out HC2.out).mono ?_
  rintro e w4 ⟨rfl, hb⟩
  replace M := gnM hb M
  clear hb
  go_wp2_with fail
  go_ret
  exact ⟨rfl, (J2 M)⟩
theorem ins_parts {o1 o2 o3 o4 : Option Rat} (hr : rightX o1 o2 = true) : (hasX o3 o4 o1 && hasX o3 o4 o2) = insX o1 o2 o3 o4 := by
  obtain ⟨p, q, rfl, rfl, hpq⟩ := right_some hr
  cases o3 with
  | none => rfl
  | some r =>
    cases o4 with
    | none => rfl
    | some s =>
      show ((decide (r ≤ s) && _) && (decide (r ≤ s) && _)) = ((decide (p ≤ q) && decide (r ≤ s)) && _)
      by_cases hrs : r ≤ s
      · rw [decide_eq_true hpq, decide_eq_true hrs, Bool.true_and, Bool.true_and, Bool.true_and]
        exact (ins_has hpq hrs).symm
      · rw [decide_eq_false hrs, Bool.false_and, Bool.and_false, Bool.false_and, Bool.false_and]
theorem rsInside_x {u0 u1 u2 u3 u4 u5 u6 u7 v0 v1 v2 v3 v4 v5 v6 v7 : Value} {n1 m1 n2 m2 n3 m3 n4 m4 : Nat} {o1 o2 o3 o4 : Option Rat} {b_ : Bool} {w : World} (h1 : FX w u0 u1 u2 u3 n1 m1 o1) (h2 : FX w u4 u5 u6 u7 n2 m2 o2) (h3 : FX w v0 v1 v2 v3 n3 m3 o3) (h4 : FX w v4 v5 v6 v7 n4 m4 o4) (hz1 : fewF n1 m1 = true) (hz2 : fewF n2 m2 = true) (hz3 : fewF n3 m3 = true) (hz4 : fewF n4 m4 = true) (hb : insX o1 o2 o3 o4 = b_) :
  Calls Tryz.prog 22 #[.agg #[u0, u1, u2, u3, u4, u5, u6, u7], .agg #[v0, v1, v2, v3, v4, v5, v6, v7]] w fun e w' => e = .returned (.bool b_) ∧ Below w.heap.size w w' := by
 subst hb
 cases hr : rightX o1 o2 with
 | false =>
  rw [show insX o1 o2 o3 o4 = false by cases o1 <;> cases o2 <;> cases o3 <;> cases o4 <;> simp_all [insX, rightX]]
  exact rinsx_1 h1 h2 h3 h4 hz1 hz2 hz3 hz4 hr
 | true => exact rinsx_2 h1 h2 h3 h4 hz1 hz2 hz3 hz4 hr rfl rfl (ins_parts hr)
set_option maxRecDepth 100000 in
set_option maxHeartbeats 4000000 in
theorem spSame_m {u0 u1 u2 u3 u4 u5 u6 u7 v0 v1 v2 v3 v4 v5 v6 v7 : Value} {b1 b2 b_ : Bool} {w : World} (h1 : Sm w u0 u1 u2 u3 v0 v1 v2 v3 b1) (h2 : Sm w u4 u5 u6 u7 v4 v5 v6 v7 b2) (hb : (b1 && b2) = b_) :
  Calls Tryz.prog 16 #[.agg #[u0, u1, u2, u3, u4, u5, u6, u7], .agg #[v0, v1, v2, v3, v4, v5, v6, v7]] w fun e w' => e = .returned (.bool b_) ∧ Below w.heap.size w w' := by
 subst hb
 have HS1 : Hid (Sm w u0 u1 u2 u3 v0 v1 v2 v3 b1) := h1
 have HS2 : Hid (Sm w u4 u5 u6 u7 v4 v5 v6 v7 b2) := h2
 clear h1 h2
 have M : Hid (Below w.heap.size w w) := Below.refl _ _
 go_enter Tryz.func16, Tryz.ntmps16
 go_upto_region 1 with fail
 refine nmW ((w.alloc (.cells #[u0, u1, u2, u3, u4, u5, u6, u7] 28)).alloc (.cells #[v0, v1, v2, v3, v4, v5, v6, v7] 28)) fun w1 hv => ?_
 rw [← hv]
 replace M := al2W hv M
 clear hv
 refine cj8 (J1 M).1.d8 fun aa ab ac ad ae af ag ah => ?_
 refine cj8 (M.out.1).d8 fun ai aj ak al am ao ap aq => ?_
 go_wp2_with fail
 clear aa ab ac ad ae af ag ah ai aj ak al am ao ap aq
 refine (fsame_sm (b_ := b1) (HS1.out.keep (J2 M))).mono ?_
 rintro e w2 ⟨rfl, hb⟩
 replace M := gnM hb M
 clear hb
 cases b1 with
 | false =>
  go_wp2_with fail
  go_ret
  exact ⟨rfl, (J2 M)⟩
 | true =>
  refine cj8 (J1 M).1.d8 fun aa ab ac ad ae af ag ah => ?_
  refine cj8 (M.out.1).d8 fun ai aj ak al am ao ap aq => ?_
  go_wp2_with fail
  clear aa ab ac ad ae af ag ah ai aj ak al am ao ap aq
  refine (fsame_sm (b_ := b2) (HS2.out.keep (J2 M))).mono ?_
  rintro e w3 ⟨rfl, hb⟩
  replace M := gnM hb M
  clear hb
  go_wp2_with fail
  go_ret
  exact ⟨rfl, (J2 M)⟩
set_option maxRecDepth 100000 in
set_option maxHeartbeats 4000000 in
theorem rsSame_m {u0 u1 u2 u3 u4 u5 u6 u7 v0 v1 v2 v3 v4 v5 v6 v7 : Value} {b1 b2 b_ : Bool} {w : World} (h1 : Sm w u0 u1 u2 u3 v0 v1 v2 v3 b1) (h2 : Sm w u4 u5 u6 u7 v4 v5 v6 v7 b2) (hb : (b1 && b2) = b_) :
  Calls Tryz.prog 9 #[.agg #[u0, u1, u2, u3, u4, u5, u6, u7], .agg #[v0, v1, v2, v3, v4, v5, v6, v7]] w fun e w' => e = .returned (.bool b_) ∧ Below w.heap.size w w' := by
 subst hb
 have HS1 : Hid (Sm w u0 u1 u2 u3 v0 v1 v2 v3 b1) := h1
 have HS2 : Hid (Sm w u4 u5 u6 u7 v4 v5 v6 v7 b2) := h2
 clear h1 h2
 have M : Hid (Below w.heap.size w w) := Below.refl _ _
 go_enter Tryz.func9, Tryz.ntmps9
 go_upto_region 1 with fail
 refine nmW ((w.alloc (.cells #[u0, u1, u2, u3, u4, u5, u6, u7] 28)).alloc (.cells #[v0, v1, v2, v3, v4, v5, v6, v7] 28)) fun w1 hv => ?_
 rw [← hv]
 replace M := al2W hv M
 clear hv
 refine cj8 (J1 M).1.d8 fun aa ab ac ad ae af ag ah => ?_
 refine cj8 (M.out.1).d8 fun ai aj ak al am ao ap aq => ?_
 go_wp2_with fail
 clear aa ab ac ad ae af ag ah ai aj ak al am ao ap aq
 refine (rfsame_sm (b_ := b1) (HS1.out.keep (J2 M))).mono ?_
 rintro e w2 ⟨rfl, hb⟩
 replace M := gnM hb M
 clear hb
 cases b1 with
 | false =>
  go_wp2_with fail
  go_ret
  exact ⟨rfl, (J2 M)⟩
 | true =>
  refine cj8 (J1 M).1.d8 fun aa ab ac ad ae af ag ah => ?_
  refine cj8 (M.out.1).d8 fun ai aj ak al am ao ap aq => ?_
  go_wp2_with fail
  clear aa ab ac ad ae af ag ah ai aj ak al am ao ap aq
  refine (rfsame_sm (b_ := b2) (HS2.out.keep (J2 M))).mono ?_
  rintro e w3 ⟨rfl, hb⟩
  replace M := gnM hb M
  clear hb
  go_wp2_with fail
  go_ret
  exact ⟨rfl, (J2 M)⟩
end Go.Proofs.YtjbfngjlepafgaaGreat
namespace Go.Proofs.YtjbfngjlepafgaaGreat
open Go.RowKit Go.Lib
variable {G : Nat}

set_option maxRecDepth 100000 in
set_option maxHeartbeats 40000000 in
theorem tells_all {d0 d1 d2 d3 d4 d5 d6 d7 v0 v1 v2 v3 v4 v5 v6 v7 e0 e1 e2 e3 : Value} {n1 m1 n2 m2 n3 m3 n4 m4 n5 m5 : Nat} {o1 o2 o3 o4 o5 : Option Rat} {b1 b2 c0 c1 : Bool} {w : World} (hG : G ≤ w.heap.size) (h1 : FY G w d0 d1 d2 d3 n1 m1 o1) (h2 : FY G w d4 d5 d6 d7 n2 m2 o2) (h3 : FY G w v0 v1 v2 v3 n3 m3 o3) (h4 : FY G w v4 v5 v6 v7 n4 m4 o4) (h5 : FY G w e0 e1 e2 e3 n5 m5 o5) (s1 : Sm w d0 d1 d2 d3 v0 v1 v2 v3 b1) (s2 : Sm w d4 d5 d6 d7 v4 v5 v6 v7 b2) (hc0_ : few4 n1 m1 n2 m2 n3 m3 n4 m4 = c0) (hc1_ : fewF n5 m5 = c1) :
  Calls Tryz.prog 3 #[.agg #[d0, d1, d2, d3, d4, d5, d6, d7], .agg #[v0, v1, v2, v3, v4, v5, v6, v7], .agg #[e0, e1, e2, e3]] w fun e w' => e = .returned (.bool true) ∧ Below w.heap.size w w' := by
 have HC0 := Lib.hid hc0_; have HC1 := Lib.hid hc1_; clear hc0_ hc1_
 obtain ⟨hl, hh, he, hhull_⟩ : ∃ x y z, hullX o1 o2 o3 o4 = (x, y, z) := ⟨_, _, _, rfl⟩
 have Hhull := Lib.hid hhull_; clear hhull_
 obtain ⟨ml, mh, mb, hmeet_⟩ : ∃ x y z, meetX o1 o2 o3 o4 = (x, y, z) := ⟨_, _, _, rfl⟩
 have Hmeet := Lib.hid hmeet_; clear hmeet_
 obtain ⟨nl, nh, hneg_⟩ : ∃ x y, negX o1 o2 = (x, y) := ⟨_, _, rfl⟩
 have Hneg := Lib.hid hneg_; clear hneg_
 obtain ⟨wo, hwid_⟩ : ∃ x, widX o1 o2 = x := ⟨_, rfl⟩
 have Hwid := Lib.hid hwid_; clear hwid_
 obtain ⟨ra, hra_⟩ : ∃ b, (rightX o1 o2) = b := ⟨_, rfl⟩
 have Hra := Lib.hid hra_; clear hra_
 obtain ⟨ha, hha_⟩ : ∃ b, (hasX o1 o2 o5) = b := ⟨_, rfl⟩
 have Hha := Lib.hid hha_; clear hha_
 obtain ⟨ia, hia_⟩ : ∃ b, (insX o1 o2 o3 o4) = b := ⟨_, rfl⟩
 have Hia := Lib.hid hia_; clear hia_
 obtain ⟨sa, hsa_⟩ : ∃ b, (b1 && b2) = b := ⟨_, rfl⟩
 have Hsa := Lib.hid hsa_; clear hsa_
 have H1 : Hid (FY G w d0 d1 d2 d3 n1 m1 o1) := h1
 have H2 : Hid (FY G w d4 d5 d6 d7 n2 m2 o2) := h2
 have H3 : Hid (FY G w v0 v1 v2 v3 n3 m3 o3) := h3
 have H4 : Hid (FY G w v4 v5 v6 v7 n4 m4 o4) := h4
 have H5 : Hid (FY G w e0 e1 e2 e3 n5 m5 o5) := h5
 have HS1 : Hid (Sm w d0 d1 d2 d3 v0 v1 v2 v3 b1) := s1
 have HS2 : Hid (Sm w d4 d5 d6 d7 v4 v5 v6 v7 b2) := s2
 clear h1 h2 h3 h4 h5 s1 s2
 have M : Hid (Below w.heap.size w w) := Below.refl _ _
 go_enter Tryz.func3, Tryz.ntmps3
 go_upto_region 1 with fail
 refine nmW (((w.alloc (.cells #[d0, d1, d2, d3, d4, d5, d6, d7] 28)).alloc (.cells #[v0, v1, v2, v3, v4, v5, v6, v7] 28)).alloc (.cells #[e0, e1, e2, e3] 26)) fun w1 hv => ?_
 rw [← hv]
 replace M := al3W hv M
 clear hv
 go_wp2_with fail
 refine (spanSmall_ok (G := G) (Nat.le_trans hG (J3 M).size)).mono ?_
 rintro e w2 ⟨rfl, hb⟩
 replace M := gnM hb M
 clear hb
 refine cj8 (J2 M).1.d8 fun aa ab ac ad ae af ag ah => ?_
 refine cj8 (J1 M).1.d8 fun ai aj ak al am ao ap aq => ?_
 go_wp2_with fail
 clear aa ab ac ad ae af ag ah ai aj ak al am ao ap aq
 refine (few_s (o1 := o1) (o2 := o2) (o3 := o3) (o4 := o4) (b_ := c0) ((H1.out.keep (J3 M))).1 ((H2.out.keep (J3 M))).1 ((H3.out.keep (J3 M))).1 ((H4.out.keep (J3 M))).1 HC0.out).mono ?_
 rintro e w3 ⟨rfl, hb⟩
 replace M := gnM hb M
 clear hb
 cases c0 with
 | false =>
  go_wp2_with fail
  go_ret
  exact ⟨rfl, (J3 M)⟩
 | true =>
  refine cj4 (M.out.1).d4 fun ar au av aw => ?_
  go_wp2_with fail
  clear ar au av aw
  refine (fxFew_ok (o := o5) (k := 4) (r := c1) ((H5.out.keep (J3 M))).1 HC1.out).mono ?_
  rintro e w4 ⟨rfl, hb⟩
  replace M := gnM hb M
  clear hb
  cases c1 with
  | false =>
   go_wp2_with fail
   go_ret
   exact ⟨rfl, (J3 M)⟩
  | true =>
   go_upto_region 4 with fail
   have hz1 := few4_1 HC0.out; have hz2 := few4_2 HC0.out; have hz3 := few4_3 HC0.out; have hz4 := few4_4 HC0.out
   have HZ1 := Lib.hid hz1; have HZ2 := Lib.hid hz2; have HZ3 := Lib.hid hz3; have HZ4 := Lib.hid hz4; clear hz1 hz2 hz3 hz4
   have HOH := Lib.hid (hullX_oz H1.out H2.out H3.out H4.out HZ1.out HZ2.out HZ3.out HZ4.out Hhull.out)
   have HOM := Lib.hid (meetX_oz H1.out H2.out H3.out H4.out HZ1.out HZ2.out HZ3.out HZ4.out Hmeet.out)
   have HON := Lib.hid (negX_oz H1.out H2.out HZ1.out HZ2.out Hneg.out)
   have HOW := Lib.hid (widX_oz H1.out H2.out HZ1.out HZ2.out Hwid.out)
   have HOP : Hid (Oz o5 12) := by
       cases o5 with
       | none => exact Oz.none_
       | some q => exact Oz.some_ ((H5.out.1.z4 HC1.out).mono (by omega))
   go_wp2_with fail
   go_loopw [8] (fun i8 wr => ∃ (n : Nat), i8 = .int .i64 (n : Int) ∧ Hid (Bx wr (w.heap.size + 1 + 1) 26 #[e0, e1, e2, e3] ∧ Bx wr (w.heap.size + 1) 28 #[v0, v1, v2, v3, v4, v5, v6, v7] ∧ Bx wr w.heap.size 28 #[d0, d1, d2, d3, d4, d5, d6, d7] ∧ Below w.heap.size w wr)) (fun i8 _ => 6 - (RowKit.intOf i8).toNat)
   case atStart =>
    exact ⟨0, rfl, Lib.hid (aI (M.out.1) (aI (J1 M).1 (aI (J2 M).1 (J3 M))))⟩
   case round =>
    obtain ⟨w5, rfl⟩ : ∃ x, x = wr := ⟨_, rfl⟩
    clear M
    obtain ⟨n, rfl, M⟩ := hrel
    by_cases hlt : n < 6
    ·
     have hI : (n : Int) < 6 := by omega
     obtain ⟨lo, hi, er, ho_⟩ : ∃ x y z, opX n o1 o2 o3 o4 = (x, y, z) := ⟨_, _, _, rfl⟩
     have HO := Lib.hid ho_; clear ho_
     have HOZ := Lib.hid (opX_oz H1.out H2.out H3.out H4.out HZ1.out HZ2.out HZ3.out HZ4.out HO.out)
     refine cj8 (J2 M).1.d8 fun aa ab ac ad ae af ag ah => ?_
     refine cj8 (J1 M).1.d8 fun ai aj ak al am ao ap aq => ?_
     go_wp2_with fail
     clear aa ab ac ad ae af ag ah ai aj ak al am ao ap aq
     refine (play_u (G := G) (i := (n : Int)) (o1 := o1) (o2 := o2) (o3 := o3) (o4 := o4) (lo := lo) (hi := hi) (er := er) (Nat.le_trans hG (J3 M).size) (H1.out.keep (J3 M)) (H2.out.keep (J3 M)) (H3.out.keep (J3 M)) (H4.out.keep (J3 M)) HZ1.out HZ2.out HZ3.out HZ4.out hlt rfl HO.out).mono ?_
     rintro e w6 ⟨x_1, x_2, x_3, x_4, x_5, x_6, x_7, x_8, rfl, hd9, hd10, hb⟩
     replace M := ad2M hd9 hd10 hb M
     clear hb hd9 hd10
     refine cj4 (TQ.st (M.out.1)) fun ax ay az ba => ?_
     refine cj4 (TQ.st (J1 M).1) fun bb bc bd bf => ?_
     go_upto_region 8 with fail
     clear ax ay az ba bb bc bd bf
     refine nmW (w6.alloc (.cells #[x_1, x_2, x_3, x_4, x_5, x_6, x_7, x_8] 28)) fun w7 hv => ?_
     rw [← hv]
     have ow3_ : w.heap.size + 1 + 1 < w6.heap.size := ((J2 M).1).lt
     replace M := alM hv M
     clear hv
     refine cj8 (J5 M).1.d8 fun aa ab ac ad ae af ag ah => ?_
     refine cj8 (J4 M).1.d8 fun ai aj ak al am ao ap aq => ?_
     go_wp2_with fail
     clear aa ab ac ad ae af ag ah ai aj ak al am ao ap aq
     refine (rboth_u (G := G) (i := (n : Int)) (o1 := o1) (o2 := o2) (o3 := o3) (o4 := o4) (lo := lo) (hi := hi) (er := er) (Nat.le_trans hG (J6 M).size) (H1.out.keep (J6 M)) (H2.out.keep (J6 M)) (H3.out.keep (J6 M)) (H4.out.keep (J6 M)) HZ1.out HZ2.out HZ3.out HZ4.out hlt rfl HO.out).mono ?_
     rintro e w8 ⟨x_11, x_12, x_13, x_14, x_15, x_16, x_17, x_18, rfl, hd19, hd20, hb⟩
     replace M := ad2M hd19 hd20 hb M
     clear hb hd19 hd20
     refine cj4 (TQ.st (M.out.1)) fun bg bh bi bj => ?_
     refine cj4 (TQ.st (J1 M).1) fun bk bl bm bn => ?_
     go_upto_region 9 with fail
     clear bg bh bi bj bk bl bm bn
     refine nmW (w8.alloc (.cells #[x_11, x_12, x_13, x_14, x_15, x_16, x_17, x_18] 28)) fun w9 hv => ?_
     rw [← hv]
     have ow4_ : w6.heap.size < w8.heap.size := ((J2 M).1).lt
     replace M := alM hv M
     clear hv
     refine cj8 (J3 M).1.d8 fun bo bp bq br bs bt bu bv => ?_
     refine cj8 (M.out.1).d8 fun bw bx bz ca cb cc cd ce => ?_
     go_wp2_with fail
     clear bo bp bq br bs bt bu bv bw bx bz ca cb cc cd ce
     refine (spSame_o (G := G) (o1 := lo) (o2 := hi) (o3 := lo) (o4 := hi) (b_ := true) (J4 M).1 (J5 M).1 (J1 M).1 (J2 M).1 (Oz.mono HOZ.out.1 (by omega)) (Oz.mono HOZ.out.2 (by omega)) (Oz.mono HOZ.out.1 (by omega)) (Oz.mono HOZ.out.2 (by omega)) (by simp)).mono ?_
     rintro e w10 ⟨rfl, hb⟩
     replace M := gnM hb M
     clear hb
     go_wp2_with fail
     go_roundw
     case rel => exact ⟨(n + 1), by go_num, Lib.hid (aI (J6 M).1 (aI (J7 M).1 (aI (J8 M).1 (J9 M))))⟩
     case measure => simp [RowKit.intOf] <;> omega
    ·
     have hI : ¬ (n : Int) < 6 := by omega
     refine cj8 (J2 M).1.d8 fun aa ab ac ad ae af ag ah => ?_
     refine cj8 (J1 M).1.d8 fun ai aj ak al am ao ap aq => ?_
     go_wp2_with fail
     clear aa ab ac ad ae af ag ah ai aj ak al am ao ap aq
     refine (spHull_u (G := G) (o1 := o1) (o2 := o2) (o3 := o3) (o4 := o4) (lo := hl) (hi := hh) (er := he) (Nat.le_trans hG (J3 M).size) (H1.out.keep (J3 M)) (H2.out.keep (J3 M)) (H3.out.keep (J3 M)) (H4.out.keep (J3 M)) HZ1.out HZ2.out HZ3.out HZ4.out Hhull.out).mono ?_
     rintro e w6 ⟨x_21, x_22, x_23, x_24, x_25, x_26, x_27, x_28, rfl, hd29, hd30, hb⟩
     replace M := ad2M hd29 hd30 hb M
     clear hb hd29 hd30
     refine cj4 (TQ.st (M.out.1)) fun cf cg ch ci => ?_
     refine cj4 (TQ.st (J1 M).1) fun cj ck cl cm => ?_
     go_upto_region 12 with fail
     clear cf cg ch ci cj ck cl cm
     refine nmW (w6.alloc (.cells #[x_21, x_22, x_23, x_24, x_25, x_26, x_27, x_28] 28)) fun w7 hv => ?_
     rw [← hv]
     have ow3_ : w.heap.size + 1 + 1 < w6.heap.size := ((J2 M).1).lt
     replace M := alM hv M
     clear hv
     refine cj8 (J5 M).1.d8 fun aa ab ac ad ae af ag ah => ?_
     refine cj8 (J4 M).1.d8 fun ai aj ak al am ao ap aq => ?_
     go_wp2_with fail
     clear aa ab ac ad ae af ag ah ai aj ak al am ao ap aq
     refine (rsHull_u (G := G) (o1 := o1) (o2 := o2) (o3 := o3) (o4 := o4) (lo := hl) (hi := hh) (er := he) (Nat.le_trans hG (J6 M).size) (H1.out.keep (J6 M)) (H2.out.keep (J6 M)) (H3.out.keep (J6 M)) (H4.out.keep (J6 M)) HZ1.out HZ2.out HZ3.out HZ4.out Hhull.out).mono ?_
     rintro e w8 ⟨x_31, x_32, x_33, x_34, x_35, x_36, x_37, x_38, rfl, hd39, hd40, hb⟩
     replace M := ad2M hd39 hd40 hb M
     clear hb hd39 hd40
     refine cj4 (TQ.st (M.out.1)) fun cn co cp cq => ?_
     refine cj4 (TQ.st (J1 M).1) fun cr cs ct cu => ?_
     go_upto_region 13 with fail
     clear cn co cp cq cr cs ct cu
     refine nmW (w8.alloc (.cells #[x_31, x_32, x_33, x_34, x_35, x_36, x_37, x_38] 28)) fun w9 hv => ?_
     rw [← hv]
     have ow4_ : w6.heap.size < w8.heap.size := ((J2 M).1).lt
     replace M := alM hv M
     clear hv
     refine cj8 (J8 M).1.d8 fun aa ab ac ad ae af ag ah => ?_
     refine cj8 (J7 M).1.d8 fun ai aj ak al am ao ap aq => ?_
     go_wp2_with fail
     clear aa ab ac ad ae af ag ah ai aj ak al am ao ap aq
     refine (spMeet_u (G := G) (o1 := o1) (o2 := o2) (o3 := o3) (o4 := o4) (lo := ml) (hi := mh) (mb := mb) (Nat.le_trans hG (J9 M).size) (H1.out.keep (J9 M)) (H2.out.keep (J9 M)) (H3.out.keep (J9 M)) (H4.out.keep (J9 M)) HZ1.out HZ2.out HZ3.out HZ4.out Hmeet.out).mono ?_
     rintro e w10 ⟨x_41, x_42, x_43, x_44, x_45, x_46, x_47, x_48, rfl, hd49, hd50, hb⟩
     replace M := ad2M hd49 hd50 hb M
     clear hb hd49 hd50
     refine cj4 (TQ.st (M.out.1)) fun cv cw cx cy => ?_
     refine cj4 (TQ.st (J1 M).1) fun cz da db dc => ?_
     go_upto_region 14 with fail
     clear cv cw cx cy cz da db dc
     refine nmW (w10.alloc (.cells #[x_41, x_42, x_43, x_44, x_45, x_46, x_47, x_48] 28)) fun w11 hv => ?_
     rw [← hv]
     have ow5_ : w8.heap.size < w10.heap.size := ((J2 M).1).lt
     replace M := alM hv M
     clear hv
     refine cj8 (J11 M).1.d8 fun aa ab ac ad ae af ag ah => ?_
     refine cj8 (J10 M).1.d8 fun ai aj ak al am ao ap aq => ?_
     go_wp2_with fail
     clear aa ab ac ad ae af ag ah ai aj ak al am ao ap aq
     refine (rsMeet_u (G := G) (o1 := o1) (o2 := o2) (o3 := o3) (o4 := o4) (lo := ml) (hi := mh) (mb := mb) (Nat.le_trans hG (J12 M).size) (H1.out.keep (J12 M)) (H2.out.keep (J12 M)) (H3.out.keep (J12 M)) (H4.out.keep (J12 M)) HZ1.out HZ2.out HZ3.out HZ4.out Hmeet.out).mono ?_
     rintro e w12 ⟨x_51, x_52, x_53, x_54, x_55, x_56, x_57, x_58, rfl, hd59, hd60, hb⟩
     replace M := ad2M hd59 hd60 hb M
     clear hb hd59 hd60
     refine cj4 (TQ.st (M.out.1)) fun dd de df dg => ?_
     refine cj4 (TQ.st (J1 M).1) fun dh di dj dk => ?_
     go_wp2_with fail
     clear dd de df dg dh di dj dk
     refine nmW (w12.alloc (.cells #[x_51, x_52, x_53, x_54, x_55, x_56, x_57, x_58] 28)) fun w13 hv => ?_
     rw [← hv]
     have ow6_ : w10.heap.size < w12.heap.size := ((J2 M).1).lt
     replace M := alM hv M
     clear hv
     refine nmW w13.drew fun w14 hv => ?_
     replace M := drM hv M
     refine wp_region_held_drew (S := (fun w' => w'.cell? ⟨w.heap.size, 0, none⟩ = some (d0) ∧ w'.cell? ⟨w.heap.size, 1, none⟩ = some (d1) ∧ w'.cell? ⟨w.heap.size, 2, none⟩ = some (d2) ∧ w'.cell? ⟨w.heap.size, 3, none⟩ = some (d3) ∧ w'.cell? ⟨w.heap.size, 4, none⟩ = some (d4) ∧ w'.cell? ⟨w.heap.size, 5, none⟩ = some (d5) ∧ w'.cell? ⟨w.heap.size, 6, none⟩ = some (d6) ∧ w'.cell? ⟨w.heap.size, 7, none⟩ = some (d7) ∧ w'.cell? ⟨w.heap.size + 1, 0, none⟩ = some (v0) ∧ w'.cell? ⟨w.heap.size + 1, 1, none⟩ = some (v1) ∧ w'.cell? ⟨w.heap.size + 1, 2, none⟩ = some (v2) ∧ w'.cell? ⟨w.heap.size + 1, 3, none⟩ = some (v3) ∧ w'.cell? ⟨w.heap.size + 1, 4, none⟩ = some (v4) ∧ w'.cell? ⟨w.heap.size + 1, 5, none⟩ = some (v5) ∧ w'.cell? ⟨w.heap.size + 1, 6, none⟩ = some (v6) ∧ w'.cell? ⟨w.heap.size + 1, 7, none⟩ = some (v7) ∧ w'.cell? ⟨w6.heap.size, 0, none⟩ = some (x_21) ∧ w'.cell? ⟨w6.heap.size, 1, none⟩ = some (x_22) ∧ w'.cell? ⟨w6.heap.size, 2, none⟩ = some (x_23) ∧ w'.cell? ⟨w6.heap.size, 3, none⟩ = some (x_24) ∧ w'.cell? ⟨w6.heap.size, 4, none⟩ = some (x_25) ∧ w'.cell? ⟨w6.heap.size, 5, none⟩ = some (x_26) ∧ w'.cell? ⟨w6.heap.size, 6, none⟩ = some (x_27) ∧ w'.cell? ⟨w6.heap.size, 7, none⟩ = some (x_28) ∧ w'.cell? ⟨w8.heap.size, 0, none⟩ = some (x_31) ∧ w'.cell? ⟨w8.heap.size, 1, none⟩ = some (x_32) ∧ w'.cell? ⟨w8.heap.size, 2, none⟩ = some (x_33) ∧ w'.cell? ⟨w8.heap.size, 3, none⟩ = some (x_34) ∧ w'.cell? ⟨w8.heap.size, 4, none⟩ = some (x_35) ∧ w'.cell? ⟨w8.heap.size, 5, none⟩ = some (x_36) ∧ w'.cell? ⟨w8.heap.size, 6, none⟩ = some (x_37) ∧ w'.cell? ⟨w8.heap.size, 7, none⟩ = some (x_38) ∧ w'.cell? ⟨w10.heap.size, 0, none⟩ = some (x_41) ∧ w'.cell? ⟨w10.heap.size, 1, none⟩ = some (x_42) ∧ w'.cell? ⟨w10.heap.size, 2, none⟩ = some (x_43) ∧ w'.cell? ⟨w10.heap.size, 3, none⟩ = some (x_44) ∧ w'.cell? ⟨w10.heap.size, 4, none⟩ = some (x_45) ∧ w'.cell? ⟨w10.heap.size, 5, none⟩ = some (x_46) ∧ w'.cell? ⟨w10.heap.size, 6, none⟩ = some (x_47) ∧ w'.cell? ⟨w10.heap.size, 7, none⟩ = some (x_48) ∧ w'.cell? ⟨w12.heap.size, 0, none⟩ = some (x_51) ∧ w'.cell? ⟨w12.heap.size, 1, none⟩ = some (x_52) ∧ w'.cell? ⟨w12.heap.size, 2, none⟩ = some (x_53) ∧ w'.cell? ⟨w12.heap.size, 3, none⟩ = some (x_54) ∧ w'.cell? ⟨w12.heap.size, 4, none⟩ = some (x_55) ∧ w'.cell? ⟨w12.heap.size, 5, none⟩ = some (x_56) ∧ w'.cell? ⟨w12.heap.size, 6, none⟩ = some (x_57) ∧ w'.cell? ⟨w12.heap.size, 7, none⟩ = some (x_58))) (by kernel_rfl) (by rw [← hv]; exact ((J14 M).1.t8 ((J13 M).1.t8 ((J9 M).1.t8 ((J6 M).1.t8 ((J3 M).1.t8 ((M.out.1).d8))))))) (fun hH61 => ?_)
     rw [← hv] at hH61 ⊢
     clear hv
     refine tk at0 ?_
     refine tk at1 ?_
     refine wpAnyH_ready (rs := [2]) (by kernel_rfl) (by simp) ?_
     refine AllReadyH.cons at2 (fun K hK => ?_) AllReadyH.nil
     go_simp
     refine (spSame_o (G := G) (o1 := hl) (o2 := hh) (o3 := hl) (o4 := hh) (b_ := true) (J10 M).1 (J11 M).1 (J7 M).1 (J8 M).1 (Oz.mono HOH.out.1 (by omega)) (Oz.mono HOH.out.2 (by omega)) (Oz.mono HOH.out.1 (by omega)) (Oz.mono HOH.out.2 (by omega)) (by simp)).mono ?_
     rintro e w15 ⟨rfl, hb⟩
     replace M := gnM hb M
     clear hb
     (try go_wp2_with fail)
     refine hK.out _ _ (((J14 M).1.t8 ((J13 M).1.t8 ((J9 M).1.t8 ((J6 M).1.t8 ((J3 M).1.t8 ((M.out.1).d8))))))) (fun hH62 => ?_)
     clear hK K hH61
     (try simp only [Act.put, List.setIfInBounds_toArray, List.set_cons_zero, List.set_cons_succ])
     refine tk at3 ?_
     refine tk at4 ?_
     refine tk at5 ?_
     refine tk at6 ?_
     refine tk at7 ?_
     refine tk at8 ?_
     refine tk at9 ?_
     refine tk at10 ?_
     refine tk at11 ?_
     refine wpAnyH_ready (rs := [12]) (by kernel_rfl) (by simp) ?_
     refine AllReadyH.cons at12 (fun K hK => ?_) AllReadyH.nil
     go_simp
     refine (spSame_o (G := G) (o1 := ml) (o2 := mh) (o3 := ml) (o4 := mh) (b_ := true) (J4 M).1 (J5 M).1 (J1 M).1 (J2 M).1 (Oz.mono HOM.out.1 (by omega)) (Oz.mono HOM.out.2 (by omega)) (Oz.mono HOM.out.1 (by omega)) (Oz.mono HOM.out.2 (by omega)) (by simp)).mono ?_
     rintro e w16 ⟨rfl, hb⟩
     replace M := gnM hb M
     clear hb
     (try go_wp2_with fail)
     refine hK.out _ _ (((J14 M).1.t8 ((J13 M).1.t8 ((J9 M).1.t8 ((J6 M).1.t8 ((J3 M).1.t8 ((M.out.1).d8))))))) (fun hH63 => ?_)
     clear hK K hH62
     (try simp only [Act.put, List.setIfInBounds_toArray, List.set_cons_zero, List.set_cons_succ])
     refine tk at13 ?_
     refine tk at14 ?_
     refine tk at15 ?_
     refine tk at16 ?_
     refine tk at17 ?_
     refine tk at18 ?_
     refine tk at19 ?_
     refine tk at20 ?_
     refine tk at21 ?_
     refine tk at23 ?_
     refine wpAnyH_ready (rs := [22]) (by kernel_rfl) (by simp) ?_
     refine AllReadyH.cons at22 (fun K hK => ?_) AllReadyH.nil
     go_simp
     refine (spRight_x (o1 := o1) (o2 := o2) (b_ := ra) ((H1.out.keep (J15 M))).1 ((H2.out.keep (J15 M))).1 HZ1.out HZ2.out Hra.out).mono ?_
     rintro e w17 ⟨rfl, hb⟩
     replace M := gnM hb M
     clear hb
     (try go_wp2_with fail)
     refine hK.out _ _ (((J14 M).1.t8 ((J13 M).1.t8 ((J9 M).1.t8 ((J6 M).1.t8 ((J3 M).1.t8 ((M.out.1).d8))))))) (fun hH64 => ?_)
     clear hK K hH63
     (try simp only [Act.put, List.setIfInBounds_toArray, List.set_cons_zero, List.set_cons_succ])
     refine wpAnyH_ready (rs := [24]) (by kernel_rfl) (by simp) ?_
     refine AllReadyH.cons at24 (fun K hK => ?_) AllReadyH.nil
     go_simp
     refine (rsRight_x (o1 := o1) (o2 := o2) (b_ := ra) ((H1.out.keep (J15 M))).1 ((H2.out.keep (J15 M))).1 HZ1.out HZ2.out Hra.out).mono ?_
     rintro e w18 ⟨rfl, hb⟩
     replace M := gnM hb M
     clear hb
     (try go_wp2_with fail)
     refine hK.out _ _ (((J14 M).1.t8 ((J13 M).1.t8 ((J9 M).1.t8 ((J6 M).1.t8 ((J3 M).1.t8 ((M.out.1).d8))))))) (fun hH65 => ?_)
     clear hK K hH64
     (try simp only [Act.put, List.setIfInBounds_toArray, List.set_cons_zero, List.set_cons_succ])
     refine tk at25 ?_
     refine tk at26 ?_
     refine tk at27 ?_
     refine tk at28 ?_
     refine tk at29 ?_
     refine tk at31 ?_
     refine tk at32 ?_
     refine wpAnyH_ready (rs := [30]) (by kernel_rfl) (by simp) ?_
     refine AllReadyH.cons at30 (fun K hK => ?_) AllReadyH.nil
     go_simp
     refine (spSame_m (b_ := sa) (HS1.out.keep (J15 M)) (HS2.out.keep (J15 M)) Hsa.out).mono ?_
     rintro e w19 ⟨rfl, hb⟩
     replace M := gnM hb M
     clear hb
     (try go_wp2_with fail)
     refine hK.out _ _ (((J14 M).1.t8 ((J13 M).1.t8 ((J9 M).1.t8 ((J6 M).1.t8 ((J3 M).1.t8 ((M.out.1).d8))))))) (fun hH66 => ?_)
     clear hK K hH65
     (try simp only [Act.put, List.setIfInBounds_toArray, List.set_cons_zero, List.set_cons_succ])
     refine wpAnyH_ready (rs := [33]) (by kernel_rfl) (by simp) ?_
     refine AllReadyH.cons at33 (fun K hK => ?_) AllReadyH.nil
     go_simp
     refine (rsSame_m (b_ := sa) (HS1.out.keep (J15 M)) (HS2.out.keep (J15 M)) Hsa.out).mono ?_
     rintro e w20 ⟨rfl, hb⟩
     replace M := gnM hb M
     clear hb
     (try go_wp2_with fail)
     refine hK.out _ _ (((J14 M).1.t8 ((J13 M).1.t8 ((J9 M).1.t8 ((J6 M).1.t8 ((J3 M).1.t8 ((M.out.1).d8))))))) (fun hH67 => ?_)
     clear hK K hH66
     (try simp only [Act.put, List.setIfInBounds_toArray, List.set_cons_zero, List.set_cons_succ])
     refine tk at34 ?_
     refine tk at35 ?_
     refine wpAnyH_done (by kernel_rfl) ?_ _
     clear hH67
     go_wp2_with fail
     replace M := Lib.hid (aI (J12 M).1 (aI (J13 M).1 (aI (J14 M).1 (J15 M))))
     refine nmW w20.drew fun w21 hv => ?_
     replace M := drM hv M
     refine wp_region_held_drew (S := (fun w' => w'.cell? ⟨w.heap.size, 0, none⟩ = some (d0) ∧ w'.cell? ⟨w.heap.size, 1, none⟩ = some (d1) ∧ w'.cell? ⟨w.heap.size, 2, none⟩ = some (d2) ∧ w'.cell? ⟨w.heap.size, 3, none⟩ = some (d3) ∧ w'.cell? ⟨w.heap.size, 4, none⟩ = some (d4) ∧ w'.cell? ⟨w.heap.size, 5, none⟩ = some (d5) ∧ w'.cell? ⟨w.heap.size, 6, none⟩ = some (d6) ∧ w'.cell? ⟨w.heap.size, 7, none⟩ = some (d7) ∧ w'.cell? ⟨w.heap.size + 1, 0, none⟩ = some (v0) ∧ w'.cell? ⟨w.heap.size + 1, 1, none⟩ = some (v1) ∧ w'.cell? ⟨w.heap.size + 1, 2, none⟩ = some (v2) ∧ w'.cell? ⟨w.heap.size + 1, 3, none⟩ = some (v3) ∧ w'.cell? ⟨w.heap.size + 1, 4, none⟩ = some (v4) ∧ w'.cell? ⟨w.heap.size + 1, 5, none⟩ = some (v5) ∧ w'.cell? ⟨w.heap.size + 1, 6, none⟩ = some (v6) ∧ w'.cell? ⟨w.heap.size + 1, 7, none⟩ = some (v7) ∧ w'.cell? ⟨w.heap.size + 1 + 1, 0, none⟩ = some (e0) ∧ w'.cell? ⟨w.heap.size + 1 + 1, 1, none⟩ = some (e1) ∧ w'.cell? ⟨w.heap.size + 1 + 1, 2, none⟩ = some (e2) ∧ w'.cell? ⟨w.heap.size + 1 + 1, 3, none⟩ = some (e3))) (by kernel_rfl) (by rw [← hv]; exact ((J2 M).1.t8 ((J1 M).1.t8 ((M.out.1).d4)))) (fun hH88 => ?_)
     rw [← hv] at hH88 ⊢
     clear hv
     refine tk at0 ?_
     refine tk at2 ?_
     refine wpAnyH_ready (rs := [1]) (by kernel_rfl) (by simp) ?_
     refine AllReadyH.cons at1 (fun K hK => ?_) AllReadyH.nil
     go_simp
     refine (spPoint_u (G := G) (o1 := o5) (lo := o5) (hi := o5) (Nat.le_trans hG (J3 M).size) (H5.out.keep (J3 M)) HC1.out rfl rfl).mono ?_
     rintro e w22 ⟨x_89, x_90, x_91, x_92, x_93, x_94, x_95, x_96, rfl, hd97, hd98, hb⟩
     replace M := ad2M hd97 hd98 hb M
     clear hb hd97 hd98
     (try go_wp2_with fail)
     refine hK.out _ _ (((J4 M).1.t8 ((J3 M).1.t8 ((J2 M).1.d4)))) (fun hH99 => ?_)
     clear hK K hH88
     (try simp only [Act.put, List.setIfInBounds_toArray, List.set_cons_zero, List.set_cons_succ])
     refine wpAnyH_ready (rs := [3]) (by kernel_rfl) (by simp) ?_
     refine AllReadyH.cons at3 (fun K hK => ?_) AllReadyH.nil
     go_simp
     refine (rsPoint_u (G := G) (o1 := o5) (lo := o5) (hi := o5) (Nat.le_trans hG (J5 M).size) (H5.out.keep (J5 M)) HC1.out rfl rfl).mono ?_
     rintro e w23 ⟨x_100, x_101, x_102, x_103, x_104, x_105, x_106, x_107, rfl, hd108, hd109, hb⟩
     replace M := ad2M hd108 hd109 hb M
     clear hb hd108 hd109
     (try go_wp2_with fail)
     refine hK.out _ _ (((J6 M).1.t8 ((J5 M).1.t8 ((J4 M).1.d4)))) (fun hH110 => ?_)
     clear hK K hH99
     (try simp only [Act.put, List.setIfInBounds_toArray, List.set_cons_zero, List.set_cons_succ])
     refine wpAnyH_ready (rs := [4]) (by kernel_rfl) (by simp) ?_
     refine AllReadyH.cons at4 (fun K hK => ?_) AllReadyH.nil
     go_simp
     refine (spSame_o (G := G) (o1 := o5) (o2 := o5) (o3 := o5) (o4 := o5) (b_ := true) (J2 M).1 (J3 M).1 (M.out.1) (J1 M).1 (Oz.mono HOP.out (by omega)) (Oz.mono HOP.out (by omega)) (Oz.mono HOP.out (by omega)) (Oz.mono HOP.out (by omega)) (by simp)).mono ?_
     rintro e w24 ⟨rfl, hb⟩
     replace M := gnM hb M
     clear hb
     (try go_wp2_with fail)
     refine hK.out _ _ (((J6 M).1.t8 ((J5 M).1.t8 ((J4 M).1.d4)))) (fun hH111 => ?_)
     clear hK K hH110
     (try simp only [Act.put, List.setIfInBounds_toArray, List.set_cons_zero, List.set_cons_succ])
     refine tk at5 ?_
     refine tk at6 ?_
     refine tk at7 ?_
     refine tk at9 ?_
     refine tk at10 ?_
     refine wpAnyH_ready (rs := [8]) (by kernel_rfl) (by simp) ?_
     refine AllReadyH.cons at8 (fun K hK => ?_) AllReadyH.nil
     go_simp
     refine (spHas_x (o1 := o1) (o2 := o2) (o3 := o5) (b_ := ha) ((H1.out.keep (J7 M))).1 ((H2.out.keep (J7 M))).1 ((H5.out.keep (J7 M))).1 HZ1.out HZ2.out HC1.out Hha.out).mono ?_
     rintro e w25 ⟨rfl, hb⟩
     replace M := gnM hb M
     clear hb
     (try go_wp2_with fail)
     refine hK.out _ _ (((J6 M).1.t8 ((J5 M).1.t8 ((J4 M).1.d4)))) (fun hH112 => ?_)
     clear hK K hH111
     (try simp only [Act.put, List.setIfInBounds_toArray, List.set_cons_zero, List.set_cons_succ])
     refine wpAnyH_ready (rs := [11]) (by kernel_rfl) (by simp) ?_
     refine AllReadyH.cons at11 (fun K hK => ?_) AllReadyH.nil
     go_simp
     refine (rsHas_x (o1 := o1) (o2 := o2) (o3 := o5) (b_ := ha) ((H1.out.keep (J7 M))).1 ((H2.out.keep (J7 M))).1 ((H5.out.keep (J7 M))).1 HZ1.out HZ2.out HC1.out Hha.out).mono ?_
     rintro e w26 ⟨rfl, hb⟩
     replace M := gnM hb M
     clear hb
     (try go_wp2_with fail)
     refine hK.out _ _ (((J6 M).1.t8 ((J5 M).1.t8 ((J4 M).1.d4)))) (fun hH113 => ?_)
     clear hK K hH112
     (try simp only [Act.put, List.setIfInBounds_toArray, List.set_cons_zero, List.set_cons_succ])
     refine tk at12 ?_
     refine tk at13 ?_
     refine tk at14 ?_
     refine tk at15 ?_
     refine tk at16 ?_
     refine tk at18 ?_
     refine tk at19 ?_
     refine wpAnyH_ready (rs := [17]) (by kernel_rfl) (by simp) ?_
     refine AllReadyH.cons at17 (fun K hK => ?_) AllReadyH.nil
     go_simp
     refine (spInside_x (o1 := o1) (o2 := o2) (o3 := o3) (o4 := o4) (b_ := ia) ((H1.out.keep (J7 M))).1 ((H2.out.keep (J7 M))).1 ((H3.out.keep (J7 M))).1 ((H4.out.keep (J7 M))).1 HZ1.out HZ2.out HZ3.out HZ4.out Hia.out).mono ?_
     rintro e w27 ⟨rfl, hb⟩
     replace M := gnM hb M
     clear hb
     (try go_wp2_with fail)
     refine hK.out _ _ (((J6 M).1.t8 ((J5 M).1.t8 ((J4 M).1.d4)))) (fun hH114 => ?_)
     clear hK K hH113
     (try simp only [Act.put, List.setIfInBounds_toArray, List.set_cons_zero, List.set_cons_succ])
     refine wpAnyH_ready (rs := [20]) (by kernel_rfl) (by simp) ?_
     refine AllReadyH.cons at20 (fun K hK => ?_) AllReadyH.nil
     go_simp
     refine (rsInside_x (o1 := o1) (o2 := o2) (o3 := o3) (o4 := o4) (b_ := ia) ((H1.out.keep (J7 M))).1 ((H2.out.keep (J7 M))).1 ((H3.out.keep (J7 M))).1 ((H4.out.keep (J7 M))).1 HZ1.out HZ2.out HZ3.out HZ4.out Hia.out).mono ?_
     rintro e w28 ⟨rfl, hb⟩
     replace M := gnM hb M
     clear hb
     (try go_wp2_with fail)
     refine hK.out _ _ (((J6 M).1.t8 ((J5 M).1.t8 ((J4 M).1.d4)))) (fun hH115 => ?_)
     clear hK K hH114
     (try simp only [Act.put, List.setIfInBounds_toArray, List.set_cons_zero, List.set_cons_succ])
     refine tk at21 ?_
     refine tk at22 ?_
     refine tk at23 ?_
     refine wpAnyH_done (by kernel_rfl) ?_ _
     clear hH115
     go_wp2_with fail
     replace M := Lib.hid (aI (J6 M).1 (J7 M))
     refine nmW w28.drew fun w29 hv => ?_
     replace M := drM hv M
     refine wp_region_held_drew (S := (fun w' => w'.cell? ⟨w.heap.size, 0, none⟩ = some (d0) ∧ w'.cell? ⟨w.heap.size, 1, none⟩ = some (d1) ∧ w'.cell? ⟨w.heap.size, 2, none⟩ = some (d2) ∧ w'.cell? ⟨w.heap.size, 3, none⟩ = some (d3) ∧ w'.cell? ⟨w.heap.size, 4, none⟩ = some (d4) ∧ w'.cell? ⟨w.heap.size, 5, none⟩ = some (d5) ∧ w'.cell? ⟨w.heap.size, 6, none⟩ = some (d6) ∧ w'.cell? ⟨w.heap.size, 7, none⟩ = some (d7))) (by kernel_rfl) (by rw [← hv]; exact (M.out.1).d8) (fun hH146 => ?_)
     rw [← hv] at hH146 ⊢
     clear hv
     refine tk at0 ?_
     refine tk at1 ?_
     refine tk at2 ?_
     refine tk at3 ?_
     refine tk at4 ?_
     refine tk at5 ?_
     refine tk at7 ?_
     refine wpAnyH_ready (rs := [6]) (by kernel_rfl) (by simp) ?_
     refine AllReadyH.cons at6 (fun K hK => ?_) AllReadyH.nil
     go_simp
     refine (spWidth_u (G := G) (o1 := o1) (o2 := o2) (lo := wo) (Nat.le_trans hG (J1 M).size) (H1.out.keep (J1 M)) (H2.out.keep (J1 M)) HZ1.out HZ2.out Hwid.out).mono ?_
     rintro e w30 ⟨x_147, x_148, x_149, x_150, rfl, hd151, hb⟩
     replace M := adM hd151 hb M
     clear hb hd151
     (try go_wp2_with fail)
     refine hK.out _ _ ((J1 M).1.d8) (fun hH152 => ?_)
     clear hK K hH146
     (try simp only [Act.put, List.setIfInBounds_toArray, List.set_cons_zero, List.set_cons_succ])
     refine wpAnyH_ready (rs := [8]) (by kernel_rfl) (by simp) ?_
     refine AllReadyH.cons at8 (fun K hK => ?_) AllReadyH.nil
     go_simp
     refine (rsWidth_u (G := G) (o1 := o1) (o2 := o2) (lo := wo) (Nat.le_trans hG (J2 M).size) (H1.out.keep (J2 M)) (H2.out.keep (J2 M)) HZ1.out HZ2.out Hwid.out).mono ?_
     rintro e w31 ⟨x_153, x_154, x_155, x_156, rfl, hd157, hb⟩
     replace M := adM hd157 hb M
     clear hb hd157
     (try go_wp2_with fail)
     refine hK.out _ _ ((J2 M).1.d8) (fun hH158 => ?_)
     clear hK K hH152
     (try simp only [Act.put, List.setIfInBounds_toArray, List.set_cons_zero, List.set_cons_succ])
     refine wpAnyH_ready (rs := [9]) (by kernel_rfl) (by simp) ?_
     refine AllReadyH.cons at9 (fun K hK => ?_) AllReadyH.nil
     go_simp
     refine (rfsame_o (G := G) (o := wo) (p := wo) (b_ := true) (J1 M).1 (M.out.1) (Oz.mono HOW.out (by omega)) (Oz.mono HOW.out (by omega)) (by simp)).mono ?_
     rintro e w32 ⟨rfl, hb⟩
     replace M := gnM hb M
     clear hb
     (try go_wp2_with fail)
     refine hK.out _ _ ((J2 M).1.d8) (fun hH159 => ?_)
     clear hK K hH158
     (try simp only [Act.put, List.setIfInBounds_toArray, List.set_cons_zero, List.set_cons_succ])
     refine tk at10 ?_
     refine tk at11 ?_
     refine tk at12 ?_
     refine tk at14 ?_
     refine wpAnyH_ready (rs := [13]) (by kernel_rfl) (by simp) ?_
     refine AllReadyH.cons at13 (fun K hK => ?_) AllReadyH.nil
     go_simp
     refine (spNeg_u (G := G) (o1 := o1) (o2 := o2) (lo := nl) (hi := nh) (Nat.le_trans hG (J3 M).size) (H1.out.keep (J3 M)) (H2.out.keep (J3 M)) HZ1.out HZ2.out Hneg.out).mono ?_
     rintro e w33 ⟨x_160, x_161, x_162, x_163, x_164, x_165, x_166, x_167, rfl, hd168, hd169, hb⟩
     replace M := ad2M hd168 hd169 hb M
     clear hb hd168 hd169
     (try go_wp2_with fail)
     refine hK.out _ _ ((J4 M).1.d8) (fun hH170 => ?_)
     clear hK K hH159
     (try simp only [Act.put, List.setIfInBounds_toArray, List.set_cons_zero, List.set_cons_succ])
     refine wpAnyH_ready (rs := [15]) (by kernel_rfl) (by simp) ?_
     refine AllReadyH.cons at15 (fun K hK => ?_) AllReadyH.nil
     go_simp
     refine (rsNeg_u (G := G) (o1 := o1) (o2 := o2) (lo := nl) (hi := nh) (Nat.le_trans hG (J5 M).size) (H1.out.keep (J5 M)) (H2.out.keep (J5 M)) HZ1.out HZ2.out Hneg.out).mono ?_
     rintro e w34 ⟨x_171, x_172, x_173, x_174, x_175, x_176, x_177, x_178, rfl, hd179, hd180, hb⟩
     replace M := ad2M hd179 hd180 hb M
     clear hb hd179 hd180
     (try go_wp2_with fail)
     refine hK.out _ _ ((J6 M).1.d8) (fun hH181 => ?_)
     clear hK K hH170
     (try simp only [Act.put, List.setIfInBounds_toArray, List.set_cons_zero, List.set_cons_succ])
     refine wpAnyH_ready (rs := [16]) (by kernel_rfl) (by simp) ?_
     refine AllReadyH.cons at16 (fun K hK => ?_) AllReadyH.nil
     go_simp
     refine (spSame_o (G := G) (o1 := nl) (o2 := nh) (o3 := nl) (o4 := nh) (b_ := true) (J2 M).1 (J3 M).1 (M.out.1) (J1 M).1 (Oz.mono HON.out.1 (by omega)) (Oz.mono HON.out.2 (by omega)) (Oz.mono HON.out.1 (by omega)) (Oz.mono HON.out.2 (by omega)) (by simp)).mono ?_
     rintro e w35 ⟨rfl, hb⟩
     replace M := gnM hb M
     clear hb
     (try go_wp2_with fail)
     refine hK.out _ _ ((J6 M).1.d8) (fun hH182 => ?_)
     clear hK K hH181
     (try simp only [Act.put, List.setIfInBounds_toArray, List.set_cons_zero, List.set_cons_succ])
     refine tk at17 ?_
     refine tk at18 ?_
     refine wpAnyH_done (by kernel_rfl) ?_ _
     clear hH182
     go_wp2_with fail
     go_ret
     exact ⟨rfl, (J7 M)⟩
set_option maxRecDepth 100000 in
set_option maxHeartbeats 4000000 in
theorem tells_not {d0 d1 d2 d3 d4 d5 d6 d7 v0 v1 v2 v3 v4 v5 v6 v7 e0 e1 e2 e3 : Value} {n1 m1 n2 m2 n3 m3 n4 m4 n5 m5 : Nat} {o1 o2 o3 o4 o5 : Option Rat} {c0 c1 : Bool} {w : World} (hG : G ≤ w.heap.size) (h1 : FY G w d0 d1 d2 d3 n1 m1 o1) (h2 : FY G w d4 d5 d6 d7 n2 m2 o2) (h3 : FY G w v0 v1 v2 v3 n3 m3 o3) (h4 : FY G w v4 v5 v6 v7 n4 m4 o4) (h5 : FY G w e0 e1 e2 e3 n5 m5 o5) (hc0_ : few4 n1 m1 n2 m2 n3 m3 n4 m4 = c0) (hc1_ : fewF n5 m5 = c1) (hn : (c0 && c1) = false) :
  Calls Tryz.prog 3 #[.agg #[d0, d1, d2, d3, d4, d5, d6, d7], .agg #[v0, v1, v2, v3, v4, v5, v6, v7], .agg #[e0, e1, e2, e3]] w fun e w' => e = .returned (.bool true) ∧ Below w.heap.size w w' := by
 have HC0 := Lib.hid hc0_; have HC1 := Lib.hid hc1_; have HN := Lib.hid hn; clear hc0_ hc1_ hn
 have H1 : Hid (FY G w d0 d1 d2 d3 n1 m1 o1) := h1
 have H2 : Hid (FY G w d4 d5 d6 d7 n2 m2 o2) := h2
 have H3 : Hid (FY G w v0 v1 v2 v3 n3 m3 o3) := h3
 have H4 : Hid (FY G w v4 v5 v6 v7 n4 m4 o4) := h4
 have H5 : Hid (FY G w e0 e1 e2 e3 n5 m5 o5) := h5
 clear h1 h2 h3 h4 h5
 have M : Hid (Below w.heap.size w w) := Below.refl _ _
 go_enter Tryz.func3, Tryz.ntmps3
 go_upto_region 1 with fail
 refine nmW (((w.alloc (.cells #[d0, d1, d2, d3, d4, d5, d6, d7] 28)).alloc (.cells #[v0, v1, v2, v3, v4, v5, v6, v7] 28)).alloc (.cells #[e0, e1, e2, e3] 26)) fun w1 hv => ?_
 rw [← hv]
 replace M := al3W hv M
 clear hv
 go_wp2_with fail
 refine (spanSmall_ok (G := G) (Nat.le_trans hG (J3 M).size)).mono ?_
 rintro e w2 ⟨rfl, hb⟩
 replace M := gnM hb M
 clear hb
 refine cj8 (J2 M).1.d8 fun aa ab ac ad ae af ag ah => ?_
 refine cj8 (J1 M).1.d8 fun ai aj ak al am ao ap aq => ?_
 go_wp2_with fail
 clear aa ab ac ad ae af ag ah ai aj ak al am ao ap aq
 refine (few_s (o1 := o1) (o2 := o2) (o3 := o3) (o4 := o4) (b_ := c0) ((H1.out.keep (J3 M))).1 ((H2.out.keep (J3 M))).1 ((H3.out.keep (J3 M))).1 ((H4.out.keep (J3 M))).1 HC0.out).mono ?_
 rintro e w3 ⟨rfl, hb⟩
 replace M := gnM hb M
 clear hb
 cases c0 with
 | false =>
  go_wp2_with fail
  go_ret
  exact ⟨rfl, (J3 M)⟩
 | true =>
  refine cj4 (M.out.1).d4 fun ar au av aw => ?_
  go_wp2_with fail
  clear ar au av aw
  refine (fxFew_ok (o := o5) (k := 4) (r := c1) ((H5.out.keep (J3 M))).1 HC1.out).mono ?_
  rintro e w4 ⟨rfl, hb⟩
  replace M := gnM hb M
  clear hb
  cases c1 with
  | false =>
   go_wp2_with fail
   go_ret
   exact ⟨rfl, (J3 M)⟩
  | true =>
   go_upto_region 4 with fail
   exact absurd HN.out (by decide)
theorem tells_walk {d0 d1 d2 d3 d4 d5 d6 d7 v0 v1 v2 v3 v4 v5 v6 v7 e0 e1 e2 e3 : Value} {n1 m1 n2 m2 n3 m3 n4 m4 n5 m5 : Nat} {o1 o2 o3 o4 o5 : Option Rat} {w : World} (h1 : FX w d0 d1 d2 d3 n1 m1 o1) (h2 : FX w d4 d5 d6 d7 n2 m2 o2) (h3 : FX w v0 v1 v2 v3 n3 m3 o3) (h4 : FX w v4 v5 v6 v7 n4 m4 o4) (h5 : FX w e0 e1 e2 e3 n5 m5 o5) :
  Calls Tryz.prog 3 #[.agg #[d0, d1, d2, d3, d4, d5, d6, d7], .agg #[v0, v1, v2, v3, v4, v5, v6, v7], .agg #[e0, e1, e2, e3]] w fun e w' => e = .returned (.bool true) ∧ Below w.heap.size w w' := by
 cases hn : (few4 n1 m1 n2 m2 n3 m3 n4 m4 && fewF n5 m5) with
 | false => exact tells_not (G := w.heap.size) (Nat.le_refl _) (fy_of h1) (fy_of h2) (fy_of h3) (fy_of h4) (fy_of h5) rfl rfl hn
 | true =>
  rw [Bool.and_eq_true] at hn
  have k1 := few_le (few4_1 hn.1); have k2 := few_le (few4_2 hn.1); have k3 := few_le (few4_3 hn.1); have k4 := few_le (few4_4 hn.1)
  obtain ⟨b1, s1⟩ := sm_of h1 h3 (by omega) (by omega)
  obtain ⟨b2, s2⟩ := sm_of h2 h4 (by omega) (by omega)
  exact tells_all (G := w.heap.size) (Nat.le_refl _) (fy_of h1) (fy_of h2) (fy_of h3) (fy_of h4) (fy_of h5) s1 s2 hn.1 hn.2
end Go.Proofs.YtjbfngjlepafgaaGreat
