/- Small laws of no program: a region's operation at a place, taken first. -/
import Derived.Deep.RegionHeld3
import Derived.WalkKit
namespace Go.Proofs.YtckgmilmhofekaaGreatDoor

section
variable {P : Program} {ops : Array Oper} {Q : Exit → Act → World → Prop} {md : Region.Mode} {S : World → Prop}
/-- Operation i may be taken now, ahead of all others. -/
def chk (md : Region.Mode) (ops : Array Oper) (listed : Array Bool) (i : Nat) : Bool := Region.noSelect ops && Region.free md ops listed i && (Region.ready md ops listed).contains i
theorem tk {i : Nat} {oi : Oper} (hi : ops[i]? = some oi) {v : Value} {fuel : Nat} {listed : Array Bool} {a a' : Act} {w : World}
  (h : wpAnyH P md ops Q S fuel (listed.setIfInBounds i true) a' w)
  (hc : chk md ops listed i = true := by kernel_rfl) (hQ : ∀ c a w, Q (.panic c) (a.put oi.dst v) w → Q (.panic c) a w := by exact fun _ _ _ h => h)
  (hw : Region.wanted oi (yielded ops a.tmps) = true := by rfl) (hS : S w := by assumption)
  (hy : ∀ w, S w → (execOp a.eval oi).run P w = .ok (.value v) w := by (intro w hSw; (try dsimp only at hSw); go_simp; try with_reducible rfl))
  (ha : a.put oi.dst v = a' := by (simp only [Act.put, List.setIfInBounds_toArray, List.set_cons_zero, List.set_cons_succ] <;> with_reducible rfl)) :
  wpAnyH P md ops Q S (fuel + 1) listed a w := by
 simp only [chk, Bool.and_eq_true] at hc
 exact wpAnyH_take hi hc.1.1 hc.1.2 hc.2 hQ (.inl ⟨hw, hy⟩) hS (ha ▸ h)
theorem tu {i : Nat} {oi : Oper} (hi : ops[i]? = some oi) {fuel : Nat} {listed : Array Bool} {a a' : Act} {w : World}
  (h : wpAnyH P md ops Q S fuel (listed.setIfInBounds i true) a' w)
  (hc : chk md ops listed i = true := by kernel_rfl) (hQ : ∀ c a w, Q (.panic c) (a.put oi.dst undef) w → Q (.panic c) a w := by exact fun _ _ _ h => h)
  (hw : Region.wanted oi (yielded ops a.tmps) = false := by rfl) (hS : S w := by assumption)
  (ha : a.put oi.dst undef = a' := by (simp only [Act.put, List.setIfInBounds_toArray, List.set_cons_zero, List.set_cons_succ] <;> with_reducible rfl)) :
  wpAnyH P md ops Q S (fuel + 1) listed a w := by
 simp only [chk, Bool.and_eq_true] at hc
 exact wpAnyH_take hi hc.1.1 hc.1.2 hc.2 hQ (.inr ⟨hw, rfl⟩) hS (ha ▸ h)
end

theorem at0 {α : Type} {x0 : α} {r : List α} : (List.toArray (x0 :: r))[0]? = some x0 := rfl
theorem at1 {α : Type} {x0 x1 : α} {r : List α} : (List.toArray (x0 :: x1 :: r))[1]? = some x1 := rfl
theorem at2 {α : Type} {x0 x1 x2 : α} {r : List α} : (List.toArray (x0 :: x1 :: x2 :: r))[2]? = some x2 := rfl
theorem at3 {α : Type} {x0 x1 x2 x3 : α} {r : List α} : (List.toArray (x0 :: x1 :: x2 :: x3 :: r))[3]? = some x3 := rfl
theorem at4 {α : Type} {x0 x1 x2 x3 x4 : α} {r : List α} : (List.toArray (x0 :: x1 :: x2 :: x3 :: x4 :: r))[4]? = some x4 := rfl
theorem at5 {α : Type} {x0 x1 x2 x3 x4 x5 : α} {r : List α} : (List.toArray (x0 :: x1 :: x2 :: x3 :: x4 :: x5 :: r))[5]? = some x5 := rfl
theorem at6 {α : Type} {x0 x1 x2 x3 x4 x5 x6 : α} {r : List α} : (List.toArray (x0 :: x1 :: x2 :: x3 :: x4 :: x5 :: x6 :: r))[6]? = some x6 := rfl
theorem at7 {α : Type} {x0 x1 x2 x3 x4 x5 x6 x7 : α} {r : List α} : (List.toArray (x0 :: x1 :: x2 :: x3 :: x4 :: x5 :: x6 :: x7 :: r))[7]? = some x7 := rfl
theorem at8 {α : Type} {x0 x1 x2 x3 x4 x5 x6 x7 x8 : α} {r : List α} : (List.toArray (x0 :: x1 :: x2 :: x3 :: x4 :: x5 :: x6 :: x7 :: x8 :: r))[8]? = some x8 := rfl
theorem at9 {α : Type} {x0 x1 x2 x3 x4 x5 x6 x7 x8 x9 : α} {r : List α} : (List.toArray (x0 :: x1 :: x2 :: x3 :: x4 :: x5 :: x6 :: x7 :: x8 :: x9 :: r))[9]? = some x9 := rfl
theorem at10 {α : Type} {x0 x1 x2 x3 x4 x5 x6 x7 x8 x9 x10 : α} {r : List α} : (List.toArray (x0 :: x1 :: x2 :: x3 :: x4 :: x5 :: x6 :: x7 :: x8 :: x9 :: x10 :: r))[10]? = some x10 := rfl
theorem at11 {α : Type} {x0 x1 x2 x3 x4 x5 x6 x7 x8 x9 x10 x11 : α} {r : List α} : (List.toArray (x0 :: x1 :: x2 :: x3 :: x4 :: x5 :: x6 :: x7 :: x8 :: x9 :: x10 :: x11 :: r))[11]? = some x11 := rfl
theorem at12 {α : Type} {x0 x1 x2 x3 x4 x5 x6 x7 x8 x9 x10 x11 x12 : α} {r : List α} : (List.toArray (x0 :: x1 :: x2 :: x3 :: x4 :: x5 :: x6 :: x7 :: x8 :: x9 :: x10 :: x11 :: x12 :: r))[12]? = some x12 := rfl
theorem at13 {α : Type} {x0 x1 x2 x3 x4 x5 x6 x7 x8 x9 x10 x11 x12 x13 : α} {r : List α} : (List.toArray (x0 :: x1 :: x2 :: x3 :: x4 :: x5 :: x6 :: x7 :: x8 :: x9 :: x10 :: x11 :: x12 :: x13 :: r))[13]? = some x13 := rfl
theorem at14 {α : Type} {x0 x1 x2 x3 x4 x5 x6 x7 x8 x9 x10 x11 x12 x13 x14 : α} {r : List α} : (List.toArray (x0 :: x1 :: x2 :: x3 :: x4 :: x5 :: x6 :: x7 :: x8 :: x9 :: x10 :: x11 :: x12 :: x13 :: x14 :: r))[14]? = some x14 := rfl
theorem at15 {α : Type} {x0 x1 x2 x3 x4 x5 x6 x7 x8 x9 x10 x11 x12 x13 x14 x15 : α} {r : List α} : (List.toArray (x0 :: x1 :: x2 :: x3 :: x4 :: x5 :: x6 :: x7 :: x8 :: x9 :: x10 :: x11 :: x12 :: x13 :: x14 :: x15 :: r))[15]? = some x15 := rfl
theorem at16 {α : Type} {x0 x1 x2 x3 x4 x5 x6 x7 x8 x9 x10 x11 x12 x13 x14 x15 x16 : α} {r : List α} : (List.toArray (x0 :: x1 :: x2 :: x3 :: x4 :: x5 :: x6 :: x7 :: x8 :: x9 :: x10 :: x11 :: x12 :: x13 :: x14 :: x15 :: x16 :: r))[16]? = some x16 := rfl
theorem at17 {α : Type} {x0 x1 x2 x3 x4 x5 x6 x7 x8 x9 x10 x11 x12 x13 x14 x15 x16 x17 : α} {r : List α} : (List.toArray (x0 :: x1 :: x2 :: x3 :: x4 :: x5 :: x6 :: x7 :: x8 :: x9 :: x10 :: x11 :: x12 :: x13 :: x14 :: x15 :: x16 :: x17 :: r))[17]? = some x17 := rfl
theorem at18 {α : Type} {x0 x1 x2 x3 x4 x5 x6 x7 x8 x9 x10 x11 x12 x13 x14 x15 x16 x17 x18 : α} {r : List α} : (List.toArray (x0 :: x1 :: x2 :: x3 :: x4 :: x5 :: x6 :: x7 :: x8 :: x9 :: x10 :: x11 :: x12 :: x13 :: x14 :: x15 :: x16 :: x17 :: x18 :: r))[18]? = some x18 := rfl
end Go.Proofs.YtckgmilmhofekaaGreatDoor
