/- Walks: quotient and remainder of big integers. -/
import Derived.Test.YtckgmilmhofekaaGreatDoorBase
import Derived.Test.YtckgmilmhofekaaGreatDoorBigSpec
import Derived.Test.YtckgmilmhofekaaGreatDoorBigD
import Derived.Test.YtckgmilmhofekaaGreatDoorProg
import Derived.WalkKit
import Derived.WalkSpells
import Derived.WalkLawsBesides
import Derived.Handy
import Derived.Lib.Hide
import Derived.Lib.Strings
import Derived.Lib.Builder
import Derived.BigQuiet
import Derived.OwnWalk
import Derived.Laws.BitsLemmas
import Derived.WalkSmall
import Derived.Deep.QuietTactic
import Derived.StillTailTactics
import Derived.Maps.AppendAt
import Derived.IntWalk
import Derived.Deep.RegionHeld3
import Derived.Deep.DeepFit
namespace Go.Proofs.YtckgmilmhofekaaGreatDoor
open Go.RowKit
variable {G : Nat}

/-- A block of the call's own, known whole. -/
def Bx (w : World) (g : Nat) (T : TypeId) (cs : Array Value) : Prop := w.heap[g]? = some (.cells cs T (0, 0))
theorem Bx.lt {w : World} {g : Nat} {T : TypeId} {cs : Array Value} (h : Bx w g T cs) : g < w.heap.size := by
  rcases Nat.lt_or_ge g w.heap.size with hlt | hge
  · exact hlt
  · unfold Bx at h; rw [Array.getElem?_eq_none hge] at h; cases h
theorem Bx.keep {w w' : World} {g : Nat} {T : TypeId} {cs : Array Value} (h : Bx w g T cs) (hb : Below w.heap.size w w') : Bx w' g T cs := (hb.block g h.lt).trans h
theorem Bx.at {w : World} {g : Nat} {T : TypeId} {cs : Array Value} (h : Bx w g T cs) : (∀ j, w.cell? ⟨g, j, none⟩ = cs[j]?) ∧ (∀ j, w.frozen? ⟨g, j, none⟩ = false) := by
 unfold Bx at h
 exact ⟨fun j => by simp [World.cell?, h], fun j => by simp [World.frozen?, h]⟩
theorem Bx.new (w : World) (T : TypeId) (cs : Array Value) : Bx (w.alloc (.cells cs T)) w.heap.size T cs := by unfold Bx; show (w.heap.push _)[w.heap.size]? = _; simp
theorem below_alloc (w : World) (o : Obj) : Below w.heap.size w (w.alloc o) := (Below.refl _ _).alloc (Nat.le_refl _) o
theorem bx1 (w : World) (T : TypeId) (c1 : Array Value) : Bx (w.alloc (.cells c1 T)) w.heap.size T c1 := Bx.new w T c1
theorem Bx.d4 {w : World} {g : Nat} {T : TypeId} {u0 u1 u2 u3 : Value} (h : Bx w g T #[u0, u1, u2, u3]) : w.cell? ⟨g, 0, none⟩ = some u0 ∧ w.cell? ⟨g, 1, none⟩ = some u1 ∧ w.cell? ⟨g, 2, none⟩ = some u2 ∧ w.cell? ⟨g, 3, none⟩ = some u3 :=
  ⟨h.at.1 0, h.at.1 1, h.at.1 2, h.at.1 3⟩
theorem Bx.d5 {w : World} {g : Nat} {T : TypeId} {u0 u1 u2 u3 u4 : Value} (h : Bx w g T #[u0, u1, u2, u3, u4]) : w.cell? ⟨g, 0, none⟩ = some u0 ∧ w.cell? ⟨g, 1, none⟩ = some u1 ∧ w.cell? ⟨g, 2, none⟩ = some u2 ∧ w.cell? ⟨g, 3, none⟩ = some u3 ∧ w.cell? ⟨g, 4, none⟩ = some u4 :=
  ⟨h.at.1 0, h.at.1 1, h.at.1 2, h.at.1 3, h.at.1 4⟩
theorem Bx.t1 {w : World} {g : Nat} {T : TypeId} {u0 : Value} {R : Prop} (h : Bx w g T #[u0]) (k : R) : w.cell? ⟨g, 0, none⟩ = some u0 ∧ R :=
  ⟨h.at.1 0, k⟩
theorem Bx.t5 {w : World} {g : Nat} {T : TypeId} {u0 u1 u2 u3 u4 : Value} {R : Prop} (h : Bx w g T #[u0, u1, u2, u3, u4]) (k : R) : w.cell? ⟨g, 0, none⟩ = some u0 ∧ w.cell? ⟨g, 1, none⟩ = some u1 ∧ w.cell? ⟨g, 2, none⟩ = some u2 ∧ w.cell? ⟨g, 3, none⟩ = some u3 ∧ w.cell? ⟨g, 4, none⟩ = some u4 ∧ R :=
  ⟨h.at.1 0, h.at.1 1, h.at.1 2, h.at.1 3, h.at.1 4, k⟩
theorem nmW {α : Type} {C : Prop} (x : α) (k : ∀ v, v = x → C) : C :=
 k x rfl
theorem Bx.only {w w' : World} {g g' : Nat} {T : TypeId} {cs : Array Value} (h : Bx w g T cs) (hb : w.grownBy w' (some g')) (hne : g ≠ g') : Bx w' g T cs := (hb.block g h.lt (by simp; exact hne)).trans h
theorem Bx.set {w : World} {g : Nat} {T : TypeId} {cs : Array Value} (h : Bx w g T cs) (i : Nat) (u : Value) : Bx (w.setCell ⟨g, i, none⟩ u) g T (cs.setIfInBounds i u) := by
 unfold Bx at h ⊢
 simp [World.setCell, Array.getElem?_modify, h]
theorem Bx.set2 {w : World} {g : Nat} {T : TypeId} {u0 u1 : Value} (h : Bx w g T #[u0, u1]) (x y : Value) : Bx ((w.setCell ⟨g, 0, none⟩ x).setCell ⟨g, 1, none⟩ y) g T #[x, y] := by
 have := (h.set 0 x).set 1 y; simpa using this
theorem BD.other {w w' : World} {g : Nat} {a : Option Addr} {c : Nat} {z : Int} (h : BD G w a c z) (hg : w.grownBy w' (some g)) (hne : ∀ b off, a = some ⟨b, off, none⟩ → b ≠ g) : BD G w' a c z := by
  refine ⟨⟨a, c, by rw [ints_len]; rfl, fun k hk => ?_⟩, h.le, ?_⟩
  rotate_left
  · rcases h.ty with h1 | h1
    · exact .inl h1
    · refine .inr fun b off ha => ?_
      rcases h1 b off ha with h2 | ⟨cs, fr, h2⟩
      · exact .inl h2
      · exact .inr ⟨cs, fr, (hg.block b (lt_of_block h2) (by have := hne b off ha; simp; exact this)).trans h2⟩
  rw [ints_len] at hk
  obtain ⟨b, off, ha, hlt, hc⟩ := RdN.at h.rd hk
  refine ⟨b, off, ha, Nat.lt_of_lt_of_le hlt hg.size, fun j u hj => ?_⟩
  have hg2 : (ints (digs z.natAbs))[k]? = some ((digs z.natAbs)[k] : Int) := by
    rw [List.getElem?_eq_getElem (by rw [ints_len]; exact hk), ints_get _ _ hk]
  dsimp only at hj
  rw [hg2] at hj
  match j, hj with
  | 0, hj =>
    simp at hj; subst hj
    rw [Nat.mul_one, Nat.add_zero, hg.cell hc (by have := hne b off ha; simp; exact this)]
  | j + 1, hj => simp at hj
theorem results_box1 {P : Program} {fn : Func} {p : Tmp} {ty : TypeId} (h : fn.results = #[.cell p ty]) (tmps : Array Value) (w : World) (g : Nat) (t : TypeId) (cs : Array Value) (fr : Nat × Nat) (d : TypeDesc)
  (hp : tmps.getD p undef = .pointer (some ⟨g, 0, none⟩)) (hg : w.heap[g]? = some (.cells cs t fr))
  (hu : P.underlying ty = some d) (hd : (match d with | .struct _ | .array _ _ => true | _ => false) = true) (hi : (P.info? ty).map (·.size) = some cs.size) :
  (results fn tmps).run P w = .ok (.agg cs) w := by
 have hp' : tmps[p]?.getD undef = .pointer (some ⟨g, 0, none⟩) := by simpa using hp
 simp [results, h, hp', asAddr, run_loadVar_row w g t ty cs fr d hg hu hd hi]
end Go.Proofs.YtckgmilmhofekaaGreatDoor
namespace Go.Proofs.YtckgmilmhofekaaGreatDoor
open Go.RowKit
variable {G : Nat}

def md (x y : Int) : Int := x.fmod y
end Go.Proofs.YtckgmilmhofekaaGreatDoor
