/- Words for printed walks: what is known of a world, kept as it grows; the cells of a box. -/
import Derived.Test.YtcfmakpckdicjaaGreatDoorBase
import Derived.Test.YtcfmakpckdicjaaGreatDoorBigSpec
import Derived.Test.YtcfmakpckdicjaaGreatDoorBigB
import Derived.Test.YtcfmakpckdicjaaGreatDoorBigC
import Derived.Test.YtcfmakpckdicjaaGreatDoorBigD
import Derived.Test.YtcfmakpckdicjaaGreatDoorBigK
import Derived.Test.YtcfmakpckdicjaaGreatDoorBigQ
import Derived.Test.YtcfmakpckdicjaaGreatDoorFracA
import Derived.Test.YtcfmakpckdicjaaGreatDoorProg
import Derived.WalkKit
import Derived.WalkSpells
import Derived.WalkLawsBesides
import Derived.Handy
import Derived.Lib.Hide
import Derived.Lib.Strings
import Derived.Lib.Builder
import Derived.BigQuiet
import Derived.OwnWalk
import Derived.Laws.BitsLemmas
import Derived.WalkSmall
import Derived.Deep.QuietTactic
import Derived.StillTailTactics
import Derived.Maps.AppendAt
import Derived.IntWalk
import Derived.Deep.RegionHeld3
import Derived.Deep.DeepFit
import Derived.Deep.LoopGhost
namespace Go.Proofs.YtcfmakpckdicjaaGreatDoor
open Go.RowKit
variable {G : Nat}

/-- What is known of a world, as it is known of a later one. -/
class Goes (p : Prop) (w w' : World) (q : outParam Prop) : Prop where
 go : p → Below w.heap.size w w' → q
instance {w w' : World} {g : Nat} {T : TypeId} {cs : Array Value} : Goes (Bx w g T cs) w w' (Bx w' g T cs) := ⟨fun h hb => h.keep hb⟩
instance {w w' : World} {a : Option Addr} {c : Nat} {z : Int} : Goes (BD G w a c z) w w' (BD G w' a c z) := ⟨fun h hb => h.keep hb⟩
instance {w w' : World} {a b : Option Addr} {c d : Nat} {q : Rat} : Goes (FD G w a c b d q) w w' (FD G w' a c b d q) := ⟨fun h hb => h.keep hb⟩
instance {w0 w w' : World} : Goes (Below w0.heap.size w0 w) w w' (Below w0.heap.size w0 w') := ⟨fun h hb => below_call h hb⟩
instance {w w' : World} {p q p' q' : Prop} [h1 : Goes p w w' q] [h2 : Goes p' w w' q'] : Goes (p ∧ p') w w' (q ∧ q') := ⟨fun h hb => ⟨h1.go h.1 hb, h2.go h.2 hb⟩⟩
theorem below_drew (w : World) : Below w.heap.size w w.drew := (Below.refl _ _).drew
theorem Bx.c2 {w : World} {g : Nat} {T : TypeId} {u0 u1 : Value} (h : Bx w g T #[u0, u1]) : w.cell? ⟨g, 0, none⟩ = some u0 ∧ w.frozen? ⟨g, 0, none⟩ = false ∧ w.cell? ⟨g, 1, none⟩ = some u1 ∧ w.frozen? ⟨g, 1, none⟩ = false :=
  ⟨h.at.1 0, h.at.2 0, h.at.1 1, h.at.2 1⟩
theorem Bx.c4 {w : World} {g : Nat} {T : TypeId} {u0 u1 u2 u3 : Value} (h : Bx w g T #[u0, u1, u2, u3]) : w.cell? ⟨g, 0, none⟩ = some u0 ∧ w.frozen? ⟨g, 0, none⟩ = false ∧ w.cell? ⟨g, 1, none⟩ = some u1 ∧ w.frozen? ⟨g, 1, none⟩ = false ∧ w.cell? ⟨g, 2, none⟩ = some u2 ∧ w.frozen? ⟨g, 2, none⟩ = false ∧ w.cell? ⟨g, 3, none⟩ = some u3 ∧ w.frozen? ⟨g, 3, none⟩ = false :=
  ⟨h.at.1 0, h.at.2 0, h.at.1 1, h.at.2 1, h.at.1 2, h.at.2 2, h.at.1 3, h.at.2 3⟩
theorem alM {p q : Prop} {w w1 : World} {T : TypeId} {cs : Array Value} [Goes p w w1 q] (hv : w1 = w.alloc (.cells cs T)) (M : Hid p) : Hid (Bx w1 w.heap.size T cs ∧ q) :=
  Lib.hid (And.intro (hv ▸ bx1 w T cs) (Goes.go M.out (hv ▸ below_alloc _ _ : Below w.heap.size w w1)))
theorem gnM {p q : Prop} {w w1 : World} [Goes p w w1 q] (hb : Below w.heap.size w w1) (M : Hid p) : Hid q := Lib.hid (Goes.go M.out hb)
theorem adM {p q r : Prop} {w w1 : World} [Goes p w w1 q] (h : r) (hb : Below w.heap.size w w1) (M : Hid p) : Hid (r ∧ q) := Lib.hid (And.intro h (Goes.go M.out hb))
theorem ad2M {p q r s : Prop} {w w1 : World} [Goes p w w1 q] (h : r) (k : s) (hb : Below w.heap.size w w1) (M : Hid p) : Hid (r ∧ s ∧ q) := Lib.hid (And.intro h (And.intro k (Goes.go M.out hb)))
theorem drM {p q : Prop} {w w1 : World} [Goes p w w1 q] (hv : w1 = w.drew) (M : Hid p) : Hid q := Lib.hid (Goes.go M.out (hv ▸ below_drew _ : Below w.heap.size w w1))
theorem st2W {w w0 : World} {g : Nat} {T : TypeId} {o0 o1 : Value} (u0 u1 : Value) {C : Prop} (h : Bx w g T #[o0, o1]) (hb : Below w0.heap.size w0 w) (hz : w0.heap.size ≤ g) (k : ∀ w', w' = ((w.setCell ⟨g, 0, none⟩ u0).setCell ⟨g, 1, none⟩ u1) → w.grownBy w' (some g) → Bx w' g T #[u0, u1] → Below w0.heap.size w0 w' → C) : C :=
 k _ rfl (only_setCell (only_setCell (World.grownBy.refl _ _) _) _) ((h.set 0 _).set 1 _) (Below.setCell (Below.setCell hb hz _) hz _)
theorem st4W {w w0 : World} {g : Nat} {T : TypeId} {o0 o1 o2 o3 : Value} (u0 u1 u2 u3 : Value) {C : Prop} (h : Bx w g T #[o0, o1, o2, o3]) (hb : Below w0.heap.size w0 w) (hz : w0.heap.size ≤ g) (k : ∀ w', w' = ((((w.setCell ⟨g, 0, none⟩ u0).setCell ⟨g, 1, none⟩ u1).setCell ⟨g, 2, none⟩ u2).setCell ⟨g, 3, none⟩ u3) → w.grownBy w' (some g) → Bx w' g T #[u0, u1, u2, u3] → Below w0.heap.size w0 w' → C) : C :=
 k _ rfl (only_setCell (only_setCell (only_setCell (only_setCell (World.grownBy.refl _ _) _) _) _) _) ((((h.set 0 _).set 1 _).set 2 _).set 3 _) (Below.setCell (Below.setCell (Below.setCell (Below.setCell hb hz _) hz _) hz _) hz _)
theorem al2W {p q : Prop} {w w1 : World} {T1 T2 : TypeId} {c1 c2 : Array Value} [Goes p w w1 q] (hv : w1 = ((w.alloc (.cells c1 T1)).alloc (.cells c2 T2))) (M : Hid p) : Hid (Bx w1 (w.heap.size + 1) T2 c2 ∧ Bx w1 w.heap.size T1 c1 ∧ q) := by
  have hbx := bx2 w T1 T2 c1 c2
  rw [← hv] at hbx
  have hbn : Below w.heap.size w w1 := by rw [hv]; exact (below_call (below_alloc _ _) (below_alloc _ _))
  exact Lib.hid (And.intro hbx.2 (And.intro hbx.1 (Goes.go M.out hbn)))
theorem al3W {p q : Prop} {w w1 : World} {T1 T2 T3 : TypeId} {c1 c2 c3 : Array Value} [Goes p w w1 q] (hv : w1 = (((w.alloc (.cells c1 T1)).alloc (.cells c2 T2)).alloc (.cells c3 T3))) (M : Hid p) : Hid (Bx w1 (w.heap.size + 1 + 1) T3 c3 ∧ Bx w1 (w.heap.size + 1) T2 c2 ∧ Bx w1 w.heap.size T1 c1 ∧ q) := by
  have hbx := bx3 w T1 T2 T3 c1 c2 c3
  rw [← hv] at hbx
  have hbn : Below w.heap.size w w1 := by rw [hv]; exact (below_call (below_call (below_alloc _ _) (below_alloc _ _)) (below_alloc _ _))
  exact Lib.hid (And.intro hbx.2.2 (And.intro hbx.2.1 (And.intro hbx.1 (Goes.go M.out hbn))))
theorem J1 {a0 r : Prop} (M : Hid (a0 ∧ r)) : r := M.out.2
theorem J2 {a0 a1 r : Prop} (M : Hid (a0 ∧ a1 ∧ r)) : r := M.out.2.2
theorem J3 {a0 a1 a2 r : Prop} (M : Hid (a0 ∧ a1 ∧ a2 ∧ r)) : r := M.out.2.2.2
theorem J4 {a0 a1 a2 a3 r : Prop} (M : Hid (a0 ∧ a1 ∧ a2 ∧ a3 ∧ r)) : r := M.out.2.2.2.2
theorem J5 {a0 a1 a2 a3 a4 r : Prop} (M : Hid (a0 ∧ a1 ∧ a2 ∧ a3 ∧ a4 ∧ r)) : r := M.out.2.2.2.2.2
theorem J6 {a0 a1 a2 a3 a4 a5 r : Prop} (M : Hid (a0 ∧ a1 ∧ a2 ∧ a3 ∧ a4 ∧ a5 ∧ r)) : r := M.out.2.2.2.2.2.2
theorem J7 {a0 a1 a2 a3 a4 a5 a6 r : Prop} (M : Hid (a0 ∧ a1 ∧ a2 ∧ a3 ∧ a4 ∧ a5 ∧ a6 ∧ r)) : r := M.out.2.2.2.2.2.2.2
theorem J8 {a0 a1 a2 a3 a4 a5 a6 a7 r : Prop} (M : Hid (a0 ∧ a1 ∧ a2 ∧ a3 ∧ a4 ∧ a5 ∧ a6 ∧ a7 ∧ r)) : r := M.out.2.2.2.2.2.2.2.2
theorem J9 {a0 a1 a2 a3 a4 a5 a6 a7 a8 r : Prop} (M : Hid (a0 ∧ a1 ∧ a2 ∧ a3 ∧ a4 ∧ a5 ∧ a6 ∧ a7 ∧ a8 ∧ r)) : r := M.out.2.2.2.2.2.2.2.2.2
theorem J10 {a0 a1 a2 a3 a4 a5 a6 a7 a8 a9 r : Prop} (M : Hid (a0 ∧ a1 ∧ a2 ∧ a3 ∧ a4 ∧ a5 ∧ a6 ∧ a7 ∧ a8 ∧ a9 ∧ r)) : r := M.out.2.2.2.2.2.2.2.2.2.2
theorem J11 {a0 a1 a2 a3 a4 a5 a6 a7 a8 a9 a10 r : Prop} (M : Hid (a0 ∧ a1 ∧ a2 ∧ a3 ∧ a4 ∧ a5 ∧ a6 ∧ a7 ∧ a8 ∧ a9 ∧ a10 ∧ r)) : r := M.out.2.2.2.2.2.2.2.2.2.2.2
theorem J12 {a0 a1 a2 a3 a4 a5 a6 a7 a8 a9 a10 a11 r : Prop} (M : Hid (a0 ∧ a1 ∧ a2 ∧ a3 ∧ a4 ∧ a5 ∧ a6 ∧ a7 ∧ a8 ∧ a9 ∧ a10 ∧ a11 ∧ r)) : r := M.out.2.2.2.2.2.2.2.2.2.2.2.2
theorem J13 {a0 a1 a2 a3 a4 a5 a6 a7 a8 a9 a10 a11 a12 r : Prop} (M : Hid (a0 ∧ a1 ∧ a2 ∧ a3 ∧ a4 ∧ a5 ∧ a6 ∧ a7 ∧ a8 ∧ a9 ∧ a10 ∧ a11 ∧ a12 ∧ r)) : r := M.out.2.2.2.2.2.2.2.2.2.2.2.2.2
theorem J14 {a0 a1 a2 a3 a4 a5 a6 a7 a8 a9 a10 a11 a12 a13 r : Prop} (M : Hid (a0 ∧ a1 ∧ a2 ∧ a3 ∧ a4 ∧ a5 ∧ a6 ∧ a7 ∧ a8 ∧ a9 ∧ a10 ∧ a11 ∧ a12 ∧ a13 ∧ r)) : r := M.out.2.2.2.2.2.2.2.2.2.2.2.2.2.2
theorem J15 {a0 a1 a2 a3 a4 a5 a6 a7 a8 a9 a10 a11 a12 a13 a14 r : Prop} (M : Hid (a0 ∧ a1 ∧ a2 ∧ a3 ∧ a4 ∧ a5 ∧ a6 ∧ a7 ∧ a8 ∧ a9 ∧ a10 ∧ a11 ∧ a12 ∧ a13 ∧ a14 ∧ r)) : r := M.out.2.2.2.2.2.2.2.2.2.2.2.2.2.2.2
theorem J16 {a0 a1 a2 a3 a4 a5 a6 a7 a8 a9 a10 a11 a12 a13 a14 a15 r : Prop} (M : Hid (a0 ∧ a1 ∧ a2 ∧ a3 ∧ a4 ∧ a5 ∧ a6 ∧ a7 ∧ a8 ∧ a9 ∧ a10 ∧ a11 ∧ a12 ∧ a13 ∧ a14 ∧ a15 ∧ r)) : r := M.out.2.2.2.2.2.2.2.2.2.2.2.2.2.2.2.2
theorem J17 {a0 a1 a2 a3 a4 a5 a6 a7 a8 a9 a10 a11 a12 a13 a14 a15 a16 r : Prop} (M : Hid (a0 ∧ a1 ∧ a2 ∧ a3 ∧ a4 ∧ a5 ∧ a6 ∧ a7 ∧ a8 ∧ a9 ∧ a10 ∧ a11 ∧ a12 ∧ a13 ∧ a14 ∧ a15 ∧ a16 ∧ r)) : r := M.out.2.2.2.2.2.2.2.2.2.2.2.2.2.2.2.2.2
theorem J18 {a0 a1 a2 a3 a4 a5 a6 a7 a8 a9 a10 a11 a12 a13 a14 a15 a16 a17 r : Prop} (M : Hid (a0 ∧ a1 ∧ a2 ∧ a3 ∧ a4 ∧ a5 ∧ a6 ∧ a7 ∧ a8 ∧ a9 ∧ a10 ∧ a11 ∧ a12 ∧ a13 ∧ a14 ∧ a15 ∧ a16 ∧ a17 ∧ r)) : r := M.out.2.2.2.2.2.2.2.2.2.2.2.2.2.2.2.2.2.2
theorem J19 {a0 a1 a2 a3 a4 a5 a6 a7 a8 a9 a10 a11 a12 a13 a14 a15 a16 a17 a18 r : Prop} (M : Hid (a0 ∧ a1 ∧ a2 ∧ a3 ∧ a4 ∧ a5 ∧ a6 ∧ a7 ∧ a8 ∧ a9 ∧ a10 ∧ a11 ∧ a12 ∧ a13 ∧ a14 ∧ a15 ∧ a16 ∧ a17 ∧ a18 ∧ r)) : r := M.out.2.2.2.2.2.2.2.2.2.2.2.2.2.2.2.2.2.2.2
theorem J20 {a0 a1 a2 a3 a4 a5 a6 a7 a8 a9 a10 a11 a12 a13 a14 a15 a16 a17 a18 a19 r : Prop} (M : Hid (a0 ∧ a1 ∧ a2 ∧ a3 ∧ a4 ∧ a5 ∧ a6 ∧ a7 ∧ a8 ∧ a9 ∧ a10 ∧ a11 ∧ a12 ∧ a13 ∧ a14 ∧ a15 ∧ a16 ∧ a17 ∧ a18 ∧ a19 ∧ r)) : r := M.out.2.2.2.2.2.2.2.2.2.2.2.2.2.2.2.2.2.2.2.2
theorem J21 {a0 a1 a2 a3 a4 a5 a6 a7 a8 a9 a10 a11 a12 a13 a14 a15 a16 a17 a18 a19 a20 r : Prop} (M : Hid (a0 ∧ a1 ∧ a2 ∧ a3 ∧ a4 ∧ a5 ∧ a6 ∧ a7 ∧ a8 ∧ a9 ∧ a10 ∧ a11 ∧ a12 ∧ a13 ∧ a14 ∧ a15 ∧ a16 ∧ a17 ∧ a18 ∧ a19 ∧ a20 ∧ r)) : r := M.out.2.2.2.2.2.2.2.2.2.2.2.2.2.2.2.2.2.2.2.2.2
theorem J22 {a0 a1 a2 a3 a4 a5 a6 a7 a8 a9 a10 a11 a12 a13 a14 a15 a16 a17 a18 a19 a20 a21 r : Prop} (M : Hid (a0 ∧ a1 ∧ a2 ∧ a3 ∧ a4 ∧ a5 ∧ a6 ∧ a7 ∧ a8 ∧ a9 ∧ a10 ∧ a11 ∧ a12 ∧ a13 ∧ a14 ∧ a15 ∧ a16 ∧ a17 ∧ a18 ∧ a19 ∧ a20 ∧ a21 ∧ r)) : r := M.out.2.2.2.2.2.2.2.2.2.2.2.2.2.2.2.2.2.2.2.2.2.2
theorem J23 {a0 a1 a2 a3 a4 a5 a6 a7 a8 a9 a10 a11 a12 a13 a14 a15 a16 a17 a18 a19 a20 a21 a22 r : Prop} (M : Hid (a0 ∧ a1 ∧ a2 ∧ a3 ∧ a4 ∧ a5 ∧ a6 ∧ a7 ∧ a8 ∧ a9 ∧ a10 ∧ a11 ∧ a12 ∧ a13 ∧ a14 ∧ a15 ∧ a16 ∧ a17 ∧ a18 ∧ a19 ∧ a20 ∧ a21 ∧ a22 ∧ r)) : r := M.out.2.2.2.2.2.2.2.2.2.2.2.2.2.2.2.2.2.2.2.2.2.2.2
theorem J24 {a0 a1 a2 a3 a4 a5 a6 a7 a8 a9 a10 a11 a12 a13 a14 a15 a16 a17 a18 a19 a20 a21 a22 a23 r : Prop} (M : Hid (a0 ∧ a1 ∧ a2 ∧ a3 ∧ a4 ∧ a5 ∧ a6 ∧ a7 ∧ a8 ∧ a9 ∧ a10 ∧ a11 ∧ a12 ∧ a13 ∧ a14 ∧ a15 ∧ a16 ∧ a17 ∧ a18 ∧ a19 ∧ a20 ∧ a21 ∧ a22 ∧ a23 ∧ r)) : r := M.out.2.2.2.2.2.2.2.2.2.2.2.2.2.2.2.2.2.2.2.2.2.2.2.2
theorem J25 {a0 a1 a2 a3 a4 a5 a6 a7 a8 a9 a10 a11 a12 a13 a14 a15 a16 a17 a18 a19 a20 a21 a22 a23 a24 r : Prop} (M : Hid (a0 ∧ a1 ∧ a2 ∧ a3 ∧ a4 ∧ a5 ∧ a6 ∧ a7 ∧ a8 ∧ a9 ∧ a10 ∧ a11 ∧ a12 ∧ a13 ∧ a14 ∧ a15 ∧ a16 ∧ a17 ∧ a18 ∧ a19 ∧ a20 ∧ a21 ∧ a22 ∧ a23 ∧ a24 ∧ r)) : r := M.out.2.2.2.2.2.2.2.2.2.2.2.2.2.2.2.2.2.2.2.2.2.2.2.2.2
theorem J26 {a0 a1 a2 a3 a4 a5 a6 a7 a8 a9 a10 a11 a12 a13 a14 a15 a16 a17 a18 a19 a20 a21 a22 a23 a24 a25 r : Prop} (M : Hid (a0 ∧ a1 ∧ a2 ∧ a3 ∧ a4 ∧ a5 ∧ a6 ∧ a7 ∧ a8 ∧ a9 ∧ a10 ∧ a11 ∧ a12 ∧ a13 ∧ a14 ∧ a15 ∧ a16 ∧ a17 ∧ a18 ∧ a19 ∧ a20 ∧ a21 ∧ a22 ∧ a23 ∧ a24 ∧ a25 ∧ r)) : r := M.out.2.2.2.2.2.2.2.2.2.2.2.2.2.2.2.2.2.2.2.2.2.2.2.2.2.2
theorem J27 {a0 a1 a2 a3 a4 a5 a6 a7 a8 a9 a10 a11 a12 a13 a14 a15 a16 a17 a18 a19 a20 a21 a22 a23 a24 a25 a26 r : Prop} (M : Hid (a0 ∧ a1 ∧ a2 ∧ a3 ∧ a4 ∧ a5 ∧ a6 ∧ a7 ∧ a8 ∧ a9 ∧ a10 ∧ a11 ∧ a12 ∧ a13 ∧ a14 ∧ a15 ∧ a16 ∧ a17 ∧ a18 ∧ a19 ∧ a20 ∧ a21 ∧ a22 ∧ a23 ∧ a24 ∧ a25 ∧ a26 ∧ r)) : r := M.out.2.2.2.2.2.2.2.2.2.2.2.2.2.2.2.2.2.2.2.2.2.2.2.2.2.2.2
theorem J28 {a0 a1 a2 a3 a4 a5 a6 a7 a8 a9 a10 a11 a12 a13 a14 a15 a16 a17 a18 a19 a20 a21 a22 a23 a24 a25 a26 a27 r : Prop} (M : Hid (a0 ∧ a1 ∧ a2 ∧ a3 ∧ a4 ∧ a5 ∧ a6 ∧ a7 ∧ a8 ∧ a9 ∧ a10 ∧ a11 ∧ a12 ∧ a13 ∧ a14 ∧ a15 ∧ a16 ∧ a17 ∧ a18 ∧ a19 ∧ a20 ∧ a21 ∧ a22 ∧ a23 ∧ a24 ∧ a25 ∧ a26 ∧ a27 ∧ r)) : r := M.out.2.2.2.2.2.2.2.2.2.2.2.2.2.2.2.2.2.2.2.2.2.2.2.2.2.2.2.2
end Go.Proofs.YtcfmakpckdicjaaGreatDoor
