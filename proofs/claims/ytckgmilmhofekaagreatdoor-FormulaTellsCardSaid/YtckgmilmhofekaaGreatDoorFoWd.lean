/- Walks: words, operators. -/
import Derived.Test.YtckgmilmhofekaaGreatDoorLexLaws
import Derived.Test.YtckgmilmhofekaaGreatDoorFoBack
import Derived.Test.YtckgmilmhofekaaGreatDoorBase
import Derived.Test.YtckgmilmhofekaaGreatDoorLexPrint
import Derived.Test.YtckgmilmhofekaaGreatDoorBigSpec
import Derived.Test.YtckgmilmhofekaaGreatDoorBigD
import Derived.Test.YtckgmilmhofekaaGreatDoorBigQ
import Derived.Test.YtckgmilmhofekaaGreatDoorFd
import Derived.Test.YtckgmilmhofekaaGreatDoorHeld
import Derived.Test.YtckgmilmhofekaaGreatDoorAw
import Derived.Test.YtckgmilmhofekaaGreatDoorOwn
import Derived.Test.YtckgmilmhofekaaGreatDoorProg
import Derived.Test.YtckgmilmhofekaaGreatDoorShelf
import Derived.WalkKit
import Derived.Lib.ItoaNum
import Derived.WalkSpells
import Derived.WalkLawsBesides
import Derived.Handy
import Derived.Lib.Hide
import Derived.Lib.Strings
import Derived.Lib.Builder
import Derived.Shelf.Strings.Builder1
import Derived.BigQuiet
import Derived.OwnWalk
import Derived.Laws.BitsLemmas
import Derived.WalkSmall
import Derived.Deep.QuietTactic
import Derived.StillTailTactics
import Derived.Maps.AppendAt
import Derived.IntWalk
import Derived.Deep.RegionHeld3
import Derived.Deep.DeepFit
import Derived.Deep.LoopGhost
import Derived.Deep.DeepCutAuto
import Derived.Lib.Repeat
import Derived.Lib.AppendIntMem
import Derived.Sort.OwnSorted
import Derived.Shelf.Strings.SlTrimAscii
import Derived.Lib.ConvBytes
import Derived.Lib.CutLaws
namespace Go.Proofs.YtckgmilmhofekaaGreatDoor
open Go.RowKit

/-! ### Nothing but the block g is written -/
theorem gr_refl (g : Nat) (w : World) : w.grownBy w (some g) := ⟨rfl, rfl, rfl, Nat.le_refl _, fun _ _ _ => rfl⟩
theorem gr_trans {g : Nat} {a b c : World} (h : a.grownBy b (some g)) (k : b.grownBy c (some g)) : a.grownBy c (some g) :=
 ⟨k.os.trans h.os, k.tape.trans h.tape, k.output.trans h.output, Nat.le_trans h.size k.size, fun i hi hne => (k.block i (Nat.lt_of_lt_of_le hi h.size) hne).trans (h.block i hi hne)⟩
theorem gr_below {g : Nat} {w w' : World} (h : Below w.heap.size w w') : w.grownBy w' (some g) := ⟨h.os, h.tape, h.output, h.size, fun k hk _ => h.block k hk⟩
theorem gr_call {g : Nat} {a b c : World} (h : a.grownBy b (some g)) (k : Below b.heap.size b c) : a.grownBy c (some g) := gr_trans h (gr_below k)
theorem gr_set (g i : Nat) (w : World) (u : Value) : w.grownBy (w.setCell ⟨g, i, none⟩ u) (some g) :=
 ⟨rfl, rfl, rfl, by simp [World.setCell], fun k _ hne => Below.heap_setCell w ⟨g, i, none⟩ u k (by simpa using hne)⟩
theorem gr_to {g G : Nat} {w w' : World} (h : w.grownBy w' (some g)) (hg : G ≤ g) (hG : G ≤ w.heap.size) : Below G w w' :=
 ⟨h.os, h.tape, h.output, h.size, fun k hk => h.block k (by omega) (by simp; omega)⟩
/-! ### Expressions -/
/-- An expression's cells. -/
def hdC (x : Ex) (p : Option Addr) (c : Nat) : List Value := [.int .i64 x.op, .int .i64 x.n, .string ⟨x.unit.toArray⟩, .string ⟨x.name.toArray⟩, .slice p x.args.len c]
/-- From this place on the block's cells read as these expressions; what is below them lies in blocks of D. -/
def FoC (D : Nat → Prop) (w : World) : Fo → Nat → Nat → Prop
 | .nil, _, _ => True
 | .cons op n u m a r, b, o =>
  (∃ p c, (∀ (j : Nat) (v : Value), (hdC ⟨op, n, u, m, a⟩ p c)[j]? = some v → w.cell? ⟨b, o + j, none⟩ = some v) ∧ a.len ≤ c ∧
   (a.len = 0 ∨ ∃ b' o', p = some ⟨b', o', none⟩ ∧ D b' ∧ b' < w.heap.size ∧ FoC D w a b' o')) ∧ FoC D w r b (o + 5)
/-- A slice reads as these expressions. -/
def FoS (D : Nat → Prop) (w : World) (p : Option Addr) (c : Nat) (a : Fo) : Prop :=
 a.len ≤ c ∧ (a.len = 0 ∨ ∃ b o, p = some ⟨b, o, none⟩ ∧ D b ∧ b < w.heap.size ∧ FoC D w a b o)
theorem FoC.move {D D' : Nat → Prop} {w w' : World} (hD : ∀ b, D b → D' b) (hs : w.heap.size ≤ w'.heap.size) (hc : ∀ b o v, D b → b < w.heap.size → w.cell? ⟨b, o, none⟩ = some v → w'.cell? ⟨b, o, none⟩ = some v) :
  ∀ {a : Fo} {b o : Nat}, D b → b < w.heap.size → FoC D w a b o → FoC D' w' a b o
 | .nil, _, _, _, _, _ => trivial
 | .cons op n u m a r, b, o, hb, hlt, h => by
  obtain ⟨⟨p, c, h1, h2, h3⟩, h4⟩ := h
  refine ⟨⟨p, c, fun j v hj => hc b _ v hb hlt (h1 j v hj), h2, h3.imp id ?_⟩, FoC.move hD hs hc hb hlt h4⟩
  rintro ⟨b', o', e, k1, k2, k3⟩
  exact ⟨b', o', e, hD _ k1, Nat.lt_of_lt_of_le k2 hs, FoC.move hD hs hc k1 k2 k3⟩
theorem FoS.move {D D' : Nat → Prop} {w w' : World} (hD : ∀ b, D b → D' b) (hs : w.heap.size ≤ w'.heap.size) (hc : ∀ b o v, D b → b < w.heap.size → w.cell? ⟨b, o, none⟩ = some v → w'.cell? ⟨b, o, none⟩ = some v) {p : Option Addr} {c : Nat} {a : Fo} (h : FoS D w p c a) : FoS D' w' p c a :=
 ⟨h.1, h.2.imp id fun ⟨b, o, e, k1, k2, k3⟩ => ⟨b, o, e, hD _ k1, Nat.lt_of_lt_of_le k2 hs, FoC.move hD hs hc k1 k2 k3⟩⟩
/-- All that is read lies in the heap. -/
theorem FoC.inHeap {D : Nat → Prop} {w : World} : ∀ {a : Fo} {b o : Nat}, D b → b < w.heap.size → FoC D w a b o → FoC (fun b => b < w.heap.size ∧ D b) w a b o
 | .nil, _, _, _, _, _ => trivial
 | .cons op n u m a r, b, o, hb, hlt, h => by
  obtain ⟨⟨p, c, h1, h2, h3⟩, h4⟩ := h
  refine ⟨⟨p, c, h1, h2, h3.imp id ?_⟩, FoC.inHeap hb hlt h4⟩
  rintro ⟨b', o', e, k1, k2, k3⟩
  exact ⟨b', o', e, ⟨k2, k1⟩, k2, FoC.inHeap k1 k2 k3⟩
theorem FoS.mono {D D' : Nat → Prop} {w : World} {p : Option Addr} {c : Nat} {a : Fo} (h : FoS D w p c a) (hD : ∀ b, D b → D' b) : FoS D' w p c a := h.move hD (Nat.le_refl _) fun _ _ _ _ _ h => h
theorem FoS.keep {D : Nat → Prop} {w w' : World} {p : Option Addr} {c : Nat} {a : Fo} (h : FoS D w p c a) (hb : Below w.heap.size w w') : FoS D w' p c a :=
 h.move (fun _ h => h) hb.size fun _ _ _ _ hlt hv => by rw [hb.cell (p := ⟨_, _, none⟩) hlt]; exact hv
/-- A write to a block that is none of D's. -/
theorem FoS.grown {D : Nat → Prop} {w w' : World} {p : Option Addr} {c g : Nat} {a : Fo} (h : FoS D w p c a) (hb : w.grownBy w' (some g)) (hne : ¬ D g) : FoS D w' p c a :=
 h.move (fun _ h => h) hb.size fun b _ _ hD _ hv => hb.cell hv (by simp; rintro rfl; exact hne hD)
theorem FoS.nil {D : Nat → Prop} {w : World} {p : Option Addr} {c : Nat} : FoS D w p c .nil := ⟨Nat.zero_le _, .inl rfl⟩
theorem FoC.get {D : Nat → Prop} {w : World} : ∀ {a : Fo} {b o k : Nat} {x : Ex}, FoC D w a b o → a.list[k]? = some x → ∃ p c, (∀ (j : Nat) (v : Value), (hdC x p c)[j]? = some v → w.cell? ⟨b, o + 5 * k + j, none⟩ = some v) ∧ FoS D w p c x.args
 | .nil, _, _, _, _, _, hk => by cases hk
 | .cons op n u m a r, b, o, 0, x, h, hk => by
  cases hk
  obtain ⟨⟨p, c, h1, h2, h3⟩, h4⟩ := h
  exact ⟨p, c, h1, h2, h3⟩
 | .cons op n u m a r, b, o, k + 1, x, h, hk => by
  obtain ⟨p, c, h1, h2⟩ := FoC.get h.2 hk
  refine ⟨p, c, fun j v hj => ?_, h2⟩
  have := h1 j v hj
  rw [show o + 5 + 5 * k + j = o + 5 * (k + 1) + j by omega] at this; exact this
theorem FoC.of {D : Nat → Prop} {w : World} {b : Nat} : ∀ {l : List Ex} {o : Nat}, (∀ (k : Nat) (x : Ex), l[k]? = some x → ∃ p c, (∀ (j : Nat) (v : Value), (hdC x p c)[j]? = some v → w.cell? ⟨b, o + 5 * k + j, none⟩ = some v) ∧ FoS D w p c x.args) → FoC D w (Fo.of l) b o
 | [], _, _ => trivial
 | x :: r, o, h => by
  obtain ⟨p, c, h1, h2, h3⟩ := h 0 x rfl
  refine ⟨⟨p, c, h1, h2, h3⟩, FoC.of fun k y hk => ?_⟩
  obtain ⟨p', c', k1, k2⟩ := h (k + 1) y hk
  refine ⟨p', c', fun j v hj => ?_, k2⟩
  have := k1 j v hj
  rw [show o + 5 * (k + 1) + j = o + 5 + 5 * k + j by omega] at this; exact this
/-- Element k of a slice. -/
theorem FoS.at {D : Nat → Prop} {w : World} {p : Option Addr} {c k : Nat} {a : Fo} {x : Ex} (h : FoS D w p c a) (hk : a.list[k]? = some x) : ∃ b o q d, p = some ⟨b, o, none⟩ ∧ b < w.heap.size ∧ (∀ (j : Nat) (v : Value), (hdC x q d)[j]? = some v → w.cell? ⟨b, o + 5 * k + j, none⟩ = some v) ∧ FoS D w q d x.args := by
  rcases h.2 with h0 | ⟨b, o, e, -, hlt, h1⟩
  · have := (List.getElem?_eq_some_iff.1 hk).1
    rw [Fo.len_list] at this; omega
  · obtain ⟨q, d, k1, k2⟩ := h1.get hk
    exact ⟨b, o, q, d, e, hlt, k1, k2⟩
/-! ### The reader -/
theorem ToksIn.only {w w' : World} {p : Option Addr} {n c g : Nat} {ts : List Tok} (h : ToksIn w (.slice p n c) ts) (hb : w.grownBy w' (some g)) (hne : ∀ b o, p = some ⟨b, o, none⟩ → b ≠ g) : ToksIn w' (.slice p n c) ts := by
 obtain ⟨a', cap', hv, hc⟩ := h
 cases hv
 refine ⟨p, c, rfl, fun k hk => ?_⟩
 obtain ⟨b, off, ha, hlt, hcell⟩ := hc k hk
 exact ⟨b, off, ha, Nat.lt_of_lt_of_le hlt hb.size, fun j u hj => hb.cell (hcell j u hj) (by have := hne b off ha; simpa using this)⟩
/-- A reader of these tokens, at the token k. -/
structure Rd (w : World) (g : Nat) (p : Option Addr) (c : Nat) (ts : List Tok) (k : Nat) (bad : Bool) : Prop where
 bx : Bx w g 61 #[.slice p ts.length c, .int .i64 k, .bool bad]
 tk : ToksIn w (.slice p ts.length c) ts
 lt : ∀ b o, p = some ⟨b, o, none⟩ → b < g
 len : ts.length ≤ 1099511627776
 le : k ≤ ts.length
theorem Rd.keep {w w' : World} {g : Nat} {p : Option Addr} {c : Nat} {ts : List Tok} {k : Nat} {bad : Bool} (h : Rd w g p c ts k bad) (hb : Below w.heap.size w w') : Rd w' g p c ts k bad := ⟨h.bx.keep hb, h.tk.keep hb, h.lt, h.len, h.le⟩
theorem Rd.set1 {w : World} {g : Nat} {p : Option Addr} {c : Nat} {ts : List Tok} {k k' : Nat} {bad : Bool} (h : Rd w g p c ts k bad) (hk : k' ≤ ts.length) : Rd (w.setCell ⟨g, 1, none⟩ (.int .i64 k')) g p c ts k' bad :=
 ⟨by have := h.bx.set 1 (.int .i64 k'); simpa using this, h.tk.only (gr_set g 1 w _) (fun b o e => Nat.ne_of_lt (h.lt b o e)), h.lt, h.len, hk⟩
theorem Rd.set2 {w : World} {g : Nat} {p : Option Addr} {c : Nat} {ts : List Tok} {k : Nat} {bad : Bool} (h : Rd w g p c ts k bad) (b : Bool) : Rd (w.setCell ⟨g, 2, none⟩ (.bool b)) g p c ts k b :=
 ⟨by have := h.bx.set 2 (.bool b); simpa using this, h.tk.only (gr_set g 2 w _) (fun b o e => Nat.ne_of_lt (h.lt b o e)), h.lt, h.len, h.le⟩
/-- A write to a block that was made behind the reader. -/
theorem Rd.other {w w' : World} {g g' : Nat} {p : Option Addr} {c : Nat} {ts : List Tok} {k : Nat} {bad : Bool} (h : Rd w g p c ts k bad) (hb : w.grownBy w' (some g')) (hg : g < g') : Rd w' g p c ts k bad :=
 ⟨h.bx.only hb (Nat.ne_of_lt hg), h.tk.only hb (fun b o e => by have := h.lt b o e; omega), h.lt, h.len, h.le⟩
theorem Bx.r3 {w : World} {g : Nat} {T : TypeId} {u0 u1 u2 : Value} (h : Bx w g T #[u0, u1, u2]) : w.cell? ⟨g, 0, none⟩ = some u0 ∧ w.cell? ⟨g, 1, none⟩ = some u1 ∧ w.cell? ⟨g, 2, none⟩ = some u2 ∧ w.frozen? ⟨g, 0, none⟩ = false ∧ w.frozen? ⟨g, 1, none⟩ = false ∧ w.frozen? ⟨g, 2, none⟩ = false :=
  ⟨h.at.1 0, h.at.1 1, h.at.1 2, h.at.2 0, h.at.2 1, h.at.2 2⟩
/-- The token that is next. -/
theorem Rd.tok {w : World} {g : Nat} {p : Option Addr} {c : Nat} {ts : List Tok} {m k : Nat} {bad : Bool} (h : Rd w g p c ts m bad) (hk : k < ts.length) : ∃ b o, p = some ⟨b, o, none⟩ ∧ w.cell? ⟨b, o + k * 4, none⟩ = some (.int .i64 ts[k].kind) ∧ w.cell? ⟨b, o + k * 4 + 1, none⟩ = some (.string ⟨ts[k].text.toArray⟩) ∧
  w.cell? ⟨b, o + k * 4 + 2, none⟩ = some (.int .i64 ts[k].n) ∧ w.cell? ⟨b, o + k * 4 + 3, none⟩ = some (.int .i64 ts[k].pos) := by
 obtain ⟨b, off, rfl, hb, hcell⟩ := h.tk.at hk
 exact ⟨b, off, rfl, hcell 0 _ rfl, hcell 1 _ rfl, hcell 2 _ rfl, hcell 3 _ rfl⟩
theorem drop_tok {ts : List Tok} {k : Nat} (hk : k < ts.length) : ts.drop k = ts[k] :: ts.drop (k + 1) := List.drop_eq_getElem_cons hk
theorem isT_at {ts : List Tok} {k : Nat} (hk : k < ts.length) (q : Nat) (s : Bytes) : isT q s (ts.drop k) = (ts[k].kind == q && ts[k].text == s) := by rw [drop_tok hk]; rfl
theorem isT_end {ts : List Tok} {k : Nat} (hk : ts.length ≤ k) (q : Nat) (s : Bytes) : isT q s (ts.drop k) = false := by rw [List.drop_eq_nil_of_le hk]; rfl
/-- Whether the next token is of a kind. -/
def kindT (q : Nat) : List Tok → Bool
 | [] => false
 | t :: _ => t.kind == q
theorem kindT_at {ts : List Tok} {k : Nat} (hk : k < ts.length) (q : Nat) : kindT q (ts.drop k) = (ts[k].kind == q) := by rw [drop_tok hk]; rfl
theorem kindT_end {ts : List Tok} {k : Nat} (hk : ts.length ≤ k) (q : Nat) : kindT q (ts.drop k) = false := by rw [List.drop_eq_nil_of_le hk]; rfl
/-! ### Short words for printed texts (squeeze.py, SQF=1) -/
theorem kS {α : Type _} {l : List α} {i : Nat} {a : α} : l.toArray.setIfInBounds i a = (l.set i a).toArray := List.setIfInBounds_toArray ..
theorem kZ {α : Type _} {x a : α} {l : List α} : (x :: l).set 0 a = a :: l := List.set_cons_zero
theorem kC {α : Type _} {x a : α} {l : List α} {i : Nat} : (x :: l).set (i + 1) a = x :: l.set i a := List.set_cons_succ
theorem bxh {w w1 : World} {T : TypeId} {cs : Array Value} (hv : w1 = w.alloc (.cells cs T)) : Hid (Bx w1 w.heap.size T cs) := by subst hv; exact bx1 w T cs
theorem bah {w w1 : World} {o : Obj} (hv : w1 = w.alloc o) : Below w.heap.size w w1 := by subst hv; exact below_alloc _ _
theorem bdh {w w1 : World} (hv : w1 = w.drew) : Below w.heap.size w w1 := by subst hv; exact below_drew _
theorem gs2 {g : Nat} {w : World} {a0 a1 : Nat} {u0 u1 : Value} : w.grownBy ((w.setCell ⟨g, a0, none⟩ u0).setCell ⟨g, a1, none⟩ u1) (some g) := (gr_trans (gr_set _ _ _ _) (gr_set _ _ _ _))
theorem gs4 {g : Nat} {w : World} {a0 a1 a2 a3 : Nat} {u0 u1 u2 u3 : Value} : w.grownBy ((((w.setCell ⟨g, a0, none⟩ u0).setCell ⟨g, a1, none⟩ u1).setCell ⟨g, a2, none⟩ u2).setCell ⟨g, a3, none⟩ u3) (some g) := (gr_trans (gr_trans (gr_trans (gr_set _ _ _ _) (gr_set _ _ _ _)) (gr_set _ _ _ _)) (gr_set _ _ _ _))
theorem gs5 {g : Nat} {w : World} {a0 a1 a2 a3 a4 : Nat} {u0 u1 u2 u3 u4 : Value} : w.grownBy (((((w.setCell ⟨g, a0, none⟩ u0).setCell ⟨g, a1, none⟩ u1).setCell ⟨g, a2, none⟩ u2).setCell ⟨g, a3, none⟩ u3).setCell ⟨g, a4, none⟩ u4) (some g) := (gr_trans (gr_trans (gr_trans (gr_trans (gr_set _ _ _ _) (gr_set _ _ _ _)) (gr_set _ _ _ _)) (gr_set _ _ _ _)) (gr_set _ _ _ _))
theorem Bx.q3 {w : World} {g : Nat} {T : TypeId} {u0 u1 u2 : Value} {C : Prop} (h : Bx w g T #[u0, u1, u2]) (k : w.cell? ⟨g, 0, none⟩ = some u0 → w.cell? ⟨g, 1, none⟩ = some u1 → w.cell? ⟨g, 2, none⟩ = some u2 → C) : C := k (h.at.1 0) (h.at.1 1) (h.at.1 2)
theorem Bx.q4 {w : World} {g : Nat} {T : TypeId} {u0 u1 u2 u3 : Value} {C : Prop} (h : Bx w g T #[u0, u1, u2, u3]) (k : w.cell? ⟨g, 0, none⟩ = some u0 → w.cell? ⟨g, 1, none⟩ = some u1 → w.cell? ⟨g, 2, none⟩ = some u2 → w.cell? ⟨g, 3, none⟩ = some u3 → C) : C := k (h.at.1 0) (h.at.1 1) (h.at.1 2) (h.at.1 3)
theorem Bx.e4 {w : World} {g : Nat} {T : TypeId} {u0 u1 u2 u3 : Value} {C : Prop} (h : Bx w g T #[u0, u1, u2, u3]) (k : w.cell? ⟨g, 0, none⟩ = some u0 → w.frozen? ⟨g, 0, none⟩ = false → w.cell? ⟨g, 1, none⟩ = some u1 → w.frozen? ⟨g, 1, none⟩ = false → w.cell? ⟨g, 2, none⟩ = some u2 → w.frozen? ⟨g, 2, none⟩ = false → w.cell? ⟨g, 3, none⟩ = some u3 → w.frozen? ⟨g, 3, none⟩ = false → C) : C := k (h.at.1 0) (h.at.2 0) (h.at.1 1) (h.at.2 1) (h.at.1 2) (h.at.2 2) (h.at.1 3) (h.at.2 3)
theorem Bx.q5 {w : World} {g : Nat} {T : TypeId} {u0 u1 u2 u3 u4 : Value} {C : Prop} (h : Bx w g T #[u0, u1, u2, u3, u4]) (k : w.cell? ⟨g, 0, none⟩ = some u0 → w.cell? ⟨g, 1, none⟩ = some u1 → w.cell? ⟨g, 2, none⟩ = some u2 → w.cell? ⟨g, 3, none⟩ = some u3 → w.cell? ⟨g, 4, none⟩ = some u4 → C) : C := k (h.at.1 0) (h.at.1 1) (h.at.1 2) (h.at.1 3) (h.at.1 4)
theorem Bx.e5 {w : World} {g : Nat} {T : TypeId} {u0 u1 u2 u3 u4 : Value} {C : Prop} (h : Bx w g T #[u0, u1, u2, u3, u4]) (k : w.cell? ⟨g, 0, none⟩ = some u0 → w.frozen? ⟨g, 0, none⟩ = false → w.cell? ⟨g, 1, none⟩ = some u1 → w.frozen? ⟨g, 1, none⟩ = false → w.cell? ⟨g, 2, none⟩ = some u2 → w.frozen? ⟨g, 2, none⟩ = false → w.cell? ⟨g, 3, none⟩ = some u3 → w.frozen? ⟨g, 3, none⟩ = false → w.cell? ⟨g, 4, none⟩ = some u4 → w.frozen? ⟨g, 4, none⟩ = false → C) : C := k (h.at.1 0) (h.at.2 0) (h.at.1 1) (h.at.2 1) (h.at.1 2) (h.at.2 2) (h.at.1 3) (h.at.2 3) (h.at.1 4) (h.at.2 4)
end Go.Proofs.YtckgmilmhofekaaGreatDoor
namespace Go.Proofs.YtckgmilmhofekaaGreatDoor
open Go.RowKit

theorem nat_beq (a b : Nat) : ((a : Int) == (b : Int)) = (a == b) := by
 cases h : a == b with
 | true => rw [beq_iff_eq] at h ⊢; omega
 | false => rw [beq_eq_false_iff_ne] at h ⊢; omega
set_option maxRecDepth 100000 in
set_option maxHeartbeats 4000000 in
theorem is_ok {w : World} {g : Nat} {p : Option Addr} {c : Nat} {ts : List Tok} {k : Nat} {bad : Bool} (h : Rd w g p c ts k bad) (q : Nat) (s : ByteArray) {sl : Bytes} (hsl : s.toList = sl) :
    Calls Tryz.prog 89 #[.pointer (some ⟨g, 0, none⟩), .int .i64 q, .string s] w fun e w' => e = .returned (.bool (!bad && isT q sl (ts.drop k))) ∧ Below w.heap.size w w' := by
  subst hsl
  obtain ⟨p0, p1, p2, -⟩ := h.bx.r3
  have hlen := h.len
  have hle := h.le
  cases bad with
  | true =>
    clear h
    go_enter Tryz.func89, Tryz.ntmps89
    go_wp2_with fail
    go_quiet (fail)
    go_wp2_with fail
    go_ret
    exact ⟨rfl, below_drewN (Below.refl _ _) _⟩
  | false =>
    by_cases hk : k < ts.length
    · obtain ⟨b, o, rfl, c0, c1, -, -⟩ := h.tok hk
      rw [isT_at hk]
      generalize ts[k] = t at *
      have hI : (k : Int) < (ts.length : Int) := by omega
      have hI0 : (0 : Int) ≤ (k : Int) := by omega
      have hD : decide ((k : Int) < (ts.length : Int)) = true := decide_eq_true hI
      obtain ⟨b1, h1⟩ : ∃ b, (t.kind == q) = b := ⟨_, rfl⟩
      obtain ⟨b2, h2⟩ : ∃ b, (t.text == s.toList) = b := ⟨_, rfl⟩
      have h1i : ((t.kind : Int) == (q : Int)) = b1 := by rw [nat_beq]; exact h1
      have h2i : ((⟨t.text.toArray⟩ : ByteArray).toList == s.toList) = b2 := by rw [Lib.toList_data]; exact h2
      have HR : Hid ((t.kind == q && t.text == s.toList) = (b1 && b2)) := by show _ = _; rw [h1, h2]
      clear h
      go_enter Tryz.func89, Tryz.ntmps89
      go_wp2_with fail
      cases b1 with
      | false =>
        go_quiet (fail)
        go_wp2_with fail
        go_ret
        exact ⟨by rw [HR.out]; rfl, below_drewN (Below.refl _ _) _⟩
      | true =>
        go_quiet (fail)
        go_wp2_with fail
        go_ret
        exact ⟨by rw [HR.out]; cases b2 <;> rfl, below_drewN (Below.refl _ _) _⟩
    · rw [isT_end (by omega)]
      have hI : ¬ (k : Int) < (ts.length : Int) := by omega
      have hD : decide ((k : Int) < (ts.length : Int)) = false := decide_eq_false hI
      clear h
      go_enter Tryz.func89, Tryz.ntmps89
      go_wp2_with fail
      go_quiet (fail)
      go_wp2_with fail
      go_ret
      exact ⟨rfl, below_drewN (Below.refl _ _) _⟩
set_option maxRecDepth 100000 in
set_option maxHeartbeats 4000000 in
theorem kind_ok {w : World} {g : Nat} {p : Option Addr} {c : Nat} {ts : List Tok} {k : Nat} {bad : Bool} (h : Rd w g p c ts k bad) (q : Nat) {b_ : Bool} (hb : (!bad && kindT q (ts.drop k)) = b_) :
    Calls Tryz.prog 90 #[.pointer (some ⟨g, 0, none⟩), .int .i64 q] w fun e w' => e = .returned (.bool b_) ∧ Below w.heap.size w w' := by
  obtain ⟨p0, p1, p2, -⟩ := h.bx.r3
  have hlen := h.len
  have hle := h.le
  subst hb
  cases bad with
  | true =>
    clear h
    go_enter Tryz.func90, Tryz.ntmps90
    go_wp2_with fail
    go_quiet (fail)
    go_wp2_with fail
    go_ret
    exact ⟨rfl, below_drewN (Below.refl _ _) _⟩
  | false =>
    by_cases hk : k < ts.length
    · obtain ⟨b, o, rfl, c0, c1, -, -⟩ := h.tok hk
      rw [kindT_at hk]
      generalize ts[k] = t at *
      have hI : (k : Int) < (ts.length : Int) := by omega
      have hI0 : (0 : Int) ≤ (k : Int) := by omega
      have hD : decide ((k : Int) < (ts.length : Int)) = true := decide_eq_true hI
      obtain ⟨b1, h1⟩ : ∃ b, (t.kind == q) = b := ⟨_, rfl⟩
      have h1i : ((t.kind : Int) == (q : Int)) = b1 := by rw [nat_beq]; exact h1
      have HR := Lib.hid h1
      clear h
      go_enter Tryz.func90, Tryz.ntmps90
      go_wp2_with fail
      go_quiet (fail)
      go_wp2_with fail
      go_ret
      exact ⟨by rw [HR.out]; cases b1 <;> rfl, below_drewN (Below.refl _ _) _⟩
    · rw [kindT_end (by omega)]
      have hI : ¬ (k : Int) < (ts.length : Int) := by omega
      have hD : decide ((k : Int) < (ts.length : Int)) = false := decide_eq_false hI
      clear h
      go_enter Tryz.func90, Tryz.ntmps90
      go_wp2_with fail
      go_quiet (fail)
      go_wp2_with fail
      go_ret
      exact ⟨rfl, below_drewN (Below.refl _ _) _⟩
/-- Where the reader stands after a step that was taken or not. -/
def stepK (b : Bool) (k : Nat) : Nat := if b = true then k + 1 else k
theorem isT_lt {q : Nat} {s : Bytes} {ts : List Tok} {k : Nat} (h : isT q s (ts.drop k) = true) : k < ts.length := by
  rcases Nat.lt_or_ge k ts.length with h1 | h1
  · exact h1
  · rw [isT_end h1] at h; cases h
set_option maxRecDepth 100000 in
set_option maxHeartbeats 4000000 in
theorem skip_ok {w : World} {g : Nat} {p : Option Addr} {c : Nat} {ts : List Tok} {k k' : Nat} {bad : Bool} (h : Rd w g p c ts k bad) (q : Nat) (s : ByteArray) {sl : Bytes} (hsl : s.toList = sl) {b_ : Bool} (hb : (!bad && isT q sl (ts.drop k)) = b_) (hk' : stepK b_ k = k') :
  Calls Tryz.prog 63 #[.pointer (some ⟨g, 0, none⟩), .int .i64 q, .string s] w fun e w' => e = .returned (.bool b_) ∧ Rd w' g p c ts k' bad ∧ w.grownBy w' (some g) := by
 have H := Lib.hid h; have HS := Lib.hid hsl; have HB := Lib.hid hb; have HK := Lib.hid hk'
 clear h hsl hb hk'
 go_enter Tryz.func63, Tryz.ntmps63
 go_wp2_with fail
 refine (is_ok H.out q s HS.out).mono ?_
 rintro e w1 ⟨rfl, b1⟩
 rw [HB.out]
 have H1 := Lib.hid (H.out.keep b1); clear H
 have G1 := Lib.hid (gr_below (g := g) b1); clear b1
 cases b_ with
 | false =>
  obtain rfl : k = k' := HK.out
  go_wp2_with fail
  go_ret
  exact ⟨rfl, H1.out, G1.out⟩
 | true =>
  obtain rfl : k + 1 = k' := HK.out
  have hb' := HB.out
  simp only [Bool.and_eq_true, Bool.not_eq_true'] at hb'
  have hlt := isT_lt hb'.2
  clear hb' HB
  have hlen := H1.out.len
  obtain ⟨p0, p1, p2, q0, q1, q2⟩ := H1.out.bx.r3
  have HL := Lib.hid hlt
  go_wp2_with fail
  go_ret
  exact ⟨rfl, H1.out.set1 HL.out, gr_trans G1.out (gr_set _ _ _ _)⟩
set_option maxRecDepth 100000 in
set_option maxHeartbeats 4000000 in
theorem need_ok {w : World} {g : Nat} {p : Option Addr} {c : Nat} {ts : List Tok} {k k' : Nat} {bad bad' : Bool} (h : Rd w g p c ts k bad) (q : Nat) (s : ByteArray) {sl : Bytes} (hsl : s.toList = sl) {b_ : Bool} (hb : (!bad && isT q sl (ts.drop k)) = b_) (hk' : stepK b_ k = k') (hbad : (!b_ || bad) = bad') :
  Calls Tryz.prog 65 #[.pointer (some ⟨g, 0, none⟩), .int .i64 q, .string s] w fun e w' => e = .returned (.tuple #[]) ∧ Rd w' g p c ts k' bad' ∧ w.grownBy w' (some g) := by
 have H := Lib.hid h; have HS := Lib.hid hsl; have HB := Lib.hid hb; have HK := Lib.hid hk'
 clear h hsl hb hk'
 subst hbad
 go_enter Tryz.func65, Tryz.ntmps65
 go_wp2_with fail
 refine (skip_ok H.out q s HS.out HB.out HK.out).mono ?_
 rintro e w1 ⟨rfl, h1, g1⟩
 have H1 := Lib.hid h1; have G1 := Lib.hid g1; clear h1 g1 H
 obtain ⟨p0, p1, p2, q0, q1, q2⟩ := H1.out.bx.r3
 cases b_ with
 | true =>
  go_wp2_with fail
  refine bodyPost_end (results_none rfl _ _ _) rfl ?_
  exact ⟨rfl, H1.out.set2 _, gr_trans G1.out (gr_set _ _ _ _)⟩
 | false =>
  go_wp2_with fail
  refine bodyPost_end (results_none rfl _ _ _) rfl ?_
  exact ⟨rfl, H1.out.set2 _, gr_trans G1.out (gr_set _ _ _ _)⟩
set_option maxRecDepth 100000 in
set_option maxHeartbeats 4000000 in
theorem sign_ok {w : World} {g : Nat} {p : Option Addr} {c : Nat} {ts : List Tok} {k k' : Nat} {bad bad' : Bool} (h : Rd w g p c ts k bad) (s : ByteArray) {sl : Bytes} (hsl : s.toList = sl) {b_ : Bool} (hb : (!bad && isT 3 sl (ts.drop k)) = b_) (hk' : stepK b_ k = k') (hbad : (!b_ || bad) = bad') :
  Calls Tryz.prog 93 #[.pointer (some ⟨g, 0, none⟩), .string s] w fun e w' => e = .returned (.tuple #[]) ∧ Rd w' g p c ts k' bad' ∧ w.grownBy w' (some g) := by
 have H := Lib.hid h; have HS := Lib.hid hsl; have HB := Lib.hid hb; have HK := Lib.hid hk'; have HD := Lib.hid hbad
 clear h hsl hb hk' hbad
 go_enter Tryz.func93, Tryz.ntmps93
 go_wp2_with fail
 refine (need_ok H.out 3 s HS.out HB.out HK.out HD.out).mono ?_
 rintro e w1 ⟨rfl, h1, g1⟩
 go_wp2_with fail
 refine bodyPost_end (results_none rfl _ _ _) rfl ?_
 exact ⟨rfl, h1, g1⟩
/-- A write to a block that was made behind a world's own is none to that world. -/
theorem gr_new {g g' : Nat} {w a b : World} (h : w.grownBy a (some g)) (k : a.grownBy b (some g')) (hg : w.heap.size ≤ g') : w.grownBy b (some g) :=
 ⟨k.os.trans h.os, k.tape.trans h.tape, k.output.trans h.output, Nat.le_trans h.size k.size, fun i hi hne => (k.block i (Nat.lt_of_lt_of_le hi h.size) (by simp; omega)).trans (h.block i hi hne)⟩
/-- A token's cells. -/
def tkC (t : Tok) : Array Value := #[.int .i64 t.kind, .string ⟨t.text.toArray⟩, .int .i64 t.n, .int .i64 t.pos]
set_option maxRecDepth 100000 in
set_option maxHeartbeats 4000000 in
theorem take_ok {w : World} {g : Nat} {p : Option Addr} {c : Nat} {ts : List Tok} {k : Nat} {bad : Bool} (h : Rd w g p c ts k bad) (hk : k < ts.length) {t : Tok} (ht : ts[k] = t) :
  Calls Tryz.prog 112 #[.pointer (some ⟨g, 0, none⟩)] w fun e w' => e = .returned (.agg (tkC t)) ∧ Rd w' g p c ts (k + 1) bad ∧ w.grownBy w' (some g) := by
 have H := Lib.hid h; have HT := Lib.hid ht; clear h ht
 have hlen := H.out.len
 go_enter Tryz.func112, Tryz.ntmps112
 go_upto_region 1 with fail
 refine nmW (w.alloc (.cells #[.int .i64 0, .string ⟨#[]⟩, .int .i64 0, .int .i64 0] 55)) fun w1 hv => ?_
 rw [← hv]
 have K := bxh hv
 have HB1 : Hid (Below w.heap.size w w1) := by show Below _ _ _; rw [hv]; exact below_alloc _ _
 clear hv
 have H1 := Lib.hid (H.out.keep HB1.out)
 have hne : Hid (g < w.heap.size) := H.out.bx.lt
 clear H
 obtain ⟨p0, p1, p2, q0, q1, q2⟩ := H1.out.bx.r3
 go_upto_region 2 with fail
 refine nmW (w1.setCell ⟨g, 1, none⟩ (.int .i64 ((k + 1 : Nat) : Int))) fun w2 hv => ?_
 have hv' : w1.setCell ⟨g, 1, none⟩ (.int .i64 ((k : Int) + 1)) = w2 := by rw [hv]; rfl
 rw [hv']
 have H2 : Hid (Rd w2 g p c ts (k + 1) bad) := by show Rd _ _ _ _ _ _ _; rw [hv]; exact H1.out.set1 hk
 have G2 : Hid (w.grownBy w2 (some g)) := by show World.grownBy _ _ _; rw [hv]; exact gr_trans (gr_below HB1.out) (gr_set _ _ _ _)
 have K2 : Hid (Bx w2 w.heap.size 55 #[.int .i64 0, .string ⟨#[]⟩, .int .i64 0, .int .i64 0]) := by show Bx _ _ _ _; rw [hv]; exact K.out.only (gr_set g 1 w1 _) (by have := hne.out; omega)
 clear hv hv' p0 p1 p2 q0 q1 q2 H1 K HB1
 obtain ⟨p0, p1, p2, -⟩ := H2.out.bx.r3
 obtain ⟨b, o, rfl, c0, c1, c2, c3⟩ := H2.out.tok hk
 rw [HT.out] at c0 c1 c2 c3
 have hwr : IntKind.i64.wrap (k : Int) = (k : Int) := IntWalk.i64_in _ (by omega)
 have hI : (k : Int) < (ts.length : Int) := by omega
 have hI0 : (0 : Int) ≤ (k : Int) := by omega
 refine nmW w2.drew fun W hW => ?_
 have H3 : Hid (Rd W g (some ⟨b, o, none⟩) c ts (k + 1) bad) := by show Rd _ _ _ _ _ _ _; rw [hW]; exact H2.out.keep (below_drew _)
 have K3 : Hid (Bx W w.heap.size 55 #[.int .i64 0, .string ⟨#[]⟩, .int .i64 0, .int .i64 0]) := by show Bx _ _ _ _; rw [hW]; exact K2.out.keep (below_drew _)
 have G3 : Hid (w.grownBy W (some g)) := by show World.grownBy _ _ _; rw [hW]; exact gr_call G2.out (below_drew _)
 have S3 : Hid (W.cell? ⟨b, o + k * 4, none⟩ = some (.int .i64 t.kind) ∧ W.cell? ⟨b, o + k * 4 + 1, none⟩ = some (.string ⟨t.text.toArray⟩) ∧ W.cell? ⟨b, o + k * 4 + 2, none⟩ = some (.int .i64 t.n) ∧ W.cell? ⟨b, o + k * 4 + 3, none⟩ = some (.int .i64 t.pos)) := by
  show _ ∧ _; rw [hW]; exact ⟨c0, c1, c2, c3⟩
 clear c0 c1 c2 c3 p0 p1 p2 H2 K2 G2
 refine wp_region_held_drew (S := (fun w' => w'.cell? ⟨g, 0, none⟩ = some (.slice (some ⟨b, o, none⟩) ts.length c) ∧ w'.cell? ⟨g, 1, none⟩ = some (.int .i64 ((k + 1 : Nat) : Int)) ∧ w'.cell? ⟨b, o + k * 4, none⟩ = some (.int .i64 t.kind) ∧ w'.cell? ⟨b, o + k * 4 + 1, none⟩ = some (.string ⟨t.text.toArray⟩) ∧ w'.cell? ⟨b, o + k * 4 + 2, none⟩ = some (.int .i64 t.n) ∧ w'.cell? ⟨b, o + k * 4 + 3, none⟩ = some (.int .i64 t.pos))) (by kernel_rfl) (by rw [← hW]; exact ⟨H3.out.bx.at.1 0, H3.out.bx.at.1 1, S3.out⟩) (fun hH => ?_)
 rw [← hW] at hH ⊢
 clear hW
 refine tk at0 ?_
 refine tk at1 ?_
 refine tk at2 ?_
 refine tk at3 ?_
 refine tk at4 ?_
 refine tk at5 ?_
 refine tk at6 ?_
 refine tk at7 ?_
 refine tk at8 (v := .int .i64 (k : Int)) ?_
 refine tk at9 ?_
 refine tk at10 (v := .agg #[.int .i64 t.kind, .string ⟨t.text.toArray⟩, .int .i64 t.n, .int .i64 t.pos]) ?_
 refine wpAnyH_ready (rs := [11]) (by kernel_rfl) (by simp) ?_
 refine AllReadyH.cons at11 (fun K hK => ?_) AllReadyH.nil
 obtain ⟨d0, d1, d2, d3⟩ := K3.out.d4
 have y := K3.out.at.2
 have f0 := y 0; have f1 := y 1; have f2 := y 2; have f3 := y 3; clear y
 go_simp
 refine nmW ((((W.setCell ⟨w.heap.size, 0, none⟩ (.int .i64 t.kind)).setCell ⟨w.heap.size, 1, none⟩ (.string ⟨t.text.toArray⟩)).setCell ⟨w.heap.size, 2, none⟩ (.int .i64 t.n)).setCell ⟨w.heap.size, 3, none⟩ (.int .i64 t.pos)) fun w4 hw4 => ?_
 rw [← hw4]
 have K4 : Hid (Bx w4 w.heap.size 55 (tkC t)) := by show Bx _ _ _ _; rw [hw4]; exact ((((K3.out).set 0 _).set 1 _).set 2 _).set 3 _
 have O4 : Hid (W.grownBy w4 (some w.heap.size)) := by show World.grownBy _ _ _; rw [hw4]; exact gr_trans (gr_trans (gr_trans (gr_set _ _ _ _) (gr_set _ _ _ _)) (gr_set _ _ _ _)) (gr_set _ _ _ _)
 have H4 : Hid (Rd w4 g (some ⟨b, o, none⟩) c ts (k + 1) bad) := H3.out.other O4.out hne.out
 have G4 : Hid (w.grownBy w4 (some g)) := gr_new G3.out O4.out (Nat.le_refl _)
 have hb := H3.out.lt b o rfl
 have hbn : b ≠ w.heap.size := by have := hne.out; omega
 have S4 := S3.out
 clear hw4 d0 d1 d2 d3 f0 f1 f2 f3
 refine hK.out _ _ (⟨H4.out.bx.at.1 0, H4.out.bx.at.1 1, O4.out.cell S4.1 (by simpa using hbn), O4.out.cell S4.2.1 (by simpa using hbn), O4.out.cell S4.2.2.1 (by simpa using hbn), O4.out.cell S4.2.2.2 (by simpa using hbn)⟩) (fun hH2 => ?_)
 clear hK K hH S4 S3
 refine wpAnyH_done (by kernel_rfl) ?_ _
 clear hH2
 go_wp2_with fail
 refine bodyPost_ret (results_box1 rfl _ _ w.heap.size 55 _ _ _ rfl K4.out Tryz.underlying55 rfl (by kernel_rfl)) rfl ?_
 exact ⟨rfl, H4.out, G4.out⟩
end Go.Proofs.YtckgmilmhofekaaGreatDoor
namespace Go.Proofs.YtckgmilmhofekaaGreatDoor
open Go.RowKit

theorem str_of {s : ByteArray} {l : Bytes} (h : s.toList = l) : s = ⟨l.toArray⟩ := by
 rw [Lib.toList_data] at h; subst h; cases s; simp
theorem wordB_cases {l : Bytes} (h : wordB l = true) : l = wNot ∨ l = wIf ∨ l = wThen ∨ l = wElse ∨ l = wAnd ∨ l = wOr ∨ l = wLook ∨ l = wMin ∨ l = wMax ∨ l = wInto ∨ l = wTo ∨ l = wAs := by
 unfold wordB wordsL at h; simpa using h
theorem wordB_none {l : Bytes} (h : wordB l = false) : (l == [110, 111, 116]) = false ∧ (l == [105, 102]) = false ∧ (l == [116, 104, 101, 110]) = false ∧ (l == [101, 108, 115, 101]) = false ∧ (l == [97, 110, 100]) = false ∧ (l == [111, 114]) = false ∧ (l == [108, 111, 111, 107]) = false ∧ (l == [109, 105, 110]) = false ∧ (l == [109, 97, 120]) = false ∧ (l == [105, 110, 116, 111]) = false ∧ (l == [116, 111]) = false ∧ (l == [97, 115]) = false := by
 unfold wordB wordsL at h
 simp only [List.contains_cons, List.contains_nil, Bool.or_false, Bool.or_eq_false_iff] at h
 exact h
set_option maxRecDepth 100000 in
set_option maxHeartbeats 4000000 in
theorem word_ok {w : World} (s : ByteArray) {b_ : Bool} (hb : wordB s.toList = b_) :
  Calls Tryz.prog 19 #[.string s] w fun e w' => e = .returned (.bool b_) ∧ w = w' := by
 cases b_ with
 | false =>
  obtain ⟨h1, h2, h3, h4, h5, h6, h7, h8, h9, h10, h11, h12⟩ := wordB_none hb
  clear hb
  go_enter Tryz.func19, Tryz.ntmps19
  go_wp2_with fail
  go_ret
  exact ⟨rfl, rfl⟩
 | true =>
  rcases wordB_cases hb with h | h | h | h | h | h | h | h | h | h | h | h
  all_goals
   rw [str_of h]
   clear hb h
   go_enter Tryz.func19, Tryz.ntmps19
   go_wp2_with fail
   go_ret
   exact ⟨rfl, rfl⟩
/-- What 'operator' returns. -/
def opRes (op : Int) : Value := .tuple #[.string ⟨((opName op).getD []).toArray⟩, .bool (opName op).isSome]
set_option maxRecDepth 100000 in
set_option maxHeartbeats 4000000 in
theorem operator_ok {w : World} (op : Int) :
    Calls Tryz.prog 45 #[.int .i64 op] w fun e w' => e = .returned (opRes op) ∧ w = w' := by
  by_cases h : op = 6 ∨ op = 7 ∨ op = 8 ∨ op = 9 ∨ op = 12 ∨ op = 13 ∨ op = 14 ∨ op = 15
  · rcases h with rfl | rfl | rfl | rfl | rfl | rfl | rfl | rfl
    all_goals
      go_enter Tryz.func45, Tryz.ntmps45
      go_wp2_with fail
      go_ret2
      exact ⟨rfl, rfl⟩
  · have hn : opName op = none := by
      cases hq : opName op with
      | none => rfl
      | some x => exact absurd (opName_cases (by rw [hq]; rfl)) h
    have HR : Hid (opRes op = .tuple #[.string ⟨#[]⟩, .bool false]) := by show _ = _; unfold opRes; rw [hn]; rfl
    have h1 : (op == 6) = false := by rw [beq_eq_false_iff_ne]; omega
    have h2 : (op == 7) = false := by rw [beq_eq_false_iff_ne]; omega
    have h3 : (op == 8) = false := by rw [beq_eq_false_iff_ne]; omega
    have h4 : (op == 9) = false := by rw [beq_eq_false_iff_ne]; omega
    have h5 : (op == 12) = false := by rw [beq_eq_false_iff_ne]; omega
    have h6 : (op == 13) = false := by rw [beq_eq_false_iff_ne]; omega
    have h7 : (op == 14) = false := by rw [beq_eq_false_iff_ne]; omega
    have h8 : (op == 15) = false := by rw [beq_eq_false_iff_ne]; omega
    clear h hn
    go_enter Tryz.func45, Tryz.ntmps45
    go_wp2_with fail
    go_ret2
    exact ⟨by rw [HR.out]; rfl, rfl⟩
/-- The name that is next, and whether there is one. -/
def nameV : List Tok → Bytes × Bool
 | [] => ([], false)
 | t :: _ => if t.kind = 0 ∧ wordB t.text = false then (t.text, true) else ([], false)
theorem nameV_cons (t : Tok) (r : List Tok) : nameV (t :: r) = if t.kind = 0 ∧ wordB t.text = false then (t.text, true) else ([], false) := rfl
theorem nameV_P {l : List Tok} {m : Bytes} : (nameV l = (m, true) → nameP l = .ok (m, l.tail) ∧ 0 < l.length) ∧ (nameV l = (m, false) → nameP l = .error l ∧ m = []) := by
  cases l with
  | nil => exact ⟨fun h => by simp [nameV] at h, fun h => ⟨rfl, by simp [nameV] at h; exact h⟩⟩
  | cons t r =>
    rw [nameP_cons, nameV_cons]
    by_cases hc : t.kind = 0 ∧ wordB t.text = false
    · rw [if_pos hc, if_pos hc]
      exact ⟨(fun h => by cases h; exact ⟨rfl, Nat.succ_pos _⟩), (fun h => by cases h)⟩
    · rw [if_neg hc, if_neg hc]
      exact ⟨(fun h => by cases h), (fun h => by cases h; exact ⟨rfl, rfl⟩)⟩
theorem nameV_at {ts : List Tok} {k : Nat} (hk : k < ts.length) : nameV (ts.drop k) = if ts[k].kind = 0 ∧ wordB ts[k].text = false then (ts[k].text, true) else ([], false) := by rw [drop_tok hk]; rfl
theorem nameV_end {ts : List Tok} {k : Nat} (hk : ts.length ≤ k) : nameV (ts.drop k) = ([], false) := by rw [List.drop_eq_nil_of_le hk]; rfl
/-- A field of a token. -/
theorem tok_f1 (t : Tok) : ∀ w : World, (Instr.field 55 (.agg (tkC t)) 1).run Tryz.prog w = .ok (.string ⟨t.text.toArray⟩) w := fun _ => by unfold tkC; kernel_rfl
theorem tok_f2 (t : Tok) : ∀ w : World, (Instr.field 55 (.agg (tkC t)) 2).run Tryz.prog w = .ok (.int .i64 t.n) w := fun _ => by unfold tkC; kernel_rfl
set_option maxRecDepth 100000 in
set_option maxHeartbeats 4000000 in
theorem name_no {w : World} {g : Nat} {p : Option Addr} {c : Nat} {ts : List Tok} {k : Nat} {bad : Bool} (h : Rd w g p c ts k bad) (hn : (!bad && kindT 0 (ts.drop k)) = false) :
  Calls Tryz.prog 94 #[.pointer (some ⟨g, 0, none⟩)] w fun e w' => e = .returned (.string ⟨#[]⟩) ∧ Rd w' g p c ts k true ∧ w.grownBy w' (some g) := by
 have H := Lib.hid h; have HN := Lib.hid hn; clear h hn
 go_enter Tryz.func94, Tryz.ntmps94
 go_upto_region 1 with fail
 refine nmW w.drew fun W hW => ?_
 have H1 : Hid (Rd W g p c ts k bad) := by show Rd _ _ _ _ _ _ _; rw [hW]; exact H.out.keep (below_drew _)
 have G1 : Hid (w.grownBy W (some g)) := by show World.grownBy _ _ _; rw [hW]; exact gr_below (below_drew _)
 clear H
 refine wp_region_held_drew (S := (fun _ => True)) (by kernel_rfl) trivial (fun hH => ?_)
 rw [← hW]
 clear hW
 refine tk at0 ?_
 refine wpAnyH_ready (rs := [1]) (by kernel_rfl) (by simp) ?_
 refine AllReadyH.cons at1 (fun K hK => ?_) AllReadyH.nil
 go_simp
 refine (kind_ok H1.out 0 HN.out).mono ?_
 rintro e w1 ⟨rfl, b1⟩
 have H2 := Lib.hid (H1.out.keep b1); have G2 := Lib.hid (gr_call G1.out b1); clear b1 H1 G1
 (try go_wp2_with fail)
 refine hK.out _ _ trivial (fun hH2 => ?_)
 clear hK K hH
 (try simp only [Act.put, kS, kZ, kC])
 refine tk at2 ?_
 refine tk at3 ?_
 refine tu at4 ?_
 refine tu at5 ?_
 refine tu at6 ?_
 refine tu at7 ?_
 refine tu at8 ?_
 refine tu at9 ?_
 refine tu at10 ?_
 refine tu at11 ?_
 refine tu at12 ?_
 refine tu at13 ?_
 refine tu at14 ?_
 refine tu at15 ?_
 refine tk at16 ?_
 refine wpAnyH_done (by kernel_rfl) ?_ _
 clear hH2
 obtain ⟨p0, p1, p2, q0, q1, q2⟩ := H2.out.bx.r3
 go_wp2_with fail
 go_ret
 exact ⟨rfl, H2.out.set2 _, gr_trans G2.out (gr_set _ _ _ _)⟩
set_option maxRecDepth 100000 in
set_option maxHeartbeats 4000000 in
theorem name_yes {w : World} {g : Nat} {p : Option Addr} {c : Nat} {ts : List Tok} {k : Nat} (h : Rd w g p c ts k false) (hk : k < ts.length) {t : Tok} (ht : ts[k] = t) (h0 : t.kind = 0) {wb : Bool} (hw : wordB t.text = wb) {m : Bytes} (hm : (if wb = true then [] else t.text) = m) {k' : Nat} (hk' : stepK (!wb) k = k') :
  Calls Tryz.prog 94 #[.pointer (some ⟨g, 0, none⟩)] w fun e w' => e = .returned (.string ⟨m.toArray⟩) ∧ Rd w' g p c ts k' wb ∧ w.grownBy w' (some g) := by
 have H := Lib.hid h; have HT := Lib.hid ht; have HW := Lib.hid hw; have HM := Lib.hid hm; have HK := Lib.hid hk'
 have HN : Hid ((!false && kindT 0 (ts.drop k)) = true) := by show _ = _; rw [kindT_at hk, ht, h0]; rfl
 have hlen := h.len
 clear h ht hw h0 hm hk'
 go_enter Tryz.func94, Tryz.ntmps94
 go_upto_region 1 with fail
 refine nmW w.drew fun W hW => ?_
 have H1 : Hid (Rd W g p c ts k false) := by show Rd _ _ _ _ _ _ _; rw [hW]; exact H.out.keep (below_drew _)
 have G1 : Hid (w.grownBy W (some g)) := by show World.grownBy _ _ _; rw [hW]; exact gr_below (below_drew _)
 clear H
 obtain ⟨b, o, rfl, -⟩ := H1.out.tok hk
 have S1 : ∀ (w' : World), Rd w' g (some ⟨b, o, none⟩) c ts k false → w'.cell? ⟨g, 0, none⟩ = some (.slice (some ⟨b, o, none⟩) ts.length c) ∧ w'.cell? ⟨g, 1, none⟩ = some (.int .i64 k) ∧ w'.cell? ⟨b, o + k * 4 + 1, none⟩ = some (.string ⟨t.text.toArray⟩) := fun w' hr => by
  obtain ⟨b', o', e, -, c1, -⟩ := hr.tok hk
  cases e
  rw [HT.out] at c1
  exact ⟨hr.bx.at.1 0, hr.bx.at.1 1, c1⟩
 replace S1 := Lib.hid S1
 refine wp_region_held_drew (S := (fun w' => w'.cell? ⟨g, 0, none⟩ = some (.slice (some ⟨b, o, none⟩) ts.length c) ∧ w'.cell? ⟨g, 1, none⟩ = some (.int .i64 k) ∧ w'.cell? ⟨b, o + k * 4 + 1, none⟩ = some (.string ⟨t.text.toArray⟩))) (by kernel_rfl) (by rw [← hW]; exact S1.out _ H1.out) (fun hH => ?_)
 rw [← hW] at hH ⊢
 clear hW
 refine tk at0 ?_
 refine wpAnyH_ready (rs := [1]) (by kernel_rfl) (by simp) ?_
 refine AllReadyH.cons at1 (fun K hK => ?_) AllReadyH.nil
 go_simp
 refine (kind_ok H1.out 0 HN.out).mono ?_
 rintro e w1 ⟨rfl, b1⟩
 have H2 := Lib.hid (H1.out.keep b1); have G2 := Lib.hid (gr_call G1.out b1); clear b1 H1 G1
 (try go_wp2_with fail)
 refine hK.out _ _ (S1.out _ H2.out) (fun hH2 => ?_)
 clear hK K hH
 (try simp only [Act.put, kS, kZ, kC])
 have hI : (k : Int) < (ts.length : Int) := by omega
 have hI0 : (0 : Int) ≤ (k : Int) := by omega
 refine tk at2 ?_
 refine tk at3 ?_
 refine tk at4 ?_
 refine tk at5 ?_
 refine tk at6 ?_
 refine tk at7 ?_
 refine tk at8 ?_
 refine tk at9 ?_
 refine tk at10 ?_
 refine tk at11 ?_
 refine tk at12 ?_
 refine tk at13 ?_
 refine tk at14 (v := .string ⟨t.text.toArray⟩) ?_
 refine wpAnyH_ready (rs := [15]) (by kernel_rfl) (by simp) ?_
 refine AllReadyH.cons at15 (fun K hK => ?_) AllReadyH.nil
 go_simp
 refine (word_ok (b_ := wb) ⟨t.text.toArray⟩ (by rw [Lib.toList_data]; exact HW.out)).mono ?_
 rintro e w2 ⟨rfl, rfl⟩
 (try go_wp2_with fail)
 refine hK.out _ _ (S1.out _ H2.out) (fun hH3 => ?_)
 clear hK K hH2
 (try simp only [Act.put, kS, kZ, kC])
 refine tk at16 ?_
 refine wpAnyH_done (by kernel_rfl) ?_ _
 clear hH3
 cases wb with
 | true =>
  obtain rfl : [] = m := HM.out
  obtain rfl : k = k' := HK.out
  obtain ⟨p0, p1, p2, q0, q1, q2⟩ := H2.out.bx.r3
  go_wp2_with fail
  go_ret
  exact ⟨rfl, H2.out.set2 _, gr_trans G2.out (gr_set _ _ _ _)⟩
 | false =>
  obtain rfl : t.text = m := HM.out
  obtain rfl : k + 1 = k' := HK.out
  go_wp2_with fail
  refine (take_ok H2.out hk HT.out).mono ?_
  rintro e w3 ⟨rfl, h3, g3⟩
  unfold tkC
  have H3 := Lib.hid h3; have G3 := Lib.hid (gr_trans G2.out g3); clear h3 g3
  have hfd := tok_f1 t
  unfold tkC at hfd
  go_wp2_with fail
  go_ret
  exact ⟨rfl, H3.out, G3.out⟩
theorem name_ok {w : World} {g : Nat} {p : Option Addr} {c : Nat} {ts : List Tok} {k k' : Nat} {bad ok bad' : Bool} {m : Bytes} (h : Rd w g p c ts k bad) (hv : (if bad = true then ([], false) else nameV (ts.drop k)) = (m, ok)) (hk' : stepK ok k = k') (hb : (!ok) = bad') :
    Calls Tryz.prog 94 #[.pointer (some ⟨g, 0, none⟩)] w fun e w' => e = .returned (.string ⟨m.toArray⟩) ∧ Rd w' g p c ts k' bad' ∧ w.grownBy w' (some g) := by
  subst hk' hb
  cases bad with
  | true =>
    cases hv
    exact name_no h rfl
  | false =>
    rw [if_neg (by decide)] at hv
    rcases Nat.lt_or_ge k ts.length with hk | hk
    · rw [nameV_at hk] at hv
      by_cases h0 : ts[k].kind = 0
      · cases hw : wordB ts[k].text with
        | true =>
          rw [if_neg (by rw [hw]; exact fun h => by cases h.2)] at hv
          cases hv
          exact name_yes h hk rfl h0 hw rfl rfl
        | false =>
          rw [if_pos ⟨h0, hw⟩] at hv
          cases hv
          exact name_yes h hk rfl h0 hw rfl rfl
      · rw [if_neg (fun h => h0 h.1)] at hv
        cases hv
        have := name_no h (by rw [kindT_at hk, beq_eq_false_iff_ne.2 h0]; rfl)
        exact this
    · rw [nameV_end hk] at hv
      cases hv
      have := name_no h (by rw [kindT_end hk]; rfl)
      exact this
end Go.Proofs.YtckgmilmhofekaaGreatDoor
