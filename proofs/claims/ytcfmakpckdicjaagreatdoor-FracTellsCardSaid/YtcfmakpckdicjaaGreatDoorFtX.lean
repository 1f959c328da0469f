/- Walks: what is no right fraction is refused, by the program and by the reference. -/
import Derived.Test.YtcfmakpckdicjaaGreatDoorBase
import Derived.Test.YtcfmakpckdicjaaGreatDoorBigSpec
import Derived.Test.YtcfmakpckdicjaaGreatDoorBigA
import Derived.Test.YtcfmakpckdicjaaGreatDoorBigB
import Derived.Test.YtcfmakpckdicjaaGreatDoorBigC
import Derived.Test.YtcfmakpckdicjaaGreatDoorBigD
import Derived.Test.YtcfmakpckdicjaaGreatDoorBigK
import Derived.Test.YtcfmakpckdicjaaGreatDoorBigQ
import Derived.Test.YtcfmakpckdicjaaGreatDoorFracA
import Derived.Test.YtcfmakpckdicjaaGreatDoorRefE
import Derived.Test.YtcfmakpckdicjaaGreatDoorRefS
import Derived.Test.YtcfmakpckdicjaaGreatDoorRefJ
import Derived.Test.YtcfmakpckdicjaaGreatDoorRefB5
import Derived.Test.YtcfmakpckdicjaaGreatDoorRefN
import Derived.Test.YtcfmakpckdicjaaGreatDoorFz
import Derived.Test.YtcfmakpckdicjaaGreatDoorHeld
import Derived.Test.YtcfmakpckdicjaaGreatDoorAw
import Derived.Test.YtcfmakpckdicjaaGreatDoorFracD
import Derived.Test.YtcfmakpckdicjaaGreatDoorBigRead
import Derived.Test.YtcfmakpckdicjaaGreatDoorRefO
import Derived.Test.YtcfmakpckdicjaaGreatDoorFracN
import Derived.Test.YtcfmakpckdicjaaGreatDoorProg
import Derived.Test.YtcfmakpckdicjaaGreatDoorShelf
import Derived.WalkKit
import Derived.WalkSpells
import Derived.WalkLawsBesides
import Derived.Handy
import Derived.Lib.Hide
import Derived.Lib.Strings
import Derived.Lib.Builder
import Derived.BigQuiet
import Derived.OwnWalk
import Derived.Laws.BitsLemmas
import Derived.WalkSmall
import Derived.Deep.QuietTactic
import Derived.StillTailTactics
import Derived.Maps.AppendAt
import Derived.IntWalk
import Derived.Deep.RegionHeld3
import Derived.Deep.DeepFit
import Derived.Deep.LoopGhost
import Derived.Deep.DeepCutAuto
import Derived.Lib.ItoaNum
import Derived.Lib.Repeat
import Derived.Lib.AppendIntMem
import Derived.Sort.OwnSorted
import Derived.Shelf.Strings.SlTrimAscii
import Derived.Lib.ConvBytes
import Derived.Lib.CutLaws
namespace Go.Proofs.YtcfmakpckdicjaaGreatDoor
open Go.RowKit Go.Lib
variable {G : Nat}

/-- Four cells that hold two integers. -/
def TQ (G : Nat) (w : World) (u0 u1 u2 u3 : Value) (x y : Int) : Prop :=
 ∃ a c b d, u0 = .int .i64 (sg x) ∧ u1 = .slice a (ln x) c ∧ u2 = .int .i64 (sg y) ∧ u3 = .slice b (ln y) d ∧ BD G w a c x ∧ BD G w b d y
def FQ (G : Nat) (w : World) (u0 u1 u2 u3 : Value) (q : Rat) : Prop := TQ G w u0 u1 u2 u3 (nu q) (de q)
def OQ (G : Nat) (w : World) (u0 u1 u2 u3 : Value) (o : Option Rat) : Prop := TQ G w u0 u1 u2 u3 (oN o) (oD o)
/-- Four cells of a fraction, right or not: how many digits each part has, and which fraction it is, if it is right. -/
def FX (w : World) (u0 u1 u2 u3 : Value) (n m : Nat) (o : Option Rat) : Prop :=
 ∃ s a c t b d l k, u0 = .int .i64 s ∧ u1 = .slice a n c ∧ u2 = .int .i64 t ∧ u3 = .slice b m d ∧ List.length l = n ∧ List.length k = m ∧ FR w a c b d l k ∧
  ((o = none ∧ rightF s l t k = false) ∨ ∃ q, o = some q ∧ rightF s l t k = true ∧ s = sg (nu q) ∧ n = Go.Proofs.YtcfmakpckdicjaaGreatDoor.ln (nu q) ∧ t = sg (de q) ∧ m = Go.Proofs.YtcfmakpckdicjaaGreatDoor.ln (de q) ∧ FD w.heap.size w a c b d q)
theorem TQ.keep {w w' : World} {u0 u1 u2 u3 : Value} {x y : Int} (h : TQ G w u0 u1 u2 u3 x y) (hb : Below w.heap.size w w') : TQ G w' u0 u1 u2 u3 x y := by
 obtain ⟨a, c, b, d, h0, h1, h2, h3, h4, h5⟩ := h
 exact ⟨a, c, b, d, h0, h1, h2, h3, h4.keep hb, h5.keep hb⟩
theorem FQ.keep {w w' : World} {u0 u1 u2 u3 : Value} {q : Rat} (h : FQ G w u0 u1 u2 u3 q) (hb : Below w.heap.size w w') : FQ G w' u0 u1 u2 u3 q := TQ.keep h hb
theorem OQ.keep {w w' : World} {u0 u1 u2 u3 : Value} {o : Option Rat} (h : OQ G w u0 u1 u2 u3 o) (hb : Below w.heap.size w w') : OQ G w' u0 u1 u2 u3 o := TQ.keep h hb
theorem FX.keep {w w' : World} {u0 u1 u2 u3 : Value} {n m : Nat} {o : Option Rat} (h : FX w u0 u1 u2 u3 n m o) (hb : Below w.heap.size w w') : FX w' u0 u1 u2 u3 n m o := by
  obtain ⟨s, a, c, t, b, d, l, k, h0, h1, h2, h3, h4, h5, h6, h7⟩ := h
  refine ⟨s, a, c, t, b, d, l, k, h0, h1, h2, h3, h4, h5, h6.keep hb, ?_⟩
  rcases h7 with h7 | ⟨q, e, hr, k1, k2, k3, k4, k5⟩
  · exact .inl h7
  · exact .inr ⟨q, e, hr, k1, k2, k3, k4, (k5.keep hb).up hb.size⟩
instance {w w' : World} {u0 u1 u2 u3 : Value} {x y : Int} : Goes (TQ G w u0 u1 u2 u3 x y) w w' (TQ G w' u0 u1 u2 u3 x y) := ⟨fun h hb => h.keep hb⟩
instance {w w' : World} {u0 u1 u2 u3 : Value} {q : Rat} : Goes (FQ G w u0 u1 u2 u3 q) w w' (FQ G w' u0 u1 u2 u3 q) := ⟨fun h hb => h.keep hb⟩
instance {w w' : World} {u0 u1 u2 u3 : Value} {o : Option Rat} : Goes (OQ G w u0 u1 u2 u3 o) w w' (OQ G w' u0 u1 u2 u3 o) := ⟨fun h hb => h.keep hb⟩
instance {w w' : World} {u0 u1 u2 u3 : Value} {n m : Nat} {o : Option Rat} : Goes (FX w u0 u1 u2 u3 n m o) w w' (FX w' u0 u1 u2 u3 n m o) := ⟨fun h hb => h.keep hb⟩
theorem TQ.far {w w' : World} {g : Nat} {T : TypeId} {cs : Array Value} {u0 u1 u2 u3 : Value} {x y : Int} (h : TQ G w u0 u1 u2 u3 x y) (k : Bx w g T cs) (hT : (T == 3) = false) (hG : G ≤ g) (hg : w.grownBy w' (some g)) : TQ G w' u0 u1 u2 u3 x y := by
 obtain ⟨a, c, b, d, h0, h1, h2, h3, h4, h5⟩ := h
 exact ⟨a, c, b, d, h0, h1, h2, h3, h4.far k hT hG hg, h5.far k hT hG hg⟩
theorem FQ.far {w w' : World} {g : Nat} {T : TypeId} {cs : Array Value} {u0 u1 u2 u3 : Value} {q : Rat} (h : FQ G w u0 u1 u2 u3 q) (k : Bx w g T cs) (hT : (T == 3) = false) (hG : G ≤ g) (hg : w.grownBy w' (some g)) : FQ G w' u0 u1 u2 u3 q := TQ.far h k hT hG hg
theorem OQ.far {w w' : World} {g : Nat} {T : TypeId} {cs : Array Value} {u0 u1 u2 u3 : Value} {o : Option Rat} (h : OQ G w u0 u1 u2 u3 o) (k : Bx w g T cs) (hT : (T == 3) = false) (hG : G ≤ g) (hg : w.grownBy w' (some g)) : OQ G w' u0 u1 u2 u3 o := TQ.far h k hT hG hg
theorem TQ.st {w : World} {u0 u1 u2 u3 : Value} {x y : Int} (h : TQ G w u0 u1 u2 u3 x y) : (∀ a m w', Sem.run Tryz.prog (store a u0 m) w' = stored Tryz.prog w' a u0 m) ∧ (∀ a m w', Sem.run Tryz.prog (store a u1 m) w' = stored Tryz.prog w' a u1 m) ∧ (∀ a m w', Sem.run Tryz.prog (store a u2 m) w' = stored Tryz.prog w' a u2 m) ∧ (∀ a m w', Sem.run Tryz.prog (store a u3 m) w' = stored Tryz.prog w' a u3 m) := by
 obtain ⟨a, c, b, d, rfl, rfl, rfl, rfl, -, -⟩ := h
 exact ⟨fun _ _ _ => run_store _ _ _ _ _ rfl, fun _ _ _ => run_store _ _ _ _ _ rfl, fun _ _ _ => run_store _ _ _ _ _ rfl, fun _ _ _ => run_store _ _ _ _ _ rfl⟩
theorem FX.st {w : World} {u0 u1 u2 u3 : Value} {n m : Nat} {o : Option Rat} (h : FX w u0 u1 u2 u3 n m o) : (∀ a m w', Sem.run Tryz.prog (store a u0 m) w' = stored Tryz.prog w' a u0 m) ∧ (∀ a m w', Sem.run Tryz.prog (store a u1 m) w' = stored Tryz.prog w' a u1 m) ∧ (∀ a m w', Sem.run Tryz.prog (store a u2 m) w' = stored Tryz.prog w' a u2 m) ∧ (∀ a m w', Sem.run Tryz.prog (store a u3 m) w' = stored Tryz.prog w' a u3 m) := by
 obtain ⟨s, a, c, t, b, d, l, k, rfl, rfl, rfl, rfl, -⟩ := h
 exact ⟨fun _ _ _ => run_store _ _ _ _ _ rfl, fun _ _ _ => run_store _ _ _ _ _ rfl, fun _ _ _ => run_store _ _ _ _ _ rfl, fun _ _ _ => run_store _ _ _ _ _ rfl⟩
theorem FQ.ex {w : World} {u0 u1 u2 u3 : Value} {q : Rat} (h : FQ G w u0 u1 u2 u3 q) : ∃ a c b d, u0 = .int .i64 (sg (nu q)) ∧ u1 = .slice a (ln (nu q)) c ∧ u2 = .int .i64 (sg (de q)) ∧ u3 = .slice b (ln (de q)) d ∧ FD G w a c b d q := by
 obtain ⟨a, c, b, d, h0, h1, h2, h3, h4, h5⟩ := h
 exact ⟨a, c, b, d, h0, h1, h2, h3, h4, h5⟩
theorem FQ.of {w : World} {a b : Option Addr} {c d : Nat} {q : Rat} (h : FD G w a c b d q) : FQ G w (.int .i64 (sg (nu q))) (.slice a (ln (nu q)) c) (.int .i64 (sg (de q))) (.slice b (ln (de q)) d) q :=
 ⟨a, c, b, d, rfl, rfl, rfl, rfl, h.n, h.d⟩
theorem OQ.of {w : World} {a b : Option Addr} {c d : Nat} {o : Option Rat} (h : BD G w a c (oN o)) (h' : BD G w b d (oD o)) : OQ G w (.int .i64 (sg (oN o))) (.slice a (ln (oN o)) c) (.int .i64 (sg (oD o))) (.slice b (ln (oD o)) d) o :=
 ⟨a, c, b, d, rfl, rfl, rfl, rfl, h, h'⟩
theorem tq_zero (w : World) (a b : Option Addr) (c d : Nat) : TQ G w (.int .i64 0) (.slice a 0 c) (.int .i64 0) (.slice b 0 d) 0 0 := ⟨a, c, b, d, rfl, rfl, rfl, rfl, bd_zero _ _ _, bd_zero _ _ _⟩
theorem oq_none (w : World) (a b : Option Addr) (c d : Nat) : OQ G w (.int .i64 0) (.slice a 0 c) (.int .i64 0) (.slice b 0 d) none := tq_zero w a b c d
theorem fx_of {s t : Int} {l k : List Int} {a b : Option Addr} {c d : Nat} {w : World} (h : FR w a c b d l k) : ∃ o, FX w (.int .i64 s) (.slice a l.length c) (.int .i64 t) (.slice b k.length d) l.length k.length o := by
 cases hr : rightF s l t k with
 | false => exact ⟨none, s, a, c, t, b, d, l, k, rfl, rfl, rfl, rfl, rfl, rfl, h, .inl ⟨rfl, hr⟩⟩
 | true =>
  obtain ⟨q, e1, e2, e3, e4, k1⟩ := fd_of_right h hr
  exact ⟨some q, s, a, c, t, b, d, l, k, rfl, rfl, rfl, rfl, rfl, rfl, h, .inr ⟨q, rfl, hr, e1, e2, e3, e4, k1⟩⟩
theorem FX.fq {w : World} {u0 u1 u2 u3 : Value} {n m : Nat} {q : Rat} (h : FX w u0 u1 u2 u3 n m (some q)) : FQ w.heap.size w u0 u1 u2 u3 q := by
  obtain ⟨s, a, c, t, b, d, l, k, h0, h1, h2, h3, h4, h5, h6, h7⟩ := h
  rcases h7 with ⟨h7, -⟩ | ⟨q', e, hr, k1, k2, k3, k4, k5⟩
  · cases h7
  · obtain rfl := Option.some.inj e
    subst k1 k2 k3 k4
    exact ⟨a, c, b, d, h0, h1, h2, h3, k5.n, k5.d⟩
theorem FX.fz {w : World} {u0 u1 u2 u3 : Value} {n m k : Nat} {q : Rat} (h : FX w u0 u1 u2 u3 n m (some q)) (hn : n ≤ k) (hm : m ≤ k) : Fz q k := by
  obtain ⟨s, a, c, t, b, d, l, _, h0, h1, h2, h3, h4, h5, h6, h7⟩ := h
  rcases h7 with ⟨h7, -⟩ | ⟨q', e, hr, k1, k2, k3, k4, k5⟩
  · cases h7
  · obtain rfl := Option.some.inj e
    have k2' : n = (digs (nu q).natAbs).length := k2
    have k4' : m = (digs (de q).natAbs).length := k4
    exact ⟨show (digs (nu q).natAbs).length ≤ k by omega, show (digs (de q).natAbs).length ≤ k by omega⟩
theorem fxRight_ok {u0 u1 u2 u3 : Value} {n m : Nat} {o : Option Rat} {b_ : Bool} {w : World} (h : FX w u0 u1 u2 u3 n m o) (hn : n ≤ 549755813888) (hm : m ≤ 549755813888) (hb : o.isSome = b_) :
    Calls Tryz.prog 25 #[.agg #[u0, u1, u2, u3]] w fun e w' => e = .returned (.bool b_) ∧ Below w.heap.size w w' := by
  obtain ⟨s, a, c, t, b, d, l, k, rfl, rfl, rfl, rfl, h4, h5, h6, h7⟩ := h
  subst hb
  rcases h7 with ⟨rfl, hr⟩ | ⟨q, rfl, hr, -⟩
  · exact fracRight_len h6 h4 h5 hn hm hr
  · exact fracRight_len h6 h4 h5 hn hm hr
theorem fxFew_ok {u0 u1 u2 u3 : Value} {n m : Nat} {o : Option Rat} {k : Int} {r : Bool} {w : World} (h : FX w u0 u1 u2 u3 n m o) (hr : (decide ((n : Int) ≤ k) && decide ((m : Int) ≤ k)) = r) :
  Calls Tryz.prog 9 #[.agg #[u0, u1, u2, u3], .int .i64 k] w fun e w' => e = .returned (.bool r) ∧ Below w.heap.size w w' := by
 obtain ⟨s, a, c, t, b, d, l, k, rfl, rfl, rfl, rfl, h4, h5, h6, h7⟩ := h
 exact rfFew_ok hr
def Oz (o : Option Rat) (n : Nat) : Prop := Sz (oN o) n ∧ Sz (oD o) n
theorem Oz.some_ {q : Rat} {n : Nat} (h : Fz q n) : Oz (some q) n := h
theorem Oz.none_ {n : Nat} : Oz none n := ⟨by show Sz 0 n; exact Nat.zero_le _, by show Sz 0 n; exact Nat.zero_le _⟩
theorem Oz.mono {o : Option Rat} {n m : Nat} (h : Oz o n) (hm : n ≤ m) : Oz o m := ⟨h.1.mono hm, h.2.mono hm⟩
theorem q_of_parts {q r : Rat} (h : nu q = nu r) (h' : de q = de r) : q = r := by rw [← divInt_parts q, ← divInt_parts r, h, h']
theorem oq_eq {o p : Option Rat} : (eqZ (oN o) (oN p) && eqZ (oD o) (oD p)) = decide (o = p) := by
  have hz : ∀ x y : Int, eqZ x y = decide (x = y) := by
    intro x y
    by_cases h : x = y
    · rw [decide_eq_true h]; exact eqZ_of h
    · rw [decide_eq_false h]; unfold eqZ; rw [decide_eq_false_iff_not]; exact h
  rw [hz, hz, ← Bool.decide_and]
  apply decide_eq_decide.2
  constructor
  · intro ⟨h, h'⟩
    cases o with
    | none =>
      cases p with
      | none => rfl
      | some r => exfalso; have := de_pos r; have h2 : (0 : Int) = de r := h'; omega
    | some q =>
      cases p with
      | none => exfalso; have := de_pos q; have h2 : de q = (0 : Int) := h'; omega
      | some r => rw [q_of_parts h h']
  · rintro rfl; exact ⟨rfl, rfl⟩
theorem rfsame_o {o p : Option Rat} {u0 u1 u2 u3 v0 v1 v2 v3 : Value} {b_ : Bool} {w : World} (h1 : OQ G w u0 u1 u2 u3 o) (h2 : OQ G w v0 v1 v2 v3 p) (hx : Oz o 1099511627776) (hy : Oz p 1099511627776) (hb : decide (o = p) = b_) :
  Calls Tryz.prog 14 #[.agg #[u0, u1, u2, u3], .agg #[v0, v1, v2, v3]] w fun e w' => e = .returned (.bool b_) ∧ Below w.heap.size w w' := by
 obtain ⟨a, c, b, d, rfl, rfl, rfl, rfl, k1, k2⟩ := h1
 obtain ⟨a', c', b', d', rfl, rfl, rfl, rfl, k3, k4⟩ := h2
 rw [← hb, ← oq_eq]
 exact rfsame_ok k1 k2 k3 k4 hx.1 hx.2 hy.1 hy.2
theorem fqCompare {u0 u1 u2 u3 v0 v1 v2 v3 : Value} {q r : Rat} {k : Int} {w : World} (h1 : FQ G w u0 u1 u2 u3 q) (h2 : FQ G w v0 v1 v2 v3 r) (hx : Fz q 137438953472) (hy : Fz r 137438953472) (hk : ordQ q r = k) :
  Calls Tryz.prog 27 #[.agg #[u0, u1, u2, u3], .agg #[v0, v1, v2, v3]] w fun e w' => e = .returned (.int .i64 k) ∧ Below w.heap.size w w' := by
 obtain ⟨a1, c1, b1, d1, rfl, rfl, rfl, rfl, k1⟩ := h1.ex
 obtain ⟨a2, c2, b2, d2, rfl, rfl, rfl, rfl, k2⟩ := h2.ex
 exact fracCompare_is (G := G) k1 k2 hx hy hk
theorem fqAdd {u0 u1 u2 u3 v0 v1 v2 v3 : Value} {q r : Rat} {w : World} (h1 : FQ G w u0 u1 u2 u3 q) (h2 : FQ G w v0 v1 v2 v3 r) (hx : Fz q 137438953472) (hy : Fz r 137438953472) :
  Calls Tryz.prog 10 #[.agg #[u0, u1, u2, u3], .agg #[v0, v1, v2, v3]] w fun e w' => ∃ x0 x1 x2 x3, e = .returned (.tuple #[.agg #[x0, x1, x2, x3], .int .i64 0]) ∧ FQ G w' x0 x1 x2 x3 (q + r) ∧ Below w.heap.size w w' := by
 obtain ⟨a1, c1, b1, d1, rfl, rfl, rfl, rfl, k1⟩ := h1.ex
 obtain ⟨a2, c2, b2, d2, rfl, rfl, rfl, rfl, k2⟩ := h2.ex
 exact (fracAdd_ok (G := G) k1 k2 hx hy).mono fun e w' ⟨a, c, b, d, he, hd, hb⟩ => ⟨_, _, _, _, he, FQ.of hd, hb⟩
theorem fqSub {u0 u1 u2 u3 v0 v1 v2 v3 : Value} {q r : Rat} {w : World} (h1 : FQ G w u0 u1 u2 u3 q) (h2 : FQ G w v0 v1 v2 v3 r) (hx : Fz q 137438953472) (hy : Fz r 137438953472) :
  Calls Tryz.prog 12 #[.agg #[u0, u1, u2, u3], .agg #[v0, v1, v2, v3]] w fun e w' => ∃ x0 x1 x2 x3, e = .returned (.tuple #[.agg #[x0, x1, x2, x3], .int .i64 0]) ∧ FQ G w' x0 x1 x2 x3 (q - r) ∧ Below w.heap.size w w' := by
 obtain ⟨a1, c1, b1, d1, rfl, rfl, rfl, rfl, k1⟩ := h1.ex
 obtain ⟨a2, c2, b2, d2, rfl, rfl, rfl, rfl, k2⟩ := h2.ex
 exact (fracSub_ok (G := G) k1 k2 hx hy).mono fun e w' ⟨a, c, b, d, he, hd, hb⟩ => ⟨_, _, _, _, he, FQ.of hd, hb⟩
theorem fqMul {u0 u1 u2 u3 v0 v1 v2 v3 : Value} {q r : Rat} {w : World} (hG : G ≤ w.heap.size) (h1 : FQ G w u0 u1 u2 u3 q) (h2 : FQ G w v0 v1 v2 v3 r) (hx : Fz q 137438953472) (hy : Fz r 137438953472) :
  Calls Tryz.prog 15 #[.agg #[u0, u1, u2, u3], .agg #[v0, v1, v2, v3]] w fun e w' => ∃ x0 x1 x2 x3, e = .returned (.tuple #[.agg #[x0, x1, x2, x3], .int .i64 0]) ∧ FQ G w' x0 x1 x2 x3 (q * r) ∧ Below w.heap.size w w' := by
 obtain ⟨a1, c1, b1, d1, rfl, rfl, rfl, rfl, k1⟩ := h1.ex
 obtain ⟨a2, c2, b2, d2, rfl, rfl, rfl, rfl, k2⟩ := h2.ex
 exact (fracMul_ok (G := G) hG k1 k2 hx hy).mono fun e w' ⟨a, c, b, d, he, hd, hb⟩ => ⟨_, _, _, _, he, FQ.of hd, hb⟩
theorem fqDivAny {u0 u1 u2 u3 v0 v1 v2 v3 : Value} {q r : Rat} {o : Option Rat} {er : Int} {w : World} (hG : G ≤ w.heap.size) (h1 : FQ G w u0 u1 u2 u3 q) (h2 : FQ G w v0 v1 v2 v3 r) (hx : Fz q 137438953472) (hy : Fz r 137438953472) (ho : divO q r = o) (he : divE r = er) :
  Calls Tryz.prog 17 #[.agg #[u0, u1, u2, u3], .agg #[v0, v1, v2, v3]] w fun e w' => ∃ x0 x1 x2 x3, e = .returned (.tuple #[.agg #[x0, x1, x2, x3], .int .i64 er]) ∧ OQ G w' x0 x1 x2 x3 o ∧ Below w.heap.size w w' := by
 obtain ⟨a1, c1, b1, d1, rfl, rfl, rfl, rfl, k1⟩ := h1.ex
 obtain ⟨a2, c2, b2, d2, rfl, rfl, rfl, rfl, k2⟩ := h2.ex
 exact (fracDiv_any (G := G) hG k1 k2 hx hy ho he).mono fun e w' ⟨a, c, b, d, he, hd, hd2, hb⟩ => ⟨_, _, _, _, he, OQ.of hd hd2, hb⟩
theorem fqMin {u0 u1 u2 u3 v0 v1 v2 v3 : Value} {q r : Rat} {m : Rat} {w : World} (hG : G ≤ w.heap.size) (h1 : FQ G w u0 u1 u2 u3 q) (h2 : FQ G w v0 v1 v2 v3 r) (hx : Fz q 137438953472) (hy : Fz r 137438953472) (hm : pick q r (-1) = m) :
  Calls Tryz.prog 30 #[.agg #[u0, u1, u2, u3], .agg #[v0, v1, v2, v3]] w fun e w' => ∃ x0 x1 x2 x3, e = .returned (.tuple #[.agg #[x0, x1, x2, x3], .int .i64 0]) ∧ FQ G w' x0 x1 x2 x3 m ∧ Below w.heap.size w w' := by
 obtain ⟨a1, c1, b1, d1, rfl, rfl, rfl, rfl, k1⟩ := h1.ex
 obtain ⟨a2, c2, b2, d2, rfl, rfl, rfl, rfl, k2⟩ := h2.ex
 exact (fracMin_is (G := G) hG k1 k2 hx hy hm).mono fun e w' ⟨a, c, b, d, he, hd, hb⟩ => ⟨_, _, _, _, he, FQ.of hd, hb⟩
theorem fqMax {u0 u1 u2 u3 v0 v1 v2 v3 : Value} {q r : Rat} {m : Rat} {w : World} (hG : G ≤ w.heap.size) (h1 : FQ G w u0 u1 u2 u3 q) (h2 : FQ G w v0 v1 v2 v3 r) (hx : Fz q 137438953472) (hy : Fz r 137438953472) (hm : pick q r 1 = m) :
  Calls Tryz.prog 32 #[.agg #[u0, u1, u2, u3], .agg #[v0, v1, v2, v3]] w fun e w' => ∃ x0 x1 x2 x3, e = .returned (.tuple #[.agg #[x0, x1, x2, x3], .int .i64 0]) ∧ FQ G w' x0 x1 x2 x3 m ∧ Below w.heap.size w w' := by
 obtain ⟨a1, c1, b1, d1, rfl, rfl, rfl, rfl, k1⟩ := h1.ex
 obtain ⟨a2, c2, b2, d2, rfl, rfl, rfl, rfl, k2⟩ := h2.ex
 exact (fracMax_is (G := G) hG k1 k2 hx hy hm).mono fun e w' ⟨a, c, b, d, he, hd, hb⟩ => ⟨_, _, _, _, he, FQ.of hd, hb⟩
theorem fqNeg {u0 u1 u2 u3 : Value} {q : Rat} {w : World} (hG : G ≤ w.heap.size) (h1 : FQ G w u0 u1 u2 u3 q) (hx : Fz q 137438953472) :
  Calls Tryz.prog 34 #[.agg #[u0, u1, u2, u3]] w fun e w' => ∃ x0 x1 x2 x3, e = .returned (.agg #[x0, x1, x2, x3]) ∧ FQ G w' x0 x1 x2 x3 (-q) ∧ Below w.heap.size w w' := by
 obtain ⟨a1, c1, b1, d1, rfl, rfl, rfl, rfl, k1⟩ := h1.ex
 exact (fracNeg_ok (G := G) hG k1 hx).mono fun e w' ⟨a, c, b, d, he, hd, hb⟩ => ⟨_, _, _, _, he, FQ.of hd, hb⟩
theorem fqSign {u0 u1 u2 u3 : Value} {q : Rat} {k : Int} {w : World} (hG : G ≤ w.heap.size) (h1 : FQ G w u0 u1 u2 u3 q) (hx : Fz q 137438953472) (hk : sg (nu q) = k) :
  Calls Tryz.prog 36 #[.agg #[u0, u1, u2, u3]] w fun e w' => e = .returned (.int .i64 k) ∧ Below w.heap.size w w' := by
 obtain ⟨a1, c1, b1, d1, rfl, rfl, rfl, rfl, k1⟩ := h1.ex
 exact fracSign_is (G := G) hG k1 hx hk
theorem fqInt {x : Int} {w : World} (hx : -9223372036854775808 ≤ x ∧ x ≤ 9223372036854775807) :
  Calls Tryz.prog 38 #[.int .i64 x] w fun e w' => ∃ x0 x1 x2 x3, e = .returned (.agg #[x0, x1, x2, x3]) ∧ FQ G w' x0 x1 x2 x3 (x : Rat) ∧ Below w.heap.size w w' := by
 exact (fracInt_ok (G := G) x _ hx).mono fun e w' ⟨a, c, b, d, he, hd, hb⟩ => ⟨_, _, _, _, he, FQ.of hd, hb⟩
theorem rqInt {x : Int} {w : World} (hx : -9223372036854775808 ≤ x ∧ x ≤ 9223372036854775807) :
  Calls Tryz.prog 39 #[.int .i64 x] w fun e w' => ∃ x0 x1 x2 x3, e = .returned (.agg #[x0, x1, x2, x3]) ∧ FQ G w' x0 x1 x2 x3 (x : Rat) ∧ Below w.heap.size w w' := by
 exact (rfint_ok (G := G) x _ hx).mono fun e w' ⟨a, c, b, d, he, hd, hb⟩ => ⟨_, _, _, _, he, FQ.of hd, hb⟩
end Go.Proofs.YtcfmakpckdicjaaGreatDoor
namespace Go.Proofs.YtcfmakpckdicjaaGreatDoor
open Go.RowKit Go.Lib
variable {G : Nat}
theorem rqCompare {u0 u1 u2 u3 v0 v1 v2 v3 : Value} {q r : Rat} {k : Int} {w : World} (h1 : FQ G w u0 u1 u2 u3 q) (h2 : FQ G w v0 v1 v2 v3 r) (hx : Fz q 137438953472) (hy : Fz r 137438953472) (hk : ordQ q r = k) :
  Calls Tryz.prog 28 #[.agg #[u0, u1, u2, u3], .agg #[v0, v1, v2, v3]] w fun e w' => e = .returned (.int .i64 k) ∧ Below w.heap.size w w' := by
 obtain ⟨a1, c1, b1, d1, rfl, rfl, rfl, rfl, k1⟩ := h1.ex
 obtain ⟨a2, c2, b2, d2, rfl, rfl, rfl, rfl, k2⟩ := h2.ex
 exact rfcompare_is2 (G := G) k1 k2 hx hy hk
theorem rqAdd {u0 u1 u2 u3 v0 v1 v2 v3 : Value} {q r : Rat} {w : World} (h1 : FQ G w u0 u1 u2 u3 q) (h2 : FQ G w v0 v1 v2 v3 r) (hx : Fz q 137438953472) (hy : Fz r 137438953472) :
  Calls Tryz.prog 11 #[.agg #[u0, u1, u2, u3], .agg #[v0, v1, v2, v3]] w fun e w' => ∃ x0 x1 x2 x3, e = .returned (.tuple #[.agg #[x0, x1, x2, x3], .int .i64 0]) ∧ FQ G w' x0 x1 x2 x3 (q + r) ∧ Below w.heap.size w w' := by
 obtain ⟨a1, c1, b1, d1, rfl, rfl, rfl, rfl, k1⟩ := h1.ex
 obtain ⟨a2, c2, b2, d2, rfl, rfl, rfl, rfl, k2⟩ := h2.ex
 exact (rfadd_ok (G := G) k1 k2 hx hy).mono fun e w' ⟨a, c, b, d, he, hd, hb⟩ => ⟨_, _, _, _, he, FQ.of hd, hb⟩
theorem rqSub {u0 u1 u2 u3 v0 v1 v2 v3 : Value} {q r : Rat} {w : World} (h1 : FQ G w u0 u1 u2 u3 q) (h2 : FQ G w v0 v1 v2 v3 r) (hx : Fz q 137438953472) (hy : Fz r 137438953472) :
  Calls Tryz.prog 13 #[.agg #[u0, u1, u2, u3], .agg #[v0, v1, v2, v3]] w fun e w' => ∃ x0 x1 x2 x3, e = .returned (.tuple #[.agg #[x0, x1, x2, x3], .int .i64 0]) ∧ FQ G w' x0 x1 x2 x3 (q - r) ∧ Below w.heap.size w w' := by
 obtain ⟨a1, c1, b1, d1, rfl, rfl, rfl, rfl, k1⟩ := h1.ex
 obtain ⟨a2, c2, b2, d2, rfl, rfl, rfl, rfl, k2⟩ := h2.ex
 exact (rfsub_ok (G := G) k1 k2 hx hy).mono fun e w' ⟨a, c, b, d, he, hd, hb⟩ => ⟨_, _, _, _, he, FQ.of hd, hb⟩
theorem rqMul {u0 u1 u2 u3 v0 v1 v2 v3 : Value} {q r : Rat} {w : World} (hG : G ≤ w.heap.size) (h1 : FQ G w u0 u1 u2 u3 q) (h2 : FQ G w v0 v1 v2 v3 r) (hx : Fz q 137438953472) (hy : Fz r 137438953472) :
  Calls Tryz.prog 16 #[.agg #[u0, u1, u2, u3], .agg #[v0, v1, v2, v3]] w fun e w' => ∃ x0 x1 x2 x3, e = .returned (.tuple #[.agg #[x0, x1, x2, x3], .int .i64 0]) ∧ FQ G w' x0 x1 x2 x3 (q * r) ∧ Below w.heap.size w w' := by
 obtain ⟨a1, c1, b1, d1, rfl, rfl, rfl, rfl, k1⟩ := h1.ex
 obtain ⟨a2, c2, b2, d2, rfl, rfl, rfl, rfl, k2⟩ := h2.ex
 exact (rfmul_ok (G := G) hG k1 k2 hx hy).mono fun e w' ⟨a, c, b, d, he, hd, hb⟩ => ⟨_, _, _, _, he, FQ.of hd, hb⟩
theorem rqDiv {u0 u1 u2 u3 v0 v1 v2 v3 : Value} {q r : Rat} {w : World} (hG : G ≤ w.heap.size) (h1 : FQ G w u0 u1 u2 u3 q) (h2 : FQ G w v0 v1 v2 v3 r) (hx : Fz q 137438953472) (hy : Fz r 137438953472) (h0 : r ≠ 0) :
  Calls Tryz.prog 18 #[.agg #[u0, u1, u2, u3], .agg #[v0, v1, v2, v3]] w fun e w' => ∃ x0 x1 x2 x3, e = .returned (.tuple #[.agg #[x0, x1, x2, x3], .int .i64 0]) ∧ FQ G w' x0 x1 x2 x3 (q / r) ∧ Below w.heap.size w w' := by
 obtain ⟨a1, c1, b1, d1, rfl, rfl, rfl, rfl, k1⟩ := h1.ex
 obtain ⟨a2, c2, b2, d2, rfl, rfl, rfl, rfl, k2⟩ := h2.ex
 exact (rfdiv_ok (G := G) hG k1 k2 hx hy h0).mono fun e w' ⟨a, c, b, d, he, hd, hb⟩ => ⟨_, _, _, _, he, FQ.of hd, hb⟩
theorem rqNeg {u0 u1 u2 u3 : Value} {q : Rat} {w : World} (hG : G ≤ w.heap.size) (h1 : FQ G w u0 u1 u2 u3 q) (hx : Fz q 137438953472) :
  Calls Tryz.prog 35 #[.agg #[u0, u1, u2, u3]] w fun e w' => ∃ x0 x1 x2 x3, e = .returned (.agg #[x0, x1, x2, x3]) ∧ FQ G w' x0 x1 x2 x3 (-q) ∧ Below w.heap.size w w' := by
 obtain ⟨a1, c1, b1, d1, rfl, rfl, rfl, rfl, k1⟩ := h1.ex
 exact (rfneg_ok (G := G) hG k1 hx).mono fun e w' ⟨a, c, b, d, he, hd, hb⟩ => ⟨_, _, _, _, he, FQ.of hd, hb⟩
theorem rqMin1 {u0 u1 u2 u3 v0 v1 v2 v3 : Value} {q r : Rat} {w : World} (hG : G ≤ w.heap.size) (h1 : FQ G w u0 u1 u2 u3 q) (h2 : FQ G w v0 v1 v2 v3 r) (hx : Fz q 137438953472) (hy : Fz r 137438953472) (h : q ≤ r) :
  Calls Tryz.prog 31 #[.agg #[u0, u1, u2, u3], .agg #[v0, v1, v2, v3]] w fun e w' => ∃ x0 x1 x2 x3, e = .returned (.tuple #[.agg #[x0, x1, x2, x3], .int .i64 0]) ∧ FQ G w' x0 x1 x2 x3 q ∧ Below w.heap.size w w' := by
 obtain ⟨a1, c1, b1, d1, rfl, rfl, rfl, rfl, k1⟩ := h1.ex
 obtain ⟨a2, c2, b2, d2, rfl, rfl, rfl, rfl, k2⟩ := h2.ex
 exact (rfmin_1 (G := G) hG k1 k2 hx hy h).mono fun e w' ⟨a, c, b, d, he, hd, hb⟩ => ⟨_, _, _, _, he, FQ.of hd, hb⟩
theorem rqMin2 {u0 u1 u2 u3 v0 v1 v2 v3 : Value} {q r : Rat} {w : World} (hG : G ≤ w.heap.size) (h1 : FQ G w u0 u1 u2 u3 q) (h2 : FQ G w v0 v1 v2 v3 r) (hx : Fz q 137438953472) (hy : Fz r 137438953472) (h : r < q) :
  Calls Tryz.prog 31 #[.agg #[u0, u1, u2, u3], .agg #[v0, v1, v2, v3]] w fun e w' => ∃ x0 x1 x2 x3, e = .returned (.tuple #[.agg #[x0, x1, x2, x3], .int .i64 0]) ∧ FQ G w' x0 x1 x2 x3 r ∧ Below w.heap.size w w' := by
 obtain ⟨a1, c1, b1, d1, rfl, rfl, rfl, rfl, k1⟩ := h1.ex
 obtain ⟨a2, c2, b2, d2, rfl, rfl, rfl, rfl, k2⟩ := h2.ex
 exact (rfmin_2 (G := G) hG k1 k2 hx hy h).mono fun e w' ⟨a, c, b, d, he, hd, hb⟩ => ⟨_, _, _, _, he, FQ.of hd, hb⟩
theorem rqMax1 {u0 u1 u2 u3 v0 v1 v2 v3 : Value} {q r : Rat} {w : World} (hG : G ≤ w.heap.size) (h1 : FQ G w u0 u1 u2 u3 q) (h2 : FQ G w v0 v1 v2 v3 r) (hx : Fz q 137438953472) (hy : Fz r 137438953472) (h : r ≤ q) :
  Calls Tryz.prog 33 #[.agg #[u0, u1, u2, u3], .agg #[v0, v1, v2, v3]] w fun e w' => ∃ x0 x1 x2 x3, e = .returned (.tuple #[.agg #[x0, x1, x2, x3], .int .i64 0]) ∧ FQ G w' x0 x1 x2 x3 q ∧ Below w.heap.size w w' := by
 obtain ⟨a1, c1, b1, d1, rfl, rfl, rfl, rfl, k1⟩ := h1.ex
 obtain ⟨a2, c2, b2, d2, rfl, rfl, rfl, rfl, k2⟩ := h2.ex
 exact (rfmax_1 (G := G) hG k1 k2 hx hy h).mono fun e w' ⟨a, c, b, d, he, hd, hb⟩ => ⟨_, _, _, _, he, FQ.of hd, hb⟩
theorem rqMax2 {u0 u1 u2 u3 v0 v1 v2 v3 : Value} {q r : Rat} {w : World} (hG : G ≤ w.heap.size) (h1 : FQ G w u0 u1 u2 u3 q) (h2 : FQ G w v0 v1 v2 v3 r) (hx : Fz q 137438953472) (hy : Fz r 137438953472) (h : q < r) :
  Calls Tryz.prog 33 #[.agg #[u0, u1, u2, u3], .agg #[v0, v1, v2, v3]] w fun e w' => ∃ x0 x1 x2 x3, e = .returned (.tuple #[.agg #[x0, x1, x2, x3], .int .i64 0]) ∧ FQ G w' x0 x1 x2 x3 r ∧ Below w.heap.size w w' := by
 obtain ⟨a1, c1, b1, d1, rfl, rfl, rfl, rfl, k1⟩ := h1.ex
 obtain ⟨a2, c2, b2, d2, rfl, rfl, rfl, rfl, k2⟩ := h2.ex
 exact (rfmax_2 (G := G) hG k1 k2 hx hy h).mono fun e w' ⟨a, c, b, d, he, hd, hb⟩ => ⟨_, _, _, _, he, FQ.of hd, hb⟩
end Go.Proofs.YtcfmakpckdicjaaGreatDoor
namespace Go.Proofs.YtcfmakpckdicjaaGreatDoor
open Go.RowKit Go.Lib
variable {G : Nat}

theorem rightP_lt {x y gv : Int} (h : ((Nat.gcd x.natAbs y.natAbs : Nat) : Int) = gv) : rightP x y = (!decide (sg y < 1) && (ord gv 1 == 0)) := by
  subst h
  unfold rightP
  rcases Int.lt_trichotomy y 0 with h | h | h
  · rw [sg_neg h, decide_eq_false (by omega)]; rfl
  · subst h; rfl
  · rw [sg_pos h, decide_eq_true h]
    show (true && _) = (true && _)
    rw [Bool.true_and, Bool.true_and, Bool.eq_iff_iff, decide_eq_true_eq, beq_iff_eq]
    constructor
    · intro e; rw [e]; exact ord_eq _
    · intro e
      rcases Int.lt_trichotomy ((Nat.gcd x.natAbs y.natAbs : Nat) : Int) 1 with h1 | h1 | h1
      · rw [ord_lt h1] at e; omega
      · omega
      · rw [ord_gt h1] at e; omega
theorem rcompare_k {x y k : Int} {a1 a2 : Option Addr} {c1 c2 : Nat} {w : World} (h1 : BD G w a1 c1 x) (h2 : BD G w a2 c2 y) (hx : Sz x 549755813888) (hy : Sz y 549755813888) (hk : ord x y = k) :
  Calls Tryz.prog 68 #[.agg #[.int .i64 (sg x), .slice a1 (ln x) c1], .agg #[.int .i64 (sg y), .slice a2 (ln y) c2]] w fun e w' => e = .returned (.int .i64 k) ∧ Below w.heap.size w w' := by
 subst hk; exact rcompare_ok h1 h2 hx hy
theorem rof_1 {x : Int} {w : World} (hx : -9223372036854775808 ≤ x ∧ x ≤ 9223372036854775807) :
  Calls Tryz.prog 56 #[.int .i64 x] w fun e w' => ∃ a c, e = .returned (.agg #[.int .i64 (sg x), .slice a (ln x) c]) ∧ BD G w' a c x ∧ Below w.heap.size w w' := rof_ok x w hx
set_option maxRecDepth 100000 in
set_option maxHeartbeats 4000000 in
theorem rfRight_bd {x y : Int} {b_ : Bool} {a1 b1 : Option Addr} {c1 d1 : Nat} {w : World} (_hG : G ≤ w.heap.size) (h1 : BD G w a1 c1 x) (k1 : BD G w b1 d1 y) (hx : Sz x 549755813888) (hy : Sz y 549755813888) (hb : rightP x y = b_)  :
  Calls Tryz.prog 26 #[.agg #[.int .i64 (sg x), .slice a1 (ln x) c1, .int .i64 (sg y), .slice b1 (ln y) d1]] w fun e w' => e = .returned (.bool b_) ∧ Below w.heap.size w w' := by
 obtain ⟨gv, hgv⟩ : ∃ g, ((Nat.gcd x.natAbs y.natAbs : Nat) : Int) = g := ⟨_, rfl⟩
 rw [rightP_lt hgv] at hb
 have HSG := Lib.hid (gcd_size hgv hx hy)
 obtain ⟨bs, hbs⟩ : ∃ b, decide (sg y < 1) = b := ⟨_, rfl⟩
 obtain ⟨k, hk⟩ : ∃ k, ord gv 1 = k := ⟨_, rfl⟩
 obtain ⟨bo, hbo⟩ : ∃ b, (k == 0) = b := ⟨_, rfl⟩
 have HBR : Hid ((!bs && bo) = b_) := by show _ = _; rw [← hb, ← hbs, hk, hbo]
 have HG := Lib.hid hgv; have HK := Lib.hid hk
 have HX := Lib.hid hx; have HY := Lib.hid hy
 clear hb hgv hk hx hy
 have H1 : Hid (BD G w a1 c1 x) := h1
 have K1 : Hid (BD G w b1 d1 y) := k1
 clear h1 k1
 have M : Hid (Below w.heap.size w w) := Below.refl _ _
 go_enter Tryz.func26, Tryz.ntmps26
 go_upto_region 1 with fail
 refine nmW (w.alloc (.cells #[.int .i64 (sg x), .slice a1 (ln x) c1, .int .i64 (sg y), .slice b1 (ln y) d1] 26)) fun w1 hv => ?_
 rw [← hv]
 replace M := alM hv M
 clear hv
 refine cj4 (M.out.1).d4 fun aa ab ac ad => ?_
 go_wp2_with fail
 clear aa ab ac ad
 refine (rright_ok (G := G) (x := x) (H1.out.keep (J1 M)) (Sz.mono HX.out (by omega))).mono ?_
 rintro e w2 ⟨rfl, hb⟩
 replace M := gnM hb M
 clear hb
 refine cj4 (M.out.1).d4 fun aa ab ac ad => ?_
 go_wp2_with fail
 clear aa ab ac ad
 refine (rright_ok (G := G) (x := y) (K1.out.keep (J1 M)) (Sz.mono HY.out (by omega))).mono ?_
 rintro e w3 ⟨rfl, hb⟩
 replace M := gnM hb M
 clear hb
 cases bs with
 | false =>
  refine cj4 (M.out.1).d4 fun aa ab ac ad => ?_
  go_wp2_with fail
  clear aa ab ac ad
  refine (rgcd_is (G := G) (x := x) (y := y) (g := gv) (H1.out.keep (J1 M)) (K1.out.keep (J1 M)) HX.out HY.out HG.out).mono ?_
  rintro e w4 ⟨a_1, c_2, rfl, hd3, hb⟩
  replace M := adM hd3 hb M
  clear hb hd3
  go_wp2_with fail
  refine nmW (w4.alloc (.cells #[.int .i64 (sg gv), .slice a_1 (ln gv) c_2] 24)) fun w5 hv => ?_
  rw [← hv]
  have ow1_ : w.heap.size < w4.heap.size := ((J1 M).1).lt
  replace M := alM hv M
  clear hv
  refine nmW w5.drew fun w6 hv => ?_
  replace M := drM hv M
  refine wp_region_held_drew (S := (fun w' => w'.cell? ⟨w4.heap.size, 0, none⟩ = some (.int .i64 (sg gv)) ∧ w'.cell? ⟨w4.heap.size, 1, none⟩ = some (.slice a_1 (ln gv) c_2))) (by kernel_rfl) (by rw [← hv]; exact (M.out.1).d2) (fun hH7 => ?_)
  rw [← hv] at hH7 ⊢
  clear hv
  refine tk at0 ?_
  refine wpAnyH_ready (rs := [1]) (by kernel_rfl) (by simp) ?_
  refine AllReadyH.cons at1 (fun K hK => ?_) AllReadyH.nil
  go_simp
  refine (rof_1 (G := G) (x := 1) (by decide)).mono ?_
  rintro e w7 ⟨a_8, c_9, rfl, hd10, hb⟩
  replace M := adM hd10 hb M
  clear hb hd10
  (try go_wp2_with fail)
  refine hK.out _ _ ((J1 M).1.d2) (fun hH11 => ?_)
  clear hK K hH7
  (try simp only [Act.put, List.setIfInBounds_toArray, List.set_cons_zero, List.set_cons_succ])
  refine wpAnyH_ready (rs := [2]) (by kernel_rfl) (by simp) ?_
  refine AllReadyH.cons at2 (fun K hK => ?_) AllReadyH.nil
  go_simp
  refine (rcompare_k (G := G) (x := gv) (y := 1) (k := k) (J2 M).1 (M.out.1) HSG.out (Sz.mono (show Sz (1) 1 from by unfold Sz; decide) (by omega)) HK.out).mono ?_
  rintro e w8 ⟨rfl, hb⟩
  replace M := gnM hb M
  clear hb
  (try go_wp2_with fail)
  refine hK.out _ _ ((J1 M).1.d2) (fun hH12 => ?_)
  clear hK K hH11
  (try simp only [Act.put, List.setIfInBounds_toArray, List.set_cons_zero, List.set_cons_succ])
  refine tk at3 ?_
  refine tk at4 ?_
  refine wpAnyH_done (by kernel_rfl) ?_ _
  clear hH12
  go_wp2_with fail
  go_ret
  exact ⟨by rw [← HBR.out]; rfl, (J4 M)⟩
 | true =>
  refine cj4 (M.out.1).d4 fun aa ab ac ad => ?_
  go_wp2_with fail
  clear aa ab ac ad
  go_ret
  exact ⟨by rw [← HBR.out]; rfl, (J1 M)⟩
theorem rfRight_raw {s t : Int} {l m : List Int} {a b : Option Addr} {c d : Nat} {r : Bool} {w : World} (h : FR w a c b d l m) (hl : l.length ≤ 549755813888) (hm : m.length ≤ 549755813888) (hr : rightF s l t m = r) :
  Calls Tryz.prog 26 #[.agg #[.int .i64 s, .slice a l.length c, .int .i64 t, .slice b m.length d]] w fun e w' => e = .returned (.bool r) ∧ Below w.heap.size w w' := by
 subst hr
 unfold rightF
 cases h1 : rightB s l with
 | false => exact rfRight_n1 h.n1 h.d1 (by omega) (by omega) h1
 | true =>
  cases h2 : rightB t m with
  | false => exact rfRight_n2 h.n1 h.d1 (by omega) (by omega) h1 h2
  | true =>
   obtain ⟨ex, lx, bx⟩ := bd_of_right' h.n1 h.n2 h1
   obtain ⟨ey, ly, by_⟩ := bd_of_right' h.d1 h.d2 h2
   have := rfRight_bd (G := w.heap.size) (Nat.le_refl _) bx by_ (show Go.Proofs.YtcfmakpckdicjaaGreatDoor.ln _ ≤ _ by omega) (show Go.Proofs.YtcfmakpckdicjaaGreatDoor.ln _ ≤ _ by omega) rfl
   rw [← ex, ← lx, ← ey, ← ly] at this
   exact this
theorem fyRight_ok {u0 u1 u2 u3 : Value} {n m : Nat} {o : Option Rat} {b_ : Bool} {w : World} (h : FX w u0 u1 u2 u3 n m o) (hn : n ≤ 549755813888) (hm : m ≤ 549755813888) (hb : o.isSome = b_) :
    Calls Tryz.prog 26 #[.agg #[u0, u1, u2, u3]] w fun e w' => e = .returned (.bool b_) ∧ Below w.heap.size w w' := by
  obtain ⟨s, a, c, t, b, d, l, k, rfl, rfl, rfl, rfl, h4, h5, h6, h7⟩ := h
  subst h4 h5
  subst hb
  rcases h7 with ⟨rfl, hr⟩ | ⟨q, rfl, hr, -⟩
  · exact rfRight_raw h6 hn hm hr
  · exact rfRight_raw h6 hn hm hr
end Go.Proofs.YtcfmakpckdicjaaGreatDoor
namespace Go.Proofs.YtcfmakpckdicjaaGreatDoor
open Go.RowKit Go.Lib
variable {G : Nat}

/-- A fraction, right or not, whose digits were there at the level G. -/
def FY (G : Nat) (w : World) (u0 u1 u2 u3 : Value) (n m : Nat) (o : Option Rat) : Prop := FX w u0 u1 u2 u3 n m o ∧ ∀ q, o = some q → FQ G w u0 u1 u2 u3 q
theorem FY.keep {w w' : World} {u0 u1 u2 u3 : Value} {n m : Nat} {o : Option Rat} (h : FY G w u0 u1 u2 u3 n m o) (hb : Below w.heap.size w w') : FY G w' u0 u1 u2 u3 n m o := ⟨h.1.keep hb, fun q hq => (h.2 q hq).keep hb⟩
instance {w w' : World} {u0 u1 u2 u3 : Value} {n m : Nat} {o : Option Rat} : Goes (FY G w u0 u1 u2 u3 n m o) w w' (FY G w' u0 u1 u2 u3 n m o) := ⟨fun h hb => h.keep hb⟩
theorem fy_of {w : World} {u0 u1 u2 u3 : Value} {n m : Nat} {o : Option Rat} (h : FX w u0 u1 u2 u3 n m o) : FY w.heap.size w u0 u1 u2 u3 n m o := ⟨h, fun q hq => by subst hq; exact h.fq⟩
/-- The two cells of a big integer, right or not. -/
def BX (G : Nat) (w : World) (u0 u1 : Value) (o : Option Int) : Prop :=
 ∃ s a n c l, u0 = .int .i64 s ∧ u1 = .slice a n c ∧ n ≤ 549755813888 ∧ RdZ w (.slice a n c) l ∧ ((o = none ∧ rightB s l = false) ∨ ∃ z, o = some z ∧ rightB s l = true ∧ s = sg z ∧ n = Go.Proofs.YtcfmakpckdicjaaGreatDoor.ln z ∧ BD G w a c z)
theorem BX.keep {w w' : World} {u0 u1 : Value} {o : Option Int} (h : BX G w u0 u1 o) (hb : Below w.heap.size w w') : BX G w' u0 u1 o := by
  obtain ⟨s, a, n, c, l, h0, h1, h2, h3, h4⟩ := h
  refine ⟨s, a, n, c, l, h0, h1, h2, h3.keep hb, ?_⟩
  rcases h4 with h4 | ⟨z, k0, k1, k2, k3, k4⟩
  · exact .inl h4
  · exact .inr ⟨z, k0, k1, k2, k3, k4.keep hb⟩
instance {w w' : World} {u0 u1 : Value} {o : Option Int} : Goes (BX G w u0 u1 o) w w' (BX G w' u0 u1 o) := ⟨fun h hb => h.keep hb⟩
theorem bx_of {s : Int} {l : List Int} {a : Option Addr} {c : Nat} {w : World} (h : RdZ w (.slice a l.length c) l) (hc : l.length ≤ c) (hn : l.length ≤ 549755813888) : ∃ o, BX w.heap.size w (.int .i64 s) (.slice a l.length c) o := by
 cases hr : rightB s l with
 | false => exact ⟨none, s, a, _, c, l, rfl, rfl, hn, h, .inl ⟨rfl, hr⟩⟩
 | true =>
  obtain ⟨e1, e2, e3⟩ := bd_of_right' h hc hr
  exact ⟨some (zOf s l), s, a, _, c, l, rfl, rfl, hn, h, .inr ⟨_, rfl, hr, e1, e2, e3⟩⟩
theorem bxRight_ok {u0 u1 : Value} {o : Option Int} {b_ : Bool} {w : World} (h : BX G w u0 u1 o) (hb : o.isSome = b_) :
    Calls Tryz.prog 60 #[.agg #[u0, u1]] w fun e w' => e = .returned (.bool b_) ∧ Below w.heap.size w w' := by
  obtain ⟨s, a, n, c, l, rfl, rfl, h2, h3, h4⟩ := h
  subst hb
  rcases h4 with ⟨rfl, hr⟩ | ⟨z, rfl, hr, -⟩
  · exact bigRight_len h3 (by omega) hr
  · exact bigRight_len h3 (by omega) hr
theorem byRight_ok {u0 u1 : Value} {o : Option Int} {b_ : Bool} {w : World} (h : BX G w u0 u1 o) (hb : o.isSome = b_) :
    Calls Tryz.prog 63 #[.agg #[u0, u1]] w fun e w' => e = .returned (.bool b_) ∧ Below w.heap.size w w' := by
  obtain ⟨s, a, n, c, l, rfl, rfl, h2, h3, h4⟩ := h
  subst hb
  rcases h4 with ⟨rfl, hr⟩ | ⟨z, rfl, hr, -⟩
  · exact rright_len h3 (by omega) hr
  · exact rright_len h3 (by omega) hr
set_option maxRecDepth 100000 in
set_option maxHeartbeats 4000000 in
theorem fAdd_n1 {u0 u1 u2 u3 v0 v1 v2 v3 : Value} {n1 m1 : Nat} {w : World} (h1 : FX w u0 u1 u2 u3 n1 m1 none) (ln1 : n1 ≤ 549755813888) (lm1 : m1 ≤ 549755813888) :
  Calls Tryz.prog 10 #[.agg #[u0, u1, u2, u3], .agg #[v0, v1, v2, v3]] w fun e w' => e = .returned (.tuple #[.agg #[.int .i64 0, .slice none 0 0, .int .i64 0, .slice none 0 0], .int .i64 1]) ∧ Below w.heap.size w w' := by
 have HLn1 := Lib.hid ln1; have HLm1 := Lib.hid lm1; clear ln1 lm1
 have H1 : Hid (FX w u0 u1 u2 u3 n1 m1 none) := h1
 clear h1
 have M : Hid (Below w.heap.size w w) := Below.refl _ _
 go_enter Tryz.func10, Tryz.ntmps10
 go_upto_region 1 with fail
 refine nmW (((w.alloc (.cells #[u0, u1, u2, u3] 26)).alloc (.cells #[v0, v1, v2, v3] 26)).alloc (.cells #[.int .i64 0, .slice none 0 0, .int .i64 0, .slice none 0 0] 26)) fun w1 hv => ?_
 rw [← hv]
 replace M := al3W hv M
 clear hv
 refine cj4 (J2 M).1.d4 fun aa ab ac ad => ?_
 go_wp2_with fail
 clear aa ab ac ad
 refine (fxRight_ok (o := none) (b_ := false) (H1.out.keep (J3 M)) HLn1.out HLm1.out rfl).mono ?_
 rintro e w2 ⟨rfl, hb⟩
 replace M := gnM hb M
 clear hb
 refine cj8 (M.out.1).c4 fun ae af ag ah ai aj ak al => ?_
 go_wp2_with fail
 clear ae af ag ah ai aj ak al
 have hz : w.heap.size ≤ w.heap.size + 1 + 1 := by omega
 refine st4W (.int .i64 0) (.slice none 0 0) (.int .i64 0) (.slice none 0 0) (M.out.1) (J3 M) hz fun w3 hv og hk hbw => ?_
 rw [← hv]
 replace M := Lib.hid (aI hk (aI ((J1 M).1.only og (by omega)) (aI ((J2 M).1.only og (by omega)) hbw)))
 clear hk hbw og hv hz
 refine bodyPost_ret (results_box2 rfl _ _ (w.heap.size + 1 + 1) 26 _ _ _ rfl (M.out.1) Tryz.underlying26 rfl (by kernel_rfl)) rfl ?_
 exact ⟨rfl, (J3 M)⟩
set_option maxRecDepth 100000 in
set_option maxHeartbeats 4000000 in
theorem fAdd_n2 {u0 u1 u2 u3 v0 v1 v2 v3 : Value} {n1 m1 n2 m2 : Nat} {q : Rat} {w : World} (h1 : FX w u0 u1 u2 u3 n1 m1 (some q)) (h2 : FX w v0 v1 v2 v3 n2 m2 none) (ln1 : n1 ≤ 549755813888) (lm1 : m1 ≤ 549755813888) (ln2 : n2 ≤ 549755813888) (lm2 : m2 ≤ 549755813888) :
  Calls Tryz.prog 10 #[.agg #[u0, u1, u2, u3], .agg #[v0, v1, v2, v3]] w fun e w' => e = .returned (.tuple #[.agg #[.int .i64 0, .slice none 0 0, .int .i64 0, .slice none 0 0], .int .i64 1]) ∧ Below w.heap.size w w' := by
 have HLn1 := Lib.hid ln1; have HLm1 := Lib.hid lm1; have HLn2 := Lib.hid ln2; have HLm2 := Lib.hid lm2; clear ln1 lm1 ln2 lm2
 have H1 : Hid (FX w u0 u1 u2 u3 n1 m1 (some q)) := h1
 have H2 : Hid (FX w v0 v1 v2 v3 n2 m2 none) := h2
 clear h1 h2
 have M : Hid (Below w.heap.size w w) := Below.refl _ _
 go_enter Tryz.func10, Tryz.ntmps10
 go_upto_region 1 with fail
 refine nmW (((w.alloc (.cells #[u0, u1, u2, u3] 26)).alloc (.cells #[v0, v1, v2, v3] 26)).alloc (.cells #[.int .i64 0, .slice none 0 0, .int .i64 0, .slice none 0 0] 26)) fun w1 hv => ?_
 rw [← hv]
 replace M := al3W hv M
 clear hv
 refine cj4 (J2 M).1.d4 fun aa ab ac ad => ?_
 go_wp2_with fail
 clear aa ab ac ad
 refine (fxRight_ok (o := (some q)) (b_ := true) (H1.out.keep (J3 M)) HLn1.out HLm1.out rfl).mono ?_
 rintro e w2 ⟨rfl, hb⟩
 replace M := gnM hb M
 clear hb
 refine cj4 (J1 M).1.d4 fun ae af ag ah => ?_
 go_wp2_with fail
 clear ae af ag ah
 refine (fxRight_ok (o := none) (b_ := false) (H2.out.keep (J3 M)) HLn2.out HLm2.out rfl).mono ?_
 rintro e w3 ⟨rfl, hb⟩
 replace M := gnM hb M
 clear hb
 refine cj8 (M.out.1).c4 fun ai aj ak al am ao ap aq => ?_
 go_wp2_with fail
 clear ai aj ak al am ao ap aq
 have hz : w.heap.size ≤ w.heap.size + 1 + 1 := by omega
 refine st4W (.int .i64 0) (.slice none 0 0) (.int .i64 0) (.slice none 0 0) (M.out.1) (J3 M) hz fun w4 hv og hk hbw => ?_
 rw [← hv]
 replace M := Lib.hid (aI hk (aI ((J1 M).1.only og (by omega)) (aI ((J2 M).1.only og (by omega)) hbw)))
 clear hk hbw og hv hz
 refine bodyPost_ret (results_box2 rfl _ _ (w.heap.size + 1 + 1) 26 _ _ _ rfl (M.out.1) Tryz.underlying26 rfl (by kernel_rfl)) rfl ?_
 exact ⟨rfl, (J3 M)⟩
set_option maxRecDepth 100000 in
set_option maxHeartbeats 4000000 in
theorem fSub_n1 {u0 u1 u2 u3 v0 v1 v2 v3 : Value} {n1 m1 : Nat} {w : World} (h1 : FX w u0 u1 u2 u3 n1 m1 none) (ln1 : n1 ≤ 549755813888) (lm1 : m1 ≤ 549755813888) :
  Calls Tryz.prog 12 #[.agg #[u0, u1, u2, u3], .agg #[v0, v1, v2, v3]] w fun e w' => e = .returned (.tuple #[.agg #[.int .i64 0, .slice none 0 0, .int .i64 0, .slice none 0 0], .int .i64 1]) ∧ Below w.heap.size w w' := by
 have HLn1 := Lib.hid ln1; have HLm1 := Lib.hid lm1; clear ln1 lm1
 have H1 : Hid (FX w u0 u1 u2 u3 n1 m1 none) := h1
 clear h1
 have M : Hid (Below w.heap.size w w) := Below.refl _ _
 go_enter Tryz.func12, Tryz.ntmps12
 go_upto_region 1 with fail
 refine nmW (((w.alloc (.cells #[u0, u1, u2, u3] 26)).alloc (.cells #[v0, v1, v2, v3] 26)).alloc (.cells #[.int .i64 0, .slice none 0 0, .int .i64 0, .slice none 0 0] 26)) fun w1 hv => ?_
 rw [← hv]
 replace M := al3W hv M
 clear hv
 refine cj4 (J2 M).1.d4 fun aa ab ac ad => ?_
 go_wp2_with fail
 clear aa ab ac ad
 refine (fxRight_ok (o := none) (b_ := false) (H1.out.keep (J3 M)) HLn1.out HLm1.out rfl).mono ?_
 rintro e w2 ⟨rfl, hb⟩
 replace M := gnM hb M
 clear hb
 refine cj8 (M.out.1).c4 fun ae af ag ah ai aj ak al => ?_
 go_wp2_with fail
 clear ae af ag ah ai aj ak al
 have hz : w.heap.size ≤ w.heap.size + 1 + 1 := by omega
 refine st4W (.int .i64 0) (.slice none 0 0) (.int .i64 0) (.slice none 0 0) (M.out.1) (J3 M) hz fun w3 hv og hk hbw => ?_
 rw [← hv]
 replace M := Lib.hid (aI hk (aI ((J1 M).1.only og (by omega)) (aI ((J2 M).1.only og (by omega)) hbw)))
 clear hk hbw og hv hz
 refine bodyPost_ret (results_box2 rfl _ _ (w.heap.size + 1 + 1) 26 _ _ _ rfl (M.out.1) Tryz.underlying26 rfl (by kernel_rfl)) rfl ?_
 exact ⟨rfl, (J3 M)⟩
set_option maxRecDepth 100000 in
set_option maxHeartbeats 4000000 in
theorem fSub_n2 {u0 u1 u2 u3 v0 v1 v2 v3 : Value} {n1 m1 n2 m2 : Nat} {q : Rat} {w : World} (h1 : FX w u0 u1 u2 u3 n1 m1 (some q)) (h2 : FX w v0 v1 v2 v3 n2 m2 none) (ln1 : n1 ≤ 549755813888) (lm1 : m1 ≤ 549755813888) (ln2 : n2 ≤ 549755813888) (lm2 : m2 ≤ 549755813888) :
  Calls Tryz.prog 12 #[.agg #[u0, u1, u2, u3], .agg #[v0, v1, v2, v3]] w fun e w' => e = .returned (.tuple #[.agg #[.int .i64 0, .slice none 0 0, .int .i64 0, .slice none 0 0], .int .i64 1]) ∧ Below w.heap.size w w' := by
 have HLn1 := Lib.hid ln1; have HLm1 := Lib.hid lm1; have HLn2 := Lib.hid ln2; have HLm2 := Lib.hid lm2; clear ln1 lm1 ln2 lm2
 have H1 : Hid (FX w u0 u1 u2 u3 n1 m1 (some q)) := h1
 have H2 : Hid (FX w v0 v1 v2 v3 n2 m2 none) := h2
 clear h1 h2
 have M : Hid (Below w.heap.size w w) := Below.refl _ _
 go_enter Tryz.func12, Tryz.ntmps12
 go_upto_region 1 with fail
 refine nmW (((w.alloc (.cells #[u0, u1, u2, u3] 26)).alloc (.cells #[v0, v1, v2, v3] 26)).alloc (.cells #[.int .i64 0, .slice none 0 0, .int .i64 0, .slice none 0 0] 26)) fun w1 hv => ?_
 rw [← hv]
 replace M := al3W hv M
 clear hv
 refine cj4 (J2 M).1.d4 fun aa ab ac ad => ?_
 go_wp2_with fail
 clear aa ab ac ad
 refine (fxRight_ok (o := (some q)) (b_ := true) (H1.out.keep (J3 M)) HLn1.out HLm1.out rfl).mono ?_
 rintro e w2 ⟨rfl, hb⟩
 replace M := gnM hb M
 clear hb
 refine cj4 (J1 M).1.d4 fun ae af ag ah => ?_
 go_wp2_with fail
 clear ae af ag ah
 refine (fxRight_ok (o := none) (b_ := false) (H2.out.keep (J3 M)) HLn2.out HLm2.out rfl).mono ?_
 rintro e w3 ⟨rfl, hb⟩
 replace M := gnM hb M
 clear hb
 refine cj8 (M.out.1).c4 fun ai aj ak al am ao ap aq => ?_
 go_wp2_with fail
 clear ai aj ak al am ao ap aq
 have hz : w.heap.size ≤ w.heap.size + 1 + 1 := by omega
 refine st4W (.int .i64 0) (.slice none 0 0) (.int .i64 0) (.slice none 0 0) (M.out.1) (J3 M) hz fun w4 hv og hk hbw => ?_
 rw [← hv]
 replace M := Lib.hid (aI hk (aI ((J1 M).1.only og (by omega)) (aI ((J2 M).1.only og (by omega)) hbw)))
 clear hk hbw og hv hz
 refine bodyPost_ret (results_box2 rfl _ _ (w.heap.size + 1 + 1) 26 _ _ _ rfl (M.out.1) Tryz.underlying26 rfl (by kernel_rfl)) rfl ?_
 exact ⟨rfl, (J3 M)⟩
set_option maxRecDepth 100000 in
set_option maxHeartbeats 4000000 in
theorem fMul_n1 {u0 u1 u2 u3 v0 v1 v2 v3 : Value} {n1 m1 : Nat} {w : World} (h1 : FX w u0 u1 u2 u3 n1 m1 none) (ln1 : n1 ≤ 549755813888) (lm1 : m1 ≤ 549755813888) :
  Calls Tryz.prog 15 #[.agg #[u0, u1, u2, u3], .agg #[v0, v1, v2, v3]] w fun e w' => e = .returned (.tuple #[.agg #[.int .i64 0, .slice none 0 0, .int .i64 0, .slice none 0 0], .int .i64 1]) ∧ Below w.heap.size w w' := by
 have HLn1 := Lib.hid ln1; have HLm1 := Lib.hid lm1; clear ln1 lm1
 have H1 : Hid (FX w u0 u1 u2 u3 n1 m1 none) := h1
 clear h1
 have M : Hid (Below w.heap.size w w) := Below.refl _ _
 go_enter Tryz.func15, Tryz.ntmps15
 go_upto_region 1 with fail
 refine nmW (((w.alloc (.cells #[u0, u1, u2, u3] 26)).alloc (.cells #[v0, v1, v2, v3] 26)).alloc (.cells #[.int .i64 0, .slice none 0 0, .int .i64 0, .slice none 0 0] 26)) fun w1 hv => ?_
 rw [← hv]
 replace M := al3W hv M
 clear hv
 refine cj4 (J2 M).1.d4 fun aa ab ac ad => ?_
 go_wp2_with fail
 clear aa ab ac ad
 refine (fxRight_ok (o := none) (b_ := false) (H1.out.keep (J3 M)) HLn1.out HLm1.out rfl).mono ?_
 rintro e w2 ⟨rfl, hb⟩
 replace M := gnM hb M
 clear hb
 refine cj8 (M.out.1).c4 fun ae af ag ah ai aj ak al => ?_
 go_wp2_with fail
 clear ae af ag ah ai aj ak al
 have hz : w.heap.size ≤ w.heap.size + 1 + 1 := by omega
 refine st4W (.int .i64 0) (.slice none 0 0) (.int .i64 0) (.slice none 0 0) (M.out.1) (J3 M) hz fun w3 hv og hk hbw => ?_
 rw [← hv]
 replace M := Lib.hid (aI hk (aI ((J1 M).1.only og (by omega)) (aI ((J2 M).1.only og (by omega)) hbw)))
 clear hk hbw og hv hz
 refine bodyPost_ret (results_box2 rfl _ _ (w.heap.size + 1 + 1) 26 _ _ _ rfl (M.out.1) Tryz.underlying26 rfl (by kernel_rfl)) rfl ?_
 exact ⟨rfl, (J3 M)⟩
set_option maxRecDepth 100000 in
set_option maxHeartbeats 4000000 in
theorem fMul_n2 {u0 u1 u2 u3 v0 v1 v2 v3 : Value} {n1 m1 n2 m2 : Nat} {q : Rat} {w : World} (h1 : FX w u0 u1 u2 u3 n1 m1 (some q)) (h2 : FX w v0 v1 v2 v3 n2 m2 none) (ln1 : n1 ≤ 549755813888) (lm1 : m1 ≤ 549755813888) (ln2 : n2 ≤ 549755813888) (lm2 : m2 ≤ 549755813888) :
  Calls Tryz.prog 15 #[.agg #[u0, u1, u2, u3], .agg #[v0, v1, v2, v3]] w fun e w' => e = .returned (.tuple #[.agg #[.int .i64 0, .slice none 0 0, .int .i64 0, .slice none 0 0], .int .i64 1]) ∧ Below w.heap.size w w' := by
 have HLn1 := Lib.hid ln1; have HLm1 := Lib.hid lm1; have HLn2 := Lib.hid ln2; have HLm2 := Lib.hid lm2; clear ln1 lm1 ln2 lm2
 have H1 : Hid (FX w u0 u1 u2 u3 n1 m1 (some q)) := h1
 have H2 : Hid (FX w v0 v1 v2 v3 n2 m2 none) := h2
 clear h1 h2
 have M : Hid (Below w.heap.size w w) := Below.refl _ _
 go_enter Tryz.func15, Tryz.ntmps15
 go_upto_region 1 with fail
 refine nmW (((w.alloc (.cells #[u0, u1, u2, u3] 26)).alloc (.cells #[v0, v1, v2, v3] 26)).alloc (.cells #[.int .i64 0, .slice none 0 0, .int .i64 0, .slice none 0 0] 26)) fun w1 hv => ?_
 rw [← hv]
 replace M := al3W hv M
 clear hv
 refine cj4 (J2 M).1.d4 fun aa ab ac ad => ?_
 go_wp2_with fail
 clear aa ab ac ad
 refine (fxRight_ok (o := (some q)) (b_ := true) (H1.out.keep (J3 M)) HLn1.out HLm1.out rfl).mono ?_
 rintro e w2 ⟨rfl, hb⟩
 replace M := gnM hb M
 clear hb
 refine cj4 (J1 M).1.d4 fun ae af ag ah => ?_
 go_wp2_with fail
 clear ae af ag ah
 refine (fxRight_ok (o := none) (b_ := false) (H2.out.keep (J3 M)) HLn2.out HLm2.out rfl).mono ?_
 rintro e w3 ⟨rfl, hb⟩
 replace M := gnM hb M
 clear hb
 refine cj8 (M.out.1).c4 fun ai aj ak al am ao ap aq => ?_
 go_wp2_with fail
 clear ai aj ak al am ao ap aq
 have hz : w.heap.size ≤ w.heap.size + 1 + 1 := by omega
 refine st4W (.int .i64 0) (.slice none 0 0) (.int .i64 0) (.slice none 0 0) (M.out.1) (J3 M) hz fun w4 hv og hk hbw => ?_
 rw [← hv]
 replace M := Lib.hid (aI hk (aI ((J1 M).1.only og (by omega)) (aI ((J2 M).1.only og (by omega)) hbw)))
 clear hk hbw og hv hz
 refine bodyPost_ret (results_box2 rfl _ _ (w.heap.size + 1 + 1) 26 _ _ _ rfl (M.out.1) Tryz.underlying26 rfl (by kernel_rfl)) rfl ?_
 exact ⟨rfl, (J3 M)⟩
set_option maxRecDepth 100000 in
set_option maxHeartbeats 4000000 in
theorem fDiv_n1 {u0 u1 u2 u3 v0 v1 v2 v3 : Value} {n1 m1 : Nat} {w : World} (h1 : FX w u0 u1 u2 u3 n1 m1 none) (ln1 : n1 ≤ 549755813888) (lm1 : m1 ≤ 549755813888) :
  Calls Tryz.prog 17 #[.agg #[u0, u1, u2, u3], .agg #[v0, v1, v2, v3]] w fun e w' => e = .returned (.tuple #[.agg #[.int .i64 0, .slice none 0 0, .int .i64 0, .slice none 0 0], .int .i64 1]) ∧ Below w.heap.size w w' := by
 have HLn1 := Lib.hid ln1; have HLm1 := Lib.hid lm1; clear ln1 lm1
 have H1 : Hid (FX w u0 u1 u2 u3 n1 m1 none) := h1
 clear h1
 have M : Hid (Below w.heap.size w w) := Below.refl _ _
 go_enter Tryz.func17, Tryz.ntmps17
 go_upto_region 1 with fail
 refine nmW (((w.alloc (.cells #[u0, u1, u2, u3] 26)).alloc (.cells #[v0, v1, v2, v3] 26)).alloc (.cells #[.int .i64 0, .slice none 0 0, .int .i64 0, .slice none 0 0] 26)) fun w1 hv => ?_
 rw [← hv]
 replace M := al3W hv M
 clear hv
 refine cj4 (J2 M).1.d4 fun aa ab ac ad => ?_
 go_wp2_with fail
 clear aa ab ac ad
 refine (fxRight_ok (o := none) (b_ := false) (H1.out.keep (J3 M)) HLn1.out HLm1.out rfl).mono ?_
 rintro e w2 ⟨rfl, hb⟩
 replace M := gnM hb M
 clear hb
 refine cj8 (M.out.1).c4 fun ae af ag ah ai aj ak al => ?_
 go_wp2_with fail
 clear ae af ag ah ai aj ak al
 have hz : w.heap.size ≤ w.heap.size + 1 + 1 := by omega
 refine st4W (.int .i64 0) (.slice none 0 0) (.int .i64 0) (.slice none 0 0) (M.out.1) (J3 M) hz fun w3 hv og hk hbw => ?_
 rw [← hv]
 replace M := Lib.hid (aI hk (aI ((J1 M).1.only og (by omega)) (aI ((J2 M).1.only og (by omega)) hbw)))
 clear hk hbw og hv hz
 refine bodyPost_ret (results_box2 rfl _ _ (w.heap.size + 1 + 1) 26 _ _ _ rfl (M.out.1) Tryz.underlying26 rfl (by kernel_rfl)) rfl ?_
 exact ⟨rfl, (J3 M)⟩
set_option maxRecDepth 100000 in
set_option maxHeartbeats 4000000 in
theorem fDiv_n2 {u0 u1 u2 u3 v0 v1 v2 v3 : Value} {n1 m1 n2 m2 : Nat} {q : Rat} {w : World} (h1 : FX w u0 u1 u2 u3 n1 m1 (some q)) (h2 : FX w v0 v1 v2 v3 n2 m2 none) (ln1 : n1 ≤ 549755813888) (lm1 : m1 ≤ 549755813888) (ln2 : n2 ≤ 549755813888) (lm2 : m2 ≤ 549755813888) :
  Calls Tryz.prog 17 #[.agg #[u0, u1, u2, u3], .agg #[v0, v1, v2, v3]] w fun e w' => e = .returned (.tuple #[.agg #[.int .i64 0, .slice none 0 0, .int .i64 0, .slice none 0 0], .int .i64 1]) ∧ Below w.heap.size w w' := by
 have HLn1 := Lib.hid ln1; have HLm1 := Lib.hid lm1; have HLn2 := Lib.hid ln2; have HLm2 := Lib.hid lm2; clear ln1 lm1 ln2 lm2
 have H1 : Hid (FX w u0 u1 u2 u3 n1 m1 (some q)) := h1
 have H2 : Hid (FX w v0 v1 v2 v3 n2 m2 none) := h2
 clear h1 h2
 have M : Hid (Below w.heap.size w w) := Below.refl _ _
 go_enter Tryz.func17, Tryz.ntmps17
 go_upto_region 1 with fail
 refine nmW (((w.alloc (.cells #[u0, u1, u2, u3] 26)).alloc (.cells #[v0, v1, v2, v3] 26)).alloc (.cells #[.int .i64 0, .slice none 0 0, .int .i64 0, .slice none 0 0] 26)) fun w1 hv => ?_
 rw [← hv]
 replace M := al3W hv M
 clear hv
 refine cj4 (J2 M).1.d4 fun aa ab ac ad => ?_
 go_wp2_with fail
 clear aa ab ac ad
 refine (fxRight_ok (o := (some q)) (b_ := true) (H1.out.keep (J3 M)) HLn1.out HLm1.out rfl).mono ?_
 rintro e w2 ⟨rfl, hb⟩
 replace M := gnM hb M
 clear hb
 refine cj4 (J1 M).1.d4 fun ae af ag ah => ?_
 go_wp2_with fail
 clear ae af ag ah
 refine (fxRight_ok (o := none) (b_ := false) (H2.out.keep (J3 M)) HLn2.out HLm2.out rfl).mono ?_
 rintro e w3 ⟨rfl, hb⟩
 replace M := gnM hb M
 clear hb
 refine cj8 (M.out.1).c4 fun ai aj ak al am ao ap aq => ?_
 go_wp2_with fail
 clear ai aj ak al am ao ap aq
 have hz : w.heap.size ≤ w.heap.size + 1 + 1 := by omega
 refine st4W (.int .i64 0) (.slice none 0 0) (.int .i64 0) (.slice none 0 0) (M.out.1) (J3 M) hz fun w4 hv og hk hbw => ?_
 rw [← hv]
 replace M := Lib.hid (aI hk (aI ((J1 M).1.only og (by omega)) (aI ((J2 M).1.only og (by omega)) hbw)))
 clear hk hbw og hv hz
 refine bodyPost_ret (results_box2 rfl _ _ (w.heap.size + 1 + 1) 26 _ _ _ rfl (M.out.1) Tryz.underlying26 rfl (by kernel_rfl)) rfl ?_
 exact ⟨rfl, (J3 M)⟩
set_option maxRecDepth 100000 in
set_option maxHeartbeats 4000000 in
theorem fCompare_n1 {u0 u1 u2 u3 v0 v1 v2 v3 : Value} {n1 m1 : Nat} {w : World} (h1 : FX w u0 u1 u2 u3 n1 m1 none) (ln1 : n1 ≤ 549755813888) (lm1 : m1 ≤ 549755813888) :
  Calls Tryz.prog 27 #[.agg #[u0, u1, u2, u3], .agg #[v0, v1, v2, v3]] w fun e w' => e = .returned (.int .i64 0) ∧ Below w.heap.size w w' := by
 have HLn1 := Lib.hid ln1; have HLm1 := Lib.hid lm1; clear ln1 lm1
 have H1 : Hid (FX w u0 u1 u2 u3 n1 m1 none) := h1
 clear h1
 have M : Hid (Below w.heap.size w w) := Below.refl _ _
 go_enter Tryz.func27, Tryz.ntmps27
 go_upto_region 1 with fail
 refine nmW ((w.alloc (.cells #[u0, u1, u2, u3] 26)).alloc (.cells #[v0, v1, v2, v3] 26)) fun w1 hv => ?_
 rw [← hv]
 replace M := al2W hv M
 clear hv
 refine cj4 (J1 M).1.d4 fun aa ab ac ad => ?_
 go_wp2_with fail
 clear aa ab ac ad
 refine (fxRight_ok (o := none) (b_ := false) (H1.out.keep (J2 M)) HLn1.out HLm1.out rfl).mono ?_
 rintro e w2 ⟨rfl, hb⟩
 replace M := gnM hb M
 clear hb
 go_wp2_with fail
 go_ret
 exact ⟨rfl, (J2 M)⟩
set_option maxRecDepth 100000 in
set_option maxHeartbeats 4000000 in
theorem fCompare_n2 {u0 u1 u2 u3 v0 v1 v2 v3 : Value} {n1 m1 n2 m2 : Nat} {q : Rat} {w : World} (h1 : FX w u0 u1 u2 u3 n1 m1 (some q)) (h2 : FX w v0 v1 v2 v3 n2 m2 none) (ln1 : n1 ≤ 549755813888) (lm1 : m1 ≤ 549755813888) (ln2 : n2 ≤ 549755813888) (lm2 : m2 ≤ 549755813888) :
  Calls Tryz.prog 27 #[.agg #[u0, u1, u2, u3], .agg #[v0, v1, v2, v3]] w fun e w' => e = .returned (.int .i64 0) ∧ Below w.heap.size w w' := by
 have HLn1 := Lib.hid ln1; have HLm1 := Lib.hid lm1; have HLn2 := Lib.hid ln2; have HLm2 := Lib.hid lm2; clear ln1 lm1 ln2 lm2
 have H1 : Hid (FX w u0 u1 u2 u3 n1 m1 (some q)) := h1
 have H2 : Hid (FX w v0 v1 v2 v3 n2 m2 none) := h2
 clear h1 h2
 have M : Hid (Below w.heap.size w w) := Below.refl _ _
 go_enter Tryz.func27, Tryz.ntmps27
 go_upto_region 1 with fail
 refine nmW ((w.alloc (.cells #[u0, u1, u2, u3] 26)).alloc (.cells #[v0, v1, v2, v3] 26)) fun w1 hv => ?_
 rw [← hv]
 replace M := al2W hv M
 clear hv
 refine cj4 (J1 M).1.d4 fun aa ab ac ad => ?_
 go_wp2_with fail
 clear aa ab ac ad
 refine (fxRight_ok (o := (some q)) (b_ := true) (H1.out.keep (J2 M)) HLn1.out HLm1.out rfl).mono ?_
 rintro e w2 ⟨rfl, hb⟩
 replace M := gnM hb M
 clear hb
 refine cj4 (M.out.1).d4 fun ae af ag ah => ?_
 go_wp2_with fail
 clear ae af ag ah
 refine (fxRight_ok (o := none) (b_ := false) (H2.out.keep (J2 M)) HLn2.out HLm2.out rfl).mono ?_
 rintro e w3 ⟨rfl, hb⟩
 replace M := gnM hb M
 clear hb
 go_wp2_with fail
 go_ret
 exact ⟨rfl, (J2 M)⟩
set_option maxRecDepth 100000 in
set_option maxHeartbeats 4000000 in
theorem feither_n1 {u0 u1 u2 u3 v0 v1 v2 v3 : Value} {n1 m1 : Nat} {sx : Int} {w : World} (h1 : FX w u0 u1 u2 u3 n1 m1 none) (ln1 : n1 ≤ 549755813888) (lm1 : m1 ≤ 549755813888) :
  Calls Tryz.prog 71 #[.agg #[u0, u1, u2, u3], .agg #[v0, v1, v2, v3], .int .i64 sx] w fun e w' => e = .returned (.tuple #[.agg #[.int .i64 0, .slice none 0 0, .int .i64 0, .slice none 0 0], .int .i64 1]) ∧ Below w.heap.size w w' := by
 have HLn1 := Lib.hid ln1; have HLm1 := Lib.hid lm1; clear ln1 lm1
 have H1 : Hid (FX w u0 u1 u2 u3 n1 m1 none) := h1
 clear h1
 have M : Hid (Below w.heap.size w w) := Below.refl _ _
 go_enter Tryz.func71, Tryz.ntmps71
 go_upto_region 1 with fail
 refine nmW (((w.alloc (.cells #[u0, u1, u2, u3] 26)).alloc (.cells #[v0, v1, v2, v3] 26)).alloc (.cells #[.int .i64 0, .slice none 0 0, .int .i64 0, .slice none 0 0] 26)) fun w1 hv => ?_
 rw [← hv]
 replace M := al3W hv M
 clear hv
 refine cj4 (J2 M).1.d4 fun aa ab ac ad => ?_
 go_wp2_with fail
 clear aa ab ac ad
 refine (fxRight_ok (o := none) (b_ := false) (H1.out.keep (J3 M)) HLn1.out HLm1.out rfl).mono ?_
 rintro e w2 ⟨rfl, hb⟩
 replace M := gnM hb M
 clear hb
 refine cj8 (M.out.1).c4 fun ae af ag ah ai aj ak al => ?_
 go_wp2_with fail
 clear ae af ag ah ai aj ak al
 have hz : w.heap.size ≤ w.heap.size + 1 + 1 := by omega
 refine st4W (.int .i64 0) (.slice none 0 0) (.int .i64 0) (.slice none 0 0) (M.out.1) (J3 M) hz fun w3 hv og hk hbw => ?_
 rw [← hv]
 replace M := Lib.hid (aI hk (aI ((J1 M).1.only og (by omega)) (aI ((J2 M).1.only og (by omega)) hbw)))
 clear hk hbw og hv hz
 refine bodyPost_ret (results_box2 rfl _ _ (w.heap.size + 1 + 1) 26 _ _ _ rfl (M.out.1) Tryz.underlying26 rfl (by kernel_rfl)) rfl ?_
 exact ⟨rfl, (J3 M)⟩
set_option maxRecDepth 100000 in
set_option maxHeartbeats 4000000 in
theorem feither_n2 {u0 u1 u2 u3 v0 v1 v2 v3 : Value} {n1 m1 n2 m2 : Nat} {q : Rat} {sx : Int} {w : World} (h1 : FX w u0 u1 u2 u3 n1 m1 (some q)) (h2 : FX w v0 v1 v2 v3 n2 m2 none) (ln1 : n1 ≤ 549755813888) (lm1 : m1 ≤ 549755813888) (ln2 : n2 ≤ 549755813888) (lm2 : m2 ≤ 549755813888) :
  Calls Tryz.prog 71 #[.agg #[u0, u1, u2, u3], .agg #[v0, v1, v2, v3], .int .i64 sx] w fun e w' => e = .returned (.tuple #[.agg #[.int .i64 0, .slice none 0 0, .int .i64 0, .slice none 0 0], .int .i64 1]) ∧ Below w.heap.size w w' := by
 have HLn1 := Lib.hid ln1; have HLm1 := Lib.hid lm1; have HLn2 := Lib.hid ln2; have HLm2 := Lib.hid lm2; clear ln1 lm1 ln2 lm2
 have H1 : Hid (FX w u0 u1 u2 u3 n1 m1 (some q)) := h1
 have H2 : Hid (FX w v0 v1 v2 v3 n2 m2 none) := h2
 clear h1 h2
 have M : Hid (Below w.heap.size w w) := Below.refl _ _
 go_enter Tryz.func71, Tryz.ntmps71
 go_upto_region 1 with fail
 refine nmW (((w.alloc (.cells #[u0, u1, u2, u3] 26)).alloc (.cells #[v0, v1, v2, v3] 26)).alloc (.cells #[.int .i64 0, .slice none 0 0, .int .i64 0, .slice none 0 0] 26)) fun w1 hv => ?_
 rw [← hv]
 replace M := al3W hv M
 clear hv
 refine cj4 (J2 M).1.d4 fun aa ab ac ad => ?_
 go_wp2_with fail
 clear aa ab ac ad
 refine (fxRight_ok (o := (some q)) (b_ := true) (H1.out.keep (J3 M)) HLn1.out HLm1.out rfl).mono ?_
 rintro e w2 ⟨rfl, hb⟩
 replace M := gnM hb M
 clear hb
 refine cj4 (J1 M).1.d4 fun ae af ag ah => ?_
 go_wp2_with fail
 clear ae af ag ah
 refine (fxRight_ok (o := none) (b_ := false) (H2.out.keep (J3 M)) HLn2.out HLm2.out rfl).mono ?_
 rintro e w3 ⟨rfl, hb⟩
 replace M := gnM hb M
 clear hb
 refine cj8 (M.out.1).c4 fun ai aj ak al am ao ap aq => ?_
 go_wp2_with fail
 clear ai aj ak al am ao ap aq
 have hz : w.heap.size ≤ w.heap.size + 1 + 1 := by omega
 refine st4W (.int .i64 0) (.slice none 0 0) (.int .i64 0) (.slice none 0 0) (M.out.1) (J3 M) hz fun w4 hv og hk hbw => ?_
 rw [← hv]
 replace M := Lib.hid (aI hk (aI ((J1 M).1.only og (by omega)) (aI ((J2 M).1.only og (by omega)) hbw)))
 clear hk hbw og hv hz
 refine bodyPost_ret (results_box2 rfl _ _ (w.heap.size + 1 + 1) 26 _ _ _ rfl (M.out.1) Tryz.underlying26 rfl (by kernel_rfl)) rfl ?_
 exact ⟨rfl, (J3 M)⟩
set_option maxRecDepth 100000 in
set_option maxHeartbeats 4000000 in
theorem fMin_n1 {u0 u1 u2 u3 v0 v1 v2 v3 : Value} {n1 m1 : Nat} {w : World} (h1 : FX w u0 u1 u2 u3 n1 m1 none) (ln1 : n1 ≤ 549755813888) (lm1 : m1 ≤ 549755813888) :
  Calls Tryz.prog 30 #[.agg #[u0, u1, u2, u3], .agg #[v0, v1, v2, v3]] w fun e w' => e = .returned (.tuple #[.agg #[.int .i64 0, .slice none 0 0, .int .i64 0, .slice none 0 0], .int .i64 1]) ∧ Below w.heap.size w w' := by
 have HLn1 := Lib.hid ln1; have HLm1 := Lib.hid lm1; clear ln1 lm1
 have H1 : Hid (FX w u0 u1 u2 u3 n1 m1 none) := h1
 clear h1
 have M : Hid (Below w.heap.size w w) := Below.refl _ _
 go_enter Tryz.func30, Tryz.ntmps30
 go_upto_region 1 with fail
 refine nmW (((w.alloc (.cells #[u0, u1, u2, u3] 26)).alloc (.cells #[v0, v1, v2, v3] 26)).alloc (.cells #[.int .i64 0, .slice none 0 0, .int .i64 0, .slice none 0 0] 26)) fun w1 hv => ?_
 rw [← hv]
 replace M := al3W hv M
 clear hv
 refine cj4 (J2 M).1.d4 fun aa ab ac ad => ?_
 refine cj4 (J1 M).1.d4 fun ae af ag ah => ?_
 go_wp2_with fail
 clear aa ab ac ad ae af ag ah
 refine (feither_n1 (sx := (-1)) (H1.out.keep (J3 M)) HLn1.out HLm1.out).mono ?_
 rintro e w2 ⟨rfl, hb⟩
 replace M := gnM hb M
 clear hb
 refine cj8 (M.out.1).c4 fun ai aj ak al am ao ap aq => ?_
 go_wp2_with fail
 clear ai aj ak al am ao ap aq
 have hz : w.heap.size ≤ w.heap.size + 1 + 1 := by omega
 refine st4W (.int .i64 0) (.slice none 0 0) (.int .i64 0) (.slice none 0 0) (M.out.1) (J3 M) hz fun w3 hv og hk hbw => ?_
 rw [← hv]
 replace M := Lib.hid (aI hk (aI ((J1 M).1.only og (by omega)) (aI ((J2 M).1.only og (by omega)) hbw)))
 clear hk hbw og hv hz
 refine bodyPost_ret (results_box2 rfl _ _ (w.heap.size + 1 + 1) 26 _ _ _ rfl (M.out.1) Tryz.underlying26 rfl (by kernel_rfl)) rfl ?_
 exact ⟨rfl, (J3 M)⟩
set_option maxRecDepth 100000 in
set_option maxHeartbeats 4000000 in
theorem fMin_n2 {u0 u1 u2 u3 v0 v1 v2 v3 : Value} {n1 m1 n2 m2 : Nat} {q : Rat} {w : World} (h1 : FX w u0 u1 u2 u3 n1 m1 (some q)) (h2 : FX w v0 v1 v2 v3 n2 m2 none) (ln1 : n1 ≤ 549755813888) (lm1 : m1 ≤ 549755813888) (ln2 : n2 ≤ 549755813888) (lm2 : m2 ≤ 549755813888) :
  Calls Tryz.prog 30 #[.agg #[u0, u1, u2, u3], .agg #[v0, v1, v2, v3]] w fun e w' => e = .returned (.tuple #[.agg #[.int .i64 0, .slice none 0 0, .int .i64 0, .slice none 0 0], .int .i64 1]) ∧ Below w.heap.size w w' := by
 have HLn1 := Lib.hid ln1; have HLm1 := Lib.hid lm1; have HLn2 := Lib.hid ln2; have HLm2 := Lib.hid lm2; clear ln1 lm1 ln2 lm2
 have H1 : Hid (FX w u0 u1 u2 u3 n1 m1 (some q)) := h1
 have H2 : Hid (FX w v0 v1 v2 v3 n2 m2 none) := h2
 clear h1 h2
 have M : Hid (Below w.heap.size w w) := Below.refl _ _
 go_enter Tryz.func30, Tryz.ntmps30
 go_upto_region 1 with fail
 refine nmW (((w.alloc (.cells #[u0, u1, u2, u3] 26)).alloc (.cells #[v0, v1, v2, v3] 26)).alloc (.cells #[.int .i64 0, .slice none 0 0, .int .i64 0, .slice none 0 0] 26)) fun w1 hv => ?_
 rw [← hv]
 replace M := al3W hv M
 clear hv
 refine cj4 (J2 M).1.d4 fun aa ab ac ad => ?_
 refine cj4 (J1 M).1.d4 fun ae af ag ah => ?_
 go_wp2_with fail
 clear aa ab ac ad ae af ag ah
 refine (feither_n2 (q := q) (sx := (-1)) (H1.out.keep (J3 M)) (H2.out.keep (J3 M)) HLn1.out HLm1.out HLn2.out HLm2.out).mono ?_
 rintro e w2 ⟨rfl, hb⟩
 replace M := gnM hb M
 clear hb
 refine cj8 (M.out.1).c4 fun ai aj ak al am ao ap aq => ?_
 go_wp2_with fail
 clear ai aj ak al am ao ap aq
 have hz : w.heap.size ≤ w.heap.size + 1 + 1 := by omega
 refine st4W (.int .i64 0) (.slice none 0 0) (.int .i64 0) (.slice none 0 0) (M.out.1) (J3 M) hz fun w3 hv og hk hbw => ?_
 rw [← hv]
 replace M := Lib.hid (aI hk (aI ((J1 M).1.only og (by omega)) (aI ((J2 M).1.only og (by omega)) hbw)))
 clear hk hbw og hv hz
 refine bodyPost_ret (results_box2 rfl _ _ (w.heap.size + 1 + 1) 26 _ _ _ rfl (M.out.1) Tryz.underlying26 rfl (by kernel_rfl)) rfl ?_
 exact ⟨rfl, (J3 M)⟩
set_option maxRecDepth 100000 in
set_option maxHeartbeats 4000000 in
theorem fMax_n1 {u0 u1 u2 u3 v0 v1 v2 v3 : Value} {n1 m1 : Nat} {w : World} (h1 : FX w u0 u1 u2 u3 n1 m1 none) (ln1 : n1 ≤ 549755813888) (lm1 : m1 ≤ 549755813888) :
  Calls Tryz.prog 32 #[.agg #[u0, u1, u2, u3], .agg #[v0, v1, v2, v3]] w fun e w' => e = .returned (.tuple #[.agg #[.int .i64 0, .slice none 0 0, .int .i64 0, .slice none 0 0], .int .i64 1]) ∧ Below w.heap.size w w' := by
 have HLn1 := Lib.hid ln1; have HLm1 := Lib.hid lm1; clear ln1 lm1
 have H1 : Hid (FX w u0 u1 u2 u3 n1 m1 none) := h1
 clear h1
 have M : Hid (Below w.heap.size w w) := Below.refl _ _
 go_enter Tryz.func32, Tryz.ntmps32
 go_upto_region 1 with fail
 refine nmW (((w.alloc (.cells #[u0, u1, u2, u3] 26)).alloc (.cells #[v0, v1, v2, v3] 26)).alloc (.cells #[.int .i64 0, .slice none 0 0, .int .i64 0, .slice none 0 0] 26)) fun w1 hv => ?_
 rw [← hv]
 replace M := al3W hv M
 clear hv
 refine cj4 (J2 M).1.d4 fun aa ab ac ad => ?_
 refine cj4 (J1 M).1.d4 fun ae af ag ah => ?_
 go_wp2_with fail
 clear aa ab ac ad ae af ag ah
 refine (feither_n1 (sx := 1) (H1.out.keep (J3 M)) HLn1.out HLm1.out).mono ?_
 rintro e w2 ⟨rfl, hb⟩
 replace M := gnM hb M
 clear hb
 refine cj8 (M.out.1).c4 fun ai aj ak al am ao ap aq => ?_
 go_wp2_with fail
 clear ai aj ak al am ao ap aq
 have hz : w.heap.size ≤ w.heap.size + 1 + 1 := by omega
 refine st4W (.int .i64 0) (.slice none 0 0) (.int .i64 0) (.slice none 0 0) (M.out.1) (J3 M) hz fun w3 hv og hk hbw => ?_
 rw [← hv]
 replace M := Lib.hid (aI hk (aI ((J1 M).1.only og (by omega)) (aI ((J2 M).1.only og (by omega)) hbw)))
 clear hk hbw og hv hz
 refine bodyPost_ret (results_box2 rfl _ _ (w.heap.size + 1 + 1) 26 _ _ _ rfl (M.out.1) Tryz.underlying26 rfl (by kernel_rfl)) rfl ?_
 exact ⟨rfl, (J3 M)⟩
set_option maxRecDepth 100000 in
set_option maxHeartbeats 4000000 in
theorem fMax_n2 {u0 u1 u2 u3 v0 v1 v2 v3 : Value} {n1 m1 n2 m2 : Nat} {q : Rat} {w : World} (h1 : FX w u0 u1 u2 u3 n1 m1 (some q)) (h2 : FX w v0 v1 v2 v3 n2 m2 none) (ln1 : n1 ≤ 549755813888) (lm1 : m1 ≤ 549755813888) (ln2 : n2 ≤ 549755813888) (lm2 : m2 ≤ 549755813888) :
  Calls Tryz.prog 32 #[.agg #[u0, u1, u2, u3], .agg #[v0, v1, v2, v3]] w fun e w' => e = .returned (.tuple #[.agg #[.int .i64 0, .slice none 0 0, .int .i64 0, .slice none 0 0], .int .i64 1]) ∧ Below w.heap.size w w' := by
 have HLn1 := Lib.hid ln1; have HLm1 := Lib.hid lm1; have HLn2 := Lib.hid ln2; have HLm2 := Lib.hid lm2; clear ln1 lm1 ln2 lm2
 have H1 : Hid (FX w u0 u1 u2 u3 n1 m1 (some q)) := h1
 have H2 : Hid (FX w v0 v1 v2 v3 n2 m2 none) := h2
 clear h1 h2
 have M : Hid (Below w.heap.size w w) := Below.refl _ _
 go_enter Tryz.func32, Tryz.ntmps32
 go_upto_region 1 with fail
 refine nmW (((w.alloc (.cells #[u0, u1, u2, u3] 26)).alloc (.cells #[v0, v1, v2, v3] 26)).alloc (.cells #[.int .i64 0, .slice none 0 0, .int .i64 0, .slice none 0 0] 26)) fun w1 hv => ?_
 rw [← hv]
 replace M := al3W hv M
 clear hv
 refine cj4 (J2 M).1.d4 fun aa ab ac ad => ?_
 refine cj4 (J1 M).1.d4 fun ae af ag ah => ?_
 go_wp2_with fail
 clear aa ab ac ad ae af ag ah
 refine (feither_n2 (q := q) (sx := 1) (H1.out.keep (J3 M)) (H2.out.keep (J3 M)) HLn1.out HLm1.out HLn2.out HLm2.out).mono ?_
 rintro e w2 ⟨rfl, hb⟩
 replace M := gnM hb M
 clear hb
 refine cj8 (M.out.1).c4 fun ai aj ak al am ao ap aq => ?_
 go_wp2_with fail
 clear ai aj ak al am ao ap aq
 have hz : w.heap.size ≤ w.heap.size + 1 + 1 := by omega
 refine st4W (.int .i64 0) (.slice none 0 0) (.int .i64 0) (.slice none 0 0) (M.out.1) (J3 M) hz fun w3 hv og hk hbw => ?_
 rw [← hv]
 replace M := Lib.hid (aI hk (aI ((J1 M).1.only og (by omega)) (aI ((J2 M).1.only og (by omega)) hbw)))
 clear hk hbw og hv hz
 refine bodyPost_ret (results_box2 rfl _ _ (w.heap.size + 1 + 1) 26 _ _ _ rfl (M.out.1) Tryz.underlying26 rfl (by kernel_rfl)) rfl ?_
 exact ⟨rfl, (J3 M)⟩
set_option maxRecDepth 100000 in
set_option maxHeartbeats 4000000 in
theorem fNeg_n {u0 u1 u2 u3 : Value} {n1 m1 : Nat} {w : World} (h1 : FX w u0 u1 u2 u3 n1 m1 none) (ln1 : n1 ≤ 549755813888) (lm1 : m1 ≤ 549755813888) :
  Calls Tryz.prog 34 #[.agg #[u0, u1, u2, u3]] w fun e w' => e = .returned (.agg #[.int .i64 0, .slice none 0 0, .int .i64 0, .slice none 0 0]) ∧ Below w.heap.size w w' := by
 have HLn1 := Lib.hid ln1; have HLm1 := Lib.hid lm1; clear ln1 lm1
 have H1 : Hid (FX w u0 u1 u2 u3 n1 m1 none) := h1
 clear h1
 have M : Hid (Below w.heap.size w w) := Below.refl _ _
 go_enter Tryz.func34, Tryz.ntmps34
 go_upto_region 1 with fail
 refine nmW ((w.alloc (.cells #[u0, u1, u2, u3] 26)).alloc (.cells #[.int .i64 0, .slice none 0 0, .int .i64 0, .slice none 0 0] 26)) fun w1 hv => ?_
 rw [← hv]
 replace M := al2W hv M
 clear hv
 refine cj4 (J1 M).1.d4 fun aa ab ac ad => ?_
 go_wp2_with fail
 clear aa ab ac ad
 refine (fxRight_ok (o := none) (b_ := false) (H1.out.keep (J2 M)) HLn1.out HLm1.out rfl).mono ?_
 rintro e w2 ⟨rfl, hb⟩
 replace M := gnM hb M
 clear hb
 refine cj8 (M.out.1).c4 fun ae af ag ah ai aj ak al => ?_
 go_wp2_with fail
 clear ae af ag ah ai aj ak al
 have hz : w.heap.size ≤ w.heap.size + 1 := by omega
 refine st4W (.int .i64 0) (.slice none 0 0) (.int .i64 0) (.slice none 0 0) (M.out.1) (J2 M) hz fun w3 hv og hk hbw => ?_
 rw [← hv]
 replace M := Lib.hid (aI hk (aI ((J1 M).1.only og (by omega)) hbw))
 clear hk hbw og hv hz
 refine bodyPost_ret (results_box1 rfl _ _ (w.heap.size + 1) 26 _ _ _ rfl (M.out.1) Tryz.underlying26 rfl (by kernel_rfl)) rfl ?_
 exact ⟨rfl, (J2 M)⟩
set_option maxRecDepth 100000 in
set_option maxHeartbeats 4000000 in
theorem fSign_n {u0 u1 u2 u3 : Value} {n1 m1 : Nat} {w : World} (h1 : FX w u0 u1 u2 u3 n1 m1 none) (ln1 : n1 ≤ 549755813888) (lm1 : m1 ≤ 549755813888) :
  Calls Tryz.prog 36 #[.agg #[u0, u1, u2, u3]] w fun e w' => e = .returned (.int .i64 0) ∧ Below w.heap.size w w' := by
 have HLn1 := Lib.hid ln1; have HLm1 := Lib.hid lm1; clear ln1 lm1
 have H1 : Hid (FX w u0 u1 u2 u3 n1 m1 none) := h1
 clear h1
 have M : Hid (Below w.heap.size w w) := Below.refl _ _
 go_enter Tryz.func36, Tryz.ntmps36
 go_upto_region 1 with fail
 refine nmW (w.alloc (.cells #[u0, u1, u2, u3] 26)) fun w1 hv => ?_
 rw [← hv]
 replace M := alM hv M
 clear hv
 refine cj4 (M.out.1).d4 fun aa ab ac ad => ?_
 go_wp2_with fail
 clear aa ab ac ad
 refine (fxRight_ok (o := none) (b_ := false) (H1.out.keep (J1 M)) HLn1.out HLm1.out rfl).mono ?_
 rintro e w2 ⟨rfl, hb⟩
 replace M := gnM hb M
 clear hb
 go_wp2_with fail
 go_ret
 exact ⟨rfl, (J1 M)⟩
set_option maxRecDepth 100000 in
set_option maxHeartbeats 4000000 in
theorem fFloor_n {u0 u1 u2 u3 : Value} {n1 m1 : Nat} {w : World} (h1 : FX w u0 u1 u2 u3 n1 m1 none) (ln1 : n1 ≤ 549755813888) (lm1 : m1 ≤ 549755813888) :
  Calls Tryz.prog 43 #[.agg #[u0, u1, u2, u3]] w fun e w' => e = .returned (.agg #[.int .i64 0, .slice none 0 0]) ∧ Below w.heap.size w w' := by
 have HLn1 := Lib.hid ln1; have HLm1 := Lib.hid lm1; clear ln1 lm1
 have H1 : Hid (FX w u0 u1 u2 u3 n1 m1 none) := h1
 clear h1
 have M : Hid (Below w.heap.size w w) := Below.refl _ _
 go_enter Tryz.func43, Tryz.ntmps43
 go_upto_region 1 with fail
 refine nmW ((w.alloc (.cells #[u0, u1, u2, u3] 26)).alloc (.cells #[.int .i64 0, .slice none 0 0] 24)) fun w1 hv => ?_
 rw [← hv]
 replace M := al2W hv M
 clear hv
 refine cj4 (J1 M).1.d4 fun aa ab ac ad => ?_
 go_wp2_with fail
 clear aa ab ac ad
 refine (fxRight_ok (o := none) (b_ := false) (H1.out.keep (J2 M)) HLn1.out HLm1.out rfl).mono ?_
 rintro e w2 ⟨rfl, hb⟩
 replace M := gnM hb M
 clear hb
 refine cj4 (M.out.1).c2 fun ae af ag ah => ?_
 go_wp2_with fail
 clear ae af ag ah
 have hz : w.heap.size ≤ w.heap.size + 1 := by omega
 refine st2W (.int .i64 0) (.slice none 0 0) (M.out.1) (J2 M) hz fun w3 hv og hk hbw => ?_
 rw [← hv]
 replace M := Lib.hid (aI hk (aI ((J1 M).1.only og (by omega)) hbw))
 clear hk hbw og hv hz
 refine bodyPost_ret (results_box1 rfl _ _ (w.heap.size + 1) 24 _ _ _ rfl (M.out.1) Tryz.underlying24 rfl (by kernel_rfl)) rfl ?_
 exact ⟨rfl, (J2 M)⟩
set_option maxRecDepth 100000 in
set_option maxHeartbeats 4000000 in
theorem fText_n {u0 u1 u2 u3 : Value} {n1 m1 : Nat} {w : World} (h1 : FX w u0 u1 u2 u3 n1 m1 none) (ln1 : n1 ≤ 549755813888) (lm1 : m1 ≤ 549755813888) :
    Calls Tryz.prog 40 #[.agg #[u0, u1, u2, u3]] w fun e w' => e = .returned (.string {data := #[]}) ∧ Below w.heap.size w w' := by
  have HLn1 := Lib.hid ln1; have HLm1 := Lib.hid lm1; clear ln1 lm1
  have H1 : Hid (FX w u0 u1 u2 u3 n1 m1 none) := h1
  clear h1
  have M : Hid (Below w.heap.size w w) := Below.refl _ _
  go_enter Tryz.func40, Tryz.ntmps40
  go_upto_region 1 with fail
  refine nmW (w.alloc (.cells #[u0, u1, u2, u3] 26)) fun w1 hv => ?_
  rw [← hv]
  replace M := alM hv M
  clear hv
  refine cj4 (M.out.1).d4 fun aa ab ac ad => ?_
  go_wp2_with fail
  clear aa ab ac ad
  refine (fxRight_ok (o := none) (b_ := false) (H1.out.keep (J1 M)) HLn1.out HLm1.out rfl).mono ?_
  rintro e w2 ⟨rfl, hb⟩
  replace M := gnM hb M
  clear hb
  go_wp2_with fail
  go_ret
  exact ⟨rfl, (J1 M)⟩
set_option maxRecDepth 100000 in
set_option maxHeartbeats 4000000 in
theorem fNew_n1 {u0 u1 v0 v1 : Value} {w : World} (h1 : BX G w u0 u1 none) :
  Calls Tryz.prog 23 #[.agg #[u0, u1], .agg #[v0, v1]] w fun e w' => e = .returned (.tuple #[.agg #[.int .i64 0, .slice none 0 0, .int .i64 0, .slice none 0 0], .int .i64 1]) ∧ Below w.heap.size w w' := by
 have H1 : Hid (BX G w u0 u1 none) := h1
 clear h1
 have M : Hid (Below w.heap.size w w) := Below.refl _ _
 go_enter Tryz.func23, Tryz.ntmps23
 go_upto_region 1 with fail
 refine nmW (((w.alloc (.cells #[u0, u1] 24)).alloc (.cells #[v0, v1] 24)).alloc (.cells #[.int .i64 0, .slice none 0 0, .int .i64 0, .slice none 0 0] 26)) fun w1 hv => ?_
 rw [← hv]
 replace M := al3W hv M
 clear hv
 refine cj2 (J2 M).1.d2 fun aa ab => ?_
 go_wp2_with fail
 clear aa ab
 refine (bxRight_ok (G := G) (b_ := false) (H1.out.keep (J3 M)) rfl).mono ?_
 rintro e w2 ⟨rfl, hb⟩
 replace M := gnM hb M
 clear hb
 refine cj8 (M.out.1).c4 fun ac ad ae af ag ah ai aj => ?_
 go_wp2_with fail
 clear ac ad ae af ag ah ai aj
 have hz : w.heap.size ≤ w.heap.size + 1 + 1 := by omega
 refine st4W (.int .i64 0) (.slice none 0 0) (.int .i64 0) (.slice none 0 0) (M.out.1) (J3 M) hz fun w3 hv og hk hbw => ?_
 rw [← hv]
 replace M := Lib.hid (aI hk (aI ((J1 M).1.only og (by omega)) (aI ((J2 M).1.only og (by omega)) hbw)))
 clear hk hbw og hv hz
 refine bodyPost_ret (results_box2 rfl _ _ (w.heap.size + 1 + 1) 26 _ _ _ rfl (M.out.1) Tryz.underlying26 rfl (by kernel_rfl)) rfl ?_
 exact ⟨rfl, (J3 M)⟩
set_option maxRecDepth 100000 in
set_option maxHeartbeats 4000000 in
theorem fNew_n2 {u0 u1 v0 v1 : Value} {q : Int} {w : World} (h1 : BX G w u0 u1 (some q)) (h2 : BX G w v0 v1 none) :
  Calls Tryz.prog 23 #[.agg #[u0, u1], .agg #[v0, v1]] w fun e w' => e = .returned (.tuple #[.agg #[.int .i64 0, .slice none 0 0, .int .i64 0, .slice none 0 0], .int .i64 1]) ∧ Below w.heap.size w w' := by
 have H1 : Hid (BX G w u0 u1 (some q)) := h1
 have H2 : Hid (BX G w v0 v1 none) := h2
 clear h1 h2
 have M : Hid (Below w.heap.size w w) := Below.refl _ _
 go_enter Tryz.func23, Tryz.ntmps23
 go_upto_region 1 with fail
 refine nmW (((w.alloc (.cells #[u0, u1] 24)).alloc (.cells #[v0, v1] 24)).alloc (.cells #[.int .i64 0, .slice none 0 0, .int .i64 0, .slice none 0 0] 26)) fun w1 hv => ?_
 rw [← hv]
 replace M := al3W hv M
 clear hv
 refine cj2 (J2 M).1.d2 fun aa ab => ?_
 go_wp2_with fail
 clear aa ab
 refine (bxRight_ok (G := G) (b_ := true) (H1.out.keep (J3 M)) rfl).mono ?_
 rintro e w2 ⟨rfl, hb⟩
 replace M := gnM hb M
 clear hb
 refine cj2 (J1 M).1.d2 fun ac ad => ?_
 go_wp2_with fail
 clear ac ad
 refine (bxRight_ok (G := G) (b_ := false) (H2.out.keep (J3 M)) rfl).mono ?_
 rintro e w3 ⟨rfl, hb⟩
 replace M := gnM hb M
 clear hb
 refine cj8 (M.out.1).c4 fun ae af ag ah ai aj ak al => ?_
 go_wp2_with fail
 clear ae af ag ah ai aj ak al
 have hz : w.heap.size ≤ w.heap.size + 1 + 1 := by omega
 refine st4W (.int .i64 0) (.slice none 0 0) (.int .i64 0) (.slice none 0 0) (M.out.1) (J3 M) hz fun w4 hv og hk hbw => ?_
 rw [← hv]
 replace M := Lib.hid (aI hk (aI ((J1 M).1.only og (by omega)) (aI ((J2 M).1.only og (by omega)) hbw)))
 clear hk hbw og hv hz
 refine bodyPost_ret (results_box2 rfl _ _ (w.heap.size + 1 + 1) 26 _ _ _ rfl (M.out.1) Tryz.underlying26 rfl (by kernel_rfl)) rfl ?_
 exact ⟨rfl, (J3 M)⟩
set_option maxRecDepth 100000 in
set_option maxHeartbeats 4000000 in
theorem gAdd_n1 {u0 u1 u2 u3 v0 v1 v2 v3 : Value} {n1 m1 : Nat} {w : World} (h1 : FX w u0 u1 u2 u3 n1 m1 none) (ln1 : n1 ≤ 549755813888) (lm1 : m1 ≤ 549755813888) :
  Calls Tryz.prog 11 #[.agg #[u0, u1, u2, u3], .agg #[v0, v1, v2, v3]] w fun e w' => e = .returned (.tuple #[.agg #[.int .i64 0, .slice none 0 0, .int .i64 0, .slice none 0 0], .int .i64 1]) ∧ Below w.heap.size w w' := by
 have HLn1 := Lib.hid ln1; have HLm1 := Lib.hid lm1; clear ln1 lm1
 have H1 : Hid (FX w u0 u1 u2 u3 n1 m1 none) := h1
 clear h1
 have M : Hid (Below w.heap.size w w) := Below.refl _ _
 go_enter Tryz.func11, Tryz.ntmps11
 go_upto_region 1 with fail
 refine nmW (((w.alloc (.cells #[u0, u1, u2, u3] 26)).alloc (.cells #[v0, v1, v2, v3] 26)).alloc (.cells #[.int .i64 0, .slice none 0 0, .int .i64 0, .slice none 0 0] 26)) fun w1 hv => ?_
 rw [← hv]
 replace M := al3W hv M
 clear hv
 refine cj4 (J2 M).1.d4 fun aa ab ac ad => ?_
 go_wp2_with fail
 clear aa ab ac ad
 refine (fyRight_ok (o := none) (b_ := false) (H1.out.keep (J3 M)) HLn1.out HLm1.out rfl).mono ?_
 rintro e w2 ⟨rfl, hb⟩
 replace M := gnM hb M
 clear hb
 refine cj8 (M.out.1).c4 fun ae af ag ah ai aj ak al => ?_
 go_wp2_with fail
 clear ae af ag ah ai aj ak al
 have hz : w.heap.size ≤ w.heap.size + 1 + 1 := by omega
 refine st4W (.int .i64 0) (.slice none 0 0) (.int .i64 0) (.slice none 0 0) (M.out.1) (J3 M) hz fun w3 hv og hk hbw => ?_
 rw [← hv]
 replace M := Lib.hid (aI hk (aI ((J1 M).1.only og (by omega)) (aI ((J2 M).1.only og (by omega)) hbw)))
 clear hk hbw og hv hz
 refine bodyPost_ret (results_box2 rfl _ _ (w.heap.size + 1 + 1) 26 _ _ _ rfl (M.out.1) Tryz.underlying26 rfl (by kernel_rfl)) rfl ?_
 exact ⟨rfl, (J3 M)⟩
set_option maxRecDepth 100000 in
set_option maxHeartbeats 4000000 in
theorem gAdd_n2 {u0 u1 u2 u3 v0 v1 v2 v3 : Value} {n1 m1 n2 m2 : Nat} {q : Rat} {w : World} (h1 : FX w u0 u1 u2 u3 n1 m1 (some q)) (h2 : FX w v0 v1 v2 v3 n2 m2 none) (ln1 : n1 ≤ 549755813888) (lm1 : m1 ≤ 549755813888) (ln2 : n2 ≤ 549755813888) (lm2 : m2 ≤ 549755813888) :
  Calls Tryz.prog 11 #[.agg #[u0, u1, u2, u3], .agg #[v0, v1, v2, v3]] w fun e w' => e = .returned (.tuple #[.agg #[.int .i64 0, .slice none 0 0, .int .i64 0, .slice none 0 0], .int .i64 1]) ∧ Below w.heap.size w w' := by
 have HLn1 := Lib.hid ln1; have HLm1 := Lib.hid lm1; have HLn2 := Lib.hid ln2; have HLm2 := Lib.hid lm2; clear ln1 lm1 ln2 lm2
 have H1 : Hid (FX w u0 u1 u2 u3 n1 m1 (some q)) := h1
 have H2 : Hid (FX w v0 v1 v2 v3 n2 m2 none) := h2
 clear h1 h2
 have M : Hid (Below w.heap.size w w) := Below.refl _ _
 go_enter Tryz.func11, Tryz.ntmps11
 go_upto_region 1 with fail
 refine nmW (((w.alloc (.cells #[u0, u1, u2, u3] 26)).alloc (.cells #[v0, v1, v2, v3] 26)).alloc (.cells #[.int .i64 0, .slice none 0 0, .int .i64 0, .slice none 0 0] 26)) fun w1 hv => ?_
 rw [← hv]
 replace M := al3W hv M
 clear hv
 refine cj4 (J2 M).1.d4 fun aa ab ac ad => ?_
 go_wp2_with fail
 clear aa ab ac ad
 refine (fyRight_ok (o := (some q)) (b_ := true) (H1.out.keep (J3 M)) HLn1.out HLm1.out rfl).mono ?_
 rintro e w2 ⟨rfl, hb⟩
 replace M := gnM hb M
 clear hb
 refine cj4 (J1 M).1.d4 fun ae af ag ah => ?_
 go_wp2_with fail
 clear ae af ag ah
 refine (fyRight_ok (o := none) (b_ := false) (H2.out.keep (J3 M)) HLn2.out HLm2.out rfl).mono ?_
 rintro e w3 ⟨rfl, hb⟩
 replace M := gnM hb M
 clear hb
 refine cj8 (M.out.1).c4 fun ai aj ak al am ao ap aq => ?_
 go_wp2_with fail
 clear ai aj ak al am ao ap aq
 have hz : w.heap.size ≤ w.heap.size + 1 + 1 := by omega
 refine st4W (.int .i64 0) (.slice none 0 0) (.int .i64 0) (.slice none 0 0) (M.out.1) (J3 M) hz fun w4 hv og hk hbw => ?_
 rw [← hv]
 replace M := Lib.hid (aI hk (aI ((J1 M).1.only og (by omega)) (aI ((J2 M).1.only og (by omega)) hbw)))
 clear hk hbw og hv hz
 refine bodyPost_ret (results_box2 rfl _ _ (w.heap.size + 1 + 1) 26 _ _ _ rfl (M.out.1) Tryz.underlying26 rfl (by kernel_rfl)) rfl ?_
 exact ⟨rfl, (J3 M)⟩
set_option maxRecDepth 100000 in
set_option maxHeartbeats 4000000 in
theorem gSub_n1 {u0 u1 u2 u3 v0 v1 v2 v3 : Value} {n1 m1 : Nat} {w : World} (h1 : FX w u0 u1 u2 u3 n1 m1 none) (ln1 : n1 ≤ 549755813888) (lm1 : m1 ≤ 549755813888) :
  Calls Tryz.prog 13 #[.agg #[u0, u1, u2, u3], .agg #[v0, v1, v2, v3]] w fun e w' => e = .returned (.tuple #[.agg #[.int .i64 0, .slice none 0 0, .int .i64 0, .slice none 0 0], .int .i64 1]) ∧ Below w.heap.size w w' := by
 have HLn1 := Lib.hid ln1; have HLm1 := Lib.hid lm1; clear ln1 lm1
 have H1 : Hid (FX w u0 u1 u2 u3 n1 m1 none) := h1
 clear h1
 have M : Hid (Below w.heap.size w w) := Below.refl _ _
 go_enter Tryz.func13, Tryz.ntmps13
 go_upto_region 1 with fail
 refine nmW (((w.alloc (.cells #[u0, u1, u2, u3] 26)).alloc (.cells #[v0, v1, v2, v3] 26)).alloc (.cells #[.int .i64 0, .slice none 0 0, .int .i64 0, .slice none 0 0] 26)) fun w1 hv => ?_
 rw [← hv]
 replace M := al3W hv M
 clear hv
 refine cj4 (J2 M).1.d4 fun aa ab ac ad => ?_
 go_wp2_with fail
 clear aa ab ac ad
 refine (fyRight_ok (o := none) (b_ := false) (H1.out.keep (J3 M)) HLn1.out HLm1.out rfl).mono ?_
 rintro e w2 ⟨rfl, hb⟩
 replace M := gnM hb M
 clear hb
 refine cj8 (M.out.1).c4 fun ae af ag ah ai aj ak al => ?_
 go_wp2_with fail
 clear ae af ag ah ai aj ak al
 have hz : w.heap.size ≤ w.heap.size + 1 + 1 := by omega
 refine st4W (.int .i64 0) (.slice none 0 0) (.int .i64 0) (.slice none 0 0) (M.out.1) (J3 M) hz fun w3 hv og hk hbw => ?_
 rw [← hv]
 replace M := Lib.hid (aI hk (aI ((J1 M).1.only og (by omega)) (aI ((J2 M).1.only og (by omega)) hbw)))
 clear hk hbw og hv hz
 refine bodyPost_ret (results_box2 rfl _ _ (w.heap.size + 1 + 1) 26 _ _ _ rfl (M.out.1) Tryz.underlying26 rfl (by kernel_rfl)) rfl ?_
 exact ⟨rfl, (J3 M)⟩
set_option maxRecDepth 100000 in
set_option maxHeartbeats 4000000 in
theorem gSub_n2 {u0 u1 u2 u3 v0 v1 v2 v3 : Value} {n1 m1 n2 m2 : Nat} {q : Rat} {w : World} (h1 : FX w u0 u1 u2 u3 n1 m1 (some q)) (h2 : FX w v0 v1 v2 v3 n2 m2 none) (ln1 : n1 ≤ 549755813888) (lm1 : m1 ≤ 549755813888) (ln2 : n2 ≤ 549755813888) (lm2 : m2 ≤ 549755813888) :
  Calls Tryz.prog 13 #[.agg #[u0, u1, u2, u3], .agg #[v0, v1, v2, v3]] w fun e w' => e = .returned (.tuple #[.agg #[.int .i64 0, .slice none 0 0, .int .i64 0, .slice none 0 0], .int .i64 1]) ∧ Below w.heap.size w w' := by
 have HLn1 := Lib.hid ln1; have HLm1 := Lib.hid lm1; have HLn2 := Lib.hid ln2; have HLm2 := Lib.hid lm2; clear ln1 lm1 ln2 lm2
 have H1 : Hid (FX w u0 u1 u2 u3 n1 m1 (some q)) := h1
 have H2 : Hid (FX w v0 v1 v2 v3 n2 m2 none) := h2
 clear h1 h2
 have M : Hid (Below w.heap.size w w) := Below.refl _ _
 go_enter Tryz.func13, Tryz.ntmps13
 go_upto_region 1 with fail
 refine nmW (((w.alloc (.cells #[u0, u1, u2, u3] 26)).alloc (.cells #[v0, v1, v2, v3] 26)).alloc (.cells #[.int .i64 0, .slice none 0 0, .int .i64 0, .slice none 0 0] 26)) fun w1 hv => ?_
 rw [← hv]
 replace M := al3W hv M
 clear hv
 refine cj4 (J2 M).1.d4 fun aa ab ac ad => ?_
 go_wp2_with fail
 clear aa ab ac ad
 refine (fyRight_ok (o := (some q)) (b_ := true) (H1.out.keep (J3 M)) HLn1.out HLm1.out rfl).mono ?_
 rintro e w2 ⟨rfl, hb⟩
 replace M := gnM hb M
 clear hb
 refine cj4 (J1 M).1.d4 fun ae af ag ah => ?_
 go_wp2_with fail
 clear ae af ag ah
 refine (fyRight_ok (o := none) (b_ := false) (H2.out.keep (J3 M)) HLn2.out HLm2.out rfl).mono ?_
 rintro e w3 ⟨rfl, hb⟩
 replace M := gnM hb M
 clear hb
 refine cj8 (M.out.1).c4 fun ai aj ak al am ao ap aq => ?_
 go_wp2_with fail
 clear ai aj ak al am ao ap aq
 have hz : w.heap.size ≤ w.heap.size + 1 + 1 := by omega
 refine st4W (.int .i64 0) (.slice none 0 0) (.int .i64 0) (.slice none 0 0) (M.out.1) (J3 M) hz fun w4 hv og hk hbw => ?_
 rw [← hv]
 replace M := Lib.hid (aI hk (aI ((J1 M).1.only og (by omega)) (aI ((J2 M).1.only og (by omega)) hbw)))
 clear hk hbw og hv hz
 refine bodyPost_ret (results_box2 rfl _ _ (w.heap.size + 1 + 1) 26 _ _ _ rfl (M.out.1) Tryz.underlying26 rfl (by kernel_rfl)) rfl ?_
 exact ⟨rfl, (J3 M)⟩
set_option maxRecDepth 100000 in
set_option maxHeartbeats 4000000 in
theorem gMul_n1 {u0 u1 u2 u3 v0 v1 v2 v3 : Value} {n1 m1 : Nat} {w : World} (h1 : FX w u0 u1 u2 u3 n1 m1 none) (ln1 : n1 ≤ 549755813888) (lm1 : m1 ≤ 549755813888) :
  Calls Tryz.prog 16 #[.agg #[u0, u1, u2, u3], .agg #[v0, v1, v2, v3]] w fun e w' => e = .returned (.tuple #[.agg #[.int .i64 0, .slice none 0 0, .int .i64 0, .slice none 0 0], .int .i64 1]) ∧ Below w.heap.size w w' := by
 have HLn1 := Lib.hid ln1; have HLm1 := Lib.hid lm1; clear ln1 lm1
 have H1 : Hid (FX w u0 u1 u2 u3 n1 m1 none) := h1
 clear h1
 have M : Hid (Below w.heap.size w w) := Below.refl _ _
 go_enter Tryz.func16, Tryz.ntmps16
 go_upto_region 1 with fail
 refine nmW (((w.alloc (.cells #[u0, u1, u2, u3] 26)).alloc (.cells #[v0, v1, v2, v3] 26)).alloc (.cells #[.int .i64 0, .slice none 0 0, .int .i64 0, .slice none 0 0] 26)) fun w1 hv => ?_
 rw [← hv]
 replace M := al3W hv M
 clear hv
 refine cj4 (J2 M).1.d4 fun aa ab ac ad => ?_
 go_wp2_with fail
 clear aa ab ac ad
 refine (fyRight_ok (o := none) (b_ := false) (H1.out.keep (J3 M)) HLn1.out HLm1.out rfl).mono ?_
 rintro e w2 ⟨rfl, hb⟩
 replace M := gnM hb M
 clear hb
 refine cj8 (M.out.1).c4 fun ae af ag ah ai aj ak al => ?_
 go_wp2_with fail
 clear ae af ag ah ai aj ak al
 have hz : w.heap.size ≤ w.heap.size + 1 + 1 := by omega
 refine st4W (.int .i64 0) (.slice none 0 0) (.int .i64 0) (.slice none 0 0) (M.out.1) (J3 M) hz fun w3 hv og hk hbw => ?_
 rw [← hv]
 replace M := Lib.hid (aI hk (aI ((J1 M).1.only og (by omega)) (aI ((J2 M).1.only og (by omega)) hbw)))
 clear hk hbw og hv hz
 refine bodyPost_ret (results_box2 rfl _ _ (w.heap.size + 1 + 1) 26 _ _ _ rfl (M.out.1) Tryz.underlying26 rfl (by kernel_rfl)) rfl ?_
 exact ⟨rfl, (J3 M)⟩
set_option maxRecDepth 100000 in
set_option maxHeartbeats 4000000 in
theorem gMul_n2 {u0 u1 u2 u3 v0 v1 v2 v3 : Value} {n1 m1 n2 m2 : Nat} {q : Rat} {w : World} (h1 : FX w u0 u1 u2 u3 n1 m1 (some q)) (h2 : FX w v0 v1 v2 v3 n2 m2 none) (ln1 : n1 ≤ 549755813888) (lm1 : m1 ≤ 549755813888) (ln2 : n2 ≤ 549755813888) (lm2 : m2 ≤ 549755813888) :
  Calls Tryz.prog 16 #[.agg #[u0, u1, u2, u3], .agg #[v0, v1, v2, v3]] w fun e w' => e = .returned (.tuple #[.agg #[.int .i64 0, .slice none 0 0, .int .i64 0, .slice none 0 0], .int .i64 1]) ∧ Below w.heap.size w w' := by
 have HLn1 := Lib.hid ln1; have HLm1 := Lib.hid lm1; have HLn2 := Lib.hid ln2; have HLm2 := Lib.hid lm2; clear ln1 lm1 ln2 lm2
 have H1 : Hid (FX w u0 u1 u2 u3 n1 m1 (some q)) := h1
 have H2 : Hid (FX w v0 v1 v2 v3 n2 m2 none) := h2
 clear h1 h2
 have M : Hid (Below w.heap.size w w) := Below.refl _ _
 go_enter Tryz.func16, Tryz.ntmps16
 go_upto_region 1 with fail
 refine nmW (((w.alloc (.cells #[u0, u1, u2, u3] 26)).alloc (.cells #[v0, v1, v2, v3] 26)).alloc (.cells #[.int .i64 0, .slice none 0 0, .int .i64 0, .slice none 0 0] 26)) fun w1 hv => ?_
 rw [← hv]
 replace M := al3W hv M
 clear hv
 refine cj4 (J2 M).1.d4 fun aa ab ac ad => ?_
 go_wp2_with fail
 clear aa ab ac ad
 refine (fyRight_ok (o := (some q)) (b_ := true) (H1.out.keep (J3 M)) HLn1.out HLm1.out rfl).mono ?_
 rintro e w2 ⟨rfl, hb⟩
 replace M := gnM hb M
 clear hb
 refine cj4 (J1 M).1.d4 fun ae af ag ah => ?_
 go_wp2_with fail
 clear ae af ag ah
 refine (fyRight_ok (o := none) (b_ := false) (H2.out.keep (J3 M)) HLn2.out HLm2.out rfl).mono ?_
 rintro e w3 ⟨rfl, hb⟩
 replace M := gnM hb M
 clear hb
 refine cj8 (M.out.1).c4 fun ai aj ak al am ao ap aq => ?_
 go_wp2_with fail
 clear ai aj ak al am ao ap aq
 have hz : w.heap.size ≤ w.heap.size + 1 + 1 := by omega
 refine st4W (.int .i64 0) (.slice none 0 0) (.int .i64 0) (.slice none 0 0) (M.out.1) (J3 M) hz fun w4 hv og hk hbw => ?_
 rw [← hv]
 replace M := Lib.hid (aI hk (aI ((J1 M).1.only og (by omega)) (aI ((J2 M).1.only og (by omega)) hbw)))
 clear hk hbw og hv hz
 refine bodyPost_ret (results_box2 rfl _ _ (w.heap.size + 1 + 1) 26 _ _ _ rfl (M.out.1) Tryz.underlying26 rfl (by kernel_rfl)) rfl ?_
 exact ⟨rfl, (J3 M)⟩
set_option maxRecDepth 100000 in
set_option maxHeartbeats 4000000 in
theorem gDiv_n1 {u0 u1 u2 u3 v0 v1 v2 v3 : Value} {n1 m1 : Nat} {w : World} (h1 : FX w u0 u1 u2 u3 n1 m1 none) (ln1 : n1 ≤ 549755813888) (lm1 : m1 ≤ 549755813888) :
  Calls Tryz.prog 18 #[.agg #[u0, u1, u2, u3], .agg #[v0, v1, v2, v3]] w fun e w' => e = .returned (.tuple #[.agg #[.int .i64 0, .slice none 0 0, .int .i64 0, .slice none 0 0], .int .i64 1]) ∧ Below w.heap.size w w' := by
 have HLn1 := Lib.hid ln1; have HLm1 := Lib.hid lm1; clear ln1 lm1
 have H1 : Hid (FX w u0 u1 u2 u3 n1 m1 none) := h1
 clear h1
 have M : Hid (Below w.heap.size w w) := Below.refl _ _
 go_enter Tryz.func18, Tryz.ntmps18
 go_upto_region 1 with fail
 refine nmW (((w.alloc (.cells #[u0, u1, u2, u3] 26)).alloc (.cells #[v0, v1, v2, v3] 26)).alloc (.cells #[.int .i64 0, .slice none 0 0, .int .i64 0, .slice none 0 0] 26)) fun w1 hv => ?_
 rw [← hv]
 replace M := al3W hv M
 clear hv
 refine cj4 (J2 M).1.d4 fun aa ab ac ad => ?_
 go_wp2_with fail
 clear aa ab ac ad
 refine (fyRight_ok (o := none) (b_ := false) (H1.out.keep (J3 M)) HLn1.out HLm1.out rfl).mono ?_
 rintro e w2 ⟨rfl, hb⟩
 replace M := gnM hb M
 clear hb
 refine cj8 (M.out.1).c4 fun ae af ag ah ai aj ak al => ?_
 go_wp2_with fail
 clear ae af ag ah ai aj ak al
 have hz : w.heap.size ≤ w.heap.size + 1 + 1 := by omega
 refine st4W (.int .i64 0) (.slice none 0 0) (.int .i64 0) (.slice none 0 0) (M.out.1) (J3 M) hz fun w3 hv og hk hbw => ?_
 rw [← hv]
 replace M := Lib.hid (aI hk (aI ((J1 M).1.only og (by omega)) (aI ((J2 M).1.only og (by omega)) hbw)))
 clear hk hbw og hv hz
 refine bodyPost_ret (results_box2 rfl _ _ (w.heap.size + 1 + 1) 26 _ _ _ rfl (M.out.1) Tryz.underlying26 rfl (by kernel_rfl)) rfl ?_
 exact ⟨rfl, (J3 M)⟩
set_option maxRecDepth 100000 in
set_option maxHeartbeats 4000000 in
theorem gDiv_n2 {u0 u1 u2 u3 v0 v1 v2 v3 : Value} {n1 m1 n2 m2 : Nat} {q : Rat} {w : World} (h1 : FX w u0 u1 u2 u3 n1 m1 (some q)) (h2 : FX w v0 v1 v2 v3 n2 m2 none) (ln1 : n1 ≤ 549755813888) (lm1 : m1 ≤ 549755813888) (ln2 : n2 ≤ 549755813888) (lm2 : m2 ≤ 549755813888) :
  Calls Tryz.prog 18 #[.agg #[u0, u1, u2, u3], .agg #[v0, v1, v2, v3]] w fun e w' => e = .returned (.tuple #[.agg #[.int .i64 0, .slice none 0 0, .int .i64 0, .slice none 0 0], .int .i64 1]) ∧ Below w.heap.size w w' := by
 have HLn1 := Lib.hid ln1; have HLm1 := Lib.hid lm1; have HLn2 := Lib.hid ln2; have HLm2 := Lib.hid lm2; clear ln1 lm1 ln2 lm2
 have H1 : Hid (FX w u0 u1 u2 u3 n1 m1 (some q)) := h1
 have H2 : Hid (FX w v0 v1 v2 v3 n2 m2 none) := h2
 clear h1 h2
 have M : Hid (Below w.heap.size w w) := Below.refl _ _
 go_enter Tryz.func18, Tryz.ntmps18
 go_upto_region 1 with fail
 refine nmW (((w.alloc (.cells #[u0, u1, u2, u3] 26)).alloc (.cells #[v0, v1, v2, v3] 26)).alloc (.cells #[.int .i64 0, .slice none 0 0, .int .i64 0, .slice none 0 0] 26)) fun w1 hv => ?_
 rw [← hv]
 replace M := al3W hv M
 clear hv
 refine cj4 (J2 M).1.d4 fun aa ab ac ad => ?_
 go_wp2_with fail
 clear aa ab ac ad
 refine (fyRight_ok (o := (some q)) (b_ := true) (H1.out.keep (J3 M)) HLn1.out HLm1.out rfl).mono ?_
 rintro e w2 ⟨rfl, hb⟩
 replace M := gnM hb M
 clear hb
 refine cj4 (J1 M).1.d4 fun ae af ag ah => ?_
 go_wp2_with fail
 clear ae af ag ah
 refine (fyRight_ok (o := none) (b_ := false) (H2.out.keep (J3 M)) HLn2.out HLm2.out rfl).mono ?_
 rintro e w3 ⟨rfl, hb⟩
 replace M := gnM hb M
 clear hb
 refine cj8 (M.out.1).c4 fun ai aj ak al am ao ap aq => ?_
 go_wp2_with fail
 clear ai aj ak al am ao ap aq
 have hz : w.heap.size ≤ w.heap.size + 1 + 1 := by omega
 refine st4W (.int .i64 0) (.slice none 0 0) (.int .i64 0) (.slice none 0 0) (M.out.1) (J3 M) hz fun w4 hv og hk hbw => ?_
 rw [← hv]
 replace M := Lib.hid (aI hk (aI ((J1 M).1.only og (by omega)) (aI ((J2 M).1.only og (by omega)) hbw)))
 clear hk hbw og hv hz
 refine bodyPost_ret (results_box2 rfl _ _ (w.heap.size + 1 + 1) 26 _ _ _ rfl (M.out.1) Tryz.underlying26 rfl (by kernel_rfl)) rfl ?_
 exact ⟨rfl, (J3 M)⟩
set_option maxRecDepth 100000 in
set_option maxHeartbeats 4000000 in
theorem gCompare_n1 {u0 u1 u2 u3 v0 v1 v2 v3 : Value} {n1 m1 : Nat} {w : World} (h1 : FX w u0 u1 u2 u3 n1 m1 none) (ln1 : n1 ≤ 549755813888) (lm1 : m1 ≤ 549755813888) :
  Calls Tryz.prog 28 #[.agg #[u0, u1, u2, u3], .agg #[v0, v1, v2, v3]] w fun e w' => e = .returned (.int .i64 0) ∧ Below w.heap.size w w' := by
 have HLn1 := Lib.hid ln1; have HLm1 := Lib.hid lm1; clear ln1 lm1
 have H1 : Hid (FX w u0 u1 u2 u3 n1 m1 none) := h1
 clear h1
 have M : Hid (Below w.heap.size w w) := Below.refl _ _
 go_enter Tryz.func28, Tryz.ntmps28
 go_upto_region 1 with fail
 refine nmW ((w.alloc (.cells #[u0, u1, u2, u3] 26)).alloc (.cells #[v0, v1, v2, v3] 26)) fun w1 hv => ?_
 rw [← hv]
 replace M := al2W hv M
 clear hv
 refine cj4 (J1 M).1.d4 fun aa ab ac ad => ?_
 go_wp2_with fail
 clear aa ab ac ad
 refine (fyRight_ok (o := none) (b_ := false) (H1.out.keep (J2 M)) HLn1.out HLm1.out rfl).mono ?_
 rintro e w2 ⟨rfl, hb⟩
 replace M := gnM hb M
 clear hb
 go_wp2_with fail
 go_ret
 exact ⟨rfl, (J2 M)⟩
set_option maxRecDepth 100000 in
set_option maxHeartbeats 4000000 in
theorem gCompare_n2 {u0 u1 u2 u3 v0 v1 v2 v3 : Value} {n1 m1 n2 m2 : Nat} {q : Rat} {w : World} (h1 : FX w u0 u1 u2 u3 n1 m1 (some q)) (h2 : FX w v0 v1 v2 v3 n2 m2 none) (ln1 : n1 ≤ 549755813888) (lm1 : m1 ≤ 549755813888) (ln2 : n2 ≤ 549755813888) (lm2 : m2 ≤ 549755813888) :
  Calls Tryz.prog 28 #[.agg #[u0, u1, u2, u3], .agg #[v0, v1, v2, v3]] w fun e w' => e = .returned (.int .i64 0) ∧ Below w.heap.size w w' := by
 have HLn1 := Lib.hid ln1; have HLm1 := Lib.hid lm1; have HLn2 := Lib.hid ln2; have HLm2 := Lib.hid lm2; clear ln1 lm1 ln2 lm2
 have H1 : Hid (FX w u0 u1 u2 u3 n1 m1 (some q)) := h1
 have H2 : Hid (FX w v0 v1 v2 v3 n2 m2 none) := h2
 clear h1 h2
 have M : Hid (Below w.heap.size w w) := Below.refl _ _
 go_enter Tryz.func28, Tryz.ntmps28
 go_upto_region 1 with fail
 refine nmW ((w.alloc (.cells #[u0, u1, u2, u3] 26)).alloc (.cells #[v0, v1, v2, v3] 26)) fun w1 hv => ?_
 rw [← hv]
 replace M := al2W hv M
 clear hv
 refine cj4 (J1 M).1.d4 fun aa ab ac ad => ?_
 go_wp2_with fail
 clear aa ab ac ad
 refine (fyRight_ok (o := (some q)) (b_ := true) (H1.out.keep (J2 M)) HLn1.out HLm1.out rfl).mono ?_
 rintro e w2 ⟨rfl, hb⟩
 replace M := gnM hb M
 clear hb
 refine cj4 (M.out.1).d4 fun ae af ag ah => ?_
 go_wp2_with fail
 clear ae af ag ah
 refine (fyRight_ok (o := none) (b_ := false) (H2.out.keep (J2 M)) HLn2.out HLm2.out rfl).mono ?_
 rintro e w3 ⟨rfl, hb⟩
 replace M := gnM hb M
 clear hb
 go_wp2_with fail
 go_ret
 exact ⟨rfl, (J2 M)⟩
set_option maxRecDepth 100000 in
set_option maxHeartbeats 4000000 in
theorem gMin_n1 {u0 u1 u2 u3 v0 v1 v2 v3 : Value} {n1 m1 : Nat} {w : World} (h1 : FX w u0 u1 u2 u3 n1 m1 none) (ln1 : n1 ≤ 549755813888) (lm1 : m1 ≤ 549755813888) :
  Calls Tryz.prog 31 #[.agg #[u0, u1, u2, u3], .agg #[v0, v1, v2, v3]] w fun e w' => e = .returned (.tuple #[.agg #[.int .i64 0, .slice none 0 0, .int .i64 0, .slice none 0 0], .int .i64 1]) ∧ Below w.heap.size w w' := by
 have HLn1 := Lib.hid ln1; have HLm1 := Lib.hid lm1; clear ln1 lm1
 have H1 : Hid (FX w u0 u1 u2 u3 n1 m1 none) := h1
 clear h1
 have M : Hid (Below w.heap.size w w) := Below.refl _ _
 go_enter Tryz.func31, Tryz.ntmps31
 go_upto_region 1 with fail
 refine nmW (((w.alloc (.cells #[u0, u1, u2, u3] 26)).alloc (.cells #[v0, v1, v2, v3] 26)).alloc (.cells #[.int .i64 0, .slice none 0 0, .int .i64 0, .slice none 0 0] 26)) fun w1 hv => ?_
 rw [← hv]
 replace M := al3W hv M
 clear hv
 refine cj4 (J2 M).1.d4 fun aa ab ac ad => ?_
 go_wp2_with fail
 clear aa ab ac ad
 refine (fyRight_ok (o := none) (b_ := false) (H1.out.keep (J3 M)) HLn1.out HLm1.out rfl).mono ?_
 rintro e w2 ⟨rfl, hb⟩
 replace M := gnM hb M
 clear hb
 refine cj8 (M.out.1).c4 fun ae af ag ah ai aj ak al => ?_
 go_wp2_with fail
 clear ae af ag ah ai aj ak al
 have hz : w.heap.size ≤ w.heap.size + 1 + 1 := by omega
 refine st4W (.int .i64 0) (.slice none 0 0) (.int .i64 0) (.slice none 0 0) (M.out.1) (J3 M) hz fun w3 hv og hk hbw => ?_
 rw [← hv]
 replace M := Lib.hid (aI hk (aI ((J1 M).1.only og (by omega)) (aI ((J2 M).1.only og (by omega)) hbw)))
 clear hk hbw og hv hz
 refine bodyPost_ret (results_box2 rfl _ _ (w.heap.size + 1 + 1) 26 _ _ _ rfl (M.out.1) Tryz.underlying26 rfl (by kernel_rfl)) rfl ?_
 exact ⟨rfl, (J3 M)⟩
set_option maxRecDepth 100000 in
set_option maxHeartbeats 4000000 in
theorem gMin_n2 {u0 u1 u2 u3 v0 v1 v2 v3 : Value} {n1 m1 n2 m2 : Nat} {q : Rat} {w : World} (h1 : FX w u0 u1 u2 u3 n1 m1 (some q)) (h2 : FX w v0 v1 v2 v3 n2 m2 none) (ln1 : n1 ≤ 549755813888) (lm1 : m1 ≤ 549755813888) (ln2 : n2 ≤ 549755813888) (lm2 : m2 ≤ 549755813888) :
  Calls Tryz.prog 31 #[.agg #[u0, u1, u2, u3], .agg #[v0, v1, v2, v3]] w fun e w' => e = .returned (.tuple #[.agg #[.int .i64 0, .slice none 0 0, .int .i64 0, .slice none 0 0], .int .i64 1]) ∧ Below w.heap.size w w' := by
 have HLn1 := Lib.hid ln1; have HLm1 := Lib.hid lm1; have HLn2 := Lib.hid ln2; have HLm2 := Lib.hid lm2; clear ln1 lm1 ln2 lm2
 have H1 : Hid (FX w u0 u1 u2 u3 n1 m1 (some q)) := h1
 have H2 : Hid (FX w v0 v1 v2 v3 n2 m2 none) := h2
 clear h1 h2
 have M : Hid (Below w.heap.size w w) := Below.refl _ _
 go_enter Tryz.func31, Tryz.ntmps31
 go_upto_region 1 with fail
 refine nmW (((w.alloc (.cells #[u0, u1, u2, u3] 26)).alloc (.cells #[v0, v1, v2, v3] 26)).alloc (.cells #[.int .i64 0, .slice none 0 0, .int .i64 0, .slice none 0 0] 26)) fun w1 hv => ?_
 rw [← hv]
 replace M := al3W hv M
 clear hv
 refine cj4 (J2 M).1.d4 fun aa ab ac ad => ?_
 go_wp2_with fail
 clear aa ab ac ad
 refine (fyRight_ok (o := (some q)) (b_ := true) (H1.out.keep (J3 M)) HLn1.out HLm1.out rfl).mono ?_
 rintro e w2 ⟨rfl, hb⟩
 replace M := gnM hb M
 clear hb
 refine cj4 (J1 M).1.d4 fun ae af ag ah => ?_
 go_wp2_with fail
 clear ae af ag ah
 refine (fyRight_ok (o := none) (b_ := false) (H2.out.keep (J3 M)) HLn2.out HLm2.out rfl).mono ?_
 rintro e w3 ⟨rfl, hb⟩
 replace M := gnM hb M
 clear hb
 refine cj8 (M.out.1).c4 fun ai aj ak al am ao ap aq => ?_
 go_wp2_with fail
 clear ai aj ak al am ao ap aq
 have hz : w.heap.size ≤ w.heap.size + 1 + 1 := by omega
 refine st4W (.int .i64 0) (.slice none 0 0) (.int .i64 0) (.slice none 0 0) (M.out.1) (J3 M) hz fun w4 hv og hk hbw => ?_
 rw [← hv]
 replace M := Lib.hid (aI hk (aI ((J1 M).1.only og (by omega)) (aI ((J2 M).1.only og (by omega)) hbw)))
 clear hk hbw og hv hz
 refine bodyPost_ret (results_box2 rfl _ _ (w.heap.size + 1 + 1) 26 _ _ _ rfl (M.out.1) Tryz.underlying26 rfl (by kernel_rfl)) rfl ?_
 exact ⟨rfl, (J3 M)⟩
set_option maxRecDepth 100000 in
set_option maxHeartbeats 4000000 in
theorem gMax_n1 {u0 u1 u2 u3 v0 v1 v2 v3 : Value} {n1 m1 : Nat} {w : World} (h1 : FX w u0 u1 u2 u3 n1 m1 none) (ln1 : n1 ≤ 549755813888) (lm1 : m1 ≤ 549755813888) :
  Calls Tryz.prog 33 #[.agg #[u0, u1, u2, u3], .agg #[v0, v1, v2, v3]] w fun e w' => e = .returned (.tuple #[.agg #[.int .i64 0, .slice none 0 0, .int .i64 0, .slice none 0 0], .int .i64 1]) ∧ Below w.heap.size w w' := by
 have HLn1 := Lib.hid ln1; have HLm1 := Lib.hid lm1; clear ln1 lm1
 have H1 : Hid (FX w u0 u1 u2 u3 n1 m1 none) := h1
 clear h1
 have M : Hid (Below w.heap.size w w) := Below.refl _ _
 go_enter Tryz.func33, Tryz.ntmps33
 go_upto_region 1 with fail
 refine nmW (((w.alloc (.cells #[u0, u1, u2, u3] 26)).alloc (.cells #[v0, v1, v2, v3] 26)).alloc (.cells #[.int .i64 0, .slice none 0 0, .int .i64 0, .slice none 0 0] 26)) fun w1 hv => ?_
 rw [← hv]
 replace M := al3W hv M
 clear hv
 refine cj4 (J2 M).1.d4 fun aa ab ac ad => ?_
 go_wp2_with fail
 clear aa ab ac ad
 refine (fyRight_ok (o := none) (b_ := false) (H1.out.keep (J3 M)) HLn1.out HLm1.out rfl).mono ?_
 rintro e w2 ⟨rfl, hb⟩
 replace M := gnM hb M
 clear hb
 refine cj8 (M.out.1).c4 fun ae af ag ah ai aj ak al => ?_
 go_wp2_with fail
 clear ae af ag ah ai aj ak al
 have hz : w.heap.size ≤ w.heap.size + 1 + 1 := by omega
 refine st4W (.int .i64 0) (.slice none 0 0) (.int .i64 0) (.slice none 0 0) (M.out.1) (J3 M) hz fun w3 hv og hk hbw => ?_
 rw [← hv]
 replace M := Lib.hid (aI hk (aI ((J1 M).1.only og (by omega)) (aI ((J2 M).1.only og (by omega)) hbw)))
 clear hk hbw og hv hz
 refine bodyPost_ret (results_box2 rfl _ _ (w.heap.size + 1 + 1) 26 _ _ _ rfl (M.out.1) Tryz.underlying26 rfl (by kernel_rfl)) rfl ?_
 exact ⟨rfl, (J3 M)⟩
set_option maxRecDepth 100000 in
set_option maxHeartbeats 4000000 in
theorem gMax_n2 {u0 u1 u2 u3 v0 v1 v2 v3 : Value} {n1 m1 n2 m2 : Nat} {q : Rat} {w : World} (h1 : FX w u0 u1 u2 u3 n1 m1 (some q)) (h2 : FX w v0 v1 v2 v3 n2 m2 none) (ln1 : n1 ≤ 549755813888) (lm1 : m1 ≤ 549755813888) (ln2 : n2 ≤ 549755813888) (lm2 : m2 ≤ 549755813888) :
  Calls Tryz.prog 33 #[.agg #[u0, u1, u2, u3], .agg #[v0, v1, v2, v3]] w fun e w' => e = .returned (.tuple #[.agg #[.int .i64 0, .slice none 0 0, .int .i64 0, .slice none 0 0], .int .i64 1]) ∧ Below w.heap.size w w' := by
 have HLn1 := Lib.hid ln1; have HLm1 := Lib.hid lm1; have HLn2 := Lib.hid ln2; have HLm2 := Lib.hid lm2; clear ln1 lm1 ln2 lm2
 have H1 : Hid (FX w u0 u1 u2 u3 n1 m1 (some q)) := h1
 have H2 : Hid (FX w v0 v1 v2 v3 n2 m2 none) := h2
 clear h1 h2
 have M : Hid (Below w.heap.size w w) := Below.refl _ _
 go_enter Tryz.func33, Tryz.ntmps33
 go_upto_region 1 with fail
 refine nmW (((w.alloc (.cells #[u0, u1, u2, u3] 26)).alloc (.cells #[v0, v1, v2, v3] 26)).alloc (.cells #[.int .i64 0, .slice none 0 0, .int .i64 0, .slice none 0 0] 26)) fun w1 hv => ?_
 rw [← hv]
 replace M := al3W hv M
 clear hv
 refine cj4 (J2 M).1.d4 fun aa ab ac ad => ?_
 go_wp2_with fail
 clear aa ab ac ad
 refine (fyRight_ok (o := (some q)) (b_ := true) (H1.out.keep (J3 M)) HLn1.out HLm1.out rfl).mono ?_
 rintro e w2 ⟨rfl, hb⟩
 replace M := gnM hb M
 clear hb
 refine cj4 (J1 M).1.d4 fun ae af ag ah => ?_
 go_wp2_with fail
 clear ae af ag ah
 refine (fyRight_ok (o := none) (b_ := false) (H2.out.keep (J3 M)) HLn2.out HLm2.out rfl).mono ?_
 rintro e w3 ⟨rfl, hb⟩
 replace M := gnM hb M
 clear hb
 refine cj8 (M.out.1).c4 fun ai aj ak al am ao ap aq => ?_
 go_wp2_with fail
 clear ai aj ak al am ao ap aq
 have hz : w.heap.size ≤ w.heap.size + 1 + 1 := by omega
 refine st4W (.int .i64 0) (.slice none 0 0) (.int .i64 0) (.slice none 0 0) (M.out.1) (J3 M) hz fun w4 hv og hk hbw => ?_
 rw [← hv]
 replace M := Lib.hid (aI hk (aI ((J1 M).1.only og (by omega)) (aI ((J2 M).1.only og (by omega)) hbw)))
 clear hk hbw og hv hz
 refine bodyPost_ret (results_box2 rfl _ _ (w.heap.size + 1 + 1) 26 _ _ _ rfl (M.out.1) Tryz.underlying26 rfl (by kernel_rfl)) rfl ?_
 exact ⟨rfl, (J3 M)⟩
set_option maxRecDepth 100000 in
set_option maxHeartbeats 4000000 in
theorem gNeg_n {u0 u1 u2 u3 : Value} {n1 m1 : Nat} {w : World} (h1 : FX w u0 u1 u2 u3 n1 m1 none) (ln1 : n1 ≤ 549755813888) (lm1 : m1 ≤ 549755813888) :
  Calls Tryz.prog 35 #[.agg #[u0, u1, u2, u3]] w fun e w' => e = .returned (.agg #[.int .i64 0, .slice none 0 0, .int .i64 0, .slice none 0 0]) ∧ Below w.heap.size w w' := by
 have HLn1 := Lib.hid ln1; have HLm1 := Lib.hid lm1; clear ln1 lm1
 have H1 : Hid (FX w u0 u1 u2 u3 n1 m1 none) := h1
 clear h1
 have M : Hid (Below w.heap.size w w) := Below.refl _ _
 go_enter Tryz.func35, Tryz.ntmps35
 go_upto_region 1 with fail
 refine nmW ((w.alloc (.cells #[u0, u1, u2, u3] 26)).alloc (.cells #[.int .i64 0, .slice none 0 0, .int .i64 0, .slice none 0 0] 26)) fun w1 hv => ?_
 rw [← hv]
 replace M := al2W hv M
 clear hv
 refine cj4 (J1 M).1.d4 fun aa ab ac ad => ?_
 go_wp2_with fail
 clear aa ab ac ad
 refine (fyRight_ok (o := none) (b_ := false) (H1.out.keep (J2 M)) HLn1.out HLm1.out rfl).mono ?_
 rintro e w2 ⟨rfl, hb⟩
 replace M := gnM hb M
 clear hb
 refine cj8 (M.out.1).c4 fun ae af ag ah ai aj ak al => ?_
 go_wp2_with fail
 clear ae af ag ah ai aj ak al
 have hz : w.heap.size ≤ w.heap.size + 1 := by omega
 refine st4W (.int .i64 0) (.slice none 0 0) (.int .i64 0) (.slice none 0 0) (M.out.1) (J2 M) hz fun w3 hv og hk hbw => ?_
 rw [← hv]
 replace M := Lib.hid (aI hk (aI ((J1 M).1.only og (by omega)) hbw))
 clear hk hbw og hv hz
 refine bodyPost_ret (results_box1 rfl _ _ (w.heap.size + 1) 26 _ _ _ rfl (M.out.1) Tryz.underlying26 rfl (by kernel_rfl)) rfl ?_
 exact ⟨rfl, (J2 M)⟩
set_option maxRecDepth 100000 in
set_option maxHeartbeats 4000000 in
theorem gSign_n {u0 u1 u2 u3 : Value} {n1 m1 : Nat} {w : World} (h1 : FX w u0 u1 u2 u3 n1 m1 none) (ln1 : n1 ≤ 549755813888) (lm1 : m1 ≤ 549755813888) :
  Calls Tryz.prog 37 #[.agg #[u0, u1, u2, u3]] w fun e w' => e = .returned (.int .i64 0) ∧ Below w.heap.size w w' := by
 have HLn1 := Lib.hid ln1; have HLm1 := Lib.hid lm1; clear ln1 lm1
 have H1 : Hid (FX w u0 u1 u2 u3 n1 m1 none) := h1
 clear h1
 have M : Hid (Below w.heap.size w w) := Below.refl _ _
 go_enter Tryz.func37, Tryz.ntmps37
 go_upto_region 1 with fail
 refine nmW (w.alloc (.cells #[u0, u1, u2, u3] 26)) fun w1 hv => ?_
 rw [← hv]
 replace M := alM hv M
 clear hv
 refine cj4 (M.out.1).d4 fun aa ab ac ad => ?_
 go_wp2_with fail
 clear aa ab ac ad
 refine (fyRight_ok (o := none) (b_ := false) (H1.out.keep (J1 M)) HLn1.out HLm1.out rfl).mono ?_
 rintro e w2 ⟨rfl, hb⟩
 replace M := gnM hb M
 clear hb
 go_wp2_with fail
 go_ret
 exact ⟨rfl, (J1 M)⟩
set_option maxRecDepth 100000 in
set_option maxHeartbeats 4000000 in
theorem gFloor_n {u0 u1 u2 u3 : Value} {n1 m1 : Nat} {w : World} (h1 : FX w u0 u1 u2 u3 n1 m1 none) (ln1 : n1 ≤ 549755813888) (lm1 : m1 ≤ 549755813888) :
  Calls Tryz.prog 44 #[.agg #[u0, u1, u2, u3]] w fun e w' => e = .returned (.agg #[.int .i64 0, .slice none 0 0]) ∧ Below w.heap.size w w' := by
 have HLn1 := Lib.hid ln1; have HLm1 := Lib.hid lm1; clear ln1 lm1
 have H1 : Hid (FX w u0 u1 u2 u3 n1 m1 none) := h1
 clear h1
 have M : Hid (Below w.heap.size w w) := Below.refl _ _
 go_enter Tryz.func44, Tryz.ntmps44
 go_upto_region 1 with fail
 refine nmW ((w.alloc (.cells #[u0, u1, u2, u3] 26)).alloc (.cells #[.int .i64 0, .slice none 0 0] 24)) fun w1 hv => ?_
 rw [← hv]
 replace M := al2W hv M
 clear hv
 refine cj4 (J1 M).1.d4 fun aa ab ac ad => ?_
 go_wp2_with fail
 clear aa ab ac ad
 refine (fyRight_ok (o := none) (b_ := false) (H1.out.keep (J2 M)) HLn1.out HLm1.out rfl).mono ?_
 rintro e w2 ⟨rfl, hb⟩
 replace M := gnM hb M
 clear hb
 refine cj4 (M.out.1).c2 fun ae af ag ah => ?_
 go_wp2_with fail
 clear ae af ag ah
 have hz : w.heap.size ≤ w.heap.size + 1 := by omega
 refine st2W (.int .i64 0) (.slice none 0 0) (M.out.1) (J2 M) hz fun w3 hv og hk hbw => ?_
 rw [← hv]
 replace M := Lib.hid (aI hk (aI ((J1 M).1.only og (by omega)) hbw))
 clear hk hbw og hv hz
 refine bodyPost_ret (results_box1 rfl _ _ (w.heap.size + 1) 24 _ _ _ rfl (M.out.1) Tryz.underlying24 rfl (by kernel_rfl)) rfl ?_
 exact ⟨rfl, (J2 M)⟩
set_option maxRecDepth 100000 in
set_option maxHeartbeats 4000000 in
theorem gText_n {u0 u1 u2 u3 : Value} {n1 m1 : Nat} {w : World} (h1 : FX w u0 u1 u2 u3 n1 m1 none) (ln1 : n1 ≤ 549755813888) (lm1 : m1 ≤ 549755813888) :
    Calls Tryz.prog 41 #[.agg #[u0, u1, u2, u3]] w fun e w' => e = .returned (.string {data := #[]}) ∧ Below w.heap.size w w' := by
  have HLn1 := Lib.hid ln1; have HLm1 := Lib.hid lm1; clear ln1 lm1
  have H1 : Hid (FX w u0 u1 u2 u3 n1 m1 none) := h1
  clear h1
  have M : Hid (Below w.heap.size w w) := Below.refl _ _
  go_enter Tryz.func41, Tryz.ntmps41
  go_upto_region 1 with fail
  refine nmW (w.alloc (.cells #[u0, u1, u2, u3] 26)) fun w1 hv => ?_
  rw [← hv]
  replace M := alM hv M
  clear hv
  refine cj4 (M.out.1).d4 fun aa ab ac ad => ?_
  go_wp2_with fail
  clear aa ab ac ad
  refine (fyRight_ok (o := none) (b_ := false) (H1.out.keep (J1 M)) HLn1.out HLm1.out rfl).mono ?_
  rintro e w2 ⟨rfl, hb⟩
  replace M := gnM hb M
  clear hb
  go_wp2_with fail
  go_ret
  exact ⟨rfl, (J1 M)⟩
set_option maxRecDepth 100000 in
set_option maxHeartbeats 4000000 in
theorem gNew_n1 {u0 u1 v0 v1 : Value} {w : World} (h1 : BX G w u0 u1 none) :
  Calls Tryz.prog 24 #[.agg #[u0, u1], .agg #[v0, v1]] w fun e w' => e = .returned (.tuple #[.agg #[.int .i64 0, .slice none 0 0, .int .i64 0, .slice none 0 0], .int .i64 1]) ∧ Below w.heap.size w w' := by
 have H1 : Hid (BX G w u0 u1 none) := h1
 clear h1
 have M : Hid (Below w.heap.size w w) := Below.refl _ _
 go_enter Tryz.func24, Tryz.ntmps24
 go_upto_region 1 with fail
 refine nmW (((w.alloc (.cells #[u0, u1] 24)).alloc (.cells #[v0, v1] 24)).alloc (.cells #[.int .i64 0, .slice none 0 0, .int .i64 0, .slice none 0 0] 26)) fun w1 hv => ?_
 rw [← hv]
 replace M := al3W hv M
 clear hv
 refine cj2 (J2 M).1.d2 fun aa ab => ?_
 go_wp2_with fail
 clear aa ab
 refine (byRight_ok (G := G) (b_ := false) (H1.out.keep (J3 M)) rfl).mono ?_
 rintro e w2 ⟨rfl, hb⟩
 replace M := gnM hb M
 clear hb
 refine cj8 (M.out.1).c4 fun ac ad ae af ag ah ai aj => ?_
 go_wp2_with fail
 clear ac ad ae af ag ah ai aj
 have hz : w.heap.size ≤ w.heap.size + 1 + 1 := by omega
 refine st4W (.int .i64 0) (.slice none 0 0) (.int .i64 0) (.slice none 0 0) (M.out.1) (J3 M) hz fun w3 hv og hk hbw => ?_
 rw [← hv]
 replace M := Lib.hid (aI hk (aI ((J1 M).1.only og (by omega)) (aI ((J2 M).1.only og (by omega)) hbw)))
 clear hk hbw og hv hz
 refine bodyPost_ret (results_box2 rfl _ _ (w.heap.size + 1 + 1) 26 _ _ _ rfl (M.out.1) Tryz.underlying26 rfl (by kernel_rfl)) rfl ?_
 exact ⟨rfl, (J3 M)⟩
set_option maxRecDepth 100000 in
set_option maxHeartbeats 4000000 in
theorem gNew_n2 {u0 u1 v0 v1 : Value} {q : Int} {w : World} (h1 : BX G w u0 u1 (some q)) (h2 : BX G w v0 v1 none) :
  Calls Tryz.prog 24 #[.agg #[u0, u1], .agg #[v0, v1]] w fun e w' => e = .returned (.tuple #[.agg #[.int .i64 0, .slice none 0 0, .int .i64 0, .slice none 0 0], .int .i64 1]) ∧ Below w.heap.size w w' := by
 have H1 : Hid (BX G w u0 u1 (some q)) := h1
 have H2 : Hid (BX G w v0 v1 none) := h2
 clear h1 h2
 have M : Hid (Below w.heap.size w w) := Below.refl _ _
 go_enter Tryz.func24, Tryz.ntmps24
 go_upto_region 1 with fail
 refine nmW (((w.alloc (.cells #[u0, u1] 24)).alloc (.cells #[v0, v1] 24)).alloc (.cells #[.int .i64 0, .slice none 0 0, .int .i64 0, .slice none 0 0] 26)) fun w1 hv => ?_
 rw [← hv]
 replace M := al3W hv M
 clear hv
 refine cj2 (J2 M).1.d2 fun aa ab => ?_
 go_wp2_with fail
 clear aa ab
 refine (byRight_ok (G := G) (b_ := true) (H1.out.keep (J3 M)) rfl).mono ?_
 rintro e w2 ⟨rfl, hb⟩
 replace M := gnM hb M
 clear hb
 refine cj2 (J1 M).1.d2 fun ac ad => ?_
 go_wp2_with fail
 clear ac ad
 refine (byRight_ok (G := G) (b_ := false) (H2.out.keep (J3 M)) rfl).mono ?_
 rintro e w3 ⟨rfl, hb⟩
 replace M := gnM hb M
 clear hb
 refine cj8 (M.out.1).c4 fun ae af ag ah ai aj ak al => ?_
 go_wp2_with fail
 clear ae af ag ah ai aj ak al
 have hz : w.heap.size ≤ w.heap.size + 1 + 1 := by omega
 refine st4W (.int .i64 0) (.slice none 0 0) (.int .i64 0) (.slice none 0 0) (M.out.1) (J3 M) hz fun w4 hv og hk hbw => ?_
 rw [← hv]
 replace M := Lib.hid (aI hk (aI ((J1 M).1.only og (by omega)) (aI ((J2 M).1.only og (by omega)) hbw)))
 clear hk hbw og hv hz
 refine bodyPost_ret (results_box2 rfl _ _ (w.heap.size + 1 + 1) 26 _ _ _ rfl (M.out.1) Tryz.underlying26 rfl (by kernel_rfl)) rfl ?_
 exact ⟨rfl, (J3 M)⟩
end Go.Proofs.YtcfmakpckdicjaaGreatDoor
