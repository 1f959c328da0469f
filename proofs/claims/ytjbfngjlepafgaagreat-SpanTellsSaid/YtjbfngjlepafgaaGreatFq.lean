/- Fractions by four cells that are not looked into. -/
import Derived.Test.YtjbfngjlepafgaaGreatBase
import Derived.Test.YtjbfngjlepafgaaGreatBigSpec
import Derived.Test.YtjbfngjlepafgaaGreatBigB
import Derived.Test.YtjbfngjlepafgaaGreatBigC
import Derived.Test.YtjbfngjlepafgaaGreatBigD
import Derived.Test.YtjbfngjlepafgaaGreatBigK
import Derived.Test.YtjbfngjlepafgaaGreatBigQ
import Derived.Test.YtjbfngjlepafgaaGreatFracA
import Derived.Test.YtjbfngjlepafgaaGreatRefE
import Derived.Test.YtjbfngjlepafgaaGreatRefS
import Derived.Test.YtjbfngjlepafgaaGreatRefB5
import Derived.Test.YtjbfngjlepafgaaGreatRefN
import Derived.Test.YtjbfngjlepafgaaGreatFz
import Derived.Test.YtjbfngjlepafgaaGreatAw
import Derived.Test.YtjbfngjlepafgaaGreatFracD
import Derived.Test.YtjbfngjlepafgaaGreatRefO
import Derived.Test.YtjbfngjlepafgaaGreatProg
import Derived.Test.YtjbfngjlepafgaaGreatShelf
import Derived.WalkKit
import Derived.WalkSpells
import Derived.WalkLawsBesides
import Derived.Handy
import Derived.Lib.Hide
import Derived.Lib.Strings
import Derived.Lib.Builder
import Derived.BigQuiet
import Derived.OwnWalk
import Derived.Laws.BitsLemmas
import Derived.WalkSmall
import Derived.Deep.QuietTactic
import Derived.StillTailTactics
import Derived.Maps.AppendAt
import Derived.IntWalk
import Derived.Deep.RegionHeld3
import Derived.Deep.DeepFit
import Derived.Deep.LoopGhost
import Derived.Deep.DeepCutAuto
import Derived.Lib.ItoaNum
import Derived.Lib.Repeat
import Derived.Lib.AppendIntMem
import Derived.Sort.OwnSorted
import Derived.Shelf.Strings.SlTrimAscii
import Derived.Lib.ConvBytes
import Derived.Lib.CutLaws
namespace Go.Proofs.YtjbfngjlepafgaaGreat
open Go.RowKit Go.Lib
variable {G : Nat}

theorem results_cc {P : Program} {fn : Func} {p q : Tmp} {ty ty2 : TypeId} (h : fn.results = #[.cell p ty, .cell q ty2]) (tmps : Array Value) (w : World) (g g2 : Nat) (t t2 : TypeId) (cs cs2 : Array Value) (fr fr2 : Nat × Nat) (d d2 : TypeDesc)
  (hp : tmps.getD p undef = .pointer (some ⟨g, 0, none⟩)) (hg : w.heap[g]? = some (.cells cs t fr)) (hu : P.underlying ty = some d) (hd : (match d with | .struct _ | .array _ _ => true | _ => false) = true) (hi : (P.info? ty).map (·.size) = some cs.size)
  (hp2 : tmps.getD q undef = .pointer (some ⟨g2, 0, none⟩)) (hg2 : w.heap[g2]? = some (.cells cs2 t2 fr2)) (hu2 : P.underlying ty2 = some d2) (hd2 : (match d2 with | .struct _ | .array _ _ => true | _ => false) = true) (hi2 : (P.info? ty2).map (·.size) = some cs2.size) :
  (results fn tmps).run P w = .ok (.tuple #[.agg cs, .agg cs2]) w := by
 have hp' : tmps[p]?.getD undef = .pointer (some ⟨g, 0, none⟩) := by simpa using hp
 have hp2' : tmps[q]?.getD undef = .pointer (some ⟨g2, 0, none⟩) := by simpa using hp2
 simp [results, h, hp', hp2', asAddr, run_loadVar_row w g t ty cs fr d hg hu hd hi, run_loadVar_row w g2 t2 ty2 cs2 fr2 d2 hg2 hu2 hd2 hi2]
/-- Four cells that hold two integers. -/
def TQ (G : Nat) (w : World) (u0 u1 u2 u3 : Value) (x y : Int) : Prop :=
 ∃ a c b d, u0 = .int .i64 (sg x) ∧ u1 = .slice a (ln x) c ∧ u2 = .int .i64 (sg y) ∧ u3 = .slice b (ln y) d ∧ BD G w a c x ∧ BD G w b d y
def FQ (G : Nat) (w : World) (u0 u1 u2 u3 : Value) (q : Rat) : Prop := TQ G w u0 u1 u2 u3 (nu q) (de q)
def OQ (G : Nat) (w : World) (u0 u1 u2 u3 : Value) (o : Option Rat) : Prop := TQ G w u0 u1 u2 u3 (oN o) (oD o)
/-- Four cells of a fraction, right or not: how many digits each part has, and which fraction it is, if it is right. -/
def FX (w : World) (u0 u1 u2 u3 : Value) (n m : Nat) (o : Option Rat) : Prop :=
 ∃ s a c t b d l k, u0 = .int .i64 s ∧ u1 = .slice a n c ∧ u2 = .int .i64 t ∧ u3 = .slice b m d ∧ List.length l = n ∧ List.length k = m ∧ FR w a c b d l k ∧
  ((o = none ∧ rightF s l t k = false) ∨ ∃ q, o = some q ∧ rightF s l t k = true ∧ s = sg (nu q) ∧ n = Go.Proofs.YtjbfngjlepafgaaGreat.ln (nu q) ∧ t = sg (de q) ∧ m = Go.Proofs.YtjbfngjlepafgaaGreat.ln (de q) ∧ FD w.heap.size w a c b d q)
theorem TQ.keep {w w' : World} {u0 u1 u2 u3 : Value} {x y : Int} (h : TQ G w u0 u1 u2 u3 x y) (hb : Below w.heap.size w w') : TQ G w' u0 u1 u2 u3 x y := by
 obtain ⟨a, c, b, d, h0, h1, h2, h3, h4, h5⟩ := h
 exact ⟨a, c, b, d, h0, h1, h2, h3, h4.keep hb, h5.keep hb⟩
theorem FQ.keep {w w' : World} {u0 u1 u2 u3 : Value} {q : Rat} (h : FQ G w u0 u1 u2 u3 q) (hb : Below w.heap.size w w') : FQ G w' u0 u1 u2 u3 q := TQ.keep h hb
theorem OQ.keep {w w' : World} {u0 u1 u2 u3 : Value} {o : Option Rat} (h : OQ G w u0 u1 u2 u3 o) (hb : Below w.heap.size w w') : OQ G w' u0 u1 u2 u3 o := TQ.keep h hb
theorem FX.keep {w w' : World} {u0 u1 u2 u3 : Value} {n m : Nat} {o : Option Rat} (h : FX w u0 u1 u2 u3 n m o) (hb : Below w.heap.size w w') : FX w' u0 u1 u2 u3 n m o := by
  obtain ⟨s, a, c, t, b, d, l, k, h0, h1, h2, h3, h4, h5, h6, h7⟩ := h
  refine ⟨s, a, c, t, b, d, l, k, h0, h1, h2, h3, h4, h5, h6.keep hb, ?_⟩
  rcases h7 with h7 | ⟨q, e, hr, k1, k2, k3, k4, k5⟩
  · exact .inl h7
  · exact .inr ⟨q, e, hr, k1, k2, k3, k4, (k5.keep hb).up hb.size⟩
instance {w w' : World} {u0 u1 u2 u3 : Value} {x y : Int} : Goes (TQ G w u0 u1 u2 u3 x y) w w' (TQ G w' u0 u1 u2 u3 x y) := ⟨fun h hb => h.keep hb⟩
instance {w w' : World} {u0 u1 u2 u3 : Value} {q : Rat} : Goes (FQ G w u0 u1 u2 u3 q) w w' (FQ G w' u0 u1 u2 u3 q) := ⟨fun h hb => h.keep hb⟩
instance {w w' : World} {u0 u1 u2 u3 : Value} {o : Option Rat} : Goes (OQ G w u0 u1 u2 u3 o) w w' (OQ G w' u0 u1 u2 u3 o) := ⟨fun h hb => h.keep hb⟩
instance {w w' : World} {u0 u1 u2 u3 : Value} {n m : Nat} {o : Option Rat} : Goes (FX w u0 u1 u2 u3 n m o) w w' (FX w' u0 u1 u2 u3 n m o) := ⟨fun h hb => h.keep hb⟩
theorem TQ.far {w w' : World} {g : Nat} {T : TypeId} {cs : Array Value} {u0 u1 u2 u3 : Value} {x y : Int} (h : TQ G w u0 u1 u2 u3 x y) (k : Bx w g T cs) (hT : (T == 3) = false) (hG : G ≤ g) (hg : w.grownBy w' (some g)) : TQ G w' u0 u1 u2 u3 x y := by
 obtain ⟨a, c, b, d, h0, h1, h2, h3, h4, h5⟩ := h
 exact ⟨a, c, b, d, h0, h1, h2, h3, h4.far k hT hG hg, h5.far k hT hG hg⟩
theorem FQ.far {w w' : World} {g : Nat} {T : TypeId} {cs : Array Value} {u0 u1 u2 u3 : Value} {q : Rat} (h : FQ G w u0 u1 u2 u3 q) (k : Bx w g T cs) (hT : (T == 3) = false) (hG : G ≤ g) (hg : w.grownBy w' (some g)) : FQ G w' u0 u1 u2 u3 q := TQ.far h k hT hG hg
theorem OQ.far {w w' : World} {g : Nat} {T : TypeId} {cs : Array Value} {u0 u1 u2 u3 : Value} {o : Option Rat} (h : OQ G w u0 u1 u2 u3 o) (k : Bx w g T cs) (hT : (T == 3) = false) (hG : G ≤ g) (hg : w.grownBy w' (some g)) : OQ G w' u0 u1 u2 u3 o := TQ.far h k hT hG hg
theorem TQ.st {w : World} {u0 u1 u2 u3 : Value} {x y : Int} (h : TQ G w u0 u1 u2 u3 x y) : (∀ a m w', Sem.run Tryz.prog (store a u0 m) w' = stored Tryz.prog w' a u0 m) ∧ (∀ a m w', Sem.run Tryz.prog (store a u1 m) w' = stored Tryz.prog w' a u1 m) ∧ (∀ a m w', Sem.run Tryz.prog (store a u2 m) w' = stored Tryz.prog w' a u2 m) ∧ (∀ a m w', Sem.run Tryz.prog (store a u3 m) w' = stored Tryz.prog w' a u3 m) := by
 obtain ⟨a, c, b, d, rfl, rfl, rfl, rfl, -, -⟩ := h
 exact ⟨fun _ _ _ => run_store _ _ _ _ _ rfl, fun _ _ _ => run_store _ _ _ _ _ rfl, fun _ _ _ => run_store _ _ _ _ _ rfl, fun _ _ _ => run_store _ _ _ _ _ rfl⟩
theorem FX.st {w : World} {u0 u1 u2 u3 : Value} {n m : Nat} {o : Option Rat} (h : FX w u0 u1 u2 u3 n m o) : (∀ a m w', Sem.run Tryz.prog (store a u0 m) w' = stored Tryz.prog w' a u0 m) ∧ (∀ a m w', Sem.run Tryz.prog (store a u1 m) w' = stored Tryz.prog w' a u1 m) ∧ (∀ a m w', Sem.run Tryz.prog (store a u2 m) w' = stored Tryz.prog w' a u2 m) ∧ (∀ a m w', Sem.run Tryz.prog (store a u3 m) w' = stored Tryz.prog w' a u3 m) := by
 obtain ⟨s, a, c, t, b, d, l, k, rfl, rfl, rfl, rfl, -⟩ := h
 exact ⟨fun _ _ _ => run_store _ _ _ _ _ rfl, fun _ _ _ => run_store _ _ _ _ _ rfl, fun _ _ _ => run_store _ _ _ _ _ rfl, fun _ _ _ => run_store _ _ _ _ _ rfl⟩
theorem FQ.ex {w : World} {u0 u1 u2 u3 : Value} {q : Rat} (h : FQ G w u0 u1 u2 u3 q) : ∃ a c b d, u0 = .int .i64 (sg (nu q)) ∧ u1 = .slice a (ln (nu q)) c ∧ u2 = .int .i64 (sg (de q)) ∧ u3 = .slice b (ln (de q)) d ∧ FD G w a c b d q := by
 obtain ⟨a, c, b, d, h0, h1, h2, h3, h4, h5⟩ := h
 exact ⟨a, c, b, d, h0, h1, h2, h3, h4, h5⟩
theorem FQ.of {w : World} {a b : Option Addr} {c d : Nat} {q : Rat} (h : FD G w a c b d q) : FQ G w (.int .i64 (sg (nu q))) (.slice a (ln (nu q)) c) (.int .i64 (sg (de q))) (.slice b (ln (de q)) d) q :=
 ⟨a, c, b, d, rfl, rfl, rfl, rfl, h.n, h.d⟩
theorem OQ.of {w : World} {a b : Option Addr} {c d : Nat} {o : Option Rat} (h : BD G w a c (oN o)) (h' : BD G w b d (oD o)) : OQ G w (.int .i64 (sg (oN o))) (.slice a (ln (oN o)) c) (.int .i64 (sg (oD o))) (.slice b (ln (oD o)) d) o :=
 ⟨a, c, b, d, rfl, rfl, rfl, rfl, h, h'⟩
theorem tq_zero (w : World) (a b : Option Addr) (c d : Nat) : TQ G w (.int .i64 0) (.slice a 0 c) (.int .i64 0) (.slice b 0 d) 0 0 := ⟨a, c, b, d, rfl, rfl, rfl, rfl, bd_zero _ _ _, bd_zero _ _ _⟩
theorem oq_none (w : World) (a b : Option Addr) (c d : Nat) : OQ G w (.int .i64 0) (.slice a 0 c) (.int .i64 0) (.slice b 0 d) none := tq_zero w a b c d
theorem fx_of {s t : Int} {l k : List Int} {a b : Option Addr} {c d : Nat} {w : World} (h : FR w a c b d l k) : ∃ o, FX w (.int .i64 s) (.slice a l.length c) (.int .i64 t) (.slice b k.length d) l.length k.length o := by
 cases hr : rightF s l t k with
 | false => exact ⟨none, s, a, c, t, b, d, l, k, rfl, rfl, rfl, rfl, rfl, rfl, h, .inl ⟨rfl, hr⟩⟩
 | true =>
  obtain ⟨q, e1, e2, e3, e4, k1⟩ := fd_of_right h hr
  exact ⟨some q, s, a, c, t, b, d, l, k, rfl, rfl, rfl, rfl, rfl, rfl, h, .inr ⟨q, rfl, hr, e1, e2, e3, e4, k1⟩⟩
theorem FX.fq {w : World} {u0 u1 u2 u3 : Value} {n m : Nat} {q : Rat} (h : FX w u0 u1 u2 u3 n m (some q)) : FQ w.heap.size w u0 u1 u2 u3 q := by
  obtain ⟨s, a, c, t, b, d, l, k, h0, h1, h2, h3, h4, h5, h6, h7⟩ := h
  rcases h7 with ⟨h7, -⟩ | ⟨q', e, hr, k1, k2, k3, k4, k5⟩
  · cases h7
  · obtain rfl := Option.some.inj e
    subst k1 k2 k3 k4
    exact ⟨a, c, b, d, h0, h1, h2, h3, k5.n, k5.d⟩
theorem FX.fz {w : World} {u0 u1 u2 u3 : Value} {n m k : Nat} {q : Rat} (h : FX w u0 u1 u2 u3 n m (some q)) (hn : n ≤ k) (hm : m ≤ k) : Fz q k := by
  obtain ⟨s, a, c, t, b, d, l, _, h0, h1, h2, h3, h4, h5, h6, h7⟩ := h
  rcases h7 with ⟨h7, -⟩ | ⟨q', e, hr, k1, k2, k3, k4, k5⟩
  · cases h7
  · obtain rfl := Option.some.inj e
    have k2' : n = (digs (nu q).natAbs).length := k2
    have k4' : m = (digs (de q).natAbs).length := k4
    exact ⟨show (digs (nu q).natAbs).length ≤ k by omega, show (digs (de q).natAbs).length ≤ k by omega⟩
theorem fxRight_ok {u0 u1 u2 u3 : Value} {n m : Nat} {o : Option Rat} {b_ : Bool} {w : World} (h : FX w u0 u1 u2 u3 n m o) (hn : n ≤ 549755813888) (hm : m ≤ 549755813888) (hb : o.isSome = b_) :
    Calls Tryz.prog 47 #[.agg #[u0, u1, u2, u3]] w fun e w' => e = .returned (.bool b_) ∧ Below w.heap.size w w' := by
  obtain ⟨s, a, c, t, b, d, l, k, rfl, rfl, rfl, rfl, h4, h5, h6, h7⟩ := h
  subst hb
  rcases h7 with ⟨rfl, hr⟩ | ⟨q, rfl, hr, -⟩
  · exact fracRight_len h6 h4 h5 hn hm hr
  · exact fracRight_len h6 h4 h5 hn hm hr
theorem fxFew_ok {u0 u1 u2 u3 : Value} {n m : Nat} {o : Option Rat} {k : Int} {r : Bool} {w : World} (h : FX w u0 u1 u2 u3 n m o) (hr : (decide ((n : Int) ≤ k) && decide ((m : Int) ≤ k)) = r) :
  Calls Tryz.prog 6 #[.agg #[u0, u1, u2, u3], .int .i64 k] w fun e w' => e = .returned (.bool r) ∧ Below w.heap.size w w' := by
 obtain ⟨s, a, c, t, b, d, l, k, rfl, rfl, rfl, rfl, h4, h5, h6, h7⟩ := h
 exact rfFew_ok hr
def Oz (o : Option Rat) (n : Nat) : Prop := Sz (oN o) n ∧ Sz (oD o) n
theorem Oz.some_ {q : Rat} {n : Nat} (h : Fz q n) : Oz (some q) n := h
theorem Oz.none_ {n : Nat} : Oz none n := ⟨by show Sz 0 n; exact Nat.zero_le _, by show Sz 0 n; exact Nat.zero_le _⟩
theorem Oz.mono {o : Option Rat} {n m : Nat} (h : Oz o n) (hm : n ≤ m) : Oz o m := ⟨h.1.mono hm, h.2.mono hm⟩
theorem q_of_parts {q r : Rat} (h : nu q = nu r) (h' : de q = de r) : q = r := by rw [← divInt_parts q, ← divInt_parts r, h, h']
theorem oq_eq {o p : Option Rat} : (eqZ (oN o) (oN p) && eqZ (oD o) (oD p)) = decide (o = p) := by
  have hz : ∀ x y : Int, eqZ x y = decide (x = y) := by
    intro x y
    by_cases h : x = y
    · rw [decide_eq_true h]; exact eqZ_of h
    · rw [decide_eq_false h]; unfold eqZ; rw [decide_eq_false_iff_not]; exact h
  rw [hz, hz, ← Bool.decide_and]
  apply decide_eq_decide.2
  constructor
  · intro ⟨h, h'⟩
    cases o with
    | none =>
      cases p with
      | none => rfl
      | some r => exfalso; have := de_pos r; have h2 : (0 : Int) = de r := h'; omega
    | some q =>
      cases p with
      | none => exfalso; have := de_pos q; have h2 : de q = (0 : Int) := h'; omega
      | some r => rw [q_of_parts h h']
  · rintro rfl; exact ⟨rfl, rfl⟩
theorem rfsame_o {o p : Option Rat} {u0 u1 u2 u3 v0 v1 v2 v3 : Value} {b_ : Bool} {w : World} (h1 : OQ G w u0 u1 u2 u3 o) (h2 : OQ G w v0 v1 v2 v3 p) (hx : Oz o 1099511627776) (hy : Oz p 1099511627776) (hb : decide (o = p) = b_) :
  Calls Tryz.prog 23 #[.agg #[u0, u1, u2, u3], .agg #[v0, v1, v2, v3]] w fun e w' => e = .returned (.bool b_) ∧ Below w.heap.size w w' := by
 obtain ⟨a, c, b, d, rfl, rfl, rfl, rfl, k1, k2⟩ := h1
 obtain ⟨a', c', b', d', rfl, rfl, rfl, rfl, k3, k4⟩ := h2
 rw [← hb, ← oq_eq]
 exact rfsame_ok k1 k2 k3 k4 hx.1 hx.2 hy.1 hy.2
theorem fqRight {u0 u1 u2 u3 : Value} {q : Rat} {w : World} (h1 : FQ G w u0 u1 u2 u3 q) (hx : Fz q 549755813888) :
  Calls Tryz.prog 47 #[.agg #[u0, u1, u2, u3]] w fun e w' => e = .returned (.bool true) ∧ Below w.heap.size w w' := by
 obtain ⟨a1, c1, b1, d1, rfl, rfl, rfl, rfl, k1⟩ := h1.ex
 exact fracRight_ok (G := G) k1 hx
theorem fqCompare {u0 u1 u2 u3 v0 v1 v2 v3 : Value} {q r : Rat} {k : Int} {w : World} (h1 : FQ G w u0 u1 u2 u3 q) (h2 : FQ G w v0 v1 v2 v3 r) (hx : Fz q 137438953472) (hy : Fz r 137438953472) (hk : ordQ q r = k) :
  Calls Tryz.prog 43 #[.agg #[u0, u1, u2, u3], .agg #[v0, v1, v2, v3]] w fun e w' => e = .returned (.int .i64 k) ∧ Below w.heap.size w w' := by
 obtain ⟨a1, c1, b1, d1, rfl, rfl, rfl, rfl, k1⟩ := h1.ex
 obtain ⟨a2, c2, b2, d2, rfl, rfl, rfl, rfl, k2⟩ := h2.ex
 exact fracCompare_is (G := G) k1 k2 hx hy hk
theorem fqAdd {u0 u1 u2 u3 v0 v1 v2 v3 : Value} {q r : Rat} {w : World} (h1 : FQ G w u0 u1 u2 u3 q) (h2 : FQ G w v0 v1 v2 v3 r) (hx : Fz q 137438953472) (hy : Fz r 137438953472) :
  Calls Tryz.prog 56 #[.agg #[u0, u1, u2, u3], .agg #[v0, v1, v2, v3]] w fun e w' => ∃ x0 x1 x2 x3, e = .returned (.tuple #[.agg #[x0, x1, x2, x3], .int .i64 0]) ∧ FQ G w' x0 x1 x2 x3 (q + r) ∧ Below w.heap.size w w' := by
 obtain ⟨a1, c1, b1, d1, rfl, rfl, rfl, rfl, k1⟩ := h1.ex
 obtain ⟨a2, c2, b2, d2, rfl, rfl, rfl, rfl, k2⟩ := h2.ex
 exact (fracAdd_ok (G := G) k1 k2 hx hy).mono fun e w' ⟨a, c, b, d, he, hd, hb⟩ => ⟨_, _, _, _, he, FQ.of hd, hb⟩
theorem fqSub {u0 u1 u2 u3 v0 v1 v2 v3 : Value} {q r : Rat} {w : World} (h1 : FQ G w u0 u1 u2 u3 q) (h2 : FQ G w v0 v1 v2 v3 r) (hx : Fz q 137438953472) (hy : Fz r 137438953472) :
  Calls Tryz.prog 52 #[.agg #[u0, u1, u2, u3], .agg #[v0, v1, v2, v3]] w fun e w' => ∃ x0 x1 x2 x3, e = .returned (.tuple #[.agg #[x0, x1, x2, x3], .int .i64 0]) ∧ FQ G w' x0 x1 x2 x3 (q - r) ∧ Below w.heap.size w w' := by
 obtain ⟨a1, c1, b1, d1, rfl, rfl, rfl, rfl, k1⟩ := h1.ex
 obtain ⟨a2, c2, b2, d2, rfl, rfl, rfl, rfl, k2⟩ := h2.ex
 exact (fracSub_ok (G := G) k1 k2 hx hy).mono fun e w' ⟨a, c, b, d, he, hd, hb⟩ => ⟨_, _, _, _, he, FQ.of hd, hb⟩
theorem fqMul {u0 u1 u2 u3 v0 v1 v2 v3 : Value} {q r : Rat} {w : World} (hG : G ≤ w.heap.size) (h1 : FQ G w u0 u1 u2 u3 q) (h2 : FQ G w v0 v1 v2 v3 r) (hx : Fz q 137438953472) (hy : Fz r 137438953472) :
  Calls Tryz.prog 84 #[.agg #[u0, u1, u2, u3], .agg #[v0, v1, v2, v3]] w fun e w' => ∃ x0 x1 x2 x3, e = .returned (.tuple #[.agg #[x0, x1, x2, x3], .int .i64 0]) ∧ FQ G w' x0 x1 x2 x3 (q * r) ∧ Below w.heap.size w w' := by
 obtain ⟨a1, c1, b1, d1, rfl, rfl, rfl, rfl, k1⟩ := h1.ex
 obtain ⟨a2, c2, b2, d2, rfl, rfl, rfl, rfl, k2⟩ := h2.ex
 exact (fracMul_ok (G := G) hG k1 k2 hx hy).mono fun e w' ⟨a, c, b, d, he, hd, hb⟩ => ⟨_, _, _, _, he, FQ.of hd, hb⟩
theorem fqDiv {u0 u1 u2 u3 v0 v1 v2 v3 : Value} {q r : Rat} {w : World} (hG : G ≤ w.heap.size) (h1 : FQ G w u0 u1 u2 u3 q) (h2 : FQ G w v0 v1 v2 v3 r) (hx : Fz q 137438953472) (hy : Fz r 137438953472) (h0 : r ≠ 0) :
  Calls Tryz.prog 59 #[.agg #[u0, u1, u2, u3], .agg #[v0, v1, v2, v3]] w fun e w' => ∃ x0 x1 x2 x3, e = .returned (.tuple #[.agg #[x0, x1, x2, x3], .int .i64 0]) ∧ FQ G w' x0 x1 x2 x3 (q / r) ∧ Below w.heap.size w w' := by
 obtain ⟨a1, c1, b1, d1, rfl, rfl, rfl, rfl, k1⟩ := h1.ex
 obtain ⟨a2, c2, b2, d2, rfl, rfl, rfl, rfl, k2⟩ := h2.ex
 exact (fracDiv_ok (G := G) hG k1 k2 hx hy h0).mono fun e w' ⟨a, c, b, d, he, hd, hb⟩ => ⟨_, _, _, _, he, FQ.of hd, hb⟩
theorem fqNeg {u0 u1 u2 u3 : Value} {q : Rat} {w : World} (hG : G ≤ w.heap.size) (h1 : FQ G w u0 u1 u2 u3 q) (hx : Fz q 137438953472) :
  Calls Tryz.prog 54 #[.agg #[u0, u1, u2, u3]] w fun e w' => ∃ x0 x1 x2 x3, e = .returned (.agg #[x0, x1, x2, x3]) ∧ FQ G w' x0 x1 x2 x3 (-q) ∧ Below w.heap.size w w' := by
 obtain ⟨a1, c1, b1, d1, rfl, rfl, rfl, rfl, k1⟩ := h1.ex
 exact (fracNeg_ok (G := G) hG k1 hx).mono fun e w' ⟨a, c, b, d, he, hd, hb⟩ => ⟨_, _, _, _, he, FQ.of hd, hb⟩
theorem fqInt {x : Int} {w : World} (hx : -9223372036854775808 ≤ x ∧ x ≤ 9223372036854775807) :
  Calls Tryz.prog 58 #[.int .i64 x] w fun e w' => ∃ x0 x1 x2 x3, e = .returned (.agg #[x0, x1, x2, x3]) ∧ FQ G w' x0 x1 x2 x3 (x : Rat) ∧ Below w.heap.size w w' := by
 exact (fracInt_ok (G := G) x _ hx).mono fun e w' ⟨a, c, b, d, he, hd, hb⟩ => ⟨_, _, _, _, he, FQ.of hd, hb⟩
theorem rqInt {x : Int} {w : World} (hx : -9223372036854775808 ≤ x ∧ x ≤ 9223372036854775807) :
  Calls Tryz.prog 37 #[.int .i64 x] w fun e w' => ∃ x0 x1 x2 x3, e = .returned (.agg #[x0, x1, x2, x3]) ∧ FQ G w' x0 x1 x2 x3 (x : Rat) ∧ Below w.heap.size w w' := by
 exact (rfint_ok (G := G) x _ hx).mono fun e w' ⟨a, c, b, d, he, hd, hb⟩ => ⟨_, _, _, _, he, FQ.of hd, hb⟩
end Go.Proofs.YtjbfngjlepafgaaGreat
