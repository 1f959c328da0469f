/- Slices of structs, whatever the elements: slices that are read, and blocks that the call owns. -/
import Derived.Test.YtlcgckelamhnpaaGreatRefB5
import Derived.Test.YtlcgckelamhnpaaGreatFracR
import Derived.Test.YtlcgckelamhnpaaGreatRefK
namespace Go.Proofs.YtlcgckelamhnpaaGreat
open Go.RowKit Go.Lib
variable {G : Nat}
def TQ (G : Nat) (w : World) (u0 u1 u2 u3 : Value) (x y : Int) : Prop :=
 ∃ a c b d, u0 = .int .i64 (sg x) ∧ u1 = .slice a (ln x) c ∧ u2 = .int .i64 (sg y) ∧ u3 = .slice b (ln y) d ∧ BD G w a c x ∧ BD G w b d y
def FQ (G : Nat) (w : World) (u0 u1 u2 u3 : Value) (q : Rat) : Prop := TQ G w u0 u1 u2 u3 (nu q) (de q)
def OQ (G : Nat) (w : World) (u0 u1 u2 u3 : Value) (o : Option Rat) : Prop := TQ G w u0 u1 u2 u3 (oN o) (oD o)
def FX (w : World) (u0 u1 u2 u3 : Value) (n m : Nat) (o : Option Rat) : Prop :=
 ∃ s a c t b d l k, u0 = .int .i64 s ∧ u1 = .slice a n c ∧ u2 = .int .i64 t ∧ u3 = .slice b m d ∧ List.length l = n ∧ List.length k = m ∧ FR w a c b d l k ∧
  ((o = none ∧ rightF s l t k = false) ∨ ∃ q, o = some q ∧ rightF s l t k = true ∧ s = sg (nu q) ∧ n = Go.Proofs.YtlcgckelamhnpaaGreat.ln (nu q) ∧ t = sg (de q) ∧ m = Go.Proofs.YtlcgckelamhnpaaGreat.ln (de q) ∧ FD w.heap.size w a c b d q)
theorem TQ.keep {w w' : World} {u0 u1 u2 u3 : Value} {x y : Int} (h : TQ G w u0 u1 u2 u3 x y) (hb : Below w.heap.size w w') : TQ G w' u0 u1 u2 u3 x y := by
 obtain ⟨a, c, b, d, h0, h1, h2, h3, h4, h5⟩ := h; exact ⟨a, c, b, d, h0, h1, h2, h3, h4.keep hb, h5.keep hb⟩
theorem FQ.keep {w w' : World} {u0 u1 u2 u3 : Value} {q : Rat} (h : FQ G w u0 u1 u2 u3 q) (hb : Below w.heap.size w w') : FQ G w' u0 u1 u2 u3 q := TQ.keep h hb
theorem OQ.keep {w w' : World} {u0 u1 u2 u3 : Value} {o : Option Rat} (h : OQ G w u0 u1 u2 u3 o) (hb : Below w.heap.size w w') : OQ G w' u0 u1 u2 u3 o := TQ.keep h hb
theorem FX.keep {w w' : World} {u0 u1 u2 u3 : Value} {n m : Nat} {o : Option Rat} (h : FX w u0 u1 u2 u3 n m o) (hb : Below w.heap.size w w') : FX w' u0 u1 u2 u3 n m o := by
 obtain ⟨s, a, c, t, b, d, l, k, h0, h1, h2, h3, h4, h5, h6, h7⟩ := h; refine ⟨s, a, c, t, b, d, l, k, h0, h1, h2, h3, h4, h5, h6.keep hb, ?_⟩; rcases h7 with h7 | ⟨q, e, hr, k1, k2, k3, k4, k5⟩
 · exact .inl h7
 · exact .inr ⟨q, e, hr, k1, k2, k3, k4, (k5.keep hb).up hb.size⟩
instance {w w' : World} {u0 u1 u2 u3 : Value} {x y : Int} : Goes (TQ G w u0 u1 u2 u3 x y) w w' (TQ G w' u0 u1 u2 u3 x y) := ⟨fun h hb => h.keep hb⟩
instance {w w' : World} {u0 u1 u2 u3 : Value} {q : Rat} : Goes (FQ G w u0 u1 u2 u3 q) w w' (FQ G w' u0 u1 u2 u3 q) := ⟨fun h hb => h.keep hb⟩
instance {w w' : World} {u0 u1 u2 u3 : Value} {o : Option Rat} : Goes (OQ G w u0 u1 u2 u3 o) w w' (OQ G w' u0 u1 u2 u3 o) := ⟨fun h hb => h.keep hb⟩
instance {w w' : World} {u0 u1 u2 u3 : Value} {n m : Nat} {o : Option Rat} : Goes (FX w u0 u1 u2 u3 n m o) w w' (FX w' u0 u1 u2 u3 n m o) := ⟨fun h hb => h.keep hb⟩
theorem TQ.far {w w' : World} {g : Nat} {T : TypeId} {cs : Array Value} {u0 u1 u2 u3 : Value} {x y : Int} (h : TQ G w u0 u1 u2 u3 x y) (k : Bx w g T cs) (hT : (T == 3) = false) (hG : G ≤ g) (hg : w.grownBy w' (some g)) : TQ G w' u0 u1 u2 u3 x y := by
 obtain ⟨a, c, b, d, h0, h1, h2, h3, h4, h5⟩ := h; exact ⟨a, c, b, d, h0, h1, h2, h3, h4.far k hT hG hg, h5.far k hT hG hg⟩
theorem FQ.far {w w' : World} {g : Nat} {T : TypeId} {cs : Array Value} {u0 u1 u2 u3 : Value} {q : Rat} (h : FQ G w u0 u1 u2 u3 q) (k : Bx w g T cs) (hT : (T == 3) = false) (hG : G ≤ g) (hg : w.grownBy w' (some g)) : FQ G w' u0 u1 u2 u3 q := TQ.far h k hT hG hg
theorem OQ.far {w w' : World} {g : Nat} {T : TypeId} {cs : Array Value} {u0 u1 u2 u3 : Value} {o : Option Rat} (h : OQ G w u0 u1 u2 u3 o) (k : Bx w g T cs) (hT : (T == 3) = false) (hG : G ≤ g) (hg : w.grownBy w' (some g)) : OQ G w' u0 u1 u2 u3 o := TQ.far h k hT hG hg
theorem TQ.st {w : World} {u0 u1 u2 u3 : Value} {x y : Int} (h : TQ G w u0 u1 u2 u3 x y) : (∀ a m w', Sem.run Tryz.prog (store a u0 m) w' = stored Tryz.prog w' a u0 m) ∧ (∀ a m w', Sem.run Tryz.prog (store a u1 m) w' = stored Tryz.prog w' a u1 m) ∧ (∀ a m w', Sem.run Tryz.prog (store a u2 m) w' = stored Tryz.prog w' a u2 m) ∧ (∀ a m w', Sem.run Tryz.prog (store a u3 m) w' = stored Tryz.prog w' a u3 m) := by
 obtain ⟨a, c, b, d, rfl, rfl, rfl, rfl, -, -⟩ := h; exact ⟨fun _ _ _ => run_store _ _ _ _ _ rfl, fun _ _ _ => run_store _ _ _ _ _ rfl, fun _ _ _ => run_store _ _ _ _ _ rfl, fun _ _ _ => run_store _ _ _ _ _ rfl⟩
theorem FX.st {w : World} {u0 u1 u2 u3 : Value} {n m : Nat} {o : Option Rat} (h : FX w u0 u1 u2 u3 n m o) : (∀ a m w', Sem.run Tryz.prog (store a u0 m) w' = stored Tryz.prog w' a u0 m) ∧ (∀ a m w', Sem.run Tryz.prog (store a u1 m) w' = stored Tryz.prog w' a u1 m) ∧ (∀ a m w', Sem.run Tryz.prog (store a u2 m) w' = stored Tryz.prog w' a u2 m) ∧ (∀ a m w', Sem.run Tryz.prog (store a u3 m) w' = stored Tryz.prog w' a u3 m) := by
 obtain ⟨s, a, c, t, b, d, l, k, rfl, rfl, rfl, rfl, -⟩ := h; exact ⟨fun _ _ _ => run_store _ _ _ _ _ rfl, fun _ _ _ => run_store _ _ _ _ _ rfl, fun _ _ _ => run_store _ _ _ _ _ rfl, fun _ _ _ => run_store _ _ _ _ _ rfl⟩
theorem FQ.ex {w : World} {u0 u1 u2 u3 : Value} {q : Rat} (h : FQ G w u0 u1 u2 u3 q) : ∃ a c b d, u0 = .int .i64 (sg (nu q)) ∧ u1 = .slice a (ln (nu q)) c ∧ u2 = .int .i64 (sg (de q)) ∧ u3 = .slice b (ln (de q)) d ∧ FD G w a c b d q := by
 obtain ⟨a, c, b, d, h0, h1, h2, h3, h4, h5⟩ := h; exact ⟨a, c, b, d, h0, h1, h2, h3, h4, h5⟩
theorem FQ.of {w : World} {a b : Option Addr} {c d : Nat} {q : Rat} (h : FD G w a c b d q) : FQ G w (.int .i64 (sg (nu q))) (.slice a (ln (nu q)) c) (.int .i64 (sg (de q))) (.slice b (ln (de q)) d) q :=
 ⟨a, c, b, d, rfl, rfl, rfl, rfl, h.n, h.d⟩
theorem OQ.of {w : World} {a b : Option Addr} {c d : Nat} {o : Option Rat} (h : BD G w a c (oN o)) (h' : BD G w b d (oD o)) : OQ G w (.int .i64 (sg (oN o))) (.slice a (ln (oN o)) c) (.int .i64 (sg (oD o))) (.slice b (ln (oD o)) d) o :=
 ⟨a, c, b, d, rfl, rfl, rfl, rfl, h, h'⟩
theorem tq_zero (w : World) (a b : Option Addr) (c d : Nat) : TQ G w (.int .i64 0) (.slice a 0 c) (.int .i64 0) (.slice b 0 d) 0 0 := ⟨a, c, b, d, rfl, rfl, rfl, rfl, bd_zero _ _ _, bd_zero _ _ _⟩
theorem oq_none (w : World) (a b : Option Addr) (c d : Nat) : OQ G w (.int .i64 0) (.slice a 0 c) (.int .i64 0) (.slice b 0 d) none := tq_zero w a b c d
theorem fx_of {s t : Int} {l k : List Int} {a b : Option Addr} {c d : Nat} {w : World} (h : FR w a c b d l k) : ∃ o, FX w (.int .i64 s) (.slice a l.length c) (.int .i64 t) (.slice b k.length d) l.length k.length o := by
 cases hr : rightF s l t k with
 | false => exact ⟨none, s, a, c, t, b, d, l, k, rfl, rfl, rfl, rfl, rfl, rfl, h, .inl ⟨rfl, hr⟩⟩
 | true =>
  obtain ⟨q, e1, e2, e3, e4, k1⟩ := fd_of_right h hr; exact ⟨some q, s, a, c, t, b, d, l, k, rfl, rfl, rfl, rfl, rfl, rfl, h, .inr ⟨q, rfl, hr, e1, e2, e3, e4, k1⟩⟩
theorem FX.fq {w : World} {u0 u1 u2 u3 : Value} {n m : Nat} {q : Rat} (h : FX w u0 u1 u2 u3 n m (some q)) : FQ w.heap.size w u0 u1 u2 u3 q := by
 obtain ⟨s, a, c, t, b, d, l, k, h0, h1, h2, h3, h4, h5, h6, h7⟩ := h; rcases h7 with ⟨h7, -⟩ | ⟨q', e, hr, k1, k2, k3, k4, k5⟩
 · cases h7
 · obtain rfl := Option.some.inj e
   subst k1 k2 k3 k4; exact ⟨a, c, b, d, h0, h1, h2, h3, k5.n, k5.d⟩
theorem FX.fz {w : World} {u0 u1 u2 u3 : Value} {n m k : Nat} {q : Rat} (h : FX w u0 u1 u2 u3 n m (some q)) (hn : n ≤ k) (hm : m ≤ k) : Fz q k := by
 obtain ⟨s, a, c, t, b, d, l, _, h0, h1, h2, h3, h4, h5, h6, h7⟩ := h; rcases h7 with ⟨h7, -⟩ | ⟨q', e, hr, k1, k2, k3, k4, k5⟩
 · cases h7
 · obtain rfl := Option.some.inj e
   have k2' : n = (digs (nu q).natAbs).length := k2; have k4' : m = (digs (de q).natAbs).length := k4; exact ⟨show (digs (nu q).natAbs).length ≤ k by omega, show (digs (de q).natAbs).length ≤ k by omega⟩
theorem FX.isz {w : World} {u0 u1 u2 u3 : Value} {n m : Nat} {q : Rat} (h : FX w u0 u1 u2 u3 n m (some q)) : n = Go.Proofs.YtlcgckelamhnpaaGreat.ln (nu q) ∧ m = Go.Proofs.YtlcgckelamhnpaaGreat.ln (de q) := by
 obtain ⟨s, a, c, t, b, d, l, _, h0, h1, h2, h3, h4, h5, h6, h7⟩ := h; rcases h7 with ⟨h7, -⟩ | ⟨q', e, hr, k1, k2, k3, k4, k5⟩
 · cases h7
 · obtain rfl := Option.some.inj e
   exact ⟨k2, k4⟩
theorem fxRight_ok {u0 u1 u2 u3 : Value} {n m : Nat} {o : Option Rat} {b_ : Bool} {w : World} (h : FX w u0 u1 u2 u3 n m o) (hn : n ≤ 549755813888) (hm : m ≤ 549755813888) (hb : o.isSome = b_) :
 Calls Tryz.prog 37 #[.agg #[u0, u1, u2, u3]] w fun e w' => e = .returned (.bool b_) ∧ Below w.heap.size w w' := by
 obtain ⟨s, a, c, t, b, d, l, k, rfl, rfl, rfl, rfl, h4, h5, h6, h7⟩ := h; subst hb; rcases h7 with ⟨rfl, hr⟩ | ⟨q, rfl, hr, -⟩
 · exact fracRight_len h6 h4 h5 hn hm hr
 · exact fracRight_len h6 h4 h5 hn hm hr
def Oz (o : Option Rat) (n : Nat) : Prop := Sz (oN o) n ∧ Sz (oD o) n
theorem Oz.some_ {q : Rat} {n : Nat} (h : Fz q n) : Oz (some q) n := h
theorem Oz.none_ {n : Nat} : Oz none n := ⟨by show Sz 0 n; exact Nat.zero_le _, by show Sz 0 n; exact Nat.zero_le _⟩
theorem Oz.mono {o : Option Rat} {n m : Nat} (h : Oz o n) (hm : n ≤ m) : Oz o m := ⟨h.1.mono hm, h.2.mono hm⟩
theorem q_of_parts {q r : Rat} (h : nu q = nu r) (h' : de q = de r) : q = r := by rw [← divInt_parts q, ← divInt_parts r, h, h']
theorem oq_eq {o p : Option Rat} : (eqZ (oN o) (oN p) && eqZ (oD o) (oD p)) = decide (o = p) := by
 have hz : ∀ x y : Int, eqZ x y = decide (x = y) := by
  intro x y
  by_cases h : x = y
  · rw [decide_eq_true h]; exact eqZ_of h
  · rw [decide_eq_false h]; unfold eqZ; rw [decide_eq_false_iff_not]; exact h
 rw [hz, hz, ← Bool.decide_and]
 apply decide_eq_decide.2
 constructor
 · intro ⟨h, h'⟩
   cases o with
   | none =>
    cases p with
    | none => rfl
    | some r => exfalso; have := de_pos r; have h2 : (0 : Int) = de r := h'; omega
   | some q =>
    cases p with
    | none => exfalso; have := de_pos q; have h2 : de q = (0 : Int) := h'; omega
    | some r => rw [q_of_parts h h']
 · rintro rfl; exact ⟨rfl, rfl⟩
theorem rfsame_o {o p : Option Rat} {u0 u1 u2 u3 v0 v1 v2 v3 : Value} {b_ : Bool} {w : World} (h1 : OQ G w u0 u1 u2 u3 o) (h2 : OQ G w v0 v1 v2 v3 p) (hx : Oz o 1099511627776) (hy : Oz p 1099511627776) (hb : decide (o = p) = b_) :
 Calls Tryz.prog 27 #[.agg #[u0, u1, u2, u3], .agg #[v0, v1, v2, v3]] w fun e w' => e = .returned (.bool b_) ∧ Below w.heap.size w w' := by
 obtain ⟨a, c, b, d, rfl, rfl, rfl, rfl, k1, k2⟩ := h1; obtain ⟨a', c', b', d', rfl, rfl, rfl, rfl, k3, k4⟩ := h2; rw [← hb, ← oq_eq]; exact rfsame_ok k1 k2 k3 k4 hx.1 hx.2 hy.1 hy.2
theorem fqRight {u0 u1 u2 u3 : Value} {q : Rat} {w : World} (h1 : FQ G w u0 u1 u2 u3 q) (hx : Fz q 549755813888) :
 Calls Tryz.prog 37 #[.agg #[u0, u1, u2, u3]] w fun e w' => e = .returned (.bool true) ∧ Below w.heap.size w w' := by
 obtain ⟨a1, c1, b1, d1, rfl, rfl, rfl, rfl, k1⟩ := h1.ex; exact fracRight_ok (G := G) k1 hx
theorem fqCompare {u0 u1 u2 u3 v0 v1 v2 v3 : Value} {q r : Rat} {k : Int} {w : World} (h1 : FQ G w u0 u1 u2 u3 q) (h2 : FQ G w v0 v1 v2 v3 r) (hx : Fz q 137438953472) (hy : Fz r 137438953472) (hk : ordQ q r = k) :
 Calls Tryz.prog 36 #[.agg #[u0, u1, u2, u3], .agg #[v0, v1, v2, v3]] w fun e w' => e = .returned (.int .i64 k) ∧ Below w.heap.size w w' := by
 obtain ⟨a1, c1, b1, d1, rfl, rfl, rfl, rfl, k1⟩ := h1.ex; obtain ⟨a2, c2, b2, d2, rfl, rfl, rfl, rfl, k2⟩ := h2.ex; exact fracCompare_is (G := G) k1 k2 hx hy hk
theorem fqAdd {u0 u1 u2 u3 v0 v1 v2 v3 : Value} {q r : Rat} {w : World} (h1 : FQ G w u0 u1 u2 u3 q) (h2 : FQ G w v0 v1 v2 v3 r) (hx : Fz q 137438953472) (hy : Fz r 137438953472) :
 Calls Tryz.prog 46 #[.agg #[u0, u1, u2, u3], .agg #[v0, v1, v2, v3]] w fun e w' => ∃ x0 x1 x2 x3, e = .returned (.tuple #[.agg #[x0, x1, x2, x3], .int .i64 0]) ∧ FQ G w' x0 x1 x2 x3 (q + r) ∧ Below w.heap.size w w' := by
 obtain ⟨a1, c1, b1, d1, rfl, rfl, rfl, rfl, k1⟩ := h1.ex; obtain ⟨a2, c2, b2, d2, rfl, rfl, rfl, rfl, k2⟩ := h2.ex; exact (fracAdd_ok (G := G) k1 k2 hx hy).mono fun e w' ⟨a, c, b, d, he, hd, hb⟩ => ⟨_, _, _, _, he, FQ.of hd, hb⟩
theorem fqSub {u0 u1 u2 u3 v0 v1 v2 v3 : Value} {q r : Rat} {w : World} (h1 : FQ G w u0 u1 u2 u3 q) (h2 : FQ G w v0 v1 v2 v3 r) (hx : Fz q 137438953472) (hy : Fz r 137438953472) :
 Calls Tryz.prog 42 #[.agg #[u0, u1, u2, u3], .agg #[v0, v1, v2, v3]] w fun e w' => ∃ x0 x1 x2 x3, e = .returned (.tuple #[.agg #[x0, x1, x2, x3], .int .i64 0]) ∧ FQ G w' x0 x1 x2 x3 (q - r) ∧ Below w.heap.size w w' := by
 obtain ⟨a1, c1, b1, d1, rfl, rfl, rfl, rfl, k1⟩ := h1.ex; obtain ⟨a2, c2, b2, d2, rfl, rfl, rfl, rfl, k2⟩ := h2.ex; exact (fracSub_ok (G := G) k1 k2 hx hy).mono fun e w' ⟨a, c, b, d, he, hd, hb⟩ => ⟨_, _, _, _, he, FQ.of hd, hb⟩
theorem fqMin {u0 u1 u2 u3 v0 v1 v2 v3 : Value} {q r : Rat} {m : Rat} {w : World} (hG : G ≤ w.heap.size) (h1 : FQ G w u0 u1 u2 u3 q) (h2 : FQ G w v0 v1 v2 v3 r) (hx : Fz q 137438953472) (hy : Fz r 137438953472) (hm : pick q r (-1) = m) :
 Calls Tryz.prog 75 #[.agg #[u0, u1, u2, u3], .agg #[v0, v1, v2, v3]] w fun e w' => ∃ x0 x1 x2 x3, e = .returned (.tuple #[.agg #[x0, x1, x2, x3], .int .i64 0]) ∧ FQ G w' x0 x1 x2 x3 m ∧ Below w.heap.size w w' := by
 obtain ⟨a1, c1, b1, d1, rfl, rfl, rfl, rfl, k1⟩ := h1.ex; obtain ⟨a2, c2, b2, d2, rfl, rfl, rfl, rfl, k2⟩ := h2.ex; exact (fracMin_is (G := G) hG k1 k2 hx hy hm).mono fun e w' ⟨a, c, b, d, he, hd, hb⟩ => ⟨_, _, _, _, he, FQ.of hd, hb⟩
theorem fqMax {u0 u1 u2 u3 v0 v1 v2 v3 : Value} {q r : Rat} {m : Rat} {w : World} (hG : G ≤ w.heap.size) (h1 : FQ G w u0 u1 u2 u3 q) (h2 : FQ G w v0 v1 v2 v3 r) (hx : Fz q 137438953472) (hy : Fz r 137438953472) (hm : pick q r 1 = m) :
 Calls Tryz.prog 44 #[.agg #[u0, u1, u2, u3], .agg #[v0, v1, v2, v3]] w fun e w' => ∃ x0 x1 x2 x3, e = .returned (.tuple #[.agg #[x0, x1, x2, x3], .int .i64 0]) ∧ FQ G w' x0 x1 x2 x3 m ∧ Below w.heap.size w w' := by
 obtain ⟨a1, c1, b1, d1, rfl, rfl, rfl, rfl, k1⟩ := h1.ex; obtain ⟨a2, c2, b2, d2, rfl, rfl, rfl, rfl, k2⟩ := h2.ex; exact (fracMax_is (G := G) hG k1 k2 hx hy hm).mono fun e w' ⟨a, c, b, d, he, hd, hb⟩ => ⟨_, _, _, _, he, FQ.of hd, hb⟩
theorem fqSign {u0 u1 u2 u3 : Value} {q : Rat} {k : Int} {w : World} (hG : G ≤ w.heap.size) (h1 : FQ G w u0 u1 u2 u3 q) (hx : Fz q 137438953472) (hk : sg (nu q) = k) :
 Calls Tryz.prog 60 #[.agg #[u0, u1, u2, u3]] w fun e w' => e = .returned (.int .i64 k) ∧ Below w.heap.size w w' := by
 obtain ⟨a1, c1, b1, d1, rfl, rfl, rfl, rfl, k1⟩ := h1.ex; exact fracSign_is (G := G) hG k1 hx hk
theorem fqInt {x : Int} {w : World} (hx : -9223372036854775808 ≤ x ∧ x ≤ 9223372036854775807) :
 Calls Tryz.prog 18 #[.int .i64 x] w fun e w' => ∃ x0 x1 x2 x3, e = .returned (.agg #[x0, x1, x2, x3]) ∧ FQ G w' x0 x1 x2 x3 (x : Rat) ∧ Below w.heap.size w w' := by
 exact (fracInt_ok (G := G) x _ hx).mono fun e w' ⟨a, c, b, d, he, hd, hb⟩ => ⟨_, _, _, _, he, FQ.of hd, hb⟩
theorem rqInt {x : Int} {w : World} (hx : -9223372036854775808 ≤ x ∧ x ≤ 9223372036854775807) :
 Calls Tryz.prog 24 #[.int .i64 x] w fun e w' => ∃ x0 x1 x2 x3, e = .returned (.agg #[x0, x1, x2, x3]) ∧ FQ G w' x0 x1 x2 x3 (x : Rat) ∧ Below w.heap.size w w' := by
 exact (rfint_ok (G := G) x _ hx).mono fun e w' ⟨a, c, b, d, he, hd, hb⟩ => ⟨_, _, _, _, he, FQ.of hd, hb⟩
theorem TQ.f {w v : World} {g : Nat} {T : TypeId} {cs : Array Value} {u0 u1 u2 u3 : Value} {x y : Int} (h : TQ G w u0 u1 u2 u3 x y) (k : Bx w g T cs) (hg : w.grownBy v (some g)) (hT : (T == 3) = false := by rfl) (hG : G ≤ g := by omega) : TQ G v u0 u1 u2 u3 x y := h.far k hT hG hg
theorem FQ.f {w v : World} {g : Nat} {T : TypeId} {cs : Array Value} {u0 u1 u2 u3 : Value} {q : Rat} (h : FQ G w u0 u1 u2 u3 q) (k : Bx w g T cs) (hg : w.grownBy v (some g)) (hT : (T == 3) = false := by rfl) (hG : G ≤ g := by omega) : FQ G v u0 u1 u2 u3 q := h.far k hT hG hg
theorem OQ.f {w v : World} {g : Nat} {T : TypeId} {cs : Array Value} {u0 u1 u2 u3 : Value} {o : Option Rat} (h : OQ G w u0 u1 u2 u3 o) (k : Bx w g T cs) (hg : w.grownBy v (some g)) (hT : (T == 3) = false := by rfl) (hG : G ≤ g := by omega) : OQ G v u0 u1 u2 u3 o := h.far k hT hG hg
end Go.Proofs.YtlcgckelamhnpaaGreat
namespace Go.Proofs.YtlcgckelamhnpaaGreat
open Go.RowKit
variable {G : Nat}
theorem below_none_ {w w' : World} (hg : w.grownBy w' none) : Below w.heap.size w w' := ⟨hg.os, hg.tape, hg.output, hg.size, fun k hk => hg.block k hk (by simp)⟩
theorem own_block {w : World} {B : Nat} {e : TypeId} {size n : Nat} {v : Value} {xs : List Value} (h : w.ownsRow B e size v n xs) : v.ownBlock = none ∨ ∃ g cur, v.ownBlock = some g ∧ B ≤ g ∧ Bx w g e cur := by
 rcases h.2 with ⟨rfl, -⟩ | ⟨g, cap, cur, rfl, hg, hh, -⟩
 · exact .inl rfl
 · exact .inr ⟨g, cur, rfl, hg, hh⟩
theorem TQ.grown {w w' : World} {u0 u1 u2 u3 : Value} {x y : Int} {B : Nat} {e : TypeId} {size n : Nat} {v : Value} {xs : List Value} (h : TQ G w u0 u1 u2 u3 x y) (ho : w.ownsRow B e size v n xs) (he : (e == 3) = false) (hG : G ≤ B) (hg : w.grownBy w' v.ownBlock) : TQ G w' u0 u1 u2 u3 x y := by
 rcases own_block ho with h1 | ⟨g, cur, h1, h2, h3⟩
 · rw [h1] at hg; exact h.keep (below_none_ hg)
 · rw [h1] at hg; exact h.far h3 he (by omega) hg
theorem FQ.grown {w w' : World} {u0 u1 u2 u3 : Value} {q : Rat} {B : Nat} {e : TypeId} {size n : Nat} {v : Value} {xs : List Value} (h : FQ G w u0 u1 u2 u3 q) (ho : w.ownsRow B e size v n xs) (he : (e == 3) = false) (hG : G ≤ B) (hg : w.grownBy w' v.ownBlock) : FQ G w' u0 u1 u2 u3 q := TQ.grown h ho he hG hg
theorem OQ.grown {w w' : World} {u0 u1 u2 u3 : Value} {o : Option Rat} {B : Nat} {e : TypeId} {size n : Nat} {v : Value} {xs : List Value} (h : OQ G w u0 u1 u2 u3 o) (ho : w.ownsRow B e size v n xs) (he : (e == 3) = false) (hG : G ≤ B) (hg : w.grownBy w' v.ownBlock) : OQ G w' u0 u1 u2 u3 o := TQ.grown h ho he hG hg
theorem Bx.grown {w w' : World} {g : Nat} {T : TypeId} {cs : Array Value} {B : Nat} {e : TypeId} {size n : Nat} {v : Value} {xs : List Value} (h : Bx w g T cs) (ho : w.ownsRow B e size v n xs) (hlt : g < B) (hg : w.grownBy w' v.ownBlock) : Bx w' g T cs := by
 rcases own_block ho with h1 | ⟨g', cur, h1, h2, h3⟩
 · rw [h1] at hg; exact h.keep (below_none_ hg)
 · rw [h1] at hg; exact h.o hg
theorem below_grown {b : Nat} {w0 w w' : World} {B : Nat} {e : TypeId} {size n : Nat} {v : Value} {xs : List Value} (h : Below b w0 w) (ho : w.ownsRow B e size v n xs) (hB : b ≤ B) (hbw : b ≤ w.heap.size) (hg : w.grownBy w' v.ownBlock) : Below b w0 w' :=
 h.grown hg hbw fun k hk => Nat.le_trans hB (ho.lt k hk).1
theorem flatten_get {α : Type} {n : Nat} : ∀ {l : List (List α)}, (∀ x ∈ l, x.length = n) → ∀ {k : Nat} (hk : k < l.length) {j : Nat}, j < n → l.flatten[k * n + j]? = (l[k])[j]?
 | [], _, k, hk, _, _ => by simp at hk
 | y :: l, hl, 0, _, j, hj => by
  have := hl y (by simp); rw [List.flatten_cons, Nat.zero_mul, Nat.zero_add, List.getElem?_append_left (by omega)]; rfl
 | y :: l, hl, k + 1, hk, j, hj => by
  have h1 := hl y (by simp); have ih := flatten_get (l := l) (fun z hz => hl z (List.mem_cons_of_mem _ hz)) (k := k) (by simpa using hk) hj; rw [List.flatten_cons, List.getElem?_append_right (by rw [h1, Nat.succ_mul]; omega), h1, show (k + 1) * n + j - n = k * n + j by rw [Nat.succ_mul]; omega]; exact ih
class El (α : Type) where
 cells : α → List Value
 sz : Nat
 T : TypeId
 deep : List TypeId
 ok : Nat → World → α → Prop
 len : ∀ x : α, (cells x).length = sz
 one : ∀ {G : Nat} {w : World} {x : α}, ok G w x → ∀ u ∈ cells x, u.oneCell' = true
 keep : ∀ {G : Nat} {w w' : World} {x : α}, ok G w x → Below w.heap.size w w' → ok G w' x
 far : ∀ {G : Nat} {w w' : World} {x : α} {g : Nat} {T' : TypeId} {ys : Array Value}, ok G w x → Bx w g T' ys → deep.contains T' = false → G ≤ g → w.grownBy w' (some g) → ok G w' x
structure RdB {α : Type} [El α] (G : Nat) (w : World) (b off : Nat) (l : List α) : Prop where
 lt : b < w.heap.size
 ty : b < G ∨ ∃ cs fr, w.heap[b]? = some (.cells cs (El.T α) fr)
 oks : ∀ x ∈ l, El.ok G w x
 at_ : ∀ (k : Nat) (x : α) (j : Nat) (u : Value), l[k]? = some x → (El.cells x)[j]? = some u → w.cell? ⟨b, off + k * El.sz α + j, none⟩ = some u
theorem ty_keep {w w' : World} {b : Nat} {T : TypeId} (h : b < G ∨ ∃ cs fr, w.heap[b]? = some (.cells cs T fr)) (hb : Below w.heap.size w w') : b < G ∨ ∃ cs fr, w'.heap[b]? = some (.cells cs T fr) := by
 rcases h with h | ⟨cs, fr, h⟩
 · exact .inl h
 · exact .inr ⟨cs, fr, by rw [hb.block b (lt_of_block h)]; exact h⟩
theorem ty_ne {w : World} {b g : Nat} {T T' : TypeId} {ys : Array Value} (h : b < G ∨ ∃ cs fr, w.heap[b]? = some (.cells cs T fr)) (k : Bx w g T' ys) (hT : (T' == T) = false) (hG : G ≤ g) : b ≠ g := by
 rintro rfl; rcases h with h | ⟨cs, fr, h⟩
 · omega
 · unfold Bx at k
   rw [k] at h; simp only [Option.some.injEq, Obj.cells.injEq] at h; rw [h.2.1] at hT
   simp at hT
theorem Bx.ne_ty {w : World} {g g' : Nat} {T T' : TypeId} {cs cs' : Array Value} (h : Bx w g T cs) (h' : Bx w g' T' cs') (hT : (T == T') = false) : g ≠ g' := by
 rintro rfl; unfold Bx at h h'; rw [h] at h'; simp only [Option.some.injEq, Obj.cells.injEq] at h'; rw [h'.2.1] at hT
 simp at hT
theorem ty_far {w w' : World} {b g : Nat} {T : TypeId} (h : b < G ∨ ∃ cs fr, w.heap[b]? = some (.cells cs T fr)) (hne : b ≠ g) (hg : w.grownBy w' (some g)) : b < G ∨ ∃ cs fr, w'.heap[b]? = some (.cells cs T fr) := by
 rcases h with h | ⟨cs, fr, h⟩
 · exact .inl h
 · exact .inr ⟨cs, fr, (hg.block b (lt_of_block h) (by simp; exact hne)).trans h⟩
theorem RdB.keep {α : Type} [El α] {w w' : World} {b off : Nat} {l : List α} (h : RdB G w b off l) (hb : Below w.heap.size w w') : RdB G w' b off l :=
 ⟨Nat.lt_of_lt_of_le h.lt hb.size, ty_keep h.ty hb, fun x hx => El.keep (h.oks x hx) hb, fun k x j u hk hj => by rw [hb.cell h.lt]; exact h.at_ k x j u hk hj⟩
instance {α : Type} [El α] {w w' : World} {b off : Nat} {l : List α} : Goes (RdB G w b off l) w w' (RdB G w' b off l) := ⟨fun h hb => h.keep hb⟩
theorem RdB.far {α : Type} [El α] {w w' : World} {b off g : Nat} {l : List α} {T' : TypeId} {ys : Array Value} (h : RdB G w b off l) (k : Bx w g T' ys) (hT : (El.T α :: El.deep α).contains T' = false) (hG : G ≤ g) (hg : w.grownBy w' (some g)) : RdB G w' b off l := by
 have h1 : (T' == El.T α) = false ∧ (El.deep α).contains T' = false := by
  simp only [List.contains_cons, Bool.or_eq_false_iff] at hT; exact hT
 have hne := ty_ne h.ty k h1.1 hG; exact ⟨Nat.lt_of_lt_of_le h.lt hg.size, ty_far h.ty hne hg, fun x hx => El.far (h.oks x hx) k h1.2 hG hg, fun k x j u hk hj => hg.cell (h.at_ k x j u hk hj) (by simp; exact hne)⟩
theorem RdB.row {α : Type} [El α] {w : World} {b off k : Nat} {l : List α} {x : α} (h : RdB G w b off l) (hk : l[k]? = some x) : Row w b (off + k * El.sz α) (El.cells x) :=
 ⟨h.lt, fun j u hj => h.at_ k x j u hk hj⟩
theorem RdB.ok {α : Type} [El α] {w : World} {b off k : Nat} {l : List α} {x : α} (h : RdB G w b off l) (hk : l[k]? = some x) : El.ok G w x := h.oks x (List.mem_of_getElem? hk)
theorem RdB.conv {α β : Type} [El α] [El β] {w : World} {b off : Nat} {l : List α} {m : List β} (h : RdB G w b off l) (hT : El.T α = El.T β) (hs : El.sz α = El.sz β) (hm : ∀ (k : Nat) (y : β), m[k]? = some y → ∃ x, l[k]? = some x ∧ El.cells x = El.cells y ∧ El.ok G w y) : RdB G w b off m :=
 ⟨h.lt, by rw [← hT]; exact h.ty, fun y hy => by
  obtain ⟨k, hk⟩ := List.getElem?_of_mem hy; obtain ⟨x, -, -, h1⟩ := hm k y hk; exact h1, fun k y j u hk hj => by
  obtain ⟨x, h1, h2, -⟩ := hm k y hk; rw [← hs]; rw [← h2] at hj; exact h.at_ k x j u h1 hj⟩
theorem RdB.drop {α : Type} [El α] {w : World} {b off : Nat} {l : List α} (h : RdB G w b off l) (n : Nat) : RdB G w b (off + n * El.sz α) (l.drop n) :=
 ⟨h.lt, h.ty, fun x hx => h.oks x (List.mem_of_mem_drop hx), fun k x j u hk hj => by
  rw [List.getElem?_drop] at hk; have := h.at_ (n + k) x j u hk hj; rw [show off + n * El.sz α + k * El.sz α = off + (n + k) * El.sz α by rw [Nat.add_mul]; omega]; exact this⟩
theorem RdB.take {α : Type} [El α] {w : World} {b off : Nat} {l : List α} (h : RdB G w b off l) (n : Nat) : RdB G w b off (l.take n) :=
 ⟨h.lt, h.ty, fun x hx => h.oks x (List.mem_of_mem_take hx), fun k x j u hk hj => by
  rw [List.getElem?_take] at hk
  split at hk
  · exact h.at_ k x j u hk hj
  · cases hk⟩
structure RdL {α : Type} [El α] (G : Nat) (w : World) (a : Option Addr) (n c : Nat) (l : List α) : Prop where
 len : l.length = n
 le : n ≤ c
 rd : n = 0 ∨ ∃ b off, a = some ⟨b, off, none⟩ ∧ RdB G w b off l
theorem RdL.keep {α : Type} [El α] {w w' : World} {a : Option Addr} {n c : Nat} {l : List α} (h : RdL G w a n c l) (hb : Below w.heap.size w w') : RdL G w' a n c l :=
 ⟨h.len, h.le, h.rd.imp id fun ⟨b, off, h1, h2⟩ => ⟨b, off, h1, h2.keep hb⟩⟩
instance {α : Type} [El α] {w w' : World} {a : Option Addr} {n c : Nat} {l : List α} : Goes (RdL G w a n c l) w w' (RdL G w' a n c l) := ⟨fun h hb => h.keep hb⟩
theorem RdL.far {α : Type} [El α] {w w' : World} {a : Option Addr} {n c g : Nat} {l : List α} {T' : TypeId} {ys : Array Value} (h : RdL G w a n c l) (k : Bx w g T' ys) (hT : (El.T α :: El.deep α).contains T' = false) (hG : G ≤ g) (hg : w.grownBy w' (some g)) : RdL G w' a n c l :=
 ⟨h.len, h.le, h.rd.imp id fun ⟨b, off, h1, h2⟩ => ⟨b, off, h1, h2.far k hT hG hg⟩⟩
theorem RdL.nil {α : Type} [El α] (w : World) (a : Option Addr) (c : Nat) : RdL G w a 0 c ([] : List α) := ⟨rfl, Nat.zero_le _, .inl rfl⟩
theorem RdL.of {α : Type} [El α] {w : World} {b off n c : Nat} {l : List α} (h : RdB G w b off l) (hn : l.length = n) (hc : n ≤ c) : RdL G w (some ⟨b, off, none⟩) n c l := ⟨hn, hc, .inr ⟨b, off, rfl, h⟩⟩
theorem RdL.cases {α : Type} [El α] {w : World} {a : Option Addr} {n c : Nat} {l : List α} (h : RdL G w a n c l) : (n = 0 ∧ l = []) ∨ ∃ b off, a = some ⟨b, off, none⟩ ∧ 0 < n ∧ l.length = n ∧ n ≤ c ∧ RdB G w b off l := by
 rcases Nat.eq_zero_or_pos n with h0 | h0
 · exact .inl ⟨h0, List.eq_nil_of_length_eq_zero (h.len.trans h0)⟩
 · rcases h.rd with h1 | ⟨b, off, h1, h2⟩
   · omega
   · exact .inr ⟨b, off, h1, h0, h.len, h.le, h2⟩
theorem RdL.ptr {α : Type} [El α] {w : World} {a : Option Addr} {n c : Nat} {l : List α} (h : RdL G w a n c l) (hn : 0 < n) : ∃ b off, a = some ⟨b, off, none⟩ ∧ RdB G w b off l := by
 rcases h.rd with h1 | h1
 · omega
 · exact h1
theorem RdL.conv {α β : Type} [El α] [El β] {w : World} {a : Option Addr} {n c : Nat} {l : List α} {m : List β} (h : RdL G w a n c l) (hT : El.T α = El.T β) (hs : El.sz α = El.sz β) (hl : m.length = l.length) (hm : ∀ (k : Nat) (y : β), m[k]? = some y → ∃ x, l[k]? = some x ∧ El.cells x = El.cells y ∧ El.ok G w y) : RdL G w a n c m :=
 ⟨hl.trans h.len, h.le, h.rd.imp id fun ⟨b, off, h1, h2⟩ => ⟨b, off, h1, h2.conv hT hs hm⟩⟩
structure Bo (w : World) (g o : Nat) (P R : List Value) (T : TypeId) (cs : List Value) : Prop where
 bx : Bx w g T (P ++ cs ++ R).toArray
 len : P.length = o
theorem Bo.keep {w w' : World} {g o : Nat} {P R : List Value} {T : TypeId} {cs : List Value} (h : Bo w g o P R T cs) (hb : Below w.heap.size w w') : Bo w' g o P R T cs := ⟨h.bx.keep hb, h.len⟩
instance {w w' : World} {g o : Nat} {P R : List Value} {T : TypeId} {cs : List Value} : Goes (Bo w g o P R T cs) w w' (Bo w' g o P R T cs) := ⟨fun h hb => h.keep hb⟩
theorem Bo.only {w w' : World} {g o g' : Nat} {P R : List Value} {T : TypeId} {cs : List Value} (h : Bo w g o P R T cs) (hb : w.grownBy w' (some g')) (hne : g ≠ g') : Bo w' g o P R T cs := ⟨h.bx.only hb hne, h.len⟩
theorem Bo.at {w : World} {g o : Nat} {P R : List Value} {T : TypeId} {cs : List Value} (h : Bo w g o P R T cs) (j : Nat) (hj : j < cs.length) : w.cell? ⟨g, o + j, none⟩ = cs[j]? ∧ w.frozen? ⟨g, o + j, none⟩ = false := by
 refine ⟨?_, h.bx.at.2 _⟩; rw [h.bx.at.1]; simp only [List.getElem?_toArray]; rw [List.append_assoc, List.getElem?_append_right (by rw [h.len]; omega), h.len, Nat.add_sub_cancel_left, List.getElem?_append_left hj]
theorem Bo.set {w : World} {g o : Nat} {P R : List Value} {T : TypeId} {cs : List Value} (h : Bo w g o P R T cs) (j : Nat) (hj : j < cs.length) (u : Value) : Bo (w.setCell ⟨g, o + j, none⟩ u) g o P R T (cs.set j u) := by
 refine ⟨?_, h.len⟩; have h1 := h.bx.set (o + j) u
 rw [show (P ++ cs ++ R).toArray.setIfInBounds (o + j) u = (P ++ cs.set j u ++ R).toArray by
  rw [List.setIfInBounds_toArray, List.append_assoc, List.set_append_right _ _ (by rw [h.len]; omega), h.len, Nat.add_sub_cancel_left, List.set_append_left _ _ hj, ← List.append_assoc]] at h1
 exact h1
theorem Bo.lt {w : World} {g o : Nat} {P R : List Value} {T : TypeId} {cs : List Value} (h : Bo w g o P R T cs) : g < w.heap.size := h.bx.lt
structure OwB {α : Type} [El α] (G B : Nat) (w : World) (g off : Nat) (l : List α) : Prop where
 leG : G ≤ B
 le : B ≤ g
 oks : ∀ x ∈ l, El.ok G w x
 bx : ∃ P R : List Value, P.length = off ∧ Bx w g (El.T α) (P ++ l.flatMap El.cells ++ R).toArray
theorem OwB.keep {α : Type} [El α] {w w' : World} {B g off : Nat} {l : List α} (h : OwB G B w g off l) (hb : Below w.heap.size w w') : OwB G B w' g off l := by
 obtain ⟨h0, h1, h2, P, R, h3, h4⟩ := h; exact ⟨h0, h1, fun x hx => El.keep (h2 x hx) hb, P, R, h3, h4.keep hb⟩
instance {α : Type} [El α] {w w' : World} {B g off : Nat} {l : List α} : Goes (OwB G B w g off l) w w' (OwB G B w' g off l) := ⟨fun h hb => h.keep hb⟩
theorem OwB.far {α : Type} [El α] {w w' : World} {B g off g' : Nat} {l : List α} {T' : TypeId} {ys : Array Value} (h : OwB G B w g off l) (k : Bx w g' T' ys) (hT : (El.T α :: El.deep α).contains T' = false) (hG : G ≤ g') (hg : w.grownBy w' (some g')) : OwB G B w' g off l := by
 have h1 : (T' == El.T α) = false ∧ (El.deep α).contains T' = false := by
  simp only [List.contains_cons, Bool.or_eq_false_iff] at hT; exact hT
 obtain ⟨h0, h2, h3, P, R, h4, h5⟩ := h; have hne := k.ne_ty h5 h1.1; exact ⟨h0, h2, fun x hx => El.far (h3 x hx) k h1.2 hG hg, P, R, h4, h5.only hg (Ne.symm hne)⟩
theorem OwB.lt {α : Type} [El α] {w : World} {B g off : Nat} {l : List α} (h : OwB G B w g off l) : g < w.heap.size := by obtain ⟨P, R, -, h1⟩ := h.bx; exact h1.lt
theorem flatMap_len {α : Type} [El α] (l : List α) : (l.flatMap El.cells).length = l.length * El.sz α := by
 induction l with
 | nil => simp
 | cons x r ih => simp only [List.flatMap_cons, List.length_append, ih, El.len, List.length_cons, Nat.add_mul]; omega
theorem OwB.rd {α : Type} [El α] {w : World} {B g off : Nat} {l : List α} (h : OwB G B w g off l) : RdB G w g off l := by
 obtain ⟨-, -, h2, P, R, h3, h4⟩ := h; refine ⟨h4.lt, .inr ⟨_, _, h4⟩, h2, fun k x j u hk hj => ?_⟩; rw [h4.at.1]; simp only [List.getElem?_toArray]; have hkl : k < l.length := (List.getElem?_eq_some_iff.1 hk).1; have hjs : j < El.sz α := by have := (List.getElem?_eq_some_iff.1 hj).1; rwa [El.len] at this
 have hlt : k * El.sz α + j < l.length * El.sz α := by
  have : (k + 1) * El.sz α ≤ l.length * El.sz α := Nat.mul_le_mul_right _ hkl; rw [Nat.succ_mul] at this; omega
 rw [List.append_assoc, List.getElem?_append_right (by omega), List.getElem?_append_left (by rw [flatMap_len]; omega), show off + k * El.sz α + j - P.length = k * El.sz α + j by omega]; have hf : l.flatMap El.cells = (l.map El.cells).flatten := by rw [List.flatMap_def]
 rw [hf, flatten_get (n := El.sz α) (fun y hy => by obtain ⟨z, -, rfl⟩ := List.mem_map.1 hy; exact El.len z) (by simpa using hkl) hjs]; simp only [List.getElem_map]; rw [← hj]; congr 2; exact (List.getElem?_eq_some_iff.1 hk).2
theorem OwB.open {α : Type} [El α] {w : World} {B g off : Nat} {p r : List α} {x : α} (h : OwB G B w g off (p ++ x :: r)) : ∃ P R : List Value, Bo w g (off + p.length * El.sz α) P R (El.T α) (El.cells x) ∧ El.ok G w x ∧ (∀ y ∈ p ++ r, El.ok G w y) ∧ B ≤ g ∧
 ∀ (w' : World) (x' : α), Bo w' g (off + p.length * El.sz α) P R (El.T α) (El.cells x') → El.ok G w' x' → (∀ y ∈ p ++ r, El.ok G w' y) → OwB G B w' g off (p ++ x' :: r) := by
 obtain ⟨h0, h1, h2, P, R, h3, h4⟩ := h; have hs : ∀ z : α, P ++ (p ++ z :: r).flatMap El.cells ++ R = (P ++ p.flatMap El.cells) ++ El.cells z ++ (r.flatMap El.cells ++ R) := fun z => by simp [List.append_assoc]
 refine ⟨P ++ p.flatMap El.cells, r.flatMap El.cells ++ R, ⟨by rw [← hs]; exact h4, by rw [List.length_append, flatMap_len, h3]⟩, h2 x (by simp), fun y hy => h2 y (by simp at hy ⊢; rcases hy with hy | hy <;> simp [hy]), h1, fun w' x' hb hx hr => ⟨h0, h1, fun y hy => ?_, P, R, h3, by rw [hs]; exact hb.bx⟩⟩
 simp at hy
 rcases hy with hy | rfl | hy
 · exact hr y (by simp [hy])
 · exact hx
 · exact hr y (by simp [hy])
theorem OwB.new {α : Type} [El α] {w : World} {B g : Nat} {l : List α} {cs : Array Value} (hb : Bx w g (El.T α) cs) (hc : cs = (l.flatMap El.cells).toArray) (hG : G ≤ B) (hB : B ≤ g) (ho : ∀ x ∈ l, El.ok G w x) : OwB G B w g 0 l :=
 ⟨hG, hB, ho, [], [], rfl, by rw [hc] at hb; simpa using hb⟩
theorem OwB.of_own {α : Type} [El α] {w : World} {B : Nat} {v : Value} {l : List α} (h : w.ownsRow B (El.T α) (El.sz α) v l.length (l.flatMap El.cells)) (hG : G ≤ B) (ho : ∀ x ∈ l, El.ok G w x) :
 (v = .slice none 0 0 ∧ l = []) ∨ ∃ g c, v = .slice (some ⟨g, 0, none⟩) l.length c ∧ l.length ≤ c ∧ B ≤ g ∧ OwB G B w g 0 l := by
 rcases h.2 with ⟨h1, h0⟩ | ⟨g, cap, cur, h1, hg, hh, hc, hx, hs, r⟩
 · exact .inl ⟨h1, List.eq_nil_of_length_eq_zero h0⟩
 · refine .inr ⟨g, cap, h1, hc, hg, ⟨hG, hg, ho, [], cur.toList.drop (l.length * El.sz α), rfl, ?_⟩⟩
   rw [List.nil_append, ← r, List.take_append_drop]
   simpa [Bx] using hh
theorem El.grown {α : Type} [El α] {w w' : World} {x : α} {B n : Nat} {e : TypeId} {size : Nat} {v : Value} {xs : List Value} (h : El.ok G w x) (ho : w.ownsRow B e size v n xs) (he : (El.deep α).contains e = false) (hG : G ≤ B) (hg : w.grownBy w' v.ownBlock) : El.ok G w' x := by
 rcases own_block ho with h1 | ⟨g, cur, h1, h2, h3⟩
 · rw [h1] at hg; exact El.keep h (below_none_ hg)
 · rw [h1] at hg; exact El.far h h3 he (by omega) hg
structure OwV {α : Type} [El α] (G B : Nat) (w : World) (v : Value) (l : List α) : Prop where
 leG : G ≤ B
 own : w.ownsRow B (El.T α) (El.sz α) v l.length (l.flatMap El.cells)
 oks : ∀ x ∈ l, El.ok G w x
theorem OwV.keep {α : Type} [El α] {w w' : World} {B : Nat} {v : Value} {l : List α} (h : OwV G B w v l) (hb : Below w.heap.size w w') : OwV G B w' v l :=
 ⟨h.leG, own_below h.own hb, fun x hx => El.keep (h.oks x hx) hb⟩
instance {α : Type} [El α] {w w' : World} {B : Nat} {v : Value} {l : List α} : Goes (OwV G B w v l) w w' (OwV G B w' v l) := ⟨fun h hb => h.keep hb⟩
theorem OwV.nil {α : Type} [El α] {B : Nat} (w : World) (hG : G ≤ B) : OwV G B w (.slice none 0 0) ([] : List α) :=
 ⟨hG, World.ownsRow_nil _ _ _ _, fun x hx => by simp at hx⟩
theorem OwV.far {α : Type} [El α] {w w' : World} {B g : Nat} {v : Value} {l : List α} {T' : TypeId} {ys : Array Value} (h : OwV G B w v l) (k : Bx w g T' ys) (hT : (El.T α :: El.deep α).contains T' = false) (hG : G ≤ g) (hg : w.grownBy w' (some g)) : OwV G B w' v l := by
 have h1 : (T' == El.T α) = false ∧ (El.deep α).contains T' = false := by
  simp only [List.contains_cons, Bool.or_eq_false_iff] at hT; exact hT
 refine ⟨h.leG, h.own.kept hg ?_, fun x hx => El.far (h.oks x hx) k h1.2 hG hg⟩; rcases own_block h.own with h2 | ⟨g', cur, h2, -, h3⟩
 · exact .inl h2
 · refine .inr ?_
   rw [h2]
   simp
   exact Ne.symm (k.ne_ty h3 h1.1)
theorem Bx.grownT {w w' : World} {g : Nat} {T : TypeId} {cs : Array Value} {B : Nat} {e : TypeId} {size n : Nat} {v : Value} {xs : List Value} (h : Bx w g T cs) (ho : w.ownsRow B e size v n xs) (hT : (T == e) = false) (hg : w.grownBy w' v.ownBlock) : Bx w' g T cs := by
 rcases own_block ho with h1 | ⟨g', cur, h1, h2, h3⟩
 · rw [h1] at hg; exact h.keep (below_none_ hg)
 · rw [h1] at hg; exact h.only hg (h.ne_ty h3 hT)
theorem RdL.grown {α : Type} [El α] {w w' : World} {a : Option Addr} {n' c : Nat} {l : List α} {B : Nat} {e : TypeId} {size n : Nat} {v : Value} {xs : List Value} (h : RdL G w a n' c l) (ho : w.ownsRow B e size v n xs) (hT : (El.T α :: El.deep α).contains e = false) (hG : G ≤ B) (hg : w.grownBy w' v.ownBlock) : RdL G w' a n' c l := by
 rcases own_block ho with h1 | ⟨g', cur, h1, h2, h3⟩
 · rw [h1] at hg; exact h.keep (below_none_ hg)
 · rw [h1] at hg; exact h.far h3 hT (by omega) hg
theorem OwV.push {α : Type} [El α] {P : Program} {t : TypeId} {z : Value} {bytes B : Nat} {v : Value} {l : List α} {w : World} (h : OwV G B w v l) (E : ElemT P t (El.T α) z (El.sz α) bytes) (ty : TypeId) {b : Nat} {x : α} {cs : Array Value} (hb : Bx w b (El.T α) cs) (hc : cs = (El.cells x).toArray) (hx : El.ok G w x)
 (hd : (El.deep α).contains (El.T α) = false) (hbytes : (l.length + 1) * bytes ≤ 140737488355328) (h63 : l.length + 1 ≤ 140737488355328) (hB : B ≤ w.heap.size) :
 ∃ v' w', (Builtin.append_ #[t, t] ty #[v, .slice (some ⟨b, 0, none⟩) 1 1]).run P w = .ok v' w' ∧ OwV G B w' v' (l ++ [x]) ∧ w.grownBy w' v.ownBlock := by
 obtain ⟨i0, hi, hz0, hz1, hz2⟩ := info_parts E.info
 obtain ⟨v', w', h1, h2, h3, -⟩ := run_append_own (P := P) w B t ty (El.T α) i0 z (El.sz α) bytes E.under hi hz0 hz1 hz2 E.cells E.pos v l.length (l.flatMap El.cells) h.own ⟨b, 0, none⟩ 1 1 (El.cells x) (by rw [El.len, Nat.one_mul])
   (fun j u hj => by rw [add_off, Nat.zero_add, hb.at.1, hc]; simpa using hj) (El.one hx) (by unfold maxLen; omega) hbytes hB
 refine ⟨v', w', h1, ⟨h.leG, ?_, fun y hy => ?_⟩, h3⟩
 · rw [List.length_append, List.flatMap_append]; simpa using h2
 · rcases List.mem_append.1 hy with hy | hy
   · exact El.grown (h.oks y hy) h.own hd h.leG h3
   · simp at hy; subst hy; exact El.grown hx h.own hd h.leG h3
theorem OwV.rdl {α : Type} [El α] {w : World} {B n : Nat} {v : Value} {l : List α} (h : OwV G B w v l) (hl : l.length = n) : ∃ a c, v = .slice a n c ∧ RdL G w a n c l := by
 subst hl; rcases OwB.of_own h.own h.leG h.oks with ⟨rfl, rfl⟩ | ⟨g, c, rfl, h4, -, h5⟩
 · exact ⟨none, 0, rfl, RdL.nil _ _ _⟩
 · exact ⟨_, c, rfl, RdL.of h5.rd rfl h4⟩
theorem RdL.f {α : Type} [El α] {w v : World} {g1 : Nat} {T : TypeId} {ys : Array Value} {l : List α} {a : Option Addr} {n c : Nat} (h : RdL G w a n c l) (k : Bx w g1 T ys) (hg : w.grownBy v (some g1)) (hT : (El.T α :: El.deep α).contains T = false := by rfl) (hG : G ≤ g1 := by omega) : RdL G v a n c l := h.far k hT hG hg
theorem RdB.f {α : Type} [El α] {w v : World} {g1 : Nat} {T : TypeId} {ys : Array Value} {l : List α} {b off : Nat} (h : RdB G w b off l) (k : Bx w g1 T ys) (hg : w.grownBy v (some g1)) (hT : (El.T α :: El.deep α).contains T = false := by rfl) (hG : G ≤ g1 := by omega) : RdB G v b off l := h.far k hT hG hg
theorem OwB.f {α : Type} [El α] {w v : World} {g1 : Nat} {T : TypeId} {ys : Array Value} {l : List α} {B g off : Nat} (h : OwB G B w g off l) (k : Bx w g1 T ys) (hg : w.grownBy v (some g1)) (hT : (El.T α :: El.deep α).contains T = false := by rfl) (hG : G ≤ g1 := by omega) : OwB G B v g off l := h.far k hT hG hg
theorem OwV.f {α : Type} [El α] {w v : World} {g1 : Nat} {T : TypeId} {ys : Array Value} {l : List α} {B : Nat} {u : Value} (h : OwV G B w u l) (k : Bx w g1 T ys) (hg : w.grownBy v (some g1)) (hT : (El.T α :: El.deep α).contains T = false := by rfl) (hG : G ≤ g1 := by omega) : OwV G B v u l := h.far k hT hG hg
theorem Bo.o {w w1 : World} {g o g1 : Nat} {P R : List Value} {T : TypeId} {cs : List Value} (h : Bo w g o P R T cs) (hb : w.grownBy w1 (some g1)) (hn : g ≠ g1 := by omega) : Bo w1 g o P R T cs := h.only hb hn
end Go.Proofs.YtlcgckelamhnpaaGreat
