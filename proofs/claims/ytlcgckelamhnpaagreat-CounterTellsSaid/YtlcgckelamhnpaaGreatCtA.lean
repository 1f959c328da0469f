/- Meters, readings and marks in memory; the interval of a reading. -/
import Derived.Test.YtlcgckelamhnpaaGreatRw
import Derived.Test.YtlcgckelamhnpaaGreatScaleI
import Derived.Test.YtlcgckelamhnpaaGreatLexSpec
namespace Go.Proofs.YtlcgckelamhnpaaGreat
open Go.RowKit Go.Lib
variable {G : Nat}
theorem Bx.d3 {w : World} {g : Nat} {T : TypeId} {u0 u1 u2 : Value} (h : Bx w g T #[u0, u1, u2]) : w.cell? ⟨g, 0, none⟩ = some u0 ∧ w.cell? ⟨g, 1, none⟩ = some u1 ∧ w.cell? ⟨g, 2, none⟩ = some u2 :=
 ⟨h.at.1 0, h.at.1 1, h.at.1 2⟩
theorem Bx.c3 {w : World} {g : Nat} {T : TypeId} {u0 u1 u2 : Value} (h : Bx w g T #[u0, u1, u2]) : w.cell? ⟨g, 0, none⟩ = some u0 ∧ w.frozen? ⟨g, 0, none⟩ = false ∧ w.cell? ⟨g, 1, none⟩ = some u1 ∧ w.frozen? ⟨g, 1, none⟩ = false ∧ w.cell? ⟨g, 2, none⟩ = some u2 ∧ w.frozen? ⟨g, 2, none⟩ = false :=
 ⟨h.at.1 0, h.at.2 0, h.at.1 1, h.at.2 1, h.at.1 2, h.at.2 2⟩
theorem Bx.c9 {w : World} {g : Nat} {T : TypeId} {u0 u1 u2 u3 u4 u5 u6 u7 u8 : Value} (h : Bx w g T #[u0, u1, u2, u3, u4, u5, u6, u7, u8]) : w.cell? ⟨g, 0, none⟩ = some u0 ∧ w.frozen? ⟨g, 0, none⟩ = false ∧ w.cell? ⟨g, 1, none⟩ = some u1 ∧ w.frozen? ⟨g, 1, none⟩ = false ∧ w.cell? ⟨g, 2, none⟩ = some u2 ∧ w.frozen? ⟨g, 2, none⟩ = false ∧ w.cell? ⟨g, 3, none⟩ = some u3 ∧ w.frozen? ⟨g, 3, none⟩ = false ∧ w.cell? ⟨g, 4, none⟩ = some u4 ∧ w.frozen? ⟨g, 4, none⟩ = false ∧ w.cell? ⟨g, 5, none⟩ = some u5 ∧ w.frozen? ⟨g, 5, none⟩ = false ∧ w.cell? ⟨g, 6, none⟩ = some u6 ∧ w.frozen? ⟨g, 6, none⟩ = false ∧ w.cell? ⟨g, 7, none⟩ = some u7 ∧ w.frozen? ⟨g, 7, none⟩ = false ∧ w.cell? ⟨g, 8, none⟩ = some u8 ∧ w.frozen? ⟨g, 8, none⟩ = false :=
 ⟨h.at.1 0, h.at.2 0, h.at.1 1, h.at.2 1, h.at.1 2, h.at.2 2, h.at.1 3, h.at.2 3, h.at.1 4, h.at.2 4, h.at.1 5, h.at.2 5, h.at.1 6, h.at.2 6, h.at.1 7, h.at.2 7, h.at.1 8, h.at.2 8⟩
theorem Row.c3 {w : World} {b o : Nat} {u0 u1 u2 : Value} (h : Row w b o [u0, u1, u2]) : w.cell? ⟨b, o, none⟩ = some u0 ∧ w.cell? ⟨b, o + 1, none⟩ = some u1 ∧ w.cell? ⟨b, o + 2, none⟩ = some u2 :=
 ⟨h.2 0 _ rfl, h.2 1 _ rfl, h.2 2 _ rfl⟩
theorem Row.c9 {w : World} {b o : Nat} {u0 u1 u2 u3 u4 u5 u6 u7 u8 : Value} (h : Row w b o [u0, u1, u2, u3, u4, u5, u6, u7, u8]) : w.cell? ⟨b, o, none⟩ = some u0 ∧ w.cell? ⟨b, o + 1, none⟩ = some u1 ∧ w.cell? ⟨b, o + 2, none⟩ = some u2 ∧ w.cell? ⟨b, o + 3, none⟩ = some u3 ∧ w.cell? ⟨b, o + 4, none⟩ = some u4 ∧ w.cell? ⟨b, o + 5, none⟩ = some u5 ∧ w.cell? ⟨b, o + 6, none⟩ = some u6 ∧ w.cell? ⟨b, o + 7, none⟩ = some u7 ∧ w.cell? ⟨b, o + 8, none⟩ = some u8 :=
 ⟨h.2 0 _ rfl, h.2 1 _ rfl, h.2 2 _ rfl, h.2 3 _ rfl, h.2 4 _ rfl, h.2 5 _ rfl, h.2 6 _ rfl, h.2 7 _ rfl, h.2 8 _ rfl⟩
theorem FQ.one {w : World} {u0 u1 u2 u3 : Value} {q : Rat} (h : FQ G w u0 u1 u2 u3 q) : u0.oneCell' = true ∧ u1.oneCell' = true ∧ u2.oneCell' = true ∧ u3.oneCell' = true := by
 obtain ⟨a, c, b, d, rfl, rfl, rfl, rfl, -⟩ := h; exact ⟨rfl, rfl, rfl, rfl⟩
theorem tnot {t : TypeId} (h : ([3] : List TypeId).contains t = false) : (t == 3) = false := by
 simp only [List.contains_cons, Bool.or_eq_false_iff] at h; exact h.1
instance : El Mt where
 cells x := [.int .i64 x.s, .int .i64 x.f, .int .i64 x.u]
 sz := 3
 T := 49
 deep := []
 ok _ _ _ := True
 len := fun _ => rfl
 one := by
  rintro G w x - u hu
  simp at hu; rcases hu with rfl | rfl | rfl <;> rfl
 keep := fun _ _ => trivial
 far := fun _ _ _ _ _ => trivial
instance : El Rg where
 cells x := [.int .i64 x.m, .int .i64 x.d, .int .i64 x.c]
 sz := 3
 T := 51
 deep := []
 ok _ _ _ := True
 len := fun _ => rfl
 one := by
  rintro G w x - u hu
  simp at hu; rcases hu with rfl | rfl | rfl <;> rfl
 keep := fun _ _ => trivial
 far := fun _ _ _ _ _ => trivial
structure MkC where
 d : Int
 u0 : Value
 u1 : Value
 u2 : Value
 u3 : Value
 lo : Rat
 v0 : Value
 v1 : Value
 v2 : Value
 v3 : Value
 hi : Rat
def MkC.mk' (x : MkC) : Mk := ⟨x.d, x.lo, x.hi⟩
instance : El MkC where
 cells x := [.int .i64 x.d, x.u0, x.u1, x.u2, x.u3, x.v0, x.v1, x.v2, x.v3]
 sz := 9
 T := 81
 deep := [3]
 ok G w x := FQ G w x.u0 x.u1 x.u2 x.u3 x.lo ∧ FQ G w x.v0 x.v1 x.v2 x.v3 x.hi
 len := fun _ => rfl
 one := by
  rintro G w x ⟨h, k⟩ u hu
  have h := FQ.one h
  have k := FQ.one k
  simp at hu; rcases hu with rfl | rfl | rfl | rfl | rfl | rfl | rfl | rfl | rfl
  · rfl
  · exact h.1
  · exact h.2.1
  · exact h.2.2.1
  · exact h.2.2.2
  · exact k.1
  · exact k.2.1
  · exact k.2.2.1
  · exact k.2.2.2
 keep := fun h hb => ⟨FQ.keep h.1 hb, FQ.keep h.2 hb⟩
 far := fun h k hT hG hg => ⟨FQ.far h.1 k (tnot hT) hG hg, FQ.far h.2 k (tnot hT) hG hg⟩
abbrev RdMt (G : Nat) (w : World) (a : Option Addr) (n c : Nat) (l : List Mt) : Prop := RdL G w a n c l
abbrev RdRg (G : Nat) (w : World) (a : Option Addr) (n c : Nat) (l : List Rg) : Prop := RdL G w a n c l
abbrev RdM (G : Nat) (w : World) (a : Option Addr) (n c : Nat) (l : List MkC) : Prop := RdL G w a n c l
abbrev OwVM (G B : Nat) (w : World) (v : Value) (l : List MkC) : Prop := OwV G B w v l
structure HdM where
 a : Option Addr
 n : Nat
 c : Nat
 l : List MkC
instance : El HdM where
 cells x := [.slice x.a x.n x.c]
 sz := 1
 T := 59
 deep := [81, 3]
 ok G w x := RdM G w x.a x.n x.c x.l
 len := fun _ => rfl
 one := by
  rintro G w x - u hu
  simp at hu; subst hu; rfl
 keep := fun h hb => RdL.keep h hb
 far := fun h k hT hG hg => RdL.far h k hT hG hg
abbrev RdH (G : Nat) (w : World) (a : Option Addr) (n c : Nat) (l : List HdM) : Prop := RdL G w a n c l
def MkZ (l : List MkC) (N : Nat) : Prop := ∀ x ∈ l, Fz x.lo N ∧ Fz x.hi N
theorem MkZ.mono {l : List MkC} {n m : Nat} (h : MkZ l n) (hm : n ≤ m) : MkZ l m := fun x hx => ⟨(h x hx).1.mono hm, (h x hx).2.mono hm⟩
theorem iv_u {ac ar : Option Addr} {cc cr : Nat} {cs : List Ct} {rr : List Rc} {sc rd day : Int} {lo hi : Option Rat} {b_ : Bool} {w : World} (hG : G ≤ w.heap.size) (h1 : CtIn w (.slice ac cs.length cc) cs) (h2 : RcIn w (.slice ar rr.length cr) rr) (hn1 : cs.length ≤ 1099511627776) (hn2 : rr.length ≤ 1099511627776) (hlo : loO cs rr sc rd day = lo) (hhi : hiO cs rr sc rd day = hi) (hb : hasI cs rr sc rd day = b_) :
 Calls Tryz.prog 40 #[.slice ac cs.length cc, .slice ar rr.length cr, .int .i64 sc, .int .i64 rd, .int .i64 day] w fun e w' => ∃ x0 x1 x2 x3 x4 x5 x6 x7, e = .returned (.tuple #[.agg #[x0, x1, x2, x3], .agg #[x4, x5, x6, x7], .bool b_]) ∧ OQ G w' x0 x1 x2 x3 lo ∧ OQ G w' x4 x5 x6 x7 hi ∧ Below w.heap.size w w' := by
 subst hlo hhi hb; refine (scInterval_all (G := G) h1 h2 hn1 hn2 hG).mono ?_; rintro e w' ⟨a, c, b, d, a', c', b', d', rfl, k1, k2, k3, k4, hb⟩; exact ⟨_, _, _, _, _, _, _, _, rfl, OQ.of k1 k2, OQ.of k3 k4, hb⟩
theorem oq_fx {w : World} {u0 u1 u2 u3 : Value} (h : OQ G w u0 u1 u2 u3 none) : FX w u0 u1 u2 u3 0 0 none := by
 obtain ⟨a, c, b, d, rfl, rfl, rfl, rfl, -⟩ := h; exact ⟨0, a, c, 0, b, d, [], [], rfl, rfl, rfl, rfl, rfl, rfl, ⟨rdZ_nil _ _ _, rdZ_nil _ _ _, Nat.zero_le _, Nat.zero_le _⟩, .inl ⟨rfl, rfl⟩⟩
def ivOf (cs : List Ct) (rr : List Rc) : Iv := fun s c d => ivl cs rr s c d
theorem Bx.D3 {w : World} {g : Nat} {T : TypeId} {u0 u1 u2 : Value} {C : Prop} (h : Bx w g T #[u0, u1, u2]) (k : w.cell? ⟨g, 0, none⟩ = some u0 → w.cell? ⟨g, 1, none⟩ = some u1 → w.cell? ⟨g, 2, none⟩ = some u2 → C) : C := k (h.at.1 0) (h.at.1 1) (h.at.1 2)
theorem Bx.D9 {w : World} {g : Nat} {T : TypeId} {u0 u1 u2 u3 u4 u5 u6 u7 u8 : Value} {C : Prop} (h : Bx w g T #[u0, u1, u2, u3, u4, u5, u6, u7, u8]) (k : w.cell? ⟨g, 0, none⟩ = some u0 → w.cell? ⟨g, 1, none⟩ = some u1 → w.cell? ⟨g, 2, none⟩ = some u2 → w.cell? ⟨g, 3, none⟩ = some u3 → w.cell? ⟨g, 4, none⟩ = some u4 → w.cell? ⟨g, 5, none⟩ = some u5 → w.cell? ⟨g, 6, none⟩ = some u6 → w.cell? ⟨g, 7, none⟩ = some u7 → w.cell? ⟨g, 8, none⟩ = some u8 → C) : C := k (h.at.1 0) (h.at.1 1) (h.at.1 2) (h.at.1 3) (h.at.1 4) (h.at.1 5) (h.at.1 6) (h.at.1 7) (h.at.1 8)
theorem rg3W {P : Program} {ops : Array Oper} {Q : Exit → Act → World → Prop} {id : Nat} {a : Act} {w v : World} (hv : v = w.drew) {g : Nat} {T : TypeId} {u0 u1 u2 : Value} (h : Bx v g T #[u0, u1, u2]) (k : v.cell? ⟨g, 0, none⟩ = some u0 ∧ v.cell? ⟨g, 1, none⟩ = some u1 ∧ v.cell? ⟨g, 2, none⟩ = some u2 → wpAnyH P .any ops Q (fun w' => w'.cell? ⟨g, 0, none⟩ = some u0 ∧ w'.cell? ⟨g, 1, none⟩ = some u1 ∧ w'.cell? ⟨g, 2, none⟩ = some u2) ops.size (Array.replicate ops.size false) a v) (hm : P.follows .mixedOrders = true := by kernel_rfl) : (Code.region id ops true).wp P Q a w := rgW (S := fun w' => w'.cell? ⟨g, 0, none⟩ = some u0 ∧ w'.cell? ⟨g, 1, none⟩ = some u1 ∧ w'.cell? ⟨g, 2, none⟩ = some u2) hv h.d3 k hm
end Go.Proofs.YtlcgckelamhnpaaGreat
