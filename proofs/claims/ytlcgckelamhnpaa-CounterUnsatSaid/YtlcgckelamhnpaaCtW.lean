/- Which stations and histories are small. -/
import Derived.Test.YtlcgckelamhnpaaBase
import Derived.Test.YtlcgckelamhnpaaBigSpec
import Derived.Test.YtlcgckelamhnpaaBigB
import Derived.Test.YtlcgckelamhnpaaBigC
import Derived.Test.YtlcgckelamhnpaaBigD
import Derived.Test.YtlcgckelamhnpaaBigK
import Derived.Test.YtlcgckelamhnpaaBigQ
import Derived.Test.YtlcgckelamhnpaaFd
import Derived.Test.YtlcgckelamhnpaaHeld
import Derived.Test.YtlcgckelamhnpaaAw
import Derived.Test.YtlcgckelamhnpaaFracC
import Derived.Test.YtlcgckelamhnpaaFz
import Derived.Test.YtlcgckelamhnpaaFracR
import Derived.Test.YtlcgckelamhnpaaRefF
import Derived.Test.YtlcgckelamhnpaaRw
import Derived.Test.YtlcgckelamhnpaaScaleE
import Derived.Test.YtlcgckelamhnpaaScaleI
import Derived.Test.YtlcgckelamhnpaaCtLaws
import Derived.Test.YtlcgckelamhnpaaCtA
import Derived.Test.YtlcgckelamhnpaaCtC
import Derived.Test.YtlcgckelamhnpaaLexSpec
import Derived.Test.YtlcgckelamhnpaaCtD
import Derived.Test.YtlcgckelamhnpaaCtE
import Derived.Test.YtlcgckelamhnpaaCtF
import Derived.Test.YtlcgckelamhnpaaCtL
import Derived.Test.YtlcgckelamhnpaaCtHist
import Derived.Test.YtlcgckelamhnpaaCtM
import Derived.Test.YtlcgckelamhnpaaProg
import Derived.Test.YtlcgckelamhnpaaShelf
import Derived.WalkKit
import Derived.WalkSpells
import Derived.WalkLawsBesides
import Derived.Handy
import Derived.Lib.Hide
import Derived.Lib.Strings
import Derived.Lib.Builder
import Derived.BigQuiet
import Derived.OwnWalk
import Derived.Laws.BitsLemmas
import Derived.WalkSmall
import Derived.Deep.QuietTactic
import Derived.StillTailTactics
import Derived.Maps.AppendAt
import Derived.IntWalk
import Derived.Deep.RegionHeld3
import Derived.Deep.DeepFit
import Derived.Deep.LoopGhost
import Derived.Deep.DeepCutAuto
import Derived.Lib.ItoaNum
import Derived.Lib.Repeat
import Derived.Lib.AppendIntMem
import Derived.Sort.OwnSorted
import Derived.Shelf.Strings.SlTrimAscii
import Derived.Lib.ConvBytes
import Derived.Lib.CutLaws
import Derived.Shelf.Strings.Builder1
import Derived.ArgAppend
namespace Go.Proofs.Ytlcgckelamhnpaa
open Go.RowKit Go.Lib
variable {G : Nat}

theorem past_keepC {w0 w w' : World} (h : Below w0.heap.size w0 w) (hb : Below w.heap.size w w') : Below w0.heap.size w0 w' := below_call h hb
theorem past_farC {w0 w w' : World} {g : Nat} (h0 : w0.heap.size ≤ G) (h : Below w0.heap.size w0 w) (hG : G ≤ g) (hg : w.grownBy w' (some g)) : Below w0.heap.size w0 w' :=
 h.grown hg h.size fun k hk => by cases hk; omega
/-- A fraction of a history: its cells, how many digits it has, and what it is, if it is right. -/
structure XC where
 u0 : Value
 u1 : Value
 u2 : Value
 u3 : Value
 n : Nat
 m : Nat
 o : Option Rat
def XOk (G : Nat) (w : World) (u0 u1 u2 u3 : Value) (n m : Nat) : Option Rat → Prop
 | some q => FQ G w u0 u1 u2 u3 q ∧ n = ln (nu q) ∧ m = ln (de q)
 | none => ∃ w0 : World, w0.heap.size ≤ G ∧ FX w0 u0 u1 u2 u3 n m none ∧ Below w0.heap.size w0 w
theorem FX.oneC {w : World} {u0 u1 u2 u3 : Value} {n m : Nat} {o : Option Rat} (h : FX w u0 u1 u2 u3 n m o) : u0.oneCell' = true ∧ u1.oneCell' = true ∧ u2.oneCell' = true ∧ u3.oneCell' = true := by
 obtain ⟨s, a, c, t, b, d, l, k, rfl, rfl, rfl, rfl, -⟩ := h
 exact ⟨rfl, rfl, rfl, rfl⟩
theorem XOk.one {w : World} {u0 u1 u2 u3 : Value} {n m : Nat} {o : Option Rat} (h : XOk G w u0 u1 u2 u3 n m o) : u0.oneCell' = true ∧ u1.oneCell' = true ∧ u2.oneCell' = true ∧ u3.oneCell' = true := by
 cases o with
 | some q => exact FQ.one h.1
 | none => obtain ⟨w0, -, h, -⟩ := h; exact h.oneC
theorem XOk.keep {w w' : World} {u0 u1 u2 u3 : Value} {n m : Nat} {o : Option Rat} (h : XOk G w u0 u1 u2 u3 n m o) (hb : Below w.heap.size w w') : XOk G w' u0 u1 u2 u3 n m o := by
 cases o with
 | some q => exact ⟨FQ.keep h.1 hb, h.2⟩
 | none => obtain ⟨w0, h0, h, h1⟩ := h; exact ⟨w0, h0, h, past_keepC h1 hb⟩
theorem XOk.far {w w' : World} {g : Nat} {T : TypeId} {cs : Array Value} {u0 u1 u2 u3 : Value} {n m : Nat} {o : Option Rat} (h : XOk G w u0 u1 u2 u3 n m o) (k : Bx w g T cs) (hT : (T == 3) = false) (hG : G ≤ g) (hg : w.grownBy w' (some g)) : XOk G w' u0 u1 u2 u3 n m o := by
 cases o with
 | some q => exact ⟨FQ.far h.1 k hT hG hg, h.2⟩
 | none => obtain ⟨w0, h0, h, h1⟩ := h; exact ⟨w0, h0, h, past_farC h0 h1 hG hg⟩
theorem XOk.fx {w : World} {u0 u1 u2 u3 : Value} {n m : Nat} (h : XOk G w u0 u1 u2 u3 n m none) : FX w u0 u1 u2 u3 n m none := by
 obtain ⟨w0, -, h, h1⟩ := h; exact h.keep h1
theorem XOk.of {w : World} {u0 u1 u2 u3 : Value} {n m : Nat} {o : Option Rat} (h : FX w u0 u1 u2 u3 n m o) : XOk w.heap.size w u0 u1 u2 u3 n m o := by
 cases o with
 | some q => exact ⟨h.fq, h.isz⟩
 | none => exact ⟨w, Nat.le_refl _, h, Below.refl _ _⟩
instance : El XC where
  cells x := [x.u0, x.u1, x.u2, x.u3]
  sz := 4
  T := 38
  deep := [3]
  ok G w x := XOk G w x.u0 x.u1 x.u2 x.u3 x.n x.m x.o
  len := fun _ => rfl
  one := by
    rintro G w x h u hu
    have h := XOk.one h
    simp at hu; rcases hu with rfl | rfl | rfl | rfl
    · exact h.1
    · exact h.2.1
    · exact h.2.2.1
    · exact h.2.2.2
  keep := fun h hb => XOk.keep h hb
  far := fun h k hT hG hg => XOk.far h k (tnot hT) hG hg
abbrev RdX (G : Nat) (w : World) (a : Option Addr) (n c : Nat) (l : List XC) : Prop := RdL G w a n c l
abbrev OwVX (G B : Nat) (w : World) (v : Value) (l : List XC) : Prop := OwV G B w v l
/-- A meter's list of a history. -/
structure HdX where
 a : Option Addr
 n : Nat
 c : Nat
 l : List XC
instance : El HdX where
 cells x := [.slice x.a x.n x.c]
 sz := 1
 T := 68
 deep := [38, 3]
 ok G w x := RdX G w x.a x.n x.c x.l
 len := fun _ => rfl
 one := by
  rintro G w x - u hu
  simp at hu; subst hu; rfl
 keep := fun h hb => RdL.keep h hb
 far := fun h k hT hG hg => RdL.far h k hT hG hg
abbrev RdHX (G : Nat) (w : World) (a : Option Addr) (n c : Nat) (l : List HdX) : Prop := RdL G w a n c l
abbrev OwVH (G B : Nat) (w : World) (v : Value) (l : List HdX) : Prop := OwV G B w v l
/-- Fractions with few digits. -/
def XZ (l : List XC) (N : Nat) : Prop := ∀ x ∈ l, x.n ≤ N ∧ x.m ≤ N ∧ ∀ q, x.o = some q → Fz q N
def XZL (l : List HdX) (N : Nat) : Prop := ∀ x ∈ l, XZ x.l N
def HdX.vs (x : HdX) : List (Option Rat) := x.l.map XC.o
theorem valB_none {vs : List (Option Rat)} {i : Nat} (h : vs[i]? = some none) : valB vs i = false := by unfold valB; rw [h]
theorem valB_zero {vs : List (Option Rat)} {i : Nat} {q : Rat} (h : vs[i]? = some (some q)) (h0 : i = 0) {t : Bool} (ht : decide (q < 0) = t) : valB vs i = !t := by
 unfold valB; rw [h]
 show (decide (0 ≤ q) && (decide (i = 0) || _)) = _
 rw [decide_eq_true h0, Bool.true_or, Bool.and_true, ← ht]
 rw [← decide_not]; exact decide_eq_decide.2 Rat.not_lt.symm
theorem valB_next {vs : List (Option Rat)} {i : Nat} {p q : Rat} (h : vs[i]? = some (some q)) (h0 : 0 < i) (hp : vs[i - 1]? = some (some p)) {t u : Bool} (ht : decide (q < 0) = t) (hu : decide (q < p) = u) : valB vs i = (!t && !u) := by
 unfold valB; rw [h]
 show (decide (0 ≤ q) && (decide (i = 0) || (match vs[i - 1]? with | some (some p) => decide (p ≤ q) | _ => true))) = _
 rw [hp, decide_eq_false (show ¬ i = 0 by omega), Bool.false_or, ← ht, ← hu]
 show (decide (0 ≤ q) && decide (p ≤ q)) = (!decide (q < 0) && !decide (q < p))
 rw [← decide_not, ← decide_not, decide_eq_decide.2 (Rat.not_lt (a := q) (b := 0)), decide_eq_decide.2 (Rat.not_lt (a := q) (b := p))]
theorem range_next {p : Nat → Bool} {k : Nat} (h : (List.range k).all p = true) (h1 : p k = true) : (List.range (k + 1)).all p = true := by
 rw [List.range_succ, List.all_append, h]; simp [h1]
theorem range_no {p : Nat → Bool} {k n : Nat} (hk : k < n) (h1 : p k = false) : (List.range n).all p = false := by
 rw [List.all_eq_false]; exact ⟨k, List.mem_range.2 hk, by rw [h1]; simp⟩
theorem range_prev {p : Nat → Bool} {k j : Nat} (h : (List.range k).all p = true) (hj : j < k) : p j = true := List.all_eq_true.1 h j (List.mem_range.2 hj)
theorem val_some {vs : List (Option Rat)} {k j : Nat} (h : (List.range k).all (valB vs) = true) (hj : j < k) : ∃ q, vs[j]? = some (some q) := by
 obtain ⟨q, hq, -⟩ := valB_some (range_prev h hj); exact ⟨q, hq⟩
theorem x_at {l : List XC} {k : Nat} {x : XC} (h : l[k]? = some x) : (l.map XC.o)[k]? = some x.o := by rw [List.getElem?_map, h]; rfl
theorem fits_len {m : Mt} {l : List Mk} {vs : List (Option Rat)} (h : ¬ (vs.length : Int) = m.u - m.f + 1) : fitsB m l vs = false := by unfold fitsB; rw [decide_eq_false h]; rfl
theorem fits_val {m : Mt} {l : List Mk} {vs : List (Option Rat)} {k : Nat} (hk : k < vs.length) (h : valB vs k = false) : fitsB m l vs = false := by unfold fitsB; rw [range_no hk h]; simp
theorem fits_in {m : Mt} {l : List Mk} {vs : List (Option Rat)} (h : l.all (inB m vs) = false) : fitsB m l vs = false := by unfold fitsB; rw [h]; simp
theorem fits_yes {m : Mt} {l : List Mk} {vs : List (Option Rat)} (h0 : (vs.length : Int) = m.u - m.f + 1) (h1 : (List.range vs.length).all (valB vs) = true) (h2 : l.all (inB m vs) = true) : fitsB m l vs = true := by unfold fitsB; rw [decide_eq_true h0, h1, h2]; rfl
theorem inB_is {m : Mt} {vs : List (Option Rat)} {x : Mk} {j : Nat} {q : Rat} (hj : x.d = m.f + (j : Int)) (h : vs[j]? = some (some q)) {t : Bool} (ht : (decide (x.lo ≤ q) && decide (q ≤ x.hi)) = t) : inB m vs x = t := by
 unfold inB
 rw [show (x.d - m.f).toNat = j by omega, h]; exact ht
/-! ### What Allowed says -/
theorem hv_at {H : List HdX} {k : Nat} {y : HdX} (h : H[k]? = some y) : (H.map HdX.vs).getD k [] = y.l.map XC.o := by
 rw [List.getD_eq_getElem?_getD, List.getElem?_map, h]; rfl
def fitK (iv : Iv) (ms : List Mt) (rs : List Rg) (vs : List (List (Option Rat))) (i : Nat) : Bool := fitsB (ms.getD i ⟨0, 0, 0⟩) (marksL iv ms rs (i : Nat)) (vs.getD i [])
theorem allow_fe {iv : Iv} {nb big : Bool} {ms : List Mt} {rs : List Rg} {vs : List (List (Option Rat))} {fe : Int} (h : formedE nb big ms rs = fe) (h0 : ¬ fe = 0) : allowB iv nb big ms rs vs = false := by
 unfold allowB; rw [h, decide_eq_false h0]; rfl
theorem allow_len {iv : Iv} {nb big : Bool} {ms : List Mt} {rs : List Rg} {vs : List (List (Option Rat))} (h : ¬ vs.length = ms.length) : allowB iv nb big ms rs vs = false := by
 unfold allowB; rw [decide_eq_false h]; simp
theorem allow_no {iv : Iv} {nb big : Bool} {ms : List Mt} {rs : List Rg} {vs : List (List (Option Rat))} {k : Nat} (hk : k < ms.length) (h : fitK iv ms rs vs k = false) : allowB iv nb big ms rs vs = false := by
 unfold allowB
 rw [range_no (p := fun i => fitsB (ms.getD i ⟨0, 0, 0⟩) (marksL iv ms rs (i : Nat)) (vs.getD i [])) hk h]; simp
theorem allow_yes {iv : Iv} {nb big : Bool} {ms : List Mt} {rs : List Rg} {vs : List (List (Option Rat))} (h0 : formedE nb big ms rs = 0) (h1 : vs.length = ms.length) (h2 : (List.range ms.length).all (fitK iv ms rs vs) = true) : allowB iv nb big ms rs vs = true := by
 unfold allowB
 rw [decide_eq_true h0, decide_eq_true h1]
 exact h2
def LenX (H : List HdX) (n : Nat) : Prop := ∀ x ∈ H, x.l.length ≤ n
/-! ### Own lists of fractions -/
theorem OwV.no {α : Type} [El α] {w : World} {B : Nat} {v : Value} {l : List α} (h : OwV G B w v l) : v.ownBlock ≠ some w.heap.size := by
  rcases own_block h.own with h2 | ⟨g', cur, h2, -, h3⟩
  · rw [h2]; simp
  · rw [h2]; have := h3.lt; simp; omega
theorem OwV.far_no {α : Type} [El α] {w w' : World} {B g : Nat} {v : Value} {l : List α} {T' : TypeId} {ys : Array Value} (h : OwV G B w v l) (k : Bx w g T' ys) (hn : v.ownBlock ≠ some g) (hT : (El.deep α).contains T' = false) (hG : G ≤ g) (hg : w.grownBy w' (some g)) : OwV G B w' v l := by
  refine ⟨h.leG, h.own.kept hg ?_, fun x hx => El.far (h.oks x hx) k hT hG hg⟩
  rcases own_block h.own with h2 | ⟨g', cur, h2, -, h3⟩
  · exact .inl h2
  · exact .inr hn
theorem Bx.grownB {w w' : World} {g : Nat} {T : TypeId} {cs : Array Value} {B : Nat} {e : TypeId} {size n : Nat} {v : Value} {xs : List Value} (h : Bx w g T cs) (ho : w.ownsRow B e size v n xs) (hlt : g < B) (hg : w.grownBy w' v.ownBlock) : Bx w' g T cs := by
  rcases own_block ho with h1 | ⟨g', cur, h1, h2, h3⟩
  · rw [h1] at hg; exact h.keep (below_none_ hg)
  · rw [h1] at hg; exact h.only hg (by omega)
theorem elemFrC : ElemT Try.prog 68 38 (.agg #[.int .i64 0, .slice none 0 0, .int .i64 0, .slice none 0 0]) 4 64 := ⟨Try.underlying68, by kernel_rfl, rfl, by decide⟩
theorem elemHdX : ElemT Try.prog 54 68 (.slice none 0 0) 1 24 := ⟨Try.underlying54, by kernel_rfl, rfl, by decide⟩
def xcOf (u0 u1 u2 u3 : Value) (q : Rat) : XC := ⟨u0, u1, u2, u3, ln (nu q), ln (de q), some q⟩
theorem xc_ok {w : World} {u0 u1 u2 u3 : Value} {q : Rat} (h : FQ G w u0 u1 u2 u3 q) : El.ok G w (xcOf u0 u1 u2 u3 q) := (⟨h, rfl, rfl⟩ : XOk G w u0 u1 u2 u3 (ln (nu q)) (ln (de q)) (some q))
theorem XZ.push {l : List XC} {N : Nat} {u0 u1 u2 u3 : Value} {q : Rat} (h : XZ l N) (hq : Fz q N) : XZ (l ++ [xcOf u0 u1 u2 u3 q]) N := fun x hx => by
  rcases List.mem_append.1 hx with hx | hx
  · exact h x hx
  · simp at hx; subst hx; exact ⟨hq.1, hq.2, fun r hr => by cases hr; exact hq⟩
theorem XZ.nil {N : Nat} : XZ [] N := fun x hx => by cases hx
theorem hist_next {F : Int → Rat} {f : Int} {k : Nat} {l : List XC} {u0 u1 u2 u3 : Value} {q : Rat} {d : Int} (h : l.map XC.o = ((List.range k).map fun i : Nat => F (f + i)).map some) (hd : d = f + (k : Int)) (hq : F d = q) : (l ++ [xcOf u0 u1 u2 u3 q]).map XC.o = ((List.range (k + 1)).map fun i : Nat => F (f + i)).map some := by
 rw [List.map_append, h, List.range_succ, List.map_append, List.map_append, ← hq, hd]; rfl
theorem hist_end {F : Int → Rat} {f u : Int} {k : Nat} {l : List XC} {d : Int} (h : l.map XC.o = ((List.range k).map fun i : Nat => F (f + i)).map some) (hd : d = f + (k : Int)) (h1 : ¬ d ≤ u) (h2 : d ≤ u + 1) : l.map XC.o = (mkH f u F).map some := by
 rw [h]; unfold mkH; rw [show (u - f + 1).toNat = k by omega]
/-! ### How many digits -/
def MkP (l : List Mk) (N : Nat) : Prop := ∀ x ∈ l, Fz x.lo N ∧ Fz x.hi N
theorem leastP_fz {day : Int} {N : Nat} : ∀ {l : List Mk} {q : Rat}, MkP l N → Fz q N → Fz (l.foldl (leastF day) q) N
  | [], q, _, h => h
  | x :: l, q, hz, h => by
    rw [List.foldl_cons]
    refine leastP_fz (fun y hy => hz y (by simp [hy])) ?_
    unfold leastF
    split
    · exact Fz.maxQ h (hz x (by simp)).1
    · exact h
theorem mostP_oz {day : Int} {N : Nat} : ∀ {l : List Mk} {o : Option Rat}, MkP l N → Oz o N → Oz (l.foldl (mostF day) o) N
  | [], o, _, h => h
  | x :: l, o, hz, h => by
    rw [List.foldl_cons]
    refine mostP_oz (fun y hy => hz y (by simp [hy])) ?_
    unfold mostF
    split
    · exact h
    · have h2 := (hz x (by simp)).2
      cases o with
      | none => exact Oz.some_ h2
      | some q => exact Oz.some_ (Fz.minQ h h2)
theorem marks_p (cs : List Ct) (rr : List Rc) (ms : List Mt) (rs : List Rg) (m : Int) : MkP (marksL (ivOf cs rr) ms rs m) 60 := fun x hx => by
 obtain ⟨r, -, -, p, hp, rfl⟩ := mem_marks.1 hx
 have h := ivl_size (show ivl cs rr (mtAt ms m).s r.c r.d = some (p.1, p.2) from hp)
 exact ⟨h.1.mono (by omega), h.2.mono (by omega)⟩
theorem lowZ (cs : List Ct) (rr : List Rc) (ms : List Mt) (rs : List Rg) (m day : Int) : Fz (leastQ (marksL (ivOf cs rr) ms rs m) day) 60 := leastP_fz (marks_p cs rr ms rs m) ((Fz.int64 (x := 0) (by decide)).mono (by omega))
theorem optZ {b : Bool} {q : Rat} {N : Nat} (hN : 4 ≤ N) (h : Oz (opt b q) N) (h0 : b = false → q = 0) : Fz q N := by
  cases b
  · rw [h0 rfl]; exact (Fz.int64 (x := 0) (by decide)).mono hN
  · exact h
theorem highZ (cs : List Ct) (rr : List Rc) (ms : List Mt) (rs : List Rg) (m day : Int) : Oz (mostO (marksL (ivOf cs rr) ms rs m) day) 60 := mostP_oz (marks_p cs rr ms rs m) Oz.none_
end Go.Proofs.Ytlcgckelamhnpaa
namespace Go.Proofs.Ytlcgckelamhnpaa
open Go.RowKit Go.Lib
variable {G : Nat}

set_option maxRecDepth 100000 in
set_option maxHeartbeats 4000000 in
theorem ctFits {ms_ mf mu : Int} {vl : List XC} {va : Option Addr} {vn vc : Nat} {l : List MkC} {a : Option Addr} {n c : Nat} {b_ : Bool} {w : World} (hG : G ≤ w.heap.size) (h : RdM G w a n c l) (hv : RdX G w va vn vc vl) (_hn : n ≤ 1000000) (_hvn : vn ≤ 1000000) (hz : MkZ l 60) (hzx : XZ vl 60) (_hf : 0 ≤ mf) (_hfu : mf ≤ mu) (_hu : mu ≤ 1000000) (hin : ∀ x ∈ (l.map MkC.mk'), mf ≤ x.d ∧ x.d ≤ mu) (hmo : ∀ x ∈ l, x.lo ≤ x.hi) (hb : fitsB (⟨ms_, mf, mu⟩ : Mt) (l.map MkC.mk') (vl.map XC.o) = b_) :
  Calls Try.prog 40 #[.agg #[.int .i64 ms_, .int .i64 mf, .int .i64 mu], .slice a n c, .slice va vn vc] w fun e w' => e = .returned (.bool b_) ∧ Below w.heap.size w w' := by
 have HZ := Lib.hid hz; have HZX := Lib.hid hzx; have HB := Lib.hid hb; have HMO := Lib.hid hmo; have HIN : Hid (∀ x ∈ l, mf ≤ x.d ∧ x.d ≤ mu) := fun x hx => hin x.mk' (List.mem_map.2 ⟨x, hx, rfl⟩)
 clear hz hzx hb hin hmo
 have HL : Hid (RdM G w a n c l) := h
 have HVL : Hid (RdX G w va vn vc vl) := hv
 clear h hv
 have M : Hid (Below w.heap.size w w) := Below.refl _ _
 go_enter Try.func40, Try.ntmps40
 go_upto_region 1 with fail
 refine nmW (w.alloc (.cells #[.int .i64 ms_, .int .i64 mf, .int .i64 mu] 52)) fun w1 hv => ?_
 rw [← hv]
 replace M := alM hv M
 clear hv
 have hws_ : IntKind.i64.wrap (mu - mf) = mu - mf := by rw [IntKind.wrap_i64]; omega
 have hwt_ : IntKind.i64.wrap (mu - mf + 1) = mu - mf + 1 := by rw [IntKind.wrap_i64]; omega
 by_cases hln_ : (vn : Int) = mu - mf + 1
 ·
  have n1_ : ((vn : Int) != mu - mf + 1) = false := by rw [hln_]; simp
  have HLN := Lib.hid hln_; clear hln_
  refine cj3 (M.out.1).d3 fun aa ab ac => ?_
  go_wp2_with fail
  clear aa ab ac
  go_loopw [22] (fun i22 wr => ∃ (k : Nat), i22 = .int .i64 (k : Int) ∧ Hid (k ≤ vn) ∧ Hid ((List.range k).all (valB (vl.map XC.o)) = true) ∧ Hid (Bx wr w.heap.size 52 #[.int .i64 ms_, .int .i64 mf, .int .i64 mu] ∧ Below w.heap.size w wr)) (fun i22 _ => vn - (RowKit.intOf i22).toNat)
  case atStart =>
   exact ⟨0, rfl, (by show _ ≤ _; omega), (Lib.hid rfl), Lib.hid (aI (M.out.1) (J1 M))⟩
  case round =>
   obtain ⟨w2, rfl⟩ : ∃ x, x = wr := ⟨_, rfl⟩
   clear M
   obtain ⟨k, rfl, hk, HA, M⟩ := hrel
   have hk := hk.out
   by_cases hlt : k < vn
   ·
    have e1_0 : decide (k < vn) = true := decide_eq_true (by omega)
    have e1_1 : decide ((k : Int) < (vn : Int)) = true := decide_eq_true (by omega)
    have e1_i : (k : Int) < (vn : Int) := by omega
    obtain ⟨bv, ofv, rfl, hb_⟩ := RdL.ptr HVL.out (by omega : 0 < vn)
    have hbkbv := Lib.hid hb_
    have hkl_ : k < vl.length := by rw [HVL.out.len]; exact hlt
    obtain ⟨x_, hx_⟩ : ∃ x, vl[k]? = some x := ⟨vl[k], List.getElem?_eq_getElem hkl_⟩
    obtain ⟨xu0, xu1, xu2, xu3, xa, xb, xo⟩ := x_
    have HRx : Hid (Row w bv (ofv + k * 4) [xu0, xu1, xu2, xu3]) := hb_.row hx_
    have HKx : Hid (XOk G w xu0 xu1 xu2 xu3 xa xb xo) := hb_.ok hx_
    have HEx := Lib.hid hx_
    have hz_ := HZX.out _ (List.mem_of_getElem? hx_)
    have hzxa : xa ≤ 60 := hz_.1
    have hzxb : xb ≤ 60 := hz_.2.1
    have HZx := Lib.hid hz_.2.2
    have HVx : Hid ((vl.map XC.o)[k]? = some xo) := x_at hx_
    clear hx_ hb_ hkl_ hz_
    have hlv_ : k < (vl.map XC.o).length := by rw [List.length_map, HVL.out.len]; exact hlt
    rcases xo with _ | xq
    ·
     have HFx : Hid (FX w xu0 xu1 xu2 xu3 xa xb none) := HKx.out.fx
     have HNO := Lib.hid (fits_val (m := (⟨ms_, mf, mu⟩ : Mt)) (l := (l.map MkC.mk')) hlv_ (valB_none HVx.out))
     refine cj4 (FX.st (HFx.out.keep (J1 M))) fun ad ae af ag => ?_
     refine cj4 (HRx.out.keep (J1 M)).c4 fun r0_0 r0_1 r0_2 r0_3 => ?_
     go_wp2_with fail
     clear ad ae af ag r0_0 r0_1 r0_2 r0_3
     refine nmW (w2.alloc (.cells #[xu0, xu1, xu2, xu3] 38)) fun w3 hv => ?_
     rw [← hv]
     have ow1_ : w.heap.size < w2.heap.size := ((M.out.1)).lt
     replace M := alM hv M
     clear hv
     refine nmW w3.drew fun w4 hv => ?_
     replace M := drM hv M
     refine wp_region_held_drew (S := (fun w' => w'.cell? ⟨w2.heap.size, 0, none⟩ = some (xu0) ∧ w'.cell? ⟨w2.heap.size, 1, none⟩ = some (xu1) ∧ w'.cell? ⟨w2.heap.size, 2, none⟩ = some (xu2) ∧ w'.cell? ⟨w2.heap.size, 3, none⟩ = some (xu3))) (by kernel_rfl) (by rw [← hv]; exact (M.out.1).d4) (fun hH1 => ?_)
     rw [← hv] at hH1 ⊢
     clear hv
     refine tk at0 ?_
     refine wpAnyH_ready (rs := [1]) (by kernel_rfl) (by simp) ?_
     refine AllReadyH.cons at1 (fun K hK => ?_) AllReadyH.nil
     go_simp
     refine (fxRight_ok (o := none) (b_ := false) (HFx.out.keep (J2 M)) (by omega) (by omega) rfl).mono ?_
     rintro e w5 ⟨rfl, hb⟩
     replace M := gnM hb M
     clear hb
     (try go_wp2_with fail)
     refine hK.out _ _ ((M.out.1).d4) (fun hH2 => ?_)
     clear hK K hH1
     (try simp only [Act.put, List.setIfInBounds_toArray, List.set_cons_zero, List.set_cons_succ])
     refine tk at2 ?_
     refine tk at3 ?_
     refine tu at4 ?_
     refine wpAnyH_ready (rs := [5]) (by kernel_rfl) (by simp) ?_
     refine AllReadyH.cons at5 (fun K hK => ?_) AllReadyH.nil
     rw [if_neg]
     rotate_left
     focus (intro h; exact Bool.noConfusion h)
     refine hK.out _ _ hH2 (fun _ => ?_)
     clear hK K
     (try simp only [Act.put, List.setIfInBounds_toArray, List.set_cons_zero, List.set_cons_succ])
     refine tu at6 ?_
     refine tk at7 ?_
     refine tk at8 ?_
     refine tu at9 ?_
     refine tu at10 ?_
     refine tu at11 ?_
     refine tu at12 ?_
     refine tu at13 ?_
     refine tu at14 ?_
     refine tu at15 ?_
     refine tu at16 ?_
     refine tu at17 ?_
     refine wpAnyH_ready (rs := [18]) (by kernel_rfl) (by simp) ?_
     refine AllReadyH.cons at18 (fun K hK => ?_) AllReadyH.nil
     rw [if_neg]
     rotate_left
     focus (intro h; exact Bool.noConfusion h)
     refine hK.out _ _ hH2 (fun _ => ?_)
     clear hK K
     (try simp only [Act.put, List.setIfInBounds_toArray, List.set_cons_zero, List.set_cons_succ])
     refine tu at19 ?_
     refine tu at20 ?_
     refine tk at21 ?_
     refine wpAnyH_done (by kernel_rfl) ?_ _
     clear hH2
     go_wp2_with fail
     go_ret
     exact ⟨by rw [← HB.out, HNO.out] <;> rfl, (J2 M)⟩
    ·
     have HQx : Hid (FQ G w xu0 xu1 xu2 xu3 xq) := HKx.out.1
     have HFx : Hid (Fz xq 60) := HZx.out _ rfl
     obtain ⟨ks, hks_⟩ : ∃ k, sg (nu xq) = k := ⟨_, rfl⟩
     obtain ⟨t1, ht1_⟩ : ∃ b, decide (xq < 0) = b := ⟨_, rfl⟩
     have hk1_ : decide (ks < 0) = t1 := by rw [← ht1_, ← hks_]; exact decide_eq_decide.2 (sg_neg_iff _)
     have HKS := Lib.hid hks_; have HT1 := Lib.hid ht1_; clear hks_ ht1_
     by_cases hk0 : 0 < k
     ·
      have e0_0 : decide (0 < k) = true := decide_eq_true (by omega)
      have e0_1 : decide (0 < (k : Int)) = true := decide_eq_true (by omega)
      have e0_i : 0 < (k : Int) := by omega
      have hix0 : (0 : Int) ≤ (k : Int) - 1 := by omega
      have hix1 : (k : Int) - 1 < (vn : Int) := by omega
      have hix2 : ((k : Int) - 1).toNat = k - 1 := by omega
      have hix3 : IntKind.i64.wrap ((k : Int) - 1) = (k : Int) - 1 := by rw [IntKind.wrap_i64]; omega
      have hix4 : (1 : Int) ≤ (k : Int) := by omega
      have hb_ := hbkbv.out
      have hkl_ : (k - 1) < vl.length := by rw [HVL.out.len]; omega
      obtain ⟨y_, hx_⟩ : ∃ x, vl[(k - 1)]? = some x := ⟨vl[(k - 1)], List.getElem?_eq_getElem hkl_⟩
      obtain ⟨yu0, yu1, yu2, yu3, ya, yb, yo⟩ := y_
      have HRy : Hid (Row w bv (ofv + (k - 1) * 4) [yu0, yu1, yu2, yu3]) := hb_.row hx_
      have HKy : Hid (XOk G w yu0 yu1 yu2 yu3 ya yb yo) := hb_.ok hx_
      have HEy := Lib.hid hx_
      have hz_ := HZX.out _ (List.mem_of_getElem? hx_)
      have hzya : ya ≤ 60 := hz_.1
      have hzyb : yb ≤ 60 := hz_.2.1
      have HZy := Lib.hid hz_.2.2
      have HVy : Hid ((vl.map XC.o)[(k - 1)]? = some yo) := x_at hx_
      clear hx_ hb_ hkl_ hz_
      obtain ⟨yq, hyq_⟩ := val_some HA.out (show k - 1 < k by omega)
      obtain rfl : yo = some yq := Option.some.inj (HVy.out.symm.trans hyq_)
      clear hyq_
      have HQy : Hid (FQ G w yu0 yu1 yu2 yu3 yq) := HKy.out.1
      have HFy : Hid (Fz yq 60) := HZy.out _ rfl
      obtain ⟨kv, hkv_⟩ : ∃ k, ordQ xq yq = k := ⟨_, rfl⟩
      obtain ⟨t2, ht2_⟩ : ∃ b, decide (xq < yq) = b := ⟨_, rfl⟩
      have hk2_ : decide (kv < 0) = t2 := by rw [← ht2_, ← hkv_, ordQ_lt0]
      have HKV := Lib.hid hkv_; have HT2 := Lib.hid ht2_; clear hkv_ ht2_
      have HVB := Lib.hid (valB_next HVx.out hk0 HVy.out HT1.out HT2.out)
      have HNO : Hid ((!t1 && !t2) = false → fitsB (⟨ms_, mf, mu⟩ : Mt) (l.map MkC.mk') (vl.map XC.o) = false) := fun h_ => fits_val hlv_ (HVB.out.trans h_)
      cases t1 with
      | false =>
       refine cj4 (TQ.st (HQx.out.keep (J1 M))) fun ad ae af ag => ?_
       refine cj4 (HRx.out.keep (J1 M)).c4 fun r0_0 r0_1 r0_2 r0_3 => ?_
       go_wp2_with fail
       clear ad ae af ag r0_0 r0_1 r0_2 r0_3
       refine nmW (w2.alloc (.cells #[xu0, xu1, xu2, xu3] 38)) fun w3 hv => ?_
       rw [← hv]
       have ow1_ : w.heap.size < w2.heap.size := ((M.out.1)).lt
       replace M := alM hv M
       clear hv
       refine nmW w3.drew fun w4 hv => ?_
       replace M := drM hv M
       refine wp_region_held_drew (S := (fun w' => w'.cell? ⟨w2.heap.size, 0, none⟩ = some (xu0) ∧ w'.cell? ⟨w2.heap.size, 1, none⟩ = some (xu1) ∧ w'.cell? ⟨w2.heap.size, 2, none⟩ = some (xu2) ∧ w'.cell? ⟨w2.heap.size, 3, none⟩ = some (xu3) ∧ w'.cell? ⟨bv, ofv + (k - 1) * 4, none⟩ = some (yu0) ∧ w'.cell? ⟨bv, ofv + (k - 1) * 4 + 1, none⟩ = some (yu1) ∧ w'.cell? ⟨bv, ofv + (k - 1) * 4 + 2, none⟩ = some (yu2) ∧ w'.cell? ⟨bv, ofv + (k - 1) * 4 + 3, none⟩ = some (yu3))) (by kernel_rfl) (by rw [← hv]; exact ((M.out.1).t4 ((HRy.out.keep (J2 M)).c4))) (fun hH3 => ?_)
       rw [← hv] at hH3 ⊢
       clear hv
       refine tk at0 ?_
       refine wpAnyH_ready (rs := [1]) (by kernel_rfl) (by simp) ?_
       refine AllReadyH.cons at1 (fun K hK => ?_) AllReadyH.nil
       go_simp
       refine (fqRight (G := G) (q := xq) (HQx.out.keep (J2 M)) (Fz.mono HFx.out (by omega))).mono ?_
       rintro e w5 ⟨rfl, hb⟩
       replace M := gnM hb M
       clear hb
       (try go_wp2_with fail)
       refine hK.out _ _ (((M.out.1).t4 ((HRy.out.keep (J2 M)).c4))) (fun hH4 => ?_)
       clear hK K hH3
       (try simp only [Act.put, List.setIfInBounds_toArray, List.set_cons_zero, List.set_cons_succ])
       refine tk at2 ?_
       refine tk at3 ?_
       refine tk at4 ?_
       refine wpAnyH_ready (rs := [5]) (by kernel_rfl) (by simp) ?_
       refine AllReadyH.cons at5 (fun K hK => ?_) AllReadyH.nil
       go_simp
       refine (fqSign (G := G) (q := xq) (k := ks) (Nat.le_trans hG (J2 M).size) (HQx.out.keep (J2 M)) (Fz.mono HFx.out (by omega)) HKS.out).mono ?_
       rintro e w6 ⟨rfl, hb⟩
       replace M := gnM hb M
       clear hb
       (try go_wp2_with fail)
       refine hK.out _ _ (((M.out.1).t4 ((HRy.out.keep (J2 M)).c4))) (fun hH5 => ?_)
       clear hK K hH4
       (try simp only [Act.put, List.setIfInBounds_toArray, List.set_cons_zero, List.set_cons_succ])
       refine tk at6 ?_
       refine tk at7 ?_
       refine tk at8 ?_
       refine tk at9 ?_
       refine tk at10 ?_
       refine tk at11 ?_
       refine tk at12 ?_
       refine tk at13 ?_
       refine tk at14 ?_
       refine tk at15 ?_
       refine tk at16 ?_
       refine tk at17 ?_
       refine wpAnyH_ready (rs := [18]) (by kernel_rfl) (by simp) ?_
       refine AllReadyH.cons at18 (fun K hK => ?_) AllReadyH.nil
       go_simp
       refine (fqCompare (G := G) (q := xq) (r := yq) (k := kv) (HQx.out.keep (J2 M)) (HQy.out.keep (J2 M)) (Fz.mono HFx.out (by omega)) (Fz.mono HFy.out (by omega)) HKV.out).mono ?_
       rintro e w7 ⟨rfl, hb⟩
       replace M := gnM hb M
       clear hb
       (try go_wp2_with fail)
       refine hK.out _ _ (((M.out.1).t4 ((HRy.out.keep (J2 M)).c4))) (fun hH6 => ?_)
       clear hK K hH5
       (try simp only [Act.put, List.setIfInBounds_toArray, List.set_cons_zero, List.set_cons_succ])
       refine tk at19 ?_
       refine tk at20 ?_
       refine tk at21 ?_
       refine wpAnyH_done (by kernel_rfl) ?_ _
       clear hH6
       cases t2 with
       | false =>
        go_wp2_with fail
        go_roundw
        case rel => exact ⟨(k + 1), by go_num, (by show _ ≤ _; omega), (Lib.hid (range_next HA.out HVB.out)), Lib.hid (aI (J1 M).1 (J2 M))⟩
        case measure => simp [RowKit.intOf] <;> omega
       | true =>
        go_wp2_with fail
        go_ret
        exact ⟨by rw [← HB.out, (HNO.out rfl)] <;> rfl, (J2 M)⟩
      | true =>
       refine cj4 (TQ.st (HQx.out.keep (J1 M))) fun ad ae af ag => ?_
       refine cj4 (HRx.out.keep (J1 M)).c4 fun r0_0 r0_1 r0_2 r0_3 => ?_
       go_wp2_with fail
       clear ad ae af ag r0_0 r0_1 r0_2 r0_3
       refine nmW (w2.alloc (.cells #[xu0, xu1, xu2, xu3] 38)) fun w3 hv => ?_
       rw [← hv]
       have ow1_ : w.heap.size < w2.heap.size := ((M.out.1)).lt
       replace M := alM hv M
       clear hv
       refine nmW w3.drew fun w4 hv => ?_
       replace M := drM hv M
       refine wp_region_held_drew (S := (fun w' => w'.cell? ⟨w2.heap.size, 0, none⟩ = some (xu0) ∧ w'.cell? ⟨w2.heap.size, 1, none⟩ = some (xu1) ∧ w'.cell? ⟨w2.heap.size, 2, none⟩ = some (xu2) ∧ w'.cell? ⟨w2.heap.size, 3, none⟩ = some (xu3))) (by kernel_rfl) (by rw [← hv]; exact (M.out.1).d4) (fun hH7 => ?_)
       rw [← hv] at hH7 ⊢
       clear hv
       refine tk at0 ?_
       refine wpAnyH_ready (rs := [1]) (by kernel_rfl) (by simp) ?_
       refine AllReadyH.cons at1 (fun K hK => ?_) AllReadyH.nil
       go_simp
       refine (fqRight (G := G) (q := xq) (HQx.out.keep (J2 M)) (Fz.mono HFx.out (by omega))).mono ?_
       rintro e w5 ⟨rfl, hb⟩
       replace M := gnM hb M
       clear hb
       (try go_wp2_with fail)
       refine hK.out _ _ ((M.out.1).d4) (fun hH8 => ?_)
       clear hK K hH7
       (try simp only [Act.put, List.setIfInBounds_toArray, List.set_cons_zero, List.set_cons_succ])
       refine tk at2 ?_
       refine tk at3 ?_
       refine tk at4 ?_
       refine wpAnyH_ready (rs := [5]) (by kernel_rfl) (by simp) ?_
       refine AllReadyH.cons at5 (fun K hK => ?_) AllReadyH.nil
       go_simp
       refine (fqSign (G := G) (q := xq) (k := ks) (Nat.le_trans hG (J2 M).size) (HQx.out.keep (J2 M)) (Fz.mono HFx.out (by omega)) HKS.out).mono ?_
       rintro e w6 ⟨rfl, hb⟩
       replace M := gnM hb M
       clear hb
       (try go_wp2_with fail)
       refine hK.out _ _ ((M.out.1).d4) (fun hH9 => ?_)
       clear hK K hH8
       (try simp only [Act.put, List.setIfInBounds_toArray, List.set_cons_zero, List.set_cons_succ])
       refine tk at6 ?_
       refine tk at7 ?_
       refine tk at8 ?_
       refine tu at9 ?_
       refine tu at10 ?_
       refine tu at11 ?_
       refine tu at12 ?_
       refine tu at13 ?_
       refine tu at14 ?_
       refine tu at15 ?_
       refine tu at16 ?_
       refine tu at17 ?_
       refine wpAnyH_ready (rs := [18]) (by kernel_rfl) (by simp) ?_
       refine AllReadyH.cons at18 (fun K hK => ?_) AllReadyH.nil
       rw [if_neg]
       rotate_left
       focus (intro h; exact Bool.noConfusion h)
       refine hK.out _ _ hH9 (fun _ => ?_)
       clear hK K
       (try simp only [Act.put, List.setIfInBounds_toArray, List.set_cons_zero, List.set_cons_succ])
       refine tu at19 ?_
       refine tu at20 ?_
       refine tk at21 ?_
       refine wpAnyH_done (by kernel_rfl) ?_ _
       clear hH9
       go_wp2_with fail
       go_ret
       exact ⟨by rw [← HB.out, (HNO.out rfl)] <;> rfl, (J2 M)⟩
     ·
      have e0_0 : decide (0 < k) = false := decide_eq_false (by omega)
      have e0_1 : decide (0 < (k : Int)) = false := decide_eq_false (by omega)
      have e0_i : ¬ 0 < (k : Int) := by omega
      have HVB := Lib.hid (valB_zero HVx.out (show k = 0 by omega) HT1.out)
      have HNO : Hid ((!t1) = false → fitsB (⟨ms_, mf, mu⟩ : Mt) (l.map MkC.mk') (vl.map XC.o) = false) := fun h_ => fits_val hlv_ (HVB.out.trans h_)
      cases t1 with
      | false =>
       refine cj4 (TQ.st (HQx.out.keep (J1 M))) fun ad ae af ag => ?_
       refine cj4 (HRx.out.keep (J1 M)).c4 fun r0_0 r0_1 r0_2 r0_3 => ?_
       go_wp2_with fail
       clear ad ae af ag r0_0 r0_1 r0_2 r0_3
       refine nmW (w2.alloc (.cells #[xu0, xu1, xu2, xu3] 38)) fun w3 hv => ?_
       rw [← hv]
       have ow1_ : w.heap.size < w2.heap.size := ((M.out.1)).lt
       replace M := alM hv M
       clear hv
       refine nmW w3.drew fun w4 hv => ?_
       replace M := drM hv M
       refine wp_region_held_drew (S := (fun w' => w'.cell? ⟨w2.heap.size, 0, none⟩ = some (xu0) ∧ w'.cell? ⟨w2.heap.size, 1, none⟩ = some (xu1) ∧ w'.cell? ⟨w2.heap.size, 2, none⟩ = some (xu2) ∧ w'.cell? ⟨w2.heap.size, 3, none⟩ = some (xu3))) (by kernel_rfl) (by rw [← hv]; exact (M.out.1).d4) (fun hH10 => ?_)
       rw [← hv] at hH10 ⊢
       clear hv
       refine tk at0 ?_
       refine wpAnyH_ready (rs := [1]) (by kernel_rfl) (by simp) ?_
       refine AllReadyH.cons at1 (fun K hK => ?_) AllReadyH.nil
       go_simp
       refine (fqRight (G := G) (q := xq) (HQx.out.keep (J2 M)) (Fz.mono HFx.out (by omega))).mono ?_
       rintro e w5 ⟨rfl, hb⟩
       replace M := gnM hb M
       clear hb
       (try go_wp2_with fail)
       refine hK.out _ _ ((M.out.1).d4) (fun hH11 => ?_)
       clear hK K hH10
       (try simp only [Act.put, List.setIfInBounds_toArray, List.set_cons_zero, List.set_cons_succ])
       refine tk at2 ?_
       refine tk at3 ?_
       refine tk at4 ?_
       refine wpAnyH_ready (rs := [5]) (by kernel_rfl) (by simp) ?_
       refine AllReadyH.cons at5 (fun K hK => ?_) AllReadyH.nil
       go_simp
       refine (fqSign (G := G) (q := xq) (k := ks) (Nat.le_trans hG (J2 M).size) (HQx.out.keep (J2 M)) (Fz.mono HFx.out (by omega)) HKS.out).mono ?_
       rintro e w6 ⟨rfl, hb⟩
       replace M := gnM hb M
       clear hb
       (try go_wp2_with fail)
       refine hK.out _ _ ((M.out.1).d4) (fun hH12 => ?_)
       clear hK K hH11
       (try simp only [Act.put, List.setIfInBounds_toArray, List.set_cons_zero, List.set_cons_succ])
       refine tk at6 ?_
       refine tk at7 ?_
       refine tk at8 ?_
       refine tk at9 ?_
       refine tk at10 ?_
       refine tk at11 ?_
       refine tu at12 ?_
       refine tu at13 ?_
       refine tu at14 ?_
       refine tu at15 ?_
       refine tu at16 ?_
       refine tu at17 ?_
       refine wpAnyH_ready (rs := [18]) (by kernel_rfl) (by simp) ?_
       refine AllReadyH.cons at18 (fun K hK => ?_) AllReadyH.nil
       rw [if_neg]
       rotate_left
       focus (intro h; exact Bool.noConfusion h)
       refine hK.out _ _ hH12 (fun _ => ?_)
       clear hK K
       (try simp only [Act.put, List.setIfInBounds_toArray, List.set_cons_zero, List.set_cons_succ])
       refine tu at19 ?_
       refine tk at20 ?_
       refine tk at21 ?_
       refine wpAnyH_done (by kernel_rfl) ?_ _
       clear hH12
       go_wp2_with fail
       go_roundw
       case rel => exact ⟨(k + 1), by go_num, (by show _ ≤ _; omega), (Lib.hid (range_next HA.out HVB.out)), Lib.hid (aI (J1 M).1 (J2 M))⟩
       case measure => simp [RowKit.intOf] <;> omega
      | true =>
       refine cj4 (TQ.st (HQx.out.keep (J1 M))) fun ad ae af ag => ?_
       refine cj4 (HRx.out.keep (J1 M)).c4 fun r0_0 r0_1 r0_2 r0_3 => ?_
       go_wp2_with fail
       clear ad ae af ag r0_0 r0_1 r0_2 r0_3
       refine nmW (w2.alloc (.cells #[xu0, xu1, xu2, xu3] 38)) fun w3 hv => ?_
       rw [← hv]
       have ow1_ : w.heap.size < w2.heap.size := ((M.out.1)).lt
       replace M := alM hv M
       clear hv
       refine nmW w3.drew fun w4 hv => ?_
       replace M := drM hv M
       refine wp_region_held_drew (S := (fun w' => w'.cell? ⟨w2.heap.size, 0, none⟩ = some (xu0) ∧ w'.cell? ⟨w2.heap.size, 1, none⟩ = some (xu1) ∧ w'.cell? ⟨w2.heap.size, 2, none⟩ = some (xu2) ∧ w'.cell? ⟨w2.heap.size, 3, none⟩ = some (xu3))) (by kernel_rfl) (by rw [← hv]; exact (M.out.1).d4) (fun hH13 => ?_)
       rw [← hv] at hH13 ⊢
       clear hv
       refine tk at0 ?_
       refine wpAnyH_ready (rs := [1]) (by kernel_rfl) (by simp) ?_
       refine AllReadyH.cons at1 (fun K hK => ?_) AllReadyH.nil
       go_simp
       refine (fqRight (G := G) (q := xq) (HQx.out.keep (J2 M)) (Fz.mono HFx.out (by omega))).mono ?_
       rintro e w5 ⟨rfl, hb⟩
       replace M := gnM hb M
       clear hb
       (try go_wp2_with fail)
       refine hK.out _ _ ((M.out.1).d4) (fun hH14 => ?_)
       clear hK K hH13
       (try simp only [Act.put, List.setIfInBounds_toArray, List.set_cons_zero, List.set_cons_succ])
       refine tk at2 ?_
       refine tk at3 ?_
       refine tk at4 ?_
       refine wpAnyH_ready (rs := [5]) (by kernel_rfl) (by simp) ?_
       refine AllReadyH.cons at5 (fun K hK => ?_) AllReadyH.nil
       go_simp
       refine (fqSign (G := G) (q := xq) (k := ks) (Nat.le_trans hG (J2 M).size) (HQx.out.keep (J2 M)) (Fz.mono HFx.out (by omega)) HKS.out).mono ?_
       rintro e w6 ⟨rfl, hb⟩
       replace M := gnM hb M
       clear hb
       (try go_wp2_with fail)
       refine hK.out _ _ ((M.out.1).d4) (fun hH15 => ?_)
       clear hK K hH14
       (try simp only [Act.put, List.setIfInBounds_toArray, List.set_cons_zero, List.set_cons_succ])
       refine tk at6 ?_
       refine tk at7 ?_
       refine tk at8 ?_
       refine tu at9 ?_
       refine tu at10 ?_
       refine tu at11 ?_
       refine tu at12 ?_
       refine tu at13 ?_
       refine tu at14 ?_
       refine tu at15 ?_
       refine tu at16 ?_
       refine tu at17 ?_
       refine wpAnyH_ready (rs := [18]) (by kernel_rfl) (by simp) ?_
       refine AllReadyH.cons at18 (fun K hK => ?_) AllReadyH.nil
       rw [if_neg]
       rotate_left
       focus (intro h; exact Bool.noConfusion h)
       refine hK.out _ _ hH15 (fun _ => ?_)
       clear hK K
       (try simp only [Act.put, List.setIfInBounds_toArray, List.set_cons_zero, List.set_cons_succ])
       refine tu at19 ?_
       refine tu at20 ?_
       refine tk at21 ?_
       refine wpAnyH_done (by kernel_rfl) ?_ _
       clear hH15
       go_wp2_with fail
       go_ret
       exact ⟨by rw [← HB.out, (HNO.out rfl)] <;> rfl, (J2 M)⟩
   ·
    have e1_0 : decide (k < vn) = false := decide_eq_false (by omega)
    have e1_1 : decide ((k : Int) < (vn : Int)) = false := decide_eq_false (by omega)
    have e1_i : ¬ (k : Int) < (vn : Int) := by omega
    have HAA : Hid ((List.range (vl.map XC.o).length).all (valB (vl.map XC.o)) = true) := by show _ = _; rw [List.length_map, HVL.out.len, show vn = k by omega]; exact HA.out
    go_wp2_with fail
    go_loopw [52] (fun i52 wr => ∃ (j : Nat), i52 = .int .i64 (j : Int) ∧ Hid (j ≤ n) ∧ Hid (((l.map MkC.mk').take j).all (inB (⟨ms_, mf, mu⟩ : Mt) (vl.map XC.o)) = true) ∧ Hid (Bx wr w.heap.size 52 #[.int .i64 ms_, .int .i64 mf, .int .i64 mu] ∧ Below w.heap.size w wr)) (fun i52 _ => n - (RowKit.intOf i52).toNat)
    case atStart =>
     exact ⟨0, rfl, (by show _ ≤ _; omega), (Lib.hid rfl), Lib.hid (aI (M.out.1) (J1 M))⟩
    case round =>
     obtain ⟨w3, rfl⟩ : ∃ x, x = wr := ⟨_, rfl⟩
     clear M
     obtain ⟨j, rfl, hj, HJ, M⟩ := hrel
     have hj := hj.out
     by_cases hlt2 : j < n
     ·
      have e2_0 : decide (j < n) = true := decide_eq_true (by omega)
      have e2_1 : decide ((j : Int) < (n : Int)) = true := decide_eq_true (by omega)
      have e2_i : (j : Int) < (n : Int) := by omega
      obtain ⟨b2, off2, rfl, hb_⟩ := RdL.ptr HL.out (by omega : 0 < n)
      have hkl_ : j < l.length := by rw [HL.out.len]; exact hlt2
      obtain ⟨y_, hx_⟩ : ∃ x, l[j]? = some x := ⟨l[j], List.getElem?_eq_getElem hkl_⟩
      obtain ⟨yd, yu0, yu1, yu2, yu3, ylo, yv0, yv1, yv2, yv3, yhi⟩ := y_
      have HRy : Hid (Row w b2 (off2 + j * 9) [.int .i64 yd, yu0, yu1, yu2, yu3, yv0, yv1, yv2, yv3]) := hb_.row hx_
      have HQy : Hid (FQ G w yu0 yu1 yu2 yu3 ylo) := (hb_.ok hx_).1
      have HSy : Hid (FQ G w yv0 yv1 yv2 yv3 yhi) := (hb_.ok hx_).2
      have HEy := Lib.hid hx_
      have hz_ := HZ.out _ (List.mem_of_getElem? hx_)
      have HZy1 : Hid (Fz ylo 60) := hz_.1
      have HZy2 : Hid (Fz yhi 60) := hz_.2
      have HMy : Hid ((l.map MkC.mk')[j]? = some ⟨yd, ylo, yhi⟩) := by show _ = _; rw [List.getElem?_map, hx_]; rfl
      clear hx_ hb_ hkl_ hz_
      have hin_ := HIN.out _ (List.mem_of_getElem? HEy.out)
      simp only at hin_
      obtain ⟨j0, hj0_⟩ : ∃ j : Nat, yd = mf + (j : Int) := ⟨(yd - mf).toNat, by omega⟩
      subst hj0_
      have hjv_ : j0 < vn := by have h_ := HLN.out; omega
      clear hin_
      have HOL : Hid (ylo ≤ yhi) := HMO.out _ (List.mem_of_getElem? HEy.out)
      have hjx0 : (0 : Int) ≤ (j0 : Int) := by omega
      have hjx1 : (j0 : Int) < (vn : Int) := by omega
      have hjx2 : mf + (j0 : Int) - mf = (j0 : Int) := by omega
      have hjx3 : IntKind.i64.wrap (j0 : Int) = (j0 : Int) := by rw [IntKind.wrap_i64]; omega
      obtain ⟨bv, ofv, rfl, hb_⟩ := RdL.ptr HVL.out (by omega : 0 < vn)
      have hbkbv := Lib.hid hb_
      have hkl_ : j0 < vl.length := by rw [HVL.out.len]; omega
      obtain ⟨x_, hx_⟩ : ∃ x, vl[j0]? = some x := ⟨vl[j0], List.getElem?_eq_getElem hkl_⟩
      obtain ⟨xu0, xu1, xu2, xu3, xa, xb, xo⟩ := x_
      have HRx : Hid (Row w bv (ofv + j0 * 4) [xu0, xu1, xu2, xu3]) := hb_.row hx_
      have HKx : Hid (XOk G w xu0 xu1 xu2 xu3 xa xb xo) := hb_.ok hx_
      have HEx := Lib.hid hx_
      have hz_ := HZX.out _ (List.mem_of_getElem? hx_)
      have hzxa : xa ≤ 60 := hz_.1
      have hzxb : xb ≤ 60 := hz_.2.1
      have HZx := Lib.hid hz_.2.2
      have HVx : Hid ((vl.map XC.o)[j0]? = some xo) := x_at hx_
      clear hx_ hb_ hkl_ hz_
      obtain ⟨xq, hxq_⟩ := val_some HAA.out (show j0 < (vl.map XC.o).length by rw [List.length_map, HVL.out.len]; exact hjv_)
      obtain rfl : xo = some xq := Option.some.inj (HVx.out.symm.trans hxq_)
      clear hxq_
      have HQx : Hid (FQ G w xu0 xu1 xu2 xu3 xq) := HKx.out.1
      have HFx : Hid (Fz xq 60) := HZx.out _ rfl
      obtain ⟨t1, ht1_⟩ : ∃ b, (decide (ylo ≤ xq) && decide (xq ≤ yhi)) = b := ⟨_, rfl⟩
      have HT1 := Lib.hid ht1_; clear ht1_
      have HIB := Lib.hid (inB_is (m := (⟨ms_, mf, mu⟩ : Mt)) (x := ⟨mf + (j0 : Int), ylo, yhi⟩) rfl HVx.out HT1.out)
      have HNO : Hid (t1 = false → fitsB (⟨ms_, mf, mu⟩ : Mt) (l.map MkC.mk') (vl.map XC.o) = false) := fun h_ => fits_in (all_no HMy.out (HIB.out.trans h_))
      cases t1 with
      | false =>
       refine cj4 (TQ.st (HQy.out.keep (J1 M))) fun ah ai aj ak => ?_
       refine cj4 (TQ.st (HSy.out.keep (J1 M))) fun al am ao ap => ?_
       refine cj9 (HRy.out.keep (J1 M)).c9 fun r0_0 r0_1 r0_2 r0_3 r0_4 r0_5 r0_6 r0_7 r0_8 => ?_
       go_wp2_with fail
       clear ah ai aj ak al am ao ap r0_0 r0_1 r0_2 r0_3 r0_4 r0_5 r0_6 r0_7 r0_8
       refine nmW (w3.alloc (.cells #[.int .i64 (mf + (j0 : Int)), yu0, yu1, yu2, yu3, yv0, yv1, yv2, yv3] 97)) fun w4 hv => ?_
       rw [← hv]
       have ow1_ : w.heap.size < w3.heap.size := ((M.out.1)).lt
       replace M := alM hv M
       clear hv
       refine nmW w4.drew fun w5 hv => ?_
       replace M := drM hv M
       refine wp_region_held_drew (S := (fun w' => w'.cell? ⟨w.heap.size, 0, none⟩ = some (.int .i64 ms_) ∧ w'.cell? ⟨w.heap.size, 1, none⟩ = some (.int .i64 mf) ∧ w'.cell? ⟨w.heap.size, 2, none⟩ = some (.int .i64 mu) ∧ w'.cell? ⟨w3.heap.size, 0, none⟩ = some (.int .i64 (mf + (j0 : Int))) ∧ w'.cell? ⟨w3.heap.size, 1, none⟩ = some (yu0) ∧ w'.cell? ⟨w3.heap.size, 2, none⟩ = some (yu1) ∧ w'.cell? ⟨w3.heap.size, 3, none⟩ = some (yu2) ∧ w'.cell? ⟨w3.heap.size, 4, none⟩ = some (yu3) ∧ w'.cell? ⟨w3.heap.size, 5, none⟩ = some (yv0) ∧ w'.cell? ⟨w3.heap.size, 6, none⟩ = some (yv1) ∧ w'.cell? ⟨w3.heap.size, 7, none⟩ = some (yv2) ∧ w'.cell? ⟨w3.heap.size, 8, none⟩ = some (yv3) ∧ w'.cell? ⟨bv, ofv + j0 * 4, none⟩ = some (xu0) ∧ w'.cell? ⟨bv, ofv + j0 * 4 + 1, none⟩ = some (xu1) ∧ w'.cell? ⟨bv, ofv + j0 * 4 + 2, none⟩ = some (xu2) ∧ w'.cell? ⟨bv, ofv + j0 * 4 + 3, none⟩ = some (xu3))) (by kernel_rfl) (by rw [← hv]; exact ((J1 M).1.t3 ((M.out.1).t9 ((HRx.out.keep (J2 M)).c4)))) (fun hH16 => ?_)
       rw [← hv] at hH16 ⊢
       clear hv
       refine tk at0 ?_
       refine tk at1 ?_
       refine tk at2 ?_
       refine tk at3 ?_
       refine tk at4 ?_
       refine tk at5 ?_
       refine tk at6 ?_
       refine tk at7 ?_
       refine tk at8 ?_
       refine tk at9 ?_
       refine tk at10 ?_
       refine tk at11 ?_
       refine tk at12 ?_
       refine wpAnyH_ready (rs := [13]) (by kernel_rfl) (by simp) ?_
       refine AllReadyH.cons at13 (fun K hK => ?_) AllReadyH.nil
       go_simp
       refine (spHas_q (G := G) (p := ylo) (q := yhi) (x := xq) (b_ := false) (Nat.le_trans hG (J2 M).size) (HQy.out.keep (J2 M)) (HSy.out.keep (J2 M)) (Fz.mono HZy1.out (by omega)) (Fz.mono HZy2.out (by omega)) HOL.out (HQx.out.keep (J2 M)) (Fz.mono HFx.out (by omega)) HT1.out).mono ?_
       rintro e w6 ⟨rfl, hb⟩
       replace M := gnM hb M
       clear hb
       (try go_wp2_with fail)
       refine hK.out _ _ (((J1 M).1.t3 ((M.out.1).t9 ((HRx.out.keep (J2 M)).c4)))) (fun hH17 => ?_)
       clear hK K hH16
       (try simp only [Act.put, List.setIfInBounds_toArray, List.set_cons_zero, List.set_cons_succ])
       refine tk at14 ?_
       refine wpAnyH_done (by kernel_rfl) ?_ _
       clear hH17
       go_wp2_with fail
       go_ret
       exact ⟨by rw [← HB.out, (HNO.out trivial)] <;> rfl, (J2 M)⟩
      | true =>
       refine cj4 (TQ.st (HQy.out.keep (J1 M))) fun ah ai aj ak => ?_
       refine cj4 (TQ.st (HSy.out.keep (J1 M))) fun al am ao ap => ?_
       refine cj9 (HRy.out.keep (J1 M)).c9 fun r0_0 r0_1 r0_2 r0_3 r0_4 r0_5 r0_6 r0_7 r0_8 => ?_
       go_wp2_with fail
       clear ah ai aj ak al am ao ap r0_0 r0_1 r0_2 r0_3 r0_4 r0_5 r0_6 r0_7 r0_8
       refine nmW (w3.alloc (.cells #[.int .i64 (mf + (j0 : Int)), yu0, yu1, yu2, yu3, yv0, yv1, yv2, yv3] 97)) fun w4 hv => ?_
       rw [← hv]
       have ow1_ : w.heap.size < w3.heap.size := ((M.out.1)).lt
       replace M := alM hv M
       clear hv
       refine nmW w4.drew fun w5 hv => ?_
       replace M := drM hv M
       refine wp_region_held_drew (S := (fun w' => w'.cell? ⟨w.heap.size, 0, none⟩ = some (.int .i64 ms_) ∧ w'.cell? ⟨w.heap.size, 1, none⟩ = some (.int .i64 mf) ∧ w'.cell? ⟨w.heap.size, 2, none⟩ = some (.int .i64 mu) ∧ w'.cell? ⟨w3.heap.size, 0, none⟩ = some (.int .i64 (mf + (j0 : Int))) ∧ w'.cell? ⟨w3.heap.size, 1, none⟩ = some (yu0) ∧ w'.cell? ⟨w3.heap.size, 2, none⟩ = some (yu1) ∧ w'.cell? ⟨w3.heap.size, 3, none⟩ = some (yu2) ∧ w'.cell? ⟨w3.heap.size, 4, none⟩ = some (yu3) ∧ w'.cell? ⟨w3.heap.size, 5, none⟩ = some (yv0) ∧ w'.cell? ⟨w3.heap.size, 6, none⟩ = some (yv1) ∧ w'.cell? ⟨w3.heap.size, 7, none⟩ = some (yv2) ∧ w'.cell? ⟨w3.heap.size, 8, none⟩ = some (yv3) ∧ w'.cell? ⟨bv, ofv + j0 * 4, none⟩ = some (xu0) ∧ w'.cell? ⟨bv, ofv + j0 * 4 + 1, none⟩ = some (xu1) ∧ w'.cell? ⟨bv, ofv + j0 * 4 + 2, none⟩ = some (xu2) ∧ w'.cell? ⟨bv, ofv + j0 * 4 + 3, none⟩ = some (xu3))) (by kernel_rfl) (by rw [← hv]; exact ((J1 M).1.t3 ((M.out.1).t9 ((HRx.out.keep (J2 M)).c4)))) (fun hH18 => ?_)
       rw [← hv] at hH18 ⊢
       clear hv
       refine tk at0 ?_
       refine tk at1 ?_
       refine tk at2 ?_
       refine tk at3 ?_
       refine tk at4 ?_
       refine tk at5 ?_
       refine tk at6 ?_
       refine tk at7 ?_
       refine tk at8 ?_
       refine tk at9 ?_
       refine tk at10 ?_
       refine tk at11 ?_
       refine tk at12 ?_
       refine wpAnyH_ready (rs := [13]) (by kernel_rfl) (by simp) ?_
       refine AllReadyH.cons at13 (fun K hK => ?_) AllReadyH.nil
       go_simp
       refine (spHas_q (G := G) (p := ylo) (q := yhi) (x := xq) (b_ := true) (Nat.le_trans hG (J2 M).size) (HQy.out.keep (J2 M)) (HSy.out.keep (J2 M)) (Fz.mono HZy1.out (by omega)) (Fz.mono HZy2.out (by omega)) HOL.out (HQx.out.keep (J2 M)) (Fz.mono HFx.out (by omega)) HT1.out).mono ?_
       rintro e w6 ⟨rfl, hb⟩
       replace M := gnM hb M
       clear hb
       (try go_wp2_with fail)
       refine hK.out _ _ (((J1 M).1.t3 ((M.out.1).t9 ((HRx.out.keep (J2 M)).c4)))) (fun hH19 => ?_)
       clear hK K hH18
       (try simp only [Act.put, List.setIfInBounds_toArray, List.set_cons_zero, List.set_cons_succ])
       refine tk at14 ?_
       refine wpAnyH_done (by kernel_rfl) ?_ _
       clear hH19
       go_wp2_with fail
       go_roundw
       case rel => exact ⟨(j + 1), by go_num, (by show _ ≤ _; omega), (Lib.hid (all_next HMy.out HJ.out HIB.out)), Lib.hid (aI (J1 M).1 (J2 M))⟩
       case measure => simp [RowKit.intOf] <;> omega
     ·
      have e2_0 : decide (j < n) = false := decide_eq_false (by omega)
      have e2_1 : decide ((j : Int) < (n : Int)) = false := decide_eq_false (by omega)
      have e2_i : ¬ (j : Int) < (n : Int) := by omega
      have HYES : Hid (fitsB (⟨ms_, mf, mu⟩ : Mt) (l.map MkC.mk') (vl.map XC.o) = true) := fits_yes (by rw [List.length_map, HVL.out.len]; exact HLN.out) HAA.out (by have h_ := HJ.out; rw [List.take_of_length_le (by rw [List.length_map, HL.out.len]; omega)] at h_; exact h_)
      go_wp2_with fail
      go_ret
      exact ⟨by rw [← HB.out, HYES.out] <;> rfl, (J1 M)⟩
 ·
  have n1_ : ((vn : Int) != mu - mf + 1) = true := bne_iff_ne.2 hln_
  have HNO := Lib.hid (fits_len (l := (l.map MkC.mk')) (m := (⟨ms_, mf, mu⟩ : Mt)) (vs := (vl.map XC.o)) (by rw [List.length_map, HVL.out.len]; exact hln_))
  clear hln_
  refine cj3 (M.out.1).d3 fun aa ab ac => ?_
  go_wp2_with fail
  clear aa ab ac
  go_ret
  exact ⟨by rw [← HB.out, HNO.out] <;> rfl, (J1 M)⟩
end Go.Proofs.Ytlcgckelamhnpaa
namespace Go.Proofs.Ytlcgckelamhnpaa
open Go.RowKit Go.Lib
variable {G : Nat}

set_option maxRecDepth 100000 in
set_option maxHeartbeats 4000000 in
theorem ctAllowed {nm : ByteArray} {am ar ac aq : Option Addr} {nn cm nr cr cc cq : Nat} {ms : List Mt} {rs : List Rg} {cs : List Ct} {rr : List Rc} {ah : Option Addr} {nh ch : Nat} {H : List HdX} {nb big b_ : Bool} {w : World} (hG : G ≤ w.heap.size) (hm : RdMt G w am nn cm ms) (hr : RdRg G w ar nr cr rs) (hc : CtIn w (.slice ac cs.length cc) cs) (hq : RcIn w (.slice aq rr.length cq) rr) (_hsz : nm.size ≤ 1000) (_hnn : nn ≤ 1000) (_hnr : nr ≤ 1000) (_hcl : cs.length ≤ 1000) (_hrl : rr.length ≤ 1000) (hh : RdHX G w ah nh ch H) (hzx : XZL H 60) (hlx : LenX H 1000) (hnb : nameOk nm.data.toList = nb) (hbg : bigB ms rs cs.length rr.length = big) (hb : allowB (ivOf cs rr) nb big ms rs (H.map HdX.vs) = b_) :
  Calls Try.prog 19 #[.agg #[.string nm, .slice am nn cm, .slice ar nr cr], .slice ac cs.length cc, .slice aq rr.length cq, .slice ah nh ch] w fun e w' => e = .returned (.bool b_) ∧ Below w.heap.size w w' := by
 obtain ⟨fe, hfe_⟩ : ∃ e, formedE nb big ms rs = e := ⟨_, rfl⟩
 have HFE := Lib.hid hfe_; have HB := Lib.hid hb; have HNB := Lib.hid hnb; have HBG := Lib.hid hbg; have HZXL := Lib.hid hzx; have HLX := Lib.hid hlx; clear hfe_ hb hnb hbg hzx hlx
 have HM : Hid (RdMt G w am nn cm ms) := hm
 have HR : Hid (RdRg G w ar nr cr rs) := hr
 have HC : Hid (CtIn w (.slice ac cs.length cc) cs) := hc
 have HQ : Hid (RcIn w (.slice aq rr.length cq) rr) := hq
 have HHX : Hid (RdHX G w ah nh ch H) := hh
 clear hm hr hc hq hh
 have M : Hid (Below w.heap.size w w) := Below.refl _ _
 go_enter Try.func19, Try.ntmps19
 go_upto_region 1 with fail
 refine nmW (w.alloc (.cells #[.string nm, .slice am nn cm, .slice ar nr cr] 25)) fun w1 hv => ?_
 rw [← hv]
 replace M := alM hv M
 clear hv
 by_cases hem_ : fe = 0
 ·
  subst hem_
  have HFM : Hid (RgIn ms.length rs) := rgIn_of HFE.out
  by_cases hln_ : nh = nn
  ·
   have n2_ : ((nh : Int) != (nn : Int)) = false := by rw [hln_]; simp
   have HLN := Lib.hid hln_; clear hln_
   refine cj3 (M.out.1).d3 fun aa ab ad => ?_
   go_wp2_with fail
   clear aa ab ad
   refine (ctFormed (G := G) (nm := nm) (nb := nb) (big := big) (er := 0) (Nat.le_trans hG (J1 M).size) (HM.out.keep (J1 M)) (HR.out.keep (J1 M)) (HC.out.keep (J1 M)) (HQ.out.keep (J1 M)) (by omega) (by omega) (by omega) (by omega) (by omega) HNB.out HBG.out HFE.out).mono ?_
   rintro e w2 ⟨rfl, hb⟩
   replace M := gnM hb M
   clear hb
   refine cj3 (M.out.1).d3 fun aa ab ad => ?_
   go_wp2_with fail
   clear aa ab ad
   refine (ctMarks (G := G) (nm := nm) (Nat.le_trans hG (J1 M).size) (HM.out.keep (J1 M)) (HR.out.keep (J1 M)) (HC.out.keep (J1 M)) (HQ.out.keep (J1 M)) (by omega) (by omega) (by omega) (by omega) (by omega) HFM.out).mono ?_
   rintro e w3 ⟨a_1, L_2, rfl, hd3, hu4, hu5, hb⟩
   replace M := adM hd3 hb M
   clear hb hd3
   replace hu4 := Lib.hid hu4
   replace hu5 := Lib.hid hu5
   refine cj3 (J1 M).1.d3 fun aa ab ad => ?_
   go_wp2_with fail
   clear aa ab ad
   replace M := Lib.hid (aI (M.out.1) (J2 M))
   go_loopw [32] (fun i32 wr => ∃ (k : Nat), i32 = .int .i64 (k : Int) ∧ Hid (k ≤ nn) ∧ Hid ((List.range k).all (fitK (ivOf cs rr) ms rs (H.map HdX.vs)) = true) ∧ Hid (RdH G wr a_1 nn nn L_2 ∧ Below w.heap.size w wr)) (fun i32 _ => nn - (RowKit.intOf i32).toNat)
   case atStart =>
    exact ⟨0, rfl, (by show _ ≤ _; omega), (Lib.hid rfl), Lib.hid (aI (M.out.1) (J1 M))⟩
   case round =>
    obtain ⟨w4, rfl⟩ : ∃ x, x = wr := ⟨_, rfl⟩
    clear M
    obtain ⟨k, rfl, hk, HA, M⟩ := hrel
    have hk := hk.out
    by_cases hlt : k < nn
    ·
     have e1_0 : decide (k < nn) = true := decide_eq_true (by omega)
     have e1_1 : decide ((k : Int) < (nn : Int)) = true := decide_eq_true (by omega)
     have e1_i : (k : Int) < (nn : Int) := by omega
     obtain ⟨bx, offx, rfl, -⟩ := RdL.ptr (M.out.1) (by omega : 0 < nn)
     have hkl_ : k < L_2.length := by rw [(M.out.1).len]; omega
     obtain ⟨x_, hx_⟩ : ∃ x, L_2[k]? = some x := ⟨L_2[k], List.getElem?_eq_getElem hkl_⟩
     obtain ⟨xa, xn, xc, xl⟩ := x_
     have HEx := Lib.hid hx_
     have HZx : Hid (MkZ xl 60) := hu5.out _ (List.mem_of_getElem? hx_)
     have hnx : xn ≤ 1000 := by have h_ := (lenL_of hu4.out (by have := HR.out.len; omega)) _ (List.mem_of_getElem? hx_); have h2_ : xl.length = xn := (RdL.oksC (M.out.1) _ (List.mem_of_getElem? hx_) : RdM G w4 xa xn xc xl).len; simp only at h_; omega
     clear hx_ hkl_
     obtain ⟨bm, ofm, rfl, hb_⟩ := RdL.ptr HM.out (by omega : 0 < nn)
     have hbkbm := Lib.hid hb_
     have hkl_ : k < ms.length := by rw [HM.out.len]; exact hlt
     obtain ⟨z_, hx_⟩ : ∃ x, ms[k]? = some x := ⟨ms[k], List.getElem?_eq_getElem hkl_⟩
     obtain ⟨zs, zf, zu⟩ := z_
     have HRz : Hid (Row w bm (ofm + k * 3) [.int .i64 zs, .int .i64 zf, .int .i64 zu]) := hb_.row hx_
     have HEz := Lib.hid hx_
     have hlz := hkl_
     clear hx_ hb_ hkl_
     have hkh_ : k < nh := by have h_ := HLN.out; omega
     obtain ⟨bh, ofh, rfl, hb_⟩ := RdL.ptr HHX.out (by omega : 0 < nh)
     have hbkbh := Lib.hid hb_
     have hkl_ : k < H.length := by rw [HHX.out.len]; exact hkh_
     obtain ⟨y_, hx_⟩ : ∃ x, H[k]? = some x := ⟨H[k], List.getElem?_eq_getElem hkl_⟩
     obtain ⟨ya, yn, yc, yl⟩ := y_
     have HRy : Hid (Row w bh (ofh + k) [.slice ya yn yc]) := by have h_ := hb_.row hx_; rw [show k * El.sz HdX = k from Nat.mul_one _] at h_; exact h_
     have HDy : Hid (RdX G w ya yn yc yl) := hb_.ok hx_
     have HEy := Lib.hid hx_
     have HZy : Hid (XZ yl 60) := HZXL.out _ (List.mem_of_getElem? hx_)
     have hny : yn ≤ 1000 := by have h_ := HLX.out _ (List.mem_of_getElem? hx_); have h2_ := (HDy.out).len; simp only at h_; omega
     clear hx_ hb_ hkl_
     have hkm_ : k < ms.length := by rw [HM.out.len]; exact hlt
     have hmz_ := mErr_zero hkm_ ((formed_zero.1 HFE.out).2.2.1 k hkm_)
     rw [getD_of HEz.out] at hmz_
     simp only at hmz_
     have hzf0 : 0 ≤ zf := hmz_.1
     have hzfu : zf ≤ zu := by omega
     have hzu : zu ≤ 100000 := hmz_.2.2.1
     clear hmz_
     obtain ⟨t1, ht1_⟩ : ∃ b, fitsB (⟨zs, zf, zu⟩ : Mt) (xl.map MkC.mk') (yl.map XC.o) = b := ⟨_, rfl⟩
     have HAT := Lib.hid (at_of hu4.out HEx.out)
     have HFK : Hid (fitK (ivOf cs rr) ms rs (H.map HdX.vs) k = t1) := by show fitsB _ _ _ = _; rw [getD_of HEz.out, ← HAT.out, hv_at HEy.out]; exact ht1_
     have HT1 := Lib.hid ht1_; clear ht1_
     have HIN : Hid (∀ y ∈ xl.map MkC.mk', zf ≤ y.d ∧ y.d ≤ zu) := fun y hy => by have h_ := marks_in (iv := (ivOf cs rr)) HFE.out y (by rw [← HAT.out]; exact hy); rw [getD_of HEz.out] at h_; exact h_
     have HMO : Hid (∀ y ∈ xl, y.lo ≤ y.hi) := fun y hy => (marks_ok (ivOk cs rr) ms rs (k : Nat) y.mk' (by rw [← HAT.out]; exact List.mem_map.2 ⟨y, hy, rfl⟩)).2
     have HNO : Hid (t1 = false → allowB (ivOf cs rr) nb big ms rs (H.map HdX.vs) = false) := fun h_ => allow_no hkm_ (HFK.out.trans h_)
     clear hkm_
     cases t1 with
     | false =>
      refine cj3 (HRz.out.keep (J1 M)).c3 fun r1_0 r1_1 r1_2 => ?_
      go_wp2_with fail
      clear r1_0 r1_1 r1_2
      refine nmW (w4.alloc (.cells #[.int .i64 zs, .int .i64 zf, .int .i64 zu] 52)) fun w5 hv => ?_
      rw [← hv]
      have ow1_ : w.heap.size ≤ w4.heap.size := ((J1 M)).size
      replace M := alM hv M
      clear hv
      refine nmW w5.drew fun w6 hv => ?_
      replace M := drM hv M
      refine wp_region_held_drew (S := (fun w' => w'.cell? ⟨w4.heap.size, 0, none⟩ = some (.int .i64 zs) ∧ w'.cell? ⟨w4.heap.size, 1, none⟩ = some (.int .i64 zf) ∧ w'.cell? ⟨w4.heap.size, 2, none⟩ = some (.int .i64 zu) ∧ w'.cell? ⟨bx, offx + k, none⟩ = some (.slice xa xn xc) ∧ w'.cell? ⟨bh, ofh + k, none⟩ = some (.slice ya yn yc))) (by kernel_rfl) (by rw [← hv]; exact ((M.out.1).t3 ((show Row w6 bx (offx + k) [.slice xa xn xc] from (RdH.row_ (J1 M).1 HEx.out)).t1 ((HRy.out.keep (J2 M)).c1)))) (fun hH6 => ?_)
      rw [← hv] at hH6 ⊢
      clear hv
      refine tk at0 ?_
      refine tk at1 ?_
      refine tk at2 ?_
      refine tk at3 ?_
      refine tk at4 ?_
      refine tk at5 ?_
      refine tk at6 ?_
      refine tk at7 ?_
      refine tk at8 ?_
      refine wpAnyH_ready (rs := [9]) (by kernel_rfl) (by simp) ?_
      refine AllReadyH.cons at9 (fun K hK => ?_) AllReadyH.nil
      go_simp
      refine (ctFits (G := G) (ms_ := zs) (mf := zf) (mu := zu) (b_ := false) (Nat.le_trans hG (J2 M).size) (show RdM G w6 xa xn xc xl from (RdL.oksC (J1 M).1 _ (List.mem_of_getElem? HEx.out))) (HDy.out.keep (J2 M)) (by omega) (by omega) HZx.out HZy.out (by omega) (by omega) (by omega) HIN.out HMO.out HT1.out).mono ?_
      rintro e w7 ⟨rfl, hb⟩
      replace M := gnM hb M
      clear hb
      (try go_wp2_with fail)
      refine hK.out _ _ (((M.out.1).t3 ((show Row w7 bx (offx + k) [.slice xa xn xc] from (RdH.row_ (J1 M).1 HEx.out)).t1 ((HRy.out.keep (J2 M)).c1)))) (fun hH7 => ?_)
      clear hK K hH6
      (try simp only [Act.put, List.setIfInBounds_toArray, List.set_cons_zero, List.set_cons_succ])
      refine tk at10 ?_
      refine wpAnyH_done (by kernel_rfl) ?_ _
      clear hH7
      go_wp2_with fail
      go_ret
      exact ⟨by rw [← HB.out, (HNO.out trivial)] <;> rfl, (J2 M)⟩
     | true =>
      refine cj3 (HRz.out.keep (J1 M)).c3 fun r1_0 r1_1 r1_2 => ?_
      go_wp2_with fail
      clear r1_0 r1_1 r1_2
      refine nmW (w4.alloc (.cells #[.int .i64 zs, .int .i64 zf, .int .i64 zu] 52)) fun w5 hv => ?_
      rw [← hv]
      have ow1_ : w.heap.size ≤ w4.heap.size := ((J1 M)).size
      replace M := alM hv M
      clear hv
      refine nmW w5.drew fun w6 hv => ?_
      replace M := drM hv M
      refine wp_region_held_drew (S := (fun w' => w'.cell? ⟨w4.heap.size, 0, none⟩ = some (.int .i64 zs) ∧ w'.cell? ⟨w4.heap.size, 1, none⟩ = some (.int .i64 zf) ∧ w'.cell? ⟨w4.heap.size, 2, none⟩ = some (.int .i64 zu) ∧ w'.cell? ⟨bx, offx + k, none⟩ = some (.slice xa xn xc) ∧ w'.cell? ⟨bh, ofh + k, none⟩ = some (.slice ya yn yc))) (by kernel_rfl) (by rw [← hv]; exact ((M.out.1).t3 ((show Row w6 bx (offx + k) [.slice xa xn xc] from (RdH.row_ (J1 M).1 HEx.out)).t1 ((HRy.out.keep (J2 M)).c1)))) (fun hH8 => ?_)
      rw [← hv] at hH8 ⊢
      clear hv
      refine tk at0 ?_
      refine tk at1 ?_
      refine tk at2 ?_
      refine tk at3 ?_
      refine tk at4 ?_
      refine tk at5 ?_
      refine tk at6 ?_
      refine tk at7 ?_
      refine tk at8 ?_
      refine wpAnyH_ready (rs := [9]) (by kernel_rfl) (by simp) ?_
      refine AllReadyH.cons at9 (fun K hK => ?_) AllReadyH.nil
      go_simp
      refine (ctFits (G := G) (ms_ := zs) (mf := zf) (mu := zu) (b_ := true) (Nat.le_trans hG (J2 M).size) (show RdM G w6 xa xn xc xl from (RdL.oksC (J1 M).1 _ (List.mem_of_getElem? HEx.out))) (HDy.out.keep (J2 M)) (by omega) (by omega) HZx.out HZy.out (by omega) (by omega) (by omega) HIN.out HMO.out HT1.out).mono ?_
      rintro e w7 ⟨rfl, hb⟩
      replace M := gnM hb M
      clear hb
      (try go_wp2_with fail)
      refine hK.out _ _ (((M.out.1).t3 ((show Row w7 bx (offx + k) [.slice xa xn xc] from (RdH.row_ (J1 M).1 HEx.out)).t1 ((HRy.out.keep (J2 M)).c1)))) (fun hH9 => ?_)
      clear hK K hH8
      (try simp only [Act.put, List.setIfInBounds_toArray, List.set_cons_zero, List.set_cons_succ])
      refine tk at10 ?_
      refine wpAnyH_done (by kernel_rfl) ?_ _
      clear hH9
      go_wp2_with fail
      go_roundw
      case rel => exact ⟨(k + 1), by go_num, (by show _ ≤ _; omega), (Lib.hid (range_next HA.out HFK.out)), Lib.hid (aI (J1 M).1 (J2 M))⟩
      case measure => simp [RowKit.intOf] <;> omega
    ·
     have e1_0 : decide (k < nn) = false := decide_eq_false (by omega)
     have e1_1 : decide ((k : Int) < (nn : Int)) = false := decide_eq_false (by omega)
     have e1_i : ¬ (k : Int) < (nn : Int) := by omega
     have HYES : Hid (allowB (ivOf cs rr) nb big ms rs (H.map HdX.vs) = true) := allow_yes HFE.out (by rw [List.length_map, HHX.out.len, HM.out.len]; exact HLN.out) (by rw [HM.out.len, show nn = k by omega]; exact HA.out)
     go_wp2_with fail
     go_ret
     exact ⟨by rw [← HB.out, HYES.out] <;> rfl, (J1 M)⟩
  ·
   have n2_ : ((nh : Int) != (nn : Int)) = true := bne_iff_ne.2 (by omega)
   have HNO : Hid (allowB (ivOf cs rr) nb big ms rs (H.map HdX.vs) = false) := allow_len (by rw [List.length_map, HHX.out.len, HM.out.len]; exact hln_)
   clear hln_
   refine cj3 (M.out.1).d3 fun aa ab ad => ?_
   go_wp2_with fail
   clear aa ab ad
   refine (ctFormed (G := G) (nm := nm) (nb := nb) (big := big) (er := 0) (Nat.le_trans hG (J1 M).size) (HM.out.keep (J1 M)) (HR.out.keep (J1 M)) (HC.out.keep (J1 M)) (HQ.out.keep (J1 M)) (by omega) (by omega) (by omega) (by omega) (by omega) HNB.out HBG.out HFE.out).mono ?_
   rintro e w2 ⟨rfl, hb⟩
   replace M := gnM hb M
   clear hb
   refine cj3 (M.out.1).d3 fun aa ab ad => ?_
   go_wp2_with fail
   clear aa ab ad
   go_ret
   exact ⟨by rw [← HB.out, HNO.out] <;> rfl, (J1 M)⟩
 ·
  have em2_ : (fe != 0) = true := bne_iff_ne.2 hem_
  have HNO : Hid (allowB (ivOf cs rr) nb big ms rs (H.map HdX.vs) = false) := allow_fe HFE.out hem_
  clear hem_
  refine cj3 (M.out.1).d3 fun aa ab ad => ?_
  go_wp2_with fail
  clear aa ab ad
  refine (ctFormed (G := G) (nm := nm) (nb := nb) (big := big) (er := fe) (Nat.le_trans hG (J1 M).size) (HM.out.keep (J1 M)) (HR.out.keep (J1 M)) (HC.out.keep (J1 M)) (HQ.out.keep (J1 M)) (by omega) (by omega) (by omega) (by omega) (by omega) HNB.out HBG.out HFE.out).mono ?_
  rintro e w2 ⟨rfl, hb⟩
  replace M := gnM hb M
  clear hb
  go_wp2_with fail
  go_ret
  exact ⟨by rw [← HB.out, HNO.out] <;> rfl, (J1 M)⟩
theorem ctAllowed_l {nm : ByteArray} {am ar ac aq : Option Addr} {nn cm nr cr kc cc kq cq : Nat} {ms : List Mt} {rs : List Rg} {cs : List Ct} {rr : List Rc} {ah : Option Addr} {nh ch : Nat} {H : List HdX} {nb big b_ : Bool} {w : World} (hG : G ≤ w.heap.size) (hm : RdMt G w am nn cm ms) (hr : RdRg G w ar nr cr rs) (hc : CtS w ac kc cc cs) (hq : RcS w aq kq cq rr) (hsz : nm.size ≤ 1000) (hnn : nn ≤ 1000) (hnr : nr ≤ 1000) (hcl : kc ≤ 1000) (hrl : kq ≤ 1000) (hh : RdHX G w ah nh ch H) (hzx : XZL H 60) (hlx : LenX H 1000) (hnb : nameOk nm.data.toList = nb) (hbg : bigB ms rs cs.length rr.length = big) (hb : allowB (ivOf cs rr) nb big ms rs (H.map HdX.vs) = b_) :
  Calls Try.prog 19 #[.agg #[.string nm, .slice am nn cm, .slice ar nr cr], .slice ac kc cc, .slice aq kq cq, .slice ah nh ch] w fun e w' => e = .returned (.bool b_) ∧ Below w.heap.size w w' := by
 have h1 := hc.len
 have h2 := hq.len
 subst h1 h2
 exact ctAllowed hG hm hr hc hq hsz hnn hnr hcl hrl hh hzx hlx hnb hbg hb
end Go.Proofs.Ytlcgckelamhnpaa
namespace Go.Proofs.Ytlcgckelamhnpaa
open Go.RowKit Go.Lib
variable {G : Nat}

set_option maxRecDepth 100000 in
set_option maxHeartbeats 4000000 in
theorem ctFlat {q : Nat} {zs zf zu da db : Int} {nm : ByteArray} {am ar ac aq : Option Addr} {nn cm nr cr kc cc kq cq : Nat} {ms : List Mt} {rs : List Rg} {cs : List Ct} {rr : List Rc} {w : World} (hG : G ≤ w.heap.size) (hm : RdMt G w am nn cm ms) (hr : RdRg G w ar nr cr rs) (hc : CtS w ac kc cc cs) (hq : RcS w aq kq cq rr) (_hsz : nm.size ≤ 1000) (_hnn : nn ≤ 1000) (_hnr : nr ≤ 1000) (_hcl : kc ≤ 1000) (_hrl : kq ≤ 1000) (hms : ms[q]? = some ⟨zs, zf, zu⟩) (_hzf : 0 ≤ zf) (_hzfu : zf ≤ zu) (_hzu : zu ≤ 900)  :
  Calls Try.prog 27 #[.agg #[.string nm, .slice am nn cm, .slice ar nr cr], .slice ac kc cc, .slice aq kq cq, .int .i64 (q : Int), .int .i64 da, .int .i64 db] w fun e w' => ∃ ad n_ c_ L, e = .returned (.slice ad n_ c_) ∧ RdX G w' ad n_ c_ L ∧ L.map XC.o = (mkH zf zu (flatF (marksL (ivOf cs rr) ms rs (q : Int)) da db)).map some ∧ XZ L 60 ∧ n_ ≤ 1000 ∧ Below w.heap.size w w' := by
 have hqn : q < nn := by have h_ := (List.getElem?_eq_some_iff.1 hms).1; have h2_ := hm.len; omega
 have HMS := Lib.hid hms; clear hms
 have HM : Hid (RdMt G w am nn cm ms) := hm
 have HR : Hid (RdRg G w ar nr cr rs) := hr
 have HC : Hid (CtS w ac kc cc cs) := hc
 have HQ : Hid (RcS w aq kq cq rr) := hq
 clear hm hr hc hq
 have M : Hid (Below w.heap.size w w) := Below.refl _ _
 go_enter Try.func27, Try.ntmps27
 go_upto_region 1 with fail
 refine nmW (w.alloc (.cells #[.string nm, .slice am nn cm, .slice ar nr cr] 25)) fun w1 hv => ?_
 rw [← hv]
 replace M := alM hv M
 clear hv
 obtain ⟨bm, ofm, rfl, hb_⟩ := RdL.ptr HM.out (by omega : 0 < nn)
 have HRz : Hid (Row w bm (ofm + q * 3) [.int .i64 zs, .int .i64 zf, .int .i64 zu]) := hb_.row HMS.out
 clear hb_
 refine cj3 (M.out.1).d3 fun aa ab ae => ?_
 have z0 : w.heap.size < w1.heap.size := (M.out.1).lt
 refine cj3 (HRz.out.keep (J1 M)).c3 fun r0_0 r0_1 r0_2 => ?_
 go_upto_region 2 with fail
 clear aa ab ae z0 r0_0 r0_1 r0_2
 refine nmW (w1.alloc (.cells #[.int .i64 zs, .int .i64 zf, .int .i64 zu] 52)) fun w2 hv => ?_
 rw [← hv]
 have ow1_ : w.heap.size < w1.heap.size := ((M.out.1)).lt
 replace M := alM hv M
 clear hv
 obtain ⟨qb, hqb_⟩ : ∃ z : Rat, leastQ (marksL (ivOf cs rr) ms rs (q : Int)) db = z := ⟨_, rfl⟩
 have HZqb : Hid (Fz qb 60) := by show Fz _ _; rw [← hqb_]; exact lowZ _ _ _ _ _ _
 have HQb := Lib.hid hqb_; clear hqb_
 refine cj3 (J1 M).1.d3 fun aa ab ae => ?_
 go_wp2_with fail
 clear aa ab ae
 refine (ctLow_l (G := G) (day := db) (qv := qb) (nm := nm) (Nat.le_trans hG (J2 M).size) (HM.out.keep (J2 M)) (HR.out.keep (J2 M)) (HC.out.keep (J2 M)) (HQ.out.keep (J2 M)) (by omega) (by omega) (by omega) (by omega) (by omega) hqn HQb.out).mono ?_
 rintro e w3 ⟨x_1, x_2, x_3, x_4, rfl, hd5, hb⟩
 replace M := adM hd5 hb M
 clear hb hd5
 refine cj4 (TQ.st (M.out.1)) fun af ah ai aj => ?_
 go_upto_region 3 with fail
 clear af ah ai aj
 refine nmW (w3.alloc (.cells #[x_1, x_2, x_3, x_4] 38)) fun w4 hv => ?_
 rw [← hv]
 have ow2_ : w1.heap.size < w3.heap.size := ((J1 M).1).lt
 replace M := alM hv M
 clear hv
 rcases ha_ : mostO (marksL (ivOf cs rr) ms rs (q : Int)) da with _ | qa
 ·
  have HMa := Lib.hid ha_; clear ha_
  refine cj3 (J3 M).1.d3 fun aa ab ae => ?_
  go_wp2_with fail
  clear aa ab ae
  refine (ctHigh_l (G := G) (day := da) (qv := 0) (b_ := false) (nm := nm) (Nat.le_trans hG (J4 M).size) (HM.out.keep (J4 M)) (HR.out.keep (J4 M)) (HC.out.keep (J4 M)) (HQ.out.keep (J4 M)) (by omega) (by omega) (by omega) (by omega) (by omega) hqn (by rw [HMa.out]; rfl) (fun h_ => by first | rfl | cases h_)).mono ?_
  rintro e w5 ⟨x_6, x_7, x_8, x_9, rfl, hd10, hb⟩
  replace M := adM hd10 hb M
  clear hb hd10
  refine cj4 (TQ.st (M.out.1)) fun ak al ao ap => ?_
  go_upto_region 4 with fail
  clear ak al ao ap
  refine nmW (w5.alloc (.cells #[x_6, x_7, x_8, x_9] 38)) fun w6 hv => ?_
  rw [← hv]
  have ow3_ : w3.heap.size < w5.heap.size := ((J1 M).1).lt
  replace M := alM hv M
  clear hv
  go_upto_region 6 with fail
  have HQC : Hid (flatC (marksL (ivOf cs rr) ms rs (q : Int)) da db = qb) := by show _ = _; unfold flatC; rw [HMa.out]; exact HQb.out
  have hB0_ : w.heap.size ≤ w6.heap.size := ((J6 M)).size
  have hGB_ : G ≤ w6.heap.size := Nat.le_trans hG hB0_
  have hlt0_ : w5.heap.size < w6.heap.size := ((M.out.1)).lt
  have hlt1_ : w3.heap.size < w6.heap.size := ((J2 M).1).lt
  have hlt2_ : w1.heap.size < w6.heap.size := ((J4 M).1).lt
  have hlt3_ : w.heap.size < w6.heap.size := ((J5 M).1).lt
  replace M := Lib.hid (aI (Below.refl w6.heap.size w6) M.out)
  go_upto_region 7 with fail
  refine nmW (w6.alloc (.cells #[] 38)) fun w7 hv => ?_
  rw [← hv]
  have ow4_ : w5.heap.size < w6.heap.size := ((J1 M).1).lt
  have ob4_ : w6.heap.size ≤ w6.heap.size := ((M.out.1)).size
  replace M := alM hv M
  clear hv
  refine cj3 (J6 M).1.d3 fun au av aw => ?_
  go_wp2_with fail
  clear au av aw
  replace M := Lib.hid (aI (M.out.1) (aI (J1 M).1 (aI (J4 M).1 (aI (J5 M).1 (aI (J6 M).1 (aI (J7 M).1 (J8 M)))))))
  go_loopw [17, 18] (fun i17 i18 wr => ∃ (k : Nat) (dd : Int) (gl : List XC) (vg : Value), vg = i17 ∧ i18 = .int .i64 dd ∧ Hid (zf ≤ dd ∧ dd ≤ zu + 1 ∧ k ≤ 901) ∧ Hid (dd = zf + (k : Int)) ∧ Hid (gl.length = k) ∧ Hid (gl.map XC.o = ((List.range k).map fun i : Nat => flatF (marksL (ivOf cs rr) ms rs (q : Int)) da db (zf + i)).map some) ∧ Hid (XZ gl 60) ∧ Hid (OwVX G w6.heap.size wr vg gl ∧ Below w6.heap.size w6 wr ∧ Bx wr w3.heap.size 38 #[x_1, x_2, x_3, x_4] ∧ FQ G wr x_1 x_2 x_3 x_4 qb ∧ Bx wr w1.heap.size 52 #[.int .i64 zs, .int .i64 zf, .int .i64 zu] ∧ Bx wr w.heap.size 25 #[.string nm, .slice (some ⟨bm, ofm, none⟩) nn cm, .slice ar nr cr] ∧ Below w.heap.size w wr)) (fun i17 i18 _ => (zu + 1 - (RowKit.intOf i18)).toNat)
  case atStart =>
   exact ⟨0, zf, [], (.slice (some ⟨w6.heap.size, 0, none⟩) 0 0), rfl, rfl, (by show _ ∧ _ ∧ _; omega), (Lib.hid (by omega)), (Lib.hid rfl), (Lib.hid rfl), (Lib.hid XZ.nil), Lib.hid (aI (OwV.emptyC (M.out.1) hGB_ (Nat.le_refl _)) (aI (J1 M).1 (aI (J2 M).1 (aI (J3 M).1 (aI (J4 M).1 (aI (J5 M).1 (J6 M)))))))⟩
  case round =>
   obtain ⟨w8, rfl⟩ : ∃ x, x = wr := ⟨_, rfl⟩
   clear M
   obtain ⟨k, dd, gl, vg, rfl, rfl, hk, HD, HGL, HGM, HGZ, M⟩ := hrel
   have hk := hk.out
   by_cases c1_ : dd ≤ zu
   ·
    have c1 : decide (dd ≤ zu) = true := decide_eq_true (by omega)
    have c1i : dd ≤ zu := by omega
    obtain ⟨ql, hql_⟩ : ∃ z : Rat, leastQ (marksL (ivOf cs rr) ms rs (q : Int)) dd = z := ⟨_, rfl⟩
    have HZql : Hid (Fz ql 60) := by show Fz _ _; rw [← hql_]; exact lowZ _ _ _ _ _ _
    have HQl := Lib.hid hql_; clear hql_
    by_cases c2_ : da ≤ dd
    ·
     have c2 : decide (da ≤ dd) = true := decide_eq_true (by omega)
     have c2i : da ≤ dd := by omega
     refine cj3 (J4 M).1.d3 fun au av aw => ?_
     refine cj3 (J5 M).1.d3 fun aa ab ae => ?_
     go_wp2_with fail
     clear au av aw aa ab ae
     refine (ctLow_l (G := G) (day := dd) (qv := ql) (nm := nm) (Nat.le_trans hG (J6 M).size) (HM.out.keep (J6 M)) (HR.out.keep (J6 M)) (HC.out.keep (J6 M)) (HQ.out.keep (J6 M)) (by omega) (by omega) (by omega) (by omega) (by omega) hqn HQl.out).mono ?_
     rintro e w9 ⟨x_11, x_12, x_13, x_14, rfl, hd15, hb⟩
     replace M := adM hd15 hb M
     clear hb hd15
     refine cj4 (TQ.st (M.out.1)) fun ax ay az ba => ?_
     go_upto_region 11 with fail
     clear ax ay az ba
     refine nmW (w9.alloc (.cells #[x_11, x_12, x_13, x_14] 38)) fun w10 hv => ?_
     rw [← hv]
     have ow5_ : w3.heap.size < w9.heap.size := ((J3 M).1).lt
     have ob5_ : w6.heap.size ≤ w9.heap.size := ((J2 M).1).size
     have no_b5_vg := OwV.no (J1 M).1
     replace M := alM hv M
     clear hv
     refine cj4 (M.out.1).d4 fun bb bc bd bf => ?_
     refine cj4 (J4 M).1.d4 fun bg bh bi bj => ?_
     go_wp2_with fail
     clear bb bc bd bf bg bh bi bj
     refine (fqMax (G := G) (q := ql) (r := qb) (m := (maxQ ql qb)) (Nat.le_trans hG (J8 M).size) (J1 M).1 (J5 M).1 (Fz.mono HZql.out (by omega)) (Fz.mono HZqb.out (by omega)) (pick_max _ _)).mono ?_
     rintro e w11 ⟨x_16, x_17, x_18, x_19, rfl, hd20, hb⟩
     replace M := adM hd20 hb M
     clear hb hd20
     refine cj8 (J1 M).1.c4 fun bb bk bc bl bd bn bf bo => ?_
     refine cj4 (TQ.st (M.out.1)) fun bp bq br bs => ?_
     go_upto_region 13 with fail
     clear bb bk bc bl bd bn bf bo bp bq br bs
     have hz : w.heap.size ≤ w9.heap.size := by omega
     refine st4W (x_16) (x_17) (x_18) (x_19) (J1 M).1 (J9 M) hz fun w12 hv og hk hbw => ?_
     rw [← hv]
     replace M := Lib.hid (aI ((M.out.1).far (J1 M).1 (by rfl) (by omega) og) (aI hk (aI ((J2 M).1.far (J1 M).1 (by rfl) (by omega) og) (aI (OwV.far_no (J3 M).1 (J1 M).1 no_b5_vg (by rfl) (by omega) og) (aI (show Below w6.heap.size w6 w12 from by rw [hv]; exact (Below.setCell (Below.setCell (Below.setCell (Below.setCell (J4 M).1 (by omega) _) (by omega) _) (by omega) _) (by omega) _)) (aI ((J5 M).1.only og (by omega)) (aI ((J6 M).1.far (J1 M).1 (by rfl) (by omega) og) (aI ((J7 M).1.only og (by omega)) (aI ((J8 M).1.only og (by omega)) hbw)))))))))
     clear hk hbw og hv hz
     refine cj4 (J1 M).1.d4 fun bb bc bd bf => ?_
     have z5 : w9.heap.size < w12.heap.size := (J1 M).1.lt
     go_upto_region 9 with (at_builtin; go_must (refine wpList_pushV rfl _ _ elemFrC rfl w12 (J3 M).1 HGL.out (xcOf x_16 x_17 x_18 x_19 (maxQ ql qb)) (xc_ok (M.out.1)) rfl rfl rfl rfl (by rfl) (by omega) (by omega) (J4 M).1.size ?_; intro vv_21 w13 ho_ hg_))
     clear bb bc bd bf z5
     replace M := Lib.hid (aI ho_ (aI ((M.out.1).grown (J3 M).1.own (by rfl) (J3 M).1.leG hg_) (aI ((J2 M).1.grown (J3 M).1.own (by rfl) (J3 M).1.leG hg_) (aI (below_grown (J4 M).1 (J3 M).1.own (Nat.le_refl _) (J4 M).1.size hg_) (aI ((J5 M).1.grownB (J3 M).1.own (by omega) hg_) (aI ((J6 M).1.grown (J3 M).1.own (by rfl) (J3 M).1.leG hg_) (aI ((J7 M).1.grownT (J3 M).1.own (by rfl) hg_) (aI ((J8 M).1.grownT (J3 M).1.own (by rfl) hg_) (below_grown (J9 M) (J3 M).1.own hB0_ (J9 M).size hg_)))))))))
     clear ho_ hg_
     go_wp2_with fail
     go_roundw
     case rel => exact ⟨(k + 1), (dd + 1), (gl ++ [(xcOf x_16 x_17 x_18 x_19 (maxQ ql qb))]), vv_21, rfl, by go_num, (by have hd_ := HD.out; show _ ∧ _ ∧ _; omega), (Lib.hid (by have h_ := HD.out; omega)), (Lib.hid (by rw [List.length_append, HGL.out]; rfl)), (Lib.hid (hist_next HGM.out HD.out (by unfold flatF; rw [if_pos (show da ≤ dd by omega), HQl.out, HQC.out]))), (Lib.hid (HGZ.out.push (Fz.maxQ HZql.out HZqb.out))), Lib.hid (aI (M.out.1) (aI (J3 M).1 (aI (J4 M).1 (aI (J5 M).1 (aI (J6 M).1 (aI (J7 M).1 (J8 M)))))))⟩
     case measure => simp [RowKit.intOf] <;> omega
    ·
     have c2 : decide (da ≤ dd) = false := decide_eq_false (by omega)
     have c2i : ¬ da ≤ dd := by omega
     refine cj3 (J4 M).1.d3 fun au av aw => ?_
     refine cj3 (J5 M).1.d3 fun aa ab ae => ?_
     go_wp2_with fail
     clear au av aw aa ab ae
     refine (ctLow_l (G := G) (day := dd) (qv := ql) (nm := nm) (Nat.le_trans hG (J6 M).size) (HM.out.keep (J6 M)) (HR.out.keep (J6 M)) (HC.out.keep (J6 M)) (HQ.out.keep (J6 M)) (by omega) (by omega) (by omega) (by omega) (by omega) hqn HQl.out).mono ?_
     rintro e w9 ⟨x_22, x_23, x_24, x_25, rfl, hd26, hb⟩
     replace M := adM hd26 hb M
     clear hb hd26
     refine cj4 (TQ.st (M.out.1)) fun bt bu bv bw => ?_
     go_upto_region 11 with fail
     clear bt bu bv bw
     refine nmW (w9.alloc (.cells #[x_22, x_23, x_24, x_25] 38)) fun w10 hv => ?_
     rw [← hv]
     have ow5_ : w3.heap.size < w9.heap.size := ((J3 M).1).lt
     have ob5_ : w6.heap.size ≤ w9.heap.size := ((J2 M).1).size
     have no_b5_vg := OwV.no (J1 M).1
     replace M := alM hv M
     clear hv
     refine cj4 (M.out.1).d4 fun bb bc bd bf => ?_
     have z5 : w9.heap.size < w10.heap.size := (M.out.1).lt
     go_upto_region 9 with (at_builtin; go_must (refine wpList_pushV rfl _ _ elemFrC rfl w10 (J2 M).1 HGL.out (xcOf x_22 x_23 x_24 x_25 ql) (xc_ok (J1 M).1) rfl rfl rfl rfl (by rfl) (by omega) (by omega) (J3 M).1.size ?_; intro vv_27 w11 ho_ hg_))
     clear bb bc bd bf z5
     replace M := Lib.hid (aI ho_ (aI ((J1 M).1.grown (J2 M).1.own (by rfl) (J2 M).1.leG hg_) (aI (below_grown (J3 M).1 (J2 M).1.own (Nat.le_refl _) (J3 M).1.size hg_) (aI ((J4 M).1.grownB (J2 M).1.own (by omega) hg_) (aI ((J5 M).1.grown (J2 M).1.own (by rfl) (J2 M).1.leG hg_) (aI ((J6 M).1.grownT (J2 M).1.own (by rfl) hg_) (aI ((J7 M).1.grownT (J2 M).1.own (by rfl) hg_) (below_grown (J8 M) (J2 M).1.own hB0_ (J8 M).size hg_))))))))
     clear ho_ hg_
     go_wp2_with fail
     go_roundw
     case rel => exact ⟨(k + 1), (dd + 1), (gl ++ [(xcOf x_22 x_23 x_24 x_25 ql)]), vv_27, rfl, by go_num, (by have hd_ := HD.out; show _ ∧ _ ∧ _; omega), (Lib.hid (by have h_ := HD.out; omega)), (Lib.hid (by rw [List.length_append, HGL.out]; rfl)), (Lib.hid (hist_next HGM.out HD.out (by unfold flatF; rw [if_neg (show ¬ da ≤ dd by omega)]; exact HQl.out))), (Lib.hid (HGZ.out.push HZql.out)), Lib.hid (aI (M.out.1) (aI (J2 M).1 (aI (J3 M).1 (aI (J4 M).1 (aI (J5 M).1 (aI (J6 M).1 (J7 M)))))))⟩
     case measure => simp [RowKit.intOf] <;> omega
   ·
    have c1 : decide (dd ≤ zu) = false := decide_eq_false (by omega)
    have c1i : ¬ dd ≤ zu := by omega
    have HEND := Lib.hid (hist_end HGM.out HD.out c1i hk.2.1)
    have hkl_ : k ≤ 1000 := by have h_ := HD.out; omega
    refine cj3 (J4 M).1.d3 fun au av aw => ?_
    go_wp2_with fail
    clear au av aw
    obtain ⟨ag, cg, hvg_, hrd_⟩ := OwV.rdl (M.out.1) HGL.out
    subst hvg_
    go_ret
    exact ⟨_, _, _, rfl, gl, hrd_, HEND.out, HGZ.out, hkl_, (J6 M)⟩
 ·
  have hz_ := highZ cs rr ms rs (q : Int) da
  rw [ha_] at hz_
  have HZa : Hid (Fz qa 60) := hz_
  have HMa := Lib.hid ha_; clear ha_ hz_
  refine cj3 (J3 M).1.d3 fun aa ab ae => ?_
  go_wp2_with fail
  clear aa ab ae
  refine (ctHigh_l (G := G) (day := da) (qv := qa) (b_ := true) (nm := nm) (Nat.le_trans hG (J4 M).size) (HM.out.keep (J4 M)) (HR.out.keep (J4 M)) (HC.out.keep (J4 M)) (HQ.out.keep (J4 M)) (by omega) (by omega) (by omega) (by omega) (by omega) hqn (by rw [HMa.out]; rfl) (fun h_ => by first | rfl | cases h_)).mono ?_
  rintro e w5 ⟨x_28, x_29, x_30, x_31, rfl, hd32, hb⟩
  replace M := adM hd32 hb M
  clear hb hd32
  refine cj4 (TQ.st (M.out.1)) fun bx bz ca cb => ?_
  go_upto_region 4 with fail
  clear bx bz ca cb
  refine nmW (w5.alloc (.cells #[x_28, x_29, x_30, x_31] 38)) fun w6 hv => ?_
  rw [← hv]
  have ow3_ : w3.heap.size < w5.heap.size := ((J1 M).1).lt
  replace M := alM hv M
  clear hv
  refine cj4 (J2 M).1.d4 fun bg bh bi bj => ?_
  refine cj4 (M.out.1).d4 fun cd ce cf ch => ?_
  go_wp2_with fail
  clear bg bh bi bj cd ce cf ch
  refine (fqMin (G := G) (q := qb) (r := qa) (m := (minQ qb qa)) (Nat.le_trans hG (J6 M).size) (J3 M).1 (J1 M).1 (Fz.mono HZqb.out (by omega)) (Fz.mono HZa.out (by omega)) (pick_min _ _)).mono ?_
  rintro e w7 ⟨x_33, x_34, x_35, x_36, rfl, hd37, hb⟩
  replace M := adM hd37 hb M
  clear hb hd37
  refine cj8 (J3 M).1.c4 fun bg ci bh cj bi ck bj cl => ?_
  refine cj4 (TQ.st (M.out.1)) fun cn co cp ct => ?_
  go_upto_region 6 with fail
  clear bg ci bh cj bi ck bj cl cn co cp ct
  have hz : w.heap.size ≤ w3.heap.size := by omega
  refine st4W (x_33) (x_34) (x_35) (x_36) (J3 M).1 (J7 M) hz fun w8 hv og hk hbw => ?_
  rw [← hv]
  replace M := Lib.hid (aI ((M.out.1).far (J3 M).1 (by rfl) (by omega) og) (aI ((J1 M).1.only og (by omega)) (aI ((J2 M).1.far (J3 M).1 (by rfl) (by omega) og) (aI hk (aI ((J4 M).1.far (J3 M).1 (by rfl) (by omega) og) (aI ((J5 M).1.only og (by omega)) (aI ((J6 M).1.only og (by omega)) hbw)))))))
  clear hk hbw og hv hz
  have HQC : Hid (flatC (marksL (ivOf cs rr) ms rs (q : Int)) da db = (minQ qb qa)) := by show _ = _; unfold flatC; rw [HMa.out]; show minQ _ _ = _; rw [HQb.out]
  have hB0_ : w.heap.size ≤ w8.heap.size := ((J7 M)).size
  have hGB_ : G ≤ w8.heap.size := Nat.le_trans hG hB0_
  have hlt0_ : w5.heap.size < w8.heap.size := ((J1 M).1).lt
  have hlt1_ : w3.heap.size < w8.heap.size := ((J3 M).1).lt
  have hlt2_ : w1.heap.size < w8.heap.size := ((J5 M).1).lt
  have hlt3_ : w.heap.size < w8.heap.size := ((J6 M).1).lt
  replace M := Lib.hid (aI (Below.refl w8.heap.size w8) M.out)
  go_upto_region 7 with fail
  refine nmW (w8.alloc (.cells #[] 38)) fun w9 hv => ?_
  rw [← hv]
  have ow4_ : w5.heap.size < w8.heap.size := ((J2 M).1).lt
  have ob4_ : w8.heap.size ≤ w8.heap.size := ((M.out.1)).size
  replace M := alM hv M
  clear hv
  refine cj3 (J7 M).1.d3 fun au av aw => ?_
  go_wp2_with fail
  clear au av aw
  replace M := Lib.hid (aI (M.out.1) (aI (J1 M).1 (aI (J2 M).1 (aI (J5 M).1 (aI (J7 M).1 (aI (J8 M).1 (J9 M)))))))
  go_loopw [17, 18] (fun i17 i18 wr => ∃ (k : Nat) (dd : Int) (gl : List XC) (vg : Value), vg = i17 ∧ i18 = .int .i64 dd ∧ Hid (zf ≤ dd ∧ dd ≤ zu + 1 ∧ k ≤ 901) ∧ Hid (dd = zf + (k : Int)) ∧ Hid (gl.length = k) ∧ Hid (gl.map XC.o = ((List.range k).map fun i : Nat => flatF (marksL (ivOf cs rr) ms rs (q : Int)) da db (zf + i)).map some) ∧ Hid (XZ gl 60) ∧ Hid (OwVX G w8.heap.size wr vg gl ∧ Below w8.heap.size w8 wr ∧ FQ G wr x_33 x_34 x_35 x_36 (minQ qb qa) ∧ Bx wr w3.heap.size 38 #[x_33, x_34, x_35, x_36] ∧ Bx wr w1.heap.size 52 #[.int .i64 zs, .int .i64 zf, .int .i64 zu] ∧ Bx wr w.heap.size 25 #[.string nm, .slice (some ⟨bm, ofm, none⟩) nn cm, .slice ar nr cr] ∧ Below w.heap.size w wr)) (fun i17 i18 _ => (zu + 1 - (RowKit.intOf i18)).toNat)
  case atStart =>
   exact ⟨0, zf, [], (.slice (some ⟨w8.heap.size, 0, none⟩) 0 0), rfl, rfl, (by show _ ∧ _ ∧ _; omega), (Lib.hid (by omega)), (Lib.hid rfl), (Lib.hid rfl), (Lib.hid XZ.nil), Lib.hid (aI (OwV.emptyC (M.out.1) hGB_ (Nat.le_refl _)) (aI (J1 M).1 (aI (J2 M).1 (aI (J3 M).1 (aI (J4 M).1 (aI (J5 M).1 (J6 M)))))))⟩
  case round =>
   obtain ⟨w10, rfl⟩ : ∃ x, x = wr := ⟨_, rfl⟩
   clear M
   obtain ⟨k, dd, gl, vg, rfl, rfl, hk, HD, HGL, HGM, HGZ, M⟩ := hrel
   have hk := hk.out
   by_cases c1_ : dd ≤ zu
   ·
    have c1 : decide (dd ≤ zu) = true := decide_eq_true (by omega)
    have c1i : dd ≤ zu := by omega
    obtain ⟨ql, hql_⟩ : ∃ z : Rat, leastQ (marksL (ivOf cs rr) ms rs (q : Int)) dd = z := ⟨_, rfl⟩
    have HZql : Hid (Fz ql 60) := by show Fz _ _; rw [← hql_]; exact lowZ _ _ _ _ _ _
    have HQl := Lib.hid hql_; clear hql_
    by_cases c2_ : da ≤ dd
    ·
     have c2 : decide (da ≤ dd) = true := decide_eq_true (by omega)
     have c2i : da ≤ dd := by omega
     refine cj3 (J4 M).1.d3 fun au av aw => ?_
     refine cj3 (J5 M).1.d3 fun aa ab ae => ?_
     go_wp2_with fail
     clear au av aw aa ab ae
     refine (ctLow_l (G := G) (day := dd) (qv := ql) (nm := nm) (Nat.le_trans hG (J6 M).size) (HM.out.keep (J6 M)) (HR.out.keep (J6 M)) (HC.out.keep (J6 M)) (HQ.out.keep (J6 M)) (by omega) (by omega) (by omega) (by omega) (by omega) hqn HQl.out).mono ?_
     rintro e w11 ⟨x_38, x_39, x_40, x_41, rfl, hd42, hb⟩
     replace M := adM hd42 hb M
     clear hb hd42
     refine cj4 (TQ.st (M.out.1)) fun cu cv cw cx => ?_
     go_upto_region 11 with fail
     clear cu cv cw cx
     refine nmW (w11.alloc (.cells #[x_38, x_39, x_40, x_41] 38)) fun w12 hv => ?_
     rw [← hv]
     have ow5_ : w3.heap.size < w11.heap.size := ((J4 M).1).lt
     have ob5_ : w8.heap.size ≤ w11.heap.size := ((J2 M).1).size
     have no_b5_vg := OwV.no (J1 M).1
     replace M := alM hv M
     clear hv
     refine cj4 (M.out.1).d4 fun bb bc bd bf => ?_
     refine cj4 (J5 M).1.d4 fun bg bh bi bj => ?_
     go_wp2_with fail
     clear bb bc bd bf bg bh bi bj
     refine (fqMax (G := G) (q := ql) (r := (minQ qb qa)) (m := (maxQ ql (minQ qb qa))) (Nat.le_trans hG (J8 M).size) (J1 M).1 (J4 M).1 (Fz.mono HZql.out (by omega)) (Fz.mono (Fz.minQ HZqb.out HZa.out) (by omega)) (pick_max _ _)).mono ?_
     rintro e w13 ⟨x_43, x_44, x_45, x_46, rfl, hd47, hb⟩
     replace M := adM hd47 hb M
     clear hb hd47
     refine cj8 (J1 M).1.c4 fun bb bk bc bl bd bn bf bo => ?_
     refine cj4 (TQ.st (M.out.1)) fun cy cz dc de => ?_
     go_upto_region 13 with fail
     clear bb bk bc bl bd bn bf bo cy cz dc de
     have hz : w.heap.size ≤ w11.heap.size := by omega
     refine st4W (x_43) (x_44) (x_45) (x_46) (J1 M).1 (J9 M) hz fun w14 hv og hk hbw => ?_
     rw [← hv]
     replace M := Lib.hid (aI ((M.out.1).far (J1 M).1 (by rfl) (by omega) og) (aI hk (aI ((J2 M).1.far (J1 M).1 (by rfl) (by omega) og) (aI (OwV.far_no (J3 M).1 (J1 M).1 no_b5_vg (by rfl) (by omega) og) (aI (show Below w8.heap.size w8 w14 from by rw [hv]; exact (Below.setCell (Below.setCell (Below.setCell (Below.setCell (J4 M).1 (by omega) _) (by omega) _) (by omega) _) (by omega) _)) (aI ((J5 M).1.far (J1 M).1 (by rfl) (by omega) og) (aI ((J6 M).1.only og (by omega)) (aI ((J7 M).1.only og (by omega)) (aI ((J8 M).1.only og (by omega)) hbw)))))))))
     clear hk hbw og hv hz
     refine cj4 (J1 M).1.d4 fun bb bc bd bf => ?_
     have z5 : w11.heap.size < w14.heap.size := (J1 M).1.lt
     go_upto_region 9 with (at_builtin; go_must (refine wpList_pushV rfl _ _ elemFrC rfl w14 (J3 M).1 HGL.out (xcOf x_43 x_44 x_45 x_46 (maxQ ql (minQ qb qa))) (xc_ok (M.out.1)) rfl rfl rfl rfl (by rfl) (by omega) (by omega) (J4 M).1.size ?_; intro vv_48 w15 ho_ hg_))
     clear bb bc bd bf z5
     replace M := Lib.hid (aI ho_ (aI ((M.out.1).grown (J3 M).1.own (by rfl) (J3 M).1.leG hg_) (aI ((J2 M).1.grown (J3 M).1.own (by rfl) (J3 M).1.leG hg_) (aI (below_grown (J4 M).1 (J3 M).1.own (Nat.le_refl _) (J4 M).1.size hg_) (aI ((J5 M).1.grown (J3 M).1.own (by rfl) (J3 M).1.leG hg_) (aI ((J6 M).1.grownB (J3 M).1.own (by omega) hg_) (aI ((J7 M).1.grownT (J3 M).1.own (by rfl) hg_) (aI ((J8 M).1.grownT (J3 M).1.own (by rfl) hg_) (below_grown (J9 M) (J3 M).1.own hB0_ (J9 M).size hg_)))))))))
     clear ho_ hg_
     go_wp2_with fail
     go_roundw
     case rel => exact ⟨(k + 1), (dd + 1), (gl ++ [(xcOf x_43 x_44 x_45 x_46 (maxQ ql (minQ qb qa)))]), vv_48, rfl, by go_num, (by have hd_ := HD.out; show _ ∧ _ ∧ _; omega), (Lib.hid (by have h_ := HD.out; omega)), (Lib.hid (by rw [List.length_append, HGL.out]; rfl)), (Lib.hid (hist_next HGM.out HD.out (by unfold flatF; rw [if_pos (show da ≤ dd by omega), HQl.out, HQC.out]))), (Lib.hid (HGZ.out.push (Fz.maxQ HZql.out (Fz.minQ HZqb.out HZa.out)))), Lib.hid (aI (M.out.1) (aI (J3 M).1 (aI (J4 M).1 (aI (J5 M).1 (aI (J6 M).1 (aI (J7 M).1 (J8 M)))))))⟩
     case measure => simp [RowKit.intOf] <;> omega
    ·
     have c2 : decide (da ≤ dd) = false := decide_eq_false (by omega)
     have c2i : ¬ da ≤ dd := by omega
     refine cj3 (J4 M).1.d3 fun au av aw => ?_
     refine cj3 (J5 M).1.d3 fun aa ab ae => ?_
     go_wp2_with fail
     clear au av aw aa ab ae
     refine (ctLow_l (G := G) (day := dd) (qv := ql) (nm := nm) (Nat.le_trans hG (J6 M).size) (HM.out.keep (J6 M)) (HR.out.keep (J6 M)) (HC.out.keep (J6 M)) (HQ.out.keep (J6 M)) (by omega) (by omega) (by omega) (by omega) (by omega) hqn HQl.out).mono ?_
     rintro e w11 ⟨x_49, x_50, x_51, x_52, rfl, hd53, hb⟩
     replace M := adM hd53 hb M
     clear hb hd53
     refine cj4 (TQ.st (M.out.1)) fun df dg dh di => ?_
     go_upto_region 11 with fail
     clear df dg dh di
     refine nmW (w11.alloc (.cells #[x_49, x_50, x_51, x_52] 38)) fun w12 hv => ?_
     rw [← hv]
     have ow5_ : w3.heap.size < w11.heap.size := ((J4 M).1).lt
     have ob5_ : w8.heap.size ≤ w11.heap.size := ((J2 M).1).size
     have no_b5_vg := OwV.no (J1 M).1
     replace M := alM hv M
     clear hv
     refine cj4 (M.out.1).d4 fun bb bc bd bf => ?_
     have z5 : w11.heap.size < w12.heap.size := (M.out.1).lt
     go_upto_region 9 with (at_builtin; go_must (refine wpList_pushV rfl _ _ elemFrC rfl w12 (J2 M).1 HGL.out (xcOf x_49 x_50 x_51 x_52 ql) (xc_ok (J1 M).1) rfl rfl rfl rfl (by rfl) (by omega) (by omega) (J3 M).1.size ?_; intro vv_54 w13 ho_ hg_))
     clear bb bc bd bf z5
     replace M := Lib.hid (aI ho_ (aI ((J1 M).1.grown (J2 M).1.own (by rfl) (J2 M).1.leG hg_) (aI (below_grown (J3 M).1 (J2 M).1.own (Nat.le_refl _) (J3 M).1.size hg_) (aI ((J4 M).1.grown (J2 M).1.own (by rfl) (J2 M).1.leG hg_) (aI ((J5 M).1.grownB (J2 M).1.own (by omega) hg_) (aI ((J6 M).1.grownT (J2 M).1.own (by rfl) hg_) (aI ((J7 M).1.grownT (J2 M).1.own (by rfl) hg_) (below_grown (J8 M) (J2 M).1.own hB0_ (J8 M).size hg_))))))))
     clear ho_ hg_
     go_wp2_with fail
     go_roundw
     case rel => exact ⟨(k + 1), (dd + 1), (gl ++ [(xcOf x_49 x_50 x_51 x_52 ql)]), vv_54, rfl, by go_num, (by have hd_ := HD.out; show _ ∧ _ ∧ _; omega), (Lib.hid (by have h_ := HD.out; omega)), (Lib.hid (by rw [List.length_append, HGL.out]; rfl)), (Lib.hid (hist_next HGM.out HD.out (by unfold flatF; rw [if_neg (show ¬ da ≤ dd by omega)]; exact HQl.out))), (Lib.hid (HGZ.out.push HZql.out)), Lib.hid (aI (M.out.1) (aI (J2 M).1 (aI (J3 M).1 (aI (J4 M).1 (aI (J5 M).1 (aI (J6 M).1 (J7 M)))))))⟩
     case measure => simp [RowKit.intOf] <;> omega
   ·
    have c1 : decide (dd ≤ zu) = false := decide_eq_false (by omega)
    have c1i : ¬ dd ≤ zu := by omega
    have HEND := Lib.hid (hist_end HGM.out HD.out c1i hk.2.1)
    have hkl_ : k ≤ 1000 := by have h_ := HD.out; omega
    refine cj3 (J4 M).1.d3 fun au av aw => ?_
    go_wp2_with fail
    clear au av aw
    obtain ⟨ag, cg, hvg_, hrd_⟩ := OwV.rdl (M.out.1) HGL.out
    subst hvg_
    go_ret
    exact ⟨_, _, _, rfl, gl, hrd_, HEND.out, HGZ.out, hkl_, (J6 M)⟩
end Go.Proofs.Ytlcgckelamhnpaa
namespace Go.Proofs.Ytlcgckelamhnpaa
open Go.RowKit Go.Lib
variable {G : Nat}

/-- Meters whose days are few. -/
def MtZ (ms : List Mt) (N : Int) : Prop := ∀ (i : Nat) (z : Mt), ms[i]? = some z → 0 ≤ z.f ∧ z.f ≤ z.u ∧ z.u ≤ N
theorem hx_next {E : Nat → List Rat} {k : Nat} {hl : List HdX} {y : HdX} (h : hl.map HdX.vs = ((List.range k).map E).map (List.map some)) (h1 : y.l.map XC.o = (E k).map some) : (hl ++ [y]).map HdX.vs = ((List.range (k + 1)).map E).map (List.map some) := by
 rw [List.map_append, h, List.range_succ, List.map_append, List.map_append]
 show _ ++ [y.l.map XC.o] = _
 rw [h1]; rfl
theorem XZL.push {l : List HdX} {N : Nat} {y : HdX} (h : XZL l N) (h1 : XZ y.l N) : XZL (l ++ [y]) N := fun x hx => by
  rcases List.mem_append.1 hx with hx | hx
  · exact h x hx
  · simp at hx; subst hx; exact h1
theorem LenX.push {l : List HdX} {N : Nat} {y : HdX} (h : LenX l N) (h1 : y.l.length ≤ N) : LenX (l ++ [y]) N := fun x hx => by
  rcases List.mem_append.1 hx with hx | hx
  · exact h x hx
  · simp at hx; subst hx; exact h1
/-- append(elements of one's own, one more), in a region that draws its order. -/
theorem wp_pushC {α : Type} [El α] {P : Program} {o : Oper} {a : Act} {K : Act → World → Prop} {Q : Exit → Act → World → Prop} {s y : Operand} {t : TypeId} {z : Value} {bytes B n : Nat} {v : Value} {l : List α} {w : World}
    (h : OwV G B w v l) (hl : l.length = n) (E : ElemT P t (El.T α) z (El.sz α) bytes) (x : α) {b : Nat} {cs : Array Value} (hb : Bx w b (El.T α) cs) (hc : cs = (El.cells x).toArray) (hx : El.ok G w x)
    (hd : (El.deep α).contains (El.T α) = false) (hbytes : (n + 1) * bytes ≤ 140737488355328) (h63 : n + 1 ≤ 140737488355328) (hB : B ≤ w.heap.size)
    (ho : o.op = .call { callee := .builtin .append, args := #[s, y], argTypes := #[t, t] }) (hs : a.eval s = v) (hy : a.eval y = .slice (some ⟨b, 0, none⟩) 1 1)
    (hK : ∀ v' w', OwV G B w' v' (l ++ [x]) → w.grownBy w' v.ownBlock → K (a.put o.dst v') w') : o.wp P a w K Q := by
  subst hl
  obtain ⟨v', w', h1, h2, h3⟩ := OwV.push (P := P) h E o.type hb hc hx hd hbytes h63 hB
  unfold Oper.wp execOp
  simp only [ho, resolve, invoke, builtin, Sem.run_bind, Sem.run_pure, Result.andThen_ok, List.map_toArray, List.map_cons, List.map_nil, hs, hy, h1]
  exact hK v' w' h2 h3
/-! ### What is counted -/
/-! ### Small stations, small histories -/
def shortB (ms : List Mt) : Bool := (ms.take 5).all (fun z => !decide (z.f < 0) && !decide (20 < z.u)) && decide (ms.length ≤ 4)
theorem short_no {ms : List Mt} {k : Nat} {z : Mt} (hz : ms[k]? = some z) (hk : k < 5) (h : (!decide (z.f < 0) && !decide (20 < z.u)) = false) : shortB ms = false := by
 unfold shortB
 rw [List.all_eq_false.2 ⟨z, List.mem_of_getElem? (show (ms.take 5)[k]? = some z by rw [List.getElem?_take, if_pos hk, hz]), by rw [h]; simp⟩]; rfl
theorem short_end {ms : List Mt} {k : Nat} (h : (ms.take k).all (fun z => !decide (z.f < 0) && !decide (20 < z.u)) = true) (hk : ms.length ≤ k ∨ 5 ≤ k) {t : Bool} (ht : decide (ms.length ≤ 4) = t) : shortB ms = t := by
  have h5 : (ms.take 5).all (fun z => !decide (z.f < 0) && !decide (20 < z.u)) = true := by
    rw [List.all_eq_true] at h ⊢
    intro z hz
    apply h
    obtain ⟨i, hi⟩ := List.getElem?_of_mem hz
    rw [List.getElem?_take] at hi
    split at hi
    · have hl := (List.getElem?_eq_some_iff.1 hi).1
      exact List.mem_of_getElem? (show (ms.take k)[i]? = some z by rw [List.getElem?_take, if_pos (by omega), hi])
    · cases hi
  unfold shortB
  rw [h5, ht]; rfl
theorem short_mt {ms : List Mt} (h : shortB ms = true) {i : Nat} {z : Mt} (hz : ms[i]? = some z) : 0 ≤ z.f ∧ z.u ≤ 20 := by
 unfold shortB at h
 simp only [Bool.and_eq_true, decide_eq_true_eq, List.all_eq_true, Bool.not_eq_true', decide_eq_false_iff_not] at h
 have hl := (List.getElem?_eq_some_iff.1 hz).1
 have := h.1 z (List.mem_of_getElem? (show (ms.take 5)[i]? = some z by rw [List.getElem?_take, if_pos (by omega), hz]))
 omega
theorem short_z {ms : List Mt} (h : shortB ms = true) (hm : ∀ j, j < ms.length → mErr ms j = 0) : MtZ ms 20 := fun i z hz => by
 have h1 := short_mt h hz
 have hl := (List.getElem?_eq_some_iff.1 hz).1
 have h2 := mErr_zero hl (hm i hl)
 rw [show ms.getD i ⟨0, 0, 0⟩ = z by rw [List.getD_eq_getElem?_getD, hz]; rfl] at h2
 omega
theorem XOk.shape {w : World} {u0 u1 u2 u3 : Value} {n m : Nat} {o : Option Rat} (h : XOk G w u0 u1 u2 u3 n m o) : ∃ s a c t b d, u0 = .int .i64 s ∧ u1 = .slice a n c ∧ u2 = .int .i64 t ∧ u3 = .slice b m d := by
 cases o with
 | some q =>
  obtain ⟨⟨a, c, b, d, h0, h1, h2, h3, -⟩, hn, hm⟩ := h
  exact ⟨_, a, c, _, b, d, h0, by rw [hn]; exact h1, h2, by rw [hm]; exact h3⟩
 | none =>
  obtain ⟨w0, -, ⟨s, a, c, t, b, d, l, k, h0, h1, h2, h3, -⟩, -⟩ := h
  exact ⟨s, a, c, t, b, d, h0, h1, h2, h3⟩
end Go.Proofs.Ytlcgckelamhnpaa
namespace Go.Proofs.Ytlcgckelamhnpaa
open Go.RowKit Go.Lib
variable {G : Nat}

set_option maxRecDepth 100000 in
set_option maxHeartbeats 4000000 in
theorem ctShort {nm : ByteArray} {am ar : Option Addr} {nn cm nr cr : Nat} {ms : List Mt} {b_ : Bool} {w : World} (_hG : G ≤ w.heap.size) (hm : RdMt G w am nn cm ms) (_hnn : nn ≤ 1000) (hb : shortB ms = b_) :
  Calls Try.prog 18 #[.agg #[.string nm, .slice am nn cm, .slice ar nr cr]] w fun e w' => e = .returned (.bool b_) ∧ Below w.heap.size w w' := by
 have HB := Lib.hid hb; clear hb
 have HM : Hid (RdMt G w am nn cm ms) := hm
 clear hm
 have M : Hid (Below w.heap.size w w) := Below.refl _ _
 go_enter Try.func18, Try.ntmps18
 go_upto_region 1 with fail
 refine nmW (w.alloc (.cells #[.string nm, .slice am nn cm, .slice ar nr cr] 25)) fun w1 hv => ?_
 rw [← hv]
 replace M := alM hv M
 clear hv
 go_wp2_with fail
 go_loopw [3] (fun i3 wr => ∃ (k : Nat), i3 = .int .i64 (k : Int) ∧ Hid (k ≤ nn) ∧ Hid ((ms.take k).all (fun z => !decide (z.f < 0) && !decide (20 < z.u)) = true) ∧ Hid (Bx wr w.heap.size 25 #[.string nm, .slice am nn cm, .slice ar nr cr] ∧ Below w.heap.size w wr)) (fun i3 _ => nn - (RowKit.intOf i3).toNat)
 case atStart =>
  exact ⟨0, rfl, (by show _ ≤ _; omega), (Lib.hid rfl), Lib.hid (aI (M.out.1) (J1 M))⟩
 case round =>
  obtain ⟨w2, rfl⟩ : ∃ x, x = wr := ⟨_, rfl⟩
  clear M
  obtain ⟨k, rfl, hk, HA, M⟩ := hrel
  have hk := hk.out
  by_cases hlt : k < nn
  ·
   have e1_0 : decide (k < nn) = true := decide_eq_true (by omega)
   have e1_1 : decide ((k : Int) < (nn : Int)) = true := decide_eq_true (by omega)
   have e1_i : (k : Int) < (nn : Int) := by omega
   by_cases h5_ : k < 5
   ·
    have e5_0 : decide (k < 5) = true := decide_eq_true (by omega)
    have e5_1 : decide ((k : Int) < 5) = true := decide_eq_true (by omega)
    have e5_i : (k : Int) < 5 := by omega
    obtain ⟨bz, ofz, rfl, hb_⟩ := RdL.ptr HM.out (by omega : 0 < nn)
    have hbkbz := Lib.hid hb_
    have hkl_ : k < ms.length := by rw [HM.out.len]; exact hlt
    obtain ⟨z_, hx_⟩ : ∃ x, ms[k]? = some x := ⟨ms[k], List.getElem?_eq_getElem hkl_⟩
    obtain ⟨zs, zf, zu⟩ := z_
    have HRz : Hid (Row w bz (ofz + k * 3) [.int .i64 zs, .int .i64 zf, .int .i64 zu]) := hb_.row hx_
    have HEz := Lib.hid hx_
    have hlz := hkl_
    clear hx_ hb_ hkl_
    obtain ⟨t1, ht1⟩ : ∃ b, decide (zf < 0) = b := ⟨_, rfl⟩
    obtain ⟨t2, ht2⟩ : ∃ b, decide (20 < zu) = b := ⟨_, rfl⟩
    have HVB : Hid ((!decide (zf < 0) && !decide (20 < zu)) = (!t1 && !t2)) := by show _ = _; rw [ht1, ht2]
    have HNO : Hid ((!t1 && !t2) = false → shortB ms = false) := fun h_ => short_no HEz.out (by omega) (HVB.out.trans h_)
    have HT1 := Lib.hid ht1; have HT2 := Lib.hid ht2
    cases t1 with
    | false =>
     cases t2 with
     | false =>
      refine cj3 (M.out.1).d3 fun aa ab ac => ?_
      refine cj3 (HRz.out.keep (J1 M)).c3 fun r0_0 r0_1 r0_2 => ?_
      go_wp2_with fail
      clear aa ab ac r0_0 r0_1 r0_2
      go_roundw
      case rel => exact ⟨(k + 1), by go_num, (by show _ ≤ _; omega), (Lib.hid (all_next HEz.out HA.out HVB.out)), Lib.hid (aI (M.out.1) (J1 M))⟩
      case measure => simp [RowKit.intOf] <;> omega
     | true =>
      refine cj3 (M.out.1).d3 fun aa ab ac => ?_
      refine cj3 (HRz.out.keep (J1 M)).c3 fun r0_0 r0_1 r0_2 => ?_
      go_wp2_with fail
      clear aa ab ac r0_0 r0_1 r0_2
      go_ret
      exact ⟨by rw [← HB.out, (HNO.out rfl)] <;> rfl, (J1 M)⟩
    | true =>
     refine cj3 (M.out.1).d3 fun aa ab ac => ?_
     refine cj3 (HRz.out.keep (J1 M)).c3 fun r0_0 r0_1 r0_2 => ?_
     go_wp2_with fail
     clear aa ab ac r0_0 r0_1 r0_2
     go_ret
     exact ⟨by rw [← HB.out, (HNO.out rfl)] <;> rfl, (J1 M)⟩
   ·
    have e5_0 : decide (k < 5) = false := decide_eq_false (by omega)
    have e5_1 : decide ((k : Int) < 5) = false := decide_eq_false (by omega)
    have e5_i : ¬ (k : Int) < 5 := by omega
    have HEND := Lib.hid (fun t (ht : decide (ms.length ≤ 4) = t) => short_end (k := k) HA.out (.inr (by omega)) ht)
    obtain ⟨t4, ht4⟩ : ∃ b, decide (nn ≤ 4) = b := ⟨_, rfl⟩
    have ht4i : decide ((nn : Int) ≤ 4) = t4 := by rw [← ht4]; exact decide_eq_decide.2 (by omega)
    have HFIN : Hid (shortB ms = t4) := HEND.out t4 (by rw [HM.out.len]; exact ht4)
    clear ht4
    refine cj3 (M.out.1).d3 fun aa ab ac => ?_
    go_wp2_with fail
    clear aa ab ac
    go_ret
    exact ⟨by rw [← HB.out, HFIN.out] <;> rfl, (J1 M)⟩
  ·
   have e1_0 : decide (k < nn) = false := decide_eq_false (by omega)
   have e1_1 : decide ((k : Int) < (nn : Int)) = false := decide_eq_false (by omega)
   have e1_i : ¬ (k : Int) < (nn : Int) := by omega
   have HEND := Lib.hid (fun t (ht : decide (ms.length ≤ 4) = t) => short_end (k := k) HA.out (.inl (by rw [HM.out.len]; omega)) ht)
   obtain ⟨t4, ht4⟩ : ∃ b, decide (nn ≤ 4) = b := ⟨_, rfl⟩
   have ht4i : decide ((nn : Int) ≤ 4) = t4 := by rw [← ht4]; exact decide_eq_decide.2 (by omega)
   have HFIN : Hid (shortB ms = t4) := HEND.out t4 (by rw [HM.out.len]; exact ht4)
   clear ht4
   refine cj3 (M.out.1).d3 fun aa ab ac => ?_
   go_wp2_with fail
   clear aa ab ac
   go_ret
   exact ⟨by rw [← HB.out, HFIN.out] <;> rfl, (J1 M)⟩
end Go.Proofs.Ytlcgckelamhnpaa
