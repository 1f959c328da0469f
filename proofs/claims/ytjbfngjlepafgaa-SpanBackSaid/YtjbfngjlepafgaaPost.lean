/- The last step of a law's row: what was there before the call is as it was. -/
import Derived.Test.YtjbfngjlepafgaaBigK
import Derived.Test.YtjbfngjlepafgaaBigP
import Derived.Test.YtjbfngjlepafgaaFracA
import Derived.Test.YtjbfngjlepafgaaBigU
import Derived.Test.YtjbfngjlepafgaaFracR
import Derived.Test.YtjbfngjlepafgaaRefJ
import Derived.Test.YtjbfngjlepafgaaSpanPlain
import Derived.Test.YtjbfngjlepafgaaProg
import Derived.WalkKit
import Derived.WalkSpells
import Derived.WalkLawsBesides
import Derived.Handy
import Derived.Lib.Hide
import Derived.Lib.Strings
import Derived.Lib.Builder
import Derived.BigQuiet
import Derived.Deep.Slices
import Derived.Deep.Fields
import Derived.ChangeSame
import Derived.OwnWalk
import Derived.Laws.BitsLemmas
import Derived.WalkSmall
import Derived.Deep.QuietTactic
import Derived.StillTailTactics
import Derived.Maps.AppendAt
import Derived.IntWalk
import Derived.Deep.RegionHeld3
import Derived.Deep.DeepFit
import Derived.Deep.LoopGhost
import Derived.Deep.DeepCutAuto
import Derived.Lib.ItoaNum
import Derived.Lib.Repeat
import Derived.Lib.AppendIntMem
import Derived.Sort.OwnSorted
import Derived.Shelf.Strings.SlTrimAscii
import Derived.Lib.ConvBytes
import Derived.Lib.CutLaws
import Derived.Below
import Derived.Carry
namespace Go.Proofs.Ytjbfngjlepafgaa
open Go.RowKit Go.WideShapes Go.ChangeShapes Go.Deep

section
variable {H : Type} {enc : TypeId × Value → H} {P : Program} {w : World} {base : Nat} {spare : Nat → Bool} {held : Bool}
end
theorem cell_plain {w : World} {a : Addr} {v : Value} (h : w.cell? a = some v) : a = ⟨a.block, a.off, none⟩ ∧ a.block < w.heap.size := by
  obtain ⟨b, o, p⟩ := a
  refine ⟨?_, ?_⟩
  · cases p with
    | none => rfl
    | some q => exfalso; simp only [World.cell?] at h; split at h <;> simp_all
  · rcases Nat.lt_or_ge b w.heap.size with h' | h'
    · exact h'
    · simp [World.cell?, Array.getElem?_eq_none h'] at h
theorem choose_below {α : Type} [Inhabited α] {n : Nat} {p : Nat → α → Prop} (h : ∀ i, i < n → ∃ x, p i x) : ∃ g : Nat → α, ∀ i, i < n → p i (g i) := by
  classical
  exact ⟨fun i => if hi : i < n then (h i hi).choose else default, fun i hi => by simp only [hi, dite_true]; exact (h i hi).choose_spec⟩
/-- A slice of ints, from its reading: the integers, and that they lie in its room. -/
theorem open_ints_at {H : Type} {enc : TypeId × Value → H} {w : World} {spare : Nat → Bool} {held : Bool} {n : Nat} {u : Value} {y : DataW H × List MemPlace} (h : DataW.trod enc Try.prog w 0 spare held n 22 [u] = some y) :
    ∃ (a : Option Addr) (c : Nat) (l : List Int), u = .slice a l.length c ∧ RdZ w (.slice a l.length c) l ∧ l.length ≤ c := by
  rcases open_slice Try.underlying22 h with ⟨h0, _⟩ | ⟨a, len, cap, m, n', D, Pl, hcs, hb, hl, hm, hmm, hx, hi⟩
  · have : u = .slice none 0 0 := by simpa using h0
    exact ⟨none, 0, [], this, rdZ_nil w 0 none, Nat.le_refl _⟩
  · have hu : u = .slice (some a) len cap := by simpa using hcs
    have hlm : len ≤ m := by rw [hmm]; split <;> omega
    have hC : Try.prog.cellsOf 3 = 1 := by kernel_rfl
    obtain ⟨g, hg⟩ := choose_below (α := Int) (n := len) (p := fun i z => w.cell? (a.add i) = some (.int .i64 z)) (fun i hi' => by
      obtain ⟨cs', hc, ht'⟩ := hi i (by omega)
      rw [hC] at hc
      obtain ⟨z, hz, -, -⟩ := DataW.trod_int Try.underlying3 ht'
      obtain ⟨_, hcl, hat⟩ := World.cells?_some hc
      have h1 := hat 0 (by omega)
      refine ⟨z, ?_⟩
      have h2 : (a.add (i * 1)).add 0 = a.add i := by rw [Nat.mul_one]; unfold Addr.add; split <;> simp_all
      rw [h2] at h1
      rw [h1, hz]; rfl)
    refine ⟨some a, cap, (List.range len).map g, by rw [hu]; simp, ?_, by simpa using hl⟩
    refine ⟨some a, cap, rfl, fun k hk => ?_⟩
    have hk' : k < len := by simpa using hk
    have h0 := hg 0 (by omega)
    have ha0 : a.add 0 = a := by unfold Addr.add; split <;> simp_all
    rw [ha0] at h0
    obtain ⟨q1, q2⟩ := cell_plain h0
    obtain ⟨b, o, pp⟩ := a
    obtain rfl : pp = none := congrArg Addr.spot q1
    refine ⟨b, o, rfl, q2, fun j v hj => ?_⟩
    have hgk : (List.map g (List.range len))[k]? = some (g k) := by simp [hk']
    simp only [hgk, Option.map_some, Option.getD_some] at hj
    have hj0 : j = 0 := by
      rcases Nat.eq_zero_or_pos j with h1 | h1
      · exact h1
      · rw [List.getElem?_eq_none (by simp; omega)] at hj; cases hj
    subst hj0
    have hv : Value.int .i64 (g k) = v := by simpa using hj
    have := hg k hk'
    rw [add_off] at this
    rw [Nat.mul_one, Nat.add_zero, this, hv]
end Go.Proofs.Ytjbfngjlepafgaa
namespace Go.Proofs.Ytjbfngjlepafgaa
open Go.RowKit Go.WideShapes Go.ChangeShapes Go.Deep

theorem bigParts : ∃ f0 f1 : Field, Try.prog.underlying 24 = some (.struct #[f0, f1]) ∧ f0.type = 3 ∧ f0.offset = 0 ∧ f1.type = 22 ∧ f1.offset = 1 :=
  ⟨_, _, Try.underlying24, rfl, rfl, rfl, rfl⟩
theorem fracParts : ∃ f0 f1 : Field, Try.prog.underlying 26 = some (.struct #[f0, f1]) ∧ f0.type = 24 ∧ f0.offset = 0 ∧ f1.type = 24 ∧ f1.offset = 2 :=
  ⟨_, _, Try.underlying26, rfl, rfl, rfl, rfl⟩
theorem cellsOf_int : Try.prog.cellsOf 3 = 1 := by kernel_rfl
theorem cellsOf_ints : Try.prog.cellsOf 22 = 1 := by kernel_rfl
theorem cellsOf_big : Try.prog.cellsOf 24 = 2 := by kernel_rfl
theorem cellsOf_frac : Try.prog.cellsOf 26 = 4 := by kernel_rfl
/-- One field of a struct that is read. -/
theorem trod_field {H : Type} {enc : TypeId × Value → H} {w : World} {spare : Nat → Bool} {held : Bool} {n : Nat} {fs : Array Field} {cs : List Value} {xs : List (DataW H × List MemPlace)} {j : Nat} {f : Field}
    (hg : ∀ (i : Nat) (f : Field), fs[i]? = some f → DataW.trod enc Try.prog w 0 spare held n f.type ((cs.drop f.offset).take (Try.prog.cellsOf f.type)) = xs[i]?) (hl : xs.length = fs.size) (hj : fs[j]? = some f) :
    ∃ y, DataW.trod enc Try.prog w 0 spare held n f.type ((cs.drop f.offset).take (Try.prog.cellsOf f.type)) = some y := by
  have h := hg j f hj
  have hjl : j < fs.size := (Array.getElem?_eq_some_iff.1 hj).1
  exact ⟨xs[j]'(by omega), h.trans (List.getElem?_eq_getElem (by omega))⟩
set_option maxRecDepth 100000 in
theorem trod_big {H : Type} {enc : TypeId × Value → H} {w : World} {spare : Nat → Bool} {held : Bool} {n : Nat} {cs : List Value} {y : DataW H × List MemPlace} (h : DataW.trod enc Try.prog w 0 spare held n 24 cs = some y) :
    ∃ (s : Int) (a : Option Addr) (c : Nat) (l : List Int), cs = [.int .i64 s, .slice a l.length c] ∧ RdZ w (.slice a l.length c) l ∧ l.length ≤ c := by
  obtain ⟨f0, f1, he, t0, o0, t1, o1⟩ := bigParts
  obtain ⟨xs, n', -, -, hlen, hxl, hg⟩ := DataW.trod_struct he h
  obtain ⟨y0, g0⟩ := trod_field (j := 0) (f := f0) hg hxl rfl
  obtain ⟨y1, g1⟩ := trod_field (j := 1) (f := f1) hg hxl rfl
  rw [t0, o0, cellsOf_int] at g0
  rw [t1, o1, cellsOf_ints] at g1
  rw [cellsOf_big] at hlen
  match cs, hlen with
  | [u, v], _ =>
    obtain ⟨s, e0, -, -⟩ := DataW.trod_int Try.underlying3 g0
    have hu : u = .int .i64 s := by simpa using e0
    obtain ⟨a, c, l, e1, hr, hc⟩ := open_ints_at (u := v) (by simpa using g1)
    exact ⟨s, a, c, l, by rw [hu, e1], hr, hc⟩
set_option maxRecDepth 100000 in
theorem trod_frac {H : Type} {enc : TypeId × Value → H} {w : World} {spare : Nat → Bool} {held : Bool} {n : Nat} {cs : List Value} {y : DataW H × List MemPlace} (h : DataW.trod enc Try.prog w 0 spare held n 26 cs = some y) :
    ∃ (s : Int) (a : Option Addr) (c : Nat) (l : List Int) (t : Int) (b : Option Addr) (d : Nat) (m : List Int), cs = [.int .i64 s, .slice a l.length c, .int .i64 t, .slice b m.length d] ∧ FR w a c b d l m := by
  obtain ⟨f0, f1, he, t0, o0, t1, o1⟩ := fracParts
  obtain ⟨xs, n', -, -, hlen, hxl, hg⟩ := DataW.trod_struct he h
  obtain ⟨y0, g0⟩ := trod_field (j := 0) (f := f0) hg hxl rfl
  obtain ⟨y1, g1⟩ := trod_field (j := 1) (f := f1) hg hxl rfl
  rw [t0, o0, cellsOf_big] at g0
  rw [t1, o1, cellsOf_big] at g1
  rw [cellsOf_frac] at hlen
  obtain ⟨s, a, c, l, e0, r0, k0⟩ := trod_big g0
  obtain ⟨t, b, d, m, e1, r1, k1⟩ := trod_big g1
  match cs, hlen with
  | [u0, u1, u2, u3], _ =>
    simp at e0 e1
    exact ⟨s, a, c, l, t, b, d, m, by rw [e0.1, e0.2, e1.1, e1.2], ⟨r0, r1, k0, k1⟩⟩
set_option maxRecDepth 100000 in
theorem open_frac {H : Type} {enc : TypeId × Value → H} {w : World} {spare : Nat → Bool} {held : Bool} {v : Value} {d : DataW H} {p : List MemPlace}
    (hv : Value.okWide Try.prog w .any 0 26 v) (h : DataW.Trod enc Try.prog w 0 spare held 26 v d p) :
    ∃ (s : Int) (a : Option Addr) (c : Nat) (l : List Int) (t : Int) (b : Option Addr) (d : Nat) (m : List Int), v = .agg #[.int .i64 s, .slice a l.length c, .int .i64 t, .slice b m.length d] ∧ FR w a c b d l m := by
  obtain ⟨f0, f1, he, -⟩ := fracParts
  obtain ⟨cs, rfl, hsz⟩ := okWide_struct he hv
  obtain ⟨fuel, hf⟩ := h
  obtain ⟨s, a, c, l, t, b, d, m, e, hr⟩ := trod_frac hf
  refine ⟨s, a, c, l, t, b, d, m, ?_, hr⟩
  congr 1
  exact Array.ext' e
end Go.Proofs.Ytjbfngjlepafgaa
namespace Go.Proofs.Ytjbfngjlepafgaa
open Go.RowKit Go.WideShapes Go.ChangeShapes Go.Deep

theorem spanParts : ∃ f0 f1 : Field, Try.prog.underlying 28 = some (.struct #[f0, f1]) ∧ f0.type = 26 ∧ f0.offset = 0 ∧ f1.type = 26 ∧ f1.offset = 4 :=
  ⟨_, _, Try.underlying28, rfl, rfl, rfl, rfl⟩
theorem cellsOf_span : Try.prog.cellsOf 28 = 8 := by kernel_rfl
theorem trod_fx {H : Type} {enc : TypeId × Value → H} {w : World} {spare : Nat → Bool} {held : Bool} {n : Nat} {cs : List Value} {y : DataW H × List MemPlace} (h : DataW.trod enc Try.prog w 0 spare held n 26 cs = some y) :
    ∃ (u0 u1 u2 u3 : Value) (n m : Nat) (o : Option Rat), cs = [u0, u1, u2, u3] ∧ FX w u0 u1 u2 u3 n m o := by
  obtain ⟨s, a, c, l, t, b, d, m, e, hr⟩ := trod_frac h
  obtain ⟨o, hx⟩ := fx_of (s := s) (t := t) hr
  exact ⟨_, _, _, _, _, _, o, e, hx⟩
theorem trod_spanx {H : Type} {enc : TypeId × Value → H} {w : World} {spare : Nat → Bool} {held : Bool} {n : Nat} {cs : List Value} {y : DataW H × List MemPlace} (h : DataW.trod enc Try.prog w 0 spare held n 28 cs = some y) :
    ∃ (u0 u1 u2 u3 u4 u5 u6 u7 : Value) (n1 m1 : Nat) (o1 : Option Rat) (n2 m2 : Nat) (o2 : Option Rat), cs = [u0, u1, u2, u3, u4, u5, u6, u7] ∧ FX w u0 u1 u2 u3 n1 m1 o1 ∧ FX w u4 u5 u6 u7 n2 m2 o2 := by
  obtain ⟨f0, f1, he, t0, o0, t1, o1⟩ := spanParts
  obtain ⟨xs, n', -, -, hlen, hxl, hg⟩ := DataW.trod_struct he h
  obtain ⟨y0, g0⟩ := trod_field (j := 0) (f := f0) hg hxl rfl
  obtain ⟨y1, g1⟩ := trod_field (j := 1) (f := f1) hg hxl rfl
  rw [t0, o0, cellsOf_frac] at g0
  rw [t1, o1, cellsOf_frac] at g1
  rw [cellsOf_span] at hlen
  obtain ⟨a0, a1, a2, a3, n1, m1, q1, e0, r0⟩ := trod_fx g0
  obtain ⟨b0, b1, b2, b3, n2, m2, q2, e1, r1⟩ := trod_fx g1
  match cs, hlen with
  | [u0, u1, u2, u3, u4, u5, u6, u7], _ =>
    simp at e0 e1
    refine ⟨u0, u1, u2, u3, u4, u5, u6, u7, n1, m1, q1, n2, m2, q2, rfl, ?_, ?_⟩
    · rw [e0.1, e0.2.1, e0.2.2.1, e0.2.2.2]; exact r0
    · rw [e1.1, e1.2.1, e1.2.2.1, e1.2.2.2]; exact r1
theorem open_fx {H : Type} {enc : TypeId × Value → H} {w : World} {spare : Nat → Bool} {held : Bool} {v : Value} {d : DataW H} {p : List MemPlace}
    (hv : Value.okWide Try.prog w .any 0 26 v) (h : DataW.Trod enc Try.prog w 0 spare held 26 v d p) :
    ∃ (u0 u1 u2 u3 : Value) (n m : Nat) (o : Option Rat), v = .agg #[u0, u1, u2, u3] ∧ FX w u0 u1 u2 u3 n m o := by
  obtain ⟨s, a, c, l, t, b, d, m, e, hr⟩ := open_frac hv h
  obtain ⟨o, hx⟩ := fx_of (s := s) (t := t) hr
  exact ⟨_, _, _, _, _, _, o, e, hx⟩
theorem open_spanx {H : Type} {enc : TypeId × Value → H} {w : World} {spare : Nat → Bool} {held : Bool} {v : Value} {d : DataW H} {p : List MemPlace}
    (hv : Value.okWide Try.prog w .any 0 28 v) (h : DataW.Trod enc Try.prog w 0 spare held 28 v d p) :
    ∃ (u0 u1 u2 u3 u4 u5 u6 u7 : Value) (n1 m1 : Nat) (o1 : Option Rat) (n2 m2 : Nat) (o2 : Option Rat), v = .agg #[u0, u1, u2, u3, u4, u5, u6, u7] ∧ FX w u0 u1 u2 u3 n1 m1 o1 ∧ FX w u4 u5 u6 u7 n2 m2 o2 := by
  obtain ⟨f0, f1, he, -⟩ := spanParts
  obtain ⟨cs, rfl, hsz⟩ := okWide_struct he hv
  obtain ⟨fuel, hf⟩ := h
  obtain ⟨u0, u1, u2, u3, u4, u5, u6, u7, n1, m1, o1, n2, m2, o2, e, h1, h2⟩ := trod_spanx hf
  refine ⟨u0, u1, u2, u3, u4, u5, u6, u7, n1, m1, o1, n2, m2, o2, ?_, h1, h2⟩
  congr 1
  exact Array.ext' e
end Go.Proofs.Ytjbfngjlepafgaa
namespace Go.Proofs.Ytjbfngjlepafgaa
open Go.RowKit Go.WideShapes Go.ChangeShapes

theorem post_below {H : Type} {enc : TypeId × Value → H} {P : Program} {f : Func} {s : ChangeSpec} {ap fr ho ag : Bool} {W W' : World} {args : Array Value} {v : Value} {ds gs : List (DataW H)} {before pa pv : List MemPlace}
    (hW : DataW.Whole enc P f.params.toList s.vars ap W args.toList ds gs before)
    (hres : ∀ (b : Nat) (sp : Nat → Bool) (hd : Bool), DataW.TrodAll enc P W' b sp hd f.resultTypes.toList (v.resultList f.resultTypes.size) (s.fn H (ds ++ gs)).results [])
    (hargs : ∀ sp : Nat → Bool, (∀ p ∈ before, sp p.block = true) → DataW.TrodAll enc P W' 0 sp true f.params.toList args.toList (s.fn H (ds ++ gs)).args pa)
    (hvars : ∀ sp : Nat → Bool, (∀ p ∈ before, sp p.block = true) → DataW.TrodVars enc P W' sp s.vars (s.fn H (ds ++ gs)).vars pv)
    (hps : before = pa ++ pv) (hb : Below W.heap.size W W')
    (hok : ∀ (j : Nat) (t : TypeId) (r : Value), f.resultTypes[j]? = some t → (v.resultList f.resultTypes.size)[j]? = some r → Value.okWide P W' .any 0 t r) :
    s.post enc P f ap fr ho ag W args v W' := by
  have hlt := fun p hp => hW.lt p hp
  have hin : ∀ p, p ∈ before → p ∈ pa ++ pv := fun p hp => hps ▸ hp
  have hsp : ∀ p ∈ before, (fun b => decide (b < W.heap.size)) p.block = true := fun p hp => decide_eq_true (hlt p hp)
  have hW0 := hW
  obtain ⟨_, _, _, _, _, hz, hn⟩ := hW0
  have htrue : ∀ p ∈ before, (fun _ : Nat => true) p.block = true := fun _ _ => rfl
  refine ⟨ds, gs, before, [], pa, pv, hW, hres _ _ _, hargs _ hsp, hvars _ hsp, World.keptBut_mono (fun p hp => ⟨hp, .inr (by simpa using hin p hp)⟩) (hb.frame (· ∈ before)), fun _ => ⟨hok, _, _, ([] ++ pa) ++ pv, ⟨[] ++ pa, pv, trodAll_append (hargs _ htrue) (hres _ _ _), hvars _ htrue, rfl, fun b off hp => ?_, fun ha => ?_⟩, fun p hp _ => by rw [hps]; simpa using hp⟩⟩
  · have hm : MemPlace.cell b off ∈ before := by rw [hps]; simpa using hp
    rw [hb.frozen (hlt _ hm)]; exact hz b off hm
  · have := hn ha
    rw [hps] at this; simpa using this
end Go.Proofs.Ytjbfngjlepafgaa
namespace Go.Proofs.Ytjbfngjlepafgaa
open Go.RowKit Go.WideShapes Go.ChangeShapes

theorem trodAll_stays {H : Type} {enc : TypeId × Value → H} {P : Program} (hl : laidOutB P = true) {W W' : World} {sp : Nat → Bool} (hb : Below W.heap.size W W') :
    ∀ {ts : List TypeId} {vs : List Value} {ds : List (DataW H)} {ps : List MemPlace}, (∀ t ∈ ts, P.readableRec t = true ∧ t < P.types.size) → DataW.TrodAll enc P W 0 (fun _ => true) true ts vs ds ps → (∀ x ∈ ps, x.block < W.heap.size) → (∀ x ∈ ps, sp x.block = true) → DataW.TrodAll enc P W' 0 sp true ts vs ds ps
  | [], _, _, _, _, h, _, _ => by
    obtain ⟨rfl, rfl, rfl⟩ := trodAll_nil h
    exact trodAll_mk0
  | t :: ts, _, _, _, ht, h, hlt, hsp => by
    obtain ⟨v, vs', d, ds', p, q, rfl, rfl, rfl, h0, h1⟩ := trodAll_cons h
    refine ⟨p, q, ?_, ?_, rfl⟩
    · exact WideElems.Trod_stays hl (ht t (by simp)).1 (ht t (by simp)).2 h0 (fun x hx => hb.same (hlt x (by simp [hx]))) (fun x hx => hsp x (by simp [hx]))
    · exact trodAll_stays hl hb (fun u hu => ht u (by simp [hu])) h1 (fun x hx => hlt x (by simp [hx])) (fun x hx => hsp x (by simp [hx]))
theorem post_keep {H : Type} {enc : TypeId × Value → H} {P : Program} {f : Func} {s : ChangeSpec} {ap fr ho ag : Bool} {W W' : World} {args : Array Value} {v : Value} {ds gs : List (DataW H)} {before : List MemPlace}
    (hl : laidOutB P = true) (ht : ∀ t ∈ f.params.toList, P.readableRec t = true ∧ t < P.types.size) (hv : s.vars = [])
    (hW : DataW.Whole enc P f.params.toList s.vars ap W args.toList ds gs before)
    (hres : ∀ (b : Nat) (sp : Nat → Bool) (hd : Bool), DataW.TrodAll enc P W' b sp hd f.resultTypes.toList (v.resultList f.resultTypes.size) (s.fn H ds).results [])
    (hargs : (s.fn H ds).args = ds) (hvars : (s.fn H ds).vars = [])
    (hb : Below W.heap.size W W')
    (hok : ∀ (j : Nat) (t : TypeId) (r : Value), f.resultTypes[j]? = some t → (v.resultList f.resultTypes.size)[j]? = some r → Value.okWide P W' .any 0 t r) :
    s.post enc P f ap fr ho ag W args v W' := by
  have hW' := hW
  obtain ⟨p, q, hA, hV, hbe, hfz, hnd⟩ := hW
  rw [hv] at hV
  obtain ⟨rfl, rfl⟩ := trodVars_none hV
  rw [List.append_nil] at hbe
  subst hbe
  have hlt := fun x hx => hW'.lt x hx
  refine post_below (pa := before) (pv := []) hW' ?_ ?_ ?_ (List.append_nil _).symm hb hok
  · intro b sp hd; rw [List.append_nil]; exact hres b sp hd
  · intro sp hsp; rw [List.append_nil, hargs]; exact trodAll_stays hl hb ht hA hlt hsp
  · intro sp hsp; rw [List.append_nil, hvars, hv]; rfl
end Go.Proofs.Ytjbfngjlepafgaa
