/- Arguments that are big integers: what their reading says of memory. -/
import Derived.Test.YtlinegodpoihoaaGreatDoorBase
import Derived.Test.YtlinegodpoihoaaGreatDoorBigSpec
import Derived.Test.YtlinegodpoihoaaGreatDoorProg
import Derived.WalkKit
import Derived.WalkSpells
import Derived.WalkLawsBesides
import Derived.Handy
import Derived.Lib.Hide
import Derived.Lib.Strings
import Derived.Lib.Builder
import Derived.BigQuiet
import Derived.Deep.Slices
import Derived.Deep.Fields
import Derived.ChangeSame
namespace Go.Proofs.YtlinegodpoihoaaGreatDoor
open Go.RowKit Go.WideShapes Go.ChangeShapes Go.Deep

section
variable {H : Type} {enc : TypeId × Value → H} {P : Program} {w : World} {base : Nat} {spare : Nat → Bool} {held : Bool}
/-- A struct by value, of one-cell fields: each field's own reading. -/
theorem open_agg_fields {r : Reach} {b0 : Nat} {t : TypeId} {fs : Array Field} {v : Value} {d : DataW H} {p : List MemPlace} (hs : P.underlying t = some (.struct fs)) (hone : oneCellFields P fs = true) (hC : P.cellsOf t = fs.size)
  (hv : Value.okWide P w r b0 t v) (h : DataW.Trod enc P w base spare held t v d p) :
  ∃ (cs : Array Value), v = .agg cs ∧ cs.size = fs.size ∧ ∃ n : Nat, ∀ (j : Nat) (f : Field), fs[j]? = some f → ∃ (u : Value) (y : DataW H × List MemPlace), cs[j]? = some u ∧ DataW.trod enc P w base spare held n f.type [u] = some y := by
 obtain ⟨cs, rfl, hsz⟩ := okWide_struct hs hv
 refine ⟨cs, rfl, hsz.trans hC, ?_⟩
 obtain ⟨fuel, hf⟩ := h
 obtain ⟨xs, n, _, hx, _, hlen, hg⟩ := DataW.trod_struct hs hf
 refine ⟨n, fun j f hj => ?_⟩
 obtain ⟨ho, hk⟩ := hone_of hone j f hj
 have hjl : j < fs.size := (Array.getElem?_eq_some_iff.1 hj).1
 have hcl : cs.toList.length = fs.size := by rw [Array.length_toList]; exact hsz.trans hC
 have h1 := hg j f hj
 rw [ho, hk] at h1
 have hone' : ((Value.agg cs).cells.toList.drop j).take 1 = [cs.toList[j]'(by omega)] := by
  show (cs.toList.drop j).take 1 = _
  rw [List.drop_eq_getElem_cons (by omega)]; rfl
 rw [hone'] at h1
 have hys : xs[j]? = some (xs[j]'(by omega)) := List.getElem?_eq_getElem (by omega)
 exact ⟨_, _, by rw [← Array.getElem?_toList, List.getElem?_eq_getElem (by omega)], h1.trans hys⟩
end
theorem bigFields : ∃ f0 f1 : Field, Tryz.prog.underlying 24 = some (.struct #[f0, f1]) ∧ f0.type = 3 ∧ f1.type = 22 ∧ oneCellFields Tryz.prog #[f0, f1] = true :=
 ⟨_, _, Tryz.underlying24, rfl, rfl, by kernel_rfl⟩
theorem cell_plain {w : World} {a : Addr} {v : Value} (h : w.cell? a = some v) : a = ⟨a.block, a.off, none⟩ ∧ a.block < w.heap.size := by
  obtain ⟨b, o, p⟩ := a
  refine ⟨?_, ?_⟩
  · cases p with
    | none => rfl
    | some q => exfalso; simp only [World.cell?] at h; split at h <;> simp_all
  · rcases Nat.lt_or_ge b w.heap.size with h' | h'
    · exact h'
    · simp [World.cell?, Array.getElem?_eq_none h'] at h
theorem choose_below {α : Type} [Inhabited α] {n : Nat} {p : Nat → α → Prop} (h : ∀ i, i < n → ∃ x, p i x) : ∃ g : Nat → α, ∀ i, i < n → p i (g i) := by
 classical
 exact ⟨fun i => if hi : i < n then (h i hi).choose else default, fun i hi => by simp only [hi, dite_true]; exact (h i hi).choose_spec⟩
/-- A slice of ints, from its reading: the integers, and that they lie in its room. -/
theorem open_ints_at {H : Type} {enc : TypeId × Value → H} {w : World} {spare : Nat → Bool} {held : Bool} {n : Nat} {u : Value} {y : DataW H × List MemPlace} (h : DataW.trod enc Tryz.prog w 0 spare held n 22 [u] = some y) :
    ∃ (a : Option Addr) (c : Nat) (l : List Int), u = .slice a l.length c ∧ RdZ w (.slice a l.length c) l ∧ l.length ≤ c := by
  rcases open_slice Tryz.underlying22 h with ⟨h0, _⟩ | ⟨a, len, cap, m, n', D, Pl, hcs, hb, hl, hm, hmm, hx, hi⟩
  · have : u = .slice none 0 0 := by simpa using h0
    exact ⟨none, 0, [], this, rdZ_nil w 0 none, Nat.le_refl _⟩
  · have hu : u = .slice (some a) len cap := by simpa using hcs
    have hlm : len ≤ m := by rw [hmm]; split <;> omega
    have hC : Tryz.prog.cellsOf 3 = 1 := by kernel_rfl
    obtain ⟨g, hg⟩ := choose_below (α := Int) (n := len) (p := fun i z => w.cell? (a.add i) = some (.int .i64 z)) (fun i hi' => by
      obtain ⟨cs', hc, ht'⟩ := hi i (by omega)
      rw [hC] at hc
      obtain ⟨z, hz, -, -⟩ := DataW.trod_int Tryz.underlying3 ht'
      obtain ⟨_, hcl, hat⟩ := World.cells?_some hc
      have h1 := hat 0 (by omega)
      refine ⟨z, ?_⟩
      have h2 : (a.add (i * 1)).add 0 = a.add i := by rw [Nat.mul_one]; unfold Addr.add; split <;> simp_all
      rw [h2] at h1
      rw [h1, hz]; rfl)
    refine ⟨some a, cap, (List.range len).map g, by rw [hu]; simp, ?_, by simpa using hl⟩
    refine ⟨some a, cap, rfl, fun k hk => ?_⟩
    have hk' : k < len := by simpa using hk
    have h0 := hg 0 (by omega)
    have ha0 : a.add 0 = a := by unfold Addr.add; split <;> simp_all
    rw [ha0] at h0
    obtain ⟨q1, q2⟩ := cell_plain h0
    obtain ⟨b, o, pp⟩ := a
    obtain rfl : pp = none := congrArg Addr.spot q1
    refine ⟨b, o, rfl, q2, fun j v hj => ?_⟩
    have hgk : (List.map g (List.range len))[k]? = some (g k) := by simp [hk']
    simp only [hgk, Option.map_some, Option.getD_some] at hj
    have hj0 : j = 0 := by
      rcases Nat.eq_zero_or_pos j with h1 | h1
      · exact h1
      · rw [List.getElem?_eq_none (by simp; omega)] at hj; cases hj
    subst hj0
    have hv : Value.int .i64 (g k) = v := by simpa using hj
    have := hg k hk'
    rw [add_off] at this
    rw [Nat.mul_one, Nat.add_zero, this, hv]
set_option maxRecDepth 100000 in
theorem open_big {H : Type} {enc : TypeId × Value → H} {w : World} {spare : Nat → Bool} {held : Bool} {v : Value} {d : DataW H} {p : List MemPlace}
    (hv : Value.okWide Tryz.prog w .any 0 24 v) (h : DataW.Trod enc Tryz.prog w 0 spare held 24 v d p) :
    ∃ (s : Int) (a : Option Addr) (c : Nat) (l : List Int), v = .agg #[.int .i64 s, .slice a l.length c] ∧ RdZ w (.slice a l.length c) l ∧ l.length ≤ c := by
  obtain ⟨f0, f1, he, t0, t1, hone⟩ := bigFields
  obtain ⟨cs, rfl, hsz, n, hx⟩ := open_agg_fields he hone (by kernel_rfl) hv h
  obtain ⟨u0, y0, c0, g0⟩ := hx 0 f0 rfl
  obtain ⟨u1, y1, c1, g1⟩ := hx 1 f1 rfl
  rw [t0] at g0; rw [t1] at g1
  obtain ⟨s, e0, -, -⟩ := DataW.trod_int Tryz.underlying3 g0
  cases e0
  obtain ⟨a, c, l, rfl, hr, hc⟩ := open_ints_at g1
  refine ⟨s, a, c, l, ?_, hr, hc⟩
  congr 1
  apply Array.ext
  · simpa using hsz
  · intro i h1 h2
    have h2' : i < 2 := h2
    have := Array.getElem?_eq_getElem h1
    match i, h2' with
    | 0, _ => rw [this] at c0; exact Option.some.inj c0
    | 1, _ => rw [this] at c1; exact Option.some.inj c1
end Go.Proofs.YtlinegodpoihoaaGreatDoor
