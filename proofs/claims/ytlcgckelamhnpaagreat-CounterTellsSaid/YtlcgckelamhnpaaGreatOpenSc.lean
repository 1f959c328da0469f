/- Arguments that are slices of certificates or recalls, or one of them: what their reading says of memory. -/
import Derived.Test.YtlcgckelamhnpaaGreatScaleC
import Derived.Deep.Slices
import Derived.Deep.Fields
import Derived.ChangeSame
set_option maxRecDepth 100000
namespace Go.Proofs.YtlcgckelamhnpaaGreat
open Go.RowKit Go.WideShapes Go.ChangeShapes Go.Deep
section
variable {H : Type} {enc : TypeId × Value → H} {P : Program} {w : World} {base : Nat} {spare : Nat → Bool} {held : Bool}
theorem open_slice_fields {t e : TypeId} {fs : Array Field} {fuel : Nat} {cs : List Value} {x : DataW H × List MemPlace} (ht : P.underlying t = some (.slice e)) (he : P.underlying e = some (.struct fs))
 (hone : oneCellFields P fs = true) (hC : P.cellsOf e = fs.size) (h : DataW.trod enc P w base spare held fuel t cs = some x) :
 (cs = [.slice none 0 0] ∧ x = (.nil, [])) ∨
 ∃ (a : Addr) (len cap m : Nat), cs = [.slice (some a) len cap] ∧ len ≤ cap ∧ cap ≤ maxLen ∧ len ≤ m ∧
  ∀ i, i < m → ∃ (n : Nat), ∀ (j : Nat) (f : Field), fs[j]? = some f → ∃ (v : Value) (y : DataW H × List MemPlace), w.cell? (a.add (i * fs.size + j)) = some v ∧ DataW.trod enc P w base spare held n f.type [v] = some y := by
 rcases open_slice ht h with h0 | ⟨a, len, cap, m, n, D, Pl, hcs, hb, hl, hm, hmm, hx, hi⟩
 · exact .inl h0
 · refine .inr ⟨a, len, cap, m, hcs, hl, hm, by rw [hmm]; split <;> omega, fun i him => ?_⟩
   obtain ⟨cs', hc, ht'⟩ := hi i him; rw [hC] at hc; obtain ⟨ys, n', hn', hy, hlen, hyl, hf⟩ := DataW.trod_struct he ht'; obtain ⟨_, hcl, hat⟩ := World.cells?_some hc; refine ⟨n', fun j f hj => ?_⟩; obtain ⟨ho, hk⟩ := hone_of hone j f hj; have hjl : j < fs.size := (Array.getElem?_eq_some_iff.1 hj).1; have hcell := hat j hjl; have hv : cs'[j]? = some (cs'[j]'(by omega)) := List.getElem?_eq_getElem (by omega); have h1 := hf j f hj; rw [ho, hk] at h1
   have hone' : (cs'.drop j).take 1 = [cs'[j]'(by omega)] := by
    rw [List.drop_eq_getElem_cons (by omega)]
    rfl
   rw [hone'] at h1; have hys : ys[j]? = some (ys[j]'(by omega)) := List.getElem?_eq_getElem (by omega); refine ⟨_, _, ?_, h1.trans hys⟩; rw [← Go.Deep.add_add, hcell, hv]
end
theorem cell_plainC {w : World} {a : Addr} {v : Value} (h : w.cell? a = some v) : a = ⟨a.block, a.off, none⟩ ∧ a.block < w.heap.size := by
 obtain ⟨b, o, p⟩ := a; refine ⟨?_, ?_⟩
 · cases p with
   | none => rfl
   | some q => exfalso; simp only [World.cell?] at h; split at h <;> simp_all
 · rcases Nat.lt_or_ge b w.heap.size with h' | h'
   · exact h'
   · simp [World.cell?, Array.getElem?_eq_none h'] at h
theorem choose_belowC {α : Type} [Inhabited α] {n : Nat} {p : Nat → α → Prop} (h : ∀ i, i < n → ∃ x, p i x) : ∃ g : Nat → α, ∀ i, i < n → p i (g i) := by
 classical
 exact ⟨fun i => if hi : i < n then (h i hi).choose else default, fun i hi => by simp only [hi, dite_true]; exact (h i hi).choose_spec⟩
instance : Inhabited Ct := ⟨⟨0, 0, 0, 0, 0, 0⟩⟩
instance : Inhabited Rc := ⟨⟨0, 0⟩⟩
theorem certFields : ∃ f0 f1 f2 f3 f4 f5 : Field, Tryz.prog.underlying 76 = some (.struct #[f0, f1, f2, f3, f4, f5]) ∧ f0.type = 3 ∧ f1.type = 3 ∧ f2.type = 3 ∧ f3.type = 3 ∧ f4.type = 3 ∧ f5.type = 3 ∧ oneCellFields Tryz.prog #[f0, f1, f2, f3, f4, f5] = true :=
 ⟨_, _, _, _, _, _, Tryz.underlying76, rfl, rfl, rfl, rfl, rfl, rfl, by kernel_rfl⟩
theorem recFields : ∃ f0 f1 : Field, Tryz.prog.underlying 125 = some (.struct #[f0, f1]) ∧ f0.type = 3 ∧ f1.type = 3 ∧ oneCellFields Tryz.prog #[f0, f1] = true :=
 ⟨_, _, Tryz.underlying125, rfl, rfl, by kernel_rfl⟩
theorem open_certs {H : Type} {enc : TypeId × Value → H} {w : World} {spare : Nat → Bool} {held : Bool} {v : Value} {d : DataW H} {p : List MemPlace}
 (hv : Value.okWide Tryz.prog w .any 0 26 v) (h : DataW.Trod enc Tryz.prog w 0 spare held 26 v d p) : ∃ cs : List Ct, CtIn w v cs := by
 obtain ⟨a, len, cap, rfl⟩ := okWide_slice Tryz.underlying26 hv; obtain ⟨fuel, hf⟩ := h; obtain ⟨f0, f1, f2, f3, f4, f5, he, t0, t1, t2, t3, t4, t5, hone⟩ := certFields; rcases open_slice_fields Tryz.underlying26 he hone (by kernel_rfl) hf with ⟨h0, _⟩ | ⟨a', len', cap', m, hcs, hl, hm, hlm, hcell⟩
 · simp [Value.cells] at h0
   obtain ⟨rfl, rfl, rfl⟩ := h0; exact ⟨[], none, 0, rfl, fun k hk => by simp at hk⟩
 · simp [Value.cells] at hcs
   obtain ⟨rfl, rfl, rfl⟩ := hcs
   obtain ⟨g, hg⟩ := choose_belowC (α := Ct) (n := len) (p := fun i t => ∀ j u, (cCells t)[j]? = some u → w.cell? (a'.add (i * 6 + j)) = some u) (fun i hi => by
    obtain ⟨n, hx⟩ := hcell i (by omega); obtain ⟨v0, y0, c0, g0⟩ := hx 0 f0 rfl; obtain ⟨v1, y1, c1, g1⟩ := hx 1 f1 rfl; obtain ⟨v2, y2, c2, g2⟩ := hx 2 f2 rfl; obtain ⟨v3, y3, c3, g3⟩ := hx 3 f3 rfl; obtain ⟨v4, y4, c4, g4⟩ := hx 4 f4 rfl; obtain ⟨v5, y5, c5, g5⟩ := hx 5 f5 rfl; rw [t0] at g0; rw [t1] at g1; rw [t2] at g2; rw [t3] at g3; rw [t4] at g4; rw [t5] at g5; obtain ⟨n0, e0, -, -⟩ := DataW.trod_int Tryz.underlying3 g0; obtain ⟨n1, e1, -, -⟩ := DataW.trod_int Tryz.underlying3 g1; obtain ⟨n2, e2, -, -⟩ := DataW.trod_int Tryz.underlying3 g2; obtain ⟨n3, e3, -, -⟩ := DataW.trod_int Tryz.underlying3 g3; obtain ⟨n4, e4, -, -⟩ := DataW.trod_int Tryz.underlying3 g4; obtain ⟨n5, e5, -, -⟩ := DataW.trod_int Tryz.underlying3 g5
    cases e0; cases e1; cases e2; cases e3; cases e4; cases e5
    refine ⟨⟨n0, n1, n2, n3, n4, n5⟩, fun j u hj => ?_⟩
    match j, hj with
    | 0, hj => cases hj; exact c0
    | 1, hj => cases hj; exact c1
    | 2, hj => cases hj; exact c2
    | 3, hj => cases hj; exact c3
    | 4, hj => cases hj; exact c4
    | 5, hj => cases hj; exact c5
    | j + 6, hj => simp [cCells] at hj)
   refine ⟨(List.range len).map g, some a', cap, by simp, fun k hk => ?_⟩; have hk' : k < len := by simpa using hk
   have h0 := hg 0 (by omega) 0 _ rfl; have ha0 : a'.add (0 * 6 + 0) = a' := by simp [Addr.add]
   rw [ha0] at h0; obtain ⟨q1, q2⟩ := cell_plainC h0; obtain ⟨b, o, pp⟩ := a'; obtain rfl : pp = none := congrArg Addr.spot q1; refine ⟨b, o, rfl, q2, fun j u hj => ?_⟩; have hj' : (cCells (g k))[j]? = some u := by simpa [List.getElem?_range, hk'] using hj
   have := hg k hk' j u hj'; rw [add_off] at this; rw [Nat.add_assoc]; exact this
theorem open_recs {H : Type} {enc : TypeId × Value → H} {w : World} {spare : Nat → Bool} {held : Bool} {v : Value} {d : DataW H} {p : List MemPlace}
 (hv : Value.okWide Tryz.prog w .any 0 27 v) (h : DataW.Trod enc Tryz.prog w 0 spare held 27 v d p) : ∃ rs : List Rc, RcIn w v rs := by
 obtain ⟨a, len, cap, rfl⟩ := okWide_slice Tryz.underlying27 hv; obtain ⟨fuel, hf⟩ := h; obtain ⟨f0, f1, he, t0, t1, hone⟩ := recFields; rcases open_slice_fields Tryz.underlying27 he hone (by kernel_rfl) hf with ⟨h0, _⟩ | ⟨a', len', cap', m, hcs, hl, hm, hlm, hcell⟩
 · simp [Value.cells] at h0
   obtain ⟨rfl, rfl, rfl⟩ := h0; exact ⟨[], none, 0, rfl, fun k hk => by simp at hk⟩
 · simp [Value.cells] at hcs
   obtain ⟨rfl, rfl, rfl⟩ := hcs
   obtain ⟨g, hg⟩ := choose_belowC (α := Rc) (n := len) (p := fun i t => ∀ j u, (rcCells t)[j]? = some u → w.cell? (a'.add (i * 2 + j)) = some u) (fun i hi => by
    obtain ⟨n, hx⟩ := hcell i (by omega); obtain ⟨v0, y0, c0, g0⟩ := hx 0 f0 rfl; obtain ⟨v1, y1, c1, g1⟩ := hx 1 f1 rfl; rw [t0] at g0; rw [t1] at g1; obtain ⟨n0, e0, -, -⟩ := DataW.trod_int Tryz.underlying3 g0; obtain ⟨n1, e1, -, -⟩ := DataW.trod_int Tryz.underlying3 g1
    cases e0; cases e1
    refine ⟨⟨n0, n1⟩, fun j u hj => ?_⟩
    match j, hj with
    | 0, hj => cases hj; exact c0
    | 1, hj => cases hj; exact c1
    | j + 2, hj => simp [rcCells] at hj)
   refine ⟨(List.range len).map g, some a', cap, by simp, fun k hk => ?_⟩; have hk' : k < len := by simpa using hk
   have h0 := hg 0 (by omega) 0 _ rfl; have ha0 : a'.add (0 * 2 + 0) = a' := by simp [Addr.add]
   rw [ha0] at h0; obtain ⟨q1, q2⟩ := cell_plainC h0; obtain ⟨b, o, pp⟩ := a'; obtain rfl : pp = none := congrArg Addr.spot q1; refine ⟨b, o, rfl, q2, fun j u hj => ?_⟩; have hj' : (rcCells (g k))[j]? = some u := by simpa [List.getElem?_range, hk'] using hj
   have := hg k hk' j u hj'; rw [add_off] at this; rw [Nat.add_assoc]; exact this
end Go.Proofs.YtlcgckelamhnpaaGreat
