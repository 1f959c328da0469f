/- An argument that is a slice of structs: its elements, whatever they are. -/
import Derived.Test.YtlcgckelamhnpaaGreatRw
import Derived.Test.YtlcgckelamhnpaaGreatOpenBig
set_option maxRecDepth 100000
namespace Go.Proofs.YtlcgckelamhnpaaGreat
open Go.RowKit Go.WideShapes Go.ChangeShapes Go.Deep
theorem bigParts : ∃ f0 f1 : Field, Tryz.prog.underlying 34 = some (.struct #[f0, f1]) ∧ f0.type = 3 ∧ f0.offset = 0 ∧ f1.type = 32 ∧ f1.offset = 1 :=
 ⟨_, _, Tryz.underlying34, rfl, rfl, rfl, rfl⟩
theorem fracParts : ∃ f0 f1 : Field, Tryz.prog.underlying 36 = some (.struct #[f0, f1]) ∧ f0.type = 34 ∧ f0.offset = 0 ∧ f1.type = 34 ∧ f1.offset = 2 :=
 ⟨_, _, Tryz.underlying36, rfl, rfl, rfl, rfl⟩
theorem cellsOf_int : Tryz.prog.cellsOf 3 = 1 := by kernel_rfl
theorem cellsOf_ints : Tryz.prog.cellsOf 32 = 1 := by kernel_rfl
theorem cellsOf_big : Tryz.prog.cellsOf 34 = 2 := by kernel_rfl
theorem cellsOf_frac : Tryz.prog.cellsOf 36 = 4 := by kernel_rfl
theorem trod_field {H : Type} {enc : TypeId × Value → H} {w : World} {spare : Nat → Bool} {held : Bool} {n : Nat} {fs : Array Field} {cs : List Value} {xs : List (DataW H × List MemPlace)} {j : Nat} {f : Field}
 (hg : ∀ (i : Nat) (f : Field), fs[i]? = some f → DataW.trod enc Tryz.prog w 0 spare held n f.type ((cs.drop f.offset).take (Tryz.prog.cellsOf f.type)) = xs[i]?) (hl : xs.length = fs.size) (hj : fs[j]? = some f) :
 ∃ y, DataW.trod enc Tryz.prog w 0 spare held n f.type ((cs.drop f.offset).take (Tryz.prog.cellsOf f.type)) = some y := by
 have h := hg j f hj; have hjl : j < fs.size := (Array.getElem?_eq_some_iff.1 hj).1; exact ⟨xs[j]'(by omega), h.trans (List.getElem?_eq_getElem (by omega))⟩
theorem trod_big {H : Type} {enc : TypeId × Value → H} {w : World} {spare : Nat → Bool} {held : Bool} {n : Nat} {cs : List Value} {y : DataW H × List MemPlace} (h : DataW.trod enc Tryz.prog w 0 spare held n 34 cs = some y) :
 ∃ (s : Int) (a : Option Addr) (c : Nat) (l : List Int), cs = [.int .i64 s, .slice a l.length c] ∧ RdZ w (.slice a l.length c) l ∧ l.length ≤ c := by
 obtain ⟨f0, f1, he, t0, o0, t1, o1⟩ := bigParts; obtain ⟨xs, n', -, -, hlen, hxl, hg⟩ := DataW.trod_struct he h; obtain ⟨y0, g0⟩ := trod_field (j := 0) (f := f0) hg hxl rfl; obtain ⟨y1, g1⟩ := trod_field (j := 1) (f := f1) hg hxl rfl; rw [t0, o0, cellsOf_int] at g0; rw [t1, o1, cellsOf_ints] at g1; rw [cellsOf_big] at hlen
 match cs, hlen with
 | [u, v], _ =>
  obtain ⟨s, e0, -, -⟩ := DataW.trod_int Tryz.underlying3 g0; have hu : u = .int .i64 s := by simpa using e0
  obtain ⟨a, c, l, e1, hr, hc⟩ := open_ints_at (u := v) (by simpa using g1); exact ⟨s, a, c, l, by rw [hu, e1], hr, hc⟩
theorem trod_frac {H : Type} {enc : TypeId × Value → H} {w : World} {spare : Nat → Bool} {held : Bool} {n : Nat} {cs : List Value} {y : DataW H × List MemPlace} (h : DataW.trod enc Tryz.prog w 0 spare held n 36 cs = some y) :
 ∃ (s : Int) (a : Option Addr) (c : Nat) (l : List Int) (t : Int) (b : Option Addr) (d : Nat) (m : List Int), cs = [.int .i64 s, .slice a l.length c, .int .i64 t, .slice b m.length d] ∧ FR w a c b d l m := by
 obtain ⟨f0, f1, he, t0, o0, t1, o1⟩ := fracParts; obtain ⟨xs, n', -, -, hlen, hxl, hg⟩ := DataW.trod_struct he h; obtain ⟨y0, g0⟩ := trod_field (j := 0) (f := f0) hg hxl rfl; obtain ⟨y1, g1⟩ := trod_field (j := 1) (f := f1) hg hxl rfl; rw [t0, o0, cellsOf_big] at g0; rw [t1, o1, cellsOf_big] at g1; rw [cellsOf_frac] at hlen; obtain ⟨s, a, c, l, e0, r0, k0⟩ := trod_big g0; obtain ⟨t, b, d, m, e1, r1, k1⟩ := trod_big g1
 match cs, hlen with
 | [u0, u1, u2, u3], _ =>
  simp at e0 e1
  exact ⟨s, a, c, l, t, b, d, m, by rw [e0.1, e0.2, e1.1, e1.2], ⟨r0, r1, k0, k1⟩⟩
theorem cell_at {w : World} {a : Addr} {v : Value} (h : w.cell? a = some v) : a = ⟨a.block, a.off, none⟩ ∧ a.block < w.heap.size := by
 obtain ⟨b, o, p⟩ := a; refine ⟨?_, ?_⟩
 · cases p with
   | none => rfl
   | some q => exfalso; simp only [World.cell?] at h; split at h <;> simp_all
 · rcases Nat.lt_or_ge b w.heap.size with h' | h'
   · exact h'
   · simp [World.cell?, Array.getElem?_eq_none h'] at h
theorem choose_list {α : Type} {p : Nat → α → Prop} : ∀ (n : Nat), (∀ i, i < n → ∃ x, p i x) → ∃ l : List α, l.length = n ∧ ∀ (i : Nat) (x : α), l[i]? = some x → p i x
 | 0, _ => ⟨[], rfl, fun i x h => by simp at h⟩
 | n + 1, h => by
  obtain ⟨l, hl, hp⟩ := choose_list n (fun i hi => h i (by omega)); obtain ⟨y, hy⟩ := h n (by omega); refine ⟨l ++ [y], by simp [hl], fun i x hx => ?_⟩; rcases Nat.lt_or_ge i l.length with h1 | h1
  · rw [List.getElem?_append_left h1] at hx; exact hp i x hx
  · rw [List.getElem?_append_right h1] at hx
    rcases Nat.eq_or_lt_of_le h1 with h2 | h2
    · rw [← h2, Nat.sub_self] at hx; cases hx; rw [← h2, hl]; exact hy
    · rw [List.getElem?_eq_none (by simp; omega)] at hx; cases hx
theorem open_rdl {α : Type} [El α] {H : Type} {enc : TypeId × Value → H} {P : Program} {w : World} {spare : Nat → Bool} {held : Bool} {t : TypeId} {v : Value} {d : DataW H} {p : List MemPlace}
 (ht : P.underlying t = some (.slice (El.T α))) (hC : P.cellsOf (El.T α) = El.sz α) (hpos : 0 < El.sz α)
 (helem : ∀ (n : Nat) (cs : List Value) (y : DataW H × List MemPlace), DataW.trod enc P w 0 spare held n (El.T α) cs = some y → ∃ x : α, cs = El.cells x ∧ El.ok w.heap.size w x)
 (hv : Value.okWide P w .any 0 t v) (h : DataW.Trod enc P w 0 spare held t v d p) : ∃ (a : Option Addr) (n c : Nat) (l : List α), v = .slice a n c ∧ n ≤ 9223372036854775807 ∧ RdL w.heap.size w a n c l := by
 obtain ⟨a, len, cap, rfl⟩ := okWide_slice ht hv; obtain ⟨fuel, hf⟩ := h; rcases open_slice ht hf with ⟨h0, -⟩ | ⟨a', len', cap', m, n', D, Pl, hcs, -, hl, hm, hmm, -, hi⟩
 · simp [Value.cells] at h0
   obtain ⟨rfl, rfl, rfl⟩ := h0; exact ⟨none, 0, 0, [], rfl, by omega, RdL.nil _ _ _⟩
 · simp [Value.cells] at hcs
   obtain ⟨rfl, rfl, rfl⟩ := hcs; refine ⟨some a', len, cap, ?_⟩; unfold maxLen at hm
   obtain ⟨l, hll, hp⟩ := choose_list (p := fun i (x : α) => El.ok w.heap.size w x ∧ ∀ (j : Nat) (u : Value), (El.cells x)[j]? = some u → w.cell? (a'.add (i * El.sz α + j)) = some u) len (fun i hil => by
    obtain ⟨cs', hc, ht'⟩ := hi i (by rw [hmm]; split <;> omega); obtain ⟨x, hx, hok⟩ := helem _ _ _ ht'; rw [hC] at hc; obtain ⟨_, hcl, hat⟩ := World.cells?_some hc; refine ⟨x, hok, fun j u hj => ?_⟩; subst hx; have hjl : j < El.sz α := by have := (List.getElem?_eq_some_iff.1 hj).1; rwa [El.len] at this
    rw [← Go.Deep.add_add, hat _ hjl]; exact hj)
   rcases Nat.eq_zero_or_pos len with h0 | h0
   · subst h0
     obtain rfl := List.eq_nil_of_length_eq_zero hll; exact ⟨[], rfl, by omega, RdL.nil _ _ _⟩
   · have hx0 : l[0]? = some (l[0]'(by omega)) := List.getElem?_eq_getElem (by omega)
     have hc0 : (El.cells (l[0]'(by omega)))[0]? = some ((El.cells (l[0]'(by omega)))[0]'(by rw [El.len]; exact hpos)) := List.getElem?_eq_getElem _; have h1 := (hp 0 _ hx0).2 0 _ hc0; have ha0 : a'.add (0 * El.sz α + 0) = a' := by simp [Addr.add]
     rw [ha0] at h1; obtain ⟨q1, q2⟩ := cell_at h1; obtain ⟨b, o, pp⟩ := a'; obtain rfl : pp = none := congrArg Addr.spot q1; refine ⟨l, rfl, by omega, RdL.of ⟨q2, .inl q2, fun x hx => ?_, fun k x j u hk hj => ?_⟩ hll hl⟩
     · obtain ⟨k, hk⟩ := List.getElem?_of_mem hx
       exact (hp k x hk).1
     · have := (hp k x hk).2 j u hj
       rw [add_off] at this; rw [Nat.add_assoc]; exact this
end Go.Proofs.YtlcgckelamhnpaaGreat
