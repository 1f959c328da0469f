/- An argument that is a history. -/
import Derived.Test.YtlcgckelamhnpaaGreatCtN
import Derived.Test.YtlcgckelamhnpaaGreatOpenRw
set_option maxRecDepth 100000
namespace Go.Proofs.YtlcgckelamhnpaaGreat
open Go.RowKit Go.WideShapes Go.ChangeShapes Go.Deep
theorem trod_rdl {α : Type} [El α] {H : Type} {enc : TypeId × Value → H} {P : Program} {w : World} {spare : Nat → Bool} {held : Bool} {t : TypeId} {fuel : Nat} {cs : List Value} {y : DataW H × List MemPlace}
 (ht : P.underlying t = some (.slice (El.T α))) (hC : P.cellsOf (El.T α) = El.sz α) (hpos : 0 < El.sz α)
 (helem : ∀ (n : Nat) (cs : List Value) (y : DataW H × List MemPlace), DataW.trod enc P w 0 spare held n (El.T α) cs = some y → ∃ x : α, cs = El.cells x ∧ El.ok w.heap.size w x)
 (hf : DataW.trod enc P w 0 spare held fuel t cs = some y) : ∃ (a : Option Addr) (n c : Nat) (l : List α), cs = [.slice a n c] ∧ n ≤ 9223372036854775807 ∧ RdL w.heap.size w a n c l := by
 rcases open_slice ht hf with ⟨h0, -⟩ | ⟨a', len, cap, m, n', D, Pl, hcs, -, hl, hm, hmm, -, hi⟩
 · exact ⟨none, 0, 0, [], h0, by omega, RdL.nil _ _ _⟩
 · subst hcs
   refine ⟨some a', len, cap, ?_⟩; unfold maxLen at hm
   obtain ⟨l, hll, hp⟩ := choose_list (p := fun i (x : α) => El.ok w.heap.size w x ∧ ∀ (j : Nat) (u : Value), (El.cells x)[j]? = some u → w.cell? (a'.add (i * El.sz α + j)) = some u) len (fun i hil => by
    obtain ⟨cs', hc, ht'⟩ := hi i (by rw [hmm]; split <;> omega); obtain ⟨x, hx, hok⟩ := helem _ _ _ ht'; rw [hC] at hc; obtain ⟨_, hcl, hat⟩ := World.cells?_some hc; refine ⟨x, hok, fun j u hj => ?_⟩; subst hx; have hjl : j < El.sz α := by have := (List.getElem?_eq_some_iff.1 hj).1; rwa [El.len] at this
    rw [← Go.Deep.add_add, hat _ hjl]; exact hj)
   rcases Nat.eq_zero_or_pos len with h0 | h0
   · subst h0
     obtain rfl := List.eq_nil_of_length_eq_zero hll; exact ⟨[], rfl, by omega, RdL.nil _ _ _⟩
   · have hx0 : l[0]? = some (l[0]'(by omega)) := List.getElem?_eq_getElem (by omega)
     have hc0 : (El.cells (l[0]'(by omega)))[0]? = some ((El.cells (l[0]'(by omega)))[0]'(by rw [El.len]; exact hpos)) := List.getElem?_eq_getElem _; have h1 := (hp 0 _ hx0).2 0 _ hc0; have ha0 : a'.add (0 * El.sz α + 0) = a' := by simp [Addr.add]
     rw [ha0] at h1; obtain ⟨q1, q2⟩ := cell_at h1; obtain ⟨b, o, pp⟩ := a'; obtain rfl : pp = none := congrArg Addr.spot q1; refine ⟨l, rfl, by omega, RdL.of ⟨q2, .inl q2, fun x hx => ?_, fun k x j u hk hj => ?_⟩ hll hl⟩
     · obtain ⟨k, hk⟩ := List.getElem?_of_mem hx
       exact (hp k x hk).1
     · have := (hp k x hk).2 j u hj
       rw [add_off] at this; rw [Nat.add_assoc]; exact this
theorem RcIn.shape_ {w : World} {v : Value} {rs : List Rc} (h : RcIn w v rs) : ∃ a cap, v = .slice a rs.length cap := by
 obtain ⟨a, cap, hv, _⟩ := h; exact ⟨a, cap, hv⟩
theorem meterParts : ∃ f0 f1 f2 : Field, Tryz.prog.underlying 49 = some (.struct #[f0, f1, f2]) ∧ f0.type = 3 ∧ f0.offset = 0 ∧ f1.type = 3 ∧ f1.offset = 1 ∧ f2.type = 3 ∧ f2.offset = 2 :=
 ⟨_, _, _, Tryz.underlying49, rfl, rfl, rfl, rfl, rfl, rfl⟩
theorem readingParts : ∃ f0 f1 f2 : Field, Tryz.prog.underlying 51 = some (.struct #[f0, f1, f2]) ∧ f0.type = 3 ∧ f0.offset = 0 ∧ f1.type = 3 ∧ f1.offset = 1 ∧ f2.type = 3 ∧ f2.offset = 2 :=
 ⟨_, _, _, Tryz.underlying51, rfl, rfl, rfl, rfl, rfl, rfl⟩
theorem stationParts : ∃ f0 f1 f2 : Field, Tryz.prog.underlying 25 = some (.struct #[f0, f1, f2]) ∧ f0.type = 9 ∧ f0.offset = 0 ∧ f1.type = 22 ∧ f1.offset = 1 ∧ f2.type = 23 ∧ f2.offset = 2 :=
 ⟨_, _, _, Tryz.underlying25, rfl, rfl, rfl, rfl, rfl, rfl⟩
theorem cells1_int : Tryz.prog.cellsOf 3 = 1 := by kernel_rfl
theorem cells1_str : Tryz.prog.cellsOf 9 = 1 := by kernel_rfl
theorem cells1_ms : Tryz.prog.cellsOf 22 = 1 := by kernel_rfl
theorem cells1_rs : Tryz.prog.cellsOf 23 = 1 := by kernel_rfl
theorem cells3_mt : Tryz.prog.cellsOf 49 = 3 := by kernel_rfl
theorem cells3_rg : Tryz.prog.cellsOf 51 = 3 := by kernel_rfl
theorem cells3_st : Tryz.prog.cellsOf 25 = 3 := by kernel_rfl
theorem trod_ints3 {H : Type} {enc : TypeId × Value → H} {w : World} {spare : Nat → Bool} {held : Bool} {n : Nat} {cs : List Value} {y : DataW H × List MemPlace} {T : TypeId} (hp : ∃ f0 f1 f2 : Field, Tryz.prog.underlying T = some (.struct #[f0, f1, f2]) ∧ f0.type = 3 ∧ f0.offset = 0 ∧ f1.type = 3 ∧ f1.offset = 1 ∧ f2.type = 3 ∧ f2.offset = 2) (hc : Tryz.prog.cellsOf T = 3)
 (h : DataW.trod enc Tryz.prog w 0 spare held n T cs = some y) : ∃ a b c : Int, cs = [.int .i64 a, .int .i64 b, .int .i64 c] := by
 obtain ⟨f0, f1, f2, he, t0, o0, t1, o1, t2, o2⟩ := hp; obtain ⟨xs, n', -, -, hlen, hxl, hg⟩ := DataW.trod_struct he h; obtain ⟨y0, g0⟩ := trod_field (j := 0) (f := f0) hg hxl rfl; obtain ⟨y1, g1⟩ := trod_field (j := 1) (f := f1) hg hxl rfl; obtain ⟨y2, g2⟩ := trod_field (j := 2) (f := f2) hg hxl rfl; rw [t0, o0, cells1_int] at g0; rw [t1, o1, cells1_int] at g1; rw [t2, o2, cells1_int] at g2; rw [hc] at hlen
 match cs, hlen with
 | [a, b, c], _ =>
  obtain ⟨m0, e0, -, -⟩ := DataW.trod_int Tryz.underlying3 g0; obtain ⟨m1, e1, -, -⟩ := DataW.trod_int Tryz.underlying3 g1; obtain ⟨m2, e2, -, -⟩ := DataW.trod_int Tryz.underlying3 g2
  simp at e0 e1 e2
  subst e0 e1 e2; exact ⟨m0, m1, m2, rfl⟩
theorem trod_station {H : Type} {enc : TypeId × Value → H} {w : World} {spare : Nat → Bool} {held : Bool} {n : Nat} {cs : List Value} {y : DataW H × List MemPlace} (h : DataW.trod enc Tryz.prog w 0 spare held n 25 cs = some y) :
 ∃ (nm : ByteArray) (am ar : Option Addr) (nn cm nr cr : Nat) (ms : List Mt) (rs : List Rg), cs = [.string nm, .slice am nn cm, .slice ar nr cr] ∧ RdMt w.heap.size w am nn cm ms ∧ RdRg w.heap.size w ar nr cr rs := by
 obtain ⟨f0, f1, f2, he, t0, o0, t1, o1, t2, o2⟩ := stationParts; obtain ⟨xs, n', -, -, hlen, hxl, hg⟩ := DataW.trod_struct he h; obtain ⟨y0, g0⟩ := trod_field (j := 0) (f := f0) hg hxl rfl; obtain ⟨y1, g1⟩ := trod_field (j := 1) (f := f1) hg hxl rfl; obtain ⟨y2, g2⟩ := trod_field (j := 2) (f := f2) hg hxl rfl; rw [t0, o0, cells1_str] at g0; rw [t1, o1, cells1_ms] at g1; rw [t2, o2, cells1_rs] at g2; rw [cells3_st] at hlen
 match cs, hlen with
 | [a, b, c], _ =>
  obtain ⟨s, e0, -, -⟩ := DataW.trod_string Tryz.underlying9 g0
  obtain ⟨am, nn, cm, ms, e1, -, hm⟩ := trod_rdl (α := Mt) Tryz.underlying22 cells3_mt (by decide) (fun _ _ _ h => by
   obtain ⟨a, b, c, rfl⟩ := trod_ints3 meterParts cells3_mt h; exact ⟨⟨a, b, c⟩, rfl, trivial⟩) g1
  obtain ⟨ar, nr, cr, rs, e2, -, hr⟩ := trod_rdl (α := Rg) Tryz.underlying23 cells3_rg (by decide) (fun _ _ _ h => by
   obtain ⟨a, b, c, rfl⟩ := trod_ints3 readingParts cells3_rg h; exact ⟨⟨a, b, c⟩, rfl, trivial⟩) g2
  simp at e0 e1 e2
  subst e0 e1 e2; exact ⟨s, am, ar, nn, cm, nr, cr, ms, rs, rfl, hm, hr⟩
theorem open_station {H : Type} {enc : TypeId × Value → H} {w : World} {spare : Nat → Bool} {held : Bool} {v : Value} {d : DataW H} {p : List MemPlace}
 (hv : Value.okWide Tryz.prog w .any 0 25 v) (h : DataW.Trod enc Tryz.prog w 0 spare held 25 v d p) :
 ∃ (nm : ByteArray) (am ar : Option Addr) (nn cm nr cr : Nat) (ms : List Mt) (rs : List Rg), v = .agg #[.string nm, .slice am nn cm, .slice ar nr cr] ∧ RdMt w.heap.size w am nn cm ms ∧ RdRg w.heap.size w ar nr cr rs := by
 obtain ⟨f0, f1, f2, he, -⟩ := stationParts; obtain ⟨cs, rfl, hsz⟩ := okWide_struct he hv; obtain ⟨fuel, hf⟩ := h; obtain ⟨nm, am, ar, nn, cm, nr, cr, ms, rs, e, h1, h2⟩ := trod_station hf; refine ⟨nm, am, ar, nn, cm, nr, cr, ms, rs, ?_, h1, h2⟩
 congr 1
 exact Array.ext' e
theorem trod_fx {H : Type} {enc : TypeId × Value → H} {w : World} {spare : Nat → Bool} {held : Bool} {n : Nat} {cs : List Value} {y : DataW H × List MemPlace} (h : DataW.trod enc Tryz.prog w 0 spare held n 36 cs = some y) :
 ∃ (u0 u1 u2 u3 : Value) (n m : Nat) (o : Option Rat), cs = [u0, u1, u2, u3] ∧ FX w u0 u1 u2 u3 n m o := by
 obtain ⟨s, a, c, l, t, b, d, m, e, hr⟩ := trod_frac h; obtain ⟨o, hx⟩ := fx_of (s := s) (t := t) hr; exact ⟨_, _, _, _, _, _, o, e, hx⟩
theorem cells4_fr : Tryz.prog.cellsOf 36 = 4 := by kernel_rfl
theorem cells1_fs : Tryz.prog.cellsOf 53 = 1 := by kernel_rfl
theorem trod_xc {H : Type} {enc : TypeId × Value → H} {w : World} {spare : Nat → Bool} {held : Bool} {n : Nat} {cs : List Value} {y : DataW H × List MemPlace}
 (h : DataW.trod enc Tryz.prog w 0 spare held n 36 cs = some y) : ∃ x : XC, cs = El.cells x ∧ El.ok w.heap.size w x := by
 obtain ⟨u0, u1, u2, u3, n, m, o, rfl, hx⟩ := trod_fx h; exact ⟨⟨u0, u1, u2, u3, n, m, o⟩, rfl, XOk.of hx⟩
theorem trod_hd {H : Type} {enc : TypeId × Value → H} {w : World} {spare : Nat → Bool} {held : Bool} {n : Nat} {cs : List Value} {y : DataW H × List MemPlace}
 (h : DataW.trod enc Tryz.prog w 0 spare held n 53 cs = some y) : ∃ x : HdX, cs = El.cells x ∧ El.ok w.heap.size w x := by
 obtain ⟨a, n, c, l, rfl, -, hl⟩ := trod_rdl (α := XC) Tryz.underlying53 cells4_fr (by decide) (fun _ _ _ h => trod_xc h) h; exact ⟨⟨a, n, c, l⟩, rfl, hl⟩
theorem open_hist {H : Type} {enc : TypeId × Value → H} {w : World} {spare : Nat → Bool} {held : Bool} {v : Value} {d : DataW H} {p : List MemPlace}
 (hv : Value.okWide Tryz.prog w .any 0 28 v) (h : DataW.Trod enc Tryz.prog w 0 spare held 28 v d p) :
 ∃ (a : Option Addr) (n c : Nat) (l : List HdX), v = .slice a n c ∧ n ≤ 9223372036854775807 ∧ RdHX w.heap.size w a n c l :=
 open_rdl (α := HdX) Tryz.underlying28 cells1_fs (by decide) (fun _ _ _ h => trod_hd h) hv h
end Go.Proofs.YtlcgckelamhnpaaGreat
