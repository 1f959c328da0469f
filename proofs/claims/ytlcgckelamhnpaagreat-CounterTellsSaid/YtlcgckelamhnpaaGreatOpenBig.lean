/- Arguments that are big integers: what their reading says of memory. -/
import Derived.Test.YtlcgckelamhnpaaGreatBigSpec
import Derived.Test.YtlcgckelamhnpaaGreatProg
import Derived.Deep.Slices
import Derived.Deep.Fields
import Derived.ChangeSame
namespace Go.Proofs.YtlcgckelamhnpaaGreat
open Go.RowKit Go.WideShapes Go.ChangeShapes Go.Deep
section
variable {H : Type} {enc : TypeId × Value → H} {P : Program} {w : World} {base : Nat} {spare : Nat → Bool} {held : Bool}
end
theorem cell_plain {w : World} {a : Addr} {v : Value} (h : w.cell? a = some v) : a = ⟨a.block, a.off, none⟩ ∧ a.block < w.heap.size := by
 obtain ⟨b, o, p⟩ := a; refine ⟨?_, ?_⟩
 · cases p with
   | none => rfl
   | some q => exfalso; simp only [World.cell?] at h; split at h <;> simp_all
 · rcases Nat.lt_or_ge b w.heap.size with h' | h'
   · exact h'
   · simp [World.cell?, Array.getElem?_eq_none h'] at h
theorem choose_below {α : Type} [Inhabited α] {n : Nat} {p : Nat → α → Prop} (h : ∀ i, i < n → ∃ x, p i x) : ∃ g : Nat → α, ∀ i, i < n → p i (g i) := by
 classical
 exact ⟨fun i => if hi : i < n then (h i hi).choose else default, fun i hi => by simp only [hi, dite_true]; exact (h i hi).choose_spec⟩
theorem open_ints_at {H : Type} {enc : TypeId × Value → H} {w : World} {spare : Nat → Bool} {held : Bool} {n : Nat} {u : Value} {y : DataW H × List MemPlace} (h : DataW.trod enc Tryz.prog w 0 spare held n 32 [u] = some y) :
 ∃ (a : Option Addr) (c : Nat) (l : List Int), u = .slice a l.length c ∧ RdZ w (.slice a l.length c) l ∧ l.length ≤ c := by
 rcases open_slice Tryz.underlying32 h with ⟨h0, _⟩ | ⟨a, len, cap, m, n', D, Pl, hcs, hb, hl, hm, hmm, hx, hi⟩
 · have : u = .slice none 0 0 := by simpa using h0
   exact ⟨none, 0, [], this, rdZ_nil w 0 none, Nat.le_refl _⟩
 · have hu : u = .slice (some a) len cap := by simpa using hcs
   have hlm : len ≤ m := by rw [hmm]; split <;> omega
   have hC : Tryz.prog.cellsOf 3 = 1 := by kernel_rfl
   obtain ⟨g, hg⟩ := choose_below (α := Int) (n := len) (p := fun i z => w.cell? (a.add i) = some (.int .i64 z)) (fun i hi' => by
    obtain ⟨cs', hc, ht'⟩ := hi i (by omega); rw [hC] at hc; obtain ⟨z, hz, -, -⟩ := DataW.trod_int Tryz.underlying3 ht'; obtain ⟨_, hcl, hat⟩ := World.cells?_some hc; have h1 := hat 0 (by omega); refine ⟨z, ?_⟩; have h2 : (a.add (i * 1)).add 0 = a.add i := by rw [Nat.mul_one]; unfold Addr.add; split <;> simp_all
    rw [h2] at h1; rw [h1, hz]; rfl)
   refine ⟨some a, cap, (List.range len).map g, by rw [hu]; simp, ?_, by simpa using hl⟩; refine ⟨some a, cap, rfl, fun k hk => ?_⟩; have hk' : k < len := by simpa using hk
   have h0 := hg 0 (by omega); have ha0 : a.add 0 = a := by unfold Addr.add; split <;> simp_all
   rw [ha0] at h0; obtain ⟨q1, q2⟩ := cell_plain h0; obtain ⟨b, o, pp⟩ := a; obtain rfl : pp = none := congrArg Addr.spot q1; refine ⟨b, o, rfl, q2, fun j v hj => ?_⟩; have hgk : (List.map g (List.range len))[k]? = some (g k) := by simp [hk']
   simp only [hgk, Option.map_some, Option.getD_some] at hj
   have hj0 : j = 0 := by
    rcases Nat.eq_zero_or_pos j with h1 | h1
    · exact h1
    · rw [List.getElem?_eq_none (by simp; omega)] at hj; cases hj
   subst hj0; have hv : Value.int .i64 (g k) = v := by simpa using hj
   have := hg k hk'; rw [add_off] at this; rw [Nat.mul_one, Nat.add_zero, this, hv]
end Go.Proofs.YtlcgckelamhnpaaGreat
