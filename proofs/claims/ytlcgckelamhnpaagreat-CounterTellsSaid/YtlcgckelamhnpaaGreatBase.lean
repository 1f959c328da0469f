/- Small laws of no program: an append of one element; a store of facts about worlds. -/
import Derived.WalkKit
import Derived.WalkSpells
import Derived.WalkLawsBesides
import Derived.Handy
import Derived.Lib.Hide
import Derived.Lib.Strings
import Derived.Lib.Builder
namespace Go.Proofs.YtlcgckelamhnpaaGreat
open Go.RowKit
structure ElemT (P : Program) (t e : TypeId) (z : Value) (size bytes : Nat) : Prop where
 under : P.underlying t = some (.slice e)
 info : (P.info? e).map (fun i => (i.zero, i.size, i.bytes)) = some (some z, size, bytes)
 cells : z.cells.size = size
 pos : 0 < size
theorem grown_below {B : Nat} {w w' : World} {e : TypeId} {size n : Nat} {v : Value} {xs : List Value} (h : w.ownsRow B e size v n xs) (hg : w.grownBy w' v.ownBlock) (hB : B ≤ w.heap.size) : Below B w w' :=
 (Below.refl B w).grown hg hB fun k hk => (h.lt k hk).1
theorem add_off (b o j : Nat) : (⟨b, o, none⟩ : Addr).add j = ⟨b, o + j, none⟩ := by unfold Addr.add; split <;> simp_all
theorem below_new {w w' : World} {o : Obj} (hb : Below (w.alloc o).heap.size (w.alloc o) w') : Below w.heap.size w w' :=
 ((Below.refl _ w).alloc (Nat.le_refl _) o).trans (hb.mono (by simp))
theorem results_box2 {P : Program} {fn : Func} {p u : Tmp} {ty : TypeId} (h : fn.results = #[.cell p ty, .tmp u]) (tmps : Array Value) (w : World) (g : Nat) (t : TypeId) (cs : Array Value) (fr : Nat × Nat) (d : TypeDesc)
 (hp : tmps.getD p undef = .pointer (some ⟨g, 0, none⟩)) (hg : w.heap[g]? = some (.cells cs t fr))
 (hu : P.underlying ty = some d) (hd : (match d with | .struct _ | .array _ _ => true | _ => false) = true) (hi : (P.info? ty).map (·.size) = some cs.size) :
 (results fn tmps).run P w = .ok (.tuple #[.agg cs, tmps.getD u undef]) w := by
 have hp' : tmps[p]?.getD undef = .pointer (some ⟨g, 0, none⟩) := by simpa using hp
 simp [results, h, hp', asAddr, run_loadVar_row w g t ty cs fr d hg hu hd hi]
theorem own_below {B : Nat} {w w' : World} {e : TypeId} {size n : Nat} {v : Value} {xs : List Value} (h : w.ownsRow B e size v n xs) (hb : Below w.heap.size w w') : w'.ownsRow B e size v n xs := by
 obtain ⟨h1, h2⟩ := h; refine ⟨h1, ?_⟩; rcases h2 with h2 | ⟨g, cap, cur, hv, hg, hh, r⟩
 · exact .inl h2
 · exact .inr ⟨g, cap, cur, hv, hg, by rw [hb.block g (lt_of_block hh)]; exact hh, r⟩
theorem own_mono {B B' : Nat} {w : World} {e : TypeId} {size n : Nat} {v : Value} {xs : List Value} (h : w.ownsRow B e size v n xs) (hB : B' ≤ B) : w.ownsRow B' e size v n xs := by
 obtain ⟨h1, h2⟩ := h; refine ⟨h1, ?_⟩; rcases h2 with h2 | ⟨g, cap, cur, hv, hg, r⟩
 · exact .inl h2
 · exact .inr ⟨g, cap, cur, hv, by omega, r⟩
def RdS (w : World) (v : Value) (n sz : Nat) (cs : Nat → List Value) : Prop :=
 ∃ a cap, v = .slice a n cap ∧ ∀ k, k < n → ∃ b off, a = some ⟨b, off, none⟩ ∧ b < w.heap.size ∧ ∀ j u, (cs k)[j]? = some u → w.cell? ⟨b, off + k * sz + j, none⟩ = some u
theorem RdS.keep {w w' : World} {v : Value} {n sz : Nat} {cs : Nat → List Value} (h : RdS w v n sz cs) (hb : Below w.heap.size w w') : RdS w' v n sz cs := by
 obtain ⟨a, cap, hv, hc⟩ := h; refine ⟨a, cap, hv, fun k hk => ?_⟩; obtain ⟨b, off, ha, hlt, hcell⟩ := hc k hk; exact ⟨b, off, ha, Nat.lt_of_lt_of_le hlt hb.size, fun j u hj => by rw [hb.cell hlt]; exact hcell j u hj⟩
theorem flat_get {α : Type} (f : α → List Value) (sz : Nat) : ∀ (l : List α), (∀ x ∈ l, (f x).length = sz) → ∀ (k : Nat) (x : α), l[k]? = some x → ∀ j, j < sz → (l.flatMap f)[k * sz + j]? = (f x)[j]?
 | [], _, k, x, h, _, _ => by simp at h
 | y :: l, hl, 0, x, h, j, hj => by
  simp at h; subst h
  have := hl y (by simp); rw [List.flatMap_cons, Nat.zero_mul, Nat.zero_add, List.getElem?_append_left (by omega)]
 | y :: l, hl, k + 1, x, h, j, hj => by
  have h1 := hl y (by simp); have ih := flat_get f sz l (fun z hz => hl z (by simp [hz])) k x (by simpa using h) j hj; rw [List.flatMap_cons, List.getElem?_append_right (by rw [h1, Nat.succ_mul]; omega), h1, show (k + 1) * sz + j - sz = k * sz + j by rw [Nat.succ_mul]; omega]; exact ih
theorem rds_of_own {α : Type} {w : World} {B : Nat} {e : TypeId} {sz : Nat} {v : Value} (f : α → List Value) (l : List α) (hf : ∀ x ∈ l, (f x).length = sz)
 (h : w.ownsRow B e sz v l.length (l.flatMap f)) : RdS w v l.length sz (fun k => (l[k]?.map f).getD []) := by
 rcases h.2 with ⟨rfl, h0⟩ | ⟨g, cap, cur, rfl, hg, hh, r⟩
 · exact ⟨none, 0, by rw [h0], fun k hk => by omega⟩
 · refine ⟨_, cap, rfl, fun k hk => ⟨g, 0, rfl, lt_of_block hh, fun j u hj => ?_⟩⟩
   have hx : l[k]? = some (l[k]'hk) := List.getElem?_eq_getElem hk
   dsimp only at hj
   rw [hx] at hj; simp only [Option.map_some, Option.getD_some] at hj
   have hjs : j < sz := by
    have := hf _ (List.getElem_mem hk); rcases Nat.lt_or_ge j sz with h' | h'
    · exact h'
    · rw [List.getElem?_eq_none (by omega)] at hj; cases hj
   have hlt : k * sz + j < l.length * sz := by
    have : (k + 1) * sz ≤ l.length * sz := Nat.mul_le_mul_right sz hk; rw [Nat.succ_mul] at this; omega
   rw [Nat.zero_add, h.cellAt (j := k * sz + j) hlt, flat_get f sz l hf k _ hx j hjs]; exact hj
end Go.Proofs.YtlcgckelamhnpaaGreat
