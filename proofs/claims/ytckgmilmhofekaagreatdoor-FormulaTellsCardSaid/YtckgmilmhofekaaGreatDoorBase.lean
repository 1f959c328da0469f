/- Small laws of no program: an append of one element; a store of facts about worlds. -/
import Derived.WalkKit
import Derived.WalkSpells
import Derived.WalkLawsBesides
import Derived.Handy
import Derived.Lib.Hide
import Derived.Lib.Strings
import Derived.Lib.Builder
namespace Go.Proofs.YtckgmilmhofekaaGreatDoor
open Go.RowKit

/-- The element type's row of the program's table. -/
structure ElemT (P : Program) (t e : TypeId) (z : Value) (size bytes : Nat) : Prop where
 under : P.underlying t = some (.slice e)
 info : (P.info? e).map (fun i => (i.zero, i.size, i.bytes)) = some (some z, size, bytes)
 cells : z.cells.size = size
 pos : 0 < size
theorem grown_below {B : Nat} {w w' : World} {e : TypeId} {size n : Nat} {v : Value} {xs : List Value} (h : w.ownsRow B e size v n xs) (hg : w.grownBy w' v.ownBlock) (hB : B ≤ w.heap.size) : Below B w w' :=
 (Below.refl B w).grown hg hB fun k hk => (h.lt k hk).1
theorem wpList_push {P : Program} {ops : Array Oper} {rest : List Oper} {o : Oper} {a : Act} {Q : Exit → Act → World → Prop} (hgd : o.guard = none) (s x : Operand)
    {t e : TypeId} {z : Value} {size bytes : Nat} (E : ElemT P t e z size bytes)
    (ho : o.op = .call { callee := .builtin .append, args := #[s, x], argTypes := #[t, t] }) {wx : World} (wr : World) (B : Nat)
    (v : Value) (n : Nat) (xs : List Value) (hs : a.eval s = v) (hown : wr.ownsRow B e size v n xs) (news : List Value)
    (hwx : wx = wr.alloc (.cells news.toArray e)) {b : Nat} (hx : a.eval x = .slice (some ⟨b, 0, none⟩) 1 1) (hbn : b = wr.heap.size) (hl : news.length = size) (h1 : ∀ u ∈ news, u.oneCell' = true)
    (hbytes : (n + 1) * bytes ≤ 140737488355328) (h63 : n + 1 ≤ 140737488355328) (hB : B ≤ wr.heap.size)
    (h : ∀ v' w', w'.ownsRow B e size v' (n + 1) (xs ++ news) → wr.grownBy w' v.ownBlock → Below B wr w' → wpList P ops Q rest (a.put o.dst v') w') :
    wpList P ops Q (o :: rest) a wx := by
  subst hwx
  subst hbn
  obtain ⟨i0, hi, hz0, hz1, hz2⟩ := info_parts E.info
  refine wpList_append_own _ hgd s x t ho B e i0 z size bytes E.under hi hz0 hz1 hz2 E.cells E.pos v n xs hs (hown.alloc _) ⟨wr.heap.size, 0, none⟩ 1 1 news hx (by omega) ?_ h1 (by unfold maxLen; omega) hbytes (by simp; omega) ?_
  · intro j u hj
    have hlt : j < news.length := by
      rcases Nat.lt_or_ge j news.length with hh | hh
      · exact hh
      · rw [List.getElem?_eq_none hh] at hj; cases hj
    have : (⟨wr.heap.size, 0, none⟩ : Addr).add j = ⟨wr.heap.size, j, none⟩ := by unfold Addr.add; split <;> simp_all
    rw [this, Lib.cell_of_heap (show (wr.heap.push _)[wr.heap.size]? = some (.cells news.toArray e (0, 0)) by simp)]
    simpa using hj
  · intro v' w' h2 h3 _
    have h4 : wr.grownBy w' v.ownBlock := by
      have ha := World.grownBy_alloc wr (.cells news.toArray e) v.ownBlock
      exact ⟨h3.os.trans ha.os, h3.tape.trans ha.tape, h3.output.trans ha.output, Nat.le_trans ha.size h3.size, fun k hk hne => (h3.block k (by simp; omega) hne).trans (ha.block k hk hne)⟩
    exact h v' w' h2 h4 (grown_below hown h4 hB)
theorem add_off (b o j : Nat) : (⟨b, o, none⟩ : Addr).add j = ⟨b, o + j, none⟩ := by unfold Addr.add; split <;> simp_all
/-- A whole struct or array is read out of its cells. -/
theorem wpList_load_cells {P : Program} {ops : Array Oper} {rest : List Oper} {o : Oper} {a : Act} {w : World} {Q : Exit → Act → World → Prop} (hgd : o.guard = none) (ty : TypeId) (x : Operand) (ho : o.op = .load ty x)
  (b off : Nat) (hx : a.eval x = .pointer (some ⟨b, off, none⟩)) (cs : List Value) (d : TypeDesc) (hc : ∀ j v, cs[j]? = some v → w.cell? ⟨b, off + j, none⟩ = some v)
  (hu : P.underlying ty = some d) (hd : (match d with | .struct _ | .array _ _ => true | _ => false) = true) (hi : (P.info? ty).map (·.size) = some cs.length)
  (h : wpList P ops Q rest (a.put o.dst (.agg cs.toArray)) w) : wpList P ops Q (o :: rest) a w := by
 refine wpList_plain hgd fun K hK => ?_
 have hl : (loadCells ⟨b, off, none⟩ cs.length).run P w = .ok cs.toArray w := run_loadCells_list (P := P) w ⟨b, off, none⟩ cs (fun j v hv => by rw [add_off]; exact hc j v hv)
 have hv : (loadVar ty ⟨b, off, none⟩).run P w = .ok (.agg cs.toArray) w := by
  cases hq : P.info? ty with
  | none => simp [hq] at hi
  | some i =>
   have hs : i.size = cs.length := by simpa [hq] using hi
   have hagg : (isAgg ty).run P w = .ok true w := by
    unfold isAgg
    rw [Sem.run_bind, run_underlying hu w]
    cases d <;> simp_all
   simp [loadVar, hagg, sizeOf, typeInfo, hq, hs, hl]
 unfold Oper.wp execOp
 simp only [ho, hx, Instr.loadAt, Instr.sureAddr, Sem.run_bind, Sem.run_pure, Result.andThen_ok, hv]
 exact hK _ _ h
/-- A block of the call's own, behind a call: it reads as it did, and may be written. -/
theorem box_keep {w w' : World} {B b : Nat} {cs : Array Value} {T : TypeId} (hw : w.heap[b]? = some (.cells cs T (0, 0))) (hb : Below B w w') (h : b < B) :
  (∀ j, w'.cell? ⟨b, j, none⟩ = cs[j]?) ∧ (∀ j, w'.frozen? ⟨b, j, none⟩ = false) := by
 have hx : w'.heap[b]? = some (.cells cs T (0, 0)) := (hb.block b h).trans hw
 exact ⟨fun j => by simp [World.cell?, hx], fun j => by simp [World.frozen?, hx]⟩
theorem box_new {w w' : World} {cs : Array Value} {T : TypeId} (hb : Below (w.alloc (.cells cs T)).heap.size (w.alloc (.cells cs T)) w') :
  (∀ j, w'.cell? ⟨w.heap.size, j, none⟩ = cs[j]?) ∧ (∀ j, w'.frozen? ⟨w.heap.size, j, none⟩ = false) :=
 box_keep (cs := cs) (T := T) (show (w.heap.push _)[w.heap.size]? = _ by simp) hb (by simp)
theorem below_new {w w' : World} {o : Obj} (hb : Below (w.alloc o).heap.size (w.alloc o) w') : Below w.heap.size w w' :=
 ((Below.refl _ w).alloc (Nat.le_refl _) o).trans (hb.mono (by simp))
theorem size_new {w w' : World} {o : Obj} (hb : Below (w.alloc o).heap.size (w.alloc o) w') : w.heap.size < w'.heap.size := by have := hb.size; simp at this; omega
/-- A struct is stored into a box of the call's own: the box holds it; all other blocks are as they were. -/
theorem wpList_store_box {P : Program} {ops : Array Oper} {rest : List Oper} {o : Oper} {a : Act} {w : World} {Q : Exit → Act → World → Prop} (hgd : o.guard = none) (ty : TypeId) (x y : Operand) (ho : o.op = .store ty x y)
  (g : Nat) (cells : Array Value) (hx : a.eval x = .pointer (some ⟨g, 0, none⟩)) (hy : a.eval y = .agg cells)
  (t : TypeId) (old : Array Value) (hg : w.heap[g]? = some (.cells old t (0, 0))) (hi : (P.info? ty).map (·.size) = some cells.size)
  (hold : old.size = cells.size) (h1 : cells.toList.all (·.oneCell') = true)
  (h : ∀ w', w'.heap[g]? = some (.cells cells t (0, 0)) → w.grownBy w' (some g) → w'.heap.size = w.heap.size → wpList P ops Q rest (a.put o.dst undef) w') : wpList P ops Q (o :: rest) a w :=
 wpList_plain hgd fun _ hK => wp_store_row ty x y ho g cells hx hy t old hg hi hold (by rw [← Array.all_toList]; exact h1)
  (hK _ _ (h _ (setRow_heap w g old cells t _ hg) ⟨rfl, rfl, rfl, by simp [World.setRow], fun k _ hne => setRow_other w g k cells (fun e => hne (by rw [e]))⟩ (by simp [World.setRow])))
theorem heap_new (w : World) (o : Obj) : (w.alloc o).heap[w.heap.size]? = some o := by show (w.heap.push _)[w.heap.size]? = _; simp
theorem grown_box {B g : Nat} {w w' : World} (hg : w.grownBy w' (some g)) (hB : B ≤ g) (hs : g < w.heap.size) : Below B w w' :=
 ⟨hg.os, hg.tape, hg.output, hg.size, fun k hk => hg.block k (by omega) (by simp; omega)⟩
theorem results_box3 {P : Program} {fn : Func} {p u v : Tmp} {ty : TypeId} (h : fn.results = #[.cell p ty, .tmp u, .tmp v]) (tmps : Array Value) (w : World) (g : Nat) (t : TypeId) (cs : Array Value) (fr : Nat × Nat) (d : TypeDesc)
  (hp : tmps.getD p undef = .pointer (some ⟨g, 0, none⟩)) (hg : w.heap[g]? = some (.cells cs t fr))
  (hu : P.underlying ty = some d) (hd : (match d with | .struct _ | .array _ _ => true | _ => false) = true) (hi : (P.info? ty).map (·.size) = some cs.size) :
  (results fn tmps).run P w = .ok (.tuple #[.agg cs, tmps.getD u undef, tmps.getD v undef]) w := by
 have hp' : tmps[p]?.getD undef = .pointer (some ⟨g, 0, none⟩) := by simpa using hp
 simp [results, h, hp', asAddr, run_loadVar_row w g t ty cs fr d hg hu hd hi]
theorem results_box2 {P : Program} {fn : Func} {p u : Tmp} {ty : TypeId} (h : fn.results = #[.cell p ty, .tmp u]) (tmps : Array Value) (w : World) (g : Nat) (t : TypeId) (cs : Array Value) (fr : Nat × Nat) (d : TypeDesc)
  (hp : tmps.getD p undef = .pointer (some ⟨g, 0, none⟩)) (hg : w.heap[g]? = some (.cells cs t fr))
  (hu : P.underlying ty = some d) (hd : (match d with | .struct _ | .array _ _ => true | _ => false) = true) (hi : (P.info? ty).map (·.size) = some cs.size) :
  (results fn tmps).run P w = .ok (.tuple #[.agg cs, tmps.getD u undef]) w := by
 have hp' : tmps[p]?.getD undef = .pointer (some ⟨g, 0, none⟩) := by simpa using hp
 simp [results, h, hp', asAddr, run_loadVar_row w g t ty cs fr d hg hu hd hi]
theorem own_below {B : Nat} {w w' : World} {e : TypeId} {size n : Nat} {v : Value} {xs : List Value} (h : w.ownsRow B e size v n xs) (hb : Below w.heap.size w w') : w'.ownsRow B e size v n xs := by
  obtain ⟨h1, h2⟩ := h
  refine ⟨h1, ?_⟩
  rcases h2 with h2 | ⟨g, cap, cur, hv, hg, hh, r⟩
  · exact .inl h2
  · exact .inr ⟨g, cap, cur, hv, hg, by rw [hb.block g (lt_of_block hh)]; exact hh, r⟩
/-- A slice of n elements of sz cells each reads as the cells 'cs k' at index k. -/
def RdS (w : World) (v : Value) (n sz : Nat) (cs : Nat → List Value) : Prop :=
 ∃ a cap, v = .slice a n cap ∧ ∀ k, k < n → ∃ b off, a = some ⟨b, off, none⟩ ∧ b < w.heap.size ∧ ∀ j u, (cs k)[j]? = some u → w.cell? ⟨b, off + k * sz + j, none⟩ = some u
theorem RdS.keep {w w' : World} {v : Value} {n sz : Nat} {cs : Nat → List Value} (h : RdS w v n sz cs) (hb : Below w.heap.size w w') : RdS w' v n sz cs := by
 obtain ⟨a, cap, hv, hc⟩ := h
 refine ⟨a, cap, hv, fun k hk => ?_⟩
 obtain ⟨b, off, ha, hlt, hcell⟩ := hc k hk
 exact ⟨b, off, ha, Nat.lt_of_lt_of_le hlt hb.size, fun j u hj => by rw [hb.cell hlt]; exact hcell j u hj⟩
theorem flat_get {α : Type} (f : α → List Value) (sz : Nat) : ∀ (l : List α), (∀ x ∈ l, (f x).length = sz) → ∀ (k : Nat) (x : α), l[k]? = some x → ∀ j, j < sz → (l.flatMap f)[k * sz + j]? = (f x)[j]?
 | [], _, k, x, h, _, _ => by simp at h
 | y :: l, hl, 0, x, h, j, hj => by
  simp at h; subst h
  have := hl y (by simp)
  rw [List.flatMap_cons, Nat.zero_mul, Nat.zero_add, List.getElem?_append_left (by omega)]
 | y :: l, hl, k + 1, x, h, j, hj => by
  have h1 := hl y (by simp)
  have ih := flat_get f sz l (fun z hz => hl z (by simp [hz])) k x (by simpa using h) j hj
  rw [List.flatMap_cons, List.getElem?_append_right (by rw [h1, Nat.succ_mul]; omega), h1, show (k + 1) * sz + j - sz = k * sz + j by rw [Nat.succ_mul]; omega]
  exact ih
/-- What the call owns reads so. -/
theorem rds_of_own {α : Type} {w : World} {B : Nat} {e : TypeId} {sz : Nat} {v : Value} (f : α → List Value) (l : List α) (hf : ∀ x ∈ l, (f x).length = sz)
    (h : w.ownsRow B e sz v l.length (l.flatMap f)) : RdS w v l.length sz (fun k => (l[k]?.map f).getD []) := by
  rcases h.2 with ⟨rfl, h0⟩ | ⟨g, cap, cur, rfl, hg, hh, r⟩
  · exact ⟨none, 0, by rw [h0], fun k hk => by omega⟩
  · refine ⟨_, cap, rfl, fun k hk => ⟨g, 0, rfl, lt_of_block hh, fun j u hj => ?_⟩⟩
    have hx : l[k]? = some (l[k]'hk) := List.getElem?_eq_getElem hk
    dsimp only at hj
    rw [hx] at hj
    simp only [Option.map_some, Option.getD_some] at hj
    have hjs : j < sz := by
      have := hf _ (List.getElem_mem hk)
      rcases Nat.lt_or_ge j sz with h' | h'
      · exact h'
      · rw [List.getElem?_eq_none (by omega)] at hj; cases hj
    have hlt : k * sz + j < l.length * sz := by
      have : (k + 1) * sz ≤ l.length * sz := Nat.mul_le_mul_right sz hk
      rw [Nat.succ_mul] at this; omega
    rw [Nat.zero_add, h.cellAt (j := k * sz + j) hlt, flat_get f sz l hf k _ hx j hjs]
    exact hj
end Go.Proofs.YtckgmilmhofekaaGreatDoor
