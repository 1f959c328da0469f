/- Figures that were shown, in memory, right or not, and as plain data. -/
import Derived.Test.YtjbfngjlepafgaaGreatBase
import Derived.Test.YtjbfngjlepafgaaGreatBigSpec
import Derived.Test.YtjbfngjlepafgaaGreatBigB
import Derived.Test.YtjbfngjlepafgaaGreatBigC
import Derived.Test.YtjbfngjlepafgaaGreatBigD
import Derived.Test.YtjbfngjlepafgaaGreatBigK
import Derived.Test.YtjbfngjlepafgaaGreatBigL
import Derived.Test.YtjbfngjlepafgaaGreatBigQ
import Derived.Test.YtjbfngjlepafgaaGreatFracA
import Derived.Test.YtjbfngjlepafgaaGreatRefJ
import Derived.Test.YtjbfngjlepafgaaGreatAw
import Derived.Test.YtjbfngjlepafgaaGreatRefO
import Derived.Test.YtjbfngjlepafgaaGreatFq
import Derived.Test.YtjbfngjlepafgaaGreatRefY
import Derived.Test.YtjbfngjlepafgaaGreatOwn
import Derived.Test.YtjbfngjlepafgaaGreatProg
import Derived.Test.YtjbfngjlepafgaaGreatShelf
import Derived.WalkKit
import Derived.WalkSpells
import Derived.WalkLawsBesides
import Derived.Handy
import Derived.Lib.Hide
import Derived.Lib.Strings
import Derived.Lib.Builder
import Derived.BigQuiet
import Derived.OwnWalk
import Derived.Laws.BitsLemmas
import Derived.WalkSmall
import Derived.Deep.QuietTactic
import Derived.StillTailTactics
import Derived.Maps.AppendAt
import Derived.IntWalk
import Derived.Deep.RegionHeld3
import Derived.Deep.DeepFit
import Derived.Deep.LoopGhost
import Derived.Deep.DeepCutAuto
import Derived.Lib.ItoaNum
import Derived.Lib.Repeat
import Derived.Lib.AppendIntMem
import Derived.Sort.OwnSorted
import Derived.Shelf.Strings.SlTrimAscii
import Derived.Lib.ConvBytes
import Derived.Lib.CutLaws
namespace Go.Proofs.YtjbfngjlepafgaaGreat
open Go.RowKit
variable {G : Nat}

/-- What reads as an element: its cells, and what they lead to; 'deep': the types of the blocks that its own memory lies in. -/
class El (α : Type) where
 cells : α → List Value
 sz : Nat
 T : TypeId
 deep : List TypeId
 ok : Nat → World → α → Prop
 len : ∀ x : α, (cells x).length = sz
 one : ∀ {G : Nat} {w : World} {x : α}, ok G w x → ∀ u ∈ cells x, u.oneCell' = true
 keep : ∀ {G : Nat} {w w' : World} {x : α}, ok G w x → Below w.heap.size w w' → ok G w' x
 far : ∀ {G : Nat} {w w' : World} {x : α} {g : Nat} {T' : TypeId} {ys : Array Value}, ok G w x → Bx w g T' ys → deep.contains T' = false → G ≤ g → w.grownBy w' (some g) → ok G w' x
/-- Elements in a block, one behind the other. -/
structure RdB {α : Type} [El α] (G : Nat) (w : World) (b off : Nat) (l : List α) : Prop where
 lt : b < w.heap.size
 ty : b < G ∨ ∃ cs fr, w.heap[b]? = some (.cells cs (El.T α) fr)
 oks : ∀ x ∈ l, El.ok G w x
 at_ : ∀ (k : Nat) (x : α) (j : Nat) (u : Value), l[k]? = some x → (El.cells x)[j]? = some u → w.cell? ⟨b, off + k * El.sz α + j, none⟩ = some u
theorem ty_keep {w w' : World} {b : Nat} {T : TypeId} (h : b < G ∨ ∃ cs fr, w.heap[b]? = some (.cells cs T fr)) (hb : Below w.heap.size w w') : b < G ∨ ∃ cs fr, w'.heap[b]? = some (.cells cs T fr) := by
  rcases h with h | ⟨cs, fr, h⟩
  · exact .inl h
  · exact .inr ⟨cs, fr, by rw [hb.block b (lt_of_block h)]; exact h⟩
theorem ty_ne {w : World} {b g : Nat} {T T' : TypeId} {ys : Array Value} (h : b < G ∨ ∃ cs fr, w.heap[b]? = some (.cells cs T fr)) (k : Bx w g T' ys) (hT : (T' == T) = false) (hG : G ≤ g) : b ≠ g := by
  rintro rfl
  rcases h with h | ⟨cs, fr, h⟩
  · omega
  · unfold Bx at k
    rw [k] at h
    simp only [Option.some.injEq, Obj.cells.injEq] at h
    rw [h.2.1] at hT
    simp at hT
theorem Bx.ne_ty {w : World} {g g' : Nat} {T T' : TypeId} {cs cs' : Array Value} (h : Bx w g T cs) (h' : Bx w g' T' cs') (hT : (T == T') = false) : g ≠ g' := by
 rintro rfl
 unfold Bx at h h'
 rw [h] at h'
 simp only [Option.some.injEq, Obj.cells.injEq] at h'
 rw [h'.2.1] at hT
 simp at hT
theorem ty_far {w w' : World} {b g : Nat} {T : TypeId} (h : b < G ∨ ∃ cs fr, w.heap[b]? = some (.cells cs T fr)) (hne : b ≠ g) (hg : w.grownBy w' (some g)) : b < G ∨ ∃ cs fr, w'.heap[b]? = some (.cells cs T fr) := by
  rcases h with h | ⟨cs, fr, h⟩
  · exact .inl h
  · exact .inr ⟨cs, fr, (hg.block b (lt_of_block h) (by simp; exact hne)).trans h⟩
theorem RdB.keep {α : Type} [El α] {w w' : World} {b off : Nat} {l : List α} (h : RdB G w b off l) (hb : Below w.heap.size w w') : RdB G w' b off l :=
 ⟨Nat.lt_of_lt_of_le h.lt hb.size, ty_keep h.ty hb, fun x hx => El.keep (h.oks x hx) hb, fun k x j u hk hj => by rw [hb.cell h.lt]; exact h.at_ k x j u hk hj⟩
instance {α : Type} [El α] {w w' : World} {b off : Nat} {l : List α} : Goes (RdB G w b off l) w w' (RdB G w' b off l) := ⟨fun h hb => h.keep hb⟩
theorem RdB.far {α : Type} [El α] {w w' : World} {b off g : Nat} {l : List α} {T' : TypeId} {ys : Array Value} (h : RdB G w b off l) (k : Bx w g T' ys) (hT : (El.T α :: El.deep α).contains T' = false) (hG : G ≤ g) (hg : w.grownBy w' (some g)) : RdB G w' b off l := by
 have h1 : (T' == El.T α) = false ∧ (El.deep α).contains T' = false := by
  simp only [List.contains_cons, Bool.or_eq_false_iff] at hT; exact hT
 have hne := ty_ne h.ty k h1.1 hG
 exact ⟨Nat.lt_of_lt_of_le h.lt hg.size, ty_far h.ty hne hg, fun x hx => El.far (h.oks x hx) k h1.2 hG hg, fun k x j u hk hj => hg.cell (h.at_ k x j u hk hj) (by simp; exact hne)⟩
theorem RdB.row {α : Type} [El α] {w : World} {b off k : Nat} {l : List α} {x : α} (h : RdB G w b off l) (hk : l[k]? = some x) : Row w b (off + k * El.sz α) (El.cells x) :=
 ⟨h.lt, fun j u hj => h.at_ k x j u hk hj⟩
theorem RdB.ok {α : Type} [El α] {w : World} {b off k : Nat} {l : List α} {x : α} (h : RdB G w b off l) (hk : l[k]? = some x) : El.ok G w x := h.oks x (List.mem_of_getElem? hk)
theorem RdB.drop {α : Type} [El α] {w : World} {b off : Nat} {l : List α} (h : RdB G w b off l) (n : Nat) : RdB G w b (off + n * El.sz α) (l.drop n) :=
 ⟨h.lt, h.ty, fun x hx => h.oks x (List.mem_of_mem_drop hx), fun k x j u hk hj => by
  rw [List.getElem?_drop] at hk
  have := h.at_ (n + k) x j u hk hj
  rw [show off + n * El.sz α + k * El.sz α = off + (n + k) * El.sz α by rw [Nat.add_mul]; omega]; exact this⟩
theorem RdB.take {α : Type} [El α] {w : World} {b off : Nat} {l : List α} (h : RdB G w b off l) (n : Nat) : RdB G w b off (l.take n) :=
  ⟨h.lt, h.ty, fun x hx => h.oks x (List.mem_of_mem_take hx), fun k x j u hk hj => by
    rw [List.getElem?_take] at hk
    split at hk
    · exact h.at_ k x j u hk hj
    · cases hk⟩
/-- A slice that is read: nil, or elements in a block. -/
structure RdL {α : Type} [El α] (G : Nat) (w : World) (a : Option Addr) (n c : Nat) (l : List α) : Prop where
 len : l.length = n
 le : n ≤ c
 rd : n = 0 ∨ ∃ b off, a = some ⟨b, off, none⟩ ∧ RdB G w b off l
theorem RdL.keep {α : Type} [El α] {w w' : World} {a : Option Addr} {n c : Nat} {l : List α} (h : RdL G w a n c l) (hb : Below w.heap.size w w') : RdL G w' a n c l :=
 ⟨h.len, h.le, h.rd.imp id fun ⟨b, off, h1, h2⟩ => ⟨b, off, h1, h2.keep hb⟩⟩
instance {α : Type} [El α] {w w' : World} {a : Option Addr} {n c : Nat} {l : List α} : Goes (RdL G w a n c l) w w' (RdL G w' a n c l) := ⟨fun h hb => h.keep hb⟩
theorem RdL.far {α : Type} [El α] {w w' : World} {a : Option Addr} {n c g : Nat} {l : List α} {T' : TypeId} {ys : Array Value} (h : RdL G w a n c l) (k : Bx w g T' ys) (hT : (El.T α :: El.deep α).contains T' = false) (hG : G ≤ g) (hg : w.grownBy w' (some g)) : RdL G w' a n c l :=
 ⟨h.len, h.le, h.rd.imp id fun ⟨b, off, h1, h2⟩ => ⟨b, off, h1, h2.far k hT hG hg⟩⟩
theorem RdL.nil {α : Type} [El α] (w : World) (a : Option Addr) (c : Nat) : RdL G w a 0 c ([] : List α) := ⟨rfl, Nat.zero_le _, .inl rfl⟩
theorem RdL.of {α : Type} [El α] {w : World} {b off n c : Nat} {l : List α} (h : RdB G w b off l) (hn : l.length = n) (hc : n ≤ c) : RdL G w (some ⟨b, off, none⟩) n c l := ⟨hn, hc, .inr ⟨b, off, rfl, h⟩⟩
theorem RdL.cases {α : Type} [El α] {w : World} {a : Option Addr} {n c : Nat} {l : List α} (h : RdL G w a n c l) : (n = 0 ∧ l = []) ∨ ∃ b off, a = some ⟨b, off, none⟩ ∧ 0 < n ∧ l.length = n ∧ n ≤ c ∧ RdB G w b off l := by
  rcases Nat.eq_zero_or_pos n with h0 | h0
  · exact .inl ⟨h0, List.eq_nil_of_length_eq_zero (h.len.trans h0)⟩
  · rcases h.rd with h1 | ⟨b, off, h1, h2⟩
    · omega
    · exact .inr ⟨b, off, h1, h0, h.len, h.le, h2⟩
/-! ### A block of the call's own -/
/-- Elements in a block of the call's own. -/
structure OwB {α : Type} [El α] (G B : Nat) (w : World) (g off : Nat) (l : List α) : Prop where
 leG : G ≤ B
 le : B ≤ g
 oks : ∀ x ∈ l, El.ok G w x
 bx : ∃ P R : List Value, P.length = off ∧ Bx w g (El.T α) (P ++ l.flatMap El.cells ++ R).toArray
theorem OwB.keep {α : Type} [El α] {w w' : World} {B g off : Nat} {l : List α} (h : OwB G B w g off l) (hb : Below w.heap.size w w') : OwB G B w' g off l := by
 obtain ⟨h0, h1, h2, P, R, h3, h4⟩ := h
 exact ⟨h0, h1, fun x hx => El.keep (h2 x hx) hb, P, R, h3, h4.keep hb⟩
instance {α : Type} [El α] {w w' : World} {B g off : Nat} {l : List α} : Goes (OwB G B w g off l) w w' (OwB G B w' g off l) := ⟨fun h hb => h.keep hb⟩
theorem OwB.far {α : Type} [El α] {w w' : World} {B g off g' : Nat} {l : List α} {T' : TypeId} {ys : Array Value} (h : OwB G B w g off l) (k : Bx w g' T' ys) (hT : (El.T α :: El.deep α).contains T' = false) (hG : G ≤ g') (hg : w.grownBy w' (some g')) : OwB G B w' g off l := by
 have h1 : (T' == El.T α) = false ∧ (El.deep α).contains T' = false := by
  simp only [List.contains_cons, Bool.or_eq_false_iff] at hT; exact hT
 obtain ⟨h0, h2, h3, P, R, h4, h5⟩ := h
 have hne := k.ne_ty h5 h1.1
 exact ⟨h0, h2, fun x hx => El.far (h3 x hx) k h1.2 hG hg, P, R, h4, h5.only hg (Ne.symm hne)⟩
theorem OwB.lt {α : Type} [El α] {w : World} {B g off : Nat} {l : List α} (h : OwB G B w g off l) : g < w.heap.size := by obtain ⟨P, R, -, h1⟩ := h.bx; exact h1.lt
theorem flatMap_len {α : Type} [El α] (l : List α) : (l.flatMap El.cells).length = l.length * El.sz α := by
 induction l with
 | nil => simp
 | cons x r ih => simp only [List.flatMap_cons, List.length_append, ih, El.len, List.length_cons, Nat.add_mul]; omega
theorem OwB.rd {α : Type} [El α] {w : World} {B g off : Nat} {l : List α} (h : OwB G B w g off l) : RdB G w g off l := by
 obtain ⟨-, -, h2, P, R, h3, h4⟩ := h
 refine ⟨h4.lt, .inr ⟨_, _, h4⟩, h2, fun k x j u hk hj => ?_⟩
 rw [h4.at.1]
 simp only [List.getElem?_toArray]
 have hkl : k < l.length := (List.getElem?_eq_some_iff.1 hk).1
 have hjs : j < El.sz α := by have := (List.getElem?_eq_some_iff.1 hj).1; rwa [El.len] at this
 have hlt : k * El.sz α + j < l.length * El.sz α := by
  have : (k + 1) * El.sz α ≤ l.length * El.sz α := Nat.mul_le_mul_right _ hkl
  rw [Nat.succ_mul] at this; omega
 rw [List.append_assoc, List.getElem?_append_right (by omega), List.getElem?_append_left (by rw [flatMap_len]; omega), show off + k * El.sz α + j - P.length = k * El.sz α + j by omega]
 have hf : l.flatMap El.cells = (l.map El.cells).flatten := by rw [List.flatMap_def]
 rw [hf, flatten_get (n := El.sz α) (fun y hy => by obtain ⟨z, -, rfl⟩ := List.mem_map.1 hy; exact El.len z) (by simpa using hkl) hjs]
 simp only [List.getElem_map]
 rw [← hj]; congr 2
 exact (List.getElem?_eq_some_iff.1 hk).2
theorem OwB.of_own {α : Type} [El α] {w : World} {B : Nat} {v : Value} {l : List α} (h : w.ownsRow B (El.T α) (El.sz α) v l.length (l.flatMap El.cells)) (hG : G ≤ B) (ho : ∀ x ∈ l, El.ok G w x) :
    (v = .slice none 0 0 ∧ l = []) ∨ ∃ g c, v = .slice (some ⟨g, 0, none⟩) l.length c ∧ l.length ≤ c ∧ B ≤ g ∧ OwB G B w g 0 l := by
  rcases h.2 with ⟨h1, h0⟩ | ⟨g, cap, cur, h1, hg, hh, hc, hx, hs, r⟩
  · exact .inl ⟨h1, List.eq_nil_of_length_eq_zero h0⟩
  · refine .inr ⟨g, cap, h1, hc, hg, ⟨hG, hg, ho, [], cur.toList.drop (l.length * El.sz α), rfl, ?_⟩⟩
    rw [List.nil_append, ← r, List.take_append_drop]
    simpa [Bx] using hh
/-- What is known of other elements outlives an append to a slice of the call's own. -/
theorem El.grown {α : Type} [El α] {w w' : World} {x : α} {B n : Nat} {e : TypeId} {size : Nat} {v : Value} {xs : List Value} (h : El.ok G w x) (ho : w.ownsRow B e size v n xs) (he : (El.deep α).contains e = false) (hG : G ≤ B) (hg : w.grownBy w' v.ownBlock) : El.ok G w' x := by
  rcases own_block ho with h1 | ⟨g, cur, h1, h2, h3⟩
  · rw [h1] at hg; exact El.keep h (below_none_ hg)
  · rw [h1] at hg; exact El.far h h3 he (by omega) hg
/-- A slice that the call owns, as append leaves it: nil, or elements at the head of a block. -/
structure OwV {α : Type} [El α] (G B : Nat) (w : World) (v : Value) (l : List α) : Prop where
 leG : G ≤ B
 own : w.ownsRow B (El.T α) (El.sz α) v l.length (l.flatMap El.cells)
 oks : ∀ x ∈ l, El.ok G w x
theorem OwV.keep {α : Type} [El α] {w w' : World} {B : Nat} {v : Value} {l : List α} (h : OwV G B w v l) (hb : Below w.heap.size w w') : OwV G B w' v l :=
 ⟨h.leG, own_below h.own hb, fun x hx => El.keep (h.oks x hx) hb⟩
instance {α : Type} [El α] {w w' : World} {B : Nat} {v : Value} {l : List α} : Goes (OwV G B w v l) w w' (OwV G B w' v l) := ⟨fun h hb => h.keep hb⟩
theorem OwV.nil {α : Type} [El α] {B : Nat} (w : World) (hG : G ≤ B) : OwV G B w (.slice none 0 0) ([] : List α) :=
 ⟨hG, World.ownsRow_nil _ _ _ _, fun x hx => by simp at hx⟩
theorem OwV.far {α : Type} [El α] {w w' : World} {B g : Nat} {v : Value} {l : List α} {T' : TypeId} {ys : Array Value} (h : OwV G B w v l) (k : Bx w g T' ys) (hT : (El.T α :: El.deep α).contains T' = false) (hG : G ≤ g) (hg : w.grownBy w' (some g)) : OwV G B w' v l := by
  have h1 : (T' == El.T α) = false ∧ (El.deep α).contains T' = false := by
    simp only [List.contains_cons, Bool.or_eq_false_iff] at hT; exact hT
  refine ⟨h.leG, h.own.kept hg ?_, fun x hx => El.far (h.oks x hx) k h1.2 hG hg⟩
  rcases own_block h.own with h2 | ⟨g', cur, h2, -, h3⟩
  · exact .inl h2
  · refine .inr ?_
    rw [h2]
    simp
    exact Ne.symm (k.ne_ty h3 h1.1)
theorem Bx.grownT {w w' : World} {g : Nat} {T : TypeId} {cs : Array Value} {B : Nat} {e : TypeId} {size n : Nat} {v : Value} {xs : List Value} (h : Bx w g T cs) (ho : w.ownsRow B e size v n xs) (hT : (T == e) = false) (hg : w.grownBy w' v.ownBlock) : Bx w' g T cs := by
  rcases own_block ho with h1 | ⟨g', cur, h1, h2, h3⟩
  · rw [h1] at hg; exact h.keep (below_none_ hg)
  · rw [h1] at hg; exact h.only hg (h.ne_ty h3 hT)
theorem RdL.grown {α : Type} [El α] {w w' : World} {a : Option Addr} {n' c : Nat} {l : List α} {B : Nat} {e : TypeId} {size n : Nat} {v : Value} {xs : List Value} (h : RdL G w a n' c l) (ho : w.ownsRow B e size v n xs) (hT : (El.T α :: El.deep α).contains e = false) (hG : G ≤ B) (hg : w.grownBy w' v.ownBlock) : RdL G w' a n' c l := by
  rcases own_block ho with h1 | ⟨g', cur, h1, h2, h3⟩
  · rw [h1] at hg; exact h.keep (below_none_ hg)
  · rw [h1] at hg; exact h.far h3 hT (by omega) hg
theorem wpList_pushV {α : Type} [El α] {P : Program} {ops : Array Oper} {rest : List Oper} {o : Oper} {a : Act} {Q : Exit → Act → World → Prop} (hgd : o.guard = none) (s x : Operand)
    {t : TypeId} {z : Value} {bytes : Nat} (E : ElemT P t (El.T α) z (El.sz α) bytes)
    (ho : o.op = .call { callee := .builtin .append, args := #[s, x], argTypes := #[t, t] }) {wx : World} (wr : World) {B n : Nat} {v : Value} {l : List α} (h : OwV G B wr v l) (hl : l.length = n) (d : α) (hd : El.ok G wr d) (hs : a.eval s = v)
    (hwx : wx = wr.alloc (.cells (El.cells d).toArray (El.T α))) {b : Nat} (hx : a.eval x = .slice (some ⟨b, 0, .none⟩) 1 1) (hbn : b = wr.heap.size) (hdp : (El.deep α).contains (El.T α) = false)
    (hbytes : (n + 1) * bytes ≤ 140737488355328) (h63 : n + 1 ≤ 140737488355328) (hB : B ≤ wr.heap.size)
    (hK : ∀ v' w', OwV G B w' v' (l ++ [d]) → wr.grownBy w' v.ownBlock → wpList P ops Q rest (a.put o.dst v') w') : wpList P ops Q (o :: rest) a wx := by
  subst hl
  refine wpList_push hgd s x E ho wr B v l.length _ hs h.own (El.cells d) hwx hx hbn (El.len d) (El.one hd) hbytes h63 hB fun v' w' k1 k2 _ => hK v' w' ⟨h.leG, ?_, fun y hy => ?_⟩ k2
  · rw [List.length_append, List.flatMap_append]; simpa using k1
  · rcases List.mem_append.1 hy with hy | hy
    · exact El.grown (h.oks y hy) h.own hdp h.leG k2
    · simp at hy; subst hy; exact El.grown hd h.own hdp h.leG k2
theorem OwV.rdl {α : Type} [El α] {w : World} {B n : Nat} {v : Value} {l : List α} (h : OwV G B w v l) (hl : l.length = n) : ∃ a c, v = .slice a n c ∧ RdL G w a n c l := by
  subst hl
  rcases OwB.of_own h.own h.leG h.oks with ⟨rfl, rfl⟩ | ⟨g, c, rfl, h4, -, h5⟩
  · exact ⟨none, 0, rfl, RdL.nil _ _ _⟩
  · exact ⟨_, c, rfl, RdL.of h5.rd rfl h4⟩
end Go.Proofs.YtjbfngjlepafgaaGreat
namespace Go.Proofs.YtjbfngjlepafgaaGreat
open Go.RowKit
variable {G : Nat}

/-! ### Plain figures -/
/-! ### Figures in memory -/
theorem FX.one {w : World} {u0 u1 u2 u3 : Value} {n m : Nat} {o : Option Rat} (h : FX w u0 u1 u2 u3 n m o) : u0.oneCell' = true ∧ u1.oneCell' = true ∧ u2.oneCell' = true ∧ u3.oneCell' = true := by
 obtain ⟨s, a, c, t, b, d, l, k, rfl, rfl, rfl, rfl, -⟩ := h
 exact ⟨rfl, rfl, rfl, rfl⟩
theorem FQ.one {w : World} {u0 u1 u2 u3 : Value} {q : Rat} (h : FQ G w u0 u1 u2 u3 q) : u0.oneCell' = true ∧ u1.oneCell' = true ∧ u2.oneCell' = true ∧ u3.oneCell' = true := by
 obtain ⟨a, c, b, d, rfl, rfl, rfl, rfl, -⟩ := h
 exact ⟨rfl, rfl, rfl, rfl⟩
theorem tnot {t : TypeId} (h : ([3] : List TypeId).contains t = false) : (t == 3) = false := by
 simp only [List.contains_cons, Bool.or_eq_false_iff] at h; exact h.1
/-- A right fraction of a list. -/
structure QC where
 u0 : Value
 u1 : Value
 u2 : Value
 u3 : Value
 q : Rat
instance : El QC where
  cells x := [x.u0, x.u1, x.u2, x.u3]
  sz := 4
  T := 26
  deep := [3]
  ok G w x := FQ G w x.u0 x.u1 x.u2 x.u3 x.q
  len := fun _ => rfl
  one := by
    rintro G w x h u hu
    have h := FQ.one h
    simp at hu; rcases hu with rfl | rfl | rfl | rfl
    · exact h.1
    · exact h.2.1
    · exact h.2.2.1
    · exact h.2.2.2
  keep := fun h hb => FQ.keep h hb
  far := fun h k hT hG hg => FQ.far h k (tnot hT) hG hg
abbrev RdQ (G : Nat) (w : World) (a : Option Addr) (n c : Nat) (l : List QC) : Prop := RdL G w a n c l
abbrev OwVQ (G B : Nat) (w : World) (v : Value) (l : List QC) : Prop := OwV G B w v l
/-! ### Raw lists: few, right -/
end Go.Proofs.YtjbfngjlepafgaaGreat
