/- A figure that is refused. -/
import Derived.Test.YtlpcblhkddmlnaaBase
import Derived.Test.YtlpcblhkddmlnaaBigSpec
import Derived.Test.YtlpcblhkddmlnaaBigB
import Derived.Test.YtlpcblhkddmlnaaBigC
import Derived.Test.YtlpcblhkddmlnaaBigD
import Derived.Test.YtlpcblhkddmlnaaBigK
import Derived.Test.YtlpcblhkddmlnaaBigQ
import Derived.Test.YtlpcblhkddmlnaaFd
import Derived.Test.YtlpcblhkddmlnaaHeld
import Derived.Test.YtlpcblhkddmlnaaAw
import Derived.Test.YtlpcblhkddmlnaaFz
import Derived.Test.YtlpcblhkddmlnaaFracR
import Derived.Test.YtlpcblhkddmlnaaRw
import Derived.Test.YtlpcblhkddmlnaaReA
import Derived.Test.YtlpcblhkddmlnaaReB
import Derived.Test.YtlpcblhkddmlnaaReD
import Derived.Test.YtlpcblhkddmlnaaReP
import Derived.Test.YtlpcblhkddmlnaaReS
import Derived.Test.YtlpcblhkddmlnaaProg
import Derived.Test.YtlpcblhkddmlnaaShelf
import Derived.WalkKit
import Derived.WalkSpells
import Derived.WalkLawsBesides
import Derived.Handy
import Derived.Lib.Hide
import Derived.Lib.Strings
import Derived.Lib.Builder
import Derived.BigQuiet
import Derived.OwnWalk
import Derived.Laws.BitsLemmas
import Derived.WalkSmall
import Derived.Deep.QuietTactic
import Derived.StillTailTactics
import Derived.Maps.AppendAt
import Derived.IntWalk
import Derived.Deep.RegionHeld3
import Derived.Deep.DeepFit
import Derived.Deep.LoopGhost
import Derived.Deep.DeepCutAuto
import Derived.Lib.ItoaNum
import Derived.Lib.Repeat
import Derived.Lib.AppendIntMem
import Derived.Sort.OwnSorted
import Derived.Shelf.Strings.SlTrimAscii
import Derived.Lib.ConvBytes
import Derived.Lib.CutLaws
import Derived.Maps.Own
import Derived.Maps.Views
import Derived.Maps.OwnOps
import Derived.RangeFuncNested
import Derived.RangeFuncBound
import Derived.RangeFuncCalls
import Derived.RangeFuncLeaves
import Derived.Shelf.Abstract
import Derived.Shelf.RegionOpen
import Derived.OwnWalkIn
import Derived.TacticsInMore
import Derived.LoopNIn
import Derived.LoopIn
namespace Go.Proofs.Ytlpcblhkddmlnaa
open Go.RowKit Go.Lib
variable {G : Nat}

/-! ### Two own slices of fractions -/
structure Ow2 (G B : Nat) (w : World) (v1 v2 : Value) (l1 l2 : List QC) : Prop where
 a : OwV G B w v1 l1
 b : OwV G B w v2 l2
 ne : v2.ownBlock = none ∨ v2.ownBlock ≠ v1.ownBlock
theorem Ow2.keep {w w' : World} {B : Nat} {v1 v2 : Value} {l1 l2 : List QC} (h : Ow2 G B w v1 v2 l1 l2) (hb : Below w.heap.size w w') : Ow2 G B w' v1 v2 l1 l2 := ⟨h.a.keep hb, h.b.keep hb, h.ne⟩
instance {w w' : World} {B : Nat} {v1 v2 : Value} {l1 l2 : List QC} : Goes (Ow2 G B w v1 v2 l1 l2) w w' (Ow2 G B w' v1 v2 l1 l2) := ⟨fun h hb => h.keep hb⟩
theorem Ow2.nil {B : Nat} (w : World) (hG : G ≤ B) : Ow2 G B w (.slice none 0 0) (.slice none 0 0) [] [] := ⟨OwV.nil w hG, OwV.nil w hG, .inl rfl⟩
theorem Ow2.far {w w' : World} {B g : Nat} {v1 v2 : Value} {l1 l2 : List QC} {T' : TypeId} {ys : Array Value} (h : Ow2 G B w v1 v2 l1 l2) (k : Bx w g T' ys) (hT : ([27, 3] : List TypeId).contains T' = false) (hG : G ≤ g) (hg : w.grownBy w' (some g)) : Ow2 G B w' v1 v2 l1 l2 :=
 ⟨h.a.far k hT hG hg, h.b.far k hT hG hg, h.ne⟩
theorem Ow2.far_no {w w' : World} {B g : Nat} {v1 v2 : Value} {l1 l2 : List QC} {T' : TypeId} {ys : Array Value} (h : Ow2 G B w v1 v2 l1 l2) (k : Bx w g T' ys) (h1 : v1.ownBlock ≠ some g) (h2 : v2.ownBlock ≠ some g) (hT : ([3] : List TypeId).contains T' = false) (hG : G ≤ g) (hg : w.grownBy w' (some g)) : Ow2 G B w' v1 v2 l1 l2 :=
 ⟨h.a.far_no k h1 hT hG hg, h.b.far_no k h2 hT hG hg, h.ne⟩
theorem Bx.grownN {w w' : World} {g : Nat} {T : TypeId} {cs : Array Value} {v : Value} (h : Bx w g T cs) (hn : v.ownBlock ≠ some g) (hg : w.grownBy w' v.ownBlock) : Bx w' g T cs := by
 cases h1 : v.ownBlock with
 | none => rw [h1] at hg; exact h.keep (below_none_ hg)
 | some g' => rw [h1] at hg hn; exact h.only hg (fun h2 => hn (by rw [h2]))
theorem wp_push_at {P : Program} {o : Oper} {a : Act} {K : Act → World → Prop} {Q : Exit → Act → World → Prop} {s y : Operand} {t : TypeId} {z : Value} {bytes B n : Nat} {v : Value} {l : List QC} {w : World}
    (h : OwV G B w v l) (hl : l.length = n) (E : ElemT P t (El.T QC) z (El.sz QC) bytes) (x : QC) {b : Nat} {cs : Array Value} (hb : Bx w b (El.T QC) cs) (hc : cs = (El.cells x).toArray) (hx : El.ok G w x)
    (hd : (El.deep QC).contains (El.T QC) = false) (hbytes : (n + 1) * bytes ≤ 140737488355328) (h63 : n + 1 ≤ 140737488355328) (hB : B ≤ w.heap.size)
    (ho : o.op = .call { callee := .builtin .append, args := #[s, y], argTypes := #[t, t] }) (hs : a.eval s = v) (hy : a.eval y = .slice (some ⟨b, 0, none⟩) 1 1)
    (hK : ∀ v' w', OwV G B w' v' (l ++ [x]) → w.grownBy w' v.ownBlock → (v'.ownBlock = v.ownBlock ∨ v'.ownBlock = some w.heap.size) → K (a.put o.dst v') w') : o.wp P a w K Q := by
  subst hl
  obtain ⟨i0, hi, hz0, hz1, hz2⟩ := info_parts E.info
  obtain ⟨v', w', hr, h2, h3, -, h5⟩ := run_append_own_at (P := P) w B t o.type (El.T QC) i0 z (El.sz QC) bytes E.under hi hz0 hz1 hz2 E.cells E.pos v l.length (l.flatMap El.cells) h.own ⟨b, 0, none⟩ 1 1 (El.cells x) (by rw [El.len, Nat.one_mul])
    (fun j u hj => by rw [add_off, Nat.zero_add, hb.at.1, hc]; simpa using hj) (El.one hx) (by unfold maxLen; omega) hbytes hB
  unfold Oper.wp execOp
  simp only [ho, resolve, invoke, builtin, Sem.run_bind, Sem.run_pure, Result.andThen_ok, List.map_toArray, List.map_cons, List.map_nil, hs, hy, hr]
  refine hK _ _ ⟨h.leG, ?_, fun y hy => ?_⟩ h3 h5
  · rw [List.length_append, List.flatMap_append]; simpa using h2
  · rcases List.mem_append.1 hy with hy | hy
    · exact El.grown (h.oks y hy) h.own hd h.leG h3
    · simp at hy; subst hy; exact El.grown hx h.own hd h.leG h3
theorem OwV.kept2 {w w' : World} {B : Nat} {v1 v2 : Value} {l1 l2 : List QC} (h : OwV G B w v2 l2) (ho : OwV G B w v1 l1) (hn : v2.ownBlock = none ∨ v2.ownBlock ≠ v1.ownBlock) (hg : w.grownBy w' v1.ownBlock) : OwV G B w' v2 l2 :=
 ⟨h.leG, h.own.kept hg hn, fun x hx => El.grown (h.oks x hx) ho.own (by rfl) h.leG hg⟩
theorem ne_sym {a b : Option Nat} (h : a = none ∨ a ≠ b) : b = none ∨ b ≠ a := by
  rcases h with rfl | h
  · cases b
    · exact .inl rfl
    · exact .inr (by simp)
  · exact .inr (Ne.symm h)
theorem ne_next {B : Nat} {w : World} {v1 v1' v2 : Value} {l2 : List QC} (h : OwV G B w v2 l2) (hn : v2.ownBlock = none ∨ v2.ownBlock ≠ v1.ownBlock) (hv : v1'.ownBlock = v1.ownBlock ∨ v1'.ownBlock = some w.heap.size) : v2.ownBlock = none ∨ v2.ownBlock ≠ v1'.ownBlock := by
  rcases hv with hv | hv
  · rw [hv]; exact hn
  · rw [hv]
    rcases own_block h.own with h2 | ⟨g, cur, h2, -, h3⟩
    · exact .inl h2
    · rw [h2]; right; have := h3.lt; simp; omega
theorem wp_pushP1 {P : Program} {o : Oper} {a : Act} {K : Act → World → Prop} {Q : Exit → Act → World → Prop} {s y : Operand} {t : TypeId} {z : Value} {bytes B n : Nat} {v1 v2 : Value} {l1 l2 : List QC} {w : World}
    (h : Ow2 G B w v1 v2 l1 l2) (hl : l1.length = n) (E : ElemT P t (El.T QC) z (El.sz QC) bytes) (x : QC) {b : Nat} {cs : Array Value} (hb : Bx w b (El.T QC) cs) (hc : cs = (El.cells x).toArray) (hx : El.ok G w x)
    (hbytes : (n + 1) * bytes ≤ 140737488355328) (h63 : n + 1 ≤ 140737488355328) (hB : B ≤ w.heap.size)
    (ho : o.op = .call { callee := .builtin .append, args := #[s, y], argTypes := #[t, t] }) (hs : a.eval s = v1) (hy : a.eval y = .slice (some ⟨b, 0, none⟩) 1 1)
    (hK : ∀ v' w', Ow2 G B w' v' v2 (l1 ++ [x]) l2 → w.grownBy w' v1.ownBlock → K (a.put o.dst v') w') : o.wp P a w K Q :=
  wp_push_at h.a hl E x hb hc hx (by rfl) hbytes h63 hB ho hs hy fun v' w' h1 h2 h3 => hK v' w' ⟨h1, h.b.kept2 h.a h.ne h2, ne_next h.b h.ne h3⟩ h2
theorem wp_pushP2 {P : Program} {o : Oper} {a : Act} {K : Act → World → Prop} {Q : Exit → Act → World → Prop} {s y : Operand} {t : TypeId} {z : Value} {bytes B n : Nat} {v1 v2 : Value} {l1 l2 : List QC} {w : World}
    (h : Ow2 G B w v1 v2 l1 l2) (hl : l2.length = n) (E : ElemT P t (El.T QC) z (El.sz QC) bytes) (x : QC) {b : Nat} {cs : Array Value} (hb : Bx w b (El.T QC) cs) (hc : cs = (El.cells x).toArray) (hx : El.ok G w x)
    (hbytes : (n + 1) * bytes ≤ 140737488355328) (h63 : n + 1 ≤ 140737488355328) (hB : B ≤ w.heap.size)
    (ho : o.op = .call { callee := .builtin .append, args := #[s, y], argTypes := #[t, t] }) (hs : a.eval s = v2) (hy : a.eval y = .slice (some ⟨b, 0, none⟩) 1 1)
    (hK : ∀ v' w', Ow2 G B w' v1 v' l1 (l2 ++ [x]) → w.grownBy w' v2.ownBlock → K (a.put o.dst v') w') : o.wp P a w K Q :=
  wp_push_at h.b hl E x hb hc hx (by rfl) hbytes h63 hB ho hs hy fun v' w' h1 h2 h3 => hK v' w' ⟨h.a.kept2 h.b (ne_sym h.ne) h2, h1, ne_sym (ne_next h.a (ne_sym h.ne) h3)⟩ h2
theorem RdL.row_ {α : Type} [El α] {w : World} {b off n c k : Nat} {l : List α} {x : α} (h : RdL G w (some ⟨b, off, none⟩) n c l) (hk : l[k]? = some x) : Row w b (off + k * El.sz α) (El.cells x) := by
 have hn : 0 < n := by
  have h1 := (List.getElem?_eq_some_iff.1 hk).1
  have h2 := h.len
  omega
 obtain ⟨b', off', he, hb⟩ := h.ptr hn
 cases he
 exact hb.row hk
theorem elemFr : ElemT Try.prog 41 27 (.agg #[.int .i64 0, .slice none 0 0, .int .i64 0, .slice none 0 0]) 4 64 := ⟨Try.underlying41, by kernel_rfl, rfl, by decide⟩
/-! ### Differences -/
def dif (f : Sh → Rat) : List Sh → List Rat
 | x :: y :: r => (f y - f x) :: dif f (y :: r)
 | _ => []
theorem dif_snoc (f : Sh → Rat) : ∀ (p : List Sh) (x y : Sh), dif f (p ++ [x, y]) = dif f (p ++ [x]) ++ [f y - f x]
 | [], x, y => rfl
 | [a], x, y => rfl
 | a :: b :: p, x, y => by
  have := dif_snoc f (b :: p) x y
  rw [List.cons_append, List.cons_append] at this ⊢
  rw [List.cons_append, List.cons_append]
  rw [dif, dif, this]; rfl
theorem dif_next {f : Sh → Rat} {l : List SC} {k : Nat} {x y : SC} (hx : l[k]? = some x) (hy : l[k + 1]? = some y) : dif f ((l.take (k + 2)).map SC.sh) = dif f ((l.take (k + 1)).map SC.sh) ++ [f y.sh - f x.sh] := by
 rw [show k + 2 = (k + 1) + 1 from rfl, List.take_add_one, hy, List.take_add_one, hx]
 simp only [Option.toList, List.map_append, List.map_cons, List.map_nil, List.append_assoc, List.cons_append, List.nil_append]
 exact dif_snoc f _ _ _
theorem dif_one {f : Sh → Rat} {l : List SC} : dif f ((l.take 1).map SC.sh) = [] := by
 cases l with
 | nil => rfl
 | cons x r => rfl
theorem dif_len (f : Sh → Rat) : ∀ l : List Sh, (dif f l).length = l.length - 1
 | [] => rfl
 | [_] => rfl
 | _ :: y :: r => by rw [dif, List.length_cons, dif_len f (y :: r)]; rfl
theorem dif_mem {f : Sh → Rat} : ∀ {l : List Sh} {q : Rat}, q ∈ dif f l → ∃ x ∈ l, ∃ y ∈ l, q = f y - f x
  | [], q, h => by simp [dif] at h
  | [_], q, h => by simp [dif] at h
  | a :: b :: r, q, h => by
    rw [dif] at h
    rcases List.mem_cons.1 h with rfl | h
    · exact ⟨a, by simp, b, by simp, rfl⟩
    · obtain ⟨x, hx, y, hy, he⟩ := dif_mem h
      exact ⟨x, List.mem_cons_of_mem _ hx, y, List.mem_cons_of_mem _ hy, he⟩
theorem FzQ.of_map {l : List QC} {m : List Rat} {N : Nat} (h : l.map QC.q = m) (hm : ∀ q ∈ m, Fz q N) : FzQ l N := fun x hx => hm _ (by rw [← h]; exact List.mem_map.2 ⟨x, hx, rfl⟩)
/-- How large the ends of plain figures are. -/
def FzS (l : List Sh) (N : Nat) : Prop := ∀ x ∈ l, Fz x.lo N ∧ Fz x.hi N
theorem FzL.fzs {l : List SC} {N : Nat} (h : FzL l N) : FzS (l.map SC.sh) N := fun y hy => by
 obtain ⟨x, hx, rfl⟩ := List.mem_map.1 hy; exact h x hx
theorem FzS.fzl {l : List SC} {m : List Sh} {N : Nat} (h : FzS m N) (he : l.map SC.sh = m) : FzL l N := fun x hx => h x.sh (by rw [← he]; exact List.mem_map.2 ⟨x, hx, rfl⟩)
theorem FzS.all {l : List Sh} {k : ByteArray} {N : Nat} (h : FzS l N) : FzS (allF l k) N := fun x hx => h x (List.mem_filter.1 hx).1
theorem FzS.dif_lo {l : List Sh} {N : Nat} (h : FzS l N) : ∀ q ∈ dif Sh.lo l, Fz q (2 * N + 1) := fun q hq => by
 obtain ⟨x, hx, y, hy, rfl⟩ := dif_mem hq
 exact ((h y hy).1.sub (h x hx).1).mono (by omega)
theorem FzS.dif_hi {l : List Sh} {N : Nat} (h : FzS l N) : ∀ q ∈ dif Sh.hi l, Fz q (2 * N + 1) := fun q hq => by
 obtain ⟨x, hx, y, hy, rfl⟩ := dif_mem hq
 exact ((h y hy).2.sub (h x hx).2).mono (by omega)
set_option maxRecDepth 100000 in
set_option maxHeartbeats 4000000 in
theorem reDeltas_g {key : ByteArray} {lf : List Sh} {a : Option Addr} {n c : Nat} {w : World} (hG : G ≤ w.heap.size) (_hlf : lf.length ≤ 1000000) (hz : FzS lf 100000000) (hA : ∀ W, Below w.heap.size w W → Calls Try.prog 21 #[.slice a n c, .string key] W fun e w' => ∃ a2 n2 c2 l2, e = .returned (.slice a2 n2 c2) ∧ RdC G w' a2 n2 c2 l2 ∧ l2.map SC.sh = lf ∧ Below W.heap.size W w') :
  Calls Try.prog 16 #[.slice a n c, .string key] w fun e w' => ∃ a2 n2 c2 l2 a3 n3 c3 l3, e = .returned (.tuple #[.slice a2 n2 c2, .slice a3 n3 c3]) ∧ RdQ G w' a2 n2 c2 l2 ∧ RdQ G w' a3 n3 c3 l3 ∧ l2.map QC.q = dif Sh.lo lf ∧ l3.map QC.q = dif Sh.hi lf ∧ Below w.heap.size w w' := by
 have HZ := Lib.hid hz; have HA := Lib.hid hA; clear hz hA
 have M : Hid (Below w.heap.size w w) := Below.refl _ _
 go_enter Try.func16, Try.ntmps16
 go_wp2_with fail
 refine (HA.out _ M.out).mono ?_
 rintro e w1 ⟨a2, n2, c2, l2, rfl, hd1, hu1, hb⟩
 replace M := adM hd1 hb M
 clear hb hd1
 replace hu1 := Lib.hid hu1
 have HZ2 := Lib.hid (HZ.out.fzl hu1.out)
 have hlen_ : n2 ≤ 1000000 := by have h_ := congrArg List.length hu1.out; rw [List.length_map, (M.out.1).len] at h_; omega
 go_upto_region 2 with fail
 have hw : n2 = 0 ∨ 0 < n2 := by omega
 rcases hw with hn0 | hnp
 ·
  have hmx_ : max (0 : Int) ((n2 : Int) - 1) = 0 := by omega
  go_wp2_with fail
  go_loopw [4, 5, 21] (fun i4 i5 i21 wr => ∃ (k : Nat) (gl : List QC) (hl : List QC) (vg : Value) (vh : Value), vg = i4 ∧ vh = i5 ∧ i21 = .int .i64 (k : Int) ∧ Hid (k ≤ 0) ∧ Hid (gl.length = k) ∧ Hid (hl.length = k) ∧ Hid (gl.map QC.q = dif Sh.lo ((l2.take (k + 1)).map SC.sh)) ∧ Hid (hl.map QC.q = dif Sh.hi ((l2.take (k + 1)).map SC.sh)) ∧ Hid (Ow2 G w.heap.size wr vg vh gl hl ∧ RdC G wr a2 n2 c2 l2 ∧ Below w.heap.size w wr)) (fun i4 i5 i21 _ => 0 - (RowKit.intOf i21).toNat)
  case atStart =>
   exact ⟨0, [], [], (.slice none 0 0), (.slice none 0 0), rfl, rfl, rfl, (by show _ ≤ _; omega), (Lib.hid rfl), (Lib.hid rfl), (Lib.hid (by rw [dif_one]; rfl)), (Lib.hid (by rw [dif_one]; rfl)), Lib.hid (And.intro (Ow2.nil _ hG) (And.intro (M.out.1) (M.out.2)))⟩
  case round =>
   obtain ⟨w2, rfl⟩ : ∃ x, x = wr := ⟨_, rfl⟩
   clear M
   obtain ⟨k, gl, hl, vg, vh, rfl, rfl, rfl, hk, HG1, HG2, HD1, HD2, M⟩ := hrel
   have hk := hk.out
   by_cases hlt : k < 0
   ·
    exfalso
    omega
   ·
    have e1_0 : decide (k < 0) = false := decide_eq_false (by omega)
    have e1_1 : decide ((k : Int) < 0) = false := decide_eq_false (by omega)
    have e1_i : ¬ (k : Int) < 0 := by omega
    have HT_ : Hid (l2.take (k + 1) = l2) := by show _ = _; exact List.take_of_length_le (by rw [((M.out.2.1)).len]; omega)
    go_wp2_with fail
    obtain ⟨ag, cg, hv1_, hr1_⟩ := (M.out.1).a.rdl HG1.out
    obtain ⟨ah, ch, hv2_, hr2_⟩ := (M.out.1).b.rdl HG2.out
    subst hv1_ hv2_
    go_ret2
    exact ⟨_, _, _, gl, _, _, _, rfl, hr1_, hl, hr2_, (by rw [HD1.out, HT_.out, hu1.out]), (by rw [HD2.out, HT_.out, hu1.out]), (M.out.2.2)⟩
 ·
  obtain ⟨p, hp⟩ : ∃ p, n2 = p + 1 := ⟨n2 - 1, by omega⟩
  have hmx_ : max (0 : Int) ((n2 : Int) - 1) = (p : Int) := by omega
  have hp1 : n2 ≤ p + 1 := by omega
  have hp2 : p + 1 ≤ n2 := by omega
  have HP := Lib.hid hp; clear hp
  go_wp2_with fail
  go_loopw [4, 5, 21] (fun i4 i5 i21 wr => ∃ (k : Nat) (gl : List QC) (hl : List QC) (vg : Value) (vh : Value), vg = i4 ∧ vh = i5 ∧ i21 = .int .i64 (k : Int) ∧ Hid (k ≤ p) ∧ Hid (gl.length = k) ∧ Hid (hl.length = k) ∧ Hid (gl.map QC.q = dif Sh.lo ((l2.take (k + 1)).map SC.sh)) ∧ Hid (hl.map QC.q = dif Sh.hi ((l2.take (k + 1)).map SC.sh)) ∧ Hid (Ow2 G w.heap.size wr vg vh gl hl ∧ RdC G wr a2 n2 c2 l2 ∧ Below w.heap.size w wr)) (fun i4 i5 i21 _ => p - (RowKit.intOf i21).toNat)
  case atStart =>
   exact ⟨0, [], [], (.slice none 0 0), (.slice none 0 0), rfl, rfl, rfl, (by show _ ≤ _; omega), (Lib.hid rfl), (Lib.hid rfl), (Lib.hid (by rw [dif_one]; rfl)), (Lib.hid (by rw [dif_one]; rfl)), Lib.hid (And.intro (Ow2.nil _ hG) (And.intro (M.out.1) (M.out.2)))⟩
  case round =>
   obtain ⟨w2, rfl⟩ : ∃ x, x = wr := ⟨_, rfl⟩
   clear M
   obtain ⟨k, gl, hl, vg, vh, rfl, rfl, rfl, hk, HG1, HG2, HD1, HD2, M⟩ := hrel
   have hk := hk.out
   by_cases hlt : k < p
   ·
    have e1_0 : decide (k < p) = true := decide_eq_true (by omega)
    have e1_1 : decide ((k : Int) < (p : Int)) = true := decide_eq_true (by omega)
    have e1_i : (k : Int) < (p : Int) := by omega
    have hi0_ : (0 : Int) ≤ (k : Int) + 1 := by omega
    have hi1_ : (k : Int) + 1 < (n2 : Int) := by omega
    have hi2_ : (k : Int) < (n2 : Int) := by omega
    obtain ⟨bx, offx, rfl, -⟩ := RdL.ptr (M.out.2.1) (by omega : 0 < n2)
    have hkl_ : k < l2.length := by rw [(M.out.2.1).len]; omega
    obtain ⟨x_, hx_⟩ : ∃ x, l2[k]? = some x := ⟨l2[k], List.getElem?_eq_getElem hkl_⟩
    obtain ⟨xk, xn, xu0, xu1, xu2, xu3, xq, xv0, xv1, xv2, xv3, xr⟩ := x_
    have HEx := Lib.hid hx_
    clear hx_ hkl_
    have hkl_ : (k + 1) < l2.length := by rw [(M.out.2.1).len]; omega
    obtain ⟨y_, hx_⟩ : ∃ x, l2[(k + 1)]? = some x := ⟨l2[(k + 1)], List.getElem?_eq_getElem hkl_⟩
    obtain ⟨yk, yn, yu0, yu1, yu2, yu3, yq, yv0, yv1, yv2, yv3, yr⟩ := y_
    have HEy := Lib.hid hx_
    clear hx_ hkl_
    have hz_ := HZ2.out _ (List.mem_of_getElem? HEx.out)
    have HZx1 : Hid (Fz xq 100000000) := hz_.1
    have HZx2 : Hid (Fz xr 100000000) := hz_.2
    clear hz_
    have hz_ := HZ2.out _ (List.mem_of_getElem? HEy.out)
    have HZy1 : Hid (Fz yq 100000000) := hz_.1
    have HZy2 : Hid (Fz yr 100000000) := hz_.2
    clear hz_
    go_upto_region 5 with fail
    have hwk_ : IntKind.i64.wrap ((k : Int) + 1) = (k : Int) + 1 := IntWalk.i64_in _ (by omega)
    go_upto_region 5 with fail
    go_cut [8, 9] (fun s8 s9 wx => ∃ (A1 : Nat), ∃ (A2 : Nat), s8 = .pointer (some ⟨A1, 0, none⟩) ∧ s9 = .pointer (some ⟨A2, 0, none⟩) ∧ w.heap.size ≤ A1 ∧ (w.heap.size ≤ A2 ∧ A1 ≠ A2) ∧ Hid (Bx wx A1 29 #[xu0, xu1, xu2, xu3, xv0, xv1, xv2, xv3] ∧ Bx wx A2 29 #[yu0, yu1, yu2, yu3, yv0, yv1, yv2, yv3] ∧ Ow2 G w.heap.size wx vg vh gl hl ∧ RdC G wx (some ⟨bx, offx, none⟩) n2 c2 l2 ∧ Below w.heap.size w wx))
    case first =>
     refine nmW w2.drew fun w3 hv => ?_
     replace M := drM hv M
     refine wp_region_held_drew (S := (fun w' => w'.cell? ⟨bx, offx + k * 10, none⟩ = some (.string xk) ∧ w'.cell? ⟨bx, offx + k * 10 + 1, none⟩ = some (.int .i64 xn) ∧ w'.cell? ⟨bx, offx + k * 10 + 2, none⟩ = some (xu0) ∧ w'.cell? ⟨bx, offx + k * 10 + 3, none⟩ = some (xu1) ∧ w'.cell? ⟨bx, offx + k * 10 + 4, none⟩ = some (xu2) ∧ w'.cell? ⟨bx, offx + k * 10 + 5, none⟩ = some (xu3) ∧ w'.cell? ⟨bx, offx + k * 10 + 6, none⟩ = some (xv0) ∧ w'.cell? ⟨bx, offx + k * 10 + 7, none⟩ = some (xv1) ∧ w'.cell? ⟨bx, offx + k * 10 + 8, none⟩ = some (xv2) ∧ w'.cell? ⟨bx, offx + k * 10 + 9, none⟩ = some (xv3) ∧ w'.cell? ⟨bx, offx + (k + 1) * 10, none⟩ = some (.string yk) ∧ w'.cell? ⟨bx, offx + (k + 1) * 10 + 1, none⟩ = some (.int .i64 yn) ∧ w'.cell? ⟨bx, offx + (k + 1) * 10 + 2, none⟩ = some (yu0) ∧ w'.cell? ⟨bx, offx + (k + 1) * 10 + 3, none⟩ = some (yu1) ∧ w'.cell? ⟨bx, offx + (k + 1) * 10 + 4, none⟩ = some (yu2) ∧ w'.cell? ⟨bx, offx + (k + 1) * 10 + 5, none⟩ = some (yu3) ∧ w'.cell? ⟨bx, offx + (k + 1) * 10 + 6, none⟩ = some (yv0) ∧ w'.cell? ⟨bx, offx + (k + 1) * 10 + 7, none⟩ = some (yv1) ∧ w'.cell? ⟨bx, offx + (k + 1) * 10 + 8, none⟩ = some (yv2) ∧ w'.cell? ⟨bx, offx + (k + 1) * 10 + 9, none⟩ = some (yv3))) (by kernel_rfl) (by rw [← hv]; exact ⟨(RdL.row_ (M.out.2.1) HEx.out).2 0 _ rfl, (RdL.row_ (M.out.2.1) HEx.out).2 1 _ rfl, (RdL.row_ (M.out.2.1) HEx.out).2 2 _ rfl, (RdL.row_ (M.out.2.1) HEx.out).2 3 _ rfl, (RdL.row_ (M.out.2.1) HEx.out).2 4 _ rfl, (RdL.row_ (M.out.2.1) HEx.out).2 5 _ rfl, (RdL.row_ (M.out.2.1) HEx.out).2 6 _ rfl, (RdL.row_ (M.out.2.1) HEx.out).2 7 _ rfl, (RdL.row_ (M.out.2.1) HEx.out).2 8 _ rfl, (RdL.row_ (M.out.2.1) HEx.out).2 9 _ rfl, (RdL.row_ (M.out.2.1) HEy.out).2 0 _ rfl, (RdL.row_ (M.out.2.1) HEy.out).2 1 _ rfl, (RdL.row_ (M.out.2.1) HEy.out).2 2 _ rfl, (RdL.row_ (M.out.2.1) HEy.out).2 3 _ rfl, (RdL.row_ (M.out.2.1) HEy.out).2 4 _ rfl, (RdL.row_ (M.out.2.1) HEy.out).2 5 _ rfl, (RdL.row_ (M.out.2.1) HEy.out).2 6 _ rfl, (RdL.row_ (M.out.2.1) HEy.out).2 7 _ rfl, (RdL.row_ (M.out.2.1) HEy.out).2 8 _ rfl, (RdL.row_ (M.out.2.1) HEy.out).2 9 _ rfl⟩) (fun hH3 => ?_)
     rw [← hv] at hH3 ⊢
     clear hv
     refine tk at0 ?_
     refine tk at1 ?_
     refine tk at2 ?_
     refine tk at3 ?_
     refine tk at4 ?_
     refine tk at5 ?_
     refine tk at6 ?_
     refine tk at7 ?_
     refine tk at8 ?_
     refine tk at9 ?_
     refine tk at10 ?_
     refine wpAnyH_ready (rs := [11, 12]) (by kernel_rfl) (by simp) ?_
     refine AllReadyH.cons at11 (fun K hK => ?_) ?_
     ·
      go_simp
      refine nmW (w3.alloc (.cells #[.int .i64 0, .slice none 0 0, .int .i64 0, .slice none 0 0, .int .i64 0, .slice none 0 0, .int .i64 0, .slice none 0 0] 29)) fun w4 hv => ?_
      rw [← hv]
      have ow0_ : w.heap.size ≤ w3.heap.size := ((M.out.2.2)).size
      have no2_0_vg : Value.ownBlock vg ≠ some w3.heap.size := OwV.no (M.out.1).a
      have no2_0_vh : Value.ownBlock vh ≠ some w3.heap.size := OwV.no (M.out.1).b
      replace M := alM hv M
      clear hv
      refine hK.out _ _ (⟨(RdL.row_ (M.out.2.2.1) HEx.out).2 0 _ rfl, (RdL.row_ (M.out.2.2.1) HEx.out).2 1 _ rfl, (RdL.row_ (M.out.2.2.1) HEx.out).2 2 _ rfl, (RdL.row_ (M.out.2.2.1) HEx.out).2 3 _ rfl, (RdL.row_ (M.out.2.2.1) HEx.out).2 4 _ rfl, (RdL.row_ (M.out.2.2.1) HEx.out).2 5 _ rfl, (RdL.row_ (M.out.2.2.1) HEx.out).2 6 _ rfl, (RdL.row_ (M.out.2.2.1) HEx.out).2 7 _ rfl, (RdL.row_ (M.out.2.2.1) HEx.out).2 8 _ rfl, (RdL.row_ (M.out.2.2.1) HEx.out).2 9 _ rfl, (RdL.row_ (M.out.2.2.1) HEy.out).2 0 _ rfl, (RdL.row_ (M.out.2.2.1) HEy.out).2 1 _ rfl, (RdL.row_ (M.out.2.2.1) HEy.out).2 2 _ rfl, (RdL.row_ (M.out.2.2.1) HEy.out).2 3 _ rfl, (RdL.row_ (M.out.2.2.1) HEy.out).2 4 _ rfl, (RdL.row_ (M.out.2.2.1) HEy.out).2 5 _ rfl, (RdL.row_ (M.out.2.2.1) HEy.out).2 6 _ rfl, (RdL.row_ (M.out.2.2.1) HEy.out).2 7 _ rfl, (RdL.row_ (M.out.2.2.1) HEy.out).2 8 _ rfl, (RdL.row_ (M.out.2.2.1) HEy.out).2 9 _ rfl⟩) (fun hH4 => ?_)
      clear hK K hH3
      (try simp only [Act.put, List.setIfInBounds_toArray, List.set_cons_zero, List.set_cons_succ])
      refine wpAnyH_ready (rs := [12]) (by kernel_rfl) (by simp) ?_
      refine AllReadyH.cons at12 (fun K hK => ?_) AllReadyH.nil
      go_simp
      refine nmW (w4.alloc (.cells #[.int .i64 0, .slice none 0 0, .int .i64 0, .slice none 0 0, .int .i64 0, .slice none 0 0, .int .i64 0, .slice none 0 0] 29)) fun w5 hv => ?_
      rw [← hv]
      have ow1_ : w3.heap.size < w4.heap.size := ((M.out.1)).lt
      have no2_1_vg : Value.ownBlock vg ≠ some w4.heap.size := OwV.no (M.out.2.1).a
      have no2_1_vh : Value.ownBlock vh ≠ some w4.heap.size := OwV.no (M.out.2.1).b
      replace M := alM hv M
      clear hv
      refine hK.out _ _ (⟨(RdL.row_ (M.out.2.2.2.1) HEx.out).2 0 _ rfl, (RdL.row_ (M.out.2.2.2.1) HEx.out).2 1 _ rfl, (RdL.row_ (M.out.2.2.2.1) HEx.out).2 2 _ rfl, (RdL.row_ (M.out.2.2.2.1) HEx.out).2 3 _ rfl, (RdL.row_ (M.out.2.2.2.1) HEx.out).2 4 _ rfl, (RdL.row_ (M.out.2.2.2.1) HEx.out).2 5 _ rfl, (RdL.row_ (M.out.2.2.2.1) HEx.out).2 6 _ rfl, (RdL.row_ (M.out.2.2.2.1) HEx.out).2 7 _ rfl, (RdL.row_ (M.out.2.2.2.1) HEx.out).2 8 _ rfl, (RdL.row_ (M.out.2.2.2.1) HEx.out).2 9 _ rfl, (RdL.row_ (M.out.2.2.2.1) HEy.out).2 0 _ rfl, (RdL.row_ (M.out.2.2.2.1) HEy.out).2 1 _ rfl, (RdL.row_ (M.out.2.2.2.1) HEy.out).2 2 _ rfl, (RdL.row_ (M.out.2.2.2.1) HEy.out).2 3 _ rfl, (RdL.row_ (M.out.2.2.2.1) HEy.out).2 4 _ rfl, (RdL.row_ (M.out.2.2.2.1) HEy.out).2 5 _ rfl, (RdL.row_ (M.out.2.2.2.1) HEy.out).2 6 _ rfl, (RdL.row_ (M.out.2.2.2.1) HEy.out).2 7 _ rfl, (RdL.row_ (M.out.2.2.2.1) HEy.out).2 8 _ rfl, (RdL.row_ (M.out.2.2.2.1) HEy.out).2 9 _ rfl⟩) (fun hH5 => ?_)
      clear hK K hH4
      (try simp only [Act.put, List.setIfInBounds_toArray, List.set_cons_zero, List.set_cons_succ])
      refine wpAnyH_ready (rs := [13]) (by kernel_rfl) (by simp) ?_
      refine AllReadyH.cons at13 (fun K hK => ?_) AllReadyH.nil
      refine cj16 (M.out.2.1).c8 fun p0_0 q0_0 p0_1 q0_1 p0_2 q0_2 p0_3 q0_3 p0_4 q0_4 p0_5 q0_5 p0_6 q0_6 p0_7 q0_7 => ?_
      refine cj4 (TQ.st (RdL.oks (M.out.2.2.2.1) _ (List.mem_of_getElem? HEx.out)).1) fun st_xu0 st_xu1 st_xu2 st_xu3 => ?_
      refine cj4 (TQ.st (RdL.oks (M.out.2.2.2.1) _ (List.mem_of_getElem? HEx.out)).2) fun st_xv0 st_xv1 st_xv2 st_xv3 => ?_
      go_simp
      clear p0_0 q0_0 p0_1 q0_1 p0_2 q0_2 p0_3 q0_3 p0_4 q0_4 p0_5 q0_5 p0_6 q0_6 p0_7 q0_7 st_xu0 st_xu1 st_xu2 st_xu3 st_xv0 st_xv1 st_xv2 st_xv3
      refine nmW ((((((((w5.setCell ⟨w3.heap.size, 0, none⟩ (xu0)).setCell ⟨w3.heap.size, 1, none⟩ (xu1)).setCell ⟨w3.heap.size, 2, none⟩ (xu2)).setCell ⟨w3.heap.size, 3, none⟩ (xu3)).setCell ⟨w3.heap.size, 4, none⟩ (xv0)).setCell ⟨w3.heap.size, 5, none⟩ (xv1)).setCell ⟨w3.heap.size, 6, none⟩ (xv2)).setCell ⟨w3.heap.size, 7, none⟩ (xv3)) fun w6 hv => ?_
      rw [← hv]
      have og : w5.grownBy w6 (some w3.heap.size) := by rw [hv]; exact (only_setCell (only_setCell (only_setCell (only_setCell (only_setCell (only_setCell (only_setCell (only_setCell (World.grownBy.refl _ _) _) _) _) _) _) _) _) _)
      have hz : w.heap.size ≤ w3.heap.size := by omega
      have hk : Bx w6 w3.heap.size 29 #[xu0, xu1, xu2, xu3, xv0, xv1, xv2, xv3] := by rw [hv]; exact (((((((((M.out.2.1).set 0 _).set 1 _).set 2 _).set 3 _).set 4 _).set 5 _).set 6 _).set 7 _)
      have hbw : Below w.heap.size w w6 := by rw [hv]; exact (Below.setCell (Below.setCell (Below.setCell (Below.setCell (Below.setCell (Below.setCell (Below.setCell (Below.setCell (M.out.2.2.2.2) (by omega) _) (by omega) _) (by omega) _) (by omega) _) (by omega) _) (by omega) _) (by omega) _) (by omega) _)
      replace M := Lib.hid (And.intro ((M.out.1).only og (by omega)) (And.intro hk (And.intro ((M.out.2.2.1).far (M.out.2.1) (by rfl) (by omega) og) (And.intro ((M.out.2.2.2.1).far (M.out.2.1) (by rfl) (by omega) og) hbw))))
      clear hk hbw og hv hz
      refine hK.out _ _ (⟨(RdL.row_ (M.out.2.2.2.1) HEx.out).2 0 _ rfl, (RdL.row_ (M.out.2.2.2.1) HEx.out).2 1 _ rfl, (RdL.row_ (M.out.2.2.2.1) HEx.out).2 2 _ rfl, (RdL.row_ (M.out.2.2.2.1) HEx.out).2 3 _ rfl, (RdL.row_ (M.out.2.2.2.1) HEx.out).2 4 _ rfl, (RdL.row_ (M.out.2.2.2.1) HEx.out).2 5 _ rfl, (RdL.row_ (M.out.2.2.2.1) HEx.out).2 6 _ rfl, (RdL.row_ (M.out.2.2.2.1) HEx.out).2 7 _ rfl, (RdL.row_ (M.out.2.2.2.1) HEx.out).2 8 _ rfl, (RdL.row_ (M.out.2.2.2.1) HEx.out).2 9 _ rfl, (RdL.row_ (M.out.2.2.2.1) HEy.out).2 0 _ rfl, (RdL.row_ (M.out.2.2.2.1) HEy.out).2 1 _ rfl, (RdL.row_ (M.out.2.2.2.1) HEy.out).2 2 _ rfl, (RdL.row_ (M.out.2.2.2.1) HEy.out).2 3 _ rfl, (RdL.row_ (M.out.2.2.2.1) HEy.out).2 4 _ rfl, (RdL.row_ (M.out.2.2.2.1) HEy.out).2 5 _ rfl, (RdL.row_ (M.out.2.2.2.1) HEy.out).2 6 _ rfl, (RdL.row_ (M.out.2.2.2.1) HEy.out).2 7 _ rfl, (RdL.row_ (M.out.2.2.2.1) HEy.out).2 8 _ rfl, (RdL.row_ (M.out.2.2.2.1) HEy.out).2 9 _ rfl⟩) (fun hH6 => ?_)
      clear hK K hH5
      (try simp only [Act.put, List.setIfInBounds_toArray, List.set_cons_zero, List.set_cons_succ])
      refine wpAnyH_ready (rs := [14]) (by kernel_rfl) (by simp) ?_
      refine AllReadyH.cons at14 (fun K hK => ?_) AllReadyH.nil
      refine cj16 (M.out.1).c8 fun p1_0 q1_0 p1_1 q1_1 p1_2 q1_2 p1_3 q1_3 p1_4 q1_4 p1_5 q1_5 p1_6 q1_6 p1_7 q1_7 => ?_
      refine cj4 (TQ.st (RdL.oks (M.out.2.2.2.1) _ (List.mem_of_getElem? HEy.out)).1) fun st_yu0 st_yu1 st_yu2 st_yu3 => ?_
      refine cj4 (TQ.st (RdL.oks (M.out.2.2.2.1) _ (List.mem_of_getElem? HEy.out)).2) fun st_yv0 st_yv1 st_yv2 st_yv3 => ?_
      go_simp
      clear p1_0 q1_0 p1_1 q1_1 p1_2 q1_2 p1_3 q1_3 p1_4 q1_4 p1_5 q1_5 p1_6 q1_6 p1_7 q1_7 st_yu0 st_yu1 st_yu2 st_yu3 st_yv0 st_yv1 st_yv2 st_yv3
      refine nmW ((((((((w6.setCell ⟨w4.heap.size, 0, none⟩ (yu0)).setCell ⟨w4.heap.size, 1, none⟩ (yu1)).setCell ⟨w4.heap.size, 2, none⟩ (yu2)).setCell ⟨w4.heap.size, 3, none⟩ (yu3)).setCell ⟨w4.heap.size, 4, none⟩ (yv0)).setCell ⟨w4.heap.size, 5, none⟩ (yv1)).setCell ⟨w4.heap.size, 6, none⟩ (yv2)).setCell ⟨w4.heap.size, 7, none⟩ (yv3)) fun w7 hv => ?_
      rw [← hv]
      have og : w6.grownBy w7 (some w4.heap.size) := by rw [hv]; exact (only_setCell (only_setCell (only_setCell (only_setCell (only_setCell (only_setCell (only_setCell (only_setCell (World.grownBy.refl _ _) _) _) _) _) _) _) _) _)
      have hz : w.heap.size ≤ w4.heap.size := by omega
      have hk : Bx w7 w4.heap.size 29 #[yu0, yu1, yu2, yu3, yv0, yv1, yv2, yv3] := by rw [hv]; exact (((((((((M.out.1).set 0 _).set 1 _).set 2 _).set 3 _).set 4 _).set 5 _).set 6 _).set 7 _)
      have hbw : Below w.heap.size w w7 := by rw [hv]; exact (Below.setCell (Below.setCell (Below.setCell (Below.setCell (Below.setCell (Below.setCell (Below.setCell (Below.setCell (M.out.2.2.2.2) (by omega) _) (by omega) _) (by omega) _) (by omega) _) (by omega) _) (by omega) _) (by omega) _) (by omega) _)
      replace M := Lib.hid (And.intro hk (And.intro ((M.out.2.1).only og (by omega)) (And.intro ((M.out.2.2.1).far (M.out.1) (by rfl) (by omega) og) (And.intro ((M.out.2.2.2.1).far (M.out.1) (by rfl) (by omega) og) hbw))))
      clear hk hbw og hv hz
      refine hK.out _ _ (⟨(RdL.row_ (M.out.2.2.2.1) HEx.out).2 0 _ rfl, (RdL.row_ (M.out.2.2.2.1) HEx.out).2 1 _ rfl, (RdL.row_ (M.out.2.2.2.1) HEx.out).2 2 _ rfl, (RdL.row_ (M.out.2.2.2.1) HEx.out).2 3 _ rfl, (RdL.row_ (M.out.2.2.2.1) HEx.out).2 4 _ rfl, (RdL.row_ (M.out.2.2.2.1) HEx.out).2 5 _ rfl, (RdL.row_ (M.out.2.2.2.1) HEx.out).2 6 _ rfl, (RdL.row_ (M.out.2.2.2.1) HEx.out).2 7 _ rfl, (RdL.row_ (M.out.2.2.2.1) HEx.out).2 8 _ rfl, (RdL.row_ (M.out.2.2.2.1) HEx.out).2 9 _ rfl, (RdL.row_ (M.out.2.2.2.1) HEy.out).2 0 _ rfl, (RdL.row_ (M.out.2.2.2.1) HEy.out).2 1 _ rfl, (RdL.row_ (M.out.2.2.2.1) HEy.out).2 2 _ rfl, (RdL.row_ (M.out.2.2.2.1) HEy.out).2 3 _ rfl, (RdL.row_ (M.out.2.2.2.1) HEy.out).2 4 _ rfl, (RdL.row_ (M.out.2.2.2.1) HEy.out).2 5 _ rfl, (RdL.row_ (M.out.2.2.2.1) HEy.out).2 6 _ rfl, (RdL.row_ (M.out.2.2.2.1) HEy.out).2 7 _ rfl, (RdL.row_ (M.out.2.2.2.1) HEy.out).2 8 _ rfl, (RdL.row_ (M.out.2.2.2.1) HEy.out).2 9 _ rfl⟩) (fun hH7 => ?_)
      clear hK K hH6
      (try simp only [Act.put, List.setIfInBounds_toArray, List.set_cons_zero, List.set_cons_succ])
      refine wpAnyH_done (by kernel_rfl) ?_ _
      clear hH7
      go_wp2_with fail
      go_meet
      exact ⟨w3.heap.size, w4.heap.size, rfl, rfl, (by omega), (by omega), (M.out.2.1), (M.out.1), (M.out.2.2.1), (M.out.2.2.2.1), (M.out.2.2.2.2)⟩
     refine AllReadyH.cons at12 (fun K hK => ?_) AllReadyH.nil
     go_simp
     refine nmW (w3.alloc (.cells #[.int .i64 0, .slice none 0 0, .int .i64 0, .slice none 0 0, .int .i64 0, .slice none 0 0, .int .i64 0, .slice none 0 0] 29)) fun w4 hv => ?_
     rw [← hv]
     have ow0_ : w.heap.size ≤ w3.heap.size := ((M.out.2.2)).size
     have no2_0_vg : Value.ownBlock vg ≠ some w3.heap.size := OwV.no (M.out.1).a
     have no2_0_vh : Value.ownBlock vh ≠ some w3.heap.size := OwV.no (M.out.1).b
     replace M := alM hv M
     clear hv
     refine hK.out _ _ (⟨(RdL.row_ (M.out.2.2.1) HEx.out).2 0 _ rfl, (RdL.row_ (M.out.2.2.1) HEx.out).2 1 _ rfl, (RdL.row_ (M.out.2.2.1) HEx.out).2 2 _ rfl, (RdL.row_ (M.out.2.2.1) HEx.out).2 3 _ rfl, (RdL.row_ (M.out.2.2.1) HEx.out).2 4 _ rfl, (RdL.row_ (M.out.2.2.1) HEx.out).2 5 _ rfl, (RdL.row_ (M.out.2.2.1) HEx.out).2 6 _ rfl, (RdL.row_ (M.out.2.2.1) HEx.out).2 7 _ rfl, (RdL.row_ (M.out.2.2.1) HEx.out).2 8 _ rfl, (RdL.row_ (M.out.2.2.1) HEx.out).2 9 _ rfl, (RdL.row_ (M.out.2.2.1) HEy.out).2 0 _ rfl, (RdL.row_ (M.out.2.2.1) HEy.out).2 1 _ rfl, (RdL.row_ (M.out.2.2.1) HEy.out).2 2 _ rfl, (RdL.row_ (M.out.2.2.1) HEy.out).2 3 _ rfl, (RdL.row_ (M.out.2.2.1) HEy.out).2 4 _ rfl, (RdL.row_ (M.out.2.2.1) HEy.out).2 5 _ rfl, (RdL.row_ (M.out.2.2.1) HEy.out).2 6 _ rfl, (RdL.row_ (M.out.2.2.1) HEy.out).2 7 _ rfl, (RdL.row_ (M.out.2.2.1) HEy.out).2 8 _ rfl, (RdL.row_ (M.out.2.2.1) HEy.out).2 9 _ rfl⟩) (fun hH8 => ?_)
     clear hK K hH3
     (try simp only [Act.put, List.setIfInBounds_toArray, List.set_cons_zero, List.set_cons_succ])
     refine wpAnyH_ready (rs := [11]) (by kernel_rfl) (by simp) ?_
     refine AllReadyH.cons at11 (fun K hK => ?_) AllReadyH.nil
     go_simp
     refine nmW (w4.alloc (.cells #[.int .i64 0, .slice none 0 0, .int .i64 0, .slice none 0 0, .int .i64 0, .slice none 0 0, .int .i64 0, .slice none 0 0] 29)) fun w5 hv => ?_
     rw [← hv]
     have ow1_ : w3.heap.size < w4.heap.size := ((M.out.1)).lt
     have no2_1_vg : Value.ownBlock vg ≠ some w4.heap.size := OwV.no (M.out.2.1).a
     have no2_1_vh : Value.ownBlock vh ≠ some w4.heap.size := OwV.no (M.out.2.1).b
     replace M := alM hv M
     clear hv
     refine hK.out _ _ (⟨(RdL.row_ (M.out.2.2.2.1) HEx.out).2 0 _ rfl, (RdL.row_ (M.out.2.2.2.1) HEx.out).2 1 _ rfl, (RdL.row_ (M.out.2.2.2.1) HEx.out).2 2 _ rfl, (RdL.row_ (M.out.2.2.2.1) HEx.out).2 3 _ rfl, (RdL.row_ (M.out.2.2.2.1) HEx.out).2 4 _ rfl, (RdL.row_ (M.out.2.2.2.1) HEx.out).2 5 _ rfl, (RdL.row_ (M.out.2.2.2.1) HEx.out).2 6 _ rfl, (RdL.row_ (M.out.2.2.2.1) HEx.out).2 7 _ rfl, (RdL.row_ (M.out.2.2.2.1) HEx.out).2 8 _ rfl, (RdL.row_ (M.out.2.2.2.1) HEx.out).2 9 _ rfl, (RdL.row_ (M.out.2.2.2.1) HEy.out).2 0 _ rfl, (RdL.row_ (M.out.2.2.2.1) HEy.out).2 1 _ rfl, (RdL.row_ (M.out.2.2.2.1) HEy.out).2 2 _ rfl, (RdL.row_ (M.out.2.2.2.1) HEy.out).2 3 _ rfl, (RdL.row_ (M.out.2.2.2.1) HEy.out).2 4 _ rfl, (RdL.row_ (M.out.2.2.2.1) HEy.out).2 5 _ rfl, (RdL.row_ (M.out.2.2.2.1) HEy.out).2 6 _ rfl, (RdL.row_ (M.out.2.2.2.1) HEy.out).2 7 _ rfl, (RdL.row_ (M.out.2.2.2.1) HEy.out).2 8 _ rfl, (RdL.row_ (M.out.2.2.2.1) HEy.out).2 9 _ rfl⟩) (fun hH9 => ?_)
     clear hK K hH8
     (try simp only [Act.put, List.setIfInBounds_toArray, List.set_cons_zero, List.set_cons_succ])
     refine wpAnyH_ready (rs := [13]) (by kernel_rfl) (by simp) ?_
     refine AllReadyH.cons at13 (fun K hK => ?_) AllReadyH.nil
     refine cj16 (M.out.1).c8 fun p1_0 q1_0 p1_1 q1_1 p1_2 q1_2 p1_3 q1_3 p1_4 q1_4 p1_5 q1_5 p1_6 q1_6 p1_7 q1_7 => ?_
     refine cj4 (TQ.st (RdL.oks (M.out.2.2.2.1) _ (List.mem_of_getElem? HEx.out)).1) fun st_xu0 st_xu1 st_xu2 st_xu3 => ?_
     refine cj4 (TQ.st (RdL.oks (M.out.2.2.2.1) _ (List.mem_of_getElem? HEx.out)).2) fun st_xv0 st_xv1 st_xv2 st_xv3 => ?_
     go_simp
     clear p1_0 q1_0 p1_1 q1_1 p1_2 q1_2 p1_3 q1_3 p1_4 q1_4 p1_5 q1_5 p1_6 q1_6 p1_7 q1_7 st_xu0 st_xu1 st_xu2 st_xu3 st_xv0 st_xv1 st_xv2 st_xv3
     refine nmW ((((((((w5.setCell ⟨w4.heap.size, 0, none⟩ (xu0)).setCell ⟨w4.heap.size, 1, none⟩ (xu1)).setCell ⟨w4.heap.size, 2, none⟩ (xu2)).setCell ⟨w4.heap.size, 3, none⟩ (xu3)).setCell ⟨w4.heap.size, 4, none⟩ (xv0)).setCell ⟨w4.heap.size, 5, none⟩ (xv1)).setCell ⟨w4.heap.size, 6, none⟩ (xv2)).setCell ⟨w4.heap.size, 7, none⟩ (xv3)) fun w6 hv => ?_
     rw [← hv]
     have og : w5.grownBy w6 (some w4.heap.size) := by rw [hv]; exact (only_setCell (only_setCell (only_setCell (only_setCell (only_setCell (only_setCell (only_setCell (only_setCell (World.grownBy.refl _ _) _) _) _) _) _) _) _) _)
     have hz : w.heap.size ≤ w4.heap.size := by omega
     have hk : Bx w6 w4.heap.size 29 #[xu0, xu1, xu2, xu3, xv0, xv1, xv2, xv3] := by rw [hv]; exact (((((((((M.out.1).set 0 _).set 1 _).set 2 _).set 3 _).set 4 _).set 5 _).set 6 _).set 7 _)
     have hbw : Below w.heap.size w w6 := by rw [hv]; exact (Below.setCell (Below.setCell (Below.setCell (Below.setCell (Below.setCell (Below.setCell (Below.setCell (Below.setCell (M.out.2.2.2.2) (by omega) _) (by omega) _) (by omega) _) (by omega) _) (by omega) _) (by omega) _) (by omega) _) (by omega) _)
     replace M := Lib.hid (And.intro hk (And.intro ((M.out.2.1).only og (by omega)) (And.intro ((M.out.2.2.1).far (M.out.1) (by rfl) (by omega) og) (And.intro ((M.out.2.2.2.1).far (M.out.1) (by rfl) (by omega) og) hbw))))
     clear hk hbw og hv hz
     refine hK.out _ _ (⟨(RdL.row_ (M.out.2.2.2.1) HEx.out).2 0 _ rfl, (RdL.row_ (M.out.2.2.2.1) HEx.out).2 1 _ rfl, (RdL.row_ (M.out.2.2.2.1) HEx.out).2 2 _ rfl, (RdL.row_ (M.out.2.2.2.1) HEx.out).2 3 _ rfl, (RdL.row_ (M.out.2.2.2.1) HEx.out).2 4 _ rfl, (RdL.row_ (M.out.2.2.2.1) HEx.out).2 5 _ rfl, (RdL.row_ (M.out.2.2.2.1) HEx.out).2 6 _ rfl, (RdL.row_ (M.out.2.2.2.1) HEx.out).2 7 _ rfl, (RdL.row_ (M.out.2.2.2.1) HEx.out).2 8 _ rfl, (RdL.row_ (M.out.2.2.2.1) HEx.out).2 9 _ rfl, (RdL.row_ (M.out.2.2.2.1) HEy.out).2 0 _ rfl, (RdL.row_ (M.out.2.2.2.1) HEy.out).2 1 _ rfl, (RdL.row_ (M.out.2.2.2.1) HEy.out).2 2 _ rfl, (RdL.row_ (M.out.2.2.2.1) HEy.out).2 3 _ rfl, (RdL.row_ (M.out.2.2.2.1) HEy.out).2 4 _ rfl, (RdL.row_ (M.out.2.2.2.1) HEy.out).2 5 _ rfl, (RdL.row_ (M.out.2.2.2.1) HEy.out).2 6 _ rfl, (RdL.row_ (M.out.2.2.2.1) HEy.out).2 7 _ rfl, (RdL.row_ (M.out.2.2.2.1) HEy.out).2 8 _ rfl, (RdL.row_ (M.out.2.2.2.1) HEy.out).2 9 _ rfl⟩) (fun hH10 => ?_)
     clear hK K hH9
     (try simp only [Act.put, List.setIfInBounds_toArray, List.set_cons_zero, List.set_cons_succ])
     refine wpAnyH_ready (rs := [14]) (by kernel_rfl) (by simp) ?_
     refine AllReadyH.cons at14 (fun K hK => ?_) AllReadyH.nil
     refine cj16 (M.out.2.1).c8 fun p0_0 q0_0 p0_1 q0_1 p0_2 q0_2 p0_3 q0_3 p0_4 q0_4 p0_5 q0_5 p0_6 q0_6 p0_7 q0_7 => ?_
     refine cj4 (TQ.st (RdL.oks (M.out.2.2.2.1) _ (List.mem_of_getElem? HEy.out)).1) fun st_yu0 st_yu1 st_yu2 st_yu3 => ?_
     refine cj4 (TQ.st (RdL.oks (M.out.2.2.2.1) _ (List.mem_of_getElem? HEy.out)).2) fun st_yv0 st_yv1 st_yv2 st_yv3 => ?_
     go_simp
     clear p0_0 q0_0 p0_1 q0_1 p0_2 q0_2 p0_3 q0_3 p0_4 q0_4 p0_5 q0_5 p0_6 q0_6 p0_7 q0_7 st_yu0 st_yu1 st_yu2 st_yu3 st_yv0 st_yv1 st_yv2 st_yv3
     refine nmW ((((((((w6.setCell ⟨w3.heap.size, 0, none⟩ (yu0)).setCell ⟨w3.heap.size, 1, none⟩ (yu1)).setCell ⟨w3.heap.size, 2, none⟩ (yu2)).setCell ⟨w3.heap.size, 3, none⟩ (yu3)).setCell ⟨w3.heap.size, 4, none⟩ (yv0)).setCell ⟨w3.heap.size, 5, none⟩ (yv1)).setCell ⟨w3.heap.size, 6, none⟩ (yv2)).setCell ⟨w3.heap.size, 7, none⟩ (yv3)) fun w7 hv => ?_
     rw [← hv]
     have og : w6.grownBy w7 (some w3.heap.size) := by rw [hv]; exact (only_setCell (only_setCell (only_setCell (only_setCell (only_setCell (only_setCell (only_setCell (only_setCell (World.grownBy.refl _ _) _) _) _) _) _) _) _) _)
     have hz : w.heap.size ≤ w3.heap.size := by omega
     have hk : Bx w7 w3.heap.size 29 #[yu0, yu1, yu2, yu3, yv0, yv1, yv2, yv3] := by rw [hv]; exact (((((((((M.out.2.1).set 0 _).set 1 _).set 2 _).set 3 _).set 4 _).set 5 _).set 6 _).set 7 _)
     have hbw : Below w.heap.size w w7 := by rw [hv]; exact (Below.setCell (Below.setCell (Below.setCell (Below.setCell (Below.setCell (Below.setCell (Below.setCell (Below.setCell (M.out.2.2.2.2) (by omega) _) (by omega) _) (by omega) _) (by omega) _) (by omega) _) (by omega) _) (by omega) _) (by omega) _)
     replace M := Lib.hid (And.intro ((M.out.1).only og (by omega)) (And.intro hk (And.intro ((M.out.2.2.1).far (M.out.2.1) (by rfl) (by omega) og) (And.intro ((M.out.2.2.2.1).far (M.out.2.1) (by rfl) (by omega) og) hbw))))
     clear hk hbw og hv hz
     refine hK.out _ _ (⟨(RdL.row_ (M.out.2.2.2.1) HEx.out).2 0 _ rfl, (RdL.row_ (M.out.2.2.2.1) HEx.out).2 1 _ rfl, (RdL.row_ (M.out.2.2.2.1) HEx.out).2 2 _ rfl, (RdL.row_ (M.out.2.2.2.1) HEx.out).2 3 _ rfl, (RdL.row_ (M.out.2.2.2.1) HEx.out).2 4 _ rfl, (RdL.row_ (M.out.2.2.2.1) HEx.out).2 5 _ rfl, (RdL.row_ (M.out.2.2.2.1) HEx.out).2 6 _ rfl, (RdL.row_ (M.out.2.2.2.1) HEx.out).2 7 _ rfl, (RdL.row_ (M.out.2.2.2.1) HEx.out).2 8 _ rfl, (RdL.row_ (M.out.2.2.2.1) HEx.out).2 9 _ rfl, (RdL.row_ (M.out.2.2.2.1) HEy.out).2 0 _ rfl, (RdL.row_ (M.out.2.2.2.1) HEy.out).2 1 _ rfl, (RdL.row_ (M.out.2.2.2.1) HEy.out).2 2 _ rfl, (RdL.row_ (M.out.2.2.2.1) HEy.out).2 3 _ rfl, (RdL.row_ (M.out.2.2.2.1) HEy.out).2 4 _ rfl, (RdL.row_ (M.out.2.2.2.1) HEy.out).2 5 _ rfl, (RdL.row_ (M.out.2.2.2.1) HEy.out).2 6 _ rfl, (RdL.row_ (M.out.2.2.2.1) HEy.out).2 7 _ rfl, (RdL.row_ (M.out.2.2.2.1) HEy.out).2 8 _ rfl, (RdL.row_ (M.out.2.2.2.1) HEy.out).2 9 _ rfl⟩) (fun hH11 => ?_)
     clear hK K hH10
     (try simp only [Act.put, List.setIfInBounds_toArray, List.set_cons_zero, List.set_cons_succ])
     refine wpAnyH_done (by kernel_rfl) ?_ _
     clear hH11
     go_wp2_with fail
     go_meet
     exact ⟨w4.heap.size, w3.heap.size, rfl, rfl, (by omega), (by omega), (M.out.1), (M.out.2.1), (M.out.2.2.1), (M.out.2.2.2.1), (M.out.2.2.2.2)⟩
    case rest =>
     obtain ⟨A1, A2, rfl, rfl, oA1, oA2, M⟩ := hcut
     obtain ⟨w3, rfl⟩ : ∃ w_ : World, w_ = wc := ⟨_, rfl⟩
     go_upto_region 6 with fail
     clear hwk_
     refine cj8 (M.out.2.1).d8 fun p1_0 p1_1 p1_2 p1_3 p1_4 p1_5 p1_6 p1_7 => ?_
     refine cj8 (M.out.1).d8 fun p0_0 p0_1 p0_2 p0_3 p0_4 p0_5 p0_6 p0_7 => ?_
     go_wp2_with fail
     clear p1_0 p1_1 p1_2 p1_3 p1_4 p1_5 p1_6 p1_7 p0_0 p0_1 p0_2 p0_3 p0_4 p0_5 p0_6 p0_7
     refine nmW (α := Rat) (yq - xq) fun q16 eq16 => ?_
     refine (fqSub (G := G) (q := yq) (r := xq) (RdL.oks (M.out.2.2.2.1) _ (List.mem_of_getElem? HEy.out)).1 (RdL.oks (M.out.2.2.2.1) _ (List.mem_of_getElem? HEx.out)).1 (Fz.mono HZy1.out (by omega)) (Fz.mono HZx1.out (by omega))).mono ?_
     rintro e w4 ⟨x_12, x_13, x_14, x_15, rfl, hd17, hb⟩
     rw [← eq16] at hd17
     have Sq16 : Hid (Fz q16 200000001) := by show Fz q16 200000001; rw [eq16]; exact (Fz.sub HZy1.out HZx1.out)
     have Eq16 := Lib.hid eq16; clear eq16
     replace M := adM hd17 hb M
     clear hb hd17
     refine cj4 (TQ.st (M.out.1)) fun st_x_12 st_x_13 st_x_14 st_x_15 => ?_
     go_upto_region 7 with fail
     clear st_x_12 st_x_13 st_x_14 st_x_15
     refine nmW (w4.alloc (.cells #[x_12, x_13, x_14, x_15] 27)) fun w5 hv => ?_
     rw [← hv]
     have ow2_ : A2 < w4.heap.size := ((M.out.2.2.1)).lt
     have no2_2_vg : Value.ownBlock vg ≠ some w4.heap.size := OwV.no (M.out.2.2.2.1).a
     have no2_2_vh : Value.ownBlock vh ≠ some w4.heap.size := OwV.no (M.out.2.2.2.1).b
     replace M := alM hv M
     clear hv
     refine cj8 (M.out.2.2.2.1).d8 fun p1_0 p1_1 p1_2 p1_3 p1_4 p1_5 p1_6 p1_7 => ?_
     refine cj8 (M.out.2.2.1).d8 fun p0_0 p0_1 p0_2 p0_3 p0_4 p0_5 p0_6 p0_7 => ?_
     go_wp2_with fail
     clear p1_0 p1_1 p1_2 p1_3 p1_4 p1_5 p1_6 p1_7 p0_0 p0_1 p0_2 p0_3 p0_4 p0_5 p0_6 p0_7
     refine nmW (α := Rat) (yr - xr) fun q22 eq22 => ?_
     refine (fqSub (G := G) (q := yr) (r := xr) (RdL.oks (M.out.2.2.2.2.2.1) _ (List.mem_of_getElem? HEy.out)).2 (RdL.oks (M.out.2.2.2.2.2.1) _ (List.mem_of_getElem? HEx.out)).2 (Fz.mono HZy2.out (by omega)) (Fz.mono HZx2.out (by omega))).mono ?_
     rintro e w6 ⟨x_18, x_19, x_20, x_21, rfl, hd23, hb⟩
     rw [← eq22] at hd23
     have Sq22 : Hid (Fz q22 200000001) := by show Fz q22 200000001; rw [eq22]; exact (Fz.sub HZy2.out HZx2.out)
     have Eq22 := Lib.hid eq22; clear eq22
     replace M := adM hd23 hb M
     clear hb hd23
     refine cj4 (TQ.st (M.out.1)) fun st_x_18 st_x_19 st_x_20 st_x_21 => ?_
     go_wp2_with fail
     clear st_x_18 st_x_19 st_x_20 st_x_21
     refine nmW (w6.alloc (.cells #[x_18, x_19, x_20, x_21] 27)) fun w7 hv => ?_
     rw [← hv]
     have ow3_ : w4.heap.size < w6.heap.size := ((M.out.2.1)).lt
     have no2_3_vg : Value.ownBlock vg ≠ some w6.heap.size := OwV.no (M.out.2.2.2.2.2.1).a
     have no2_3_vh : Value.ownBlock vh ≠ some w6.heap.size := OwV.no (M.out.2.2.2.2.2.1).b
     replace M := alM hv M
     clear hv
     refine nmW w7.drew fun w8 hv => ?_
     replace M := drM hv M
     refine wp_region_held_drew (S := (fun w' => w'.cell? ⟨w4.heap.size, 0, none⟩ = some (x_12) ∧ w'.cell? ⟨w4.heap.size, 1, none⟩ = some (x_13) ∧ w'.cell? ⟨w4.heap.size, 2, none⟩ = some (x_14) ∧ w'.cell? ⟨w4.heap.size, 3, none⟩ = some (x_15) ∧ w'.cell? ⟨w6.heap.size, 0, none⟩ = some (x_18) ∧ w'.cell? ⟨w6.heap.size, 1, none⟩ = some (x_19) ∧ w'.cell? ⟨w6.heap.size, 2, none⟩ = some (x_20) ∧ w'.cell? ⟨w6.heap.size, 3, none⟩ = some (x_21))) (by kernel_rfl) (by rw [← hv]; exact ((M.out.2.2.1).t4 ((M.out.1).d4))) (fun hH24 => ?_)
     rw [← hv] at hH24 ⊢
     clear hv
     refine tk at0 ?_
     refine tk at1 ?_
     refine tk at4 ?_
     refine tk at5 ?_
     refine wpAnyH_ready (rs := [2, 6]) (by kernel_rfl) (by simp) ?_
     refine AllReadyH.cons at2 (fun K hK => ?_) ?_
     ·
      go_simp
      refine nmW (w8.alloc (.cells #[x_12, x_13, x_14, x_15] 27)) fun w9 hv => ?_
      rw [← hv]
      have ow4_ : w6.heap.size < w8.heap.size := ((M.out.1)).lt
      have no2_4_vg : Value.ownBlock vg ≠ some w8.heap.size := OwV.no (M.out.2.2.2.2.2.2.1).a
      have no2_4_vh : Value.ownBlock vh ≠ some w8.heap.size := OwV.no (M.out.2.2.2.2.2.2.1).b
      replace M := alM hv M
      clear hv
      refine hK.out _ _ (((M.out.2.2.2.1).t4 ((M.out.2.1).d4))) (fun hH25 => ?_)
      clear hK K hH24
      (try simp only [Act.put, List.setIfInBounds_toArray, List.set_cons_zero, List.set_cons_succ])
      refine wpAnyH_ready (rs := [3, 6]) (by kernel_rfl) (by simp) ?_
      refine AllReadyH.cons at3 (fun K hK => ?_) ?_
      ·
       rw [if_pos (by rfl)]
       refine wp_pushP1 (M.out.2.2.2.2.2.2.2.1) HG1.out elemFr (⟨x_12, x_13, x_14, x_15, q16⟩ : QC) (M.out.1) rfl (M.out.2.2.2.2.1) (by omega) (by omega) (M.out.2.2.2.2.2.2.2.2.2).size rfl rfl rfl (fun vv_26 w10 ho_ hg_ => ?_)
       replace M := Lib.hid (And.intro ho_ (And.intro ((M.out.2.1).grownN no2_3_vg hg_) (And.intro ((M.out.2.2.1).grown (M.out.2.2.2.2.2.2.2.1).a.own (by rfl) (M.out.2.2.2.2.2.2.2.1).a.leG hg_) (And.intro ((M.out.2.2.2.1).grownN no2_2_vg hg_) (And.intro ((M.out.2.2.2.2.1).grown (M.out.2.2.2.2.2.2.2.1).a.own (by rfl) (M.out.2.2.2.2.2.2.2.1).a.leG hg_) (And.intro ((M.out.2.2.2.2.2.1).grownT (M.out.2.2.2.2.2.2.2.1).a.own (by rfl) hg_) (And.intro ((M.out.2.2.2.2.2.2.1).grownT (M.out.2.2.2.2.2.2.2.1).a.own (by rfl) hg_) (And.intro ((M.out.2.2.2.2.2.2.2.2.1).grown (M.out.2.2.2.2.2.2.2.1).a.own (by rfl) (M.out.2.2.2.2.2.2.2.1).a.leG hg_) (below_grown (M.out.2.2.2.2.2.2.2.2.2) (M.out.2.2.2.2.2.2.2.1).a.own (Nat.le_refl _) (M.out.2.2.2.2.2.2.2.2.2).size hg_)))))))))
       clear ho_ hg_
       refine hK.out _ _ (((M.out.2.2.2.1).t4 ((M.out.2.1).d4))) (fun hH27 => ?_)
       clear hK K hH25
       (try simp only [Act.put, List.setIfInBounds_toArray, List.set_cons_zero, List.set_cons_succ])
       refine wpAnyH_ready (rs := [6]) (by kernel_rfl) (by simp) ?_
       refine AllReadyH.cons at6 (fun K hK => ?_) AllReadyH.nil
       go_simp
       refine nmW (w10.alloc (.cells #[x_18, x_19, x_20, x_21] 27)) fun w11 hv => ?_
       rw [← hv]
       have ow5_ : w6.heap.size < w10.heap.size := ((M.out.2.1)).lt
       have no2_5_vv_26 : Value.ownBlock vv_26 ≠ some w10.heap.size := OwV.no (M.out.1).a
       have no2_5_vh : Value.ownBlock vh ≠ some w10.heap.size := OwV.no (M.out.1).b
       replace M := alM hv M
       clear hv
       refine hK.out _ _ (((M.out.2.2.2.2.1).t4 ((M.out.2.2.1).d4))) (fun hH28 => ?_)
       clear hK K hH27
       (try simp only [Act.put, List.setIfInBounds_toArray, List.set_cons_zero, List.set_cons_succ])
       refine wpAnyH_ready (rs := [7]) (by kernel_rfl) (by simp) ?_
       refine AllReadyH.cons at7 (fun K hK => ?_) AllReadyH.nil
       rw [if_pos (by rfl)]
       refine wp_pushP2 (M.out.2.1) HG2.out elemFr (⟨x_18, x_19, x_20, x_21, q22⟩ : QC) (M.out.1) rfl (M.out.2.2.2.1) (by omega) (by omega) (M.out.2.2.2.2.2.2.2.2.2).size rfl rfl rfl (fun vv_29 w12 ho_ hg_ => ?_)
       replace M := Lib.hid (And.intro ho_ (And.intro ((M.out.2.2.1).grownN no2_3_vh hg_) (And.intro ((M.out.2.2.2.1).grown (M.out.2.1).b.own (by rfl) (M.out.2.1).a.leG hg_) (And.intro ((M.out.2.2.2.2.1).grownN no2_2_vh hg_) (And.intro ((M.out.2.2.2.2.2.1).grown (M.out.2.1).b.own (by rfl) (M.out.2.1).a.leG hg_) (And.intro ((M.out.2.2.2.2.2.2.1).grownT (M.out.2.1).b.own (by rfl) hg_) (And.intro ((M.out.2.2.2.2.2.2.2.1).grownT (M.out.2.1).b.own (by rfl) hg_) (And.intro ((M.out.2.2.2.2.2.2.2.2.1).grown (M.out.2.1).b.own (by rfl) (M.out.2.1).a.leG hg_) (below_grown (M.out.2.2.2.2.2.2.2.2.2) (M.out.2.1).b.own (Nat.le_refl _) (M.out.2.2.2.2.2.2.2.2.2).size hg_)))))))))
       clear ho_ hg_
       refine hK.out _ _ (((M.out.2.2.2.1).t4 ((M.out.2.1).d4))) (fun hH30 => ?_)
       clear hK K hH28
       (try simp only [Act.put, List.setIfInBounds_toArray, List.set_cons_zero, List.set_cons_succ])
       refine tk at8 ?_
       refine tk at9 ?_
       refine wpAnyH_done (by kernel_rfl) ?_ _
       clear hH30
       go_wp2_with fail
       go_roundw
       case rel => exact ⟨(k + 1), (gl ++ [(⟨x_12, x_13, x_14, x_15, q16⟩ : QC)]), (hl ++ [(⟨x_18, x_19, x_20, x_21, q22⟩ : QC)]), vv_26, vv_29, rfl, rfl, by go_num, (by show _ ≤ _; omega), (Lib.hid (by rw [List.length_append, HG1.out]; rfl)), (Lib.hid (by rw [List.length_append, HG2.out]; rfl)), (Lib.hid (by rw [dif_next HEx.out HEy.out, List.map_append, HD1.out]; show _ ++ [q16] = _ ++ [_ - _]; rw [Eq16.out]; rfl)), (Lib.hid (by rw [dif_next HEx.out HEy.out, List.map_append, HD2.out]; show _ ++ [q22] = _ ++ [_ - _]; rw [Eq22.out]; rfl)), Lib.hid (And.intro (M.out.1) (And.intro (M.out.2.2.2.2.2.2.2.1) (M.out.2.2.2.2.2.2.2.2)))⟩
       case measure => simp [RowKit.intOf] <;> omega
      refine AllReadyH.cons at6 (fun K hK => ?_) AllReadyH.nil
      go_simp
      refine nmW (w9.alloc (.cells #[x_18, x_19, x_20, x_21] 27)) fun w10 hv => ?_
      rw [← hv]
      have ow5_ : w8.heap.size < w9.heap.size := ((M.out.1)).lt
      have no2_5_vg : Value.ownBlock vg ≠ some w9.heap.size := OwV.no (M.out.2.2.2.2.2.2.2.1).a
      have no2_5_vh : Value.ownBlock vh ≠ some w9.heap.size := OwV.no (M.out.2.2.2.2.2.2.2.1).b
      replace M := alM hv M
      clear hv
      refine hK.out _ _ (((M.out.2.2.2.2.1).t4 ((M.out.2.2.1).d4))) (fun hH31 => ?_)
      clear hK K hH25
      (try simp only [Act.put, List.setIfInBounds_toArray, List.set_cons_zero, List.set_cons_succ])
      refine wpAnyH_ready (rs := [3]) (by kernel_rfl) (by simp) ?_
      refine AllReadyH.cons at3 (fun K hK => ?_) AllReadyH.nil
      rw [if_pos (by rfl)]
      refine wp_pushP1 (M.out.2.2.2.2.2.2.2.2.1) HG1.out elemFr (⟨x_12, x_13, x_14, x_15, q16⟩ : QC) (M.out.2.1) rfl (M.out.2.2.2.2.2.1) (by omega) (by omega) (M.out.2.2.2.2.2.2.2.2.2.2).size rfl rfl rfl (fun vv_32 w11 ho_ hg_ => ?_)
      replace M := Lib.hid (And.intro ho_ (And.intro ((M.out.1).grownN no2_5_vg hg_) (And.intro ((M.out.2.2.1).grownN no2_3_vg hg_) (And.intro ((M.out.2.2.2.1).grown (M.out.2.2.2.2.2.2.2.2.1).a.own (by rfl) (M.out.2.2.2.2.2.2.2.2.1).a.leG hg_) (And.intro ((M.out.2.2.2.2.1).grownN no2_2_vg hg_) (And.intro ((M.out.2.2.2.2.2.1).grown (M.out.2.2.2.2.2.2.2.2.1).a.own (by rfl) (M.out.2.2.2.2.2.2.2.2.1).a.leG hg_) (And.intro ((M.out.2.2.2.2.2.2.1).grownT (M.out.2.2.2.2.2.2.2.2.1).a.own (by rfl) hg_) (And.intro ((M.out.2.2.2.2.2.2.2.1).grownT (M.out.2.2.2.2.2.2.2.2.1).a.own (by rfl) hg_) (And.intro ((M.out.2.2.2.2.2.2.2.2.2.1).grown (M.out.2.2.2.2.2.2.2.2.1).a.own (by rfl) (M.out.2.2.2.2.2.2.2.2.1).a.leG hg_) (below_grown (M.out.2.2.2.2.2.2.2.2.2.2) (M.out.2.2.2.2.2.2.2.2.1).a.own (Nat.le_refl _) (M.out.2.2.2.2.2.2.2.2.2.2).size hg_))))))))))
      clear ho_ hg_
      refine hK.out _ _ (((M.out.2.2.2.2.1).t4 ((M.out.2.2.1).d4))) (fun hH33 => ?_)
      clear hK K hH31
      (try simp only [Act.put, List.setIfInBounds_toArray, List.set_cons_zero, List.set_cons_succ])
      refine wpAnyH_ready (rs := [7]) (by kernel_rfl) (by simp) ?_
      refine AllReadyH.cons at7 (fun K hK => ?_) AllReadyH.nil
      rw [if_pos (by rfl)]
      refine wp_pushP2 (M.out.1) HG2.out elemFr (⟨x_18, x_19, x_20, x_21, q22⟩ : QC) (M.out.2.1) rfl (M.out.2.2.2.1) (by omega) (by omega) (M.out.2.2.2.2.2.2.2.2.2).size rfl rfl rfl (fun vv_34 w12 ho_ hg_ => ?_)
      replace M := Lib.hid (And.intro ho_ (And.intro ((M.out.2.2.1).grownN no2_3_vh hg_) (And.intro ((M.out.2.2.2.1).grown (M.out.1).b.own (by rfl) (M.out.1).a.leG hg_) (And.intro ((M.out.2.2.2.2.1).grownN no2_2_vh hg_) (And.intro ((M.out.2.2.2.2.2.1).grown (M.out.1).b.own (by rfl) (M.out.1).a.leG hg_) (And.intro ((M.out.2.2.2.2.2.2.1).grownT (M.out.1).b.own (by rfl) hg_) (And.intro ((M.out.2.2.2.2.2.2.2.1).grownT (M.out.1).b.own (by rfl) hg_) (And.intro ((M.out.2.2.2.2.2.2.2.2.1).grown (M.out.1).b.own (by rfl) (M.out.1).a.leG hg_) (below_grown (M.out.2.2.2.2.2.2.2.2.2) (M.out.1).b.own (Nat.le_refl _) (M.out.2.2.2.2.2.2.2.2.2).size hg_)))))))))
      clear ho_ hg_
      refine hK.out _ _ (((M.out.2.2.2.1).t4 ((M.out.2.1).d4))) (fun hH35 => ?_)
      clear hK K hH33
      (try simp only [Act.put, List.setIfInBounds_toArray, List.set_cons_zero, List.set_cons_succ])
      refine tk at8 ?_
      refine tk at9 ?_
      refine wpAnyH_done (by kernel_rfl) ?_ _
      clear hH35
      go_wp2_with fail
      go_roundw
      case rel => exact ⟨(k + 1), (gl ++ [(⟨x_12, x_13, x_14, x_15, q16⟩ : QC)]), (hl ++ [(⟨x_18, x_19, x_20, x_21, q22⟩ : QC)]), vv_32, vv_34, rfl, rfl, by go_num, (by show _ ≤ _; omega), (Lib.hid (by rw [List.length_append, HG1.out]; rfl)), (Lib.hid (by rw [List.length_append, HG2.out]; rfl)), (Lib.hid (by rw [dif_next HEx.out HEy.out, List.map_append, HD1.out]; show _ ++ [q16] = _ ++ [_ - _]; rw [Eq16.out]; rfl)), (Lib.hid (by rw [dif_next HEx.out HEy.out, List.map_append, HD2.out]; show _ ++ [q22] = _ ++ [_ - _]; rw [Eq22.out]; rfl)), Lib.hid (And.intro (M.out.1) (And.intro (M.out.2.2.2.2.2.2.2.1) (M.out.2.2.2.2.2.2.2.2)))⟩
      case measure => simp [RowKit.intOf] <;> omega
     refine AllReadyH.cons at6 (fun K hK => ?_) AllReadyH.nil
     go_simp
     refine nmW (w8.alloc (.cells #[x_18, x_19, x_20, x_21] 27)) fun w9 hv => ?_
     rw [← hv]
     have ow4_ : w6.heap.size < w8.heap.size := ((M.out.1)).lt
     have no2_4_vg : Value.ownBlock vg ≠ some w8.heap.size := OwV.no (M.out.2.2.2.2.2.2.1).a
     have no2_4_vh : Value.ownBlock vh ≠ some w8.heap.size := OwV.no (M.out.2.2.2.2.2.2.1).b
     replace M := alM hv M
     clear hv
     refine hK.out _ _ (((M.out.2.2.2.1).t4 ((M.out.2.1).d4))) (fun hH36 => ?_)
     clear hK K hH24
     (try simp only [Act.put, List.setIfInBounds_toArray, List.set_cons_zero, List.set_cons_succ])
     refine wpAnyH_ready (rs := [2]) (by kernel_rfl) (by simp) ?_
     refine AllReadyH.cons at2 (fun K hK => ?_) AllReadyH.nil
     go_simp
     refine nmW (w9.alloc (.cells #[x_12, x_13, x_14, x_15] 27)) fun w10 hv => ?_
     rw [← hv]
     have ow5_ : w8.heap.size < w9.heap.size := ((M.out.1)).lt
     have no2_5_vg : Value.ownBlock vg ≠ some w9.heap.size := OwV.no (M.out.2.2.2.2.2.2.2.1).a
     have no2_5_vh : Value.ownBlock vh ≠ some w9.heap.size := OwV.no (M.out.2.2.2.2.2.2.2.1).b
     replace M := alM hv M
     clear hv
     refine hK.out _ _ (((M.out.2.2.2.2.1).t4 ((M.out.2.2.1).d4))) (fun hH37 => ?_)
     clear hK K hH36
     (try simp only [Act.put, List.setIfInBounds_toArray, List.set_cons_zero, List.set_cons_succ])
     refine wpAnyH_ready (rs := [3]) (by kernel_rfl) (by simp) ?_
     refine AllReadyH.cons at3 (fun K hK => ?_) AllReadyH.nil
     rw [if_pos (by rfl)]
     refine wp_pushP1 (M.out.2.2.2.2.2.2.2.2.1) HG1.out elemFr (⟨x_12, x_13, x_14, x_15, q16⟩ : QC) (M.out.1) rfl (M.out.2.2.2.2.2.1) (by omega) (by omega) (M.out.2.2.2.2.2.2.2.2.2.2).size rfl rfl rfl (fun vv_38 w11 ho_ hg_ => ?_)
     replace M := Lib.hid (And.intro ho_ (And.intro ((M.out.2.1).grownN no2_4_vg hg_) (And.intro ((M.out.2.2.1).grownN no2_3_vg hg_) (And.intro ((M.out.2.2.2.1).grown (M.out.2.2.2.2.2.2.2.2.1).a.own (by rfl) (M.out.2.2.2.2.2.2.2.2.1).a.leG hg_) (And.intro ((M.out.2.2.2.2.1).grownN no2_2_vg hg_) (And.intro ((M.out.2.2.2.2.2.1).grown (M.out.2.2.2.2.2.2.2.2.1).a.own (by rfl) (M.out.2.2.2.2.2.2.2.2.1).a.leG hg_) (And.intro ((M.out.2.2.2.2.2.2.1).grownT (M.out.2.2.2.2.2.2.2.2.1).a.own (by rfl) hg_) (And.intro ((M.out.2.2.2.2.2.2.2.1).grownT (M.out.2.2.2.2.2.2.2.2.1).a.own (by rfl) hg_) (And.intro ((M.out.2.2.2.2.2.2.2.2.2.1).grown (M.out.2.2.2.2.2.2.2.2.1).a.own (by rfl) (M.out.2.2.2.2.2.2.2.2.1).a.leG hg_) (below_grown (M.out.2.2.2.2.2.2.2.2.2.2) (M.out.2.2.2.2.2.2.2.2.1).a.own (Nat.le_refl _) (M.out.2.2.2.2.2.2.2.2.2.2).size hg_))))))))))
     clear ho_ hg_
     refine hK.out _ _ (((M.out.2.2.2.2.1).t4 ((M.out.2.2.1).d4))) (fun hH39 => ?_)
     clear hK K hH37
     (try simp only [Act.put, List.setIfInBounds_toArray, List.set_cons_zero, List.set_cons_succ])
     refine wpAnyH_ready (rs := [7]) (by kernel_rfl) (by simp) ?_
     refine AllReadyH.cons at7 (fun K hK => ?_) AllReadyH.nil
     rw [if_pos (by rfl)]
     refine wp_pushP2 (M.out.1) HG2.out elemFr (⟨x_18, x_19, x_20, x_21, q22⟩ : QC) (M.out.2.1) rfl (M.out.2.2.2.1) (by omega) (by omega) (M.out.2.2.2.2.2.2.2.2.2).size rfl rfl rfl (fun vv_40 w12 ho_ hg_ => ?_)
     replace M := Lib.hid (And.intro ho_ (And.intro ((M.out.2.2.1).grownN no2_3_vh hg_) (And.intro ((M.out.2.2.2.1).grown (M.out.1).b.own (by rfl) (M.out.1).a.leG hg_) (And.intro ((M.out.2.2.2.2.1).grownN no2_2_vh hg_) (And.intro ((M.out.2.2.2.2.2.1).grown (M.out.1).b.own (by rfl) (M.out.1).a.leG hg_) (And.intro ((M.out.2.2.2.2.2.2.1).grownT (M.out.1).b.own (by rfl) hg_) (And.intro ((M.out.2.2.2.2.2.2.2.1).grownT (M.out.1).b.own (by rfl) hg_) (And.intro ((M.out.2.2.2.2.2.2.2.2.1).grown (M.out.1).b.own (by rfl) (M.out.1).a.leG hg_) (below_grown (M.out.2.2.2.2.2.2.2.2.2) (M.out.1).b.own (Nat.le_refl _) (M.out.2.2.2.2.2.2.2.2.2).size hg_)))))))))
     clear ho_ hg_
     refine hK.out _ _ (((M.out.2.2.2.1).t4 ((M.out.2.1).d4))) (fun hH41 => ?_)
     clear hK K hH39
     (try simp only [Act.put, List.setIfInBounds_toArray, List.set_cons_zero, List.set_cons_succ])
     refine tk at8 ?_
     refine tk at9 ?_
     refine wpAnyH_done (by kernel_rfl) ?_ _
     clear hH41
     go_wp2_with fail
     go_roundw
     case rel => exact ⟨(k + 1), (gl ++ [(⟨x_12, x_13, x_14, x_15, q16⟩ : QC)]), (hl ++ [(⟨x_18, x_19, x_20, x_21, q22⟩ : QC)]), vv_38, vv_40, rfl, rfl, by go_num, (by show _ ≤ _; omega), (Lib.hid (by rw [List.length_append, HG1.out]; rfl)), (Lib.hid (by rw [List.length_append, HG2.out]; rfl)), (Lib.hid (by rw [dif_next HEx.out HEy.out, List.map_append, HD1.out]; show _ ++ [q16] = _ ++ [_ - _]; rw [Eq16.out]; rfl)), (Lib.hid (by rw [dif_next HEx.out HEy.out, List.map_append, HD2.out]; show _ ++ [q22] = _ ++ [_ - _]; rw [Eq22.out]; rfl)), Lib.hid (And.intro (M.out.1) (And.intro (M.out.2.2.2.2.2.2.2.1) (M.out.2.2.2.2.2.2.2.2)))⟩
     case measure => simp [RowKit.intOf] <;> omega
   ·
    have e1_0 : decide (k < p) = false := decide_eq_false (by omega)
    have e1_1 : decide ((k : Int) < (p : Int)) = false := decide_eq_false (by omega)
    have e1_i : ¬ (k : Int) < (p : Int) := by omega
    have HT_ : Hid (l2.take (k + 1) = l2) := by show _ = _; exact List.take_of_length_le (by rw [((M.out.2.1)).len]; omega)
    go_wp2_with fail
    obtain ⟨ag, cg, hv1_, hr1_⟩ := (M.out.1).a.rdl HG1.out
    obtain ⟨ah, ch, hv2_, hr2_⟩ := (M.out.1).b.rdl HG2.out
    subst hv1_ hv2_
    go_ret2
    exact ⟨_, _, _, gl, _, _, _, rfl, hr1_, hl, hr2_, (by rw [HD1.out, HT_.out, hu1.out]), (by rw [HD2.out, HT_.out, hu1.out]), (M.out.2.2)⟩
end Go.Proofs.Ytlpcblhkddmlnaa
namespace Go.Proofs.Ytlpcblhkddmlnaa
open Go.RowKit Go.Lib
variable {G : Nat}

def kA : ByteArray := ⟨#[97]⟩
def kB : ByteArray := ⟨#[98]⟩
def exS : List Sh := [⟨kA, 3, ((10 : Int) : Rat), ((12 : Int) : Rat)⟩, ⟨kB, 3, ((1 : Int) : Rat), ((1 : Int) : Rat)⟩, ⟨kA, 5, ((11 : Int) : Rat), ((12 : Int) : Rat)⟩]
theorem kAB : kA ≠ kB := by decide
theorem kBA : kB ≠ kA := by decide
theorem keyA : keyOk kA = true := by decide
theorem keyB : keyOk kB = true := by decide
theorem okShI {k : ByteArray} {n x y : Int} (hk : keyOk k = true) (h0 : 0 ≤ n) (h1 : n ≤ 1099511627776) (h : x ≤ y) : okSh keyOk ⟨k, n, (x : Rat), (y : Rat)⟩ := ⟨hk, h0, h1, Rat.intCast_le_intCast.2 h⟩
theorem exOk : OkL keyOk exS := by
  refine ⟨by decide, fun x hx => ?_, fun k x hk => ?_⟩
  · simp only [exS, List.mem_cons, List.not_mem_nil, or_false] at hx
    rcases hx with rfl | rfl | rfl
    · exact okShI keyA (by decide) (by decide) (by decide)
    · exact okShI keyB (by decide) (by decide) (by decide)
    · exact okShI keyA (by decide) (by decide) (by decide)
  · match k with
    | 0 => simp only [exS, List.getElem?_cons_zero, Option.some.injEq] at hk; subst hk; rfl
    | 1 => simp only [exS, List.getElem?_cons_succ, List.getElem?_cons_zero, Option.some.injEq] at hk; subst hk; simp [exS, okAt, noteOf, lastK, kAB]
    | 2 => simp only [exS, List.getElem?_cons_succ, List.getElem?_cons_zero, Option.some.injEq] at hk; subst hk; simp [exS, okAt, noteOf, lastK, kBA, clash]
    | n + 3 => simp [exS] at hk
theorem ex_1 : showR exS ⟨kA, 6, ((11 : Int) : Rat), ((12 : Int) : Rat)⟩ = (0, exS) := by simp [showR, exS, noteOf, lastK]
theorem ex_2 : showR exS ⟨kA, 5, ((9 : Int) : Rat), ((12 : Int) : Rat)⟩ = (5, []) := by simp [showR, exS, noteOf, lastK]
theorem ex_3 : showR exS ⟨kA, 4, ((9 : Int) : Rat), ((12 : Int) : Rat)⟩ = (18, []) := by simp [showR, exS, noteOf]
theorem ex_4 : showR exS ⟨kA, 6, ((9 : Int) : Rat), ((12 : Int) : Rat)⟩ = (0, exS ++ [⟨kA, 6, ((9 : Int) : Rat), ((12 : Int) : Rat)⟩]) := by simp [showR, exS, noteOf, lastK]
theorem ex_at1 : atF (allF exS kA) 4 = some ⟨kA, 3, ((10 : Int) : Rat), ((12 : Int) : Rat)⟩ := by simp [atF, allF, exS, kBA]
theorem ex_at2 : atF (allF exS kA) 2 = none := by simp [atF, allF, exS, kBA]
theorem ex_at3 : atF (allF exS kB) 9 = some ⟨kB, 3, ((1 : Int) : Rat), ((1 : Int) : Rat)⟩ := by simp [atF, allF, exS, kAB]
theorem ex_lo : dif Sh.lo (allF exS kA) = [((1 : Int) : Rat)] := by simp [dif, allF, exS, kBA]; grind
theorem ex_hi : dif Sh.hi (allF exS kA) = [((0 : Int) : Rat)] := by simp [dif, allF, exS, kBA]; grind
theorem fz4 {q : Rat} {n : Int} (h : q = (n : Rat)) (hn : -9223372036854775808 ≤ n ∧ n ≤ 9223372036854775807) : Fz q 4 := by rw [h]; exact Fz.int64 hn
theorem exFz : FzS exS 4 := by
 intro x hx
 simp only [exS, List.mem_cons, List.not_mem_nil, or_false] at hx
 rcases hx with rfl | rfl | rfl <;> exact ⟨Fz.int64 (by omega), Fz.int64 (by omega)⟩
theorem FzS.mono {l : List Sh} {N M : Nat} (h : FzS l N) (hm : N ≤ M) : FzS l M := fun x hx => ⟨(h x hx).1.mono hm, (h x hx).2.mono hm⟩
theorem oks_cons {w : World} {k : ByteArray} {n : Int} {u0 u1 u2 u3 v0 v1 v2 v3 : Value} {q r : Rat} {l : List SC} (h : FQ G w u0 u1 u2 u3 q) (h2 : FQ G w v0 v1 v2 v3 r) (hr : ∀ x ∈ l, El.ok G w x) : ∀ x ∈ (⟨k, n, u0, u1, u2, u3, q, v0, v1, v2, v3, r⟩ : SC) :: l, El.ok G w x := fun x hx => by
  rcases List.mem_cons.1 hx with rfl | hx
  · exact ⟨h, h2⟩
  · exact hr x hx
theorem okq_cons {w : World} {u0 u1 u2 u3 : Value} {q : Rat} {l : List QC} (h : FQ G w u0 u1 u2 u3 q) (hr : ∀ x ∈ l, El.ok G w x) : ∀ x ∈ (⟨u0, u1, u2, u3, q⟩ : QC) :: l, El.ok G w x := fun x hx => by
  rcases List.mem_cons.1 hx with rfl | hx
  · exact h
  · exact hr x hx
theorem map_len {l : List SC} {m : List Sh} {n : Nat} (h : l.map SC.sh = m) (hl : l.length = n) : n = m.length := by rw [← h, List.length_map, hl]
set_option maxRecDepth 100000 in
set_option maxHeartbeats 4000000 in
theorem reOf {x y : Int} {w : World} (_hG : G ≤ w.heap.size) (hx : -9223372036854775808 ≤ x ∧ x ≤ 9223372036854775807) (hy : -9223372036854775808 ≤ y ∧ y ≤ 9223372036854775807) :
  Calls Try.prog 29 #[.int .i64 x, .int .i64 y] w fun e w' => ∃ x0 x1 x2 x3 x4 x5 x6 x7, e = .returned (.agg #[x0, x1, x2, x3, x4, x5, x6, x7]) ∧ FQ G w' x0 x1 x2 x3 (x : Rat) ∧ FQ G w' x4 x5 x6 x7 (y : Rat) ∧ Below w.heap.size w w' := by
 have h0_ : True := trivial
 have M : Hid (Below w.heap.size w w) := Below.refl _ _
 go_enter Try.func29, Try.ntmps29
 go_upto_region 1 with fail
 refine nmW (w.alloc (.cells #[.int .i64 0, .slice none 0 0, .int .i64 0, .slice none 0 0, .int .i64 0, .slice none 0 0, .int .i64 0, .slice none 0 0] 29)) fun w1 hv => ?_
 rw [← hv]
 replace M := alM hv M
 clear hv
 go_wp2_with fail
 refine nmW (α := Rat) (x : Rat) fun q5 eq5 => ?_
 refine (fqInt (G := G) (x := x) (by omega)).mono ?_
 rintro e w2 ⟨x_1, x_2, x_3, x_4, rfl, hd6, hb⟩
 rw [← eq5] at hd6
 have Sq5 : Hid (Fz q5 4) := by show Fz q5 4; rw [eq5]; exact (Fz.int64 hx)
 have Eq5 := Lib.hid eq5; clear eq5
 replace M := adM hd6 hb M
 clear hb hd6
 go_wp2_with fail
 refine nmW (α := Rat) (y : Rat) fun q11 eq11 => ?_
 refine (fqInt (G := G) (x := y) (by omega)).mono ?_
 rintro e w3 ⟨x_7, x_8, x_9, x_10, rfl, hd12, hb⟩
 rw [← eq11] at hd12
 have Sq11 : Hid (Fz q11 4) := by show Fz q11 4; rw [eq11]; exact (Fz.int64 hy)
 have Eq11 := Lib.hid eq11; clear eq11
 replace M := adM hd12 hb M
 clear hb hd12
 refine cj16 (M.out.2.2.1).c8 fun p0_0 q0_0 p0_1 q0_1 p0_2 q0_2 p0_3 q0_3 p0_4 q0_4 p0_5 q0_5 p0_6 q0_6 p0_7 q0_7 => ?_
 refine cj4 (TQ.st (M.out.2.1)) fun st_x_1 st_x_2 st_x_3 st_x_4 => ?_
 refine cj4 (TQ.st (M.out.1)) fun st_x_7 st_x_8 st_x_9 st_x_10 => ?_
 go_wp2_with fail
 clear p0_0 q0_0 p0_1 q0_1 p0_2 q0_2 p0_3 q0_3 p0_4 q0_4 p0_5 q0_5 p0_6 q0_6 p0_7 q0_7 st_x_1 st_x_2 st_x_3 st_x_4 st_x_7 st_x_8 st_x_9 st_x_10
 refine nmW ((((((((w3.setCell ⟨w.heap.size, 0, none⟩ (x_1)).setCell ⟨w.heap.size, 1, none⟩ (x_2)).setCell ⟨w.heap.size, 2, none⟩ (x_3)).setCell ⟨w.heap.size, 3, none⟩ (x_4)).setCell ⟨w.heap.size, 4, none⟩ (x_7)).setCell ⟨w.heap.size, 5, none⟩ (x_8)).setCell ⟨w.heap.size, 6, none⟩ (x_9)).setCell ⟨w.heap.size, 7, none⟩ (x_10)) fun w4 hv => ?_
 rw [← hv]
 have og : w3.grownBy w4 (some w.heap.size) := by rw [hv]; exact (only_setCell (only_setCell (only_setCell (only_setCell (only_setCell (only_setCell (only_setCell (only_setCell (World.grownBy.refl _ _) _) _) _) _) _) _) _) _)
 have hz : w.heap.size ≤ w.heap.size := by exact Nat.le_refl _
 have hk : Bx w4 w.heap.size 29 #[x_1, x_2, x_3, x_4, x_7, x_8, x_9, x_10] := by rw [hv]; exact (((((((((M.out.2.2.1).set 0 _).set 1 _).set 2 _).set 3 _).set 4 _).set 5 _).set 6 _).set 7 _)
 have hbw : Below w.heap.size w w4 := by rw [hv]; exact (Below.setCell (Below.setCell (Below.setCell (Below.setCell (Below.setCell (Below.setCell (Below.setCell (Below.setCell (M.out.2.2.2) (by omega) _) (by omega) _) (by omega) _) (by omega) _) (by omega) _) (by omega) _) (by omega) _) (by omega) _)
 replace M := Lib.hid (And.intro ((M.out.1).far (M.out.2.2.1) (by rfl) (by omega) og) (And.intro ((M.out.2.1).far (M.out.2.2.1) (by rfl) (by omega) og) (And.intro hk hbw)))
 clear hk hbw og hv hz
 refine bodyPost_ret (results_box1 rfl _ _ w.heap.size 29 _ _ _ rfl (M.out.2.2.1) Try.underlying29 rfl (by kernel_rfl)) rfl ?_
 exact ⟨_, _, _, _, _, _, _, _, rfl, (by rw [← Eq5.out]; exact (M.out.2.1)), (by rw [← Eq11.out]; exact (M.out.1)), (M.out.2.2.2)⟩
theorem reDeltas_c {key : ByteArray} {l : List SC} {a : Option Addr} {n c : Nat} {w : World} (hG : G ≤ w.heap.size) (h : RdC G w a n c l) (ok : OkL keyOk (l.map SC.sh)) (hz : FzL l 100000000) :
  Calls Try.prog 16 #[.slice a n c, .string key] w fun e w' => ∃ a2 n2 c2 l2 a3 n3 c3 l3, e = .returned (.tuple #[.slice a2 n2 c2, .slice a3 n3 c3]) ∧ RdQ G w' a2 n2 c2 l2 ∧ RdQ G w' a3 n3 c3 l3 ∧ l2.map QC.q = dif Sh.lo (allF (l.map SC.sh) key) ∧ l3.map QC.q = dif Sh.hi (allF (l.map SC.sh) key) ∧ Below w.heap.size w w' := by
 refine reDeltas_g hG ?_ hz.fzs.all fun W hW => reAll (Nat.le_trans hG hW.size) (h.keep hW) ok hz
 have h2 : (allF (l.map SC.sh) key).length ≤ (l.map SC.sh).length := List.length_filter_le _ _
 have h3 := ok.len
 omega
theorem reDeltas_no {key : ByteArray} {l : List SR} {a : Option Addr} {n c : Nat} {w : World} (hG : G ≤ w.heap.size) (h : RdR G w a n c l) (hn : n ≤ 2000) (hs : ∀ x ∈ l, fewR x = true) (hr : rightL keyOk l = false) :
  Calls Try.prog 16 #[.slice a n c, .string key] w fun e w' => ∃ a2 c2 a3 c3, e = .returned (.tuple #[.slice a2 0 c2, .slice a3 0 c3]) ∧ Below w.heap.size w w' :=
 (reDeltas_g (lf := []) hG (by simp) (fun x hx => by cases hx) fun W hW => (reAll_g (Nat.le_trans hG hW.size) (h.keep hW) hn hs hr).mono fun e w' ⟨h1, h2⟩ => ⟨none, 0, 0, [], h1, RdL.nil _ _ _, rfl, h2⟩).mono
  fun e w' ⟨a2, n2, c2, l2, a3, n3, c3, l3, h1, h2, h3, h4, h5, h6⟩ => by
   have k2 : l2 = [] := List.map_eq_nil_iff.1 h4
   have k3 : l3 = [] := List.map_eq_nil_iff.1 h5
   have e2 := h2.len; have e3 := h3.len
   rw [k2] at e2; rw [k3] at e3
   obtain rfl : n2 = 0 := e2.symm
   obtain rfl : n3 = 0 := e3.symm
   exact ⟨a2, c2, a3, c3, h1, h6⟩
set_option maxRecDepth 100000 in
set_option maxHeartbeats 4000000 in
theorem reSmall {w : World} (hG : G ≤ w.heap.size) :
    Calls Try.prog 7 #[] w fun e w' => e = .returned (.bool true) ∧ Below w.heap.size w w' := by
  have h0_ : True := trivial
  have M : Hid (Below w.heap.size w w) := Below.refl _ _
  go_enter Try.func7, Try.ntmps7
  go_wp2_with fail
  refine nmW (α := Rat) ((10 : Int) : Rat) fun q9 eq9 => ?_
  refine nmW (α := Rat) ((12 : Int) : Rat) fun q10 eq10 => ?_
  refine (reOf (G := G) (x := 10) (y := 12) (Nat.le_trans hG M.out.size) (by decide) (by decide)).mono ?_
  rintro e w1 ⟨x_1, x_2, x_3, x_4, x_5, x_6, x_7, x_8, rfl, hd11, hd12, hb⟩
  rw [← eq9] at hd11
  have Sq9 : Hid (Fz q9 4) := by show Fz q9 4; rw [eq9]; exact (Fz.int64 (by omega))
  have Eq9 := Lib.hid eq9; clear eq9
  rw [← eq10] at hd12
  have Sq10 : Hid (Fz q10 4) := by show Fz q10 4; rw [eq10]; exact (Fz.int64 (by omega))
  have Eq10 := Lib.hid eq10; clear eq10
  replace M := ad2M hd11 hd12 hb M
  clear hb hd11 hd12
  go_wp2_with fail
  refine nmW (α := Rat) ((1 : Int) : Rat) fun q21 eq21 => ?_
  refine nmW (α := Rat) ((1 : Int) : Rat) fun q22 eq22 => ?_
  refine (reOf (G := G) (x := 1) (y := 1) (Nat.le_trans hG (M.out.2.2).size) (by decide) (by decide)).mono ?_
  rintro e w2 ⟨x_13, x_14, x_15, x_16, x_17, x_18, x_19, x_20, rfl, hd23, hd24, hb⟩
  rw [← eq21] at hd23
  have Sq21 : Hid (Fz q21 4) := by show Fz q21 4; rw [eq21]; exact (Fz.int64 (by omega))
  have Eq21 := Lib.hid eq21; clear eq21
  rw [← eq22] at hd24
  have Sq22 : Hid (Fz q22 4) := by show Fz q22 4; rw [eq22]; exact (Fz.int64 (by omega))
  have Eq22 := Lib.hid eq22; clear eq22
  replace M := ad2M hd23 hd24 hb M
  clear hb hd23 hd24
  go_wp2_with fail
  refine nmW (α := Rat) ((11 : Int) : Rat) fun q33 eq33 => ?_
  refine nmW (α := Rat) ((12 : Int) : Rat) fun q34 eq34 => ?_
  refine (reOf (G := G) (x := 11) (y := 12) (Nat.le_trans hG (M.out.2.2.2.2).size) (by decide) (by decide)).mono ?_
  rintro e w3 ⟨x_25, x_26, x_27, x_28, x_29, x_30, x_31, x_32, rfl, hd35, hd36, hb⟩
  rw [← eq33] at hd35
  have Sq33 : Hid (Fz q33 4) := by show Fz q33 4; rw [eq33]; exact (Fz.int64 (by omega))
  have Eq33 := Lib.hid eq33; clear eq33
  rw [← eq34] at hd36
  have Sq34 : Hid (Fz q34 4) := by show Fz q34 4; rw [eq34]; exact (Fz.int64 (by omega))
  have Eq34 := Lib.hid eq34; clear eq34
  replace M := ad2M hd35 hd36 hb M
  clear hb hd35 hd36
  go_upto_region 2 with fail
  refine nmW (w3.alloc (.cells #[.string ({data := #[97]}), .int .i64 3, x_1, x_2, x_3, x_4, x_5, x_6, x_7, x_8, .string ({data := #[98]}), .int .i64 3, x_13, x_14, x_15, x_16, x_17, x_18, x_19, x_20, .string ({data := #[97]}), .int .i64 5, x_25, x_26, x_27, x_28, x_29, x_30, x_31, x_32] 37)) fun w4 hv => ?_
  rw [← hv]
  have ow0_ : w.heap.size ≤ w3.heap.size := ((M.out.2.2.2.2.2.2)).size
  replace M := alM hv M
  clear hv
  go_wp2_with fail
  refine nmW (α := Rat) ((11 : Int) : Rat) fun q45 eq45 => ?_
  refine nmW (α := Rat) ((12 : Int) : Rat) fun q46 eq46 => ?_
  refine (reOf (G := G) (x := 11) (y := 12) (Nat.le_trans hG (M.out.2.2.2.2.2.2.2).size) (by decide) (by decide)).mono ?_
  rintro e w5 ⟨x_37, x_38, x_39, x_40, x_41, x_42, x_43, x_44, rfl, hd47, hd48, hb⟩
  rw [← eq45] at hd47
  have Sq45 : Hid (Fz q45 4) := by show Fz q45 4; rw [eq45]; exact (Fz.int64 (by omega))
  have Eq45 := Lib.hid eq45; clear eq45
  rw [← eq46] at hd48
  have Sq46 : Hid (Fz q46 4) := by show Fz q46 4; rw [eq46]; exact (Fz.int64 (by omega))
  have Eq46 := Lib.hid eq46; clear eq46
  replace M := ad2M hd47 hd48 hb M
  clear hb hd47 hd48
  go_wp2_with fail
  obtain ⟨ll49, h_⟩ : ∃ l_ : List SC, l_ = [⟨{data := #[97]}, 3, x_1, x_2, x_3, x_4, q9, x_5, x_6, x_7, x_8, q10⟩, ⟨{data := #[98]}, 3, x_13, x_14, x_15, x_16, q21, x_17, x_18, x_19, x_20, q22⟩, ⟨{data := #[97]}, 5, x_25, x_26, x_27, x_28, q33, x_29, x_30, x_31, x_32, q34⟩] := ⟨_, rfl⟩
  have Ell49 := Lib.hid h_; clear h_
  refine (reShow_c (G := G) (key := ({data := #[97]})) (note := 6) (q := q45) (r := q46) (er := 0) (rs := exS) (l := ll49) (Nat.le_trans hG (M.out.2.2.2.2.2.2.2.2.2).size) (by rw [Ell49.out]; exact RdL.of (OwB.new (α := SC) (M.out.2.2.1) rfl hG (show w.heap.size ≤ _ by omega) (oks_cons (M.out.2.2.2.2.2.2.2.1) (M.out.2.2.2.2.2.2.2.2.1) (oks_cons (M.out.2.2.2.2.2.1) (M.out.2.2.2.2.2.2.1) (oks_cons (M.out.2.2.2.1) (M.out.2.2.2.2.1) (fun y_ hy_ => by simp at hy_))))).rd rfl (by omega)) (by rw [(show List.map SC.sh ll49 = exS from by rw [Ell49.out]; show [(⟨_, _, _, _⟩ : Sh), ⟨_, _, _, _⟩, ⟨_, _, _, _⟩] = _; rw [Eq9.out, Eq10.out, Eq21.out, Eq22.out, Eq33.out, Eq34.out]; rfl)]; exact exOk) (FzS.fzl (exFz.mono (by omega)) (show List.map SC.sh ll49 = exS from by rw [Ell49.out]; show [(⟨_, _, _, _⟩ : Sh), ⟨_, _, _, _⟩, ⟨_, _, _, _⟩] = _; rw [Eq9.out, Eq10.out, Eq21.out, Eq22.out, Eq33.out, Eq34.out]; rfl)) (M.out.1) (M.out.2.1) (Fz.mono Sq45.out (by omega)) (Fz.mono Sq46.out (by omega)) (by rw [Eq45.out, Eq46.out]; exact okShI keyA (by decide) (by decide) (by decide)) (by rw [(show List.map SC.sh ll49 = exS from by rw [Ell49.out]; show [(⟨_, _, _, _⟩ : Sh), ⟨_, _, _, _⟩, ⟨_, _, _, _⟩] = _; rw [Eq9.out, Eq10.out, Eq21.out, Eq22.out, Eq33.out, Eq34.out]; rfl), Eq45.out, Eq46.out]; exact ex_1)).mono ?_
  rintro e w6 ⟨a_50, n_51, c_52, l_53, rfl, hd54, hu55, hb⟩
  replace M := adM hd54 hb M
  clear hb hd54
  replace hu55 := Lib.hid hu55
  obtain rfl : n_51 = 3 := map_len hu55.out ((M.out.1)).len
  go_wp2_with fail
  refine nmW (α := Rat) ((9 : Int) : Rat) fun q64 eq64 => ?_
  refine nmW (α := Rat) ((12 : Int) : Rat) fun q65 eq65 => ?_
  refine (reOf (G := G) (x := 9) (y := 12) (Nat.le_trans hG (M.out.2.2.2.2.2.2.2.2.2.2).size) (by decide) (by decide)).mono ?_
  rintro e w7 ⟨x_56, x_57, x_58, x_59, x_60, x_61, x_62, x_63, rfl, hd66, hd67, hb⟩
  rw [← eq64] at hd66
  have Sq64 : Hid (Fz q64 4) := by show Fz q64 4; rw [eq64]; exact (Fz.int64 (by omega))
  have Eq64 := Lib.hid eq64; clear eq64
  rw [← eq65] at hd67
  have Sq65 : Hid (Fz q65 4) := by show Fz q65 4; rw [eq65]; exact (Fz.int64 (by omega))
  have Eq65 := Lib.hid eq65; clear eq65
  replace M := ad2M hd66 hd67 hb M
  clear hb hd66 hd67
  go_wp2_with fail
  refine (reShow_c (G := G) (key := ({data := #[97]})) (note := 5) (q := q64) (r := q65) (er := 5) (rs := ([] : List Sh)) (l := ll49) (Nat.le_trans hG (M.out.2.2.2.2.2.2.2.2.2.2.2.2).size) (by rw [Ell49.out]; exact RdL.of (OwB.new (α := SC) (M.out.2.2.2.2.2.1) rfl hG (show w.heap.size ≤ _ by omega) (oks_cons (M.out.2.2.2.2.2.2.2.2.2.2.1) (M.out.2.2.2.2.2.2.2.2.2.2.2.1) (oks_cons (M.out.2.2.2.2.2.2.2.2.1) (M.out.2.2.2.2.2.2.2.2.2.1) (oks_cons (M.out.2.2.2.2.2.2.1) (M.out.2.2.2.2.2.2.2.1) (fun y_ hy_ => by simp at hy_))))).rd rfl (by omega)) (by rw [(show List.map SC.sh ll49 = exS from by rw [Ell49.out]; show [(⟨_, _, _, _⟩ : Sh), ⟨_, _, _, _⟩, ⟨_, _, _, _⟩] = _; rw [Eq9.out, Eq10.out, Eq21.out, Eq22.out, Eq33.out, Eq34.out]; rfl)]; exact exOk) (FzS.fzl (exFz.mono (by omega)) (show List.map SC.sh ll49 = exS from by rw [Ell49.out]; show [(⟨_, _, _, _⟩ : Sh), ⟨_, _, _, _⟩, ⟨_, _, _, _⟩] = _; rw [Eq9.out, Eq10.out, Eq21.out, Eq22.out, Eq33.out, Eq34.out]; rfl)) (M.out.1) (M.out.2.1) (Fz.mono Sq64.out (by omega)) (Fz.mono Sq65.out (by omega)) (by rw [Eq64.out, Eq65.out]; exact okShI keyA (by decide) (by decide) (by decide)) (by rw [(show List.map SC.sh ll49 = exS from by rw [Ell49.out]; show [(⟨_, _, _, _⟩ : Sh), ⟨_, _, _, _⟩, ⟨_, _, _, _⟩] = _; rw [Eq9.out, Eq10.out, Eq21.out, Eq22.out, Eq33.out, Eq34.out]; rfl), Eq64.out, Eq65.out]; exact ex_2)).mono ?_
  rintro e w8 ⟨a_68, n_69, c_70, l_71, rfl, hd72, hu73, hb⟩
  replace M := adM hd72 hb M
  clear hb hd72
  replace hu73 := Lib.hid hu73
  go_wp2_with fail
  replace M := Lib.hid (And.intro (M.out.1) (And.intro (M.out.2.2.2.1) (And.intro (M.out.2.2.2.2.2.2.1) (And.intro (M.out.2.2.2.2.2.2.2.1) (And.intro (M.out.2.2.2.2.2.2.2.2.1) (And.intro (M.out.2.2.2.2.2.2.2.2.2.1) (And.intro (M.out.2.2.2.2.2.2.2.2.2.2.1) (And.intro (M.out.2.2.2.2.2.2.2.2.2.2.2.1) (And.intro (M.out.2.2.2.2.2.2.2.2.2.2.2.2.1) (M.out.2.2.2.2.2.2.2.2.2.2.2.2.2))))))))))
  refine nmW (α := Rat) ((9 : Int) : Rat) fun q82 eq82 => ?_
  refine nmW (α := Rat) ((12 : Int) : Rat) fun q83 eq83 => ?_
  refine (reOf (G := G) (x := 9) (y := 12) (Nat.le_trans hG (M.out.2.2.2.2.2.2.2.2.2).size) (by decide) (by decide)).mono ?_
  rintro e w9 ⟨x_74, x_75, x_76, x_77, x_78, x_79, x_80, x_81, rfl, hd84, hd85, hb⟩
  rw [← eq82] at hd84
  have Sq82 : Hid (Fz q82 4) := by show Fz q82 4; rw [eq82]; exact (Fz.int64 (by omega))
  have Eq82 := Lib.hid eq82; clear eq82
  rw [← eq83] at hd85
  have Sq83 : Hid (Fz q83 4) := by show Fz q83 4; rw [eq83]; exact (Fz.int64 (by omega))
  have Eq83 := Lib.hid eq83; clear eq83
  replace M := ad2M hd84 hd85 hb M
  clear hb hd84 hd85
  go_wp2_with fail
  refine (reShow_c (G := G) (key := ({data := #[97]})) (note := 4) (q := q82) (r := q83) (er := 18) (rs := ([] : List Sh)) (l := ll49) (Nat.le_trans hG (M.out.2.2.2.2.2.2.2.2.2.2.2).size) (by rw [Ell49.out]; exact RdL.of (OwB.new (α := SC) (M.out.2.2.2.2.1) rfl hG (show w.heap.size ≤ _ by omega) (oks_cons (M.out.2.2.2.2.2.2.2.2.2.1) (M.out.2.2.2.2.2.2.2.2.2.2.1) (oks_cons (M.out.2.2.2.2.2.2.2.1) (M.out.2.2.2.2.2.2.2.2.1) (oks_cons (M.out.2.2.2.2.2.1) (M.out.2.2.2.2.2.2.1) (fun y_ hy_ => by simp at hy_))))).rd rfl (by omega)) (by rw [(show List.map SC.sh ll49 = exS from by rw [Ell49.out]; show [(⟨_, _, _, _⟩ : Sh), ⟨_, _, _, _⟩, ⟨_, _, _, _⟩] = _; rw [Eq9.out, Eq10.out, Eq21.out, Eq22.out, Eq33.out, Eq34.out]; rfl)]; exact exOk) (FzS.fzl (exFz.mono (by omega)) (show List.map SC.sh ll49 = exS from by rw [Ell49.out]; show [(⟨_, _, _, _⟩ : Sh), ⟨_, _, _, _⟩, ⟨_, _, _, _⟩] = _; rw [Eq9.out, Eq10.out, Eq21.out, Eq22.out, Eq33.out, Eq34.out]; rfl)) (M.out.1) (M.out.2.1) (Fz.mono Sq82.out (by omega)) (Fz.mono Sq83.out (by omega)) (by rw [Eq82.out, Eq83.out]; exact okShI keyA (by decide) (by decide) (by decide)) (by rw [(show List.map SC.sh ll49 = exS from by rw [Ell49.out]; show [(⟨_, _, _, _⟩ : Sh), ⟨_, _, _, _⟩, ⟨_, _, _, _⟩] = _; rw [Eq9.out, Eq10.out, Eq21.out, Eq22.out, Eq33.out, Eq34.out]; rfl), Eq82.out, Eq83.out]; exact ex_3)).mono ?_
  rintro e w10 ⟨a_86, n_87, c_88, l_89, rfl, hd90, hu91, hb⟩
  replace M := adM hd90 hb M
  clear hb hd90
  replace hu91 := Lib.hid hu91
  go_wp2_with fail
  refine nmW (α := Rat) ((9 : Int) : Rat) fun q100 eq100 => ?_
  refine nmW (α := Rat) ((12 : Int) : Rat) fun q101 eq101 => ?_
  refine (reOf (G := G) (x := 9) (y := 12) (Nat.le_trans hG (M.out.2.2.2.2.2.2.2.2.2.2.2.2).size) (by decide) (by decide)).mono ?_
  rintro e w11 ⟨x_92, x_93, x_94, x_95, x_96, x_97, x_98, x_99, rfl, hd102, hd103, hb⟩
  rw [← eq100] at hd102
  have Sq100 : Hid (Fz q100 4) := by show Fz q100 4; rw [eq100]; exact (Fz.int64 (by omega))
  have Eq100 := Lib.hid eq100; clear eq100
  rw [← eq101] at hd103
  have Sq101 : Hid (Fz q101 4) := by show Fz q101 4; rw [eq101]; exact (Fz.int64 (by omega))
  have Eq101 := Lib.hid eq101; clear eq101
  replace M := ad2M hd102 hd103 hb M
  clear hb hd102 hd103
  go_wp2_with fail
  refine (reShow_c (G := G) (key := ({data := #[97]})) (note := 6) (q := q100) (r := q101) (er := 0) (rs := (exS ++ [⟨kA, 6, ((9 : Int) : Rat), ((12 : Int) : Rat)⟩])) (l := ll49) (Nat.le_trans hG (M.out.2.2.2.2.2.2.2.2.2.2.2.2.2.2).size) (by rw [Ell49.out]; exact RdL.of (OwB.new (α := SC) (M.out.2.2.2.2.2.2.2.1) rfl hG (show w.heap.size ≤ _ by omega) (oks_cons (M.out.2.2.2.2.2.2.2.2.2.2.2.2.1) (M.out.2.2.2.2.2.2.2.2.2.2.2.2.2.1) (oks_cons (M.out.2.2.2.2.2.2.2.2.2.2.1) (M.out.2.2.2.2.2.2.2.2.2.2.2.1) (oks_cons (M.out.2.2.2.2.2.2.2.2.1) (M.out.2.2.2.2.2.2.2.2.2.1) (fun y_ hy_ => by simp at hy_))))).rd rfl (by omega)) (by rw [(show List.map SC.sh ll49 = exS from by rw [Ell49.out]; show [(⟨_, _, _, _⟩ : Sh), ⟨_, _, _, _⟩, ⟨_, _, _, _⟩] = _; rw [Eq9.out, Eq10.out, Eq21.out, Eq22.out, Eq33.out, Eq34.out]; rfl)]; exact exOk) (FzS.fzl (exFz.mono (by omega)) (show List.map SC.sh ll49 = exS from by rw [Ell49.out]; show [(⟨_, _, _, _⟩ : Sh), ⟨_, _, _, _⟩, ⟨_, _, _, _⟩] = _; rw [Eq9.out, Eq10.out, Eq21.out, Eq22.out, Eq33.out, Eq34.out]; rfl)) (M.out.1) (M.out.2.1) (Fz.mono Sq100.out (by omega)) (Fz.mono Sq101.out (by omega)) (by rw [Eq100.out, Eq101.out]; exact okShI keyA (by decide) (by decide) (by decide)) (by rw [(show List.map SC.sh ll49 = exS from by rw [Ell49.out]; show [(⟨_, _, _, _⟩ : Sh), ⟨_, _, _, _⟩, ⟨_, _, _, _⟩] = _; rw [Eq9.out, Eq10.out, Eq21.out, Eq22.out, Eq33.out, Eq34.out]; rfl), Eq100.out, Eq101.out]; exact ex_4)).mono ?_
  rintro e w12 ⟨a_104, n_105, c_106, l_107, rfl, hd108, hu109, hb⟩
  replace M := adM hd108 hb M
  clear hb hd108
  replace hu109 := Lib.hid hu109
  obtain rfl : n_105 = 4 := map_len hu109.out ((M.out.1)).len
  go_wp2_with fail
  replace M := Lib.hid (And.intro (M.out.1) (And.intro (M.out.2.2.2.1) (And.intro (M.out.2.2.2.2.2.2.1) (And.intro (M.out.2.2.2.2.2.2.2.1) (And.intro (M.out.2.2.2.2.2.2.2.2.1) (And.intro (M.out.2.2.2.2.2.2.2.2.2.1) (And.intro (M.out.2.2.2.2.2.2.2.2.2.2.1) (And.intro (M.out.2.2.2.2.2.2.2.2.2.2.2.1) (And.intro (M.out.2.2.2.2.2.2.2.2.2.2.2.2.1) (And.intro (M.out.2.2.2.2.2.2.2.2.2.2.2.2.2.1) (And.intro (M.out.2.2.2.2.2.2.2.2.2.2.2.2.2.2.1) (M.out.2.2.2.2.2.2.2.2.2.2.2.2.2.2.2))))))))))))
  refine nmW (α := Rat) ((10 : Int) : Rat) fun yq_110 h_ => ?_
  have Eyq_110 := Lib.hid h_; clear h_
  refine nmW (α := Rat) ((12 : Int) : Rat) fun yr_111 h_ => ?_
  have Eyr_111 := Lib.hid h_; clear h_
  refine (reAt_some (G := G) (key := ({data := #[97]})) (yk := ({data := #[97]})) (nt := 4) (yn := 3) (yq := yq_110) (yr := yr_111) (l := ll49) (Nat.le_trans hG (M.out.2.2.2.2.2.2.2.2.2.2.2).size) (by rw [Ell49.out]; exact RdL.of (OwB.new (α := SC) (M.out.2.2.2.2.1) rfl hG (show w.heap.size ≤ _ by omega) (oks_cons (M.out.2.2.2.2.2.2.2.2.2.1) (M.out.2.2.2.2.2.2.2.2.2.2.1) (oks_cons (M.out.2.2.2.2.2.2.2.1) (M.out.2.2.2.2.2.2.2.2.1) (oks_cons (M.out.2.2.2.2.2.1) (M.out.2.2.2.2.2.2.1) (fun y_ hy_ => by simp at hy_))))).rd rfl (by omega)) (by rw [(show List.map SC.sh ll49 = exS from by rw [Ell49.out]; show [(⟨_, _, _, _⟩ : Sh), ⟨_, _, _, _⟩, ⟨_, _, _, _⟩] = _; rw [Eq9.out, Eq10.out, Eq21.out, Eq22.out, Eq33.out, Eq34.out]; rfl)]; exact exOk) (FzS.fzl (exFz.mono (by omega)) (show List.map SC.sh ll49 = exS from by rw [Ell49.out]; show [(⟨_, _, _, _⟩ : Sh), ⟨_, _, _, _⟩, ⟨_, _, _, _⟩] = _; rw [Eq9.out, Eq10.out, Eq21.out, Eq22.out, Eq33.out, Eq34.out]; rfl)) (by rw [(show List.map SC.sh ll49 = exS from by rw [Ell49.out]; show [(⟨_, _, _, _⟩ : Sh), ⟨_, _, _, _⟩, ⟨_, _, _, _⟩] = _; rw [Eq9.out, Eq10.out, Eq21.out, Eq22.out, Eq33.out, Eq34.out]; rfl), Eyq_110.out, Eyr_111.out]; exact ex_at1)).mono ?_
  rintro e w13 ⟨x_112, x_113, x_114, x_115, x_116, x_117, x_118, x_119, rfl, hd120, hd121, hb⟩
  replace M := ad2M hd120 hd121 hb M
  clear hb hd120 hd121
  refine cj4 (TQ.st (M.out.1)) fun st_x_112 st_x_113 st_x_114 st_x_115 => ?_
  refine cj4 (TQ.st (M.out.2.1)) fun st_x_116 st_x_117 st_x_118 st_x_119 => ?_
  go_upto_region 7 with fail
  clear st_x_112 st_x_113 st_x_114 st_x_115 st_x_116 st_x_117 st_x_118 st_x_119
  refine nmW (w13.alloc (.cells #[.string ({data := #[97]}), .int .i64 3, x_112, x_113, x_114, x_115, x_116, x_117, x_118, x_119] 37)) fun w14 hv => ?_
  rw [← hv]
  have ow1_ : w3.heap.size < w13.heap.size := ((M.out.2.2.2.2.2.2.1)).lt
  replace M := alM hv M
  clear hv
  go_wp2_with fail
  refine (reAt_none (G := G) (key := ({data := #[97]})) (nt := 2) (l := ll49) (Nat.le_trans hG (M.out.2.2.2.2.2.2.2.2.2.2.2.2.2.2).size) (by rw [Ell49.out]; exact RdL.of (OwB.new (α := SC) (M.out.2.2.2.2.2.2.2.1) rfl hG (show w.heap.size ≤ _ by omega) (oks_cons (M.out.2.2.2.2.2.2.2.2.2.2.2.2.1) (M.out.2.2.2.2.2.2.2.2.2.2.2.2.2.1) (oks_cons (M.out.2.2.2.2.2.2.2.2.2.2.1) (M.out.2.2.2.2.2.2.2.2.2.2.2.1) (oks_cons (M.out.2.2.2.2.2.2.2.2.1) (M.out.2.2.2.2.2.2.2.2.2.1) (fun y_ hy_ => by simp at hy_))))).rd rfl (by omega)) (by rw [(show List.map SC.sh ll49 = exS from by rw [Ell49.out]; show [(⟨_, _, _, _⟩ : Sh), ⟨_, _, _, _⟩, ⟨_, _, _, _⟩] = _; rw [Eq9.out, Eq10.out, Eq21.out, Eq22.out, Eq33.out, Eq34.out]; rfl)]; exact exOk) (FzS.fzl (exFz.mono (by omega)) (show List.map SC.sh ll49 = exS from by rw [Ell49.out]; show [(⟨_, _, _, _⟩ : Sh), ⟨_, _, _, _⟩, ⟨_, _, _, _⟩] = _; rw [Eq9.out, Eq10.out, Eq21.out, Eq22.out, Eq33.out, Eq34.out]; rfl)) (by rw [(show List.map SC.sh ll49 = exS from by rw [Ell49.out]; show [(⟨_, _, _, _⟩ : Sh), ⟨_, _, _, _⟩, ⟨_, _, _, _⟩] = _; rw [Eq9.out, Eq10.out, Eq21.out, Eq22.out, Eq33.out, Eq34.out]; rfl)]; exact ex_at2)).mono ?_
  rintro e w15 ⟨rfl, hb⟩
  replace M := gnM hb M
  clear hb
  go_upto_region 8 with fail
  refine nmW (w15.alloc (.cells #[.string (⟨#[]⟩), .int .i64 0, .int .i64 0, .slice none 0 0, .int .i64 0, .slice none 0 0, .int .i64 0, .slice none 0 0, .int .i64 0, .slice none 0 0] 37)) fun w16 hv => ?_
  rw [← hv]
  have ow2_ : w13.heap.size < w15.heap.size := ((M.out.1)).lt
  replace M := alM hv M
  clear hv
  go_wp2_with fail
  refine nmW (α := Rat) ((1 : Int) : Rat) fun yq_122 h_ => ?_
  have Eyq_122 := Lib.hid h_; clear h_
  refine nmW (α := Rat) ((1 : Int) : Rat) fun yr_123 h_ => ?_
  have Eyr_123 := Lib.hid h_; clear h_
  refine (reAt_some (G := G) (key := ({data := #[98]})) (yk := ({data := #[98]})) (nt := 9) (yn := 3) (yq := yq_122) (yr := yr_123) (l := ll49) (Nat.le_trans hG (M.out.2.2.2.2.2.2.2.2.2.2.2.2.2.2.2).size) (by rw [Ell49.out]; exact RdL.of (OwB.new (α := SC) (M.out.2.2.2.2.2.2.2.2.1) rfl hG (show w.heap.size ≤ _ by omega) (oks_cons (M.out.2.2.2.2.2.2.2.2.2.2.2.2.2.1) (M.out.2.2.2.2.2.2.2.2.2.2.2.2.2.2.1) (oks_cons (M.out.2.2.2.2.2.2.2.2.2.2.2.1) (M.out.2.2.2.2.2.2.2.2.2.2.2.2.1) (oks_cons (M.out.2.2.2.2.2.2.2.2.2.1) (M.out.2.2.2.2.2.2.2.2.2.2.1) (fun y_ hy_ => by simp at hy_))))).rd rfl (by omega)) (by rw [(show List.map SC.sh ll49 = exS from by rw [Ell49.out]; show [(⟨_, _, _, _⟩ : Sh), ⟨_, _, _, _⟩, ⟨_, _, _, _⟩] = _; rw [Eq9.out, Eq10.out, Eq21.out, Eq22.out, Eq33.out, Eq34.out]; rfl)]; exact exOk) (FzS.fzl (exFz.mono (by omega)) (show List.map SC.sh ll49 = exS from by rw [Ell49.out]; show [(⟨_, _, _, _⟩ : Sh), ⟨_, _, _, _⟩, ⟨_, _, _, _⟩] = _; rw [Eq9.out, Eq10.out, Eq21.out, Eq22.out, Eq33.out, Eq34.out]; rfl)) (by rw [(show List.map SC.sh ll49 = exS from by rw [Ell49.out]; show [(⟨_, _, _, _⟩ : Sh), ⟨_, _, _, _⟩, ⟨_, _, _, _⟩] = _; rw [Eq9.out, Eq10.out, Eq21.out, Eq22.out, Eq33.out, Eq34.out]; rfl), Eyq_122.out, Eyr_123.out]; exact ex_at3)).mono ?_
  rintro e w17 ⟨x_124, x_125, x_126, x_127, x_128, x_129, x_130, x_131, rfl, hd132, hd133, hb⟩
  replace M := ad2M hd132 hd133 hb M
  clear hb hd132 hd133
  refine cj4 (TQ.st (M.out.1)) fun st_x_124 st_x_125 st_x_126 st_x_127 => ?_
  refine cj4 (TQ.st (M.out.2.1)) fun st_x_128 st_x_129 st_x_130 st_x_131 => ?_
  go_upto_region 9 with fail
  clear st_x_124 st_x_125 st_x_126 st_x_127 st_x_128 st_x_129 st_x_130 st_x_131
  refine nmW (w17.alloc (.cells #[.string ({data := #[98]}), .int .i64 3, x_124, x_125, x_126, x_127, x_128, x_129, x_130, x_131] 37)) fun w18 hv => ?_
  rw [← hv]
  have ow3_ : w15.heap.size < w17.heap.size := ((M.out.2.2.1)).lt
  replace M := alM hv M
  clear hv
  go_wp2_with fail
  refine (reDeltas_c (G := G) (key := ({data := #[97]})) (l := ll49) (Nat.le_trans hG (M.out.2.2.2.2.2.2.2.2.2.2.2.2.2.2.2.2.2.2).size) (by rw [Ell49.out]; exact RdL.of (OwB.new (α := SC) (M.out.2.2.2.2.2.2.2.2.2.2.2.1) rfl hG (show w.heap.size ≤ _ by omega) (oks_cons (M.out.2.2.2.2.2.2.2.2.2.2.2.2.2.2.2.2.1) (M.out.2.2.2.2.2.2.2.2.2.2.2.2.2.2.2.2.2.1) (oks_cons (M.out.2.2.2.2.2.2.2.2.2.2.2.2.2.2.1) (M.out.2.2.2.2.2.2.2.2.2.2.2.2.2.2.2.1) (oks_cons (M.out.2.2.2.2.2.2.2.2.2.2.2.2.1) (M.out.2.2.2.2.2.2.2.2.2.2.2.2.2.1) (fun y_ hy_ => by simp at hy_))))).rd rfl (by omega)) (by rw [(show List.map SC.sh ll49 = exS from by rw [Ell49.out]; show [(⟨_, _, _, _⟩ : Sh), ⟨_, _, _, _⟩, ⟨_, _, _, _⟩] = _; rw [Eq9.out, Eq10.out, Eq21.out, Eq22.out, Eq33.out, Eq34.out]; rfl)]; exact exOk) (FzS.fzl (exFz.mono (by omega)) (show List.map SC.sh ll49 = exS from by rw [Ell49.out]; show [(⟨_, _, _, _⟩ : Sh), ⟨_, _, _, _⟩, ⟨_, _, _, _⟩] = _; rw [Eq9.out, Eq10.out, Eq21.out, Eq22.out, Eq33.out, Eq34.out]; rfl))).mono ?_
  rintro e w19 ⟨a_134, n_135, c_136, l_137, a_138, n_139, c_140, l_141, rfl, hd142, hd143, hu144, hu145, hb⟩
  replace M := ad2M hd142 hd143 hb M
  clear hb hd142 hd143
  replace hu144 := Lib.hid hu144
  replace hu145 := Lib.hid hu145
  have Hl_137 : Hid (l_137.map QC.q = [((1 : Int) : Rat)]) := by show _ = _; rw [hu144.out, (show List.map SC.sh ll49 = exS from by rw [Ell49.out]; show [(⟨_, _, _, _⟩ : Sh), ⟨_, _, _, _⟩, ⟨_, _, _, _⟩] = _; rw [Eq9.out, Eq10.out, Eq21.out, Eq22.out, Eq33.out, Eq34.out]; rfl)]; exact ex_lo
  obtain rfl : n_135 = 1 := by have h_ := congrArg List.length Hl_137.out; rw [List.length_map, ((M.out.1)).len] at h_; exact h_
  have Hl_141 : Hid (l_141.map QC.q = [((0 : Int) : Rat)]) := by show _ = _; rw [hu145.out, (show List.map SC.sh ll49 = exS from by rw [Ell49.out]; show [(⟨_, _, _, _⟩ : Sh), ⟨_, _, _, _⟩, ⟨_, _, _, _⟩] = _; rw [Eq9.out, Eq10.out, Eq21.out, Eq22.out, Eq33.out, Eq34.out]; rfl)]; exact ex_hi
  obtain rfl : n_139 = 1 := by have h_ := congrArg List.length Hl_141.out; rw [List.length_map, ((M.out.2.1)).len] at h_; exact h_
  go_wp2_with fail
  refine (reSame (G := G) (l := l_53) (m := ll49) (b_ := true) (M.out.2.2.2.2.2.2.2.2.2.2.2.2.1) (by rw [Ell49.out]; exact RdL.of (OwB.new (α := SC) (M.out.2.2.2.2.2.2.2.2.2.2.2.2.2.1) rfl hG (show w.heap.size ≤ _ by omega) (oks_cons (M.out.2.2.2.2.2.2.2.2.2.2.2.2.2.2.2.2.2.2.1) (M.out.2.2.2.2.2.2.2.2.2.2.2.2.2.2.2.2.2.2.2.1) (oks_cons (M.out.2.2.2.2.2.2.2.2.2.2.2.2.2.2.2.2.1) (M.out.2.2.2.2.2.2.2.2.2.2.2.2.2.2.2.2.2.1) (oks_cons (M.out.2.2.2.2.2.2.2.2.2.2.2.2.2.2.1) (M.out.2.2.2.2.2.2.2.2.2.2.2.2.2.2.2.1) (fun y_ hy_ => by simp at hy_))))).rd rfl (by omega)) (by decide) (by decide) (FzS.fzl (exFz.mono (by omega)) hu55.out) (FzS.fzl (exFz.mono (by omega)) (show List.map SC.sh ll49 = exS from by rw [Ell49.out]; show [(⟨_, _, _, _⟩ : Sh), ⟨_, _, _, _⟩, ⟨_, _, _, _⟩] = _; rw [Eq9.out, Eq10.out, Eq21.out, Eq22.out, Eq33.out, Eq34.out]; rfl)) (decide_eq_true (by rw [hu55.out, (show List.map SC.sh ll49 = exS from by rw [Ell49.out]; show [(⟨_, _, _, _⟩ : Sh), ⟨_, _, _, _⟩, ⟨_, _, _, _⟩] = _; rw [Eq9.out, Eq10.out, Eq21.out, Eq22.out, Eq33.out, Eq34.out]; rfl)]))).mono ?_
  rintro e w20 ⟨rfl, hb⟩
  replace M := gnM hb M
  clear hb
  go_wp2_with fail
  refine (reRight_c (G := G) (l := ll49) (Nat.le_trans hG (M.out.2.2.2.2.2.2.2.2.2.2.2.2.2.2.2.2.2.2.2.2).size) (by rw [Ell49.out]; exact RdL.of (OwB.new (α := SC) (M.out.2.2.2.2.2.2.2.2.2.2.2.2.2.1) rfl hG (show w.heap.size ≤ _ by omega) (oks_cons (M.out.2.2.2.2.2.2.2.2.2.2.2.2.2.2.2.2.2.2.1) (M.out.2.2.2.2.2.2.2.2.2.2.2.2.2.2.2.2.2.2.2.1) (oks_cons (M.out.2.2.2.2.2.2.2.2.2.2.2.2.2.2.2.2.1) (M.out.2.2.2.2.2.2.2.2.2.2.2.2.2.2.2.2.2.1) (oks_cons (M.out.2.2.2.2.2.2.2.2.2.2.2.2.2.2.1) (M.out.2.2.2.2.2.2.2.2.2.2.2.2.2.2.2.1) (fun y_ hy_ => by simp at hy_))))).rd rfl (by omega)) (by rw [(show List.map SC.sh ll49 = exS from by rw [Ell49.out]; show [(⟨_, _, _, _⟩ : Sh), ⟨_, _, _, _⟩, ⟨_, _, _, _⟩] = _; rw [Eq9.out, Eq10.out, Eq21.out, Eq22.out, Eq33.out, Eq34.out]; rfl)]; exact exOk) (FzS.fzl (exFz.mono (by omega)) (show List.map SC.sh ll49 = exS from by rw [Ell49.out]; show [(⟨_, _, _, _⟩ : Sh), ⟨_, _, _, _⟩, ⟨_, _, _, _⟩] = _; rw [Eq9.out, Eq10.out, Eq21.out, Eq22.out, Eq33.out, Eq34.out]; rfl))).mono ?_
  rintro e w21 ⟨rfl, hb⟩
  replace M := gnM hb M
  clear hb
  go_wp2_with fail
  replace M := Lib.hid (And.intro (M.out.1) (And.intro (M.out.2.1) (And.intro (M.out.2.2.1) (And.intro (M.out.2.2.2.1) (And.intro (M.out.2.2.2.2.1) (And.intro (M.out.2.2.2.2.2.2.1) (And.intro (M.out.2.2.2.2.2.2.2.1) (And.intro (M.out.2.2.2.2.2.2.2.2.1) (And.intro (M.out.2.2.2.2.2.2.2.2.2.1) (And.intro (M.out.2.2.2.2.2.2.2.2.2.2.1) (And.intro (M.out.2.2.2.2.2.2.2.2.2.2.2.1) (And.intro (M.out.2.2.2.2.2.2.2.2.2.2.2.2.1) (M.out.2.2.2.2.2.2.2.2.2.2.2.2.2.2.2.2.2.2.2.2)))))))))))))
  refine nmW w21.drew fun w22 hv => ?_
  replace M := drM hv M
  refine wp_region_held_drew (S := (fun w' => w'.cell? ⟨w13.heap.size, 0, none⟩ = some (.string ({data := #[97]})) ∧ w'.cell? ⟨w13.heap.size, 1, none⟩ = some (.int .i64 3) ∧ w'.cell? ⟨w13.heap.size, 2, none⟩ = some (x_112) ∧ w'.cell? ⟨w13.heap.size, 3, none⟩ = some (x_113) ∧ w'.cell? ⟨w13.heap.size, 4, none⟩ = some (x_114) ∧ w'.cell? ⟨w13.heap.size, 5, none⟩ = some (x_115) ∧ w'.cell? ⟨w13.heap.size, 6, none⟩ = some (x_116) ∧ w'.cell? ⟨w13.heap.size, 7, none⟩ = some (x_117) ∧ w'.cell? ⟨w13.heap.size, 8, none⟩ = some (x_118) ∧ w'.cell? ⟨w13.heap.size, 9, none⟩ = some (x_119) ∧ w'.cell? ⟨w17.heap.size, 0, none⟩ = some (.string ({data := #[98]})) ∧ w'.cell? ⟨w17.heap.size, 1, none⟩ = some (.int .i64 3) ∧ w'.cell? ⟨w17.heap.size, 2, none⟩ = some (x_124) ∧ w'.cell? ⟨w17.heap.size, 3, none⟩ = some (x_125) ∧ w'.cell? ⟨w17.heap.size, 4, none⟩ = some (x_126) ∧ w'.cell? ⟨w17.heap.size, 5, none⟩ = some (x_127) ∧ w'.cell? ⟨w17.heap.size, 6, none⟩ = some (x_128) ∧ w'.cell? ⟨w17.heap.size, 7, none⟩ = some (x_129) ∧ w'.cell? ⟨w17.heap.size, 8, none⟩ = some (x_130) ∧ w'.cell? ⟨w17.heap.size, 9, none⟩ = some (x_131))) (by kernel_rfl) (by rw [← hv]; exact ((M.out.2.2.2.2.2.1).t10 ((M.out.2.2.1).d10))) (fun hH170 => ?_)
  rw [← hv] at hH170 ⊢
  clear hv
  refine tk at0 ?_
  refine tk at1 ?_
  refine tk at2 ?_
  refine tk at3 ?_
  refine tk at4 ?_
  refine tk at5 ?_
  refine tk at6 ?_
  refine tk at7 ?_
  refine tk at8 ?_
  refine tk at9 ?_
  refine tk at10 ?_
  refine wpAnyH_ready (rs := [11]) (by kernel_rfl) (by simp) ?_
  refine AllReadyH.cons at11 (fun K hK => ?_) AllReadyH.nil
  go_simp
  refine nmW (α := Rat) ((10 : Int) : Rat) fun q179 eq179 => ?_
  refine nmW (α := Rat) ((12 : Int) : Rat) fun q180 eq180 => ?_
  refine (reOf (G := G) (x := 10) (y := 12) (Nat.le_trans hG (M.out.2.2.2.2.2.2.2.2.2.2.2.2).size) (by decide) (by decide)).mono ?_
  rintro e w23 ⟨x_171, x_172, x_173, x_174, x_175, x_176, x_177, x_178, rfl, hd181, hd182, hb⟩
  rw [← eq179] at hd181
  have Sq179 : Hid (Fz q179 4) := by show Fz q179 4; rw [eq179]; exact (Fz.int64 (by omega))
  have Eq179 := Lib.hid eq179; clear eq179
  rw [← eq180] at hd182
  have Sq180 : Hid (Fz q180 4) := by show Fz q180 4; rw [eq180]; exact (Fz.int64 (by omega))
  have Eq180 := Lib.hid eq180; clear eq180
  replace M := ad2M hd181 hd182 hb M
  clear hb hd181 hd182
  (try go_wp2_with fail)
  refine hK.out _ _ (((M.out.2.2.2.2.2.2.2.1).t10 ((M.out.2.2.2.2.1).d10))) (fun hH183 => ?_)
  clear hK K hH170
  (try simp only [Act.put, List.setIfInBounds_toArray, List.set_cons_zero, List.set_cons_succ])
  refine wpAnyH_ready (rs := [12]) (by kernel_rfl) (by simp) ?_
  refine AllReadyH.cons at12 (fun K hK => ?_) AllReadyH.nil
  go_simp
  refine (reSameSpan_b (G := G) (p := yq_110) (q := yr_111) (r := q179) (s := q180) (b_ := true) (M.out.2.2.2.2.2.2.2.2.1) (M.out.2.2.2.2.2.2.2.2.2.1) (M.out.1) (M.out.2.1) (Fz.mono (fz4 Eyq_110.out (by omega)) (by omega)) (Fz.mono (fz4 Eyr_111.out (by omega)) (by omega)) (Fz.mono Sq179.out (by omega)) (Fz.mono Sq180.out (by omega)) (eq_both (by rw [Eyq_110.out, Eq179.out, Eyr_111.out, Eq180.out]; exact ⟨rfl, rfl⟩))).mono ?_
  rintro e w24 ⟨rfl, hb⟩
  replace M := gnM hb M
  clear hb
  (try go_wp2_with fail)
  refine hK.out _ _ (((M.out.2.2.2.2.2.2.2.1).t10 ((M.out.2.2.2.2.1).d10))) (fun hH184 => ?_)
  clear hK K hH183
  (try simp only [Act.put, List.setIfInBounds_toArray, List.set_cons_zero, List.set_cons_succ])
  refine tk at13 ?_
  refine tk at14 ?_
  refine tk at15 ?_
  refine tk at16 ?_
  refine wpAnyH_ready (rs := [17]) (by kernel_rfl) (by simp) ?_
  refine AllReadyH.cons at17 (fun K hK => ?_) AllReadyH.nil
  go_simp
  refine nmW (α := Rat) ((1 : Int) : Rat) fun q193 eq193 => ?_
  refine nmW (α := Rat) ((1 : Int) : Rat) fun q194 eq194 => ?_
  refine (reOf (G := G) (x := 1) (y := 1) (Nat.le_trans hG (M.out.2.2.2.2.2.2.2.2.2.2.2.2.2.2).size) (by decide) (by decide)).mono ?_
  rintro e w25 ⟨x_185, x_186, x_187, x_188, x_189, x_190, x_191, x_192, rfl, hd195, hd196, hb⟩
  rw [← eq193] at hd195
  have Sq193 : Hid (Fz q193 4) := by show Fz q193 4; rw [eq193]; exact (Fz.int64 (by omega))
  have Eq193 := Lib.hid eq193; clear eq193
  rw [← eq194] at hd196
  have Sq194 : Hid (Fz q194 4) := by show Fz q194 4; rw [eq194]; exact (Fz.int64 (by omega))
  have Eq194 := Lib.hid eq194; clear eq194
  replace M := ad2M hd195 hd196 hb M
  clear hb hd195 hd196
  (try go_wp2_with fail)
  refine hK.out _ _ (((M.out.2.2.2.2.2.2.2.2.2.1).t10 ((M.out.2.2.2.2.2.2.1).d10))) (fun hH197 => ?_)
  clear hK K hH184
  (try simp only [Act.put, List.setIfInBounds_toArray, List.set_cons_zero, List.set_cons_succ])
  refine wpAnyH_ready (rs := [18]) (by kernel_rfl) (by simp) ?_
  refine AllReadyH.cons at18 (fun K hK => ?_) AllReadyH.nil
  go_simp
  refine (reSameSpan_b (G := G) (p := yq_122) (q := yr_123) (r := q193) (s := q194) (b_ := true) (M.out.2.2.2.2.2.2.2.1) (M.out.2.2.2.2.2.2.2.2.1) (M.out.1) (M.out.2.1) (Fz.mono (fz4 Eyq_122.out (by omega)) (by omega)) (Fz.mono (fz4 Eyr_123.out (by omega)) (by omega)) (Fz.mono Sq193.out (by omega)) (Fz.mono Sq194.out (by omega)) (eq_both (by rw [Eyq_122.out, Eq193.out, Eyr_123.out, Eq194.out]; exact ⟨rfl, rfl⟩))).mono ?_
  rintro e w26 ⟨rfl, hb⟩
  replace M := gnM hb M
  clear hb
  (try go_wp2_with fail)
  refine hK.out _ _ (((M.out.2.2.2.2.2.2.2.2.2.1).t10 ((M.out.2.2.2.2.2.2.1).d10))) (fun hH198 => ?_)
  clear hK K hH197
  (try simp only [Act.put, List.setIfInBounds_toArray, List.set_cons_zero, List.set_cons_succ])
  refine tk at19 ?_
  refine tk at20 ?_
  refine wpAnyH_done (by kernel_rfl) ?_ _
  clear hH198
  go_wp2_with fail
  replace M := Lib.hid (And.intro (M.out.2.2.2.2.1) (And.intro (M.out.2.2.2.2.2.1) (And.intro (M.out.2.2.2.2.2.2.2.2.2.2.2.2.1) (And.intro (M.out.2.2.2.2.2.2.2.2.2.2.2.2.2.1) (And.intro (M.out.2.2.2.2.2.2.2.2.2.2.2.2.2.2.1) (And.intro (M.out.2.2.2.2.2.2.2.2.2.2.2.2.2.2.2.1) (M.out.2.2.2.2.2.2.2.2.2.2.2.2.2.2.2.2)))))))
  refine nmW (α := Rat) ((1 : Int) : Rat) fun q203 eq203 => ?_
  refine (fqInt (G := G) (x := 1) (by decide)).mono ?_
  rintro e w27 ⟨x_199, x_200, x_201, x_202, rfl, hd204, hb⟩
  rw [← eq203] at hd204
  have Sq203 : Hid (Fz q203 4) := by show Fz q203 4; rw [eq203]; exact (Fz.int64 (by omega))
  have Eq203 := Lib.hid eq203; clear eq203
  replace M := adM hd204 hb M
  clear hb hd204
  go_wp2_with fail
  refine nmW (w27.alloc (.cells #[x_199, x_200, x_201, x_202] 27)) fun w28 hv => ?_
  rw [← hv]
  have ow4_ : w.heap.size ≤ w27.heap.size := ((M.out.2.2.2.2.2.2.2)).size
  replace M := alM hv M
  clear hv
  obtain ⟨ll205, h_⟩ : ∃ l_ : List QC, l_ = [⟨x_199, x_200, x_201, x_202, q203⟩] := ⟨_, rfl⟩
  have Ell205 := Lib.hid h_; clear h_
  refine (reSamePt (G := G) (l := l_137) (m := ll205) (b_ := true) (M.out.2.2.1) (by rw [Ell205.out]; exact RdL.of (OwB.new (α := QC) (M.out.1) rfl hG (show w.heap.size ≤ _ by omega) (okq_cons (M.out.2.1) (fun y_ hy_ => by simp at hy_))).rd rfl (by omega)) (by decide) (by decide) (FzQ.of_map Hl_137.out (fun q_ hq_ => by rw [List.mem_singleton.1 hq_]; exact (Fz.int64 (by omega)).mono (by omega))) (by rw [Ell205.out]; exact fun y_ hy_ => by simp at hy_; subst hy_; exact (fz4 Eq203.out (by omega)).mono (by omega)) (decide_eq_true (by rw [Hl_137.out, Ell205.out]; show _ = [q203]; rw [Eq203.out]))).mono ?_
  rintro e w29 ⟨rfl, hb⟩
  replace M := gnM hb M
  clear hb
  go_wp2_with fail
  refine nmW (α := Rat) ((0 : Int) : Rat) fun q210 eq210 => ?_
  refine (fqInt (G := G) (x := 0) (by decide)).mono ?_
  rintro e w30 ⟨x_206, x_207, x_208, x_209, rfl, hd211, hb⟩
  rw [← eq210] at hd211
  have Sq210 : Hid (Fz q210 4) := by show Fz q210 4; rw [eq210]; exact (Fz.int64 (by omega))
  have Eq210 := Lib.hid eq210; clear eq210
  replace M := adM hd211 hb M
  clear hb hd211
  go_wp2_with fail
  refine nmW (w30.alloc (.cells #[x_206, x_207, x_208, x_209] 27)) fun w31 hv => ?_
  rw [← hv]
  have ow5_ : w27.heap.size < w30.heap.size := ((M.out.2.1)).lt
  replace M := alM hv M
  clear hv
  obtain ⟨ll212, h_⟩ : ∃ l_ : List QC, l_ = [⟨x_206, x_207, x_208, x_209, q210⟩] := ⟨_, rfl⟩
  have Ell212 := Lib.hid h_; clear h_
  refine (reSamePt (G := G) (l := l_141) (m := ll212) (b_ := true) (M.out.2.2.2.2.2.1) (by rw [Ell212.out]; exact RdL.of (OwB.new (α := QC) (M.out.1) rfl hG (show w.heap.size ≤ _ by omega) (okq_cons (M.out.2.1) (fun y_ hy_ => by simp at hy_))).rd rfl (by omega)) (by decide) (by decide) (FzQ.of_map Hl_141.out (fun q_ hq_ => by rw [List.mem_singleton.1 hq_]; exact (Fz.int64 (by omega)).mono (by omega))) (by rw [Ell212.out]; exact fun y_ hy_ => by simp at hy_; subst hy_; exact (fz4 Eq210.out (by omega)).mono (by omega)) (decide_eq_true (by rw [Hl_141.out, Ell212.out]; show _ = [q210]; rw [Eq210.out]))).mono ?_
  rintro e w32 ⟨rfl, hb⟩
  replace M := gnM hb M
  clear hb
  go_wp2_with fail
  go_ret
  exact ⟨rfl, (M.out.2.2.2.2.2.2.2.2.2.2)⟩
end Go.Proofs.Ytlpcblhkddmlnaa
namespace Go.Proofs.Ytlpcblhkddmlnaa
open Go.RowKit Go.Lib
variable {G : Nat}

def okX (key : ByteArray) (note : Int) (o1 o2 : Option Rat) : Bool := keyOk key && (decide (0 ≤ note) && (decide (note ≤ 1099511627776) && rightX o1 o2))
/-- A figure that Show refuses. -/
def BadX (l : List Sh) (key : ByteArray) (note : Int) (o1 o2 : Option Rat) : Prop := okX key note o1 o2 = false ∨ ∃ q r, o1 = some q ∧ o2 = some r ∧ okSh keyOk ⟨key, note, q, r⟩ ∧ (showR l ⟨key, note, q, r⟩).1 ≠ 0
theorem x_ways (l : List Sh) (key : ByteArray) (note : Int) (o1 o2 : Option Rat) : BadX l key note o1 o2 ∨ ∃ q r rs, o1 = some q ∧ o2 = some r ∧ okSh keyOk ⟨key, note, q, r⟩ ∧ showR l ⟨key, note, q, r⟩ = (0, rs) := by
  cases h : okX key note o1 o2 with
  | false => exact .inl (.inl h)
  | true =>
    simp only [okX, Bool.and_eq_true, decide_eq_true_eq] at h
    obtain ⟨h1, h2, h3, h4⟩ := h
    obtain ⟨q, r, e1, e2, h5⟩ := right_some h4
    by_cases h6 : (showR l ⟨key, note, q, r⟩).1 = 0
    · exact .inr ⟨q, r, (showR l ⟨key, note, q, r⟩).2, e1, e2, ⟨h1, h2, h3, h5⟩, by rw [← h6]⟩
    · exact .inl (.inr ⟨q, r, e1, e2, ⟨h1, h2, h3, h5⟩, h6⟩)
theorem showR_err {l : List Sh} {x : Sh} (h : (showR l x).1 ≠ 0) : (showR l x).2 = [] := by
  unfold showR at h ⊢
  split
  · rfl
  · rename_i h0
    rw [if_neg h0] at h
    split
    · rename_i y hy
      rw [hy] at h
      dsimp only at h
      split
      · rename_i h1; rw [if_pos h1] at h; exact absurd rfl h
      · rename_i h1
        rw [if_neg h1] at h
        split
        · rfl
        · rename_i h2
          rw [if_neg h2] at h
          split
          · rfl
          · rename_i h3; rw [if_neg h3] at h; exact absurd rfl h
    · rename_i hy
      rw [hy] at h
      dsimp only at h
      split
      · rfl
      · rename_i h3; rw [if_neg h3] at h; exact absurd rfl h
theorem show_fz {l rs : List Sh} {x : Sh} {N : Nat} (h : rs = l ∨ rs = l ++ [x]) (hl : FzS l N) (h1 : Fz x.lo N) (h2 : Fz x.hi N) : FzS rs N := by
  rcases h with rfl | rfl
  · exact hl
  · intro y hy
    rcases List.mem_append.1 hy with hy | hy
    · exact hl y hy
    · simp at hy; subst hy; exact ⟨h1, h2⟩
theorem fx_q {w : World} {u0 u1 u2 u3 : Value} {n m : Nat} {o : Option Rat} (h : FX w u0 u1 u2 u3 n m o) (hf : n ≤ 3 ∧ m ≤ 3) : ∀ q, o = some q → FQ w.heap.size w u0 u1 u2 u3 q ∧ Fz q 3 := by
 rintro q rfl
 exact ⟨h.fq, h.fz hf.1 hf.2⟩
theorem fx_few {n m k j : Nat} (h : (decide (n ≤ 3) && decide (m ≤ 3) && (decide (k ≤ 3) && decide (j ≤ 3))) = true) : (n ≤ 3 ∧ m ≤ 3) ∧ (k ≤ 3 ∧ j ≤ 3) := by
 simpa only [Bool.and_eq_true, decide_eq_true_eq] using h
theorem few_of {n m : Nat} (h : n ≤ 3 ∧ m ≤ 3) : fewF n m = true := by simp only [fewF, Bool.and_eq_true, decide_eq_true_eq]; omega
theorem all_len {l l2 : List SC} {key : ByteArray} (h : l2.map SC.sh = allF (l.map SC.sh) key) : l2.length ≤ l.length := by
 have h1 := congrArg List.length h
 have h2 : (allF (l.map SC.sh) key).length ≤ (l.map SC.sh).length := List.length_filter_le _ _
 rw [List.length_map] at h1 h2; omega
theorem reFew30 {l : List SR} {a : Option Addr} {n c : Nat} {b_ : Bool} {w : World} (h : RdR G w a n c l) (hn : n ≤ 9223372036854775807) (hb_ : fewL 30 l = b_) :
  Calls Try.prog 8 #[.slice a n c, .int .i64 30] w fun e w' => e = .returned (.bool b_) ∧ Below w.heap.size w w' := reFew (m := 30) h hn (by omega) hb_
end Go.Proofs.Ytlpcblhkddmlnaa
