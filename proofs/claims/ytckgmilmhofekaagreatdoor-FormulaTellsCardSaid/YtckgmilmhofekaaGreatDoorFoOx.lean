/- Slices of expressions that a call of its own appends to, with blocks that are written apart. -/
import Derived.Test.YtckgmilmhofekaaGreatDoorLexLaws
import Derived.Test.YtckgmilmhofekaaGreatDoorFoBack
import Derived.Test.YtckgmilmhofekaaGreatDoorBase
import Derived.Test.YtckgmilmhofekaaGreatDoorLexPrint
import Derived.Test.YtckgmilmhofekaaGreatDoorBigSpec
import Derived.Test.YtckgmilmhofekaaGreatDoorBigD
import Derived.Test.YtckgmilmhofekaaGreatDoorBigQ
import Derived.Test.YtckgmilmhofekaaGreatDoorFd
import Derived.Test.YtckgmilmhofekaaGreatDoorOwn
import Derived.Test.YtckgmilmhofekaaGreatDoorFoWd
import Derived.Test.YtckgmilmhofekaaGreatDoorProg
import Derived.Test.YtckgmilmhofekaaGreatDoorShelf
import Derived.WalkKit
import Derived.Lib.ItoaNum
import Derived.WalkSpells
import Derived.WalkLawsBesides
import Derived.Handy
import Derived.Lib.Hide
import Derived.Lib.Strings
import Derived.Lib.Builder
import Derived.Shelf.Strings.Builder1
import Derived.BigQuiet
import Derived.OwnWalk
import Derived.Laws.BitsLemmas
import Derived.WalkSmall
import Derived.Deep.QuietTactic
import Derived.StillTailTactics
import Derived.Maps.AppendAt
import Derived.IntWalk
import Derived.Deep.RegionHeld3
import Derived.Deep.DeepFit
import Derived.Deep.LoopGhost
import Derived.Deep.DeepCutAuto
import Derived.Lib.Repeat
import Derived.Lib.AppendIntMem
import Derived.Sort.OwnSorted
import Derived.Shelf.Strings.SlTrimAscii
import Derived.Lib.ConvBytes
import Derived.Lib.CutLaws
import Derived.ArgAppend
namespace Go.Proofs.YtckgmilmhofekaaGreatDoor
open Go.RowKit

/-- An expression with the place of its arguments. -/
structure Hd where
 x : Ex
 p : Option Addr
 c : Nat
def Hd.cells (h : Hd) : List Value := hdC h.x h.p h.c
def exL (l : List Hd) : List Ex := l.map Hd.x
theorem Hd.len (h : Hd) : h.cells.length = 5 := rfl
theorem Hd.one (h : Hd) : ∀ u ∈ h.cells, u.oneCell' = true := by
 intro u hu
 simp [Hd.cells, hdC] at hu
 rcases hu with rfl | rfl | rfl | rfl | rfl <;> rfl
theorem elemEx : ElemT Tryz.prog 22 24 (.agg #[.int .i64 0, .int .i64 0, .string ⟨#[]⟩, .string ⟨#[]⟩, .slice none 0 0]) 5 72 := ⟨Tryz.underlying22, by kernel_rfl, rfl, by decide⟩
/-- An append to an own slice stays in its block, or makes a new one. -/
theorem run_push_fresh {P : Program} {t e : TypeId} {z : Value} {size bytes B n : Nat} {v : Value} {xs : List Value} {w : World} (E : ElemT P t e z size bytes) (ty : TypeId) (hown : w.ownsRow B e size v n xs) (news : List Value) (ad : Addr) (c : Nat)
    (hl : news.length = size) (hc : ∀ (j : Nat) (u : Value), news[j]? = some u → w.cell? (ad.add j) = some u) (h1 : ∀ u ∈ news, u.oneCell' = true) (hbytes : (n + 1) * bytes ≤ 140737488355328) (h63 : n + 1 ≤ 140737488355328) (hB : B ≤ w.heap.size) :
    ∃ v' w', (Builtin.append_ #[t, t] ty #[v, .slice (some ad) 1 c]).run P w = .ok v' w' ∧ w'.ownsRow B e size v' (n + 1) (xs ++ news) ∧ w.grownBy w' v.ownBlock ∧ (v'.ownBlock = v.ownBlock ∨ ∀ k, v'.ownBlock = some k → w.heap.size ≤ k) := by
  obtain ⟨i0, hi, hz0, hz1, hz2⟩ := info_parts E.info
  have hm : news.length = 1 * size := by omega
  obtain ⟨v', w', r1, r2, r3, -⟩ := run_append_own (P := P) w B t ty e i0 z size bytes E.under hi hz0 hz1 hz2 E.cells E.pos v n xs hown ad 1 c news hm hc h1 (by unfold maxLen; omega) hbytes hB
  refine ⟨v', w', r1, r2, r3, ?_⟩
  rcases hown.2 with ⟨rfl, h0⟩ | ⟨g, cap, cur, rfl, hg, hh, hcap, hx, hs, rr⟩
  · subst h0
    obtain rfl : xs = [] := List.eq_nil_of_length_eq_zero (by have := hown.1; simpa using this)
    obtain ⟨v2, w2, s1, s2, -⟩ := run_append_own (P := P) w w.heap.size t ty e i0 z size bytes E.under hi hz0 hz1 hz2 E.cells E.pos (.slice none 0 0) 0 [] (World.ownsRow_nil w _ e size) ad 1 c news hm hc h1 (by unfold maxLen; omega) hbytes (Nat.le_refl _)
    rw [r1] at s1; cases s1
    exact .inr fun k hk => (s2.lt k hk).1
  · by_cases hr : n + 1 ≤ cap
    · left
      subst hz1
      have hcc : ∀ j, j < news.length → (w.cell? ⟨g, 0 + n * i0.size + j, none⟩).isSome = true := fun j hj => by
        rw [Lib.cell_of_heap hh, Nat.zero_add]
        have h3 : n * i0.size + j < cur.size := by
          rw [hs]
          have : (n + 1) * i0.size ≤ cap * i0.size := Nat.mul_le_mul_right _ hr
          rw [Nat.succ_mul] at this; omega
        rw [Array.getElem?_eq_getElem h3]; rfl
      have hff : ∀ j, j < news.length → w.frozen? ⟨g, 0 + n * i0.size + j, none⟩ = false := fun j _ => by simp [World.frozen?, hh]
      have h5 := run_append_room_cells (P := P) w t ty e i0 E.under hi g 0 n cap ad 1 c news hm hc h1 hr hcc hff
      rw [r1] at h5; cases h5; rfl
    · right
      obtain ⟨v2, w2, s1, s2, -⟩ := run_append_arg_grows (P := P) w t ty e i0 z size bytes E.under hi hz0 hz1 hz2 E.cells E.pos ⟨g, 0, none⟩ n cap xs hown.1 (fun j u hj => by
          have hlt : j < xs.length := (List.getElem?_eq_some_iff.1 hj).1
          rw [add_off, Nat.zero_add, hown.cellAt (j := j) (by rw [hown.1] at hlt; exact hlt)]; exact hj) ad 1 c news hm hc (by omega) (by unfold maxLen; omega) hbytes
      rw [r1] at s1; cases s1
      exact fun k hk => (s2.lt k hk).1
/-- A slice of the call's own, as append leaves it; what is below its elements lies elsewhere, from the block B on. -/
structure OwE (B : Nat) (w : World) (v : Value) (l : List Hd) : Prop where
 own : w.ownsRow B 24 5 v l.length (l.flatMap Hd.cells)
 deep : ∀ h ∈ l, FoS (fun b => B ≤ b ∧ some b ≠ v.ownBlock) w h.p h.c h.x.args
theorem OwE.nil {B : Nat} (w : World) : OwE B w (.slice none 0 0) [] := ⟨World.ownsRow_nil _ _ _ _, fun h hh => by cases hh⟩
theorem OwE.keep {B : Nat} {w w' : World} {v : Value} {l : List Hd} (h : OwE B w v l) (hb : Below w.heap.size w w') : OwE B w' v l := ⟨own_below h.own hb, fun x hx => (h.deep x hx).keep hb⟩
/-- A write to a block that was there ahead of B. -/
theorem OwE.grown {B g : Nat} {w w' : World} {v : Value} {l : List Hd} (h : OwE B w v l) (hb : w.grownBy w' (some g)) (hg : g < B) : OwE B w' v l := by
 refine ⟨h.own.kept hb ?_, fun x hx => (h.deep x hx).grown hb (fun hd => by omega)⟩
 cases hv : v.ownBlock with
 | none => exact .inl rfl
 | some k =>
  refine .inr ?_
  have := (h.own.lt k hv).1
  simp; omega
theorem own_low {w : World} {B n : Nat} {e : TypeId} {size : Nat} {v : Value} {xs : List Value} (h : w.ownsRow B e size v n xs) {b : Nat} (hb : w.heap.size ≤ b) : some b ≠ v.ownBlock := by
 intro hh; have := (h.lt b hh.symm).2; omega
/-- append of one expression, whose own memory lies elsewhere. -/
theorem wpList_pushE {P : Program} {ops : Array Oper} {rest : List Oper} {o : Oper} {a : Act} {Q : Exit → Act → World → Prop} (hgd : o.guard = none) (s x : Operand)
    {t : TypeId} {z : Value} {bytes : Nat} (E : ElemT P t 24 z 5 bytes)
    (ho : o.op = .call { callee := .builtin .append, args := #[s, x], argTypes := #[t, t] }) {wx : World} (wr : World) {B n : Nat} {v : Value} {l : List Hd} (h : OwE B wr v l) (hl : l.length = n) (d : Hd) (hd : FoS (fun b => B ≤ b ∧ some b ≠ v.ownBlock) wr d.p d.c d.x.args) (hs : a.eval s = v)
    (hwx : wx = wr.alloc (.cells d.cells.toArray 24)) {b : Nat} (hx : a.eval x = .slice (some ⟨b, 0, .none⟩) 1 1) (hbn : b = wr.heap.size)
    (hbytes : (n + 1) * bytes ≤ 140737488355328) (h63 : n + 1 ≤ 140737488355328) (hB : B ≤ wr.heap.size)
    (hK : ∀ v' w', OwE B w' v' (l ++ [d]) → Below B wr w' → wpList P ops Q rest (a.put o.dst v') w') : wpList P ops Q (o :: rest) a wx := by
  subst hl hwx hbn
  obtain ⟨v', w', hrun, r2, r3, r4⟩ := run_push_fresh (P := P) (w := wr.alloc (.cells d.cells.toArray 24)) E o.type (h.own.alloc _) d.cells ⟨wr.heap.size, 0, none⟩ 1 rfl (fun j u hj => by
      rw [add_off, Nat.zero_add, Lib.cell_of_heap (show (wr.heap.push _)[wr.heap.size]? = some (.cells d.cells.toArray 24 (0, 0)) by simp)]; simpa using hj) d.one hbytes h63 (by simp; omega)
  refine wpList_plain hgd fun K hK' => ?_
  unfold Oper.wp
  simp [execOp, ho, resolve, invoke, builtin, hs, hx, hrun, Result.andThen]
  have h4 : wr.grownBy w' v.ownBlock := by
    have ha := World.grownBy_alloc wr (.cells d.cells.toArray 24) v.ownBlock
    exact ⟨r3.os.trans ha.os, r3.tape.trans ha.tape, r3.output.trans ha.output, Nat.le_trans ha.size r3.size, fun k hk hne => (r3.block k (by simp; omega) hne).trans (ha.block k hk hne)⟩
  refine hK' _ _ (hK v' w' ⟨?_, fun y hy => ?_⟩ (grown_below h.own h4 hB))
  · rw [List.length_append, List.flatMap_append]; simpa using r2
  · have hy' : FoS (fun b => B ≤ b ∧ some b ≠ v.ownBlock) wr y.p y.c y.x.args := by
      rcases List.mem_append.1 hy with hy | hy
      · exact h.deep y hy
      · simp at hy; subst hy; exact hd
    have hlow : ∀ k, k < wr.heap.size → some k ≠ v.ownBlock → some k ≠ v'.ownBlock := fun k hk hne => by
      rcases r4 with r4 | r4
      · rw [r4]; exact hne
      · intro hh
        have := r4 k hh.symm
        simp at this; omega
    refine ⟨hy'.1, hy'.2.imp id ?_⟩
    rintro ⟨b, o', e, k1, k2, k3⟩
    have hD : ∀ b, (b < wr.heap.size ∧ B ≤ b ∧ some b ≠ v.ownBlock) → B ≤ b ∧ some b ≠ v'.ownBlock := fun b hb => ⟨hb.2.1, hlow b hb.1 hb.2.2⟩
    have k3' := FoC.inHeap k1 k2 k3
    refine ⟨b, o', e, hD b ⟨k2, k1⟩, Nat.lt_of_lt_of_le k2 h4.size, FoC.move hD h4.size (fun b o v hD2 _ hv => h4.cell hv hD2.2.2) ⟨k2, k1⟩ k2 k3'⟩
theorem Bx.beside {w w' : World} {A : Nat} {T : TypeId} {cs : Array Value} {r : Option Nat} (h : Bx w A T cs) (hb : w.grownBy w' r) (hne : some A ≠ r) : Bx w' A T cs := (hb.block A h.lt hne).trans h
/-- The slice that append left, read. -/
theorem OwE.read {B : Nat} {w : World} {v : Value} {l : List Hd} (h : OwE B w v l) : ∃ p c, v = .slice p l.length c ∧ FoS (fun b => B ≤ b) w p c (Fo.of (exL l)) := by
  have hlen : (Fo.of (exL l)).len = l.length := by rw [← Fo.len_list, Fo.list_of, exL, List.length_map]
  rcases h.own.2 with ⟨rfl, h0⟩ | ⟨g, cap, cur, rfl, hg, hh, hcap, hx, hs, rr⟩
  · refine ⟨none, 0, by rw [h0], by rw [hlen, h0]; exact Nat.le_refl _, .inl (hlen.trans h0)⟩
  · refine ⟨some ⟨g, 0, none⟩, cap, rfl, by rw [hlen]; exact hcap, .inr ⟨g, 0, rfl, hg, lt_of_block hh, FoC.of fun k x hk => ?_⟩⟩
    unfold exL at hk
    rw [List.getElem?_map] at hk
    cases hq : l[k]? with
    | none => rw [hq] at hk; cases hk
    | some d =>
      rw [hq] at hk; cases hk
      have hkl : k < l.length := (List.getElem?_eq_some_iff.1 hq).1
      refine ⟨d.p, d.c, fun j u hj => ?_, (h.deep d (List.mem_of_getElem? hq)).mono fun b hb => hb.1⟩
      have hj5 : j < 5 := by have := (List.getElem?_eq_some_iff.1 hj).1; exact this
      have hlt : 5 * k + j < l.length * 5 := by omega
      rw [Nat.zero_add, h.own.cellAt (j := 5 * k + j) hlt]
      have hf : l.flatMap Hd.cells = (l.map Hd.cells).flatten := by rw [List.flatMap_def]
      rw [hf, show 5 * k + j = k * 5 + j by omega, flatten_get (n := 5) (fun y hy => by obtain ⟨z, -, rfl⟩ := List.mem_map.1 hy; exact Hd.len z) (by simpa using hkl) hj5]
      simp only [List.getElem_map]
      rw [(List.getElem?_eq_some_iff.1 hq).2]; exact hj
end Go.Proofs.YtckgmilmhofekaaGreatDoor
namespace Go.Proofs.YtckgmilmhofekaaGreatDoor
open Go.RowKit

/-- What a reading step gives: the expression and where the reader stands. -/
def outR (ts : List Tok) (R : PR) (x : Ex) (k : Nat) (b : Bool) : Prop := match R with
 | .ok (y, r) => x = y ∧ b = false ∧ r = ts.drop k
 | .error r => b = true ∧ r = ts.drop k
def outL (ts : List Tok) (R : PL) (a : Fo) (k : Nat) (b : Bool) : Prop := match R with
 | .ok (f, r) => a = f ∧ b = false ∧ r = ts.drop k
 | .error r => b = true ∧ r = ts.drop k
/-- Blocks that were made between two worlds. -/
abbrev mid (w w' : World) (b : Nat) : Prop := w.heap.size ≤ b ∧ b < w'.heap.size
def ExPost (g : Nat) (p : Option Addr) (c : Nat) (ts : List Tok) (w : World) (R : PR) (e : Ending) (w' : World) : Prop :=
 ∃ (x : Ex) (q : Option Addr) (d k : Nat) (b : Bool), e = .returned (.agg (hdC x q d).toArray) ∧ FoS (mid w w') w' q d x.args ∧ Rd w' g p c ts k b ∧ w.grownBy w' (some g) ∧ outR ts R x k b
def LsPost (g : Nat) (p : Option Addr) (c : Nat) (ts : List Tok) (w : World) (R : PL) (e : Ending) (w' : World) : Prop :=
 ∃ (a : Fo) (q : Option Addr) (d k : Nat) (b : Bool), e = .returned (.slice q a.len d) ∧ FoS (mid w w') w' q d a ∧ Rd w' g p c ts k b ∧ w.grownBy w' (some g) ∧ outL ts R a k b
theorem kindT_lt {q : Nat} {ts : List Tok} {k : Nat} (h : kindT q (ts.drop k) = true) : k < ts.length := by
  rcases Nat.lt_or_ge k ts.length with h1 | h1
  · exact h1
  · rw [kindT_end h1] at h; cases h
theorem numP_no {t : Tok} {l : List Tok} (h : kindT 2 l = false) : numP t l = (⟨0, t.n, [], [], .nil⟩, l) := by
 cases l with
 | nil => rfl
 | cons u r =>
  have h' : ¬ u.kind = 2 := by have h' : (u.kind == 2) = false := h; exact beq_eq_false_iff_ne.1 h'
  show (if u.kind = 2 then _ else _) = _
  rw [if_neg h']
theorem numP_yes {t u : Tok} {l : List Tok} (h : u.kind = 2) : numP t (u :: l) = (⟨0, t.n, u.text, [], .nil⟩, l) := if_pos h
set_option maxRecDepth 100000 in
set_option maxHeartbeats 4000000 in
theorem number_ok {w : World} {g : Nat} {p : Option Addr} {c : Nat} {ts : List Tok} {k : Nat} (h : Rd w g p c ts k false) (hk : k < ts.length) {t : Tok} (ht : ts[k] = t) :
  Calls Tryz.prog 91 #[.pointer (some ⟨g, 0, none⟩)] w (ExPost g p c ts w (.ok (numP t (ts.drop (k + 1))))) := by
 have H := Lib.hid h; have HT := Lib.hid ht
 have hg := h.bx.lt
 have G : Hid (w.grownBy w (some g)) := gr_refl g w
 clear h ht
 go_enter Tryz.func91, Tryz.ntmps91
 go_upto_region 1 with fail
 refine nmW (w.alloc (.cells #[.int .i64 0, .int .i64 0, .string ⟨#[]⟩, .string ⟨#[]⟩, .slice none 0 0] 24)) fun w1 hv => ?_
 rw [← hv]
 have K := bxh hv
 have hb_ := bah hv
 clear hv
 have z1_ := K.out.lt
 replace H := Lib.hid (H.out.keep hb_)
 replace G := Lib.hid (gr_call G.out hb_)
 have z2_ := hb_.size
 clear hb_
 go_upto_region 2 with fail
 refine (take_ok H.out hk HT.out).mono ?_
 rintro e w2 ⟨rfl, h2, g2⟩
 replace H := Lib.hid h2
 replace G := Lib.hid (gr_trans G.out g2)
 replace K := Lib.hid (K.out.only g2 (by omega))
 have z3_ := g2.size
 clear h2 g2
 have hfd := tok_f2 t
 unfold tkC at hfd ⊢
 go_upto_region 2 with fail
 clear hfd
 refine nmW (w2.alloc (.cells #[.int .i64 0, .int .i64 t.n, .string ⟨#[]⟩, .string ⟨#[]⟩, .slice none 0 0] 24)) fun w3 hv => ?_
 rw [← hv]
 have L := bxh hv
 have hb_ := bah hv
 clear hv
 have z4_ := L.out.lt
 replace H := Lib.hid (H.out.keep hb_)
 replace G := Lib.hid (gr_call G.out hb_)
 replace K := Lib.hid (K.out.keep hb_)
 have z5_ := hb_.size
 clear hb_
 obtain ⟨b2, hb2⟩ : ∃ b, kindT 2 (ts.drop (k + 1)) = b := ⟨_, rfl⟩
 have HB2 := Lib.hid hb2
 go_wp2_with fail
 refine (kind_ok (b_ := b2) H.out 2 (by rw [hb2]; rfl)).mono ?_
 rintro e w4 ⟨rfl, hb⟩
 replace H := Lib.hid (H.out.keep hb)
 replace G := Lib.hid (gr_call G.out hb)
 replace K := Lib.hid (K.out.keep hb)
 replace L := Lib.hid (L.out.keep hb)
 have z6_ := hb.size
 clear hb
 clear hb2
 cases b2 with
 | true =>
  have hk1 := kindT_lt HB2.out
  obtain ⟨u, hu⟩ : ∃ u, ts[k + 1] = u := ⟨_, rfl⟩
  have HU := Lib.hid hu; clear hu
  go_wp2_with fail
  refine (take_ok H.out hk1 HU.out).mono ?_
  rintro e w5 ⟨rfl, h2, g2⟩
  replace H := Lib.hid h2
  replace G := Lib.hid (gr_trans G.out g2)
  replace K := Lib.hid (K.out.only g2 (by omega))
  replace L := Lib.hid (L.out.only g2 (by omega))
  have z7_ := g2.size
  clear h2 g2
  have hfd := tok_f1 u
  unfold tkC at hfd ⊢
  refine L.out.e5 fun pL_0 qL_0 pL_1 qL_1 pL_2 qL_2 pL_3 qL_3 pL_4 qL_4 => ?_
  go_upto_region 4 with fail
  clear pL_0 qL_0 pL_1 qL_1 pL_2 qL_2 pL_3 qL_3 pL_4 qL_4
  clear hfd
  refine nmW (w5.setCell ⟨w2.heap.size, 2, none⟩ (.string ⟨u.text.toArray⟩)) fun w6 hv => ?_
  rw [← hv]
  have og_ : w5.grownBy w6 (some w2.heap.size) := by rw [hv]; exact (gr_set _ _ _ _)
  have kb_ : Bx w6 w2.heap.size 24 #[.int .i64 0, .int .i64 t.n, .string ⟨u.text.toArray⟩, .string ⟨#[]⟩, .slice none 0 0] := by rw [hv]; exact (L.out.set 2 _)
  clear hv
  replace H := Lib.hid (H.out.other og_ (by omega))
  replace G := Lib.hid (gr_new G.out og_ (by omega))
  replace K := Lib.hid (K.out.only og_ (by omega))
  replace L := Lib.hid kb_
  have z8_ := og_.size
  clear og_ kb_
  refine L.out.q5 fun pL_0 pL_1 pL_2 pL_3 pL_4 => ?_
  refine K.out.e5 fun pK_0 qK_0 pK_1 qK_1 pK_2 qK_2 pK_3 qK_3 pK_4 qK_4 => ?_
  go_wp2_with fail
  clear pL_0 pL_1 pL_2 pL_3 pL_4 pK_0 qK_0 pK_1 qK_1 pK_2 qK_2 pK_3 qK_3 pK_4 qK_4
  refine nmW (((((w6.setCell ⟨w.heap.size, 0, none⟩ (.int .i64 0)).setCell ⟨w.heap.size, 1, none⟩ (.int .i64 t.n)).setCell ⟨w.heap.size, 2, none⟩ (.string ⟨u.text.toArray⟩)).setCell ⟨w.heap.size, 3, none⟩ (.string ⟨#[]⟩)).setCell ⟨w.heap.size, 4, none⟩ (.slice none 0 0)) fun w7 hv => ?_
  rw [← hv]
  have og_ : w6.grownBy w7 (some w.heap.size) := by rw [hv]; exact gs5
  have kb_ : Bx w7 w.heap.size 24 #[.int .i64 0, .int .i64 t.n, .string ⟨u.text.toArray⟩, .string ⟨#[]⟩, .slice none 0 0] := by rw [hv]; exact (((((K.out.set 0 _).set 1 _).set 2 _).set 3 _).set 4 _)
  clear hv
  replace H := Lib.hid (H.out.other og_ (by omega))
  replace G := Lib.hid (gr_new G.out og_ (by omega))
  replace K := Lib.hid kb_
  replace L := Lib.hid (L.out.only og_ (by omega))
  have z9_ := og_.size
  clear og_ kb_
  refine bodyPost_ret (results_box1 rfl _ _ w.heap.size 24 _ _ _ rfl K.out Tryz.underlying24 rfl (by kernel_rfl)) rfl ?_
  exact ⟨⟨0, t.n, u.text, [], .nil⟩, none, 0, k + 1 + 1, false, rfl, FoS.nil, H.out, G.out, by have := HB2.out; rw [kindT_at hk1, HU.out, beq_iff_eq] at this; rw [drop_tok hk1, HU.out, numP_yes this]; exact ⟨rfl, rfl, rfl⟩⟩
 | false =>
  refine L.out.q5 fun pL_0 pL_1 pL_2 pL_3 pL_4 => ?_
  refine K.out.e5 fun pK_0 qK_0 pK_1 qK_1 pK_2 qK_2 pK_3 qK_3 pK_4 qK_4 => ?_
  go_wp2_with fail
  clear pL_0 pL_1 pL_2 pL_3 pL_4 pK_0 qK_0 pK_1 qK_1 pK_2 qK_2 pK_3 qK_3 pK_4 qK_4
  refine nmW (((((w4.setCell ⟨w.heap.size, 0, none⟩ (.int .i64 0)).setCell ⟨w.heap.size, 1, none⟩ (.int .i64 t.n)).setCell ⟨w.heap.size, 2, none⟩ (.string ⟨#[]⟩)).setCell ⟨w.heap.size, 3, none⟩ (.string ⟨#[]⟩)).setCell ⟨w.heap.size, 4, none⟩ (.slice none 0 0)) fun w8 hv => ?_
  rw [← hv]
  have og_ : w4.grownBy w8 (some w.heap.size) := by rw [hv]; exact gs5
  have kb_ : Bx w8 w.heap.size 24 #[.int .i64 0, .int .i64 t.n, .string ⟨#[]⟩, .string ⟨#[]⟩, .slice none 0 0] := by rw [hv]; exact (((((K.out.set 0 _).set 1 _).set 2 _).set 3 _).set 4 _)
  clear hv
  replace H := Lib.hid (H.out.other og_ (by omega))
  replace G := Lib.hid (gr_new G.out og_ (by omega))
  replace K := Lib.hid kb_
  replace L := Lib.hid (L.out.only og_ (by omega))
  have z10_ := og_.size
  clear og_ kb_
  refine bodyPost_ret (results_box1 rfl _ _ w.heap.size 24 _ _ _ rfl K.out Tryz.underlying24 rfl (by kernel_rfl)) rfl ?_
  exact ⟨⟨0, t.n, [], [], .nil⟩, none, 0, k + 1, false, rfl, FoS.nil, H.out, G.out, by rw [numP_no HB2.out]; exact ⟨rfl, rfl, rfl⟩⟩
end Go.Proofs.YtckgmilmhofekaaGreatDoor
namespace Go.Proofs.YtckgmilmhofekaaGreatDoor
open Go.RowKit

/-- The kind of an operator's token. -/
def opKd (j : Nat) : Nat := if j = 14 ∨ j = 15 then 0 else 3
def opIs (j : Nat) (l : List Tok) : Bool := (opName j).isSome && isT (opKd j) ((opName j).getD []) l
/-- The first operator from the operation j on that is next. -/
def opFrom : Nat → Nat → List Tok → Option Int
 | 0, _, _ => none
 | f + 1, j, l => if opIs j l = true then some (j : Int) else opFrom f (j + 1) l
theorem opFrom_at (l : List Tok) : opFrom 16 0 l = opAt l := by
 unfold opAt
 simp only [opFrom, opIs, opKd]
 simp [opName, isT]
 cases l with
 | nil => rfl
 | cons t r => rfl
/-- What 'operation' returns. -/
def opV (o : Option Int) : Value := .tuple #[.int .i64 (o.getD 0), .bool o.isSome]
def opO (bad : Bool) (f j : Nat) (l : List Tok) : Option Int := if bad = true then none else opFrom f j l
theorem opO_next {bad : Bool} {f j : Nat} {l : List Tok} {o : Option Int} (h : opO bad (f + 1) j l = o) (hn : (!bad && opIs j l) = false) : opO bad f (j + 1) l = o := by
 rw [← h]; unfold opO
 cases bad with
 | true => rfl
 | false =>
  rw [if_neg (by decide), if_neg (by decide)]
  have : opIs j l = false := by simpa using hn
  show _ = if opIs j l = true then some (j : Int) else opFrom f (j + 1) l
  rw [this]; rfl
theorem opO_hit {bad : Bool} {f j : Nat} {l : List Tok} {o : Option Int} (h : opO bad (f + 1) j l = o) (hn : (!bad && opIs j l) = true) : o = some (j : Int) ∧ bad = false := by
 rw [← h]; unfold opO
 cases bad with
 | true => cases hn
 | false =>
  rw [if_neg (by decide)]
  have : opIs j l = true := by simpa using hn
  refine ⟨?_, rfl⟩
  show (if opIs j l = true then some (j : Int) else opFrom f (j + 1) l) = _
  rw [this]; rfl
set_option maxRecDepth 100000 in
set_option maxHeartbeats 4000000 in
theorem operation_ok {w : World} {g : Nat} {p : Option Addr} {c : Nat} {ts : List Tok} {k : Nat} {bad : Bool} (h : Rd w g p c ts k bad) {o : Option Int} (ho : (if bad = true then none else opAt (ts.drop k)) = o) :
    Calls Tryz.prog 66 #[.pointer (some ⟨g, 0, none⟩)] w fun e w' => e = .returned (opV o) ∧ Rd w' g p c ts (stepK o.isSome k) bad ∧ w.grownBy w' (some g) := by
  have H0 := Lib.hid h
  have HO0 : Hid (opO bad 16 0 (ts.drop k) = o) := by show _ = _; rw [← ho, ← opFrom_at]; rfl
  have hg := h.bx.lt
  clear h ho
  go_enter Tryz.func66, Tryz.ntmps66
  go_wp2_with fail
  go_loopw [8] (fun i wr => ∃ j f : Nat, j + f = 16 ∧ i = .int .i64 j ∧ Hid (opO bad f j (ts.drop k) = o) ∧ Hid (Rd wr g p c ts k bad) ∧ Hid (w.grownBy wr (some g))) (fun i _ => 16 - (intOf i).toNat)
  case atStart => exact ⟨0, 16, rfl, rfl, HO0, H0, gr_refl _ _⟩
  case round =>
    obtain ⟨j, f, hjf, rfl, HO, H, G⟩ := hrel
    clear H0 HO0
    cases f with
    | zero =>
      have hI : ¬ (j : Int) < 16 := by omega
      have hN : o = none := by rw [← HO.out]; unfold opO; split <;> rfl
      subst hN
      go_wp2_with fail
      go_ret2
      exact ⟨rfl, H.out, G.out⟩
    | succ f =>
      have hI : (j : Int) < 16 := by omega
      go_wp2_with fail
      refine (operator_ok (j : Int)).mono ?_
      rintro e w1 ⟨rfl, rfl⟩
      obtain ⟨s, hs⟩ : ∃ s, (opName j).getD [] = s := ⟨_, rfl⟩
      obtain ⟨b1, hb1⟩ : ∃ b, (opName j).isSome = b := ⟨_, rfl⟩
      obtain ⟨b2, hb2⟩ : ∃ b, (!bad && isT (opKd j) s (ts.drop k)) = b := ⟨_, rfl⟩
      have HB : Hid ((!bad && opIs j (ts.drop k)) = (b1 && b2)) := by show _ = _; unfold opIs; rw [hs, hb1, ← hb2]; cases bad <;> cases b1 <;> rfl
      have HB2 := Lib.hid hb2
      unfold opRes
      rw [hs, hb1]
      clear hs hb1 hb2
      have hq : (opKd j = 0 ∧ (((j : Int) == 14) = true ∨ (((j : Int) == 14) = false ∧ ((j : Int) == 15) = true))) ∨ (opKd j = 3 ∧ ((j : Int) == 14) = false ∧ ((j : Int) == 15) = false) := by
        unfold opKd
        by_cases h14 : j = 14
        · subst h14; exact .inl ⟨rfl, .inl rfl⟩
        · by_cases h15 : j = 15
          · subst h15; exact .inl ⟨rfl, .inr ⟨rfl, rfl⟩⟩
          · refine .inr ⟨if_neg (by omega), beq_eq_false_iff_ne.2 (by omega), beq_eq_false_iff_ne.2 (by omega)⟩
      have fin : ∀ {a : Act} {w' : World}, True := fun {_ _} => trivial
      clear fin
      cases b1 with
      | false =>
        have HN := Lib.hid (opO_next HO.out (by rw [HB.out]; rfl)); clear HO HB HB2
        rcases hq with ⟨-, e14 | ⟨e14, e15⟩⟩ | ⟨-, e14, e15⟩
        all_goals
          go_wp2_with fail
          go_roundw
          case rel => exact ⟨j + 1, f, by omega, by go_num, HN, H, G⟩
          case measure => simp [intOf]; omega
      | true =>
        cases b2 with
        | false =>
          have HN := Lib.hid (opO_next HO.out (by rw [HB.out]; rfl)); clear HO HB
          rcases hq with ⟨ek, e14 | ⟨e14, e15⟩⟩ | ⟨ek, e14, e15⟩
          all_goals
            rw [ek] at HB2
            go_wp2_with fail
            refine (skip_ok H.out _ ⟨s.toArray⟩ (by rw [Lib.toList_data]) HB2.out rfl).mono ?_
            rintro e w2 ⟨rfl, h2, g2⟩
            have H2 := Lib.hid h2; have G2 := Lib.hid (gr_trans G.out g2); clear h2 g2
            go_wp2_with fail
            go_roundw
            case rel => exact ⟨j + 1, f, by omega, by go_num, HN, H2, G2⟩
            case measure => simp [intOf]; omega
        | true =>
          obtain ⟨rfl, rfl⟩ := opO_hit HO.out (by rw [HB.out]; rfl)
          clear HO HB
          rcases hq with ⟨ek, e14 | ⟨e14, e15⟩⟩ | ⟨ek, e14, e15⟩
          all_goals
            rw [ek] at HB2
            go_wp2_with fail
            refine (skip_ok H.out _ ⟨s.toArray⟩ (by rw [Lib.toList_data]) HB2.out rfl).mono ?_
            rintro e w2 ⟨rfl, h2, g2⟩
            have H2 := Lib.hid h2; have G2 := Lib.hid (gr_trans G.out g2); clear h2 g2
            go_wp2_with fail
            go_ret2
            exact ⟨rfl, H2.out, G2.out⟩
end Go.Proofs.YtckgmilmhofekaaGreatDoor
namespace Go.Proofs.YtckgmilmhofekaaGreatDoor
open Go.RowKit

def gate (b : Bool) (l : List Tok) (R : PR) : PR := if b = true then .error l else R
def gateL (b : Bool) (l : List Tok) (R : PL) : PL := if b = true then .error l else R
/-- What E reads is shorter. -/
def Shrinks (E : List Tok → PR) : Prop := ∀ l, (∀ x r, E l = .ok (x, r) → r.length < l.length) ∧ ∀ r, E l = .error r → r.length ≤ l.length
def appF (l : List Ex) (f : Fo) : Fo := l.foldr Ex.then f
theorem appF_nil (l : List Ex) : appF l .nil = Fo.of l := by
 induction l with
 | nil => rfl
 | cons x r ih => show x.then (appF r .nil) = x.then (Fo.of r); rw [ih]
theorem appF_snoc (l : List Ex) (x : Ex) (f : Fo) : appF (l ++ [x]) f = appF l (x.then f) := by unfold appF; rw [List.foldr_append]; rfl
def putL (l : List Ex) (R : PL) : PL := match R with | .ok (f, r) => .ok (appF l f, r) | .error r => .error r
theorem isT_len {q : Nat} {s : Bytes} {ts : List Tok} {k : Nat} (h : isT q s (ts.drop k) = true) : (ts.drop (k + 1)).length < (ts.drop k).length := by
 have := isT_lt h
 simp; omega
theorem needP_yes {q : Nat} {s : Bytes} {ts : List Tok} {k : Nat} (h : isT q s (ts.drop k) = true) : needP q s (ts.drop k) = .ok (ts.drop (k + 1)) := by
 unfold needP; rw [if_pos h, drop_tok (isT_lt h)]; rfl
theorem needP_not {q : Nat} {s : Bytes} {l : List Tok} (h : isT q s l = false) : needP q s l = .error l := by
 unfold needP; rw [if_neg (by rw [h]; decide)]
/-- The rounds of 'some'. -/
inductive SomeR (E : List Tok → PR) (ts : List Tok) (k0 : Nat) (b0 : Bool) : Nat → List Ex → Nat → Bool → Prop
 | start : SomeR E ts k0 b0 0 [] k0 b0
 | first {x : Ex} {k : Nat} {b : Bool} (h0 : b0 = false) (h : outR ts (E (ts.drop k0)) x k b) : SomeR E ts k0 b0 1 [x] k b
 | next {i : Nat} {l : List Ex} {k k1 k2 : Nat} {t b2 : Bool} {x : Ex} (h : SomeR E ts k0 b0 (i + 1) l k false) (ht : isT 3 [44] (ts.drop k) = t) (hk : stepK t k = k1) (ho : outR ts (gate (!t) (ts.drop k1) (E (ts.drop k1))) x k2 b2) : SomeR E ts k0 b0 (i + 2) (l ++ [x]) k2 b2
theorem someR_is {E : List Tok → PR} {ts : List Tok} {k0 : Nat} {b0 : Bool} {i : Nat} {l : List Ex} {k : Nat} {b : Bool} (h : SomeR E ts k0 b0 i l k b) :
  (i = 0 → l = [] ∧ k = k0 ∧ b = b0) ∧ (1 ≤ i → b0 = false ∧ ∀ m, i ≤ m + 1 → someP E m (ts.drop k0) = if b = true then .error (ts.drop k) else putL l (moreP E (m + 1 - i) (ts.drop k))) := by
 induction h with
 | start => exact ⟨fun _ => ⟨rfl, rfl, rfl⟩, fun h => by omega⟩
 | @first x k b h0 h =>
  refine ⟨fun h => by omega, fun _ => ⟨h0, fun m _ => ?_⟩⟩
  unfold someP
  unfold outR at h
  cases hE : E (ts.drop k0) with
  | error r => rw [hE] at h; dsimp only at h ⊢; rw [h.1, if_pos rfl, h.2]
  | ok y =>
   obtain ⟨y, r⟩ := y
   rw [hE] at h
   dsimp only at h ⊢
   obtain ⟨rfl, rfl, rfl⟩ := h
   rw [if_neg (by decide)]
   show _ = putL [x] (moreP E m (ts.drop k))
   cases moreP E m (ts.drop k) <;> rfl
 | @next i l k k1 k2 t b2 x hr ht hk ho ih =>
  obtain ⟨h0, ih⟩ := ih.2 (by omega)
  refine ⟨fun h => by omega, fun _ => ⟨h0, fun m hm => ?_⟩⟩
  rw [ih m (by omega), if_neg (by decide), show m + 1 - (i + 1) = (m + 1 - (i + 2)) + 1 by omega, moreP]
  cases t with
  | false =>
   obtain rfl : k = k1 := hk
   have ho : b2 = true ∧ ts.drop k = ts.drop k2 := ho
   rw [needP_not ht, ho.1, if_pos rfl, ← ho.2]; rfl
  | true =>
   obtain rfl : k + 1 = k1 := hk
   have ho : outR ts (E (ts.drop (k + 1))) x k2 b2 := ho
   unfold outR at ho
   rw [needP_yes ht]; dsimp only
   cases hE : E (ts.drop (k + 1)) with
   | error r => rw [hE] at ho; dsimp only at ho ⊢; rw [ho.1, if_pos rfl, ho.2]; rfl
   | ok y =>
    obtain ⟨y, r⟩ := y
    rw [hE] at ho
    dsimp only at ho ⊢
    obtain ⟨rfl, rfl, rfl⟩ := ho
    rw [if_neg (by decide)]
    cases moreP E (m + 1 - (i + 2)) (ts.drop k2) with
    | error r => rfl
    | ok y => obtain ⟨f, r⟩ := y; show Except.ok (appF l (x.then f), r) = Except.ok (appF (l ++ [x]) f, r); rw [appF_snoc]
theorem some_end {E : List Tok → PR} {ts : List Tok} {k0 : Nat} {b0 : Bool} {i m : Nat} {l : List Ex} {k k' : Nat} {b t b' : Bool} (h : SomeR E ts k0 b0 i l k b) (hx : b = true ∨ i = m + 1) (hi : i ≤ m + 1) (ht : (!b && isT 3 [41] (ts.drop k)) = t) (hk : stepK t k = k') (hb : (!t || b) = b') :
    outL ts (gateL b0 (ts.drop k0) (someP E m (ts.drop k0))) (Fo.of l) k' b' := by
  obtain ⟨h1, h2⟩ := someR_is h
  cases i with
  | zero =>
    obtain ⟨rfl, rfl, rfl⟩ := h1 rfl
    rcases hx with rfl | hx
    · subst ht; subst hk; subst hb
      exact ⟨rfl, rfl⟩
    · omega
  | succ i =>
    obtain ⟨rfl, h3⟩ := h2 (by omega)
    unfold gateL
    rw [if_neg (by decide), h3 m hi]
    cases b with
    | true =>
      subst ht; subst hk; subst hb
      rw [if_pos rfl]; exact ⟨rfl, rfl⟩
    | false =>
      rw [if_neg (by decide)]
      rcases hx with hx | hx
      · cases hx
      rw [show m + 1 - (i + 1) = 0 by omega, moreP]
      cases t with
      | false =>
        obtain rfl : k = k' := hk
        obtain rfl : true = b' := hb
        rw [needP_not (by simpa using ht)]; exact ⟨rfl, rfl⟩
      | true =>
        obtain rfl : k + 1 = k' := hk
        obtain rfl : false = b' := hb
        rw [needP_yes (by simpa using ht)]
        exact ⟨(appF_nil l).symm, rfl, rfl⟩
/-- The rounds of 'any'. -/
inductive AnyR (E : List Tok → PR) (ts : List Tok) (k0 : Nat) : List Ex → Nat → Bool → Prop
 | first {x : Ex} {k : Nat} {b : Bool} (h : outR ts (E (ts.drop k0)) x k b) : AnyR E ts k0 [x] k b
 | next {l : List Ex} {k k2 : Nat} {b2 : Bool} {x : Ex} (h : AnyR E ts k0 l k false) (ht : isT 3 [44] (ts.drop k) = true) (ho : outR ts (E (ts.drop (k + 1))) x k2 b2) : AnyR E ts k0 (l ++ [x]) k2 b2
def anyL (E : List Tok → PR) (l : List Tok) : PL := match E l with
 | .error r => .error r
 | .ok (x, l1) => putL [x] (anyP E (l1.length + 1) l1)
theorem callP_is (E : List Tok → PR) (m : Bytes) (l : List Tok) : callP E m l = match anyL E l with | .error r => .error r | .ok (f, r) => .ok (⟨3, 0, [], m, f⟩, r) := by
 unfold callP anyL
 cases E l with
 | error r => rfl
 | ok y =>
  obtain ⟨x, l1⟩ := y
  dsimp only
  cases anyP E (l1.length + 1) l1 <;> rfl
theorem anyR_is {E : List Tok → PR} (hE : Shrinks E) {ts : List Tok} {k0 : Nat} {l : List Ex} {k : Nat} {b : Bool} (h : AnyR E ts k0 l k b) :
  if b = true then anyL E (ts.drop k0) = .error (ts.drop k) else ∃ f, (ts.drop k).length < f ∧ anyL E (ts.drop k0) = putL l (anyP E f (ts.drop k)) := by
 induction h with
 | @first x k b h =>
  unfold outR at h
  cases hq : E (ts.drop k0) with
  | error r => rw [hq] at h; dsimp only at h; rw [h.1, if_pos rfl]; unfold anyL; rw [hq]; dsimp only; rw [h.2]
  | ok y =>
   obtain ⟨y, r⟩ := y
   rw [hq] at h
   dsimp only at h
   obtain ⟨rfl, rfl, rfl⟩ := h
   rw [if_neg (by decide)]
   refine ⟨_, Nat.lt_succ_self _, ?_⟩
   unfold anyL; rw [hq]
 | @next l k k2 b2 x hr ht ho ih =>
  rw [if_neg (by decide)] at ih
  obtain ⟨f, hf, ih⟩ := ih
  cases f with
  | zero => omega
  | succ f =>
   rw [ih]
   have htl : (ts.drop k).tail = ts.drop (k + 1) := by rw [drop_tok (isT_lt ht)]; rfl
   have hlen := isT_len ht
   unfold outR at ho
   rw [anyP, if_pos ht, htl]
   cases hq : E (ts.drop (k + 1)) with
   | error r => rw [hq] at ho; dsimp only at ho ⊢; rw [ho.1, if_pos rfl, ho.2]; rfl
   | ok y =>
    obtain ⟨y, r⟩ := y
    rw [hq] at ho
    dsimp only at ho ⊢
    obtain ⟨rfl, rfl, rfl⟩ := ho
    rw [if_neg (by decide)]
    have := (hE _).1 _ _ hq
    refine ⟨f, by omega, ?_⟩
    cases anyP E f (ts.drop k2) with
    | error r => rfl
    | ok y => obtain ⟨g, r⟩ := y; show Except.ok (appF l (x.then g), r) = Except.ok (appF (l ++ [x]) g, r); rw [appF_snoc]
theorem any_end {E : List Tok → PR} (hE : Shrinks E) {ts : List Tok} {k0 : Nat} {l : List Ex} {k k' : Nat} {b t b' : Bool} (h : AnyR E ts k0 l k b) (hc : (!b && isT 3 [44] (ts.drop k)) = false) (ht : (!b && isT 3 [41] (ts.drop k)) = t) (hk : stepK t k = k') (hb : (!t || b) = b') :
  outL ts (anyL E (ts.drop k0)) (Fo.of l) k' b' := by
 have h1 := anyR_is hE h
 cases b with
 | true =>
  rw [if_pos rfl] at h1
  subst ht; subst hk; subst hb
  rw [h1]; exact ⟨rfl, rfl⟩
 | false =>
  rw [if_neg (by decide)] at h1
  obtain ⟨f, hf, h1⟩ := h1
  have hc' : isT 3 [44] (ts.drop k) = false := by simpa using hc
  cases f with
  | zero => omega
  | succ f =>
   rw [h1, anyP, if_neg (by rw [hc']; decide)]
   cases t with
   | false =>
    obtain rfl : k = k' := hk
    obtain rfl : true = b' := hb
    rw [needP_not (by simpa using ht)]; exact ⟨rfl, rfl⟩
   | true =>
    obtain rfl : k + 1 = k' := hk
    obtain rfl : false = b' := hb
    rw [needP_yes (by simpa using ht)]
    exact ⟨(appF_nil l).symm, rfl, rfl⟩
/-- The reading of an expression, as it is known of shorter lists. -/
def EOK (g : Nat) (p : Option Addr) (c : Nat) (ts : List Tok) (E : List Tok → PR) (N : Nat) : Prop := ∀ (w : World) (k : Nat) (b : Bool), Rd w g p c ts k b → (b = false → (ts.drop k).length < N) →
 Calls Tryz.prog 34 #[.pointer (some ⟨g, 0, none⟩)] w (ExPost g p c ts w (gate b (ts.drop k) (E (ts.drop k))))
/-- What lies from a world's end on lies between it and this one. -/
theorem FoS.inMid {w0 w : World} {p : Option Addr} {c : Nat} {a : Fo} (h : FoS (fun b => w0.heap.size ≤ b) w p c a) : FoS (mid w0 w) w p c a :=
 ⟨h.1, h.2.imp id fun ⟨b, o, e, k1, k2, k3⟩ => ⟨b, o, e, ⟨k1, k2⟩, k2, FoC.move (fun _ hb => ⟨hb.2, hb.1⟩) (Nat.le_refl _) (fun _ _ _ _ _ h => h) ⟨k2, k1⟩ k2 (FoC.inHeap k1 k2 k3)⟩⟩
/-- An own slice that was written as a literal. -/
theorem OwE.lit {B A : Nat} {w : World} {d : Hd} (hb : Bx w A 24 d.cells.toArray) (hB : B ≤ A) (hd : FoS (fun b => B ≤ b ∧ b ≠ A) w d.p d.c d.x.args) : OwE B w (.slice (some ⟨A, 0, none⟩) 1 1) [d] :=
 ⟨⟨rfl, .inr ⟨A, 1, _, rfl, hB, hb, Nat.le_refl _, by unfold maxLen; omega, rfl, by simp [Hd.cells, hdC]⟩⟩, fun h hh => by
  simp at hh; subst hh
  exact hd.mono fun b hb => ⟨hb.1, by show some b ≠ some A; intro h; exact hb.2 (Option.some.inj h)⟩⟩
/-- Where the reader stands after an expression. -/
theorem out_after {E : List Tok → PR} (hS : Shrinks E) {ts : List Tok} {k k2 : Nat} {x : Ex} {b2 : Bool} (ho : outR ts (E (ts.drop k)) x k2 b2) (hk : k ≤ ts.length) (hk2 : k2 ≤ ts.length) : k ≤ k2 ∧ (b2 = false → k < k2) := by
 unfold outR at ho
 cases hq : E (ts.drop k) with
 | error r =>
  rw [hq] at ho
  have := (hS _).2 _ hq
  rw [ho.2] at this
  simp at this
  exact ⟨by omega, fun hb => by rw [ho.1] at hb; cases hb⟩
 | ok y =>
  obtain ⟨y, r⟩ := y
  rw [hq] at ho
  have := (hS _).1 _ _ hq
  rw [ho.2.2] at this
  simp at this
  exact ⟨by omega, fun _ => by omega⟩
theorem exL_snoc (l : List Hd) (d : Hd) : exL (l ++ [d]) = exL l ++ [d.x] := by unfold exL; rw [List.map_append]; rfl
theorem exL_len (l : List Hd) : (Fo.of (exL l)).len = l.length := by rw [← Fo.len_list, Fo.list_of, exL, List.length_map]
theorem Rd.low {w w' : World} {g B : Nat} {p : Option Addr} {c : Nat} {ts : List Tok} {k : Nat} {bad : Bool} (h : Rd w g p c ts k bad) (hb : Below B w w') (hg : g < B) : Rd w' g p c ts k bad := by
 refine ⟨(hb.block g hg).trans h.bx, ?_, h.lt, h.len, h.le⟩
 obtain ⟨a', cap', hv, hc⟩ := h.tk
 cases hv
 refine ⟨p, c, rfl, fun j hj => ?_⟩
 obtain ⟨b, off, ha, hlt, hcell⟩ := hc j hj
 have := h.lt b off ha
 exact ⟨b, off, ha, Nat.lt_of_lt_of_le hlt hb.size, fun i u hi => by rw [hb.cell (p := ⟨b, _, none⟩) (show b < B by omega)]; exact hcell i u hi⟩
theorem gr_low {w a b : World} {g B : Nat} (h : w.grownBy a (some g)) (k : Below B a b) (hB : w.heap.size ≤ B) : w.grownBy b (some g) :=
 ⟨k.os.trans h.os, k.tape.trans h.tape, k.output.trans h.output, Nat.le_trans h.size k.size, fun i hi hne => (k.block i (by omega)).trans (h.block i hi hne)⟩
set_option maxRecDepth 100000 in
set_option maxHeartbeats 4000000 in
theorem some_ok {w : World} {g : Nat} {p : Option Addr} {c : Nat} {ts : List Tok} {E : List Tok → PR} {N k0 m : Nat} {b0 : Bool} (hE : EOK g p c ts E N) (hS : Shrinks E) (h : Rd w g p c ts k0 b0) (hN : b0 = false → (ts.drop k0).length < N) (hm : m ≤ 1000) {n : Int} (hn : n = ((m + 1 : Nat) : Int)) :
    Calls Tryz.prog 92 #[.pointer (some ⟨g, 0, none⟩), .int .i64 n] w (LsPost g p c ts w (gateL b0 (ts.drop k0) (someP E m (ts.drop k0)))) := by
  have HNN := Lib.hid hn; clear hn
  have H0 := Lib.hid h; have HE := Lib.hid hE; have HS := Lib.hid hS; have HN := Lib.hid hN
  have hg := h.bx.lt
  clear h hE hS hN
  go_enter Tryz.func92, Tryz.ntmps92
  go_wp2_with fail
  go_loopw [5, 6] (fun v i wr => ∃ (vv : Value) (j k : Nat) (b : Bool) (l : List Hd), vv = v ∧ i = .int .i64 j ∧ j ≤ m + 1 ∧ l.length = j ∧ Hid (SomeR E ts k0 b0 j (exL l) k b) ∧ Hid (b = false → (ts.drop k).length < N) ∧ Hid (Rd wr g p c ts k b) ∧ Hid (w.grownBy wr (some g)) ∧ Hid (OwE w.heap.size wr v l)) (fun _ i _ => m + 1 - (intOf i).toNat)
  case atStart => exact ⟨_, 0, k0, b0, [], rfl, rfl, Nat.zero_le _, rfl, .start, HN, H0, gr_refl _ _, OwE.nil _⟩
  case round =>
    obtain ⟨v_, j, k, b, l, rfl, rfl, hj, hl, HR, HN, H, G, HO⟩ := hrel
    clear H0
    have hz := G.out.size
    have stop : ∀ {b_ : Bool}, True := fun {_} => trivial
    clear stop
    obtain ⟨r0_, r1_, r2_, s0_, s1_, s2_⟩ := H.out.bx.r3
    have hsh : ∀ (k1 k2 : Nat) (x : Ex) (b2 : Bool), (ts.drop k1).length < N → outR ts (E (ts.drop k1)) x k2 b2 → (b2 = false → (ts.drop k2).length < N) := fun k1 k2 x b2 h1 ho hb => by
      unfold outR at ho
      cases hq : E (ts.drop k1) with
      | error r => rw [hq] at ho; rw [ho.1] at hb; cases hb
      | ok y =>
        obtain ⟨y, r⟩ := y
        rw [hq] at ho
        have := (HS.out _).1 _ _ hq
        rw [ho.2.2] at this; omega
    have HSH := Lib.hid hsh; clear hsh
    by_cases hlt : j < m + 1
    · have hI : (j : Int) < n := by rw [HNN.out]; omega
      cases b with
      | true =>
        obtain ⟨q, d, hv, hf⟩ := HO.out.read
        have HF := Lib.hid hf; subst hv; clear hf
        go_wp2_with fail
        refine (sign_ok H.out ⟨#[41]⟩ (sl := [41]) (by rw [Lib.toList_data]) rfl rfl rfl).mono ?_
        rintro e w2 ⟨rfl, h2, g2⟩
        have H2 := Lib.hid h2; have G2 := Lib.hid (gr_trans G.out g2); have HF2 := Lib.hid (HF.out.grown g2 (by omega)); clear h2 g2
        go_wp2_with fail
        go_ret
        exact ⟨_, q, d, _, _, by rw [exL_len, hl]; rfl, HF2.out.inMid, H2.out, G2.out, some_end HR.out (.inl rfl) hj rfl rfl rfl⟩
      | false =>
        have hN1 : (ts.drop k).length < N := by first | exact HN.out rfl | exact HN.out trivial
        have HN1 := Lib.hid hN1; clear hN1
        by_cases h0 : j = 0
        · subst h0
          obtain rfl : l = [] := List.eq_nil_of_length_eq_zero hl
          obtain ⟨-, rfl, eb⟩ := (someR_is HR.out).1 rfl
          have EB := Lib.hid eb.symm; clear eb
          go_upto_region 7 with fail
          clear r0_ r1_ r2_ s0_ s1_ s2_
          go_upto_region 4 with fail
          refine (HE.out _ _ _ H.out (fun _ => HN1.out)).mono ?_
          rintro e w2 ⟨x, q, d, k2, b2, rfl, hf, h2, g2, ho⟩
          have hB := g2.size
          have HF := Lib.hid (hf.mono (D' := fun b => w.heap.size ≤ b ∧ some b ≠ v_.ownBlock) (fun b hb => ⟨by have := hb.1; omega, own_low HO.out.own hb.1⟩))
          have HO2 := Lib.hid (HO.out.grown g2 (by omega))
          have H2 := Lib.hid h2; have G2 := Lib.hid (gr_trans G.out g2)
          have HR2 : Hid (SomeR E ts k b0 1 (exL [⟨x, q, d⟩]) k2 b2) := SomeR.first EB.out ho
          have HNX := Lib.hid (HSH.out _ _ _ _ HN1.out ho)
          clear hf h2 g2 ho H G HO HR
          unfold hdC
          go_upto_region 4 with (at_builtin; go_must (refine wpList_pushE rfl _ _ elemEx rfl w2 HO2.out hl ⟨x, q, d⟩ HF.out rfl rfl rfl rfl (by omega) (by omega) (by omega) ?_; intro v' w3 ho hb3))
          have H3 := Lib.hid (H2.out.low hb3 hg); have G3 := Lib.hid (gr_low G2.out hb3 (Nat.le_refl _)); have HO3 := Lib.hid ho
          clear hb3 ho H2 G2 HO2 HF
          go_wp2_with fail
          go_roundw
          case rel => exact ⟨_, 1, k2, b2, [⟨x, q, d⟩], rfl, by go_num, by omega, rfl, HR2, HNX, H3, G3, HO3⟩
          case measure => simp [intOf] <;> omega
        · obtain ⟨j', rfl⟩ : ∃ j', j = j' + 1 := ⟨j - 1, by omega⟩
          have hI0 : (0 : Int) < ((j' + 1 : Nat) : Int) := by omega
          obtain ⟨t, ht⟩ : ∃ t, isT 3 [44] (ts.drop k) = t := ⟨_, rfl⟩
          have HT := Lib.hid ht; clear ht
          go_upto_region 7 with fail
          refine (sign_ok H.out ⟨#[44]⟩ (sl := [44]) (by rw [Lib.toList_data]) (b_ := t) (by rw [HT.out]; rfl) rfl (bad' := !t) (by cases t <;> rfl)).mono ?_
          rintro e w1 ⟨rfl, h2, g2⟩
          have hB1 := g2.size
          replace HO := Lib.hid (HO.out.grown g2 (by omega))
          replace H := Lib.hid h2; replace G := Lib.hid (gr_trans G.out g2)
          clear h2 g2 r0_ r1_ r2_ s0_ s1_ s2_
          have HN2 : Hid ((!t) = false → (ts.drop (stepK t k)).length < N) := by
            show _ → _
            intro ht
            have e : t = true := by simpa using ht
            subst e
            have := isT_len HT.out
            have := HN1.out
            show (ts.drop (k + 1)).length < N
            omega
          go_upto_region 4 with fail
          refine (HE.out _ _ _ H.out HN2.out).mono ?_
          rintro e w2 ⟨x, q, d, k2, b2, rfl, hf, h2, g2, ho⟩
          have hB := g2.size
          have HF := Lib.hid (hf.mono (D' := fun b => w.heap.size ≤ b ∧ some b ≠ v_.ownBlock) (fun b hb => ⟨by have := hb.1; omega, own_low HO.out.own hb.1⟩))
          have HO2 := Lib.hid (HO.out.grown g2 (by omega))
          have H2 := Lib.hid h2; have G2 := Lib.hid (gr_trans G.out g2)
          have HR2 : Hid (SomeR E ts k0 b0 (j' + 2) (exL (l ++ [⟨x, q, d⟩])) k2 b2) := by show SomeR _ _ _ _ _ _ _ _; rw [exL_snoc]; exact SomeR.next HR.out HT.out rfl ho
          have HNX : Hid (b2 = false → (ts.drop k2).length < N) := by
            show _ → _
            cases t with
            | false => intro hb; have ho1 : b2 = true := ho.1; rw [ho1] at hb; cases hb
            | true => exact HSH.out _ _ _ _ (HN2.out rfl) ho
          clear hf h2 g2 ho H G HO HR
          unfold hdC
          go_upto_region 4 with (at_builtin; go_must (refine wpList_pushE rfl _ _ elemEx rfl w2 HO2.out hl ⟨x, q, d⟩ HF.out rfl rfl rfl rfl (by omega) (by omega) (by omega) ?_; intro v' w3 ho hb3))
          have H3 := Lib.hid (H2.out.low hb3 hg); have G3 := Lib.hid (gr_low G2.out hb3 (Nat.le_refl _)); have HO3 := Lib.hid ho
          clear hb3 ho H2 G2 HO2 HF
          go_wp2_with fail
          go_roundw
          case rel => exact ⟨_, j' + 2, k2, b2, l ++ [⟨x, q, d⟩], rfl, by go_num, by omega, by simp; omega, HR2, HNX, H3, G3, HO3⟩
          case measure => simp [intOf] <;> omega
    · have hI : ¬ (j : Int) < n := by rw [HNN.out]; omega
      obtain rfl : j = m + 1 := by omega
      obtain ⟨q, d, hv, hf⟩ := HO.out.read
      have HF := Lib.hid hf; subst hv; clear hf
      obtain ⟨t, ht⟩ : ∃ t, (!b && isT 3 [41] (ts.drop k)) = t := ⟨_, rfl⟩
      have HT := Lib.hid ht; clear ht
      go_wp2_with fail
      refine (sign_ok H.out ⟨#[41]⟩ (sl := [41]) (by rw [Lib.toList_data]) HT.out rfl rfl).mono ?_
      rintro e w2 ⟨rfl, h2, g2⟩
      have H2 := Lib.hid h2; have G2 := Lib.hid (gr_trans G.out g2); have HF2 := Lib.hid (HF.out.grown g2 (by omega)); clear h2 g2
      go_wp2_with fail
      go_ret
      exact ⟨_, q, d, _, _, by rw [exL_len, hl]; rfl, HF2.out.inMid, H2.out, G2.out, some_end HR.out (.inr rfl) hj HT.out rfl rfl⟩
end Go.Proofs.YtckgmilmhofekaaGreatDoor
namespace Go.Proofs.YtckgmilmhofekaaGreatDoor
open Go.RowKit

set_option maxRecDepth 100000 in
set_option maxHeartbeats 4000000 in
theorem any_ok {w : World} {g : Nat} {p : Option Addr} {c : Nat} {ts : List Tok} {E : List Tok → PR} {N k0 : Nat} (hE : EOK g p c ts E N) (hS : Shrinks E) (h : Rd w g p c ts k0 false) (hN : (ts.drop k0).length < N) :
  Calls Tryz.prog 95 #[.pointer (some ⟨g, 0, none⟩)] w (LsPost g p c ts w (anyL E (ts.drop k0))) := by
 have H := Lib.hid h; have HE := Lib.hid hE; have HS := Lib.hid hS; have HN := Lib.hid hN
 have hg := h.bx.lt
 have hlen := h.len
 have hle0 := h.le
 clear h hE hS hN
 go_enter Tryz.func95, Tryz.ntmps95
 go_wp2_with fail
 refine (HE.out _ _ _ H.out (fun _ => HN.out)).mono ?_
 rintro e w1 ⟨x, q, d, k1, b1, rfl, hf, h1, g1, ho⟩
 have ho' : outR ts (E (ts.drop k0)) x k1 b1 := ho
 have hz1 := g1.size
 have HO1 := Lib.hid ho'
 have hle1 := h1.le
 have HA := Lib.hid (out_after HS.out ho' hle0 hle1)
 replace H := Lib.hid h1
 have G := Lib.hid g1
 have HF := Lib.hid hf
 clear h1 g1 hf ho ho'
 unfold hdC
 go_wp2_with fail
 refine nmW (w1.alloc (.cells #[.int .i64 x.op, .int .i64 x.n, .string ⟨x.unit.toArray⟩, .string ⟨x.name.toArray⟩, .slice q x.args.len d] 24)) fun w2 hv => ?_
 rw [← hv]
 have K : Bx w2 w1.heap.size 24 (Hd.cells ⟨x, q, d⟩).toArray := by rw [hv]; exact bx1 w1 _ _
 have hb_ := bah hv
 clear hv
 have HO : Hid (OwE w.heap.size w2 (.slice (some ⟨w1.heap.size, 0, none⟩) 1 1) [⟨x, q, d⟩]) := OwE.lit K (by omega) ((HF.out.keep hb_).mono fun b hb => ⟨hb.1, by have := hb.2; omega⟩)
 replace H := Lib.hid (H.out.keep hb_)
 replace G := Lib.hid (gr_call G.out hb_)
 clear hb_ K HF
 have HR0 : Hid (AnyR E ts k0 (exL [⟨x, q, d⟩]) k1 b1) := AnyR.first HO1.out
 go_loopg [3] (ts.length - k1) (fun gk v wr => ∃ (vv : Value) (k : Nat) (b : Bool) (l : List Hd), vv = v ∧ Hid (gk = ts.length - k) ∧ Hid (AnyR E ts k0 (exL l) k b) ∧ Hid (k0 ≤ k) ∧ Hid (b = false → k0 < k ∧ l.length ≤ k) ∧ Hid (Rd wr g p c ts k b) ∧ Hid (w.grownBy wr (some g)) ∧ Hid (OwE w.heap.size wr vv l))
 case atStart => exact ⟨_, k1, b1, [⟨x, q, d⟩], rfl, rfl, HR0, HA.out.1, (fun hb => ⟨HA.out.2 hb, by have := HA.out.2 hb; show 1 ≤ k1; omega⟩), H, G, HO⟩
 case round =>
  obtain ⟨v_, k, b, l, rfl, HK, HR, HM, HL, H, G, HO⟩ := hrel
  clear HR0 HO1 HA
  have hz := G.out.size
  obtain ⟨ct, hct⟩ : ∃ t, (!b && isT 3 [44] (ts.drop k)) = t := ⟨_, rfl⟩
  have HCT := Lib.hid hct; clear hct
  go_wp2_with fail
  refine (skip_ok H.out 3 ⟨#[44]⟩ (sl := [44]) (by rw [Lib.toList_data]) HCT.out rfl).mono ?_
  rintro e w3 ⟨rfl, h3, g3⟩
  have hz3 := g3.size
  replace HO := Lib.hid (HO.out.grown g3 (by omega))
  replace H := Lib.hid h3
  replace G := Lib.hid (gr_trans G.out g3)
  clear h3 g3
  cases ct with
  | false =>
   obtain ⟨q2, d2, hv, hf⟩ := HO.out.read
   have HF := Lib.hid hf; subst hv; clear hf
   obtain ⟨t, ht⟩ : ∃ t, (!b && isT 3 [41] (ts.drop k)) = t := ⟨_, rfl⟩
   have HT := Lib.hid ht; clear ht
   go_wp2_with fail
   refine (sign_ok H.out ⟨#[41]⟩ (sl := [41]) (by rw [Lib.toList_data]) HT.out rfl rfl).mono ?_
   rintro e w4 ⟨rfl, h2, g2⟩
   have H2 := Lib.hid h2; have G2 := Lib.hid (gr_trans G.out g2); have HF2 := Lib.hid (HF.out.grown g2 (by omega)); clear h2 g2
   go_wp2_with fail
   go_ret
   exact ⟨_, q2, d2, _, _, by rw [exL_len]; rfl, HF2.out.inMid, H2.out, G2.out, any_end HS.out HR.out HCT.out HT.out rfl rfl⟩
  | true =>
   have hct := HCT.out
   have hb : b = false := by cases b with | true => cases hct | false => rfl
   subst hb
   have ht : isT 3 [44] (ts.drop k) = true := hct
   clear hct
   have hlt := isT_lt ht
   have HT := Lib.hid ht
   have HN1 : Hid ((ts.drop (stepK true k)).length < N) := by
    show _ < _
    have := HN.out; have := HM.out
    show (ts.drop (k + 1)).length < N
    simp at *; omega
   have hcl : l.length ≤ k := by first | exact (HL.out rfl).2 | exact (HL.out trivial).2
   clear ht
   go_wp2_with (refine (HE.out _ _ _ H.out (fun _ => HN1.out)).mono ?_)
   rintro e w4 ⟨y, q2, d2, k2, b2, rfl, hf, h2, g2, ho⟩
   have ho' : outR ts (E (ts.drop (k + 1))) y k2 b2 := ho
   have hz4 := g2.size
   have hle2 := h2.le
   have HA := Lib.hid (out_after HS.out ho' (by omega) hle2)
   have HR2 : Hid (AnyR E ts k0 (exL (l ++ [⟨y, q2, d2⟩])) k2 b2) := by show AnyR _ _ _ _ _ _; rw [exL_snoc]; exact AnyR.next HR.out HT.out ho'
   have HF := Lib.hid (hf.mono (D' := fun b => w.heap.size ≤ b ∧ some b ≠ v_.ownBlock) (fun b hb => ⟨by have := hb.1; omega, own_low HO.out.own hb.1⟩))
   have HO2 := Lib.hid (HO.out.grown g2 (by omega))
   have H2 := Lib.hid h2; have G2 := Lib.hid (gr_trans G.out g2)
   clear hf h2 g2 ho ho' H G HO HR
   unfold hdC
   go_wp2_with (at_builtin; go_must (refine wpList_pushE rfl _ _ elemEx rfl w4 HO2.out rfl ⟨y, q2, d2⟩ HF.out rfl rfl rfl rfl (by omega) (by omega) (by omega) ?_; intro v' w5 ho hb3))
   have H3 := Lib.hid (H2.out.low hb3 hg); have G3 := Lib.hid (gr_low G2.out hb3 (Nat.le_refl _)); have HO3 := Lib.hid ho
   clear hb3 ho H2 G2 HO2 HF
   have hk2 := HA.out.1
   go_wp2_with fail
   go_roundg (ts.length - k2)
   case measure => have := HK.out; omega
   case rel => exact ⟨_, k2, b2, l ++ [⟨y, q2, d2⟩], rfl, rfl, HR2, (by have := HM.out; show _ ≤ _; omega), (fun hb => ⟨by have := HM.out; omega, by have := HA.out.2 hb; simp; omega⟩), H3, G3, HO3⟩
end Go.Proofs.YtckgmilmhofekaaGreatDoor
namespace Go.Proofs.YtckgmilmhofekaaGreatDoor
open Go.RowKit

theorem gate_false (l : List Tok) (R : PR) : gate false l R = R := rfl
theorem outR_bad {ts : List Tok} {k : Nat} {x : Ex} (R : PR) : outR ts (gate true (ts.drop k) R) x k true := ⟨rfl, rfl⟩
theorem paren_some (E : List Tok → PR) (l : List Tok) : someP E 0 l = match parenP E l with | .ok (x, r) => .ok (x.then .nil, r) | .error r => .error r := by
 unfold someP parenP
 cases E l with
 | error r => rfl
 | ok y =>
  obtain ⟨x, l1⟩ := y
  dsimp only
  unfold moreP
  cases needP 3 [41] l1 <;> rfl
theorem atom_num {E : List Tok → PR} {ts : List Tok} {k : Nat} (h : kindT 1 (ts.drop k) = true) (hk : k < ts.length) : atomP E (ts.drop k) = .ok (numP ts[k] (ts.drop (k + 1))) := by
 rw [kindT_at hk] at h
 rw [drop_tok hk, atomP_cons, if_pos (by simpa using h)]
theorem kind_not {l : List Tok} {t : Tok} {r : List Tok} (h : kindT 1 l = false) (hl : l = t :: r) : ¬ t.kind = 1 := by
 subst hl; exact beq_eq_false_iff_ne.1 (show (t.kind == 1) = false from h)
theorem atom_paren {E : List Tok → PR} {ts : List Tok} {k : Nat} (h1 : kindT 1 (ts.drop k) = false) (h2 : isT 3 [40] (ts.drop k) = true) : atomP E (ts.drop k) = parenP E (ts.drop (k + 1)) := by
 have hk := isT_lt h2
 have e := drop_tok hk
 rw [e] at h1 h2 ⊢
 rw [atomP_cons, if_neg (kind_not h1 rfl), if_pos h2]
theorem atom_look {E : List Tok → PR} {ts : List Tok} {k : Nat} (h1 : kindT 1 (ts.drop k) = false) (h2 : isT 3 [40] (ts.drop k) = false) (h3 : isT 0 wLook (ts.drop k) = true) : atomP E (ts.drop k) = lookP E (ts.drop (k + 1)) := by
 have hk := isT_lt h3
 have e := drop_tok hk
 rw [e] at h1 h2 h3 ⊢
 rw [atomP_cons, if_neg (kind_not h1 rfl), if_neg (by rw [h2]; decide), if_pos h3]
theorem atom_min {E : List Tok → PR} {ts : List Tok} {k : Nat} (h1 : kindT 1 (ts.drop k) = false) (h2 : isT 3 [40] (ts.drop k) = false) (h3 : isT 0 wLook (ts.drop k) = false) (h4 : isT 0 wMin (ts.drop k) = true) : atomP E (ts.drop k) = opensP E 10 1 (ts.drop (k + 1)) := by
 have hk := isT_lt h4
 have e := drop_tok hk
 rw [e] at h1 h2 h3 h4 ⊢
 rw [atomP_cons, if_neg (kind_not h1 rfl), if_neg (by rw [h2]; decide), if_neg (by rw [h3]; decide), if_pos h4]
theorem atom_max {E : List Tok → PR} {ts : List Tok} {k : Nat} (h1 : kindT 1 (ts.drop k) = false) (h2 : isT 3 [40] (ts.drop k) = false) (h3 : isT 0 wLook (ts.drop k) = false) (h4 : isT 0 wMin (ts.drop k) = false) (h5 : isT 0 wMax (ts.drop k) = true) : atomP E (ts.drop k) = opensP E 11 1 (ts.drop (k + 1)) := by
 have hk := isT_lt h5
 have e := drop_tok hk
 rw [e] at h1 h2 h3 h4 h5 ⊢
 rw [atomP_cons, if_neg (kind_not h1 rfl), if_neg (by rw [h2]; decide), if_neg (by rw [h3]; decide), if_neg (by rw [h4]; decide), if_pos h5]
theorem atom_rest {E : List Tok → PR} {l : List Tok} (h1 : kindT 1 l = false) (h2 : isT 3 [40] l = false) (h3 : isT 0 wLook l = false) (h4 : isT 0 wMin l = false) (h5 : isT 0 wMax l = false) :
    atomP E l = match nameP l with | .error r => .error r | .ok (m, r) => if isT 3 [40] r = true then callP E m r.tail else .ok (⟨1, 0, [], m, .nil⟩, r) := by
  cases l with
  | nil => rfl
  | cons t r =>
    rw [atomP_cons, if_neg (kind_not h1 rfl), if_neg (by rw [h2]; decide), if_neg (by rw [h3]; decide), if_neg (by rw [h4]; decide), if_neg (by rw [h5]; decide), nameP_cons]
    by_cases hc : t.kind = 0 ∧ wordB t.text = false
    · rw [if_pos hc, if_pos hc]
    · rw [if_neg hc, if_neg hc]
theorem nameP_at {ts : List Tok} {k : Nat} {m : Bytes} (h : nameV (ts.drop k) = (m, true)) : nameP (ts.drop k) = .ok (m, ts.drop (k + 1)) := by
 have := nameV_P.1 h
 rw [this.1, List.tail_drop]
theorem out_opens {E : List Tok → PR} {ts : List Tok} {op : Int} {j k1 k2 k3 : Nat} {t1 b3 : Bool} {a : Fo} (h1 : isT 3 [40] (ts.drop k1) = t1) (e1 : stepK t1 k1 = k2) (ho : outL ts (gateL (!t1) (ts.drop k2) (someP E j (ts.drop k2))) a k3 b3) : outR ts (opensP E op j (ts.drop k1)) ⟨op, 0, [], [], a⟩ k3 b3 := by
 unfold opensP
 cases t1 with
 | false =>
  obtain rfl : k1 = k2 := e1
  have ho : b3 = true ∧ ts.drop k1 = ts.drop k3 := ho
  rw [needP_not h1]; exact ho
 | true =>
  obtain rfl : k1 + 1 = k2 := e1
  have ho : outL ts (someP E j (ts.drop (k1 + 1))) a k3 b3 := ho
  rw [needP_yes h1]; dsimp only
  unfold outL at ho
  cases hq : someP E j (ts.drop (k1 + 1)) with
  | error r => rw [hq] at ho; exact ho
  | ok y => obtain ⟨f, r⟩ := y; rw [hq] at ho; obtain ⟨rfl, rfl, rfl⟩ := ho; exact ⟨rfl, rfl, rfl⟩
theorem out_look {E : List Tok → PR} {ts : List Tok} {k1 k2 k3 k4 k5 : Nat} {t1 ok t2 b4 b5 : Bool} {m : Bytes} {a : Fo} (h1 : isT 3 [40] (ts.drop k1) = t1) (e1 : stepK t1 k1 = k2) (hn : (if (!t1) = true then ([], false) else nameV (ts.drop k2)) = (m, ok)) (e2 : stepK ok k2 = k3)
  (h2 : (!(!ok) && isT 3 [44] (ts.drop k3)) = t2) (e3 : stepK t2 k3 = k4) (hb : (!t2 || !ok) = b4) (ho : outL ts (gateL b4 (ts.drop k4) (someP E 0 (ts.drop k4))) a k5 b5) : outR ts (lookP E (ts.drop k1)) ⟨2, 0, [], m, a⟩ k5 b5 := by
 unfold lookP
 cases t1 with
 | false =>
  obtain rfl : k1 = k2 := e1
  cases hn
  obtain rfl : k1 = k3 := e2
  subst h2; subst e3; subst hb
  have ho : b5 = true ∧ ts.drop k1 = ts.drop k5 := ho
  rw [needP_not h1]; exact ho
 | true =>
  obtain rfl : k1 + 1 = k2 := e1
  have hn : nameV (ts.drop (k1 + 1)) = (m, ok) := hn
  rw [needP_yes h1]; dsimp only
  cases ok with
  | false =>
   obtain rfl : k1 + 1 = k3 := e2
   subst h2; subst e3; subst hb
   have ho : b5 = true ∧ ts.drop (k1 + 1) = ts.drop k5 := ho
   rw [(nameV_P.2 hn).1]; exact ho
  | true =>
   obtain rfl : k1 + 1 + 1 = k3 := e2
   rw [nameP_at hn]; dsimp only
   have h2 : isT 3 [44] (ts.drop (k1 + 1 + 1)) = t2 := by rw [← h2]; rfl
   cases t2 with
   | false =>
    obtain rfl : k1 + 1 + 1 = k4 := e3
    subst hb
    have ho : b5 = true ∧ ts.drop (k1 + 1 + 1) = ts.drop k5 := ho
    rw [needP_not h2]; exact ho
   | true =>
    obtain rfl : k1 + 1 + 1 + 1 = k4 := e3
    subst hb
    have ho : outL ts (someP E 0 (ts.drop (k1 + 1 + 1 + 1))) a k5 b5 := ho
    rw [needP_yes h2]; dsimp only
    unfold outL at ho
    cases hq : someP E 0 (ts.drop (k1 + 1 + 1 + 1)) with
    | error r => rw [hq] at ho; exact ho
    | ok y => obtain ⟨f, r⟩ := y; rw [hq] at ho; obtain ⟨rfl, rfl, rfl⟩ := ho; exact ⟨rfl, rfl, rfl⟩
theorem out_callP {E : List Tok → PR} {ts : List Tok} {k k3 : Nat} {b3 : Bool} {m : Bytes} {a : Fo} (ho : outL ts (anyL E (ts.drop k)) a k3 b3) : outR ts (callP E m (ts.drop k)) ⟨3, 0, [], m, a⟩ k3 b3 := by
 rw [callP_is]
 unfold outL at ho
 cases hq : anyL E (ts.drop k) with
 | error r => rw [hq] at ho; exact ho
 | ok y => obtain ⟨f, r⟩ := y; rw [hq] at ho; obtain ⟨rfl, rfl, rfl⟩ := ho; exact ⟨rfl, rfl, rfl⟩
theorem out_paren {E : List Tok → PR} {ts : List Tok} {k k2 : Nat} {b2 : Bool} {a : Fo} (ho : outL ts (someP E 0 (ts.drop k)) a k2 b2) : (b2 = true → ∀ x, outR ts (parenP E (ts.drop k)) x k2 true) ∧ (b2 = false → ∃ x, a = x.then .nil ∧ outR ts (parenP E (ts.drop k)) x k2 false) := by
 rw [paren_some] at ho
 cases hq : parenP E (ts.drop k) with
 | error r => rw [hq] at ho; exact ⟨(fun _ x => ⟨rfl, ho.2⟩), (fun hb => by have := ho.1; rw [hb] at this; cases this)⟩
 | ok y =>
  obtain ⟨x, r⟩ := y
  rw [hq] at ho
  exact ⟨(fun hb => by have := ho.2.1; rw [hb] at this; cases this), (fun _ => ⟨x, ho.1, rfl, rfl, ho.2.2⟩)⟩
set_option maxRecDepth 100000 in
set_option maxHeartbeats 4000000 in
theorem atom_ok {w : World} {g : Nat} {p : Option Addr} {c : Nat} {ts : List Tok} {E : List Tok → PR} {N k : Nat} {b : Bool} (hE : EOK g p c ts E N) (hS : Shrinks E) (h : Rd w g p c ts k b) (hN : b = false → (ts.drop k).length ≤ N) :
  Calls Tryz.prog 64 #[.pointer (some ⟨g, 0, none⟩)] w (ExPost g p c ts w (gate b (ts.drop k) (atomP E (ts.drop k)))) := by
 have H := Lib.hid h; have HE := Lib.hid hE; have HS := Lib.hid hS; have HN := Lib.hid hN
 have hg := h.bx.lt
 have G : Hid (w.grownBy w (some g)) := gr_refl g w
 have hlen := h.len
 clear h hE hS hN
 go_enter Tryz.func64, Tryz.ntmps64
 go_upto_region 1 with fail
 refine nmW (w.alloc (.cells #[.int .i64 0, .int .i64 0, .string ⟨#[]⟩, .string ⟨#[]⟩, .slice none 0 0] 24)) fun w1 hv => ?_
 rw [← hv]
 have K := bxh hv
 have hb_ := bah hv
 clear hv
 have z1_ := K.out.lt
 replace H := Lib.hid (H.out.keep hb_)
 replace G := Lib.hid (gr_call G.out hb_)
 have z2_ := hb_.size
 clear hb_
 cases b with
 | true =>
  obtain ⟨r0_, r1_, r2_, s0_, s1_, s2_⟩ := H.out.bx.r3
  refine K.out.e5 fun pK_0 qK_0 pK_1 qK_1 pK_2 qK_2 pK_3 qK_3 pK_4 qK_4 => ?_
  go_wp2_with fail
  clear r0_ r1_ r2_ s0_ s1_ s2_ pK_0 qK_0 pK_1 qK_1 pK_2 qK_2 pK_3 qK_3 pK_4 qK_4
  refine nmW (((((w1.setCell ⟨w.heap.size, 0, none⟩ (.int .i64 0)).setCell ⟨w.heap.size, 1, none⟩ (.int .i64 0)).setCell ⟨w.heap.size, 2, none⟩ (.string ⟨#[]⟩)).setCell ⟨w.heap.size, 3, none⟩ (.string ⟨#[]⟩)).setCell ⟨w.heap.size, 4, none⟩ (.slice none 0 0)) fun w2 hv => ?_
  rw [← hv]
  have og_ : w1.grownBy w2 (some w.heap.size) := by rw [hv]; exact gs5
  have kb_ : Bx w2 w.heap.size 24 #[.int .i64 0, .int .i64 0, .string ⟨#[]⟩, .string ⟨#[]⟩, .slice none 0 0] := by rw [hv]; exact (((((K.out.set 0 _).set 1 _).set 2 _).set 3 _).set 4 _)
  clear hv
  replace H := Lib.hid (H.out.other og_ (by omega))
  replace G := Lib.hid (gr_new G.out og_ (by omega))
  replace K := Lib.hid kb_
  have z3_ := og_.size
  clear og_ kb_
  refine bodyPost_ret (results_box1 rfl _ _ w.heap.size 24 _ _ _ rfl K.out Tryz.underlying24 rfl (by kernel_rfl)) rfl ?_
  exact ⟨Ex.zero, none, 0, k, true, rfl, FoS.nil, H.out, G.out, outR_bad _⟩
 | false =>
  have hN1 : (ts.drop k).length ≤ N := by first | exact HN.out rfl | exact HN.out trivial
  have HN1 := Lib.hid hN1; clear hN1
  obtain ⟨y1, hy1⟩ : ∃ t, kindT 1 (ts.drop k) = t := ⟨_, rfl⟩
  have Hy1 := Lib.hid hy1; clear hy1
  obtain ⟨r0_, r1_, r2_, s0_, s1_, s2_⟩ := H.out.bx.r3
  go_upto_region 3 with fail
  clear r0_ r1_ r2_ s0_ s1_ s2_
  go_wp2_with fail
  refine (kind_ok (b_ := y1) H.out 1 (by rw [Hy1.out]; rfl)).mono ?_
  rintro e w3 ⟨rfl, hb⟩
  replace H := Lib.hid (H.out.keep hb)
  replace G := Lib.hid (gr_call G.out hb)
  replace K := Lib.hid (K.out.keep hb)
  have z4_ := hb.size
  clear hb
  cases y1 with
  | true =>
   have hk := kindT_lt Hy1.out
   go_wp2_with fail
   refine (number_ok H.out hk rfl).mono ?_
   rintro e w4 ⟨x, q, d, k2, b2, rfl, hf_, h2_, g2_, ho_⟩
   replace H := Lib.hid h2_
   replace G := Lib.hid (gr_trans G.out g2_)
   replace K := Lib.hid (K.out.only g2_ (by omega))
   have z5_ := g2_.size
   clear h2_ g2_
   have F := Lib.hid hf_; have ho := Lib.hid ho_; clear hf_ ho_
   unfold hdC
   refine K.out.e5 fun pK_0 qK_0 pK_1 qK_1 pK_2 qK_2 pK_3 qK_3 pK_4 qK_4 => ?_
   go_wp2_with fail
   clear pK_0 qK_0 pK_1 qK_1 pK_2 qK_2 pK_3 qK_3 pK_4 qK_4
   refine nmW (((((w4.setCell ⟨w.heap.size, 0, none⟩ (.int .i64 x.op)).setCell ⟨w.heap.size, 1, none⟩ (.int .i64 x.n)).setCell ⟨w.heap.size, 2, none⟩ (.string ⟨x.unit.toArray⟩)).setCell ⟨w.heap.size, 3, none⟩ (.string ⟨x.name.toArray⟩)).setCell ⟨w.heap.size, 4, none⟩ (.slice q x.args.len d)) fun w5 hv => ?_
   rw [← hv]
   have og_ : w4.grownBy w5 (some w.heap.size) := by rw [hv]; exact gs5
   have kb_ : Bx w5 w.heap.size 24 #[.int .i64 x.op, .int .i64 x.n, .string ⟨x.unit.toArray⟩, .string ⟨x.name.toArray⟩, .slice q x.args.len d] := by rw [hv]; exact (((((K.out.set 0 _).set 1 _).set 2 _).set 3 _).set 4 _)
   clear hv
   replace H := Lib.hid (H.out.other og_ (by omega))
   replace G := Lib.hid (gr_new G.out og_ (by omega))
   replace K := Lib.hid kb_
   replace F := Lib.hid (F.out.grown og_ (fun hd => by have := hd.1; have := hd.2; omega))
   have z6_ := og_.size
   clear og_ kb_
   refine bodyPost_ret (results_box1 rfl _ _ w.heap.size 24 _ _ _ rfl K.out Tryz.underlying24 rfl (by kernel_rfl)) rfl ?_
   exact ⟨x, q, d, k2, b2, rfl, (F.out.mono (fun b hb => ⟨by have := hb.1; omega, by have := hb.2; omega⟩)), H.out, G.out, by rw [gate_false, atom_num Hy1.out hk]; exact ho.out⟩
  | false =>
   obtain ⟨y2, hy2⟩ : ∃ t, isT 3 [40] (ts.drop k) = t := ⟨_, rfl⟩
   have Hy2 := Lib.hid hy2; clear hy2
   go_wp2_with fail
   refine (skip_ok (b_ := y2) (k' := stepK y2 k) H.out 3 ⟨#[40]⟩ (sl := [40]) (by rw [Lib.toList_data]) (by rw [Hy2.out]; rfl) rfl).mono ?_
   rintro e w6 ⟨rfl, h2_, g2_⟩
   replace H := Lib.hid h2_
   replace G := Lib.hid (gr_trans G.out g2_)
   replace K := Lib.hid (K.out.only g2_ (by omega))
   have z7_ := g2_.size
   clear h2_ g2_
   cases y2 with
   | true =>
    have hlt := isT_lt Hy2.out
    have HN2 : Hid ((ts.drop (stepK true k)).length < N) := by
     show _ < _; have := HN1.out; show (ts.drop (k + 1)).length < N; simp at *; omega
    go_wp2_with fail
    refine (some_ok (m := 0) HE.out HS.out H.out (fun _ => HN2.out) (by decide) rfl).mono ?_
    rintro e w7 ⟨a1, q1, d1, k2, b2, rfl, hf_, h2_, g2_, ho_⟩
    replace H := Lib.hid h2_
    replace G := Lib.hid (gr_trans G.out g2_)
    replace K := Lib.hid (K.out.only g2_ (by omega))
    have z8_ := g2_.size
    clear h2_ g2_
    have F := Lib.hid hf_; have ho := Lib.hid ho_; clear hf_ ho_
    have HP := Lib.hid (out_paren (show outL ts (someP E 0 (ts.drop (k + 1))) a1 k2 b2 from ho.out))
    cases b2 with
    | true =>
     obtain ⟨r0_, r1_, r2_, s0_, s1_, s2_⟩ := H.out.bx.r3
     refine K.out.e5 fun pK_0 qK_0 pK_1 qK_1 pK_2 qK_2 pK_3 qK_3 pK_4 qK_4 => ?_
     go_wp2_with fail
     clear r0_ r1_ r2_ s0_ s1_ s2_ pK_0 qK_0 pK_1 qK_1 pK_2 qK_2 pK_3 qK_3 pK_4 qK_4
     refine nmW (((((w7.setCell ⟨w.heap.size, 0, none⟩ (.int .i64 0)).setCell ⟨w.heap.size, 1, none⟩ (.int .i64 0)).setCell ⟨w.heap.size, 2, none⟩ (.string ⟨#[]⟩)).setCell ⟨w.heap.size, 3, none⟩ (.string ⟨#[]⟩)).setCell ⟨w.heap.size, 4, none⟩ (.slice none 0 0)) fun w8 hv => ?_
     rw [← hv]
     have og_ : w7.grownBy w8 (some w.heap.size) := by rw [hv]; exact gs5
     have kb_ : Bx w8 w.heap.size 24 #[.int .i64 0, .int .i64 0, .string ⟨#[]⟩, .string ⟨#[]⟩, .slice none 0 0] := by rw [hv]; exact (((((K.out.set 0 _).set 1 _).set 2 _).set 3 _).set 4 _)
     clear hv
     replace H := Lib.hid (H.out.other og_ (by omega))
     replace G := Lib.hid (gr_new G.out og_ (by omega))
     replace K := Lib.hid kb_
     replace F := Lib.hid (F.out.grown og_ (fun hd => by have := hd.1; have := hd.2; omega))
     have z9_ := og_.size
     clear og_ kb_
     refine bodyPost_ret (results_box1 rfl _ _ w.heap.size 24 _ _ _ rfl K.out Tryz.underlying24 rfl (by kernel_rfl)) rfl ?_
     exact ⟨Ex.zero, none, 0, k2, true, rfl, FoS.nil, H.out, G.out, by rw [gate_false, atom_paren Hy1.out Hy2.out]; exact HP.out.1 (by first | rfl | trivial) _⟩
    | false =>
     obtain ⟨x, hx, ho2⟩ := HP.out.2 (by first | rfl | trivial)
     subst hx
     obtain ⟨bb, oo, q, d, rfl, hbb, hcell, hdeep⟩ := F.out.at (k := 0) (x := x) rfl
     have F2 := Lib.hid hdeep; have HO2 := Lib.hid ho2; clear hdeep ho2
     have HC := Lib.hid hcell; clear hcell
     have e0 : w7.cell? ⟨bb, oo, none⟩ = some (.int .i64 x.op) := HC.out 0 _ rfl
     have e1 : w7.cell? ⟨bb, oo + 1, none⟩ = some (.int .i64 x.n) := HC.out 1 _ rfl
     have e2 : w7.cell? ⟨bb, oo + 2, none⟩ = some (.string ⟨x.unit.toArray⟩) := HC.out 2 _ rfl
     have e3 : w7.cell? ⟨bb, oo + 3, none⟩ = some (.string ⟨x.name.toArray⟩) := HC.out 3 _ rfl
     have e4 : w7.cell? ⟨bb, oo + 4, none⟩ = some (.slice q x.args.len d) := HC.out 4 _ rfl
     obtain ⟨r0_, r1_, r2_, s0_, s1_, s2_⟩ := H.out.bx.r3
     refine K.out.e5 fun pK_0 qK_0 pK_1 qK_1 pK_2 qK_2 pK_3 qK_3 pK_4 qK_4 => ?_
     have hl1 : (x.then Fo.nil).len = 1 := rfl
     go_wp2_with fail
     clear r0_ r1_ r2_ s0_ s1_ s2_ pK_0 qK_0 pK_1 qK_1 pK_2 qK_2 pK_3 qK_3 pK_4 qK_4 e0 e1 e2 e3 e4
     refine nmW (((((w7.setCell ⟨w.heap.size, 0, none⟩ (.int .i64 x.op)).setCell ⟨w.heap.size, 1, none⟩ (.int .i64 x.n)).setCell ⟨w.heap.size, 2, none⟩ (.string ⟨x.unit.toArray⟩)).setCell ⟨w.heap.size, 3, none⟩ (.string ⟨x.name.toArray⟩)).setCell ⟨w.heap.size, 4, none⟩ (.slice q x.args.len d)) fun w9 hv => ?_
     rw [← hv]
     have og_ : w7.grownBy w9 (some w.heap.size) := by rw [hv]; exact gs5
     have kb_ : Bx w9 w.heap.size 24 #[.int .i64 x.op, .int .i64 x.n, .string ⟨x.unit.toArray⟩, .string ⟨x.name.toArray⟩, .slice q x.args.len d] := by rw [hv]; exact (((((K.out.set 0 _).set 1 _).set 2 _).set 3 _).set 4 _)
     clear hv
     replace H := Lib.hid (H.out.other og_ (by omega))
     replace G := Lib.hid (gr_new G.out og_ (by omega))
     replace K := Lib.hid kb_
     replace F := Lib.hid (F.out.grown og_ (fun hd => by have := hd.1; have := hd.2; omega))
     replace F2 := Lib.hid (F2.out.grown og_ (fun hd => by have := hd.1; have := hd.2; omega))
     have z10_ := og_.size
     clear og_ kb_
     refine bodyPost_ret (results_box1 rfl _ _ w.heap.size 24 _ _ _ rfl K.out Tryz.underlying24 rfl (by kernel_rfl)) rfl ?_
     exact ⟨x, q, d, k2, false, rfl, (F2.out.mono (fun b hb => ⟨by have := hb.1; omega, by have := hb.2; omega⟩)), H.out, G.out, by rw [gate_false, atom_paren Hy1.out Hy2.out]; exact HO2.out⟩
   | false =>
    replace H : Hid (Rd w6 g p c ts k false) := H
    obtain ⟨y3, hy3⟩ : ∃ t, isT 0 wLook (ts.drop k) = t := ⟨_, rfl⟩
    have Hy3 := Lib.hid hy3; clear hy3
    go_wp2_with fail
    refine (skip_ok (b_ := y3) (k' := stepK y3 k) H.out 0 ⟨#[108, 111, 111, 107]⟩ (sl := wLook) (by rw [Lib.toList_data]; rfl) (by rw [Hy3.out]; rfl) rfl).mono ?_
    rintro e w10 ⟨rfl, h2_, g2_⟩
    replace H := Lib.hid h2_
    replace G := Lib.hid (gr_trans G.out g2_)
    replace K := Lib.hid (K.out.only g2_ (by omega))
    have z11_ := g2_.size
    clear h2_ g2_
    cases y3 with
    | true =>
     have hlt := isT_lt Hy3.out
     have HN2 : Hid ((ts.drop (stepK true k)).length < N) := by
      show _ < _; have := HN1.out; show (ts.drop (k + 1)).length < N; simp at *; omega
     obtain ⟨z1, hz1⟩ : ∃ t, isT 3 [40] (ts.drop (k + 1)) = t := ⟨_, rfl⟩
     have Hz1 := Lib.hid hz1; clear hz1
     go_wp2_with fail
     refine (sign_ok (b_ := z1) (k' := stepK z1 (k + 1)) (bad' := !z1) H.out ⟨#[40]⟩ (sl := [40]) (by rw [Lib.toList_data]) (by show (!false && isT 3 [40] (ts.drop (k + 1))) = z1; rw [Hz1.out]; rfl) rfl (by cases z1 <;> rfl)).mono ?_
     rintro e w11 ⟨rfl, h2_, g2_⟩
     replace H := Lib.hid h2_
     replace G := Lib.hid (gr_trans G.out g2_)
     replace K := Lib.hid (K.out.only g2_ (by omega))
     have z12_ := g2_.size
     clear h2_ g2_
     obtain ⟨m, ok, hnv⟩ : ∃ m ok, (if (!z1) = true then ([], false) else nameV (ts.drop (stepK z1 (k + 1)))) = (m, ok) := ⟨_, _, rfl⟩
     have HNV := Lib.hid hnv; clear hnv
     go_wp2_with fail
     refine (name_ok (ok := ok) (m := m) (k' := stepK ok (stepK z1 (k + 1))) (bad' := !ok) H.out HNV.out rfl rfl).mono ?_
     rintro e w12 ⟨rfl, h2_, g2_⟩
     replace H := Lib.hid h2_
     replace G := Lib.hid (gr_trans G.out g2_)
     replace K := Lib.hid (K.out.only g2_ (by omega))
     have z13_ := g2_.size
     clear h2_ g2_
     obtain ⟨z2, hz2⟩ : ∃ t, (!(!ok) && isT 3 [44] (ts.drop (stepK ok (stepK z1 (k + 1))))) = t := ⟨_, rfl⟩
     have Hz2 := Lib.hid hz2; clear hz2
     go_wp2_with fail
     refine (sign_ok (b_ := z2) (k' := stepK z2 (stepK ok (stepK z1 (k + 1)))) (bad' := !z2 || !ok) H.out ⟨#[44]⟩ (sl := [44]) (by rw [Lib.toList_data]) Hz2.out rfl rfl).mono ?_
     rintro e w13 ⟨rfl, h2_, g2_⟩
     replace H := Lib.hid h2_
     replace G := Lib.hid (gr_trans G.out g2_)
     replace K := Lib.hid (K.out.only g2_ (by omega))
     have z14_ := g2_.size
     clear h2_ g2_
     have HN3 : Hid ((ts.drop (stepK z2 (stepK ok (stepK z1 (k + 1))))).length < N) := by
      show _ < _
      have h1 := HN2.out
      refine Nat.lt_of_le_of_lt ?_ h1
      simp [stepK]; repeat' split
      all_goals omega
     go_wp2_with fail
     refine (some_ok (m := 0) HE.out HS.out H.out (fun _ => HN3.out) (by decide) rfl).mono ?_
     rintro e w14 ⟨a1, q1, d1, k2, b2, rfl, hf_, h2_, g2_, ho_⟩
     replace H := Lib.hid h2_
     replace G := Lib.hid (gr_trans G.out g2_)
     replace K := Lib.hid (K.out.only g2_ (by omega))
     have z15_ := g2_.size
     clear h2_ g2_
     have F := Lib.hid hf_; have ho := Lib.hid ho_; clear hf_ ho_
     refine K.out.e5 fun pK_0 qK_0 pK_1 qK_1 pK_2 qK_2 pK_3 qK_3 pK_4 qK_4 => ?_
     go_wp2_with fail
     clear pK_0 qK_0 pK_1 qK_1 pK_2 qK_2 pK_3 qK_3 pK_4 qK_4
     refine nmW (((((w14.setCell ⟨w.heap.size, 0, none⟩ (.int .i64 2)).setCell ⟨w.heap.size, 1, none⟩ (.int .i64 0)).setCell ⟨w.heap.size, 2, none⟩ (.string ⟨#[]⟩)).setCell ⟨w.heap.size, 3, none⟩ (.string ⟨m.toArray⟩)).setCell ⟨w.heap.size, 4, none⟩ (.slice q1 a1.len d1)) fun w15 hv => ?_
     rw [← hv]
     have og_ : w14.grownBy w15 (some w.heap.size) := by rw [hv]; exact gs5
     have kb_ : Bx w15 w.heap.size 24 #[.int .i64 2, .int .i64 0, .string ⟨#[]⟩, .string ⟨m.toArray⟩, .slice q1 a1.len d1] := by rw [hv]; exact (((((K.out.set 0 _).set 1 _).set 2 _).set 3 _).set 4 _)
     clear hv
     replace H := Lib.hid (H.out.other og_ (by omega))
     replace G := Lib.hid (gr_new G.out og_ (by omega))
     replace K := Lib.hid kb_
     replace F := Lib.hid (F.out.grown og_ (fun hd => by have := hd.1; have := hd.2; omega))
     have z16_ := og_.size
     clear og_ kb_
     refine bodyPost_ret (results_box1 rfl _ _ w.heap.size 24 _ _ _ rfl K.out Tryz.underlying24 rfl (by kernel_rfl)) rfl ?_
     exact ⟨⟨2, 0, [], m, a1⟩, q1, d1, k2, b2, rfl, (F.out.mono (fun b hb => ⟨by have := hb.1; omega, by have := hb.2; omega⟩)), H.out, G.out, by rw [gate_false, atom_look Hy1.out Hy2.out Hy3.out]; exact out_look Hz1.out rfl HNV.out rfl Hz2.out rfl rfl ho.out⟩
    | false =>
     replace H : Hid (Rd w10 g p c ts k false) := H
     obtain ⟨y4, hy4⟩ : ∃ t, isT 0 wMin (ts.drop k) = t := ⟨_, rfl⟩
     have Hy4 := Lib.hid hy4; clear hy4
     go_wp2_with fail
     refine (skip_ok (b_ := y4) (k' := stepK y4 k) H.out 0 ⟨#[109, 105, 110]⟩ (sl := wMin) (by rw [Lib.toList_data]; rfl) (by rw [Hy4.out]; rfl) rfl).mono ?_
     rintro e w16 ⟨rfl, h2_, g2_⟩
     replace H := Lib.hid h2_
     replace G := Lib.hid (gr_trans G.out g2_)
     replace K := Lib.hid (K.out.only g2_ (by omega))
     have z17_ := g2_.size
     clear h2_ g2_
     cases y4 with
     | true =>
      have hlt := isT_lt Hy4.out
      have HN2 : Hid ((ts.drop (stepK true k)).length < N) := by
       show _ < _; have := HN1.out; show (ts.drop (k + 1)).length < N; simp at *; omega
      obtain ⟨z1, hz1⟩ : ∃ t, isT 3 [40] (ts.drop (k + 1)) = t := ⟨_, rfl⟩
      have Hz1 := Lib.hid hz1; clear hz1
      go_wp2_with fail
      refine (sign_ok (b_ := z1) (k' := stepK z1 (k + 1)) (bad' := !z1) H.out ⟨#[40]⟩ (sl := [40]) (by rw [Lib.toList_data]) (by show (!false && isT 3 [40] (ts.drop (k + 1))) = z1; rw [Hz1.out]; rfl) rfl (by cases z1 <;> rfl)).mono ?_
      rintro e w17 ⟨rfl, h2_, g2_⟩
      replace H := Lib.hid h2_
      replace G := Lib.hid (gr_trans G.out g2_)
      replace K := Lib.hid (K.out.only g2_ (by omega))
      have z18_ := g2_.size
      clear h2_ g2_
      have HN3 : Hid ((ts.drop (stepK z1 (k + 1))).length < N) := by
       show _ < _
       have h1 := HN2.out
       refine Nat.lt_of_le_of_lt ?_ h1
       simp [stepK]; repeat' split
       all_goals omega
      go_wp2_with fail
      refine (some_ok (m := 1) HE.out HS.out H.out (fun _ => HN3.out) (by decide) rfl).mono ?_
      rintro e w18 ⟨a1, q1, d1, k2, b2, rfl, hf_, h2_, g2_, ho_⟩
      replace H := Lib.hid h2_
      replace G := Lib.hid (gr_trans G.out g2_)
      replace K := Lib.hid (K.out.only g2_ (by omega))
      have z19_ := g2_.size
      clear h2_ g2_
      have F := Lib.hid hf_; have ho := Lib.hid ho_; clear hf_ ho_
      refine K.out.e5 fun pK_0 qK_0 pK_1 qK_1 pK_2 qK_2 pK_3 qK_3 pK_4 qK_4 => ?_
      go_wp2_with fail
      clear pK_0 qK_0 pK_1 qK_1 pK_2 qK_2 pK_3 qK_3 pK_4 qK_4
      refine nmW (((((w18.setCell ⟨w.heap.size, 0, none⟩ (.int .i64 10)).setCell ⟨w.heap.size, 1, none⟩ (.int .i64 0)).setCell ⟨w.heap.size, 2, none⟩ (.string ⟨#[]⟩)).setCell ⟨w.heap.size, 3, none⟩ (.string ⟨#[]⟩)).setCell ⟨w.heap.size, 4, none⟩ (.slice q1 a1.len d1)) fun w19 hv => ?_
      rw [← hv]
      have og_ : w18.grownBy w19 (some w.heap.size) := by rw [hv]; exact gs5
      have kb_ : Bx w19 w.heap.size 24 #[.int .i64 10, .int .i64 0, .string ⟨#[]⟩, .string ⟨#[]⟩, .slice q1 a1.len d1] := by rw [hv]; exact (((((K.out.set 0 _).set 1 _).set 2 _).set 3 _).set 4 _)
      clear hv
      replace H := Lib.hid (H.out.other og_ (by omega))
      replace G := Lib.hid (gr_new G.out og_ (by omega))
      replace K := Lib.hid kb_
      replace F := Lib.hid (F.out.grown og_ (fun hd => by have := hd.1; have := hd.2; omega))
      have z20_ := og_.size
      clear og_ kb_
      refine bodyPost_ret (results_box1 rfl _ _ w.heap.size 24 _ _ _ rfl K.out Tryz.underlying24 rfl (by kernel_rfl)) rfl ?_
      exact ⟨⟨10, 0, [], [], a1⟩, q1, d1, k2, b2, rfl, (F.out.mono (fun b hb => ⟨by have := hb.1; omega, by have := hb.2; omega⟩)), H.out, G.out, by rw [gate_false, atom_min Hy1.out Hy2.out Hy3.out Hy4.out]; exact out_opens Hz1.out rfl ho.out⟩
     | false =>
      replace H : Hid (Rd w16 g p c ts k false) := H
      obtain ⟨y5, hy5⟩ : ∃ t, isT 0 wMax (ts.drop k) = t := ⟨_, rfl⟩
      have Hy5 := Lib.hid hy5; clear hy5
      go_wp2_with fail
      refine (skip_ok (b_ := y5) (k' := stepK y5 k) H.out 0 ⟨#[109, 97, 120]⟩ (sl := wMax) (by rw [Lib.toList_data]; rfl) (by rw [Hy5.out]; rfl) rfl).mono ?_
      rintro e w20 ⟨rfl, h2_, g2_⟩
      replace H := Lib.hid h2_
      replace G := Lib.hid (gr_trans G.out g2_)
      replace K := Lib.hid (K.out.only g2_ (by omega))
      have z21_ := g2_.size
      clear h2_ g2_
      cases y5 with
      | true =>
       have hlt := isT_lt Hy5.out
       have HN2 : Hid ((ts.drop (stepK true k)).length < N) := by
        show _ < _; have := HN1.out; show (ts.drop (k + 1)).length < N; simp at *; omega
       obtain ⟨z1, hz1⟩ : ∃ t, isT 3 [40] (ts.drop (k + 1)) = t := ⟨_, rfl⟩
       have Hz1 := Lib.hid hz1; clear hz1
       go_wp2_with fail
       refine (sign_ok (b_ := z1) (k' := stepK z1 (k + 1)) (bad' := !z1) H.out ⟨#[40]⟩ (sl := [40]) (by rw [Lib.toList_data]) (by show (!false && isT 3 [40] (ts.drop (k + 1))) = z1; rw [Hz1.out]; rfl) rfl (by cases z1 <;> rfl)).mono ?_
       rintro e w21 ⟨rfl, h2_, g2_⟩
       replace H := Lib.hid h2_
       replace G := Lib.hid (gr_trans G.out g2_)
       replace K := Lib.hid (K.out.only g2_ (by omega))
       have z22_ := g2_.size
       clear h2_ g2_
       have HN3 : Hid ((ts.drop (stepK z1 (k + 1))).length < N) := by
        show _ < _
        have h1 := HN2.out
        refine Nat.lt_of_le_of_lt ?_ h1
        simp [stepK]; repeat' split
        all_goals omega
       go_wp2_with fail
       refine (some_ok (m := 1) HE.out HS.out H.out (fun _ => HN3.out) (by decide) rfl).mono ?_
       rintro e w22 ⟨a1, q1, d1, k2, b2, rfl, hf_, h2_, g2_, ho_⟩
       replace H := Lib.hid h2_
       replace G := Lib.hid (gr_trans G.out g2_)
       replace K := Lib.hid (K.out.only g2_ (by omega))
       have z23_ := g2_.size
       clear h2_ g2_
       have F := Lib.hid hf_; have ho := Lib.hid ho_; clear hf_ ho_
       refine K.out.e5 fun pK_0 qK_0 pK_1 qK_1 pK_2 qK_2 pK_3 qK_3 pK_4 qK_4 => ?_
       go_wp2_with fail
       clear pK_0 qK_0 pK_1 qK_1 pK_2 qK_2 pK_3 qK_3 pK_4 qK_4
       refine nmW (((((w22.setCell ⟨w.heap.size, 0, none⟩ (.int .i64 11)).setCell ⟨w.heap.size, 1, none⟩ (.int .i64 0)).setCell ⟨w.heap.size, 2, none⟩ (.string ⟨#[]⟩)).setCell ⟨w.heap.size, 3, none⟩ (.string ⟨#[]⟩)).setCell ⟨w.heap.size, 4, none⟩ (.slice q1 a1.len d1)) fun w23 hv => ?_
       rw [← hv]
       have og_ : w22.grownBy w23 (some w.heap.size) := by rw [hv]; exact gs5
       have kb_ : Bx w23 w.heap.size 24 #[.int .i64 11, .int .i64 0, .string ⟨#[]⟩, .string ⟨#[]⟩, .slice q1 a1.len d1] := by rw [hv]; exact (((((K.out.set 0 _).set 1 _).set 2 _).set 3 _).set 4 _)
       clear hv
       replace H := Lib.hid (H.out.other og_ (by omega))
       replace G := Lib.hid (gr_new G.out og_ (by omega))
       replace K := Lib.hid kb_
       replace F := Lib.hid (F.out.grown og_ (fun hd => by have := hd.1; have := hd.2; omega))
       have z24_ := og_.size
       clear og_ kb_
       refine bodyPost_ret (results_box1 rfl _ _ w.heap.size 24 _ _ _ rfl K.out Tryz.underlying24 rfl (by kernel_rfl)) rfl ?_
       exact ⟨⟨11, 0, [], [], a1⟩, q1, d1, k2, b2, rfl, (F.out.mono (fun b hb => ⟨by have := hb.1; omega, by have := hb.2; omega⟩)), H.out, G.out, by rw [gate_false, atom_max Hy1.out Hy2.out Hy3.out Hy4.out Hy5.out]; exact out_opens Hz1.out rfl ho.out⟩
      | false =>
       replace H : Hid (Rd w20 g p c ts k false) := H
       have HAT := Lib.hid (atom_rest (E := E) Hy1.out Hy2.out Hy3.out Hy4.out Hy5.out)
       obtain ⟨m, ok, hnv⟩ : ∃ m ok, nameV (ts.drop k) = (m, ok) := ⟨_, _, rfl⟩
       have HNV := Lib.hid hnv; clear hnv
       go_wp2_with fail
       refine (name_ok (bad := false) (ok := ok) (m := m) (k := k) (k' := stepK ok k) (bad' := !ok) H.out HNV.out rfl rfl).mono ?_
       rintro e w24 ⟨rfl, h2_, g2_⟩
       replace H := Lib.hid h2_
       replace G := Lib.hid (gr_trans G.out g2_)
       replace K := Lib.hid (K.out.only g2_ (by omega))
       have z25_ := g2_.size
       clear h2_ g2_
       go_upto_region 22 with fail
       refine nmW (w24.alloc (.cells #[.int .i64 1, .int .i64 0, .string ⟨#[]⟩, .string ⟨m.toArray⟩, .slice none 0 0] 24)) fun w25 hv => ?_
       rw [← hv]
       have L := bxh hv
       have hb_ := bah hv
       clear hv
       have z26_ := L.out.lt
       replace H := Lib.hid (H.out.keep hb_)
       replace G := Lib.hid (gr_call G.out hb_)
       replace K := Lib.hid (K.out.keep hb_)
       have z27_ := hb_.size
       clear hb_
       obtain ⟨z1, hz1⟩ : ∃ t, (!(!ok) && isT 3 [40] (ts.drop (stepK ok k))) = t := ⟨_, rfl⟩
       have Hz1 := Lib.hid hz1; clear hz1
       go_wp2_with fail
       refine (skip_ok (b_ := z1) (k' := stepK z1 (stepK ok k)) H.out 3 ⟨#[40]⟩ (sl := [40]) (by rw [Lib.toList_data]) Hz1.out rfl).mono ?_
       rintro e w26 ⟨rfl, h2_, g2_⟩
       replace H := Lib.hid h2_
       replace G := Lib.hid (gr_trans G.out g2_)
       replace K := Lib.hid (K.out.only g2_ (by omega))
       replace L := Lib.hid (L.out.only g2_ (by omega))
       have z28_ := g2_.size
       clear h2_ g2_
       cases z1 with
       | true =>
        have hok : ok = true := by have := Hz1.out; cases ok with | true => rfl | false => cases this
        subst hok
        have hz1 : isT 3 [40] (ts.drop (k + 1)) = true := Hz1.out
        have HZ1 := Lib.hid hz1; have hlt := isT_lt hz1; clear hz1
        have HN2 : Hid ((ts.drop (stepK true (stepK true k))).length < N) := by
         show _ < _; have := HN1.out; show (ts.drop (k + 1 + 1)).length < N; simp at *; omega
        replace H : Hid (Rd w26 g p c ts (stepK true (stepK true k)) false) := H
        go_wp2_with fail
        refine (any_ok HE.out HS.out H.out HN2.out).mono ?_
        rintro e w27 ⟨a1, q1, d1, k2, b2, rfl, hf_, h2_, g2_, ho_⟩
        replace H := Lib.hid h2_
        replace G := Lib.hid (gr_trans G.out g2_)
        replace K := Lib.hid (K.out.only g2_ (by omega))
        replace L := Lib.hid (L.out.only g2_ (by omega))
        have z29_ := g2_.size
        clear h2_ g2_
        have F := Lib.hid hf_; have ho := Lib.hid ho_; clear hf_ ho_
        refine L.out.e5 fun pL_0 qL_0 pL_1 qL_1 pL_2 qL_2 pL_3 qL_3 pL_4 qL_4 => ?_
        go_upto_region 24 with fail
        clear pL_0 qL_0 pL_1 qL_1 pL_2 qL_2 pL_3 qL_3 pL_4 qL_4
        refine nmW ((w27.setCell ⟨w24.heap.size, 0, none⟩ (.int .i64 3)).setCell ⟨w24.heap.size, 4, none⟩ (.slice q1 a1.len d1)) fun w28 hv => ?_
        rw [← hv]
        have og_ : w27.grownBy w28 (some w24.heap.size) := by rw [hv]; exact gs2
        have kb_ : Bx w28 w24.heap.size 24 #[.int .i64 3, .int .i64 0, .string ⟨#[]⟩, .string ⟨m.toArray⟩, .slice q1 a1.len d1] := by rw [hv]; exact ((L.out.set 0 _).set 4 _)
        clear hv
        replace H := Lib.hid (H.out.other og_ (by omega))
        replace G := Lib.hid (gr_new G.out og_ (by omega))
        replace K := Lib.hid (K.out.only og_ (by omega))
        replace L := Lib.hid kb_
        replace F := Lib.hid (F.out.grown og_ (fun hd => by have := hd.1; have := hd.2; omega))
        have z30_ := og_.size
        clear og_ kb_
        refine L.out.q5 fun pL_0 pL_1 pL_2 pL_3 pL_4 => ?_
        refine K.out.e5 fun pK_0 qK_0 pK_1 qK_1 pK_2 qK_2 pK_3 qK_3 pK_4 qK_4 => ?_
        go_wp2_with fail
        clear pL_0 pL_1 pL_2 pL_3 pL_4 pK_0 qK_0 pK_1 qK_1 pK_2 qK_2 pK_3 qK_3 pK_4 qK_4
        refine nmW (((((w28.setCell ⟨w.heap.size, 0, none⟩ (.int .i64 3)).setCell ⟨w.heap.size, 1, none⟩ (.int .i64 0)).setCell ⟨w.heap.size, 2, none⟩ (.string ⟨#[]⟩)).setCell ⟨w.heap.size, 3, none⟩ (.string ⟨m.toArray⟩)).setCell ⟨w.heap.size, 4, none⟩ (.slice q1 a1.len d1)) fun w29 hv => ?_
        rw [← hv]
        have og_ : w28.grownBy w29 (some w.heap.size) := by rw [hv]; exact gs5
        have kb_ : Bx w29 w.heap.size 24 #[.int .i64 3, .int .i64 0, .string ⟨#[]⟩, .string ⟨m.toArray⟩, .slice q1 a1.len d1] := by rw [hv]; exact (((((K.out.set 0 _).set 1 _).set 2 _).set 3 _).set 4 _)
        clear hv
        replace H := Lib.hid (H.out.other og_ (by omega))
        replace G := Lib.hid (gr_new G.out og_ (by omega))
        replace K := Lib.hid kb_
        replace L := Lib.hid (L.out.only og_ (by omega))
        replace F := Lib.hid (F.out.grown og_ (fun hd => by have := hd.1; have := hd.2; omega))
        have z31_ := og_.size
        clear og_ kb_
        refine bodyPost_ret (results_box1 rfl _ _ w.heap.size 24 _ _ _ rfl K.out Tryz.underlying24 rfl (by kernel_rfl)) rfl ?_
        exact ⟨⟨3, 0, [], m, a1⟩, q1, d1, k2, b2, rfl, (F.out.mono (fun b hb => ⟨by have := hb.1; omega, by have := hb.2; omega⟩)), H.out, G.out, by rw [gate_false, HAT.out, nameP_at HNV.out]; dsimp only; rw [if_pos HZ1.out, List.tail_drop]; exact out_callP ho.out⟩
       | false =>
        refine L.out.q5 fun pL_0 pL_1 pL_2 pL_3 pL_4 => ?_
        refine K.out.e5 fun pK_0 qK_0 pK_1 qK_1 pK_2 qK_2 pK_3 qK_3 pK_4 qK_4 => ?_
        go_wp2_with fail
        clear pL_0 pL_1 pL_2 pL_3 pL_4 pK_0 qK_0 pK_1 qK_1 pK_2 qK_2 pK_3 qK_3 pK_4 qK_4
        refine nmW (((((w26.setCell ⟨w.heap.size, 0, none⟩ (.int .i64 1)).setCell ⟨w.heap.size, 1, none⟩ (.int .i64 0)).setCell ⟨w.heap.size, 2, none⟩ (.string ⟨#[]⟩)).setCell ⟨w.heap.size, 3, none⟩ (.string ⟨m.toArray⟩)).setCell ⟨w.heap.size, 4, none⟩ (.slice none 0 0)) fun w30 hv => ?_
        rw [← hv]
        have og_ : w26.grownBy w30 (some w.heap.size) := by rw [hv]; exact gs5
        have kb_ : Bx w30 w.heap.size 24 #[.int .i64 1, .int .i64 0, .string ⟨#[]⟩, .string ⟨m.toArray⟩, .slice none 0 0] := by rw [hv]; exact (((((K.out.set 0 _).set 1 _).set 2 _).set 3 _).set 4 _)
        clear hv
        replace H := Lib.hid (H.out.other og_ (by omega))
        replace G := Lib.hid (gr_new G.out og_ (by omega))
        replace K := Lib.hid kb_
        replace L := Lib.hid (L.out.only og_ (by omega))
        have z32_ := og_.size
        clear og_ kb_
        refine bodyPost_ret (results_box1 rfl _ _ w.heap.size 24 _ _ _ rfl K.out Tryz.underlying24 rfl (by kernel_rfl)) rfl ?_
        refine ⟨⟨1, 0, [], m, .nil⟩, none, 0, stepK ok k, !ok, rfl, FoS.nil, H.out, G.out, ?_⟩
        rw [gate_false, HAT.out]
        cases ok with
        | false => rw [(nameV_P.2 HNV.out).1]; exact ⟨rfl, rfl⟩
        | true => rw [nameP_at HNV.out]; dsimp only; rw [if_neg (by have h1 : isT 3 [40] (ts.drop (k + 1)) = false := Hz1.out; rw [h1]; decide)]; exact ⟨rfl, rfl, rfl⟩
end Go.Proofs.YtckgmilmhofekaaGreatDoor
namespace Go.Proofs.YtckgmilmhofekaaGreatDoor
open Go.RowKit

/-- A slice of the call's own; what is below its elements lies in blocks of D, elsewhere. -/
structure OwX (D : Nat → Prop) (B : Nat) (w : World) (v : Value) (l : List Hd) : Prop where
 own : w.ownsRow B 24 5 v l.length (l.flatMap Hd.cells)
 deep : ∀ h ∈ l, FoS (fun b => D b ∧ some b ≠ v.ownBlock) w h.p h.c h.x.args
theorem OwX.keep {D : Nat → Prop} {B : Nat} {w w' : World} {v : Value} {l : List Hd} (h : OwX D B w v l) (hb : Below w.heap.size w w') : OwX D B w' v l := ⟨own_below h.own hb, fun x hx => (h.deep x hx).keep hb⟩
theorem OwX.grown {D : Nat → Prop} {B g : Nat} {w w' : World} {v : Value} {l : List Hd} (h : OwX D B w v l) (hb : w.grownBy w' (some g)) (ho : some g ≠ v.ownBlock) (hg : ¬ D g) : OwX D B w' v l := by
 refine ⟨h.own.kept hb ?_, fun x hx => (h.deep x hx).grown hb (fun hd => hg hd.1)⟩
 cases hv : v.ownBlock with
 | none => exact .inl rfl
 | some k =>
  refine .inr ?_
  rw [hv] at ho
  exact fun h => ho h.symm
theorem OwX.lit {D : Nat → Prop} {B A : Nat} {w : World} {d : Hd} (hb : Bx w A 24 d.cells.toArray) (hB : B ≤ A) (hd : FoS (fun b => D b ∧ b ≠ A) w d.p d.c d.x.args) : OwX D B w (.slice (some ⟨A, 0, none⟩) 1 1) [d] :=
 ⟨⟨rfl, .inr ⟨A, 1, _, rfl, hB, hb, Nat.le_refl _, by unfold maxLen; omega, rfl, by simp [Hd.cells, hdC]⟩⟩, fun h hh => by
  simp at hh; subst hh
  exact hd.mono fun b hb => ⟨hb.1, by show some b ≠ some A; intro h; exact hb.2 (Option.some.inj h)⟩⟩
theorem own_low' {w : World} {B n g : Nat} {e : TypeId} {size : Nat} {v : Value} {xs : List Value} (h : w.ownsRow B e size v n xs) (hg : g < B) : some g ≠ v.ownBlock := by
 intro hh; have := (h.lt g hh.symm).1; omega
theorem wp_pushX {D : Nat → Prop} {P : Program} {o : Oper} {a : Act} {K : Act → World → Prop} {Q : Exit → Act → World → Prop} {s y : Operand} {t : TypeId} {z : Value} {bytes B n : Nat} {v : Value} {l : List Hd} {w : World}
    (h : OwX D B w v l) (hl : l.length = n) (E : ElemT P t 24 z 5 bytes) (d : Hd) (hd : FoS (fun b => D b ∧ some b ≠ v.ownBlock) w d.p d.c d.x.args) {b : Nat} (hb : Bx w b 24 d.cells.toArray)
    (hbytes : (n + 1) * bytes ≤ 140737488355328) (h63 : n + 1 ≤ 140737488355328) (hB : B ≤ w.heap.size)
    (ho : o.op = .call { callee := .builtin .append, args := #[s, y], argTypes := #[t, t] }) (hs : a.eval s = v) (hy : a.eval y = .slice (some ⟨b, 0, none⟩) 1 1)
    (hK : ∀ v' w', OwX D B w' v' (l ++ [d]) → w.grownBy w' v.ownBlock → Below B w w' → (∀ k, k < w.heap.size → some k ≠ v.ownBlock → some k ≠ v'.ownBlock) → K (a.put o.dst v') w') : o.wp P a w K Q := by
  subst hl
  obtain ⟨v', w', hrun, r2, r3, r4⟩ := run_push_fresh (P := P) (w := w) E o.type h.own d.cells ⟨b, 0, none⟩ 1 rfl (fun j u hj => by rw [add_off, Nat.zero_add, hb.at.1]; simpa using hj) d.one hbytes h63 hB
  unfold Oper.wp
  simp [execOp, ho, resolve, invoke, builtin, hs, hy, hrun, Result.andThen]
  have hlow : ∀ k, k < w.heap.size → some k ≠ v.ownBlock → some k ≠ v'.ownBlock := fun k hk hne => by
    rcases r4 with r4 | r4
    · rw [r4]; exact hne
    · intro hh
      have := r4 k hh.symm
      omega
  refine hK v' w' ⟨?_, fun y hy => ?_⟩ r3 (grown_below h.own r3 hB) hlow
  · rw [List.length_append, List.flatMap_append]; simpa using r2
  · have hy' : FoS (fun b => D b ∧ some b ≠ v.ownBlock) w y.p y.c y.x.args := by
      rcases List.mem_append.1 hy with hy | hy
      · exact h.deep y hy
      · simp at hy; subst hy; exact hd
    refine ⟨hy'.1, hy'.2.imp id ?_⟩
    rintro ⟨b, o', e, k1, k2, k3⟩
    have hD : ∀ b, (b < w.heap.size ∧ D b ∧ some b ≠ v.ownBlock) → D b ∧ some b ≠ v'.ownBlock := fun b hb => ⟨hb.2.1, hlow b hb.1 hb.2.2⟩
    exact ⟨b, o', e, hD b ⟨k2, k1⟩, Nat.lt_of_lt_of_le k2 r3.size, FoC.move hD r3.size (fun b o v hD2 _ hv => r3.cell hv hD2.2.2) ⟨k2, k1⟩ k2 (FoC.inHeap k1 k2 k3)⟩
theorem OwX.shape {D : Nat → Prop} {B : Nat} {w : World} {v : Value} {l : List Hd} (h : OwX D B w v l) : ∃ p c, v = .slice p l.length c := by
  rcases h.own.2 with ⟨rfl, h0⟩ | ⟨g, cap, cur, rfl, -⟩
  · exact ⟨none, 0, by rw [h0]⟩
  · exact ⟨_, cap, rfl⟩
theorem OwX.read {D : Nat → Prop} {B : Nat} {w : World} {p : Option Addr} {n c : Nat} {l : List Hd} (h : OwX D B w (.slice p n c) l) (hD : ∀ b, D b → B ≤ b) : FoS (fun b => B ≤ b) w p c (Fo.of (exL l)) := by
 have h' : OwE B w (.slice p n c) l := ⟨h.own, fun x hx => (h.deep x hx).mono fun b hb => ⟨hD b hb.1, hb.2⟩⟩
 obtain ⟨q, d, e, hf⟩ := h'.read
 cases e; exact hf
end Go.Proofs.YtckgmilmhofekaaGreatDoor
