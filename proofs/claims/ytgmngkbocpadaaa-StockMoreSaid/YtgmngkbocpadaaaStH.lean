/- Goods are drawn from a right stock. -/
import Derived.Test.YtgmngkbocpadaaaBase
import Derived.Test.YtgmngkbocpadaaaBigSpec
import Derived.Test.YtgmngkbocpadaaaBigB
import Derived.Test.YtgmngkbocpadaaaBigC
import Derived.Test.YtgmngkbocpadaaaBigD
import Derived.Test.YtgmngkbocpadaaaBigK
import Derived.Test.YtgmngkbocpadaaaBigL
import Derived.Test.YtgmngkbocpadaaaBigQ
import Derived.Test.YtgmngkbocpadaaaFracA
import Derived.Test.YtgmngkbocpadaaaFz
import Derived.Test.YtgmngkbocpadaaaHeld
import Derived.Test.YtgmngkbocpadaaaAw
import Derived.Test.YtgmngkbocpadaaaFracR
import Derived.Test.YtgmngkbocpadaaaRefF
import Derived.Test.YtgmngkbocpadaaaRw
import Derived.Test.YtgmngkbocpadaaaStockPlain
import Derived.Test.YtgmngkbocpadaaaStB
import Derived.Test.YtgmngkbocpadaaaProg
import Derived.Test.YtgmngkbocpadaaaShelf
import Derived.WalkKit
import Derived.WalkSpells
import Derived.WalkLawsBesides
import Derived.Handy
import Derived.Lib.Hide
import Derived.Lib.Strings
import Derived.Lib.Builder
import Derived.BigQuiet
import Derived.OwnWalk
import Derived.Laws.BitsLemmas
import Derived.WalkSmall
import Derived.Deep.QuietTactic
import Derived.StillTailTactics
import Derived.Maps.AppendAt
import Derived.IntWalk
import Derived.Deep.RegionHeld3
import Derived.Deep.DeepFit
import Derived.Deep.LoopGhost
import Derived.Deep.DeepCutAuto
import Derived.Lib.ItoaNum
import Derived.Lib.Repeat
import Derived.Lib.AppendIntMem
import Derived.Sort.OwnSorted
import Derived.Shelf.Strings.SlTrimAscii
import Derived.Lib.ConvBytes
import Derived.Lib.CutLaws
namespace Go.Proofs.Ytgmngkbocpadaaa
open Go.RowKit
variable {G : Nat}

theorem elemLy : ElemT Try.prog 22 48 (.agg #[.int .i64 0, .int .i64 0, .slice none 0 0, .int .i64 0, .slice none 0 0]) 5 72 := ⟨Try.underlying22, by kernel_rfl, rfl, by decide⟩
set_option maxHeartbeats 4000000 in
/-- A copy of layers. -/
theorem cloneC {l : List LC} {a : Option Addr} {n c : Nat} {w : World} (hG : G ≤ w.heap.size) (h : RdC G w a n c l) (hn : n ≤ 1000000) (hp : 0 < n) :
    Calls Try.prog 23 #[.slice a n c] w fun e w' => ∃ g d, e = .returned (.slice (some ⟨g, 0, none⟩) n d) ∧ OwC G w.heap.size w' g 0 l ∧ n ≤ d ∧ Below w.heap.size w w' := by
  obtain ⟨b, off, rfl, hb⟩ := RdL.ptr h hp
  have hlen := h.len
  have HB := Lib.hid hb; clear hb h
  have heq : ∀ w : World, (binOp BinOp.eql 22 (Value.slice (some ⟨b, off, none⟩) n c) (Value.slice none 0 0)).run Try.prog w = .ok (.bool false) w := fun w => Lib.run_eql_slice_nil w 22 48 (some ⟨b, off, none⟩) _ _ _ _ Try.underlying22
  go_enter Try.func23, Try.ntmps23
  have h0 : (w.alloc (.cells #[] 48)).ownsRow w.heap.size (El.T LC) (El.sz LC) (.slice (some ⟨w.heap.size, 0, none⟩) 0 0) ([] : List LC).length (([] : List LC).flatMap El.cells) := World.ownsRow_lit w #[] 0 (Nat.le_refl _) (by unfold maxLen; omega) rfl
  have H0 := Lib.hid h0; clear h0
  have HL := Lib.hid hlen; clear hlen
  have HW := Lib.hid ((Below.refl w.heap.size w).alloc (Nat.le_refl _) (.cells #[] 48))
  go_wp2_with (at_builtin; go_must (refine wpList_appendE rfl _ _ elemLy rfl (w.alloc (.cells #[] 48)) w.heap.size (.slice (some ⟨w.heap.size, 0, none⟩) 0 0) ([] : List LC) rfl H0.out ⟨b, off, none⟩ n c l rfl HL.out (fun j u hj => by rw [add_off]; exact (HB.out.keep HW.out).flat j u hj) (fun x hx => El.one ((HB.out.keep HW.out).oks x hx)) (by simp; omega) (by simp; omega) (by simp) ?_; intro v' w1 ho hg hb))
  have ho2 : ∀ x ∈ l, El.ok G w1 x := fun x hx => El.grown ((HB.out.keep HW.out).oks x hx) H0.out (by rfl) hG hg
  rw [List.nil_append] at ho
  obtain ⟨rfl, h2⟩ | ⟨g, d, rfl, h2, h3, h4⟩ := OwB.of_own ho hG ho2
  · exfalso; have := HL.out; rw [h2] at this; simp at this; omega
  · rw [HL.out] at h2 ⊢
    go_ret
    exact ⟨g, d, rfl, h4, h2, HW.out.trans hb⟩
end Go.Proofs.Ytgmngkbocpadaaa
namespace Go.Proofs.Ytgmngkbocpadaaa
open Go.RowKit
variable {G : Nat}

/-- Two windows in a block of the call's own. -/
structure B2 (w : World) (g : Nat) (T : TypeId) (P : List Value) (cs : List Value) (Q : List Value) (ds : List Value) (R : List Value) (o1 o2 : Nat) : Prop where
  bx : Bx w g T (P ++ cs ++ Q ++ ds ++ R).toArray
  l1 : P.length = o1
  l2 : P.length + cs.length + Q.length = o2
theorem B2.a1 {w : World} {g : Nat} {T : TypeId} {P cs Q ds R : List Value} {o1 o2 : Nat} (h : B2 w g T P cs Q ds R o1 o2) (j : Nat) (hj : j < cs.length) : w.cell? ⟨g, o1 + j, none⟩ = cs[j]? ∧ w.frozen? ⟨g, o1 + j, none⟩ = false := by
  have : Bo w g o1 P (Q ++ ds ++ R) T cs := ⟨by have := h.bx; simpa [List.append_assoc] using this, h.l1⟩
  exact this.at j hj
theorem B2.a2 {w : World} {g : Nat} {T : TypeId} {P cs Q ds R : List Value} {o1 o2 : Nat} (h : B2 w g T P cs Q ds R o1 o2) (j : Nat) (hj : j < ds.length) : w.cell? ⟨g, o2 + j, none⟩ = ds[j]? ∧ w.frozen? ⟨g, o2 + j, none⟩ = false := by
  have : Bo w g o2 (P ++ cs ++ Q) R T ds := ⟨by have := h.bx; simpa [List.append_assoc] using this, by simpa [Nat.add_assoc] using h.l2⟩
  exact this.at j hj
theorem B2.s1 {w : World} {g : Nat} {T : TypeId} {P cs Q ds R : List Value} {o1 o2 : Nat} (h : B2 w g T P cs Q ds R o1 o2) (j : Nat) (hj : j < cs.length) (u : Value) : B2 (w.setCell ⟨g, o1 + j, none⟩ u) g T P (cs.set j u) Q ds R o1 o2 := by
  have h1 : Bo w g o1 P (Q ++ ds ++ R) T cs := ⟨by have := h.bx; simpa [List.append_assoc] using this, h.l1⟩
  have h2 := (h1.set j hj u).bx
  exact ⟨by simpa [List.append_assoc] using h2, h.l1, by rw [List.length_set]; exact h.l2⟩
theorem B2.s2 {w : World} {g : Nat} {T : TypeId} {P cs Q ds R : List Value} {o1 o2 : Nat} (h : B2 w g T P cs Q ds R o1 o2) (j : Nat) (hj : j < ds.length) (u : Value) : B2 (w.setCell ⟨g, o2 + j, none⟩ u) g T P cs Q (ds.set j u) R o1 o2 := by
  have h1 : Bo w g o2 (P ++ cs ++ Q) R T ds := ⟨by have := h.bx; simpa [List.append_assoc] using this, by simpa [Nat.add_assoc] using h.l2⟩
  have h2 := (h1.set j hj u).bx
  exact ⟨by simpa [List.append_assoc] using h2, h.l1, h.l2⟩
theorem B2.drew {w : World} {g : Nat} {T : TypeId} {P cs Q ds R : List Value} {o1 o2 : Nat} (h : B2 w g T P cs Q ds R o1 o2) : B2 w.drew g T P cs Q ds R o1 o2 := ⟨h.bx, h.l1, h.l2⟩
theorem FQ.st {w : World} {u0 u1 u2 u3 : Value} {q : Rat} (h : FQ G w u0 u1 u2 u3 q) : (∀ a m w', Sem.run Try.prog (store a u0 m) w' = stored Try.prog w' a u0 m) ∧ (∀ a m w', Sem.run Try.prog (store a u1 m) w' = stored Try.prog w' a u1 m) ∧ (∀ a m w', Sem.run Try.prog (store a u2 m) w' = stored Try.prog w' a u2 m) ∧ (∀ a m w', Sem.run Try.prog (store a u3 m) w' = stored Try.prog w' a u3 m) := TQ.st h
/-- A list with two places of it named. -/
theorem rev_open {A M D : List LC} {x y : LC} {w : World} {B g off : Nat} (h : OwC G B w g off (D.reverse ++ (x :: (M ++ [y])) ++ A.reverse)) (ha : A.length = D.length) : ∃ P Q R : List Value,
    B2 w g 48 P (El.cells x) Q (El.cells y) R (off + A.length * 5) (off + (A.length + M.length + 1) * 5) ∧ (∀ z ∈ D.reverse ++ (x :: (M ++ [y])) ++ A.reverse, El.ok G w z) ∧ B ≤ g ∧
    ∀ w' : World, B2 w' g 48 P (El.cells y) Q (El.cells x) R (off + A.length * 5) (off + (A.length + M.length + 1) * 5) → (∀ z ∈ D.reverse ++ (x :: (M ++ [y])) ++ A.reverse, El.ok G w' z) → OwC G B w' g off ((y :: D).reverse ++ M ++ (A ++ [x]).reverse) := by
  obtain ⟨h0, h1, h2, P, R, h3, h4⟩ := h
  have e1 : ∀ s t : LC, P ++ (D.reverse ++ (s :: (M ++ [t])) ++ A.reverse).flatMap El.cells ++ R = (P ++ D.reverse.flatMap El.cells) ++ El.cells s ++ M.flatMap El.cells ++ El.cells t ++ (A.reverse.flatMap El.cells ++ R) := fun s t => by simp [List.append_assoc]
  have hl1 : (P ++ D.reverse.flatMap El.cells).length = off + A.length * 5 := by rw [List.length_append, flatMap_len, h3, List.length_reverse, ← ha]; rfl
  have hl2 : ∀ s : LC, (P ++ D.reverse.flatMap El.cells).length + (El.cells s).length + (M.flatMap El.cells).length = off + (A.length + M.length + 1) * 5 := fun s => by
    rw [hl1, flatMap_len, El.len]
    show off + A.length * 5 + 5 + M.length * 5 = _
    omega
  refine ⟨P ++ D.reverse.flatMap El.cells, M.flatMap El.cells, A.reverse.flatMap El.cells ++ R, ⟨by rw [← e1]; exact h4, hl1, hl2 x⟩, h2, h1, fun w' hb ho => ⟨h0, h1, fun z hz => ho z ?_, P, R, h3, ?_⟩⟩
  · simp only [List.reverse_cons, List.reverse_append, List.mem_append, List.mem_cons, List.mem_reverse, List.not_mem_nil, or_false, List.reverse_nil, List.nil_append] at hz ⊢
    rcases hz with ((hz | hz) | hz) | (hz | hz) <;> simp [hz]
  · have := hb.bx
    rw [← e1 y x] at this
    rw [show (y :: D).reverse ++ M ++ (A ++ [x]).reverse = D.reverse ++ (y :: (M ++ [x])) ++ A.reverse by simp [List.append_assoc]]
    exact this
theorem only_drew {w w' : World} {r : Option Nat} (h : w.grownBy w' r) : w.grownBy w'.drew r := ⟨h.os, h.tape, h.output, h.size, h.block⟩
theorem only_trans {w w' w'' : World} {g : Nat} (h : w.grownBy w' (some g)) (h' : w'.grownBy w'' (some g)) : w.grownBy w'' (some g) :=
  ⟨h'.os.trans h.os, h'.tape.trans h.tape, h'.output.trans h.output, Nat.le_trans h.size h'.size, fun k hk hne => (h'.block k (Nat.lt_of_lt_of_le hk h.size) hne).trans (h.block k hk hne)⟩
set_option maxHeartbeats 4000000 in
theorem reverseC {l : List LC} {B g off n c : Nat} {w : World} (h : OwC G B w g off l) (hl : l.length = n) (hn : n ≤ 1000000) (hp : 0 < n) :
    Calls Try.prog 24 #[.slice (some ⟨g, off, none⟩) n c] w fun e w' => e = .returned (.tuple #[]) ∧ OwC G B w' g off l.reverse ∧ w.grownBy w' (some g) := by
  have H := Lib.hid h; clear h
  go_enter Try.func24, Try.ntmps24
  have hw1 : IntKind.i64.wrap ((n : Int) - 1) = ((n - 1 : Nat) : Int) := by rw [IntWalk.i64_in _ (by omega)]; omega
  go_wp2_with fail
  go_loopw [2, 3] (fun i j wr => ∃ (A M D : List LC) (jj : Nat), i = .int .i64 A.length ∧ j = .int .i64 jj ∧ Hid (l = A ++ M ++ D) ∧ Hid (A.length = D.length) ∧ Hid (jj + 1 = A.length + M.length) ∧ Hid (OwC G B wr g off (D.reverse ++ M ++ A.reverse)) ∧ Hid (w.grownBy wr (some g))) (fun _ j _ => (RowKit.intOf j).toNat)
  case atStart => exact ⟨[], l, [], n - 1, rfl, rfl, Lib.hid (by simp), Lib.hid rfl, Lib.hid (by show n - 1 + 1 = 0 + l.length; omega), Lib.hid (by show OwB _ _ _ _ _ ([] ++ l ++ []); rw [List.nil_append, List.append_nil]; exact H.out), Lib.hid (World.grownBy.refl _ _)⟩
  case round =>
    obtain ⟨w1, rfl⟩ : ∃ x, x = wr := ⟨_, rfl⟩
    obtain ⟨A, M, D, jj, rfl, rfl, HL, HA, HJ, HO, HG⟩ := hrel
    have hlen : A.length + M.length + D.length = n := by have := HL.out; rw [this] at hl; simpa [Nat.add_assoc] using hl
    have hJ := HJ.out
    have hA := HA.out
    by_cases hlt : 2 ≤ M.length
    · obtain ⟨x, M', y, rfl⟩ : ∃ x M' y, M = x :: (M' ++ [y]) := by
        match M, hlt with
        | x :: r, h =>
          have hr : r ≠ [] := by rintro rfl; simp at h
          exact ⟨x, r.dropLast, r.getLast hr, by rw [List.dropLast_concat_getLast hr]⟩
      have hm : (x :: (M' ++ [y])).length = M'.length + 2 := by simp
      rw [hm] at hJ hlen
      obtain ⟨P, Q, R, hb, hok, hBg, hclose⟩ := rev_open HO.out hA
      have hjj : A.length + M'.length + 1 = jj := by omega
      rw [hjj] at hb hclose
      obtain ⟨xn, x0, x1, x2, x3, xq⟩ := x
      obtain ⟨yn, y0, y1, y2, y3, yq⟩ := y
      have hX := FQ.st (hok ⟨xn, x0, x1, x2, x3, xq⟩ (by simp))
      have hY := FQ.st (hok ⟨yn, y0, y1, y2, y3, yq⟩ (by simp))
      have sx0 := hX.1; have sx1 := hX.2.1; have sx2 := hX.2.2.1; have sx3 := hX.2.2.2
      have sy0 := hY.1; have sy1 := hY.2.1; have sy2 := hY.2.2.1; have sy3 := hY.2.2.2
      clear hX hY
      have p0 : w1.cell? ⟨g, off + A.length * 5, none⟩ = some (.int .i64 xn) := (hb.a1 0 (show 0 < 5 by omega)).1
      have p1 : w1.cell? ⟨g, off + A.length * 5 + 1, none⟩ = some x0 := (hb.a1 1 (show 1 < 5 by omega)).1
      have p2 : w1.cell? ⟨g, off + A.length * 5 + 2, none⟩ = some x1 := (hb.a1 2 (show 2 < 5 by omega)).1
      have p3 : w1.cell? ⟨g, off + A.length * 5 + 3, none⟩ = some x2 := (hb.a1 3 (show 3 < 5 by omega)).1
      have p4 : w1.cell? ⟨g, off + A.length * 5 + 4, none⟩ = some x3 := (hb.a1 4 (show 4 < 5 by omega)).1
      have q0 : w1.cell? ⟨g, off + jj * 5, none⟩ = some (.int .i64 yn) := (hb.a2 0 (show 0 < 5 by omega)).1
      have q1 : w1.cell? ⟨g, off + jj * 5 + 1, none⟩ = some y0 := (hb.a2 1 (show 1 < 5 by omega)).1
      have q2 : w1.cell? ⟨g, off + jj * 5 + 2, none⟩ = some y1 := (hb.a2 2 (show 2 < 5 by omega)).1
      have q3 : w1.cell? ⟨g, off + jj * 5 + 3, none⟩ = some y2 := (hb.a2 3 (show 3 < 5 by omega)).1
      have q4 : w1.cell? ⟨g, off + jj * 5 + 4, none⟩ = some y3 := (hb.a2 4 (show 4 < 5 by omega)).1
      have r0 : w1.frozen? ⟨g, off + A.length * 5, none⟩ = false := (hb.a1 0 (show 0 < 5 by omega)).2
      have r1 : w1.frozen? ⟨g, off + A.length * 5 + 1, none⟩ = false := (hb.a1 1 (show 1 < 5 by omega)).2
      have r2 : w1.frozen? ⟨g, off + A.length * 5 + 2, none⟩ = false := (hb.a1 2 (show 2 < 5 by omega)).2
      have r3 : w1.frozen? ⟨g, off + A.length * 5 + 3, none⟩ = false := (hb.a1 3 (show 3 < 5 by omega)).2
      have r4 : w1.frozen? ⟨g, off + A.length * 5 + 4, none⟩ = false := (hb.a1 4 (show 4 < 5 by omega)).2
      have t0 : w1.frozen? ⟨g, off + jj * 5, none⟩ = false := (hb.a2 0 (show 0 < 5 by omega)).2
      have t1 : w1.frozen? ⟨g, off + jj * 5 + 1, none⟩ = false := (hb.a2 1 (show 1 < 5 by omega)).2
      have t2 : w1.frozen? ⟨g, off + jj * 5 + 2, none⟩ = false := (hb.a2 2 (show 2 < 5 by omega)).2
      have t3 : w1.frozen? ⟨g, off + jj * 5 + 3, none⟩ = false := (hb.a2 3 (show 3 < 5 by omega)).2
      have t4 : w1.frozen? ⟨g, off + jj * 5 + 4, none⟩ = false := (hb.a2 4 (show 4 < 5 by omega)).2
      have HB2 := Lib.hid hb; have HOK := Lib.hid hok; have HCL := Lib.hid hclose; have HLEN := Lib.hid hlen; have HJJ := Lib.hid hjj
      have hI1 : (A.length : Int) < (jj : Int) := by omega
      have hI2 : (jj : Int) < (n : Int) := by omega
      have hI3 : (A.length : Int) < (n : Int) := by omega
      clear hb hok hclose hlen hjj hJ hA hm hBg
      go_wp2_with fail
      refine wp_region_held_drew (S := fun _ => True) (by kernel_rfl) trivial (fun hH => ?_)
      refine tk at0 ?_
      refine tk at1 ?_
      refine tk at2 ?_
      refine tk at3 ?_
      refine tk at4 ?_
      refine tk at5 ?_
      refine tk at6 ?_
      refine tk at8 ?_
      refine tk at9 ?_
      refine tk at10 ?_
      refine wpAnyH_ready (rs := [7, 11]) (by kernel_rfl) (by simp) ?_
      refine AllReadyH.cons at7 (fun K hK => ?_) (AllReadyH.cons at11 (fun K hK => ?_) AllReadyH.nil)
      focus
        go_simp
        refine hK.out _ _ trivial (fun hH1 => ?_)
        clear hK K hH
        (try simp only [Act.put, List.setIfInBounds_toArray, List.set_cons_zero, List.set_cons_succ])
        refine wpAnyH_ready (rs := [11]) (by kernel_rfl) (by simp) ?_
        refine AllReadyH.cons at11 (fun K hK => ?_) AllReadyH.nil
        go_simp
        refine hK.out _ _ trivial (fun hH2 => ?_)
        clear hK K hH1
        (try simp only [Act.put, List.setIfInBounds_toArray, List.set_cons_zero, List.set_cons_succ])
        refine tk at12 ?_
        refine wpAnyH_ready (rs := [13]) (by kernel_rfl) (by simp) ?_
        refine AllReadyH.cons at13 (fun K hK => ?_) AllReadyH.nil
        go_simp
        refine hK.out _ _ trivial (fun hH3 => ?_)
        clear hK K hH2
        (try simp only [Act.put, List.setIfInBounds_toArray, List.set_cons_zero, List.set_cons_succ])
        refine tk at14 ?_
        refine wpAnyH_ready (rs := [15]) (by kernel_rfl) (by simp) ?_
        refine AllReadyH.cons at15 (fun K hK => ?_) AllReadyH.nil
        go_simp
        refine hK.out _ _ trivial (fun hH4 => ?_)
        clear hK K hH3
        (try simp only [Act.put, List.setIfInBounds_toArray, List.set_cons_zero, List.set_cons_succ])
        refine wpAnyH_done (by kernel_rfl) ?_ _
        clear hH4
      rotate_left
      focus
        go_simp
        refine hK.out _ _ trivial (fun hH1 => ?_)
        clear hK K hH
        (try simp only [Act.put, List.setIfInBounds_toArray, List.set_cons_zero, List.set_cons_succ])
        refine wpAnyH_ready (rs := [7]) (by kernel_rfl) (by simp) ?_
        refine AllReadyH.cons at7 (fun K hK => ?_) AllReadyH.nil
        go_simp
        refine hK.out _ _ trivial (fun hH2 => ?_)
        clear hK K hH1
        (try simp only [Act.put, List.setIfInBounds_toArray, List.set_cons_zero, List.set_cons_succ])
        refine tk at12 ?_
        refine wpAnyH_ready (rs := [13]) (by kernel_rfl) (by simp) ?_
        refine AllReadyH.cons at13 (fun K hK => ?_) AllReadyH.nil
        go_simp
        refine hK.out _ _ trivial (fun hH3 => ?_)
        clear hK K hH2
        (try simp only [Act.put, List.setIfInBounds_toArray, List.set_cons_zero, List.set_cons_succ])
        refine tk at14 ?_
        refine wpAnyH_ready (rs := [15]) (by kernel_rfl) (by simp) ?_
        refine AllReadyH.cons at15 (fun K hK => ?_) AllReadyH.nil
        go_simp
        refine hK.out _ _ trivial (fun hH4 => ?_)
        clear hK K hH3
        (try simp only [Act.put, List.setIfInBounds_toArray, List.set_cons_zero, List.set_cons_succ])
        refine wpAnyH_done (by kernel_rfl) ?_ _
        clear hH4
      all_goals
        go_wp2_with fail
        go_roundw
        case rel =>
          have hb2 := (((((((((((HB2.out.s1 0 (show 0 < 5 by omega) (.int .i64 yn)).s1 1 (show 1 < 5 by omega) y0).s1 2 (show 2 < 5 by omega) y1).s1 3 (show 3 < 5 by omega) y2).s1 4 (show 4 < 5 by omega) y3).s2 0 (show 0 < 5 by omega) (.int .i64 xn)).s2 1 (show 1 < 5 by omega) x0).s2 2 (show 2 < 5 by omega) x1).s2 3 (show 3 < 5 by omega) x2).s2 4 (show 4 < 5 by omega) x3).drew)
          obtain ⟨w2, hv⟩ : ∃ w_ : World, w_ = ((((((((((w1.setCell ⟨g, off + A.length * 5, none⟩ (.int .i64 yn)).setCell ⟨g, off + A.length * 5 + 1, none⟩ y0).setCell ⟨g, off + A.length * 5 + 2, none⟩ y1).setCell ⟨g, off + A.length * 5 + 3, none⟩ y2).setCell ⟨g, off + A.length * 5 + 4, none⟩ y3).setCell ⟨g, off + jj * 5, none⟩ (.int .i64 xn)).setCell ⟨g, off + jj * 5 + 1, none⟩ x0).setCell ⟨g, off + jj * 5 + 2, none⟩ x1).setCell ⟨g, off + jj * 5 + 3, none⟩ x2).setCell ⟨g, off + jj * 5 + 4, none⟩ x3).drew := ⟨_, rfl⟩
          have hb3 : B2 w2 g 48 P (El.cells (⟨yn, y0, y1, y2, y3, yq⟩ : LC)) Q (El.cells (⟨xn, x0, x1, x2, x3, xq⟩ : LC)) R (off + A.length * 5) (off + jj * 5) := by rw [hv]; exact hb2
          have og : w1.grownBy w2 (some g) := by
            rw [hv]
            exact only_drew (only_setCell (only_setCell (only_setCell (only_setCell (only_setCell (only_setCell (only_setCell (only_setCell (only_setCell (only_setCell (World.grownBy.refl _ _) _) _) _) _) _) _) _) _) _) _)
          rw [← hv]
          have hGg : G ≤ g := Nat.le_trans HO.out.leG HO.out.le
          have hc := HCL.out w2 hb3 (fun z hz => El.far (HOK.out z hz) HB2.out.bx (by rfl) hGg og)
          refine ⟨A ++ [⟨xn, x0, x1, x2, x3, xq⟩], M', ⟨yn, y0, y1, y2, y3, yq⟩ :: D, jj - 1, by rw [List.length_append]; rfl, ?_, Lib.hid ?_, Lib.hid ?_, Lib.hid ?_, Lib.hid hc, Lib.hid (only_trans HG.out og)⟩
          · congr 1; omega
          · rw [HL.out]; simp [List.append_assoc]
          · have := HA.out; simp; omega
          · have := HJJ.out; simp; omega
        case measure => simp [intOf]; omega
    · have hlt2 : ¬ (A.length : Int) < (jj : Int) := by omega
      have HH := Lib.hid hlen; have HJJ := Lib.hid hJ
      clear hlen hJ hA
      go_wp2_with fail
      have hrev : D.reverse ++ M ++ A.reverse = l.reverse := by
        have h1 : M.reverse = M := by
          match M, hlt with
          | [], _ => rfl
          | [_], _ => rfl
          | _ :: _ :: _, h => simp at h
        rw [HL.out]; simp [h1]
      go_end0
      exact ⟨rfl, by rw [← hrev]; exact HO.out, HG.out⟩
end Go.Proofs.Ytgmngkbocpadaaa
namespace Go.Proofs.Ytgmngkbocpadaaa
open Go.RowKit Go.Lib
variable {G : Nat}

theorem sum_drop {l : List LC} {k : Nat} {x : LC} (hx : l[k]? = some x) : sumN ((l.drop k).map LC.ly) = x.n + sumN ((l.drop (k + 1)).map LC.ly) := by
  rw [drop_at hx, List.map_cons, sumN_cons]; rfl
theorem sum_takeN {l : List LC} {k : Nat} {x : LC} (hx : l[k]? = some x) : sumN ((l.take (k + 1)).map LC.ly) = sumN ((l.take k).map LC.ly) + x.n := by
  rw [List.take_add_one, hx, List.map_append, sumN_app]
  simp [sumN, LC.ly]
theorem sum_takeB {l : List LC} {k : Nat} {x : LC} (hx : l[k]? = some x) : sumB ((l.take (k + 1)).map LC.ly) = sumB ((l.take k).map LC.ly) + x.q := by
  rw [List.take_add_one, hx, List.map_append, sumB_app]
  simp [sumB, LC.ly, Rat.add_zero]
theorem OkC.drop {l : List LC} (h : OkC l) (k : Nat) : 0 ≤ sumN ((l.drop k).map LC.ly) := sumN_pos fun x hx => by
  obtain ⟨y, hy, rfl⟩ := List.mem_map.1 hx
  exact h.ok y (List.mem_of_mem_drop hy)
theorem OkC.takeN {l : List LC} (h : OkC l) (k : Nat) : 0 ≤ sumN ((l.take k).map LC.ly) ∧ sumN ((l.take k).map LC.ly) ≤ 1099511627776 := by
  have h1 : 0 ≤ sumN ((l.take k).map LC.ly) := sumN_pos fun x hx => by
    obtain ⟨y, hy, rfl⟩ := List.mem_map.1 hx
    exact h.ok y (List.mem_of_mem_take hy)
  have h2 := h.drop k
  have h3 : sumN (l.map LC.ly) = sumN ((l.take k).map LC.ly) + sumN ((l.drop k).map LC.ly) := by
    rw [← sumN_app, ← List.map_append, List.take_append_drop]
  have := h.sum
  omega
theorem fz0 {n : Nat} (h : 1 ≤ n) : Fz 0 n := Fz.int (x := 0) (by show Sz 0 n; exact Nat.zero_le _) h
theorem fz_sum {N : Nat} : ∀ {l : List LC}, FzL l N → Fz (sumB (l.map LC.ly)) ((N + 1) * l.length + 1)
  | [], _ => by rw [List.map_nil, sumB_nil]; exact fz0 (by omega)
  | x :: r, h => by
    rw [List.map_cons, sumB_cons]
    have h1 := fz_sum (l := r) (fun y hy => h y (by simp [hy]))
    have h2 : Fz x.ly.b N := h x (by simp)
    exact (h2.add h1).mono (by rw [List.length_cons, Nat.mul_add]; omega)
theorem FzL.take {l : List LC} {N : Nat} (h : FzL l N) (k : Nat) : FzL (l.take k) N := fun x hx => h x (List.mem_of_mem_take hx)
theorem sg_ge {q : Rat} {k : Int} (h : sg (nu q) = k) (hq : 0 ≤ q) : ¬ k < 0 := by
  rw [← h, sg_lt]; exact Rat.not_lt.2 hq
set_option maxRecDepth 100000 in
set_option maxHeartbeats 4000000 in
theorem stFresh {u0 u1 u2 u3 : Value} {q : Rat} {w : World} (hG : G ≤ w.heap.size) (h1 : FQ G w u0 u1 u2 u3 q) (hx : Fz q 100000000000) :
    Calls Try.prog 40 #[.agg #[u0, u1, u2, u3]] w fun e w' => ∃ x0 x1 x2 x3, e = .returned (.agg #[x0, x1, x2, x3]) ∧ FQ G w' x0 x1 x2 x3 q ∧ Below w.heap.size w w' := by
  have HX := Lib.hid hx; clear hx
  have H1 : Hid (FQ G w u0 u1 u2 u3 q) := h1
  clear h1
  have M : Hid (Below w.heap.size w w) := Below.refl _ _
  go_enter Try.func40, Try.ntmps40
  go_upto_region 1 with fail
  obtain ⟨w1, hv⟩ : ∃ w_ : World, w_ = ((w.alloc (.cells #[u0, u1, u2, u3] 29)).alloc (.cells #[.int .i64 0, .slice none 0 0, .int .i64 0, .slice none 0 0] 29)) := ⟨_, rfl⟩
  rw [← hv]
  have hbx := bx2 w 29 29 #[u0, u1, u2, u3] #[.int .i64 0, .slice none 0 0, .int .i64 0, .slice none 0 0]
  rw [← hv] at hbx
  have hbn : Below w.heap.size w w1 := by rw [hv]; exact (Below.alloc (Below.alloc (Below.refl _ _) (by simp <;> omega) _) (by simp <;> omega) _)
  replace M := Lib.hid (And.intro hbx.2 (And.intro hbx.1 (Goes.go M.out hbn)))
  clear hbx hbn
  clear hv
  have y0 := (M.out.2.1).d4; have p0_0 := y0.1; have p0_1 := y0.2.1; have p0_2 := y0.2.2.1; have p0_3 := y0.2.2.2; clear y0
  go_wp2_with fail
  clear p0_0 p0_1 p0_2 p0_3
  obtain ⟨q5, eq5⟩ : ∃ v_ : Rat, v_ = (-q) := ⟨_, rfl⟩
  refine (fqNeg (G := G) (q := q) (Nat.le_trans hG (M.out.2.2).size) (H1.out.keep (M.out.2.2)) (Fz.mono HX.out (by omega))).mono ?_
  rintro e w2 ⟨x_1, x_2, x_3, x_4, rfl, hd6, hb⟩
  rw [← eq5] at hd6
  have Sq5 : Hid (Fz q5 100000000000) := by show Fz q5 100000000000; rw [eq5]; exact (Fz.neg HX.out)
  have Eq5 := Lib.hid eq5; clear eq5
  replace M := Lib.hid (And.intro hd6 (Goes.go M.out hb))
  clear hb hd6
  go_wp2_with fail
  obtain ⟨q11, eq11⟩ : ∃ v_ : Rat, v_ = (-q5) := ⟨_, rfl⟩
  refine (fqNeg (G := G) (q := q5) (Nat.le_trans hG (M.out.2.2.2).size) (M.out.1) (Fz.mono Sq5.out (by omega))).mono ?_
  rintro e w3 ⟨x_7, x_8, x_9, x_10, rfl, hd12, hb⟩
  rw [← eq11] at hd12
  have Sq11 : Hid (Fz q11 100000000000) := by show Fz q11 100000000000; rw [eq11]; exact (Fz.neg Sq5.out)
  have Eq11 := Lib.hid eq11; clear eq11
  replace M := Lib.hid (And.intro hd12 (Goes.go M.out hb))
  clear hb hd12
  have y1 := (M.out.2.2.1).c4; have p1_0 := y1.1; have q1_0 := y1.2.1; have p1_1 := y1.2.2.1; have q1_1 := y1.2.2.2.1; have p1_2 := y1.2.2.2.2.1; have q1_2 := y1.2.2.2.2.2.1; have p1_3 := y1.2.2.2.2.2.2.1; have q1_3 := y1.2.2.2.2.2.2.2; clear y1
  have ys_x_7 := TQ.st (M.out.1); have st_x_7 := ys_x_7.1; have st_x_8 := ys_x_7.2.1; have st_x_9 := ys_x_7.2.2.1; have st_x_10 := ys_x_7.2.2.2; clear ys_x_7
  go_wp2_with fail
  clear p1_0 q1_0 p1_1 q1_1 p1_2 q1_2 p1_3 q1_3 st_x_7 st_x_8 st_x_9 st_x_10
  obtain ⟨w4, hv⟩ : ∃ w_ : World, w_ = ((((w3.setCell ⟨w.heap.size + 1, 0, none⟩ (x_7)).setCell ⟨w.heap.size + 1, 1, none⟩ (x_8)).setCell ⟨w.heap.size + 1, 2, none⟩ (x_9)).setCell ⟨w.heap.size + 1, 3, none⟩ (x_10)) := ⟨_, rfl⟩
  rw [← hv]
  have og : w3.grownBy w4 (some (w.heap.size + 1)) := by rw [hv]; exact (only_setCell (only_setCell (only_setCell (only_setCell (World.grownBy.refl _ _) _) _) _) _)
  have hz : w.heap.size ≤ w.heap.size + 1 := by omega
  have hk : Bx w4 (w.heap.size + 1) 29 #[x_7, x_8, x_9, x_10] := by rw [hv]; exact (((((M.out.2.2.1).set 0 _).set 1 _).set 2 _).set 3 _)
  have hbw : Below w.heap.size w w4 := by rw [hv]; exact (Below.setCell (Below.setCell (Below.setCell (Below.setCell (M.out.2.2.2.2) (by omega) _) (by omega) _) (by omega) _) (by omega) _)
  replace M := Lib.hid (And.intro ((M.out.1).far (M.out.2.2.1) (by rfl) (by omega) og) (And.intro ((M.out.2.1).far (M.out.2.2.1) (by rfl) (by omega) og) (And.intro hk (And.intro ((M.out.2.2.2.1).only og (by omega)) hbw))))
  clear hk hbw og hv hz
  refine bodyPost_ret (results_box1 rfl _ _ (w.heap.size + 1) 29 _ _ _ rfl (M.out.2.2.1) Try.underlying29 rfl (by kernel_rfl)) rfl ?_
  exact ⟨x_7, x_8, x_9, x_10, rfl, (by have h_ := (M.out.1); rw [Eq11.out, Eq5.out, Rat.neg_neg] at h_; exact h_), (M.out.2.2.2.2)⟩
set_option maxRecDepth 100000 in
set_option maxHeartbeats 4000000 in
theorem stRight_c {l : List LC} {a : Option Addr} {n c : Nat} {w : World} (hG : G ≤ w.heap.size) (h : RdC G w a n c l) (ok : OkC l) (hz : FzL l 100000000) :
    Calls Try.prog 9 #[.slice a n c] w fun e w' => e = .returned (.bool true) ∧ Below w.heap.size w w' := by
  have hn : n ≤ 200 := by rw [← h.len]; exact ok.len
  have HOK := Lib.hid ok; have HZ := Lib.hid hz; clear ok hz
  have HL : Hid (RdC G w a n c l) := h
  clear h
  have M : Hid (Below w.heap.size w w) := Below.refl _ _
  go_enter Try.func9, Try.ntmps9
  go_wp2_with fail
  go_loopw [3, 8] (fun i3 i8 wr => ∃ (k : Nat) (rm : Int), i3 = .int .i64 rm ∧ i8 = .int .i64 (k : Int) ∧ Hid (k ≤ n) ∧ Hid (0 ≤ rm ∧ rm ≤ 1099511627776) ∧ Hid (sumN ((l.drop k).map LC.ly) ≤ rm) ∧ Hid (Below w.heap.size w wr)) (fun i3 i8 _ => n - (RowKit.intOf i8).toNat)
  case atStart =>
    exact ⟨0, 1099511627776, rfl, rfl, (by show _ ≤ _; omega), (by show _ ∧ _; omega), HOK.out.sum, Lib.hid M.out⟩
  case round =>
    obtain ⟨w1, rfl⟩ : ∃ x, x = wr := ⟨_, rfl⟩
    clear M
    obtain ⟨k, rm, rfl, rfl, hk, hrm, hB, M⟩ := hrel
    have hk := hk.out
    have hr0 := hrm.out.1
    have hr1 := hrm.out.2
    replace hB := hB.out
    by_cases hlt : k < n
    ·
      have e1_0 : decide (k < n) = true := decide_eq_true (by omega)
      have e1_1 : decide ((k : Int) < (n : Int)) = true := decide_eq_true (by omega)
      have e1_i : (k : Int) < (n : Int) := by omega
      obtain ⟨b, off, rfl, hb_⟩ := RdL.ptr HL.out (by omega : 0 < n)
      have hkl_ : k < l.length := by rw [HL.out.len]; exact hlt
      obtain ⟨x_, hx_⟩ : ∃ x, l[k]? = some x := ⟨l[k], List.getElem?_eq_getElem hkl_⟩
      obtain ⟨xn, xu0, xu1, xu2, xu3, xq⟩ := x_
      have HRx : Hid (Row w b (off + k * 5) [.int .i64 xn, xu0, xu1, xu2, xu3]) := hb_.row hx_
      have HQx : Hid (FQ G w xu0 xu1 xu2 xu3 xq) := hb_.ok hx_
      have HEx := Lib.hid hx_; clear hx_ hkl_ hb_
      have HZx : Hid (Fz xq 100000000) := HZ.out _ (List.mem_of_getElem? HEx.out)
      have hok_ := HOK.out.ok _ (List.mem_of_getElem? HEx.out)
      have hx1 : 1 ≤ xn := hok_.1
      have hx2 : 0 ≤ xq := hok_.2
      have hsd_ := sum_drop HEx.out
      have hnn_ := HOK.out.drop (k + 1)
      have hsd2_ : sumN ((l.drop k).map LC.ly) = xn + sumN ((l.drop (k + 1)).map LC.ly) := hsd_
      have hx3 : xn ≤ rm := by omega
      have HN : Hid (sumN ((l.drop (k + 1)).map LC.ly) ≤ rm - xn) := by show _ ≤ _; omega
      clear hok_ hsd_ hsd2_ hnn_
      obtain ⟨sx, hsx⟩ : ∃ s, sg (nu xq) = s := ⟨_, rfl⟩
      have e5i := sg_ge hsx hx2
      have HSX := Lib.hid hsx; clear hsx hx2
      have e5 : decide (sx < 0) = false := decide_eq_false e5i
      have e3 : decide (xn < 1) = false := decide_eq_false (by omega)
      have e3i : ¬ xn < 1 := by omega
      have e4 : decide (rm < xn) = false := decide_eq_false (by omega)
      have e4i : ¬ rm < xn := by omega
      have ys_xu0 := TQ.st (HQx.out.keep M.out); have st_xu0 := ys_xu0.1; have st_xu1 := ys_xu0.2.1; have st_xu2 := ys_xu0.2.2.1; have st_xu3 := ys_xu0.2.2.2; clear ys_xu0
      have yr0 := (HRx.out.keep M.out).c5; have r0_0 := yr0.1; have r0_1 := yr0.2.1; have r0_2 := yr0.2.2.1; have r0_3 := yr0.2.2.2.1; have r0_4 := yr0.2.2.2.2; clear yr0
      go_upto_region 5 with fail
      clear st_xu0 st_xu1 st_xu2 st_xu3 r0_0 r0_1 r0_2 r0_3 r0_4
      obtain ⟨w2, hv⟩ : ∃ w_ : World, w_ = (w1.alloc (.cells #[.int .i64 xn, xu0, xu1, xu2, xu3] 48)) := ⟨_, rfl⟩
      rw [← hv]
      have ow0_ : w.heap.size ≤ w1.heap.size := (M.out).size
      replace M := Lib.hid (And.intro (hv ▸ bx1 w1 48 #[.int .i64 xn, xu0, xu1, xu2, xu3]) (Goes.go M.out (hv ▸ below_alloc _ _ : Below w1.heap.size w1 w2)))
      clear hv
      have y0 := (M.out.1).d5; have p0_0 := y0.1; have p0_1 := y0.2.1; have p0_2 := y0.2.2.1; have p0_3 := y0.2.2.2.1; have p0_4 := y0.2.2.2.2; clear y0
      go_wp2_with fail
      clear p0_0 p0_1 p0_2 p0_3 p0_4
      refine (fqRight (G := G) (q := xq) (HQx.out.keep (M.out.2)) (Fz.mono HZx.out (by omega))).mono ?_
      rintro e w3 ⟨rfl, hb⟩
      replace M := Lib.hid (Goes.go M.out hb)
      clear hb
      have y0 := (M.out.1).d5; have p0_0 := y0.1; have p0_1 := y0.2.1; have p0_2 := y0.2.2.1; have p0_3 := y0.2.2.2.1; have p0_4 := y0.2.2.2.2; clear y0
      go_wp2_with fail
      clear p0_0 p0_1 p0_2 p0_3 p0_4
      refine (fqSign (G := G) (q := xq) (k := sx) (Nat.le_trans hG (M.out.2).size) (HQx.out.keep (M.out.2)) (Fz.mono HZx.out (by omega)) HSX.out).mono ?_
      rintro e w4 ⟨rfl, hb⟩
      replace M := Lib.hid (Goes.go M.out hb)
      clear hb
      have y0 := (M.out.1).d5; have p0_0 := y0.1; have p0_1 := y0.2.1; have p0_2 := y0.2.2.1; have p0_3 := y0.2.2.2.1; have p0_4 := y0.2.2.2.2; clear y0
      go_wp2_with fail
      clear p0_0 p0_1 p0_2 p0_3 p0_4
      go_roundw
      case rel => exact ⟨(k + 1), (rm - xn), by go_num, by go_num, (by show _ ≤ _; omega), (by show _ ∧ _; omega), HN, Lib.hid (M.out.2)⟩
      case measure => simp [RowKit.intOf] <;> omega
    ·
      have e1_0 : decide (k < n) = false := decide_eq_false (by omega)
      have e1_1 : decide ((k : Int) < (n : Int)) = false := decide_eq_false (by omega)
      have e1_i : ¬ (k : Int) < (n : Int) := by omega
      have e3_0 : decide (n ≤ 200) = true := decide_eq_true (by omega)
      have e3_1 : decide ((n : Int) ≤ 200) = true := decide_eq_true (by omega)
      have e3_i : (n : Int) ≤ 200 := by omega
      go_wp2_with fail
      go_ret
      exact ⟨rfl, M.out⟩
theorem results_tc {P : Program} {fn : Func} {p u : Tmp} {ty : TypeId} (h : fn.results = #[.tmp u, .cell p ty]) (tmps : Array Value) (w : World) (g : Nat) (t : TypeId) (cs : Array Value) (fr : Nat × Nat) (d : TypeDesc)
    (hp : tmps.getD p undef = .pointer (some ⟨g, 0, none⟩)) (hg : w.heap[g]? = some (.cells cs t fr))
    (hu : P.underlying ty = some d) (hd : (match d with | .struct _ | .array _ _ => true | _ => false) = true) (hi : (P.info? ty).map (·.size) = some cs.size) :
    (results fn tmps).run P w = .ok (.tuple #[tmps.getD u undef, .agg cs]) w := by
  have hp' : tmps[p]?.getD undef = .pointer (some ⟨g, 0, none⟩) := by simpa using hp
  simp [results, h, hp', asAddr, run_loadVar_row w g t ty cs fr d hg hu hd hi]
set_option maxRecDepth 100000 in
set_option maxHeartbeats 4000000 in
theorem stTotal {l : List LC} {a : Option Addr} {n c : Nat} {w : World} (hG : G ≤ w.heap.size) (h : RdC G w a n c l) (ok : OkC l) (hz : FzL l 100000000) :
    Calls Try.prog 10 #[.slice a n c] w fun e w' => ∃ x0 x1 x2 x3, e = .returned (.tuple #[.int .i64 (sumN (l.map LC.ly)), .agg #[x0, x1, x2, x3]]) ∧ FQ G w' x0 x1 x2 x3 (sumB (l.map LC.ly)) ∧ Below w.heap.size w w' := by
  have hn : n ≤ 200 := by rw [← h.len]; exact ok.len
  have HOK := Lib.hid ok; have HZ := Lib.hid hz; clear ok hz
  have HL : Hid (RdC G w a n c l) := h
  clear h
  have M : Hid (Below w.heap.size w w) := Below.refl _ _
  go_enter Try.func10, Try.ntmps10
  go_upto_region 1 with fail
  obtain ⟨w1, hv⟩ : ∃ w_ : World, w_ = (w.alloc (.cells #[.int .i64 0, .slice none 0 0, .int .i64 0, .slice none 0 0] 29)) := ⟨_, rfl⟩
  rw [← hv]
  replace M := Lib.hid (And.intro (hv ▸ bx1 w 29 #[.int .i64 0, .slice none 0 0, .int .i64 0, .slice none 0 0]) (Goes.go M.out (hv ▸ below_alloc _ _ : Below w.heap.size w w1)))
  clear hv
  go_wp2_with fail
  refine (stRight_c (G := G) (l := l) (Nat.le_trans hG (M.out.2).size) (HL.out.keep (M.out.2)) HOK.out HZ.out).mono ?_
  rintro e w2 ⟨rfl, hb⟩
  replace M := Lib.hid (Goes.go M.out hb)
  clear hb
  go_wp2_with fail
  obtain ⟨q5, eq5⟩ : ∃ v_ : Rat, v_ = ((0 : Int) : Rat) := ⟨_, rfl⟩
  refine (fqInt (G := G) (x := 0) (by decide)).mono ?_
  rintro e w3 ⟨x_1, x_2, x_3, x_4, rfl, hd6, hb⟩
  rw [← eq5] at hd6
  have Eq5 := Lib.hid eq5; clear eq5
  replace M := Lib.hid (And.intro hd6 (Goes.go M.out hb))
  clear hb hd6
  have ys_x_1 := TQ.st (M.out.1); have st_x_1 := ys_x_1.1; have st_x_2 := ys_x_1.2.1; have st_x_3 := ys_x_1.2.2.1; have st_x_4 := ys_x_1.2.2.2; clear ys_x_1
  go_upto_region 4 with fail
  clear st_x_1 st_x_2 st_x_3 st_x_4
  obtain ⟨w4, hv⟩ : ∃ w_ : World, w_ = (w3.alloc (.cells #[x_1, x_2, x_3, x_4] 29)) := ⟨_, rfl⟩
  rw [← hv]
  have ow1_ : w.heap.size < w3.heap.size := ((M.out.2.1)).lt
  replace M := Lib.hid (And.intro (hv ▸ bx1 w3 29 #[x_1, x_2, x_3, x_4]) (Goes.go M.out (hv ▸ below_alloc _ _ : Below w3.heap.size w3 w4)))
  clear hv
  go_wp2_with fail
  go_loopw [4, 15] (fun i4 i15 wr => ∃ (k : Nat) (m : Int) (qs : Rat) (g0 : Value) (g1 : Value) (g2 : Value) (g3 : Value), i4 = .int .i64 m ∧ i15 = .int .i64 (k : Int) ∧ Hid (k ≤ n) ∧ Hid (0 ≤ m ∧ m ≤ 1099511627776) ∧ Hid (sumN ((l.take k).map LC.ly) = m) ∧ Hid (sumB ((l.take k).map LC.ly) = qs) ∧ Hid (Bx wr w3.heap.size 29 #[g0, g1, g2, g3] ∧ FQ G wr g0 g1 g2 g3 qs ∧ Bx wr w.heap.size 29 #[.int .i64 0, .slice none 0 0, .int .i64 0, .slice none 0 0] ∧ Below w.heap.size w wr)) (fun i4 i15 _ => n - (RowKit.intOf i15).toNat)
  case atStart =>
    exact ⟨0, 0, q5, x_1, x_2, x_3, x_4, rfl, rfl, (by show _ ≤ _; omega), (by show _ ∧ _; omega), (show sumN [] = _ from rfl), (Lib.hid (by rw [Eq5.out]; rfl)), Lib.hid (And.intro (M.out.1) (And.intro (M.out.2.1) (And.intro (M.out.2.2.1) (M.out.2.2.2))))⟩
  case round =>
    obtain ⟨w5, rfl⟩ : ∃ x, x = wr := ⟨_, rfl⟩
    clear M
    obtain ⟨k, m, qs, g0, g1, g2, g3, rfl, rfl, hk, hm, HM, HQ, M⟩ := hrel
    have hk := hk.out
    have hm0 := hm.out.1
    have hm1 := hm.out.2
    have HSq : Hid (Fz qs 21000000000) := by show Fz _ _; rw [← HQ.out]; exact (fz_sum (HZ.out.take k)).mono (by have h_ : (l.take k).length ≤ 200 := (by rw [List.length_take]; omega); omega)
    by_cases hlt : k < n
    ·
      have e1_0 : decide (k < n) = true := decide_eq_true (by omega)
      have e1_1 : decide ((k : Int) < (n : Int)) = true := decide_eq_true (by omega)
      have e1_i : (k : Int) < (n : Int) := by omega
      obtain ⟨b, off, rfl, hb_⟩ := RdL.ptr HL.out (by omega : 0 < n)
      have hkl_ : k < l.length := by rw [HL.out.len]; exact hlt
      obtain ⟨x_, hx_⟩ : ∃ x, l[k]? = some x := ⟨l[k], List.getElem?_eq_getElem hkl_⟩
      obtain ⟨xn, xu0, xu1, xu2, xu3, xq⟩ := x_
      have HRx : Hid (Row w b (off + k * 5) [.int .i64 xn, xu0, xu1, xu2, xu3]) := hb_.row hx_
      have HQx : Hid (FQ G w xu0 xu1 xu2 xu3 xq) := hb_.ok hx_
      have HEx := Lib.hid hx_; clear hx_ hkl_ hb_
      have HZx : Hid (Fz xq 100000000) := HZ.out _ (List.mem_of_getElem? HEx.out)
      have hok_ := HOK.out.ok _ (List.mem_of_getElem? HEx.out)
      have hx1 : 1 ≤ xn := hok_.1
      have hb_ := HOK.out.takeN (k + 1)
      have hs_ := sum_takeN HEx.out
      have hs2_ : sumN ((l.take (k + 1)).map LC.ly) = sumN ((l.take k).map LC.ly) + xn := hs_
      rw [hs2_, HM.out] at hb_
      have hmx : m + xn ≤ 1099511627776 := hb_.2
      have HN1 : Hid (sumN ((l.take (k + 1)).map LC.ly) = m + xn) := by show _ = _; rw [hs2_, HM.out]
      have HN2 : Hid (sumB ((l.take (k + 1)).map LC.ly) = qs + xq) := by show _ = _; rw [sum_takeB HEx.out, HQ.out]
      clear hok_ hs_ hs2_ hb_
      have ys_xu0 := TQ.st (HQx.out.keep (M.out.2.2.2)); have st_xu0 := ys_xu0.1; have st_xu1 := ys_xu0.2.1; have st_xu2 := ys_xu0.2.2.1; have st_xu3 := ys_xu0.2.2.2; clear ys_xu0
      have yr0 := (HRx.out.keep (M.out.2.2.2)).c5; have r0_0 := yr0.1; have r0_1 := yr0.2.1; have r0_2 := yr0.2.2.1; have r0_3 := yr0.2.2.2.1; have r0_4 := yr0.2.2.2.2; clear yr0
      go_upto_region 7 with fail
      clear st_xu0 st_xu1 st_xu2 st_xu3 r0_0 r0_1 r0_2 r0_3 r0_4
      obtain ⟨w6, hv⟩ : ∃ w_ : World, w_ = (w5.alloc (.cells #[.int .i64 xn, xu0, xu1, xu2, xu3] 48)) := ⟨_, rfl⟩
      rw [← hv]
      have ow2_ : w3.heap.size < w5.heap.size := ((M.out.1)).lt
      replace M := Lib.hid (And.intro (hv ▸ bx1 w5 48 #[.int .i64 xn, xu0, xu1, xu2, xu3]) (Goes.go M.out (hv ▸ below_alloc _ _ : Below w5.heap.size w5 w6)))
      clear hv
      have y2 := (M.out.1).d5; have p2_0 := y2.1; have p2_1 := y2.2.1; have p2_2 := y2.2.2.1; have p2_3 := y2.2.2.2.1; have p2_4 := y2.2.2.2.2; clear y2
      have y1 := (M.out.2.1).d4; have p1_0 := y1.1; have p1_1 := y1.2.1; have p1_2 := y1.2.2.1; have p1_3 := y1.2.2.2; clear y1
      go_wp2_with fail
      clear p2_0 p2_1 p2_2 p2_3 p2_4 p1_0 p1_1 p1_2 p1_3
      obtain ⟨q11, eq11⟩ : ∃ v_ : Rat, v_ = (qs + xq) := ⟨_, rfl⟩
      refine (fqAdd (G := G) (q := qs) (r := xq) (M.out.2.2.1) (HQx.out.keep (M.out.2.2.2.2)) (Fz.mono HSq.out (by omega)) (Fz.mono HZx.out (by omega))).mono ?_
      rintro e w7 ⟨x_7, x_8, x_9, x_10, rfl, hd12, hb⟩
      rw [← eq11] at hd12
      have Sq11 : Hid (Fz q11 21100000001) := by show Fz q11 21100000001; rw [eq11]; exact (Fz.add HSq.out HZx.out)
      have Eq11 := Lib.hid eq11; clear eq11
      replace M := Lib.hid (And.intro hd12 (Goes.go M.out hb))
      clear hb hd12
      have y1 := (M.out.2.2.1).c4; have p1_0 := y1.1; have q1_0 := y1.2.1; have p1_1 := y1.2.2.1; have q1_1 := y1.2.2.2.1; have p1_2 := y1.2.2.2.2.1; have q1_2 := y1.2.2.2.2.2.1; have p1_3 := y1.2.2.2.2.2.2.1; have q1_3 := y1.2.2.2.2.2.2.2; clear y1
      have ys_x_7 := TQ.st (M.out.1); have st_x_7 := ys_x_7.1; have st_x_8 := ys_x_7.2.1; have st_x_9 := ys_x_7.2.2.1; have st_x_10 := ys_x_7.2.2.2; clear ys_x_7
      go_upto_region 9 with fail
      clear p1_0 q1_0 p1_1 q1_1 p1_2 q1_2 p1_3 q1_3 st_x_7 st_x_8 st_x_9 st_x_10
      obtain ⟨w8, hv⟩ : ∃ w_ : World, w_ = ((((w7.setCell ⟨w3.heap.size, 0, none⟩ (x_7)).setCell ⟨w3.heap.size, 1, none⟩ (x_8)).setCell ⟨w3.heap.size, 2, none⟩ (x_9)).setCell ⟨w3.heap.size, 3, none⟩ (x_10)) := ⟨_, rfl⟩
      rw [← hv]
      have og : w7.grownBy w8 (some w3.heap.size) := by rw [hv]; exact (only_setCell (only_setCell (only_setCell (only_setCell (World.grownBy.refl _ _) _) _) _) _)
      have hz : w.heap.size ≤ w3.heap.size := by omega
      have hk : Bx w8 w3.heap.size 29 #[x_7, x_8, x_9, x_10] := by rw [hv]; exact (((((M.out.2.2.1).set 0 _).set 1 _).set 2 _).set 3 _)
      have hbw : Below w.heap.size w w8 := by rw [hv]; exact (Below.setCell (Below.setCell (Below.setCell (Below.setCell (M.out.2.2.2.2.2) (by omega) _) (by omega) _) (by omega) _) (by omega) _)
      replace M := Lib.hid (And.intro ((M.out.1).far (M.out.2.2.1) (by rfl) (by omega) og) (And.intro ((M.out.2.1).only og (by omega)) (And.intro hk (And.intro ((M.out.2.2.2.1).far (M.out.2.2.1) (by rfl) (by omega) og) (And.intro ((M.out.2.2.2.2.1).only og (by omega)) hbw)))))
      clear hk hbw og hv hz
      go_wp2_with fail
      go_roundw
      case rel => exact ⟨(k + 1), (m + xn), q11, x_7, x_8, x_9, x_10, by go_num, by go_num, (by show _ ≤ _; omega), (by show _ ∧ _; omega), HN1, (Lib.hid (by rw [Eq11.out]; exact HN2.out)), Lib.hid (And.intro (M.out.2.2.1) (And.intro (M.out.1) (And.intro (M.out.2.2.2.2.1) (M.out.2.2.2.2.2))))⟩
      case measure => simp [RowKit.intOf] <;> omega
    ·
      have e1_0 : decide (k < n) = false := decide_eq_false (by omega)
      have e1_1 : decide ((k : Int) < (n : Int)) = false := decide_eq_false (by omega)
      have e1_i : ¬ (k : Int) < (n : Int) := by omega
      have hkn : l.take k = l := List.take_of_length_le (by rw [HL.out.len]; omega)
      have HE1 : Hid (sumN (l.map LC.ly) = m) := by show _ = _; rw [← HM.out, hkn]
      have HE2 : Hid (sumB (l.map LC.ly) = qs) := by show _ = _; rw [← HQ.out, hkn]
      clear hkn
      go_wp2_with fail
      obtain ⟨w6, hv⟩ : ∃ w_ : World, w_ = w5.drew := ⟨_, rfl⟩
      replace M := Lib.hid (Goes.go M.out (hv ▸ below_drew _ : Below w5.heap.size w5 w6))
      refine wp_region_held_drew (S := (fun w' => w'.cell? ⟨w3.heap.size, 0, none⟩ = some (g0) ∧ w'.cell? ⟨w3.heap.size, 1, none⟩ = some (g1) ∧ w'.cell? ⟨w3.heap.size, 2, none⟩ = some (g2) ∧ w'.cell? ⟨w3.heap.size, 3, none⟩ = some (g3))) (by kernel_rfl) (by rw [← hv]; exact ⟨(M.out.1).at.1 0, (M.out.1).at.1 1, (M.out.1).at.1 2, (M.out.1).at.1 3⟩) (fun hH13 => ?_)
      rw [← hv] at hH13 ⊢
      clear hv
      refine tk at0 ?_
      refine tk at1 ?_
      refine tk at2 ?_
      refine wpAnyH_ready (rs := [3]) (by kernel_rfl) (by simp) ?_
      refine AllReadyH.cons at3 (fun K hK => ?_) AllReadyH.nil
      have y0 := (M.out.2.2.1).c4; have p0_0 := y0.1; have q0_0 := y0.2.1; have p0_1 := y0.2.2.1; have q0_1 := y0.2.2.2.1; have p0_2 := y0.2.2.2.2.1; have q0_2 := y0.2.2.2.2.2.1; have p0_3 := y0.2.2.2.2.2.2.1; have q0_3 := y0.2.2.2.2.2.2.2; clear y0
      have ys_g0 := TQ.st (M.out.2.1); have st_g0 := ys_g0.1; have st_g1 := ys_g0.2.1; have st_g2 := ys_g0.2.2.1; have st_g3 := ys_g0.2.2.2; clear ys_g0
      go_simp
      clear p0_0 q0_0 p0_1 q0_1 p0_2 q0_2 p0_3 q0_3 st_g0 st_g1 st_g2 st_g3
      obtain ⟨w7, hv⟩ : ∃ w_ : World, w_ = ((((w6.setCell ⟨w.heap.size, 0, none⟩ (g0)).setCell ⟨w.heap.size, 1, none⟩ (g1)).setCell ⟨w.heap.size, 2, none⟩ (g2)).setCell ⟨w.heap.size, 3, none⟩ (g3)) := ⟨_, rfl⟩
      rw [← hv]
      have og : w6.grownBy w7 (some w.heap.size) := by rw [hv]; exact (only_setCell (only_setCell (only_setCell (only_setCell (World.grownBy.refl _ _) _) _) _) _)
      have hz : w.heap.size ≤ w.heap.size := by exact Nat.le_refl _
      have hk : Bx w7 w.heap.size 29 #[g0, g1, g2, g3] := by rw [hv]; exact (((((M.out.2.2.1).set 0 _).set 1 _).set 2 _).set 3 _)
      have hbw : Below w.heap.size w w7 := by rw [hv]; exact (Below.setCell (Below.setCell (Below.setCell (Below.setCell (M.out.2.2.2) (by omega) _) (by omega) _) (by omega) _) (by omega) _)
      replace M := Lib.hid (And.intro ((M.out.1).only og (by omega)) (And.intro ((M.out.2.1).far (M.out.2.2.1) (by rfl) (by omega) og) (And.intro hk hbw)))
      clear hk hbw og hv hz
      refine hK.out _ _ (⟨(M.out.1).at.1 0, (M.out.1).at.1 1, (M.out.1).at.1 2, (M.out.1).at.1 3⟩) (fun hH14 => ?_)
      clear hK K hH13
      (try simp only [Act.put, List.setIfInBounds_toArray, List.set_cons_zero, List.set_cons_succ])
      refine wpAnyH_done (by kernel_rfl) ?_ _
      clear hH14
      go_wp2_with fail
      have hE := HE1.out
      subst hE
      refine bodyPost_ret (results_tc rfl _ _ w.heap.size 29 _ _ _ rfl (M.out.2.2.1) Try.underlying29 rfl (by kernel_rfl)) rfl ?_
      exact ⟨g0, g1, g2, g3, rfl, (by have h_ := (M.out.2.1); rw [← HE2.out] at h_; exact h_), (M.out.2.2.2)⟩
end Go.Proofs.Ytgmngkbocpadaaa
namespace Go.Proofs.Ytgmngkbocpadaaa
open Go.RowKit
variable {G : Nat}

theorem Bo.c5 {w : World} {g o : Nat} {P R : List Value} {T : TypeId} {u0 u1 u2 u3 u4 : Value} (h : Bo w g o P R T [u0, u1, u2, u3, u4]) : w.cell? ⟨g, o, none⟩ = some u0 ∧ w.frozen? ⟨g, o, none⟩ = false ∧ w.cell? ⟨g, o + 1, none⟩ = some u1 ∧ w.frozen? ⟨g, o + 1, none⟩ = false ∧ w.cell? ⟨g, o + 2, none⟩ = some u2 ∧ w.frozen? ⟨g, o + 2, none⟩ = false ∧ w.cell? ⟨g, o + 3, none⟩ = some u3 ∧ w.frozen? ⟨g, o + 3, none⟩ = false ∧ w.cell? ⟨g, o + 4, none⟩ = some u4 ∧ w.frozen? ⟨g, o + 4, none⟩ = false :=
  ⟨(h.at 0 (show 0 < 5 by omega)).1, (h.at 0 (show 0 < 5 by omega)).2, (h.at 1 (show 1 < 5 by omega)).1, (h.at 1 (show 1 < 5 by omega)).2, (h.at 2 (show 2 < 5 by omega)).1, (h.at 2 (show 2 < 5 by omega)).2, (h.at 3 (show 3 < 5 by omega)).1, (h.at 3 (show 3 < 5 by omega)).2, (h.at 4 (show 4 < 5 by omega)).1, (h.at 4 (show 4 < 5 by omega)).2⟩
theorem split_at {α : Type} {l : List α} {k : Nat} (h : k < l.length) : ∃ p x r, l = p ++ x :: r ∧ p.length = k :=
  ⟨l.take k, l[k], l.drop (k + 1), by rw [← List.drop_eq_getElem_cons h, List.take_append_drop], by rw [List.length_take]; omega⟩
set_option maxHeartbeats 4000000 in
theorem ownC {l : List LC} {B g off n c : Nat} {w : World} (hG : G ≤ w.heap.size) (h : OwC G B w g off l) (hl : l.length = n) (hn : n ≤ 1000000) (hz : FzL l 100000000000) :
    Calls Try.prog 28 #[.slice (some ⟨g, off, none⟩) n c] w fun e w' => e = .returned (.slice (some ⟨g, off, none⟩) n c) ∧ (∃ l', OwC G B w' g off l' ∧ l'.map LC.ly = l.map LC.ly) ∧ w.grownBy w' (some g) := by
  have H := Lib.hid h; have HL := Lib.hid hl; have HZ := Lib.hid hz; clear h hl hz
  go_enter Try.func28, Try.ntmps28
  go_wp2_with fail
  go_loopw [6] (fun i wr => ∃ (k : Nat) (m : List LC), i = .int .i64 k ∧ Hid (k ≤ n) ∧ Hid (OwC G B wr g off m) ∧ Hid (m.map LC.ly = l.map LC.ly) ∧ Hid (w.grownBy wr (some g))) (fun i _ => n - (RowKit.intOf i).toNat)
  case atStart => exact ⟨0, l, rfl, Lib.hid (Nat.zero_le _), H, Lib.hid rfl, Lib.hid (World.grownBy.refl _ _)⟩
  case round =>
    obtain ⟨w1, rfl⟩ : ∃ x, x = wr := ⟨_, rfl⟩
    obtain ⟨k, m, rfl, HK, HO, HM, HG⟩ := hrel
    have hk := HK.out
    by_cases hlt : k < n
    · have hml : m.length = n := by have := congrArg List.length HM.out; rw [List.length_map, List.length_map, HL.out] at this; exact this
      obtain ⟨p, x, r, rfl, hp⟩ := split_at (l := m) (k := k) (by omega)
      obtain ⟨P, R, hb, hx, ho, hBg, hcl⟩ := HO.out.open
      rw [hp] at hb hcl
      obtain ⟨xn, x0, x1, x2, x3, xq⟩ := x
      have hxq : Fz xq 100000000000 := by
        have h1 : (⟨xn, xq⟩ : Ly) ∈ l.map LC.ly := by rw [← HM.out]; simp [LC.ly]
        obtain ⟨y, hy, he⟩ := List.mem_map.1 h1
        have h2 := HZ.out y hy
        have h3 : y.q = xq := congrArg Ly.b he
        rw [← h3]; exact h2
      have hb' : Bo w1 g (off + k * 5) P R 48 [.int .i64 xn, x0, x1, x2, x3] := hb
      have hc := Bo.c5 hb'
      have c1 := hc.2.2.1; have f1 := hc.2.2.2.1; have c2 := hc.2.2.2.2.1; have f2 := hc.2.2.2.2.2.1; have c3 := hc.2.2.2.2.2.2.1; have f3 := hc.2.2.2.2.2.2.2.1; have c4 := hc.2.2.2.2.2.2.2.2.1; have f4 := hc.2.2.2.2.2.2.2.2.2
      have HB := Lib.hid hb'; have HX : Hid (FQ G w1 x0 x1 x2 x3 xq) := hx; have HOK := Lib.hid ho; have HCL := Lib.hid hcl; have HXQ := Lib.hid hxq; have HP := Lib.hid hp; have HML := Lib.hid hml
      clear hc hb hb' hx ho hcl hxq hp hml
      have hI : (k : Int) < (n : Int) := by omega
      go_wp2_with fail
      refine (stFresh (Nat.le_trans hG HG.out.size) HX.out HXQ.out).mono ?_
      rintro e w2 ⟨y0, y1, y2, y3, rfl, hq, hb⟩
      have HQ := Lib.hid hq; have HB2 := Lib.hid (HB.out.keep hb); have HBW := Lib.hid hb; clear hq hb c1 c2 c3 c4 f1 f2 f3 f4
      have hc := Bo.c5 HB2.out
      have c1 := hc.2.2.1; have c2 := hc.2.2.2.2.1; have c3 := hc.2.2.2.2.2.2.1; have c4 := hc.2.2.2.2.2.2.2.2.1
      have f1 := hc.2.2.2.1; have f2 := hc.2.2.2.2.2.1; have f3 := hc.2.2.2.2.2.2.2.1; have f4 := hc.2.2.2.2.2.2.2.2.2
      have hY := FQ.st HQ.out
      have sy0 := hY.1; have sy1 := hY.2.1; have sy2 := hY.2.2.1; have sy3 := hY.2.2.2
      clear hc hY
      go_wp2_with fail
      go_roundw
      case rel =>
        obtain ⟨w3, hv⟩ : ∃ w_ : World, w_ = ((((w2.setCell ⟨g, off + k * 5 + 1, none⟩ y0).setCell ⟨g, off + k * 5 + 2, none⟩ y1).setCell ⟨g, off + k * 5 + 3, none⟩ y2).setCell ⟨g, off + k * 5 + 4, none⟩ y3) := ⟨_, rfl⟩
        rw [← hv]
        have hGg : G ≤ g := Nat.le_trans HO.out.leG HO.out.le
        have hb3 : Bo w3 g (off + k * 5) P R 48 [.int .i64 xn, y0, y1, y2, y3] := by
          rw [hv]; exact ((((HB2.out.set 1 (show 1 < 5 by omega) y0).set 2 (show 2 < 5 by omega) y1).set 3 (show 3 < 5 by omega) y2).set 4 (show 4 < 5 by omega) y3)
        have og : w2.grownBy w3 (some g) := by rw [hv]; exact only_setCell (only_setCell (only_setCell (only_setCell (World.grownBy.refl _ _) _) _) _) _
        have hc := HCL.out w3 ⟨xn, y0, y1, y2, y3, xq⟩ hb3 (FQ.far HQ.out HB2.out.bx (by rfl) hGg og) (fun y hy => El.far (El.keep (HOK.out y hy) HBW.out) HB2.out.bx (by rfl) hGg og)
        refine ⟨k + 1, p ++ ⟨xn, y0, y1, y2, y3, xq⟩ :: r, by go_num, Lib.hid (by omega), Lib.hid hc, Lib.hid ?_, Lib.hid (only_trans (only_call HG.out HBW.out) og)⟩
        rw [← HM.out]; simp [LC.ly]
      case measure => simp [intOf]; omega
    · go_wp2_with fail
      go_ret
      exact ⟨rfl, ⟨m, HO.out, HM.out⟩, HG.out⟩
end Go.Proofs.Ytgmngkbocpadaaa
namespace Go.Proofs.Ytgmngkbocpadaaa
open Go.RowKit Go.Lib
variable {G : Nat}

instance : DecidableEq Ly := fun x y => if h : x.n = y.n ∧ x.b = y.b then isTrue (by cases x; cases y; simp_all) else isFalse (by rintro rfl; exact h ⟨rfl, rfl⟩)
theorem ly_len {l m : List LC} (h : l.map LC.ly = m.map LC.ly) : l.length = m.length := by have := congrArg List.length h; simpa using this
theorem ly_next {l m : List LC} {k : Nat} {x y : LC} (hx : l[k]? = some x) (hy : m[k]? = some y) (h : (l.take k).map LC.ly = (m.take k).map LC.ly) (hn : x.n = y.n) (hq : x.q = y.q) : (l.take (k + 1)).map LC.ly = (m.take (k + 1)).map LC.ly := by
  rw [List.take_add_one, List.take_add_one, hx, hy, List.map_append, List.map_append, h]
  congr 1
  simp [LC.ly, hn, hq]
theorem ly_ne {l m : List LC} {k : Nat} {x y : LC} (hx : l[k]? = some x) (hy : m[k]? = some y) (h : x.n ≠ y.n ∨ x.q ≠ y.q) : decide (l.map LC.ly = m.map LC.ly) = false := by
  refine decide_eq_false fun he => ?_
  have h1 : (l.map LC.ly)[k]? = (m.map LC.ly)[k]? := by rw [he]
  rw [List.getElem?_map, List.getElem?_map, hx, hy] at h1
  simp [LC.ly] at h1
  rcases h with h | h
  · exact h h1.1
  · exact h h1.2
set_option maxRecDepth 100000 in
set_option maxHeartbeats 4000000 in
theorem stSame {l m : List LC} {a1 a2 : Option Addr} {n1 n2 c1 c2 : Nat} {b_ : Bool} {w : World} (_hG : G ≤ w.heap.size) (h1 : RdC G w a1 n1 c1 l) (h2 : RdC G w a2 n2 c2 m) (_hn1 : n1 ≤ 1000000) (_hn2 : n2 ≤ 1000000) (hz1 : FzL l 100000000000) (hz2 : FzL m 100000000000) (hb : decide (l.map LC.ly = m.map LC.ly) = b_) :
    Calls Try.prog 17 #[.slice a1 n1 c1, .slice a2 n2 c2] w fun e w' => e = .returned (.bool b_) ∧ Below w.heap.size w w' := by
  have HZl := Lib.hid hz1; have HZm := Lib.hid hz2; have HB := Lib.hid hb; clear hz1 hz2 hb
  have HL1 : Hid (RdC G w a1 n1 c1 l) := h1
  have HL2 : Hid (RdC G w a2 n2 c2 m) := h2
  clear h1 h2
  have M : Hid (Below w.heap.size w w) := Below.refl _ _
  go_enter Try.func17, Try.ntmps17
  go_upto_region 1 with fail
  by_cases hnn : n1 = n2
  ·
    obtain ⟨n, rfl⟩ : ∃ n, n = n1 := ⟨_, rfl⟩
    subst hnn
    go_wp2_with fail
    go_loopw [5] (fun i5 wr => ∃ (k : Nat), i5 = .int .i64 (k : Int) ∧ Hid (k ≤ n) ∧ Hid ((l.take k).map LC.ly = (m.take k).map LC.ly) ∧ Hid (Below w.heap.size w wr)) (fun i5 _ => n - (RowKit.intOf i5).toNat)
    case atStart =>
      exact ⟨0, rfl, (by show _ ≤ _; omega), (show List.map LC.ly [] = _ from rfl), Lib.hid M.out⟩
    case round =>
      obtain ⟨w1, rfl⟩ : ∃ x, x = wr := ⟨_, rfl⟩
      clear M
      obtain ⟨k, rfl, hk, HT, M⟩ := hrel
      have hk := hk.out
      by_cases hlt : k < n
      ·
        have e1_0 : decide (k < n) = true := decide_eq_true (by omega)
        have e1_1 : decide ((k : Int) < (n : Int)) = true := decide_eq_true (by omega)
        have e1_i : (k : Int) < (n : Int) := by omega
        obtain ⟨b, off, rfl, hb_⟩ := RdL.ptr HL1.out (by omega : 0 < n)
        have hkl_ : k < l.length := by rw [HL1.out.len]; exact hlt
        obtain ⟨x_, hx_⟩ : ∃ x, l[k]? = some x := ⟨l[k], List.getElem?_eq_getElem hkl_⟩
        obtain ⟨xn, xu0, xu1, xu2, xu3, xq⟩ := x_
        have HRx : Hid (Row w b (off + k * 5) [.int .i64 xn, xu0, xu1, xu2, xu3]) := hb_.row hx_
        have HQx : Hid (FQ G w xu0 xu1 xu2 xu3 xq) := hb_.ok hx_
        have HEx := Lib.hid hx_; clear hx_ hkl_ hb_
        obtain ⟨d, off2, rfl, hb_⟩ := RdL.ptr HL2.out (by omega : 0 < n)
        have hkl_ : k < m.length := by rw [HL2.out.len]; exact hlt
        obtain ⟨y_, hx_⟩ : ∃ x, m[k]? = some x := ⟨m[k], List.getElem?_eq_getElem hkl_⟩
        obtain ⟨yn, yu0, yu1, yu2, yu3, yq⟩ := y_
        have HRy : Hid (Row w d (off2 + k * 5) [.int .i64 yn, yu0, yu1, yu2, yu3]) := hb_.row hx_
        have HQy : Hid (FQ G w yu0 yu1 yu2 yu3 yq) := hb_.ok hx_
        have HEy := Lib.hid hx_; clear hx_ hkl_ hb_
        have HZx : Hid (Fz xq 100000000000) := HZl.out _ (List.mem_of_getElem? HEx.out)
        have HZy : Hid (Fz yq 100000000000) := HZm.out _ (List.mem_of_getElem? HEy.out)
        have hw : xn ≠ yn ∨ (xn = yn ∧ xq ≠ yq) ∨ (xn = yn ∧ xq = yq) := by grind
        rcases hw with hw | hw | hw
        ·
          have HZZ := Lib.hid (ly_ne HEx.out HEy.out (.inl hw))
          have en1 : (xn == yn) = false := beq_false_of_ne (by omega)
          have en2 : (xn != yn) = true := bne_iff_ne.2 (by omega)
          have en3 : ¬ xn = yn := by omega
          go_wp2_with fail
          obtain ⟨w2, hv⟩ : ∃ w_ : World, w_ = w1.drew := ⟨_, rfl⟩
          replace M := Lib.hid (Goes.go M.out (hv ▸ below_drew _ : Below w1.heap.size w1 w2))
          refine wp_region_held_drew (S := (fun w' => w'.cell? ⟨b, off + k * 5, none⟩ = some (.int .i64 xn) ∧ w'.cell? ⟨b, off + k * 5 + 1, none⟩ = some (xu0) ∧ w'.cell? ⟨b, off + k * 5 + 2, none⟩ = some (xu1) ∧ w'.cell? ⟨b, off + k * 5 + 3, none⟩ = some (xu2) ∧ w'.cell? ⟨b, off + k * 5 + 4, none⟩ = some (xu3) ∧ w'.cell? ⟨d, off2 + k * 5, none⟩ = some (.int .i64 yn) ∧ w'.cell? ⟨d, off2 + k * 5 + 1, none⟩ = some (yu0) ∧ w'.cell? ⟨d, off2 + k * 5 + 2, none⟩ = some (yu1) ∧ w'.cell? ⟨d, off2 + k * 5 + 3, none⟩ = some (yu2) ∧ w'.cell? ⟨d, off2 + k * 5 + 4, none⟩ = some (yu3))) (by kernel_rfl) (by rw [← hv]; exact ⟨(HRx.out.keep M.out).2 0 _ rfl, (HRx.out.keep M.out).2 1 _ rfl, (HRx.out.keep M.out).2 2 _ rfl, (HRx.out.keep M.out).2 3 _ rfl, (HRx.out.keep M.out).2 4 _ rfl, (HRy.out.keep M.out).2 0 _ rfl, (HRy.out.keep M.out).2 1 _ rfl, (HRy.out.keep M.out).2 2 _ rfl, (HRy.out.keep M.out).2 3 _ rfl, (HRy.out.keep M.out).2 4 _ rfl⟩) (fun hH1 => ?_)
          rw [← hv] at hH1 ⊢
          clear hv
          refine tk at0 ?_
          refine tk at1 ?_
          refine tk at2 ?_
          refine tk at3 ?_
          refine tk at4 ?_
          refine tk at5 ?_
          refine tk at6 ?_
          refine tk at7 ?_
          refine tk at8 ?_
          refine tk at9 ?_
          refine tk at10 ?_
          refine tk at11 ?_
          refine tu at12 ?_
          refine tu at13 ?_
          refine tu at14 ?_
          refine tu at15 ?_
          refine tu at16 ?_
          refine tu at17 ?_
          refine tu at18 ?_
          refine tu at19 ?_
          refine tu at20 ?_
          refine tu at21 ?_
          refine wpAnyH_ready (rs := [22]) (by kernel_rfl) (by simp) ?_
          refine AllReadyH.cons at22 (fun K hK => ?_) AllReadyH.nil
          rw [if_neg]
          rotate_left
          focus (intro h; exact Bool.noConfusion h)
          refine hK.out _ _ hH1 (fun _ => ?_)
          clear hK K
          (try simp only [Act.put, List.setIfInBounds_toArray, List.set_cons_zero, List.set_cons_succ])
          refine tu at23 ?_
          refine tk at24 ?_
          refine wpAnyH_done (by kernel_rfl) ?_ _
          clear hH1
          go_wp2_with fail
          obtain rfl := HZZ.out.symm.trans HB.out
          go_ret
          exact ⟨rfl, M.out⟩
        ·
          obtain ⟨hw1, hw2⟩ := hw
          subst hw1
          have HZZ := Lib.hid (ly_ne HEx.out HEy.out (.inr hw2))
          have HDD := Lib.hid (decide_eq_false (show ¬ (some xq = some yq) from fun h_ => hw2 (Option.some.inj h_)))
          go_wp2_with fail
          obtain ⟨w2, hv⟩ : ∃ w_ : World, w_ = w1.drew := ⟨_, rfl⟩
          replace M := Lib.hid (Goes.go M.out (hv ▸ below_drew _ : Below w1.heap.size w1 w2))
          refine wp_region_held_drew (S := (fun w' => w'.cell? ⟨b, off + k * 5, none⟩ = some (.int .i64 xn) ∧ w'.cell? ⟨b, off + k * 5 + 1, none⟩ = some (xu0) ∧ w'.cell? ⟨b, off + k * 5 + 2, none⟩ = some (xu1) ∧ w'.cell? ⟨b, off + k * 5 + 3, none⟩ = some (xu2) ∧ w'.cell? ⟨b, off + k * 5 + 4, none⟩ = some (xu3) ∧ w'.cell? ⟨d, off2 + k * 5, none⟩ = some (.int .i64 xn) ∧ w'.cell? ⟨d, off2 + k * 5 + 1, none⟩ = some (yu0) ∧ w'.cell? ⟨d, off2 + k * 5 + 2, none⟩ = some (yu1) ∧ w'.cell? ⟨d, off2 + k * 5 + 3, none⟩ = some (yu2) ∧ w'.cell? ⟨d, off2 + k * 5 + 4, none⟩ = some (yu3))) (by kernel_rfl) (by rw [← hv]; exact ⟨(HRx.out.keep M.out).2 0 _ rfl, (HRx.out.keep M.out).2 1 _ rfl, (HRx.out.keep M.out).2 2 _ rfl, (HRx.out.keep M.out).2 3 _ rfl, (HRx.out.keep M.out).2 4 _ rfl, (HRy.out.keep M.out).2 0 _ rfl, (HRy.out.keep M.out).2 1 _ rfl, (HRy.out.keep M.out).2 2 _ rfl, (HRy.out.keep M.out).2 3 _ rfl, (HRy.out.keep M.out).2 4 _ rfl⟩) (fun hH2 => ?_)
          rw [← hv] at hH2 ⊢
          clear hv
          refine tk at0 ?_
          refine tk at1 ?_
          refine tk at2 ?_
          refine tk at3 ?_
          refine tk at4 ?_
          refine tk at5 ?_
          refine tk at6 ?_
          refine tk at7 ?_
          refine tk at8 ?_
          refine tk at9 ?_
          refine tk at10 ?_
          refine tk at11 ?_
          refine tk at12 ?_
          refine tk at13 ?_
          refine tk at14 ?_
          refine tk at15 ?_
          refine tk at16 ?_
          refine tk at17 ?_
          refine tk at18 ?_
          refine tk at19 ?_
          refine tk at20 ?_
          refine tk at21 ?_
          refine wpAnyH_ready (rs := [22]) (by kernel_rfl) (by simp) ?_
          refine AllReadyH.cons at22 (fun K hK => ?_) AllReadyH.nil
          go_simp
          refine (rfsame_o (G := G) (o := (some xq)) (p := (some yq)) (b_ := false) (HQx.out.keep M.out) (HQy.out.keep M.out) (Oz.mono (Oz.some_ HZx.out) (by omega)) (Oz.mono (Oz.some_ HZy.out) (by omega)) HDD.out).mono ?_
          rintro e w3 ⟨rfl, hb⟩
          replace M := Lib.hid (Goes.go M.out hb)
          clear hb
          (try go_wp2_with fail)
          refine hK.out _ _ (⟨(HRx.out.keep M.out).2 0 _ rfl, (HRx.out.keep M.out).2 1 _ rfl, (HRx.out.keep M.out).2 2 _ rfl, (HRx.out.keep M.out).2 3 _ rfl, (HRx.out.keep M.out).2 4 _ rfl, (HRy.out.keep M.out).2 0 _ rfl, (HRy.out.keep M.out).2 1 _ rfl, (HRy.out.keep M.out).2 2 _ rfl, (HRy.out.keep M.out).2 3 _ rfl, (HRy.out.keep M.out).2 4 _ rfl⟩) (fun hH3 => ?_)
          clear hK K hH2
          (try simp only [Act.put, List.setIfInBounds_toArray, List.set_cons_zero, List.set_cons_succ])
          refine tk at23 ?_
          refine tk at24 ?_
          refine wpAnyH_done (by kernel_rfl) ?_ _
          clear hH3
          go_wp2_with fail
          obtain rfl := HZZ.out.symm.trans HB.out
          go_ret
          exact ⟨rfl, M.out⟩
        ·
          obtain ⟨hw1, hw2⟩ := hw
          subst hw1
          have HNX := Lib.hid (ly_next HEx.out HEy.out HT.out rfl hw2)
          have HDD := Lib.hid (decide_eq_true (show some xq = some yq by rw [hw2]))
          go_wp2_with fail
          obtain ⟨w2, hv⟩ : ∃ w_ : World, w_ = w1.drew := ⟨_, rfl⟩
          replace M := Lib.hid (Goes.go M.out (hv ▸ below_drew _ : Below w1.heap.size w1 w2))
          refine wp_region_held_drew (S := (fun w' => w'.cell? ⟨b, off + k * 5, none⟩ = some (.int .i64 xn) ∧ w'.cell? ⟨b, off + k * 5 + 1, none⟩ = some (xu0) ∧ w'.cell? ⟨b, off + k * 5 + 2, none⟩ = some (xu1) ∧ w'.cell? ⟨b, off + k * 5 + 3, none⟩ = some (xu2) ∧ w'.cell? ⟨b, off + k * 5 + 4, none⟩ = some (xu3) ∧ w'.cell? ⟨d, off2 + k * 5, none⟩ = some (.int .i64 xn) ∧ w'.cell? ⟨d, off2 + k * 5 + 1, none⟩ = some (yu0) ∧ w'.cell? ⟨d, off2 + k * 5 + 2, none⟩ = some (yu1) ∧ w'.cell? ⟨d, off2 + k * 5 + 3, none⟩ = some (yu2) ∧ w'.cell? ⟨d, off2 + k * 5 + 4, none⟩ = some (yu3))) (by kernel_rfl) (by rw [← hv]; exact ⟨(HRx.out.keep M.out).2 0 _ rfl, (HRx.out.keep M.out).2 1 _ rfl, (HRx.out.keep M.out).2 2 _ rfl, (HRx.out.keep M.out).2 3 _ rfl, (HRx.out.keep M.out).2 4 _ rfl, (HRy.out.keep M.out).2 0 _ rfl, (HRy.out.keep M.out).2 1 _ rfl, (HRy.out.keep M.out).2 2 _ rfl, (HRy.out.keep M.out).2 3 _ rfl, (HRy.out.keep M.out).2 4 _ rfl⟩) (fun hH4 => ?_)
          rw [← hv] at hH4 ⊢
          clear hv
          refine tk at0 ?_
          refine tk at1 ?_
          refine tk at2 ?_
          refine tk at3 ?_
          refine tk at4 ?_
          refine tk at5 ?_
          refine tk at6 ?_
          refine tk at7 ?_
          refine tk at8 ?_
          refine tk at9 ?_
          refine tk at10 ?_
          refine tk at11 ?_
          refine tk at12 ?_
          refine tk at13 ?_
          refine tk at14 ?_
          refine tk at15 ?_
          refine tk at16 ?_
          refine tk at17 ?_
          refine tk at18 ?_
          refine tk at19 ?_
          refine tk at20 ?_
          refine tk at21 ?_
          refine wpAnyH_ready (rs := [22]) (by kernel_rfl) (by simp) ?_
          refine AllReadyH.cons at22 (fun K hK => ?_) AllReadyH.nil
          go_simp
          refine (rfsame_o (G := G) (o := (some xq)) (p := (some yq)) (b_ := true) (HQx.out.keep M.out) (HQy.out.keep M.out) (Oz.mono (Oz.some_ HZx.out) (by omega)) (Oz.mono (Oz.some_ HZy.out) (by omega)) HDD.out).mono ?_
          rintro e w3 ⟨rfl, hb⟩
          replace M := Lib.hid (Goes.go M.out hb)
          clear hb
          (try go_wp2_with fail)
          refine hK.out _ _ (⟨(HRx.out.keep M.out).2 0 _ rfl, (HRx.out.keep M.out).2 1 _ rfl, (HRx.out.keep M.out).2 2 _ rfl, (HRx.out.keep M.out).2 3 _ rfl, (HRx.out.keep M.out).2 4 _ rfl, (HRy.out.keep M.out).2 0 _ rfl, (HRy.out.keep M.out).2 1 _ rfl, (HRy.out.keep M.out).2 2 _ rfl, (HRy.out.keep M.out).2 3 _ rfl, (HRy.out.keep M.out).2 4 _ rfl⟩) (fun hH5 => ?_)
          clear hK K hH4
          (try simp only [Act.put, List.setIfInBounds_toArray, List.set_cons_zero, List.set_cons_succ])
          refine tk at23 ?_
          refine tk at24 ?_
          refine wpAnyH_done (by kernel_rfl) ?_ _
          clear hH5
          go_wp2_with fail
          go_roundw
          case rel => exact ⟨(k + 1), by go_num, (by show _ ≤ _; omega), HNX, Lib.hid M.out⟩
          case measure => simp [RowKit.intOf] <;> omega
      ·
        have e1_0 : decide (k < n) = false := decide_eq_false (by omega)
        have e1_1 : decide ((k : Int) < (n : Int)) = false := decide_eq_false (by omega)
        have e1_i : ¬ (k : Int) < (n : Int) := by omega
        have HZZ : Hid (decide (l.map LC.ly = m.map LC.ly) = true) := by
          show _ = _
          have h_ := HT.out
          rw [List.take_of_length_le (by rw [HL1.out.len]; omega), List.take_of_length_le (by rw [HL2.out.len]; omega)] at h_
          exact decide_eq_true h_
        go_wp2_with fail
        obtain rfl := HZZ.out.symm.trans HB.out
        go_ret
        exact ⟨rfl, M.out⟩
  ·
    have HZZ : Hid (decide (l.map LC.ly = m.map LC.ly) = false) := by
      show _ = _
      refine decide_eq_false fun he => hnn ?_
      have h_ := ly_len he
      rw [HL1.out.len, HL2.out.len] at h_; exact h_
    have en1 : ((n1 : Int) == (n2 : Int)) = false := beq_false_of_ne (by omega)
    have en2 : ((n1 : Int) != (n2 : Int)) = true := bne_iff_ne.2 (by omega)
    have en3 : ¬ (n1 : Int) = (n2 : Int) := by omega
    have en4 : (n1 == n2) = false := beq_false_of_ne (by omega)
    have en5 : (n1 != n2) = true := bne_iff_ne.2 (by omega)
    have en6 : ¬ n1 = n2 := by omega
    go_wp2_with fail
    obtain rfl := HZZ.out.symm.trans HB.out
    go_ret
    exact ⟨rfl, M.out⟩
end Go.Proofs.Ytgmngkbocpadaaa
namespace Go.Proofs.Ytgmngkbocpadaaa
open Go.RowKit Go.Lib
variable {G : Nat}

def Oks (G : Nat) (w : World) (l : List LC) : Prop := ∀ x ∈ l, El.ok G w x
theorem Oks.keep {w w' : World} {l : List LC} (h : Oks G w l) (hb : Below w.heap.size w w') : Oks G w' l := fun x hx => El.keep (h x hx) hb
instance {w w' : World} {l : List LC} : Goes (Oks G w l) w w' (Oks G w' l) := ⟨fun h hb => h.keep hb⟩
theorem Oks.far {w w' : World} {l : List LC} {g : Nat} {T' : TypeId} {ys : Array Value} (h : Oks G w l) (k : Bx w g T' ys) (hT : ([3] : List TypeId).contains T' = false) (hG : G ≤ g) (hg : w.grownBy w' (some g)) : Oks G w' l := fun x hx => El.far (h x hx) k hT hG hg
theorem OwB.mono {α : Type} [El α] {w : World} {B B' g off : Nat} {l : List α} (h : OwB G B w g off l) (h1 : B' ≤ B) (h2 : G ≤ B') : OwB G B' w g off l := ⟨h2, Nat.le_trans h1 h.le, h.oks, h.bx⟩
theorem cloneB {B : Nat} {l : List LC} {a : Option Addr} {n c : Nat} {w : World} (hGB : G ≤ B) (hB : B ≤ w.heap.size) (h : RdC G w a n c l) (hn : n ≤ 1000000) (hp : 0 < n) :
    Calls Try.prog 23 #[.slice a n c] w fun e w' => ∃ g d, e = .returned (.slice (some ⟨g, 0, none⟩) n d) ∧ OwC G B w' g 0 l ∧ n ≤ d ∧ Below w.heap.size w w' :=
  (cloneC (Nat.le_trans hGB hB) h hn hp).mono fun _ _ ⟨g, d, h1, h2, h3, h4⟩ => ⟨g, d, h1, h2.mono hB hGB, h3, h4⟩
theorem results_tct {P : Program} {fn : Func} {p u v : Tmp} {ty : TypeId} (h : fn.results = #[.tmp u, .cell p ty, .tmp v]) (tmps : Array Value) (w : World) (g : Nat) (t : TypeId) (cs : Array Value) (fr : Nat × Nat) (d : TypeDesc)
    (hp : tmps.getD p undef = .pointer (some ⟨g, 0, none⟩)) (hg : w.heap[g]? = some (.cells cs t fr))
    (hu : P.underlying ty = some d) (hd : (match d with | .struct _ | .array _ _ => true | _ => false) = true) (hi : (P.info? ty).map (·.size) = some cs.size) :
    (results fn tmps).run P w = .ok (.tuple #[tmps.getD u undef, .agg cs, tmps.getD v undef]) w := by
  have hp' : tmps[p]?.getD undef = .pointer (some ⟨g, 0, none⟩) := by simpa using hp
  simp [results, h, hp', asAddr, run_loadVar_row w g t ty cs fr d hg hu hd hi]
theorem share_eq {x : Ly} {t : Int} : part x t = x.b * Rat.divInt t x.n := by unfold part; rw [Rat.divInt_eq_div]
theorem draw_A {x : Ly} {r : List Ly} {a : Int} (hx : 1 ≤ x.n) (h0 : 0 < a) (ha : x.n ≤ a) : drawF (x :: r) a = ((drawF r (a - x.n)).1, x.b * Rat.divInt x.n x.n + (drawF r (a - x.n)).2) := by
  have h1 := cast_pos hx
  rw [drawF, if_neg (by omega), if_pos ha, Rat.divInt_eq_div, Rat.div_def, Rat.mul_inv_cancel _ (by grind), Rat.mul_one]
theorem draw_B {x : Ly} {r : List Ly} {a : Int} (h0 : 0 < a) (ha : a < x.n) : drawF (x :: r) a = (⟨x.n - a, x.b - x.b * Rat.divInt a x.n⟩ :: r, x.b * Rat.divInt a x.n) := by
  rw [drawF, if_neg (by omega), if_neg (by omega), share_eq]
theorem OwB.open0 {w : World} {B g o : Nat} {r : List LC} {n : Int} {u0 u1 u2 u3 : Value} {q : Rat} (h : OwC G B w g o (⟨n, u0, u1, u2, u3, q⟩ :: r)) : ∃ P R : List Value, Bo w g o P R 48 [.int .i64 n, u0, u1, u2, u3] ∧ FQ G w u0 u1 u2 u3 q ∧ Oks G w r ∧
    ∀ (w' : World) (n' : Int) (v0 v1 v2 v3 : Value) (q' : Rat), Bo w' g o P R 48 [.int .i64 n', v0, v1, v2, v3] → FQ G w' v0 v1 v2 v3 q' → Oks G w' r → OwC G B w' g o (⟨n', v0, v1, v2, v3, q'⟩ :: r) := by
  obtain ⟨P, R, h1, h2, h3, -, h4⟩ := OwB.open (p := []) h
  exact ⟨P, R, h1, h2, h3, fun w' n' v0 v1 v2 v3 q' k1 k2 k3 => h4 w' ⟨n', v0, v1, v2, v3, q'⟩ k1 k2 k3⟩
theorem Bo.d5 {w : World} {g o : Nat} {P R : List Value} {T : TypeId} {u0 u1 u2 u3 u4 : Value} (h : Bo w g o P R T [u0, u1, u2, u3, u4]) : w.cell? ⟨g, o, none⟩ = some u0 ∧ w.cell? ⟨g, o + 1, none⟩ = some u1 ∧ w.cell? ⟨g, o + 2, none⟩ = some u2 ∧ w.cell? ⟨g, o + 3, none⟩ = some u3 ∧ w.cell? ⟨g, o + 4, none⟩ = some u4 :=
  ⟨(h.at 0 (show 0 < 5 by omega)).1, (h.at 1 (show 1 < 5 by omega)).1, (h.at 2 (show 2 < 5 by omega)).1, (h.at 3 (show 3 < 5 by omega)).1, (h.at 4 (show 4 < 5 by omega)).1⟩
theorem drop0 {l : List LC} {n : Nat} (h : l.length = n) (hn : 0 < n) : ∃ x r, l = x :: r ∧ r.length + 1 = n := by
  cases l with
  | nil => simp at h; omega
  | cons x r => exact ⟨x, r, rfl, by simpa using h⟩
theorem sum_pos_len {l : List LC} (h : 0 < sumN (l.map LC.ly)) : 0 < l.length := by
  cases l with
  | nil => simp [sumN] at h
  | cons x r => simp
def Ns (l : List LC) : Prop := ∀ x ∈ l, 1 ≤ x.n ∧ x.n ≤ 1099511627776
theorem OkC.ns {l : List LC} (h : OkC l) : Ns l := fun x hx => ⟨(h.ok x hx).1, by
  have h1 := h.sum
  have h2 : ∀ {m : List Ly}, (∀ y ∈ m, okL y) → ∀ y ∈ m, y.n ≤ sumN m := by
    intro m
    induction m with
    | nil => intro _ y hy; simp at hy
    | cons z r ih =>
      intro hm y hy
      rw [sumN_cons]
      have h3 := sumN_pos (l := r) (fun v hv => hm v (by simp [hv]))
      rcases List.mem_cons.1 hy with rfl | hy
      · omega
      · have := ih (fun v hv => hm v (by simp [hv])) y hy
        have := (hm z (by simp)).1
        omega
  have h4 := h2 h.ly x.ly (List.mem_map.2 ⟨x, hx, rfl⟩)
  have : x.ly.n = x.n := rfl
  omega⟩
set_option maxRecDepth 100000 in
set_option maxHeartbeats 4000000 in
theorem draw_arg1 {l : List LC} {a : Option Addr} {n c : Nat} {rl am0 : Int} {w : World} (hG : G ≤ w.heap.size) (h : RdC G w a n c l) (ok : OkC l) (hz : FzL l 100000000) (_hr : rl < 0) :
    Calls Try.prog 11 #[.slice a n c, .int .i64 rl, .int .i64 am0] w fun e w' => e = .returned (.tuple #[.slice none 0 0, .agg #[.int .i64 0, .slice none 0 0, .int .i64 0, .slice none 0 0], .int .i64 1]) ∧ Below w.heap.size w w' := by
  have e1 : decide (rl < 0) = true := decide_eq_true (by omega)
  have e1i : rl < 0 := by omega
  have hn : n ≤ 200 := by rw [← h.len]; exact ok.len
  have HOK := Lib.hid ok; have HZ := Lib.hid hz; clear ok hz
  have HL : Hid (RdC G w a n c l) := h
  clear h
  have M : Hid (Below w.heap.size w w) := Below.refl _ _
  go_enter Try.func11, Try.ntmps11
  go_upto_region 1 with fail
  obtain ⟨w1, hv⟩ : ∃ w_ : World, w_ = (w.alloc (.cells #[.int .i64 0, .slice none 0 0, .int .i64 0, .slice none 0 0] 29)) := ⟨_, rfl⟩
  rw [← hv]
  replace M := Lib.hid (And.intro (hv ▸ bx1 w 29 #[.int .i64 0, .slice none 0 0, .int .i64 0, .slice none 0 0]) (Goes.go M.out (hv ▸ below_alloc _ _ : Below w.heap.size w w1)))
  clear hv
  go_wp2_with fail
  refine (stRight_c (G := G) (l := l) (Nat.le_trans hG (M.out.2).size) (HL.out.keep (M.out.2)) HOK.out HZ.out).mono ?_
  rintro e w2 ⟨rfl, hb⟩
  replace M := Lib.hid (Goes.go M.out hb)
  clear hb
  have y0 := (M.out.1).c4; have p0_0 := y0.1; have q0_0 := y0.2.1; have p0_1 := y0.2.2.1; have q0_1 := y0.2.2.2.1; have p0_2 := y0.2.2.2.2.1; have q0_2 := y0.2.2.2.2.2.1; have p0_3 := y0.2.2.2.2.2.2.1; have q0_3 := y0.2.2.2.2.2.2.2; clear y0
  go_wp2_with fail
  clear p0_0 q0_0 p0_1 q0_1 p0_2 q0_2 p0_3 q0_3
  obtain ⟨w3, hv⟩ : ∃ w_ : World, w_ = ((((w2.setCell ⟨w.heap.size, 0, none⟩ (.int .i64 0)).setCell ⟨w.heap.size, 1, none⟩ (.slice none 0 0)).setCell ⟨w.heap.size, 2, none⟩ (.int .i64 0)).setCell ⟨w.heap.size, 3, none⟩ (.slice none 0 0)) := ⟨_, rfl⟩
  rw [← hv]
  have og : w2.grownBy w3 (some w.heap.size) := by rw [hv]; exact (only_setCell (only_setCell (only_setCell (only_setCell (World.grownBy.refl _ _) _) _) _) _)
  have hz : w.heap.size ≤ w.heap.size := by exact Nat.le_refl _
  have hk : Bx w3 w.heap.size 29 #[.int .i64 0, .slice none 0 0, .int .i64 0, .slice none 0 0] := by rw [hv]; exact (((((M.out.1).set 0 _).set 1 _).set 2 _).set 3 _)
  have hbw : Below w.heap.size w w3 := by rw [hv]; exact (Below.setCell (Below.setCell (Below.setCell (Below.setCell (M.out.2) (by omega) _) (by omega) _) (by omega) _) (by omega) _)
  replace M := Lib.hid (And.intro hk hbw)
  clear hk hbw og hv hz
  refine bodyPost_ret (results_tct rfl _ _ w.heap.size 29 _ _ _ rfl (M.out.1) Try.underlying29 rfl (by kernel_rfl)) rfl ?_
  exact ⟨rfl, (M.out.2)⟩
set_option maxRecDepth 100000 in
set_option maxHeartbeats 4000000 in
theorem draw_arg2 {l : List LC} {a : Option Addr} {n c : Nat} {rl am0 : Int} {w : World} (hG : G ≤ w.heap.size) (h : RdC G w a n c l) (ok : OkC l) (hz : FzL l 100000000) (_hr : 3 ≤ rl) :
    Calls Try.prog 11 #[.slice a n c, .int .i64 rl, .int .i64 am0] w fun e w' => e = .returned (.tuple #[.slice none 0 0, .agg #[.int .i64 0, .slice none 0 0, .int .i64 0, .slice none 0 0], .int .i64 1]) ∧ Below w.heap.size w w' := by
  have e1 : decide (rl < 0) = false := decide_eq_false (by omega)
  have e1i : ¬ rl < 0 := by omega
  have e2 : decide (3 ≤ rl) = true := decide_eq_true (by omega)
  have e2i : 3 ≤ rl := by omega
  have hn : n ≤ 200 := by rw [← h.len]; exact ok.len
  have HOK := Lib.hid ok; have HZ := Lib.hid hz; clear ok hz
  have HL : Hid (RdC G w a n c l) := h
  clear h
  have M : Hid (Below w.heap.size w w) := Below.refl _ _
  go_enter Try.func11, Try.ntmps11
  go_upto_region 1 with fail
  obtain ⟨w1, hv⟩ : ∃ w_ : World, w_ = (w.alloc (.cells #[.int .i64 0, .slice none 0 0, .int .i64 0, .slice none 0 0] 29)) := ⟨_, rfl⟩
  rw [← hv]
  replace M := Lib.hid (And.intro (hv ▸ bx1 w 29 #[.int .i64 0, .slice none 0 0, .int .i64 0, .slice none 0 0]) (Goes.go M.out (hv ▸ below_alloc _ _ : Below w.heap.size w w1)))
  clear hv
  go_wp2_with fail
  refine (stRight_c (G := G) (l := l) (Nat.le_trans hG (M.out.2).size) (HL.out.keep (M.out.2)) HOK.out HZ.out).mono ?_
  rintro e w2 ⟨rfl, hb⟩
  replace M := Lib.hid (Goes.go M.out hb)
  clear hb
  have y0 := (M.out.1).c4; have p0_0 := y0.1; have q0_0 := y0.2.1; have p0_1 := y0.2.2.1; have q0_1 := y0.2.2.2.1; have p0_2 := y0.2.2.2.2.1; have q0_2 := y0.2.2.2.2.2.1; have p0_3 := y0.2.2.2.2.2.2.1; have q0_3 := y0.2.2.2.2.2.2.2; clear y0
  go_wp2_with fail
  clear p0_0 q0_0 p0_1 q0_1 p0_2 q0_2 p0_3 q0_3
  obtain ⟨w3, hv⟩ : ∃ w_ : World, w_ = ((((w2.setCell ⟨w.heap.size, 0, none⟩ (.int .i64 0)).setCell ⟨w.heap.size, 1, none⟩ (.slice none 0 0)).setCell ⟨w.heap.size, 2, none⟩ (.int .i64 0)).setCell ⟨w.heap.size, 3, none⟩ (.slice none 0 0)) := ⟨_, rfl⟩
  rw [← hv]
  have og : w2.grownBy w3 (some w.heap.size) := by rw [hv]; exact (only_setCell (only_setCell (only_setCell (only_setCell (World.grownBy.refl _ _) _) _) _) _)
  have hz : w.heap.size ≤ w.heap.size := by exact Nat.le_refl _
  have hk : Bx w3 w.heap.size 29 #[.int .i64 0, .slice none 0 0, .int .i64 0, .slice none 0 0] := by rw [hv]; exact (((((M.out.1).set 0 _).set 1 _).set 2 _).set 3 _)
  have hbw : Below w.heap.size w w3 := by rw [hv]; exact (Below.setCell (Below.setCell (Below.setCell (Below.setCell (M.out.2) (by omega) _) (by omega) _) (by omega) _) (by omega) _)
  replace M := Lib.hid (And.intro hk hbw)
  clear hk hbw og hv hz
  refine bodyPost_ret (results_tct rfl _ _ w.heap.size 29 _ _ _ rfl (M.out.1) Try.underlying29 rfl (by kernel_rfl)) rfl ?_
  exact ⟨rfl, (M.out.2)⟩
set_option maxRecDepth 100000 in
set_option maxHeartbeats 4000000 in
theorem draw_low {l : List LC} {a : Option Addr} {n c : Nat} {rl am0 : Int} {w : World} (hG : G ≤ w.heap.size) (h : RdC G w a n c l) (ok : OkC l) (hz : FzL l 100000000) (_hr0 : 0 ≤ rl) (_hr1 : rl < 3) (_ha : am0 < 1) :
    Calls Try.prog 11 #[.slice a n c, .int .i64 rl, .int .i64 am0] w fun e w' => e = .returned (.tuple #[.slice none 0 0, .agg #[.int .i64 0, .slice none 0 0, .int .i64 0, .slice none 0 0], .int .i64 3]) ∧ Below w.heap.size w w' := by
  have e1 : decide (rl < 0) = false := decide_eq_false (by omega)
  have e1i : ¬ rl < 0 := by omega
  have e2 : decide (3 ≤ rl) = false := decide_eq_false (by omega)
  have e2i : ¬ 3 ≤ rl := by omega
  have e3 : decide (am0 < 1) = true := decide_eq_true (by omega)
  have e3i : am0 < 1 := by omega
  have hn : n ≤ 200 := by rw [← h.len]; exact ok.len
  have HOK := Lib.hid ok; have HZ := Lib.hid hz; clear ok hz
  have HL : Hid (RdC G w a n c l) := h
  clear h
  have M : Hid (Below w.heap.size w w) := Below.refl _ _
  go_enter Try.func11, Try.ntmps11
  go_upto_region 1 with fail
  obtain ⟨w1, hv⟩ : ∃ w_ : World, w_ = (w.alloc (.cells #[.int .i64 0, .slice none 0 0, .int .i64 0, .slice none 0 0] 29)) := ⟨_, rfl⟩
  rw [← hv]
  replace M := Lib.hid (And.intro (hv ▸ bx1 w 29 #[.int .i64 0, .slice none 0 0, .int .i64 0, .slice none 0 0]) (Goes.go M.out (hv ▸ below_alloc _ _ : Below w.heap.size w w1)))
  clear hv
  go_wp2_with fail
  refine (stRight_c (G := G) (l := l) (Nat.le_trans hG (M.out.2).size) (HL.out.keep (M.out.2)) HOK.out HZ.out).mono ?_
  rintro e w2 ⟨rfl, hb⟩
  replace M := Lib.hid (Goes.go M.out hb)
  clear hb
  have y0 := (M.out.1).c4; have p0_0 := y0.1; have q0_0 := y0.2.1; have p0_1 := y0.2.2.1; have q0_1 := y0.2.2.2.1; have p0_2 := y0.2.2.2.2.1; have q0_2 := y0.2.2.2.2.2.1; have p0_3 := y0.2.2.2.2.2.2.1; have q0_3 := y0.2.2.2.2.2.2.2; clear y0
  go_wp2_with fail
  clear p0_0 q0_0 p0_1 q0_1 p0_2 q0_2 p0_3 q0_3
  obtain ⟨w3, hv⟩ : ∃ w_ : World, w_ = ((((w2.setCell ⟨w.heap.size, 0, none⟩ (.int .i64 0)).setCell ⟨w.heap.size, 1, none⟩ (.slice none 0 0)).setCell ⟨w.heap.size, 2, none⟩ (.int .i64 0)).setCell ⟨w.heap.size, 3, none⟩ (.slice none 0 0)) := ⟨_, rfl⟩
  rw [← hv]
  have og : w2.grownBy w3 (some w.heap.size) := by rw [hv]; exact (only_setCell (only_setCell (only_setCell (only_setCell (World.grownBy.refl _ _) _) _) _) _)
  have hz : w.heap.size ≤ w.heap.size := by exact Nat.le_refl _
  have hk : Bx w3 w.heap.size 29 #[.int .i64 0, .slice none 0 0, .int .i64 0, .slice none 0 0] := by rw [hv]; exact (((((M.out.1).set 0 _).set 1 _).set 2 _).set 3 _)
  have hbw : Below w.heap.size w w3 := by rw [hv]; exact (Below.setCell (Below.setCell (Below.setCell (Below.setCell (M.out.2) (by omega) _) (by omega) _) (by omega) _) (by omega) _)
  replace M := Lib.hid (And.intro hk hbw)
  clear hk hbw og hv hz
  refine bodyPost_ret (results_tct rfl _ _ w.heap.size 29 _ _ _ rfl (M.out.1) Try.underlying29 rfl (by kernel_rfl)) rfl ?_
  exact ⟨rfl, (M.out.2)⟩
set_option maxRecDepth 100000 in
set_option maxHeartbeats 4000000 in
theorem draw_high {l : List LC} {a : Option Addr} {n c : Nat} {rl am0 : Int} {w : World} (hG : G ≤ w.heap.size) (h : RdC G w a n c l) (ok : OkC l) (hz : FzL l 100000000) (_hr0 : 0 ≤ rl) (_hr1 : rl < 3) (_ha : 1099511627776 < am0) :
    Calls Try.prog 11 #[.slice a n c, .int .i64 rl, .int .i64 am0] w fun e w' => e = .returned (.tuple #[.slice none 0 0, .agg #[.int .i64 0, .slice none 0 0, .int .i64 0, .slice none 0 0], .int .i64 3]) ∧ Below w.heap.size w w' := by
  have e1 : decide (rl < 0) = false := decide_eq_false (by omega)
  have e1i : ¬ rl < 0 := by omega
  have e2 : decide (3 ≤ rl) = false := decide_eq_false (by omega)
  have e2i : ¬ 3 ≤ rl := by omega
  have e3 : decide (am0 < 1) = false := decide_eq_false (by omega)
  have e3i : ¬ am0 < 1 := by omega
  have e4 : decide (1099511627776 < am0) = true := decide_eq_true (by omega)
  have e4i : 1099511627776 < am0 := by omega
  have hn : n ≤ 200 := by rw [← h.len]; exact ok.len
  have HOK := Lib.hid ok; have HZ := Lib.hid hz; clear ok hz
  have HL : Hid (RdC G w a n c l) := h
  clear h
  have M : Hid (Below w.heap.size w w) := Below.refl _ _
  go_enter Try.func11, Try.ntmps11
  go_upto_region 1 with fail
  obtain ⟨w1, hv⟩ : ∃ w_ : World, w_ = (w.alloc (.cells #[.int .i64 0, .slice none 0 0, .int .i64 0, .slice none 0 0] 29)) := ⟨_, rfl⟩
  rw [← hv]
  replace M := Lib.hid (And.intro (hv ▸ bx1 w 29 #[.int .i64 0, .slice none 0 0, .int .i64 0, .slice none 0 0]) (Goes.go M.out (hv ▸ below_alloc _ _ : Below w.heap.size w w1)))
  clear hv
  go_wp2_with fail
  refine (stRight_c (G := G) (l := l) (Nat.le_trans hG (M.out.2).size) (HL.out.keep (M.out.2)) HOK.out HZ.out).mono ?_
  rintro e w2 ⟨rfl, hb⟩
  replace M := Lib.hid (Goes.go M.out hb)
  clear hb
  have y0 := (M.out.1).c4; have p0_0 := y0.1; have q0_0 := y0.2.1; have p0_1 := y0.2.2.1; have q0_1 := y0.2.2.2.1; have p0_2 := y0.2.2.2.2.1; have q0_2 := y0.2.2.2.2.2.1; have p0_3 := y0.2.2.2.2.2.2.1; have q0_3 := y0.2.2.2.2.2.2.2; clear y0
  go_wp2_with fail
  clear p0_0 q0_0 p0_1 q0_1 p0_2 q0_2 p0_3 q0_3
  obtain ⟨w3, hv⟩ : ∃ w_ : World, w_ = ((((w2.setCell ⟨w.heap.size, 0, none⟩ (.int .i64 0)).setCell ⟨w.heap.size, 1, none⟩ (.slice none 0 0)).setCell ⟨w.heap.size, 2, none⟩ (.int .i64 0)).setCell ⟨w.heap.size, 3, none⟩ (.slice none 0 0)) := ⟨_, rfl⟩
  rw [← hv]
  have og : w2.grownBy w3 (some w.heap.size) := by rw [hv]; exact (only_setCell (only_setCell (only_setCell (only_setCell (World.grownBy.refl _ _) _) _) _) _)
  have hz : w.heap.size ≤ w.heap.size := by exact Nat.le_refl _
  have hk : Bx w3 w.heap.size 29 #[.int .i64 0, .slice none 0 0, .int .i64 0, .slice none 0 0] := by rw [hv]; exact (((((M.out.1).set 0 _).set 1 _).set 2 _).set 3 _)
  have hbw : Below w.heap.size w w3 := by rw [hv]; exact (Below.setCell (Below.setCell (Below.setCell (Below.setCell (M.out.2) (by omega) _) (by omega) _) (by omega) _) (by omega) _)
  replace M := Lib.hid (And.intro hk hbw)
  clear hk hbw og hv hz
  refine bodyPost_ret (results_tct rfl _ _ w.heap.size 29 _ _ _ rfl (M.out.1) Try.underlying29 rfl (by kernel_rfl)) rfl ?_
  exact ⟨rfl, (M.out.2)⟩
set_option maxRecDepth 100000 in
set_option maxHeartbeats 4000000 in
theorem draw_over {l : List LC} {a : Option Addr} {n c : Nat} {rl am0 : Int} {w : World} (hG : G ≤ w.heap.size) (h : RdC G w a n c l) (ok : OkC l) (hz : FzL l 100000000) (_hr0 : 0 ≤ rl) (_hr1 : rl < 3) (_ha0 : 1 ≤ am0) (_ha1 : am0 ≤ 1099511627776) (_ha : sumN (l.map LC.ly) < am0) :
    Calls Try.prog 11 #[.slice a n c, .int .i64 rl, .int .i64 am0] w fun e w' => e = .returned (.tuple #[.slice none 0 0, .agg #[.int .i64 0, .slice none 0 0, .int .i64 0, .slice none 0 0], .int .i64 25]) ∧ Below w.heap.size w w' := by
  have e1 : decide (rl < 0) = false := decide_eq_false (by omega)
  have e1i : ¬ rl < 0 := by omega
  have e2 : decide (3 ≤ rl) = false := decide_eq_false (by omega)
  have e2i : ¬ 3 ≤ rl := by omega
  have e3 : decide (am0 < 1) = false := decide_eq_false (by omega)
  have e3i : ¬ am0 < 1 := by omega
  have e4 : decide (1099511627776 < am0) = false := decide_eq_false (by omega)
  have e4i : ¬ 1099511627776 < am0 := by omega
  have e5 : decide (sumN (l.map LC.ly) < am0) = true := decide_eq_true (by omega)
  have e5i : sumN (l.map LC.ly) < am0 := by omega
  have hn : n ≤ 200 := by rw [← h.len]; exact ok.len
  have HOK := Lib.hid ok; have HZ := Lib.hid hz; clear ok hz
  have HL : Hid (RdC G w a n c l) := h
  clear h
  have M : Hid (Below w.heap.size w w) := Below.refl _ _
  go_enter Try.func11, Try.ntmps11
  go_upto_region 1 with fail
  obtain ⟨w1, hv⟩ : ∃ w_ : World, w_ = (w.alloc (.cells #[.int .i64 0, .slice none 0 0, .int .i64 0, .slice none 0 0] 29)) := ⟨_, rfl⟩
  rw [← hv]
  replace M := Lib.hid (And.intro (hv ▸ bx1 w 29 #[.int .i64 0, .slice none 0 0, .int .i64 0, .slice none 0 0]) (Goes.go M.out (hv ▸ below_alloc _ _ : Below w.heap.size w w1)))
  clear hv
  go_wp2_with fail
  refine (stRight_c (G := G) (l := l) (Nat.le_trans hG (M.out.2).size) (HL.out.keep (M.out.2)) HOK.out HZ.out).mono ?_
  rintro e w2 ⟨rfl, hb⟩
  replace M := Lib.hid (Goes.go M.out hb)
  clear hb
  go_wp2_with fail
  obtain ⟨q5, eq5⟩ : ∃ v_ : Rat, v_ = (sumB (l.map LC.ly)) := ⟨_, rfl⟩
  refine (stTotal (G := G) (l := l) (Nat.le_trans hG (M.out.2).size) (HL.out.keep (M.out.2)) HOK.out HZ.out).mono ?_
  rintro e w3 ⟨x_1, x_2, x_3, x_4, rfl, hd6, hb⟩
  rw [← eq5] at hd6
  have Eq5 := Lib.hid eq5; clear eq5
  replace M := Lib.hid (And.intro hd6 (Goes.go M.out hb))
  clear hb hd6
  have ys_x_1 := TQ.st (M.out.1); have st_x_1 := ys_x_1.1; have st_x_2 := ys_x_1.2.1; have st_x_3 := ys_x_1.2.2.1; have st_x_4 := ys_x_1.2.2.2; clear ys_x_1
  go_upto_region 6 with fail
  clear st_x_1 st_x_2 st_x_3 st_x_4
  obtain ⟨w4, hv⟩ : ∃ w_ : World, w_ = (w3.alloc (.cells #[x_1, x_2, x_3, x_4] 29)) := ⟨_, rfl⟩
  rw [← hv]
  have ow1_ : w.heap.size < w3.heap.size := ((M.out.2.1)).lt
  replace M := Lib.hid (And.intro (hv ▸ bx1 w3 29 #[x_1, x_2, x_3, x_4]) (Goes.go M.out (hv ▸ below_alloc _ _ : Below w3.heap.size w3 w4)))
  clear hv
  have y0 := (M.out.2.2.1).c4; have p0_0 := y0.1; have q0_0 := y0.2.1; have p0_1 := y0.2.2.1; have q0_1 := y0.2.2.2.1; have p0_2 := y0.2.2.2.2.1; have q0_2 := y0.2.2.2.2.2.1; have p0_3 := y0.2.2.2.2.2.2.1; have q0_3 := y0.2.2.2.2.2.2.2; clear y0
  go_wp2_with fail
  clear p0_0 q0_0 p0_1 q0_1 p0_2 q0_2 p0_3 q0_3
  obtain ⟨w5, hv⟩ : ∃ w_ : World, w_ = ((((w4.setCell ⟨w.heap.size, 0, none⟩ (.int .i64 0)).setCell ⟨w.heap.size, 1, none⟩ (.slice none 0 0)).setCell ⟨w.heap.size, 2, none⟩ (.int .i64 0)).setCell ⟨w.heap.size, 3, none⟩ (.slice none 0 0)) := ⟨_, rfl⟩
  rw [← hv]
  have og : w4.grownBy w5 (some w.heap.size) := by rw [hv]; exact (only_setCell (only_setCell (only_setCell (only_setCell (World.grownBy.refl _ _) _) _) _) _)
  have hz : w.heap.size ≤ w.heap.size := by exact Nat.le_refl _
  have hk : Bx w5 w.heap.size 29 #[.int .i64 0, .slice none 0 0, .int .i64 0, .slice none 0 0] := by rw [hv]; exact (((((M.out.2.2.1).set 0 _).set 1 _).set 2 _).set 3 _)
  have hbw : Below w.heap.size w w5 := by rw [hv]; exact (Below.setCell (Below.setCell (Below.setCell (Below.setCell (M.out.2.2.2) (by omega) _) (by omega) _) (by omega) _) (by omega) _)
  replace M := Lib.hid (And.intro ((M.out.1).only og (by omega)) (And.intro ((M.out.2.1).far (M.out.2.2.1) (by rfl) (by omega) og) (And.intro hk hbw)))
  clear hk hbw og hv hz
  refine bodyPost_ret (results_tct rfl _ _ w.heap.size 29 _ _ _ rfl (M.out.2.2.1) Try.underlying29 rfl (by kernel_rfl)) rfl ?_
  exact ⟨rfl, (M.out.2.2.2)⟩
end Go.Proofs.Ytgmngkbocpadaaa
