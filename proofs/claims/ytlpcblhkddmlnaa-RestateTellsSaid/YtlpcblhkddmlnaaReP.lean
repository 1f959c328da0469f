/- Plain laws about figures that were shown: no program in sight. -/
import Derived.Test.YtlpcblhkddmlnaaBase
import Derived.Test.YtlpcblhkddmlnaaBigSpec
import Derived.Test.YtlpcblhkddmlnaaBigB
import Derived.Test.YtlpcblhkddmlnaaBigC
import Derived.Test.YtlpcblhkddmlnaaBigD
import Derived.Test.YtlpcblhkddmlnaaBigK
import Derived.Test.YtlpcblhkddmlnaaBigL
import Derived.Test.YtlpcblhkddmlnaaBigQ
import Derived.Test.YtlpcblhkddmlnaaFd
import Derived.Test.YtlpcblhkddmlnaaAw
import Derived.Test.YtlpcblhkddmlnaaFz
import Derived.Test.YtlpcblhkddmlnaaFracR
import Derived.Test.YtlpcblhkddmlnaaRefG
import Derived.Test.YtlpcblhkddmlnaaRw
import Derived.Test.YtlpcblhkddmlnaaReA
import Derived.Test.YtlpcblhkddmlnaaReB
import Derived.Test.YtlpcblhkddmlnaaReD
import Derived.Test.YtlpcblhkddmlnaaProg
import Derived.Test.YtlpcblhkddmlnaaShelf
import Derived.WalkKit
import Derived.WalkSpells
import Derived.WalkLawsBesides
import Derived.Handy
import Derived.Lib.Hide
import Derived.Lib.Strings
import Derived.Lib.Builder
import Derived.BigQuiet
import Derived.OwnWalk
import Derived.Laws.BitsLemmas
import Derived.WalkSmall
import Derived.Deep.QuietTactic
import Derived.StillTailTactics
import Derived.Maps.AppendAt
import Derived.IntWalk
import Derived.Deep.RegionHeld3
import Derived.Deep.DeepFit
import Derived.Deep.LoopGhost
import Derived.Deep.DeepCutAuto
import Derived.Lib.ItoaNum
import Derived.Lib.Repeat
import Derived.Lib.AppendIntMem
import Derived.Sort.OwnSorted
import Derived.Shelf.Strings.SlTrimAscii
import Derived.Lib.ConvBytes
import Derived.Lib.CutLaws
import Derived.Maps.Own
import Derived.Maps.Views
import Derived.Maps.OwnOps
import Derived.RangeFuncNested
import Derived.RangeFuncBound
import Derived.RangeFuncCalls
import Derived.RangeFuncLeaves
import Derived.Shelf.Abstract
import Derived.Shelf.RegionOpen
import Derived.OwnWalkIn
import Derived.TacticsInMore
import Derived.LoopNIn
import Derived.LoopIn
namespace Go.Proofs.Ytlpcblhkddmlnaa
open Go.RowKit Go.Lib Go.Shelf
variable {G : Nat}
attribute [local go_sem] Oper.semAt_some

theorem BD.own {w w' : World} {row : Option Nat} {a : Option Addr} {c : Nat} {z : Int} (h : BD G w a c z) (hg : w.grownBy w' row) (hr : ∀ r, row = some r → ∃ o : Obj, w.heap[r]? = some o ∧ o.isCells = false) : BD G w' a c z := by
  cases row with
  | none => exact h.keep (below_none_ hg)
  | some g =>
    rcases Nat.eq_zero_or_pos (ln z) with h0 | h0
    · exact ⟨⟨a, c, by rw [ints_len]; rfl, fun j hj => by rw [ints_len] at hj; unfold ln at h0; omega⟩, h.le, .inl h0⟩
    · refine h.other hg fun b off ha hb => ?_
      subst hb
      obtain ⟨b', off', ha', hlt, hc⟩ := RdN.at h.rd (k := 0) h0
      rw [ha] at ha'
      cases ha'
      obtain ⟨o, ho, hc1⟩ := hr b rfl
      obtain ⟨o2, ho2, hc2⟩ := cells_of_cell hc
      rw [ho] at ho2
      cases ho2
      rw [hc1] at hc2
      cases hc2
theorem FQ.own {w w' : World} {row : Option Nat} {u0 u1 u2 u3 : Value} {q : Rat} (h : FQ G w u0 u1 u2 u3 q) (hg : w.grownBy w' row) (hr : ∀ r, row = some r → ∃ o : Obj, w.heap[r]? = some o ∧ o.isCells = false) : FQ G w' u0 u1 u2 u3 q := by
 obtain ⟨a, c, b, d, h0, h1, h2, h3, h4, h5⟩ := h
 exact ⟨a, c, b, d, h0, h1, h2, h3, h4.own hg hr, h5.own hg hr⟩
theorem Bx.own {w w' : World} {row : Option Nat} {g : Nat} {T : TypeId} {cs : Array Value} (h : Bx w g T cs) (hg : w.grownBy w' row) (hr : ∀ r, row = some r → ∃ o : Obj, w.heap[r]? = some o ∧ o.isCells = false) : Bx w' g T cs := by
 unfold Bx at h ⊢
 refine (hg.block g (lt_of_block h) ?_).trans h
 intro he
 obtain ⟨o, ho, hc⟩ := hr g he.symm
 rw [h] at ho
 cases ho
 cases hc
/-- The cells of a figure can be stored as they are. -/
structure StOk (x : SC) : Prop where
 s0 : ∀ a m w', Sem.run Try.prog (store a x.u0 m) w' = stored Try.prog w' a x.u0 m
 s1 : ∀ a m w', Sem.run Try.prog (store a x.u1 m) w' = stored Try.prog w' a x.u1 m
 s2 : ∀ a m w', Sem.run Try.prog (store a x.u2 m) w' = stored Try.prog w' a x.u2 m
 s3 : ∀ a m w', Sem.run Try.prog (store a x.u3 m) w' = stored Try.prog w' a x.u3 m
 t0 : ∀ a m w', Sem.run Try.prog (store a x.v0 m) w' = stored Try.prog w' a x.v0 m
 t1 : ∀ a m w', Sem.run Try.prog (store a x.v1 m) w' = stored Try.prog w' a x.v1 m
 t2 : ∀ a m w', Sem.run Try.prog (store a x.v2 m) w' = stored Try.prog w' a x.v2 m
 t3 : ∀ a m w', Sem.run Try.prog (store a x.v3 m) w' = stored Try.prog w' a x.v3 m
abbrev SS := { x : SC // StOk x }
theorem stOk_of {w : World} {x : SC} (h : El.ok G w x) : StOk x := by
 have h1 := TQ.st h.1
 have h2 := TQ.st h.2
 exact ⟨h1.1, h1.2.1, h1.2.2.1, h1.2.2.2, h2.1, h2.2.1, h2.2.2.1, h2.2.2.2⟩
theorem ss_of : ∀ {l : List SC}, (∀ x ∈ l, StOk x) → ∃ ls : List SS, ls.map Subtype.val = l
 | [], _ => ⟨[], rfl⟩
 | x :: r, h => by
  obtain ⟨ls, hl⟩ := ss_of (l := r) fun y hy => h y (by simp [hy])
  exact ⟨⟨x, h x (by simp)⟩ :: ls, by simp [hl]⟩
def encB (x : Int × SS) : Array Value := #[.int .i64 x.1, .agg #[.string x.2.1.key, .int .i64 x.2.1.note, x.2.1.u0, x.2.1.u1, x.2.1.u2, x.2.1.u3, x.2.1.v0, x.2.1.v1, x.2.1.v2, x.2.1.v3]]
theorem back_in (F : Fence) (n : Nat) (h5 : F.fn 37) (hro : F.round = none) (a : Option Addr) (len cap : Nat) (w : World) :
  CallsIn F n Try.prog 37 #[.slice a len cap] w fun e w' => e = .returned (.func (.func 53) #[] #[.pointer (some ⟨w.heap.size, 0, none⟩)]) ∧ w' = w.alloc (.cells #[.slice a len cap] 22) := by
 refine callsIn_of_wp Try.func37 rfl h5 ?_ hro
 simp only [Try.ntmps37, List.size_toArray, List.length_cons, List.length_nil, Nat.reduceAdd, Nat.reduceSub, Array.replicate_succ, Array.replicate_zero, List.push_toArray, List.append_toArray, List.nil_append, List.cons_append]
 gi_wp2
 go_ret
 exact ⟨rfl, rfl⟩
theorem rev_take {ls : List SS} {s : Nat} (hs : s < ls.length) : ls.reverse.take (ls.length - s) = ls.reverse.take (ls.length - (s + 1)) ++ [ls[s]] := by
 rw [show ls.length - s = (ls.length - (s + 1)) + 1 by omega, List.take_add_one, List.getElem?_reverse (by omega), show ls.length - 1 - (ls.length - (s + 1)) = s by omega, List.getElem?_eq_getElem hs]
 rfl
set_option maxRecDepth 100000 in
set_option maxHeartbeats 4000000 in
theorem back1_in (F : Fence) (n : Nat) (h7 : F.fn 53) (hro : F.round = none) (hn : 1 ≤ n) (l Bs n₀ b off len cap : Nat) (ls : List SS) (hlen : ls.length = len) (hsm : len ≤ 1000000) (hb : b < n₀) (J Jx : List (Int × SS) → World → Prop)
    (hY : ∀ pre x W, J pre W → pre.length < len → YieldAt F (n - 1) Try.prog l (encB x) W fun e W' =>
      (e = .returned (.bool true) ∧ J (pre ++ [x]) W' ∧ Below n₀ W W') ∨ (e = .returned (.bool false) ∧ Jx (pre ++ [x]) W'))
    (W : World) (hBl : Bs < n₀) (hBs : W.cell? ⟨Bs, 0, none⟩ = some (.slice (some ⟨b, off, none⟩) len cap))
    (hc : ∀ (k : Nat) (x : SS), ls[k]? = some x → ∀ (j : Nat) (u : Value), (El.cells x.1)[j]? = some u → W.cell? ⟨b, off + k * 10 + j, none⟩ = some u) (h0 : J [] W) :
    CallsIn F n Try.prog 53 #[.func (.yield l) #[] #[], .pointer (some ⟨Bs, 0, none⟩)] W fun e W' => (∃ v, e = .returned v) ∧
      ((∃ ys, (ys.map Prod.snd = ls.reverse) ∧ J ys W') ∨ (∃ pre, (∃ k, pre.map Prod.snd = ls.reverse.take k) ∧ Jx pre W')) := by
  refine callsIn_of_wp Try.func53 rfl h7 ?_ hro
  simp only [Try.ntmps53, List.size_toArray, List.length_cons, List.length_nil, Nat.reduceAdd, Nat.reduceSub, Array.replicate_succ, Array.replicate_zero, List.push_toArray, List.append_toArray, List.nil_append, List.cons_append]
  gi_wp2
  gi_loopw [3] (fun i wr => ∃ (r : Nat) (z : Int) (pre : List (Int × SS)), r ≤ len ∧ i = .int .i64 z ∧ z = (r : Int) - 1 ∧ pre.map Prod.snd = ls.reverse.take (len - r) ∧ J pre wr ∧ Below n₀ W wr)
    (fun i _ => ((intOf i) + 1).toNat)
  case atStart => exact ⟨len, _, [], Nat.le_refl _, rfl, rfl, by simp, h0, Below.refl _ _⟩
  case round =>
    obtain ⟨r, z, pre, hr, rfl, hz, hpre, hJs, hnx⟩ := hrel
    have hbx : wr.cell? ⟨Bs, 0, none⟩ = some (.slice (some ⟨b, off, none⟩) len cap) := (hnx.cell (p := ⟨Bs, 0, none⟩) hBl).trans hBs
    cases r with
    | zero =>
      obtain rfl : z = -1 := by omega
      clear hz hc hY
      gi_wp2
      go_end0
      exact ⟨⟨_, rfl⟩, .inl ⟨pre, by rw [hpre, Nat.sub_zero, List.take_of_length_le (by rw [List.length_reverse]; omega)], hJs⟩⟩
    | succ s =>
      obtain rfl : z = (s : Int) := by omega
      have hs : s < ls.length := by omega
      obtain ⟨y, hy⟩ : ∃ y, ls[s] = y := ⟨_, rfl⟩
      have hys : ls[s]? = some y := by rw [List.getElem?_eq_getElem hs, hy]
      have hpl : pre.length < len := by
        have h_ := congrArg List.length hpre
        rw [List.length_map, List.length_take, List.length_reverse] at h_
        omega
      have hp2 : pre.map Prod.snd ++ [y] = ls.reverse.take (len - s) := by
        have h_ := rev_take hs
        rw [hlen, hy] at h_
        rw [hpre]; exact h_.symm
      obtain ⟨⟨xk, xn, xu0, xu1, xu2, xu3, xq, xv0, xv1, xv2, xv3, xr⟩, hst⟩ := y
      have c0 : wr.cell? ⟨b, off + s * 10, none⟩ = some (.string xk) := (hnx.cell (p := ⟨b, off + s * 10, none⟩) hb).trans (hc s _ hys 0 _ rfl)
      have c1 : wr.cell? ⟨b, off + s * 10 + 1, none⟩ = some (.int .i64 xn) := (hnx.cell (p := ⟨b, off + s * 10 + 1, none⟩) hb).trans (hc s _ hys 1 _ rfl)
      have c2 : wr.cell? ⟨b, off + s * 10 + 2, none⟩ = some xu0 := (hnx.cell (p := ⟨b, off + s * 10 + 2, none⟩) hb).trans (hc s _ hys 2 _ rfl)
      have c3 : wr.cell? ⟨b, off + s * 10 + 3, none⟩ = some xu1 := (hnx.cell (p := ⟨b, off + s * 10 + 3, none⟩) hb).trans (hc s _ hys 3 _ rfl)
      have c4 : wr.cell? ⟨b, off + s * 10 + 4, none⟩ = some xu2 := (hnx.cell (p := ⟨b, off + s * 10 + 4, none⟩) hb).trans (hc s _ hys 4 _ rfl)
      have c5 : wr.cell? ⟨b, off + s * 10 + 5, none⟩ = some xu3 := (hnx.cell (p := ⟨b, off + s * 10 + 5, none⟩) hb).trans (hc s _ hys 5 _ rfl)
      have c6 : wr.cell? ⟨b, off + s * 10 + 6, none⟩ = some xv0 := (hnx.cell (p := ⟨b, off + s * 10 + 6, none⟩) hb).trans (hc s _ hys 6 _ rfl)
      have c7 : wr.cell? ⟨b, off + s * 10 + 7, none⟩ = some xv1 := (hnx.cell (p := ⟨b, off + s * 10 + 7, none⟩) hb).trans (hc s _ hys 7 _ rfl)
      have c8 : wr.cell? ⟨b, off + s * 10 + 8, none⟩ = some xv2 := (hnx.cell (p := ⟨b, off + s * 10 + 8, none⟩) hb).trans (hc s _ hys 8 _ rfl)
      have c9 : wr.cell? ⟨b, off + s * 10 + 9, none⟩ = some xv3 := (hnx.cell (p := ⟨b, off + s * 10 + 9, none⟩) hb).trans (hc s _ hys 9 _ rfl)
      obtain ⟨fn, tmps, assign, body, hyy, hR⟩ := hY pre ((s : Int), ⟨⟨xk, xn, xu0, xu1, xu2, xu3, xq, xv0, xv1, xv2, xv3, xr⟩, hst⟩) wr hJs hpl
      dsimp only [encB] at hyy
      have HP2 := Lib.hid hp2
      have hsl : s < len := by omega
      have hI0 : (0 : Int) ≤ (s : Int) := by omega
      have hI1 : (s : Int) < (len : Int) := by omega
      clear hc hY hz hy hs hpl hp2 hpre hr hys hlen
      gi_wp2
      refine hR.mono ?_
      rintro e W3 (⟨rfl, hJ3, hk3⟩ | ⟨rfl, hJx3⟩)
      · gi_wp2
        go_roundw
        case rel => exact ⟨s, _, _, by omega, rfl, rfl, by rw [List.map_append]; exact HP2.out, hJ3, hnx.trans hk3⟩
        case measure => simp [intOf] <;> omega
      · gi_wp2
        refine bodyPost_ret (results_none rfl _ _ _) rfl ?_
        exact ⟨⟨_, rfl⟩, .inr ⟨_, ⟨len - s, by rw [List.map_append]; exact HP2.out⟩, hJx3⟩⟩
set_option maxRecDepth 100000 in
set_option maxHeartbeats 4000000 in
theorem back1_nil (F : Fence) (n : Nat) (h7 : F.fn 53) (hro : F.round = none) (l Bs cap : Nat) (a : Option Addr) (J : List (Int × SS) → World → Prop) (W : World) (hBs : W.cell? ⟨Bs, 0, none⟩ = some (.slice a 0 cap)) (h0 : J [] W) :
  CallsIn F n Try.prog 53 #[.func (.yield l) #[] #[], .pointer (some ⟨Bs, 0, none⟩)] W fun e W' => (∃ v, e = .returned v) ∧ J [] W' := by
 refine callsIn_of_wp Try.func53 rfl h7 ?_ hro
 simp only [Try.ntmps53, List.size_toArray, List.length_cons, List.length_nil, Nat.reduceAdd, Nat.reduceSub, Array.replicate_succ, Array.replicate_zero, List.push_toArray, List.append_toArray, List.nil_append, List.cons_append]
 gi_wp2
 gi_loopw [3] (fun i wr => i = .int .i64 (-1) ∧ J [] wr) (fun _ _ => 0)
 case atStart => exact ⟨rfl, h0⟩
 case round =>
  obtain ⟨rfl, hJs⟩ := hrel
  gi_wp2
  go_end0
  exact ⟨⟨_, rfl⟩, hJs⟩
theorem back_stops (F : Fence) (n : Nat) (h7 : F.fn 53) (hro : F.round = none) (hn : 1 ≤ n) (Bs n₀ : Nat) (a : Option Addr) (len cap : Nat) (ls : List SS) (w : World) (hBs : Bs < n₀) (hn₀ : n₀ ≤ w.heap.size) (hsm : len ≤ 1000000)
    (hc : w.cell? ⟨Bs, 0, none⟩ = some (.slice a len cap)) (hl : RdL G w a len cap (ls.map Subtype.val)) (hlt : ∀ b off, a = some ⟨b, off, none⟩ → len = 0 ∨ b < n₀) :
    SeqStopsK F n Try.prog 53 #[.pointer (some ⟨Bs, 0, none⟩)] encB (Below n₀) (fun ys => ys.map Prod.snd = ls.reverse) (fun pre => ∃ k, pre.map Prod.snd = ls.reverse.take k) len w := fun l J Jx W hW _ _ hY h0 => by
  have hc' := (hW.cell (p := ⟨Bs, 0, none⟩) (by show Bs < _; omega)).trans hc
  rcases hl.cases with ⟨rfl, h1⟩ | ⟨b, off, rfl, h2, h3, h4, h5⟩
  · obtain rfl : ls = [] := List.map_eq_nil_iff.1 h1
    exact (back1_nil F n h7 hro l Bs cap a J W hc' h0).mono fun e W' ⟨k1, k2⟩ => ⟨k1, .inl ⟨[], rfl, k2⟩⟩
  · refine back1_in F n h7 hro hn l Bs n₀ b off len cap ls (by simpa using h3) hsm ((hlt _ _ rfl).resolve_left (by omega)) J Jx hY W hBs hc' (fun k x hx j u hj => ?_) h0
    have h6 := h5.at_ k x.1 j u (by rw [List.getElem?_map, hx]; rfl) hj
    exact (hW.cell (p := ⟨b, off + k * 10 + j, none⟩) h5.lt).trans h6
/-- The last figure up to a note. -/
def atF (l : List Sh) (n : Int) : Option Sh := l.reverse.find? (fun x => decide (x.note ≤ n))
def zeroSh : Array Value := #[.string ⟨#[]⟩, .int .i64 0, .int .i64 0, .slice none 0 0, .int .i64 0, .slice none 0 0, .int .i64 0, .slice none 0 0, .int .i64 0, .slice none 0 0]
theorem at_find {ls : List SS} {nt : Int} {l : List Sh} (hl : l = (ls.map Subtype.val).map SC.sh) {p : List SS} {x : SS} {k : Nat} (hp : p ++ [x] = ls.reverse.take k) (h1 : ∀ y ∈ p, nt < y.1.note) (h2 : x.1.note ≤ nt) : atF l nt = some x.1.sh := by
 have h3 : ls.reverse = p ++ x :: ls.reverse.drop k := by
  have := List.take_append_drop k ls.reverse
  rw [← hp, List.append_assoc] at this
  exact this.symm
 unfold atF
 rw [hl, ← List.map_reverse, ← List.map_reverse, h3, List.map_append, List.map_append, List.find?_append, List.map_cons, List.map_cons, List.find?_cons]
 have h4 : ((p.map Subtype.val).map SC.sh).find? (fun x => decide (x.note ≤ nt)) = none := by
  rw [List.find?_eq_none]
  intro y hy
  simp only [List.mem_map] at hy
  obtain ⟨_, ⟨z, hz, rfl⟩, rfl⟩ := hy
  have := h1 z hz
  have h5 : (SC.sh z.1).note = z.1.note := rfl
  rw [h5]
  simp; omega
 have h6 : (SC.sh x.1).note = x.1.note := rfl
 rw [h4, h6, decide_eq_true h2]; rfl
theorem at_nil {ls : List SS} {nt : Int} {l : List Sh} (hl : l = (ls.map Subtype.val).map SC.sh) (h1 : ∀ y ∈ ls, nt < y.1.note) : atF l nt = none := by
 unfold atF
 rw [hl, List.find?_eq_none]
 intro y hy
 simp only [List.mem_reverse, List.mem_map] at hy
 obtain ⟨_, ⟨z, hz, rfl⟩, rfl⟩ := hy
 have := h1 z hz
 have h5 : (SC.sh z.1).note = z.1.note := rfl
 rw [h5]
 simp; omega
theorem SC.own {w w' : World} {row : Option Nat} {x : SC} (h : El.ok G w x) (hg : w.grownBy w' row) (hr : ∀ r, row = some r → ∃ o : Obj, w.heap[r]? = some o ∧ o.isCells = false) : El.ok G w' x := ⟨FQ.own h.1 hg hr, FQ.own h.2 hg hr⟩
theorem SR.up {G' : Nat} {w : World} {x : SR} (h : El.ok G w x) (hG : G ≤ G') : El.ok G' w x := by
 obtain ⟨w0, h0, h1⟩ := h
 exact ⟨w0, Nat.le_trans h0 hG, h1⟩
theorem run_loadVar_b {P : Program} {w : World} {g : Nat} {ty : TypeId} {u : Value} (hc : w.cell? ⟨g, 0, none⟩ = some u) (hu : P.underlying ty = some .bool) : (loadVar ty ⟨g, 0, none⟩).run P w = .ok u w := by
 have hagg : (isAgg ty).run P w = .ok false w := by
  unfold isAgg
  rw [Sem.run_bind, run_underlying hu w]
  rfl
 unfold loadVar
 rw [Sem.run_bind, hagg]
 simp [go_sem, hc]
theorem results_cb {P : Program} {fn : Func} {p q : Tmp} {ty ty2 : TypeId} (h : fn.results = #[.cell p ty, .cell q ty2]) (tmps : Array Value) (w : World) (g g2 : Nat) (t t2 : TypeId) (cs : Array Value) (u : Value) (fr fr2 : Nat × Nat) (d : TypeDesc)
  (hp : tmps.getD p undef = .pointer (some ⟨g, 0, none⟩)) (hg : w.heap[g]? = some (.cells cs t fr)) (hu : P.underlying ty = some d) (hd : (match d with | .struct _ | .array _ _ => true | _ => false) = true) (hi : (P.info? ty).map (·.size) = some cs.size)
  (hp2 : tmps.getD q undef = .pointer (some ⟨g2, 0, none⟩)) (hg2 : w.heap[g2]? = some (.cells #[u] t2 fr2)) (hu2 : P.underlying ty2 = some .bool) :
  (results fn tmps).run P w = .ok (.tuple #[.agg cs, u]) w := by
 have hp' : tmps[p]?.getD undef = .pointer (some ⟨g, 0, none⟩) := by simpa using hp
 have hp2' : tmps[q]?.getD undef = .pointer (some ⟨g2, 0, none⟩) := by simpa using hp2
 have hc : w.cell? ⟨g2, 0, none⟩ = some u := by simp [World.cell?, hg2]
 simp [results, h, hp', hp2', asAddr, run_loadVar_row w g t ty cs fr d hg hu hd hi, run_loadVar_b hc hu2]
theorem store11 {B : Nat} {w W : World} {R F : Nat} {o0 o1 o2 o3 o4 o5 o6 o7 o8 o9 n0 n1 n2 n3 n4 n5 n6 n7 n8 n9 ob nb : Value} (hR : Bx W R 37 #[o0, o1, o2, o3, o4, o5, o6, o7, o8, o9]) (hF : Bx W F 4 #[ob]) (hne : R ≠ F) (hb : Below B w W) (hBR : B ≤ R) (hBF : B ≤ F) (hG : G ≤ B) :
  Bx (((((((((((W.setCell ⟨R, 0, none⟩ n0).setCell ⟨R, 1, none⟩ n1).setCell ⟨R, 2, none⟩ n2).setCell ⟨R, 3, none⟩ n3).setCell ⟨R, 4, none⟩ n4).setCell ⟨R, 5, none⟩ n5).setCell ⟨R, 6, none⟩ n6).setCell ⟨R, 7, none⟩ n7).setCell ⟨R, 8, none⟩ n8).setCell ⟨R, 9, none⟩ n9).setCell ⟨F, 0, none⟩ nb) R 37 #[n0, n1, n2, n3, n4, n5, n6, n7, n8, n9] ∧ Bx (((((((((((W.setCell ⟨R, 0, none⟩ n0).setCell ⟨R, 1, none⟩ n1).setCell ⟨R, 2, none⟩ n2).setCell ⟨R, 3, none⟩ n3).setCell ⟨R, 4, none⟩ n4).setCell ⟨R, 5, none⟩ n5).setCell ⟨R, 6, none⟩ n6).setCell ⟨R, 7, none⟩ n7).setCell ⟨R, 8, none⟩ n8).setCell ⟨R, 9, none⟩ n9).setCell ⟨F, 0, none⟩ nb) F 4 #[nb] ∧ Below B w (((((((((((W.setCell ⟨R, 0, none⟩ n0).setCell ⟨R, 1, none⟩ n1).setCell ⟨R, 2, none⟩ n2).setCell ⟨R, 3, none⟩ n3).setCell ⟨R, 4, none⟩ n4).setCell ⟨R, 5, none⟩ n5).setCell ⟨R, 6, none⟩ n6).setCell ⟨R, 7, none⟩ n7).setCell ⟨R, 8, none⟩ n8).setCell ⟨R, 9, none⟩ n9).setCell ⟨F, 0, none⟩ nb) ∧ KeepsOthers W (((((((((((W.setCell ⟨R, 0, none⟩ n0).setCell ⟨R, 1, none⟩ n1).setCell ⟨R, 2, none⟩ n2).setCell ⟨R, 3, none⟩ n3).setCell ⟨R, 4, none⟩ n4).setCell ⟨R, 5, none⟩ n5).setCell ⟨R, 6, none⟩ n6).setCell ⟨R, 7, none⟩ n7).setCell ⟨R, 8, none⟩ n8).setCell ⟨R, 9, none⟩ n9).setCell ⟨F, 0, none⟩ nb) ∧ ∀ x : SC, El.ok G W x → El.ok G (((((((((((W.setCell ⟨R, 0, none⟩ n0).setCell ⟨R, 1, none⟩ n1).setCell ⟨R, 2, none⟩ n2).setCell ⟨R, 3, none⟩ n3).setCell ⟨R, 4, none⟩ n4).setCell ⟨R, 5, none⟩ n5).setCell ⟨R, 6, none⟩ n6).setCell ⟨R, 7, none⟩ n7).setCell ⟨R, 8, none⟩ n8).setCell ⟨R, 9, none⟩ n9).setCell ⟨F, 0, none⟩ nb) x := by
 have h1 : Bx ((((((((((W.setCell ⟨R, 0, none⟩ n0).setCell ⟨R, 1, none⟩ n1).setCell ⟨R, 2, none⟩ n2).setCell ⟨R, 3, none⟩ n3).setCell ⟨R, 4, none⟩ n4).setCell ⟨R, 5, none⟩ n5).setCell ⟨R, 6, none⟩ n6).setCell ⟨R, 7, none⟩ n7).setCell ⟨R, 8, none⟩ n8).setCell ⟨R, 9, none⟩ n9) R 37 #[n0, n1, n2, n3, n4, n5, n6, n7, n8, n9] := hR.all10
 have g1 : W.grownBy ((((((((((W.setCell ⟨R, 0, none⟩ n0).setCell ⟨R, 1, none⟩ n1).setCell ⟨R, 2, none⟩ n2).setCell ⟨R, 3, none⟩ n3).setCell ⟨R, 4, none⟩ n4).setCell ⟨R, 5, none⟩ n5).setCell ⟨R, 6, none⟩ n6).setCell ⟨R, 7, none⟩ n7).setCell ⟨R, 8, none⟩ n8).setCell ⟨R, 9, none⟩ n9) (some R) := (only_setCell (only_setCell (only_setCell (only_setCell (only_setCell (only_setCell (only_setCell (only_setCell (only_setCell (only_setCell (World.grownBy.refl _ _) _) _) _) _) _) _) _) _) _) _)
 have h2 : Bx ((((((((((W.setCell ⟨R, 0, none⟩ n0).setCell ⟨R, 1, none⟩ n1).setCell ⟨R, 2, none⟩ n2).setCell ⟨R, 3, none⟩ n3).setCell ⟨R, 4, none⟩ n4).setCell ⟨R, 5, none⟩ n5).setCell ⟨R, 6, none⟩ n6).setCell ⟨R, 7, none⟩ n7).setCell ⟨R, 8, none⟩ n8).setCell ⟨R, 9, none⟩ n9) F 4 #[ob] := hF.only g1 (Ne.symm hne)
 have b1 : Below B w ((((((((((W.setCell ⟨R, 0, none⟩ n0).setCell ⟨R, 1, none⟩ n1).setCell ⟨R, 2, none⟩ n2).setCell ⟨R, 3, none⟩ n3).setCell ⟨R, 4, none⟩ n4).setCell ⟨R, 5, none⟩ n5).setCell ⟨R, 6, none⟩ n6).setCell ⟨R, 7, none⟩ n7).setCell ⟨R, 8, none⟩ n8).setCell ⟨R, 9, none⟩ n9) := (Below.setCell (Below.setCell (Below.setCell (Below.setCell (Below.setCell (Below.setCell (Below.setCell (Below.setCell (Below.setCell (Below.setCell hb hBR _) hBR _) hBR _) hBR _) hBR _) hBR _) hBR _) hBR _) hBR _) hBR _)
 have k1 : KeepsOthers W ((((((((((W.setCell ⟨R, 0, none⟩ n0).setCell ⟨R, 1, none⟩ n1).setCell ⟨R, 2, none⟩ n2).setCell ⟨R, 3, none⟩ n3).setCell ⟨R, 4, none⟩ n4).setCell ⟨R, 5, none⟩ n5).setCell ⟨R, 6, none⟩ n6).setCell ⟨R, 7, none⟩ n7).setCell ⟨R, 8, none⟩ n8).setCell ⟨R, 9, none⟩ n9) := (KeepsOthers.trans (KeepsOthers.trans (KeepsOthers.trans (KeepsOthers.trans (KeepsOthers.trans (KeepsOthers.trans (KeepsOthers.trans (KeepsOthers.trans (KeepsOthers.trans (KeepsOthers.trans (KeepsOthers.refl _) (KeepsOthers.setCell _ _ _)) (KeepsOthers.setCell _ _ _)) (KeepsOthers.setCell _ _ _)) (KeepsOthers.setCell _ _ _)) (KeepsOthers.setCell _ _ _)) (KeepsOthers.setCell _ _ _)) (KeepsOthers.setCell _ _ _)) (KeepsOthers.setCell _ _ _)) (KeepsOthers.setCell _ _ _)) (KeepsOthers.setCell _ _ _))
 obtain ⟨W1, hW1⟩ : ∃ W1, W1 = ((((((((((W.setCell ⟨R, 0, none⟩ n0).setCell ⟨R, 1, none⟩ n1).setCell ⟨R, 2, none⟩ n2).setCell ⟨R, 3, none⟩ n3).setCell ⟨R, 4, none⟩ n4).setCell ⟨R, 5, none⟩ n5).setCell ⟨R, 6, none⟩ n6).setCell ⟨R, 7, none⟩ n7).setCell ⟨R, 8, none⟩ n8).setCell ⟨R, 9, none⟩ n9) := ⟨_, rfl⟩
 rw [← hW1] at h1 g1 h2 b1 k1 ⊢
 have g2 : W1.grownBy (W1.setCell ⟨F, 0, none⟩ nb) (some F) := only_setCell (World.grownBy.refl _ _) _
 refine ⟨h1.only g2 hne, h2.set 0 nb, Below.setCell b1 hBF _, k1.trans (KeepsOthers.setCell _ _ _), fun x hx => ?_⟩
 exact El.far (El.far hx hR (by rfl) (Nat.le_trans hG hBR) g1) h2 (by rfl) (Nat.le_trans hG hBF) g2
def cells10 (x : SC) : Array Value := #[.string x.key, .int .i64 x.note, x.u0, x.u1, x.u2, x.u3, x.v0, x.v1, x.v2, x.v3]
/-- What At hands back. -/
def AtPost (G : Nat) (o : Option Sh) (e : Ending) (w' : World) : Prop :=
 match o with
 | none => e = .returned (.tuple #[.agg zeroSh, .bool false])
 | some y => ∃ x0 x1 x2 x3 x4 x5 x6 x7 : Value, e = .returned (.tuple #[.agg #[.string y.key, .int .i64 y.note, x0, x1, x2, x3, x4, x5, x6, x7], .bool true]) ∧ FQ G w' x0 x1 x2 x3 y.lo ∧ FQ G w' x4 x5 x6 x7 y.hi
set_option maxRecDepth 100000 in
set_option maxHeartbeats 8000000 in
theorem reAt_g {key : ByteArray} {nt : Int} {lf : List Sh} {a : Option Addr} {n c : Nat} {w : World} (hG : G ≤ w.heap.size) (hlf : lf.length ≤ 1000000)
    (hAll : ∀ W, Below w.heap.size w W → Calls Try.prog 21 #[.slice a n c, .string key] W fun e w' => ∃ a2 n2 c2 l2, e = .returned (.slice a2 n2 c2) ∧ RdC G w' a2 n2 c2 l2 ∧ l2.map SC.sh = lf ∧ Below W.heap.size W w') :
    Calls Try.prog 12 #[.slice a n c, .string key, .int .i64 nt] w fun e w' => AtPost G (atF lf nt) e w' ∧ Below w.heap.size w w' := by
  refine (callsIn_wide (n := 4)).1 ?_
  refine callsIn_of_wp_marks Try.func12 rfl trivial ?_ rfl
  simp only [Try.ntmps12, List.size_toArray, List.length_cons, List.length_nil, Nat.reduceAdd, Nat.reduceSub, Array.replicate_succ, Array.replicate_zero, List.push_toArray, List.append_toArray, List.nil_append, List.cons_append]
  have hb3 : Below w.heap.size w (((w.alloc (.cells #[.int .i64 nt] 3)).alloc (.cells zeroSh 37)).alloc (.cells #[.bool false] 4)) :=
    (((Below.refl _ w).alloc (Nat.le_refl _) _).alloc (by simp) _).alloc (by simp; omega) _
  unfold zeroSh at hb3
  have H3 := Lib.hid (hAll _ hb3)
  clear hAll
  have HB3 := Lib.hid hb3; clear hb3
  gi_wp2_with (first
    | (refine ⟨trivial, ?_⟩; gi_at_call 21; go_must (refine (callsIn_wide.2 H3.out).mono ?_); rintro e w4 ⟨a2, n2, c2, l2, rfl, h2, hm2, hb4⟩)
    | (refine ⟨trivial, ?_⟩; gi_at_call 37; go_must (refine (back_in Fence.wide _ trivial rfl _ _ _ _).mono ?_); rintro e w5 ⟨rfl, rfl⟩))
  obtain ⟨W5, hW5⟩ : ∃ W5, w4.alloc (.cells #[.slice a2 n2 c2] 22) = W5 := ⟨_, rfl⟩
  rw [hW5]
  obtain ⟨W3, hW3⟩ : ∃ W3, (((w.alloc (.cells #[.int .i64 nt] 3)).alloc (.cells #[.string ⟨#[]⟩, .int .i64 0, .int .i64 0, .slice none 0 0, .int .i64 0, .slice none 0 0, .int .i64 0, .slice none 0 0, .int .i64 0, .slice none 0 0] 37)).alloc (.cells #[.bool false] 4)) = W3 := ⟨_, rfl⟩
  have hs3 : W3.heap.size = w.heap.size + 1 + 1 + 1 := by rw [← hW3]; simp
  have hbx := bx3 w 3 37 4 #[.int .i64 nt] #[.string ⟨#[]⟩, .int .i64 0, .int .i64 0, .slice none 0 0, .int .i64 0, .slice none 0 0, .int .i64 0, .slice none 0 0, .int .i64 0, .slice none 0 0] #[.bool false]
  have HB3' := HB3.out
  rw [hW3] at hbx HB3' hb4
  have hb45 : Below w4.heap.size w4 W5 := by rw [← hW5]; exact below_alloc _ _
  have hb35 : Below W3.heap.size W3 W5 := below_call hb4 hb45
  have hbw5 : Below w.heap.size w W5 := below_call HB3' hb35
  have hs5 : W5.heap.size = w4.heap.size + 1 := by rw [← hW5]; simp
  have hs34 := hb4.size
  have hN : Bx W5 w.heap.size 3 #[.int .i64 nt] := hbx.1.keep hb35
  have hR : Bx W5 (w.heap.size + 1) 37 #[.string ⟨#[]⟩, .int .i64 0, .int .i64 0, .slice none 0 0, .int .i64 0, .slice none 0 0, .int .i64 0, .slice none 0 0, .int .i64 0, .slice none 0 0] := hbx.2.1.keep hb35
  have hF : Bx W5 (w.heap.size + 1 + 1) 4 #[.bool false] := hbx.2.2.keep hb35
  have hC : W5.cell? ⟨w4.heap.size, 0, none⟩ = some (.slice a2 n2 c2) := by rw [← hW5]; exact (Bx.new w4 _ _).d1
  have h25 : RdC G W5 a2 n2 c2 l2 := h2.keep hb45
  have hlt : ∀ b off, a2 = some ⟨b, off, none⟩ → n2 = 0 ∨ b < W5.heap.size := fun b off hb => by
    rcases h25.rd with h0 | ⟨b', off', e1, e2⟩
    · exact .inl h0
    · rw [hb] at e1; cases e1; exact .inr e2.lt
  obtain ⟨ls, hls⟩ := ss_of (l := l2) fun x hx => stOk_of (h25.oks x hx)
  subst hls
  have hok5 : ∀ x ∈ ls, El.ok G W5 x.1 := fun x hx => h25.oks x.1 (List.mem_map.2 ⟨x, hx, rfl⟩)
  have hlen2 : ls.length = n2 := by have := h25.len; simpa using this
  have hn2 : n2 ≤ 1000000 := by
    have h1 := congrArg List.length hm2
    rw [List.length_map, List.length_map] at h1
    omega
  have HM2 := Lib.hid hm2; have HOK5 := Lib.hid hok5; have HBW5 := Lib.hid hbw5
  clear hm2 hok5 hbw5 hW5 hW3 hbx HB3' HB3 H3 h2 hb4 hb45 hb35 hlf
  have hsz5 : w.heap.size + 4 ≤ W5.heap.size := by omega
  refine wpIn_rangeFunc_ownH rfl (by omega) (gf := 53) (lb := #[.pointer (some ⟨w4.heap.size, 0, none⟩)]) rfl trivial (enters_of Try.func53 (by kernel_rfl) rfl)
    (back_stops (G := G) Fence.wide _ trivial rfl (by omega) w4.heap.size W5.heap.size a2 n2 c2 ls W5 (by omega) (Nat.le_refl _) hn2 hC h25 hlt) belowK_t (belowK_b (Nat.le_refl _)) (Below.refl _ _) (fun _ => rfl)
    (fun pre W => (∀ y ∈ pre, nt < y.2.1.note) ∧ Bx W w.heap.size 3 #[.int .i64 nt] ∧ Bx W (w.heap.size + 1) 37 #[.string ⟨#[]⟩, .int .i64 0, .int .i64 0, .slice none 0 0, .int .i64 0, .slice none 0 0, .int .i64 0, .slice none 0 0, .int .i64 0, .slice none 0 0] ∧ Bx W (w.heap.size + 1 + 1) 4 #[.bool false] ∧ Below w.heap.size w W ∧ Below W5.heap.size W5 W)
    (fun c pre W => c = .ret ∧ ∃ p x, pre = p ++ [x] ∧ (∀ y ∈ p, nt < y.2.1.note) ∧ x.2.1.note ≤ nt ∧ Bx W (w.heap.size + 1) 37 (cells10 x.2.1) ∧ Bx W (w.heap.size + 1 + 1) 4 #[.bool true] ∧ Below w.heap.size w W ∧ (El.ok G W5 x.2.1 → El.ok G W x.2.1))
    ?hI ?hIx ⟨(fun y hy => by cases hy), hN, hR, hF, HBW5.out, Below.refl _ _⟩
    (fun x a' W => ∃ B, W5.heap.size ≤ B ∧ Bx W B 37 (cells10 x.2.1) ∧ a' = { tmps := #[.slice a n c, .string key, .int .i64 nt, undef, undef, .pointer (some ⟨w.heap.size, 0, none⟩), .pointer (some ⟨w.heap.size + 1, 0, none⟩), .pointer (some ⟨w.heap.size + 1 + 1, 0, none⟩), .slice a2 n2 c2, undef, .pointer (some ⟨B, 0, none⟩), .slice a n c, .string key, .slice a2 n2 c2, .slice a2 n2 c2, .func (.func 53) #[] #[.pointer (some ⟨w4.heap.size, 0, none⟩)], .int .i64 x.1, .agg (cells10 x.2.1), undef, undef, undef, undef, undef, undef], defers := [] })
    ?hAx ?assign ?body ?done ?stop
  case hI =>
    rintro s X Y row ⟨h1, h2, h3, h4, h5, h6⟩ hg hr
    have hr' : ∀ r, row = some r → ∃ o : Obj, X.heap[r]? = some o ∧ o.isCells = false := fun r e => (hr r e).2
    exact ⟨h1, h2.own hg hr', h3.own hg hr', h4.own hg hr', h5.grown hg h5.size (fun k e => by have := (hr k e).1; omega), h6.grown hg h6.size (fun k e => (hr k e).1)⟩
  case hIx =>
    rintro cc s X Y row ⟨h1, p, x, h2, h3, h4, h5, h6, h7, h8⟩ hg hr
    have hr' : ∀ r, row = some r → ∃ o : Obj, X.heap[r]? = some o ∧ o.isCells = false := fun r e => (hr r e).2
    exact ⟨h1, p, x, h2, h3, h4, h5.own hg hr', h6.own hg hr', h7.grown hg h7.size (fun k e => by have := (hr k e).1; omega), fun h9 => SC.own (h8 h9) hg hr'⟩
  case hAx =>
    rintro x a' s X Y row ⟨B, h1, h2, h3⟩ hg hr
    exact ⟨B, h1, h2.own hg (fun r e => (hr r e).2), h3⟩
  case assign =>
    rintro lp pre ⟨i, ⟨⟨xk, xn, xu0, xu1, xu2, xu3, xq, xv0, xv1, xv2, xv3, xr⟩, hst⟩⟩ W K ⟨h1, h2, h3, h4, h5, h6⟩ hK
    have hw := h6.size
    simp only [encB]
    have c0 := hst.s0; have c1 := hst.s1; have c2 := hst.s2; have c3 := hst.s3; have c4 := hst.t0; have c5 := hst.t1; have c6 := hst.t2; have c7 := hst.t3
    dsimp only at c0 c1 c2 c3 c4 c5 c6 c7
    gi_wp2
    exact hK _ _ ((KeepsOthers.alloc _ _).from _) ((Below.refl _ W).alloc hw _) ⟨h1, h2.keep (below_alloc _ _), h3.keep (below_alloc _ _), h4.keep (below_alloc _ _), below_call h5 (below_alloc _ _), below_call h6 (below_alloc _ _)⟩ ⟨_, hw, Bx.new W _ _, rfl⟩
  case body =>
    rintro lp pre ⟨i, ⟨⟨xk, xn, xu0, xu1, xu2, xu3, xq, xv0, xv1, xv2, xv3, xr⟩, hst⟩⟩ a' W hl hrec ⟨h1, h2, h3, h4, h5, h6⟩ ⟨B, hB, hX, rfl⟩ hlen
    dsimp only [cells10] at hX
    have c0 := hst.s0; have c1 := hst.s1; have c2 := hst.s2; have c3 := hst.s3; have c4 := hst.t0; have c5 := hst.t1; have c6 := hst.t2; have c7 := hst.t3
    dsimp only at c0 c1 c2 c3 c4 c5 c6 c7
    have hn := h2.d1
    have hx := hX.d10
    obtain ⟨x0, x1, x2, x3, x4, x5, x6, x7, x8, x9⟩ := hx
    obtain ⟨r0, f0, r1, f1, r2, f2, r3, f3, r4, f4, r5, f5, r6, f6, r7, f7, r8, f8, r9, f9⟩ := h3.c10
    obtain ⟨b0, g0⟩ := h4.c1
    obtain ⟨t1, ht1⟩ : ∃ b, decide (xn ≤ nt) = b := ⟨_, rfl⟩
    have HX := Lib.hid hX; have H3 := Lib.hid h3; have H4 := Lib.hid h4; have H2 := Lib.hid h2; have H5 := Lib.hid h5; have H6 := Lib.hid h6; have H1 := Lib.hid h1; have HST := Lib.hid hst
    clear hX h3 h4 h2 h5 h6 h1
    simp only [cells10]
    cases t1 with
    | false =>
      gi_wp2
      exact ⟨KeepsFrom.refl _ _, Below.refl _ _, fun y hy => by
        rcases List.mem_append.1 hy with hy | hy
        · exact H1.out y hy
        · simp at hy; subst hy; have := of_decide_eq_false ht1; show nt < xn; omega, H2.out, H3.out, H4.out, H5.out, H6.out⟩
    | true =>
      gi_wp2
      obtain ⟨k1, k2, k3, k4, k5⟩ := store11 (G := G) (n0 := .string xk) (n1 := .int .i64 xn) (n2 := xu0) (n3 := xu1) (n4 := xu2) (n5 := xu3) (n6 := xv0) (n7 := xv1) (n8 := xv2) (n9 := xv3) (nb := .bool true) H3.out H4.out (by omega) H5.out (by omega) (by omega) hG
      exact ⟨k4.from _, rfl, pre, _, rfl, H1.out, of_decide_eq_true ht1, k1, k2, k3, fun h9 => k5 _ (El.keep h9 H6.out)⟩
  case done =>
    rintro D xs W hD hS ⟨h1, h2, h3, h4, h5, h6⟩ hK
    obtain ⟨r0, f0, r1, f1, r2, f2, r3, f3, r4, f4, r5, f5, r6, f6, r7, f7, r8, f8, r9, f9⟩ := h3.c10
    obtain ⟨b0, g0⟩ := h4.c1
    have HK := Lib.hid hK; have H3 := Lib.hid h3; have H4 := Lib.hid h4; have H5 := Lib.hid h5; have H1 := Lib.hid h1; have HS := Lib.hid hS
    clear h3 h4 h2 h5 h6 h1 hS
    gi_wp2
    have kk := store11 (G := G) (n0 := .string ⟨#[]⟩) (n1 := .int .i64 0) (n2 := .int .i64 0) (n3 := .slice none 0 0) (n4 := .int .i64 0) (n5 := .slice none 0 0) (n6 := .int .i64 0) (n7 := .slice none 0 0) (n8 := .int .i64 0) (n9 := .slice none 0 0) (nb := .bool false) H3.out H4.out (by omega) H5.out (by omega) (by omega) hG
    obtain ⟨W2, hW2⟩ : ∃ W2, W2 = (((((((((((W.setCell ⟨w.heap.size + 1, 0, none⟩ (.string ⟨#[]⟩)).setCell ⟨w.heap.size + 1, 1, none⟩ (.int .i64 0)).setCell ⟨w.heap.size + 1, 2, none⟩ (.int .i64 0)).setCell ⟨w.heap.size + 1, 3, none⟩ (.slice none 0 0)).setCell ⟨w.heap.size + 1, 4, none⟩ (.int .i64 0)).setCell ⟨w.heap.size + 1, 5, none⟩ (.slice none 0 0)).setCell ⟨w.heap.size + 1, 6, none⟩ (.int .i64 0)).setCell ⟨w.heap.size + 1, 7, none⟩ (.slice none 0 0)).setCell ⟨w.heap.size + 1, 8, none⟩ (.int .i64 0)).setCell ⟨w.heap.size + 1, 9, none⟩ (.slice none 0 0)).setCell ⟨w.heap.size + 1 + 1, 0, none⟩ (.bool false)) := ⟨_, rfl⟩
    rw [← hW2] at kk
    rw [← hW2]
    obtain ⟨k1, k2, k3, k4, k5⟩ := kk
    clear hW2
    have hK' := k4.same D _ HK.out rfl
    have hr' : ∀ r, some D = some r → ∃ o : Obj, W2.heap[r]? = some o ∧ o.isCells = false := fun r e => by cases e; exact ⟨_, hK', rfl⟩
    refine ⟨by simp, .inl ⟨_, _, rfl, run_takeDeferred hK', ?_⟩⟩
    have q1 := k1.own (grownBy_putObj' _ D (.deferred none)) hr'
    have q2 := k2.own (grownBy_putObj' _ D (.deferred none)) hr'
    refine ⟨_, results_cb rfl _ _ (w.heap.size + 1) (w.heap.size + 1 + 1) _ _ _ _ _ _ _ rfl q1 Try.underlying37 rfl (by kernel_rfl) rfl q2 Try.underlying4, ?_, k3.grown (grownBy_putObj' _ D (.deferred none)) k3.size (fun k e => by cases e; omega)⟩
    have ho : atF lf nt = none := at_nil HM2.out.symm fun y hy => by
      have h_ : y ∈ xs.map Prod.snd := by rw [HS.out]; exact List.mem_reverse.2 hy
      obtain ⟨z, hz, rfl⟩ := List.mem_map.1 h_
      exact H1.out z hz
    rw [ho]; rfl
  case stop =>
    rintro D cc pre W hD ⟨k, hS⟩ ⟨rfl, p, x, rfl, h3, h4, h5, h6, h7, h8⟩ hK
    have HK := Lib.hid hK
    gi_wp2
    refine ⟨by simp, .inl ⟨_, _, rfl, run_takeDeferred HK.out, ?_⟩⟩
    have hr' : ∀ r, some D = some r → ∃ o : Obj, W.heap[r]? = some o ∧ o.isCells = false := fun r e => by cases e; exact ⟨_, HK.out, rfl⟩
    have q1 := h5.own (grownBy_putObj' _ D (.deferred none)) hr'
    have q2 := h6.own (grownBy_putObj' _ D (.deferred none)) hr'
    refine ⟨_, results_cb rfl _ _ (w.heap.size + 1) (w.heap.size + 1 + 1) _ _ _ _ _ _ _ rfl q1 Try.underlying37 rfl (by kernel_rfl) rfl q2 Try.underlying4, ?_, h7.grown (grownBy_putObj' _ D (.deferred none)) h7.size (fun k e => by cases e; omega)⟩
    have hp : p.map Prod.snd ++ [x.2] = ls.reverse.take k := by rw [← hS, List.map_append]; rfl
    have hx : x.2 ∈ ls := by
      have h_ : x.2 ∈ ls.reverse.take k := by rw [← hp]; simp
      exact List.mem_reverse.1 (List.mem_of_mem_take h_)
    rw [at_find HM2.out.symm hp (fun y hy => by obtain ⟨z, hz, rfl⟩ := List.mem_map.1 hy; exact h3 z hz) h4]
    have h9 := SC.own (h8 (HOK5.out _ hx)) (grownBy_putObj' _ D (.deferred none)) hr'
    exact ⟨_, _, _, _, _, _, _, _, rfl, h9.1, h9.2⟩
theorem AtPost.some_ {w' : World} {e : Ending} {y : Sh} (h : AtPost G (some y) e w') : ∃ x0 x1 x2 x3 x4 x5 x6 x7 : Value, e = .returned (.tuple #[.agg #[.string y.key, .int .i64 y.note, x0, x1, x2, x3, x4, x5, x6, x7], .bool true]) ∧ FQ G w' x0 x1 x2 x3 y.lo ∧ FQ G w' x4 x5 x6 x7 y.hi := h
theorem AtPost.none_ {w' : World} {e : Ending} (h : AtPost G none e w') : e = .returned (.tuple #[.agg zeroSh, .bool false]) := h
theorem reAt_ok {key : ByteArray} {nt : Int} {l : List SC} {a : Option Addr} {n c : Nat} {w : World} (hG : G ≤ w.heap.size) (h : RdC G w a n c l) (ok : OkL keyOk (l.map SC.sh)) (hz : FzL l 100000000) :
  Calls Try.prog 12 #[.slice a n c, .string key, .int .i64 nt] w fun e w' => AtPost G (atF (allF (l.map SC.sh) key) nt) e w' ∧ Below w.heap.size w w' := by
 refine reAt_g hG ?_ fun W hW => reAll (Nat.le_trans hG hW.size) (h.keep hW) ok hz
 have h2 : (allF (l.map SC.sh) key).length ≤ (l.map SC.sh).length := List.length_filter_le _ _
 have h3 := ok.len
 omega
theorem reAt_some {key yk : ByteArray} {nt yn : Int} {yq yr : Rat} {l : List SC} {a : Option Addr} {n c : Nat} {w : World} (hG : G ≤ w.heap.size) (h : RdC G w a n c l) (ok : OkL keyOk (l.map SC.sh)) (hz : FzL l 100000000) (hy : atF (allF (l.map SC.sh) key) nt = some ⟨yk, yn, yq, yr⟩) :
  Calls Try.prog 12 #[.slice a n c, .string key, .int .i64 nt] w fun e w' => ∃ x0 x1 x2 x3 x4 x5 x6 x7, e = .returned (.tuple #[.agg #[.string yk, .int .i64 yn, x0, x1, x2, x3, x4, x5, x6, x7], .bool true]) ∧ FQ G w' x0 x1 x2 x3 yq ∧ FQ G w' x4 x5 x6 x7 yr ∧ Below w.heap.size w w' :=
 (reAt_ok hG h ok hz).mono fun e w' ⟨h1, h2⟩ => by
  rw [hy] at h1
  obtain ⟨x0, x1, x2, x3, x4, x5, x6, x7, k1, k2, k3⟩ := h1.some_
  exact ⟨x0, x1, x2, x3, x4, x5, x6, x7, k1, k2, k3, h2⟩
theorem reAt_none {key : ByteArray} {nt : Int} {l : List SC} {a : Option Addr} {n c : Nat} {w : World} (hG : G ≤ w.heap.size) (h : RdC G w a n c l) (ok : OkL keyOk (l.map SC.sh)) (hz : FzL l 100000000) (hy : atF (allF (l.map SC.sh) key) nt = none) :
  Calls Try.prog 12 #[.slice a n c, .string key, .int .i64 nt] w fun e w' => e = .returned (.tuple #[.agg #[.string ⟨#[]⟩, .int .i64 0, .int .i64 0, .slice none 0 0, .int .i64 0, .slice none 0 0, .int .i64 0, .slice none 0 0, .int .i64 0, .slice none 0 0], .bool false]) ∧ Below w.heap.size w w' :=
 (reAt_ok hG h ok hz).mono fun e w' ⟨h1, h2⟩ => by
  rw [hy] at h1
  exact ⟨h1.none_, h2⟩
theorem reRight_g {l : List SR} {a : Option Addr} {n c : Nat} {b_ : Bool} {w : World} (hG : G ≤ w.heap.size) (h : RdR G w a n c l) (hn : n ≤ 2000) (hs : ∀ x ∈ l, fewR x = true) (hb_ : rightL keyOk l = b_) :
  Calls Try.prog 18 #[.slice a n c] w fun e w' => e = .returned (.bool b_) ∧ Below w.heap.size w w' :=
 reRight_x (RdL.up h hG fun _x hx => SR.up hx hG) hn hs hb_
theorem reAll_g {key : ByteArray} {l : List SR} {a : Option Addr} {n c : Nat} {w : World} (hG : G ≤ w.heap.size) (h : RdR G w a n c l) (hn : n ≤ 2000) (hs : ∀ x ∈ l, fewR x = true) (hr : rightL keyOk l = false) :
  Calls Try.prog 21 #[.slice a n c, .string key] w fun e w' => e = .returned (.slice none 0 0) ∧ Below w.heap.size w w' :=
 reAll_no (RdL.up h hG fun _x hx => SR.up hx hG) hn hs hr
theorem reAt_no {key : ByteArray} {nt : Int} {l : List SR} {a : Option Addr} {n c : Nat} {w : World} (hG : G ≤ w.heap.size) (h : RdR G w a n c l) (hn : n ≤ 2000) (hs : ∀ x ∈ l, fewR x = true) (hr : rightL keyOk l = false) :
  Calls Try.prog 12 #[.slice a n c, .string key, .int .i64 nt] w fun e w' => e = .returned (.tuple #[.agg #[.string ⟨#[]⟩, .int .i64 0, .int .i64 0, .slice none 0 0, .int .i64 0, .slice none 0 0, .int .i64 0, .slice none 0 0, .int .i64 0, .slice none 0 0], .bool false]) ∧ Below w.heap.size w w' :=
 (reAt_g hG (lf := []) (by simp) fun W hW => (reAll_g (Nat.le_trans hG hW.size) (h.keep hW) hn hs hr).mono fun e w' ⟨h1, h2⟩ => ⟨none, 0, 0, [], h1, RdL.nil _ _ _, rfl, h2⟩).mono fun e w' ⟨h1, h2⟩ => ⟨AtPost.none_ h1, h2⟩
end Go.Proofs.Ytlpcblhkddmlnaa
namespace Go.Proofs.Ytlpcblhkddmlnaa
open Go.RowKit Go.Lib
variable {G : Nat}

theorem Bx.grownB {w w' : World} {g : Nat} {T : TypeId} {cs : Array Value} {B : Nat} {e : TypeId} {size n : Nat} {v : Value} {xs : List Value} (h : Bx w g T cs) (ho : w.ownsRow B e size v n xs) (hlt : g < B) (hg : w.grownBy w' v.ownBlock) : Bx w' g T cs := by
  rcases own_block ho with h1 | ⟨g', cur, h1, h2, h3⟩
  · rw [h1] at hg; exact h.keep (below_none_ hg)
  · rw [h1] at hg; exact h.only hg (by omega)
theorem find_all {α : Type} {p : α → Bool} {l : List α} (h : ∀ x ∈ l, p x = true) : l.find? p = l.head? := by
 cases l with
 | nil => rfl
 | cons x r => rw [List.find?_cons, h x (by simp)]; rfl
theorem lastK_all (l : List Sh) (k : ByteArray) : lastK l k = (allF l k).getLast? := by
  induction l with
  | nil => rfl
  | cons x r ih =>
    rw [lastK, ih]
    unfold allF
    rw [List.filter_cons]
    by_cases h : x.key = k
    · rw [if_pos (decide_eq_true h), List.getLast?_cons, if_pos h]
      cases (List.filter (fun x => decide (x.key = k)) r).getLast? <;> rfl
    · rw [if_neg h, if_neg (by simpa using h : ¬ decide (x.key = k) = true)]
      cases (List.filter (fun x => decide (x.key = k)) r).getLast? <;> rfl
theorem at_top {K : ByteArray → Bool} {l : List Sh} (h : OkL K l) (k : ByteArray) : atF (allF l k) 1099511627776 = lastK l k := by
 rw [lastK_all]
 unfold atF
 rw [find_all, List.head?_reverse]
 intro x hx
 have h1 := (h.ok x (List.mem_filter.1 (List.mem_reverse.1 hx)).1).2.2.1
 exact decide_eq_true h1
theorem note_last {l : List SC} {k : Nat} {x : SC} (hx : l[k]? = some x) (hk : l.length = k + 1) : noteOf (l.map SC.sh) = x.note := by
 unfold noteOf
 rw [List.getLast?_eq_getElem?, List.length_map, hk, Nat.add_sub_cancel, List.getElem?_map, hx]; rfl
/-- What Show hands back: an error, and the list. -/
def showR (l : List Sh) (x : Sh) : Int × List Sh :=
 if x.note < noteOf l then (18, [])
 else match lastK l x.key with
  | some y => if y.lo = x.lo ∧ y.hi = x.hi then (0, l) else if y.note = x.note then (5, []) else if l.length = 2000 then (6, []) else (0, l ++ [x])
  | none => if l.length = 2000 then (6, []) else (0, l ++ [x])
theorem sh_day {l : List Sh} {x : Sh} (h : x.note < noteOf l) : showR l x = (18, []) := by unfold showR; rw [if_pos h]
theorem sh_none {l : List Sh} {x : Sh} (h : ¬ x.note < noteOf l) (h1 : lastK l x.key = none) : showR l x = if l.length = 2000 then (6, []) else (0, l ++ [x]) := by unfold showR; rw [if_neg h, h1]
theorem sh_same {l : List Sh} {x y : Sh} (h : ¬ x.note < noteOf l) (h1 : lastK l x.key = some y) (h2 : y.lo = x.lo ∧ y.hi = x.hi) : showR l x = (0, l) := by unfold showR; rw [if_neg h, h1]; simp [h2]
theorem sh_twice {l : List Sh} {x y : Sh} (h : ¬ x.note < noteOf l) (h1 : lastK l x.key = some y) (h2 : ¬ (y.lo = x.lo ∧ y.hi = x.hi)) (h3 : y.note = x.note) : showR l x = (5, []) := by unfold showR; rw [if_neg h, h1]; simp only [if_neg h2, if_pos h3]
theorem sh_next {l : List Sh} {x y : Sh} (h : ¬ x.note < noteOf l) (h1 : lastK l x.key = some y) (h2 : ¬ (y.lo = x.lo ∧ y.hi = x.hi)) (h3 : ¬ y.note = x.note) : showR l x = if l.length = 2000 then (6, []) else (0, l ++ [x]) := by unfold showR; rw [if_neg h, h1]; simp only [if_neg h2, if_neg h3]
theorem eq_both {p q r s : Rat} (h : p = q ∧ r = s) : (decide (p = q) && decide (r = s)) = true := by rw [decide_eq_true h.1, decide_eq_true h.2]; rfl
theorem ne_both {p q r s : Rat} (h : ¬ (p = q ∧ r = s)) : (decide (p = q) && decide (r = s)) = false := by
  rw [Bool.and_eq_false_iff]
  by_cases h1 : p = q
  · exact .inr (decide_eq_false fun h2 => h ⟨h1, h2⟩)
  · exact .inl (decide_eq_false h1)
theorem FzL.lastK {l : List SC} {N : Nat} {k yk : ByteArray} {yn : Int} {yq yr : Rat} (h : FzL l N) (hy : Go.Proofs.Ytlpcblhkddmlnaa.lastK (l.map SC.sh) k = some ⟨yk, yn, yq, yr⟩) : Fz yq N ∧ Fz yr N := by
 obtain ⟨x, hx, he⟩ := List.mem_map.1 (lastK_mem hy).1
 have h1 := h x hx
 have h2 : x.q = yq := congrArg Sh.lo he
 have h3 : x.r = yr := congrArg Sh.hi he
 rw [h2, h3] at h1
 exact h1
set_option maxRecDepth 100000 in
set_option maxHeartbeats 4000000 in
theorem reLast_some {key yk : ByteArray} {yn : Int} {yq yr : Rat} {l : List SC} {a : Option Addr} {n c : Nat} {w : World} (hG : G ≤ w.heap.size) (h : RdC G w a n c l) (ok : OkL keyOk (l.map SC.sh)) (hz : FzL l 100000000) (hy : lastK (l.map SC.sh) key = some ⟨yk, yn, yq, yr⟩) :
  Calls Try.prog 14 #[.slice a n c, .string key] w fun e w' => ∃ x0 x1 x2 x3 x4 x5 x6 x7, e = .returned (.tuple #[.agg #[.string yk, .int .i64 yn, x0, x1, x2, x3, x4, x5, x6, x7], .bool true]) ∧ FQ G w' x0 x1 x2 x3 yq ∧ FQ G w' x4 x5 x6 x7 yr ∧ Below w.heap.size w w' := by
 have hn : n ≤ 2000 := by rw [← h.len]; have h_ := ok.len; rw [List.length_map] at h_; exact h_
 have HOK := Lib.hid ok; have HZ := Lib.hid hz; clear ok hz
 have HY := Lib.hid hy; clear hy
 have HL : Hid (RdC G w a n c l) := h
 clear h
 have M : Hid (Below w.heap.size w w) := Below.refl _ _
 go_enter Try.func14, Try.ntmps14
 go_upto_region 1 with fail
 refine nmW (w.alloc (.cells #[.string (⟨#[]⟩), .int .i64 0, .int .i64 0, .slice none 0 0, .int .i64 0, .slice none 0 0, .int .i64 0, .slice none 0 0, .int .i64 0, .slice none 0 0] 37)) fun w1 hv => ?_
 rw [← hv]
 replace M := alM hv M
 clear hv
 go_wp2_with fail
 refine (reAt_some (G := G) (key := key) (yk := yk) (nt := 1099511627776) (yn := yn) (yq := yq) (yr := yr) (l := l) (Nat.le_trans hG (M.out.2).size) (HL.out.keep (M.out.2)) HOK.out HZ.out ((at_top HOK.out _).trans HY.out)).mono ?_
 rintro e w2 ⟨x_1, x_2, x_3, x_4, x_5, x_6, x_7, x_8, rfl, hd9, hd10, hb⟩
 replace M := ad2M hd9 hd10 hb M
 clear hb hd9 hd10
 refine cj20 (M.out.2.2.1).c10 fun p0_0 q0_0 p0_1 q0_1 p0_2 q0_2 p0_3 q0_3 p0_4 q0_4 p0_5 q0_5 p0_6 q0_6 p0_7 q0_7 p0_8 q0_8 p0_9 q0_9 => ?_
 refine cj4 (TQ.st (M.out.1)) fun st_x_1 st_x_2 st_x_3 st_x_4 => ?_
 refine cj4 (TQ.st (M.out.2.1)) fun st_x_5 st_x_6 st_x_7 st_x_8 => ?_
 go_wp2_with fail
 clear p0_0 q0_0 p0_1 q0_1 p0_2 q0_2 p0_3 q0_3 p0_4 q0_4 p0_5 q0_5 p0_6 q0_6 p0_7 q0_7 p0_8 q0_8 p0_9 q0_9 st_x_1 st_x_2 st_x_3 st_x_4 st_x_5 st_x_6 st_x_7 st_x_8
 refine nmW ((((((((((w2.setCell ⟨w.heap.size, 0, none⟩ (.string yk)).setCell ⟨w.heap.size, 1, none⟩ (.int .i64 yn)).setCell ⟨w.heap.size, 2, none⟩ (x_1)).setCell ⟨w.heap.size, 3, none⟩ (x_2)).setCell ⟨w.heap.size, 4, none⟩ (x_3)).setCell ⟨w.heap.size, 5, none⟩ (x_4)).setCell ⟨w.heap.size, 6, none⟩ (x_5)).setCell ⟨w.heap.size, 7, none⟩ (x_6)).setCell ⟨w.heap.size, 8, none⟩ (x_7)).setCell ⟨w.heap.size, 9, none⟩ (x_8)) fun w3 hv => ?_
 rw [← hv]
 have og : w2.grownBy w3 (some w.heap.size) := by rw [hv]; exact (only_setCell (only_setCell (only_setCell (only_setCell (only_setCell (only_setCell (only_setCell (only_setCell (only_setCell (only_setCell (World.grownBy.refl _ _) _) _) _) _) _) _) _) _) _) _)
 have hz : w.heap.size ≤ w.heap.size := by exact Nat.le_refl _
 have hk : Bx w3 w.heap.size 37 #[.string yk, .int .i64 yn, x_1, x_2, x_3, x_4, x_5, x_6, x_7, x_8] := by rw [hv]; exact ((M.out.2.2.1).all10)
 have hbw : Below w.heap.size w w3 := by rw [hv]; exact (Below.setCell (Below.setCell (Below.setCell (Below.setCell (Below.setCell (Below.setCell (Below.setCell (Below.setCell (Below.setCell (Below.setCell (M.out.2.2.2) (by omega) _) (by omega) _) (by omega) _) (by omega) _) (by omega) _) (by omega) _) (by omega) _) (by omega) _) (by omega) _) (by omega) _)
 replace M := Lib.hid (And.intro ((M.out.1).far (M.out.2.2.1) (by rfl) (by omega) og) (And.intro ((M.out.2.1).far (M.out.2.2.1) (by rfl) (by omega) og) (And.intro hk hbw)))
 clear hk hbw og hv hz
 refine bodyPost_ret (results_box2 rfl _ _ w.heap.size 37 _ _ _ rfl (M.out.2.2.1) Try.underlying37 rfl (by kernel_rfl)) rfl ?_
 exact ⟨_, _, _, _, _, _, _, _, rfl, (M.out.1), (M.out.2.1), (M.out.2.2.2)⟩
set_option maxRecDepth 100000 in
set_option maxHeartbeats 4000000 in
theorem reLast_none {key : ByteArray} {l : List SC} {a : Option Addr} {n c : Nat} {w : World} (hG : G ≤ w.heap.size) (h : RdC G w a n c l) (ok : OkL keyOk (l.map SC.sh)) (hz : FzL l 100000000) (hy : lastK (l.map SC.sh) key = none) :
  Calls Try.prog 14 #[.slice a n c, .string key] w fun e w' => e = .returned (.tuple #[.agg #[.string ⟨#[]⟩, .int .i64 0, .int .i64 0, .slice none 0 0, .int .i64 0, .slice none 0 0, .int .i64 0, .slice none 0 0, .int .i64 0, .slice none 0 0], .bool false]) ∧ Below w.heap.size w w' := by
 have hn : n ≤ 2000 := by rw [← h.len]; have h_ := ok.len; rw [List.length_map] at h_; exact h_
 have HOK := Lib.hid ok; have HZ := Lib.hid hz; clear ok hz
 have HY := Lib.hid hy; clear hy
 have HL : Hid (RdC G w a n c l) := h
 clear h
 have M : Hid (Below w.heap.size w w) := Below.refl _ _
 go_enter Try.func14, Try.ntmps14
 go_upto_region 1 with fail
 refine nmW (w.alloc (.cells #[.string (⟨#[]⟩), .int .i64 0, .int .i64 0, .slice none 0 0, .int .i64 0, .slice none 0 0, .int .i64 0, .slice none 0 0, .int .i64 0, .slice none 0 0] 37)) fun w1 hv => ?_
 rw [← hv]
 replace M := alM hv M
 clear hv
 go_wp2_with fail
 refine (reAt_none (G := G) (key := key) (nt := 1099511627776) (l := l) (Nat.le_trans hG (M.out.2).size) (HL.out.keep (M.out.2)) HOK.out HZ.out ((at_top HOK.out _).trans HY.out)).mono ?_
 rintro e w2 ⟨rfl, hb⟩
 replace M := gnM hb M
 clear hb
 refine cj20 (M.out.1).c10 fun p0_0 q0_0 p0_1 q0_1 p0_2 q0_2 p0_3 q0_3 p0_4 q0_4 p0_5 q0_5 p0_6 q0_6 p0_7 q0_7 p0_8 q0_8 p0_9 q0_9 => ?_
 go_wp2_with fail
 clear p0_0 q0_0 p0_1 q0_1 p0_2 q0_2 p0_3 q0_3 p0_4 q0_4 p0_5 q0_5 p0_6 q0_6 p0_7 q0_7 p0_8 q0_8 p0_9 q0_9
 refine nmW ((((((((((w2.setCell ⟨w.heap.size, 0, none⟩ (.string (⟨#[]⟩))).setCell ⟨w.heap.size, 1, none⟩ (.int .i64 0)).setCell ⟨w.heap.size, 2, none⟩ (.int .i64 0)).setCell ⟨w.heap.size, 3, none⟩ (.slice none 0 0)).setCell ⟨w.heap.size, 4, none⟩ (.int .i64 0)).setCell ⟨w.heap.size, 5, none⟩ (.slice none 0 0)).setCell ⟨w.heap.size, 6, none⟩ (.int .i64 0)).setCell ⟨w.heap.size, 7, none⟩ (.slice none 0 0)).setCell ⟨w.heap.size, 8, none⟩ (.int .i64 0)).setCell ⟨w.heap.size, 9, none⟩ (.slice none 0 0)) fun w3 hv => ?_
 rw [← hv]
 have og : w2.grownBy w3 (some w.heap.size) := by rw [hv]; exact (only_setCell (only_setCell (only_setCell (only_setCell (only_setCell (only_setCell (only_setCell (only_setCell (only_setCell (only_setCell (World.grownBy.refl _ _) _) _) _) _) _) _) _) _) _) _)
 have hz : w.heap.size ≤ w.heap.size := by exact Nat.le_refl _
 have hk : Bx w3 w.heap.size 37 #[.string (⟨#[]⟩), .int .i64 0, .int .i64 0, .slice none 0 0, .int .i64 0, .slice none 0 0, .int .i64 0, .slice none 0 0, .int .i64 0, .slice none 0 0] := by rw [hv]; exact ((M.out.1).all10)
 have hbw : Below w.heap.size w w3 := by rw [hv]; exact (Below.setCell (Below.setCell (Below.setCell (Below.setCell (Below.setCell (Below.setCell (Below.setCell (Below.setCell (Below.setCell (Below.setCell (M.out.2) (by omega) _) (by omega) _) (by omega) _) (by omega) _) (by omega) _) (by omega) _) (by omega) _) (by omega) _) (by omega) _) (by omega) _)
 replace M := Lib.hid (And.intro hk hbw)
 clear hk hbw og hv hz
 refine bodyPost_ret (results_box2 rfl _ _ w.heap.size 37 _ _ _ rfl (M.out.1) Try.underlying37 rfl (by kernel_rfl)) rfl ?_
 exact ⟨rfl, (M.out.2)⟩
set_option maxRecDepth 100000 in
set_option maxHeartbeats 4000000 in
theorem reLast_no {key : ByteArray} {l : List SR} {a : Option Addr} {n c : Nat} {w : World} (hG : G ≤ w.heap.size) (h : RdR G w a n c l) (_hn : n ≤ 2000) (hs : ∀ x ∈ l, fewR x = true) (hr : rightL keyOk l = false) :
  Calls Try.prog 14 #[.slice a n c, .string key] w fun e w' => e = .returned (.tuple #[.agg #[.string ⟨#[]⟩, .int .i64 0, .int .i64 0, .slice none 0 0, .int .i64 0, .slice none 0 0, .int .i64 0, .slice none 0 0, .int .i64 0, .slice none 0 0], .bool false]) ∧ Below w.heap.size w w' := by
 have HS := Lib.hid hs; have HR := Lib.hid hr; clear hs hr
 have HL : Hid (RdR G w a n c l) := h
 clear h
 have M : Hid (Below w.heap.size w w) := Below.refl _ _
 go_enter Try.func14, Try.ntmps14
 go_upto_region 1 with fail
 refine nmW (w.alloc (.cells #[.string (⟨#[]⟩), .int .i64 0, .int .i64 0, .slice none 0 0, .int .i64 0, .slice none 0 0, .int .i64 0, .slice none 0 0, .int .i64 0, .slice none 0 0] 37)) fun w1 hv => ?_
 rw [← hv]
 replace M := alM hv M
 clear hv
 go_wp2_with fail
 refine (reAt_no (G := G) (key := key) (nt := 1099511627776) (l := l) (Nat.le_trans hG (M.out.2).size) (HL.out.keep (M.out.2)) (by omega) HS.out HR.out).mono ?_
 rintro e w2 ⟨rfl, hb⟩
 replace M := gnM hb M
 clear hb
 refine cj20 (M.out.1).c10 fun p0_0 q0_0 p0_1 q0_1 p0_2 q0_2 p0_3 q0_3 p0_4 q0_4 p0_5 q0_5 p0_6 q0_6 p0_7 q0_7 p0_8 q0_8 p0_9 q0_9 => ?_
 go_wp2_with fail
 clear p0_0 q0_0 p0_1 q0_1 p0_2 q0_2 p0_3 q0_3 p0_4 q0_4 p0_5 q0_5 p0_6 q0_6 p0_7 q0_7 p0_8 q0_8 p0_9 q0_9
 refine nmW ((((((((((w2.setCell ⟨w.heap.size, 0, none⟩ (.string (⟨#[]⟩))).setCell ⟨w.heap.size, 1, none⟩ (.int .i64 0)).setCell ⟨w.heap.size, 2, none⟩ (.int .i64 0)).setCell ⟨w.heap.size, 3, none⟩ (.slice none 0 0)).setCell ⟨w.heap.size, 4, none⟩ (.int .i64 0)).setCell ⟨w.heap.size, 5, none⟩ (.slice none 0 0)).setCell ⟨w.heap.size, 6, none⟩ (.int .i64 0)).setCell ⟨w.heap.size, 7, none⟩ (.slice none 0 0)).setCell ⟨w.heap.size, 8, none⟩ (.int .i64 0)).setCell ⟨w.heap.size, 9, none⟩ (.slice none 0 0)) fun w3 hv => ?_
 rw [← hv]
 have og : w2.grownBy w3 (some w.heap.size) := by rw [hv]; exact (only_setCell (only_setCell (only_setCell (only_setCell (only_setCell (only_setCell (only_setCell (only_setCell (only_setCell (only_setCell (World.grownBy.refl _ _) _) _) _) _) _) _) _) _) _) _)
 have hz : w.heap.size ≤ w.heap.size := by exact Nat.le_refl _
 have hk : Bx w3 w.heap.size 37 #[.string (⟨#[]⟩), .int .i64 0, .int .i64 0, .slice none 0 0, .int .i64 0, .slice none 0 0, .int .i64 0, .slice none 0 0, .int .i64 0, .slice none 0 0] := by rw [hv]; exact ((M.out.1).all10)
 have hbw : Below w.heap.size w w3 := by rw [hv]; exact (Below.setCell (Below.setCell (Below.setCell (Below.setCell (Below.setCell (Below.setCell (Below.setCell (Below.setCell (Below.setCell (Below.setCell (M.out.2) (by omega) _) (by omega) _) (by omega) _) (by omega) _) (by omega) _) (by omega) _) (by omega) _) (by omega) _) (by omega) _) (by omega) _)
 replace M := Lib.hid (And.intro hk hbw)
 clear hk hbw og hv hz
 refine bodyPost_ret (results_box2 rfl _ _ w.heap.size 37 _ _ _ rfl (M.out.1) Try.underlying37 rfl (by kernel_rfl)) rfl ?_
 exact ⟨rfl, (M.out.2)⟩
theorem show_ways {l : List Sh} {key : ByteArray} {note : Int} {q r : Rat} (n : Nat) : (lastK l key = none ∧ n = 2000) ∨ (lastK l key = none ∧ n ≠ 2000) ∨ ∃ yk yn yq yr, lastK l key = some ⟨yk, yn, yq, yr⟩ ∧ ((yq = q ∧ yr = r) ∨ (¬ (yq = q ∧ yr = r) ∧ yn = note) ∨ (¬ (yq = q ∧ yr = r) ∧ ¬ yn = note ∧ n = 2000) ∨ (¬ (yq = q ∧ yr = r) ∧ ¬ yn = note ∧ n ≠ 2000)) := by
  cases h : lastK l key with
  | none => by_cases h1 : n = 2000 <;> simp [h1]
  | some y =>
    refine .inr (.inr ⟨y.key, y.note, y.lo, y.hi, rfl, ?_⟩)
    by_cases h1 : y.lo = q ∧ y.hi = r
    · exact .inl h1
    · by_cases h2 : y.note = note
      · exact .inr (.inl ⟨h1, h2⟩)
      · by_cases h3 : n = 2000
        · exact .inr (.inr (.inl ⟨h1, h2, h3⟩))
        · exact .inr (.inr (.inr ⟨h1, h2, h3⟩))
set_option maxRecDepth 100000 in
set_option maxHeartbeats 40000000 in
theorem reShow_c {key : ByteArray} {note : Int} {u0 u1 u2 u3 v0 v1 v2 v3 : Value} {q r : Rat} {er : Int} {rs : List Sh} {l : List SC} {a : Option Addr} {n c : Nat} {w : World} (hG : G ≤ w.heap.size) (h : RdC G w a n c l) (ok : OkL keyOk (l.map SC.sh)) (hz : FzL l 100000000) (h1 : FQ G w u0 u1 u2 u3 q) (h2 : FQ G w v0 v1 v2 v3 r) (hz1 : Fz q 100000000) (hz2 : Fz r 100000000) (hos : okSh keyOk ⟨key, note, q, r⟩) (hsh : showR (l.map SC.sh) ⟨key, note, q, r⟩ = (er, rs)) :
  Calls Try.prog 10 #[.slice a n c, .string key, .int .i64 note, .agg #[u0, u1, u2, u3, v0, v1, v2, v3]] w fun e w' => ∃ a2 n2 c2 l2, e = .returned (.tuple #[.slice a2 n2 c2, .int .i64 er]) ∧ RdC G w' a2 n2 c2 l2 ∧ l2.map SC.sh = rs ∧ Below w.heap.size w w' := by
 have hn : n ≤ 2000 := by rw [← h.len]; have h_ := ok.len; rw [List.length_map] at h_; exact h_
 have HOK := Lib.hid ok; have HZ := Lib.hid hz; clear ok hz
 have HZq := Lib.hid hz1; have HZr := Lib.hid hz2; have HSH := Lib.hid hsh; have hnt0 : 0 ≤ note := hos.2.1
 have HOS := Lib.hid hos; clear hz1 hz2 hos hsh
 have HL : Hid (RdC G w a n c l) := h
 have H1 : Hid (FQ G w u0 u1 u2 u3 q) := h1
 have H2 : Hid (FQ G w v0 v1 v2 v3 r) := h2
 clear h h1 h2
 have M : Hid (Below w.heap.size w w) := Below.refl _ _
 go_enter Try.func10, Try.ntmps10
 go_upto_region 1 with fail
 refine nmW (w.alloc (.cells #[u0, u1, u2, u3, v0, v1, v2, v3] 29)) fun w1 hv => ?_
 rw [← hv]
 replace M := alM hv M
 clear hv
 refine cj8 (M.out.1).d8 fun p0_0 p0_1 p0_2 p0_3 p0_4 p0_5 p0_6 p0_7 => ?_
 have z0 : w.heap.size < w1.heap.size := (M.out.1).lt
 refine cj4 (TQ.st (H1.out.keep (M.out.2))) fun st_u0 st_u1 st_u2 st_u3 => ?_
 refine cj4 (TQ.st (H2.out.keep (M.out.2))) fun st_v0 st_v1 st_v2 st_v3 => ?_
 go_upto_region 2 with fail
 clear p0_0 p0_1 p0_2 p0_3 p0_4 p0_5 p0_6 p0_7 z0 st_u0 st_u1 st_u2 st_u3 st_v0 st_v1 st_v2 st_v3
 refine nmW (w1.alloc (.cells #[.string key, .int .i64 note, u0, u1, u2, u3, v0, v1, v2, v3] 37)) fun w2 hv => ?_
 rw [← hv]
 have ow1_ : w.heap.size < w1.heap.size := ((M.out.1)).lt
 replace M := alM hv M
 clear hv
 go_wp2_with fail
 refine (reRight_c (G := G) (l := l) (Nat.le_trans hG (M.out.2.2).size) (HL.out.keep (M.out.2.2)) HOK.out HZ.out).mono ?_
 rintro e w3 ⟨rfl, hb⟩
 replace M := gnM hb M
 clear hb
 refine cj10 (M.out.1).d10 fun p1_0 p1_1 p1_2 p1_3 p1_4 p1_5 p1_6 p1_7 p1_8 p1_9 => ?_
 go_wp2_with fail
 clear p1_0 p1_1 p1_2 p1_3 p1_4 p1_5 p1_6 p1_7 p1_8 p1_9
 refine (reShown_q (G := G) (key := key) (note := note) (q := q) (r := r) (t6 := true) (b_ := true) (H1.out.keep (M.out.2.2)) (H2.out.keep (M.out.2.2)) (Fz.mono HZq.out (by omega)) (Fz.mono HZr.out (by omega)) (decide_eq_true HOS.out.2.2.2) (shown_true HOS.out)).mono ?_
 rintro e w4 ⟨rfl, hb⟩
 replace M := gnM hb M
 clear hb
 go_upto_region 5 with fail
 have hw : n = 0 ∨ (0 < n ∧ note < noteOf (l.map SC.sh)) ∨ (0 < n ∧ ¬ note < noteOf (l.map SC.sh)) := by by_cases h_ : note < noteOf (l.map SC.sh) <;> omega
 rcases hw with hn0 | ⟨hnp, hday⟩ | ⟨hnp, hday⟩
 ·
  have hnz0 : n ≤ 0 := by omega
  clear hn0
  have e5_0 : decide (0 < n) = false := decide_eq_false (by omega)
  have e5_1 : decide (0 < (n : Int)) = false := decide_eq_false (by omega)
  have e5_i : ¬ 0 < (n : Int) := by omega
  have HND : Hid (noteOf (l.map SC.sh) ≤ note) := by show _ ≤ _; rw [show l = [] from List.length_eq_zero_iff.1 (by rw [HL.out.len]; omega)]; show 0 ≤ note; omega
  go_wp2_with fail
  have hB0_ : w.heap.size ≤ w4.heap.size := ((M.out.2.2)).size
  have hGB_ : G ≤ w4.heap.size := Nat.le_trans hG hB0_
  have hlt0_ : w1.heap.size < w4.heap.size := ((M.out.1)).lt
  have hlt1_ : w.heap.size < w4.heap.size := ((M.out.2.1)).lt
  replace M := Lib.hid (And.intro (Below.refl w4.heap.size w4) M.out)
  go_loopw [12, 45] (fun i12 i45 wr => ∃ (k : Nat) (gl : List SC) (vg : Value), vg = i12 ∧ i45 = .int .i64 (k : Int) ∧ Hid (k ≤ n) ∧ Hid (gl.length = k) ∧ Hid (gl.map SC.sh = (l.take k).map SC.sh) ∧ Hid (OwVC G w4.heap.size wr vg gl ∧ Below w4.heap.size w4 wr ∧ Bx wr w1.heap.size 37 #[.string key, .int .i64 note, u0, u1, u2, u3, v0, v1, v2, v3] ∧ Bx wr w.heap.size 29 #[u0, u1, u2, u3, v0, v1, v2, v3] ∧ Below w.heap.size w wr)) (fun i12 i45 _ => n - (RowKit.intOf i45).toNat)
  case atStart =>
   exact ⟨0, [], (.slice none 0 0), rfl, rfl, (by show _ ≤ _; omega), (Lib.hid rfl), (Lib.hid rfl), Lib.hid (And.intro (OwV.nil _ hGB_) (And.intro (M.out.1) (And.intro (M.out.2.1) (And.intro (M.out.2.2.1) (M.out.2.2.2)))))⟩
  case round =>
   obtain ⟨w5, rfl⟩ : ∃ x, x = wr := ⟨_, rfl⟩
   clear M
   obtain ⟨k, gl, vg, rfl, rfl, hk, HGL, HGE, M⟩ := hrel
   have hk := hk.out
   by_cases hlt : k < n
   ·
    exfalso
    omega
   ·
    have e1_0 : decide (k < n) = false := decide_eq_false (by omega)
    have e1_1 : decide ((k : Int) < (n : Int)) = false := decide_eq_false (by omega)
    have e1_i : ¬ (k : Int) < (n : Int) := by omega
    have HALL : Hid (gl.map SC.sh = l.map SC.sh) := by show _ = _; rw [HGE.out, List.take_of_length_le (by rw [HL.out.len]; omega)]
    go_upto_region 13 with fail
    have hw : (lastK (l.map SC.sh) key = none ∧ n = 2000) ∨ (lastK (l.map SC.sh) key = none ∧ n ≠ 2000) ∨ ∃ yk yn yq yr, lastK (l.map SC.sh) key = some ⟨yk, yn, yq, yr⟩ ∧ ((yq = q ∧ yr = r) ∨ (¬ (yq = q ∧ yr = r) ∧ yn = note) ∨ (¬ (yq = q ∧ yr = r) ∧ ¬ yn = note ∧ n = 2000) ∨ (¬ (yq = q ∧ yr = r) ∧ ¬ yn = note ∧ n ≠ 2000)) := show_ways _
    rcases hw with ⟨hlk, hf⟩ | ⟨hlk, hf⟩ | ⟨yk, yn, yq, yr, hlk, hsm | ⟨hsm, hyn⟩ | ⟨hsm, hyn, hf⟩ | ⟨hsm, hyn, hf⟩⟩
    ·
     have HLK := Lib.hid hlk
     have ef1 : ((n : Int) == 2000) = true := beq_iff_eq.2 (by omega)
     have ef2 : (n == 2000) = true := beq_iff_eq.2 (by omega)
     have HRS : Hid (showR (l.map SC.sh) ⟨key, note, q, r⟩ = (6, [])) := by show _ = _; rw [sh_none (Int.not_lt.2 HND.out) HLK.out, if_pos (by rw [List.length_map, HL.out.len]; omega)]
     clear hlk hf
     go_wp2_with fail
     refine (reLast_none (G := G) (key := key) (l := l) (Nat.le_trans hG (M.out.2.2.2.2).size) (HL.out.keep (M.out.2.2.2.2)) HOK.out HZ.out HLK.out).mono ?_
     rintro e w6 ⟨rfl, hb⟩
     replace M := gnM hb M
     clear hb
     go_upto_region 14 with fail
     refine nmW (w6.alloc (.cells #[.string (⟨#[]⟩), .int .i64 0, .int .i64 0, .slice none 0 0, .int .i64 0, .slice none 0 0, .int .i64 0, .slice none 0 0, .int .i64 0, .slice none 0 0] 37)) fun w7 hv => ?_
     rw [← hv]
     have ow2_ : w1.heap.size < w6.heap.size := ((M.out.2.2.1)).lt
     have no_b2_vg := OwV.no (M.out.1)
     replace M := alM hv M
     clear hv
     go_wp2_with fail
     have HEQ := Lib.hid (HRS.out.symm.trans HSH.out)
     obtain ⟨rfl, rfl⟩ := Prod.mk.inj HEQ.out.symm
     go_ret2
     exact ⟨none, 0, 0, [], rfl, RdL.nil _ _ _, rfl, (M.out.2.2.2.2.2)⟩
    ·
     have HLK := Lib.hid hlk
     have ef1 : ((n : Int) == 2000) = false := beq_false_of_ne (by omega)
     have ef2 : (n == 2000) = false := beq_false_of_ne (by omega)
     have ef3 : ¬ (n : Int) = 2000 := by omega
     have HRS : Hid (showR (l.map SC.sh) ⟨key, note, q, r⟩ = (0, l.map SC.sh ++ [⟨key, note, q, r⟩])) := by show _ = _; rw [sh_none (Int.not_lt.2 HND.out) HLK.out, if_neg (by rw [List.length_map, HL.out.len]; omega)]
     clear hlk hf
     go_wp2_with fail
     refine (reLast_none (G := G) (key := key) (l := l) (Nat.le_trans hG (M.out.2.2.2.2).size) (HL.out.keep (M.out.2.2.2.2)) HOK.out HZ.out HLK.out).mono ?_
     rintro e w6 ⟨rfl, hb⟩
     replace M := gnM hb M
     clear hb
     go_upto_region 14 with fail
     refine nmW (w6.alloc (.cells #[.string (⟨#[]⟩), .int .i64 0, .int .i64 0, .slice none 0 0, .int .i64 0, .slice none 0 0, .int .i64 0, .slice none 0 0, .int .i64 0, .slice none 0 0] 37)) fun w7 hv => ?_
     rw [← hv]
     have ow2_ : w1.heap.size < w6.heap.size := ((M.out.2.2.1)).lt
     have no_b2_vg := OwV.no (M.out.1)
     replace M := alM hv M
     clear hv
     refine cj10 (M.out.2.2.2.1).d10 fun p1_0 p1_1 p1_2 p1_3 p1_4 p1_5 p1_6 p1_7 p1_8 p1_9 => ?_
     go_wp2_with fail
     clear p1_0 p1_1 p1_2 p1_3 p1_4 p1_5 p1_6 p1_7 p1_8 p1_9
     refine (reOwn (G := G) (key := key) (note := note) (q := q) (r := r) (Nat.le_trans hG (M.out.2.2.2.2.2).size) (H1.out.keep (M.out.2.2.2.2.2)) (H2.out.keep (M.out.2.2.2.2.2)) (Fz.mono HZq.out (by omega)) (Fz.mono HZr.out (by omega)) HOS.out.2.2.2).mono ?_
     rintro e w8 ⟨x_1, x_2, x_3, x_4, x_5, x_6, x_7, x_8, rfl, hd9, hd10, hb⟩
     replace M := ad2M hd9 hd10 hb M
     clear hb hd9 hd10
     go_wp2_with (at_builtin; go_must (refine wpList_pushV rfl _ _ elemSh rfl w8 (M.out.2.2.2.1) HGL.out (⟨key, note, x_1, x_2, x_3, x_4, q, x_5, x_6, x_7, x_8, r⟩ : SC) ⟨(M.out.1), (M.out.2.1)⟩ rfl rfl rfl rfl (by rfl) (by omega) (by omega) (M.out.2.2.2.2.1).size ?_; intro vv_11 w9 ho_ hg_))
     replace M := Lib.hid (And.intro ho_ (And.intro ((M.out.1).grown (M.out.2.2.2.1).own (by rfl) (M.out.2.2.2.1).leG hg_) (And.intro ((M.out.2.1).grown (M.out.2.2.2.1).own (by rfl) (M.out.2.2.2.1).leG hg_) (And.intro (below_grown (M.out.2.2.2.2.1) (M.out.2.2.2.1).own (Nat.le_refl _) (M.out.2.2.2.2.1).size hg_) (And.intro ((M.out.2.2.2.2.2.1).grownB (M.out.2.2.2.1).own (by omega) hg_) (And.intro ((M.out.2.2.2.2.2.2.1).grownT (M.out.2.2.2.1).own (by rfl) hg_) (below_grown (M.out.2.2.2.2.2.2.2) (M.out.2.2.2.1).own hB0_ (M.out.2.2.2.2.2.2.2).size hg_)))))))
     clear ho_ hg_
     have HEQ := Lib.hid (HRS.out.symm.trans HSH.out)
     obtain ⟨rfl, rfl⟩ := Prod.mk.inj HEQ.out.symm
     have hgl_ : (gl ++ [(⟨key, note, x_1, x_2, x_3, x_4, q, x_5, x_6, x_7, x_8, r⟩ : SC)]).length = (k + 1) := by rw [List.length_append, HGL.out]; rfl
     obtain ⟨ag, cg, hvg_, hrd_⟩ := OwV.rdl (M.out.1) hgl_
     subst hvg_
     replace M := Lib.hid (And.intro hrd_ (And.intro (M.out.2.1) (And.intro (M.out.2.2.1) (And.intro (M.out.2.2.2.1) (And.intro (M.out.2.2.2.2.1) (And.intro (M.out.2.2.2.2.2.1) (M.out.2.2.2.2.2.2)))))))
     clear hrd_
     go_ret2
     exact ⟨_, _, _, _, rfl, (M.out.1), (by rw [List.map_append, HALL.out]; rfl), (M.out.2.2.2.2.2.2)⟩
    ·
     have HLK := Lib.hid hlk
     have hz_ := HZ.out.lastK hlk
     have HZy1 : Hid (Fz yq 100000000) := hz_.1
     have HZy2 : Hid (Fz yr 100000000) := hz_.2
     clear hz_ hlk
     have HBB := Lib.hid (eq_both hsm)
     have HRS : Hid (showR (l.map SC.sh) ⟨key, note, q, r⟩ = (0, l.map SC.sh)) := sh_same (Int.not_lt.2 HND.out) HLK.out hsm
     clear hsm
     go_wp2_with fail
     refine (reLast_some (G := G) (key := key) (yk := yk) (yn := yn) (yq := yq) (yr := yr) (l := l) (Nat.le_trans hG (M.out.2.2.2.2).size) (HL.out.keep (M.out.2.2.2.2)) HOK.out HZ.out HLK.out).mono ?_
     rintro e w6 ⟨x_12, x_13, x_14, x_15, x_16, x_17, x_18, x_19, rfl, hd20, hd21, hb⟩
     replace M := ad2M hd20 hd21 hb M
     clear hb hd20 hd21
     refine cj4 (TQ.st (M.out.1)) fun st_x_12 st_x_13 st_x_14 st_x_15 => ?_
     refine cj4 (TQ.st (M.out.2.1)) fun st_x_16 st_x_17 st_x_18 st_x_19 => ?_
     go_upto_region 14 with fail
     clear st_x_12 st_x_13 st_x_14 st_x_15 st_x_16 st_x_17 st_x_18 st_x_19
     refine nmW (w6.alloc (.cells #[.string yk, .int .i64 yn, x_12, x_13, x_14, x_15, x_16, x_17, x_18, x_19] 37)) fun w7 hv => ?_
     rw [← hv]
     have ow2_ : w1.heap.size < w6.heap.size := ((M.out.2.2.2.2.1)).lt
     have no_b2_vg := OwV.no (M.out.2.2.1)
     replace M := alM hv M
     clear hv
     refine cj10 (M.out.1).d10 fun p2_0 p2_1 p2_2 p2_3 p2_4 p2_5 p2_6 p2_7 p2_8 p2_9 => ?_
     refine cj8 (M.out.2.2.2.2.2.2.1).d8 fun p0_0 p0_1 p0_2 p0_3 p0_4 p0_5 p0_6 p0_7 => ?_
     go_wp2_with fail
     clear p2_0 p2_1 p2_2 p2_3 p2_4 p2_5 p2_6 p2_7 p2_8 p2_9 p0_0 p0_1 p0_2 p0_3 p0_4 p0_5 p0_6 p0_7
     refine (spanSame_b (G := G) (p := yq) (q := yr) (r := q) (s := r) (b_ := true) (M.out.2.1) (M.out.2.2.1) (H1.out.keep (M.out.2.2.2.2.2.2.2)) (H2.out.keep (M.out.2.2.2.2.2.2.2)) (Fz.mono HZy1.out (by omega)) (Fz.mono HZy2.out (by omega)) (Fz.mono HZq.out (by omega)) (Fz.mono HZr.out (by omega)) HBB.out).mono ?_
     rintro e w8 ⟨rfl, hb⟩
     replace M := gnM hb M
     clear hb
     go_wp2_with fail
     have HEQ := Lib.hid (HRS.out.symm.trans HSH.out)
     obtain ⟨rfl, rfl⟩ := Prod.mk.inj HEQ.out.symm
     have hgl_ : gl.length = k := by exact HGL.out
     obtain ⟨ag, cg, hvg_, hrd_⟩ := OwV.rdl (M.out.2.2.2.1) hgl_
     subst hvg_
     replace M := Lib.hid (And.intro hrd_ (And.intro (M.out.1) (And.intro (M.out.2.1) (And.intro (M.out.2.2.1) (And.intro (M.out.2.2.2.2.1) (And.intro (M.out.2.2.2.2.2.1) (And.intro (M.out.2.2.2.2.2.2.1) (M.out.2.2.2.2.2.2.2))))))))
     clear hrd_
     go_ret2
     exact ⟨_, _, _, _, rfl, (M.out.1), (by exact HALL.out), (M.out.2.2.2.2.2.2.2)⟩
    ·
     have HLK := Lib.hid hlk
     have hz_ := HZ.out.lastK hlk
     have HZy1 : Hid (Fz yq 100000000) := hz_.1
     have HZy2 : Hid (Fz yr 100000000) := hz_.2
     clear hz_ hlk
     have HBB := Lib.hid (ne_both hsm)
     have HRS : Hid (showR (l.map SC.sh) ⟨key, note, q, r⟩ = (5, [])) := sh_twice (Int.not_lt.2 HND.out) HLK.out hsm hyn
     have en1 : (yn == note) = true := beq_iff_eq.2 hyn
     clear hsm hyn
     go_wp2_with fail
     refine (reLast_some (G := G) (key := key) (yk := yk) (yn := yn) (yq := yq) (yr := yr) (l := l) (Nat.le_trans hG (M.out.2.2.2.2).size) (HL.out.keep (M.out.2.2.2.2)) HOK.out HZ.out HLK.out).mono ?_
     rintro e w6 ⟨x_22, x_23, x_24, x_25, x_26, x_27, x_28, x_29, rfl, hd30, hd31, hb⟩
     replace M := ad2M hd30 hd31 hb M
     clear hb hd30 hd31
     refine cj4 (TQ.st (M.out.1)) fun st_x_22 st_x_23 st_x_24 st_x_25 => ?_
     refine cj4 (TQ.st (M.out.2.1)) fun st_x_26 st_x_27 st_x_28 st_x_29 => ?_
     go_upto_region 14 with fail
     clear st_x_22 st_x_23 st_x_24 st_x_25 st_x_26 st_x_27 st_x_28 st_x_29
     refine nmW (w6.alloc (.cells #[.string yk, .int .i64 yn, x_22, x_23, x_24, x_25, x_26, x_27, x_28, x_29] 37)) fun w7 hv => ?_
     rw [← hv]
     have ow2_ : w1.heap.size < w6.heap.size := ((M.out.2.2.2.2.1)).lt
     have no_b2_vg := OwV.no (M.out.2.2.1)
     replace M := alM hv M
     clear hv
     refine cj10 (M.out.1).d10 fun p2_0 p2_1 p2_2 p2_3 p2_4 p2_5 p2_6 p2_7 p2_8 p2_9 => ?_
     refine cj8 (M.out.2.2.2.2.2.2.1).d8 fun p0_0 p0_1 p0_2 p0_3 p0_4 p0_5 p0_6 p0_7 => ?_
     go_wp2_with fail
     clear p2_0 p2_1 p2_2 p2_3 p2_4 p2_5 p2_6 p2_7 p2_8 p2_9 p0_0 p0_1 p0_2 p0_3 p0_4 p0_5 p0_6 p0_7
     refine (spanSame_b (G := G) (p := yq) (q := yr) (r := q) (s := r) (b_ := false) (M.out.2.1) (M.out.2.2.1) (H1.out.keep (M.out.2.2.2.2.2.2.2)) (H2.out.keep (M.out.2.2.2.2.2.2.2)) (Fz.mono HZy1.out (by omega)) (Fz.mono HZy2.out (by omega)) (Fz.mono HZq.out (by omega)) (Fz.mono HZr.out (by omega)) HBB.out).mono ?_
     rintro e w8 ⟨rfl, hb⟩
     replace M := gnM hb M
     clear hb
     refine cj10 (M.out.1).d10 fun p2_0 p2_1 p2_2 p2_3 p2_4 p2_5 p2_6 p2_7 p2_8 p2_9 => ?_
     go_wp2_with fail
     clear p2_0 p2_1 p2_2 p2_3 p2_4 p2_5 p2_6 p2_7 p2_8 p2_9
     have HEQ := Lib.hid (HRS.out.symm.trans HSH.out)
     obtain ⟨rfl, rfl⟩ := Prod.mk.inj HEQ.out.symm
     go_ret2
     exact ⟨none, 0, 0, [], rfl, RdL.nil _ _ _, rfl, (M.out.2.2.2.2.2.2.2)⟩
    ·
     have HLK := Lib.hid hlk
     have hz_ := HZ.out.lastK hlk
     have HZy1 : Hid (Fz yq 100000000) := hz_.1
     have HZy2 : Hid (Fz yr 100000000) := hz_.2
     clear hz_ hlk
     have HBB := Lib.hid (ne_both hsm)
     have HRS : Hid (showR (l.map SC.sh) ⟨key, note, q, r⟩ = (6, [])) := by show _ = _; rw [sh_next (Int.not_lt.2 HND.out) HLK.out hsm hyn, if_pos (by rw [List.length_map, HL.out.len]; omega)]
     have en1 : (yn == note) = false := beq_false_of_ne hyn
     have ef1 : ((n : Int) == 2000) = true := beq_iff_eq.2 (by omega)
     have ef2 : (n == 2000) = true := beq_iff_eq.2 (by omega)
     clear hsm hf
     go_wp2_with fail
     refine (reLast_some (G := G) (key := key) (yk := yk) (yn := yn) (yq := yq) (yr := yr) (l := l) (Nat.le_trans hG (M.out.2.2.2.2).size) (HL.out.keep (M.out.2.2.2.2)) HOK.out HZ.out HLK.out).mono ?_
     rintro e w6 ⟨x_32, x_33, x_34, x_35, x_36, x_37, x_38, x_39, rfl, hd40, hd41, hb⟩
     replace M := ad2M hd40 hd41 hb M
     clear hb hd40 hd41
     refine cj4 (TQ.st (M.out.1)) fun st_x_32 st_x_33 st_x_34 st_x_35 => ?_
     refine cj4 (TQ.st (M.out.2.1)) fun st_x_36 st_x_37 st_x_38 st_x_39 => ?_
     go_upto_region 14 with fail
     clear st_x_32 st_x_33 st_x_34 st_x_35 st_x_36 st_x_37 st_x_38 st_x_39
     refine nmW (w6.alloc (.cells #[.string yk, .int .i64 yn, x_32, x_33, x_34, x_35, x_36, x_37, x_38, x_39] 37)) fun w7 hv => ?_
     rw [← hv]
     have ow2_ : w1.heap.size < w6.heap.size := ((M.out.2.2.2.2.1)).lt
     have no_b2_vg := OwV.no (M.out.2.2.1)
     replace M := alM hv M
     clear hv
     refine cj10 (M.out.1).d10 fun p2_0 p2_1 p2_2 p2_3 p2_4 p2_5 p2_6 p2_7 p2_8 p2_9 => ?_
     refine cj8 (M.out.2.2.2.2.2.2.1).d8 fun p0_0 p0_1 p0_2 p0_3 p0_4 p0_5 p0_6 p0_7 => ?_
     go_wp2_with fail
     clear p2_0 p2_1 p2_2 p2_3 p2_4 p2_5 p2_6 p2_7 p2_8 p2_9 p0_0 p0_1 p0_2 p0_3 p0_4 p0_5 p0_6 p0_7
     refine (spanSame_b (G := G) (p := yq) (q := yr) (r := q) (s := r) (b_ := false) (M.out.2.1) (M.out.2.2.1) (H1.out.keep (M.out.2.2.2.2.2.2.2)) (H2.out.keep (M.out.2.2.2.2.2.2.2)) (Fz.mono HZy1.out (by omega)) (Fz.mono HZy2.out (by omega)) (Fz.mono HZq.out (by omega)) (Fz.mono HZr.out (by omega)) HBB.out).mono ?_
     rintro e w8 ⟨rfl, hb⟩
     replace M := gnM hb M
     clear hb
     refine cj10 (M.out.1).d10 fun p2_0 p2_1 p2_2 p2_3 p2_4 p2_5 p2_6 p2_7 p2_8 p2_9 => ?_
     go_wp2_with fail
     clear p2_0 p2_1 p2_2 p2_3 p2_4 p2_5 p2_6 p2_7 p2_8 p2_9
     have HEQ := Lib.hid (HRS.out.symm.trans HSH.out)
     obtain ⟨rfl, rfl⟩ := Prod.mk.inj HEQ.out.symm
     go_ret2
     exact ⟨none, 0, 0, [], rfl, RdL.nil _ _ _, rfl, (M.out.2.2.2.2.2.2.2)⟩
    ·
     have HLK := Lib.hid hlk
     have hz_ := HZ.out.lastK hlk
     have HZy1 : Hid (Fz yq 100000000) := hz_.1
     have HZy2 : Hid (Fz yr 100000000) := hz_.2
     clear hz_ hlk
     have HBB := Lib.hid (ne_both hsm)
     have HRS : Hid (showR (l.map SC.sh) ⟨key, note, q, r⟩ = (0, l.map SC.sh ++ [⟨key, note, q, r⟩])) := by show _ = _; rw [sh_next (Int.not_lt.2 HND.out) HLK.out hsm hyn, if_neg (by rw [List.length_map, HL.out.len]; omega)]
     have en1 : (yn == note) = false := beq_false_of_ne hyn
     have ef1 : ((n : Int) == 2000) = false := beq_false_of_ne (by omega)
     have ef2 : (n == 2000) = false := beq_false_of_ne (by omega)
     have ef3 : ¬ (n : Int) = 2000 := by omega
     clear hsm hf
     go_wp2_with fail
     refine (reLast_some (G := G) (key := key) (yk := yk) (yn := yn) (yq := yq) (yr := yr) (l := l) (Nat.le_trans hG (M.out.2.2.2.2).size) (HL.out.keep (M.out.2.2.2.2)) HOK.out HZ.out HLK.out).mono ?_
     rintro e w6 ⟨x_42, x_43, x_44, x_45, x_46, x_47, x_48, x_49, rfl, hd50, hd51, hb⟩
     replace M := ad2M hd50 hd51 hb M
     clear hb hd50 hd51
     refine cj4 (TQ.st (M.out.1)) fun st_x_42 st_x_43 st_x_44 st_x_45 => ?_
     refine cj4 (TQ.st (M.out.2.1)) fun st_x_46 st_x_47 st_x_48 st_x_49 => ?_
     go_upto_region 14 with fail
     clear st_x_42 st_x_43 st_x_44 st_x_45 st_x_46 st_x_47 st_x_48 st_x_49
     refine nmW (w6.alloc (.cells #[.string yk, .int .i64 yn, x_42, x_43, x_44, x_45, x_46, x_47, x_48, x_49] 37)) fun w7 hv => ?_
     rw [← hv]
     have ow2_ : w1.heap.size < w6.heap.size := ((M.out.2.2.2.2.1)).lt
     have no_b2_vg := OwV.no (M.out.2.2.1)
     replace M := alM hv M
     clear hv
     refine cj10 (M.out.1).d10 fun p2_0 p2_1 p2_2 p2_3 p2_4 p2_5 p2_6 p2_7 p2_8 p2_9 => ?_
     refine cj8 (M.out.2.2.2.2.2.2.1).d8 fun p0_0 p0_1 p0_2 p0_3 p0_4 p0_5 p0_6 p0_7 => ?_
     go_wp2_with fail
     clear p2_0 p2_1 p2_2 p2_3 p2_4 p2_5 p2_6 p2_7 p2_8 p2_9 p0_0 p0_1 p0_2 p0_3 p0_4 p0_5 p0_6 p0_7
     refine (spanSame_b (G := G) (p := yq) (q := yr) (r := q) (s := r) (b_ := false) (M.out.2.1) (M.out.2.2.1) (H1.out.keep (M.out.2.2.2.2.2.2.2)) (H2.out.keep (M.out.2.2.2.2.2.2.2)) (Fz.mono HZy1.out (by omega)) (Fz.mono HZy2.out (by omega)) (Fz.mono HZq.out (by omega)) (Fz.mono HZr.out (by omega)) HBB.out).mono ?_
     rintro e w8 ⟨rfl, hb⟩
     replace M := gnM hb M
     clear hb
     refine cj10 (M.out.1).d10 fun p2_0 p2_1 p2_2 p2_3 p2_4 p2_5 p2_6 p2_7 p2_8 p2_9 => ?_
     refine cj10 (M.out.2.2.2.2.2.1).d10 fun p1_0 p1_1 p1_2 p1_3 p1_4 p1_5 p1_6 p1_7 p1_8 p1_9 => ?_
     go_wp2_with fail
     clear p2_0 p2_1 p2_2 p2_3 p2_4 p2_5 p2_6 p2_7 p2_8 p2_9 p1_0 p1_1 p1_2 p1_3 p1_4 p1_5 p1_6 p1_7 p1_8 p1_9
     refine (reOwn (G := G) (key := key) (note := note) (q := q) (r := r) (Nat.le_trans hG (M.out.2.2.2.2.2.2.2).size) (H1.out.keep (M.out.2.2.2.2.2.2.2)) (H2.out.keep (M.out.2.2.2.2.2.2.2)) (Fz.mono HZq.out (by omega)) (Fz.mono HZr.out (by omega)) HOS.out.2.2.2).mono ?_
     rintro e w9 ⟨x_52, x_53, x_54, x_55, x_56, x_57, x_58, x_59, rfl, hd60, hd61, hb⟩
     replace M := ad2M hd60 hd61 hb M
     clear hb hd60 hd61
     go_wp2_with (at_builtin; go_must (refine wpList_pushV rfl _ _ elemSh rfl w9 (M.out.2.2.2.2.2.1) HGL.out (⟨key, note, x_52, x_53, x_54, x_55, q, x_56, x_57, x_58, x_59, r⟩ : SC) ⟨(M.out.1), (M.out.2.1)⟩ rfl rfl rfl rfl (by rfl) (by omega) (by omega) (M.out.2.2.2.2.2.2.1).size ?_; intro vv_62 w10 ho_ hg_))
     replace M := Lib.hid (And.intro ho_ (And.intro ((M.out.1).grown (M.out.2.2.2.2.2.1).own (by rfl) (M.out.2.2.2.2.2.1).leG hg_) (And.intro ((M.out.2.1).grown (M.out.2.2.2.2.2.1).own (by rfl) (M.out.2.2.2.2.2.1).leG hg_) (And.intro ((M.out.2.2.2.1).grown (M.out.2.2.2.2.2.1).own (by rfl) (M.out.2.2.2.2.2.1).leG hg_) (And.intro ((M.out.2.2.2.2.1).grown (M.out.2.2.2.2.2.1).own (by rfl) (M.out.2.2.2.2.2.1).leG hg_) (And.intro (below_grown (M.out.2.2.2.2.2.2.1) (M.out.2.2.2.2.2.1).own (Nat.le_refl _) (M.out.2.2.2.2.2.2.1).size hg_) (And.intro ((M.out.2.2.2.2.2.2.2.1).grownB (M.out.2.2.2.2.2.1).own (by omega) hg_) (And.intro ((M.out.2.2.2.2.2.2.2.2.1).grownT (M.out.2.2.2.2.2.1).own (by rfl) hg_) (below_grown (M.out.2.2.2.2.2.2.2.2.2) (M.out.2.2.2.2.2.1).own hB0_ (M.out.2.2.2.2.2.2.2.2.2).size hg_)))))))))
     clear ho_ hg_
     have HEQ := Lib.hid (HRS.out.symm.trans HSH.out)
     obtain ⟨rfl, rfl⟩ := Prod.mk.inj HEQ.out.symm
     have hgl_ : (gl ++ [(⟨key, note, x_52, x_53, x_54, x_55, q, x_56, x_57, x_58, x_59, r⟩ : SC)]).length = (k + 1) := by rw [List.length_append, HGL.out]; rfl
     obtain ⟨ag, cg, hvg_, hrd_⟩ := OwV.rdl (M.out.1) hgl_
     subst hvg_
     replace M := Lib.hid (And.intro hrd_ (And.intro (M.out.2.1) (And.intro (M.out.2.2.1) (And.intro (M.out.2.2.2.1) (And.intro (M.out.2.2.2.2.1) (And.intro (M.out.2.2.2.2.2.1) (And.intro (M.out.2.2.2.2.2.2.1) (And.intro (M.out.2.2.2.2.2.2.2.1) (M.out.2.2.2.2.2.2.2.2)))))))))
     clear hrd_
     go_ret2
     exact ⟨_, _, _, _, rfl, (M.out.1), (by rw [List.map_append, HALL.out]; rfl), (M.out.2.2.2.2.2.2.2.2)⟩
 ·
  have e5_0 : decide (0 < n) = true := decide_eq_true (by omega)
  have e5_1 : decide (0 < (n : Int)) = true := decide_eq_true (by omega)
  have e5_i : 0 < (n : Int) := by omega
  obtain ⟨b, off, rfl, hb_⟩ := RdL.ptr HL.out (by omega : 0 < n)
  have HLB := Lib.hid hb_
  have hkl_ : n - 1 < l.length := by rw [HL.out.len]; omega
  obtain ⟨z_, hx_⟩ : ∃ x, l[(n - 1)]? = some x := ⟨l[(n - 1)], List.getElem?_eq_getElem hkl_⟩
  obtain ⟨zk, zn, zu0, zu1, zu2, zu3, zq, zv0, zv1, zv2, zv3, zr⟩ := z_
  have HRz : Hid (Row w b (off + (n - 1) * 10) [.string zk, .int .i64 zn, zu0, zu1, zu2, zu3, zv0, zv1, zv2, zv3]) := hb_.row hx_
  have HQz : Hid (FQ G w zu0 zu1 zu2 zu3 zq) := (hb_.ok hx_).1
  have HSz : Hid (FQ G w zv0 zv1 zv2 zv3 zr) := (hb_.ok hx_).2
  have HEz := Lib.hid hx_; clear hx_ hkl_ hb_
  have HNO : Hid (noteOf (l.map SC.sh) = zn) := note_last HEz.out (by rw [HL.out.len]; omega)
  have hix0 : (0 : Int) ≤ (n : Int) - 1 := by omega
  have hix1 : (n : Int) - 1 < (n : Int) := by omega
  have hix2 : ((n : Int) - 1).toNat = n - 1 := by omega
  have hnz : note < zn := by rw [HNO.out] at hday; exact hday
  have e6 : decide (note < zn) = true := decide_eq_true (by omega)
  have e6i : note < zn := by omega
  have HRS : Hid (showR (l.map SC.sh) ⟨key, note, q, r⟩ = (18, [])) := sh_day hday
  clear hday
  refine cj10 (HRz.out.keep (M.out.2.2)).c10 fun r0_0 r0_1 r0_2 r0_3 r0_4 r0_5 r0_6 r0_7 r0_8 r0_9 => ?_
  go_wp2_with fail
  clear r0_0 r0_1 r0_2 r0_3 r0_4 r0_5 r0_6 r0_7 r0_8 r0_9
  have HEQ := Lib.hid (HRS.out.symm.trans HSH.out)
  obtain ⟨rfl, rfl⟩ := Prod.mk.inj HEQ.out.symm
  go_ret2
  exact ⟨none, 0, 0, [], rfl, RdL.nil _ _ _, rfl, (M.out.2.2)⟩
 ·
  have e5_0 : decide (0 < n) = true := decide_eq_true (by omega)
  have e5_1 : decide (0 < (n : Int)) = true := decide_eq_true (by omega)
  have e5_i : 0 < (n : Int) := by omega
  obtain ⟨b, off, rfl, hb_⟩ := RdL.ptr HL.out (by omega : 0 < n)
  have HLB := Lib.hid hb_
  have hkl_ : n - 1 < l.length := by rw [HL.out.len]; omega
  obtain ⟨z_, hx_⟩ : ∃ x, l[(n - 1)]? = some x := ⟨l[(n - 1)], List.getElem?_eq_getElem hkl_⟩
  obtain ⟨zk, zn, zu0, zu1, zu2, zu3, zq, zv0, zv1, zv2, zv3, zr⟩ := z_
  have HRz : Hid (Row w b (off + (n - 1) * 10) [.string zk, .int .i64 zn, zu0, zu1, zu2, zu3, zv0, zv1, zv2, zv3]) := hb_.row hx_
  have HQz : Hid (FQ G w zu0 zu1 zu2 zu3 zq) := (hb_.ok hx_).1
  have HSz : Hid (FQ G w zv0 zv1 zv2 zv3 zr) := (hb_.ok hx_).2
  have HEz := Lib.hid hx_; clear hx_ hkl_ hb_
  have HNO : Hid (noteOf (l.map SC.sh) = zn) := note_last HEz.out (by rw [HL.out.len]; omega)
  have hix0 : (0 : Int) ≤ (n : Int) - 1 := by omega
  have hix1 : (n : Int) - 1 < (n : Int) := by omega
  have hix2 : ((n : Int) - 1).toNat = n - 1 := by omega
  have hnz : ¬ note < zn := by rw [HNO.out] at hday; exact hday
  have HND : Hid (noteOf (l.map SC.sh) ≤ note) := by show _ ≤ _; omega
  clear hday
  have e6 : decide (note < zn) = false := decide_eq_false (by omega)
  have e6i : ¬ note < zn := by omega
  refine cj10 (HRz.out.keep (M.out.2.2)).c10 fun r0_0 r0_1 r0_2 r0_3 r0_4 r0_5 r0_6 r0_7 r0_8 r0_9 => ?_
  go_wp2_with fail
  clear r0_0 r0_1 r0_2 r0_3 r0_4 r0_5 r0_6 r0_7 r0_8 r0_9
  have hB0_ : w.heap.size ≤ w4.heap.size := ((M.out.2.2)).size
  have hGB_ : G ≤ w4.heap.size := Nat.le_trans hG hB0_
  have hlt0_ : w1.heap.size < w4.heap.size := ((M.out.1)).lt
  have hlt1_ : w.heap.size < w4.heap.size := ((M.out.2.1)).lt
  replace M := Lib.hid (And.intro (Below.refl w4.heap.size w4) M.out)
  go_loopw [12, 45] (fun i12 i45 wr => ∃ (k : Nat) (gl : List SC) (vg : Value), vg = i12 ∧ i45 = .int .i64 (k : Int) ∧ Hid (k ≤ n) ∧ Hid (gl.length = k) ∧ Hid (gl.map SC.sh = (l.take k).map SC.sh) ∧ Hid (OwVC G w4.heap.size wr vg gl ∧ Below w4.heap.size w4 wr ∧ Bx wr w1.heap.size 37 #[.string key, .int .i64 note, u0, u1, u2, u3, v0, v1, v2, v3] ∧ Bx wr w.heap.size 29 #[u0, u1, u2, u3, v0, v1, v2, v3] ∧ Below w.heap.size w wr)) (fun i12 i45 _ => n - (RowKit.intOf i45).toNat)
  case atStart =>
   exact ⟨0, [], (.slice none 0 0), rfl, rfl, (by show _ ≤ _; omega), (Lib.hid rfl), (Lib.hid rfl), Lib.hid (And.intro (OwV.nil _ hGB_) (And.intro (M.out.1) (And.intro (M.out.2.1) (And.intro (M.out.2.2.1) (M.out.2.2.2)))))⟩
  case round =>
   obtain ⟨w5, rfl⟩ : ∃ x, x = wr := ⟨_, rfl⟩
   clear M
   obtain ⟨k, gl, vg, rfl, rfl, hk, HGL, HGE, M⟩ := hrel
   have hk := hk.out
   by_cases hlt : k < n
   ·
    have e1_0 : decide (k < n) = true := decide_eq_true (by omega)
    have e1_1 : decide ((k : Int) < (n : Int)) = true := decide_eq_true (by omega)
    have e1_i : (k : Int) < (n : Int) := by omega
    have hkl_ : k < l.length := by rw [HL.out.len]; exact hlt
    have hb_ := HLB.out
    obtain ⟨x_, hx_⟩ : ∃ x, l[k]? = some x := ⟨l[k], List.getElem?_eq_getElem hkl_⟩
    obtain ⟨xk, xn, xu0, xu1, xu2, xu3, xq, xv0, xv1, xv2, xv3, xr⟩ := x_
    have HRx : Hid (Row w b (off + k * 10) [.string xk, .int .i64 xn, xu0, xu1, xu2, xu3, xv0, xv1, xv2, xv3]) := hb_.row hx_
    have HQx : Hid (FQ G w xu0 xu1 xu2 xu3 xq) := (hb_.ok hx_).1
    have HSx : Hid (FQ G w xv0 xv1 xv2 xv3 xr) := (hb_.ok hx_).2
    have HEx := Lib.hid hx_; clear hx_ hkl_ hb_
    have hok_ : okSh keyOk ⟨xk, xn, xq, xr⟩ := HOK.out.ok _ (List.mem_map.2 ⟨_, List.mem_of_getElem? HEx.out, rfl⟩)
    have HOx := Lib.hid hok_
    have hz_ := HZ.out _ (List.mem_of_getElem? HEx.out)
    have HZx1 : Hid (Fz xq 100000000) := hz_.1
    have HZx2 : Hid (Fz xr 100000000) := hz_.2
    clear hok_ hz_
    refine cj4 (TQ.st (HQx.out.keep (M.out.2.2.2.2))) fun st_xu0 st_xu1 st_xu2 st_xu3 => ?_
    refine cj4 (TQ.st (HSx.out.keep (M.out.2.2.2.2))) fun st_xv0 st_xv1 st_xv2 st_xv3 => ?_
    refine cj10 (HRx.out.keep (M.out.2.2.2.2)).c10 fun r1_0 r1_1 r1_2 r1_3 r1_4 r1_5 r1_6 r1_7 r1_8 r1_9 => ?_
    go_upto_region 11 with fail
    clear st_xu0 st_xu1 st_xu2 st_xu3 st_xv0 st_xv1 st_xv2 st_xv3 r1_0 r1_1 r1_2 r1_3 r1_4 r1_5 r1_6 r1_7 r1_8 r1_9
    refine nmW (w5.alloc (.cells #[.string xk, .int .i64 xn, xu0, xu1, xu2, xu3, xv0, xv1, xv2, xv3] 37)) fun w6 hv => ?_
    rw [← hv]
    have ow2_ : w1.heap.size < w5.heap.size := ((M.out.2.2.1)).lt
    have no_b2_vg := OwV.no (M.out.1)
    replace M := alM hv M
    clear hv
    refine cj10 (M.out.1).d10 fun p2_0 p2_1 p2_2 p2_3 p2_4 p2_5 p2_6 p2_7 p2_8 p2_9 => ?_
    go_wp2_with fail
    clear p2_0 p2_1 p2_2 p2_3 p2_4 p2_5 p2_6 p2_7 p2_8 p2_9
    refine (reOwn (G := G) (key := xk) (note := xn) (q := xq) (r := xr) (Nat.le_trans hG (M.out.2.2.2.2.2).size) (HQx.out.keep (M.out.2.2.2.2.2)) (HSx.out.keep (M.out.2.2.2.2.2)) (Fz.mono HZx1.out (by omega)) (Fz.mono HZx2.out (by omega)) HOx.out.2.2.2).mono ?_
    rintro e w7 ⟨x_63, x_64, x_65, x_66, x_67, x_68, x_69, x_70, rfl, hd71, hd72, hb⟩
    replace M := ad2M hd71 hd72 hb M
    clear hb hd71 hd72
    go_upto_region 12 with (at_builtin; go_must (refine wpList_pushV rfl _ _ elemSh rfl w7 (M.out.2.2.2.1) HGL.out (⟨xk, xn, x_63, x_64, x_65, x_66, xq, x_67, x_68, x_69, x_70, xr⟩ : SC) ⟨(M.out.1), (M.out.2.1)⟩ rfl rfl rfl rfl (by rfl) (by omega) (by omega) (M.out.2.2.2.2.1).size ?_; intro vv_73 w8 ho_ hg_))
    replace M := Lib.hid (And.intro ho_ (And.intro ((M.out.1).grown (M.out.2.2.2.1).own (by rfl) (M.out.2.2.2.1).leG hg_) (And.intro ((M.out.2.1).grown (M.out.2.2.2.1).own (by rfl) (M.out.2.2.2.1).leG hg_) (And.intro (below_grown (M.out.2.2.2.2.1) (M.out.2.2.2.1).own (Nat.le_refl _) (M.out.2.2.2.2.1).size hg_) (And.intro ((M.out.2.2.2.2.2.1).grownB (M.out.2.2.2.1).own (by omega) hg_) (And.intro ((M.out.2.2.2.2.2.2.1).grownT (M.out.2.2.2.1).own (by rfl) hg_) (below_grown (M.out.2.2.2.2.2.2.2) (M.out.2.2.2.1).own hB0_ (M.out.2.2.2.2.2.2.2).size hg_)))))))
    clear ho_ hg_
    go_wp2_with fail
    go_roundw
    case rel => exact ⟨(k + 1), (gl ++ [(⟨xk, xn, x_63, x_64, x_65, x_66, xq, x_67, x_68, x_69, x_70, xr⟩ : SC)]), vv_73, rfl, by go_num, (by show _ ≤ _; omega), (Lib.hid (by rw [List.length_append, HGL.out]; rfl)), (Lib.hid (by rw [take_next HEx.out, List.map_append, HGE.out]; rfl)), Lib.hid (And.intro (M.out.1) (And.intro (M.out.2.2.2.1) (And.intro (M.out.2.2.2.2.1) (And.intro (M.out.2.2.2.2.2.1) (M.out.2.2.2.2.2.2)))))⟩
    case measure => simp [RowKit.intOf] <;> omega
   ·
    have e1_0 : decide (k < n) = false := decide_eq_false (by omega)
    have e1_1 : decide ((k : Int) < (n : Int)) = false := decide_eq_false (by omega)
    have e1_i : ¬ (k : Int) < (n : Int) := by omega
    have HALL : Hid (gl.map SC.sh = l.map SC.sh) := by show _ = _; rw [HGE.out, List.take_of_length_le (by rw [HL.out.len]; omega)]
    go_upto_region 13 with fail
    have hw : (lastK (l.map SC.sh) key = none ∧ n = 2000) ∨ (lastK (l.map SC.sh) key = none ∧ n ≠ 2000) ∨ ∃ yk yn yq yr, lastK (l.map SC.sh) key = some ⟨yk, yn, yq, yr⟩ ∧ ((yq = q ∧ yr = r) ∨ (¬ (yq = q ∧ yr = r) ∧ yn = note) ∨ (¬ (yq = q ∧ yr = r) ∧ ¬ yn = note ∧ n = 2000) ∨ (¬ (yq = q ∧ yr = r) ∧ ¬ yn = note ∧ n ≠ 2000)) := show_ways _
    rcases hw with ⟨hlk, hf⟩ | ⟨hlk, hf⟩ | ⟨yk, yn, yq, yr, hlk, hsm | ⟨hsm, hyn⟩ | ⟨hsm, hyn, hf⟩ | ⟨hsm, hyn, hf⟩⟩
    ·
     have HLK := Lib.hid hlk
     have ef1 : ((n : Int) == 2000) = true := beq_iff_eq.2 (by omega)
     have ef2 : (n == 2000) = true := beq_iff_eq.2 (by omega)
     have HRS : Hid (showR (l.map SC.sh) ⟨key, note, q, r⟩ = (6, [])) := by show _ = _; rw [sh_none (Int.not_lt.2 HND.out) HLK.out, if_pos (by rw [List.length_map, HL.out.len]; omega)]
     clear hlk hf
     go_wp2_with fail
     refine (reLast_none (G := G) (key := key) (l := l) (Nat.le_trans hG (M.out.2.2.2.2).size) (HL.out.keep (M.out.2.2.2.2)) HOK.out HZ.out HLK.out).mono ?_
     rintro e w6 ⟨rfl, hb⟩
     replace M := gnM hb M
     clear hb
     go_upto_region 14 with fail
     refine nmW (w6.alloc (.cells #[.string (⟨#[]⟩), .int .i64 0, .int .i64 0, .slice none 0 0, .int .i64 0, .slice none 0 0, .int .i64 0, .slice none 0 0, .int .i64 0, .slice none 0 0] 37)) fun w7 hv => ?_
     rw [← hv]
     have ow2_ : w1.heap.size < w6.heap.size := ((M.out.2.2.1)).lt
     have no_b2_vg := OwV.no (M.out.1)
     replace M := alM hv M
     clear hv
     go_wp2_with fail
     have HEQ := Lib.hid (HRS.out.symm.trans HSH.out)
     obtain ⟨rfl, rfl⟩ := Prod.mk.inj HEQ.out.symm
     go_ret2
     exact ⟨none, 0, 0, [], rfl, RdL.nil _ _ _, rfl, (M.out.2.2.2.2.2)⟩
    ·
     have HLK := Lib.hid hlk
     have ef1 : ((n : Int) == 2000) = false := beq_false_of_ne (by omega)
     have ef2 : (n == 2000) = false := beq_false_of_ne (by omega)
     have ef3 : ¬ (n : Int) = 2000 := by omega
     have HRS : Hid (showR (l.map SC.sh) ⟨key, note, q, r⟩ = (0, l.map SC.sh ++ [⟨key, note, q, r⟩])) := by show _ = _; rw [sh_none (Int.not_lt.2 HND.out) HLK.out, if_neg (by rw [List.length_map, HL.out.len]; omega)]
     clear hlk hf
     go_wp2_with fail
     refine (reLast_none (G := G) (key := key) (l := l) (Nat.le_trans hG (M.out.2.2.2.2).size) (HL.out.keep (M.out.2.2.2.2)) HOK.out HZ.out HLK.out).mono ?_
     rintro e w6 ⟨rfl, hb⟩
     replace M := gnM hb M
     clear hb
     go_upto_region 14 with fail
     refine nmW (w6.alloc (.cells #[.string (⟨#[]⟩), .int .i64 0, .int .i64 0, .slice none 0 0, .int .i64 0, .slice none 0 0, .int .i64 0, .slice none 0 0, .int .i64 0, .slice none 0 0] 37)) fun w7 hv => ?_
     rw [← hv]
     have ow2_ : w1.heap.size < w6.heap.size := ((M.out.2.2.1)).lt
     have no_b2_vg := OwV.no (M.out.1)
     replace M := alM hv M
     clear hv
     refine cj10 (M.out.2.2.2.1).d10 fun p1_0 p1_1 p1_2 p1_3 p1_4 p1_5 p1_6 p1_7 p1_8 p1_9 => ?_
     go_wp2_with fail
     clear p1_0 p1_1 p1_2 p1_3 p1_4 p1_5 p1_6 p1_7 p1_8 p1_9
     refine (reOwn (G := G) (key := key) (note := note) (q := q) (r := r) (Nat.le_trans hG (M.out.2.2.2.2.2).size) (H1.out.keep (M.out.2.2.2.2.2)) (H2.out.keep (M.out.2.2.2.2.2)) (Fz.mono HZq.out (by omega)) (Fz.mono HZr.out (by omega)) HOS.out.2.2.2).mono ?_
     rintro e w8 ⟨x_74, x_75, x_76, x_77, x_78, x_79, x_80, x_81, rfl, hd82, hd83, hb⟩
     replace M := ad2M hd82 hd83 hb M
     clear hb hd82 hd83
     go_wp2_with (at_builtin; go_must (refine wpList_pushV rfl _ _ elemSh rfl w8 (M.out.2.2.2.1) HGL.out (⟨key, note, x_74, x_75, x_76, x_77, q, x_78, x_79, x_80, x_81, r⟩ : SC) ⟨(M.out.1), (M.out.2.1)⟩ rfl rfl rfl rfl (by rfl) (by omega) (by omega) (M.out.2.2.2.2.1).size ?_; intro vv_84 w9 ho_ hg_))
     replace M := Lib.hid (And.intro ho_ (And.intro ((M.out.1).grown (M.out.2.2.2.1).own (by rfl) (M.out.2.2.2.1).leG hg_) (And.intro ((M.out.2.1).grown (M.out.2.2.2.1).own (by rfl) (M.out.2.2.2.1).leG hg_) (And.intro (below_grown (M.out.2.2.2.2.1) (M.out.2.2.2.1).own (Nat.le_refl _) (M.out.2.2.2.2.1).size hg_) (And.intro ((M.out.2.2.2.2.2.1).grownB (M.out.2.2.2.1).own (by omega) hg_) (And.intro ((M.out.2.2.2.2.2.2.1).grownT (M.out.2.2.2.1).own (by rfl) hg_) (below_grown (M.out.2.2.2.2.2.2.2) (M.out.2.2.2.1).own hB0_ (M.out.2.2.2.2.2.2.2).size hg_)))))))
     clear ho_ hg_
     have HEQ := Lib.hid (HRS.out.symm.trans HSH.out)
     obtain ⟨rfl, rfl⟩ := Prod.mk.inj HEQ.out.symm
     have hgl_ : (gl ++ [(⟨key, note, x_74, x_75, x_76, x_77, q, x_78, x_79, x_80, x_81, r⟩ : SC)]).length = (k + 1) := by rw [List.length_append, HGL.out]; rfl
     obtain ⟨ag, cg, hvg_, hrd_⟩ := OwV.rdl (M.out.1) hgl_
     subst hvg_
     replace M := Lib.hid (And.intro hrd_ (And.intro (M.out.2.1) (And.intro (M.out.2.2.1) (And.intro (M.out.2.2.2.1) (And.intro (M.out.2.2.2.2.1) (And.intro (M.out.2.2.2.2.2.1) (M.out.2.2.2.2.2.2)))))))
     clear hrd_
     go_ret2
     exact ⟨_, _, _, _, rfl, (M.out.1), (by rw [List.map_append, HALL.out]; rfl), (M.out.2.2.2.2.2.2)⟩
    ·
     have HLK := Lib.hid hlk
     have hz_ := HZ.out.lastK hlk
     have HZy1 : Hid (Fz yq 100000000) := hz_.1
     have HZy2 : Hid (Fz yr 100000000) := hz_.2
     clear hz_ hlk
     have HBB := Lib.hid (eq_both hsm)
     have HRS : Hid (showR (l.map SC.sh) ⟨key, note, q, r⟩ = (0, l.map SC.sh)) := sh_same (Int.not_lt.2 HND.out) HLK.out hsm
     clear hsm
     go_wp2_with fail
     refine (reLast_some (G := G) (key := key) (yk := yk) (yn := yn) (yq := yq) (yr := yr) (l := l) (Nat.le_trans hG (M.out.2.2.2.2).size) (HL.out.keep (M.out.2.2.2.2)) HOK.out HZ.out HLK.out).mono ?_
     rintro e w6 ⟨x_85, x_86, x_87, x_88, x_89, x_90, x_91, x_92, rfl, hd93, hd94, hb⟩
     replace M := ad2M hd93 hd94 hb M
     clear hb hd93 hd94
     refine cj4 (TQ.st (M.out.1)) fun st_x_85 st_x_86 st_x_87 st_x_88 => ?_
     refine cj4 (TQ.st (M.out.2.1)) fun st_x_89 st_x_90 st_x_91 st_x_92 => ?_
     go_upto_region 14 with fail
     clear st_x_85 st_x_86 st_x_87 st_x_88 st_x_89 st_x_90 st_x_91 st_x_92
     refine nmW (w6.alloc (.cells #[.string yk, .int .i64 yn, x_85, x_86, x_87, x_88, x_89, x_90, x_91, x_92] 37)) fun w7 hv => ?_
     rw [← hv]
     have ow2_ : w1.heap.size < w6.heap.size := ((M.out.2.2.2.2.1)).lt
     have no_b2_vg := OwV.no (M.out.2.2.1)
     replace M := alM hv M
     clear hv
     refine cj10 (M.out.1).d10 fun p2_0 p2_1 p2_2 p2_3 p2_4 p2_5 p2_6 p2_7 p2_8 p2_9 => ?_
     refine cj8 (M.out.2.2.2.2.2.2.1).d8 fun p0_0 p0_1 p0_2 p0_3 p0_4 p0_5 p0_6 p0_7 => ?_
     go_wp2_with fail
     clear p2_0 p2_1 p2_2 p2_3 p2_4 p2_5 p2_6 p2_7 p2_8 p2_9 p0_0 p0_1 p0_2 p0_3 p0_4 p0_5 p0_6 p0_7
     refine (spanSame_b (G := G) (p := yq) (q := yr) (r := q) (s := r) (b_ := true) (M.out.2.1) (M.out.2.2.1) (H1.out.keep (M.out.2.2.2.2.2.2.2)) (H2.out.keep (M.out.2.2.2.2.2.2.2)) (Fz.mono HZy1.out (by omega)) (Fz.mono HZy2.out (by omega)) (Fz.mono HZq.out (by omega)) (Fz.mono HZr.out (by omega)) HBB.out).mono ?_
     rintro e w8 ⟨rfl, hb⟩
     replace M := gnM hb M
     clear hb
     go_wp2_with fail
     have HEQ := Lib.hid (HRS.out.symm.trans HSH.out)
     obtain ⟨rfl, rfl⟩ := Prod.mk.inj HEQ.out.symm
     have hgl_ : gl.length = k := by exact HGL.out
     obtain ⟨ag, cg, hvg_, hrd_⟩ := OwV.rdl (M.out.2.2.2.1) hgl_
     subst hvg_
     replace M := Lib.hid (And.intro hrd_ (And.intro (M.out.1) (And.intro (M.out.2.1) (And.intro (M.out.2.2.1) (And.intro (M.out.2.2.2.2.1) (And.intro (M.out.2.2.2.2.2.1) (And.intro (M.out.2.2.2.2.2.2.1) (M.out.2.2.2.2.2.2.2))))))))
     clear hrd_
     go_ret2
     exact ⟨_, _, _, _, rfl, (M.out.1), (by exact HALL.out), (M.out.2.2.2.2.2.2.2)⟩
    ·
     have HLK := Lib.hid hlk
     have hz_ := HZ.out.lastK hlk
     have HZy1 : Hid (Fz yq 100000000) := hz_.1
     have HZy2 : Hid (Fz yr 100000000) := hz_.2
     clear hz_ hlk
     have HBB := Lib.hid (ne_both hsm)
     have HRS : Hid (showR (l.map SC.sh) ⟨key, note, q, r⟩ = (5, [])) := sh_twice (Int.not_lt.2 HND.out) HLK.out hsm hyn
     have en1 : (yn == note) = true := beq_iff_eq.2 hyn
     clear hsm hyn
     go_wp2_with fail
     refine (reLast_some (G := G) (key := key) (yk := yk) (yn := yn) (yq := yq) (yr := yr) (l := l) (Nat.le_trans hG (M.out.2.2.2.2).size) (HL.out.keep (M.out.2.2.2.2)) HOK.out HZ.out HLK.out).mono ?_
     rintro e w6 ⟨x_95, x_96, x_97, x_98, x_99, x_100, x_101, x_102, rfl, hd103, hd104, hb⟩
     replace M := ad2M hd103 hd104 hb M
     clear hb hd103 hd104
     refine cj4 (TQ.st (M.out.1)) fun st_x_95 st_x_96 st_x_97 st_x_98 => ?_
     refine cj4 (TQ.st (M.out.2.1)) fun st_x_99 st_x_100 st_x_101 st_x_102 => ?_
     go_upto_region 14 with fail
     clear st_x_95 st_x_96 st_x_97 st_x_98 st_x_99 st_x_100 st_x_101 st_x_102
     refine nmW (w6.alloc (.cells #[.string yk, .int .i64 yn, x_95, x_96, x_97, x_98, x_99, x_100, x_101, x_102] 37)) fun w7 hv => ?_
     rw [← hv]
     have ow2_ : w1.heap.size < w6.heap.size := ((M.out.2.2.2.2.1)).lt
     have no_b2_vg := OwV.no (M.out.2.2.1)
     replace M := alM hv M
     clear hv
     refine cj10 (M.out.1).d10 fun p2_0 p2_1 p2_2 p2_3 p2_4 p2_5 p2_6 p2_7 p2_8 p2_9 => ?_
     refine cj8 (M.out.2.2.2.2.2.2.1).d8 fun p0_0 p0_1 p0_2 p0_3 p0_4 p0_5 p0_6 p0_7 => ?_
     go_wp2_with fail
     clear p2_0 p2_1 p2_2 p2_3 p2_4 p2_5 p2_6 p2_7 p2_8 p2_9 p0_0 p0_1 p0_2 p0_3 p0_4 p0_5 p0_6 p0_7
     refine (spanSame_b (G := G) (p := yq) (q := yr) (r := q) (s := r) (b_ := false) (M.out.2.1) (M.out.2.2.1) (H1.out.keep (M.out.2.2.2.2.2.2.2)) (H2.out.keep (M.out.2.2.2.2.2.2.2)) (Fz.mono HZy1.out (by omega)) (Fz.mono HZy2.out (by omega)) (Fz.mono HZq.out (by omega)) (Fz.mono HZr.out (by omega)) HBB.out).mono ?_
     rintro e w8 ⟨rfl, hb⟩
     replace M := gnM hb M
     clear hb
     refine cj10 (M.out.1).d10 fun p2_0 p2_1 p2_2 p2_3 p2_4 p2_5 p2_6 p2_7 p2_8 p2_9 => ?_
     go_wp2_with fail
     clear p2_0 p2_1 p2_2 p2_3 p2_4 p2_5 p2_6 p2_7 p2_8 p2_9
     have HEQ := Lib.hid (HRS.out.symm.trans HSH.out)
     obtain ⟨rfl, rfl⟩ := Prod.mk.inj HEQ.out.symm
     go_ret2
     exact ⟨none, 0, 0, [], rfl, RdL.nil _ _ _, rfl, (M.out.2.2.2.2.2.2.2)⟩
    ·
     have HLK := Lib.hid hlk
     have hz_ := HZ.out.lastK hlk
     have HZy1 : Hid (Fz yq 100000000) := hz_.1
     have HZy2 : Hid (Fz yr 100000000) := hz_.2
     clear hz_ hlk
     have HBB := Lib.hid (ne_both hsm)
     have HRS : Hid (showR (l.map SC.sh) ⟨key, note, q, r⟩ = (6, [])) := by show _ = _; rw [sh_next (Int.not_lt.2 HND.out) HLK.out hsm hyn, if_pos (by rw [List.length_map, HL.out.len]; omega)]
     have en1 : (yn == note) = false := beq_false_of_ne hyn
     have ef1 : ((n : Int) == 2000) = true := beq_iff_eq.2 (by omega)
     have ef2 : (n == 2000) = true := beq_iff_eq.2 (by omega)
     clear hsm hf
     go_wp2_with fail
     refine (reLast_some (G := G) (key := key) (yk := yk) (yn := yn) (yq := yq) (yr := yr) (l := l) (Nat.le_trans hG (M.out.2.2.2.2).size) (HL.out.keep (M.out.2.2.2.2)) HOK.out HZ.out HLK.out).mono ?_
     rintro e w6 ⟨x_105, x_106, x_107, x_108, x_109, x_110, x_111, x_112, rfl, hd113, hd114, hb⟩
     replace M := ad2M hd113 hd114 hb M
     clear hb hd113 hd114
     refine cj4 (TQ.st (M.out.1)) fun st_x_105 st_x_106 st_x_107 st_x_108 => ?_
     refine cj4 (TQ.st (M.out.2.1)) fun st_x_109 st_x_110 st_x_111 st_x_112 => ?_
     go_upto_region 14 with fail
     clear st_x_105 st_x_106 st_x_107 st_x_108 st_x_109 st_x_110 st_x_111 st_x_112
     refine nmW (w6.alloc (.cells #[.string yk, .int .i64 yn, x_105, x_106, x_107, x_108, x_109, x_110, x_111, x_112] 37)) fun w7 hv => ?_
     rw [← hv]
     have ow2_ : w1.heap.size < w6.heap.size := ((M.out.2.2.2.2.1)).lt
     have no_b2_vg := OwV.no (M.out.2.2.1)
     replace M := alM hv M
     clear hv
     refine cj10 (M.out.1).d10 fun p2_0 p2_1 p2_2 p2_3 p2_4 p2_5 p2_6 p2_7 p2_8 p2_9 => ?_
     refine cj8 (M.out.2.2.2.2.2.2.1).d8 fun p0_0 p0_1 p0_2 p0_3 p0_4 p0_5 p0_6 p0_7 => ?_
     go_wp2_with fail
     clear p2_0 p2_1 p2_2 p2_3 p2_4 p2_5 p2_6 p2_7 p2_8 p2_9 p0_0 p0_1 p0_2 p0_3 p0_4 p0_5 p0_6 p0_7
     refine (spanSame_b (G := G) (p := yq) (q := yr) (r := q) (s := r) (b_ := false) (M.out.2.1) (M.out.2.2.1) (H1.out.keep (M.out.2.2.2.2.2.2.2)) (H2.out.keep (M.out.2.2.2.2.2.2.2)) (Fz.mono HZy1.out (by omega)) (Fz.mono HZy2.out (by omega)) (Fz.mono HZq.out (by omega)) (Fz.mono HZr.out (by omega)) HBB.out).mono ?_
     rintro e w8 ⟨rfl, hb⟩
     replace M := gnM hb M
     clear hb
     refine cj10 (M.out.1).d10 fun p2_0 p2_1 p2_2 p2_3 p2_4 p2_5 p2_6 p2_7 p2_8 p2_9 => ?_
     go_wp2_with fail
     clear p2_0 p2_1 p2_2 p2_3 p2_4 p2_5 p2_6 p2_7 p2_8 p2_9
     have HEQ := Lib.hid (HRS.out.symm.trans HSH.out)
     obtain ⟨rfl, rfl⟩ := Prod.mk.inj HEQ.out.symm
     go_ret2
     exact ⟨none, 0, 0, [], rfl, RdL.nil _ _ _, rfl, (M.out.2.2.2.2.2.2.2)⟩
    ·
     have HLK := Lib.hid hlk
     have hz_ := HZ.out.lastK hlk
     have HZy1 : Hid (Fz yq 100000000) := hz_.1
     have HZy2 : Hid (Fz yr 100000000) := hz_.2
     clear hz_ hlk
     have HBB := Lib.hid (ne_both hsm)
     have HRS : Hid (showR (l.map SC.sh) ⟨key, note, q, r⟩ = (0, l.map SC.sh ++ [⟨key, note, q, r⟩])) := by show _ = _; rw [sh_next (Int.not_lt.2 HND.out) HLK.out hsm hyn, if_neg (by rw [List.length_map, HL.out.len]; omega)]
     have en1 : (yn == note) = false := beq_false_of_ne hyn
     have ef1 : ((n : Int) == 2000) = false := beq_false_of_ne (by omega)
     have ef2 : (n == 2000) = false := beq_false_of_ne (by omega)
     have ef3 : ¬ (n : Int) = 2000 := by omega
     clear hsm hf
     go_wp2_with fail
     refine (reLast_some (G := G) (key := key) (yk := yk) (yn := yn) (yq := yq) (yr := yr) (l := l) (Nat.le_trans hG (M.out.2.2.2.2).size) (HL.out.keep (M.out.2.2.2.2)) HOK.out HZ.out HLK.out).mono ?_
     rintro e w6 ⟨x_115, x_116, x_117, x_118, x_119, x_120, x_121, x_122, rfl, hd123, hd124, hb⟩
     replace M := ad2M hd123 hd124 hb M
     clear hb hd123 hd124
     refine cj4 (TQ.st (M.out.1)) fun st_x_115 st_x_116 st_x_117 st_x_118 => ?_
     refine cj4 (TQ.st (M.out.2.1)) fun st_x_119 st_x_120 st_x_121 st_x_122 => ?_
     go_upto_region 14 with fail
     clear st_x_115 st_x_116 st_x_117 st_x_118 st_x_119 st_x_120 st_x_121 st_x_122
     refine nmW (w6.alloc (.cells #[.string yk, .int .i64 yn, x_115, x_116, x_117, x_118, x_119, x_120, x_121, x_122] 37)) fun w7 hv => ?_
     rw [← hv]
     have ow2_ : w1.heap.size < w6.heap.size := ((M.out.2.2.2.2.1)).lt
     have no_b2_vg := OwV.no (M.out.2.2.1)
     replace M := alM hv M
     clear hv
     refine cj10 (M.out.1).d10 fun p2_0 p2_1 p2_2 p2_3 p2_4 p2_5 p2_6 p2_7 p2_8 p2_9 => ?_
     refine cj8 (M.out.2.2.2.2.2.2.1).d8 fun p0_0 p0_1 p0_2 p0_3 p0_4 p0_5 p0_6 p0_7 => ?_
     go_wp2_with fail
     clear p2_0 p2_1 p2_2 p2_3 p2_4 p2_5 p2_6 p2_7 p2_8 p2_9 p0_0 p0_1 p0_2 p0_3 p0_4 p0_5 p0_6 p0_7
     refine (spanSame_b (G := G) (p := yq) (q := yr) (r := q) (s := r) (b_ := false) (M.out.2.1) (M.out.2.2.1) (H1.out.keep (M.out.2.2.2.2.2.2.2)) (H2.out.keep (M.out.2.2.2.2.2.2.2)) (Fz.mono HZy1.out (by omega)) (Fz.mono HZy2.out (by omega)) (Fz.mono HZq.out (by omega)) (Fz.mono HZr.out (by omega)) HBB.out).mono ?_
     rintro e w8 ⟨rfl, hb⟩
     replace M := gnM hb M
     clear hb
     refine cj10 (M.out.1).d10 fun p2_0 p2_1 p2_2 p2_3 p2_4 p2_5 p2_6 p2_7 p2_8 p2_9 => ?_
     refine cj10 (M.out.2.2.2.2.2.1).d10 fun p1_0 p1_1 p1_2 p1_3 p1_4 p1_5 p1_6 p1_7 p1_8 p1_9 => ?_
     go_wp2_with fail
     clear p2_0 p2_1 p2_2 p2_3 p2_4 p2_5 p2_6 p2_7 p2_8 p2_9 p1_0 p1_1 p1_2 p1_3 p1_4 p1_5 p1_6 p1_7 p1_8 p1_9
     refine (reOwn (G := G) (key := key) (note := note) (q := q) (r := r) (Nat.le_trans hG (M.out.2.2.2.2.2.2.2).size) (H1.out.keep (M.out.2.2.2.2.2.2.2)) (H2.out.keep (M.out.2.2.2.2.2.2.2)) (Fz.mono HZq.out (by omega)) (Fz.mono HZr.out (by omega)) HOS.out.2.2.2).mono ?_
     rintro e w9 ⟨x_125, x_126, x_127, x_128, x_129, x_130, x_131, x_132, rfl, hd133, hd134, hb⟩
     replace M := ad2M hd133 hd134 hb M
     clear hb hd133 hd134
     go_wp2_with (at_builtin; go_must (refine wpList_pushV rfl _ _ elemSh rfl w9 (M.out.2.2.2.2.2.1) HGL.out (⟨key, note, x_125, x_126, x_127, x_128, q, x_129, x_130, x_131, x_132, r⟩ : SC) ⟨(M.out.1), (M.out.2.1)⟩ rfl rfl rfl rfl (by rfl) (by omega) (by omega) (M.out.2.2.2.2.2.2.1).size ?_; intro vv_135 w10 ho_ hg_))
     replace M := Lib.hid (And.intro ho_ (And.intro ((M.out.1).grown (M.out.2.2.2.2.2.1).own (by rfl) (M.out.2.2.2.2.2.1).leG hg_) (And.intro ((M.out.2.1).grown (M.out.2.2.2.2.2.1).own (by rfl) (M.out.2.2.2.2.2.1).leG hg_) (And.intro ((M.out.2.2.2.1).grown (M.out.2.2.2.2.2.1).own (by rfl) (M.out.2.2.2.2.2.1).leG hg_) (And.intro ((M.out.2.2.2.2.1).grown (M.out.2.2.2.2.2.1).own (by rfl) (M.out.2.2.2.2.2.1).leG hg_) (And.intro (below_grown (M.out.2.2.2.2.2.2.1) (M.out.2.2.2.2.2.1).own (Nat.le_refl _) (M.out.2.2.2.2.2.2.1).size hg_) (And.intro ((M.out.2.2.2.2.2.2.2.1).grownB (M.out.2.2.2.2.2.1).own (by omega) hg_) (And.intro ((M.out.2.2.2.2.2.2.2.2.1).grownT (M.out.2.2.2.2.2.1).own (by rfl) hg_) (below_grown (M.out.2.2.2.2.2.2.2.2.2) (M.out.2.2.2.2.2.1).own hB0_ (M.out.2.2.2.2.2.2.2.2.2).size hg_)))))))))
     clear ho_ hg_
     have HEQ := Lib.hid (HRS.out.symm.trans HSH.out)
     obtain ⟨rfl, rfl⟩ := Prod.mk.inj HEQ.out.symm
     have hgl_ : (gl ++ [(⟨key, note, x_125, x_126, x_127, x_128, q, x_129, x_130, x_131, x_132, r⟩ : SC)]).length = (k + 1) := by rw [List.length_append, HGL.out]; rfl
     obtain ⟨ag, cg, hvg_, hrd_⟩ := OwV.rdl (M.out.1) hgl_
     subst hvg_
     replace M := Lib.hid (And.intro hrd_ (And.intro (M.out.2.1) (And.intro (M.out.2.2.1) (And.intro (M.out.2.2.2.1) (And.intro (M.out.2.2.2.2.1) (And.intro (M.out.2.2.2.2.2.1) (And.intro (M.out.2.2.2.2.2.2.1) (And.intro (M.out.2.2.2.2.2.2.2.1) (M.out.2.2.2.2.2.2.2.2)))))))))
     clear hrd_
     go_ret2
     exact ⟨_, _, _, _, rfl, (M.out.1), (by rw [List.map_append, HALL.out]; rfl), (M.out.2.2.2.2.2.2.2.2)⟩
set_option maxRecDepth 100000 in
set_option maxHeartbeats 4000000 in
theorem reShow_x {key : ByteArray} {note : Int} {u0 u1 u2 u3 v0 v1 v2 v3 : Value} {n1 m1 n2 m2 : Nat} {o1 o2 : Option Rat} {l : List SC} {a : Option Addr} {n c : Nat} {w : World} (hG : G ≤ w.heap.size) (h : RdC G w a n c l) (ok : OkL keyOk (l.map SC.sh)) (hz : FzL l 100000000) (h1 : FX w u0 u1 u2 u3 n1 m1 o1) (h2 : FX w v0 v1 v2 v3 n2 m2 o2) (hf1 : fewF n1 m1 = true) (hf2 : fewF n2 m2 = true) (hb : (keyOk key && (decide (0 ≤ note) && (decide (note ≤ 1099511627776) && rightX o1 o2))) = false) :
  Calls Try.prog 10 #[.slice a n c, .string key, .int .i64 note, .agg #[u0, u1, u2, u3, v0, v1, v2, v3]] w fun e w' => e = .returned (.tuple #[.slice none 0 0, .int .i64 1]) ∧ Below w.heap.size w w' := by
 have hn : n ≤ 2000 := by rw [← h.len]; have h_ := ok.len; rw [List.length_map] at h_; exact h_
 have HOK := Lib.hid ok; have HZ := Lib.hid hz; clear ok hz
 have HF1 := Lib.hid hf1; have HF2 := Lib.hid hf2; have HB := Lib.hid hb; clear hf1 hf2 hb
 have HL : Hid (RdC G w a n c l) := h
 have H1 : Hid (FX w u0 u1 u2 u3 n1 m1 o1) := h1
 have H2 : Hid (FX w v0 v1 v2 v3 n2 m2 o2) := h2
 clear h h1 h2
 have M : Hid (Below w.heap.size w w) := Below.refl _ _
 go_enter Try.func10, Try.ntmps10
 go_upto_region 1 with fail
 refine nmW (w.alloc (.cells #[u0, u1, u2, u3, v0, v1, v2, v3] 29)) fun w1 hv => ?_
 rw [← hv]
 replace M := alM hv M
 clear hv
 refine cj8 (M.out.1).d8 fun p0_0 p0_1 p0_2 p0_3 p0_4 p0_5 p0_6 p0_7 => ?_
 have z0 : w.heap.size < w1.heap.size := (M.out.1).lt
 refine cj4 (FX.st (H1.out.keep (M.out.2))) fun st_u0 st_u1 st_u2 st_u3 => ?_
 refine cj4 (FX.st (H2.out.keep (M.out.2))) fun st_v0 st_v1 st_v2 st_v3 => ?_
 go_upto_region 2 with fail
 clear p0_0 p0_1 p0_2 p0_3 p0_4 p0_5 p0_6 p0_7 z0 st_u0 st_u1 st_u2 st_u3 st_v0 st_v1 st_v2 st_v3
 refine nmW (w1.alloc (.cells #[.string key, .int .i64 note, u0, u1, u2, u3, v0, v1, v2, v3] 37)) fun w2 hv => ?_
 rw [← hv]
 have ow1_ : w.heap.size < w1.heap.size := ((M.out.1)).lt
 replace M := alM hv M
 clear hv
 go_wp2_with fail
 refine (reRight_c (G := G) (l := l) (Nat.le_trans hG (M.out.2.2).size) (HL.out.keep (M.out.2.2)) HOK.out HZ.out).mono ?_
 rintro e w3 ⟨rfl, hb⟩
 replace M := gnM hb M
 clear hb
 refine cj10 (M.out.1).d10 fun p1_0 p1_1 p1_2 p1_3 p1_4 p1_5 p1_6 p1_7 p1_8 p1_9 => ?_
 go_wp2_with fail
 clear p1_0 p1_1 p1_2 p1_3 p1_4 p1_5 p1_6 p1_7 p1_8 p1_9
 refine (reShown_x (key := key) (note := note) (o1 := o1) (o2 := o2) (t6 := (rightX o1 o2)) (b_ := false) (H1.out.keep (M.out.2.2)) (H2.out.keep (M.out.2.2)) HF1.out HF2.out rfl HB.out).mono ?_
 rintro e w4 ⟨rfl, hb⟩
 replace M := gnM hb M
 clear hb
 go_wp2_with fail
 go_ret2
 exact ⟨rfl, (M.out.2.2)⟩
set_option maxRecDepth 100000 in
set_option maxHeartbeats 4000000 in
theorem reShow_no {key : ByteArray} {note : Int} {u0 u1 u2 u3 v0 v1 v2 v3 : Value} {n1 m1 n2 m2 : Nat} {o1 o2 : Option Rat} {l : List SR} {a : Option Addr} {n c : Nat} {w : World} (hG : G ≤ w.heap.size) (h : RdR G w a n c l) (_hn : n ≤ 2000) (hs : ∀ x ∈ l, fewR x = true) (hr : rightL keyOk l = false) (h1 : FX w u0 u1 u2 u3 n1 m1 o1) (h2 : FX w v0 v1 v2 v3 n2 m2 o2)  :
  Calls Try.prog 10 #[.slice a n c, .string key, .int .i64 note, .agg #[u0, u1, u2, u3, v0, v1, v2, v3]] w fun e w' => e = .returned (.tuple #[.slice none 0 0, .int .i64 1]) ∧ Below w.heap.size w w' := by
 have HS := Lib.hid hs; have HR := Lib.hid hr; clear hs hr
 have HL : Hid (RdR G w a n c l) := h
 have H1 : Hid (FX w u0 u1 u2 u3 n1 m1 o1) := h1
 have H2 : Hid (FX w v0 v1 v2 v3 n2 m2 o2) := h2
 clear h h1 h2
 have M : Hid (Below w.heap.size w w) := Below.refl _ _
 go_enter Try.func10, Try.ntmps10
 go_upto_region 1 with fail
 refine nmW (w.alloc (.cells #[u0, u1, u2, u3, v0, v1, v2, v3] 29)) fun w1 hv => ?_
 rw [← hv]
 replace M := alM hv M
 clear hv
 refine cj8 (M.out.1).d8 fun p0_0 p0_1 p0_2 p0_3 p0_4 p0_5 p0_6 p0_7 => ?_
 have z0 : w.heap.size < w1.heap.size := (M.out.1).lt
 refine cj4 (FX.st (H1.out.keep (M.out.2))) fun st_u0 st_u1 st_u2 st_u3 => ?_
 refine cj4 (FX.st (H2.out.keep (M.out.2))) fun st_v0 st_v1 st_v2 st_v3 => ?_
 go_upto_region 2 with fail
 clear p0_0 p0_1 p0_2 p0_3 p0_4 p0_5 p0_6 p0_7 z0 st_u0 st_u1 st_u2 st_u3 st_v0 st_v1 st_v2 st_v3
 refine nmW (w1.alloc (.cells #[.string key, .int .i64 note, u0, u1, u2, u3, v0, v1, v2, v3] 37)) fun w2 hv => ?_
 rw [← hv]
 have ow1_ : w.heap.size < w1.heap.size := ((M.out.1)).lt
 replace M := alM hv M
 clear hv
 go_wp2_with fail
 refine (reRight_g (G := G) (l := l) (b_ := false) (Nat.le_trans hG (M.out.2.2).size) (HL.out.keep (M.out.2.2)) (by omega) HS.out HR.out).mono ?_
 rintro e w3 ⟨rfl, hb⟩
 replace M := gnM hb M
 clear hb
 go_wp2_with fail
 go_ret2
 exact ⟨rfl, (M.out.2.2)⟩
end Go.Proofs.Ytlpcblhkddmlnaa
namespace Go.Proofs.Ytlpcblhkddmlnaa
open Go.RowKit
variable {G : Nat}

theorem okAt_note {p : List Sh} {x : Sh} (h : okAt p x = true) : noteOf p ≤ x.note := by
 simp only [okAt, Bool.and_eq_true, decide_eq_true_eq] at h; exact h.1
theorem take_next' {l : List Sh} {k : Nat} {x : Sh} (hx : l[k]? = some x) : l.take (k + 1) = l.take k ++ [x] := by rw [List.take_add_one, hx]; rfl
theorem sort_take {K : ByteArray → Bool} {l : List Sh} (h : OkL K l) : ∀ (k : Nat) (x : Sh), l[k]? = some x → ∀ y ∈ l.take k, y.note ≤ x.note
  | 0, x, _, y, hy => by simp at hy
  | k + 1, x, hx, y, hy => by
    have hk : k < l.length := by have := (List.getElem?_eq_some_iff.1 hx).1; omega
    obtain ⟨z, hz⟩ : ∃ z, l[k]? = some z := ⟨l[k], List.getElem?_eq_getElem hk⟩
    have h1 := okAt_note (h.at_ _ _ hx)
    rw [take_next' hz, noteOf_snoc] at h1
    rw [take_next' hz] at hy
    rcases List.mem_append.1 hy with hy | hy
    · have := sort_take h k z hz y hy; omega
    · simp at hy; subst hy; exact h1
theorem noteOf_at {l : List Sh} {k : Nat} {x : Sh} (hx : l[k]? = some x) (hk : l.length = k + 1) : noteOf l = x.note := by
 unfold noteOf
 rw [List.getLast?_eq_getElem?, hk, Nat.add_sub_cancel, hx]
theorem notes_le {K : ByteArray → Bool} {l : List Sh} (h : OkL K l) : ∀ y ∈ l, y.note ≤ noteOf l := by
  intro y hy
  have hp : 0 < l.length := by cases l with | nil => cases hy | cons _ _ => simp
  obtain ⟨z, hz⟩ : ∃ z, l[l.length - 1]? = some z := ⟨l[l.length - 1]'(by omega), List.getElem?_eq_getElem (by omega)⟩
  rw [noteOf_at hz (by omega)]
  have ht := take_next' hz
  rw [show l.length - 1 + 1 = l.length by omega, List.take_length] at ht
  rw [ht] at hy
  rcases List.mem_append.1 hy with hy | hy
  · exact sort_take h _ _ hz y hy
  · simp at hy; subst hy; exact Int.le_refl _
/-- What a figure that is shown leaves. -/
theorem show_ok {K : ByteArray → Bool} {l rs : List Sh} {x : Sh} (h : OkL K l) (hx : okSh K x) (hs : showR l x = (0, rs)) :
    OkL K rs ∧ (rs = l ∨ rs = l ++ [x]) ∧ (∃ y, lastK rs x.key = some y ∧ (y.lo = x.lo ∧ y.hi = x.hi) ∧ y.note ≤ x.note) ∧ noteOf rs ≤ x.note ∧ noteOf l ≤ x.note := by
  unfold showR at hs
  split at hs
  · cases hs
  · rename_i h1
    have h1' : noteOf l ≤ x.note := by omega
    have hnew : l.length ≠ 2000 → okAt l x = true → rs = l ++ [x] → OkL K rs ∧ (rs = l ∨ rs = l ++ [x]) ∧ (∃ y, lastK rs x.key = some y ∧ (y.lo = x.lo ∧ y.hi = x.hi) ∧ y.note ≤ x.note) ∧ noteOf rs ≤ x.note ∧ noteOf l ≤ x.note := by
      intro hl ha hr
      subst hr
      have hl2 := h.len
      exact ⟨h.snoc (by omega) hx ha, .inr rfl, ⟨x, by rw [lastK_snoc, if_pos rfl], ⟨rfl, rfl⟩, Int.le_refl _⟩, by rw [noteOf_snoc]; exact Int.le_refl _, h1'⟩
    split at hs
    · rename_i y hy
      split at hs
      · rename_i h2
        cases hs
        exact ⟨h, .inl rfl, ⟨y, hy, h2, Int.le_trans (notes_le h y (lastK_mem hy).1) h1'⟩, h1', h1'⟩
      · rename_i h2
        split at hs
        · cases hs
        · rename_i h3
          split at hs
          · cases hs
          · rename_i h4
            refine hnew h4 (okAt_some h1' hy (b := false) ?_) (Prod.mk.inj hs).2.symm
            unfold clash
            rw [decide_eq_false h3, ne_both h2]; rfl
    · rename_i hy
      split at hs
      · cases hs
      · rename_i h4
        exact hnew h4 (okAt_none h1' hy) (Prod.mk.inj hs).2.symm
theorem show_len {l rs : List Sh} {x : Sh} (h : rs = l ∨ rs = l ++ [x]) : l.length ≤ rs.length ∧ rs.length ≤ l.length + 1 := by
  rcases h with rfl | rfl
  · omega
  · simp
/-! ### What was shown stays -/
theorem atF_mem {l : List Sh} {n : Int} {y : Sh} (h : atF l n = some y) : y ∈ l := List.mem_reverse.1 (List.mem_of_find?_eq_some h)
/-! ### Differences -/
end Go.Proofs.Ytlpcblhkddmlnaa
