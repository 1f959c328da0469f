/- Figures: few, the same, what is asked of one, a copy. -/
import Derived.Test.YtlpcblhkddmlnaaBase
import Derived.Test.YtlpcblhkddmlnaaBigSpec
import Derived.Test.YtlpcblhkddmlnaaBigB
import Derived.Test.YtlpcblhkddmlnaaBigC
import Derived.Test.YtlpcblhkddmlnaaBigD
import Derived.Test.YtlpcblhkddmlnaaBigK
import Derived.Test.YtlpcblhkddmlnaaBigQ
import Derived.Test.YtlpcblhkddmlnaaFd
import Derived.Test.YtlpcblhkddmlnaaAw
import Derived.Test.YtlpcblhkddmlnaaFz
import Derived.Test.YtlpcblhkddmlnaaFracR
import Derived.Test.YtlpcblhkddmlnaaRw
import Derived.Test.YtlpcblhkddmlnaaReA
import Derived.Test.YtlpcblhkddmlnaaProg
import Derived.Test.YtlpcblhkddmlnaaShelf
import Derived.WalkKit
import Derived.WalkSpells
import Derived.WalkLawsBesides
import Derived.Handy
import Derived.Lib.Hide
import Derived.Lib.Strings
import Derived.Lib.Builder
import Derived.BigQuiet
import Derived.OwnWalk
import Derived.Laws.BitsLemmas
import Derived.WalkSmall
import Derived.Deep.QuietTactic
import Derived.StillTailTactics
import Derived.Maps.AppendAt
import Derived.IntWalk
import Derived.Deep.RegionHeld3
import Derived.Deep.DeepFit
import Derived.Deep.LoopGhost
import Derived.Deep.DeepCutAuto
import Derived.Lib.ItoaNum
import Derived.Lib.Repeat
import Derived.Lib.AppendIntMem
import Derived.Sort.OwnSorted
import Derived.Shelf.Strings.SlTrimAscii
import Derived.Lib.ConvBytes
import Derived.Lib.CutLaws
import Derived.Maps.Own
import Derived.Maps.Views
namespace Go.Proofs.Ytlpcblhkddmlnaa
open Go.RowKit Go.WideElems Go.Lib
variable {G : Nat}

/-- Values are held as they are. -/
def heldE (v : Value) : Option (DataW Value × List MemPlace) := some (.held v, [])
/-- Block b is a map of at most n entries, in which f tells what lies at a key. -/
def Mp (w : World) (b n : Nat) (f : ByteArray → Option Value) : Prop :=
 ∃ D : DataW Value, w.ownsMap Try.prog 9 heldE b n D ∧ ∀ k : ByteArray, D.atKey (.string k.data.toList) .nil = match f k with | some v => .held v | none => .nil
theorem Mp.new (w : World) : Mp (w.alloc (.map #[] 0)) w.heap.size 0 (fun _ => none) := ⟨_, World.ownsMap_made _ _ _ _, fun _ => rfl⟩
theorem Mp.lt {w : World} {b n : Nat} {f : ByteArray → Option Value} (h : Mp w b n f) : b < w.heap.size := by obtain ⟨D, h, -⟩ := h; exact h.lt
theorem Mp.keep {w w' : World} {b n : Nat} {f : ByteArray → Option Value} (h : Mp w b n f) (hb : Below w.heap.size w w') : Mp w' b n f := by
 obtain ⟨D, ⟨es, clock, h1, h2, h3, h4⟩, h5⟩ := h
 exact ⟨D, ⟨es, clock, by rw [hb.block b (lt_of_block h1)]; exact h1, h2, h3, h4⟩, h5⟩
instance {w w' : World} {b n : Nat} {f : ByteArray → Option Value} : Goes (Mp w b n f) w w' (Mp w' b n f) := ⟨fun h hb => h.keep hb⟩
theorem Mp.far {w w' : World} {b n g : Nat} {f : ByteArray → Option Value} {T : TypeId} {cs : Array Value} (h : Mp w b n f) (k : Bx w g T cs) (hg : w.grownBy w' (some g)) : Mp w' b n f := by
 obtain ⟨D, ⟨es, clock, h1, h2, h3, h4⟩, h5⟩ := h
 have hne : b ≠ g := by
  rintro rfl
  unfold Bx at k
  rw [h1] at k
  cases k
 exact ⟨D, ⟨es, clock, (hg.block b (lt_of_block h1) (by simp; exact hne)).trans h1, h2, h3, h4⟩, h5⟩
theorem Mp.mono {w : World} {b n m : Nat} {f : ByteArray → Option Value} (h : Mp w b n f) (hn : n ≤ m) : Mp w b m f := by
 obtain ⟨D, h1, h2⟩ := h
 exact ⟨D, h1.mono hn, h2⟩
theorem Mp.congr {w : World} {b n : Nat} {f f' : ByteArray → Option Value} (h : Mp w b n f) (hf : ∀ k, f k = f' k) : Mp w b n f' := by
 obtain ⟨D, h1, h2⟩ := h
 exact ⟨D, h1, fun k => by rw [h2, hf]⟩
theorem Mp.look {t e : TypeId} {w : World} {b n : Nat} {f : ByteArray → Option Value} (h : Mp w b n f) (ht : Try.prog.underlying t = some (.map 9 e)) {z : Value} (hz : (zeroValue e).run Try.prog w = .ok z w) {key : ByteArray} (hk : key.size ≤ 9223372036854775807) :
    (Instr.lookup t (.map (some b)) (.string key) true).run Try.prog w = .ok (.tuple #[(f key).getD z, .bool (f key).isSome]) w := by
  obtain ⟨D, ⟨es, clock, h1, h2, h3, rfl⟩, h5⟩ := h
  have h6 := h5 key
  rcases Maps.fit_look true (Maps.string_keyed Try.underlying9) ht hz h1 h2 (WideMaps.keyOf_string_mk Try.underlying9 (s := key) hk) with ⟨k1, k2, k3⟩ | ⟨e0, y, k1, k2, k3, k4, k5, k6⟩
  · rw [k3] at h6
    cases hf : f key with
    | none => rw [k1]; rfl
    | some v => rw [hf] at h6; cases h6
  · rw [k5] at h6
    cases k4
    cases hf : f key with
    | none => rw [hf] at h6; cases h6
    | some v => rw [hf] at h6; cases h6; rw [k3]; rfl
theorem wpList_look {P : Program} (hP : P = Try.prog) {w : World} {ops : Array Oper} {rest : List Oper} {o : Oper} {a : Act} {Q : Exit → Act → World → Prop}
  (hg : o.guard = none) (m x : Operand) (t e : TypeId) (hop : o.op = Op.lookup t m x true) (ht : Try.prog.underlying t = some (.map 9 e)) {z : Value} (hz : (zeroValue e).run Try.prog w = .ok z w)
  {b n : Nat} {f : ByteArray → Option Value} (hm : a.eval m = .map (some b)) (h : Mp w b n f) {key : ByteArray} (hk : key.size ≤ 9223372036854775807) (hx : a.eval x = .string key) {r : Option Value} (hr : f key = r)
  (hK : wpList P ops Q rest (a.put o.dst (.tuple #[r.getD z, .bool r.isSome])) w) : wpList P ops Q (o :: rest) a w := by
 subst hP
 refine wpList_plain hg fun K' hK' => ?_
 have hrun := h.look ht hz hk
 rw [hr] at hrun
 unfold Oper.wp
 simp [execOp, hop, hm, hx, hrun, Result.andThen]
 exact hK' _ _ hK
theorem wpList_look_none {P : Program} (hP : P = Try.prog) {w : World} {ops : Array Oper} {rest : List Oper} {o : Oper} {a : Act} {Q : Exit → Act → World → Prop}
  (hg : o.guard = none) (m x : Operand) (t e : TypeId) (hop : o.op = Op.lookup t m x true) (ht : Try.prog.underlying t = some (.map 9 e)) {z : Value} (hz : (zeroValue e).run Try.prog w = .ok z w)
  {b n : Nat} {f : ByteArray → Option Value} (hm : a.eval m = .map (some b)) (h : Mp w b n f) {key : ByteArray} (hk : key.size ≤ 9223372036854775807) (hx : a.eval x = .string key) (hr : f key = none)
  (hK : wpList P ops Q rest (a.put o.dst (.tuple #[z, .bool false])) w) : wpList P ops Q (o :: rest) a w := wpList_look hP hg m x t e hop ht hz hm h hk hx hr hK
theorem wpList_look_some {P : Program} (hP : P = Try.prog) {w : World} {ops : Array Oper} {rest : List Oper} {o : Oper} {a : Act} {Q : Exit → Act → World → Prop}
  (hg : o.guard = none) (m x : Operand) (t e : TypeId) (hop : o.op = Op.lookup t m x true) (ht : Try.prog.underlying t = some (.map 9 e)) {z : Value} (hz : (zeroValue e).run Try.prog w = .ok z w)
  {b n : Nat} {f : ByteArray → Option Value} (hm : a.eval m = .map (some b)) (h : Mp w b n f) {key : ByteArray} (hk : key.size ≤ 9223372036854775807) (hx : a.eval x = .string key) {v : Value} (hr : f key = some v)
  (hK : wpList P ops Q rest (a.put o.dst (.tuple #[v, .bool true])) w) : wpList P ops Q (o :: rest) a w := wpList_look hP hg m x t e hop ht hz hm h hk hx hr hK
theorem bqd (a b : Int) : (a == b) = decide (a = b) := rfl
theorem Mp.put {t e : TypeId} {w : World} {b n : Nat} {f : ByteArray → Option Value} (h : Mp w b n f) (ht : Try.prog.underlying t = some (.map 9 e)) (hn : n < 9223372036854775807) {key : ByteArray} (hk : key.size ≤ 9223372036854775807) (v : Value) :
    ∃ w', (Instr.mapUpdate t (.map (some b)) (.string key) v).run Try.prog w = .ok () w' ∧ Mp w' b (n + 1) (fun k => if key = k then some v else f k) ∧ w.grownBy w' (some b) := by
  obtain ⟨D, h1, h2⟩ := h
  obtain ⟨w', k1, k2, k3⟩ := h1.update (Maps.string_keyed Try.underlying9) ht hn (WideMaps.keyOf_string_mk Try.underlying9 (s := key) hk) (val := v) rfl
  refine ⟨w', k1, ⟨_, k2, fun k => ?_⟩, k3⟩
  have hM : Go.Maps.IsMap D := by obtain ⟨es, clock, -, -, -, h6⟩ := h1; exact ⟨_, h6⟩
  have hK := (Maps.string_keyed (P := Try.prog) Try.underlying9).key (WideMaps.keyOf_string_mk Try.underlying9 (s := key) hk)
  dsimp only
  by_cases hkk : key = k
  · subst hkk
    rw [Go.Maps.atKey_put_same hM hK, if_pos rfl]
  · rw [Go.Maps.atKey_put_other (fun he => hkk ?_), if_neg hkk, h2]
    simp only [Lit.string.injEq] at he
    have : key.data = k.data := Array.toList_inj.1 he.symm
    exact ByteArray.ext this
theorem wp_putM {o : Oper} {a : Act} {K : Act → World → Prop} {Q : Exit → Act → World → Prop} {w : World} {m x y : Operand} {t e : TypeId} {b n : Nat} {f : ByteArray → Option Value} {key : ByteArray} {v : Value}
  (h : Mp w b n f) (ht : Try.prog.underlying t = some (.map 9 e)) (hn : n < 9223372036854775807) (hk : key.size ≤ 9223372036854775807)
  (ho : o.op = Op.mapUpdate t m x y) (hm : a.eval m = .map (some b)) (hx : a.eval x = .string key) (hy : a.eval y = v)
  (hK : ∀ w', Mp w' b (n + 1) (fun k => if key = k then some v else f k) → w.grownBy w' (some b) → K (a.put o.dst undef) w') : o.wp Try.prog a w K Q := by
 obtain ⟨w', k1, k2, k3⟩ := h.put ht hn hk v
 unfold Oper.wp
 simp [execOp, ho, hm, hx, hy, k1, Result.andThen]
 exact hK w' k2 k3
/-! ### Keys -/
def oddR (r : Nat) : Bool := decide (r < 33) || decide (126 < r)
/-- What is asked of a key. -/
def keyOk (s : ByteArray) : Bool := decide (1 ≤ s.size) && (decide (s.size ≤ 60) && !decide (0 ≤ Lib.idxFunc oddR true s))
theorem oddR_at (w : World) : PredAt Try.prog 48 #[] encR oddR w := by
 intro W x _
 show Calls Try.prog 48 #[.int .i32 (x : Int)] W _
 obtain ⟨b1, hb1⟩ : ∃ b, decide (x < 33) = b := ⟨_, rfl⟩
 obtain ⟨b2, hb2⟩ : ∃ b, decide (126 < x) = b := ⟨_, rfl⟩
 have i1 : decide ((x : Int) < 33) = b1 := by rw [← hb1]; apply decide_eq_decide.2; omega
 have i2 : decide ((126 : Int) < x) = b2 := by rw [← hb2]; apply decide_eq_decide.2; omega
 have hO : oddR x = (b1 || b2) := by unfold oddR; rw [hb1, hb2]
 have HO := Lib.hid hO; clear hO hb1 hb2
 go_enter Try.func48, Try.ntmps48
 cases b1 with
 | false =>
  go_wp2_with fail
  go_ret
  exact ⟨by rw [HO.out]; rfl, 0, rfl⟩
 | true =>
  go_wp2_with fail
  go_ret
  exact ⟨by rw [HO.out]; rfl, 0, rfl⟩
theorem reOdd_ok {s : ByteArray} {w : World} {b : Bool} (hb : decide (0 ≤ Lib.idxFunc oddR true s) = b) :
  Calls Try.prog 49 #[.string s, .func (Fn.func 48) #[] #[]] w fun e w' => e = .returned (.bool b) ∧ Below w.heap.size w w' := by
 have h := Try.strings_ContainsFunc 48 #[] (enters_of Try.func48 (by kernel_rfl) rfl) oddR s w (oddR_at w)
 rw [hb] at h
 exact h
end Go.Proofs.Ytlpcblhkddmlnaa
namespace Go.Proofs.Ytlpcblhkddmlnaa
open Go.RowKit Go.Lib
variable {G : Nat}

theorem decI {a b : Nat} : (decide ((a : Int) ≤ 3) && decide ((b : Int) ≤ 3)) = (decide (a ≤ 3) && decide (b ≤ 3)) := by
 congr 1 <;> (apply decide_eq_decide.2; omega)
theorem few_step {l : List SR} {k : Nat} {x : SR} (hx : l[k]? = some x) (h : (l.take k).all fewR = true) (ha : fewR x = true) : (l.take (k + 1)).all fewR = true := by
 rw [List.take_add_one, hx, List.all_append, h]; simpa using ha
theorem few_no {l : List SR} {k m : Nat} {x : SR} (hx : l[k]? = some x) (ha : fewR x = false) : fewL m l = false := by
 unfold fewL
 have : l.all fewR = false := by
  rw [List.all_eq_false]; exact ⟨x, List.mem_of_getElem? hx, by rw [ha]; simp⟩
 rw [this, Bool.false_and]
theorem few_far {l : List SR} {m : Nat} (h : m < l.length) : fewL m l = false := by
 unfold fewL
 rw [decide_eq_false (show ¬ l.length ≤ m by omega), Bool.and_false]
theorem few_yes {l : List SR} {m : Nat} (h : (l.take l.length).all fewR = true) (h' : l.length ≤ m) : fewL m l = true := by
 unfold fewL
 rw [List.take_length] at h
 rw [h, decide_eq_true h']; rfl
set_option maxRecDepth 100000 in
set_option maxHeartbeats 4000000 in
theorem reFewSpan {u0 u1 u2 u3 v0 v1 v2 v3 : Value} {n1 m1 n2 m2 : Nat} {o1 o2 : Option Rat} {f1 f2 b_ : Bool} {w : World} (h1 : FX w u0 u1 u2 u3 n1 m1 o1) (h2 : FX w v0 v1 v2 v3 n2 m2 o2) (hf1 : (decide (n1 ≤ 3) && decide (m1 ≤ 3)) = f1) (hf2 : (decide (n2 ≤ 3) && decide (m2 ≤ 3)) = f2) (hb : (f1 && f2) = b_) :
  Calls Try.prog 9 #[.agg #[u0, u1, u2, u3, v0, v1, v2, v3]] w fun e w' => e = .returned (.bool b_) ∧ Below w.heap.size w w' := by
 have HF1 := Lib.hid hf1; have HF2 := Lib.hid hf2; clear hf1 hf2; subst hb
 have H1 : Hid (FX w u0 u1 u2 u3 n1 m1 o1) := h1
 have H2 : Hid (FX w v0 v1 v2 v3 n2 m2 o2) := h2
 clear h1 h2
 have M : Hid (Below w.heap.size w w) := Below.refl _ _
 go_enter Try.func9, Try.ntmps9
 go_upto_region 1 with fail
 refine nmW (w.alloc (.cells #[u0, u1, u2, u3, v0, v1, v2, v3] 29)) fun w1 hv => ?_
 rw [← hv]
 replace M := alM hv M
 clear hv
 refine cj8 (M.out.1).d8 fun p0_0 p0_1 p0_2 p0_3 p0_4 p0_5 p0_6 p0_7 => ?_
 go_wp2_with fail
 clear p0_0 p0_1 p0_2 p0_3 p0_4 p0_5 p0_6 p0_7
 refine (fxFew_ok (o := o1) (k := 3) (r := f1) (H1.out.keep (M.out.2)) (decI.trans HF1.out)).mono ?_
 rintro e w2 ⟨rfl, hb⟩
 replace M := gnM hb M
 clear hb
 cases f1 with
 | false =>
  go_wp2_with fail
  go_ret
  exact ⟨rfl, (M.out.2)⟩
 | true =>
  refine cj8 (M.out.1).d8 fun p0_0 p0_1 p0_2 p0_3 p0_4 p0_5 p0_6 p0_7 => ?_
  go_wp2_with fail
  clear p0_0 p0_1 p0_2 p0_3 p0_4 p0_5 p0_6 p0_7
  refine (fxFew_ok (o := o2) (k := 3) (r := f2) (H2.out.keep (M.out.2)) (decI.trans HF2.out)).mono ?_
  rintro e w3 ⟨rfl, hb⟩
  replace M := gnM hb M
  clear hb
  go_wp2_with fail
  go_ret
  exact ⟨rfl, (M.out.2)⟩
set_option maxRecDepth 100000 in
set_option maxHeartbeats 4000000 in
theorem reFew {l : List SR} {a : Option Addr} {n c m : Nat} {b_ : Bool} {w : World} (h : RdR G w a n c l) (_hn : n ≤ 9223372036854775807) (_hm : m ≤ 1000000) (hb_ : fewL m l = b_) :
  Calls Try.prog 8 #[.slice a n c, .int .i64 (m : Int)] w fun e w' => e = .returned (.bool b_) ∧ Below w.heap.size w w' := by
 have HBB := Lib.hid hb_; clear hb_
 have HL : Hid (RdR G w a n c l) := h
 clear h
 have M : Hid (Below w.heap.size w w) := Below.refl _ _
 go_enter Try.func8, Try.ntmps8
 go_wp2_with fail
 go_loopw [5] (fun i5 wr => ∃ (k : Nat), i5 = .int .i64 (k : Int) ∧ Hid (k ≤ n ∧ k ≤ m + 1) ∧ Hid ((l.take k).all fewR = true) ∧ Hid (Below w.heap.size w wr)) (fun i5 _ => n - (RowKit.intOf i5).toNat)
 case atStart =>
  exact ⟨0, rfl, (by show _ ∧ _; omega), (by show _ = _; simp), Lib.hid M.out⟩
 case round =>
  obtain ⟨w1, rfl⟩ : ∃ x, x = wr := ⟨_, rfl⟩
  clear M
  obtain ⟨k, rfl, hk, HA, M⟩ := hrel
  have hk := hk.out
  have hw : (k < n ∧ k ≤ m) ∨ (k < n ∧ k = m + 1) ∨ (k = n ∧ n ≤ m) ∨ (k = n ∧ m < n) := by omega
  rcases hw with ⟨hlt, hk2⟩ | ⟨hlt, hk2⟩ | ⟨hlt, hk2⟩ | ⟨hlt, hk2⟩
  ·
   have e1_0 : decide (k < n) = true := decide_eq_true (by omega)
   have e1_1 : decide ((k : Int) < (n : Int)) = true := decide_eq_true (by omega)
   have e1_i : (k : Int) < (n : Int) := by omega
   have e2_0 : decide (k ≤ m) = true := decide_eq_true (by omega)
   have e2_1 : decide ((k : Int) ≤ (m : Int)) = true := decide_eq_true (by omega)
   have e2_i : (k : Int) ≤ (m : Int) := by omega
   obtain ⟨b, off, rfl, hb_⟩ := RdL.ptr HL.out (by omega : 0 < n)
   have hkl_ : k < l.length := by rw [HL.out.len]; exact hlt
   obtain ⟨x_, hx_⟩ : ∃ x, l[k]? = some x := ⟨l[k], List.getElem?_eq_getElem hkl_⟩
   obtain ⟨xk, xn, xu0, xu1, xu2, xu3, xa, xb, xo, xv0, xv1, xv2, xv3, xc, xd, xp⟩ := x_
   have HRx : Hid (Row w b (off + k * 10) [.string xk, .int .i64 xn, xu0, xu1, xu2, xu3, xv0, xv1, xv2, xv3]) := hb_.row hx_
   have HXx : Hid (FX w xu0 xu1 xu2 xu3 xa xb xo) := SR.fx (hb_.ok hx_)
   have HYx : Hid (FX w xv0 xv1 xv2 xv3 xc xd xp) := SR.fx2 (hb_.ok hx_)
   have HEx := Lib.hid hx_; clear hx_ hkl_ hb_
   obtain ⟨b0, hb0⟩ : ∃ b0, decide (70 < xk.size) = b0 := ⟨_, rfl⟩
   obtain ⟨f1, hf1⟩ : ∃ b1, (decide (xa ≤ 3) && decide (xb ≤ 3)) = b1 := ⟨_, rfl⟩
   obtain ⟨f2, hf2⟩ : ∃ b1, (decide (xc ≤ 3) && decide (xd ≤ 3)) = b1 := ⟨_, rfl⟩
   obtain ⟨b1, hb1⟩ : ∃ b1, (f1 && f2) = b1 := ⟨_, rfl⟩
   have hbi : decide ((70 : Int) < (xk.size : Int)) = b0 := by rw [← hb0]; exact decide_eq_decide.2 (by omega)
   have HFR : Hid (fewR ⟨xk, xn, xu0, xu1, xu2, xu3, xa, xb, xo, xv0, xv1, xv2, xv3, xc, xd, xp⟩ = (!b0 && b1)) := by show (decide (xk.size ≤ 70) && _) = _; rw [hf1, hf2, hb1, ← hb0]; congr 1; by_cases h_ : xk.size ≤ 70 <;> simp [h_] <;> omega
   have HF1 := Lib.hid hf1; have HF2 := Lib.hid hf2; have HB1 := Lib.hid hb1; clear hf1 hf2 hb1
   cases b0 with
   | false =>
    refine cj10 (HRx.out.keep M.out).c10 fun r0_0 r0_1 r0_2 r0_3 r0_4 r0_5 r0_6 r0_7 r0_8 r0_9 => ?_
    go_wp2_with fail
    clear r0_0 r0_1 r0_2 r0_3 r0_4 r0_5 r0_6 r0_7 r0_8 r0_9
    refine (reFewSpan (o1 := xo) (o2 := xp) (f1 := f1) (f2 := f2) (b_ := b1) (HXx.out.keep M.out) (HYx.out.keep M.out) HF1.out HF2.out HB1.out).mono ?_
    rintro e w2 ⟨rfl, hb⟩
    replace M := gnM hb M
    clear hb
    cases b1 with
    | false =>
     go_wp2_with fail
     have HZ : Hid (fewL m l = false) := few_no HEx.out (HFR.out.trans rfl)
     obtain rfl := HZ.out.symm.trans HBB.out
     go_ret
     exact ⟨rfl, M.out⟩
    | true =>
     go_wp2_with fail
     go_roundw
     case rel => exact ⟨(k + 1), by go_num, (by show _ ∧ _; omega), (few_step HEx.out HA.out (HFR.out.trans rfl)), Lib.hid M.out⟩
     case measure => simp [RowKit.intOf] <;> omega
   | true =>
    refine cj10 (HRx.out.keep M.out).c10 fun r0_0 r0_1 r0_2 r0_3 r0_4 r0_5 r0_6 r0_7 r0_8 r0_9 => ?_
    go_wp2_with fail
    clear r0_0 r0_1 r0_2 r0_3 r0_4 r0_5 r0_6 r0_7 r0_8 r0_9
    have HZ : Hid (fewL m l = false) := few_no HEx.out (HFR.out.trans rfl)
    obtain rfl := HZ.out.symm.trans HBB.out
    go_ret
    exact ⟨rfl, M.out⟩
  ·
   have e1_0 : decide (k < n) = true := decide_eq_true (by omega)
   have e1_1 : decide ((k : Int) < (n : Int)) = true := decide_eq_true (by omega)
   have e1_i : (k : Int) < (n : Int) := by omega
   have e2_0 : decide (k ≤ m) = false := decide_eq_false (by omega)
   have e2_1 : decide ((k : Int) ≤ (m : Int)) = false := decide_eq_false (by omega)
   have e2_i : ¬ (k : Int) ≤ (m : Int) := by omega
   have e3_0 : decide (n ≤ m) = false := decide_eq_false (by omega)
   have e3_1 : decide ((n : Int) ≤ (m : Int)) = false := decide_eq_false (by omega)
   have e3_i : ¬ (n : Int) ≤ (m : Int) := by omega
   have HZ : Hid (fewL m l = false) := few_far (by rw [HL.out.len]; omega)
   go_wp2_with fail
   obtain rfl := HZ.out.symm.trans HBB.out
   go_ret
   exact ⟨rfl, M.out⟩
  ·
   have e1_0 : decide (k < n) = false := decide_eq_false (by omega)
   have e1_1 : decide ((k : Int) < (n : Int)) = false := decide_eq_false (by omega)
   have e1_i : ¬ (k : Int) < (n : Int) := by omega
   have e3_0 : decide (n ≤ m) = true := decide_eq_true (by omega)
   have e3_1 : decide ((n : Int) ≤ (m : Int)) = true := decide_eq_true (by omega)
   have e3_i : (n : Int) ≤ (m : Int) := by omega
   have hA : (l.take l.length).all fewR = true := by rw [show l.length = k by rw [HL.out.len]; omega]; exact HA.out
   have HZ : Hid (fewL m l = true) := few_yes hA (by rw [HL.out.len]; omega)
   go_wp2_with fail
   obtain rfl := HZ.out.symm.trans HBB.out
   go_ret
   exact ⟨rfl, M.out⟩
  ·
   have e1_0 : decide (k < n) = false := decide_eq_false (by omega)
   have e1_1 : decide ((k : Int) < (n : Int)) = false := decide_eq_false (by omega)
   have e1_i : ¬ (k : Int) < (n : Int) := by omega
   have e3_0 : decide (n ≤ m) = false := decide_eq_false (by omega)
   have e3_1 : decide ((n : Int) ≤ (m : Int)) = false := decide_eq_false (by omega)
   have e3_i : ¬ (n : Int) ≤ (m : Int) := by omega
   have HZ : Hid (fewL m l = false) := few_far (by rw [HL.out.len]; omega)
   go_wp2_with fail
   obtain rfl := HZ.out.symm.trans HBB.out
   go_ret
   exact ⟨rfl, M.out⟩
set_option maxRecDepth 100000 in
set_option maxHeartbeats 4000000 in
theorem spanSame_o {u0 u1 u2 u3 u4 u5 u6 u7 v0 v1 v2 v3 v4 v5 v6 v7 : Value} {o1 o2 o3 o4 : Option Rat} {b_ : Bool} {w : World} (h1 : OQ G w u0 u1 u2 u3 o1) (h2 : OQ G w u4 u5 u6 u7 o2) (h3 : OQ G w v0 v1 v2 v3 o3) (h4 : OQ G w v4 v5 v6 v7 o4) (hz1 : Oz o1 1099511627776) (hz2 : Oz o2 1099511627776) (hz3 : Oz o3 1099511627776) (hz4 : Oz o4 1099511627776) (hb : (decide (o1 = o3) && decide (o2 = o4)) = b_) :
  Calls Try.prog 34 #[.agg #[u0, u1, u2, u3, u4, u5, u6, u7], .agg #[v0, v1, v2, v3, v4, v5, v6, v7]] w fun e w' => e = .returned (.bool b_) ∧ Below w.heap.size w w' := by
 have HZ1 := Lib.hid hz1; have HZ2 := Lib.hid hz2; have HZ3 := Lib.hid hz3; have HZ4 := Lib.hid hz4; clear hz1 hz2 hz3 hz4
 obtain ⟨b1, hb1⟩ : ∃ b, decide (o1 = o3) = b := ⟨_, rfl⟩
 obtain ⟨b2, hb2⟩ : ∃ b, decide (o2 = o4) = b := ⟨_, rfl⟩
 rw [hb1, hb2] at hb; subst hb
 have HB1 := Lib.hid hb1; have HB2 := Lib.hid hb2; clear hb1 hb2
 have H1 : Hid (OQ G w u0 u1 u2 u3 o1) := h1
 have H2 : Hid (OQ G w u4 u5 u6 u7 o2) := h2
 have H3 : Hid (OQ G w v0 v1 v2 v3 o3) := h3
 have H4 : Hid (OQ G w v4 v5 v6 v7 o4) := h4
 clear h1 h2 h3 h4
 have M : Hid (Below w.heap.size w w) := Below.refl _ _
 go_enter Try.func34, Try.ntmps34
 go_upto_region 1 with fail
 refine nmW ((w.alloc (.cells #[u0, u1, u2, u3, u4, u5, u6, u7] 29)).alloc (.cells #[v0, v1, v2, v3, v4, v5, v6, v7] 29)) fun w1 hv => ?_
 rw [← hv]
 have hbx := bx2 w 29 29 #[u0, u1, u2, u3, u4, u5, u6, u7] #[v0, v1, v2, v3, v4, v5, v6, v7]
 rw [← hv] at hbx
 have hbn : Below w.heap.size w w1 := by rw [hv]; exact (Below.alloc (Below.alloc (Below.refl _ _) (by simp <;> omega) _) (by simp <;> omega) _)
 replace M := Lib.hid (And.intro hbx.2 (And.intro hbx.1 (Goes.go M.out hbn)))
 clear hbx hbn
 clear hv
 refine cj8 (M.out.2.1).d8 fun p0_0 p0_1 p0_2 p0_3 p0_4 p0_5 p0_6 p0_7 => ?_
 refine cj8 (M.out.1).d8 fun p1_0 p1_1 p1_2 p1_3 p1_4 p1_5 p1_6 p1_7 => ?_
 go_wp2_with fail
 clear p0_0 p0_1 p0_2 p0_3 p0_4 p0_5 p0_6 p0_7 p1_0 p1_1 p1_2 p1_3 p1_4 p1_5 p1_6 p1_7
 refine (fsame_o (G := G) (o := o1) (p := o3) (b_ := b1) (H1.out.keep (M.out.2.2)) (H3.out.keep (M.out.2.2)) (Oz.mono HZ1.out (by omega)) (Oz.mono HZ3.out (by omega)) HB1.out).mono ?_
 rintro e w2 ⟨rfl, hb⟩
 replace M := gnM hb M
 clear hb
 cases b1 with
 | false =>
  go_wp2_with fail
  go_ret
  exact ⟨rfl, (M.out.2.2)⟩
 | true =>
  refine cj8 (M.out.2.1).d8 fun p0_0 p0_1 p0_2 p0_3 p0_4 p0_5 p0_6 p0_7 => ?_
  refine cj8 (M.out.1).d8 fun p1_0 p1_1 p1_2 p1_3 p1_4 p1_5 p1_6 p1_7 => ?_
  go_wp2_with fail
  clear p0_0 p0_1 p0_2 p0_3 p0_4 p0_5 p0_6 p0_7 p1_0 p1_1 p1_2 p1_3 p1_4 p1_5 p1_6 p1_7
  refine (fsame_o (G := G) (o := o2) (p := o4) (b_ := b2) (H2.out.keep (M.out.2.2)) (H4.out.keep (M.out.2.2)) (Oz.mono HZ2.out (by omega)) (Oz.mono HZ4.out (by omega)) HB2.out).mono ?_
  rintro e w3 ⟨rfl, hb⟩
  replace M := gnM hb M
  clear hb
  go_wp2_with fail
  go_ret
  exact ⟨rfl, (M.out.2.2)⟩
theorem spanSame_b {u0 u1 u2 u3 u4 u5 u6 u7 v0 v1 v2 v3 v4 v5 v6 v7 : Value} {p q r s : Rat} {b_ : Bool} {w : World} (h1 : FQ G w u0 u1 u2 u3 p) (h2 : FQ G w u4 u5 u6 u7 q) (h3 : FQ G w v0 v1 v2 v3 r) (h4 : FQ G w v4 v5 v6 v7 s) (hp : Fz p 1099511627776) (hq : Fz q 1099511627776) (hr : Fz r 1099511627776) (hs : Fz s 1099511627776) (hb : (decide (p = r) && decide (q = s)) = b_) :
  Calls Try.prog 34 #[.agg #[u0, u1, u2, u3, u4, u5, u6, u7], .agg #[v0, v1, v2, v3, v4, v5, v6, v7]] w fun e w' => e = .returned (.bool b_) ∧ Below w.heap.size w w' := by
 refine spanSame_o (o1 := some p) (o2 := some q) (o3 := some r) (o4 := some s) h1 h2 h3 h4 hp hq hr hs ?_
 rw [← hb]; simp
set_option maxRecDepth 100000 in
set_option maxHeartbeats 4000000 in
theorem reSameSpan_o {u0 u1 u2 u3 u4 u5 u6 u7 v0 v1 v2 v3 v4 v5 v6 v7 : Value} {o1 o2 o3 o4 : Option Rat} {b_ : Bool} {w : World} (h1 : OQ G w u0 u1 u2 u3 o1) (h2 : OQ G w u4 u5 u6 u7 o2) (h3 : OQ G w v0 v1 v2 v3 o3) (h4 : OQ G w v4 v5 v6 v7 o4) (hz1 : Oz o1 1099511627776) (hz2 : Oz o2 1099511627776) (hz3 : Oz o3 1099511627776) (hz4 : Oz o4 1099511627776) (hb : (decide (o1 = o3) && decide (o2 = o4)) = b_) :
  Calls Try.prog 24 #[.agg #[u0, u1, u2, u3, u4, u5, u6, u7], .agg #[v0, v1, v2, v3, v4, v5, v6, v7]] w fun e w' => e = .returned (.bool b_) ∧ Below w.heap.size w w' := by
 have HZ1 := Lib.hid hz1; have HZ2 := Lib.hid hz2; have HZ3 := Lib.hid hz3; have HZ4 := Lib.hid hz4; clear hz1 hz2 hz3 hz4
 obtain ⟨b1, hb1⟩ : ∃ b, decide (o1 = o3) = b := ⟨_, rfl⟩
 obtain ⟨b2, hb2⟩ : ∃ b, decide (o2 = o4) = b := ⟨_, rfl⟩
 rw [hb1, hb2] at hb; subst hb
 have HB1 := Lib.hid hb1; have HB2 := Lib.hid hb2; clear hb1 hb2
 have H1 : Hid (OQ G w u0 u1 u2 u3 o1) := h1
 have H2 : Hid (OQ G w u4 u5 u6 u7 o2) := h2
 have H3 : Hid (OQ G w v0 v1 v2 v3 o3) := h3
 have H4 : Hid (OQ G w v4 v5 v6 v7 o4) := h4
 clear h1 h2 h3 h4
 have M : Hid (Below w.heap.size w w) := Below.refl _ _
 go_enter Try.func24, Try.ntmps24
 go_upto_region 1 with fail
 refine nmW ((w.alloc (.cells #[u0, u1, u2, u3, u4, u5, u6, u7] 29)).alloc (.cells #[v0, v1, v2, v3, v4, v5, v6, v7] 29)) fun w1 hv => ?_
 rw [← hv]
 have hbx := bx2 w 29 29 #[u0, u1, u2, u3, u4, u5, u6, u7] #[v0, v1, v2, v3, v4, v5, v6, v7]
 rw [← hv] at hbx
 have hbn : Below w.heap.size w w1 := by rw [hv]; exact (Below.alloc (Below.alloc (Below.refl _ _) (by simp <;> omega) _) (by simp <;> omega) _)
 replace M := Lib.hid (And.intro hbx.2 (And.intro hbx.1 (Goes.go M.out hbn)))
 clear hbx hbn
 clear hv
 refine cj8 (M.out.2.1).d8 fun p0_0 p0_1 p0_2 p0_3 p0_4 p0_5 p0_6 p0_7 => ?_
 refine cj8 (M.out.1).d8 fun p1_0 p1_1 p1_2 p1_3 p1_4 p1_5 p1_6 p1_7 => ?_
 go_wp2_with fail
 clear p0_0 p0_1 p0_2 p0_3 p0_4 p0_5 p0_6 p0_7 p1_0 p1_1 p1_2 p1_3 p1_4 p1_5 p1_6 p1_7
 refine (rfsame_o (G := G) (o := o1) (p := o3) (b_ := b1) (H1.out.keep (M.out.2.2)) (H3.out.keep (M.out.2.2)) (Oz.mono HZ1.out (by omega)) (Oz.mono HZ3.out (by omega)) HB1.out).mono ?_
 rintro e w2 ⟨rfl, hb⟩
 replace M := gnM hb M
 clear hb
 cases b1 with
 | false =>
  go_wp2_with fail
  go_ret
  exact ⟨rfl, (M.out.2.2)⟩
 | true =>
  refine cj8 (M.out.2.1).d8 fun p0_0 p0_1 p0_2 p0_3 p0_4 p0_5 p0_6 p0_7 => ?_
  refine cj8 (M.out.1).d8 fun p1_0 p1_1 p1_2 p1_3 p1_4 p1_5 p1_6 p1_7 => ?_
  go_wp2_with fail
  clear p0_0 p0_1 p0_2 p0_3 p0_4 p0_5 p0_6 p0_7 p1_0 p1_1 p1_2 p1_3 p1_4 p1_5 p1_6 p1_7
  refine (rfsame_o (G := G) (o := o2) (p := o4) (b_ := b2) (H2.out.keep (M.out.2.2)) (H4.out.keep (M.out.2.2)) (Oz.mono HZ2.out (by omega)) (Oz.mono HZ4.out (by omega)) HB2.out).mono ?_
  rintro e w3 ⟨rfl, hb⟩
  replace M := gnM hb M
  clear hb
  go_wp2_with fail
  go_ret
  exact ⟨rfl, (M.out.2.2)⟩
theorem reSameSpan_b {u0 u1 u2 u3 u4 u5 u6 u7 v0 v1 v2 v3 v4 v5 v6 v7 : Value} {p q r s : Rat} {b_ : Bool} {w : World} (h1 : FQ G w u0 u1 u2 u3 p) (h2 : FQ G w u4 u5 u6 u7 q) (h3 : FQ G w v0 v1 v2 v3 r) (h4 : FQ G w v4 v5 v6 v7 s) (hp : Fz p 1099511627776) (hq : Fz q 1099511627776) (hr : Fz r 1099511627776) (hs : Fz s 1099511627776) (hb : (decide (p = r) && decide (q = s)) = b_) :
  Calls Try.prog 24 #[.agg #[u0, u1, u2, u3, u4, u5, u6, u7], .agg #[v0, v1, v2, v3, v4, v5, v6, v7]] w fun e w' => e = .returned (.bool b_) ∧ Below w.heap.size w w' := by
 refine reSameSpan_o (o1 := some p) (o2 := some q) (o3 := some r) (o4 := some s) h1 h2 h3 h4 hp hq hr hs ?_
 rw [← hb]; simp
set_option maxRecDepth 100000 in
set_option maxHeartbeats 4000000 in
theorem reShown_x {key : ByteArray} {note : Int} {u0 u1 u2 u3 v0 v1 v2 v3 : Value} {n1 m1 n2 m2 : Nat} {o1 o2 : Option Rat} {t6 b_ : Bool} {w : World} (h1 : FX w u0 u1 u2 u3 n1 m1 o1) (h2 : FX w v0 v1 v2 v3 n2 m2 o2) (hf1 : fewF n1 m1 = true) (hf2 : fewF n2 m2 = true) (ht6 : rightX o1 o2 = t6) (hb : (keyOk key && (decide (0 ≤ note) && (decide (note ≤ 1099511627776) && t6))) = b_) :
  Calls Try.prog 32 #[.agg #[.string key, .int .i64 note, u0, u1, u2, u3, v0, v1, v2, v3]] w fun e w' => e = .returned (.bool b_) ∧ Below w.heap.size w w' := by
 obtain ⟨t1, ht1⟩ : ∃ b, decide (1 ≤ key.size) = b := ⟨_, rfl⟩
 obtain ⟨t2, ht2⟩ : ∃ b, decide (key.size ≤ 60) = b := ⟨_, rfl⟩
 obtain ⟨t3, ht3⟩ : ∃ b, decide (0 ≤ Lib.idxFunc oddR true key) = b := ⟨_, rfl⟩
 obtain ⟨t4, ht4⟩ : ∃ b, decide (0 ≤ note) = b := ⟨_, rfl⟩
 obtain ⟨t5, ht5⟩ : ∃ b, decide (note ≤ 1099511627776) = b := ⟨_, rfl⟩
 unfold keyOk at hb
 rw [ht1, ht2, ht3, ht4, ht5] at hb
 have ht1i : decide ((1 : Int) ≤ (key.size : Int)) = t1 := by rw [← ht1]; exact decide_eq_decide.2 (by omega)
 have ht2i : decide ((key.size : Int) ≤ 60) = t2 := by rw [← ht2]; exact decide_eq_decide.2 (by omega)
 have HT3 := Lib.hid ht3; clear ht3
 have HB := Lib.hid hb; clear hb
 have HF1 := Lib.hid hf1; have HF2 := Lib.hid hf2; have HR_ := Lib.hid ht6; clear hf1 hf2 ht6
 have H1 : Hid (FX w u0 u1 u2 u3 n1 m1 o1) := h1
 have H2 : Hid (FX w v0 v1 v2 v3 n2 m2 o2) := h2
 clear h1 h2
 have M : Hid (Below w.heap.size w w) := Below.refl _ _
 go_enter Try.func32, Try.ntmps32
 go_upto_region 1 with fail
 refine nmW (w.alloc (.cells #[.string key, .int .i64 note, u0, u1, u2, u3, v0, v1, v2, v3] 37)) fun w1 hv => ?_
 rw [← hv]
 replace M := alM hv M
 clear hv
 cases t1 with
 | false =>
  refine cj10 (M.out.1).d10 fun p0_0 p0_1 p0_2 p0_3 p0_4 p0_5 p0_6 p0_7 p0_8 p0_9 => ?_
  go_wp2_with fail
  clear p0_0 p0_1 p0_2 p0_3 p0_4 p0_5 p0_6 p0_7 p0_8 p0_9
  obtain rfl := HB.out
  go_ret
  exact ⟨rfl, (M.out.2)⟩
 | true =>
  cases t2 with
  | false =>
   refine cj10 (M.out.1).d10 fun p0_0 p0_1 p0_2 p0_3 p0_4 p0_5 p0_6 p0_7 p0_8 p0_9 => ?_
   go_wp2_with fail
   clear p0_0 p0_1 p0_2 p0_3 p0_4 p0_5 p0_6 p0_7 p0_8 p0_9
   obtain rfl := HB.out
   go_ret
   exact ⟨rfl, (M.out.2)⟩
  | true =>
   refine cj10 (M.out.1).d10 fun p0_0 p0_1 p0_2 p0_3 p0_4 p0_5 p0_6 p0_7 p0_8 p0_9 => ?_
   go_wp2_with fail
   clear p0_0 p0_1 p0_2 p0_3 p0_4 p0_5 p0_6 p0_7 p0_8 p0_9
   refine (reOdd_ok HT3.out).mono ?_
   rintro e w2 ⟨rfl, hb⟩
   replace M := gnM hb M
   clear hb
   cases t3 with
   | false =>
    cases t4 with
    | false =>
     refine cj10 (M.out.1).d10 fun p0_0 p0_1 p0_2 p0_3 p0_4 p0_5 p0_6 p0_7 p0_8 p0_9 => ?_
     go_wp2_with fail
     clear p0_0 p0_1 p0_2 p0_3 p0_4 p0_5 p0_6 p0_7 p0_8 p0_9
     obtain rfl := HB.out
     go_ret
     exact ⟨rfl, (M.out.2)⟩
    | true =>
     cases t5 with
     | false =>
      refine cj10 (M.out.1).d10 fun p0_0 p0_1 p0_2 p0_3 p0_4 p0_5 p0_6 p0_7 p0_8 p0_9 => ?_
      go_wp2_with fail
      clear p0_0 p0_1 p0_2 p0_3 p0_4 p0_5 p0_6 p0_7 p0_8 p0_9
      obtain rfl := HB.out
      go_ret
      exact ⟨rfl, (M.out.2)⟩
     | true =>
      refine cj10 (M.out.1).d10 fun p0_0 p0_1 p0_2 p0_3 p0_4 p0_5 p0_6 p0_7 p0_8 p0_9 => ?_
      go_wp2_with fail
      clear p0_0 p0_1 p0_2 p0_3 p0_4 p0_5 p0_6 p0_7 p0_8 p0_9
      refine (spRight_x (o1 := o1) (o2 := o2) (b_ := t6) (H1.out.keep (M.out.2)) (H2.out.keep (M.out.2)) HF1.out HF2.out HR_.out).mono ?_
      rintro e w3 ⟨rfl, hb⟩
      replace M := gnM hb M
      clear hb
      go_wp2_with fail
      obtain rfl := HB.out
      go_ret
      exact ⟨rfl, (M.out.2)⟩
   | true =>
    go_wp2_with fail
    obtain rfl := HB.out
    go_ret
    exact ⟨rfl, (M.out.2)⟩
set_option maxRecDepth 100000 in
set_option maxHeartbeats 4000000 in
theorem reShown_q {key : ByteArray} {note : Int} {u0 u1 u2 u3 v0 v1 v2 v3 : Value} {q r : Rat} {t6 b_ : Bool} {w : World} (h1 : FQ G w u0 u1 u2 u3 q) (h2 : FQ G w v0 v1 v2 v3 r) (hz1 : Fz q 1000000000) (hz2 : Fz r 1000000000) (ht6 : decide (q ≤ r) = t6) (hb : (keyOk key && (decide (0 ≤ note) && (decide (note ≤ 1099511627776) && t6))) = b_) :
  Calls Try.prog 32 #[.agg #[.string key, .int .i64 note, u0, u1, u2, u3, v0, v1, v2, v3]] w fun e w' => e = .returned (.bool b_) ∧ Below w.heap.size w w' := by
 obtain ⟨t1, ht1⟩ : ∃ b, decide (1 ≤ key.size) = b := ⟨_, rfl⟩
 obtain ⟨t2, ht2⟩ : ∃ b, decide (key.size ≤ 60) = b := ⟨_, rfl⟩
 obtain ⟨t3, ht3⟩ : ∃ b, decide (0 ≤ Lib.idxFunc oddR true key) = b := ⟨_, rfl⟩
 obtain ⟨t4, ht4⟩ : ∃ b, decide (0 ≤ note) = b := ⟨_, rfl⟩
 obtain ⟨t5, ht5⟩ : ∃ b, decide (note ≤ 1099511627776) = b := ⟨_, rfl⟩
 unfold keyOk at hb
 rw [ht1, ht2, ht3, ht4, ht5] at hb
 have ht1i : decide ((1 : Int) ≤ (key.size : Int)) = t1 := by rw [← ht1]; exact decide_eq_decide.2 (by omega)
 have ht2i : decide ((key.size : Int) ≤ 60) = t2 := by rw [← ht2]; exact decide_eq_decide.2 (by omega)
 have HT3 := Lib.hid ht3; clear ht3
 have HB := Lib.hid hb; clear hb
 have HZ1 := Lib.hid hz1; have HZ2 := Lib.hid hz2; have HR_ := Lib.hid ht6; clear hz1 hz2 ht6
 have H1 : Hid (FQ G w u0 u1 u2 u3 q) := h1
 have H2 : Hid (FQ G w v0 v1 v2 v3 r) := h2
 clear h1 h2
 have M : Hid (Below w.heap.size w w) := Below.refl _ _
 go_enter Try.func32, Try.ntmps32
 go_upto_region 1 with fail
 refine nmW (w.alloc (.cells #[.string key, .int .i64 note, u0, u1, u2, u3, v0, v1, v2, v3] 37)) fun w1 hv => ?_
 rw [← hv]
 replace M := alM hv M
 clear hv
 cases t1 with
 | false =>
  refine cj10 (M.out.1).d10 fun p0_0 p0_1 p0_2 p0_3 p0_4 p0_5 p0_6 p0_7 p0_8 p0_9 => ?_
  go_wp2_with fail
  clear p0_0 p0_1 p0_2 p0_3 p0_4 p0_5 p0_6 p0_7 p0_8 p0_9
  obtain rfl := HB.out
  go_ret
  exact ⟨rfl, (M.out.2)⟩
 | true =>
  cases t2 with
  | false =>
   refine cj10 (M.out.1).d10 fun p0_0 p0_1 p0_2 p0_3 p0_4 p0_5 p0_6 p0_7 p0_8 p0_9 => ?_
   go_wp2_with fail
   clear p0_0 p0_1 p0_2 p0_3 p0_4 p0_5 p0_6 p0_7 p0_8 p0_9
   obtain rfl := HB.out
   go_ret
   exact ⟨rfl, (M.out.2)⟩
  | true =>
   refine cj10 (M.out.1).d10 fun p0_0 p0_1 p0_2 p0_3 p0_4 p0_5 p0_6 p0_7 p0_8 p0_9 => ?_
   go_wp2_with fail
   clear p0_0 p0_1 p0_2 p0_3 p0_4 p0_5 p0_6 p0_7 p0_8 p0_9
   refine (reOdd_ok HT3.out).mono ?_
   rintro e w2 ⟨rfl, hb⟩
   replace M := gnM hb M
   clear hb
   cases t3 with
   | false =>
    cases t4 with
    | false =>
     refine cj10 (M.out.1).d10 fun p0_0 p0_1 p0_2 p0_3 p0_4 p0_5 p0_6 p0_7 p0_8 p0_9 => ?_
     go_wp2_with fail
     clear p0_0 p0_1 p0_2 p0_3 p0_4 p0_5 p0_6 p0_7 p0_8 p0_9
     obtain rfl := HB.out
     go_ret
     exact ⟨rfl, (M.out.2)⟩
    | true =>
     cases t5 with
     | false =>
      refine cj10 (M.out.1).d10 fun p0_0 p0_1 p0_2 p0_3 p0_4 p0_5 p0_6 p0_7 p0_8 p0_9 => ?_
      go_wp2_with fail
      clear p0_0 p0_1 p0_2 p0_3 p0_4 p0_5 p0_6 p0_7 p0_8 p0_9
      obtain rfl := HB.out
      go_ret
      exact ⟨rfl, (M.out.2)⟩
     | true =>
      refine cj10 (M.out.1).d10 fun p0_0 p0_1 p0_2 p0_3 p0_4 p0_5 p0_6 p0_7 p0_8 p0_9 => ?_
      go_wp2_with fail
      clear p0_0 p0_1 p0_2 p0_3 p0_4 p0_5 p0_6 p0_7 p0_8 p0_9
      refine (spRight_q (G := G) (p := q) (q := r) (b_ := t6) (H1.out.keep (M.out.2)) (H2.out.keep (M.out.2)) (Fz.mono HZ1.out (by omega)) (Fz.mono HZ2.out (by omega)) HR_.out).mono ?_
      rintro e w3 ⟨rfl, hb⟩
      replace M := gnM hb M
      clear hb
      go_wp2_with fail
      obtain rfl := HB.out
      go_ret
      exact ⟨rfl, (M.out.2)⟩
   | true =>
    go_wp2_with fail
    obtain rfl := HB.out
    go_ret
    exact ⟨rfl, (M.out.2)⟩
set_option maxRecDepth 100000 in
set_option maxHeartbeats 4000000 in
theorem reOwn {key : ByteArray} {note : Int} {u0 u1 u2 u3 v0 v1 v2 v3 : Value} {q r : Rat} {w : World} (hG : G ≤ w.heap.size) (h1 : FQ G w u0 u1 u2 u3 q) (h2 : FQ G w v0 v1 v2 v3 r) (hz1 : Fz q 1000000000) (hz2 : Fz r 1000000000) (hle : q ≤ r) :
  Calls Try.prog 33 #[.agg #[.string key, .int .i64 note, u0, u1, u2, u3, v0, v1, v2, v3]] w fun e w' => ∃ x0 x1 x2 x3 x4 x5 x6 x7, e = .returned (.agg #[.string key, .int .i64 note, x0, x1, x2, x3, x4, x5, x6, x7]) ∧ FQ G w' x0 x1 x2 x3 q ∧ FQ G w' x4 x5 x6 x7 r ∧ Below w.heap.size w w' := by
 have HZ1 := Lib.hid hz1; have HZ2 := Lib.hid hz2; have HLE := Lib.hid hle; clear hz1 hz2 hle
 have H1 : Hid (FQ G w u0 u1 u2 u3 q) := h1
 have H2 : Hid (FQ G w v0 v1 v2 v3 r) := h2
 clear h1 h2
 have M : Hid (Below w.heap.size w w) := Below.refl _ _
 go_enter Try.func33, Try.ntmps33
 go_upto_region 1 with fail
 refine nmW ((w.alloc (.cells #[.string key, .int .i64 note, u0, u1, u2, u3, v0, v1, v2, v3] 37)).alloc (.cells #[.string (⟨#[]⟩), .int .i64 0, .int .i64 0, .slice none 0 0, .int .i64 0, .slice none 0 0, .int .i64 0, .slice none 0 0, .int .i64 0, .slice none 0 0] 37)) fun w1 hv => ?_
 rw [← hv]
 have hbx := bx2 w 37 37 #[.string key, .int .i64 note, u0, u1, u2, u3, v0, v1, v2, v3] #[.string (⟨#[]⟩), .int .i64 0, .int .i64 0, .slice none 0 0, .int .i64 0, .slice none 0 0, .int .i64 0, .slice none 0 0, .int .i64 0, .slice none 0 0]
 rw [← hv] at hbx
 have hbn : Below w.heap.size w w1 := by rw [hv]; exact (Below.alloc (Below.alloc (Below.refl _ _) (by simp <;> omega) _) (by simp <;> omega) _)
 replace M := Lib.hid (And.intro hbx.2 (And.intro hbx.1 (Goes.go M.out hbn)))
 clear hbx hbn
 clear hv
 refine cj10 (M.out.2.1).d10 fun p0_0 p0_1 p0_2 p0_3 p0_4 p0_5 p0_6 p0_7 p0_8 p0_9 => ?_
 go_wp2_with fail
 clear p0_0 p0_1 p0_2 p0_3 p0_4 p0_5 p0_6 p0_7 p0_8 p0_9
 refine nmW (α := Rat) (-r) fun q9 eq9 => ?_
 refine nmW (α := Rat) (-q) fun q10 eq10 => ?_
 refine (spNeg_q (G := G) (p := q) (q := r) (Nat.le_trans hG (M.out.2.2).size) (H1.out.keep (M.out.2.2)) (H2.out.keep (M.out.2.2)) (Fz.mono HZ1.out (by omega)) (Fz.mono HZ2.out (by omega)) HLE.out).mono ?_
 rintro e w2 ⟨x_1, x_2, x_3, x_4, x_5, x_6, x_7, x_8, rfl, hd11, hd12, hb⟩
 rw [← eq9] at hd11
 have Sq9 : Hid (Fz q9 1000000000) := by show Fz q9 1000000000; rw [eq9]; exact (Fz.neg HZ2.out)
 have Eq9 := Lib.hid eq9; clear eq9
 rw [← eq10] at hd12
 have Sq10 : Hid (Fz q10 1000000000) := by show Fz q10 1000000000; rw [eq10]; exact (Fz.neg HZ1.out)
 have Eq10 := Lib.hid eq10; clear eq10
 replace M := ad2M hd11 hd12 hb M
 clear hb hd11 hd12
 go_wp2_with fail
 refine nmW (α := Rat) (-q10) fun q21 eq21 => ?_
 refine nmW (α := Rat) (-q9) fun q22 eq22 => ?_
 refine (spNeg_q (G := G) (p := q9) (q := q10) (Nat.le_trans hG (M.out.2.2.2.2).size) (M.out.1) (M.out.2.1) (Fz.mono Sq9.out (by omega)) (Fz.mono Sq10.out (by omega)) (by rw [Eq9.out, Eq10.out]; exact Rat.neg_le_neg HLE.out)).mono ?_
 rintro e w3 ⟨x_13, x_14, x_15, x_16, x_17, x_18, x_19, x_20, rfl, hd23, hd24, hb⟩
 rw [← eq21] at hd23
 have Sq21 : Hid (Fz q21 1000000000) := by show Fz q21 1000000000; rw [eq21]; exact (Fz.neg Sq10.out)
 have Eq21 := Lib.hid eq21; clear eq21
 rw [← eq22] at hd24
 have Sq22 : Hid (Fz q22 1000000000) := by show Fz q22 1000000000; rw [eq22]; exact (Fz.neg Sq9.out)
 have Eq22 := Lib.hid eq22; clear eq22
 replace M := ad2M hd23 hd24 hb M
 clear hb hd23 hd24
 refine cj20 (M.out.2.2.2.2.2.1).c10 fun p0_0 q0_0 p0_1 q0_1 p0_2 q0_2 p0_3 q0_3 p0_4 q0_4 p0_5 q0_5 p0_6 q0_6 p0_7 q0_7 p0_8 q0_8 p0_9 q0_9 => ?_
 refine cj4 (TQ.st (M.out.1)) fun st_x_13 st_x_14 st_x_15 st_x_16 => ?_
 refine cj4 (TQ.st (M.out.2.1)) fun st_x_17 st_x_18 st_x_19 st_x_20 => ?_
 go_upto_region 2 with fail
 clear p0_0 q0_0 p0_1 q0_1 p0_2 q0_2 p0_3 q0_3 p0_4 q0_4 p0_5 q0_5 p0_6 q0_6 p0_7 q0_7 p0_8 q0_8 p0_9 q0_9 st_x_13 st_x_14 st_x_15 st_x_16 st_x_17 st_x_18 st_x_19 st_x_20
 refine nmW ((((((((w3.setCell ⟨w.heap.size, 2, none⟩ (x_13)).setCell ⟨w.heap.size, 3, none⟩ (x_14)).setCell ⟨w.heap.size, 4, none⟩ (x_15)).setCell ⟨w.heap.size, 5, none⟩ (x_16)).setCell ⟨w.heap.size, 6, none⟩ (x_17)).setCell ⟨w.heap.size, 7, none⟩ (x_18)).setCell ⟨w.heap.size, 8, none⟩ (x_19)).setCell ⟨w.heap.size, 9, none⟩ (x_20)) fun w4 hv => ?_
 rw [← hv]
 have og : w3.grownBy w4 (some w.heap.size) := by rw [hv]; exact (only_setCell (only_setCell (only_setCell (only_setCell (only_setCell (only_setCell (only_setCell (only_setCell (World.grownBy.refl _ _) _) _) _) _) _) _) _) _)
 have hz : w.heap.size ≤ w.heap.size := by exact Nat.le_refl _
 have hk : Bx w4 w.heap.size 37 #[.string key, .int .i64 note, x_13, x_14, x_15, x_16, x_17, x_18, x_19, x_20] := by rw [hv]; exact (((((((((M.out.2.2.2.2.2.1).set 2 _).set 3 _).set 4 _).set 5 _).set 6 _).set 7 _).set 8 _).set 9 _)
 have hbw : Below w.heap.size w w4 := by rw [hv]; exact (Below.setCell (Below.setCell (Below.setCell (Below.setCell (Below.setCell (Below.setCell (Below.setCell (Below.setCell (M.out.2.2.2.2.2.2) (by omega) _) (by omega) _) (by omega) _) (by omega) _) (by omega) _) (by omega) _) (by omega) _) (by omega) _)
 replace M := Lib.hid (And.intro ((M.out.1).far (M.out.2.2.2.2.2.1) (by rfl) (by omega) og) (And.intro ((M.out.2.1).far (M.out.2.2.2.2.2.1) (by rfl) (by omega) og) (And.intro ((M.out.2.2.1).far (M.out.2.2.2.2.2.1) (by rfl) (by omega) og) (And.intro ((M.out.2.2.2.1).far (M.out.2.2.2.2.2.1) (by rfl) (by omega) og) (And.intro ((M.out.2.2.2.2.1).only og (by omega)) (And.intro hk hbw))))))
 clear hk hbw og hv hz
 refine cj10 (M.out.2.2.2.2.2.1).d10 fun p0_0 p0_1 p0_2 p0_3 p0_4 p0_5 p0_6 p0_7 p0_8 p0_9 => ?_
 refine cj20 (M.out.2.2.2.2.1).c10 fun p1_0 q1_0 p1_1 q1_1 p1_2 q1_2 p1_3 q1_3 p1_4 q1_4 p1_5 q1_5 p1_6 q1_6 p1_7 q1_7 p1_8 q1_8 p1_9 q1_9 => ?_
 refine cj4 (TQ.st (M.out.1)) fun st_x_13 st_x_14 st_x_15 st_x_16 => ?_
 refine cj4 (TQ.st (M.out.2.1)) fun st_x_17 st_x_18 st_x_19 st_x_20 => ?_
 go_wp2_with fail
 clear p0_0 p0_1 p0_2 p0_3 p0_4 p0_5 p0_6 p0_7 p0_8 p0_9 p1_0 q1_0 p1_1 q1_1 p1_2 q1_2 p1_3 q1_3 p1_4 q1_4 p1_5 q1_5 p1_6 q1_6 p1_7 q1_7 p1_8 q1_8 p1_9 q1_9 st_x_13 st_x_14 st_x_15 st_x_16 st_x_17 st_x_18 st_x_19 st_x_20
 refine nmW ((((((((((w4.setCell ⟨w.heap.size + 1, 0, none⟩ (.string key)).setCell ⟨w.heap.size + 1, 1, none⟩ (.int .i64 note)).setCell ⟨w.heap.size + 1, 2, none⟩ (x_13)).setCell ⟨w.heap.size + 1, 3, none⟩ (x_14)).setCell ⟨w.heap.size + 1, 4, none⟩ (x_15)).setCell ⟨w.heap.size + 1, 5, none⟩ (x_16)).setCell ⟨w.heap.size + 1, 6, none⟩ (x_17)).setCell ⟨w.heap.size + 1, 7, none⟩ (x_18)).setCell ⟨w.heap.size + 1, 8, none⟩ (x_19)).setCell ⟨w.heap.size + 1, 9, none⟩ (x_20)) fun w5 hv => ?_
 rw [← hv]
 have og : w4.grownBy w5 (some (w.heap.size + 1)) := by rw [hv]; exact (only_setCell (only_setCell (only_setCell (only_setCell (only_setCell (only_setCell (only_setCell (only_setCell (only_setCell (only_setCell (World.grownBy.refl _ _) _) _) _) _) _) _) _) _) _) _)
 have hz : w.heap.size ≤ w.heap.size + 1 := by omega
 have hk : Bx w5 (w.heap.size + 1) 37 #[.string key, .int .i64 note, x_13, x_14, x_15, x_16, x_17, x_18, x_19, x_20] := by rw [hv]; exact ((M.out.2.2.2.2.1).all10)
 have hbw : Below w.heap.size w w5 := by rw [hv]; exact (Below.setCell (Below.setCell (Below.setCell (Below.setCell (Below.setCell (Below.setCell (Below.setCell (Below.setCell (Below.setCell (Below.setCell (M.out.2.2.2.2.2.2) (by omega) _) (by omega) _) (by omega) _) (by omega) _) (by omega) _) (by omega) _) (by omega) _) (by omega) _) (by omega) _) (by omega) _)
 replace M := Lib.hid (And.intro ((M.out.1).far (M.out.2.2.2.2.1) (by rfl) (by omega) og) (And.intro ((M.out.2.1).far (M.out.2.2.2.2.1) (by rfl) (by omega) og) (And.intro ((M.out.2.2.1).far (M.out.2.2.2.2.1) (by rfl) (by omega) og) (And.intro ((M.out.2.2.2.1).far (M.out.2.2.2.2.1) (by rfl) (by omega) og) (And.intro hk (And.intro ((M.out.2.2.2.2.2.1).only og (by omega)) hbw))))))
 clear hk hbw og hv hz
 refine bodyPost_ret (results_box1 rfl _ _ (w.heap.size + 1) 37 _ _ _ rfl (M.out.2.2.2.2.1) Try.underlying37 rfl (by kernel_rfl)) rfl ?_
 exact ⟨x_13, x_14, x_15, x_16, x_17, x_18, x_19, x_20, rfl, (by have h_ := (M.out.1); rw [Eq21.out, Eq10.out, Rat.neg_neg] at h_; exact h_), (by have h_ := (M.out.2.1); rw [Eq22.out, Eq9.out, Rat.neg_neg] at h_; exact h_), (M.out.2.2.2.2.2.2)⟩
end Go.Proofs.Ytlpcblhkddmlnaa
