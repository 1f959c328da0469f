/- Raw stocks: few layers; right. -/
import Derived.Test.YtgmngkbocpadaaaBase
import Derived.Test.YtgmngkbocpadaaaBigSpec
import Derived.Test.YtgmngkbocpadaaaBigB
import Derived.Test.YtgmngkbocpadaaaBigD
import Derived.Test.YtgmngkbocpadaaaBigK
import Derived.Test.YtgmngkbocpadaaaBigL
import Derived.Test.YtgmngkbocpadaaaBigQ
import Derived.Test.YtgmngkbocpadaaaFracA
import Derived.Test.YtgmngkbocpadaaaFz
import Derived.Test.YtgmngkbocpadaaaAw
import Derived.Test.YtgmngkbocpadaaaFracR
import Derived.Test.YtgmngkbocpadaaaRw
import Derived.Test.YtgmngkbocpadaaaStockPlain
import Derived.Test.YtgmngkbocpadaaaProg
import Derived.Test.YtgmngkbocpadaaaShelf
import Derived.WalkKit
import Derived.WalkSpells
import Derived.WalkLawsBesides
import Derived.Handy
import Derived.Lib.Hide
import Derived.Lib.Strings
import Derived.Lib.Builder
import Derived.BigQuiet
import Derived.OwnWalk
import Derived.Laws.BitsLemmas
import Derived.WalkSmall
import Derived.Deep.QuietTactic
import Derived.StillTailTactics
import Derived.Maps.AppendAt
import Derived.IntWalk
import Derived.Deep.RegionHeld3
import Derived.Deep.DeepFit
import Derived.Deep.LoopGhost
import Derived.Deep.DeepCutAuto
import Derived.Lib.ItoaNum
import Derived.Lib.Repeat
import Derived.Lib.AppendIntMem
import Derived.Sort.OwnSorted
import Derived.Shelf.Strings.SlTrimAscii
import Derived.Lib.ConvBytes
import Derived.Lib.CutLaws
namespace Go.Proofs.Ytgmngkbocpadaaa
open Go.RowKit
variable {G : Nat}

/-- A layer that came in: its amount; the cells of its burden, how many digits each part has, and which fraction it is, if it is right. -/
structure LR where
  n : Int
  u0 : Value
  u1 : Value
  u2 : Value
  u3 : Value
  a : Nat
  b : Nat
  o : Option Rat
/-- A right layer: its amount; the cells of its burden, and its value. -/
structure LC where
  n : Int
  u0 : Value
  u1 : Value
  u2 : Value
  u3 : Value
  q : Rat
def LC.ly (x : LC) : Ly := ⟨x.n, x.q⟩
theorem past_keep {w0 w w' : World} (h : Below w0.heap.size w0 w) (hb : Below w.heap.size w w') : Below w0.heap.size w0 w' := below_call h hb
theorem past_far {w0 w w' : World} {g : Nat} (h0 : w0.heap.size ≤ G) (h : Below w0.heap.size w0 w) (hG : G ≤ g) (hg : w.grownBy w' (some g)) : Below w0.heap.size w0 w' :=
  h.grown hg h.size fun k hk => by cases hk; omega
theorem FX.one {w : World} {u0 u1 u2 u3 : Value} {n m : Nat} {o : Option Rat} (h : FX w u0 u1 u2 u3 n m o) : u0.oneCell' = true ∧ u1.oneCell' = true ∧ u2.oneCell' = true ∧ u3.oneCell' = true := by
  obtain ⟨s, a, c, t, b, d, l, k, rfl, rfl, rfl, rfl, -⟩ := h
  exact ⟨rfl, rfl, rfl, rfl⟩
theorem FQ.one {w : World} {u0 u1 u2 u3 : Value} {q : Rat} (h : FQ G w u0 u1 u2 u3 q) : u0.oneCell' = true ∧ u1.oneCell' = true ∧ u2.oneCell' = true ∧ u3.oneCell' = true := by
  obtain ⟨a, c, b, d, rfl, rfl, rfl, rfl, -⟩ := h
  exact ⟨rfl, rfl, rfl, rfl⟩
theorem tnot {t : TypeId} (h : ([3] : List TypeId).contains t = false) : (t == 3) = false := by
  simp only [List.contains_cons, Bool.or_eq_false_iff] at h; exact h.1
instance : El LR where
  cells x := [.int .i64 x.n, x.u0, x.u1, x.u2, x.u3]
  sz := 5
  T := 48
  deep := [3]
  ok G w x := ∃ w0 : World, w0.heap.size ≤ G ∧ FX w0 x.u0 x.u1 x.u2 x.u3 x.a x.b x.o ∧ Below w0.heap.size w0 w
  len := fun _ => rfl
  one := by
    rintro G w x ⟨w0, -, h, -⟩ u hu
    have := h.one
    simp at hu; rcases hu with rfl | rfl | rfl | rfl | rfl
    · rfl
    · exact this.1
    · exact this.2.1
    · exact this.2.2.1
    · exact this.2.2.2
  keep := fun ⟨w0, h0, h, h1⟩ hb => ⟨w0, h0, h, past_keep h1 hb⟩
  far := fun ⟨w0, h0, h, h1⟩ _ _ hG hg => ⟨w0, h0, h, past_far h0 h1 hG hg⟩
instance : El LC where
  cells x := [.int .i64 x.n, x.u0, x.u1, x.u2, x.u3]
  sz := 5
  T := 48
  deep := [3]
  ok G w x := FQ G w x.u0 x.u1 x.u2 x.u3 x.q
  len := fun _ => rfl
  one := by
    rintro G w x h u hu
    have := FQ.one h
    simp at hu; rcases hu with rfl | rfl | rfl | rfl | rfl
    · rfl
    · exact this.1
    · exact this.2.1
    · exact this.2.2.1
    · exact this.2.2.2
  keep := fun h hb => FQ.keep h hb
  far := fun h k hT hG hg => FQ.far h k (tnot hT) hG hg
abbrev RdR (G : Nat) (w : World) (a : Option Addr) (n c : Nat) (l : List LR) : Prop := RdL G w a n c l
abbrev RdC (G : Nat) (w : World) (a : Option Addr) (n c : Nat) (l : List LC) : Prop := RdL G w a n c l
abbrev OwC (G B : Nat) (w : World) (g off : Nat) (l : List LC) : Prop := OwB G B w g off l
theorem LR.fx {w : World} {n : Int} {u0 u1 u2 u3 : Value} {a b : Nat} {o : Option Rat} (h : El.ok G w (⟨n, u0, u1, u2, u3, a, b, o⟩ : LR)) : FX w u0 u1 u2 u3 a b o := by
  obtain ⟨w0, -, h, h1⟩ := h
  exact h.keep h1
/-! ### Raw layers: few, right -/
def fewL (l : List LR) : Bool := l.all (fun x => decide (x.a ≤ 3) && decide (x.b ≤ 3)) && (decide (l.length ≤ 20) || (decide (199 ≤ l.length) && decide (l.length ≤ 202)))
def okO : Option Rat → Bool
  | some q => decide (0 ≤ q)
  | none => false
def rightR : Int → List LR → Bool
  | _, [] => true
  | rm, x :: r => !decide (x.n < 1) && (!decide (rm < x.n) && (okO x.o && rightR (rm - x.n) r))
def rightL (l : List LR) : Bool := rightR 1099511627776 l && decide (l.length ≤ 200)
/-- What is known of a right stock. -/
structure OkC (l : List LC) : Prop where
  ok : ∀ x ∈ l, 1 ≤ x.n ∧ 0 ≤ x.q
  sum : sumN (l.map LC.ly) ≤ 1099511627776
  len : l.length ≤ 200
theorem OkC.ly {l : List LC} (h : OkC l) : ∀ x ∈ l.map LC.ly, okL x := by
  intro x hx
  obtain ⟨y, hy, rfl⟩ := List.mem_map.1 hx
  exact h.ok y hy
def toC (x : LR) : LC := ⟨x.n, x.u0, x.u1, x.u2, x.u3, x.o.getD 0⟩
theorem rightR_ok : ∀ {l : List LR} {rm : Int}, rightR rm l = true → 0 ≤ rm → (∀ x ∈ l, 1 ≤ x.n ∧ ∃ q, x.o = some q ∧ 0 ≤ q) ∧ sumN ((l.map toC).map LC.ly) ≤ rm
  | [], rm, _, h0 => ⟨fun x hx => (by simp at hx), by simpa [sumN] using h0⟩
  | x :: r, rm, h, h0 => by
    simp only [rightR, Bool.and_eq_true, Bool.not_eq_true', decide_eq_false_iff_not] at h
    obtain ⟨h1, h2, h3, h4⟩ := h
    obtain ⟨h5, h6⟩ := rightR_ok h4 (by omega)
    refine ⟨fun y hy => ?_, ?_⟩
    · rcases List.mem_cons.1 hy with rfl | hy
      · refine ⟨by omega, ?_⟩
        cases ho : y.o with
        | none => rw [ho] at h3; cases h3
        | some q => rw [ho] at h3; exact ⟨q, rfl, by simpa [okO] using h3⟩
      · exact h5 y hy
    · rw [List.map_cons, List.map_cons, sumN_cons]
      have : (toC x).ly.n = x.n := rfl
      omega
theorem rightL_ok {l : List LR} (h : rightL l = true) : (∀ x ∈ l, ∃ q, x.o = some q) ∧ OkC (l.map toC) := by
  simp only [rightL, Bool.and_eq_true, decide_eq_true_eq] at h
  obtain ⟨h1, h2⟩ := rightR_ok h.1 (by omega)
  refine ⟨fun x hx => ?_, ⟨fun y hy => ?_, h2, by simpa using h.2⟩⟩
  · obtain ⟨-, q, hq, -⟩ := h1 x hx; exact ⟨q, hq⟩
  · obtain ⟨x, hx, rfl⟩ := List.mem_map.1 hy
    obtain ⟨ha, q, hq, hb⟩ := h1 x hx
    refine ⟨ha, ?_⟩
    show 0 ≤ x.o.getD 0
    rw [hq]; exact hb
/-- A raw stock that is right, as right layers. -/
theorem RdL.toC {a : Option Addr} {n c : Nat} {l : List LR} {w : World} (h : RdR w.heap.size w a n c l) (hr : ∀ x ∈ l, ∃ q, x.o = some q) : RdC w.heap.size w a n c (l.map Go.Proofs.Ytgmngkbocpadaaa.toC) := by
  rcases h.cases with ⟨rfl, rfl⟩ | ⟨b, off, rfl, h0, hl, hc, hb⟩
  · exact RdL.nil _ _ _
  · refine RdL.of (hb.conv rfl rfl fun k y hk => ?_) (by simpa using hl) hc
    rw [List.getElem?_map] at hk
    cases hx : l[k]? with
    | none => rw [hx] at hk; cases hk
    | some x =>
      rw [hx] at hk
      cases hk
      refine ⟨x, rfl, rfl, ?_⟩
      obtain ⟨q, hq⟩ := hr x (List.mem_of_getElem? hx)
      obtain ⟨n', u0, u1, u2, u3, a', b', o'⟩ := x
      dsimp only at hq
      subst hq
      exact (LR.fx (hb.ok hx)).fq
theorem few_all {l : List LR} (h : fewL l = true) : (∀ x ∈ l, x.a ≤ 3 ∧ x.b ≤ 3) ∧ l.length ≤ 202 := by
  simp only [fewL, Bool.and_eq_true, List.all_eq_true, decide_eq_true_eq, Bool.or_eq_true] at h
  refine ⟨h.1, ?_⟩
  rcases h.2 with h2 | h2 <;> omega
def FzL (l : List LC) (N : Nat) : Prop := ∀ x ∈ l, Fz x.q N
theorem fz_toC {w : World} {a : Option Addr} {n c : Nat} {l : List LR} (h : RdR G w a n c l) (hr : ∀ x ∈ l, ∃ q, x.o = some q) (hs : ∀ x ∈ l, x.a ≤ 3 ∧ x.b ≤ 3) : FzL (l.map toC) 3 := by
  intro y hy
  obtain ⟨x, hx, rfl⟩ := List.mem_map.1 hy
  obtain ⟨q, hq⟩ := hr x hx
  rcases h.cases with ⟨rfl, rfl⟩ | ⟨b, off, rfl, h0, hl, hc, hb⟩
  · simp at hx
  · have h1 := hb.oks x hx
    have h2 := hs x hx
    obtain ⟨n', u0, u1, u2, u3, a', b', o'⟩ := x
    dsimp only at hq h2
    subst hq
    exact (LR.fx h1).fz h2.1 h2.2
end Go.Proofs.Ytgmngkbocpadaaa
namespace Go.Proofs.Ytgmngkbocpadaaa
open Go.RowKit Go.Lib
variable {G : Nat}

theorem few_step {l : List LR} {k : Nat} {x : LR} (hx : l[k]? = some x) (h : (l.take k).all (fun x => decide (x.a ≤ 3) && decide (x.b ≤ 3)) = true) (ha : (decide (x.a ≤ 3) && decide (x.b ≤ 3)) = true) : (l.take (k + 1)).all (fun x => decide (x.a ≤ 3) && decide (x.b ≤ 3)) = true := by
  rw [List.take_add_one, hx, List.all_append, h]; simpa using ha
theorem few_no {l : List LR} {k : Nat} {x : LR} (hx : l[k]? = some x) (ha : (decide (x.a ≤ 3) && decide (x.b ≤ 3)) = false) : fewL l = false := by
  unfold fewL
  have : l.all (fun x => decide (x.a ≤ 3) && decide (x.b ≤ 3)) = false := by
    rw [List.all_eq_false]; exact ⟨x, List.mem_of_getElem? hx, by rw [ha]; simp⟩
  rw [this, Bool.false_and]
theorem few_far {l : List LR} (h : 202 < l.length) : fewL l = false := by
  unfold fewL
  rw [decide_eq_false (show ¬ l.length ≤ 20 by omega), decide_eq_false (show ¬ l.length ≤ 202 by omega)]; simp
theorem few_mid {l : List LR} (h : 20 < l.length) (h' : l.length < 199) : fewL l = false := by
  unfold fewL
  rw [decide_eq_false (show ¬ l.length ≤ 20 by omega), decide_eq_false (show ¬ 199 ≤ l.length by omega)]; simp
theorem few_yes {l : List LR} (h : (l.take l.length).all (fun x => decide (x.a ≤ 3) && decide (x.b ≤ 3)) = true) (h' : l.length ≤ 20 ∨ (199 ≤ l.length ∧ l.length ≤ 202)) : fewL l = true := by
  unfold fewL
  rw [List.take_length] at h
  rw [h]
  rcases h' with h' | ⟨h1, h2⟩
  · rw [decide_eq_true h']; simp
  · rw [decide_eq_true h1, decide_eq_true h2]; simp
theorem decI {a b : Nat} : (decide ((a : Int) ≤ 3) && decide ((b : Int) ≤ 3)) = (decide (a ≤ 3) && decide (b ≤ 3)) := by
  congr 1 <;> (apply decide_eq_decide.2; omega)
set_option maxRecDepth 100000 in
set_option maxHeartbeats 4000000 in
theorem stFew_ok {l : List LR} {a : Option Addr} {n c : Nat} {b_ : Bool} {w : World} (h : RdR G w a n c l) (_hn : n ≤ 9223372036854775807) (hb_ : fewL l = b_) :
    Calls Try.prog 8 #[.slice a n c] w fun e w' => e = .returned (.bool b_) ∧ Below w.heap.size w w' := by
  have HBB := Lib.hid hb_; clear hb_
  have HL : Hid (RdR G w a n c l) := h
  clear h
  have M : Hid (Below w.heap.size w w) := Below.refl _ _
  go_enter Try.func8, Try.ntmps8
  go_wp2_with fail
  go_loopw [3] (fun i3 wr => ∃ (k : Nat), i3 = .int .i64 (k : Int) ∧ Hid (k ≤ n ∧ k ≤ 210) ∧ Hid ((l.take k).all (fun x => decide (x.a ≤ 3) && decide (x.b ≤ 3)) = true) ∧ Hid (Below w.heap.size w wr)) (fun i3 _ => n - (RowKit.intOf i3).toNat)
  case atStart =>
    exact ⟨0, rfl, (by show _ ∧ _; omega), (by show _ = _; simp), Lib.hid M.out⟩
  case round =>
    obtain ⟨w1, rfl⟩ : ∃ x, x = wr := ⟨_, rfl⟩
    clear M
    obtain ⟨k, rfl, hk, HA, M⟩ := hrel
    have hk := hk.out
    have hw : (k < n ∧ k < 210) ∨ (k < n ∧ k = 210) ∨ (k = n ∧ n ≤ 202) ∨ (k = n ∧ 202 < n) := by omega
    rcases hw with ⟨hlt, hk2⟩ | ⟨hlt, hk2⟩ | ⟨hlt, hk2⟩ | ⟨hlt, hk2⟩
    ·
      have e1_0 : decide (k < n) = true := decide_eq_true (by omega)
      have e1_1 : decide ((k : Int) < (n : Int)) = true := decide_eq_true (by omega)
      have e1_i : (k : Int) < (n : Int) := by omega
      have e2_0 : decide (k < 210) = true := decide_eq_true (by omega)
      have e2_1 : decide ((k : Int) < 210) = true := decide_eq_true (by omega)
      have e2_i : (k : Int) < 210 := by omega
      obtain ⟨b, off, rfl, hb_⟩ := RdL.ptr HL.out (by omega : 0 < n)
      have hkl_ : k < l.length := by rw [HL.out.len]; exact hlt
      obtain ⟨x_, hx_⟩ : ∃ x, l[k]? = some x := ⟨l[k], List.getElem?_eq_getElem hkl_⟩
      obtain ⟨xn, xu0, xu1, xu2, xu3, xa, xb, xo⟩ := x_
      have HRx : Hid (Row w b (off + k * 5) [.int .i64 xn, xu0, xu1, xu2, xu3]) := hb_.row hx_
      have HXx : Hid (FX w xu0 xu1 xu2 xu3 xa xb xo) := LR.fx (hb_.ok hx_)
      have HEx := Lib.hid hx_; clear hx_ hkl_ hb_
      obtain ⟨b1, hb1⟩ : ∃ b1, (decide (xa ≤ 3) && decide (xb ≤ 3)) = b1 := ⟨_, rfl⟩
      have HB1 := Lib.hid hb1; clear hb1
      have yr0 := (HRx.out.keep M.out).c5; have r0_0 := yr0.1; have r0_1 := yr0.2.1; have r0_2 := yr0.2.2.1; have r0_3 := yr0.2.2.2.1; have r0_4 := yr0.2.2.2.2; clear yr0
      go_wp2_with fail
      clear r0_0 r0_1 r0_2 r0_3 r0_4
      refine (fxFew_ok (o := xo) (k := 3) (r := b1) (HXx.out.keep M.out) (decI.trans HB1.out)).mono ?_
      rintro e w2 ⟨rfl, hb⟩
      replace M := Lib.hid (Goes.go M.out hb)
      clear hb
      cases b1 with
      | false =>
        go_wp2_with fail
        have HZ : Hid (fewL l = false) := few_no HEx.out HB1.out
        obtain rfl := HZ.out.symm.trans HBB.out
        go_ret
        exact ⟨rfl, M.out⟩
      | true =>
        go_wp2_with fail
        go_roundw
        case rel => exact ⟨(k + 1), by go_num, (by show _ ∧ _; omega), (few_step HEx.out HA.out HB1.out), Lib.hid M.out⟩
        case measure => simp [RowKit.intOf] <;> omega
    ·
      have e1_0 : decide (k < n) = true := decide_eq_true (by omega)
      have e1_1 : decide ((k : Int) < (n : Int)) = true := decide_eq_true (by omega)
      have e1_i : (k : Int) < (n : Int) := by omega
      have e2_0 : decide (k < 210) = false := decide_eq_false (by omega)
      have e2_1 : decide ((k : Int) < 210) = false := decide_eq_false (by omega)
      have e2_i : ¬ (k : Int) < 210 := by omega
      have HZ : Hid (fewL l = false) := few_far (by rw [HL.out.len]; omega)
      have e3_0 : decide (n ≤ 20) = false := decide_eq_false (by omega)
      have e3_1 : decide ((n : Int) ≤ 20) = false := decide_eq_false (by omega)
      have e3_i : ¬ (n : Int) ≤ 20 := by omega
      have e4_0 : decide (199 ≤ n) = true := decide_eq_true (by omega)
      have e4_1 : decide (199 ≤ (n : Int)) = true := decide_eq_true (by omega)
      have e4_i : 199 ≤ (n : Int) := by omega
      have e5_0 : decide (n ≤ 202) = false := decide_eq_false (by omega)
      have e5_1 : decide ((n : Int) ≤ 202) = false := decide_eq_false (by omega)
      have e5_i : ¬ (n : Int) ≤ 202 := by omega
      go_wp2_with fail
      obtain rfl := HZ.out.symm.trans HBB.out
      go_ret
      exact ⟨rfl, M.out⟩
    ·
      have e1_0 : decide (k < n) = false := decide_eq_false (by omega)
      have e1_1 : decide ((k : Int) < (n : Int)) = false := decide_eq_false (by omega)
      have e1_i : ¬ (k : Int) < (n : Int) := by omega
      have hA : (l.take l.length).all (fun x => decide (x.a ≤ 3) && decide (x.b ≤ 3)) = true := by rw [show l.length = k by rw [HL.out.len]; omega]; exact HA.out
      have HAA := Lib.hid hA; clear hA
      have hw : n ≤ 20 ∨ (20 < n ∧ n < 199) ∨ (199 ≤ n ∧ n ≤ 202) := by omega
      rcases hw with hw | hw | hw
      ·
        have HZ : Hid (fewL l = true) := by show _ = _; exact few_yes HAA.out (.inl (by rw [HL.out.len]; omega))
        have e3_0 : decide (n ≤ 20) = true := decide_eq_true (by omega)
        have e3_1 : decide ((n : Int) ≤ 20) = true := decide_eq_true (by omega)
        have e3_i : (n : Int) ≤ 20 := by omega
        go_wp2_with fail
        obtain rfl := HZ.out.symm.trans HBB.out
        go_ret
        exact ⟨rfl, M.out⟩
      ·
        have HZ : Hid (fewL l = false) := by show _ = _; exact few_mid (by rw [HL.out.len]; omega) (by rw [HL.out.len]; omega)
        have e3_0 : decide (n ≤ 20) = false := decide_eq_false (by omega)
        have e3_1 : decide ((n : Int) ≤ 20) = false := decide_eq_false (by omega)
        have e3_i : ¬ (n : Int) ≤ 20 := by omega
        have e4_0 : decide (199 ≤ n) = false := decide_eq_false (by omega)
        have e4_1 : decide (199 ≤ (n : Int)) = false := decide_eq_false (by omega)
        have e4_i : ¬ 199 ≤ (n : Int) := by omega
        go_wp2_with fail
        obtain rfl := HZ.out.symm.trans HBB.out
        go_ret
        exact ⟨rfl, M.out⟩
      ·
        have HZ : Hid (fewL l = true) := by show _ = _; exact few_yes HAA.out (.inr ⟨by rw [HL.out.len]; omega, by rw [HL.out.len]; omega⟩)
        have e3_0 : decide (n ≤ 20) = false := decide_eq_false (by omega)
        have e3_1 : decide ((n : Int) ≤ 20) = false := decide_eq_false (by omega)
        have e3_i : ¬ (n : Int) ≤ 20 := by omega
        have e4_0 : decide (199 ≤ n) = true := decide_eq_true (by omega)
        have e4_1 : decide (199 ≤ (n : Int)) = true := decide_eq_true (by omega)
        have e4_i : 199 ≤ (n : Int) := by omega
        have e5_0 : decide (n ≤ 202) = true := decide_eq_true (by omega)
        have e5_1 : decide ((n : Int) ≤ 202) = true := decide_eq_true (by omega)
        have e5_i : (n : Int) ≤ 202 := by omega
        go_wp2_with fail
        obtain rfl := HZ.out.symm.trans HBB.out
        go_ret
        exact ⟨rfl, M.out⟩
    ·
      have e1_0 : decide (k < n) = false := decide_eq_false (by omega)
      have e1_1 : decide ((k : Int) < (n : Int)) = false := decide_eq_false (by omega)
      have e1_i : ¬ (k : Int) < (n : Int) := by omega
      have HZ : Hid (fewL l = false) := few_far (by rw [HL.out.len]; omega)
      have e3_0 : decide (n ≤ 20) = false := decide_eq_false (by omega)
      have e3_1 : decide ((n : Int) ≤ 20) = false := decide_eq_false (by omega)
      have e3_i : ¬ (n : Int) ≤ 20 := by omega
      have e4_0 : decide (199 ≤ n) = true := decide_eq_true (by omega)
      have e4_1 : decide (199 ≤ (n : Int)) = true := decide_eq_true (by omega)
      have e4_i : 199 ≤ (n : Int) := by omega
      have e5_0 : decide (n ≤ 202) = false := decide_eq_false (by omega)
      have e5_1 : decide ((n : Int) ≤ 202) = false := decide_eq_false (by omega)
      have e5_i : ¬ (n : Int) ≤ 202 := by omega
      go_wp2_with fail
      obtain rfl := HZ.out.symm.trans HBB.out
      go_ret
      exact ⟨rfl, M.out⟩
theorem drop_at {α : Type} {l : List α} {k : Nat} {x : α} (hx : l[k]? = some x) : l.drop k = x :: l.drop (k + 1) := by
  obtain ⟨h, rfl⟩ := List.getElem?_eq_some_iff.1 hx
  exact List.drop_eq_getElem_cons h
theorem right_1 {l : List LR} {k : Nat} {x : LR} {rm : Int} {b : Bool} (hx : l[k]? = some x) (h : rightR rm (l.drop k) = b) (h1 : x.n < 1) : b = false := by
  rw [← h, drop_at hx, rightR, decide_eq_true h1]; rfl
theorem right_2 {l : List LR} {k : Nat} {x : LR} {rm : Int} {b : Bool} (hx : l[k]? = some x) (h : rightR rm (l.drop k) = b) (h1 : rm < x.n) : b = false := by
  rw [← h, drop_at hx, rightR, decide_eq_true h1]; simp
theorem right_3 {l : List LR} {k : Nat} {x : LR} {rm : Int} {b : Bool} (hx : l[k]? = some x) (h : rightR rm (l.drop k) = b) (h1 : okO x.o = false) : b = false := by
  rw [← h, drop_at hx, rightR, h1]; simp
theorem right_5 {l : List LR} {k : Nat} {x : LR} {rm : Int} {b : Bool} (hx : l[k]? = some x) (h : rightR rm (l.drop k) = b) (h1 : ¬ x.n < 1) (h2 : ¬ rm < x.n) (h3 : okO x.o = true) : rightR (rm - x.n) (l.drop (k + 1)) = b := by
  rw [← h, drop_at hx, rightR, decide_eq_false h1, decide_eq_false h2, h3]; simp
theorem sg_lt {q : Rat} : (sg (nu q) < 0) ↔ q < 0 := by
  have h1 : sg (nu q) < 0 ↔ nu q < 0 := by
    rcases Int.lt_trichotomy (nu q) 0 with h | h | h
    · rw [sg, Int.sign_eq_neg_one_of_neg h]; simp [h]
    · rw [h, sg_zero]
    · rw [sg, Int.sign_eq_one_of_pos h]; constructor <;> intro h' <;> omega
  rw [h1, nu, ← Int.not_le, Rat.num_nonneg, Rat.not_le]
theorem right_ways (xn rm : Int) (xo : Option Rat) : xn < 1 ∨ (1 ≤ xn ∧ rm < xn) ∨ (1 ≤ xn ∧ xn ≤ rm ∧ xo = none) ∨ (1 ≤ xn ∧ xn ≤ rm ∧ ∃ q, xo = some q ∧ q < 0) ∨ (1 ≤ xn ∧ xn ≤ rm ∧ ∃ q, xo = some q ∧ 0 ≤ q) := by
  by_cases h1 : xn < 1
  · exact .inl h1
  · by_cases h2 : rm < xn
    · exact .inr (.inl ⟨by omega, h2⟩)
    · cases xo with
      | none => exact .inr (.inr (.inl ⟨by omega, by omega, rfl⟩))
      | some q =>
        by_cases h3 : q < 0
        · exact .inr (.inr (.inr (.inl ⟨by omega, by omega, q, rfl, h3⟩)))
        · exact .inr (.inr (.inr (.inr ⟨by omega, by omega, q, rfl, Rat.not_lt.1 h3⟩)))
set_option maxRecDepth 100000 in
set_option maxHeartbeats 4000000 in
theorem stRight_raw {l : List LR} {a : Option Addr} {n c : Nat} {b_ : Bool} {w : World} (h : RdR G w a n c l) (_hn : n ≤ 1099511627776) (hs : ∀ x ∈ l, x.a ≤ 3 ∧ x.b ≤ 3) (hb_ : rightL l = b_) :
    Calls Try.prog 9 #[.slice a n c] w fun e w' => e = .returned (.bool b_) ∧ Below w.heap.size w w' := by
  obtain ⟨b1, hb1⟩ : ∃ b1, rightR 1099511627776 l = b1 := ⟨_, rfl⟩
  unfold rightL at hb_
  rw [hb1] at hb_
  have HBB := Lib.hid hb_; have H1 := Lib.hid hb1; have HS := Lib.hid hs; clear hb_ hb1 hs
  have HL : Hid (RdR G w a n c l) := h; clear h
  obtain ⟨G, hG0⟩ : ∃ G : Nat, G = w.heap.size := ⟨_, rfl⟩
  have hG : G ≤ w.heap.size := by omega
  have M : Hid (Below w.heap.size w w) := Below.refl _ _
  go_enter Try.func9, Try.ntmps9
  go_wp2_with fail
  go_loopw [3, 8] (fun i3 i8 wr => ∃ (k : Nat) (rm : Int), i3 = .int .i64 rm ∧ i8 = .int .i64 (k : Int) ∧ Hid (k ≤ n) ∧ Hid (0 ≤ rm ∧ rm ≤ 1099511627776) ∧ Hid (rightR rm (l.drop k) = b1) ∧ Hid (Below w.heap.size w wr)) (fun i3 i8 _ => n - (RowKit.intOf i8).toNat)
  case atStart =>
    exact ⟨0, 1099511627776, rfl, rfl, (by show _ ≤ _; omega), (by show _ ∧ _; omega), H1, Lib.hid M.out⟩
  case round =>
    obtain ⟨w1, rfl⟩ : ∃ x, x = wr := ⟨_, rfl⟩
    clear M
    obtain ⟨k, rm, rfl, rfl, hk, hrm, HB, M⟩ := hrel
    have hk := hk.out
    have hr0 := hrm.out.1
    have hr1 := hrm.out.2
    by_cases hlt : k < n
    ·
      have e1_0 : decide (k < n) = true := decide_eq_true (by omega)
      have e1_1 : decide ((k : Int) < (n : Int)) = true := decide_eq_true (by omega)
      have e1_i : (k : Int) < (n : Int) := by omega
      obtain ⟨b, off, rfl, hb_⟩ := RdL.ptr HL.out (by omega : 0 < n)
      have hkl_ : k < l.length := by rw [HL.out.len]; exact hlt
      obtain ⟨x_, hx_⟩ : ∃ x, l[k]? = some x := ⟨l[k], List.getElem?_eq_getElem hkl_⟩
      obtain ⟨xn, xu0, xu1, xu2, xu3, xa, xb, xo⟩ := x_
      have HRx : Hid (Row w b (off + k * 5) [.int .i64 xn, xu0, xu1, xu2, xu3]) := hb_.row hx_
      have HXx : Hid (FX w xu0 xu1 xu2 xu3 xa xb xo) := LR.fx (hb_.ok hx_)
      have HEx := Lib.hid hx_; clear hx_ hkl_ hb_
      have hs_ := HS.out _ (List.mem_of_getElem? HEx.out)
      have hsa : xa ≤ 3 := hs_.1
      have hsb : xb ≤ 3 := hs_.2
      clear hs_
      have hw : xn < 1 ∨ (1 ≤ xn ∧ rm < xn) ∨ (1 ≤ xn ∧ xn ≤ rm ∧ xo = none) ∨ (1 ≤ xn ∧ xn ≤ rm ∧ ∃ q, xo = some q ∧ q < 0) ∨ (1 ≤ xn ∧ xn ≤ rm ∧ ∃ q, xo = some q ∧ 0 ≤ q) := right_ways xn rm xo
      rcases hw with hw | hw | hw | hw | hw
      ·
        have hb1 := right_1 HEx.out HB.out hw
        have e3 : decide (xn < 1) = true := decide_eq_true hw
        have ys_xu0 := FX.st (HXx.out.keep M.out); have st_xu0 := ys_xu0.1; have st_xu1 := ys_xu0.2.1; have st_xu2 := ys_xu0.2.2.1; have st_xu3 := ys_xu0.2.2.2; clear ys_xu0
        have yr0 := (HRx.out.keep M.out).c5; have r0_0 := yr0.1; have r0_1 := yr0.2.1; have r0_2 := yr0.2.2.1; have r0_3 := yr0.2.2.2.1; have r0_4 := yr0.2.2.2.2; clear yr0
        go_upto_region 5 with fail
        clear st_xu0 st_xu1 st_xu2 st_xu3 r0_0 r0_1 r0_2 r0_3 r0_4
        obtain ⟨w2, hv⟩ : ∃ w_ : World, w_ = (w1.alloc (.cells #[.int .i64 xn, xu0, xu1, xu2, xu3] 48)) := ⟨_, rfl⟩
        rw [← hv]
        have ow0_ : w.heap.size ≤ w1.heap.size := (M.out).size
        replace M := Lib.hid (And.intro (hv ▸ bx1 w1 48 #[.int .i64 xn, xu0, xu1, xu2, xu3]) (Goes.go M.out (hv ▸ below_alloc _ _ : Below w1.heap.size w1 w2)))
        clear hv
        have y0 := (M.out.1).d5; have p0_0 := y0.1; have p0_1 := y0.2.1; have p0_2 := y0.2.2.1; have p0_3 := y0.2.2.2.1; have p0_4 := y0.2.2.2.2; clear y0
        go_wp2_with fail
        clear p0_0 p0_1 p0_2 p0_3 p0_4
        have hz : b_ = false := by rw [← HBB.out, hb1]; rfl
        subst hz
        go_ret
        exact ⟨rfl, (M.out.2)⟩
      ·
        obtain ⟨hw1, hw2⟩ := hw
        have hb1 := right_2 HEx.out HB.out hw2
        have e3 : decide (xn < 1) = false := decide_eq_false (by omega)
        have e3i : ¬ xn < 1 := by omega
        have e4 : decide (rm < xn) = true := decide_eq_true hw2
        have ys_xu0 := FX.st (HXx.out.keep M.out); have st_xu0 := ys_xu0.1; have st_xu1 := ys_xu0.2.1; have st_xu2 := ys_xu0.2.2.1; have st_xu3 := ys_xu0.2.2.2; clear ys_xu0
        have yr0 := (HRx.out.keep M.out).c5; have r0_0 := yr0.1; have r0_1 := yr0.2.1; have r0_2 := yr0.2.2.1; have r0_3 := yr0.2.2.2.1; have r0_4 := yr0.2.2.2.2; clear yr0
        go_upto_region 5 with fail
        clear st_xu0 st_xu1 st_xu2 st_xu3 r0_0 r0_1 r0_2 r0_3 r0_4
        obtain ⟨w2, hv⟩ : ∃ w_ : World, w_ = (w1.alloc (.cells #[.int .i64 xn, xu0, xu1, xu2, xu3] 48)) := ⟨_, rfl⟩
        rw [← hv]
        have ow0_ : w.heap.size ≤ w1.heap.size := (M.out).size
        replace M := Lib.hid (And.intro (hv ▸ bx1 w1 48 #[.int .i64 xn, xu0, xu1, xu2, xu3]) (Goes.go M.out (hv ▸ below_alloc _ _ : Below w1.heap.size w1 w2)))
        clear hv
        have y0 := (M.out.1).d5; have p0_0 := y0.1; have p0_1 := y0.2.1; have p0_2 := y0.2.2.1; have p0_3 := y0.2.2.2.1; have p0_4 := y0.2.2.2.2; clear y0
        go_wp2_with fail
        clear p0_0 p0_1 p0_2 p0_3 p0_4
        have hz : b_ = false := by rw [← HBB.out, hb1]; rfl
        subst hz
        go_ret
        exact ⟨rfl, (M.out.2)⟩
      ·
        obtain ⟨hw1, hw2, rfl⟩ := hw
        have hb1 := right_3 HEx.out HB.out rfl
        have e3 : decide (xn < 1) = false := decide_eq_false (by omega)
        have e3i : ¬ xn < 1 := by omega
        have e4 : decide (rm < xn) = false := decide_eq_false (by omega)
        have e4i : ¬ rm < xn := by omega
        have ys_xu0 := FX.st (HXx.out.keep M.out); have st_xu0 := ys_xu0.1; have st_xu1 := ys_xu0.2.1; have st_xu2 := ys_xu0.2.2.1; have st_xu3 := ys_xu0.2.2.2; clear ys_xu0
        have yr0 := (HRx.out.keep M.out).c5; have r0_0 := yr0.1; have r0_1 := yr0.2.1; have r0_2 := yr0.2.2.1; have r0_3 := yr0.2.2.2.1; have r0_4 := yr0.2.2.2.2; clear yr0
        go_upto_region 5 with fail
        clear st_xu0 st_xu1 st_xu2 st_xu3 r0_0 r0_1 r0_2 r0_3 r0_4
        obtain ⟨w2, hv⟩ : ∃ w_ : World, w_ = (w1.alloc (.cells #[.int .i64 xn, xu0, xu1, xu2, xu3] 48)) := ⟨_, rfl⟩
        rw [← hv]
        have ow0_ : w.heap.size ≤ w1.heap.size := (M.out).size
        replace M := Lib.hid (And.intro (hv ▸ bx1 w1 48 #[.int .i64 xn, xu0, xu1, xu2, xu3]) (Goes.go M.out (hv ▸ below_alloc _ _ : Below w1.heap.size w1 w2)))
        clear hv
        have y0 := (M.out.1).d5; have p0_0 := y0.1; have p0_1 := y0.2.1; have p0_2 := y0.2.2.1; have p0_3 := y0.2.2.2.1; have p0_4 := y0.2.2.2.2; clear y0
        go_wp2_with fail
        clear p0_0 p0_1 p0_2 p0_3 p0_4
        refine (fxRight_ok (o := none) (b_ := false) (HXx.out.keep (M.out.2)) (by omega) (by omega) rfl).mono ?_
        rintro e w3 ⟨rfl, hb⟩
        replace M := Lib.hid (Goes.go M.out hb)
        clear hb
        go_wp2_with fail
        have hz : b_ = false := by rw [← HBB.out, hb1]; rfl
        subst hz
        go_ret
        exact ⟨rfl, (M.out.2)⟩
      ·
        obtain ⟨hw1, hw2, xq, rfl, hw3⟩ := hw
        have hb1 := right_3 HEx.out HB.out (show decide (0 ≤ xq) = false from decide_eq_false (by grind))
        have e3 : decide (xn < 1) = false := decide_eq_false (by omega)
        have e3i : ¬ xn < 1 := by omega
        have e4 : decide (rm < xn) = false := decide_eq_false (by omega)
        have e4i : ¬ rm < xn := by omega
        have HQx : Hid (FQ G w xu0 xu1 xu2 xu3 xq) := by show FQ _ _ _ _ _ _ _; rw [hG0]; exact HXx.out.fq
        have HZx : Hid (Fz xq 3) := HXx.out.fz hsa hsb
        obtain ⟨sx, hsx⟩ : ∃ s, sg (nu xq) = s := ⟨_, rfl⟩
        have hsn : sx < 0 := by rw [← hsx, sg_lt]; exact hw3
        have e5 : decide (sx < 0) = true := decide_eq_true hsn
        have HSX := Lib.hid hsx; clear hsx
        have ys_xu0 := FX.st (HXx.out.keep M.out); have st_xu0 := ys_xu0.1; have st_xu1 := ys_xu0.2.1; have st_xu2 := ys_xu0.2.2.1; have st_xu3 := ys_xu0.2.2.2; clear ys_xu0
        have yr0 := (HRx.out.keep M.out).c5; have r0_0 := yr0.1; have r0_1 := yr0.2.1; have r0_2 := yr0.2.2.1; have r0_3 := yr0.2.2.2.1; have r0_4 := yr0.2.2.2.2; clear yr0
        go_upto_region 5 with fail
        clear st_xu0 st_xu1 st_xu2 st_xu3 r0_0 r0_1 r0_2 r0_3 r0_4
        obtain ⟨w2, hv⟩ : ∃ w_ : World, w_ = (w1.alloc (.cells #[.int .i64 xn, xu0, xu1, xu2, xu3] 48)) := ⟨_, rfl⟩
        rw [← hv]
        have ow0_ : w.heap.size ≤ w1.heap.size := (M.out).size
        replace M := Lib.hid (And.intro (hv ▸ bx1 w1 48 #[.int .i64 xn, xu0, xu1, xu2, xu3]) (Goes.go M.out (hv ▸ below_alloc _ _ : Below w1.heap.size w1 w2)))
        clear hv
        have y0 := (M.out.1).d5; have p0_0 := y0.1; have p0_1 := y0.2.1; have p0_2 := y0.2.2.1; have p0_3 := y0.2.2.2.1; have p0_4 := y0.2.2.2.2; clear y0
        go_wp2_with fail
        clear p0_0 p0_1 p0_2 p0_3 p0_4
        refine (fxRight_ok (o := (some xq)) (b_ := true) (HXx.out.keep (M.out.2)) (by omega) (by omega) rfl).mono ?_
        rintro e w3 ⟨rfl, hb⟩
        replace M := Lib.hid (Goes.go M.out hb)
        clear hb
        have y0 := (M.out.1).d5; have p0_0 := y0.1; have p0_1 := y0.2.1; have p0_2 := y0.2.2.1; have p0_3 := y0.2.2.2.1; have p0_4 := y0.2.2.2.2; clear y0
        go_wp2_with fail
        clear p0_0 p0_1 p0_2 p0_3 p0_4
        refine (fqSign (G := G) (q := xq) (k := sx) (Nat.le_trans hG (M.out.2).size) (HQx.out.keep (M.out.2)) (Fz.mono HZx.out (by omega)) HSX.out).mono ?_
        rintro e w4 ⟨rfl, hb⟩
        replace M := Lib.hid (Goes.go M.out hb)
        clear hb
        go_wp2_with fail
        have hz : b_ = false := by rw [← HBB.out, hb1]; rfl
        subst hz
        go_ret
        exact ⟨rfl, (M.out.2)⟩
      ·
        obtain ⟨hw1, hw2, xq, rfl, hw3⟩ := hw
        have HN := Lib.hid (right_5 HEx.out HB.out (by show ¬ xn < 1; omega) (by show ¬ rm < xn; omega) (show decide (0 ≤ xq) = true from decide_eq_true hw3))
        have e3 : decide (xn < 1) = false := decide_eq_false (by omega)
        have e3i : ¬ xn < 1 := by omega
        have e4 : decide (rm < xn) = false := decide_eq_false (by omega)
        have e4i : ¬ rm < xn := by omega
        have HQx : Hid (FQ G w xu0 xu1 xu2 xu3 xq) := by show FQ _ _ _ _ _ _ _; rw [hG0]; exact HXx.out.fq
        have HZx : Hid (Fz xq 3) := HXx.out.fz hsa hsb
        obtain ⟨sx, hsx⟩ : ∃ s, sg (nu xq) = s := ⟨_, rfl⟩
        have hsn : ¬ sx < 0 := by rw [← hsx, sg_lt]; intro hh; grind
        have e5 : decide (sx < 0) = false := decide_eq_false hsn
        have HSX := Lib.hid hsx; clear hsx
        have ys_xu0 := FX.st (HXx.out.keep M.out); have st_xu0 := ys_xu0.1; have st_xu1 := ys_xu0.2.1; have st_xu2 := ys_xu0.2.2.1; have st_xu3 := ys_xu0.2.2.2; clear ys_xu0
        have yr0 := (HRx.out.keep M.out).c5; have r0_0 := yr0.1; have r0_1 := yr0.2.1; have r0_2 := yr0.2.2.1; have r0_3 := yr0.2.2.2.1; have r0_4 := yr0.2.2.2.2; clear yr0
        go_upto_region 5 with fail
        clear st_xu0 st_xu1 st_xu2 st_xu3 r0_0 r0_1 r0_2 r0_3 r0_4
        obtain ⟨w2, hv⟩ : ∃ w_ : World, w_ = (w1.alloc (.cells #[.int .i64 xn, xu0, xu1, xu2, xu3] 48)) := ⟨_, rfl⟩
        rw [← hv]
        have ow0_ : w.heap.size ≤ w1.heap.size := (M.out).size
        replace M := Lib.hid (And.intro (hv ▸ bx1 w1 48 #[.int .i64 xn, xu0, xu1, xu2, xu3]) (Goes.go M.out (hv ▸ below_alloc _ _ : Below w1.heap.size w1 w2)))
        clear hv
        have y0 := (M.out.1).d5; have p0_0 := y0.1; have p0_1 := y0.2.1; have p0_2 := y0.2.2.1; have p0_3 := y0.2.2.2.1; have p0_4 := y0.2.2.2.2; clear y0
        go_wp2_with fail
        clear p0_0 p0_1 p0_2 p0_3 p0_4
        refine (fxRight_ok (o := (some xq)) (b_ := true) (HXx.out.keep (M.out.2)) (by omega) (by omega) rfl).mono ?_
        rintro e w3 ⟨rfl, hb⟩
        replace M := Lib.hid (Goes.go M.out hb)
        clear hb
        have y0 := (M.out.1).d5; have p0_0 := y0.1; have p0_1 := y0.2.1; have p0_2 := y0.2.2.1; have p0_3 := y0.2.2.2.1; have p0_4 := y0.2.2.2.2; clear y0
        go_wp2_with fail
        clear p0_0 p0_1 p0_2 p0_3 p0_4
        refine (fqSign (G := G) (q := xq) (k := sx) (Nat.le_trans hG (M.out.2).size) (HQx.out.keep (M.out.2)) (Fz.mono HZx.out (by omega)) HSX.out).mono ?_
        rintro e w4 ⟨rfl, hb⟩
        replace M := Lib.hid (Goes.go M.out hb)
        clear hb
        have y0 := (M.out.1).d5; have p0_0 := y0.1; have p0_1 := y0.2.1; have p0_2 := y0.2.2.1; have p0_3 := y0.2.2.2.1; have p0_4 := y0.2.2.2.2; clear y0
        go_wp2_with fail
        clear p0_0 p0_1 p0_2 p0_3 p0_4
        go_roundw
        case rel => exact ⟨(k + 1), (rm - xn), by go_num, by go_num, (by show _ ≤ _; omega), (by show _ ∧ _; omega), HN, Lib.hid (M.out.2)⟩
        case measure => simp [RowKit.intOf] <;> omega
    ·
      have e1_0 : decide (k < n) = false := decide_eq_false (by omega)
      have e1_1 : decide ((k : Int) < (n : Int)) = false := decide_eq_false (by omega)
      have e1_i : ¬ (k : Int) < (n : Int) := by omega
      have hb1 : b1 = true := by rw [← HB.out, List.drop_eq_nil_of_le (by rw [HL.out.len]; omega)]; rfl
      subst hb1
      by_cases hw : n ≤ 200
      ·
        have e3_0 : decide (n ≤ 200) = true := decide_eq_true (by omega)
        have e3_1 : decide ((n : Int) ≤ 200) = true := decide_eq_true (by omega)
        have e3_i : (n : Int) ≤ 200 := by omega
        have hz : b_ = true := by rw [← HBB.out, HL.out.len, e3_0]; rfl
        go_wp2_with fail
        subst hz
        go_ret
        exact ⟨rfl, M.out⟩
      ·
        have e3_0 : decide (n ≤ 200) = false := decide_eq_false (by omega)
        have e3_1 : decide ((n : Int) ≤ 200) = false := decide_eq_false (by omega)
        have e3_i : ¬ (n : Int) ≤ 200 := by omega
        have hz : b_ = false := by rw [← HBB.out, HL.out.len, e3_0]; rfl
        go_wp2_with fail
        subst hz
        go_ret
        exact ⟨rfl, M.out⟩
end Go.Proofs.Ytgmngkbocpadaaa
