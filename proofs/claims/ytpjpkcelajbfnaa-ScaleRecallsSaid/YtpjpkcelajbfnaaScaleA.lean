/- Scale: certificates, recalls; which are right. -/
import Derived.Test.YtpjpkcelajbfnaaBase
import Derived.Test.YtpjpkcelajbfnaaBigSpec
import Derived.Test.YtpjpkcelajbfnaaBigA
import Derived.Test.YtpjpkcelajbfnaaBigB
import Derived.Test.YtpjpkcelajbfnaaBigC
import Derived.Test.YtpjpkcelajbfnaaBigD
import Derived.Test.YtpjpkcelajbfnaaBigH
import Derived.Test.YtpjpkcelajbfnaaBigK
import Derived.Test.YtpjpkcelajbfnaaBigL
import Derived.Test.YtpjpkcelajbfnaaProg
import Derived.WalkKit
import Derived.WalkSpells
import Derived.WalkLawsBesides
import Derived.Handy
import Derived.Lib.Hide
import Derived.Lib.Strings
import Derived.Lib.Builder
import Derived.BigQuiet
import Derived.OwnWalk
import Derived.Laws.BitsLemmas
import Derived.WalkSmall
import Derived.Deep.QuietTactic
import Derived.StillTailTactics
import Derived.Maps.AppendAt
import Derived.IntWalk
import Derived.Deep.RegionHeld3
import Derived.Deep.DeepFit
namespace Go.Proofs.Ytpjpkcelajbfnaa
open Go.RowKit
variable {G : Nat}

theorem sign_cases (z : Int) : z.sign = 1 ∨ z.sign = -1 ∨ z.sign = 0 := by
  rcases Int.lt_trichotomy z 0 with h | h | h
  · exact .inr (.inl (Int.sign_eq_neg_one_of_neg h))
  · exact .inr (.inr (by rw [h]; rfl))
  · exact .inl (Int.sign_eq_one_of_pos h)
theorem sign_mul_abs (z : Int) : z.sign * (z.natAbs : Int) = z := Int.sign_mul_natAbs z
theorem rightB_is (z : Int) : rightB (sg z) (ints (digs z.natAbs)) = true := by
  unfold sg
  have h1 : (ints (digs z.natAbs)).all digitOk = true := by
    rw [List.all_eq_true]
    intro d hd
    simp only [ints, List.mem_map] at hd
    obtain ⟨k, hk, rfl⟩ := hd
    have := digs_small _ k hk
    exact digitOk_yes (by omega) (by omega)
  rw [rightB, h1, Bool.true_and]
  by_cases h0 : ints (digs z.natAbs) = []
  · rw [if_pos h0]
    have h2 : digs z.natAbs = [] := by simpa [ints] using h0
    have h3 : z = 0 := by have := digs_nil.1 h2; omega
    rw [h3]; rfl
  · rw [if_neg h0]
    have h2 : (ints (digs z.natAbs)).getLast? ≠ some 0 := by
      have := digs_last z.natAbs
      simp only [ints, List.getLast?_map]
      intro h
      cases hl : (digs z.natAbs).getLast? with
      | none => rw [hl] at h; cases h
      | some d => rw [hl] at h this; simp at h; subst h; exact this rfl
    have h3 : z ≠ 0 := by rintro rfl; exact h0 rfl
    rcases sign_cases z with h | h | h
    · simp [h, h2]
    · simp [h, h2]
    · exact absurd (Int.sign_eq_zero_iff_zero.1 h) h3
/-- A block of the call's own, known whole. -/
def Bx (w : World) (g : Nat) (T : TypeId) (cs : Array Value) : Prop := w.heap[g]? = some (.cells cs T (0, 0))
theorem Bx.lt {w : World} {g : Nat} {T : TypeId} {cs : Array Value} (h : Bx w g T cs) : g < w.heap.size := by
  rcases Nat.lt_or_ge g w.heap.size with hlt | hge
  · exact hlt
  · unfold Bx at h; rw [Array.getElem?_eq_none hge] at h; cases h
theorem Bx.keep {w w' : World} {g : Nat} {T : TypeId} {cs : Array Value} (h : Bx w g T cs) (hb : Below w.heap.size w w') : Bx w' g T cs := (hb.block g h.lt).trans h
theorem Bx.at {w : World} {g : Nat} {T : TypeId} {cs : Array Value} (h : Bx w g T cs) : (∀ j, w.cell? ⟨g, j, none⟩ = cs[j]?) ∧ (∀ j, w.frozen? ⟨g, j, none⟩ = false) := by
  unfold Bx at h
  exact ⟨fun j => by simp [World.cell?, h], fun j => by simp [World.frozen?, h]⟩
theorem Bx.new (w : World) (T : TypeId) (cs : Array Value) : Bx (w.alloc (.cells cs T)) w.heap.size T cs := by unfold Bx; show (w.heap.push _)[w.heap.size]? = _; simp
theorem below_call {w1 W w2 : World} (h : Below w1.heap.size w1 W) (h2 : Below W.heap.size W w2) : Below w1.heap.size w1 w2 := h.trans (h2.mono h.size)
theorem below_alloc (w : World) (o : Obj) : Below w.heap.size w (w.alloc o) := (Below.refl _ _).alloc (Nat.le_refl _) o
theorem bx1 (w : World) (T : TypeId) (c1 : Array Value) : Bx (w.alloc (.cells c1 T)) w.heap.size T c1 := Bx.new w T c1
theorem bx2 (w : World) (T1 T2 : TypeId) (c1 c2 : Array Value) : Bx ((w.alloc (.cells c1 T1)).alloc (.cells c2 T2)) w.heap.size T1 c1 ∧ Bx ((w.alloc (.cells c1 T1)).alloc (.cells c2 T2)) (w.heap.size + 1) T2 c2 :=
  ⟨(Bx.new w T1 c1).keep (below_alloc _ _), by have := Bx.new (w.alloc (.cells c1 T1)) T2 c2; simpa using this⟩
theorem bx3 (w : World) (T1 T2 T3 : TypeId) (c1 c2 c3 : Array Value) : Bx (((w.alloc (.cells c1 T1)).alloc (.cells c2 T2)).alloc (.cells c3 T3)) w.heap.size T1 c1 ∧
    Bx (((w.alloc (.cells c1 T1)).alloc (.cells c2 T2)).alloc (.cells c3 T3)) (w.heap.size + 1) T2 c2 ∧ Bx (((w.alloc (.cells c1 T1)).alloc (.cells c2 T2)).alloc (.cells c3 T3)) (w.heap.size + 1 + 1) T3 c3 :=
  ⟨(bx2 w T1 T2 c1 c2).1.keep (below_alloc _ _), (bx2 w T1 T2 c1 c2).2.keep (below_alloc _ _), by have := Bx.new ((w.alloc (.cells c1 T1)).alloc (.cells c2 T2)) T3 c3; simpa using this⟩
/-- A bound on the number of digits. -/
def Sz (z : Int) (n : Nat) : Prop := (digs z.natAbs).length ≤ n
theorem mul_room {x y : Int} (hx : Sz x 549755813888) (hy : Sz y 549755813888) : (digs (x.natAbs * y.natAbs)).length ≤ 8796093022208 := by
  unfold Sz at *; have := digs_len_mul x.natAbs y.natAbs; omega
theorem Sz.mono {z : Int} {n m : Nat} (h : Sz z n) (hm : n ≤ m) : Sz z m := Nat.le_trans h hm
theorem Sz.neg {z : Int} {n : Nat} (h : Sz z n) : Sz (-z) n := by unfold Sz; rw [Int.natAbs_neg]; exact h
theorem Sz.mul {x y : Int} {n m : Nat} (h : Sz x n) (h' : Sz y m) : Sz (x * y) (n + m) := by
  unfold Sz at *; rw [Int.natAbs_mul]; have := digs_len_mul x.natAbs y.natAbs; omega
theorem Sz.le {x y : Int} {n : Nat} (h : Sz x n) (hy : y.natAbs ≤ x.natAbs) : Sz y n := Nat.le_trans (digs_len_mono hy) h
theorem Sz.add {x y : Int} {n : Nat} (h : Sz x n) (h' : Sz y n) : Sz (x + y) (n + 1) := by
  unfold Sz at *
  have h1 := digs_len_add x.natAbs y.natAbs
  have h2 : (digs (x + y).natAbs).length ≤ (digs (x.natAbs + y.natAbs)).length := digs_len_mono (by omega)
  omega
theorem Sz.sub {x y : Int} {n : Nat} (h : Sz x n) (h' : Sz y n) : Sz (x - y) (n + 1) := by rw [Int.sub_eq_add_neg]; exact h.add h'.neg
theorem bigRight_ok {z : Int} {a : Option Addr} {c : Nat} {w : World} (h : BD G w a c z) (hn : Sz z 1099511627776) :
    Calls Try.prog 54 #[.agg #[.int .i64 (sg z), .slice a (ln z) c]] w fun e w' => e = .returned (.bool true) ∧ Below w.heap.size w w' := by
  have := bigRight_any (sg z) (.slice a (ln z) c) (ints (digs z.natAbs)) w h.rd (by rw [ints_len]; exact hn)
  rwa [rightB_is] at this
theorem bx4 (w : World) (T1 T2 T3 T4 : TypeId) (c1 c2 c3 c4 : Array Value) : let W := ((((w.alloc (.cells c1 T1)).alloc (.cells c2 T2)).alloc (.cells c3 T3)).alloc (.cells c4 T4))
    Bx W w.heap.size T1 c1 ∧ Bx W (w.heap.size + 1) T2 c2 ∧ Bx W (w.heap.size + 1 + 1) T3 c3 ∧ Bx W (w.heap.size + 1 + 1 + 1) T4 c4 := by
  obtain ⟨h1, h2, h3⟩ := bx3 w T1 T2 T3 c1 c2 c3
  exact ⟨h1.keep (below_alloc _ _), h2.keep (below_alloc _ _), h3.keep (below_alloc _ _), by have := Bx.new (((w.alloc (.cells c1 T1)).alloc (.cells c2 T2)).alloc (.cells c3 T3)) T4 c4; simpa using this⟩
theorem only_below {w w2 wx : World} {g : Nat} (h : Below w.heap.size w w2) (hg : w2.grownBy wx (some g)) (hle : w.heap.size ≤ g) : Below w.heap.size w wx :=
  h.trans ⟨hg.os, hg.tape, hg.output, hg.size, fun k hk => hg.block k (Nat.lt_of_lt_of_le hk h.size) (by simp; omega)⟩
theorem only_call {w2 wx w' : World} {g : Nat} (hg : w2.grownBy wx (some g)) (hb : Below wx.heap.size wx w') : w2.grownBy w' (some g) :=
  ⟨hb.os.trans hg.os, hb.tape.trans hg.tape, hb.output.trans hg.output, Nat.le_trans hg.size hb.size, fun k hk hne => (hb.block k (Nat.lt_of_lt_of_le hk hg.size)).trans (hg.block k hk hne)⟩
theorem only_start (w : World) (g : Nat) : w.grownBy w.drew (some g) := ⟨rfl, rfl, rfl, Nat.le_refl _, fun _ _ _ => rfl⟩
theorem Bx.only {w w' : World} {g g' : Nat} {T : TypeId} {cs : Array Value} (h : Bx w g T cs) (hb : w.grownBy w' (some g')) (hne : g ≠ g') : Bx w' g T cs := (hb.block g h.lt (by simp; exact hne)).trans h
theorem Bx.set {w : World} {g : Nat} {T : TypeId} {cs : Array Value} (h : Bx w g T cs) (i : Nat) (u : Value) : Bx (w.setCell ⟨g, i, none⟩ u) g T (cs.setIfInBounds i u) := by
  unfold Bx at h ⊢
  simp [World.setCell, Array.getElem?_modify, h]
theorem Bx.set2 {w : World} {g : Nat} {T : TypeId} {u0 u1 : Value} (h : Bx w g T #[u0, u1]) (x y : Value) : Bx ((w.setCell ⟨g, 0, none⟩ x).setCell ⟨g, 1, none⟩ y) g T #[x, y] := by
  have := (h.set 0 x).set 1 y; simpa using this
theorem Bx.set4 {w : World} {g : Nat} {T : TypeId} {u0 u1 u2 u3 : Value} (h : Bx w g T #[u0, u1, u2, u3]) (x y z v : Value) : Bx ((((w.setCell ⟨g, 0, none⟩ x).setCell ⟨g, 1, none⟩ y).setCell ⟨g, 2, none⟩ z).setCell ⟨g, 3, none⟩ v) g T #[x, y, z, v] := by
  have := (((h.set 0 x).set 1 y).set 2 z).set 3 v; simpa using this
/-- No int but 0 lies in these cells. -/
def Zb (cs : Array Value) : Prop := ∀ (j : Nat) n, cs[j]? = some (.int .i64 n) → n = 0
theorem zb2 : Zb #[.int .i64 0, .slice none 0 0] := by
  intro j n h
  match j, h with
  | 0, h => simp at h; exact h.symm
  | 1, h => simp at h
  | j + 2, h => simp at h
theorem zb4 : Zb #[.int .i64 0, .slice none 0 0, .int .i64 0, .slice none 0 0] := by
  intro j n h
  match j, h with
  | 0, h => simp at h; exact h.symm
  | 1, h => simp at h
  | 2, h => simp at h; exact h.symm
  | 3, h => simp at h
  | j + 4, h => simp at h
theorem BD.other {w w' : World} {g : Nat} {a : Option Addr} {c : Nat} {z : Int} (h : BD G w a c z) (hg : w.grownBy w' (some g)) (hne : ∀ b off, a = some ⟨b, off, none⟩ → b ≠ g) : BD G w' a c z := by
  refine ⟨⟨a, c, by rw [ints_len]; rfl, fun k hk => ?_⟩, h.le, ?_⟩
  rotate_left
  · rcases h.ty with h1 | h1
    · exact .inl h1
    · refine .inr fun b off ha => ?_
      rcases h1 b off ha with h2 | ⟨cs, fr, h2⟩
      · exact .inl h2
      · exact .inr ⟨cs, fr, (hg.block b (lt_of_block h2) (by have := hne b off ha; simp; exact this)).trans h2⟩
  rw [ints_len] at hk
  obtain ⟨b, off, ha, hlt, hc⟩ := RdN.at h.rd hk
  refine ⟨b, off, ha, Nat.lt_of_lt_of_le hlt hg.size, fun j u hj => ?_⟩
  have hg2 : (ints (digs z.natAbs))[k]? = some ((digs z.natAbs)[k] : Int) := by
    rw [List.getElem?_eq_getElem (by rw [ints_len]; exact hk), ints_get _ _ hk]
  dsimp only at hj
  rw [hg2] at hj
  match j, hj with
  | 0, hj =>
    simp at hj; subst hj
    rw [Nat.mul_one, Nat.add_zero, hg.cell hc (by have := hne b off ha; simp; exact this)]
  | j + 1, hj => simp at hj
/-- Digits do not lie in a block that holds no int but 0. -/
theorem BD.far0 {w w' : World} {g : Nat} {T : TypeId} {cs : Array Value} {a : Option Addr} {c : Nat} {z : Int} (h : BD G w a c z) (k : Bx w g T cs) (hz : Zb cs) (hg : w.grownBy w' (some g)) : BD G w' a c z := by
  by_cases h0 : (digs z.natAbs).length = 0
  · exact ⟨⟨a, c, by rw [ints_len]; rfl, fun k hk => by rw [ints_len] at hk; omega⟩, h.le, .inl h0⟩
  · refine h.other hg fun b off ha hb => ?_
    subst hb
    have hl : (digs z.natAbs).length - 1 < (digs z.natAbs).length := by omega
    obtain ⟨b', off', ha', -, hc⟩ := RdN.at h.rd hl
    rw [ha] at ha'
    cases ha'
    rw [k.at.1] at hc
    have := hz _ _ hc
    apply digs_last z.natAbs
    rw [List.getLast?_eq_getElem?, List.getElem?_eq_getElem hl]
    congr 1; omega
/-- Digits do not lie in a box of another type that was made behind G. -/
theorem BD.far {w w' : World} {g : Nat} {T : TypeId} {cs : Array Value} {a : Option Addr} {c : Nat} {z : Int} (h : BD G w a c z) (k : Bx w g T cs) (hT : (T == 3) = false) (hG : G ≤ g) (hg : w.grownBy w' (some g)) : BD G w' a c z := by
  rcases h.ty with h1 | h1
  · exact ⟨⟨a, c, by rw [ints_len]; rfl, fun j hj => by rw [ints_len] at hj; unfold ln at h1; omega⟩, h.le, .inl h1⟩
  · refine h.other hg fun b off ha hb => ?_
    subst hb
    rcases h1 b off ha with h2 | ⟨cs', fr, h2⟩
    · omega
    · unfold Bx at k
      rw [k] at h2
      simp only [Option.some.injEq, Obj.cells.injEq] at h2
      rw [h2.2.1] at hT
      simp at hT
theorem checked_yes {s : Int} {a : Option Addr} {n c : Nat} (w : World) :
    Calls Try.prog 68 #[.bool true, .agg #[.int .i64 s, .slice a n c]] w fun e w' => e = .returned (.tuple #[.agg #[.int .i64 s, .slice a n c], .int .i64 0]) ∧ Below w.heap.size w w' := by
  go_enter Try.func68, Try.ntmps68
  go_wp2_with fail
  go_returns
  exact ⟨rfl, by go_grown⟩
theorem signed_is {z : Int} {s : Int} {v : Value} {n B : Nat} {w : World} (h : OwnN w B v (digs n)) (hn : (digs n).length ≤ 8796093022208) (hz : s * n = z) (h1 : n ≠ 0 → s = 1 ∨ s = -1) :
    Calls Try.prog 57 #[.int .i64 s, v] w fun e w' => ∃ a c, e = .returned (.agg #[.int .i64 (sg z), .slice a (ln z) c]) ∧ BD G w' a c z ∧ Below w.heap.size w w' :=
  (signed_any (G := G) B s v (digs n) w h (digs_small n) hn (by rw [val_digs]; exact h1)).mono fun e w' ⟨r, he, hr, hb⟩ => by
    rw [val_digs, hz] at hr
    obtain ⟨a, c, rfl, hd⟩ := hr
    exact ⟨a, c, he, hd, hb⟩
theorem mul_signs (x y : Int) : sg x * sg y * ((x.natAbs * y.natAbs : Nat) : Int) = x * y := by
  have h1 := sign_mul_abs x
  have h2 := sign_mul_abs y
  have h3 : ((x.natAbs * y.natAbs : Nat) : Int) = (x.natAbs : Int) * (y.natAbs : Int) := by simp
  unfold sg
  calc x.sign * y.sign * ((x.natAbs * y.natAbs : Nat) : Int) = (x.sign * (x.natAbs : Int)) * (y.sign * (y.natAbs : Int)) := by rw [h3]; grind
    _ = x * y := by rw [h1, h2]
theorem sg_cases (z : Int) : sg z = 1 ∨ sg z = -1 ∨ sg z = 0 := sign_cases z
theorem mul_sign_one (x y : Int) (h : x.natAbs * y.natAbs ≠ 0) : sg x * sg y = 1 ∨ sg x * sg y = -1 := by
  have hx : x ≠ 0 := by rintro rfl; simp at h
  have hy : y ≠ 0 := by rintro rfl; simp at h
  unfold sg
  rcases sign_cases x with h1 | h1 | h1
  · rcases sign_cases y with h2 | h2 | h2
    · rw [h1, h2]; simp
    · rw [h1, h2]; simp
    · exact absurd (Int.sign_eq_zero_iff_zero.1 h2) hy
  · rcases sign_cases y with h2 | h2 | h2
    · rw [h1, h2]; simp
    · rw [h1, h2]; simp
    · exact absurd (Int.sign_eq_zero_iff_zero.1 h2) hy
  · exact absurd (Int.sign_eq_zero_iff_zero.1 h1) hx
theorem sg_ne {x : Int} (h : x ≠ 0) : sg x = 1 ∨ sg x = -1 := by
  rcases sg_cases x with h1 | h1 | h1
  · exact .inl h1
  · exact .inr h1
  · exact absurd (Int.sign_eq_zero_iff_zero.1 h1) h
theorem results_box1 {P : Program} {fn : Func} {p : Tmp} {ty : TypeId} (h : fn.results = #[.cell p ty]) (tmps : Array Value) (w : World) (g : Nat) (t : TypeId) (cs : Array Value) (fr : Nat × Nat) (d : TypeDesc)
    (hp : tmps.getD p undef = .pointer (some ⟨g, 0, none⟩)) (hg : w.heap[g]? = some (.cells cs t fr))
    (hu : P.underlying ty = some d) (hd : (match d with | .struct _ | .array _ _ => true | _ => false) = true) (hi : (P.info? ty).map (·.size) = some cs.size) :
    (results fn tmps).run P w = .ok (.agg cs) w := by
  have hp' : tmps[p]?.getD undef = .pointer (some ⟨g, 0, none⟩) := by simpa using hp
  simp [results, h, hp', asAddr, run_loadVar_row w g t ty cs fr d hg hu hd hi]
theorem wrap_signs (x y : Int) : IntKind.i64.wrap (sg x * sg y) = sg x * sg y := by
  rcases sg_cases x with h1 | h1 | h1 <;> rcases sg_cases y with h2 | h2 | h2 <;> rw [h1, h2] <;> rfl
set_option maxHeartbeats 4000000 in
theorem bigMul_ok {x y : Int} {a1 a2 : Option Addr} {c1 c2 : Nat} {w : World} (h1 : BD G w a1 c1 x) (h2 : BD G w a2 c2 y) (hx : Sz x 549755813888) (hy : Sz y 549755813888) :
    Calls Try.prog 73 #[.agg #[.int .i64 (sg x), .slice a1 (ln x) c1], .agg #[.int .i64 (sg y), .slice a2 (ln y) c2]] w fun e w' => ∃ a c, e = .returned (.tuple #[.agg #[.int .i64 (sg (x * y)), .slice a (ln (x * y)) c], .int .i64 0]) ∧ BD G w' a c (x * y) ∧ Below w.heap.size w w' := by
  have HM1 := Lib.hid (mul_signs x y)
  have HM2 := Lib.hid (mul_sign_one x y)
  have hws := wrap_signs x y
  have HX := Lib.hid hx
  have HY := Lib.hid hy
  have H1 := Lib.hid h1
  have H2 := Lib.hid h2
  obtain ⟨z, hz⟩ : ∃ z, z = x * y := ⟨_, rfl⟩
  rw [← hz]
  have HZ := Lib.hid hz
  clear hx hy h1 h2 hz
  go_enter Try.func73, Try.ntmps73
  go_wp2_with fail
  refine (bigRight_ok (G := G) (z := x) ?_ (HX.out.mono (by omega))).mono ?_
  · exact H1.out.keep (by go_grown)
  rintro e w1 ⟨rfl, hb⟩
  obtain ⟨B1, B2, B3⟩ := bx3 w 32 32 32 #[.int .i64 (sg x), .slice a1 (ln x) c1] #[.int .i64 (sg y), .slice a2 (ln y) c2] #[.int .i64 0, .slice none 0 0]
  have K1 := Lib.hid (B1.keep hb)
  have K2 := Lib.hid (B2.keep hb)
  have K3 := Lib.hid (B3.keep hb)
  have HB : Hid (Below w.heap.size w w1) := below_call (by go_grown) hb
  clear B1 B2 B3 hb
  obtain ⟨p1, p1'⟩ := K1.out.at
  obtain ⟨p2, p2'⟩ := K2.out.at
  obtain ⟨p3, p3'⟩ := K3.out.at
  go_wp2_with fail
  refine (bigRight_ok (G := G) (z := y) ?_ (HY.out.mono (by omega))).mono ?_
  · exact H2.out.keep (below_call HB.out (by go_grown))
  rintro e w2 ⟨rfl, hb⟩
  have hb' := below_call (by go_grown) hb
  clear p1 p1' p2 p2' p3 p3'
  have K1 := Lib.hid (K1.out.keep hb')
  have K2 := Lib.hid (K2.out.keep hb')
  have K3 := Lib.hid (K3.out.keep hb')
  have HB := Lib.hid (below_call HB.out hb')
  obtain ⟨p1, p1'⟩ := K1.out.at
  obtain ⟨p2, p2'⟩ := K2.out.at
  obtain ⟨p3, p3'⟩ := K3.out.at
  clear hb hb'
  go_wp2_with fail
  clear p1 p1' p2 p2' p3 p3'
  have mk : Hid (∀ w', w2.grownBy w' (some (w.heap.size + 1 + 1)) → w'.cell? ⟨w.heap.size, 0, none⟩ = some (.int .i64 (sg x)) ∧ w'.cell? ⟨w.heap.size, 1, none⟩ = some (.slice a1 (ln x) c1) ∧ w'.cell? ⟨w.heap.size + 1, 0, none⟩ = some (.int .i64 (sg y)) ∧ w'.cell? ⟨w.heap.size + 1, 1, none⟩ = some (.slice a2 (ln y) c2) ∧ w2.grownBy w' (some (w.heap.size + 1 + 1))) := fun w' h =>
    ⟨(K1.out.only h (by omega)).at.1 0, (K1.out.only h (by omega)).at.1 1, (K2.out.only h (by omega)).at.1 0, (K2.out.only h (by omega)).at.1 1, h⟩
  have hst := only_start w2 (w.heap.size + 1 + 1)
  go_region_held3 (fun w' => w'.cell? ⟨w.heap.size, 0, none⟩ = some (.int .i64 (sg x)) ∧ w'.cell? ⟨w.heap.size, 1, none⟩ = some (.slice a1 (ln x) c1) ∧ w'.cell? ⟨w.heap.size + 1, 0, none⟩ = some (.int .i64 (sg y)) ∧ w'.cell? ⟨w.heap.size + 1, 1, none⟩ = some (.slice a2 (ln y) c2) ∧ w2.grownBy w' (some (w.heap.size + 1 + 1)))
    (first | exact mk.out _ (by assumption) | exact mk.out _ (only_setCell (only_setCell (by assumption) _) _))
    (first
      | (go_at_call 85; refine (bigMul_any _ _ _ _ _ (H1.out.rd.keep (only_below HB.out hst (by omega))) (H2.out.rd.keep (only_below HB.out hst (by omega))) (digs_small _) (digs_small _) (HX.out.mono (by omega)) (HY.out.mono (by omega))).mono ?_; rintro e w3 ⟨v3, rfl, ho3, hb3⟩; have hg3 := only_call hst hb3; have HB3 := Lib.hid (below_call (Below.refl _ _).drew hb3); clear hb3; rw [val_digs, val_digs] at ho3; have HO3 := Lib.hid ho3; clear ho3)
      | (go_at_call 57; refine (signed_is (G := G) (z := z) HO3.out (mul_room HX.out HY.out) (HM1.out.trans HZ.out.symm) HM2.out).mono ?_; rintro e w4 ⟨a4, c4, rfl, hd4, hb4⟩; have hg4 := only_call hg3 hb4; have HB4 := Lib.hid (below_call HB3.out hb4); have HD4 := Lib.hid hd4; clear hb4 hd4)
      | (go_at_call 68; refine (checked_yes _).mono ?_; rintro e w5 ⟨rfl, hb5⟩; have hg5 := only_call hg4 hb5; have HB5 := Lib.hid (below_call HB4.out hb5); obtain ⟨q1, q2⟩ := (K3.out.keep HB5.out).at; have HD5 := Lib.hid (HD4.out.keep hb5); clear hb5))
  go_wp2_with fail
  refine bodyPost_ret (results_box2 rfl _ _ (w.heap.size + 1 + 1) 32 _ _ _ rfl ((K3.out.keep HB5.out).set2 _ _) Try.underlying32 rfl (by kernel_rfl)) rfl ⟨a4, c4, rfl, ?_, ?_⟩
  · exact HD5.out.far0 (K3.out.keep HB5.out) zb2 (only_setCell (only_setCell (World.grownBy.refl _ _) _) _)
  · exact only_below HB.out (only_setCell (only_setCell hg5 _) _) (by omega)
end Go.Proofs.Ytpjpkcelajbfnaa
namespace Go.Proofs.Ytpjpkcelajbfnaa
open Go.RowKit

/-- A certificate: its scale, its first and its last day, its units, its share in thousandths, its drift. -/
structure Ct where
  s : Int
  f : Int
  u : Int
  n : Int
  p : Int
  d : Int
/-- A recall: its scale, its day. -/
structure Rc where
  s : Int
  t : Int
def cCells (c : Ct) : List Value := [.int .i64 c.s, .int .i64 c.f, .int .i64 c.u, .int .i64 c.n, .int .i64 c.p, .int .i64 c.d]
def rcCells (r : Rc) : List Value := [.int .i64 r.s, .int .i64 r.t]
def inR (n lo hi : Int) : Bool := decide (lo ≤ n) && decide (n ≤ hi)
def daysC (c : Ct) : Bool := decide (0 ≤ c.f) && decide (c.f ≤ c.u) && decide (c.u ≤ 100000)
def rightC (c : Ct) : Bool := daysC c && decide (0 ≤ c.s) && inR c.n 0 1099511627776 && inR c.p 0 1000 && inR c.d 0 10000000
def coversC (c : Ct) (day : Int) : Bool := rightC c && decide (c.f ≤ day) && decide (day ≤ c.u)
theorem within_ok (n m : Int) (w : World) : Calls Try.prog 29 #[.int .i64 n, .int .i64 m] w fun e w' => e = .returned (.bool (inR n 0 m)) ∧ w = w' := by
  unfold inR
  obtain ⟨b1, h1⟩ : ∃ b, b = decide (0 ≤ n) := ⟨_, rfl⟩
  obtain ⟨b2, h2⟩ : ∃ b, b = decide (n ≤ m) := ⟨_, rfl⟩
  rw [← h1, ← h2]
  replace h1 := h1.symm
  replace h2 := h2.symm
  go_enter Try.func29, Try.ntmps29
  cases b1
  · go_wp2_with fail
    go_ret
    exact ⟨rfl, rfl⟩
  · go_wp2_with fail
    go_ret
    exact ⟨rfl, rfl⟩
set_option maxHeartbeats 4000000 in
theorem scRight_ok (c : Ct) (w : World) : Calls Try.prog 17 #[.agg (cCells c).toArray] w fun e w' => e = .returned (.bool (rightC c)) ∧ Below w.heap.size w w' := by
  obtain ⟨s, f, u, n, p, d⟩ := c
  unfold rightC daysC cCells
  show Calls _ _ #[.agg #[.int .i64 s, .int .i64 f, .int .i64 u, .int .i64 n, .int .i64 p, .int .i64 d]] _ _
  obtain ⟨b1, h1⟩ : ∃ b, b = decide (0 ≤ f) := ⟨_, rfl⟩
  obtain ⟨b2, h2⟩ : ∃ b, b = decide (f ≤ u) := ⟨_, rfl⟩
  obtain ⟨b3, h3⟩ : ∃ b, b = decide (u ≤ 100000) := ⟨_, rfl⟩
  obtain ⟨b4, h4⟩ : ∃ b, b = decide (0 ≤ s) := ⟨_, rfl⟩
  obtain ⟨b5, h5⟩ : ∃ b, b = inR n 0 1099511627776 := ⟨_, rfl⟩
  obtain ⟨b6, h6⟩ : ∃ b, b = inR p 0 1000 := ⟨_, rfl⟩
  obtain ⟨b7, h7⟩ : ∃ b, b = inR d 0 10000000 := ⟨_, rfl⟩
  rw [← h1, ← h2, ← h3, ← h4, ← h5, ← h6, ← h7]
  replace h1 := h1.symm
  replace h2 := h2.symm
  replace h3 := h3.symm
  replace h4 := h4.symm
  have H5 := Lib.hid h5
  have H6 := Lib.hid h6
  have H7 := Lib.hid h7
  clear h5 h6 h7
  go_enter Try.func17, Try.ntmps17
  go_wp2_with (go_at_call 29; refine (within_ok _ _ _).mono ?_; rintro e w' ⟨rfl, rfl⟩; first | rw [← H5.out] | rw [← H6.out] | rw [← H7.out])
  all_goals (go_ret; exact ⟨ret_bool (by simp [*]), by go_grown⟩)
set_option maxHeartbeats 4000000 in
theorem covers_ok (c : Ct) (day : Int) (w : World) : Calls Try.prog 27 #[.agg (cCells c).toArray, .int .i64 day] w fun e w' => e = .returned (.bool (coversC c day)) ∧ Below w.heap.size w w' := by
  obtain ⟨s, f, u, n, p, d⟩ := c
  unfold coversC cCells
  show Calls _ _ #[.agg #[.int .i64 s, .int .i64 f, .int .i64 u, .int .i64 n, .int .i64 p, .int .i64 d], .int .i64 day] _ _
  obtain ⟨b1, h1⟩ : ∃ b, b = rightC ⟨s, f, u, n, p, d⟩ := ⟨_, rfl⟩
  obtain ⟨b2, h2⟩ : ∃ b, b = decide (f ≤ day) := ⟨_, rfl⟩
  obtain ⟨b3, h3⟩ : ∃ b, b = decide (day ≤ u) := ⟨_, rfl⟩
  rw [← h1, ← h2, ← h3]
  replace h2 := h2.symm
  replace h3 := h3.symm
  have H1 := Lib.hid h1
  clear h1
  go_enter Try.func27, Try.ntmps27
  go_wp2_with fail
  refine (scRight_ok ⟨s, f, u, n, p, d⟩ _).mono ?_
  rintro e w1 ⟨rfl, hb⟩
  rw [← H1.out]
  have K0 := Lib.hid ((bx1 w 25 #[.int .i64 s, .int .i64 f, .int .i64 u, .int .i64 n, .int .i64 p, .int .i64 d]).keep hb)
  have HB : Hid (Below w.heap.size w w1) := below_call (by go_grown) hb
  clear hb
  have p1 : w1.cell? ⟨w.heap.size, 1, none⟩ = some (.int .i64 f) := K0.out.at.1 1
  have p2 : w1.cell? ⟨w.heap.size, 2, none⟩ = some (.int .i64 u) := K0.out.at.1 2
  go_wp2_with fail
  all_goals (go_ret; exact ⟨ret_bool (by simp [*]), HB.out⟩)
end Go.Proofs.Ytpjpkcelajbfnaa
