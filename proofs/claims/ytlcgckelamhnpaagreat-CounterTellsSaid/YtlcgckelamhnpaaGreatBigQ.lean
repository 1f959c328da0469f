/- Walks: quotient and remainder of big integers. -/
import Derived.Test.YtlcgckelamhnpaaGreatBigL
import Derived.Deep.RegionHeld3
import Derived.Deep.DeepFit
set_option maxRecDepth 100000
set_option maxHeartbeats 4000000
namespace Go.Proofs.YtlcgckelamhnpaaGreat
open Go.RowKit
variable {G : Nat}
theorem sign_cases (z : Int) : z.sign = 1 ∨ z.sign = -1 ∨ z.sign = 0 := by
 rcases Int.lt_trichotomy z 0 with h | h | h
 · exact .inr (.inl (Int.sign_eq_neg_one_of_neg h))
 · exact .inr (.inr (by rw [h]; rfl))
 · exact .inl (Int.sign_eq_one_of_pos h)
theorem sign_mul_abs (z : Int) : z.sign * (z.natAbs : Int) = z := Int.sign_mul_natAbs z
theorem rightB_is (z : Int) : rightB (sg z) (ints (digs z.natAbs)) = true := by
 unfold sg
 have h1 : (ints (digs z.natAbs)).all digitOk = true := by
  rw [List.all_eq_true]
  intro d hd
  simp only [ints, List.mem_map] at hd; obtain ⟨k, hk, rfl⟩ := hd; have := digs_small _ k hk; exact digitOk_yes (by omega) (by omega)
 rw [rightB, h1, Bool.true_and]
 by_cases h0 : ints (digs z.natAbs) = []
 · rw [if_pos h0]
   have h2 : digs z.natAbs = [] := by simpa [ints] using h0
   have h3 : z = 0 := by have := digs_nil.1 h2; omega
   rw [h3]; rfl
 · rw [if_neg h0]
   have h2 : (ints (digs z.natAbs)).getLast? ≠ some 0 := by
    have := digs_last z.natAbs; simp only [ints, List.getLast?_map]
    intro h
    cases hl : (digs z.natAbs).getLast? with
    | none => rw [hl] at h; cases h
    | some d => rw [hl] at h this; simp at h; subst h; exact this rfl
   have h3 : z ≠ 0 := by rintro rfl; exact h0 rfl
   rcases sign_cases z with h | h | h
   · simp [h, h2]
   · simp [h, h2]
   · exact absurd (Int.sign_eq_zero_iff_zero.1 h) h3
def Bx (w : World) (g : Nat) (T : TypeId) (cs : Array Value) : Prop := w.heap[g]? = some (.cells cs T (0, 0))
theorem Bx.lt {w : World} {g : Nat} {T : TypeId} {cs : Array Value} (h : Bx w g T cs) : g < w.heap.size := by
 rcases Nat.lt_or_ge g w.heap.size with hlt | hge
 · exact hlt
 · unfold Bx at h; rw [Array.getElem?_eq_none hge] at h; cases h
theorem Bx.keep {w w' : World} {g : Nat} {T : TypeId} {cs : Array Value} (h : Bx w g T cs) (hb : Below w.heap.size w w') : Bx w' g T cs := (hb.block g h.lt).trans h
theorem Bx.at {w : World} {g : Nat} {T : TypeId} {cs : Array Value} (h : Bx w g T cs) : (∀ j, w.cell? ⟨g, j, none⟩ = cs[j]?) ∧ (∀ j, w.frozen? ⟨g, j, none⟩ = false) := by
 unfold Bx at h; exact ⟨fun j => by simp [World.cell?, h], fun j => by simp [World.frozen?, h]⟩
theorem Bx.new (w : World) (T : TypeId) (cs : Array Value) : Bx (w.alloc (.cells cs T)) w.heap.size T cs := by unfold Bx; show (w.heap.push _)[w.heap.size]? = _; simp
theorem below_call {w1 W w2 : World} (h : Below w1.heap.size w1 W) (h2 : Below W.heap.size W w2) : Below w1.heap.size w1 w2 := h.trans (h2.mono h.size)
theorem below_alloc (w : World) (o : Obj) : Below w.heap.size w (w.alloc o) := (Below.refl _ _).alloc (Nat.le_refl _) o
theorem bx1 (w : World) (T : TypeId) (c1 : Array Value) : Bx (w.alloc (.cells c1 T)) w.heap.size T c1 := Bx.new w T c1
theorem Bx.d1 {w : World} {g : Nat} {T : TypeId} {u0 : Value} (h : Bx w g T #[u0]) : w.cell? ⟨g, 0, none⟩ = some u0 :=
 h.at.1 0
theorem Bx.d2 {w : World} {g : Nat} {T : TypeId} {u0 u1 : Value} (h : Bx w g T #[u0, u1]) : w.cell? ⟨g, 0, none⟩ = some u0 ∧ w.cell? ⟨g, 1, none⟩ = some u1 :=
 ⟨h.at.1 0, h.at.1 1⟩
theorem Bx.d4 {w : World} {g : Nat} {T : TypeId} {u0 u1 u2 u3 : Value} (h : Bx w g T #[u0, u1, u2, u3]) : w.cell? ⟨g, 0, none⟩ = some u0 ∧ w.cell? ⟨g, 1, none⟩ = some u1 ∧ w.cell? ⟨g, 2, none⟩ = some u2 ∧ w.cell? ⟨g, 3, none⟩ = some u3 :=
 ⟨h.at.1 0, h.at.1 1, h.at.1 2, h.at.1 3⟩
theorem Bx.d8 {w : World} {g : Nat} {T : TypeId} {u0 u1 u2 u3 u4 u5 u6 u7 : Value} (h : Bx w g T #[u0, u1, u2, u3, u4, u5, u6, u7]) : w.cell? ⟨g, 0, none⟩ = some u0 ∧ w.cell? ⟨g, 1, none⟩ = some u1 ∧ w.cell? ⟨g, 2, none⟩ = some u2 ∧ w.cell? ⟨g, 3, none⟩ = some u3 ∧ w.cell? ⟨g, 4, none⟩ = some u4 ∧ w.cell? ⟨g, 5, none⟩ = some u5 ∧ w.cell? ⟨g, 6, none⟩ = some u6 ∧ w.cell? ⟨g, 7, none⟩ = some u7 :=
 ⟨h.at.1 0, h.at.1 1, h.at.1 2, h.at.1 3, h.at.1 4, h.at.1 5, h.at.1 6, h.at.1 7⟩
theorem cj2 {a0_ a1_ C : Prop} (h : a0_ ∧ a1_) (k : a0_ → a1_ → C) : C :=
 k h.1 h.2
theorem cj3 {a0_ a1_ a2_ C : Prop} (h : a0_ ∧ a1_ ∧ a2_) (k : a0_ → a1_ → a2_ → C) : C :=
 k h.1 h.2.1 h.2.2
theorem cj4 {a0_ a1_ a2_ a3_ C : Prop} (h : a0_ ∧ a1_ ∧ a2_ ∧ a3_) (k : a0_ → a1_ → a2_ → a3_ → C) : C :=
 k h.1 h.2.1 h.2.2.1 h.2.2.2
theorem cj6 {a0_ a1_ a2_ a3_ a4_ a5_ C : Prop} (h : a0_ ∧ a1_ ∧ a2_ ∧ a3_ ∧ a4_ ∧ a5_) (k : a0_ → a1_ → a2_ → a3_ → a4_ → a5_ → C) : C :=
 k h.1 h.2.1 h.2.2.1 h.2.2.2.1 h.2.2.2.2.1 h.2.2.2.2.2
theorem cj8 {a0_ a1_ a2_ a3_ a4_ a5_ a6_ a7_ C : Prop} (h : a0_ ∧ a1_ ∧ a2_ ∧ a3_ ∧ a4_ ∧ a5_ ∧ a6_ ∧ a7_) (k : a0_ → a1_ → a2_ → a3_ → a4_ → a5_ → a6_ → a7_ → C) : C :=
 k h.1 h.2.1 h.2.2.1 h.2.2.2.1 h.2.2.2.2.1 h.2.2.2.2.2.1 h.2.2.2.2.2.2.1 h.2.2.2.2.2.2.2
theorem cj9 {a0_ a1_ a2_ a3_ a4_ a5_ a6_ a7_ a8_ C : Prop} (h : a0_ ∧ a1_ ∧ a2_ ∧ a3_ ∧ a4_ ∧ a5_ ∧ a6_ ∧ a7_ ∧ a8_) (k : a0_ → a1_ → a2_ → a3_ → a4_ → a5_ → a6_ → a7_ → a8_ → C) : C :=
 k h.1 h.2.1 h.2.2.1 h.2.2.2.1 h.2.2.2.2.1 h.2.2.2.2.2.1 h.2.2.2.2.2.2.1 h.2.2.2.2.2.2.2.1 h.2.2.2.2.2.2.2.2
theorem cj16 {a0_ a1_ a2_ a3_ a4_ a5_ a6_ a7_ a8_ a9_ a10_ a11_ a12_ a13_ a14_ a15_ C : Prop} (h : a0_ ∧ a1_ ∧ a2_ ∧ a3_ ∧ a4_ ∧ a5_ ∧ a6_ ∧ a7_ ∧ a8_ ∧ a9_ ∧ a10_ ∧ a11_ ∧ a12_ ∧ a13_ ∧ a14_ ∧ a15_) (k : a0_ → a1_ → a2_ → a3_ → a4_ → a5_ → a6_ → a7_ → a8_ → a9_ → a10_ → a11_ → a12_ → a13_ → a14_ → a15_ → C) : C :=
 k h.1 h.2.1 h.2.2.1 h.2.2.2.1 h.2.2.2.2.1 h.2.2.2.2.2.1 h.2.2.2.2.2.2.1 h.2.2.2.2.2.2.2.1 h.2.2.2.2.2.2.2.2.1 h.2.2.2.2.2.2.2.2.2.1 h.2.2.2.2.2.2.2.2.2.2.1 h.2.2.2.2.2.2.2.2.2.2.2.1 h.2.2.2.2.2.2.2.2.2.2.2.2.1 h.2.2.2.2.2.2.2.2.2.2.2.2.2.1 h.2.2.2.2.2.2.2.2.2.2.2.2.2.2.1 h.2.2.2.2.2.2.2.2.2.2.2.2.2.2.2
theorem Bx.w2 {w : World} {g : Nat} {T : TypeId} {u0 u1 : Value} {C : Prop} (h : Bx w g T #[u0, u1]) (k : w.cell? ⟨g, 0, none⟩ = some u0 → w.frozen? ⟨g, 0, none⟩ = false → w.cell? ⟨g, 1, none⟩ = some u1 → w.frozen? ⟨g, 1, none⟩ = false → g < w.heap.size → C) : C :=
 k (h.at.1 0) (h.at.2 0) (h.at.1 1) (h.at.2 1) h.lt
theorem Bx.w4 {w : World} {g : Nat} {T : TypeId} {u0 u1 u2 u3 : Value} {C : Prop} (h : Bx w g T #[u0, u1, u2, u3]) (k : w.cell? ⟨g, 0, none⟩ = some u0 → w.frozen? ⟨g, 0, none⟩ = false → w.cell? ⟨g, 1, none⟩ = some u1 → w.frozen? ⟨g, 1, none⟩ = false → w.cell? ⟨g, 2, none⟩ = some u2 → w.frozen? ⟨g, 2, none⟩ = false → w.cell? ⟨g, 3, none⟩ = some u3 → w.frozen? ⟨g, 3, none⟩ = false → g < w.heap.size → C) : C :=
 k (h.at.1 0) (h.at.2 0) (h.at.1 1) (h.at.2 1) (h.at.1 2) (h.at.2 2) (h.at.1 3) (h.at.2 3) h.lt
theorem Bx.t1 {w : World} {g : Nat} {T : TypeId} {u0 : Value} {R : Prop} (h : Bx w g T #[u0]) (k : R) : w.cell? ⟨g, 0, none⟩ = some u0 ∧ R :=
 ⟨h.at.1 0, k⟩
theorem Bx.t2 {w : World} {g : Nat} {T : TypeId} {u0 u1 : Value} {R : Prop} (h : Bx w g T #[u0, u1]) (k : R) : w.cell? ⟨g, 0, none⟩ = some u0 ∧ w.cell? ⟨g, 1, none⟩ = some u1 ∧ R :=
 ⟨h.at.1 0, h.at.1 1, k⟩
theorem Bx.t3 {w : World} {g : Nat} {T : TypeId} {u0 u1 u2 : Value} {R : Prop} (h : Bx w g T #[u0, u1, u2]) (k : R) : w.cell? ⟨g, 0, none⟩ = some u0 ∧ w.cell? ⟨g, 1, none⟩ = some u1 ∧ w.cell? ⟨g, 2, none⟩ = some u2 ∧ R :=
 ⟨h.at.1 0, h.at.1 1, h.at.1 2, k⟩
theorem Bx.t4 {w : World} {g : Nat} {T : TypeId} {u0 u1 u2 u3 : Value} {R : Prop} (h : Bx w g T #[u0, u1, u2, u3]) (k : R) : w.cell? ⟨g, 0, none⟩ = some u0 ∧ w.cell? ⟨g, 1, none⟩ = some u1 ∧ w.cell? ⟨g, 2, none⟩ = some u2 ∧ w.cell? ⟨g, 3, none⟩ = some u3 ∧ R :=
 ⟨h.at.1 0, h.at.1 1, h.at.1 2, h.at.1 3, k⟩
theorem Bx.t6 {w : World} {g : Nat} {T : TypeId} {u0 u1 u2 u3 u4 u5 : Value} {R : Prop} (h : Bx w g T #[u0, u1, u2, u3, u4, u5]) (k : R) : w.cell? ⟨g, 0, none⟩ = some u0 ∧ w.cell? ⟨g, 1, none⟩ = some u1 ∧ w.cell? ⟨g, 2, none⟩ = some u2 ∧ w.cell? ⟨g, 3, none⟩ = some u3 ∧ w.cell? ⟨g, 4, none⟩ = some u4 ∧ w.cell? ⟨g, 5, none⟩ = some u5 ∧ R :=
 ⟨h.at.1 0, h.at.1 1, h.at.1 2, h.at.1 3, h.at.1 4, h.at.1 5, k⟩
theorem Bx.t9 {w : World} {g : Nat} {T : TypeId} {u0 u1 u2 u3 u4 u5 u6 u7 u8 : Value} {R : Prop} (h : Bx w g T #[u0, u1, u2, u3, u4, u5, u6, u7, u8]) (k : R) : w.cell? ⟨g, 0, none⟩ = some u0 ∧ w.cell? ⟨g, 1, none⟩ = some u1 ∧ w.cell? ⟨g, 2, none⟩ = some u2 ∧ w.cell? ⟨g, 3, none⟩ = some u3 ∧ w.cell? ⟨g, 4, none⟩ = some u4 ∧ w.cell? ⟨g, 5, none⟩ = some u5 ∧ w.cell? ⟨g, 6, none⟩ = some u6 ∧ w.cell? ⟨g, 7, none⟩ = some u7 ∧ w.cell? ⟨g, 8, none⟩ = some u8 ∧ R :=
 ⟨h.at.1 0, h.at.1 1, h.at.1 2, h.at.1 3, h.at.1 4, h.at.1 5, h.at.1 6, h.at.1 7, h.at.1 8, k⟩
theorem aI {a b : Prop} (h : a) (k : b) : a ∧ b := ⟨h, k⟩
theorem nmW {α : Type} {C : Prop} (x : α) (k : ∀ v, v = x → C) : C :=
 k x rfl
theorem bx2 (w : World) (T1 T2 : TypeId) (c1 c2 : Array Value) : Bx ((w.alloc (.cells c1 T1)).alloc (.cells c2 T2)) w.heap.size T1 c1 ∧ Bx ((w.alloc (.cells c1 T1)).alloc (.cells c2 T2)) (w.heap.size + 1) T2 c2 :=
 ⟨(Bx.new w T1 c1).keep (below_alloc _ _), by have := Bx.new (w.alloc (.cells c1 T1)) T2 c2; simpa using this⟩
theorem bx3 (w : World) (T1 T2 T3 : TypeId) (c1 c2 c3 : Array Value) : Bx (((w.alloc (.cells c1 T1)).alloc (.cells c2 T2)).alloc (.cells c3 T3)) w.heap.size T1 c1 ∧
 Bx (((w.alloc (.cells c1 T1)).alloc (.cells c2 T2)).alloc (.cells c3 T3)) (w.heap.size + 1) T2 c2 ∧ Bx (((w.alloc (.cells c1 T1)).alloc (.cells c2 T2)).alloc (.cells c3 T3)) (w.heap.size + 1 + 1) T3 c3 :=
 ⟨(bx2 w T1 T2 c1 c2).1.keep (below_alloc _ _), (bx2 w T1 T2 c1 c2).2.keep (below_alloc _ _), by have := Bx.new ((w.alloc (.cells c1 T1)).alloc (.cells c2 T2)) T3 c3; simpa using this⟩
def Sz (z : Int) (n : Nat) : Prop := (digs z.natAbs).length ≤ n
theorem mul_room {x y : Int} (hx : Sz x 549755813888) (hy : Sz y 549755813888) : (digs (x.natAbs * y.natAbs)).length ≤ 8796093022208 := by
 unfold Sz at *; have := digs_len_mul x.natAbs y.natAbs; omega
theorem Sz.mono {z : Int} {n m : Nat} (h : Sz z n) (hm : n ≤ m) : Sz z m := Nat.le_trans h hm
theorem Sz.neg {z : Int} {n : Nat} (h : Sz z n) : Sz (-z) n := by unfold Sz; rw [Int.natAbs_neg]; exact h
theorem Sz.mul {x y : Int} {n m : Nat} (h : Sz x n) (h' : Sz y m) : Sz (x * y) (n + m) := by
 unfold Sz at *; rw [Int.natAbs_mul]; have := digs_len_mul x.natAbs y.natAbs; omega
theorem Sz.le {x y : Int} {n : Nat} (h : Sz x n) (hy : y.natAbs ≤ x.natAbs) : Sz y n := Nat.le_trans (digs_len_mono hy) h
theorem Sz.add {x y : Int} {n : Nat} (h : Sz x n) (h' : Sz y n) : Sz (x + y) (n + 1) := by
 unfold Sz at *; have h1 := digs_len_add x.natAbs y.natAbs; have h2 : (digs (x + y).natAbs).length ≤ (digs (x.natAbs + y.natAbs)).length := digs_len_mono (by omega)
 omega
theorem Sz.sub {x y : Int} {n : Nat} (h : Sz x n) (h' : Sz y n) : Sz (x - y) (n + 1) := by rw [Int.sub_eq_add_neg]; exact h.add h'.neg
theorem bigRight_ok {z : Int} {a : Option Addr} {c : Nat} {w : World} (h : BD G w a c z) (hn : Sz z 1099511627776) :
 Calls Tryz.prog 67 #[.agg #[.int .i64 (sg z), .slice a (ln z) c]] w fun e w' => e = .returned (.bool true) ∧ Below w.heap.size w w' := by
 have := bigRight_any (sg z) (.slice a (ln z) c) (ints (digs z.natAbs)) w h.rd (by rw [ints_len]; exact hn)
 rwa [rightB_is] at this
theorem bx4 (w : World) (T1 T2 T3 T4 : TypeId) (c1 c2 c3 c4 : Array Value) : let W := ((((w.alloc (.cells c1 T1)).alloc (.cells c2 T2)).alloc (.cells c3 T3)).alloc (.cells c4 T4))
 Bx W w.heap.size T1 c1 ∧ Bx W (w.heap.size + 1) T2 c2 ∧ Bx W (w.heap.size + 1 + 1) T3 c3 ∧ Bx W (w.heap.size + 1 + 1 + 1) T4 c4 := by
 obtain ⟨h1, h2, h3⟩ := bx3 w T1 T2 T3 c1 c2 c3; exact ⟨h1.keep (below_alloc _ _), h2.keep (below_alloc _ _), h3.keep (below_alloc _ _), by have := Bx.new (((w.alloc (.cells c1 T1)).alloc (.cells c2 T2)).alloc (.cells c3 T3)) T4 c4; simpa using this⟩
theorem only_below {w w2 wx : World} {g : Nat} (h : Below w.heap.size w w2) (hg : w2.grownBy wx (some g)) (hle : w.heap.size ≤ g) : Below w.heap.size w wx :=
 h.trans ⟨hg.os, hg.tape, hg.output, hg.size, fun k hk => hg.block k (Nat.lt_of_lt_of_le hk h.size) (by simp; omega)⟩
theorem only_call {w2 wx w' : World} {g : Nat} (hg : w2.grownBy wx (some g)) (hb : Below wx.heap.size wx w') : w2.grownBy w' (some g) :=
 ⟨hb.os.trans hg.os, hb.tape.trans hg.tape, hb.output.trans hg.output, Nat.le_trans hg.size hb.size, fun k hk hne => (hb.block k (Nat.lt_of_lt_of_le hk hg.size)).trans (hg.block k hk hne)⟩
theorem only_start (w : World) (g : Nat) : w.grownBy w.drew (some g) := ⟨rfl, rfl, rfl, Nat.le_refl _, fun _ _ _ => rfl⟩
theorem Bx.only {w w' : World} {g g' : Nat} {T : TypeId} {cs : Array Value} (h : Bx w g T cs) (hb : w.grownBy w' (some g')) (hne : g ≠ g') : Bx w' g T cs := (hb.block g h.lt (by simp; exact hne)).trans h
theorem Bx.set {w : World} {g : Nat} {T : TypeId} {cs : Array Value} (h : Bx w g T cs) (i : Nat) (u : Value) : Bx (w.setCell ⟨g, i, none⟩ u) g T (cs.setIfInBounds i u) := by
 unfold Bx at h ⊢
 simp [World.setCell, Array.getElem?_modify, h]
theorem Bx.set2 {w : World} {g : Nat} {T : TypeId} {u0 u1 : Value} (h : Bx w g T #[u0, u1]) (x y : Value) : Bx ((w.setCell ⟨g, 0, none⟩ x).setCell ⟨g, 1, none⟩ y) g T #[x, y] := by
 have := (h.set 0 x).set 1 y; simpa using this
theorem Bx.set4 {w : World} {g : Nat} {T : TypeId} {u0 u1 u2 u3 : Value} (h : Bx w g T #[u0, u1, u2, u3]) (x y z v : Value) : Bx ((((w.setCell ⟨g, 0, none⟩ x).setCell ⟨g, 1, none⟩ y).setCell ⟨g, 2, none⟩ z).setCell ⟨g, 3, none⟩ v) g T #[x, y, z, v] := by
 have := (((h.set 0 x).set 1 y).set 2 z).set 3 v; simpa using this
def Zb (cs : Array Value) : Prop := ∀ (j : Nat) n, cs[j]? = some (.int .i64 n) → n = 0
theorem zb2 : Zb #[.int .i64 0, .slice none 0 0] := by
 intro j n h
 match j, h with
 | 0, h => simp at h; exact h.symm
 | 1, h => simp at h
 | j + 2, h => simp at h
theorem zb4 : Zb #[.int .i64 0, .slice none 0 0, .int .i64 0, .slice none 0 0] := by
 intro j n h
 match j, h with
 | 0, h => simp at h; exact h.symm
 | 1, h => simp at h
 | 2, h => simp at h; exact h.symm
 | 3, h => simp at h
 | j + 4, h => simp at h
theorem BD.other {w w' : World} {g : Nat} {a : Option Addr} {c : Nat} {z : Int} (h : BD G w a c z) (hg : w.grownBy w' (some g)) (hne : ∀ b off, a = some ⟨b, off, none⟩ → b ≠ g) : BD G w' a c z := by
 refine ⟨⟨a, c, by rw [ints_len]; rfl, fun k hk => ?_⟩, h.le, ?_⟩
 rotate_left
 · rcases h.ty with h1 | h1
   · exact .inl h1
   · refine .inr fun b off ha => ?_
     rcases h1 b off ha with h2 | ⟨cs, fr, h2⟩
     · exact .inl h2
     · exact .inr ⟨cs, fr, (hg.block b (lt_of_block h2) (by have := hne b off ha; simp; exact this)).trans h2⟩
 rw [ints_len] at hk; obtain ⟨b, off, ha, hlt, hc⟩ := RdN.at h.rd hk; refine ⟨b, off, ha, Nat.lt_of_lt_of_le hlt hg.size, fun j u hj => ?_⟩
 have hg2 : (ints (digs z.natAbs))[k]? = some ((digs z.natAbs)[k] : Int) := by
  rw [List.getElem?_eq_getElem (by rw [ints_len]; exact hk), ints_get _ _ hk]
 dsimp only at hj
 rw [hg2] at hj
 match j, hj with
 | 0, hj =>
  simp at hj; subst hj
  rw [Nat.mul_one, Nat.add_zero, hg.cell hc (by have := hne b off ha; simp; exact this)]
 | j + 1, hj => simp at hj
theorem BD.far0 {w w' : World} {g : Nat} {T : TypeId} {cs : Array Value} {a : Option Addr} {c : Nat} {z : Int} (h : BD G w a c z) (k : Bx w g T cs) (hz : Zb cs) (hg : w.grownBy w' (some g)) : BD G w' a c z := by
 by_cases h0 : (digs z.natAbs).length = 0
 · exact ⟨⟨a, c, by rw [ints_len]; rfl, fun k hk => by rw [ints_len] at hk; omega⟩, h.le, .inl h0⟩
 · refine h.other hg fun b off ha hb => ?_
   subst hb; have hl : (digs z.natAbs).length - 1 < (digs z.natAbs).length := by omega
   obtain ⟨b', off', ha', -, hc⟩ := RdN.at h.rd hl; rw [ha] at ha'
   cases ha'
   rw [k.at.1] at hc; have := hz _ _ hc
   apply digs_last z.natAbs
   rw [List.getLast?_eq_getElem?, List.getElem?_eq_getElem hl]
   congr 1; omega
theorem BD.far {w w' : World} {g : Nat} {T : TypeId} {cs : Array Value} {a : Option Addr} {c : Nat} {z : Int} (h : BD G w a c z) (k : Bx w g T cs) (hT : (T == 3) = false) (hG : G ≤ g) (hg : w.grownBy w' (some g)) : BD G w' a c z := by
 rcases h.ty with h1 | h1
 · exact ⟨⟨a, c, by rw [ints_len]; rfl, fun j hj => by rw [ints_len] at hj; unfold ln at h1; omega⟩, h.le, .inl h1⟩
 · refine h.other hg fun b off ha hb => ?_
   subst hb; rcases h1 b off ha with h2 | ⟨cs', fr, h2⟩
   · omega
   · unfold Bx at k
     rw [k] at h2; simp only [Option.some.injEq, Obj.cells.injEq] at h2; rw [h2.2.1] at hT
     simp at hT
theorem checked_yes {s : Int} {a : Option Addr} {n c : Nat} (w : World) :
 Calls Tryz.prog 102 #[.bool true, .agg #[.int .i64 s, .slice a n c]] w fun e w' => e = .returned (.tuple #[.agg #[.int .i64 s, .slice a n c], .int .i64 0]) ∧ Below w.heap.size w w' := by
 go_enter Tryz.func102, Tryz.ntmps102
 go_wp2_with fail
 go_returns
 exact ⟨rfl, by go_grown⟩
theorem signed_is {z : Int} {s : Int} {v : Value} {n B : Nat} {w : World} (h : OwnN w B v (digs n)) (hn : (digs n).length ≤ 8796093022208) (hz : s * n = z) (h1 : n ≠ 0 → s = 1 ∨ s = -1) :
 Calls Tryz.prog 71 #[.int .i64 s, v] w fun e w' => ∃ a c, e = .returned (.agg #[.int .i64 (sg z), .slice a (ln z) c]) ∧ BD G w' a c z ∧ Below w.heap.size w w' :=
 (signed_any (G := G) B s v (digs n) w h (digs_small n) hn (by rw [val_digs]; exact h1)).mono fun e w' ⟨r, he, hr, hb⟩ => by
  rw [val_digs, hz] at hr; obtain ⟨a, c, rfl, hd⟩ := hr; exact ⟨a, c, he, hd, hb⟩
theorem mul_signs (x y : Int) : sg x * sg y * ((x.natAbs * y.natAbs : Nat) : Int) = x * y := by
 have h1 := sign_mul_abs x; have h2 := sign_mul_abs y; have h3 : ((x.natAbs * y.natAbs : Nat) : Int) = (x.natAbs : Int) * (y.natAbs : Int) := by simp
 unfold sg
 calc x.sign * y.sign * ((x.natAbs * y.natAbs : Nat) : Int) = (x.sign * (x.natAbs : Int)) * (y.sign * (y.natAbs : Int)) := by rw [h3]; grind
  _ = x * y := by rw [h1, h2]
theorem sg_cases (z : Int) : sg z = 1 ∨ sg z = -1 ∨ sg z = 0 := sign_cases z
theorem mul_sign_one (x y : Int) (h : x.natAbs * y.natAbs ≠ 0) : sg x * sg y = 1 ∨ sg x * sg y = -1 := by
 have hx : x ≠ 0 := by rintro rfl; simp at h
 have hy : y ≠ 0 := by rintro rfl; simp at h
 unfold sg; rcases sign_cases x with h1 | h1 | h1
 · rcases sign_cases y with h2 | h2 | h2
   · rw [h1, h2]; simp
   · rw [h1, h2]; simp
   · exact absurd (Int.sign_eq_zero_iff_zero.1 h2) hy
 · rcases sign_cases y with h2 | h2 | h2
   · rw [h1, h2]; simp
   · rw [h1, h2]; simp
   · exact absurd (Int.sign_eq_zero_iff_zero.1 h2) hy
 · exact absurd (Int.sign_eq_zero_iff_zero.1 h1) hx
theorem sg_ne {x : Int} (h : x ≠ 0) : sg x = 1 ∨ sg x = -1 := by
 rcases sg_cases x with h1 | h1 | h1
 · exact .inl h1
 · exact .inr h1
 · exact absurd (Int.sign_eq_zero_iff_zero.1 h1) h
theorem results_box1 {P : Program} {fn : Func} {p : Tmp} {ty : TypeId} (h : fn.results = #[.cell p ty]) (tmps : Array Value) (w : World) (g : Nat) (t : TypeId) (cs : Array Value) (fr : Nat × Nat) (d : TypeDesc)
 (hp : tmps.getD p undef = .pointer (some ⟨g, 0, none⟩)) (hg : w.heap[g]? = some (.cells cs t fr))
 (hu : P.underlying ty = some d) (hd : (match d with | .struct _ | .array _ _ => true | _ => false) = true) (hi : (P.info? ty).map (·.size) = some cs.size) :
 (results fn tmps).run P w = .ok (.agg cs) w := by
 have hp' : tmps[p]?.getD undef = .pointer (some ⟨g, 0, none⟩) := by simpa using hp
 simp [results, h, hp', asAddr, run_loadVar_row w g t ty cs fr d hg hu hd hi]
theorem wrap_signs (x y : Int) : IntKind.i64.wrap (sg x * sg y) = sg x * sg y := by
 rcases sg_cases x with h1 | h1 | h1 <;> rcases sg_cases y with h2 | h2 | h2 <;> rw [h1, h2] <;> rfl
theorem bigMul_ok {x y : Int} {a1 a2 : Option Addr} {c1 c2 : Nat} {w : World} (h1 : BD G w a1 c1 x) (h2 : BD G w a2 c2 y) (hx : Sz x 549755813888) (hy : Sz y 549755813888) :
 Calls Tryz.prog 101 #[.agg #[.int .i64 (sg x), .slice a1 (ln x) c1], .agg #[.int .i64 (sg y), .slice a2 (ln y) c2]] w fun e w' => ∃ a c, e = .returned (.tuple #[.agg #[.int .i64 (sg (x * y)), .slice a (ln (x * y)) c], .int .i64 0]) ∧ BD G w' a c (x * y) ∧ Below w.heap.size w w' := by
 have HM1 := Lib.hid (mul_signs x y); have HM2 := Lib.hid (mul_sign_one x y); have hws := wrap_signs x y; have HX := Lib.hid hx; have HY := Lib.hid hy; have H1 := Lib.hid h1; have H2 := Lib.hid h2; obtain ⟨z, hz⟩ : ∃ z, z = x * y := ⟨_, rfl⟩; rw [← hz]; have HZ := Lib.hid hz; clear hx hy h1 h2 hz; go_enter Tryz.func101, Tryz.ntmps101
 go_wp2_with fail
 refine (bigRight_ok (G := G) (z := x) ?_ (HX.out.mono (by omega))).mono ?_
 · exact H1.out.keep (by go_grown)
 rintro e w1 ⟨rfl, hb⟩; obtain ⟨B1, B2, B3⟩ := bx3 w 34 34 34 #[.int .i64 (sg x), .slice a1 (ln x) c1] #[.int .i64 (sg y), .slice a2 (ln y) c2] #[.int .i64 0, .slice none 0 0]; have K1 := Lib.hid (B1.keep hb); have K2 := Lib.hid (B2.keep hb); have K3 := Lib.hid (B3.keep hb); have HB : Hid (Below w.heap.size w w1) := below_call (by go_grown) hb; clear B1 B2 B3 hb; obtain ⟨p1, p1'⟩ := K1.out.at; obtain ⟨p2, p2'⟩ := K2.out.at; obtain ⟨p3, p3'⟩ := K3.out.at; go_wp2_with fail
 refine (bigRight_ok (G := G) (z := y) ?_ (HY.out.mono (by omega))).mono ?_
 · exact H2.out.keep (below_call HB.out (by go_grown))
 rintro e w2 ⟨rfl, hb⟩; have hb' := below_call (by go_grown) hb; clear p1 p1' p2 p2' p3 p3'; have K1 := Lib.hid (K1.out.keep hb'); have K2 := Lib.hid (K2.out.keep hb'); have K3 := Lib.hid (K3.out.keep hb'); have HB := Lib.hid (below_call HB.out hb'); obtain ⟨p1, p1'⟩ := K1.out.at; obtain ⟨p2, p2'⟩ := K2.out.at; obtain ⟨p3, p3'⟩ := K3.out.at; clear hb hb'; go_wp2_with fail
 clear p1 p1' p2 p2' p3 p3'
 have mk := Lib.hid fun w' (h : w2.grownBy w' (some (w.heap.size + 1 + 1))) => (K1.out.only h (by omega)).t2 ((K2.out.only h (by omega)).t2 h)
 have hst := only_start w2 (w.heap.size + 1 + 1)
 go_region_held3 (fun w' => w'.cell? ⟨w.heap.size, 0, none⟩ = some (.int .i64 (sg x)) ∧ w'.cell? ⟨w.heap.size, 1, none⟩ = some (.slice a1 (ln x) c1) ∧ w'.cell? ⟨w.heap.size + 1, 0, none⟩ = some (.int .i64 (sg y)) ∧ w'.cell? ⟨w.heap.size + 1, 1, none⟩ = some (.slice a2 (ln y) c2) ∧ w2.grownBy w' (some (w.heap.size + 1 + 1)))
   (first | exact mk.out _ (by assumption) | exact mk.out _ (only_setCell (only_setCell (by assumption) _) _))
   (first
     | (go_at_call 121; refine (bigMul_any _ _ _ _ _ (H1.out.rd.keep (only_below HB.out hst (by omega))) (H2.out.rd.keep (only_below HB.out hst (by omega))) (digs_small _) (digs_small _) (HX.out.mono (by omega)) (HY.out.mono (by omega))).mono ?_; rintro e w3 ⟨v3, rfl, ho3, hb3⟩; have hg3 := only_call hst hb3; have HB3 := Lib.hid (below_call (Below.refl _ _).drew hb3); clear hb3; rw [val_digs, val_digs] at ho3; have HO3 := Lib.hid ho3; clear ho3)
     | (go_at_call 71; refine (signed_is (G := G) (z := z) HO3.out (mul_room HX.out HY.out) (HM1.out.trans HZ.out.symm) HM2.out).mono ?_; rintro e w4 ⟨a4, c4, rfl, hd4, hb4⟩; have hg4 := only_call hg3 hb4; have HB4 := Lib.hid (below_call HB3.out hb4); have HD4 := Lib.hid hd4; clear hb4 hd4)
     | (go_at_call 102; refine (checked_yes _).mono ?_; rintro e w5 ⟨rfl, hb5⟩; have hg5 := only_call hg4 hb5; have HB5 := Lib.hid (below_call HB4.out hb5); obtain ⟨q1, q2⟩ := (K3.out.keep HB5.out).at; have HD5 := Lib.hid (HD4.out.keep hb5); clear hb5))
 go_wp2_with fail
 refine bodyPost_ret (results_box2 rfl _ _ (w.heap.size + 1 + 1) 34 _ _ _ rfl ((K3.out.keep HB5.out).set2 _ _) Tryz.underlying34 rfl (by kernel_rfl)) rfl ⟨a4, c4, rfl, ?_, ?_⟩
 · exact HD5.out.far0 (K3.out.keep HB5.out) zb2 (only_setCell (only_setCell (World.grownBy.refl _ _) _) _)
 · exact only_below HB.out (only_setCell (only_setCell hg5 _) _) (by omega)
theorem kp2W {w v : World} {T1 T2 : TypeId} {c1 c2 : Array Value} {C : Prop} (hb : Below ((w.alloc (.cells c1 T1)).alloc (.cells c2 T2)).heap.size ((w.alloc (.cells c1 T1)).alloc (.cells c2 T2)) v) (k : Hid (Bx v w.heap.size T1 c1) → Hid (Bx v (w.heap.size + 1) T2 c2) → C) : C := k (Lib.hid (Bx.keep (bx2 w T1 T2 c1 c2).1 hb)) (Lib.hid (Bx.keep (bx2 w T1 T2 c1 c2).2 hb))
theorem kp3W {w v : World} {T1 T2 T3 : TypeId} {c1 c2 c3 : Array Value} {C : Prop} (hb : Below (((w.alloc (.cells c1 T1)).alloc (.cells c2 T2)).alloc (.cells c3 T3)).heap.size (((w.alloc (.cells c1 T1)).alloc (.cells c2 T2)).alloc (.cells c3 T3)) v) (k : Hid (Bx v w.heap.size T1 c1) → Hid (Bx v (w.heap.size + 1) T2 c2) → Hid (Bx v (w.heap.size + 1 + 1) T3 c3) → C) : C := k (Lib.hid (Bx.keep (bx3 w T1 T2 T3 c1 c2 c3).1 hb)) (Lib.hid (Bx.keep (bx3 w T1 T2 T3 c1 c2 c3).2.1 hb)) (Lib.hid (Bx.keep (bx3 w T1 T2 T3 c1 c2 c3).2.2 hb))
theorem kp4W {w v : World} {T1 T2 T3 T4 : TypeId} {c1 c2 c3 c4 : Array Value} {C : Prop} (hb : Below ((((w.alloc (.cells c1 T1)).alloc (.cells c2 T2)).alloc (.cells c3 T3)).alloc (.cells c4 T4)).heap.size ((((w.alloc (.cells c1 T1)).alloc (.cells c2 T2)).alloc (.cells c3 T3)).alloc (.cells c4 T4)) v) (k : Hid (Bx v w.heap.size T1 c1) → Hid (Bx v (w.heap.size + 1) T2 c2) → Hid (Bx v (w.heap.size + 1 + 1) T3 c3) → Hid (Bx v (w.heap.size + 1 + 1 + 1) T4 c4) → C) : C := k (Lib.hid (Bx.keep (bx4 w T1 T2 T3 T4 c1 c2 c3 c4).1 hb)) (Lib.hid (Bx.keep (bx4 w T1 T2 T3 T4 c1 c2 c3 c4).2.1 hb)) (Lib.hid (Bx.keep (bx4 w T1 T2 T3 T4 c1 c2 c3 c4).2.2.1 hb)) (Lib.hid (Bx.keep (bx4 w T1 T2 T3 T4 c1 c2 c3 c4).2.2.2 hb))
theorem hI {p : Prop} (h : p) : Hid p := Lib.hid h
theorem kdW {w v : World} {a : Option Addr} {c : Nat} {z : Int} (h : Hid (BD G w a c z)) (hb : Below w.heap.size w v) : Hid (BD G v a c z) := Lib.hid (h.out.keep hb)
theorem kbW {w v : World} {g : Nat} {T : TypeId} {cs : Array Value} (h : Hid (Bx w g T cs)) (hb : Below w.heap.size w v) : Hid (Bx v g T cs) := Lib.hid (h.out.keep hb)
theorem ltW {k n : Nat} {C : Prop} (h : k < n) (c : decide (k < n) = true → decide ((k : Int) < (n : Int)) = true → (k : Int) < (n : Int) → C) : C := c (decide_eq_true h) (decide_eq_true (by omega)) (by omega)
theorem geW {k n : Nat} {C : Prop} (h : ¬ k < n) (c : decide (k < n) = false → decide ((k : Int) < (n : Int)) = false → ¬ (k : Int) < (n : Int) → C) : C := c (decide_eq_false h) (decide_eq_false (by omega)) (by omega)
theorem dtW {P C : Prop} [Decidable P] (h : P) (c : decide P = true → P → C) : C := c (decide_eq_true h) h
theorem dfW {P C : Prop} [Decidable P] (h : ¬ P) (c : decide P = false → ¬ P → C) : C := c (decide_eq_false h) h
theorem bigNeg_ok {x : Int} {a1 : Option Addr} {c1 : Nat} {w : World} (h1 : BD G w a1 c1 x) (hx : Sz x 549755813888) :
 Calls Tryz.prog 76 #[.agg #[.int .i64 (sg x), .slice a1 (ln x) c1]] w fun e w' => ∃ a c, e = .returned (.agg #[.int .i64 (sg (-x)), .slice a (ln (-x)) c]) ∧ BD G w' a c (-x) ∧ Below w.heap.size w w' := by
 have HX := hI hx; have H1 := hI h1; obtain ⟨z, hz⟩ : ∃ z, z = -x := ⟨_, rfl⟩; have HM1 : Hid (-(sg x) * (x.natAbs : Int) = z) := by show _ = _; rw [hz, sg, Int.neg_mul, sign_mul_abs]
 have HM2 : Hid (x.natAbs ≠ 0 → -(sg x) = 1 ∨ -(sg x) = -1) := by
  intro h
  have := sg_ne (x := x) (by omega)
  omega
 have hw : IntKind.i64.wrap (-(sg x)) = -(sg x) := by rcases sg_cases x with h | h | h <;> rw [h] <;> rfl
 rw [← hz]; clear hx h1 hz
 go_enter Tryz.func76, Tryz.ntmps76
 go_wp2_with fail
 refine (bigRight_ok (z := x) (H1.out.keep (by go_grown)) (HX.out.mono (by omega))).mono ?_; rintro e w1 ⟨rfl, hb⟩; refine kp2W hb fun K0 K1 => ?_; have hb' : Below w.heap.size w w1 := below_call (by go_grown) hb; have HB := hI hb'; replace H1 := kdW H1 hb'; clear hb hb'; refine K0.out.w2 fun aa ab ac ad z0 => ?_; refine K1.out.w2 fun ae af ag ah z1 => ?_; go_wp2_with fail
 clear aa ab ac ad z0 ae af ag ah z1; have mk := Lib.hid fun w' (h : w1.grownBy w' (some (w.heap.size + 1))) => (K0.out.only h (by omega)).t2 h
 have hs0 : w1.grownBy w1.drew (some (w.heap.size + 1)) := only_start _ _; have HS0 : Hid (Below w1.heap.size w1 w1.drew) := (Below.refl _ _).drew; have tok0 : True := trivial; have tok1 : True := trivial
 go_region_held3 (fun w' => w'.cell? ⟨w.heap.size, 0, none⟩ = some (.int .i64 (sg x)) ∧ w'.cell? ⟨w.heap.size, 1, none⟩ = some (.slice a1 (ln x) c1) ∧ w1.grownBy w' (some (w.heap.size + 1)))
   (first | exact mk.out _ (by assumption) | exact mk.out _ (only_setCell (only_setCell (by assumption) _) _) | exact mk.out _ (only_alloc (by assumption) _))
   (first
     | (go_at_call 70; have _t := tok0; refine (clone_any _ _ _ (H1.out.keep HS0.out).rd (HX.out.mono (by omega))).mono ?_; rintro e w2 ⟨v2, rfl, ho2, hb⟩; clear tok0 _t; have hs1 := only_call hs0 hb; have HS1 := hI (below_call HS0.out hb); clear hb; have Ho2 := hI ho2; clear ho2)
     | (go_at_call 71; have _t := tok1; refine (signed_is (G := G) (z := z) Ho2.out (HX.out.mono (by omega)) HM1.out HM2.out).mono ?_; rintro e w3 ⟨a3, c3, rfl, hd3, hb⟩; clear tok1 _t; have hs2 := only_call hs1 hb; have HS2 := hI (below_call HS1.out hb); have Ho2 := hI (Ho2.out.keep hb); clear hb; have Hd3 := hI hd3; clear hd3; obtain ⟨p1, q1⟩ := (K1.out.keep HS2.out).at))
 replace K0 := kbW K0 HS2.out; replace K1 := kbW K1 HS2.out; replace HB := hI (below_call HB.out HS2.out); replace H1 := kdW H1 HS2.out; clear mk hs0 HS0 hs1 HS1 hs2 HS2  p1 q1; go_wp2_with fail
 refine bodyPost_ret (results_box1 rfl _ _ (w.heap.size + 1) 34 _ _ _ rfl (K1.out.set2 _ _) Tryz.underlying34 rfl (by kernel_rfl)) rfl ⟨a3, c3, rfl, ?_, ?_⟩
 · exact Hd3.out.far0 K1.out zb2 (only_setCell (only_setCell (World.grownBy.refl _ _) _) _)
 · exact (HB.out.setCell (by simp) _).setCell (by simp) _
theorem only_alloc {a w : World} {row : Option Nat} (h : a.grownBy w row) (o : Obj) : a.grownBy (w.alloc o) row :=
 ⟨h.os, h.tape, h.output, Nat.le_trans h.size (by simp), fun i hi hne => (Below.heap_alloc w o i (Nat.lt_of_lt_of_le hi h.size)).trans (h.block i hi hne)⟩
theorem lit2 (w : World) (s t : Int) : RdZ (w.alloc (.cells #[.int .i64 s, .int .i64 t] 3)) (.slice (some ⟨w.heap.size, 0, none⟩) 2 2) [s, t] :=
 rdZ_own (World.ownsRow_lit (base := 0) w #[.int .i64 s, .int .i64 t] 2 (Nat.zero_le _) (by unfold maxLen; omega) rfl) rfl
def orS (s t : Int) : Int := if s = 0 then t else s
theorem add_room {x y : Int} (hx : Sz x 549755813888) (hy : Sz y 549755813888) : (digs (x.natAbs + y.natAbs)).length ≤ 8796093022208 := by
 unfold Sz at *; have := digs_len_add x.natAbs y.natAbs; omega
theorem sg_pos {x : Int} (h : 0 < x) : sg x = 1 := Int.sign_eq_one_of_pos h
theorem sg_neg {x : Int} (h : x < 0) : sg x = -1 := Int.sign_eq_neg_one_of_neg h
theorem sg_zero' {x : Int} (h : x = 0) : sg x = 0 := by rw [h]; rfl
theorem add_signs {x y : Int} (h : 0 ≤ sg x * sg y) : orS (sg x) (sg y) * ((x.natAbs + y.natAbs : Nat) : Int) = x + y ∧ (x.natAbs + y.natAbs ≠ 0 → orS (sg x) (sg y) = 1 ∨ orS (sg x) (sg y) = -1) := by
 rcases Int.lt_trichotomy x 0 with hx | hx | hx
 · rw [sg_neg hx] at *
   rcases Int.lt_trichotomy y 0 with hy | hy | hy
   · rw [sg_neg hy] at *; simp [orS]; omega
   · rw [sg_zero' hy] at *; simp [orS]; omega
   · rw [sg_pos hy] at h; omega
 · rw [sg_zero' hx] at *
   rcases Int.lt_trichotomy y 0 with hy | hy | hy
   · rw [sg_neg hy] at *; simp [orS]; omega
   · rw [sg_zero' hy] at *; simp [orS]; omega
   · rw [sg_pos hy] at *; simp [orS]; omega
 · rw [sg_pos hx] at *
   rcases Int.lt_trichotomy y 0 with hy | hy | hy
   · rw [sg_neg hy] at h; omega
   · rw [sg_zero' hy] at *; simp [orS]; omega
   · rw [sg_pos hy] at *; simp [orS]; omega
theorem cmpOr_any (v : Value) (s t : Int) (w : World) (h : RdZ w v [s, t]) :
 Calls Tryz.prog 112 #[v] w fun e w' => e = .returned (.int .i64 (orS s t)) ∧ Below w.heap.size w w' := by
 obtain ⟨a, cap, rfl⟩ := h.shape; obtain ⟨b, off, rfl, hb, hc0⟩ := h.at (k := 0) (by simp); obtain ⟨b', off', ha, hb', hc1⟩ := h.at (k := 1) (by simp)
 cases ha
 rw [Nat.add_zero] at hc0; simp only [List.getElem_cons_zero, List.getElem_cons_succ] at hc0 hc1; clear h
 by_cases h0 : s = 0
 · have e0 : (s != 0) = false := by rw [h0]; rfl
   have HO : Hid (orS s t = t) := by show _ = _; rw [orS, if_pos h0]
   have H0 := hI h0; clear h0
   by_cases h1 : t = 0
   · have e1 : (t != 0) = false := by rw [h1]; rfl
     have H1 := hI h1; clear h1; go_enter Tryz.func112, Tryz.ntmps112
     go_wp2_with fail
     go_rounds 3
     go_ret
     exact ⟨ret_int (by rw [HO.out, H1.out]), Below.refl _ _⟩
   · have e1 : (t != 0) = true := by rw [bne_iff_ne]; exact h1
     clear h1; go_enter Tryz.func112, Tryz.ntmps112
     go_wp2_with fail
     go_rounds 3
     go_ret
     exact ⟨ret_int HO.out.symm, Below.refl _ _⟩
 · have e0 : (s != 0) = true := by rw [bne_iff_ne]; exact h0
   have HO : Hid (orS s t = s) := by show _ = _; rw [orS, if_neg h0]
   clear h0; go_enter Tryz.func112, Tryz.ntmps112
   go_wp2_with fail
   go_rounds 3
   go_ret
   exact ⟨ret_int HO.out.symm, Below.refl _ _⟩
theorem bigAdd_same {x y : Int} {a1 a2 : Option Addr} {c1 c2 : Nat} {w : World} (h1 : BD G w a1 c1 x) (h2 : BD G w a2 c2 y) (hx : Sz x 549755813888) (hy : Sz y 549755813888) (hs : 0 ≤ sg x * sg y) :
 Calls Tryz.prog 78 #[.agg #[.int .i64 (sg x), .slice a1 (ln x) c1], .agg #[.int .i64 (sg y), .slice a2 (ln y) c2]] w fun e w' => ∃ a c, e = .returned (.tuple #[.agg #[.int .i64 (sg (x + y)), .slice a (ln (x + y)) c], .int .i64 0]) ∧ BD G w' a c (x + y) ∧ Below w.heap.size w w' := by
 have HX := hI hx; have HY := hI hy; have H1 := hI h1; have H2 := hI h2; have hws := wrap_signs x y; have e1 : decide (0 ≤ sg x * sg y) = true := by rw [decide_eq_true_eq]; exact hs
 obtain ⟨z, hz⟩ : ∃ z, z = x + y := ⟨_, rfl⟩; have HM0 : Hid ((digs (val (digs x.natAbs) + val (digs y.natAbs))).length ≤ 8796093022208) := by rw [val_digs, val_digs]; exact add_room hx hy
 have HM1 : Hid (orS (sg x) (sg y) * ((val (digs x.natAbs) + val (digs y.natAbs) : Nat) : Int) = z) := by rw [val_digs, val_digs, hz]; exact (add_signs hs).1
 have HM2 : Hid (val (digs x.natAbs) + val (digs y.natAbs) ≠ 0 → orS (sg x) (sg y) = 1 ∨ orS (sg x) (sg y) = -1) := by rw [val_digs, val_digs]; exact (add_signs hs).2
 rw [← hz]; clear hx hy h1 h2 hz hs
 go_enter Tryz.func78, Tryz.ntmps78
 go_wp2_with fail
 refine (bigRight_ok (z := x) (H1.out.keep (by go_grown)) (HX.out.mono (by omega))).mono ?_; rintro e w1 ⟨rfl, hb⟩; refine kp3W hb fun K0 K1 K2 => ?_; have hb' : Below w.heap.size w w1 := below_call (by go_grown) hb; have HB := hI hb'; replace H1 := kdW H1 hb'; replace H2 := kdW H2 hb'; clear hb hb'; refine K0.out.w2 fun aa ab ac ad z0 => ?_; refine K1.out.w2 fun ae af ag ah z1 => ?_; refine K2.out.w2 fun ai aj ak al z2 => ?_; go_wp2_with fail
 refine (bigRight_ok (z := y) (H2.out.keep (by go_grown)) (HY.out.mono (by omega))).mono ?_; rintro e w2 ⟨rfl, hb⟩; clear aa ab ac ad z0 ae af ag ah z1 ai aj ak al z2; have hb' := below_call (w1 := w1) (by go_grown) hb; replace K0 := kbW K0 hb'; replace K1 := kbW K1 hb'; replace K2 := kbW K2 hb'; replace HB := hI (below_call HB.out hb'); replace H1 := kdW H1 hb'; replace H2 := kdW H2 hb'; clear hb hb'; refine K0.out.w2 fun aa ab ac ad z0 => ?_; refine K1.out.w2 fun ae af ag ah z1 => ?_; refine K2.out.w2 fun ai aj ak al z2 => ?_; go_wp2_with fail
 clear aa ab ac ad z0 ae af ag ah z1 ai aj ak al z2; have mk := Lib.hid fun w' (h : w2.grownBy w' (some (w.heap.size + 1 + 1))) => (K0.out.only h (by omega)).t2 ((K1.out.only h (by omega)).t2 h)
 have hs0 : w2.grownBy w2.drew (some (w.heap.size + 1 + 1)) := only_start _ _; have HS0 : Hid (Below w2.heap.size w2 w2.drew) := (Below.refl _ _).drew; have tok0 : True := trivial; have tok1 : True := trivial; have tok2 : True := trivial; have tok3 : True := trivial
 go_region_held3 (fun w' => w'.cell? ⟨w.heap.size, 0, none⟩ = some (.int .i64 (sg x)) ∧ w'.cell? ⟨w.heap.size, 1, none⟩ = some (.slice a1 (ln x) c1) ∧ w'.cell? ⟨w.heap.size + 1, 0, none⟩ = some (.int .i64 (sg y)) ∧ w'.cell? ⟨w.heap.size + 1, 1, none⟩ = some (.slice a2 (ln y) c2) ∧ w2.grownBy w' (some (w.heap.size + 1 + 1)))
   (first | exact mk.out _ (by assumption) | exact mk.out _ (only_setCell (only_setCell (by assumption) _) _) | exact mk.out _ (only_alloc (by assumption) _))
   (first
     | (go_at_call 112; have _t := tok0; refine (cmpOr_any _ (sg x) (sg y) _ (lit2 w2.drew _ _)).mono ?_; rintro e w3 ⟨rfl, hb⟩; clear tok0 _t; have hs1 := only_call (only_alloc hs0 _) hb; have HS1 := hI (below_call (Below.alloc HS0.out (Below.size HS0.out) _) hb); clear hb)
     | (go_at_call 113; have _t := tok1; refine (bigAdd_any _ _ _ _ _ (H1.out.keep HS1.out).rd (H2.out.keep HS1.out).rd (digs_small _) (digs_small _) (HX.out.mono (by omega)) (HY.out.mono (by omega))).mono ?_; rintro e w4 ⟨v4, rfl, ho4, hb⟩; clear tok1 _t; have hs2 := only_call hs1 hb; have HS2 := hI (below_call HS1.out hb); clear hb; have Ho4 := hI ho4; clear ho4)
     | (go_at_call 71; have _t := tok2; refine (signed_is (G := G) (z := z) (n := val (digs x.natAbs) + val (digs y.natAbs)) Ho4.out HM0.out HM1.out HM2.out).mono ?_; rintro e w5 ⟨a5, c5, rfl, hd5, hb⟩; clear tok2 _t; have hs3 := only_call hs2 hb; have HS3 := hI (below_call HS2.out hb); have Ho4 := hI (Ho4.out.keep hb); clear hb; have Hd5 := hI hd5; clear hd5)
     | (go_at_call 102; have _t := tok3; refine (checked_yes _).mono ?_; rintro e w6 ⟨rfl, hb⟩; clear tok3 _t; have hs4 := only_call hs3 hb; have HS4 := hI (below_call HS3.out hb); have Ho4 := hI (Ho4.out.keep hb); have Hd5 := hI (Hd5.out.keep hb); clear hb; obtain ⟨p2, q2⟩ := (K2.out.keep HS4.out).at))
 replace K0 := kbW K0 HS4.out; replace K1 := kbW K1 HS4.out; replace K2 := kbW K2 HS4.out; replace HB := hI (below_call HB.out HS4.out); replace H1 := kdW H1 HS4.out; replace H2 := kdW H2 HS4.out; clear mk hs0 HS0 hs1 HS1 hs2 HS2 hs3 HS3 hs4 HS4  p2 q2; go_wp2_with fail
 refine bodyPost_ret (results_box2 rfl _ _ (w.heap.size + 1 + 1) 34 _ _ _ rfl (K2.out.set2 _ _) Tryz.underlying34 rfl (by kernel_rfl)) rfl ⟨a5, c5, rfl, ?_, ?_⟩
 · exact Hd5.out.far0 K2.out zb2 (only_setCell (only_setCell (World.grownBy.refl _ _) _) _)
 · exact (HB.out.setCell (by simp; omega) _).setCell (by simp; omega) _
def cmpD (x y : Int) : Int := ord x.natAbs y.natAbs
theorem cmpD_lt {x y : Int} (h : x.natAbs < y.natAbs) : cmpD x y = -1 := ord_lt (by omega)
theorem cmpD_ge {x y : Int} (h : y.natAbs ≤ x.natAbs) : cmpD x y = 0 ∨ cmpD x y = 1 := by
 rcases Nat.lt_or_ge y.natAbs x.natAbs with h' | h'
 · exact .inr (ord_gt (by omega))
 · have : x.natAbs = y.natAbs := by omega
   refine .inl ?_; rw [cmpD, this, ord_eq]
theorem bigcmp_is {x y : Int} {a1 a2 : Option Addr} {c1 c2 : Nat} {w : World} (h1 : BD G w a1 c1 x) (h2 : BD G w a2 c2 y) (hx : Sz x 1099511627776) (hy : Sz y 1099511627776) :
 Calls Tryz.prog 100 #[.slice a1 (ln x) c1, .slice a2 (ln y) c2] w fun e w' => e = .returned (.int .i64 (cmpD x y)) ∧ Below w.heap.size w w' :=
 bigcmp_any _ _ _ _ w h1.rd h2.rd hx hy
theorem bigsub_is {x y : Int} {a1 a2 : Option Addr} {c1 c2 : Nat} {w : World} (h1 : BD G w a1 c1 x) (h2 : BD G w a2 c2 y) (hx : Sz x 1099511627776) (hle : y.natAbs ≤ x.natAbs) :
 Calls Tryz.prog 114 #[.slice a1 (ln x) c1, .slice a2 (ln y) c2] w fun e w' => ∃ v, e = .returned v ∧ OwnN w' w.heap.size v (digs (x.natAbs - y.natAbs)) ∧ Below w.heap.size w w' := by
 have := bigSub_any _ _ _ _ w h1.rd h2.rd (digs_small _) (digs_small _) (digs_len_mono hle) (by rw [val_digs, val_digs]; exact hle) hx
 rwa [val_digs, val_digs] at this
theorem sub_signs {x y : Int} (h : sg x * sg y < 0) (hle : y.natAbs ≤ x.natAbs) : sg x * ((x.natAbs - y.natAbs : Nat) : Int) = x + y ∧ (sg x = 1 ∨ sg x = -1) := by
 rcases Int.lt_trichotomy x 0 with hx | hx | hx
 · rw [sg_neg hx] at *
   rcases Int.lt_trichotomy y 0 with hy | hy | hy
   · rw [sg_neg hy] at h; omega
   · rw [sg_zero' hy] at h; omega
   · exact ⟨by omega, .inr rfl⟩
 · rw [sg_zero' hx] at h; omega
 · rw [sg_pos hx] at *
   rcases Int.lt_trichotomy y 0 with hy | hy | hy
   · exact ⟨by omega, .inl rfl⟩
   · rw [sg_zero' hy] at h; omega
   · rw [sg_pos hy] at h; omega
theorem ord_signs {x y : Int} (h : sg x ≠ sg y) : ord (sg x) (sg y) = ord x y := by
 rcases Int.lt_trichotomy x 0 with hx | hx | hx
 · rw [sg_neg hx] at *
   rcases Int.lt_trichotomy y 0 with hy | hy | hy
   · rw [sg_neg hy] at h; omega
   · rw [sg_zero' hy, ord_lt (a := x) (b := y) (by omega)]; rfl
   · rw [sg_pos hy, ord_lt (a := x) (b := y) (by omega)]; rfl
 · rw [sg_zero' hx] at *
   rcases Int.lt_trichotomy y 0 with hy | hy | hy
   · rw [sg_neg hy, ord_gt (a := x) (b := y) (by omega)]; rfl
   · rw [sg_zero' hy] at h; omega
   · rw [sg_pos hy, ord_lt (a := x) (b := y) (by omega)]; rfl
 · rw [sg_pos hx] at *
   rcases Int.lt_trichotomy y 0 with hy | hy | hy
   · rw [sg_neg hy, ord_gt (a := x) (b := y) (by omega)]; rfl
   · rw [sg_zero' hy, ord_gt (a := x) (b := y) (by omega)]; rfl
   · rw [sg_pos hy] at h; omega
theorem ord_abs {x y : Int} (h : sg x = sg y) : sg x * cmpD x y = ord x y := by
 rcases Int.lt_trichotomy x 0 with hx | hx | hx
 · rw [sg_neg hx] at *
   rcases Int.lt_trichotomy y 0 with hy | hy | hy
   · unfold cmpD ord; split <;> split <;> (try split) <;> omega
   · rw [sg_zero' hy] at h; omega
   · rw [sg_pos hy] at h; omega
 · rw [sg_zero' hx] at *
   rcases Int.lt_trichotomy y 0 with hy | hy | hy
   · rw [sg_neg hy] at h; omega
   · rw [hx, hy]; rfl
   · rw [sg_pos hy] at h; omega
 · rw [sg_pos hx] at *
   rcases Int.lt_trichotomy y 0 with hy | hy | hy
   · rw [sg_neg hy] at h; omega
   · rw [sg_zero' hy] at h; omega
   · unfold cmpD ord; split <;> split <;> (try split) <;> omega
theorem wrap_cmp (x y : Int) : IntKind.i64.wrap (sg x * cmpD x y) = sg x * cmpD x y := by
 have h : cmpD x y = 1 ∨ cmpD x y = -1 ∨ cmpD x y = 0 := by unfold cmpD ord; split <;> (try split) <;> simp
 rcases sg_cases x with h1 | h1 | h1 <;> rcases h with h2 | h2 | h2 <;> rw [h1, h2] <;> rfl
theorem calls_below {P : Program} {f : FuncId} {args : Array Value} {w : World} {v : Value} (h : Calls P f args w fun e w' => e = .returned v ∧ w = w') : Calls P f args w fun e w' => e = .returned v ∧ Below w.heap.size w w' :=
 h.mono fun _ _ ⟨he, hw⟩ => ⟨he, by rw [← hw]; exact Below.refl _ _⟩
theorem bigAdd_neglt {x y : Int} {a1 a2 : Option Addr} {c1 c2 : Nat} {w : World} (h1 : BD G w a1 c1 x) (h2 : BD G w a2 c2 y) (hx : Sz x 549755813888) (hy : Sz y 549755813888) (hs : sg x * sg y < 0) (hle : x.natAbs < y.natAbs) :
 Calls Tryz.prog 78 #[.agg #[.int .i64 (sg x), .slice a1 (ln x) c1], .agg #[.int .i64 (sg y), .slice a2 (ln y) c2]] w fun e w' => ∃ a c, e = .returned (.tuple #[.agg #[.int .i64 (sg (x + y)), .slice a (ln (x + y)) c], .int .i64 0]) ∧ BD G w' a c (x + y) ∧ Below w.heap.size w w' := by
 have HX := hI hx; have HY := hI hy; have H1 := hI h1; have H2 := hI h2; have hws := wrap_signs x y; have e1 : decide (0 ≤ sg x * sg y) = false := by rw [decide_eq_false_iff_not]; omega
 have e2 : decide (cmpD x y < 0) = true := by rw [cmpD_lt hle]; rfl
 obtain ⟨z, hz⟩ : ∃ z, z = x + y := ⟨_, rfl⟩; have HLE : Hid (x.natAbs ≤ y.natAbs) := by show _ ≤ _; omega
 have HM0 : Hid ((digs (y.natAbs - x.natAbs)).length ≤ 8796093022208) := by show _ ≤ _; have := digs_len_mono (Nat.sub_le y.natAbs x.natAbs); unfold Sz at hx hy; omega
 have hsg := sub_signs (x := y) (y := x) (by rw [Int.mul_comm]; exact hs) (by omega); have HM1 : Hid (sg y * ((y.natAbs - x.natAbs : Nat) : Int) = z) := by show _ = _; rw [hz]; exact hsg.1.trans (Int.add_comm _ _)
 have HM2 := hI hsg.2; rw [← hz]; clear hx hy h1 h2 hz hs hle hsg
 go_enter Tryz.func78, Tryz.ntmps78
 go_wp2_with fail
 refine (bigRight_ok (z := x) (H1.out.keep (by go_grown)) (HX.out.mono (by omega))).mono ?_; rintro e w1 ⟨rfl, hb⟩; refine kp3W hb fun K0 K1 K2 => ?_; have hb' : Below w.heap.size w w1 := below_call (by go_grown) hb; have HB := hI hb'; replace H1 := kdW H1 hb'; replace H2 := kdW H2 hb'; clear hb hb'; refine K0.out.w2 fun aa ab ac ad z0 => ?_; refine K1.out.w2 fun ae af ag ah z1 => ?_; refine K2.out.w2 fun ai aj ak al z2 => ?_; go_wp2_with fail
 refine (bigRight_ok (z := y) (H2.out.keep (by go_grown)) (HY.out.mono (by omega))).mono ?_; rintro e w2 ⟨rfl, hb⟩; clear aa ab ac ad z0 ae af ag ah z1 ai aj ak al z2; have hb' := below_call (w1 := w1) (by go_grown) hb; replace K0 := kbW K0 hb'; replace K1 := kbW K1 hb'; replace K2 := kbW K2 hb'; replace HB := hI (below_call HB.out hb'); replace H1 := kdW H1 hb'; replace H2 := kdW H2 hb'; clear hb hb'; refine K0.out.w2 fun aa ab ac ad z0 => ?_; refine K1.out.w2 fun ae af ag ah z1 => ?_; refine K2.out.w2 fun ai aj ak al z2 => ?_; go_wp2_with fail
 refine (bigcmp_is (H1.out.keep (by go_grown)) (H2.out.keep (by go_grown)) (HX.out.mono (by omega)) (HY.out.mono (by omega))).mono ?_; rintro e w3 ⟨rfl, hb⟩; clear aa ab ac ad z0 ae af ag ah z1 ai aj ak al z2; have hb' := below_call (w1 := w2) (by go_grown) hb; replace K0 := kbW K0 hb'; replace K1 := kbW K1 hb'; replace K2 := kbW K2 hb'; replace HB := hI (below_call HB.out hb'); replace H1 := kdW H1 hb'; replace H2 := kdW H2 hb'; clear hb hb'; refine K0.out.w2 fun aa ab ac ad z0 => ?_; refine K1.out.w2 fun ae af ag ah z1 => ?_; refine K2.out.w2 fun ai aj ak al z2 => ?_; go_wp2_with fail
 clear aa ab ac ad z0 ae af ag ah z1 ai aj ak al z2; have mk := Lib.hid fun w' (h : w3.grownBy w' (some (w.heap.size + 1 + 1))) => (K0.out.only h (by omega)).t2 ((K1.out.only h (by omega)).t2 h)
 have hs0 : w3.grownBy w3.drew (some (w.heap.size + 1 + 1)) := only_start _ _; have HS0 : Hid (Below w3.heap.size w3 w3.drew) := (Below.refl _ _).drew; have tok0 : True := trivial; have tok1 : True := trivial; have tok2 : True := trivial
 go_region_held3 (fun w' => w'.cell? ⟨w.heap.size, 0, none⟩ = some (.int .i64 (sg x)) ∧ w'.cell? ⟨w.heap.size, 1, none⟩ = some (.slice a1 (ln x) c1) ∧ w'.cell? ⟨w.heap.size + 1, 0, none⟩ = some (.int .i64 (sg y)) ∧ w'.cell? ⟨w.heap.size + 1, 1, none⟩ = some (.slice a2 (ln y) c2) ∧ w3.grownBy w' (some (w.heap.size + 1 + 1)))
   (first | exact mk.out _ (by assumption) | exact mk.out _ (only_setCell (only_setCell (by assumption) _) _) | exact mk.out _ (only_alloc (by assumption) _))
   (first
     | (go_at_call 114; have _t := tok0; refine (bigsub_is (H2.out.keep HS0.out) (H1.out.keep HS0.out) (HY.out.mono (by omega)) HLE.out).mono ?_; rintro e w4 ⟨v4, rfl, ho4, hb⟩; clear tok0 _t; have hs1 := only_call hs0 hb; have HS1 := hI (below_call HS0.out hb); clear hb; have Ho4 := hI ho4; clear ho4)
     | (go_at_call 71; have _t := tok1; refine (signed_is (G := G) (z := z) (n := y.natAbs - x.natAbs) Ho4.out HM0.out HM1.out (fun _ => HM2.out)).mono ?_; rintro e w5 ⟨a5, c5, rfl, hd5, hb⟩; clear tok1 _t; have hs2 := only_call hs1 hb; have HS2 := hI (below_call HS1.out hb); have Ho4 := hI (Ho4.out.keep hb); clear hb; have Hd5 := hI hd5; clear hd5)
     | (go_at_call 102; have _t := tok2; refine (checked_yes _).mono ?_; rintro e w6 ⟨rfl, hb⟩; clear tok2 _t; have hs3 := only_call hs2 hb; have HS3 := hI (below_call HS2.out hb); have Ho4 := hI (Ho4.out.keep hb); have Hd5 := hI (Hd5.out.keep hb); clear hb; obtain ⟨p2, q2⟩ := (K2.out.keep HS3.out).at))
 replace K0 := kbW K0 HS3.out; replace K1 := kbW K1 HS3.out; replace K2 := kbW K2 HS3.out; replace HB := hI (below_call HB.out HS3.out); replace H1 := kdW H1 HS3.out; replace H2 := kdW H2 HS3.out; clear mk hs0 HS0 hs1 HS1 hs2 HS2 hs3 HS3  p2 q2; go_wp2_with fail
 refine bodyPost_ret (results_box2 rfl _ _ (w.heap.size + 1 + 1) 34 _ _ _ rfl (K2.out.set2 _ _) Tryz.underlying34 rfl (by kernel_rfl)) rfl ⟨a5, c5, rfl, ?_, ?_⟩
 · exact Hd5.out.far0 K2.out zb2 (only_setCell (only_setCell (World.grownBy.refl _ _) _) _)
 · exact (HB.out.setCell (by simp; omega) _).setCell (by simp; omega) _
theorem bigAdd_negge {x y : Int} {a1 a2 : Option Addr} {c1 c2 : Nat} {w : World} (h1 : BD G w a1 c1 x) (h2 : BD G w a2 c2 y) (hx : Sz x 549755813888) (hy : Sz y 549755813888) (hs : sg x * sg y < 0) (hle : y.natAbs ≤ x.natAbs) :
 Calls Tryz.prog 78 #[.agg #[.int .i64 (sg x), .slice a1 (ln x) c1], .agg #[.int .i64 (sg y), .slice a2 (ln y) c2]] w fun e w' => ∃ a c, e = .returned (.tuple #[.agg #[.int .i64 (sg (x + y)), .slice a (ln (x + y)) c], .int .i64 0]) ∧ BD G w' a c (x + y) ∧ Below w.heap.size w w' := by
 have HX := hI hx; have HY := hI hy; have H1 := hI h1; have H2 := hI h2; have hws := wrap_signs x y; have e1 : decide (0 ≤ sg x * sg y) = false := by rw [decide_eq_false_iff_not]; omega
 have e2 : decide (cmpD x y < 0) = false := by rcases cmpD_ge hle with h | h <;> rw [h] <;> rfl
 obtain ⟨z, hz⟩ : ∃ z, z = x + y := ⟨_, rfl⟩; have HLE : Hid (y.natAbs ≤ x.natAbs) := by show _ ≤ _; omega
 have HM0 : Hid ((digs (x.natAbs - y.natAbs)).length ≤ 8796093022208) := by show _ ≤ _; have := digs_len_mono (Nat.sub_le x.natAbs y.natAbs); unfold Sz at hx hy; omega
 have hsg := sub_signs hs hle; have HM1 : Hid (sg x * ((x.natAbs - y.natAbs : Nat) : Int) = z) := by show _ = _; rw [hz]; exact hsg.1
 have HM2 := hI hsg.2; rw [← hz]; clear hx hy h1 h2 hz hs hle hsg
 go_enter Tryz.func78, Tryz.ntmps78
 go_wp2_with fail
 refine (bigRight_ok (z := x) (H1.out.keep (by go_grown)) (HX.out.mono (by omega))).mono ?_; rintro e w1 ⟨rfl, hb⟩; refine kp3W hb fun K0 K1 K2 => ?_; have hb' : Below w.heap.size w w1 := below_call (by go_grown) hb; have HB := hI hb'; replace H1 := kdW H1 hb'; replace H2 := kdW H2 hb'; clear hb hb'; refine K0.out.w2 fun aa ab ac ad z0 => ?_; refine K1.out.w2 fun ae af ag ah z1 => ?_; refine K2.out.w2 fun ai aj ak al z2 => ?_; go_wp2_with fail
 refine (bigRight_ok (z := y) (H2.out.keep (by go_grown)) (HY.out.mono (by omega))).mono ?_; rintro e w2 ⟨rfl, hb⟩; clear aa ab ac ad z0 ae af ag ah z1 ai aj ak al z2; have hb' := below_call (w1 := w1) (by go_grown) hb; replace K0 := kbW K0 hb'; replace K1 := kbW K1 hb'; replace K2 := kbW K2 hb'; replace HB := hI (below_call HB.out hb'); replace H1 := kdW H1 hb'; replace H2 := kdW H2 hb'; clear hb hb'; refine K0.out.w2 fun aa ab ac ad z0 => ?_; refine K1.out.w2 fun ae af ag ah z1 => ?_; refine K2.out.w2 fun ai aj ak al z2 => ?_; go_wp2_with fail
 refine (bigcmp_is (H1.out.keep (by go_grown)) (H2.out.keep (by go_grown)) (HX.out.mono (by omega)) (HY.out.mono (by omega))).mono ?_; rintro e w3 ⟨rfl, hb⟩; clear aa ab ac ad z0 ae af ag ah z1 ai aj ak al z2; have hb' := below_call (w1 := w2) (by go_grown) hb; replace K0 := kbW K0 hb'; replace K1 := kbW K1 hb'; replace K2 := kbW K2 hb'; replace HB := hI (below_call HB.out hb'); replace H1 := kdW H1 hb'; replace H2 := kdW H2 hb'; clear hb hb'; refine K0.out.w2 fun aa ab ac ad z0 => ?_; refine K1.out.w2 fun ae af ag ah z1 => ?_; refine K2.out.w2 fun ai aj ak al z2 => ?_; go_wp2_with fail
 clear aa ab ac ad z0 ae af ag ah z1 ai aj ak al z2; have mk := Lib.hid fun w' (h : w3.grownBy w' (some (w.heap.size + 1 + 1))) => (K0.out.only h (by omega)).t2 ((K1.out.only h (by omega)).t2 h)
 have hs0 : w3.grownBy w3.drew (some (w.heap.size + 1 + 1)) := only_start _ _; have HS0 : Hid (Below w3.heap.size w3 w3.drew) := (Below.refl _ _).drew; have tok0 : True := trivial; have tok1 : True := trivial; have tok2 : True := trivial
 go_region_held3 (fun w' => w'.cell? ⟨w.heap.size, 0, none⟩ = some (.int .i64 (sg x)) ∧ w'.cell? ⟨w.heap.size, 1, none⟩ = some (.slice a1 (ln x) c1) ∧ w'.cell? ⟨w.heap.size + 1, 0, none⟩ = some (.int .i64 (sg y)) ∧ w'.cell? ⟨w.heap.size + 1, 1, none⟩ = some (.slice a2 (ln y) c2) ∧ w3.grownBy w' (some (w.heap.size + 1 + 1)))
   (first | exact mk.out _ (by assumption) | exact mk.out _ (only_setCell (only_setCell (by assumption) _) _) | exact mk.out _ (only_alloc (by assumption) _))
   (first
     | (go_at_call 114; have _t := tok0; refine (bigsub_is (H1.out.keep HS0.out) (H2.out.keep HS0.out) (HX.out.mono (by omega)) HLE.out).mono ?_; rintro e w4 ⟨v4, rfl, ho4, hb⟩; clear tok0 _t; have hs1 := only_call hs0 hb; have HS1 := hI (below_call HS0.out hb); clear hb; have Ho4 := hI ho4; clear ho4)
     | (go_at_call 71; have _t := tok1; refine (signed_is (G := G) (z := z) (n := x.natAbs - y.natAbs) Ho4.out HM0.out HM1.out (fun _ => HM2.out)).mono ?_; rintro e w5 ⟨a5, c5, rfl, hd5, hb⟩; clear tok1 _t; have hs2 := only_call hs1 hb; have HS2 := hI (below_call HS1.out hb); have Ho4 := hI (Ho4.out.keep hb); clear hb; have Hd5 := hI hd5; clear hd5)
     | (go_at_call 102; have _t := tok2; refine (checked_yes _).mono ?_; rintro e w6 ⟨rfl, hb⟩; clear tok2 _t; have hs3 := only_call hs2 hb; have HS3 := hI (below_call HS2.out hb); have Ho4 := hI (Ho4.out.keep hb); have Hd5 := hI (Hd5.out.keep hb); clear hb; obtain ⟨p2, q2⟩ := (K2.out.keep HS3.out).at))
 replace K0 := kbW K0 HS3.out; replace K1 := kbW K1 HS3.out; replace K2 := kbW K2 HS3.out; replace HB := hI (below_call HB.out HS3.out); replace H1 := kdW H1 HS3.out; replace H2 := kdW H2 HS3.out; clear mk hs0 HS0 hs1 HS1 hs2 HS2 hs3 HS3  p2 q2; go_wp2_with fail
 refine bodyPost_ret (results_box2 rfl _ _ (w.heap.size + 1 + 1) 34 _ _ _ rfl (K2.out.set2 _ _) Tryz.underlying34 rfl (by kernel_rfl)) rfl ⟨a5, c5, rfl, ?_, ?_⟩
 · exact Hd5.out.far0 K2.out zb2 (only_setCell (only_setCell (World.grownBy.refl _ _) _) _)
 · exact (HB.out.setCell (by simp; omega) _).setCell (by simp; omega) _
theorem bigAdd_ok {x y : Int} {a1 a2 : Option Addr} {c1 c2 : Nat} {w : World} (h1 : BD G w a1 c1 x) (h2 : BD G w a2 c2 y) (hx : Sz x 549755813888) (hy : Sz y 549755813888) :
 Calls Tryz.prog 78 #[.agg #[.int .i64 (sg x), .slice a1 (ln x) c1], .agg #[.int .i64 (sg y), .slice a2 (ln y) c2]] w fun e w' => ∃ a c, e = .returned (.tuple #[.agg #[.int .i64 (sg (x + y)), .slice a (ln (x + y)) c], .int .i64 0]) ∧ BD G w' a c (x + y) ∧ Below w.heap.size w w' := by
 by_cases h : sg x * sg y < 0
 · rcases Nat.lt_or_ge x.natAbs y.natAbs with h' | h'
   · exact bigAdd_neglt h1 h2 hx hy h h'
   · exact bigAdd_negge h1 h2 hx hy h h'
 · exact bigAdd_same h1 h2 hx hy (by omega)
theorem bigCompare_ne {x y : Int} {a1 a2 : Option Addr} {c1 c2 : Nat} {w : World} (h1 : BD G w a1 c1 x) (h2 : BD G w a2 c2 y) (hx : Sz x 549755813888) (hy : Sz y 549755813888) (hs : sg x ≠ sg y) :
 Calls Tryz.prog 65 #[.agg #[.int .i64 (sg x), .slice a1 (ln x) c1], .agg #[.int .i64 (sg y), .slice a2 (ln y) c2]] w fun e w' => e = .returned (.int .i64 (ord x y)) ∧ Below w.heap.size w w' := by
 have HX := hI hx; have HY := hI hy; have H1 := hI h1; have H2 := hI h2; have e1 : (sg x != sg y) = true := by rw [bne_iff_ne]; exact hs
 have HO : Hid (ord (sg x) (sg y) = ord x y) := ord_signs hs; clear hx hy h1 h2 hs
 go_enter Tryz.func65, Tryz.ntmps65
 go_wp2_with fail
 refine (bigRight_ok (z := x) (H1.out.keep (by go_grown)) (HX.out.mono (by omega))).mono ?_; rintro e w1 ⟨rfl, hb⟩; refine kp2W hb fun K0 K1 => ?_; have hb' : Below w.heap.size w w1 := below_call (by go_grown) hb; have HB := hI hb'; replace H1 := kdW H1 hb'; replace H2 := kdW H2 hb'; clear hb hb'; refine K0.out.w2 fun aa ab ac ad z0 => ?_; refine K1.out.w2 fun ae af ag ah z1 => ?_; go_wp2_with fail
 refine (bigRight_ok (z := y) (H2.out.keep (by go_grown)) (HY.out.mono (by omega))).mono ?_; rintro e w2 ⟨rfl, hb⟩; clear aa ab ac ad z0 ae af ag ah z1; have hb' := below_call (w1 := w1) (by go_grown) hb; replace K0 := kbW K0 hb'; replace K1 := kbW K1 hb'; replace HB := hI (below_call HB.out hb'); replace H1 := kdW H1 hb'; replace H2 := kdW H2 hb'; clear hb hb'; refine K0.out.w2 fun aa ab ac ad z0 => ?_; refine K1.out.w2 fun ae af ag ah z1 => ?_; go_wp2_with fail
 refine (calls_below (cmpCompare_any (sg x) (sg y) _)).mono ?_; rintro e w3 ⟨rfl, hb⟩; clear aa ab ac ad z0 ae af ag ah z1; have hb' := below_call (w1 := w2) (by go_grown) hb; replace K0 := kbW K0 hb'; replace K1 := kbW K1 hb'; replace HB := hI (below_call HB.out hb'); replace H1 := kdW H1 hb'; replace H2 := kdW H2 hb'; clear hb hb'; refine K0.out.w2 fun aa ab ac ad z0 => ?_; refine K1.out.w2 fun ae af ag ah z1 => ?_; go_wp2_with fail
 go_ret
 exact ⟨ret_int HO.out, HB.out⟩
theorem bigCompare_eq {x y : Int} {a1 a2 : Option Addr} {c1 c2 : Nat} {w : World} (h1 : BD G w a1 c1 x) (h2 : BD G w a2 c2 y) (hx : Sz x 549755813888) (hy : Sz y 549755813888) (hs : sg x = sg y) :
 Calls Tryz.prog 65 #[.agg #[.int .i64 (sg x), .slice a1 (ln x) c1], .agg #[.int .i64 (sg y), .slice a2 (ln y) c2]] w fun e w' => e = .returned (.int .i64 (ord x y)) ∧ Below w.heap.size w w' := by
 have HX := hI hx; have HY := hI hy; have H1 := hI h1; have H2 := hI h2; have e1 : (sg x != sg y) = false := by rw [hs]; simp
 have HO : Hid (sg x * cmpD x y = ord x y) := ord_abs hs; have hwm : IntKind.i64.wrap (sg x * cmpD x y) = sg x * cmpD x y := wrap_cmp x y; clear hx hy h1 h2 hs
 go_enter Tryz.func65, Tryz.ntmps65
 go_wp2_with fail
 refine (bigRight_ok (z := x) (H1.out.keep (by go_grown)) (HX.out.mono (by omega))).mono ?_; rintro e w1 ⟨rfl, hb⟩; refine kp2W hb fun K0 K1 => ?_; have hb' : Below w.heap.size w w1 := below_call (by go_grown) hb; have HB := hI hb'; replace H1 := kdW H1 hb'; replace H2 := kdW H2 hb'; clear hb hb'; refine K0.out.w2 fun aa ab ac ad z0 => ?_; refine K1.out.w2 fun ae af ag ah z1 => ?_; go_wp2_with fail
 refine (bigRight_ok (z := y) (H2.out.keep (by go_grown)) (HY.out.mono (by omega))).mono ?_; rintro e w2 ⟨rfl, hb⟩; clear aa ab ac ad z0 ae af ag ah z1; have hb' := below_call (w1 := w1) (by go_grown) hb; replace K0 := kbW K0 hb'; replace K1 := kbW K1 hb'; replace HB := hI (below_call HB.out hb'); replace H1 := kdW H1 hb'; replace H2 := kdW H2 hb'; clear hb hb'; refine K0.out.w2 fun aa ab ac ad z0 => ?_; refine K1.out.w2 fun ae af ag ah z1 => ?_; go_wp2_with fail
 clear aa ab ac ad z0 ae af ag ah z1; have mk := Lib.hid fun w' (h : Below w2.heap.size w2 w') => (K0.out.keep h).t2 ((K1.out.keep h).t2 h)
 have hs0 : Below w2.heap.size w2 w2.drew := (Below.refl _ _).drew; have HS0 : Hid (Below w2.heap.size w2 w2.drew) := (Below.refl _ _).drew; have tok0 : True := trivial
 go_region_held3 (fun w' => w'.cell? ⟨w.heap.size, 0, none⟩ = some (.int .i64 (sg x)) ∧ w'.cell? ⟨w.heap.size, 1, none⟩ = some (.slice a1 (ln x) c1) ∧ w'.cell? ⟨w.heap.size + 1, 0, none⟩ = some (.int .i64 (sg y)) ∧ w'.cell? ⟨w.heap.size + 1, 1, none⟩ = some (.slice a2 (ln y) c2) ∧ Below w2.heap.size w2 w')
  (first | exact mk.out _ (by assumption) | exact mk.out _ (Below.alloc (by assumption) (Below.size (by assumption)) _))
  (first
   | (go_at_call 100; have _t := tok0; refine (bigcmp_is (H1.out.keep HS0.out) (H2.out.keep HS0.out) (HX.out.mono (by omega)) (HY.out.mono (by omega))).mono ?_; rintro e w3 ⟨rfl, hb⟩; clear tok0 _t; have hs1 := below_call hs0 hb; have HS1 := hI (below_call HS0.out hb); clear hb))
 replace K0 := kbW K0 HS1.out; replace K1 := kbW K1 HS1.out; replace HB := hI (below_call HB.out HS1.out); replace H1 := kdW H1 HS1.out; replace H2 := kdW H2 HS1.out; clear mk hs0 HS0 hs1 HS1; go_wp2_with fail
 go_ret
 exact ⟨ret_int HO.out, HB.out⟩
theorem bigCompare_ok {x y : Int} {a1 a2 : Option Addr} {c1 c2 : Nat} {w : World} (h1 : BD G w a1 c1 x) (h2 : BD G w a2 c2 y) (hx : Sz x 549755813888) (hy : Sz y 549755813888) :
 Calls Tryz.prog 65 #[.agg #[.int .i64 (sg x), .slice a1 (ln x) c1], .agg #[.int .i64 (sg y), .slice a2 (ln y) c2]] w fun e w' => e = .returned (.int .i64 (ord x y)) ∧ Below w.heap.size w w' := by
 by_cases h : sg x = sg y
 · exact bigCompare_eq h1 h2 hx hy h
 · exact bigCompare_ne h1 h2 hx hy h
structure Out (w w' : World) (lo hi : Nat) : Prop where
 os : w'.os = w.os
 tape : w'.tape = w.tape
 output : w'.output = w.output
 size : w.heap.size ≤ w'.heap.size
 block : ∀ k, k < w.heap.size → (k < lo ∨ hi < k) → w'.heap[k]? = w.heap[k]?
theorem out_start (w : World) (lo hi : Nat) : Out w w.drew lo hi := ⟨rfl, rfl, rfl, Nat.le_refl _, fun _ _ _ => rfl⟩
theorem out_call {w2 wx w' : World} {lo hi : Nat} (hg : Out w2 wx lo hi) (hb : Below wx.heap.size wx w') : Out w2 w' lo hi :=
 ⟨hb.os.trans hg.os, hb.tape.trans hg.tape, hb.output.trans hg.output, Nat.le_trans hg.size hb.size, fun k hk hne => (hb.block k (Nat.lt_of_lt_of_le hk hg.size)).trans (hg.block k hk hne)⟩
theorem out_alloc {a w : World} {lo hi : Nat} (h : Out a w lo hi) (o : Obj) : Out a (w.alloc o) lo hi :=
 ⟨h.os, h.tape, h.output, Nat.le_trans h.size (by simp), fun i hi' hne => (Below.heap_alloc w o i (Nat.lt_of_lt_of_le hi' h.size)).trans (h.block i hi' hne)⟩
theorem out_set {a w : World} {lo hi g i : Nat} (h : Out a w lo hi) (hg : lo ≤ g ∧ g ≤ hi) (u : Value) : Out a (w.setCell ⟨g, i, none⟩ u) lo hi :=
 ⟨h.os, h.tape, h.output, by simpa [World.setCell] using h.size, fun k hk hne => (Below.heap_setCell w ⟨g, i, none⟩ u k (by show k ≠ g; omega)).trans (h.block k hk hne)⟩
theorem Bx.outside {w w' : World} {g lo hi : Nat} {T : TypeId} {cs : Array Value} (h : Bx w g T cs) (hb : Out w w' lo hi) (hne : g < lo ∨ hi < g) : Bx w' g T cs := (hb.block g h.lt hne).trans h
theorem results_box2t {P : Program} {fn : Func} {p q u : Tmp} {ty ty2 : TypeId} (h : fn.results = #[.cell p ty, .cell q ty2, .tmp u]) (tmps : Array Value) (w : World) (g g2 : Nat) (t t2 : TypeId) (cs cs2 : Array Value) (fr fr2 : Nat × Nat) (d d2 : TypeDesc)
 (hp : tmps.getD p undef = .pointer (some ⟨g, 0, none⟩)) (hg : w.heap[g]? = some (.cells cs t fr)) (hu : P.underlying ty = some d) (hd : (match d with | .struct _ | .array _ _ => true | _ => false) = true) (hi : (P.info? ty).map (·.size) = some cs.size)
 (hp2 : tmps.getD q undef = .pointer (some ⟨g2, 0, none⟩)) (hg2 : w.heap[g2]? = some (.cells cs2 t2 fr2)) (hu2 : P.underlying ty2 = some d2) (hd2 : (match d2 with | .struct _ | .array _ _ => true | _ => false) = true) (hi2 : (P.info? ty2).map (·.size) = some cs2.size) :
 (results fn tmps).run P w = .ok (.tuple #[.agg cs, .agg cs2, tmps.getD u undef]) w := by
 have hp' : tmps[p]?.getD undef = .pointer (some ⟨g, 0, none⟩) := by simpa using hp
 have hp2' : tmps[q]?.getD undef = .pointer (some ⟨g2, 0, none⟩) := by simpa using hp2
 simp [results, h, hp', hp2', asAddr, run_loadVar_row w g t ty cs fr d hg hu hd hi, run_loadVar_row w g2 t2 ty2 cs2 fr2 d2 hg2 hu2 hd2 hi2]
def dv (x y : Int) : Int := x.fdiv y
def md (x y : Int) : Int := x.fmod y
theorem dv_unique {x y q r : Int} (h : x = y * q + r) (hr : (0 ≤ r ∧ r < y) ∨ (y < r ∧ r ≤ 0)) : dv x y = q ∧ md x y = r := by
 have hy : y ≠ 0 := by omega
 have hq : x.fdiv y = q := by
  rcases hr with hr | hr
  · rw [Int.fdiv_eq_ediv_of_nonneg _ (by omega)]
    have := (Int.ediv_emod_unique (a := x) (b := y) (r := r) (q := q) (by omega)).2 ⟨by omega, hr.1, hr.2⟩; exact this.1
  · rw [← Int.neg_fdiv_neg, Int.fdiv_eq_ediv_of_nonneg _ (by omega)]
    have := (Int.ediv_emod_unique (a := -x) (b := -y) (r := -r) (q := q) (by omega)).2 ⟨by rw [h, Int.neg_mul]; omega, by omega, by omega⟩; exact this.1
 refine ⟨hq, ?_⟩; have := Int.mul_fdiv_add_fmod x y; rw [hq] at this; unfold md; omega
theorem abs_sg (x : Int) : x = sg x * (x.natAbs : Int) := (sign_mul_abs x).symm
theorem nat_divmod (a b : Nat) : (a : Int) = b * ((a / b : Nat) : Int) + ((a % b : Nat) : Int) := by have := Nat.div_add_mod a b; exact_mod_cast this.symm
theorem div_unlike {x y : Int} (hs : sg x * sg y < 0) (hr : x.natAbs % y.natAbs ≠ 0) :
 -1 * ((x.natAbs / y.natAbs + 1 : Nat) : Int) = dv x y ∧ sg y * ((y.natAbs - x.natAbs % y.natAbs : Nat) : Int) = md x y ∧ (sg y = 1 ∨ sg y = -1) := by
 have hd := nat_divmod x.natAbs y.natAbs; rcases Int.lt_trichotomy y 0 with hy | hy | hy
 · rw [sg_neg hy] at *
   have hx : 0 < x := by
    rcases Int.lt_trichotomy x 0 with h | h | h
    · rw [sg_neg h] at hs; omega
    · rw [sg_zero' h] at hs; omega
    · exact h
   have hm := Nat.mod_lt x.natAbs (show 0 < y.natAbs by omega); generalize x.natAbs / y.natAbs = q at *; generalize x.natAbs % y.natAbs = r at *; have hyy : (y.natAbs : Int) = -y := by omega
   have := dv_unique (x := x) (y := y) (q := -1 * ((q + 1 : Nat) : Int)) (r := -1 * ((y.natAbs - r : Nat) : Int)) (by
    rw [hyy] at hd; have hc : ((q + 1 : Nat) : Int) = q + 1 := by omega
    have hc2 : ((y.natAbs - r : Nat) : Int) = -y - r := by omega
    rw [hc, hc2]; have : x = -y * q + r := by omega
    rw [this]; grind) (.inr ⟨by omega, by omega⟩)
   exact ⟨this.1.symm, this.2.symm, .inr rfl⟩
 · rw [sg_zero' hy] at hs; omega
 · rw [sg_pos hy] at *
   have hx : x < 0 := by
    rcases Int.lt_trichotomy x 0 with h | h | h
    · exact h
    · rw [sg_zero' h] at hs; omega
    · rw [sg_pos h] at hs; omega
   have hm := Nat.mod_lt x.natAbs (show 0 < y.natAbs by omega); generalize x.natAbs / y.natAbs = q at *; generalize x.natAbs % y.natAbs = r at *; have hyy : (y.natAbs : Int) = y := by omega
   have := dv_unique (x := x) (y := y) (q := -1 * ((q + 1 : Nat) : Int)) (r := 1 * ((y.natAbs - r : Nat) : Int)) (by
    rw [hyy] at hd; have hc : ((q + 1 : Nat) : Int) = q + 1 := by omega
    have hc2 : ((y.natAbs - r : Nat) : Int) = y - r := by omega
    rw [hc, hc2]; have : x = -(y * q + r) := by omega
    rw [this]; grind) (.inl ⟨by omega, by omega⟩)
   exact ⟨this.1.symm, this.2.symm, .inl rfl⟩
theorem div_like {x y : Int} (hy0 : y ≠ 0) (h : 0 ≤ sg x * sg y ∨ x.natAbs % y.natAbs = 0) :
 sg x * sg y * ((x.natAbs / y.natAbs : Nat) : Int) = dv x y ∧ sg x * ((x.natAbs % y.natAbs : Nat) : Int) = md x y := by
 have hd := nat_divmod x.natAbs y.natAbs; have hm := Nat.mod_lt x.natAbs (show 0 < y.natAbs by omega); have hx := abs_sg x; have hq0 : x = 0 → x.natAbs / y.natAbs = 0 ∧ x.natAbs % y.natAbs = 0 := by rintro rfl; simp
 generalize x.natAbs / y.natAbs = q at *; generalize x.natAbs % y.natAbs = r at *
 have key : x = y * (sg x * sg y * (q : Int)) + sg x * (r : Int) := by
  have hy := abs_sg y; have hyy : sg y * sg y = 1 := by rcases sg_ne hy0 with h | h <;> rw [h] <;> rfl
  have : y * (sg x * sg y * (q : Int)) = sg x * ((y.natAbs : Int) * q) := by
   have h0 : y * (sg x * sg y * (q : Int)) = sg y * (y.natAbs : Int) * (sg x * sg y * (q : Int)) := by rw [← hy]
   rw [h0]; have : sg y * (y.natAbs : Int) * (sg x * sg y * (q : Int)) = (sg y * sg y) * (sg x * ((y.natAbs : Int) * q)) := by grind
   rw [this, hyy, Int.one_mul]
  rw [this, ← Int.mul_add, ← hd]; exact hx
 have hr : (0 ≤ sg x * (r : Int) ∧ sg x * (r : Int) < y) ∨ (y < sg x * (r : Int) ∧ sg x * (r : Int) ≤ 0) := by
  rcases Int.lt_trichotomy x 0 with h1 | h1 | h1
  · rw [sg_neg h1] at *
    rcases Int.lt_trichotomy y 0 with h2 | h2 | h2
    · right; omega
    · omega
    · rw [sg_pos h2] at h; left; omega
  · rw [sg_zero' h1]; omega
  · rw [sg_pos h1] at *
    rcases Int.lt_trichotomy y 0 with h2 | h2 | h2
    · rw [sg_neg h2] at h; right; omega
    · omega
    · left; omega
 have := dv_unique key hr; exact ⟨this.1.symm, this.2.symm⟩
theorem sgs_ne {x y : Int} (hx : x ≠ 0) (hy : y ≠ 0) : sg x * sg y = 1 ∨ sg x * sg y = -1 := by
 rcases sg_ne hx with h1 | h1 <;> rcases sg_ne hy with h2 | h2 <;> rw [h1, h2] <;> simp
def lnN (n : Nat) : Nat := (digs n).length
theorem lnN_pos {n : Nat} (h : n ≠ 0) : 0 < lnN n := by
 rcases Nat.eq_zero_or_pos (lnN n) with h' | h'
 · exact absurd (digs_nil.1 (List.length_eq_zero_iff.1 h')) h
 · exact h'
theorem OwnN.slice {w : World} {B : Nat} {v : Value} {n : Nat} (h : OwnN w B v (digs n)) : ∃ a c, v = .slice a (lnN n) c := by
 rcases h.shape with ⟨h1, h2⟩ | ⟨g, cap, h1, -⟩
 · exact ⟨none, 0, by rw [h1, lnN, h2]; rfl⟩
 · exact ⟨_, _, h1⟩
theorem bigdiv_is {x y : Int} {a1 a2 : Option Addr} {c1 c2 : Nat} {w : World} (h1 : BD G w a1 c1 x) (h2 : BD G w a2 c2 y) (hx : Sz x 549755813888) (hy : Sz y 549755813888) (h0 : y ≠ 0) {q r : Nat} (hq : x.natAbs / y.natAbs = q) (hr : x.natAbs % y.natAbs = r) :
 Calls Tryz.prog 103 #[.slice a1 (ln x) c1, .slice a2 (ln y) c2] w fun e w' => ∃ a c b d, e = .returned (.tuple #[.slice a (lnN q) c, .slice b (lnN r) d]) ∧ OwnN w' w.heap.size (.slice a (lnN q) c) (digs q) ∧ OwnN w' w.heap.size (.slice b (lnN r) d) (digs r) ∧ Below w.heap.size w w' :=
 (bigDiv_any _ _ _ _ w h1.rd h2.rd (by omega) (by unfold Sz at hx; omega) (by unfold Sz at hy; omega)).mono fun e w' ⟨v, r', he, h3, h4, hb⟩ => by
  rw [hq] at h3; rw [hr] at h4; obtain ⟨a, c, rfl⟩ := h3.slice; obtain ⟨b, d, rfl⟩ := h4.slice; exact ⟨a, c, b, d, he, h3, h4, hb⟩
theorem tail_room {x y : Int} (hx : Sz x 549755813888) : lnN (x.natAbs / y.natAbs) ≤ 549755813888 ∧ lnN (x.natAbs % y.natAbs) ≤ 549755813888 := by
 unfold Sz at *; exact ⟨Nat.le_trans (digs_len_mono (Nat.div_le_self _ _)) hx, Nat.le_trans (digs_len_mono (Nat.mod_le _ _)) hx⟩
theorem bigsub_nat {y : Int} {r : Nat} {a2 b : Option Addr} {c2 d B : Nat} {w : World} (h2 : BD G w a2 c2 y) (h : OwnN w B (.slice b (lnN r) d) (digs r)) (hy : Sz y 1099511627776) (hle : r ≤ y.natAbs) :
 Calls Tryz.prog 114 #[.slice a2 (ln y) c2, .slice b (lnN r) d] w fun e w' => ∃ v, e = .returned v ∧ OwnN w' w.heap.size v (digs (y.natAbs - r)) ∧ Below w.heap.size w w' := by
 have := bigSub_any _ _ _ _ w h2.rd h.rd (digs_small _) (digs_small _) (digs_len_mono hle) (by rw [val_digs, val_digs]; exact hle) hy
 rwa [val_digs, val_digs] at this
theorem bigadd_one {q : Nat} {a : Option Addr} {c B : Nat} {w : World} (h : OwnN (w.alloc (.cells #[.int .i64 1] 3)) B (.slice a (lnN q) c) (digs q)) (hq : lnN q ≤ 1099511627776) :
 Calls Tryz.prog 113 #[.slice a (lnN q) c, .slice (some ⟨w.heap.size, 0, none⟩) 1 1] (w.alloc (.cells #[.int .i64 1] 3)) fun e w' => ∃ v, e = .returned v ∧ OwnN w' (w.alloc (.cells #[.int .i64 1] 3)).heap.size v (digs (q + 1)) ∧ Below (w.alloc (.cells #[.int .i64 1] 3)).heap.size (w.alloc (.cells #[.int .i64 1] 3)) w' := by
 have := bigAdd_any _ _ _ _ _ h.rd (own_lit1 w w.heap.size 1 (Nat.le_refl _)).rd (digs_small _) (small_one (by omega)) hq (by simp); rw [val_digs] at this; exact this
theorem bigDiv_unlike {x y : Int} {a1 a2 : Option Addr} {c1 c2 : Nat} {w : World} (h1 : BD G w a1 c1 x) (h2 : BD G w a2 c2 y) (hx : Sz x 549755813888) (hy : Sz y 549755813888) (hy0 : y ≠ 0) (hs : sg x * sg y < 0 ∧ x.natAbs % y.natAbs ≠ 0) :
 Calls Tryz.prog 115 #[.agg #[.int .i64 (sg x), .slice a1 (ln x) c1], .agg #[.int .i64 (sg y), .slice a2 (ln y) c2]] w fun e w' => ∃ a c b d, e = .returned (.tuple #[.agg #[.int .i64 (sg (dv x y)), .slice a (ln (dv x y)) c], .agg #[.int .i64 (sg (md x y)), .slice b (ln (md x y)) d], .int .i64 0]) ∧ BD G w' a c (dv x y) ∧ BD G w' b d (md x y) ∧ Below w.heap.size w w' := by
 have HX := hI hx; have HY := hI hy; have H1 := hI h1; have H2 := hI h2; have hws := wrap_signs x y; have e0 : (sg y == 0) = false := by rw [beq_eq_false_iff_ne]; rcases sg_ne hy0 with h | h <;> rw [h] <;> decide
 obtain ⟨q, hq⟩ : ∃ q, x.natAbs / y.natAbs = q := ⟨_, rfl⟩; obtain ⟨r, hr⟩ : ∃ r, x.natAbs % y.natAbs = r := ⟨_, rfl⟩; have hrm := tail_room (y := y) hx; have hm1 := div_unlike hs.1 hs.2; have hry := Nat.mod_lt x.natAbs (show 0 < y.natAbs by omega); rw [hq, hr] at hm1; rw [hr] at hry; have HM1 := hI hm1; have HRY : Hid (r ≤ y.natAbs) := by show _ ≤ _; omega
 have e1 : decide (sg x * sg y < 0) = true := by rw [decide_eq_true_eq]; exact hs.1
 have hrp := lnN_pos hs.2; rw [hr] at hrp; have e2 : decide (0 < lnN r) = true := by rw [decide_eq_true_eq]; exact hrp
 have HM0 : Hid ((digs (q + 1)).length ≤ 8796093022208) := by
  show _ ≤ _
  have h1 := digs_len_add q 1; have h2 : (digs 1).length = 1 := rfl; have h3 := hrm.1; rw [hq, lnN] at h3; omega
 have HM4 : Hid ((digs (y.natAbs - r)).length ≤ 8796093022208) := by show _ ≤ _; have := digs_len_mono (Nat.sub_le y.natAbs r); unfold Sz at hy; omega
 clear hm1 hry hrp; rw [hq, hr] at hrm; have HRM := hI hrm; have HQ := hI hq; have HR := hI hr; clear hx hy h1 h2 hs hq hr hrm
 go_enter Tryz.func115, Tryz.ntmps115
 go_wp2_with fail
 refine (bigRight_ok (z := x) (H1.out.keep (by go_grown)) (HX.out.mono (by omega))).mono ?_; rintro e w1 ⟨rfl, hb⟩; refine kp4W hb fun K0 K1 K2 K3 => ?_; have hb' : Below w.heap.size w w1 := below_call (by go_grown) hb; have HB := hI hb'; replace H1 := kdW H1 hb'; replace H2 := kdW H2 hb'; clear hb hb'; refine K0.out.w2 fun aa ab ac ad z0 => ?_; refine K1.out.w2 fun ae af ag ah z1 => ?_; refine K2.out.w2 fun ai aj ak al z2 => ?_; refine K3.out.w2 fun am ao ap au z3 => ?_; go_wp2_with fail
 refine (bigRight_ok (z := y) (H2.out.keep (by go_grown)) (HY.out.mono (by omega))).mono ?_; rintro e w2 ⟨rfl, hb⟩; clear aa ab ac ad z0 ae af ag ah z1 ai aj ak al z2 am ao ap au z3; have hb' := below_call (w1 := w1) (by go_grown) hb; replace K0 := kbW K0 hb'; replace K1 := kbW K1 hb'; replace K2 := kbW K2 hb'; replace K3 := kbW K3 hb'; replace HB := hI (below_call HB.out hb'); replace H1 := kdW H1 hb'; replace H2 := kdW H2 hb'; clear hb hb'; refine K0.out.w2 fun aa ab ac ad z0 => ?_; refine K1.out.w2 fun ae af ag ah z1 => ?_; refine K2.out.w2 fun ai aj ak al z2 => ?_; refine K3.out.w2 fun am ao ap au z3 => ?_; go_wp2_with fail
 refine (bigdiv_is (q := q) (r := r) (H1.out.keep (by go_grown)) (H2.out.keep (by go_grown)) (HX.out.mono (by omega)) (HY.out.mono (by omega)) hy0 HQ.out HR.out).mono ?_; rintro e w3 ⟨aq, cq, ar, cr, rfl, hq3, hr3, hb⟩; clear aa ab ac ad z0 ae af ag ah z1 ai aj ak al z2 am ao ap au z3; have hb' := below_call (w1 := w2) (by go_grown) hb; replace K0 := kbW K0 hb'; replace K1 := kbW K1 hb'; replace K2 := kbW K2 hb'; replace K3 := kbW K3 hb'; replace HB := hI (below_call HB.out hb'); replace H1 := kdW H1 hb'; replace H2 := kdW H2 hb'; clear hb hb'; have Hq3 := hI hq3; clear hq3; have Hr3 := hI hr3; clear hr3; refine K0.out.w2 fun aa ab ac ad z0 => ?_; refine K1.out.w2 fun ae af ag ah z1 => ?_; refine K2.out.w2 fun ai aj ak al z2 => ?_; refine K3.out.w2 fun am ao ap au z3 => ?_; go_wp2_with fail
 clear aa ab ac ad z0 ae af ag ah z1 ai aj ak al z2 am ao ap au z3; have mk := Lib.hid fun w' (h : Out w3 w' (w.heap.size + 1 + 1) (w.heap.size + 1 + 1 + 1)) => (K0.out.outside h (by omega)).t2 ((K1.out.outside h (by omega)).t2 h)
 have hs0 : Out w3 w3.drew (w.heap.size + 1 + 1) (w.heap.size + 1 + 1 + 1) := out_start _ _ _; have HS0 : Hid (Below w3.heap.size w3 w3.drew) := (Below.refl _ _).drew; have tok0 : True := trivial; have tok1 : True := trivial; have tok2 : True := trivial; have tok3 : True := trivial
 go_region_held3 (fun w' => w'.cell? ⟨w.heap.size, 0, none⟩ = some (.int .i64 (sg x)) ∧ w'.cell? ⟨w.heap.size, 1, none⟩ = some (.slice a1 (ln x) c1) ∧ w'.cell? ⟨w.heap.size + 1, 0, none⟩ = some (.int .i64 (sg y)) ∧ w'.cell? ⟨w.heap.size + 1, 1, none⟩ = some (.slice a2 (ln y) c2) ∧ Out w3 w' (w.heap.size + 1 + 1) (w.heap.size + 1 + 1 + 1))
   (first | exact mk.out _ (by assumption) | exact mk.out _ (out_alloc (by assumption) _) | (go_split_ands; exact mk.out _ (out_set (out_set (by assumption) (by omega) _) (by omega) _)))
   (first
     | (go_at_call 113; have _t := tok0; refine (bigadd_one (w := w3.drew) (Hq3.out.keep (Below.alloc HS0.out (Below.size HS0.out) _)) (by have := HRM.out.1; omega)).mono ?_; rintro e w4 ⟨v4, rfl, ho4, hb⟩; clear tok0 _t; have hs1 := out_call (out_alloc hs0 _) hb; have HS1 := hI (below_call (Below.alloc HS0.out (Below.size HS0.out) _) hb); clear hb; have Ho4 := hI ho4; clear ho4)
     | (go_at_call 71; have _t := tok1; refine (signed_is (G := G) (z := dv x y) Ho4.out HM0.out HM1.out.1 (fun _ => .inr rfl)).mono ?_; rintro e w5 ⟨a5, c5, rfl, hd5, hb⟩; clear tok1 _t; have hs2 := out_call hs1 hb; have HS2 := hI (below_call HS1.out hb); have Ho4 := hI (Ho4.out.keep hb); clear hb; have Hd5 := hI hd5; clear hd5)
     | (go_at_call 114; have _t := tok2; refine (bigsub_nat (H2.out.keep HS2.out) (Hr3.out.keep HS2.out) (HY.out.mono (by omega)) HRY.out).mono ?_; rintro e w6 ⟨v6, rfl, ho6, hb⟩; clear tok2 _t; have hs3 := out_call hs2 hb; have HS3 := hI (below_call HS2.out hb); have Ho4 := hI (Ho4.out.keep hb); have Hd5 := hI (Hd5.out.keep hb); clear hb; have Ho6 := hI ho6; clear ho6)
     | (go_at_call 71; have _t := tok3; refine (signed_is (G := G) (z := md x y) Ho6.out HM4.out HM1.out.2.1 (fun _ => HM1.out.2.2)).mono ?_; rintro e w7 ⟨a7, c7, rfl, hd7, hb⟩; clear tok3 _t; have hs4 := out_call hs3 hb; have HS4 := hI (below_call HS3.out hb); have Ho4 := hI (Ho4.out.keep hb); have Hd5 := hI (Hd5.out.keep hb); have Ho6 := hI (Ho6.out.keep hb); clear hb; have Hd7 := hI hd7; clear hd7; obtain ⟨p2, q2⟩ := (K2.out.keep HS4.out).at; obtain ⟨p3, q3⟩ := (K3.out.keep HS4.out).at))
 replace K0 := kbW K0 HS4.out; replace K1 := kbW K1 HS4.out; replace K2 := kbW K2 HS4.out; replace K3 := kbW K3 HS4.out; replace HB := hI (below_call HB.out HS4.out); replace H1 := kdW H1 HS4.out; replace H2 := kdW H2 HS4.out; replace Hq3 := hI (Hq3.out.keep HS4.out); replace Hr3 := hI (Hr3.out.keep HS4.out); clear mk hs0 HS0 hs1 HS1 hs2 HS2 hs3 HS3 hs4 HS4  p2 q2 p3 q3; go_wp2_with fail
 have hst2 := only_setCell (g := w.heap.size + 1 + 1) (o := 1) (only_setCell (o := 0) (World.grownBy.refl w7 (some (w.heap.size + 1 + 1))) (.int .i64 (sg (dv x y)))) (.slice a5 (ln (dv x y)) c5); have k3 := K3.out.only hst2 (by omega); refine bodyPost_ret (results_box2t rfl _ _ (w.heap.size + 1 + 1) (w.heap.size + 1 + 1 + 1) 34 34 _ _ _ _ _ _ rfl ((K2.out.set2 _ _).only (only_setCell (only_setCell (World.grownBy.refl _ _) _) _) (by omega)) Tryz.underlying34 rfl (by kernel_rfl) rfl (k3.set2 _ _) Tryz.underlying34 rfl (by kernel_rfl)) rfl ⟨a5, c5, a7, c7, rfl, ?_, ?_, ?_⟩
 · exact (Hd5.out.far0 K2.out zb2 hst2).far0 k3 zb2 (only_setCell (only_setCell (World.grownBy.refl _ _) _) _)
 · exact (Hd7.out.far0 K2.out zb2 hst2).far0 k3 zb2 (only_setCell (only_setCell (World.grownBy.refl _ _) _) _)
 · exact (((HB.out.setCell (by simp; omega) _).setCell (by simp; omega) _).setCell (by simp; omega) _).setCell (by simp; omega) _
theorem bigDiv_like {x y : Int} {a1 a2 : Option Addr} {c1 c2 : Nat} {w : World} (h1 : BD G w a1 c1 x) (h2 : BD G w a2 c2 y) (hx : Sz x 549755813888) (hy : Sz y 549755813888) (hy0 : y ≠ 0) (hs : 0 ≤ sg x * sg y) :
 Calls Tryz.prog 115 #[.agg #[.int .i64 (sg x), .slice a1 (ln x) c1], .agg #[.int .i64 (sg y), .slice a2 (ln y) c2]] w fun e w' => ∃ a c b d, e = .returned (.tuple #[.agg #[.int .i64 (sg (dv x y)), .slice a (ln (dv x y)) c], .agg #[.int .i64 (sg (md x y)), .slice b (ln (md x y)) d], .int .i64 0]) ∧ BD G w' a c (dv x y) ∧ BD G w' b d (md x y) ∧ Below w.heap.size w w' := by
 have HX := hI hx; have HY := hI hy; have H1 := hI h1; have H2 := hI h2; have hws := wrap_signs x y; have e0 : (sg y == 0) = false := by rw [beq_eq_false_iff_ne]; rcases sg_ne hy0 with h | h <;> rw [h] <;> decide
 obtain ⟨q, hq⟩ : ∃ q, x.natAbs / y.natAbs = q := ⟨_, rfl⟩; obtain ⟨r, hr⟩ : ∃ r, x.natAbs % y.natAbs = r := ⟨_, rfl⟩; have hrm := tail_room (y := y) hx; have hm1 := div_like hy0 (.inl hs); have e1 : decide (sg x * sg y < 0) = false := by rw [decide_eq_false_iff_not]; omega
 rw [hq, hr] at hm1; have HM1 := hI hm1; have HM0 : Hid ((digs q).length ≤ 8796093022208) := by show _ ≤ _; have h3 := hrm.1; rw [hq, lnN] at h3; omega
 have HM4 : Hid ((digs r).length ≤ 8796093022208) := by show _ ≤ _; have h3 := hrm.2; rw [hr, lnN] at h3; omega
 have HM5 : Hid (q ≠ 0 → sg x * sg y = 1 ∨ sg x * sg y = -1) := fun h => sgs_ne (by rintro rfl; rw [← hq] at h; simp at h) hy0
 have HM6 : Hid (r ≠ 0 → sg x = 1 ∨ sg x = -1) := fun h => sg_ne (by rintro rfl; rw [← hr] at h; simp at h)
 clear hm1; rw [hq, hr] at hrm; have HRM := hI hrm; have HQ := hI hq; have HR := hI hr; clear hx hy h1 h2 hs hq hr hrm
 go_enter Tryz.func115, Tryz.ntmps115
 go_wp2_with fail
 refine (bigRight_ok (z := x) (H1.out.keep (by go_grown)) (HX.out.mono (by omega))).mono ?_; rintro e w1 ⟨rfl, hb⟩; refine kp4W hb fun K0 K1 K2 K3 => ?_; have hb' : Below w.heap.size w w1 := below_call (by go_grown) hb; have HB := hI hb'; replace H1 := kdW H1 hb'; replace H2 := kdW H2 hb'; clear hb hb'; refine K0.out.w2 fun aa ab ac ad z0 => ?_; refine K1.out.w2 fun ae af ag ah z1 => ?_; refine K2.out.w2 fun ai aj ak al z2 => ?_; refine K3.out.w2 fun am ao ap au z3 => ?_; go_wp2_with fail
 refine (bigRight_ok (z := y) (H2.out.keep (by go_grown)) (HY.out.mono (by omega))).mono ?_; rintro e w2 ⟨rfl, hb⟩; clear aa ab ac ad z0 ae af ag ah z1 ai aj ak al z2 am ao ap au z3; have hb' := below_call (w1 := w1) (by go_grown) hb; replace K0 := kbW K0 hb'; replace K1 := kbW K1 hb'; replace K2 := kbW K2 hb'; replace K3 := kbW K3 hb'; replace HB := hI (below_call HB.out hb'); replace H1 := kdW H1 hb'; replace H2 := kdW H2 hb'; clear hb hb'; refine K0.out.w2 fun aa ab ac ad z0 => ?_; refine K1.out.w2 fun ae af ag ah z1 => ?_; refine K2.out.w2 fun ai aj ak al z2 => ?_; refine K3.out.w2 fun am ao ap au z3 => ?_; go_wp2_with fail
 refine (bigdiv_is (q := q) (r := r) (H1.out.keep (by go_grown)) (H2.out.keep (by go_grown)) (HX.out.mono (by omega)) (HY.out.mono (by omega)) hy0 HQ.out HR.out).mono ?_; rintro e w3 ⟨aq, cq, ar, cr, rfl, hq3, hr3, hb⟩; clear aa ab ac ad z0 ae af ag ah z1 ai aj ak al z2 am ao ap au z3; have hb' := below_call (w1 := w2) (by go_grown) hb; replace K0 := kbW K0 hb'; replace K1 := kbW K1 hb'; replace K2 := kbW K2 hb'; replace K3 := kbW K3 hb'; replace HB := hI (below_call HB.out hb'); replace H1 := kdW H1 hb'; replace H2 := kdW H2 hb'; clear hb hb'; have Hq3 := hI hq3; clear hq3; have Hr3 := hI hr3; clear hr3; refine K0.out.w2 fun aa ab ac ad z0 => ?_; refine K1.out.w2 fun ae af ag ah z1 => ?_; refine K2.out.w2 fun ai aj ak al z2 => ?_; refine K3.out.w2 fun am ao ap au z3 => ?_; go_wp2_with fail
 clear aa ab ac ad z0 ae af ag ah z1 ai aj ak al z2 am ao ap au z3; have mk := Lib.hid fun w' (h : Out w3 w' (w.heap.size + 1 + 1) (w.heap.size + 1 + 1 + 1)) => (K0.out.outside h (by omega)).t2 ((K1.out.outside h (by omega)).t2 h)
 have hs0 : Out w3 w3.drew (w.heap.size + 1 + 1) (w.heap.size + 1 + 1 + 1) := out_start _ _ _; have HS0 : Hid (Below w3.heap.size w3 w3.drew) := (Below.refl _ _).drew; have tok0 : True := trivial; have tok1 : True := trivial
 go_region_held3 (fun w' => w'.cell? ⟨w.heap.size, 0, none⟩ = some (.int .i64 (sg x)) ∧ w'.cell? ⟨w.heap.size, 1, none⟩ = some (.slice a1 (ln x) c1) ∧ w'.cell? ⟨w.heap.size + 1, 0, none⟩ = some (.int .i64 (sg y)) ∧ w'.cell? ⟨w.heap.size + 1, 1, none⟩ = some (.slice a2 (ln y) c2) ∧ Out w3 w' (w.heap.size + 1 + 1) (w.heap.size + 1 + 1 + 1))
   (first | exact mk.out _ (by assumption) | exact mk.out _ (out_alloc (by assumption) _) | (go_split_ands; exact mk.out _ (out_set (out_set (by assumption) (by omega) _) (by omega) _)))
   (first
     | (go_at_call 71; have _t := tok0; refine (signed_is (G := G) (z := dv x y) (Hq3.out.keep HS0.out) HM0.out HM1.out.1 HM5.out).mono ?_; rintro e w4 ⟨a4, c4, rfl, hd4, hb⟩; clear tok0 _t; have hs1 := out_call hs0 hb; have HS1 := hI (below_call HS0.out hb); clear hb; have Hd4 := hI hd4; clear hd4)
     | (go_at_call 71; have _t := tok1; refine (signed_is (G := G) (z := md x y) (Hr3.out.keep HS1.out) HM4.out HM1.out.2 HM6.out).mono ?_; rintro e w5 ⟨a5, c5, rfl, hd5, hb⟩; clear tok1 _t; have hs2 := out_call hs1 hb; have HS2 := hI (below_call HS1.out hb); have Hd4 := hI (Hd4.out.keep hb); clear hb; have Hd5 := hI hd5; clear hd5; obtain ⟨p2, q2⟩ := (K2.out.keep HS2.out).at; obtain ⟨p3, q3⟩ := (K3.out.keep HS2.out).at))
 replace K0 := kbW K0 HS2.out; replace K1 := kbW K1 HS2.out; replace K2 := kbW K2 HS2.out; replace K3 := kbW K3 HS2.out; replace HB := hI (below_call HB.out HS2.out); replace H1 := kdW H1 HS2.out; replace H2 := kdW H2 HS2.out; replace Hq3 := hI (Hq3.out.keep HS2.out); replace Hr3 := hI (Hr3.out.keep HS2.out); clear mk hs0 HS0 hs1 HS1 hs2 HS2  p2 q2 p3 q3; go_wp2_with fail
 have hst2 := only_setCell (g := w.heap.size + 1 + 1) (o := 1) (only_setCell (o := 0) (World.grownBy.refl w5 (some (w.heap.size + 1 + 1))) (.int .i64 (sg (dv x y)))) (.slice a4 (ln (dv x y)) c4); have k3 := K3.out.only hst2 (by omega); refine bodyPost_ret (results_box2t rfl _ _ (w.heap.size + 1 + 1) (w.heap.size + 1 + 1 + 1) 34 34 _ _ _ _ _ _ rfl ((K2.out.set2 _ _).only (only_setCell (only_setCell (World.grownBy.refl _ _) _) _) (by omega)) Tryz.underlying34 rfl (by kernel_rfl) rfl (k3.set2 _ _) Tryz.underlying34 rfl (by kernel_rfl)) rfl ⟨a4, c4, a5, c5, rfl, ?_, ?_, ?_⟩
 · exact (Hd4.out.far0 K2.out zb2 hst2).far0 k3 zb2 (only_setCell (only_setCell (World.grownBy.refl _ _) _) _)
 · exact (Hd5.out.far0 K2.out zb2 hst2).far0 k3 zb2 (only_setCell (only_setCell (World.grownBy.refl _ _) _) _)
 · exact (((HB.out.setCell (by simp; omega) _).setCell (by simp; omega) _).setCell (by simp; omega) _).setCell (by simp; omega) _
theorem bigDiv_none {x y : Int} {a1 a2 : Option Addr} {c1 c2 : Nat} {w : World} (h1 : BD G w a1 c1 x) (h2 : BD G w a2 c2 y) (hx : Sz x 549755813888) (hy : Sz y 549755813888) (hy0 : y ≠ 0) (hs : sg x * sg y < 0 ∧ x.natAbs % y.natAbs = 0) :
 Calls Tryz.prog 115 #[.agg #[.int .i64 (sg x), .slice a1 (ln x) c1], .agg #[.int .i64 (sg y), .slice a2 (ln y) c2]] w fun e w' => ∃ a c b d, e = .returned (.tuple #[.agg #[.int .i64 (sg (dv x y)), .slice a (ln (dv x y)) c], .agg #[.int .i64 (sg (md x y)), .slice b (ln (md x y)) d], .int .i64 0]) ∧ BD G w' a c (dv x y) ∧ BD G w' b d (md x y) ∧ Below w.heap.size w w' := by
 have HX := hI hx; have HY := hI hy; have H1 := hI h1; have H2 := hI h2; have hws := wrap_signs x y; have e0 : (sg y == 0) = false := by rw [beq_eq_false_iff_ne]; rcases sg_ne hy0 with h | h <;> rw [h] <;> decide
 obtain ⟨q, hq⟩ : ∃ q, x.natAbs / y.natAbs = q := ⟨_, rfl⟩; obtain ⟨r, hr⟩ : ∃ r, x.natAbs % y.natAbs = r := ⟨_, rfl⟩; have hrm := tail_room (y := y) hx; have hm1 := div_like hy0 (.inr hs.2); have e1 : decide (sg x * sg y < 0) = true := by rw [decide_eq_true_eq]; exact hs.1
 have e2 : decide (0 < lnN r) = false := by rw [← hr, hs.2]; rfl
 rw [hq, hr] at hm1; have HM1 := hI hm1; have HM0 : Hid ((digs q).length ≤ 8796093022208) := by show _ ≤ _; have h3 := hrm.1; rw [hq, lnN] at h3; omega
 have HM4 : Hid ((digs r).length ≤ 8796093022208) := by show _ ≤ _; have h3 := hrm.2; rw [hr, lnN] at h3; omega
 have HM5 : Hid (q ≠ 0 → sg x * sg y = 1 ∨ sg x * sg y = -1) := fun h => sgs_ne (by rintro rfl; rw [← hq] at h; simp at h) hy0
 have HM6 : Hid (r ≠ 0 → sg x = 1 ∨ sg x = -1) := fun h => sg_ne (by rintro rfl; rw [← hr] at h; simp at h)
 clear hm1; rw [hq, hr] at hrm; have HRM := hI hrm; have HQ := hI hq; have HR := hI hr; clear hx hy h1 h2 hs hq hr hrm
 go_enter Tryz.func115, Tryz.ntmps115
 go_wp2_with fail
 refine (bigRight_ok (z := x) (H1.out.keep (by go_grown)) (HX.out.mono (by omega))).mono ?_; rintro e w1 ⟨rfl, hb⟩; refine kp4W hb fun K0 K1 K2 K3 => ?_; have hb' : Below w.heap.size w w1 := below_call (by go_grown) hb; have HB := hI hb'; replace H1 := kdW H1 hb'; replace H2 := kdW H2 hb'; clear hb hb'; refine K0.out.w2 fun aa ab ac ad z0 => ?_; refine K1.out.w2 fun ae af ag ah z1 => ?_; refine K2.out.w2 fun ai aj ak al z2 => ?_; refine K3.out.w2 fun am ao ap au z3 => ?_; go_wp2_with fail
 refine (bigRight_ok (z := y) (H2.out.keep (by go_grown)) (HY.out.mono (by omega))).mono ?_; rintro e w2 ⟨rfl, hb⟩; clear aa ab ac ad z0 ae af ag ah z1 ai aj ak al z2 am ao ap au z3; have hb' := below_call (w1 := w1) (by go_grown) hb; replace K0 := kbW K0 hb'; replace K1 := kbW K1 hb'; replace K2 := kbW K2 hb'; replace K3 := kbW K3 hb'; replace HB := hI (below_call HB.out hb'); replace H1 := kdW H1 hb'; replace H2 := kdW H2 hb'; clear hb hb'; refine K0.out.w2 fun aa ab ac ad z0 => ?_; refine K1.out.w2 fun ae af ag ah z1 => ?_; refine K2.out.w2 fun ai aj ak al z2 => ?_; refine K3.out.w2 fun am ao ap au z3 => ?_; go_wp2_with fail
 refine (bigdiv_is (q := q) (r := r) (H1.out.keep (by go_grown)) (H2.out.keep (by go_grown)) (HX.out.mono (by omega)) (HY.out.mono (by omega)) hy0 HQ.out HR.out).mono ?_; rintro e w3 ⟨aq, cq, ar, cr, rfl, hq3, hr3, hb⟩; clear aa ab ac ad z0 ae af ag ah z1 ai aj ak al z2 am ao ap au z3; have hb' := below_call (w1 := w2) (by go_grown) hb; replace K0 := kbW K0 hb'; replace K1 := kbW K1 hb'; replace K2 := kbW K2 hb'; replace K3 := kbW K3 hb'; replace HB := hI (below_call HB.out hb'); replace H1 := kdW H1 hb'; replace H2 := kdW H2 hb'; clear hb hb'; have Hq3 := hI hq3; clear hq3; have Hr3 := hI hr3; clear hr3; refine K0.out.w2 fun aa ab ac ad z0 => ?_; refine K1.out.w2 fun ae af ag ah z1 => ?_; refine K2.out.w2 fun ai aj ak al z2 => ?_; refine K3.out.w2 fun am ao ap au z3 => ?_; go_wp2_with fail
 clear aa ab ac ad z0 ae af ag ah z1 ai aj ak al z2 am ao ap au z3; have mk := Lib.hid fun w' (h : Out w3 w' (w.heap.size + 1 + 1) (w.heap.size + 1 + 1 + 1)) => (K0.out.outside h (by omega)).t2 ((K1.out.outside h (by omega)).t2 h)
 have hs0 : Out w3 w3.drew (w.heap.size + 1 + 1) (w.heap.size + 1 + 1 + 1) := out_start _ _ _; have HS0 : Hid (Below w3.heap.size w3 w3.drew) := (Below.refl _ _).drew; have tok0 : True := trivial; have tok1 : True := trivial
 go_region_held3 (fun w' => w'.cell? ⟨w.heap.size, 0, none⟩ = some (.int .i64 (sg x)) ∧ w'.cell? ⟨w.heap.size, 1, none⟩ = some (.slice a1 (ln x) c1) ∧ w'.cell? ⟨w.heap.size + 1, 0, none⟩ = some (.int .i64 (sg y)) ∧ w'.cell? ⟨w.heap.size + 1, 1, none⟩ = some (.slice a2 (ln y) c2) ∧ Out w3 w' (w.heap.size + 1 + 1) (w.heap.size + 1 + 1 + 1))
   (first | exact mk.out _ (by assumption) | exact mk.out _ (out_alloc (by assumption) _) | (go_split_ands; exact mk.out _ (out_set (out_set (by assumption) (by omega) _) (by omega) _)))
   (first
     | (go_at_call 71; have _t := tok0; refine (signed_is (G := G) (z := dv x y) (Hq3.out.keep HS0.out) HM0.out HM1.out.1 HM5.out).mono ?_; rintro e w4 ⟨a4, c4, rfl, hd4, hb⟩; clear tok0 _t; have hs1 := out_call hs0 hb; have HS1 := hI (below_call HS0.out hb); clear hb; have Hd4 := hI hd4; clear hd4)
     | (go_at_call 71; have _t := tok1; refine (signed_is (G := G) (z := md x y) (Hr3.out.keep HS1.out) HM4.out HM1.out.2 HM6.out).mono ?_; rintro e w5 ⟨a5, c5, rfl, hd5, hb⟩; clear tok1 _t; have hs2 := out_call hs1 hb; have HS2 := hI (below_call HS1.out hb); have Hd4 := hI (Hd4.out.keep hb); clear hb; have Hd5 := hI hd5; clear hd5; obtain ⟨p2, q2⟩ := (K2.out.keep HS2.out).at; obtain ⟨p3, q3⟩ := (K3.out.keep HS2.out).at))
 replace K0 := kbW K0 HS2.out; replace K1 := kbW K1 HS2.out; replace K2 := kbW K2 HS2.out; replace K3 := kbW K3 HS2.out; replace HB := hI (below_call HB.out HS2.out); replace H1 := kdW H1 HS2.out; replace H2 := kdW H2 HS2.out; replace Hq3 := hI (Hq3.out.keep HS2.out); replace Hr3 := hI (Hr3.out.keep HS2.out); clear mk hs0 HS0 hs1 HS1 hs2 HS2  p2 q2 p3 q3; go_wp2_with fail
 have hst2 := only_setCell (g := w.heap.size + 1 + 1) (o := 1) (only_setCell (o := 0) (World.grownBy.refl w5 (some (w.heap.size + 1 + 1))) (.int .i64 (sg (dv x y)))) (.slice a4 (ln (dv x y)) c4); have k3 := K3.out.only hst2 (by omega); refine bodyPost_ret (results_box2t rfl _ _ (w.heap.size + 1 + 1) (w.heap.size + 1 + 1 + 1) 34 34 _ _ _ _ _ _ rfl ((K2.out.set2 _ _).only (only_setCell (only_setCell (World.grownBy.refl _ _) _) _) (by omega)) Tryz.underlying34 rfl (by kernel_rfl) rfl (k3.set2 _ _) Tryz.underlying34 rfl (by kernel_rfl)) rfl ⟨a4, c4, a5, c5, rfl, ?_, ?_, ?_⟩
 · exact (Hd4.out.far0 K2.out zb2 hst2).far0 k3 zb2 (only_setCell (only_setCell (World.grownBy.refl _ _) _) _)
 · exact (Hd5.out.far0 K2.out zb2 hst2).far0 k3 zb2 (only_setCell (only_setCell (World.grownBy.refl _ _) _) _)
 · exact (((HB.out.setCell (by simp; omega) _).setCell (by simp; omega) _).setCell (by simp; omega) _).setCell (by simp; omega) _
theorem bigDiv_ok {x y : Int} {a1 a2 : Option Addr} {c1 c2 : Nat} {w : World} (h1 : BD G w a1 c1 x) (h2 : BD G w a2 c2 y) (hx : Sz x 549755813888) (hy : Sz y 549755813888) (hy0 : y ≠ 0) :
 Calls Tryz.prog 115 #[.agg #[.int .i64 (sg x), .slice a1 (ln x) c1], .agg #[.int .i64 (sg y), .slice a2 (ln y) c2]] w fun e w' => ∃ a c b d, e = .returned (.tuple #[.agg #[.int .i64 (sg (dv x y)), .slice a (ln (dv x y)) c], .agg #[.int .i64 (sg (md x y)), .slice b (ln (md x y)) d], .int .i64 0]) ∧ BD G w' a c (dv x y) ∧ BD G w' b d (md x y) ∧ Below w.heap.size w w' := by
 by_cases hs : sg x * sg y < 0
 · by_cases hr : x.natAbs % y.natAbs = 0
   · exact bigDiv_none h1 h2 hx hy hy0 ⟨hs, hr⟩
   · exact bigDiv_unlike h1 h2 hx hy hy0 ⟨hs, hr⟩
 · exact bigDiv_like h1 h2 hx hy hy0 (by omega)
end Go.Proofs.YtlcgckelamhnpaaGreat
