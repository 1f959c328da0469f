/- Scale: certificates, recalls; which are right. -/
import Derived.Test.YtpjpkcelajbfnaaBigM
import Derived.Deep.QuietTactic
namespace Go.Proofs.Ytpjpkcelajbfnaa
open Go.RowKit

/-- A certificate: its scale, its first and its last day, its units, its share in thousandths, its drift. -/
structure Ct where
  s : Int
  f : Int
  u : Int
  n : Int
  p : Int
  d : Int
/-- A recall: its scale, its day. -/
structure Rc where
  s : Int
  t : Int
def cCells (c : Ct) : List Value := [.int .i64 c.s, .int .i64 c.f, .int .i64 c.u, .int .i64 c.n, .int .i64 c.p, .int .i64 c.d]
def rcCells (r : Rc) : List Value := [.int .i64 r.s, .int .i64 r.t]
def inR (n lo hi : Int) : Bool := decide (lo ≤ n) && decide (n ≤ hi)
def daysC (c : Ct) : Bool := decide (0 ≤ c.f) && decide (c.f ≤ c.u) && decide (c.u ≤ 100000)
def rightC (c : Ct) : Bool := daysC c && decide (0 ≤ c.s) && inR c.n 0 1099511627776 && inR c.p 0 1000 && inR c.d 0 10000000
def coversC (c : Ct) (day : Int) : Bool := rightC c && decide (c.f ≤ day) && decide (day ≤ c.u)

theorem within_ok (n m : Int) (w : World) : Calls Try.prog 29 #[.int .i64 n, .int .i64 m] w fun e w' => e = .returned (.bool (inR n 0 m)) ∧ w = w' := by
  unfold inR
  obtain ⟨b1, h1⟩ : ∃ b, b = decide (0 ≤ n) := ⟨_, rfl⟩
  obtain ⟨b2, h2⟩ : ∃ b, b = decide (n ≤ m) := ⟨_, rfl⟩
  rw [← h1, ← h2]
  replace h1 := h1.symm
  replace h2 := h2.symm
  go_enter Try.func29, Try.ntmps29
  cases b1
  · go_wp2_with fail
    go_ret
    exact ⟨rfl, rfl⟩
  · go_wp2_with fail
    go_ret
    exact ⟨rfl, rfl⟩
theorem in_ok (n lo hi : Int) (w : World) : Calls Try.prog 28 #[.int .i64 n, .int .i64 lo, .int .i64 hi] w fun e w' => e = .returned (.bool (inR n lo hi)) ∧ w = w' := by
  unfold inR
  obtain ⟨b1, h1⟩ : ∃ b, b = decide (lo ≤ n) := ⟨_, rfl⟩
  obtain ⟨b2, h2⟩ : ∃ b, b = decide (n ≤ hi) := ⟨_, rfl⟩
  rw [← h1, ← h2]
  replace h1 := h1.symm
  replace h2 := h2.symm
  go_enter Try.func28, Try.ntmps28
  cases b1
  · go_wp2_with fail
    go_ret
    exact ⟨rfl, rfl⟩
  · go_wp2_with fail
    go_ret
    exact ⟨rfl, rfl⟩

set_option maxHeartbeats 4000000 in
theorem scRight_ok (c : Ct) (w : World) : Calls Try.prog 17 #[.agg (cCells c).toArray] w fun e w' => e = .returned (.bool (rightC c)) ∧ Below w.heap.size w w' := by
  obtain ⟨s, f, u, n, p, d⟩ := c
  unfold rightC daysC cCells
  show Calls _ _ #[.agg #[.int .i64 s, .int .i64 f, .int .i64 u, .int .i64 n, .int .i64 p, .int .i64 d]] _ _
  obtain ⟨b1, h1⟩ : ∃ b, b = decide (0 ≤ f) := ⟨_, rfl⟩
  obtain ⟨b2, h2⟩ : ∃ b, b = decide (f ≤ u) := ⟨_, rfl⟩
  obtain ⟨b3, h3⟩ : ∃ b, b = decide (u ≤ 100000) := ⟨_, rfl⟩
  obtain ⟨b4, h4⟩ : ∃ b, b = decide (0 ≤ s) := ⟨_, rfl⟩
  obtain ⟨b5, h5⟩ : ∃ b, b = inR n 0 1099511627776 := ⟨_, rfl⟩
  obtain ⟨b6, h6⟩ : ∃ b, b = inR p 0 1000 := ⟨_, rfl⟩
  obtain ⟨b7, h7⟩ : ∃ b, b = inR d 0 10000000 := ⟨_, rfl⟩
  rw [← h1, ← h2, ← h3, ← h4, ← h5, ← h6, ← h7]
  replace h1 := h1.symm
  replace h2 := h2.symm
  replace h3 := h3.symm
  replace h4 := h4.symm
  have H5 := Lib.hid h5
  have H6 := Lib.hid h6
  have H7 := Lib.hid h7
  clear h5 h6 h7
  go_enter Try.func17, Try.ntmps17
  go_wp2_with (go_at_call 29; refine (within_ok _ _ _).mono ?_; rintro e w' ⟨rfl, rfl⟩; first | rw [← H5.out] | rw [← H6.out] | rw [← H7.out])
  all_goals (go_ret; exact ⟨ret_bool (by simp [*]), by go_grown⟩)

set_option maxHeartbeats 4000000 in
theorem rcRight_ok (c : Ct) (w : World) : Calls Try.prog 18 #[.agg (cCells c).toArray] w fun e w' => e = .returned (.bool (rightC c)) ∧ Below w.heap.size w w' := by
  obtain ⟨s, f, u, n, p, d⟩ := c
  unfold rightC daysC cCells
  show Calls _ _ #[.agg #[.int .i64 s, .int .i64 f, .int .i64 u, .int .i64 n, .int .i64 p, .int .i64 d]] _ _
  obtain ⟨b1, h1⟩ : ∃ b, b = decide (0 ≤ f) := ⟨_, rfl⟩
  obtain ⟨b2, h2⟩ : ∃ b, b = decide (f ≤ u) := ⟨_, rfl⟩
  obtain ⟨b3, h3⟩ : ∃ b, b = decide (u ≤ 100000) := ⟨_, rfl⟩
  obtain ⟨b4, h4⟩ : ∃ b, b = decide (0 ≤ s) := ⟨_, rfl⟩
  obtain ⟨b5, h5⟩ : ∃ b, b = inR n 0 1099511627776 := ⟨_, rfl⟩
  obtain ⟨b6, h6⟩ : ∃ b, b = inR p 0 1000 := ⟨_, rfl⟩
  obtain ⟨b7, h7⟩ : ∃ b, b = inR d 0 10000000 := ⟨_, rfl⟩
  rw [← h1, ← h2, ← h3, ← h4, ← h5, ← h6, ← h7]
  replace h1 := h1.symm
  replace h2 := h2.symm
  replace h3 := h3.symm
  replace h4 := h4.symm
  have H5 := Lib.hid h5
  have H6 := Lib.hid h6
  have H7 := Lib.hid h7
  clear h5 h6 h7
  go_enter Try.func18, Try.ntmps18
  go_wp2_with (go_at_call 28; refine (in_ok _ _ _ _).mono ?_; rintro e w' ⟨rfl, rfl⟩; first | rw [← H5.out] | rw [← H6.out] | rw [← H7.out])
  all_goals (go_ret; exact ⟨ret_bool (by simp [*]), by go_grown⟩)

set_option maxHeartbeats 4000000 in
theorem covers_ok (c : Ct) (day : Int) (w : World) : Calls Try.prog 27 #[.agg (cCells c).toArray, .int .i64 day] w fun e w' => e = .returned (.bool (coversC c day)) ∧ Below w.heap.size w w' := by
  obtain ⟨s, f, u, n, p, d⟩ := c
  unfold coversC cCells
  show Calls _ _ #[.agg #[.int .i64 s, .int .i64 f, .int .i64 u, .int .i64 n, .int .i64 p, .int .i64 d], .int .i64 day] _ _
  obtain ⟨b1, h1⟩ : ∃ b, b = rightC ⟨s, f, u, n, p, d⟩ := ⟨_, rfl⟩
  obtain ⟨b2, h2⟩ : ∃ b, b = decide (f ≤ day) := ⟨_, rfl⟩
  obtain ⟨b3, h3⟩ : ∃ b, b = decide (day ≤ u) := ⟨_, rfl⟩
  rw [← h1, ← h2, ← h3]
  replace h2 := h2.symm
  replace h3 := h3.symm
  have H1 := Lib.hid h1
  clear h1
  go_enter Try.func27, Try.ntmps27
  go_wp2_with fail
  refine (scRight_ok ⟨s, f, u, n, p, d⟩ _).mono ?_
  rintro e w1 ⟨rfl, hb⟩
  rw [← H1.out]
  have K0 := Lib.hid ((bx1 w 25 #[.int .i64 s, .int .i64 f, .int .i64 u, .int .i64 n, .int .i64 p, .int .i64 d]).keep hb)
  have HB : Hid (Below w.heap.size w w1) := below_call (by go_grown) hb
  clear hb
  have p1 : w1.cell? ⟨w.heap.size, 1, none⟩ = some (.int .i64 f) := K0.out.at.1 1
  have p2 : w1.cell? ⟨w.heap.size, 2, none⟩ = some (.int .i64 u) := K0.out.at.1 2
  go_wp2_with fail
  all_goals (go_ret; exact ⟨ret_bool (by simp [*]), HB.out⟩)
end Go.Proofs.Ytpjpkcelajbfnaa
