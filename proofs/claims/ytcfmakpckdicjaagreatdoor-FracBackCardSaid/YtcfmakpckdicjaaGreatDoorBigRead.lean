/- Reading a big integer. -/
import Derived.Test.YtcfmakpckdicjaaGreatDoorBigText
namespace Go.Proofs.YtcfmakpckdicjaaGreatDoor
open Go.RowKit Go.Lib Go.Sort
variable {G : Nat}

set_option maxRecDepth 100000 in
set_option maxHeartbeats 4000000 in
theorem bigRead_bad {s t : List UInt8} {w : World} (ht : Lib.trimPrefix s [45] = t) (h0 : s ≠ [48]) (h1 : t = [] ∨ ∃ r, t = 48 :: r) :
    Calls Tryz.prog 58 #[.string ⟨s.toArray⟩] w fun e w' => e = .returned (.tuple #[.agg #[.int .i64 0, .slice none 0 0], .int .i64 2]) ∧ Below w.heap.size w w' := by
  go_enter Tryz.func58, Tryz.ntmps58
  go_upto_region 1 with fail
  obtain ⟨w1, hv⟩ : ∃ w_ : World, w_ = w.alloc (.cells #[.int .i64 0, .slice none 0 0] 24) := ⟨_, rfl⟩
  rw [← hv]
  have K : Hid (Bx w1 w.heap.size 24 #[.int .i64 0, .slice none 0 0]) := by show Bx _ _ _ _; rw [hv]; exact bx1 w _ _
  have HB1 : Hid (Below w.heap.size w w1) := by show Below _ _ _; rw [hv]; exact below_alloc _ _
  clear hv
  go_wp2_with fail
  refine (Tryz.strings_CutPrefix ⟨s.toArray⟩ ⟨#[45]⟩ w1).mono ?_
  rintro e w' ⟨rfl, rfl⟩
  have e1 : Lib.trimPrefix (⟨s.toArray⟩ : ByteArray).data.toList (⟨#[45]⟩ : ByteArray).data.toList = t := ht
  rw [e1]
  clear e1 ht
  have e0 : (s == [48]) = false := by rw [beq_eq_false_iff_ne]; exact h0
  clear h0
  obtain ⟨p0, q0, p1, q1⟩ := K.out.c2
  rcases h1 with rfl | ⟨r, rfl⟩
  · go_wp2_with fail
    refine bodyPost_ret (results_box2 rfl _ _ w.heap.size 24 _ _ _ rfl (K.out.set2 _ _) Tryz.underlying24 rfl (by kernel_rfl)) rfl ?_
    exact ⟨rfl, (HB1.out.setCell (Nat.le_refl _) _).setCell (Nat.le_refl _) _⟩
  · go_wp2_with fail
    refine bodyPost_ret (results_box2 rfl _ _ w.heap.size 24 _ _ _ rfl (K.out.set2 _ _) Tryz.underlying24 rfl (by kernel_rfl)) rfl ?_
    exact ⟨rfl, (HB1.out.setCell (Nat.le_refl _) _).setCell (Nat.le_refl _) _⟩
end Go.Proofs.YtcfmakpckdicjaaGreatDoor
