/- Walks: opposites, sums, products .. of big integers. -/
import Derived.Test.YtcfmakpckdicjaaGreatDoorBigM
namespace Go.Proofs.YtcfmakpckdicjaaGreatDoor
open Go.RowKit
variable {G : Nat}

set_option maxHeartbeats 4000000 in
theorem bigNeg_ok {x : Int} {a1 : Option Addr} {c1 : Nat} {w : World} (h1 : BD G w a1 c1 x) (hx : Sz x 549755813888) :
    Calls Tryz.prog 50 #[.agg #[.int .i64 (sg x), .slice a1 (ln x) c1]] w fun e w' => ∃ a c, e = .returned (.agg #[.int .i64 (sg (-x)), .slice a (ln (-x)) c]) ∧ BD G w' a c (-x) ∧ Below w.heap.size w w' := by
  have HX := Lib.hid hx
  have H1 := Lib.hid h1
  obtain ⟨z, hz⟩ : ∃ z, z = -x := ⟨_, rfl⟩
  have HM1 : Hid (-(sg x) * (x.natAbs : Int) = z) := by show _ = _; rw [hz, sg, Int.neg_mul, sign_mul_abs]
  have HM2 : Hid (x.natAbs ≠ 0 → -(sg x) = 1 ∨ -(sg x) = -1) := by
    intro h
    have := sg_ne (x := x) (by omega)
    omega
  have hw : IntKind.i64.wrap (-(sg x)) = -(sg x) := by rcases sg_cases x with h | h | h <;> rw [h] <;> rfl
  rw [← hz]
  clear hx h1 hz

  go_enter Tryz.func50, Tryz.ntmps50
  go_wp2_with fail
  refine (bigRight_ok (z := x) (H1.out.keep (by go_grown)) (HX.out.mono (by omega))).mono ?_
  rintro e w1 ⟨rfl, hb⟩
  have hbx := bx2 w 24 24 #[.int .i64 (sg x), .slice a1 (ln x) c1] #[.int .i64 0, .slice none 0 0]
  obtain ⟨k0, k1⟩ := hbx
  have K0 := Lib.hid (k0.keep hb)
  have K1 := Lib.hid (k1.keep hb)
  clear k0 k1
  have hb' : Below w.heap.size w w1 := below_call (by go_grown) hb
  have HB := Lib.hid hb'
  replace H1 := Lib.hid (H1.out.keep hb')
  clear hb hb'
  have p0_0 : w1.cell? ⟨w.heap.size, 0, none⟩ = some (.int .i64 (sg x)) := K0.out.at.1 0
  have q0_0 : w1.frozen? ⟨w.heap.size, 0, none⟩ = false := K0.out.at.2 0
  have p0_1 : w1.cell? ⟨w.heap.size, 1, none⟩ = some (.slice a1 (ln x) c1) := K0.out.at.1 1
  have q0_1 : w1.frozen? ⟨w.heap.size, 1, none⟩ = false := K0.out.at.2 1
  have z0 : w.heap.size < w1.heap.size := K0.out.lt
  have p1_0 : w1.cell? ⟨w.heap.size + 1, 0, none⟩ = some (.int .i64 0) := K1.out.at.1 0
  have q1_0 : w1.frozen? ⟨w.heap.size + 1, 0, none⟩ = false := K1.out.at.2 0
  have p1_1 : w1.cell? ⟨w.heap.size + 1, 1, none⟩ = some (.slice none 0 0) := K1.out.at.1 1
  have q1_1 : w1.frozen? ⟨w.heap.size + 1, 1, none⟩ = false := K1.out.at.2 1
  have z1 : w.heap.size + 1 < w1.heap.size := K1.out.lt
  go_wp2_with fail
  clear p0_0 q0_0 p0_1 q0_1 z0 p1_0 q1_0 p1_1 q1_1 z1
  have mk : Hid (∀ w', w1.grownBy w' (some (w.heap.size + 1)) → w'.cell? ⟨w.heap.size, 0, none⟩ = some (.int .i64 (sg x)) ∧ w'.cell? ⟨w.heap.size, 1, none⟩ = some (.slice a1 (ln x) c1) ∧ w1.grownBy w' (some (w.heap.size + 1))) := fun w' h => ⟨(K0.out.only h (by omega)).at.1 0, (K0.out.only h (by omega)).at.1 1, h⟩
  have hs0 : w1.grownBy w1.drew (some (w.heap.size + 1)) := only_start _ _
  have HS0 : Hid (Below w1.heap.size w1 w1.drew) := (Below.refl _ _).drew
  have tok0 : True := trivial
  have tok1 : True := trivial
  go_region_held3 (fun w' => w'.cell? ⟨w.heap.size, 0, none⟩ = some (.int .i64 (sg x)) ∧ w'.cell? ⟨w.heap.size, 1, none⟩ = some (.slice a1 (ln x) c1) ∧ w1.grownBy w' (some (w.heap.size + 1)))
    (first | exact mk.out _ (by assumption) | exact mk.out _ (only_setCell (only_setCell (by assumption) _) _) | exact mk.out _ (only_alloc (by assumption) _))
    (first
      | (go_at_call 82; have _t := tok0; refine (clone_any _ _ _ (H1.out.keep HS0.out).rd (HX.out.mono (by omega))).mono ?_; rintro e w2 ⟨v2, rfl, ho2, hb⟩; clear tok0 _t; have hs1 := only_call hs0 hb; have HS1 := Lib.hid (below_call HS0.out hb); clear hb; have Ho2 := Lib.hid ho2; clear ho2)
      | (go_at_call 76; have _t := tok1; refine (signed_is (G := G) (z := z) Ho2.out (HX.out.mono (by omega)) HM1.out HM2.out).mono ?_; rintro e w3 ⟨a3, c3, rfl, hd3, hb⟩; clear tok1 _t; have hs2 := only_call hs1 hb; have HS2 := Lib.hid (below_call HS1.out hb); have Ho2 := Lib.hid (Ho2.out.keep hb); clear hb; have Hd3 := Lib.hid hd3; clear hd3; obtain ⟨p1, q1⟩ := (K1.out.keep HS2.out).at))
  replace K0 := Lib.hid (K0.out.keep HS2.out)
  replace K1 := Lib.hid (K1.out.keep HS2.out)
  replace HB := Lib.hid (below_call HB.out HS2.out)
  replace H1 := Lib.hid (H1.out.keep HS2.out)
  clear mk hs0 HS0 hs1 HS1 hs2 HS2  p1 q1
  go_wp2_with fail
  refine bodyPost_ret (results_box1 rfl _ _ (w.heap.size + 1) 24 _ _ _ rfl (K1.out.set2 _ _) Tryz.underlying24 rfl (by kernel_rfl)) rfl ⟨a3, c3, rfl, ?_, ?_⟩
  · exact Hd3.out.far0 K1.out zb2 (only_setCell (only_setCell (World.grownBy.refl _ _) _) _)
  · exact (HB.out.setCell (by simp) _).setCell (by simp) _

end Go.Proofs.YtcfmakpckdicjaaGreatDoor
namespace Go.Proofs.YtcfmakpckdicjaaGreatDoor
open Go.RowKit
variable {G : Nat}

theorem only_alloc {a w : World} {row : Option Nat} (h : a.grownBy w row) (o : Obj) : a.grownBy (w.alloc o) row :=
  ⟨h.os, h.tape, h.output, Nat.le_trans h.size (by simp), fun i hi hne => (Below.heap_alloc w o i (Nat.lt_of_lt_of_le hi h.size)).trans (h.block i hi hne)⟩
theorem lit2 (w : World) (s t : Int) : RdZ (w.alloc (.cells #[.int .i64 s, .int .i64 t] 3)) (.slice (some ⟨w.heap.size, 0, none⟩) 2 2) [s, t] :=
  rdZ_own (World.ownsRow_lit (base := 0) w #[.int .i64 s, .int .i64 t] 2 (Nat.zero_le _) (by unfold maxLen; omega) rfl) rfl
/-- The first one that is not 0. -/
def orS (s t : Int) : Int := if s = 0 then t else s
theorem add_room {x y : Int} (hx : Sz x 549755813888) (hy : Sz y 549755813888) : (digs (x.natAbs + y.natAbs)).length ≤ 8796093022208 := by
  unfold Sz at *; have := digs_len_add x.natAbs y.natAbs; omega
theorem sg_pos {x : Int} (h : 0 < x) : sg x = 1 := Int.sign_eq_one_of_pos h
theorem sg_neg {x : Int} (h : x < 0) : sg x = -1 := Int.sign_eq_neg_one_of_neg h
theorem sg_zero' {x : Int} (h : x = 0) : sg x = 0 := by rw [h]; rfl
theorem add_signs {x y : Int} (h : 0 ≤ sg x * sg y) : orS (sg x) (sg y) * ((x.natAbs + y.natAbs : Nat) : Int) = x + y ∧ (x.natAbs + y.natAbs ≠ 0 → orS (sg x) (sg y) = 1 ∨ orS (sg x) (sg y) = -1) := by
  rcases Int.lt_trichotomy x 0 with hx | hx | hx
  · rw [sg_neg hx] at *
    rcases Int.lt_trichotomy y 0 with hy | hy | hy
    · rw [sg_neg hy] at *; simp [orS]; omega
    · rw [sg_zero' hy] at *; simp [orS]; omega
    · rw [sg_pos hy] at h; omega
  · rw [sg_zero' hx] at *
    rcases Int.lt_trichotomy y 0 with hy | hy | hy
    · rw [sg_neg hy] at *; simp [orS]; omega
    · rw [sg_zero' hy] at *; simp [orS]; omega
    · rw [sg_pos hy] at *; simp [orS]; omega
  · rw [sg_pos hx] at *
    rcases Int.lt_trichotomy y 0 with hy | hy | hy
    · rw [sg_neg hy] at h; omega
    · rw [sg_zero' hy] at *; simp [orS]; omega
    · rw [sg_pos hy] at *; simp [orS]; omega

set_option maxHeartbeats 4000000 in
theorem cmpOr_any (v : Value) (s t : Int) (w : World) (h : RdZ w v [s, t]) :
    Calls Tryz.prog 78 #[v] w fun e w' => e = .returned (.int .i64 (orS s t)) ∧ Below w.heap.size w w' := by
  obtain ⟨a, cap, rfl⟩ := h.shape
  obtain ⟨b, off, rfl, hb, hc0⟩ := h.at (k := 0) (by simp)
  obtain ⟨b', off', ha, hb', hc1⟩ := h.at (k := 1) (by simp)
  cases ha
  rw [Nat.add_zero] at hc0
  simp only [List.getElem_cons_zero, List.getElem_cons_succ] at hc0 hc1
  clear h
  by_cases h0 : s = 0
  · have e0 : (s != 0) = false := by rw [h0]; rfl
    have HO : Hid (orS s t = t) := by show _ = _; rw [orS, if_pos h0]
    have H0 := Lib.hid h0; clear h0
    by_cases h1 : t = 0
    · have e1 : (t != 0) = false := by rw [h1]; rfl
      have H1 := Lib.hid h1; clear h1
      go_enter Tryz.func78, Tryz.ntmps78
      go_wp2_with fail
      go_rounds 3
      go_ret
      exact ⟨ret_int (by rw [HO.out, H1.out]), Below.refl _ _⟩
    · have e1 : (t != 0) = true := by rw [bne_iff_ne]; exact h1
      clear h1
      go_enter Tryz.func78, Tryz.ntmps78
      go_wp2_with fail
      go_rounds 3
      go_ret
      exact ⟨ret_int HO.out.symm, Below.refl _ _⟩
  · have e0 : (s != 0) = true := by rw [bne_iff_ne]; exact h0
    have HO : Hid (orS s t = s) := by show _ = _; rw [orS, if_neg h0]
    clear h0
    go_enter Tryz.func78, Tryz.ntmps78
    go_wp2_with fail
    go_rounds 3
    go_ret
    exact ⟨ret_int HO.out.symm, Below.refl _ _⟩

set_option maxHeartbeats 4000000 in
theorem bigAdd_same {x y : Int} {a1 a2 : Option Addr} {c1 c2 : Nat} {w : World} (h1 : BD G w a1 c1 x) (h2 : BD G w a2 c2 y) (hx : Sz x 549755813888) (hy : Sz y 549755813888) (hs : 0 ≤ sg x * sg y) :
    Calls Tryz.prog 49 #[.agg #[.int .i64 (sg x), .slice a1 (ln x) c1], .agg #[.int .i64 (sg y), .slice a2 (ln y) c2]] w fun e w' => ∃ a c, e = .returned (.tuple #[.agg #[.int .i64 (sg (x + y)), .slice a (ln (x + y)) c], .int .i64 0]) ∧ BD G w' a c (x + y) ∧ Below w.heap.size w w' := by
  have HX := Lib.hid hx
  have HY := Lib.hid hy
  have H1 := Lib.hid h1
  have H2 := Lib.hid h2
  have hws := wrap_signs x y
  have e1 : decide (0 ≤ sg x * sg y) = true := by rw [decide_eq_true_eq]; exact hs
  obtain ⟨z, hz⟩ : ∃ z, z = x + y := ⟨_, rfl⟩
  have HM0 : Hid ((digs (val (digs x.natAbs) + val (digs y.natAbs))).length ≤ 8796093022208) := by rw [val_digs, val_digs]; exact add_room hx hy
  have HM1 : Hid (orS (sg x) (sg y) * ((val (digs x.natAbs) + val (digs y.natAbs) : Nat) : Int) = z) := by rw [val_digs, val_digs, hz]; exact (add_signs hs).1
  have HM2 : Hid (val (digs x.natAbs) + val (digs y.natAbs) ≠ 0 → orS (sg x) (sg y) = 1 ∨ orS (sg x) (sg y) = -1) := by rw [val_digs, val_digs]; exact (add_signs hs).2
  rw [← hz]
  clear hx hy h1 h2 hz hs

  go_enter Tryz.func49, Tryz.ntmps49
  go_wp2_with fail
  refine (bigRight_ok (z := x) (H1.out.keep (by go_grown)) (HX.out.mono (by omega))).mono ?_
  rintro e w1 ⟨rfl, hb⟩
  have hbx := bx3 w 24 24 24 #[.int .i64 (sg x), .slice a1 (ln x) c1] #[.int .i64 (sg y), .slice a2 (ln y) c2] #[.int .i64 0, .slice none 0 0]
  obtain ⟨k0, k1, k2⟩ := hbx
  have K0 := Lib.hid (k0.keep hb)
  have K1 := Lib.hid (k1.keep hb)
  have K2 := Lib.hid (k2.keep hb)
  clear k0 k1 k2
  have hb' : Below w.heap.size w w1 := below_call (by go_grown) hb
  have HB := Lib.hid hb'
  replace H1 := Lib.hid (H1.out.keep hb')
  replace H2 := Lib.hid (H2.out.keep hb')
  clear hb hb'
  have p0_0 : w1.cell? ⟨w.heap.size, 0, none⟩ = some (.int .i64 (sg x)) := K0.out.at.1 0
  have q0_0 : w1.frozen? ⟨w.heap.size, 0, none⟩ = false := K0.out.at.2 0
  have p0_1 : w1.cell? ⟨w.heap.size, 1, none⟩ = some (.slice a1 (ln x) c1) := K0.out.at.1 1
  have q0_1 : w1.frozen? ⟨w.heap.size, 1, none⟩ = false := K0.out.at.2 1
  have z0 : w.heap.size < w1.heap.size := K0.out.lt
  have p1_0 : w1.cell? ⟨w.heap.size + 1, 0, none⟩ = some (.int .i64 (sg y)) := K1.out.at.1 0
  have q1_0 : w1.frozen? ⟨w.heap.size + 1, 0, none⟩ = false := K1.out.at.2 0
  have p1_1 : w1.cell? ⟨w.heap.size + 1, 1, none⟩ = some (.slice a2 (ln y) c2) := K1.out.at.1 1
  have q1_1 : w1.frozen? ⟨w.heap.size + 1, 1, none⟩ = false := K1.out.at.2 1
  have z1 : w.heap.size + 1 < w1.heap.size := K1.out.lt
  have p2_0 : w1.cell? ⟨w.heap.size + 1 + 1, 0, none⟩ = some (.int .i64 0) := K2.out.at.1 0
  have q2_0 : w1.frozen? ⟨w.heap.size + 1 + 1, 0, none⟩ = false := K2.out.at.2 0
  have p2_1 : w1.cell? ⟨w.heap.size + 1 + 1, 1, none⟩ = some (.slice none 0 0) := K2.out.at.1 1
  have q2_1 : w1.frozen? ⟨w.heap.size + 1 + 1, 1, none⟩ = false := K2.out.at.2 1
  have z2 : w.heap.size + 1 + 1 < w1.heap.size := K2.out.lt
  go_wp2_with fail
  refine (bigRight_ok (z := y) (H2.out.keep (by go_grown)) (HY.out.mono (by omega))).mono ?_
  rintro e w2 ⟨rfl, hb⟩
  clear p0_0 q0_0 p0_1 q0_1 z0 p1_0 q1_0 p1_1 q1_1 z1 p2_0 q2_0 p2_1 q2_1 z2
  have hb' := below_call (w1 := w1) (by go_grown) hb
  replace K0 := Lib.hid (K0.out.keep hb')
  replace K1 := Lib.hid (K1.out.keep hb')
  replace K2 := Lib.hid (K2.out.keep hb')
  replace HB := Lib.hid (below_call HB.out hb')
  replace H1 := Lib.hid (H1.out.keep hb')
  replace H2 := Lib.hid (H2.out.keep hb')
  clear hb hb'
  have p0_0 : w2.cell? ⟨w.heap.size, 0, none⟩ = some (.int .i64 (sg x)) := K0.out.at.1 0
  have q0_0 : w2.frozen? ⟨w.heap.size, 0, none⟩ = false := K0.out.at.2 0
  have p0_1 : w2.cell? ⟨w.heap.size, 1, none⟩ = some (.slice a1 (ln x) c1) := K0.out.at.1 1
  have q0_1 : w2.frozen? ⟨w.heap.size, 1, none⟩ = false := K0.out.at.2 1
  have z0 : w.heap.size < w2.heap.size := K0.out.lt
  have p1_0 : w2.cell? ⟨w.heap.size + 1, 0, none⟩ = some (.int .i64 (sg y)) := K1.out.at.1 0
  have q1_0 : w2.frozen? ⟨w.heap.size + 1, 0, none⟩ = false := K1.out.at.2 0
  have p1_1 : w2.cell? ⟨w.heap.size + 1, 1, none⟩ = some (.slice a2 (ln y) c2) := K1.out.at.1 1
  have q1_1 : w2.frozen? ⟨w.heap.size + 1, 1, none⟩ = false := K1.out.at.2 1
  have z1 : w.heap.size + 1 < w2.heap.size := K1.out.lt
  have p2_0 : w2.cell? ⟨w.heap.size + 1 + 1, 0, none⟩ = some (.int .i64 0) := K2.out.at.1 0
  have q2_0 : w2.frozen? ⟨w.heap.size + 1 + 1, 0, none⟩ = false := K2.out.at.2 0
  have p2_1 : w2.cell? ⟨w.heap.size + 1 + 1, 1, none⟩ = some (.slice none 0 0) := K2.out.at.1 1
  have q2_1 : w2.frozen? ⟨w.heap.size + 1 + 1, 1, none⟩ = false := K2.out.at.2 1
  have z2 : w.heap.size + 1 + 1 < w2.heap.size := K2.out.lt
  go_wp2_with fail
  clear p0_0 q0_0 p0_1 q0_1 z0 p1_0 q1_0 p1_1 q1_1 z1 p2_0 q2_0 p2_1 q2_1 z2
  have mk : Hid (∀ w', w2.grownBy w' (some (w.heap.size + 1 + 1)) → w'.cell? ⟨w.heap.size, 0, none⟩ = some (.int .i64 (sg x)) ∧ w'.cell? ⟨w.heap.size, 1, none⟩ = some (.slice a1 (ln x) c1) ∧ w'.cell? ⟨w.heap.size + 1, 0, none⟩ = some (.int .i64 (sg y)) ∧ w'.cell? ⟨w.heap.size + 1, 1, none⟩ = some (.slice a2 (ln y) c2) ∧ w2.grownBy w' (some (w.heap.size + 1 + 1))) := fun w' h => ⟨(K0.out.only h (by omega)).at.1 0, (K0.out.only h (by omega)).at.1 1, (K1.out.only h (by omega)).at.1 0, (K1.out.only h (by omega)).at.1 1, h⟩
  have hs0 : w2.grownBy w2.drew (some (w.heap.size + 1 + 1)) := only_start _ _
  have HS0 : Hid (Below w2.heap.size w2 w2.drew) := (Below.refl _ _).drew
  have tok0 : True := trivial
  have tok1 : True := trivial
  have tok2 : True := trivial
  have tok3 : True := trivial
  go_region_held3 (fun w' => w'.cell? ⟨w.heap.size, 0, none⟩ = some (.int .i64 (sg x)) ∧ w'.cell? ⟨w.heap.size, 1, none⟩ = some (.slice a1 (ln x) c1) ∧ w'.cell? ⟨w.heap.size + 1, 0, none⟩ = some (.int .i64 (sg y)) ∧ w'.cell? ⟨w.heap.size + 1, 1, none⟩ = some (.slice a2 (ln y) c2) ∧ w2.grownBy w' (some (w.heap.size + 1 + 1)))
    (first | exact mk.out _ (by assumption) | exact mk.out _ (only_setCell (only_setCell (by assumption) _) _) | exact mk.out _ (only_alloc (by assumption) _))
    (first
      | (go_at_call 78; have _t := tok0; refine (cmpOr_any _ (sg x) (sg y) _ (lit2 w2.drew _ _)).mono ?_; rintro e w3 ⟨rfl, hb⟩; clear tok0 _t; have hs1 := only_call (only_alloc hs0 _) hb; have HS1 := Lib.hid (below_call (Below.alloc HS0.out (Below.size HS0.out) _) hb); clear hb)
      | (go_at_call 79; have _t := tok1; refine (bigAdd_any _ _ _ _ _ (H1.out.keep HS1.out).rd (H2.out.keep HS1.out).rd (digs_small _) (digs_small _) (HX.out.mono (by omega)) (HY.out.mono (by omega))).mono ?_; rintro e w4 ⟨v4, rfl, ho4, hb⟩; clear tok1 _t; have hs2 := only_call hs1 hb; have HS2 := Lib.hid (below_call HS1.out hb); clear hb; have Ho4 := Lib.hid ho4; clear ho4)
      | (go_at_call 76; have _t := tok2; refine (signed_is (G := G) (z := z) (n := val (digs x.natAbs) + val (digs y.natAbs)) Ho4.out HM0.out HM1.out HM2.out).mono ?_; rintro e w5 ⟨a5, c5, rfl, hd5, hb⟩; clear tok2 _t; have hs3 := only_call hs2 hb; have HS3 := Lib.hid (below_call HS2.out hb); have Ho4 := Lib.hid (Ho4.out.keep hb); clear hb; have Hd5 := Lib.hid hd5; clear hd5)
      | (go_at_call 75; have _t := tok3; refine (checked_yes _).mono ?_; rintro e w6 ⟨rfl, hb⟩; clear tok3 _t; have hs4 := only_call hs3 hb; have HS4 := Lib.hid (below_call HS3.out hb); have Ho4 := Lib.hid (Ho4.out.keep hb); have Hd5 := Lib.hid (Hd5.out.keep hb); clear hb; obtain ⟨p2, q2⟩ := (K2.out.keep HS4.out).at))
  replace K0 := Lib.hid (K0.out.keep HS4.out)
  replace K1 := Lib.hid (K1.out.keep HS4.out)
  replace K2 := Lib.hid (K2.out.keep HS4.out)
  replace HB := Lib.hid (below_call HB.out HS4.out)
  replace H1 := Lib.hid (H1.out.keep HS4.out)
  replace H2 := Lib.hid (H2.out.keep HS4.out)
  clear mk hs0 HS0 hs1 HS1 hs2 HS2 hs3 HS3 hs4 HS4  p2 q2
  go_wp2_with fail
  refine bodyPost_ret (results_box2 rfl _ _ (w.heap.size + 1 + 1) 24 _ _ _ rfl (K2.out.set2 _ _) Tryz.underlying24 rfl (by kernel_rfl)) rfl ⟨a5, c5, rfl, ?_, ?_⟩
  · exact Hd5.out.far0 K2.out zb2 (only_setCell (only_setCell (World.grownBy.refl _ _) _) _)
  · exact (HB.out.setCell (by simp; omega) _).setCell (by simp; omega) _

end Go.Proofs.YtcfmakpckdicjaaGreatDoor
