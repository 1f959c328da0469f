/- Walks of the verifier's reference: quotient and remainder. -/
import Derived.Test.YtcfmakpckdicjaaGreatDoorBase
import Derived.Test.YtcfmakpckdicjaaGreatDoorBigSpec
import Derived.Test.YtcfmakpckdicjaaGreatDoorBigA
import Derived.Test.YtcfmakpckdicjaaGreatDoorBigB
import Derived.Test.YtcfmakpckdicjaaGreatDoorBigC
import Derived.Test.YtcfmakpckdicjaaGreatDoorBigD
import Derived.Test.YtcfmakpckdicjaaGreatDoorBigK
import Derived.Test.YtcfmakpckdicjaaGreatDoorBigL
import Derived.Test.YtcfmakpckdicjaaGreatDoorBigQ
import Derived.Test.YtcfmakpckdicjaaGreatDoorFracA
import Derived.Test.YtcfmakpckdicjaaGreatDoorRefE
import Derived.Test.YtcfmakpckdicjaaGreatDoorRefS
import Derived.Test.YtcfmakpckdicjaaGreatDoorProg
import Derived.WalkKit
import Derived.WalkSpells
import Derived.WalkLawsBesides
import Derived.Handy
import Derived.Lib.Hide
import Derived.Lib.Strings
import Derived.Lib.Builder
import Derived.BigQuiet
import Derived.OwnWalk
import Derived.Laws.BitsLemmas
import Derived.WalkSmall
import Derived.Deep.QuietTactic
import Derived.StillTailTactics
import Derived.Maps.AppendAt
import Derived.IntWalk
import Derived.Deep.RegionHeld3
import Derived.Deep.DeepFit
import Derived.Deep.LoopGhost
import Derived.Deep.DeepCutAuto
namespace Go.Proofs.YtcfmakpckdicjaaGreatDoor
open Go.RowKit
variable {G : Nat}

theorem refTrim_is {a : Option Addr} {c : Nat} {l : Digs} {w : World} (h : RdN w (.slice a l.length c) l) (hs : small l) (hn : l.length ≤ 8796093022208) (hc : l.length ≤ c) {n : Nat} (hv : val l = n) :
  Calls Tryz.prog 92 #[.slice a l.length c] w fun e w' => ∃ b d, e = .returned (.slice b (lnN n) d) ∧ OwnN w' w.heap.size (.slice b (lnN n) d) (digs n) ∧ Below w.heap.size w w' :=
 (refTrim_ok a c l w h hs hn hc).mono fun e w' ⟨v, he, ho, hb⟩ => by
  rw [hv] at ho
  obtain ⟨b, d, rfl⟩ := ho.slice
  exact ⟨b, d, he, ho, hb⟩
theorem OwnN.le {w : World} {B : Nat} {a : Option Addr} {n c : Nat} (h : OwnN w B (.slice a (lnN n) c) (digs n)) : lnN n ≤ c := by
  rcases h.shape with ⟨h1, h2⟩ | ⟨g, cap, h1, -, -, h3⟩
  · rw [lnN, h2]; exact Nat.zero_le _
  · simp only [Value.slice.injEq] at h1
    rw [h1.2.2]; exact h3
theorem bd_of_own {w : World} {B : Nat} {a : Option Addr} {n c : Nat} {s z : Int} (h : OwnN w B (.slice a (lnN n) c) (digs n)) (hz : s * n = z) (hn : n ≠ 0) (hs : s = 1 ∨ s = -1) : sg z = s ∧ ln z = lnN n ∧ BD G w a c z := by
 obtain ⟨a', c', he, hb⟩ := bigIs_mk (G := G) (s := s) h.rd h.ty rfl h.le hn hs
 rw [hz] at he hb
 simp only [Value.agg.injEq, Array.mk.injEq, List.cons.injEq, Value.int.injEq, Value.slice.injEq, and_true, true_and] at he
 obtain ⟨h1, h2, h3, h4⟩ := he
 subst h2 h4
 exact ⟨h1.symm, h3.symm, hb⟩
set_option maxRecDepth 100000 in
set_option maxHeartbeats 4000000 in
theorem made_zero {s z : Int} {l : Digs} {a : Option Addr} {c n : Nat} {w : World} (h : RdN w (.slice a l.length c) l) (hs : small l) (hn : l.length ≤ 8796093022208) (hc : l.length ≤ c) (hv : val l = n) (h0 : n = 0) (hz : z = 0) :
    Calls Tryz.prog 83 #[.int .i64 s, .slice a l.length c] w fun e w' => ∃ a c, e = .returned (.agg #[.int .i64 (sg z), .slice a (ln z) c]) ∧ BD G w' a c z ∧ Below w.heap.size w w' := by
  have H1 := Lib.hid h
  have HS := Lib.hid hs
  have HN := Lib.hid hn
  have HV := Lib.hid hv
  have HZ := Lib.hid hz
  have e1 : ((lnN n : Int) == 0) = true := by rw [h0]; rfl
  clear h hs hn hv h0 hz

  go_enter Tryz.func83, Tryz.ntmps83
  go_wp2_with fail
  refine (refTrim_is (H1.out.keep (by go_grown)) HS.out HN.out hc HV.out).mono ?_
  rintro e w1 ⟨b2, d2, rfl, ho2, hb⟩
  have hbx := bx1 w 24 #[.int .i64 0, .slice none 0 0]
  have k0 := hbx; clear hbx
  have K0 := Lib.hid (k0.keep hb)
  clear k0
  have hb' : Below w.heap.size w w1 := below_call (by go_grown) hb
  have HB := Lib.hid hb'
  replace H1 := Lib.hid (H1.out.keep hb')
  clear hb hb'
  have Ho2 := Lib.hid ho2; clear ho2
  refine K0.out.w2 fun aa ab ac ad z0 => ?_
  go_wp2_with fail
  refine bodyPost_ret (results_box1 rfl _ _ w.heap.size 24 _ _ _ rfl (K0.out.set2 _ _) Tryz.underlying24 rfl (by kernel_rfl)) rfl ⟨none, 0, by rw [HZ.out]; rfl, ?_, ?_⟩
  · rw [HZ.out]; exact bd_zero _ _ _
  · exact (HB.out.setCell (by simp) _).setCell (by simp) _
set_option maxRecDepth 100000 in
set_option maxHeartbeats 4000000 in
theorem made_some {s z : Int} {l : Digs} {a : Option Addr} {c n : Nat} {w : World} (h : RdN w (.slice a l.length c) l) (hs : small l) (hn : l.length ≤ 8796093022208) (hc : l.length ≤ c) (hv : val l = n) (h0 : n ≠ 0) (hz : s * n = z) (h1 : s = 1 ∨ s = -1) :
    Calls Tryz.prog 83 #[.int .i64 s, .slice a l.length c] w fun e w' => ∃ a c, e = .returned (.agg #[.int .i64 (sg z), .slice a (ln z) c]) ∧ BD G w' a c z ∧ Below w.heap.size w w' := by
  have H1 := Lib.hid h
  have HS := Lib.hid hs
  have HN := Lib.hid hn
  have HV := Lib.hid hv
  have HZ := Lib.hid hz
  have HN0 := Lib.hid h0
  have HS1 := Lib.hid h1
  have hp := lnN_pos h0
  have e1 : ((lnN n : Int) == 0) = false := by rw [beq_eq_false_iff_ne]; omega
  clear h hs hn hv h0 hz hp h1

  go_enter Tryz.func83, Tryz.ntmps83
  go_wp2_with fail
  refine (refTrim_is (H1.out.keep (by go_grown)) HS.out HN.out hc HV.out).mono ?_
  rintro e w1 ⟨b2, d2, rfl, ho2, hb⟩
  have hbx := bx1 w 24 #[.int .i64 0, .slice none 0 0]
  have k0 := hbx; clear hbx
  have K0 := Lib.hid (k0.keep hb)
  clear k0
  have hb' : Below w.heap.size w w1 := below_call (by go_grown) hb
  have HB := Lib.hid hb'
  replace H1 := Lib.hid (H1.out.keep hb')
  clear hb hb'
  have Ho2 := Lib.hid ho2; clear ho2
  refine K0.out.w2 fun aa ab ac ad z0 => ?_
  go_wp2_with fail
  have HF := bd_of_own (G := G) Ho2.out HZ.out HN0.out HS1.out
  have HBD := Lib.hid HF.2.2
  rw [← HF.1, ← HF.2.1]
  clear HF
  clear aa ab ac ad z0
  refine bodyPost_ret (results_box1 rfl _ _ w.heap.size 24 _ _ _ rfl (K0.out.set2 _ _) Tryz.underlying24 rfl (by kernel_rfl)) rfl ?_
  refine ⟨b2, d2, rfl, ?_, ?_⟩
  · exact (HBD.out.far0 K0.out zb2 (only_setCell (only_setCell (World.grownBy.refl _ _) _) _))
  · exact (Below.setCell (Below.setCell HB.out (by simp; try omega) _) (by simp; try omega) _)
theorem made_ok {s z : Int} {l : Digs} {a : Option Addr} {c n : Nat} {w : World} (h : RdN w (.slice a l.length c) l) (hs : small l) (hn : l.length ≤ 8796093022208) (hc : l.length ≤ c) (hv : val l = n) (hz : s * n = z) (h1 : n ≠ 0 → s = 1 ∨ s = -1) :
    Calls Tryz.prog 83 #[.int .i64 s, .slice a l.length c] w fun e w' => ∃ a c, e = .returned (.agg #[.int .i64 (sg z), .slice a (ln z) c]) ∧ BD G w' a c z ∧ Below w.heap.size w w' := by
  by_cases h0 : n = 0
  · exact made_zero (G := G) h hs hn hc hv h0 (by rw [← hz, h0]; simp)
  · exact made_some (G := G) h hs hn hc hv h0 hz (h1 h0)
theorem made_own {s z : Int} {a : Option Addr} {c n B : Nat} {w : World} (h : OwnN w B (.slice a (lnN n) c) (digs n)) (hn : lnN n ≤ 8796093022208) (hz : s * n = z) (h1 : n ≠ 0 → s = 1 ∨ s = -1) :
  Calls Tryz.prog 83 #[.int .i64 s, .slice a (lnN n) c] w fun e w' => ∃ a c, e = .returned (.agg #[.int .i64 (sg z), .slice a (ln z) c]) ∧ BD G w' a c z ∧ Below w.heap.size w w' :=
 made_ok (G := G) (l := digs n) h.rd (digs_small n) hn h.le (val_digs n) hz h1
theorem made_bd {s x z : Int} {a : Option Addr} {c : Nat} {w : World} (h : BD G w a c x) (hn : Sz x 8796093022208) (hz : s * x.natAbs = z) (h1 : x.natAbs ≠ 0 → s = 1 ∨ s = -1) :
  Calls Tryz.prog 83 #[.int .i64 s, .slice a (ln x) c] w fun e w' => ∃ a c, e = .returned (.agg #[.int .i64 (sg z), .slice a (ln z) c]) ∧ BD G w' a c z ∧ Below w.heap.size w w' :=
 made_ok (G := G) (l := digs x.natAbs) h.rd (digs_small _) hn h.le (val_digs _) hz h1
set_option maxRecDepth 100000 in
set_option maxHeartbeats 4000000 in
theorem rright_ok {x : Int} {a1 : Option Addr} {c1 : Nat} {w : World} (h1 : BD G w a1 c1 x) (hx : Sz x 1099511627776) :
    Calls Tryz.prog 63 #[.agg #[.int .i64 (sg x), .slice a1 (ln x) c1]] w fun e w' => e = .returned (.bool true) ∧ Below w.heap.size w w' := by
  have H1 := Lib.hid h1
  have hlb : ln x ≤ 1099511627776 := hx
  clear h1 hx
  go_enter Tryz.func63, Tryz.ntmps63
  go_wp2_with fail
  obtain ⟨w0, hw0⟩ : ∃ w0, w0 = w.alloc (.cells #[.int .i64 (sg x), .slice a1 (ln x) c1] 24) := ⟨_, rfl⟩
  have K0 : Hid (Bx w0 w.heap.size 24 #[.int .i64 (sg x), .slice a1 (ln x) c1]) := by rw [hw0]; exact bx1 w _ _
  have HB : Hid (Below w.heap.size w w0) := by rw [hw0]; exact below_alloc _ _
  rw [← hw0]
  clear hw0
  have p0 : w0.cell? ⟨w.heap.size, 0, none⟩ = some (.int .i64 (sg x)) := K0.out.at.1 0
  have p1 : w0.cell? ⟨w.heap.size, 1, none⟩ = some (.slice a1 (ln x) c1) := K0.out.at.1 1
  go_loopw [3] (fun i wr => ∃ k nd : Nat, k ≤ ln x ∧ i = .int .i64 k ∧ wr = w0.drewN nd) (fun i _ => ln x - (intOf i).toNat)
  case atStart => exact ⟨0, 0, Nat.zero_le _, rfl, rfl⟩
  case round =>
    obtain ⟨k, nd, hk, rfl, rfl⟩ := hrel
    by_cases hlt : k < ln x
    · obtain ⟨b, off, rfl, hb, hcell⟩ := (H1.out.rd.keep HB.out).at (k := k) hlt
      obtain ⟨d, hd⟩ : ∃ d, d = (digs x.natAbs)[k]'hlt := ⟨_, rfl⟩
      rw [← hd] at hcell
      have hds : d < 1048576 := by rw [hd]; exact small_get (digs_small _) k hlt
      have e1 : decide ((d : Int) < 0) = false := by rw [decide_eq_false_iff_not]; omega
      have e2 : decide ((1048576 : Int) ≤ (d : Int)) = false := by rw [decide_eq_false_iff_not]; omega
      have e3 : decide (1048576 ≤ d) = false := by rw [decide_eq_false_iff_not]; omega
      have hki : (k : Int) < (ln x : Int) := by omega
      clear hd
      go_wp2_with fail
      go_roundw
      case rel => exact ⟨k + 1, nd, by omega, by go_num, rfl⟩
      case measure => simp [intOf]; omega
    · have t1 : decide (sg x < -1) = false := by rw [decide_eq_false_iff_not]; rcases sg_cases x with h | h | h <;> omega
      have t2 : decide (1 < sg x) = false := by rw [decide_eq_false_iff_not]; rcases sg_cases x with h | h | h <;> omega
      have hBw : Hid (Below w.heap.size w (w0.drewN nd)) := below_drewN HB.out nd
      by_cases h0 : x = 0
      · have s1 : ((ln x : Int) == 0) = true := by rw [h0]; rfl
        have s2 : (sg x == 0) = true := by rw [h0]; rfl
        have H0 := Lib.hid h0
        clear h0
        go_wp2_with fail
        go_ret
        exact ⟨rfl, hBw.out⟩
      · have s2 : (sg x == 0) = false := by rw [beq_eq_false_iff_ne]; rcases sg_ne h0 with h | h <;> omega
        have hlp : 0 < ln x := lnN_pos (n := x.natAbs) (by omega)
        have s1 : ((ln x : Int) == 0) = false := by rw [beq_eq_false_iff_ne]; omega
        obtain ⟨m, hm⟩ : ∃ m, m = ln x - 1 := ⟨_, rfl⟩
        have hml : m < (digs x.natAbs).length := by show m < ln x; omega
        have hmi : (ln x : Int) - 1 = (m : Int) := by omega
        have hmi2 : (m : Int) < (ln x : Int) := by omega
        obtain ⟨b, off, rfl, hb, hcell⟩ := (H1.out.rd.keep HB.out).at (k := m) hml
        obtain ⟨d, hd⟩ : ∃ d, d = (digs x.natAbs)[m] := ⟨_, rfl⟩
        rw [← hd] at hcell
        have hd0 : d ≠ 0 := by
          rw [hd]
          intro hh
          apply digs_last x.natAbs
          rw [List.getLast?_eq_getElem?, show (digs x.natAbs).length - 1 = m from hm.symm, List.getElem?_eq_getElem hml, hh]
        have s3 : ((d : Int) != 0) = true := by rw [bne_iff_ne]; omega
        have H0 := Lib.hid h0
        clear h0 hm hd
        go_wp2_with fail
        go_ret
        exact ⟨rfl, hBw.out⟩
end Go.Proofs.YtcfmakpckdicjaaGreatDoor
namespace Go.Proofs.YtcfmakpckdicjaaGreatDoor
open Go.RowKit
variable {G : Nat}

theorem own_slice {P : Program} {f : FuncId} {args : Array Value} {w : World} {n : Nat} (h : Calls P f args w fun e w' => ∃ v, e = .returned v ∧ OwnN w' w.heap.size v (digs n) ∧ Below w.heap.size w w') :
  Calls P f args w fun e w' => ∃ a c, e = .returned (.slice a (lnN n) c) ∧ OwnN w' w.heap.size (.slice a (lnN n) c) (digs n) ∧ Below w.heap.size w w' :=
 h.mono fun e w' ⟨v, he, ho, hb⟩ => by
  obtain ⟨a, c, rfl⟩ := ho.slice
  exact ⟨a, c, he, ho, hb⟩
theorem rtimes_is {x y : Int} {a1 a2 : Option Addr} {c1 c2 : Nat} {w : World} (h1 : BD G w a1 c1 x) (h2 : BD G w a2 c2 y) (hx : Sz x 549755813888) (hy : Sz y 549755813888) :
  Calls Tryz.prog 84 #[.slice a1 (ln x) c1, .slice a2 (ln y) c2] w fun e w' => ∃ a c, e = .returned (.slice a (lnN (x.natAbs * y.natAbs)) c) ∧ OwnN w' w.heap.size (.slice a (lnN (x.natAbs * y.natAbs)) c) (digs (x.natAbs * y.natAbs)) ∧ Below w.heap.size w w' := by
 have := rtimes_ok _ _ _ _ w h1.rd h2.rd (digs_small _) (digs_small _) (by unfold Sz at hx; omega) (by unfold Sz at hy; omega)
 rw [val_digs, val_digs] at this
 exact own_slice this
theorem plus_is {x y : Int} {a1 a2 : Option Addr} {c1 c2 : Nat} {w : World} (h1 : BD G w a1 c1 x) (h2 : BD G w a2 c2 y) (hx : Sz x 549755813888) (hy : Sz y 549755813888) :
  Calls Tryz.prog 85 #[.slice a1 (ln x) c1, .slice a2 (ln y) c2] w fun e w' => ∃ a c, e = .returned (.slice a (lnN (x.natAbs + y.natAbs)) c) ∧ OwnN w' w.heap.size (.slice a (lnN (x.natAbs + y.natAbs)) c) (digs (x.natAbs + y.natAbs)) ∧ Below w.heap.size w w' := by
 have := plus_ok _ _ _ _ w h1.rd h2.rd (digs_small _) (digs_small _) (by unfold Sz at hx; omega) (by unfold Sz at hy; omega)
 rw [val_digs, val_digs] at this
 exact own_slice this
theorem minus_is {x y : Int} {a1 a2 : Option Addr} {c1 c2 : Nat} {w : World} (h1 : BD G w a1 c1 x) (h2 : BD G w a2 c2 y) (hx : Sz x 549755813888) (hle : y.natAbs ≤ x.natAbs) :
  Calls Tryz.prog 87 #[.slice a1 (ln x) c1, .slice a2 (ln y) c2] w fun e w' => ∃ a c, e = .returned (.slice a (lnN (x.natAbs - y.natAbs)) c) ∧ OwnN w' w.heap.size (.slice a (lnN (x.natAbs - y.natAbs)) c) (digs (x.natAbs - y.natAbs)) ∧ Below w.heap.size w w' := by
 have := minus_ok _ _ _ _ w h1.rd h2.rd (digs_small _) (digs_small _) (by rw [val_digs, val_digs]; exact hle) (digs_len_mono hle) (by unfold Sz at hx; omega)
 rw [val_digs, val_digs] at this
 exact own_slice this
def lessZ (x y : Int) : Bool := decide (x.natAbs < y.natAbs)
theorem less_is {x y : Int} {a1 a2 : Option Addr} {c1 c2 : Nat} {w : World} (h1 : BD G w a1 c1 x) (h2 : BD G w a2 c2 y) (hx : Sz x 549755813888) (hy : Sz y 549755813888) :
  Calls Tryz.prog 86 #[.slice a1 (ln x) c1, .slice a2 (ln y) c2] w fun e w' => e = .returned (.bool (lessZ x y)) ∧ Below w.heap.size w w' := by
 have := less_ok _ _ _ _ w h1.rd h2.rd (digs_small _) (digs_small _) (by unfold Sz at hx; omega) (by unfold Sz at hy; omega)
 rwa [lessB, val_digs, val_digs] at this
theorem or_signs {x y : Int} (h : 0 ≤ sg x * sg y) : bits .or .i64 (sg x) (sg y) = orS (sg x) (sg y) := by
 rcases sg_cases x with h1 | h1 | h1 <;> rcases sg_cases y with h2 | h2 | h2 <;> rw [h1, h2] at h ⊢ <;> first | (exfalso; omega) | decide
set_option maxRecDepth 100000 in
set_option maxHeartbeats 4000000 in
theorem rneg_ok {x : Int} {a1 : Option Addr} {c1 : Nat} {w : World} (h1 : BD G w a1 c1 x) (hx : Sz x 549755813888) :
    Calls Tryz.prog 64 #[.agg #[.int .i64 (sg x), .slice a1 (ln x) c1]] w fun e w' => ∃ a c, e = .returned (.agg #[.int .i64 (sg (-x)), .slice a (ln (-x)) c]) ∧ BD G w' a c (-x) ∧ Below w.heap.size w w' := by
  have HX := Lib.hid hx
  have H1 := Lib.hid h1
  have HM1 : Hid (-(sg x) * (x.natAbs : Int) = -x) := by show _ = _; rw [sg, Int.neg_mul, sign_mul_abs]
  have HM2 : Hid (x.natAbs ≠ 0 → -(sg x) = 1 ∨ -(sg x) = -1) := by
    intro h
    have := sg_ne (x := x) (by omega)
    omega
  have hw : IntKind.i64.wrap (-(sg x)) = -(sg x) := by rcases sg_cases x with h | h | h <;> rw [h] <;> rfl
  clear hx h1

  go_enter Tryz.func64, Tryz.ntmps64
  go_wp2_with fail
  refine (rright_ok (x := x) (H1.out.keep (by go_grown)) (HX.out.mono (by omega))).mono ?_
  rintro e w1 ⟨rfl, hb⟩
  have hbx := bx2 w 24 24 #[.int .i64 (sg x), .slice a1 (ln x) c1] #[.int .i64 0, .slice none 0 0]
  obtain ⟨k0, k1⟩ := hbx
  have K0 := Lib.hid (k0.keep hb)
  have K1 := Lib.hid (k1.keep hb)
  clear k0 k1
  have hb' : Below w.heap.size w w1 := below_call (by go_grown) hb
  have HB := Lib.hid hb'
  replace H1 := Lib.hid (H1.out.keep hb')
  clear hb hb'
  refine K0.out.w2 fun aa ab ac ad z0 => ?_
  refine K1.out.w2 fun ae af ag ah z1 => ?_
  go_wp2_with fail
  refine (made_bd (z := -x) (H1.out.keep (by go_grown)) (HX.out.mono (by omega)) HM1.out HM2.out).mono ?_
  rintro e w2 ⟨a3, c3, rfl, hd3, hb⟩
  clear aa ab ac ad z0 ae af ag ah z1
  have hb' := below_call (w1 := w1) (by go_grown) hb
  replace K0 := Lib.hid (K0.out.keep hb')
  replace K1 := Lib.hid (K1.out.keep hb')
  replace HB := Lib.hid (below_call HB.out hb')
  replace H1 := Lib.hid (H1.out.keep hb')
  clear hb hb'
  have Hd3 := Lib.hid hd3; clear hd3
  refine K0.out.w2 fun aa ab ac ad z0 => ?_
  refine K1.out.w2 fun ae af ag ah z1 => ?_
  go_wp2_with fail
  clear aa ab ac ad z0 ae af ag ah z1
  refine bodyPost_ret (results_box1 rfl _ _ (w.heap.size + 1) 24 _ _ _ rfl (K1.out.set2 _ _) Tryz.underlying24 rfl (by kernel_rfl)) rfl ?_
  refine ⟨a3, c3, rfl, ?_, ?_⟩
  · exact (Hd3.out.far0 K1.out zb2 (only_setCell (only_setCell (World.grownBy.refl _ _) _) _))
  · exact (Below.setCell (Below.setCell HB.out (by simp; try omega) _) (by simp; try omega) _)
set_option maxRecDepth 100000 in
set_option maxHeartbeats 4000000 in
theorem rmul_ok {x y : Int} {a1 a2 : Option Addr} {c1 c2 : Nat} {w : World} (h1 : BD G w a1 c1 x) (h2 : BD G w a2 c2 y) (hx : Sz x 549755813888) (hy : Sz y 549755813888) :
    Calls Tryz.prog 53 #[.agg #[.int .i64 (sg x), .slice a1 (ln x) c1], .agg #[.int .i64 (sg y), .slice a2 (ln y) c2]] w fun e w' => ∃ a c, e = .returned (.tuple #[.agg #[.int .i64 (sg (x * y)), .slice a (ln (x * y)) c], .int .i64 0]) ∧ BD G w' a c (x * y) ∧ Below w.heap.size w w' := by
  have HX := Lib.hid hx
  have H1 := Lib.hid h1
  have HY := Lib.hid hy
  have H2 := Lib.hid h2
  have HM1 := Lib.hid (mul_signs x y)
  have HM2 := Lib.hid (mul_sign_one x y)
  have hws := wrap_signs x y
  have HM0 : Hid (lnN (x.natAbs * y.natAbs) ≤ 8796093022208) := mul_room hx hy
  clear hx h1 hy h2

  go_enter Tryz.func53, Tryz.ntmps53
  go_wp2_with fail
  refine (rright_ok (x := x) (H1.out.keep (by go_grown)) (HX.out.mono (by omega))).mono ?_
  rintro e w1 ⟨rfl, hb⟩
  have hbx := bx3 w 24 24 24 #[.int .i64 (sg x), .slice a1 (ln x) c1] #[.int .i64 (sg y), .slice a2 (ln y) c2] #[.int .i64 0, .slice none 0 0]
  obtain ⟨k0, k1, k2⟩ := hbx
  have K0 := Lib.hid (k0.keep hb)
  have K1 := Lib.hid (k1.keep hb)
  have K2 := Lib.hid (k2.keep hb)
  clear k0 k1 k2
  have hb' : Below w.heap.size w w1 := below_call (by go_grown) hb
  have HB := Lib.hid hb'
  replace H1 := Lib.hid (H1.out.keep hb')
  replace H2 := Lib.hid (H2.out.keep hb')
  clear hb hb'
  refine K0.out.w2 fun aa ab ac ad z0 => ?_
  refine K1.out.w2 fun ae af ag ah z1 => ?_
  refine K2.out.w2 fun ai aj ak al z2 => ?_
  go_wp2_with fail
  refine (rright_ok (x := y) (H2.out.keep (by go_grown)) (HY.out.mono (by omega))).mono ?_
  rintro e w2 ⟨rfl, hb⟩
  clear aa ab ac ad z0 ae af ag ah z1 ai aj ak al z2
  have hb' := below_call (w1 := w1) (by go_grown) hb
  replace K0 := Lib.hid (K0.out.keep hb')
  replace K1 := Lib.hid (K1.out.keep hb')
  replace K2 := Lib.hid (K2.out.keep hb')
  replace HB := Lib.hid (below_call HB.out hb')
  replace H1 := Lib.hid (H1.out.keep hb')
  replace H2 := Lib.hid (H2.out.keep hb')
  clear hb hb'
  refine K0.out.w2 fun aa ab ac ad z0 => ?_
  refine K1.out.w2 fun ae af ag ah z1 => ?_
  refine K2.out.w2 fun ai aj ak al z2 => ?_
  go_wp2_with fail
  clear aa ab ac ad z0 ae af ag ah z1 ai aj ak al z2
  have mk : Hid (∀ w', w2.grownBy w' (some (w.heap.size + 1 + 1)) → w'.cell? ⟨w.heap.size, 0, none⟩ = some (.int .i64 (sg x)) ∧ w'.cell? ⟨w.heap.size, 1, none⟩ = some (.slice a1 (ln x) c1) ∧ w'.cell? ⟨w.heap.size + 1, 0, none⟩ = some (.int .i64 (sg y)) ∧ w'.cell? ⟨w.heap.size + 1, 1, none⟩ = some (.slice a2 (ln y) c2) ∧ w2.grownBy w' (some (w.heap.size + 1 + 1))) := fun w' h => ((K0.out.only h (by omega)).t2 ((K1.out.only h (by omega)).t2 (h)))
  have hs0 : w2.grownBy w2.drew (some (w.heap.size + 1 + 1)) := only_start _ _
  have HS0 : Hid (Below w2.heap.size w2 w2.drew) := (Below.refl _ _).drew
  have tok0 : True := trivial
  have tok1 : True := trivial
  go_region_held3 (fun w' => w'.cell? ⟨w.heap.size, 0, none⟩ = some (.int .i64 (sg x)) ∧ w'.cell? ⟨w.heap.size, 1, none⟩ = some (.slice a1 (ln x) c1) ∧ w'.cell? ⟨w.heap.size + 1, 0, none⟩ = some (.int .i64 (sg y)) ∧ w'.cell? ⟨w.heap.size + 1, 1, none⟩ = some (.slice a2 (ln y) c2) ∧ w2.grownBy w' (some (w.heap.size + 1 + 1)))
    (first | exact mk.out _ (by assumption) | exact mk.out _ (only_setCell (only_setCell (by assumption) _) _) | exact mk.out _ (only_alloc (by assumption) _))
    (first
      | (go_at_call 84; have _t := tok0; refine (rtimes_is (H1.out.keep HS0.out) (H2.out.keep HS0.out) HX.out HY.out).mono ?_; rintro e w3 ⟨a3, c3, rfl, ho3, hb⟩; clear tok0 _t; have hs1 := only_call hs0 hb; have HS1 := Lib.hid (below_call HS0.out hb); clear hb; have Ho3 := Lib.hid ho3; clear ho3)
      | (go_at_call 83; have _t := tok1; refine (made_own (G := G) (z := x * y) Ho3.out HM0.out HM1.out HM2.out).mono ?_; rintro e w4 ⟨a4, c4, rfl, hd4, hb⟩; clear tok1 _t; have hs2 := only_call hs1 hb; have HS2 := Lib.hid (below_call HS1.out hb); have Ho3 := Lib.hid (Ho3.out.keep hb); clear hb; have Hd4 := Lib.hid hd4; clear hd4; obtain ⟨p2, q2⟩ := (K2.out.keep HS2.out).at))
  replace K0 := Lib.hid (K0.out.keep HS2.out)
  replace K1 := Lib.hid (K1.out.keep HS2.out)
  replace K2 := Lib.hid (K2.out.keep HS2.out)
  replace HB := Lib.hid (below_call HB.out HS2.out)
  replace H1 := Lib.hid (H1.out.keep HS2.out)
  replace H2 := Lib.hid (H2.out.keep HS2.out)
  clear mk hs0 HS0 hs1 HS1 hs2 HS2  p2 q2
  go_wp2_with fail
  refine bodyPost_ret (results_box2 rfl _ _ (w.heap.size + 1 + 1) 24 _ _ _ rfl (K2.out.set2 _ _) Tryz.underlying24 rfl (by kernel_rfl)) rfl ?_
  refine ⟨a4, c4, rfl, ?_, ?_⟩
  · exact (Hd4.out.far0 K2.out zb2 (only_setCell (only_setCell (World.grownBy.refl _ _) _) _))
  · exact (Below.setCell (Below.setCell HB.out (by simp; try omega) _) (by simp; try omega) _)
set_option maxRecDepth 100000 in
set_option maxHeartbeats 4000000 in
theorem radd_x0 {x y : Int} {a1 a2 : Option Addr} {c1 c2 : Nat} {w : World} (h1 : BD G w a1 c1 x) (h2 : BD G w a2 c2 y) (hx : Sz x 549755813888) (hy : Sz y 549755813888) (hc : sg x = 0) :
    Calls Tryz.prog 54 #[.agg #[.int .i64 (sg x), .slice a1 (ln x) c1], .agg #[.int .i64 (sg y), .slice a2 (ln y) c2]] w fun e w' => ∃ a c, e = .returned (.tuple #[.agg #[.int .i64 (sg (x + y)), .slice a (ln (x + y)) c], .int .i64 0]) ∧ BD G w' a c (x + y) ∧ Below w.heap.size w w' := by
  have HX := Lib.hid hx
  have H1 := Lib.hid h1
  have HY := Lib.hid hy
  have H2 := Lib.hid h2
  have hlk : 0 ≤ sg x * sg y := by rw [hc]; simp
  have HM := Lib.hid (add_signs hlk)
  have HM0 : Hid (lnN (x.natAbs + y.natAbs) ≤ 8796093022208) := add_room hx hy
  have hor := or_signs hlk
  have t1 : (sg x == 0) = true := by rw [hc]; rfl
  clear hlk hc
  clear hx h1 hy h2

  go_enter Tryz.func54, Tryz.ntmps54
  go_wp2_with fail
  refine (rright_ok (x := x) (H1.out.keep (by go_grown)) (HX.out.mono (by omega))).mono ?_
  rintro e w1 ⟨rfl, hb⟩
  have hbx := bx3 w 24 24 24 #[.int .i64 (sg x), .slice a1 (ln x) c1] #[.int .i64 (sg y), .slice a2 (ln y) c2] #[.int .i64 0, .slice none 0 0]
  obtain ⟨k0, k1, k2⟩ := hbx
  have K0 := Lib.hid (k0.keep hb)
  have K1 := Lib.hid (k1.keep hb)
  have K2 := Lib.hid (k2.keep hb)
  clear k0 k1 k2
  have hb' : Below w.heap.size w w1 := below_call (by go_grown) hb
  have HB := Lib.hid hb'
  replace H1 := Lib.hid (H1.out.keep hb')
  replace H2 := Lib.hid (H2.out.keep hb')
  clear hb hb'
  refine K0.out.w2 fun aa ab ac ad z0 => ?_
  refine K1.out.w2 fun ae af ag ah z1 => ?_
  refine K2.out.w2 fun ai aj ak al z2 => ?_
  go_wp2_with fail
  refine (rright_ok (x := y) (H2.out.keep (by go_grown)) (HY.out.mono (by omega))).mono ?_
  rintro e w2 ⟨rfl, hb⟩
  clear aa ab ac ad z0 ae af ag ah z1 ai aj ak al z2
  have hb' := below_call (w1 := w1) (by go_grown) hb
  replace K0 := Lib.hid (K0.out.keep hb')
  replace K1 := Lib.hid (K1.out.keep hb')
  replace K2 := Lib.hid (K2.out.keep hb')
  replace HB := Lib.hid (below_call HB.out hb')
  replace H1 := Lib.hid (H1.out.keep hb')
  replace H2 := Lib.hid (H2.out.keep hb')
  clear hb hb'
  refine K0.out.w2 fun aa ab ac ad z0 => ?_
  refine K1.out.w2 fun ae af ag ah z1 => ?_
  refine K2.out.w2 fun ai aj ak al z2 => ?_
  go_wp2_with fail
  clear aa ab ac ad z0 ae af ag ah z1 ai aj ak al z2
  have mk : Hid (∀ w', w2.grownBy w' (some (w.heap.size + 1 + 1)) → w'.cell? ⟨w.heap.size, 0, none⟩ = some (.int .i64 (sg x)) ∧ w'.cell? ⟨w.heap.size, 1, none⟩ = some (.slice a1 (ln x) c1) ∧ w'.cell? ⟨w.heap.size + 1, 0, none⟩ = some (.int .i64 (sg y)) ∧ w'.cell? ⟨w.heap.size + 1, 1, none⟩ = some (.slice a2 (ln y) c2) ∧ w2.grownBy w' (some (w.heap.size + 1 + 1))) := fun w' h => ((K0.out.only h (by omega)).t2 ((K1.out.only h (by omega)).t2 (h)))
  have hs0 : w2.grownBy w2.drew (some (w.heap.size + 1 + 1)) := only_start _ _
  have HS0 : Hid (Below w2.heap.size w2 w2.drew) := (Below.refl _ _).drew
  have tok0 : True := trivial
  have tok1 : True := trivial
  go_region_held3 (fun w' => w'.cell? ⟨w.heap.size, 0, none⟩ = some (.int .i64 (sg x)) ∧ w'.cell? ⟨w.heap.size, 1, none⟩ = some (.slice a1 (ln x) c1) ∧ w'.cell? ⟨w.heap.size + 1, 0, none⟩ = some (.int .i64 (sg y)) ∧ w'.cell? ⟨w.heap.size + 1, 1, none⟩ = some (.slice a2 (ln y) c2) ∧ w2.grownBy w' (some (w.heap.size + 1 + 1)))
    (first | exact mk.out _ (by assumption) | exact mk.out _ (only_setCell (only_setCell (by assumption) _) _) | exact mk.out _ (only_alloc (by assumption) _))
    (first
      | (go_at_call 85; have _t := tok0; refine (plus_is (H1.out.keep HS0.out) (H2.out.keep HS0.out) HX.out HY.out).mono ?_; rintro e w3 ⟨a3, c3, rfl, ho3, hb⟩; clear tok0 _t; have hs1 := only_call hs0 hb; have HS1 := Lib.hid (below_call HS0.out hb); clear hb; have Ho3 := Lib.hid ho3; clear ho3)
      | (go_at_call 83; have _t := tok1; refine (made_own (G := G) (z := x + y) Ho3.out HM0.out HM.out.1 HM.out.2).mono ?_; rintro e w4 ⟨a4, c4, rfl, hd4, hb⟩; clear tok1 _t; have hs2 := only_call hs1 hb; have HS2 := Lib.hid (below_call HS1.out hb); have Ho3 := Lib.hid (Ho3.out.keep hb); clear hb; have Hd4 := Lib.hid hd4; clear hd4; obtain ⟨p2, q2⟩ := (K2.out.keep HS2.out).at))
  replace K0 := Lib.hid (K0.out.keep HS2.out)
  replace K1 := Lib.hid (K1.out.keep HS2.out)
  replace K2 := Lib.hid (K2.out.keep HS2.out)
  replace HB := Lib.hid (below_call HB.out HS2.out)
  replace H1 := Lib.hid (H1.out.keep HS2.out)
  replace H2 := Lib.hid (H2.out.keep HS2.out)
  clear mk hs0 HS0 hs1 HS1 hs2 HS2  p2 q2
  go_wp2_with fail
  refine bodyPost_ret (results_box2 rfl _ _ (w.heap.size + 1 + 1) 24 _ _ _ rfl (K2.out.set2 _ _) Tryz.underlying24 rfl (by kernel_rfl)) rfl ?_
  refine ⟨a4, c4, rfl, ?_, ?_⟩
  · exact (Hd4.out.far0 K2.out zb2 (only_setCell (only_setCell (World.grownBy.refl _ _) _) _))
  · exact (Below.setCell (Below.setCell HB.out (by simp; try omega) _) (by simp; try omega) _)
set_option maxRecDepth 100000 in
set_option maxHeartbeats 4000000 in
theorem radd_y0 {x y : Int} {a1 a2 : Option Addr} {c1 c2 : Nat} {w : World} (h1 : BD G w a1 c1 x) (h2 : BD G w a2 c2 y) (hx : Sz x 549755813888) (hy : Sz y 549755813888) (hc : sg x ≠ 0 ∧ sg y = 0) :
    Calls Tryz.prog 54 #[.agg #[.int .i64 (sg x), .slice a1 (ln x) c1], .agg #[.int .i64 (sg y), .slice a2 (ln y) c2]] w fun e w' => ∃ a c, e = .returned (.tuple #[.agg #[.int .i64 (sg (x + y)), .slice a (ln (x + y)) c], .int .i64 0]) ∧ BD G w' a c (x + y) ∧ Below w.heap.size w w' := by
  have HX := Lib.hid hx
  have H1 := Lib.hid h1
  have HY := Lib.hid hy
  have H2 := Lib.hid h2
  have hlk : 0 ≤ sg x * sg y := by rw [hc.2]; simp
  have HM := Lib.hid (add_signs hlk)
  have HM0 : Hid (lnN (x.natAbs + y.natAbs) ≤ 8796093022208) := add_room hx hy
  have hor := or_signs hlk
  have t1 : (sg x == 0) = false := by rw [beq_eq_false_iff_ne]; exact hc.1
  have t2 : (sg y == 0) = true := by rw [hc.2]; rfl
  clear hlk hc
  clear hx h1 hy h2

  go_enter Tryz.func54, Tryz.ntmps54
  go_wp2_with fail
  refine (rright_ok (x := x) (H1.out.keep (by go_grown)) (HX.out.mono (by omega))).mono ?_
  rintro e w1 ⟨rfl, hb⟩
  have hbx := bx3 w 24 24 24 #[.int .i64 (sg x), .slice a1 (ln x) c1] #[.int .i64 (sg y), .slice a2 (ln y) c2] #[.int .i64 0, .slice none 0 0]
  obtain ⟨k0, k1, k2⟩ := hbx
  have K0 := Lib.hid (k0.keep hb)
  have K1 := Lib.hid (k1.keep hb)
  have K2 := Lib.hid (k2.keep hb)
  clear k0 k1 k2
  have hb' : Below w.heap.size w w1 := below_call (by go_grown) hb
  have HB := Lib.hid hb'
  replace H1 := Lib.hid (H1.out.keep hb')
  replace H2 := Lib.hid (H2.out.keep hb')
  clear hb hb'
  refine K0.out.w2 fun aa ab ac ad z0 => ?_
  refine K1.out.w2 fun ae af ag ah z1 => ?_
  refine K2.out.w2 fun ai aj ak al z2 => ?_
  go_wp2_with fail
  refine (rright_ok (x := y) (H2.out.keep (by go_grown)) (HY.out.mono (by omega))).mono ?_
  rintro e w2 ⟨rfl, hb⟩
  clear aa ab ac ad z0 ae af ag ah z1 ai aj ak al z2
  have hb' := below_call (w1 := w1) (by go_grown) hb
  replace K0 := Lib.hid (K0.out.keep hb')
  replace K1 := Lib.hid (K1.out.keep hb')
  replace K2 := Lib.hid (K2.out.keep hb')
  replace HB := Lib.hid (below_call HB.out hb')
  replace H1 := Lib.hid (H1.out.keep hb')
  replace H2 := Lib.hid (H2.out.keep hb')
  clear hb hb'
  refine K0.out.w2 fun aa ab ac ad z0 => ?_
  refine K1.out.w2 fun ae af ag ah z1 => ?_
  refine K2.out.w2 fun ai aj ak al z2 => ?_
  go_wp2_with fail
  clear aa ab ac ad z0 ae af ag ah z1 ai aj ak al z2
  have mk : Hid (∀ w', w2.grownBy w' (some (w.heap.size + 1 + 1)) → w'.cell? ⟨w.heap.size, 0, none⟩ = some (.int .i64 (sg x)) ∧ w'.cell? ⟨w.heap.size, 1, none⟩ = some (.slice a1 (ln x) c1) ∧ w'.cell? ⟨w.heap.size + 1, 0, none⟩ = some (.int .i64 (sg y)) ∧ w'.cell? ⟨w.heap.size + 1, 1, none⟩ = some (.slice a2 (ln y) c2) ∧ w2.grownBy w' (some (w.heap.size + 1 + 1))) := fun w' h => ((K0.out.only h (by omega)).t2 ((K1.out.only h (by omega)).t2 (h)))
  have hs0 : w2.grownBy w2.drew (some (w.heap.size + 1 + 1)) := only_start _ _
  have HS0 : Hid (Below w2.heap.size w2 w2.drew) := (Below.refl _ _).drew
  have tok0 : True := trivial
  have tok1 : True := trivial
  go_region_held3 (fun w' => w'.cell? ⟨w.heap.size, 0, none⟩ = some (.int .i64 (sg x)) ∧ w'.cell? ⟨w.heap.size, 1, none⟩ = some (.slice a1 (ln x) c1) ∧ w'.cell? ⟨w.heap.size + 1, 0, none⟩ = some (.int .i64 (sg y)) ∧ w'.cell? ⟨w.heap.size + 1, 1, none⟩ = some (.slice a2 (ln y) c2) ∧ w2.grownBy w' (some (w.heap.size + 1 + 1)))
    (first | exact mk.out _ (by assumption) | exact mk.out _ (only_setCell (only_setCell (by assumption) _) _) | exact mk.out _ (only_alloc (by assumption) _))
    (first
      | (go_at_call 85; have _t := tok0; refine (plus_is (H1.out.keep HS0.out) (H2.out.keep HS0.out) HX.out HY.out).mono ?_; rintro e w3 ⟨a3, c3, rfl, ho3, hb⟩; clear tok0 _t; have hs1 := only_call hs0 hb; have HS1 := Lib.hid (below_call HS0.out hb); clear hb; have Ho3 := Lib.hid ho3; clear ho3)
      | (go_at_call 83; have _t := tok1; refine (made_own (G := G) (z := x + y) Ho3.out HM0.out HM.out.1 HM.out.2).mono ?_; rintro e w4 ⟨a4, c4, rfl, hd4, hb⟩; clear tok1 _t; have hs2 := only_call hs1 hb; have HS2 := Lib.hid (below_call HS1.out hb); have Ho3 := Lib.hid (Ho3.out.keep hb); clear hb; have Hd4 := Lib.hid hd4; clear hd4; obtain ⟨p2, q2⟩ := (K2.out.keep HS2.out).at))
  replace K0 := Lib.hid (K0.out.keep HS2.out)
  replace K1 := Lib.hid (K1.out.keep HS2.out)
  replace K2 := Lib.hid (K2.out.keep HS2.out)
  replace HB := Lib.hid (below_call HB.out HS2.out)
  replace H1 := Lib.hid (H1.out.keep HS2.out)
  replace H2 := Lib.hid (H2.out.keep HS2.out)
  clear mk hs0 HS0 hs1 HS1 hs2 HS2  p2 q2
  go_wp2_with fail
  refine bodyPost_ret (results_box2 rfl _ _ (w.heap.size + 1 + 1) 24 _ _ _ rfl (K2.out.set2 _ _) Tryz.underlying24 rfl (by kernel_rfl)) rfl ?_
  refine ⟨a4, c4, rfl, ?_, ?_⟩
  · exact (Hd4.out.far0 K2.out zb2 (only_setCell (only_setCell (World.grownBy.refl _ _) _) _))
  · exact (Below.setCell (Below.setCell HB.out (by simp; try omega) _) (by simp; try omega) _)
set_option maxRecDepth 100000 in
set_option maxHeartbeats 4000000 in
theorem radd_eq {x y : Int} {a1 a2 : Option Addr} {c1 c2 : Nat} {w : World} (h1 : BD G w a1 c1 x) (h2 : BD G w a2 c2 y) (hx : Sz x 549755813888) (hy : Sz y 549755813888) (hc : sg x ≠ 0 ∧ sg y ≠ 0 ∧ sg x = sg y) :
    Calls Tryz.prog 54 #[.agg #[.int .i64 (sg x), .slice a1 (ln x) c1], .agg #[.int .i64 (sg y), .slice a2 (ln y) c2]] w fun e w' => ∃ a c, e = .returned (.tuple #[.agg #[.int .i64 (sg (x + y)), .slice a (ln (x + y)) c], .int .i64 0]) ∧ BD G w' a c (x + y) ∧ Below w.heap.size w w' := by
  have HX := Lib.hid hx
  have H1 := Lib.hid h1
  have HY := Lib.hid hy
  have H2 := Lib.hid h2
  have hlk : 0 ≤ sg x * sg y := by rw [hc.2.2]; rcases sg_cases y with h | h | h <;> rw [h] <;> decide
  have HM := Lib.hid (add_signs hlk)
  have HM0 : Hid (lnN (x.natAbs + y.natAbs) ≤ 8796093022208) := add_room hx hy
  have hor := or_signs hlk
  have t1 : (sg x == 0) = false := by rw [beq_eq_false_iff_ne]; exact hc.1
  have t2 : (sg y == 0) = false := by rw [beq_eq_false_iff_ne]; exact hc.2.1
  have t3 : (sg x == sg y) = true := by rw [beq_iff_eq]; exact hc.2.2
  clear hlk hc
  clear hx h1 hy h2

  go_enter Tryz.func54, Tryz.ntmps54
  go_wp2_with fail
  refine (rright_ok (x := x) (H1.out.keep (by go_grown)) (HX.out.mono (by omega))).mono ?_
  rintro e w1 ⟨rfl, hb⟩
  have hbx := bx3 w 24 24 24 #[.int .i64 (sg x), .slice a1 (ln x) c1] #[.int .i64 (sg y), .slice a2 (ln y) c2] #[.int .i64 0, .slice none 0 0]
  obtain ⟨k0, k1, k2⟩ := hbx
  have K0 := Lib.hid (k0.keep hb)
  have K1 := Lib.hid (k1.keep hb)
  have K2 := Lib.hid (k2.keep hb)
  clear k0 k1 k2
  have hb' : Below w.heap.size w w1 := below_call (by go_grown) hb
  have HB := Lib.hid hb'
  replace H1 := Lib.hid (H1.out.keep hb')
  replace H2 := Lib.hid (H2.out.keep hb')
  clear hb hb'
  refine K0.out.w2 fun aa ab ac ad z0 => ?_
  refine K1.out.w2 fun ae af ag ah z1 => ?_
  refine K2.out.w2 fun ai aj ak al z2 => ?_
  go_wp2_with fail
  refine (rright_ok (x := y) (H2.out.keep (by go_grown)) (HY.out.mono (by omega))).mono ?_
  rintro e w2 ⟨rfl, hb⟩
  clear aa ab ac ad z0 ae af ag ah z1 ai aj ak al z2
  have hb' := below_call (w1 := w1) (by go_grown) hb
  replace K0 := Lib.hid (K0.out.keep hb')
  replace K1 := Lib.hid (K1.out.keep hb')
  replace K2 := Lib.hid (K2.out.keep hb')
  replace HB := Lib.hid (below_call HB.out hb')
  replace H1 := Lib.hid (H1.out.keep hb')
  replace H2 := Lib.hid (H2.out.keep hb')
  clear hb hb'
  refine K0.out.w2 fun aa ab ac ad z0 => ?_
  refine K1.out.w2 fun ae af ag ah z1 => ?_
  refine K2.out.w2 fun ai aj ak al z2 => ?_
  go_wp2_with fail
  clear aa ab ac ad z0 ae af ag ah z1 ai aj ak al z2
  have mk : Hid (∀ w', w2.grownBy w' (some (w.heap.size + 1 + 1)) → w'.cell? ⟨w.heap.size, 0, none⟩ = some (.int .i64 (sg x)) ∧ w'.cell? ⟨w.heap.size, 1, none⟩ = some (.slice a1 (ln x) c1) ∧ w'.cell? ⟨w.heap.size + 1, 0, none⟩ = some (.int .i64 (sg y)) ∧ w'.cell? ⟨w.heap.size + 1, 1, none⟩ = some (.slice a2 (ln y) c2) ∧ w2.grownBy w' (some (w.heap.size + 1 + 1))) := fun w' h => ((K0.out.only h (by omega)).t2 ((K1.out.only h (by omega)).t2 (h)))
  have hs0 : w2.grownBy w2.drew (some (w.heap.size + 1 + 1)) := only_start _ _
  have HS0 : Hid (Below w2.heap.size w2 w2.drew) := (Below.refl _ _).drew
  have tok0 : True := trivial
  have tok1 : True := trivial
  go_region_held3 (fun w' => w'.cell? ⟨w.heap.size, 0, none⟩ = some (.int .i64 (sg x)) ∧ w'.cell? ⟨w.heap.size, 1, none⟩ = some (.slice a1 (ln x) c1) ∧ w'.cell? ⟨w.heap.size + 1, 0, none⟩ = some (.int .i64 (sg y)) ∧ w'.cell? ⟨w.heap.size + 1, 1, none⟩ = some (.slice a2 (ln y) c2) ∧ w2.grownBy w' (some (w.heap.size + 1 + 1)))
    (first | exact mk.out _ (by assumption) | exact mk.out _ (only_setCell (only_setCell (by assumption) _) _) | exact mk.out _ (only_alloc (by assumption) _))
    (first
      | (go_at_call 85; have _t := tok0; refine (plus_is (H1.out.keep HS0.out) (H2.out.keep HS0.out) HX.out HY.out).mono ?_; rintro e w3 ⟨a3, c3, rfl, ho3, hb⟩; clear tok0 _t; have hs1 := only_call hs0 hb; have HS1 := Lib.hid (below_call HS0.out hb); clear hb; have Ho3 := Lib.hid ho3; clear ho3)
      | (go_at_call 83; have _t := tok1; refine (made_own (G := G) (z := x + y) Ho3.out HM0.out HM.out.1 HM.out.2).mono ?_; rintro e w4 ⟨a4, c4, rfl, hd4, hb⟩; clear tok1 _t; have hs2 := only_call hs1 hb; have HS2 := Lib.hid (below_call HS1.out hb); have Ho3 := Lib.hid (Ho3.out.keep hb); clear hb; have Hd4 := Lib.hid hd4; clear hd4; obtain ⟨p2, q2⟩ := (K2.out.keep HS2.out).at))
  replace K0 := Lib.hid (K0.out.keep HS2.out)
  replace K1 := Lib.hid (K1.out.keep HS2.out)
  replace K2 := Lib.hid (K2.out.keep HS2.out)
  replace HB := Lib.hid (below_call HB.out HS2.out)
  replace H1 := Lib.hid (H1.out.keep HS2.out)
  replace H2 := Lib.hid (H2.out.keep HS2.out)
  clear mk hs0 HS0 hs1 HS1 hs2 HS2  p2 q2
  go_wp2_with fail
  refine bodyPost_ret (results_box2 rfl _ _ (w.heap.size + 1 + 1) 24 _ _ _ rfl (K2.out.set2 _ _) Tryz.underlying24 rfl (by kernel_rfl)) rfl ?_
  refine ⟨a4, c4, rfl, ?_, ?_⟩
  · exact (Hd4.out.far0 K2.out zb2 (only_setCell (only_setCell (World.grownBy.refl _ _) _) _))
  · exact (Below.setCell (Below.setCell HB.out (by simp; try omega) _) (by simp; try omega) _)
set_option maxRecDepth 100000 in
set_option maxHeartbeats 4000000 in
theorem radd_lt {x y : Int} {a1 a2 : Option Addr} {c1 c2 : Nat} {w : World} (h1 : BD G w a1 c1 x) (h2 : BD G w a2 c2 y) (hx : Sz x 549755813888) (hy : Sz y 549755813888) (hs : sg x * sg y < 0) (hle : x.natAbs < y.natAbs) :
    Calls Tryz.prog 54 #[.agg #[.int .i64 (sg x), .slice a1 (ln x) c1], .agg #[.int .i64 (sg y), .slice a2 (ln y) c2]] w fun e w' => ∃ a c, e = .returned (.tuple #[.agg #[.int .i64 (sg (x + y)), .slice a (ln (x + y)) c], .int .i64 0]) ∧ BD G w' a c (x + y) ∧ Below w.heap.size w w' := by
  have HX := Lib.hid hx
  have H1 := Lib.hid h1
  have HY := Lib.hid hy
  have H2 := Lib.hid h2
  have hx0 : sg x ≠ 0 := by intro h; rw [h] at hs; simp at hs
  have hy0 : sg y ≠ 0 := by intro h; rw [h] at hs; simp at hs
  have hxy : sg x ≠ sg y := by intro h; rw [h] at hs; rcases sg_cases y with h' | h' | h' <;> rw [h'] at hs <;> simp at hs
  have t1 : (sg x == 0) = false := by rw [beq_eq_false_iff_ne]; exact hx0
  have t2 : (sg y == 0) = false := by rw [beq_eq_false_iff_ne]; exact hy0
  have t3 : (sg x == sg y) = false := by rw [beq_eq_false_iff_ne]; exact hxy
  have HLS : Hid (lessZ x y = true) := by show _ = _; rw [lessZ]; rw [decide_eq_true_eq]; exact hle
  have HLE : Hid (x.natAbs ≤ y.natAbs) := by show _ ≤ _; omega
  have HM0 : Hid (lnN (y.natAbs - x.natAbs) ≤ 8796093022208) := by show _ ≤ _; have := digs_len_mono (Nat.sub_le y.natAbs x.natAbs); unfold Sz at hx hy; unfold lnN; omega
  have hsg := sub_signs (x := y) (y := x) (by rw [Int.mul_comm]; exact hs) (by omega)
  have HM1 : Hid (sg y * ((y.natAbs - x.natAbs : Nat) : Int) = x + y) := hsg.1.trans (Int.add_comm _ _)
  have HM2 := Lib.hid hsg.2
  clear hx0 hy0 hxy hs hle hsg
  clear hx h1 hy h2

  go_enter Tryz.func54, Tryz.ntmps54
  go_wp2_with fail
  refine (rright_ok (x := x) (H1.out.keep (by go_grown)) (HX.out.mono (by omega))).mono ?_
  rintro e w1 ⟨rfl, hb⟩
  have hbx := bx3 w 24 24 24 #[.int .i64 (sg x), .slice a1 (ln x) c1] #[.int .i64 (sg y), .slice a2 (ln y) c2] #[.int .i64 0, .slice none 0 0]
  obtain ⟨k0, k1, k2⟩ := hbx
  have K0 := Lib.hid (k0.keep hb)
  have K1 := Lib.hid (k1.keep hb)
  have K2 := Lib.hid (k2.keep hb)
  clear k0 k1 k2
  have hb' : Below w.heap.size w w1 := below_call (by go_grown) hb
  have HB := Lib.hid hb'
  replace H1 := Lib.hid (H1.out.keep hb')
  replace H2 := Lib.hid (H2.out.keep hb')
  clear hb hb'
  refine K0.out.w2 fun aa ab ac ad z0 => ?_
  refine K1.out.w2 fun ae af ag ah z1 => ?_
  refine K2.out.w2 fun ai aj ak al z2 => ?_
  go_wp2_with fail
  refine (rright_ok (x := y) (H2.out.keep (by go_grown)) (HY.out.mono (by omega))).mono ?_
  rintro e w2 ⟨rfl, hb⟩
  clear aa ab ac ad z0 ae af ag ah z1 ai aj ak al z2
  have hb' := below_call (w1 := w1) (by go_grown) hb
  replace K0 := Lib.hid (K0.out.keep hb')
  replace K1 := Lib.hid (K1.out.keep hb')
  replace K2 := Lib.hid (K2.out.keep hb')
  replace HB := Lib.hid (below_call HB.out hb')
  replace H1 := Lib.hid (H1.out.keep hb')
  replace H2 := Lib.hid (H2.out.keep hb')
  clear hb hb'
  refine K0.out.w2 fun aa ab ac ad z0 => ?_
  refine K1.out.w2 fun ae af ag ah z1 => ?_
  refine K2.out.w2 fun ai aj ak al z2 => ?_
  go_wp2_with fail
  refine (less_is (H1.out.keep (by go_grown)) (H2.out.keep (by go_grown)) HX.out HY.out).mono ?_
  rintro e w3 ⟨rfl, hb⟩
  clear aa ab ac ad z0 ae af ag ah z1 ai aj ak al z2
  have hb' := below_call (w1 := w2) (by go_grown) hb
  replace K0 := Lib.hid (K0.out.keep hb')
  replace K1 := Lib.hid (K1.out.keep hb')
  replace K2 := Lib.hid (K2.out.keep hb')
  replace HB := Lib.hid (below_call HB.out hb')
  replace H1 := Lib.hid (H1.out.keep hb')
  replace H2 := Lib.hid (H2.out.keep hb')
  clear hb hb'
  refine K0.out.w2 fun aa ab ac ad z0 => ?_
  refine K1.out.w2 fun ae af ag ah z1 => ?_
  refine K2.out.w2 fun ai aj ak al z2 => ?_
  rw [HLS.out]
  go_wp2_with fail
  clear aa ab ac ad z0 ae af ag ah z1 ai aj ak al z2
  have mk : Hid (∀ w', w3.grownBy w' (some (w.heap.size + 1 + 1)) → w'.cell? ⟨w.heap.size, 0, none⟩ = some (.int .i64 (sg x)) ∧ w'.cell? ⟨w.heap.size, 1, none⟩ = some (.slice a1 (ln x) c1) ∧ w'.cell? ⟨w.heap.size + 1, 0, none⟩ = some (.int .i64 (sg y)) ∧ w'.cell? ⟨w.heap.size + 1, 1, none⟩ = some (.slice a2 (ln y) c2) ∧ w3.grownBy w' (some (w.heap.size + 1 + 1))) := fun w' h => ((K0.out.only h (by omega)).t2 ((K1.out.only h (by omega)).t2 (h)))
  have hs0 : w3.grownBy w3.drew (some (w.heap.size + 1 + 1)) := only_start _ _
  have HS0 : Hid (Below w3.heap.size w3 w3.drew) := (Below.refl _ _).drew
  have tok0 : True := trivial
  have tok1 : True := trivial
  go_region_held3 (fun w' => w'.cell? ⟨w.heap.size, 0, none⟩ = some (.int .i64 (sg x)) ∧ w'.cell? ⟨w.heap.size, 1, none⟩ = some (.slice a1 (ln x) c1) ∧ w'.cell? ⟨w.heap.size + 1, 0, none⟩ = some (.int .i64 (sg y)) ∧ w'.cell? ⟨w.heap.size + 1, 1, none⟩ = some (.slice a2 (ln y) c2) ∧ w3.grownBy w' (some (w.heap.size + 1 + 1)))
    (first | exact mk.out _ (by assumption) | exact mk.out _ (only_setCell (only_setCell (by assumption) _) _) | exact mk.out _ (only_alloc (by assumption) _))
    (first
      | (go_at_call 87; have _t := tok0; refine (minus_is (H2.out.keep HS0.out) (H1.out.keep HS0.out) HY.out HLE.out).mono ?_; rintro e w4 ⟨a3, c3, rfl, ho3, hb⟩; clear tok0 _t; have hs1 := only_call hs0 hb; have HS1 := Lib.hid (below_call HS0.out hb); clear hb; have Ho3 := Lib.hid ho3; clear ho3)
      | (go_at_call 83; have _t := tok1; refine (made_own (G := G) (z := x + y) Ho3.out HM0.out HM1.out (fun _ => HM2.out)).mono ?_; rintro e w5 ⟨a4, c4, rfl, hd4, hb⟩; clear tok1 _t; have hs2 := only_call hs1 hb; have HS2 := Lib.hid (below_call HS1.out hb); have Ho3 := Lib.hid (Ho3.out.keep hb); clear hb; have Hd4 := Lib.hid hd4; clear hd4; obtain ⟨p2, q2⟩ := (K2.out.keep HS2.out).at))
  replace K0 := Lib.hid (K0.out.keep HS2.out)
  replace K1 := Lib.hid (K1.out.keep HS2.out)
  replace K2 := Lib.hid (K2.out.keep HS2.out)
  replace HB := Lib.hid (below_call HB.out HS2.out)
  replace H1 := Lib.hid (H1.out.keep HS2.out)
  replace H2 := Lib.hid (H2.out.keep HS2.out)
  clear mk hs0 HS0 hs1 HS1 hs2 HS2  p2 q2
  go_wp2_with fail
  refine bodyPost_ret (results_box2 rfl _ _ (w.heap.size + 1 + 1) 24 _ _ _ rfl (K2.out.set2 _ _) Tryz.underlying24 rfl (by kernel_rfl)) rfl ?_
  refine ⟨a4, c4, rfl, ?_, ?_⟩
  · exact (Hd4.out.far0 K2.out zb2 (only_setCell (only_setCell (World.grownBy.refl _ _) _) _))
  · exact (Below.setCell (Below.setCell HB.out (by simp; try omega) _) (by simp; try omega) _)
set_option maxRecDepth 100000 in
set_option maxHeartbeats 4000000 in
theorem radd_ge {x y : Int} {a1 a2 : Option Addr} {c1 c2 : Nat} {w : World} (h1 : BD G w a1 c1 x) (h2 : BD G w a2 c2 y) (hx : Sz x 549755813888) (hy : Sz y 549755813888) (hs : sg x * sg y < 0) (hle : y.natAbs ≤ x.natAbs) :
    Calls Tryz.prog 54 #[.agg #[.int .i64 (sg x), .slice a1 (ln x) c1], .agg #[.int .i64 (sg y), .slice a2 (ln y) c2]] w fun e w' => ∃ a c, e = .returned (.tuple #[.agg #[.int .i64 (sg (x + y)), .slice a (ln (x + y)) c], .int .i64 0]) ∧ BD G w' a c (x + y) ∧ Below w.heap.size w w' := by
  have HX := Lib.hid hx
  have H1 := Lib.hid h1
  have HY := Lib.hid hy
  have H2 := Lib.hid h2
  have hx0 : sg x ≠ 0 := by intro h; rw [h] at hs; simp at hs
  have hy0 : sg y ≠ 0 := by intro h; rw [h] at hs; simp at hs
  have hxy : sg x ≠ sg y := by intro h; rw [h] at hs; rcases sg_cases y with h' | h' | h' <;> rw [h'] at hs <;> simp at hs
  have t1 : (sg x == 0) = false := by rw [beq_eq_false_iff_ne]; exact hx0
  have t2 : (sg y == 0) = false := by rw [beq_eq_false_iff_ne]; exact hy0
  have t3 : (sg x == sg y) = false := by rw [beq_eq_false_iff_ne]; exact hxy
  have HLS : Hid (lessZ x y = false) := by show _ = _; rw [lessZ]; rw [decide_eq_false_iff_not]; omega
  have HLE : Hid (y.natAbs ≤ x.natAbs) := by show _ ≤ _; omega
  have HM0 : Hid (lnN (x.natAbs - y.natAbs) ≤ 8796093022208) := by show _ ≤ _; have := digs_len_mono (Nat.sub_le x.natAbs y.natAbs); unfold Sz at hx hy; unfold lnN; omega
  have hsg := sub_signs hs hle
  have HM1 : Hid (sg x * ((x.natAbs - y.natAbs : Nat) : Int) = x + y) := hsg.1
  have HM2 := Lib.hid hsg.2
  clear hx0 hy0 hxy hs hle hsg
  clear hx h1 hy h2

  go_enter Tryz.func54, Tryz.ntmps54
  go_wp2_with fail
  refine (rright_ok (x := x) (H1.out.keep (by go_grown)) (HX.out.mono (by omega))).mono ?_
  rintro e w1 ⟨rfl, hb⟩
  have hbx := bx3 w 24 24 24 #[.int .i64 (sg x), .slice a1 (ln x) c1] #[.int .i64 (sg y), .slice a2 (ln y) c2] #[.int .i64 0, .slice none 0 0]
  obtain ⟨k0, k1, k2⟩ := hbx
  have K0 := Lib.hid (k0.keep hb)
  have K1 := Lib.hid (k1.keep hb)
  have K2 := Lib.hid (k2.keep hb)
  clear k0 k1 k2
  have hb' : Below w.heap.size w w1 := below_call (by go_grown) hb
  have HB := Lib.hid hb'
  replace H1 := Lib.hid (H1.out.keep hb')
  replace H2 := Lib.hid (H2.out.keep hb')
  clear hb hb'
  refine K0.out.w2 fun aa ab ac ad z0 => ?_
  refine K1.out.w2 fun ae af ag ah z1 => ?_
  refine K2.out.w2 fun ai aj ak al z2 => ?_
  go_wp2_with fail
  refine (rright_ok (x := y) (H2.out.keep (by go_grown)) (HY.out.mono (by omega))).mono ?_
  rintro e w2 ⟨rfl, hb⟩
  clear aa ab ac ad z0 ae af ag ah z1 ai aj ak al z2
  have hb' := below_call (w1 := w1) (by go_grown) hb
  replace K0 := Lib.hid (K0.out.keep hb')
  replace K1 := Lib.hid (K1.out.keep hb')
  replace K2 := Lib.hid (K2.out.keep hb')
  replace HB := Lib.hid (below_call HB.out hb')
  replace H1 := Lib.hid (H1.out.keep hb')
  replace H2 := Lib.hid (H2.out.keep hb')
  clear hb hb'
  refine K0.out.w2 fun aa ab ac ad z0 => ?_
  refine K1.out.w2 fun ae af ag ah z1 => ?_
  refine K2.out.w2 fun ai aj ak al z2 => ?_
  go_wp2_with fail
  refine (less_is (H1.out.keep (by go_grown)) (H2.out.keep (by go_grown)) HX.out HY.out).mono ?_
  rintro e w3 ⟨rfl, hb⟩
  clear aa ab ac ad z0 ae af ag ah z1 ai aj ak al z2
  have hb' := below_call (w1 := w2) (by go_grown) hb
  replace K0 := Lib.hid (K0.out.keep hb')
  replace K1 := Lib.hid (K1.out.keep hb')
  replace K2 := Lib.hid (K2.out.keep hb')
  replace HB := Lib.hid (below_call HB.out hb')
  replace H1 := Lib.hid (H1.out.keep hb')
  replace H2 := Lib.hid (H2.out.keep hb')
  clear hb hb'
  refine K0.out.w2 fun aa ab ac ad z0 => ?_
  refine K1.out.w2 fun ae af ag ah z1 => ?_
  refine K2.out.w2 fun ai aj ak al z2 => ?_
  rw [HLS.out]
  go_wp2_with fail
  clear aa ab ac ad z0 ae af ag ah z1 ai aj ak al z2
  have mk : Hid (∀ w', w3.grownBy w' (some (w.heap.size + 1 + 1)) → w'.cell? ⟨w.heap.size, 0, none⟩ = some (.int .i64 (sg x)) ∧ w'.cell? ⟨w.heap.size, 1, none⟩ = some (.slice a1 (ln x) c1) ∧ w'.cell? ⟨w.heap.size + 1, 0, none⟩ = some (.int .i64 (sg y)) ∧ w'.cell? ⟨w.heap.size + 1, 1, none⟩ = some (.slice a2 (ln y) c2) ∧ w3.grownBy w' (some (w.heap.size + 1 + 1))) := fun w' h => ((K0.out.only h (by omega)).t2 ((K1.out.only h (by omega)).t2 (h)))
  have hs0 : w3.grownBy w3.drew (some (w.heap.size + 1 + 1)) := only_start _ _
  have HS0 : Hid (Below w3.heap.size w3 w3.drew) := (Below.refl _ _).drew
  have tok0 : True := trivial
  have tok1 : True := trivial
  go_region_held3 (fun w' => w'.cell? ⟨w.heap.size, 0, none⟩ = some (.int .i64 (sg x)) ∧ w'.cell? ⟨w.heap.size, 1, none⟩ = some (.slice a1 (ln x) c1) ∧ w'.cell? ⟨w.heap.size + 1, 0, none⟩ = some (.int .i64 (sg y)) ∧ w'.cell? ⟨w.heap.size + 1, 1, none⟩ = some (.slice a2 (ln y) c2) ∧ w3.grownBy w' (some (w.heap.size + 1 + 1)))
    (first | exact mk.out _ (by assumption) | exact mk.out _ (only_setCell (only_setCell (by assumption) _) _) | exact mk.out _ (only_alloc (by assumption) _))
    (first
      | (go_at_call 87; have _t := tok0; refine (minus_is (H1.out.keep HS0.out) (H2.out.keep HS0.out) HX.out HLE.out).mono ?_; rintro e w4 ⟨a3, c3, rfl, ho3, hb⟩; clear tok0 _t; have hs1 := only_call hs0 hb; have HS1 := Lib.hid (below_call HS0.out hb); clear hb; have Ho3 := Lib.hid ho3; clear ho3)
      | (go_at_call 83; have _t := tok1; refine (made_own (G := G) (z := x + y) Ho3.out HM0.out HM1.out (fun _ => HM2.out)).mono ?_; rintro e w5 ⟨a4, c4, rfl, hd4, hb⟩; clear tok1 _t; have hs2 := only_call hs1 hb; have HS2 := Lib.hid (below_call HS1.out hb); have Ho3 := Lib.hid (Ho3.out.keep hb); clear hb; have Hd4 := Lib.hid hd4; clear hd4; obtain ⟨p2, q2⟩ := (K2.out.keep HS2.out).at))
  replace K0 := Lib.hid (K0.out.keep HS2.out)
  replace K1 := Lib.hid (K1.out.keep HS2.out)
  replace K2 := Lib.hid (K2.out.keep HS2.out)
  replace HB := Lib.hid (below_call HB.out HS2.out)
  replace H1 := Lib.hid (H1.out.keep HS2.out)
  replace H2 := Lib.hid (H2.out.keep HS2.out)
  clear mk hs0 HS0 hs1 HS1 hs2 HS2  p2 q2
  go_wp2_with fail
  refine bodyPost_ret (results_box2 rfl _ _ (w.heap.size + 1 + 1) 24 _ _ _ rfl (K2.out.set2 _ _) Tryz.underlying24 rfl (by kernel_rfl)) rfl ?_
  refine ⟨a4, c4, rfl, ?_, ?_⟩
  · exact (Hd4.out.far0 K2.out zb2 (only_setCell (only_setCell (World.grownBy.refl _ _) _) _))
  · exact (Below.setCell (Below.setCell HB.out (by simp; try omega) _) (by simp; try omega) _)
theorem radd_ok {x y : Int} {a1 a2 : Option Addr} {c1 c2 : Nat} {w : World} (h1 : BD G w a1 c1 x) (h2 : BD G w a2 c2 y) (hx : Sz x 549755813888) (hy : Sz y 549755813888) :
    Calls Tryz.prog 54 #[.agg #[.int .i64 (sg x), .slice a1 (ln x) c1], .agg #[.int .i64 (sg y), .slice a2 (ln y) c2]] w fun e w' => ∃ a c, e = .returned (.tuple #[.agg #[.int .i64 (sg (x + y)), .slice a (ln (x + y)) c], .int .i64 0]) ∧ BD G w' a c (x + y) ∧ Below w.heap.size w w' := by
  by_cases h : sg x * sg y < 0
  · rcases Nat.lt_or_ge x.natAbs y.natAbs with h' | h'
    · exact radd_lt h1 h2 hx hy h h'
    · exact radd_ge h1 h2 hx hy h h'
  · by_cases hx0 : sg x = 0
    · exact radd_x0 h1 h2 hx hy hx0
    · by_cases hy0 : sg y = 0
      · exact radd_y0 h1 h2 hx hy ⟨hx0, hy0⟩
      · refine radd_eq h1 h2 hx hy ⟨hx0, hy0, ?_⟩
        rcases sg_cases x with h3 | h3 | h3 <;> rcases sg_cases y with h4 | h4 | h4 <;> rw [h3, h4] at h <;> omega
end Go.Proofs.YtcfmakpckdicjaaGreatDoor
namespace Go.Proofs.YtcfmakpckdicjaaGreatDoor
open Go.RowKit
variable {G : Nat}

theorem over_nat {m n : Nat} {a1 a2 : Option Addr} {c1 c2 : Nat} {w : World} (h1 : RdN w (.slice a1 (lnN m) c1) (digs m)) (h2 : RdN w (.slice a2 (lnN n) c2) (digs n)) (hm : lnN m ≤ 549755813888) (hn : lnN n ≤ 549755813888) (h0 : n ≠ 0) {q r : Nat} (hq : m / n = q) (hr : m % n = r) :
  Calls Tryz.prog 94 #[.slice a1 (lnN m) c1, .slice a2 (lnN n) c2] w fun e w' => ∃ a c b d, e = .returned (.tuple #[.slice a (lnN q) c, .slice b (lnN r) d]) ∧ OwnN w' w.heap.size (.slice a (lnN q) c) (digs q) ∧ OwnN w' w.heap.size (.slice b (lnN r) d) (digs r) ∧ Below w.heap.size w w' := by
 have h3 := over_ok _ _ (digs m) n w h1 h2 (digs_small _) (by omega) hm hn
 rw [val_digs, hq, hr] at h3
 exact h3.mono fun e w' ⟨v, r', he, h3, h4, hb⟩ => by
  obtain ⟨a, c, rfl⟩ := h3.slice
  obtain ⟨b, d, rfl⟩ := h4.slice
  exact ⟨a, c, b, d, he, h3, h4, hb⟩
theorem ord_ref {x y : Int} (hs : sg x = sg y) (hne : x ≠ y) : ord x y = if lessZ x y = decide (0 < sg x) then -1 else 1 := by
  rcases Int.lt_trichotomy x 0 with hx | hx | hx
  · rw [sg_neg hx] at *
    rcases Int.lt_trichotomy y 0 with hy | hy | hy
    · rw [show decide ((0 : Int) < -1) = false from rfl]
      unfold lessZ
      by_cases h : x.natAbs < y.natAbs
      · rw [decide_eq_true h, if_neg (by simp), ord_gt (by omega)]
      · rw [decide_eq_false h, if_pos rfl, ord_lt (by omega)]
    · rw [sg_zero' hy] at hs; omega
    · rw [sg_pos hy] at hs; omega
  · rw [sg_zero' hx] at hs
    rcases Int.lt_trichotomy y 0 with hy | hy | hy
    · rw [sg_neg hy] at hs; omega
    · omega
    · rw [sg_pos hy] at hs; omega
  · rw [sg_pos hx] at *
    rcases Int.lt_trichotomy y 0 with hy | hy | hy
    · rw [sg_neg hy] at hs; omega
    · rw [sg_zero' hy] at hs; omega
    · rw [show decide ((0 : Int) < 1) = true from rfl]
      unfold lessZ
      by_cases h : x.natAbs < y.natAbs
      · rw [decide_eq_true h, if_pos rfl, ord_lt (by omega)]
      · rw [decide_eq_false h, if_neg (by simp), ord_gt (by omega)]
theorem ord_sign {x y : Int} (h : sg x ≠ sg y) : ord x y = if sg x < sg y then -1 else 1 := by
  rw [← ord_signs h]
  unfold ord
  by_cases h1 : sg x < sg y
  · rw [if_pos h1, if_pos h1]
  · rw [if_neg h1, if_neg h1, if_pos (by omega)]
set_option maxRecDepth 100000 in
set_option maxHeartbeats 4000000 in
theorem rcompare_eq {x y : Int} {a1 a2 : Option Addr} {c1 c2 : Nat} {w : World} (h1 : BD G w a1 c1 x) (h2 : BD G w a2 c2 y) (hx : Sz x 549755813888) (hy : Sz y 549755813888) (hc : x = y) :
  Calls Tryz.prog 68 #[.agg #[.int .i64 (sg x), .slice a1 (ln x) c1], .agg #[.int .i64 (sg y), .slice a2 (ln y) c2]] w fun e w' => e = .returned (.int .i64 (ord x y)) ∧ Below w.heap.size w w' := by
 have HX := Lib.hid hx
 have H1 := Lib.hid h1
 have HY := Lib.hid hy
 have H2 := Lib.hid h2
 have HEQ : Hid (eqZ x y = true) := by show _ = _; rw [eqZ, decide_eq_true_eq]; exact hc
 have HO : Hid (0 = ord x y) := by show _ = _; rw [hc, ord_eq]
 clear hc
 clear hx h1 hy h2

 go_enter Tryz.func68, Tryz.ntmps68
 go_wp2_with fail
 refine (rright_ok (x := x) (H1.out.keep (by go_grown)) (HX.out.mono (by omega))).mono ?_
 rintro e w1 ⟨rfl, hb⟩
 have hbx := bx2 w 24 24 #[.int .i64 (sg x), .slice a1 (ln x) c1] #[.int .i64 (sg y), .slice a2 (ln y) c2]
 obtain ⟨k0, k1⟩ := hbx
 have K0 := Lib.hid (k0.keep hb)
 have K1 := Lib.hid (k1.keep hb)
 clear k0 k1
 have hb' : Below w.heap.size w w1 := below_call (by go_grown) hb
 have HB := Lib.hid hb'
 replace H1 := Lib.hid (H1.out.keep hb')
 replace H2 := Lib.hid (H2.out.keep hb')
 clear hb hb'
 refine K0.out.w2 fun aa ab ac ad z0 => ?_
 refine K1.out.w2 fun ae af ag ah z1 => ?_
 go_wp2_with fail
 refine (rright_ok (x := y) (H2.out.keep (by go_grown)) (HY.out.mono (by omega))).mono ?_
 rintro e w2 ⟨rfl, hb⟩
 clear aa ab ac ad z0 ae af ag ah z1
 have hb' := below_call (w1 := w1) (by go_grown) hb
 replace K0 := Lib.hid (K0.out.keep hb')
 replace K1 := Lib.hid (K1.out.keep hb')
 replace HB := Lib.hid (below_call HB.out hb')
 replace H1 := Lib.hid (H1.out.keep hb')
 replace H2 := Lib.hid (H2.out.keep hb')
 clear hb hb'
 refine K0.out.w2 fun aa ab ac ad z0 => ?_
 refine K1.out.w2 fun ae af ag ah z1 => ?_
 go_wp2_with fail
 refine (rsame_ok (H1.out.keep (by go_grown)) (H2.out.keep (by go_grown)) (HX.out.mono (by omega)) (HY.out.mono (by omega))).mono ?_
 rintro e w3 ⟨rfl, hb⟩
 clear aa ab ac ad z0 ae af ag ah z1
 have hb' := below_call (w1 := w2) (by go_grown) hb
 replace K0 := Lib.hid (K0.out.keep hb')
 replace K1 := Lib.hid (K1.out.keep hb')
 replace HB := Lib.hid (below_call HB.out hb')
 replace H1 := Lib.hid (H1.out.keep hb')
 replace H2 := Lib.hid (H2.out.keep hb')
 clear hb hb'
 refine K0.out.w2 fun aa ab ac ad z0 => ?_
 refine K1.out.w2 fun ae af ag ah z1 => ?_
 rw [HEQ.out]
 go_wp2_with fail
 go_ret
 exact ⟨ret_int HO.out, HB.out⟩
set_option maxRecDepth 100000 in
set_option maxHeartbeats 4000000 in
theorem rcompare_slt {x y : Int} {a1 a2 : Option Addr} {c1 c2 : Nat} {w : World} (h1 : BD G w a1 c1 x) (h2 : BD G w a2 c2 y) (hx : Sz x 549755813888) (hy : Sz y 549755813888) (hc : sg x < sg y) :
  Calls Tryz.prog 68 #[.agg #[.int .i64 (sg x), .slice a1 (ln x) c1], .agg #[.int .i64 (sg y), .slice a2 (ln y) c2]] w fun e w' => e = .returned (.int .i64 (ord x y)) ∧ Below w.heap.size w w' := by
 have HX := Lib.hid hx
 have H1 := Lib.hid h1
 have HY := Lib.hid hy
 have H2 := Lib.hid h2
 have HEQ : Hid (eqZ x y = false) := eqZ_sign (by omega)
 have HO : Hid (-1 = ord x y) := by show _ = _; rw [ord_sign (by omega)]; rw [if_pos hc]
 have t1 : (sg x != sg y) = true := by rw [bne_iff_ne]; omega
 have t2 : decide (sg x < sg y) = true := by rw [decide_eq_true_eq]; exact hc
 clear hc
 clear hx h1 hy h2

 go_enter Tryz.func68, Tryz.ntmps68
 go_wp2_with fail
 refine (rright_ok (x := x) (H1.out.keep (by go_grown)) (HX.out.mono (by omega))).mono ?_
 rintro e w1 ⟨rfl, hb⟩
 have hbx := bx2 w 24 24 #[.int .i64 (sg x), .slice a1 (ln x) c1] #[.int .i64 (sg y), .slice a2 (ln y) c2]
 obtain ⟨k0, k1⟩ := hbx
 have K0 := Lib.hid (k0.keep hb)
 have K1 := Lib.hid (k1.keep hb)
 clear k0 k1
 have hb' : Below w.heap.size w w1 := below_call (by go_grown) hb
 have HB := Lib.hid hb'
 replace H1 := Lib.hid (H1.out.keep hb')
 replace H2 := Lib.hid (H2.out.keep hb')
 clear hb hb'
 refine K0.out.w2 fun aa ab ac ad z0 => ?_
 refine K1.out.w2 fun ae af ag ah z1 => ?_
 go_wp2_with fail
 refine (rright_ok (x := y) (H2.out.keep (by go_grown)) (HY.out.mono (by omega))).mono ?_
 rintro e w2 ⟨rfl, hb⟩
 clear aa ab ac ad z0 ae af ag ah z1
 have hb' := below_call (w1 := w1) (by go_grown) hb
 replace K0 := Lib.hid (K0.out.keep hb')
 replace K1 := Lib.hid (K1.out.keep hb')
 replace HB := Lib.hid (below_call HB.out hb')
 replace H1 := Lib.hid (H1.out.keep hb')
 replace H2 := Lib.hid (H2.out.keep hb')
 clear hb hb'
 refine K0.out.w2 fun aa ab ac ad z0 => ?_
 refine K1.out.w2 fun ae af ag ah z1 => ?_
 go_wp2_with fail
 refine (rsame_ok (H1.out.keep (by go_grown)) (H2.out.keep (by go_grown)) (HX.out.mono (by omega)) (HY.out.mono (by omega))).mono ?_
 rintro e w3 ⟨rfl, hb⟩
 clear aa ab ac ad z0 ae af ag ah z1
 have hb' := below_call (w1 := w2) (by go_grown) hb
 replace K0 := Lib.hid (K0.out.keep hb')
 replace K1 := Lib.hid (K1.out.keep hb')
 replace HB := Lib.hid (below_call HB.out hb')
 replace H1 := Lib.hid (H1.out.keep hb')
 replace H2 := Lib.hid (H2.out.keep hb')
 clear hb hb'
 refine K0.out.w2 fun aa ab ac ad z0 => ?_
 refine K1.out.w2 fun ae af ag ah z1 => ?_
 rw [HEQ.out]
 go_wp2_with fail
 go_ret
 exact ⟨ret_int HO.out, HB.out⟩
set_option maxRecDepth 100000 in
set_option maxHeartbeats 4000000 in
theorem rcompare_sgt {x y : Int} {a1 a2 : Option Addr} {c1 c2 : Nat} {w : World} (h1 : BD G w a1 c1 x) (h2 : BD G w a2 c2 y) (hx : Sz x 549755813888) (hy : Sz y 549755813888) (hc : sg y < sg x) :
  Calls Tryz.prog 68 #[.agg #[.int .i64 (sg x), .slice a1 (ln x) c1], .agg #[.int .i64 (sg y), .slice a2 (ln y) c2]] w fun e w' => e = .returned (.int .i64 (ord x y)) ∧ Below w.heap.size w w' := by
 have HX := Lib.hid hx
 have H1 := Lib.hid h1
 have HY := Lib.hid hy
 have H2 := Lib.hid h2
 have HEQ : Hid (eqZ x y = false) := eqZ_sign (by omega)
 have HO : Hid (1 = ord x y) := by show _ = _; rw [ord_sign (by omega)]; rw [if_neg (by omega)]
 have t1 : (sg x != sg y) = true := by rw [bne_iff_ne]; omega
 have t2 : decide (sg x < sg y) = false := by rw [decide_eq_false_iff_not]; omega
 clear hc
 clear hx h1 hy h2

 go_enter Tryz.func68, Tryz.ntmps68
 go_wp2_with fail
 refine (rright_ok (x := x) (H1.out.keep (by go_grown)) (HX.out.mono (by omega))).mono ?_
 rintro e w1 ⟨rfl, hb⟩
 have hbx := bx2 w 24 24 #[.int .i64 (sg x), .slice a1 (ln x) c1] #[.int .i64 (sg y), .slice a2 (ln y) c2]
 obtain ⟨k0, k1⟩ := hbx
 have K0 := Lib.hid (k0.keep hb)
 have K1 := Lib.hid (k1.keep hb)
 clear k0 k1
 have hb' : Below w.heap.size w w1 := below_call (by go_grown) hb
 have HB := Lib.hid hb'
 replace H1 := Lib.hid (H1.out.keep hb')
 replace H2 := Lib.hid (H2.out.keep hb')
 clear hb hb'
 refine K0.out.w2 fun aa ab ac ad z0 => ?_
 refine K1.out.w2 fun ae af ag ah z1 => ?_
 go_wp2_with fail
 refine (rright_ok (x := y) (H2.out.keep (by go_grown)) (HY.out.mono (by omega))).mono ?_
 rintro e w2 ⟨rfl, hb⟩
 clear aa ab ac ad z0 ae af ag ah z1
 have hb' := below_call (w1 := w1) (by go_grown) hb
 replace K0 := Lib.hid (K0.out.keep hb')
 replace K1 := Lib.hid (K1.out.keep hb')
 replace HB := Lib.hid (below_call HB.out hb')
 replace H1 := Lib.hid (H1.out.keep hb')
 replace H2 := Lib.hid (H2.out.keep hb')
 clear hb hb'
 refine K0.out.w2 fun aa ab ac ad z0 => ?_
 refine K1.out.w2 fun ae af ag ah z1 => ?_
 go_wp2_with fail
 refine (rsame_ok (H1.out.keep (by go_grown)) (H2.out.keep (by go_grown)) (HX.out.mono (by omega)) (HY.out.mono (by omega))).mono ?_
 rintro e w3 ⟨rfl, hb⟩
 clear aa ab ac ad z0 ae af ag ah z1
 have hb' := below_call (w1 := w2) (by go_grown) hb
 replace K0 := Lib.hid (K0.out.keep hb')
 replace K1 := Lib.hid (K1.out.keep hb')
 replace HB := Lib.hid (below_call HB.out hb')
 replace H1 := Lib.hid (H1.out.keep hb')
 replace H2 := Lib.hid (H2.out.keep hb')
 clear hb hb'
 refine K0.out.w2 fun aa ab ac ad z0 => ?_
 refine K1.out.w2 fun ae af ag ah z1 => ?_
 rw [HEQ.out]
 go_wp2_with fail
 go_ret
 exact ⟨ret_int HO.out, HB.out⟩
set_option maxRecDepth 100000 in
set_option maxHeartbeats 4000000 in
theorem rcompare_llt {x y : Int} {a1 a2 : Option Addr} {c1 c2 : Nat} {w : World} (h1 : BD G w a1 c1 x) (h2 : BD G w a2 c2 y) (hx : Sz x 549755813888) (hy : Sz y 549755813888) (hs : sg x = sg y) (hne : x ≠ y) (hc : lessZ x y = decide (0 < sg x)) :
  Calls Tryz.prog 68 #[.agg #[.int .i64 (sg x), .slice a1 (ln x) c1], .agg #[.int .i64 (sg y), .slice a2 (ln y) c2]] w fun e w' => e = .returned (.int .i64 (ord x y)) ∧ Below w.heap.size w w' := by
 have HX := Lib.hid hx
 have H1 := Lib.hid h1
 have HY := Lib.hid hy
 have H2 := Lib.hid h2
 have HEQ : Hid (eqZ x y = false) := by show _ = _; rw [eqZ, decide_eq_false_iff_not]; exact hne
 have HO : Hid (-1 = ord x y) := by show _ = _; rw [ord_ref hs hne]; rw [if_pos hc]
 have t1 : (sg x != sg y) = false := by rw [hs]; simp
 obtain ⟨b1, hb1⟩ : ∃ b, b = lessZ x y := ⟨_, rfl⟩
 obtain ⟨b2, hb2⟩ : ∃ b, b = decide (0 < sg x) := ⟨_, rfl⟩
 have HB1 := Lib.hid hb1
 have t2 : decide (0 < sg x) = b2 := hb2.symm
 have t3 : (b1 == b2) = true := by rw [hb1, hb2]; rw [beq_iff_eq]; exact hc
 clear hc hs hne hb1 hb2
 clear hx h1 hy h2

 go_enter Tryz.func68, Tryz.ntmps68
 go_wp2_with fail
 refine (rright_ok (x := x) (H1.out.keep (by go_grown)) (HX.out.mono (by omega))).mono ?_
 rintro e w1 ⟨rfl, hb⟩
 have hbx := bx2 w 24 24 #[.int .i64 (sg x), .slice a1 (ln x) c1] #[.int .i64 (sg y), .slice a2 (ln y) c2]
 obtain ⟨k0, k1⟩ := hbx
 have K0 := Lib.hid (k0.keep hb)
 have K1 := Lib.hid (k1.keep hb)
 clear k0 k1
 have hb' : Below w.heap.size w w1 := below_call (by go_grown) hb
 have HB := Lib.hid hb'
 replace H1 := Lib.hid (H1.out.keep hb')
 replace H2 := Lib.hid (H2.out.keep hb')
 clear hb hb'
 refine K0.out.w2 fun aa ab ac ad z0 => ?_
 refine K1.out.w2 fun ae af ag ah z1 => ?_
 go_wp2_with fail
 refine (rright_ok (x := y) (H2.out.keep (by go_grown)) (HY.out.mono (by omega))).mono ?_
 rintro e w2 ⟨rfl, hb⟩
 clear aa ab ac ad z0 ae af ag ah z1
 have hb' := below_call (w1 := w1) (by go_grown) hb
 replace K0 := Lib.hid (K0.out.keep hb')
 replace K1 := Lib.hid (K1.out.keep hb')
 replace HB := Lib.hid (below_call HB.out hb')
 replace H1 := Lib.hid (H1.out.keep hb')
 replace H2 := Lib.hid (H2.out.keep hb')
 clear hb hb'
 refine K0.out.w2 fun aa ab ac ad z0 => ?_
 refine K1.out.w2 fun ae af ag ah z1 => ?_
 go_wp2_with fail
 refine (rsame_ok (H1.out.keep (by go_grown)) (H2.out.keep (by go_grown)) (HX.out.mono (by omega)) (HY.out.mono (by omega))).mono ?_
 rintro e w3 ⟨rfl, hb⟩
 clear aa ab ac ad z0 ae af ag ah z1
 have hb' := below_call (w1 := w2) (by go_grown) hb
 replace K0 := Lib.hid (K0.out.keep hb')
 replace K1 := Lib.hid (K1.out.keep hb')
 replace HB := Lib.hid (below_call HB.out hb')
 replace H1 := Lib.hid (H1.out.keep hb')
 replace H2 := Lib.hid (H2.out.keep hb')
 clear hb hb'
 refine K0.out.w2 fun aa ab ac ad z0 => ?_
 refine K1.out.w2 fun ae af ag ah z1 => ?_
 rw [HEQ.out]
 go_wp2_with fail
 clear aa ab ac ad z0 ae af ag ah z1
 have mk : Hid (∀ w', Below w3.heap.size w3 w' → w'.cell? ⟨w.heap.size, 0, none⟩ = some (.int .i64 (sg x)) ∧ w'.cell? ⟨w.heap.size, 1, none⟩ = some (.slice a1 (ln x) c1) ∧ w'.cell? ⟨w.heap.size + 1, 0, none⟩ = some (.int .i64 (sg y)) ∧ w'.cell? ⟨w.heap.size + 1, 1, none⟩ = some (.slice a2 (ln y) c2) ∧ Below w3.heap.size w3 w') := fun w' h => ((K0.out.keep h).t2 ((K1.out.keep h).t2 (h)))
 have hs0 : Below w3.heap.size w3 w3.drew := (Below.refl _ _).drew
 have HS0 : Hid (Below w3.heap.size w3 w3.drew) := (Below.refl _ _).drew
 have tok0 : True := trivial
 go_region_held3 (fun w' => w'.cell? ⟨w.heap.size, 0, none⟩ = some (.int .i64 (sg x)) ∧ w'.cell? ⟨w.heap.size, 1, none⟩ = some (.slice a1 (ln x) c1) ∧ w'.cell? ⟨w.heap.size + 1, 0, none⟩ = some (.int .i64 (sg y)) ∧ w'.cell? ⟨w.heap.size + 1, 1, none⟩ = some (.slice a2 (ln y) c2) ∧ Below w3.heap.size w3 w')
  (first | exact mk.out _ (by assumption) | exact mk.out _ (Below.alloc (by assumption) (Below.size (by assumption)) _))
  (first
   | (go_at_call 86; have _t := tok0; refine (less_is (H1.out.keep HS0.out) (H2.out.keep HS0.out) (HX.out.mono (by omega)) (HY.out.mono (by omega))).mono ?_; rintro e w4 ⟨rfl, hb⟩; clear tok0 _t; have hs1 := below_call hs0 hb; have HS1 := Lib.hid (below_call HS0.out hb); clear hb))
 replace K0 := Lib.hid (K0.out.keep HS1.out)
 replace K1 := Lib.hid (K1.out.keep HS1.out)
 replace HB := Lib.hid (below_call HB.out HS1.out)
 replace H1 := Lib.hid (H1.out.keep HS1.out)
 replace H2 := Lib.hid (H2.out.keep HS1.out)
 clear mk hs0 HS0 hs1 HS1
 rw [← HB1.out]
 go_wp2_with fail
 any_goals (exfalso; rename_i hh; rw [t3] at hh; exact Bool.noConfusion hh)
 go_ret
 exact ⟨ret_int HO.out, HB.out⟩
set_option maxRecDepth 100000 in
set_option maxHeartbeats 4000000 in
theorem rcompare_lgt {x y : Int} {a1 a2 : Option Addr} {c1 c2 : Nat} {w : World} (h1 : BD G w a1 c1 x) (h2 : BD G w a2 c2 y) (hx : Sz x 549755813888) (hy : Sz y 549755813888) (hs : sg x = sg y) (hne : x ≠ y) (hc : lessZ x y ≠ decide (0 < sg x)) :
  Calls Tryz.prog 68 #[.agg #[.int .i64 (sg x), .slice a1 (ln x) c1], .agg #[.int .i64 (sg y), .slice a2 (ln y) c2]] w fun e w' => e = .returned (.int .i64 (ord x y)) ∧ Below w.heap.size w w' := by
 have HX := Lib.hid hx
 have H1 := Lib.hid h1
 have HY := Lib.hid hy
 have H2 := Lib.hid h2
 have HEQ : Hid (eqZ x y = false) := by show _ = _; rw [eqZ, decide_eq_false_iff_not]; exact hne
 have HO : Hid (1 = ord x y) := by show _ = _; rw [ord_ref hs hne]; rw [if_neg hc]
 have t1 : (sg x != sg y) = false := by rw [hs]; simp
 obtain ⟨b1, hb1⟩ : ∃ b, b = lessZ x y := ⟨_, rfl⟩
 obtain ⟨b2, hb2⟩ : ∃ b, b = decide (0 < sg x) := ⟨_, rfl⟩
 have HB1 := Lib.hid hb1
 have t2 : decide (0 < sg x) = b2 := hb2.symm
 have t3 : (b1 == b2) = false := by rw [hb1, hb2]; rw [beq_eq_false_iff_ne]; exact hc
 clear hc hs hne hb1 hb2
 clear hx h1 hy h2

 go_enter Tryz.func68, Tryz.ntmps68
 go_wp2_with fail
 refine (rright_ok (x := x) (H1.out.keep (by go_grown)) (HX.out.mono (by omega))).mono ?_
 rintro e w1 ⟨rfl, hb⟩
 have hbx := bx2 w 24 24 #[.int .i64 (sg x), .slice a1 (ln x) c1] #[.int .i64 (sg y), .slice a2 (ln y) c2]
 obtain ⟨k0, k1⟩ := hbx
 have K0 := Lib.hid (k0.keep hb)
 have K1 := Lib.hid (k1.keep hb)
 clear k0 k1
 have hb' : Below w.heap.size w w1 := below_call (by go_grown) hb
 have HB := Lib.hid hb'
 replace H1 := Lib.hid (H1.out.keep hb')
 replace H2 := Lib.hid (H2.out.keep hb')
 clear hb hb'
 refine K0.out.w2 fun aa ab ac ad z0 => ?_
 refine K1.out.w2 fun ae af ag ah z1 => ?_
 go_wp2_with fail
 refine (rright_ok (x := y) (H2.out.keep (by go_grown)) (HY.out.mono (by omega))).mono ?_
 rintro e w2 ⟨rfl, hb⟩
 clear aa ab ac ad z0 ae af ag ah z1
 have hb' := below_call (w1 := w1) (by go_grown) hb
 replace K0 := Lib.hid (K0.out.keep hb')
 replace K1 := Lib.hid (K1.out.keep hb')
 replace HB := Lib.hid (below_call HB.out hb')
 replace H1 := Lib.hid (H1.out.keep hb')
 replace H2 := Lib.hid (H2.out.keep hb')
 clear hb hb'
 refine K0.out.w2 fun aa ab ac ad z0 => ?_
 refine K1.out.w2 fun ae af ag ah z1 => ?_
 go_wp2_with fail
 refine (rsame_ok (H1.out.keep (by go_grown)) (H2.out.keep (by go_grown)) (HX.out.mono (by omega)) (HY.out.mono (by omega))).mono ?_
 rintro e w3 ⟨rfl, hb⟩
 clear aa ab ac ad z0 ae af ag ah z1
 have hb' := below_call (w1 := w2) (by go_grown) hb
 replace K0 := Lib.hid (K0.out.keep hb')
 replace K1 := Lib.hid (K1.out.keep hb')
 replace HB := Lib.hid (below_call HB.out hb')
 replace H1 := Lib.hid (H1.out.keep hb')
 replace H2 := Lib.hid (H2.out.keep hb')
 clear hb hb'
 refine K0.out.w2 fun aa ab ac ad z0 => ?_
 refine K1.out.w2 fun ae af ag ah z1 => ?_
 rw [HEQ.out]
 go_wp2_with fail
 clear aa ab ac ad z0 ae af ag ah z1
 have mk : Hid (∀ w', Below w3.heap.size w3 w' → w'.cell? ⟨w.heap.size, 0, none⟩ = some (.int .i64 (sg x)) ∧ w'.cell? ⟨w.heap.size, 1, none⟩ = some (.slice a1 (ln x) c1) ∧ w'.cell? ⟨w.heap.size + 1, 0, none⟩ = some (.int .i64 (sg y)) ∧ w'.cell? ⟨w.heap.size + 1, 1, none⟩ = some (.slice a2 (ln y) c2) ∧ Below w3.heap.size w3 w') := fun w' h => ((K0.out.keep h).t2 ((K1.out.keep h).t2 (h)))
 have hs0 : Below w3.heap.size w3 w3.drew := (Below.refl _ _).drew
 have HS0 : Hid (Below w3.heap.size w3 w3.drew) := (Below.refl _ _).drew
 have tok0 : True := trivial
 go_region_held3 (fun w' => w'.cell? ⟨w.heap.size, 0, none⟩ = some (.int .i64 (sg x)) ∧ w'.cell? ⟨w.heap.size, 1, none⟩ = some (.slice a1 (ln x) c1) ∧ w'.cell? ⟨w.heap.size + 1, 0, none⟩ = some (.int .i64 (sg y)) ∧ w'.cell? ⟨w.heap.size + 1, 1, none⟩ = some (.slice a2 (ln y) c2) ∧ Below w3.heap.size w3 w')
  (first | exact mk.out _ (by assumption) | exact mk.out _ (Below.alloc (by assumption) (Below.size (by assumption)) _))
  (first
   | (go_at_call 86; have _t := tok0; refine (less_is (H1.out.keep HS0.out) (H2.out.keep HS0.out) (HX.out.mono (by omega)) (HY.out.mono (by omega))).mono ?_; rintro e w4 ⟨rfl, hb⟩; clear tok0 _t; have hs1 := below_call hs0 hb; have HS1 := Lib.hid (below_call HS0.out hb); clear hb))
 replace K0 := Lib.hid (K0.out.keep HS1.out)
 replace K1 := Lib.hid (K1.out.keep HS1.out)
 replace HB := Lib.hid (below_call HB.out HS1.out)
 replace H1 := Lib.hid (H1.out.keep HS1.out)
 replace H2 := Lib.hid (H2.out.keep HS1.out)
 clear mk hs0 HS0 hs1 HS1
 rw [← HB1.out]
 go_wp2_with fail
 any_goals (exfalso; rename_i hh; rw [t3] at hh; exact Bool.noConfusion hh)
 go_ret
 exact ⟨ret_int HO.out, HB.out⟩
theorem rcompare_ok {x y : Int} {a1 a2 : Option Addr} {c1 c2 : Nat} {w : World} (h1 : BD G w a1 c1 x) (h2 : BD G w a2 c2 y) (hx : Sz x 549755813888) (hy : Sz y 549755813888) :
    Calls Tryz.prog 68 #[.agg #[.int .i64 (sg x), .slice a1 (ln x) c1], .agg #[.int .i64 (sg y), .slice a2 (ln y) c2]] w fun e w' => e = .returned (.int .i64 (ord x y)) ∧ Below w.heap.size w w' := by
  by_cases hc : x = y
  · exact rcompare_eq h1 h2 hx hy hc
  · by_cases hs : sg x = sg y
    · by_cases hl : lessZ x y = decide (0 < sg x)
      · exact rcompare_llt h1 h2 hx hy hs hc hl
      · exact rcompare_lgt h1 h2 hx hy hs hc hl
    · by_cases hl : sg x < sg y
      · exact rcompare_slt h1 h2 hx hy hl
      · exact rcompare_sgt h1 h2 hx hy (by omega)
end Go.Proofs.YtcfmakpckdicjaaGreatDoor
namespace Go.Proofs.YtcfmakpckdicjaaGreatDoor
open Go.RowKit
variable {G : Nat}

theorem radd_sub {x y : Int} {a1 a2 : Option Addr} {c1 c2 : Nat} {w : World} (h1 : BD G w a1 c1 x) (h2 : BD G w a2 c2 (-y)) (hx : Sz x 549755813888) (hy : Sz y 549755813888) :
  Calls Tryz.prog 54 #[.agg #[.int .i64 (sg x), .slice a1 (ln x) c1], .agg #[.int .i64 (sg (-y)), .slice a2 (ln (-y)) c2]] w fun e w' => ∃ a c, e = .returned (.tuple #[.agg #[.int .i64 (sg (x - y)), .slice a (ln (x - y)) c], .int .i64 0]) ∧ BD G w' a c (x - y) ∧ Below w.heap.size w w' := by
 have := radd_ok h1 h2 hx hy.neg
 rwa [show x + -y = x - y by omega] at this
set_option maxRecDepth 100000 in
set_option maxHeartbeats 4000000 in
theorem rsub_ok {x y : Int} {a1 a2 : Option Addr} {c1 c2 : Nat} {w : World} (h1 : BD G w a1 c1 x) (h2 : BD G w a2 c2 y) (hx : Sz x 549755813888) (hy : Sz y 549755813888) :
    Calls Tryz.prog 55 #[.agg #[.int .i64 (sg x), .slice a1 (ln x) c1], .agg #[.int .i64 (sg y), .slice a2 (ln y) c2]] w fun e w' => ∃ a c, e = .returned (.tuple #[.agg #[.int .i64 (sg (x - y)), .slice a (ln (x - y)) c], .int .i64 0]) ∧ BD G w' a c (x - y) ∧ Below w.heap.size w w' := by
  have HX := Lib.hid hx
  have H1 := Lib.hid h1
  have HY := Lib.hid hy
  have H2 := Lib.hid h2
  have HSB : Hid (x + -y = x - y) := by show _ = _; omega
  clear hx h1 hy h2

  go_enter Tryz.func55, Tryz.ntmps55
  go_wp2_with fail
  refine (rright_ok (x := y) (H2.out.keep (by go_grown)) (HY.out.mono (by omega))).mono ?_
  rintro e w1 ⟨rfl, hb⟩
  have hbx := bx3 w 24 24 24 #[.int .i64 (sg x), .slice a1 (ln x) c1] #[.int .i64 (sg y), .slice a2 (ln y) c2] #[.int .i64 0, .slice none 0 0]
  obtain ⟨k0, k1, k2⟩ := hbx
  have K0 := Lib.hid (k0.keep hb)
  have K1 := Lib.hid (k1.keep hb)
  have K2 := Lib.hid (k2.keep hb)
  clear k0 k1 k2
  have hb' : Below w.heap.size w w1 := below_call (by go_grown) hb
  have HB := Lib.hid hb'
  replace H1 := Lib.hid (H1.out.keep hb')
  replace H2 := Lib.hid (H2.out.keep hb')
  clear hb hb'
  refine K0.out.w2 fun aa ab ac ad z0 => ?_
  refine K1.out.w2 fun ae af ag ah z1 => ?_
  refine K2.out.w2 fun ai aj ak al z2 => ?_
  go_wp2_with fail
  clear aa ab ac ad z0 ae af ag ah z1 ai aj ak al z2
  go_upto_region 3 with fail
  go_cut [6, 7] (fun sA s7 wx => ∃ (A : Nat) (a4 : Option Addr) (c4 : Nat), sA = .pointer (some ⟨A, 0, none⟩) ∧ s7 = .int .i64 0 ∧ Hid (Bx wx A 24 #[.int .i64 (sg (x - y)), .slice a4 (ln (x - y)) c4]) ∧ Hid (Bx wx w.heap.size 24 #[.int .i64 (sg x), .slice a1 (ln x) c1]) ∧ Hid (Bx wx (w.heap.size + 1) 24 #[.int .i64 (sg y), .slice a2 (ln y) c2]) ∧ Hid (Bx wx (w.heap.size + 1 + 1) 24 #[.int .i64 0, .slice none 0 0]) ∧ Hid (BD G wx a4 c4 (x - y)) ∧ Hid (BD G wx a1 c1 x) ∧ Hid (BD G wx a2 c2 y) ∧ Hid (Below w.heap.size w wx) ∧ w.heap.size + 1 + 1 < A)
  case first =>
    have mk : Hid (∀ w', Below w1.heap.size w1 w' → w'.cell? ⟨w.heap.size, 0, none⟩ = some (.int .i64 (sg x)) ∧ w'.cell? ⟨w.heap.size, 1, none⟩ = some (.slice a1 (ln x) c1) ∧ w'.cell? ⟨w.heap.size + 1, 0, none⟩ = some (.int .i64 (sg y)) ∧ w'.cell? ⟨w.heap.size + 1, 1, none⟩ = some (.slice a2 (ln y) c2) ∧ w'.cell? ⟨w.heap.size + 1 + 1, 0, none⟩ = some (.int .i64 0) ∧ w'.cell? ⟨w.heap.size + 1 + 1, 1, none⟩ = some (.slice none 0 0) ∧ Below w1.heap.size w1 w') := fun w' h => ((K0.out.keep h).t2 ((K1.out.keep h).t2 ((K2.out.keep h).t2 (h))))
    have hs0 : Below w1.heap.size w1 w1.drew := (Below.refl _ _).drew
    have HS0 : Hid (Below w1.heap.size w1 w1.drew) := (Below.refl _ _).drew
    have tok0 : True := trivial
    have tok1 : True := trivial
    go_region_held3 (fun w' => w'.cell? ⟨w.heap.size, 0, none⟩ = some (.int .i64 (sg x)) ∧ w'.cell? ⟨w.heap.size, 1, none⟩ = some (.slice a1 (ln x) c1) ∧ w'.cell? ⟨w.heap.size + 1, 0, none⟩ = some (.int .i64 (sg y)) ∧ w'.cell? ⟨w.heap.size + 1, 1, none⟩ = some (.slice a2 (ln y) c2) ∧ w'.cell? ⟨w.heap.size + 1 + 1, 0, none⟩ = some (.int .i64 0) ∧ w'.cell? ⟨w.heap.size + 1 + 1, 1, none⟩ = some (.slice none 0 0) ∧ Below w1.heap.size w1 w')
      (first | exact mk.out _ (by assumption) | exact mk.out _ (Below.alloc (by assumption) (Below.size (by assumption)) _) | exact mk.out _ (Below.setCell (Below.setCell (by assumption) hlA _) hlA _))
      (first
        | (go_at_call 64; have _t := tok0; refine (rneg_ok (H2.out.keep (Below.alloc HS0.out (Below.size HS0.out) _)) (HY.out.mono (by omega))).mono ?_; rintro e w2 ⟨a3, c3, rfl, hd3, hb⟩; clear tok0 _t; have hlA : w1.heap.size ≤ w1.heap.size := HS0.out.size; have KP : Hid (Bx w2 w1.heap.size 24 #[.int .i64 0, .slice none 0 0]) := (Bx.new w1.drew 24 #[.int .i64 0, .slice none 0 0]).keep hb; have ne0 : w.heap.size < w1.heap.size := (K0.out.keep HS0.out).lt; have ne1 : w.heap.size + 1 < w1.heap.size := (K1.out.keep HS0.out).lt; have ne2 : w.heap.size + 1 + 1 < w1.heap.size := (K2.out.keep HS0.out).lt; have hs1 := below_call (Below.alloc hs0 (Below.size hs0) _) hb; have HS1 := Lib.hid (below_call (Below.alloc HS0.out (Below.size HS0.out) _) hb); clear hb; have Hd3 := Lib.hid hd3; clear hd3)
        | (go_at_call 64; have _t := tok0; refine (rneg_ok (H2.out.keep HS0.out) (HY.out.mono (by omega))).mono ?_; rintro e w2 ⟨a3, c3, rfl, hd3, hb⟩; clear tok0 _t; have hs1 := below_call hs0 hb; have HS1 := Lib.hid (below_call HS0.out hb); clear hb; have Hd3 := Lib.hid hd3; clear hd3)
        | (go_at_call 54; have _t := tok1; refine (radd_sub (H1.out.keep (Below.alloc HS1.out (Below.size HS1.out) _)) (Hd3.out.keep (below_alloc _ _)) (HX.out.mono (by omega)) (HY.out.mono (by omega))).mono ?_; rintro e w3 ⟨a4, c4, rfl, hd4, hb⟩; clear tok1 _t; have hlA : w1.heap.size ≤ w2.heap.size := HS1.out.size; have KP : Hid (Bx w3 w2.heap.size 24 #[.int .i64 0, .slice none 0 0]) := (Bx.new w2 24 #[.int .i64 0, .slice none 0 0]).keep hb; have ne0 : w.heap.size < w2.heap.size := (K0.out.keep HS1.out).lt; have ne1 : w.heap.size + 1 < w2.heap.size := (K1.out.keep HS1.out).lt; have ne2 : w.heap.size + 1 + 1 < w2.heap.size := (K2.out.keep HS1.out).lt; (try (obtain ⟨pA, qA⟩ := KP.out.at)); have hs2 := below_call (Below.alloc hs1 (Below.size hs1) _) hb; have HS2 := Lib.hid (below_call (Below.alloc HS1.out (Below.size HS1.out) _) hb); have Hd3 := Lib.hid (Hd3.out.keep (below_call (below_alloc _ _) hb)); clear hb; have Hd4 := Lib.hid hd4; clear hd4)
        | (go_at_call 54; have _t := tok1; refine (radd_sub (H1.out.keep HS1.out) Hd3.out (HX.out.mono (by omega)) (HY.out.mono (by omega))).mono ?_; rintro e w3 ⟨a4, c4, rfl, hd4, hb⟩; clear tok1 _t; (try (have KP := Lib.hid (KP.out.keep hb))); (try (obtain ⟨pA, qA⟩ := KP.out.at)); have hs2 := below_call hs1 hb; have HS2 := Lib.hid (below_call HS1.out hb); have Hd3 := Lib.hid (Hd3.out.keep hb); clear hb; have Hd4 := Lib.hid hd4; clear hd4))
    all_goals (go_wp2_with fail)
    all_goals go_meet
    all_goals first
      | (exact ⟨_, a4, c4, rfl, rfl, Bx.new _ _ _, (K0.out.keep HS2.out).keep (below_alloc _ _), (K1.out.keep HS2.out).keep (below_alloc _ _), (K2.out.keep HS2.out).keep (below_alloc _ _), Hd4.out.keep (below_alloc _ _), (H1.out.keep HS2.out).keep (below_alloc _ _), (H2.out.keep HS2.out).keep (below_alloc _ _), below_call HB.out (below_call HS2.out (below_alloc _ _)), (K2.out.keep HS2.out).lt⟩)
      | ((have hA : w.heap.size ≤ w1.heap.size := by (have := ne0; omega)); have og := only_setCell (o := 1) (only_setCell (o := 0) (World.grownBy.refl w3 (some w1.heap.size)) (.int .i64 (sg (x - y)))) (.slice a4 (ln (x - y)) c4); exact ⟨_, a4, c4, rfl, rfl, KP.out.set2 _ _, (K0.out.keep HS2.out).only og (by omega), (K1.out.keep HS2.out).only og (by omega), (K2.out.keep HS2.out).only og (by omega), Hd4.out.far0 KP.out zb2 og, (H1.out.keep HS2.out).far0 KP.out zb2 og, (H2.out.keep HS2.out).far0 KP.out zb2 og, (Below.setCell (Below.setCell (below_call HB.out HS2.out) hA _) hA _), ne2⟩)
      | ((have hA : w.heap.size ≤ w2.heap.size := by (have := ne0; omega)); have og := only_setCell (o := 1) (only_setCell (o := 0) (World.grownBy.refl w3 (some w2.heap.size)) (.int .i64 (sg (x - y)))) (.slice a4 (ln (x - y)) c4); exact ⟨_, a4, c4, rfl, rfl, KP.out.set2 _ _, (K0.out.keep HS2.out).only og (by omega), (K1.out.keep HS2.out).only og (by omega), (K2.out.keep HS2.out).only og (by omega), Hd4.out.far0 KP.out zb2 og, (H1.out.keep HS2.out).far0 KP.out zb2 og, (H2.out.keep HS2.out).far0 KP.out zb2 og, (Below.setCell (Below.setCell (below_call HB.out HS2.out) hA _) hA _), ne2⟩)
  case rest =>
    obtain ⟨A, a4, c4, rfl, rfl, KA, K0, K1, K2, Hd4, H1, H2, HB, hltA⟩ := hcut
    obtain ⟨w4, rfl⟩ : ∃ x, x = wc := ⟨_, rfl⟩
    have K3 := KA; clear KA
    refine K0.out.w2 fun aa ab ac ad z0 => ?_
    refine K1.out.w2 fun ae af ag ah z1 => ?_
    refine K2.out.w2 fun ai aj ak al z2 => ?_
    refine K3.out.w2 fun am ao ap aq z3 => ?_
    go_wp2_with fail
    clear aa ab ac ad z0 ae af ag ah z1 ai aj ak al z2 am ao ap aq z3
    refine bodyPost_ret (results_box2 rfl _ _ (w.heap.size + 1 + 1) 24 _ _ _ rfl (K2.out.set2 _ _) Tryz.underlying24 rfl (by kernel_rfl)) rfl ?_
    refine ⟨a4, c4, rfl, ?_, ?_⟩
    · exact (Hd4.out.far0 K2.out zb2 (only_setCell (only_setCell (World.grownBy.refl _ _) _) _))
    · exact (Below.setCell (Below.setCell HB.out (by simp; try omega) _) (by simp; try omega) _)
theorem made_rd {s z : Int} {a : Option Addr} {c n : Nat} {w : World} (h : RdN w (.slice a (lnN n) c) (digs n)) (hn : lnN n ≤ 8796093022208) (hc : lnN n ≤ c) (hz : s * n = z) (h1 : n ≠ 0 → s = 1 ∨ s = -1) :
  Calls Tryz.prog 83 #[.int .i64 s, .slice a (lnN n) c] w fun e w' => ∃ a c, e = .returned (.agg #[.int .i64 (sg z), .slice a (ln z) c]) ∧ BD G w' a c z ∧ Below w.heap.size w w' :=
 made_ok (G := G) (l := digs n) h (digs_small n) hn hc (val_digs n) hz h1
set_option maxRecDepth 100000 in
set_option maxHeartbeats 4000000 in
theorem rgcd_ok {x y : Int} {a1 a2 : Option Addr} {c1 c2 : Nat} {w : World} (h1 : BD G w a1 c1 x) (h2 : BD G w a2 c2 y) (hx : Sz x 549755813888) (hy : Sz y 549755813888) :
    Calls Tryz.prog 65 #[.agg #[.int .i64 (sg x), .slice a1 (ln x) c1], .agg #[.int .i64 (sg y), .slice a2 (ln y) c2]] w fun e w' => ∃ a c, e = .returned (.tuple #[.agg #[.int .i64 (sg (Nat.gcd x.natAbs y.natAbs)), .slice a (ln (Nat.gcd x.natAbs y.natAbs)) c], .int .i64 0]) ∧ BD G w' a c (Nat.gcd x.natAbs y.natAbs) ∧ Below w.heap.size w w' := by
  have HX := Lib.hid hx
  have H1 := Lib.hid h1
  have HY := Lib.hid hy
  have H2 := Lib.hid h2
  clear hx h1 hy h2

  go_enter Tryz.func65, Tryz.ntmps65
  go_wp2_with fail
  refine (rright_ok (x := x) (H1.out.keep (by go_grown)) (HX.out.mono (by omega))).mono ?_
  rintro e w1 ⟨rfl, hb⟩
  have hbx := bx3 w 24 24 24 #[.int .i64 (sg x), .slice a1 (ln x) c1] #[.int .i64 (sg y), .slice a2 (ln y) c2] #[.int .i64 0, .slice none 0 0]
  obtain ⟨k0, k1, k2⟩ := hbx
  have K0 := Lib.hid (k0.keep hb)
  have K1 := Lib.hid (k1.keep hb)
  have K2 := Lib.hid (k2.keep hb)
  clear k0 k1 k2
  have hb' : Below w.heap.size w w1 := below_call (by go_grown) hb
  have HB := Lib.hid hb'
  replace H1 := Lib.hid (H1.out.keep hb')
  replace H2 := Lib.hid (H2.out.keep hb')
  clear hb hb'
  refine K0.out.w2 fun aa ab ac ad z0 => ?_
  refine K1.out.w2 fun ae af ag ah z1 => ?_
  refine K2.out.w2 fun ai aj ak al z2 => ?_
  go_wp2_with fail
  refine (rright_ok (x := y) (H2.out.keep (by go_grown)) (HY.out.mono (by omega))).mono ?_
  rintro e w2 ⟨rfl, hb⟩
  clear aa ab ac ad z0 ae af ag ah z1 ai aj ak al z2
  have hb' := below_call (w1 := w1) (by go_grown) hb
  replace K0 := Lib.hid (K0.out.keep hb')
  replace K1 := Lib.hid (K1.out.keep hb')
  replace K2 := Lib.hid (K2.out.keep hb')
  replace HB := Lib.hid (below_call HB.out hb')
  replace H1 := Lib.hid (H1.out.keep hb')
  replace H2 := Lib.hid (H2.out.keep hb')
  clear hb hb'
  refine K0.out.w2 fun aa ab ac ad z0 => ?_
  refine K1.out.w2 fun ae af ag ah z1 => ?_
  refine K2.out.w2 fun ai aj ak al z2 => ?_
  go_wp2_with fail
  clear aa ab ac ad z0 ae af ag ah z1 ai aj ak al z2
  rw [ln_eq y, ln_eq x]
  go_loopg [6, 7] y.natAbs (fun k v6 v7 wr => ∃ (m : Nat) (ax : Option Addr) (cx : Nat) (ay : Option Addr) (cy : Nat), v6 = .slice ax (lnN m) cx ∧ v7 = .slice ay (lnN k) cy ∧ Hid (Nat.gcd m k = Nat.gcd x.natAbs y.natAbs) ∧ Hid (RdN wr (.slice ax (lnN m) cx) (digs m)) ∧ Hid (RdN wr (.slice ay (lnN k) cy) (digs k)) ∧ Hid (lnN m ≤ 549755813888 ∧ lnN k ≤ 549755813888 ∧ lnN m ≤ cx ∧ lnN k ≤ cy) ∧ Hid (Below w2.heap.size w2 wr))
  case atStart => exact ⟨x.natAbs, _, _, _, _, rfl, rfl, rfl, H1.out.rd, H2.out.rd, ⟨HX.out, HY.out, H1.out.le, H2.out.le⟩, Below.refl _ _⟩
  case round =>
    obtain ⟨m, ax, cx, ay, cy, rfl, rfl, HG, HA, HC, HL, HW⟩ := hrel
    by_cases h0 : gk = 0
    · have e1 : decide (0 < lnN gk) = false := by rw [h0]; rfl
      have HM : Hid (m = Nat.gcd x.natAbs y.natAbs) := by show _ = _; rw [← HG.out, h0, Nat.gcd_zero_right]
      clear h0
      go_wp2_with fail
      replace K0 := Lib.hid (K0.out.keep HW.out)
      replace K1 := Lib.hid (K1.out.keep HW.out)
      replace K2 := Lib.hid (K2.out.keep HW.out)
      replace HB := Lib.hid (below_call HB.out HW.out)
      refine K0.out.w2 fun aa ab ac ad z0 => ?_
      refine K1.out.w2 fun ae af ag ah z1 => ?_
      refine K2.out.w2 fun ai aj ak al z2 => ?_
      refine (made_rd (G := G) (z := (m : Int)) (HA.out.keep (by go_grown)) (by have := HL.out.1; omega) HL.out.2.2.1 (Int.one_mul _) (fun _ => .inl rfl)).mono ?_
      rintro e w3 ⟨a6, c6, rfl, hd6, hb⟩
      clear aa ab ac ad z0 ae af ag ah z1 ai aj ak al z2
      have hb' := below_call (w1 := wr) (by go_grown) hb
      replace K0 := Lib.hid (K0.out.keep hb')
      replace K1 := Lib.hid (K1.out.keep hb')
      replace K2 := Lib.hid (K2.out.keep hb')
      replace HB := Lib.hid (below_call HB.out hb')
      replace HA := Lib.hid (HA.out.keep hb')
      clear hb hb'
      have Hd6 := Lib.hid hd6; clear hd6
      refine K0.out.w2 fun aa ab ac ad z0 => ?_
      refine K1.out.w2 fun ae af ag ah z1 => ?_
      refine K2.out.w2 fun ai aj ak al z2 => ?_
      go_wp2_with fail
      refine bodyPost_ret (results_box2 rfl _ _ (w.heap.size + 1 + 1) 24 _ _ _ rfl (K2.out.set2 _ _) Tryz.underlying24 rfl (by kernel_rfl)) rfl ?_
      rw [← HM.out]
      refine ⟨a6, c6, rfl, ?_, ?_⟩
      · exact Hd6.out.far0 K2.out zb2 (only_setCell (only_setCell (World.grownBy.refl _ _) _) _)
      · exact (HB.out.setCell (by simp; omega) _).setCell (by simp; omega) _
    · have hp := lnN_pos h0
      have e1 : decide (0 < lnN gk) = true := by rw [decide_eq_true_eq]; exact hp
      have HH := Lib.hid h0
      clear h0 hp
      go_wp2_with fail
      refine (over_nat (q := m / gk) (r := m % gk) HA.out HC.out HL.out.1 HL.out.2.1 HH.out rfl rfl).mono ?_
      rintro e w4 ⟨aq, cq, ar, cr, rfl, hq4, hr4, hb⟩
      have HR4 := Lib.hid hr4
      have HB4 := Lib.hid hb
      clear hq4 hr4 hb
      go_wp2_with fail
      go_roundg (m % gk)
      case measure => exact Nat.mod_lt _ (Nat.pos_of_ne_zero HH.out)
      case rel => exact ⟨gk, _, _, _, _, rfl, rfl, by show _ = _; rw [← HG.out, Nat.gcd_comm m gk, Nat.gcd_rec gk m, Nat.gcd_comm], HC.out.keep HB4.out, HR4.out.rd, ⟨HL.out.2.1, Nat.le_trans (digs_len_mono (Nat.mod_le _ _)) HL.out.1, HL.out.2.2.2, HR4.out.le⟩, below_call HW.out HB4.out⟩
end Go.Proofs.YtcfmakpckdicjaaGreatDoor
namespace Go.Proofs.YtcfmakpckdicjaaGreatDoor
open Go.RowKit
variable {G : Nat}

theorem over_is {x y : Int} {a1 a2 : Option Addr} {c1 c2 : Nat} {w : World} (h1 : BD G w a1 c1 x) (h2 : BD G w a2 c2 y) (hx : Sz x 549755813888) (hy : Sz y 549755813888) (h0 : y ≠ 0) {q r : Nat} (hq : x.natAbs / y.natAbs = q) (hr : x.natAbs % y.natAbs = r) :
  Calls Tryz.prog 94 #[.slice a1 (ln x) c1, .slice a2 (ln y) c2] w fun e w' => ∃ a c b d, e = .returned (.tuple #[.slice a (lnN q) c, .slice b (lnN r) d]) ∧ OwnN w' w.heap.size (.slice a (lnN q) c) (digs q) ∧ OwnN w' w.heap.size (.slice b (lnN r) d) (digs r) ∧ Below w.heap.size w w' := by
 rw [ln_eq, ln_eq]
 exact over_nat h1.rd h2.rd (by unfold Sz at hx; exact hx) (by unfold Sz at hy; exact hy) (by omega) hq hr
theorem minus_nat {y : Int} {r : Nat} {a2 b : Option Addr} {c2 d B : Nat} {w : World} (h2 : BD G w a2 c2 y) (h : OwnN w B (.slice b (lnN r) d) (digs r)) (hy : Sz y 549755813888) (hle : r ≤ y.natAbs) :
  Calls Tryz.prog 87 #[.slice a2 (ln y) c2, .slice b (lnN r) d] w fun e w' => ∃ a c, e = .returned (.slice a (lnN (y.natAbs - r)) c) ∧ OwnN w' w.heap.size (.slice a (lnN (y.natAbs - r)) c) (digs (y.natAbs - r)) ∧ Below w.heap.size w w' := by
 have := minus_ok _ _ _ _ w h2.rd h.rd (digs_small _) (digs_small _) (by rw [val_digs, val_digs]; exact hle) (digs_len_mono hle) (by unfold Sz at hy; omega)
 rw [val_digs, val_digs] at this
 exact own_slice this
theorem plus_one {q : Nat} {a : Option Addr} {c B : Nat} {w : World} (h : OwnN (w.alloc (.cells #[.int .i64 1] 3)) B (.slice a (lnN q) c) (digs q)) (hq : lnN q ≤ 549755813888) :
  Calls Tryz.prog 85 #[.slice a (lnN q) c, .slice (some ⟨w.heap.size, 0, none⟩) 1 1] (w.alloc (.cells #[.int .i64 1] 3)) fun e w' => ∃ a c, e = .returned (.slice a (lnN (q + 1)) c) ∧ OwnN w' (w.alloc (.cells #[.int .i64 1] 3)).heap.size (.slice a (lnN (q + 1)) c) (digs (q + 1)) ∧ Below (w.alloc (.cells #[.int .i64 1] 3)).heap.size (w.alloc (.cells #[.int .i64 1] 3)) w' := by
 have := plus_ok _ _ _ _ _ h.rd (own_lit1 w w.heap.size 1 (Nat.le_refl _)).rd (digs_small _) (small_one (by omega)) (by unfold lnN at hq; omega) (by simp)
 rw [val_digs] at this
 exact own_slice this
set_option maxRecDepth 100000 in
set_option maxHeartbeats 4000000 in
theorem rdiv_unlike {x y : Int} {a1 a2 : Option Addr} {c1 c2 : Nat} {w : World} (h1 : BD G w a1 c1 x) (h2 : BD G w a2 c2 y) (hx : Sz x 549755813888) (hy : Sz y 549755813888) (hy0 : y ≠ 0) (hs : sg x * sg y < 0 ∧ x.natAbs % y.natAbs ≠ 0) :
    Calls Tryz.prog 66 #[.agg #[.int .i64 (sg x), .slice a1 (ln x) c1], .agg #[.int .i64 (sg y), .slice a2 (ln y) c2]] w fun e w' => ∃ a c b d, e = .returned (.tuple #[.agg #[.int .i64 (sg (dv x y)), .slice a (ln (dv x y)) c], .agg #[.int .i64 (sg (md x y)), .slice b (ln (md x y)) d], .int .i64 0]) ∧ BD G w' a c (dv x y) ∧ BD G w' b d (md x y) ∧ Below w.heap.size w w' := by
  have HX := Lib.hid hx
  have HY := Lib.hid hy
  have H1 := Lib.hid h1
  have H2 := Lib.hid h2
  have hws := wrap_signs x y
  have e0 : (sg y == 0) = false := by rw [beq_eq_false_iff_ne]; rcases sg_ne hy0 with h | h <;> rw [h] <;> decide
  obtain ⟨q, hq⟩ : ∃ q, x.natAbs / y.natAbs = q := ⟨_, rfl⟩
  obtain ⟨r, hr⟩ : ∃ r, x.natAbs % y.natAbs = r := ⟨_, rfl⟩
  have hrm := tail_room (y := y) hx
  have hm1 := div_unlike hs.1 hs.2
  have hry := Nat.mod_lt x.natAbs (show 0 < y.natAbs by omega)
  rw [hq, hr] at hm1
  rw [hr] at hry
  have HM1 := Lib.hid hm1
  have HRY : Hid (r ≤ y.natAbs) := by show _ ≤ _; omega
  have e1 : decide (0 ≤ sg x * sg y) = false := by rw [decide_eq_false_iff_not]; omega
  have hrp := lnN_pos hs.2
  rw [hr] at hrp
  have e2 : (lnN r == 0) = false := by rw [beq_eq_false_iff_ne]; omega
  have e3 : ((lnN r : Int) == 0) = false := by rw [beq_eq_false_iff_ne]; omega
  have HM0 : Hid ((digs (q + 1)).length ≤ 8796093022208) := by
    show _ ≤ _
    have h1 := digs_len_add q 1
    have h2 : (digs 1).length = 1 := rfl
    have h3 := hrm.1
    rw [hq, lnN] at h3; omega
  have HM4 : Hid ((digs (y.natAbs - r)).length ≤ 8796093022208) := by show _ ≤ _; have := digs_len_mono (Nat.sub_le y.natAbs r); unfold Sz at hy; omega
  clear hm1 hry hrp
  rw [hq, hr] at hrm
  have HRM := Lib.hid hrm
  have HQ := Lib.hid hq
  have HR := Lib.hid hr
  clear hx hy h1 h2 hs hq hr hrm

  go_enter Tryz.func66, Tryz.ntmps66
  go_wp2_with fail
  refine (rright_ok (x := x) (H1.out.keep (by go_grown)) (HX.out.mono (by omega))).mono ?_
  rintro e w1 ⟨rfl, hb⟩
  have hbx := bx4 w 24 24 24 24 #[.int .i64 (sg x), .slice a1 (ln x) c1] #[.int .i64 (sg y), .slice a2 (ln y) c2] #[.int .i64 0, .slice none 0 0] #[.int .i64 0, .slice none 0 0]
  obtain ⟨k0, k1, k2, k3⟩ := hbx
  have K0 := Lib.hid (k0.keep hb)
  have K1 := Lib.hid (k1.keep hb)
  have K2 := Lib.hid (k2.keep hb)
  have K3 := Lib.hid (k3.keep hb)
  clear k0 k1 k2 k3
  have hb' : Below w.heap.size w w1 := below_call (by go_grown) hb
  have HB := Lib.hid hb'
  replace H1 := Lib.hid (H1.out.keep hb')
  replace H2 := Lib.hid (H2.out.keep hb')
  clear hb hb'
  refine K0.out.w2 fun aa ab ac ad z0 => ?_
  refine K1.out.w2 fun ae af ag ah z1 => ?_
  refine K2.out.w2 fun ai aj ak al z2 => ?_
  refine K3.out.w2 fun am ao ap au z3 => ?_
  go_wp2_with fail
  refine (rright_ok (x := y) (H2.out.keep (by go_grown)) (HY.out.mono (by omega))).mono ?_
  rintro e w2 ⟨rfl, hb⟩
  clear aa ab ac ad z0 ae af ag ah z1 ai aj ak al z2 am ao ap au z3
  have hb' := below_call (w1 := w1) (by go_grown) hb
  replace K0 := Lib.hid (K0.out.keep hb')
  replace K1 := Lib.hid (K1.out.keep hb')
  replace K2 := Lib.hid (K2.out.keep hb')
  replace K3 := Lib.hid (K3.out.keep hb')
  replace HB := Lib.hid (below_call HB.out hb')
  replace H1 := Lib.hid (H1.out.keep hb')
  replace H2 := Lib.hid (H2.out.keep hb')
  clear hb hb'
  refine K0.out.w2 fun aa ab ac ad z0 => ?_
  refine K1.out.w2 fun ae af ag ah z1 => ?_
  refine K2.out.w2 fun ai aj ak al z2 => ?_
  refine K3.out.w2 fun am ao ap au z3 => ?_
  go_wp2_with fail
  refine (over_is (q := q) (r := r) (H1.out.keep (by go_grown)) (H2.out.keep (by go_grown)) (HX.out.mono (by omega)) (HY.out.mono (by omega)) hy0 HQ.out HR.out).mono ?_
  rintro e w3 ⟨aq, cq, ar, cr, rfl, hq3, hr3, hb⟩
  clear aa ab ac ad z0 ae af ag ah z1 ai aj ak al z2 am ao ap au z3
  have hb' := below_call (w1 := w2) (by go_grown) hb
  replace K0 := Lib.hid (K0.out.keep hb')
  replace K1 := Lib.hid (K1.out.keep hb')
  replace K2 := Lib.hid (K2.out.keep hb')
  replace K3 := Lib.hid (K3.out.keep hb')
  replace HB := Lib.hid (below_call HB.out hb')
  replace H1 := Lib.hid (H1.out.keep hb')
  replace H2 := Lib.hid (H2.out.keep hb')
  clear hb hb'
  have Hq3 := Lib.hid hq3; clear hq3
  have Hr3 := Lib.hid hr3; clear hr3
  refine K0.out.w2 fun aa ab ac ad z0 => ?_
  refine K1.out.w2 fun ae af ag ah z1 => ?_
  refine K2.out.w2 fun ai aj ak al z2 => ?_
  refine K3.out.w2 fun am ao ap au z3 => ?_
  go_wp2_with fail
  clear aa ab ac ad z0 ae af ag ah z1 ai aj ak al z2 am ao ap au z3
  have mk : Hid (∀ w', Out w3 w' (w.heap.size + 1 + 1) (w.heap.size + 1 + 1 + 1) → w'.cell? ⟨w.heap.size, 0, none⟩ = some (.int .i64 (sg x)) ∧ w'.cell? ⟨w.heap.size, 1, none⟩ = some (.slice a1 (ln x) c1) ∧ w'.cell? ⟨w.heap.size + 1, 0, none⟩ = some (.int .i64 (sg y)) ∧ w'.cell? ⟨w.heap.size + 1, 1, none⟩ = some (.slice a2 (ln y) c2) ∧ Out w3 w' (w.heap.size + 1 + 1) (w.heap.size + 1 + 1 + 1)) := fun w' h => ((K0.out.outside h (by omega)).t2 ((K1.out.outside h (by omega)).t2 (h)))
  have hs0 : Out w3 w3.drew (w.heap.size + 1 + 1) (w.heap.size + 1 + 1 + 1) := out_start _ _ _
  have HS0 : Hid (Below w3.heap.size w3 w3.drew) := (Below.refl _ _).drew
  have tok0 : True := trivial
  have tok1 : True := trivial
  have tok2 : True := trivial
  have tok3 : True := trivial
  go_region_held3 (fun w' => w'.cell? ⟨w.heap.size, 0, none⟩ = some (.int .i64 (sg x)) ∧ w'.cell? ⟨w.heap.size, 1, none⟩ = some (.slice a1 (ln x) c1) ∧ w'.cell? ⟨w.heap.size + 1, 0, none⟩ = some (.int .i64 (sg y)) ∧ w'.cell? ⟨w.heap.size + 1, 1, none⟩ = some (.slice a2 (ln y) c2) ∧ Out w3 w' (w.heap.size + 1 + 1) (w.heap.size + 1 + 1 + 1))
    (first | exact mk.out _ (by assumption) | exact mk.out _ (out_alloc (by assumption) _) | (go_split_ands; exact mk.out _ (out_set (out_set (by assumption) (by omega) _) (by omega) _)))
    (first
      | (go_at_call 85; have _t := tok0; refine (plus_one (w := w3.drew) (Hq3.out.keep (Below.alloc HS0.out (Below.size HS0.out) _)) (by have := HRM.out.1; omega)).mono ?_; rintro e w4 ⟨a4, c4, rfl, ho4, hb⟩; clear tok0 _t; have hs1 := out_call (out_alloc hs0 _) hb; have HS1 := Lib.hid (below_call (Below.alloc HS0.out (Below.size HS0.out) _) hb); clear hb; have Ho4 := Lib.hid ho4; clear ho4)
      | (go_at_call 83; have _t := tok1; refine (made_own (G := G) (z := dv x y) Ho4.out HM0.out HM1.out.1 (fun _ => .inr rfl)).mono ?_; rintro e w5 ⟨a5, c5, rfl, hd5, hb⟩; clear tok1 _t; have hs2 := out_call hs1 hb; have HS2 := Lib.hid (below_call HS1.out hb); have Ho4 := Lib.hid (Ho4.out.keep hb); clear hb; have Hd5 := Lib.hid hd5; clear hd5)
      | (go_at_call 87; have _t := tok2; refine (minus_nat (H2.out.keep HS2.out) (Hr3.out.keep HS2.out) (HY.out.mono (by omega)) HRY.out).mono ?_; rintro e w6 ⟨a6, c6, rfl, ho6, hb⟩; clear tok2 _t; have hs3 := out_call hs2 hb; have HS3 := Lib.hid (below_call HS2.out hb); have Ho4 := Lib.hid (Ho4.out.keep hb); have Hd5 := Lib.hid (Hd5.out.keep hb); clear hb; have Ho6 := Lib.hid ho6; clear ho6)
      | (go_at_call 83; have _t := tok3; refine (made_own (G := G) (z := md x y) Ho6.out HM4.out HM1.out.2.1 (fun _ => HM1.out.2.2)).mono ?_; rintro e w7 ⟨a7, c7, rfl, hd7, hb⟩; clear tok3 _t; have hs4 := out_call hs3 hb; have HS4 := Lib.hid (below_call HS3.out hb); have Ho4 := Lib.hid (Ho4.out.keep hb); have Hd5 := Lib.hid (Hd5.out.keep hb); have Ho6 := Lib.hid (Ho6.out.keep hb); clear hb; have Hd7 := Lib.hid hd7; clear hd7; obtain ⟨p2, q2⟩ := (K2.out.keep HS4.out).at; obtain ⟨p3, q3⟩ := (K3.out.keep HS4.out).at))
  replace K0 := Lib.hid (K0.out.keep HS4.out)
  replace K1 := Lib.hid (K1.out.keep HS4.out)
  replace K2 := Lib.hid (K2.out.keep HS4.out)
  replace K3 := Lib.hid (K3.out.keep HS4.out)
  replace HB := Lib.hid (below_call HB.out HS4.out)
  replace H1 := Lib.hid (H1.out.keep HS4.out)
  replace H2 := Lib.hid (H2.out.keep HS4.out)
  replace Hq3 := Lib.hid (Hq3.out.keep HS4.out)
  replace Hr3 := Lib.hid (Hr3.out.keep HS4.out)
  clear mk hs0 HS0 hs1 HS1 hs2 HS2 hs3 HS3 hs4 HS4  p2 q2 p3 q3
  go_wp2_with fail
  have hst2 := only_setCell (g := w.heap.size + 1 + 1) (o := 1) (only_setCell (o := 0) (World.grownBy.refl w7 (some (w.heap.size + 1 + 1))) (.int .i64 (sg (dv x y)))) (.slice a5 (ln (dv x y)) c5)
  have k3 := K3.out.only hst2 (by omega)
  refine bodyPost_ret (results_box2t rfl _ _ (w.heap.size + 1 + 1) (w.heap.size + 1 + 1 + 1) 24 24 _ _ _ _ _ _ rfl ((K2.out.set2 _ _).only (only_setCell (only_setCell (World.grownBy.refl _ _) _) _) (by omega)) Tryz.underlying24 rfl (by kernel_rfl) rfl (k3.set2 _ _) Tryz.underlying24 rfl (by kernel_rfl)) rfl ⟨a5, c5, a7, c7, rfl, ?_, ?_, ?_⟩
  · exact (Hd5.out.far0 K2.out zb2 hst2).far0 k3 zb2 (only_setCell (only_setCell (World.grownBy.refl _ _) _) _)
  · exact (Hd7.out.far0 K2.out zb2 hst2).far0 k3 zb2 (only_setCell (only_setCell (World.grownBy.refl _ _) _) _)
  · exact (((HB.out.setCell (by simp; omega) _).setCell (by simp; omega) _).setCell (by simp; omega) _).setCell (by simp; omega) _
set_option maxRecDepth 100000 in
set_option maxHeartbeats 4000000 in
theorem rdiv_like {x y : Int} {a1 a2 : Option Addr} {c1 c2 : Nat} {w : World} (h1 : BD G w a1 c1 x) (h2 : BD G w a2 c2 y) (hx : Sz x 549755813888) (hy : Sz y 549755813888) (hy0 : y ≠ 0) (hs : 0 ≤ sg x * sg y) :
    Calls Tryz.prog 66 #[.agg #[.int .i64 (sg x), .slice a1 (ln x) c1], .agg #[.int .i64 (sg y), .slice a2 (ln y) c2]] w fun e w' => ∃ a c b d, e = .returned (.tuple #[.agg #[.int .i64 (sg (dv x y)), .slice a (ln (dv x y)) c], .agg #[.int .i64 (sg (md x y)), .slice b (ln (md x y)) d], .int .i64 0]) ∧ BD G w' a c (dv x y) ∧ BD G w' b d (md x y) ∧ Below w.heap.size w w' := by
  have HX := Lib.hid hx
  have HY := Lib.hid hy
  have H1 := Lib.hid h1
  have H2 := Lib.hid h2
  have hws := wrap_signs x y
  have e0 : (sg y == 0) = false := by rw [beq_eq_false_iff_ne]; rcases sg_ne hy0 with h | h <;> rw [h] <;> decide
  obtain ⟨q, hq⟩ : ∃ q, x.natAbs / y.natAbs = q := ⟨_, rfl⟩
  obtain ⟨r, hr⟩ : ∃ r, x.natAbs % y.natAbs = r := ⟨_, rfl⟩
  have hrm := tail_room (y := y) hx
  have hm1 := div_like hy0 (.inl hs)
  have e1 : decide (0 ≤ sg x * sg y) = true := by rw [decide_eq_true_eq]; exact hs

  rw [hq, hr] at hm1
  have HM1 := Lib.hid hm1
  have HM0 : Hid ((digs q).length ≤ 8796093022208) := by show _ ≤ _; have h3 := hrm.1; rw [hq, lnN] at h3; omega
  have HM4 : Hid ((digs r).length ≤ 8796093022208) := by show _ ≤ _; have h3 := hrm.2; rw [hr, lnN] at h3; omega
  have HM5 : Hid (q ≠ 0 → sg x * sg y = 1 ∨ sg x * sg y = -1) := fun h => sgs_ne (by rintro rfl; rw [← hq] at h; simp at h) hy0
  have HM6 : Hid (r ≠ 0 → sg x = 1 ∨ sg x = -1) := fun h => sg_ne (by rintro rfl; rw [← hr] at h; simp at h)
  clear hm1
  rw [hq, hr] at hrm
  have HRM := Lib.hid hrm
  have HQ := Lib.hid hq
  have HR := Lib.hid hr
  clear hx hy h1 h2 hs hq hr hrm

  go_enter Tryz.func66, Tryz.ntmps66
  go_wp2_with fail
  refine (rright_ok (x := x) (H1.out.keep (by go_grown)) (HX.out.mono (by omega))).mono ?_
  rintro e w1 ⟨rfl, hb⟩
  have hbx := bx4 w 24 24 24 24 #[.int .i64 (sg x), .slice a1 (ln x) c1] #[.int .i64 (sg y), .slice a2 (ln y) c2] #[.int .i64 0, .slice none 0 0] #[.int .i64 0, .slice none 0 0]
  obtain ⟨k0, k1, k2, k3⟩ := hbx
  have K0 := Lib.hid (k0.keep hb)
  have K1 := Lib.hid (k1.keep hb)
  have K2 := Lib.hid (k2.keep hb)
  have K3 := Lib.hid (k3.keep hb)
  clear k0 k1 k2 k3
  have hb' : Below w.heap.size w w1 := below_call (by go_grown) hb
  have HB := Lib.hid hb'
  replace H1 := Lib.hid (H1.out.keep hb')
  replace H2 := Lib.hid (H2.out.keep hb')
  clear hb hb'
  refine K0.out.w2 fun aa ab ac ad z0 => ?_
  refine K1.out.w2 fun ae af ag ah z1 => ?_
  refine K2.out.w2 fun ai aj ak al z2 => ?_
  refine K3.out.w2 fun am ao ap au z3 => ?_
  go_wp2_with fail
  refine (rright_ok (x := y) (H2.out.keep (by go_grown)) (HY.out.mono (by omega))).mono ?_
  rintro e w2 ⟨rfl, hb⟩
  clear aa ab ac ad z0 ae af ag ah z1 ai aj ak al z2 am ao ap au z3
  have hb' := below_call (w1 := w1) (by go_grown) hb
  replace K0 := Lib.hid (K0.out.keep hb')
  replace K1 := Lib.hid (K1.out.keep hb')
  replace K2 := Lib.hid (K2.out.keep hb')
  replace K3 := Lib.hid (K3.out.keep hb')
  replace HB := Lib.hid (below_call HB.out hb')
  replace H1 := Lib.hid (H1.out.keep hb')
  replace H2 := Lib.hid (H2.out.keep hb')
  clear hb hb'
  refine K0.out.w2 fun aa ab ac ad z0 => ?_
  refine K1.out.w2 fun ae af ag ah z1 => ?_
  refine K2.out.w2 fun ai aj ak al z2 => ?_
  refine K3.out.w2 fun am ao ap au z3 => ?_
  go_wp2_with fail
  refine (over_is (q := q) (r := r) (H1.out.keep (by go_grown)) (H2.out.keep (by go_grown)) (HX.out.mono (by omega)) (HY.out.mono (by omega)) hy0 HQ.out HR.out).mono ?_
  rintro e w3 ⟨aq, cq, ar, cr, rfl, hq3, hr3, hb⟩
  clear aa ab ac ad z0 ae af ag ah z1 ai aj ak al z2 am ao ap au z3
  have hb' := below_call (w1 := w2) (by go_grown) hb
  replace K0 := Lib.hid (K0.out.keep hb')
  replace K1 := Lib.hid (K1.out.keep hb')
  replace K2 := Lib.hid (K2.out.keep hb')
  replace K3 := Lib.hid (K3.out.keep hb')
  replace HB := Lib.hid (below_call HB.out hb')
  replace H1 := Lib.hid (H1.out.keep hb')
  replace H2 := Lib.hid (H2.out.keep hb')
  clear hb hb'
  have Hq3 := Lib.hid hq3; clear hq3
  have Hr3 := Lib.hid hr3; clear hr3
  refine K0.out.w2 fun aa ab ac ad z0 => ?_
  refine K1.out.w2 fun ae af ag ah z1 => ?_
  refine K2.out.w2 fun ai aj ak al z2 => ?_
  refine K3.out.w2 fun am ao ap au z3 => ?_
  go_wp2_with fail
  clear aa ab ac ad z0 ae af ag ah z1 ai aj ak al z2 am ao ap au z3
  have mk : Hid (∀ w', Out w3 w' (w.heap.size + 1 + 1) (w.heap.size + 1 + 1 + 1) → w'.cell? ⟨w.heap.size, 0, none⟩ = some (.int .i64 (sg x)) ∧ w'.cell? ⟨w.heap.size, 1, none⟩ = some (.slice a1 (ln x) c1) ∧ w'.cell? ⟨w.heap.size + 1, 0, none⟩ = some (.int .i64 (sg y)) ∧ w'.cell? ⟨w.heap.size + 1, 1, none⟩ = some (.slice a2 (ln y) c2) ∧ Out w3 w' (w.heap.size + 1 + 1) (w.heap.size + 1 + 1 + 1)) := fun w' h => ((K0.out.outside h (by omega)).t2 ((K1.out.outside h (by omega)).t2 (h)))
  have hs0 : Out w3 w3.drew (w.heap.size + 1 + 1) (w.heap.size + 1 + 1 + 1) := out_start _ _ _
  have HS0 : Hid (Below w3.heap.size w3 w3.drew) := (Below.refl _ _).drew
  have tok0 : True := trivial
  have tok1 : True := trivial
  go_region_held3 (fun w' => w'.cell? ⟨w.heap.size, 0, none⟩ = some (.int .i64 (sg x)) ∧ w'.cell? ⟨w.heap.size, 1, none⟩ = some (.slice a1 (ln x) c1) ∧ w'.cell? ⟨w.heap.size + 1, 0, none⟩ = some (.int .i64 (sg y)) ∧ w'.cell? ⟨w.heap.size + 1, 1, none⟩ = some (.slice a2 (ln y) c2) ∧ Out w3 w' (w.heap.size + 1 + 1) (w.heap.size + 1 + 1 + 1))
    (first | exact mk.out _ (by assumption) | exact mk.out _ (out_alloc (by assumption) _) | (go_split_ands; exact mk.out _ (out_set (out_set (by assumption) (by omega) _) (by omega) _)))
    (first
      | (go_at_call 83; have _t := tok0; refine (made_own (G := G) (z := dv x y) (Hq3.out.keep HS0.out) HM0.out HM1.out.1 HM5.out).mono ?_; rintro e w4 ⟨a4, c4, rfl, hd4, hb⟩; clear tok0 _t; have hs1 := out_call hs0 hb; have HS1 := Lib.hid (below_call HS0.out hb); clear hb; have Hd4 := Lib.hid hd4; clear hd4)
      | (go_at_call 83; have _t := tok1; refine (made_own (G := G) (z := md x y) (Hr3.out.keep HS1.out) HM4.out HM1.out.2 HM6.out).mono ?_; rintro e w5 ⟨a5, c5, rfl, hd5, hb⟩; clear tok1 _t; have hs2 := out_call hs1 hb; have HS2 := Lib.hid (below_call HS1.out hb); have Hd4 := Lib.hid (Hd4.out.keep hb); clear hb; have Hd5 := Lib.hid hd5; clear hd5; obtain ⟨p2, q2⟩ := (K2.out.keep HS2.out).at; obtain ⟨p3, q3⟩ := (K3.out.keep HS2.out).at))
  replace K0 := Lib.hid (K0.out.keep HS2.out)
  replace K1 := Lib.hid (K1.out.keep HS2.out)
  replace K2 := Lib.hid (K2.out.keep HS2.out)
  replace K3 := Lib.hid (K3.out.keep HS2.out)
  replace HB := Lib.hid (below_call HB.out HS2.out)
  replace H1 := Lib.hid (H1.out.keep HS2.out)
  replace H2 := Lib.hid (H2.out.keep HS2.out)
  replace Hq3 := Lib.hid (Hq3.out.keep HS2.out)
  replace Hr3 := Lib.hid (Hr3.out.keep HS2.out)
  clear mk hs0 HS0 hs1 HS1 hs2 HS2  p2 q2 p3 q3
  go_wp2_with fail
  have hst2 := only_setCell (g := w.heap.size + 1 + 1) (o := 1) (only_setCell (o := 0) (World.grownBy.refl w5 (some (w.heap.size + 1 + 1))) (.int .i64 (sg (dv x y)))) (.slice a4 (ln (dv x y)) c4)
  have k3 := K3.out.only hst2 (by omega)
  refine bodyPost_ret (results_box2t rfl _ _ (w.heap.size + 1 + 1) (w.heap.size + 1 + 1 + 1) 24 24 _ _ _ _ _ _ rfl ((K2.out.set2 _ _).only (only_setCell (only_setCell (World.grownBy.refl _ _) _) _) (by omega)) Tryz.underlying24 rfl (by kernel_rfl) rfl (k3.set2 _ _) Tryz.underlying24 rfl (by kernel_rfl)) rfl ⟨a4, c4, a5, c5, rfl, ?_, ?_, ?_⟩
  · exact (Hd4.out.far0 K2.out zb2 hst2).far0 k3 zb2 (only_setCell (only_setCell (World.grownBy.refl _ _) _) _)
  · exact (Hd5.out.far0 K2.out zb2 hst2).far0 k3 zb2 (only_setCell (only_setCell (World.grownBy.refl _ _) _) _)
  · exact (((HB.out.setCell (by simp; omega) _).setCell (by simp; omega) _).setCell (by simp; omega) _).setCell (by simp; omega) _
set_option maxRecDepth 100000 in
set_option maxHeartbeats 4000000 in
theorem rdiv_none {x y : Int} {a1 a2 : Option Addr} {c1 c2 : Nat} {w : World} (h1 : BD G w a1 c1 x) (h2 : BD G w a2 c2 y) (hx : Sz x 549755813888) (hy : Sz y 549755813888) (hy0 : y ≠ 0) (hs : sg x * sg y < 0 ∧ x.natAbs % y.natAbs = 0) :
    Calls Tryz.prog 66 #[.agg #[.int .i64 (sg x), .slice a1 (ln x) c1], .agg #[.int .i64 (sg y), .slice a2 (ln y) c2]] w fun e w' => ∃ a c b d, e = .returned (.tuple #[.agg #[.int .i64 (sg (dv x y)), .slice a (ln (dv x y)) c], .agg #[.int .i64 (sg (md x y)), .slice b (ln (md x y)) d], .int .i64 0]) ∧ BD G w' a c (dv x y) ∧ BD G w' b d (md x y) ∧ Below w.heap.size w w' := by
  have HX := Lib.hid hx
  have HY := Lib.hid hy
  have H1 := Lib.hid h1
  have H2 := Lib.hid h2
  have hws := wrap_signs x y
  have e0 : (sg y == 0) = false := by rw [beq_eq_false_iff_ne]; rcases sg_ne hy0 with h | h <;> rw [h] <;> decide
  obtain ⟨q, hq⟩ : ∃ q, x.natAbs / y.natAbs = q := ⟨_, rfl⟩
  obtain ⟨r, hr⟩ : ∃ r, x.natAbs % y.natAbs = r := ⟨_, rfl⟩
  have hrm := tail_room (y := y) hx
  have hm1 := div_like hy0 (.inr hs.2)
  have e1 : decide (0 ≤ sg x * sg y) = false := by rw [decide_eq_false_iff_not]; omega
  have e2 : (lnN r == 0) = true := by rw [← hr, hs.2]; rfl
  have e3 : ((lnN r : Int) == 0) = true := by rw [← hr, hs.2]; rfl

  rw [hq, hr] at hm1
  have HM1 := Lib.hid hm1
  have HM0 : Hid ((digs q).length ≤ 8796093022208) := by show _ ≤ _; have h3 := hrm.1; rw [hq, lnN] at h3; omega
  have HM4 : Hid ((digs r).length ≤ 8796093022208) := by show _ ≤ _; have h3 := hrm.2; rw [hr, lnN] at h3; omega
  have HM5 : Hid (q ≠ 0 → sg x * sg y = 1 ∨ sg x * sg y = -1) := fun h => sgs_ne (by rintro rfl; rw [← hq] at h; simp at h) hy0
  have HM6 : Hid (r ≠ 0 → sg x = 1 ∨ sg x = -1) := fun h => sg_ne (by rintro rfl; rw [← hr] at h; simp at h)
  clear hm1
  rw [hq, hr] at hrm
  have HRM := Lib.hid hrm
  have HQ := Lib.hid hq
  have HR := Lib.hid hr
  clear hx hy h1 h2 hs hq hr hrm

  go_enter Tryz.func66, Tryz.ntmps66
  go_wp2_with fail
  refine (rright_ok (x := x) (H1.out.keep (by go_grown)) (HX.out.mono (by omega))).mono ?_
  rintro e w1 ⟨rfl, hb⟩
  have hbx := bx4 w 24 24 24 24 #[.int .i64 (sg x), .slice a1 (ln x) c1] #[.int .i64 (sg y), .slice a2 (ln y) c2] #[.int .i64 0, .slice none 0 0] #[.int .i64 0, .slice none 0 0]
  obtain ⟨k0, k1, k2, k3⟩ := hbx
  have K0 := Lib.hid (k0.keep hb)
  have K1 := Lib.hid (k1.keep hb)
  have K2 := Lib.hid (k2.keep hb)
  have K3 := Lib.hid (k3.keep hb)
  clear k0 k1 k2 k3
  have hb' : Below w.heap.size w w1 := below_call (by go_grown) hb
  have HB := Lib.hid hb'
  replace H1 := Lib.hid (H1.out.keep hb')
  replace H2 := Lib.hid (H2.out.keep hb')
  clear hb hb'
  refine K0.out.w2 fun aa ab ac ad z0 => ?_
  refine K1.out.w2 fun ae af ag ah z1 => ?_
  refine K2.out.w2 fun ai aj ak al z2 => ?_
  refine K3.out.w2 fun am ao ap au z3 => ?_
  go_wp2_with fail
  refine (rright_ok (x := y) (H2.out.keep (by go_grown)) (HY.out.mono (by omega))).mono ?_
  rintro e w2 ⟨rfl, hb⟩
  clear aa ab ac ad z0 ae af ag ah z1 ai aj ak al z2 am ao ap au z3
  have hb' := below_call (w1 := w1) (by go_grown) hb
  replace K0 := Lib.hid (K0.out.keep hb')
  replace K1 := Lib.hid (K1.out.keep hb')
  replace K2 := Lib.hid (K2.out.keep hb')
  replace K3 := Lib.hid (K3.out.keep hb')
  replace HB := Lib.hid (below_call HB.out hb')
  replace H1 := Lib.hid (H1.out.keep hb')
  replace H2 := Lib.hid (H2.out.keep hb')
  clear hb hb'
  refine K0.out.w2 fun aa ab ac ad z0 => ?_
  refine K1.out.w2 fun ae af ag ah z1 => ?_
  refine K2.out.w2 fun ai aj ak al z2 => ?_
  refine K3.out.w2 fun am ao ap au z3 => ?_
  go_wp2_with fail
  refine (over_is (q := q) (r := r) (H1.out.keep (by go_grown)) (H2.out.keep (by go_grown)) (HX.out.mono (by omega)) (HY.out.mono (by omega)) hy0 HQ.out HR.out).mono ?_
  rintro e w3 ⟨aq, cq, ar, cr, rfl, hq3, hr3, hb⟩
  clear aa ab ac ad z0 ae af ag ah z1 ai aj ak al z2 am ao ap au z3
  have hb' := below_call (w1 := w2) (by go_grown) hb
  replace K0 := Lib.hid (K0.out.keep hb')
  replace K1 := Lib.hid (K1.out.keep hb')
  replace K2 := Lib.hid (K2.out.keep hb')
  replace K3 := Lib.hid (K3.out.keep hb')
  replace HB := Lib.hid (below_call HB.out hb')
  replace H1 := Lib.hid (H1.out.keep hb')
  replace H2 := Lib.hid (H2.out.keep hb')
  clear hb hb'
  have Hq3 := Lib.hid hq3; clear hq3
  have Hr3 := Lib.hid hr3; clear hr3
  refine K0.out.w2 fun aa ab ac ad z0 => ?_
  refine K1.out.w2 fun ae af ag ah z1 => ?_
  refine K2.out.w2 fun ai aj ak al z2 => ?_
  refine K3.out.w2 fun am ao ap au z3 => ?_
  go_wp2_with fail
  clear aa ab ac ad z0 ae af ag ah z1 ai aj ak al z2 am ao ap au z3
  have mk : Hid (∀ w', Out w3 w' (w.heap.size + 1 + 1) (w.heap.size + 1 + 1 + 1) → w'.cell? ⟨w.heap.size, 0, none⟩ = some (.int .i64 (sg x)) ∧ w'.cell? ⟨w.heap.size, 1, none⟩ = some (.slice a1 (ln x) c1) ∧ w'.cell? ⟨w.heap.size + 1, 0, none⟩ = some (.int .i64 (sg y)) ∧ w'.cell? ⟨w.heap.size + 1, 1, none⟩ = some (.slice a2 (ln y) c2) ∧ Out w3 w' (w.heap.size + 1 + 1) (w.heap.size + 1 + 1 + 1)) := fun w' h => ((K0.out.outside h (by omega)).t2 ((K1.out.outside h (by omega)).t2 (h)))
  have hs0 : Out w3 w3.drew (w.heap.size + 1 + 1) (w.heap.size + 1 + 1 + 1) := out_start _ _ _
  have HS0 : Hid (Below w3.heap.size w3 w3.drew) := (Below.refl _ _).drew
  have tok0 : True := trivial
  have tok1 : True := trivial
  go_region_held3 (fun w' => w'.cell? ⟨w.heap.size, 0, none⟩ = some (.int .i64 (sg x)) ∧ w'.cell? ⟨w.heap.size, 1, none⟩ = some (.slice a1 (ln x) c1) ∧ w'.cell? ⟨w.heap.size + 1, 0, none⟩ = some (.int .i64 (sg y)) ∧ w'.cell? ⟨w.heap.size + 1, 1, none⟩ = some (.slice a2 (ln y) c2) ∧ Out w3 w' (w.heap.size + 1 + 1) (w.heap.size + 1 + 1 + 1))
    (first | exact mk.out _ (by assumption) | exact mk.out _ (out_alloc (by assumption) _) | (go_split_ands; exact mk.out _ (out_set (out_set (by assumption) (by omega) _) (by omega) _)))
    (first
      | (go_at_call 83; have _t := tok0; refine (made_own (G := G) (z := dv x y) (Hq3.out.keep HS0.out) HM0.out HM1.out.1 HM5.out).mono ?_; rintro e w4 ⟨a4, c4, rfl, hd4, hb⟩; clear tok0 _t; have hs1 := out_call hs0 hb; have HS1 := Lib.hid (below_call HS0.out hb); clear hb; have Hd4 := Lib.hid hd4; clear hd4)
      | (go_at_call 83; have _t := tok1; refine (made_own (G := G) (z := md x y) (Hr3.out.keep HS1.out) HM4.out HM1.out.2 HM6.out).mono ?_; rintro e w5 ⟨a5, c5, rfl, hd5, hb⟩; clear tok1 _t; have hs2 := out_call hs1 hb; have HS2 := Lib.hid (below_call HS1.out hb); have Hd4 := Lib.hid (Hd4.out.keep hb); clear hb; have Hd5 := Lib.hid hd5; clear hd5; obtain ⟨p2, q2⟩ := (K2.out.keep HS2.out).at; obtain ⟨p3, q3⟩ := (K3.out.keep HS2.out).at))
  replace K0 := Lib.hid (K0.out.keep HS2.out)
  replace K1 := Lib.hid (K1.out.keep HS2.out)
  replace K2 := Lib.hid (K2.out.keep HS2.out)
  replace K3 := Lib.hid (K3.out.keep HS2.out)
  replace HB := Lib.hid (below_call HB.out HS2.out)
  replace H1 := Lib.hid (H1.out.keep HS2.out)
  replace H2 := Lib.hid (H2.out.keep HS2.out)
  replace Hq3 := Lib.hid (Hq3.out.keep HS2.out)
  replace Hr3 := Lib.hid (Hr3.out.keep HS2.out)
  clear mk hs0 HS0 hs1 HS1 hs2 HS2  p2 q2 p3 q3
  go_wp2_with fail
  have hst2 := only_setCell (g := w.heap.size + 1 + 1) (o := 1) (only_setCell (o := 0) (World.grownBy.refl w5 (some (w.heap.size + 1 + 1))) (.int .i64 (sg (dv x y)))) (.slice a4 (ln (dv x y)) c4)
  have k3 := K3.out.only hst2 (by omega)
  refine bodyPost_ret (results_box2t rfl _ _ (w.heap.size + 1 + 1) (w.heap.size + 1 + 1 + 1) 24 24 _ _ _ _ _ _ rfl ((K2.out.set2 _ _).only (only_setCell (only_setCell (World.grownBy.refl _ _) _) _) (by omega)) Tryz.underlying24 rfl (by kernel_rfl) rfl (k3.set2 _ _) Tryz.underlying24 rfl (by kernel_rfl)) rfl ⟨a4, c4, a5, c5, rfl, ?_, ?_, ?_⟩
  · exact (Hd4.out.far0 K2.out zb2 hst2).far0 k3 zb2 (only_setCell (only_setCell (World.grownBy.refl _ _) _) _)
  · exact (Hd5.out.far0 K2.out zb2 hst2).far0 k3 zb2 (only_setCell (only_setCell (World.grownBy.refl _ _) _) _)
  · exact (((HB.out.setCell (by simp; omega) _).setCell (by simp; omega) _).setCell (by simp; omega) _).setCell (by simp; omega) _
theorem rdiv_ok {x y : Int} {a1 a2 : Option Addr} {c1 c2 : Nat} {w : World} (h1 : BD G w a1 c1 x) (h2 : BD G w a2 c2 y) (hx : Sz x 549755813888) (hy : Sz y 549755813888) (hy0 : y ≠ 0) :
    Calls Tryz.prog 66 #[.agg #[.int .i64 (sg x), .slice a1 (ln x) c1], .agg #[.int .i64 (sg y), .slice a2 (ln y) c2]] w fun e w' => ∃ a c b d, e = .returned (.tuple #[.agg #[.int .i64 (sg (dv x y)), .slice a (ln (dv x y)) c], .agg #[.int .i64 (sg (md x y)), .slice b (ln (md x y)) d], .int .i64 0]) ∧ BD G w' a c (dv x y) ∧ BD G w' b d (md x y) ∧ Below w.heap.size w w' := by
  by_cases hs : sg x * sg y < 0
  · by_cases hr : x.natAbs % y.natAbs = 0
    · exact rdiv_none h1 h2 hx hy hy0 ⟨hs, hr⟩
    · exact rdiv_unlike h1 h2 hx hy hy0 ⟨hs, hr⟩
  · exact rdiv_like h1 h2 hx hy hy0 (by omega)
end Go.Proofs.YtcfmakpckdicjaaGreatDoor
