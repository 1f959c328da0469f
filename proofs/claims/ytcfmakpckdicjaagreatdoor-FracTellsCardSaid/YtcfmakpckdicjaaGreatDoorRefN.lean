/- Walks of the verifier's reference: fractions: sums, differences, order. -/
import Derived.Test.YtcfmakpckdicjaaGreatDoorBase
import Derived.Test.YtcfmakpckdicjaaGreatDoorBigSpec
import Derived.Test.YtcfmakpckdicjaaGreatDoorBigA
import Derived.Test.YtcfmakpckdicjaaGreatDoorBigB
import Derived.Test.YtcfmakpckdicjaaGreatDoorBigC
import Derived.Test.YtcfmakpckdicjaaGreatDoorBigD
import Derived.Test.YtcfmakpckdicjaaGreatDoorBigK
import Derived.Test.YtcfmakpckdicjaaGreatDoorBigL
import Derived.Test.YtcfmakpckdicjaaGreatDoorBigQ
import Derived.Test.YtcfmakpckdicjaaGreatDoorFracA
import Derived.Test.YtcfmakpckdicjaaGreatDoorRefE
import Derived.Test.YtcfmakpckdicjaaGreatDoorRefJ
import Derived.Test.YtcfmakpckdicjaaGreatDoorProg
import Derived.WalkKit
import Derived.WalkSpells
import Derived.WalkLawsBesides
import Derived.Handy
import Derived.Lib.Hide
import Derived.Lib.Strings
import Derived.Lib.Builder
import Derived.BigQuiet
import Derived.OwnWalk
import Derived.Laws.BitsLemmas
import Derived.WalkSmall
import Derived.Deep.QuietTactic
import Derived.StillTailTactics
import Derived.Maps.AppendAt
import Derived.IntWalk
import Derived.Deep.RegionHeld3
import Derived.Deep.DeepFit
import Derived.Deep.LoopGhost
import Derived.Deep.DeepCutAuto
namespace Go.Proofs.YtcfmakpckdicjaaGreatDoor
open Go.RowKit
variable {G : Nat}

theorem made_own_any {s z : Int} {v : Value} {l : Digs} {n B : Nat} {w : World} (h : OwnN w B v l) (hs : small l) (hn : l.length ≤ 8796093022208) (hv : val l = n) (hz : s * n = z) (h1 : n ≠ 0 → s = 1 ∨ s = -1) :
  Calls Tryz.prog 83 #[.int .i64 s, v] w fun e w' => ∃ a c, e = .returned (.agg #[.int .i64 (sg z), .slice a (ln z) c]) ∧ BD G w' a c z ∧ Below w.heap.size w w' := by
 obtain ⟨a, c, rfl, hc⟩ := h.sl
 exact made_ok (G := G) h.rd hs hn hc hv hz h1
set_option maxHeartbeats 8000000 in
set_option maxRecDepth 100000 in
theorem rof_pos (x : Int) (w : World) (hx : -9223372036854775808 ≤ x ∧ x ≤ 9223372036854775807) (hs : 0 < x) :
    Calls Tryz.prog 56 #[.int .i64 x] w fun e w' => ∃ a c, e = .returned (.agg #[.int .i64 (sg x), .slice a (ln x) c]) ∧ BD G w' a c x ∧ Below w.heap.size w w' := by
  obtain ⟨n, hn⟩ : ∃ n, n = x.natAbs := ⟨_, rfl⟩
  have hnb : n ≤ 9223372036854775808 := by omega
  have e0 : (x == 0) = false := by rw [beq_eq_false_iff_ne]; omega
  have e1 : decide (x < 0) = false := by rw [decide_eq_false_iff_not]; omega
  have HNX := Lib.hid hn
  have HX := Lib.hid hs
  have HSt : Hid (x = n) := by show _ = _; omega
  clear hn hs
  go_enter Tryz.func56, Tryz.ntmps56
  go_wp2_with fail
  obtain ⟨w0, hw0⟩ : ∃ w0, w0 = w.alloc (.cells #[.int .i64 0, .slice none 0 0] 24) := ⟨_, rfl⟩
  rw [← hw0]
  have K0 : Hid (Bx w0 w.heap.size 24 #[.int .i64 0, .slice none 0 0]) := by rw [hw0]; exact bx1 w _ _
  have HB0 : Hid (Below w.heap.size w w0) := by rw [hw0]; exact below_alloc _ _
  clear hw0
  go_loopw [0, 4] (fun i v wr => ∃ (l : Digs) (u : Nat), u ≤ n ∧ l.length ≤ 4 ∧ i = .int .i64 u ∧ Hid (small l) ∧ Hid (val l + 1048576 ^ l.length * u = n) ∧ Hid (OwnN wr w0.heap.size v l) ∧ Hid (Below w0.heap.size w0 wr)) (fun i _ _ => (intOf i).natAbs)
  case atStart => exact ⟨[], n, Nat.le_refl _, by simp, by rw [HSt.out], small_nil, by show _ = _; simp [val], ownN_nil _ _, Below.refl _ _⟩
  case round =>
    obtain ⟨l, u, hu, hll, rfl, HS, HE, HO, HB⟩ := hrel
    have hl4 : u ≠ 0 → l.length < 4 := fun h => of_room hnb HE.out h
    by_cases h0 : u = 0
    · have e2 : (u != 0) = false := by rw [h0]; rfl
      have e3 : ((u : Int) != 0) = false := by rw [h0]; rfl
      have HV : Hid (val l = n) := by show _ = _; have := HE.out; rw [h0, Nat.mul_zero] at this; omega
      have HL : Hid (l.length ≤ 8796093022208) := by show _ ≤ _; omega
      have HZ : Hid (1 * (n : Int) = x) := by show _ = _; rw [HNX.out]; have := HX.out; omega
      clear h0 hl4
      go_wp2_with fail
      refine (made_own_any (G := G) HO.out HS.out HL.out HV.out HZ.out (fun _ => .inl rfl)).mono ?_
      rintro e w2 ⟨a, c, rfl, hd, hb⟩
      have K2 := Lib.hid ((K0.out.keep HB.out).keep hb)
      have HB2 := Lib.hid (below_call HB0.out (below_call HB.out hb))
      have HD := Lib.hid hd
      clear hb hd
      obtain ⟨p0, q0⟩ := K2.out.at
      go_wp2_with fail
      refine bodyPost_ret (results_box1 rfl _ _ w.heap.size 24 _ _ _ rfl (K2.out.set2 _ _) Tryz.underlying24 rfl (by kernel_rfl)) rfl ⟨a, c, rfl, ?_, ?_⟩
      · exact HD.out.far0 K2.out zb2 (only_setCell (only_setCell (World.grownBy.refl _ _) _) _)
      · exact (HB2.out.setCell (Nat.le_refl _) _).setCell (Nat.le_refl _) _
    · have hl3 := hl4 h0
      have e2 : (u != 0) = true := by rw [bne_iff_ne]; exact h0
      have e3 : ((u : Int) != 0) = true := by rw [bne_iff_ne]; omega
      obtain ⟨d, hd⟩ : ∃ d, d = u % 1048576 := ⟨_, rfl⟩
      obtain ⟨m, hm⟩ : ∃ m, m = u / 1048576 := ⟨_, rfl⟩
      have hds : d < 1048576 := by omega
      have hmod : (u : Int) % 1048576 = (d : Int) := by omega
      have hdiv : (u : Int) / 1048576 = (m : Int) := by omega
      have hmu : m < u := by omega
      have hum : u ≤ 9223372036854775808 := by omega
      have HE2 : Hid (val (l ++ [d]) + 1048576 ^ (l ++ [d]).length * m = n) := by show _ = _; rw [val_snoc_digs, show d + 1048576 * m = u by omega]; exact HE.out
      have HA : Hid (OwnN (wr.alloc (.cells #[.int .i64 (d : Int)] 3)) w0.heap.size u4 l) := HO.out.keep (below_alloc _ _)
      have HL1 : Hid (RdN (wr.alloc (.cells #[.int .i64 (d : Int)] 3)) (.slice (some ⟨wr.heap.size, 0, none⟩) 1 1) [d]) := (own_lit1 wr wr.heap.size d (Nat.le_refl _)).rd
      have hsz : w0.heap.size ≤ wr.heap.size := HB.out.size
      clear hd hm h0 hl4
      go_wp2_with (at_builtin; go_must (refine wpList_appendN rfl _ _ rfl (wr.alloc (.cells #[.int .i64 (d : Int)] 3)) w0.heap.size u4 l rfl HA.out ⟨wr.heap.size, 0, none⟩ 1 1 [d] rfl rfl HL1.out (by simp; omega) (by simp; omega) ?_; intro v' w1 ho hg hb))
      have HO2 := Lib.hid ho
      have HB2 : Hid (Below w0.heap.size w0 w1) := (HB.out.alloc hsz _).trans hb
      clear ho hg hb
      go_roundw
      case rel => exact ⟨l ++ [d], m, by omega, by simp; omega, by first | rfl | rw [hdiv], small_append HS.out (small_one hds), HE2, HO2.out, HB2.out⟩
      case measure => simp [intOf]; omega
set_option maxHeartbeats 8000000 in
set_option maxRecDepth 100000 in
theorem rof_neg (x : Int) (w : World) (hx : -9223372036854775808 ≤ x ∧ x ≤ 9223372036854775807) (hs : x < 0) :
    Calls Tryz.prog 56 #[.int .i64 x] w fun e w' => ∃ a c, e = .returned (.agg #[.int .i64 (sg x), .slice a (ln x) c]) ∧ BD G w' a c x ∧ Below w.heap.size w w' := by
  obtain ⟨n, hn⟩ : ∃ n, n = x.natAbs := ⟨_, rfl⟩
  have hnb : n ≤ 9223372036854775808 := by omega
  have e0 : (x == 0) = false := by rw [beq_eq_false_iff_ne]; omega
  have e1 : decide (x < 0) = true := by rw [decide_eq_true_eq]; omega
  have HNX := Lib.hid hn
  have HX := Lib.hid hs
  have HSt : Hid (x = -(n : Int)) := by show _ = _; omega
  clear hn hs
  go_enter Tryz.func56, Tryz.ntmps56
  go_wp2_with fail
  obtain ⟨w0, hw0⟩ : ∃ w0, w0 = w.alloc (.cells #[.int .i64 0, .slice none 0 0] 24) := ⟨_, rfl⟩
  rw [← hw0]
  have K0 : Hid (Bx w0 w.heap.size 24 #[.int .i64 0, .slice none 0 0]) := by rw [hw0]; exact bx1 w _ _
  have HB0 : Hid (Below w.heap.size w w0) := by rw [hw0]; exact below_alloc _ _
  clear hw0
  go_loopw [0, 4] (fun i v wr => ∃ (l : Digs) (u : Nat), u ≤ n ∧ l.length ≤ 4 ∧ i = .int .i64 (-(u : Int)) ∧ Hid (small l) ∧ Hid (val l + 1048576 ^ l.length * u = n) ∧ Hid (OwnN wr w0.heap.size v l) ∧ Hid (Below w0.heap.size w0 wr)) (fun i _ _ => (intOf i).natAbs)
  case atStart => exact ⟨[], n, Nat.le_refl _, by simp, by rw [HSt.out], small_nil, by show _ = _; simp [val], ownN_nil _ _, Below.refl _ _⟩
  case round =>
    obtain ⟨l, u, hu, hll, rfl, HS, HE, HO, HB⟩ := hrel
    have hl4 : u ≠ 0 → l.length < 4 := fun h => of_room hnb HE.out h
    by_cases h0 : u = 0
    · have e2 : (u != 0) = false := by rw [h0]; rfl
      have e3 : ((-(u : Int)) != 0) = false := by rw [h0]; rfl
      have HV : Hid (val l = n) := by show _ = _; have := HE.out; rw [h0, Nat.mul_zero] at this; omega
      have HL : Hid (l.length ≤ 8796093022208) := by show _ ≤ _; omega
      have HZ : Hid ((-1) * (n : Int) = x) := by show _ = _; rw [HNX.out]; have := HX.out; omega
      clear h0 hl4
      go_wp2_with fail
      refine (made_own_any (G := G) HO.out HS.out HL.out HV.out HZ.out (fun _ => .inr rfl)).mono ?_
      rintro e w2 ⟨a, c, rfl, hd, hb⟩
      have K2 := Lib.hid ((K0.out.keep HB.out).keep hb)
      have HB2 := Lib.hid (below_call HB0.out (below_call HB.out hb))
      have HD := Lib.hid hd
      clear hb hd
      obtain ⟨p0, q0⟩ := K2.out.at
      go_wp2_with fail
      refine bodyPost_ret (results_box1 rfl _ _ w.heap.size 24 _ _ _ rfl (K2.out.set2 _ _) Tryz.underlying24 rfl (by kernel_rfl)) rfl ⟨a, c, rfl, ?_, ?_⟩
      · exact HD.out.far0 K2.out zb2 (only_setCell (only_setCell (World.grownBy.refl _ _) _) _)
      · exact (HB2.out.setCell (Nat.le_refl _) _).setCell (Nat.le_refl _) _
    · have hl3 := hl4 h0
      have e2 : (u != 0) = true := by rw [bne_iff_ne]; exact h0
      have e3 : ((-(u : Int)) != 0) = true := by rw [bne_iff_ne]; omega
      obtain ⟨d, hd⟩ : ∃ d, d = u % 1048576 := ⟨_, rfl⟩
      obtain ⟨m, hm⟩ : ∃ m, m = u / 1048576 := ⟨_, rfl⟩
      have hds : d < 1048576 := by omega
      have hmod : Int.tmod (-(u : Int)) 1048576 = -(d : Int) := by
        rw [Int.neg_tmod]
        have : Int.tmod (u : Int) 1048576 = (d : Int) := by (rw [Int.tmod_eq_emod_of_nonneg (by omega)]; omega)
        omega
      have hdiv : Int.tdiv (-(u : Int)) 1048576 = -(m : Int) := by
        rw [Int.neg_tdiv]
        have : Int.tdiv (u : Int) 1048576 = (m : Int) := by (rw [Int.tdiv_eq_ediv_of_nonneg (by omega)]; omega)
        omega
      have hmu : m < u := by omega
      have hum : u ≤ 9223372036854775808 := by omega
      have HE2 : Hid (val (l ++ [d]) + 1048576 ^ (l ++ [d]).length * m = n) := by show _ = _; rw [val_snoc_digs, show d + 1048576 * m = u by omega]; exact HE.out
      have HA : Hid (OwnN (wr.alloc (.cells #[.int .i64 (d : Int)] 3)) w0.heap.size u4 l) := HO.out.keep (below_alloc _ _)
      have HL1 : Hid (RdN (wr.alloc (.cells #[.int .i64 (d : Int)] 3)) (.slice (some ⟨wr.heap.size, 0, none⟩) 1 1) [d]) := (own_lit1 wr wr.heap.size d (Nat.le_refl _)).rd
      have hsz : w0.heap.size ≤ wr.heap.size := HB.out.size
      clear hd hm h0 hl4
      by_cases hd0 : d = 0
      · subst hd0
        have HA : Hid (OwnN (wr.alloc (.cells #[.int .i64 0] 3)) w0.heap.size u4 l) := HA.out
        have HL1 : Hid (RdN (wr.alloc (.cells #[.int .i64 0] 3)) (.slice (some ⟨wr.heap.size, 0, none⟩) 1 1) [0]) := HL1.out
        have hmod : Int.tmod (-(u : Int)) 1048576 = 0 := hmod
        go_wp2_with (at_builtin; go_must (refine wpList_appendN rfl _ _ rfl (wr.alloc (.cells #[.int .i64 0] 3)) w0.heap.size u4 l rfl HA.out ⟨wr.heap.size, 0, none⟩ 1 1 [0] rfl rfl HL1.out (by simp; omega) (by simp; omega) ?_; intro v' w1 ho hg hb))
        have HO2 := Lib.hid ho
        have HB2 : Hid (Below w0.heap.size w0 w1) := (HB.out.alloc hsz _).trans hb
        clear ho hg hb
        go_roundw
        case rel => exact ⟨l ++ [0], m, by omega, by simp; omega, by first | rfl | rw [hdiv], small_append HS.out (small_one hds), HE2, HO2.out, HB2.out⟩
        case measure => simp [intOf]; omega
      · have t4 : decide (-(d : Int) < 0) = true := by rw [decide_eq_true_eq]; omega
        go_wp2_with (at_builtin; go_must (refine wpList_appendN rfl _ _ rfl (wr.alloc (.cells #[.int .i64 (d : Int)] 3)) w0.heap.size u4 l rfl HA.out ⟨wr.heap.size, 0, none⟩ 1 1 [d] rfl rfl HL1.out (by simp; omega) (by simp; omega) ?_; intro v' w1 ho hg hb))
        have HO2 := Lib.hid ho
        have HB2 : Hid (Below w0.heap.size w0 w1) := (HB.out.alloc hsz _).trans hb
        clear ho hg hb
        go_roundw
        case rel => exact ⟨l ++ [d], m, by omega, by simp; omega, by first | rfl | rw [hdiv], small_append HS.out (small_one hds), HE2, HO2.out, HB2.out⟩
        case measure => simp [intOf]; omega
set_option maxRecDepth 100000 in
set_option maxHeartbeats 8000000 in
theorem rof_zero (w : World) :
    Calls Tryz.prog 56 #[.int .i64 0] w fun e w' => ∃ a c, e = .returned (.agg #[.int .i64 (sg 0), .slice a (ln 0) c]) ∧ BD G w' a c 0 ∧ Below w.heap.size w w' := by
  go_enter Tryz.func56, Tryz.ntmps56
  go_wp2_with fail
  refine bodyPost_ret (results_box1 rfl _ _ w.heap.size 24 _ _ _ rfl (bx1 w _ #[.int .i64 0, .slice none 0 0]) Tryz.underlying24 rfl (by kernel_rfl)) rfl ⟨none, 0, rfl, ?_, ?_⟩
  · exact bd_zero _ _ _
  · exact below_alloc _ _
theorem rof_ok (x : Int) (w : World) (hx : -9223372036854775808 ≤ x ∧ x ≤ 9223372036854775807) :
    Calls Tryz.prog 56 #[.int .i64 x] w fun e w' => ∃ a c, e = .returned (.agg #[.int .i64 (sg x), .slice a (ln x) c]) ∧ BD G w' a c x ∧ Below w.heap.size w w' := by
  rcases Int.lt_trichotomy x 0 with h | h | h
  · exact rof_neg (G := G) x w hx h
  · rw [h]; exact rof_zero (G := G) w
  · exact rof_pos (G := G) x w hx h
end Go.Proofs.YtcfmakpckdicjaaGreatDoor
namespace Go.Proofs.YtcfmakpckdicjaaGreatDoor
open Go.RowKit
variable {G : Nat}

theorem rgcd_is {x y g : Int} {a1 a2 : Option Addr} {c1 c2 : Nat} {w : World} (h1 : BD G w a1 c1 x) (h2 : BD G w a2 c2 y) (hx : Sz x 549755813888) (hy : Sz y 549755813888) (hg : ((Nat.gcd x.natAbs y.natAbs : Nat) : Int) = g) :
  Calls Tryz.prog 65 #[.agg #[.int .i64 (sg x), .slice a1 (ln x) c1], .agg #[.int .i64 (sg y), .slice a2 (ln y) c2]] w fun e w' => ∃ a c, e = .returned (.tuple #[.agg #[.int .i64 (sg g), .slice a (ln g) c], .int .i64 0]) ∧ BD G w' a c g ∧ Below w.heap.size w w' := by
 subst hg; exact rgcd_ok h1 h2 hx hy
theorem rdiv_exact {x y q : Int} {a1 a2 : Option Addr} {c1 c2 : Nat} {w : World} (h1 : BD G w a1 c1 x) (h2 : BD G w a2 c2 y) (hx : Sz x 549755813888) (hy : Sz y 549755813888) (hy0 : 0 < y) (h : x = y * q) :
  Calls Tryz.prog 66 #[.agg #[.int .i64 (sg x), .slice a1 (ln x) c1], .agg #[.int .i64 (sg y), .slice a2 (ln y) c2]] w fun e w' => ∃ a c b d, e = .returned (.tuple #[.agg #[.int .i64 (sg q), .slice a (ln q) c], .agg #[.int .i64 (sg 0), .slice b (ln 0) d], .int .i64 0]) ∧ BD G w' a c q ∧ BD G w' b d 0 ∧ Below w.heap.size w w' := by
 have := rdiv_ok h1 h2 hx hy (by omega)
 have hu := dv_unique (x := x) (y := y) (q := q) (r := 0) (by omega) (.inl ⟨by omega, hy0⟩)
 rwa [hu.1, hu.2] at this
theorem sz_one {n : Nat} : Sz 1 (n + 1) := by
 have : ln 1 = 1 := by decide
 show ln 1 ≤ n + 1
 rw [this]; omega
set_option maxRecDepth 100000 in
set_option maxHeartbeats 4000000 in
theorem rnew_pos {x y : Int} {a1 a2 : Option Addr} {c1 c2 : Nat} {w : World} (h1 : BD G w a1 c1 x) (h2 : BD G w a2 c2 y) (hx : Sz x 549755813888) (hy : Sz y 549755813888) (hs : 0 < y) :
    Calls Tryz.prog 24 #[.agg #[.int .i64 (sg x), .slice a1 (ln x) c1], .agg #[.int .i64 (sg y), .slice a2 (ln y) c2]] w fun e w' => ∃ a c b d, e = .returned (.tuple #[.agg #[.int .i64 (sg (nu (Rat.divInt x y))), .slice a (ln (nu (Rat.divInt x y))) c, .int .i64 (sg (de (Rat.divInt x y))), .slice b (ln (de (Rat.divInt x y))) d], .int .i64 0]) ∧ FD G w' a c b d (Rat.divInt x y) ∧ Below w.heap.size w w' := by
  have HX := Lib.hid hx
  have HY := Lib.hid hy
  have H1 := Lib.hid h1
  have H2 := Lib.hid h2
  have e1 : (sg y == 0) = false := by rw [sg_pos hs]; rfl
  have e2 : decide (sg y < 0) = false := by rw [sg_pos hs]; rfl
  obtain ⟨g, hg0, hg, he1, he2⟩ := new_parts (x := x) hs
  obtain ⟨r, hr⟩ : ∃ r, r = Rat.divInt x y := ⟨_, rfl⟩
  rw [← hr] at he1 he2 ⊢
  have HG := Lib.hid hg
  have HG0 := Lib.hid hg0
  have HE1 := Lib.hid he1
  have HE2 := Lib.hid he2
  have HGS : Hid (Sz g 549755813888) := hy.le (by rw [← hg]; have := Nat.gcd_le_right (m := x.natAbs) (n := y.natAbs) (by omega); omega)
  clear hx hy h1 h2 hg hg0 he1 he2 hr hs

  go_enter Tryz.func24, Tryz.ntmps24
  go_wp2_with fail
  refine (rright_ok (x := x) (H1.out.keep (by go_grown)) (HX.out.mono (by omega))).mono ?_
  rintro e w1 ⟨rfl, hb⟩
  have hbx := bx3 w 24 24 26 #[.int .i64 (sg x), .slice a1 (ln x) c1] #[.int .i64 (sg y), .slice a2 (ln y) c2] #[.int .i64 0, .slice none 0 0, .int .i64 0, .slice none 0 0]
  obtain ⟨k0, k1, k2⟩ := hbx
  have K0 := Lib.hid (k0.keep hb)
  have K1 := Lib.hid (k1.keep hb)
  have K2 := Lib.hid (k2.keep hb)
  clear k0 k1 k2
  have hb' : Below w.heap.size w w1 := below_call (by go_grown) hb
  have HB := Lib.hid hb'
  replace H1 := Lib.hid (H1.out.keep hb')
  replace H2 := Lib.hid (H2.out.keep hb')
  clear hb hb'
  refine K0.out.w2 fun aa ab ac ad z0 => ?_
  refine K1.out.w2 fun ae af ag ah z1 => ?_
  refine K2.out.w4 fun ai aj ak al am ao ap aq z2 => ?_
  go_wp2_with fail
  refine (rright_ok (x := y) (H2.out.keep (by go_grown)) (HY.out.mono (by omega))).mono ?_
  rintro e w2 ⟨rfl, hb⟩
  clear aa ab ac ad z0 ae af ag ah z1 ai aj ak al am ao ap aq z2
  have hb' := below_call (w1 := w1) (by go_grown) hb
  replace K0 := Lib.hid (K0.out.keep hb')
  replace K1 := Lib.hid (K1.out.keep hb')
  replace K2 := Lib.hid (K2.out.keep hb')
  replace HB := Lib.hid (below_call HB.out hb')
  replace H1 := Lib.hid (H1.out.keep hb')
  replace H2 := Lib.hid (H2.out.keep hb')
  clear hb hb'
  refine K0.out.w2 fun aa ab ac ad z0 => ?_
  refine K1.out.w2 fun ae af ag ah z1 => ?_
  refine K2.out.w4 fun ai aj ak al am ao ap aq z2 => ?_
  go_wp2_with fail
  refine (rgcd_is (H1.out.keep (by go_grown)) (H2.out.keep (by go_grown)) HX.out HY.out HG.out).mono ?_
  rintro e w3 ⟨a3, c3, rfl, hd3, hb⟩
  clear aa ab ac ad z0 ae af ag ah z1 ai aj ak al am ao ap aq z2
  have hb' := below_call (w1 := w2) (by go_grown) hb
  replace K0 := Lib.hid (K0.out.keep hb')
  replace K1 := Lib.hid (K1.out.keep hb')
  replace K2 := Lib.hid (K2.out.keep hb')
  replace HB := Lib.hid (below_call HB.out hb')
  replace H1 := Lib.hid (H1.out.keep hb')
  replace H2 := Lib.hid (H2.out.keep hb')
  clear hb hb'
  have Hd3 := Lib.hid hd3; clear hd3
  refine K0.out.w2 fun aa ab ac ad z0 => ?_
  refine K1.out.w2 fun ae af ag ah z1 => ?_
  refine K2.out.w4 fun ai aj ak al am ao ap aq z2 => ?_
  go_wp2_with fail
  refine (rdiv_exact (q := nu r) (H1.out.keep (by go_grown)) (Hd3.out.keep (by go_grown)) HX.out HGS.out HG0.out HE1.out).mono ?_
  rintro e w4 ⟨a4, c4, b4, d4, rfl, hd4, -, hb⟩
  clear aa ab ac ad z0 ae af ag ah z1 ai aj ak al am ao ap aq z2
  have hb' := below_call (w1 := w3) (by go_grown) hb
  replace K0 := Lib.hid (K0.out.keep hb')
  replace K1 := Lib.hid (K1.out.keep hb')
  replace K2 := Lib.hid (K2.out.keep hb')
  replace HB := Lib.hid (below_call HB.out hb')
  have K3 := Lib.hid ((Bx.new w3 24 #[.int .i64 (sg g), .slice a3 (ln g) c3]).keep hb)
  replace H1 := Lib.hid (H1.out.keep hb')
  replace H2 := Lib.hid (H2.out.keep hb')
  replace Hd3 := Lib.hid (Hd3.out.keep hb')
  clear hb hb'
  have Hd4 := Lib.hid hd4; clear hd4
  refine K0.out.w2 fun aa ab ac ad z0 => ?_
  refine K1.out.w2 fun ae af ag ah z1 => ?_
  refine K2.out.w4 fun ai aj ak al am ao ap aq z2 => ?_
  refine K3.out.w2 fun ar au av aw z3 => ?_
  go_wp2_with fail
  refine (rdiv_exact (q := de r) (H2.out.keep (by go_grown)) (Hd3.out.keep (by go_grown)) HY.out HGS.out HG0.out HE2.out).mono ?_
  rintro e w5 ⟨a5, c5, b5, d5, rfl, hd5, -, hb⟩
  clear aa ab ac ad z0 ae af ag ah z1 ai aj ak al am ao ap aq z2 ar au av aw z3
  have hb' := below_call (w1 := w4) (by go_grown) hb
  replace K0 := Lib.hid (K0.out.keep hb')
  replace K1 := Lib.hid (K1.out.keep hb')
  replace K2 := Lib.hid (K2.out.keep hb')
  replace K3 := Lib.hid (K3.out.keep hb')
  replace HB := Lib.hid (below_call HB.out hb')
  have hnb := bx2 w4 24 24 #[.int .i64 (sg (nu r)), .slice a4 (ln (nu r)) c4] #[.int .i64 (sg 0), .slice b4 (ln 0) d4]
  obtain ⟨k4, k5⟩ := hnb
  have K4 := Lib.hid (k4.keep hb)
  have K5 := Lib.hid (k5.keep hb)
  clear k4 k5
  replace H1 := Lib.hid (H1.out.keep hb')
  replace H2 := Lib.hid (H2.out.keep hb')
  replace Hd3 := Lib.hid (Hd3.out.keep hb')
  replace Hd4 := Lib.hid (Hd4.out.keep hb')
  clear hb hb'
  have Hd5 := Lib.hid hd5; clear hd5
  refine K0.out.w2 fun aa ab ac ad z0 => ?_
  refine K1.out.w2 fun ae af ag ah z1 => ?_
  refine K2.out.w4 fun ai aj ak al am ao ap aq z2 => ?_
  refine K3.out.w2 fun ar au av aw z3 => ?_
  refine K4.out.w2 fun ax ay az ba z4 => ?_
  refine K5.out.w2 fun bb bc bd bf z5 => ?_
  go_wp2_with fail
  have HF : Hid (FD G w5 a4 c4 a5 c5 r) := FD.mk Hd4.out Hd5.out
  clear aa ab ac ad z0 ae af ag ah z1 ai aj ak al am ao ap aq z2 ar au av aw z3 ax ay az ba z4 bb bc bd bf z5
  refine bodyPost_ret (results_box2 rfl _ _ (w.heap.size + 1 + 1) 26 _ _ _ rfl (((K2.out.set4 _ _ _ _).keep (below_alloc _ _)).keep (below_alloc _ _)) Tryz.underlying26 rfl (by kernel_rfl)) rfl ?_
  refine ⟨a4, c4, a5, c5, rfl, ?_, ?_⟩
  · exact (((HF.out.far0 K2.out zb4 (only_setCell (only_setCell (only_setCell (only_setCell (World.grownBy.refl _ _) _) _) _) _)).keep (below_alloc _ _)).keep (below_alloc _ _))
  · exact (Below.alloc (Below.alloc (Below.setCell (Below.setCell (Below.setCell (Below.setCell HB.out (by simp; try omega) _) (by simp; try omega) _) (by simp; try omega) _) (by simp; try omega) _) (by have := HB.out.size; simp [World.setCell]; omega) _) (by have := HB.out.size; simp [World.setCell]; omega) _)
theorem rcompare_one {a1 a2 : Option Addr} {c1 c2 : Nat} {w : World} (h1 : BD G w a1 c1 1) (h2 : BD G w a2 c2 1) :
  Calls Tryz.prog 68 #[.agg #[.int .i64 (sg 1), .slice a1 (ln 1) c1], .agg #[.int .i64 (sg 1), .slice a2 (ln 1) c2]] w fun e w' => e = .returned (.int .i64 0) ∧ Below w.heap.size w w' := by
 have := rcompare_ok h1 h2 sz_one sz_one
 rwa [ord_eq] at this
set_option maxRecDepth 100000 in
set_option maxHeartbeats 4000000 in
theorem rfright_ok {q : Rat} {a1 b1 : Option Addr} {c1 d1 : Nat} {w : World} (h1 : FD G w a1 c1 b1 d1 q) (hx : Fz q 549755813888) :
  Calls Tryz.prog 26 #[.agg #[.int .i64 (sg (nu q)), .slice a1 (ln (nu q)) c1, .int .i64 (sg (de q)), .slice b1 (ln (de q)) d1]] w fun e w' => e = .returned (.bool true) ∧ Below w.heap.size w w' := by
 have HX := Lib.hid hx
 have H1 := Lib.hid h1
 have e1 : decide (sg (de q) < 1) = false := by rw [sg_de]; rfl
 clear hx h1

 go_enter Tryz.func26, Tryz.ntmps26
 go_wp2_with fail
 refine (rright_ok (x := nu q) (H1.out.keep (by go_grown)).n (HX.out.1.mono (by omega))).mono ?_
 rintro e w1 ⟨rfl, hb⟩
 have hbx := bx1 w 26 #[.int .i64 (sg (nu q)), .slice a1 (ln (nu q)) c1, .int .i64 (sg (de q)), .slice b1 (ln (de q)) d1]
 have k0 := hbx; clear hbx
 have K0 := Lib.hid (k0.keep hb)
 clear k0
 have hb' : Below w.heap.size w w1 := below_call (by go_grown) hb
 have HB := Lib.hid hb'
 replace H1 := Lib.hid (H1.out.keep hb')
 clear hb hb'
 refine K0.out.w4 fun aa ab ac ad ae af ag ah z0 => ?_
 go_wp2_with fail
 refine (rright_ok (x := de q) (H1.out.keep (by go_grown)).d (HX.out.2.mono (by omega))).mono ?_
 rintro e w2 ⟨rfl, hb⟩
 clear aa ab ac ad ae af ag ah z0
 have hb' := below_call (w1 := w1) (by go_grown) hb
 replace K0 := Lib.hid (K0.out.keep hb')
 replace HB := Lib.hid (below_call HB.out hb')
 replace H1 := Lib.hid (H1.out.keep hb')
 clear hb hb'
 refine K0.out.w4 fun aa ab ac ad ae af ag ah z0 => ?_
 go_wp2_with fail
 refine (rgcd_is (g := 1) (H1.out.keep (by go_grown)).n (H1.out.keep (by go_grown)).d HX.out.1 HX.out.2 (gcd_one q)).mono ?_
 rintro e w3 ⟨a3, c3, rfl, hd3, hb⟩
 clear aa ab ac ad ae af ag ah z0
 have hb' := below_call (w1 := w2) (by go_grown) hb
 replace K0 := Lib.hid (K0.out.keep hb')
 replace HB := Lib.hid (below_call HB.out hb')
 replace H1 := Lib.hid (H1.out.keep hb')
 clear hb hb'
 have Hd3 := Lib.hid hd3; clear hd3
 refine K0.out.w4 fun aa ab ac ad ae af ag ah z0 => ?_
 go_wp2_with fail
 clear aa ab ac ad ae af ag ah z0
 obtain ⟨w4, hwn⟩ : ∃ x, x = (w3.alloc (.cells #[.int .i64 (sg 1), .slice a3 (ln 1) c3] 24)) := ⟨_, rfl⟩
 rw [← hwn]
 have hbn : Below w3.heap.size w3 w4 := by rw [hwn]; exact (Below.alloc (Below.refl _ _) (by simp) _)
 have K1 : Hid (Bx w4 w3.heap.size 24 #[.int .i64 (sg 1), .slice a3 (ln 1) c3]) := by show Bx _ _ _ _; rw [hwn]; exact bx1 w3 _ _
 replace K0 := Lib.hid (K0.out.keep hbn)
 replace HB := Lib.hid (below_call HB.out hbn)
 replace H1 := Lib.hid (H1.out.keep hbn)
 replace Hd3 := Lib.hid (Hd3.out.keep hbn)
 clear hbn hwn
 refine K0.out.w4 fun aa ab ac ad ae af ag ah z0 => ?_
 refine K1.out.w2 fun ai aj ak al z1 => ?_
 clear aa ab ac ad ae af ag ah z0 ai aj ak al z1
 have mk : Hid (∀ w', Below w4.heap.size w4 w' → w'.cell? ⟨w.heap.size, 0, none⟩ = some (.int .i64 (sg (nu q))) ∧ w'.cell? ⟨w.heap.size, 1, none⟩ = some (.slice a1 (ln (nu q)) c1) ∧ w'.cell? ⟨w.heap.size, 2, none⟩ = some (.int .i64 (sg (de q))) ∧ w'.cell? ⟨w.heap.size, 3, none⟩ = some (.slice b1 (ln (de q)) d1) ∧ w'.cell? ⟨w3.heap.size, 0, none⟩ = some (.int .i64 (sg 1)) ∧ w'.cell? ⟨w3.heap.size, 1, none⟩ = some (.slice a3 (ln 1) c3) ∧ Below w4.heap.size w4 w') := fun w' h => ((K0.out.keep h).t4 ((K1.out.keep h).t2 (h)))
 have hs0 : Below w4.heap.size w4 w4.drew := (Below.refl _ _).drew
 have HS0 : Hid (Below w4.heap.size w4 w4.drew) := (Below.refl _ _).drew
 have tok0 : True := trivial
 have tok1 : True := trivial
 go_region_held3 (fun w' => w'.cell? ⟨w.heap.size, 0, none⟩ = some (.int .i64 (sg (nu q))) ∧ w'.cell? ⟨w.heap.size, 1, none⟩ = some (.slice a1 (ln (nu q)) c1) ∧ w'.cell? ⟨w.heap.size, 2, none⟩ = some (.int .i64 (sg (de q))) ∧ w'.cell? ⟨w.heap.size, 3, none⟩ = some (.slice b1 (ln (de q)) d1) ∧ w'.cell? ⟨w3.heap.size, 0, none⟩ = some (.int .i64 (sg 1)) ∧ w'.cell? ⟨w3.heap.size, 1, none⟩ = some (.slice a3 (ln 1) c3) ∧ Below w4.heap.size w4 w')
  (first | exact mk.out _ (by assumption) | exact mk.out _ (Below.alloc (by assumption) (Below.size (by assumption)) _))
  (first
   | (go_at_call 56; have _t := tok0; refine (rof_ok (G := G) 1 w4.drew (by decide)).mono ?_; rintro e w5 ⟨a4, c4, rfl, hd4, hb⟩; clear tok0 _t; have hs1 := below_call hs0 hb; have HS1 := Lib.hid (below_call HS0.out hb); clear hb; have Hd4 := Lib.hid hd4; clear hd4)
   | (go_at_call 68; have _t := tok1; refine (rcompare_one (Hd3.out.keep HS1.out) Hd4.out).mono ?_; rintro e w6 ⟨rfl, hb⟩; clear tok1 _t; have hs2 := below_call hs1 hb; have HS2 := Lib.hid (below_call HS1.out hb); have Hd4 := Lib.hid (Hd4.out.keep hb); clear hb))
 replace K0 := Lib.hid (K0.out.keep HS2.out)
 replace K1 := Lib.hid (K1.out.keep HS2.out)
 replace HB := Lib.hid (below_call HB.out HS2.out)
 replace H1 := Lib.hid (H1.out.keep HS2.out)
 replace Hd3 := Lib.hid (Hd3.out.keep HS2.out)
 clear mk hs0 HS0 hs1 HS1 hs2 HS2
 refine K0.out.w4 fun aa ab ac ad ae af ag ah z0 => ?_
 refine K1.out.w2 fun ai aj ak al z1 => ?_
 go_wp2_with fail
 go_ret
 exact ⟨rfl, HB.out⟩
set_option maxRecDepth 100000 in
set_option maxHeartbeats 4000000 in
theorem rfof_pos (x y : Int) (w : World) (hx : -9223372036854775808 ≤ x ∧ x ≤ 9223372036854775807) (hy : -9223372036854775808 ≤ y ∧ y ≤ 9223372036854775807) (hp : 0 < y) :
    Calls Tryz.prog 20 #[.int .i64 x, .int .i64 y] w fun e w' => ∃ a c b d, e = .returned (.tuple #[.agg #[.int .i64 (sg (nu (Rat.divInt x y))), .slice a (ln (nu (Rat.divInt x y))) c, .int .i64 (sg (de (Rat.divInt x y))), .slice b (ln (de (Rat.divInt x y))) d], .int .i64 0]) ∧ FD G w' a c b d (Rat.divInt x y) ∧ Below w.heap.size w w' := by
  have HX := Lib.hid hx
  have HY := Lib.hid hy
  have HP := Lib.hid hp
  clear hx hy hp

  go_enter Tryz.func20, Tryz.ntmps20
  go_wp2_with fail
  refine (rof_ok (G := G) x _ HX.out).mono ?_
  rintro e w1 ⟨a1, c1, rfl, hd1, hb⟩
  have hbx := bx1 w 26 #[.int .i64 0, .slice none 0 0, .int .i64 0, .slice none 0 0]
  have k0 := hbx; clear hbx
  have K0 := Lib.hid (k0.keep hb)
  clear k0
  have hb' : Below w.heap.size w w1 := below_call (by go_grown) hb
  have HB := Lib.hid hb'
  clear hb hb'
  have Hd1 := Lib.hid hd1; clear hd1
  refine K0.out.w4 fun aa ab ac ad ae af ag ah z0 => ?_
  go_wp2_with fail
  refine (rof_ok (G := G) y _ HY.out).mono ?_
  rintro e w2 ⟨a2, c2, rfl, hd2, hb⟩
  clear aa ab ac ad ae af ag ah z0
  have hb' := below_call (w1 := w1) (by go_grown) hb
  replace K0 := Lib.hid (K0.out.keep hb')
  replace HB := Lib.hid (below_call HB.out hb')
  replace Hd1 := Lib.hid (Hd1.out.keep hb')
  clear hb hb'
  have Hd2 := Lib.hid hd2; clear hd2
  refine K0.out.w4 fun aa ab ac ad ae af ag ah z0 => ?_
  go_wp2_with fail
  refine (rnew_pos (Hd1.out.keep (by go_grown)) (Hd2.out.keep (by go_grown)) (sz_int HX.out) (sz_int HY.out) HP.out).mono ?_
  rintro e w3 ⟨a3, c3, b3, d3, rfl, hf3, hb⟩
  clear aa ab ac ad ae af ag ah z0
  have hb' := below_call (w1 := w2) (by go_grown) hb
  replace K0 := Lib.hid (K0.out.keep hb')
  replace HB := Lib.hid (below_call HB.out hb')
  replace Hd1 := Lib.hid (Hd1.out.keep hb')
  replace Hd2 := Lib.hid (Hd2.out.keep hb')
  clear hb hb'
  have Hf3 := Lib.hid hf3; clear hf3
  refine K0.out.w4 fun aa ab ac ad ae af ag ah z0 => ?_
  go_wp2_with fail
  clear aa ab ac ad ae af ag ah z0
  refine bodyPost_ret (results_box2 rfl _ _ w.heap.size 26 _ _ _ rfl (K0.out.set4 _ _ _ _) Tryz.underlying26 rfl (by kernel_rfl)) rfl ?_
  refine ⟨a3, c3, b3, d3, rfl, ?_, ?_⟩
  · exact (Hf3.out.far0 K0.out zb4 (only_setCell (only_setCell (only_setCell (only_setCell (World.grownBy.refl _ _) _) _) _) _))
  · exact (Below.setCell (Below.setCell (Below.setCell (Below.setCell HB.out (by simp; try omega) _) (by simp; try omega) _) (by simp; try omega) _) (by simp; try omega) _)
theorem rfof_one (x : Int) (w : World) (hx : -9223372036854775808 ≤ x ∧ x ≤ 9223372036854775807) :
  Calls Tryz.prog 20 #[.int .i64 x, .int .i64 1] w fun e w' => ∃ a c b d, e = .returned (.tuple #[.agg #[.int .i64 (sg (nu (x : Rat))), .slice a (ln (nu (x : Rat))) c, .int .i64 (sg (de (x : Rat))), .slice b (ln (de (x : Rat))) d], .int .i64 0]) ∧ FD G w' a c b d (x : Rat) ∧ Below w.heap.size w w' := by
 have := rfof_pos (G := G) x 1 w hx (by decide) (by decide)
 rwa [show Rat.divInt x 1 = (x : Rat) from divInt_parts (x : Rat)] at this
set_option maxRecDepth 100000 in
set_option maxHeartbeats 4000000 in
theorem rfint_ok (x : Int) (w : World) (hx : -9223372036854775808 ≤ x ∧ x ≤ 9223372036854775807) :
    Calls Tryz.prog 39 #[.int .i64 x] w fun e w' => ∃ a c b d, e = .returned (.agg #[.int .i64 (sg (nu (x : Rat))), .slice a (ln (nu (x : Rat))) c, .int .i64 (sg (de (x : Rat))), .slice b (ln (de (x : Rat))) d]) ∧ FD G w' a c b d (x : Rat) ∧ Below w.heap.size w w' := by
  have HX := Lib.hid hx
  clear hx

  go_enter Tryz.func39, Tryz.ntmps39
  go_wp2_with fail
  refine (rfof_one (G := G) x _ HX.out).mono ?_
  rintro e w1 ⟨a3, c3, b3, d3, rfl, hf3, hb⟩
  have hbx := bx1 w 26 #[.int .i64 0, .slice none 0 0, .int .i64 0, .slice none 0 0]
  have k0 := hbx; clear hbx
  have K0 := Lib.hid (k0.keep hb)
  clear k0
  have hb' : Below w.heap.size w w1 := below_call (by go_grown) hb
  have HB := Lib.hid hb'
  clear hb hb'
  have Hf3 := Lib.hid hf3; clear hf3
  refine K0.out.w4 fun aa ab ac ad ae af ag ah z0 => ?_
  go_wp2_with fail
  clear aa ab ac ad ae af ag ah z0
  refine bodyPost_ret (results_box1 rfl _ _ w.heap.size 26 _ _ _ rfl ((K0.out.set4 _ _ _ _).keep (below_alloc _ _)) Tryz.underlying26 rfl (by kernel_rfl)) rfl ?_
  refine ⟨a3, c3, b3, d3, rfl, ?_, ?_⟩
  · exact ((Hf3.out.far0 K0.out zb4 (only_setCell (only_setCell (only_setCell (only_setCell (World.grownBy.refl _ _) _) _) _) _)).keep (below_alloc _ _))
  · exact (Below.alloc (Below.setCell (Below.setCell (Below.setCell (Below.setCell HB.out (by simp; try omega) _) (by simp; try omega) _) (by simp; try omega) _) (by simp; try omega) _) (by have := HB.out.size; simp [World.setCell]; omega) _)
end Go.Proofs.YtcfmakpckdicjaaGreatDoor
namespace Go.Proofs.YtcfmakpckdicjaaGreatDoor
open Go.RowKit
variable {G : Nat}

set_option maxRecDepth 100000 in
set_option maxHeartbeats 4000000 in
theorem rfsign_ok {q : Rat} {a1 b1 : Option Addr} {c1 d1 : Nat} {w : World} (h1 : FD G w a1 c1 b1 d1 q) (hx : Fz q 549755813888) :
  Calls Tryz.prog 37 #[.agg #[.int .i64 (sg (nu q)), .slice a1 (ln (nu q)) c1, .int .i64 (sg (de q)), .slice b1 (ln (de q)) d1]] w fun e w' => e = .returned (.int .i64 (sg (nu q))) ∧ Below w.heap.size w w' := by
 have HX := Lib.hid hx
 have H1 := Lib.hid h1
 clear hx h1

 go_enter Tryz.func37, Tryz.ntmps37
 go_wp2_with fail
 refine (rfright_ok (q := q) (H1.out.keep (by go_grown)) HX.out).mono ?_
 rintro e w1 ⟨rfl, hb⟩
 have hbx := bx1 w 26 #[.int .i64 (sg (nu q)), .slice a1 (ln (nu q)) c1, .int .i64 (sg (de q)), .slice b1 (ln (de q)) d1]
 have k0 := hbx; clear hbx
 have K0 := Lib.hid (k0.keep hb)
 clear k0
 have hb' : Below w.heap.size w w1 := below_call (by go_grown) hb
 have HB := Lib.hid hb'
 replace H1 := Lib.hid (H1.out.keep hb')
 clear hb hb'
 refine K0.out.w4 fun aa ab ac ad ae af ag ah z0 => ?_
 go_wp2_with fail
 go_ret
 exact ⟨rfl, HB.out⟩
end Go.Proofs.YtcfmakpckdicjaaGreatDoor
namespace Go.Proofs.YtcfmakpckdicjaaGreatDoor
open Go.RowKit
variable {G : Nat}

theorem sub_parts (q r : Rat) : Rat.divInt (nu q * de r - nu r * de q) (de q * de r) = q - r := by
 have := add_parts q (-r)
 rw [Rat.sub_eq_add_neg, ← this]
 show _ = Rat.divInt (nu q * de r + -nu r * de q) (de q * de r)
 congr 1; rw [Int.neg_mul]; omega
set_option maxRecDepth 100000 in
set_option maxHeartbeats 4000000 in
theorem rfadd_ok {q r : Rat} {a1 b1 a2 b2 : Option Addr} {c1 d1 c2 d2 : Nat} {w : World} (h1 : FD G w a1 c1 b1 d1 q) (h2 : FD G w a2 c2 b2 d2 r) (hx : Fz q 137438953472) (hy : Fz r 137438953472) :
    Calls Tryz.prog 11 #[.agg #[.int .i64 (sg (nu q)), .slice a1 (ln (nu q)) c1, .int .i64 (sg (de q)), .slice b1 (ln (de q)) d1], .agg #[.int .i64 (sg (nu r)), .slice a2 (ln (nu r)) c2, .int .i64 (sg (de r)), .slice b2 (ln (de r)) d2]] w fun e w' => ∃ a c b d, e = .returned (.tuple #[.agg #[.int .i64 (sg (nu (q + r))), .slice a (ln (nu (q + r))) c, .int .i64 (sg (de (q + r))), .slice b (ln (de (q + r))) d], .int .i64 0]) ∧ FD G w' a c b d (q + r) ∧ Below w.heap.size w w' := by
  have HX := Lib.hid hx
  have HY := Lib.hid hy
  have H1 := Lib.hid h1
  have H2 := Lib.hid h2
  have HQR := Lib.hid (add_parts q r)
  clear hx hy h1 h2

  go_enter Tryz.func11, Tryz.ntmps11
  go_wp2_with fail
  refine (rfright_ok (q := q) (H1.out.keep (by go_grown)) (HX.out.mono (by omega))).mono ?_
  rintro e w1 ⟨rfl, hb⟩
  have hbx := bx3 w 26 26 26 #[.int .i64 (sg (nu q)), .slice a1 (ln (nu q)) c1, .int .i64 (sg (de q)), .slice b1 (ln (de q)) d1] #[.int .i64 (sg (nu r)), .slice a2 (ln (nu r)) c2, .int .i64 (sg (de r)), .slice b2 (ln (de r)) d2] #[.int .i64 0, .slice none 0 0, .int .i64 0, .slice none 0 0]
  obtain ⟨k0, k1, k2⟩ := hbx
  have K0 := Lib.hid (k0.keep hb)
  have K1 := Lib.hid (k1.keep hb)
  have K2 := Lib.hid (k2.keep hb)
  clear k0 k1 k2
  have hb' : Below w.heap.size w w1 := below_call (by go_grown) hb
  have HB := Lib.hid hb'
  replace H1 := Lib.hid (H1.out.keep hb')
  replace H2 := Lib.hid (H2.out.keep hb')
  clear hb hb'
  refine K0.out.w4 fun aa ab ac ad ae af ag ah z0 => ?_
  refine K1.out.w4 fun ai aj ak al am ao ap aq z1 => ?_
  refine K2.out.w4 fun ar au av aw ax ay az ba z2 => ?_
  go_wp2_with fail
  refine (rfright_ok (q := r) (H2.out.keep (by go_grown)) (HY.out.mono (by omega))).mono ?_
  rintro e w2 ⟨rfl, hb⟩
  clear aa ab ac ad ae af ag ah z0 ai aj ak al am ao ap aq z1 ar au av aw ax ay az ba z2
  have hb' := below_call (w1 := w1) (by go_grown) hb
  replace K0 := Lib.hid (K0.out.keep hb')
  replace K1 := Lib.hid (K1.out.keep hb')
  replace K2 := Lib.hid (K2.out.keep hb')
  replace HB := Lib.hid (below_call HB.out hb')
  replace H1 := Lib.hid (H1.out.keep hb')
  replace H2 := Lib.hid (H2.out.keep hb')
  clear hb hb'
  refine K0.out.w4 fun aa ab ac ad ae af ag ah z0 => ?_
  refine K1.out.w4 fun ai aj ak al am ao ap aq z1 => ?_
  refine K2.out.w4 fun ar au av aw ax ay az ba z2 => ?_
  go_wp2_with fail
  refine (rmul_ok (x := nu q) (y := de r) (H1.out.keep (by go_grown)).n (H2.out.keep (by go_grown)).d (HX.out.1.mono (by omega)) (HY.out.2.mono (by omega))).mono ?_
  rintro e w3 ⟨a3, c3, rfl, hd3, hb⟩
  clear aa ab ac ad ae af ag ah z0 ai aj ak al am ao ap aq z1 ar au av aw ax ay az ba z2
  have hb' := below_call (w1 := w2) (by go_grown) hb
  replace K0 := Lib.hid (K0.out.keep hb')
  replace K1 := Lib.hid (K1.out.keep hb')
  replace K2 := Lib.hid (K2.out.keep hb')
  replace HB := Lib.hid (below_call HB.out hb')
  replace H1 := Lib.hid (H1.out.keep hb')
  replace H2 := Lib.hid (H2.out.keep hb')
  clear hb hb'
  have Hd3 := Lib.hid hd3; clear hd3
  refine K0.out.w4 fun aa ab ac ad ae af ag ah z0 => ?_
  refine K1.out.w4 fun ai aj ak al am ao ap aq z1 => ?_
  refine K2.out.w4 fun ar au av aw ax ay az ba z2 => ?_
  go_wp2_with fail
  refine (rmul_ok (x := nu r) (y := de q) (H2.out.keep (by go_grown)).n (H1.out.keep (by go_grown)).d (HY.out.1.mono (by omega)) (HX.out.2.mono (by omega))).mono ?_
  rintro e w4 ⟨a4, c4, rfl, hd4, hb⟩
  clear aa ab ac ad ae af ag ah z0 ai aj ak al am ao ap aq z1 ar au av aw ax ay az ba z2
  have hb' := below_call (w1 := w3) (by go_grown) hb
  replace K0 := Lib.hid (K0.out.keep hb')
  replace K1 := Lib.hid (K1.out.keep hb')
  replace K2 := Lib.hid (K2.out.keep hb')
  replace HB := Lib.hid (below_call HB.out hb')
  have K3 := Lib.hid ((Bx.new w3 24 #[.int .i64 (sg (nu q * de r)), .slice a3 (ln (nu q * de r)) c3]).keep hb)
  replace H1 := Lib.hid (H1.out.keep hb')
  replace H2 := Lib.hid (H2.out.keep hb')
  replace Hd3 := Lib.hid (Hd3.out.keep hb')
  clear hb hb'
  have Hd4 := Lib.hid hd4; clear hd4
  refine K0.out.w4 fun aa ab ac ad ae af ag ah z0 => ?_
  refine K1.out.w4 fun ai aj ak al am ao ap aq z1 => ?_
  refine K2.out.w4 fun ar au av aw ax ay az ba z2 => ?_
  refine K3.out.w2 fun bb bc bd bf z3 => ?_
  go_wp2_with fail
  refine (rmul_ok (x := de q) (y := de r) (H1.out.keep (by go_grown)).d (H2.out.keep (by go_grown)).d (HX.out.2.mono (by omega)) (HY.out.2.mono (by omega))).mono ?_
  rintro e w5 ⟨a5, c5, rfl, hd5, hb⟩
  clear aa ab ac ad ae af ag ah z0 ai aj ak al am ao ap aq z1 ar au av aw ax ay az ba z2 bb bc bd bf z3
  have hb' := below_call (w1 := w4) (by go_grown) hb
  replace K0 := Lib.hid (K0.out.keep hb')
  replace K1 := Lib.hid (K1.out.keep hb')
  replace K2 := Lib.hid (K2.out.keep hb')
  replace K3 := Lib.hid (K3.out.keep hb')
  replace HB := Lib.hid (below_call HB.out hb')
  have K4 := Lib.hid ((Bx.new w4 24 #[.int .i64 (sg (nu r * de q)), .slice a4 (ln (nu r * de q)) c4]).keep hb)
  replace H1 := Lib.hid (H1.out.keep hb')
  replace H2 := Lib.hid (H2.out.keep hb')
  replace Hd3 := Lib.hid (Hd3.out.keep hb')
  replace Hd4 := Lib.hid (Hd4.out.keep hb')
  clear hb hb'
  have Hd5 := Lib.hid hd5; clear hd5
  refine K0.out.w4 fun aa ab ac ad ae af ag ah z0 => ?_
  refine K1.out.w4 fun ai aj ak al am ao ap aq z1 => ?_
  refine K2.out.w4 fun ar au av aw ax ay az ba z2 => ?_
  refine K3.out.w2 fun bb bc bd bf z3 => ?_
  refine K4.out.w2 fun bg bh bi bj z4 => ?_
  go_wp2_with fail
  refine (radd_ok (Hd3.out.keep (by go_grown)) (Hd4.out.keep (by go_grown)) ((HX.out.1.mul HY.out.2).mono (by omega)) ((HY.out.1.mul HX.out.2).mono (by omega))).mono ?_
  rintro e w6 ⟨a6, c6, rfl, hd6, hb⟩
  clear aa ab ac ad ae af ag ah z0 ai aj ak al am ao ap aq z1 ar au av aw ax ay az ba z2 bb bc bd bf z3 bg bh bi bj z4
  have hb' := below_call (w1 := w5) (by go_grown) hb
  replace K0 := Lib.hid (K0.out.keep hb')
  replace K1 := Lib.hid (K1.out.keep hb')
  replace K2 := Lib.hid (K2.out.keep hb')
  replace K3 := Lib.hid (K3.out.keep hb')
  replace K4 := Lib.hid (K4.out.keep hb')
  replace HB := Lib.hid (below_call HB.out hb')
  have K5 := Lib.hid ((Bx.new w5 24 #[.int .i64 (sg (de q * de r)), .slice a5 (ln (de q * de r)) c5]).keep hb)
  replace H1 := Lib.hid (H1.out.keep hb')
  replace H2 := Lib.hid (H2.out.keep hb')
  replace Hd3 := Lib.hid (Hd3.out.keep hb')
  replace Hd4 := Lib.hid (Hd4.out.keep hb')
  replace Hd5 := Lib.hid (Hd5.out.keep hb')
  clear hb hb'
  have Hd6 := Lib.hid hd6; clear hd6
  refine K0.out.w4 fun aa ab ac ad ae af ag ah z0 => ?_
  refine K1.out.w4 fun ai aj ak al am ao ap aq z1 => ?_
  refine K2.out.w4 fun ar au av aw ax ay az ba z2 => ?_
  refine K3.out.w2 fun bb bc bd bf z3 => ?_
  refine K4.out.w2 fun bg bh bi bj z4 => ?_
  refine K5.out.w2 fun bk bl bm bn z5 => ?_
  go_wp2_with fail
  refine (rnew_pos (Hd6.out.keep (by go_grown)) (Hd5.out.keep (by go_grown)) (((HX.out.1.mul HY.out.2).add ((HY.out.1.mul HX.out.2).mono (by omega))).mono (by omega)) ((HX.out.2.mul HY.out.2).mono (by omega)) (Int.mul_pos (de_pos q) (de_pos r))).mono ?_
  rintro e w7 ⟨a8, c8, b8, d8, rfl, hf8, hb⟩
  clear aa ab ac ad ae af ag ah z0 ai aj ak al am ao ap aq z1 ar au av aw ax ay az ba z2 bb bc bd bf z3 bg bh bi bj z4 bk bl bm bn z5
  have hb' := below_call (w1 := w6) (by go_grown) hb
  replace K0 := Lib.hid (K0.out.keep hb')
  replace K1 := Lib.hid (K1.out.keep hb')
  replace K2 := Lib.hid (K2.out.keep hb')
  replace K3 := Lib.hid (K3.out.keep hb')
  replace K4 := Lib.hid (K4.out.keep hb')
  replace K5 := Lib.hid (K5.out.keep hb')
  replace HB := Lib.hid (below_call HB.out hb')
  have K6 := Lib.hid ((Bx.new w6 24 #[.int .i64 (sg (nu q * de r + nu r * de q)), .slice a6 (ln (nu q * de r + nu r * de q)) c6]).keep hb)
  replace H1 := Lib.hid (H1.out.keep hb')
  replace H2 := Lib.hid (H2.out.keep hb')
  replace Hd3 := Lib.hid (Hd3.out.keep hb')
  replace Hd4 := Lib.hid (Hd4.out.keep hb')
  replace Hd5 := Lib.hid (Hd5.out.keep hb')
  replace Hd6 := Lib.hid (Hd6.out.keep hb')
  clear hb hb'
  have Hf8 := Lib.hid hf8; clear hf8
  refine K0.out.w4 fun aa ab ac ad ae af ag ah z0 => ?_
  refine K1.out.w4 fun ai aj ak al am ao ap aq z1 => ?_
  refine K2.out.w4 fun ar au av aw ax ay az ba z2 => ?_
  refine K3.out.w2 fun bb bc bd bf z3 => ?_
  refine K4.out.w2 fun bg bh bi bj z4 => ?_
  refine K5.out.w2 fun bk bl bm bn z5 => ?_
  refine K6.out.w2 fun bo bp bq br z6 => ?_
  rw [HQR.out]
  go_wp2_with fail
  rw [HQR.out] at Hf8
  clear aa ab ac ad ae af ag ah z0 ai aj ak al am ao ap aq z1 ar au av aw ax ay az ba z2 bb bc bd bf z3 bg bh bi bj z4 bk bl bm bn z5 bo bp bq br z6
  refine bodyPost_ret (results_box2 rfl _ _ (w.heap.size + 1 + 1) 26 _ _ _ rfl (K2.out.set4 _ _ _ _) Tryz.underlying26 rfl (by kernel_rfl)) rfl ?_
  refine ⟨a8, c8, b8, d8, rfl, ?_, ?_⟩
  · exact (Hf8.out.far0 K2.out zb4 (only_setCell (only_setCell (only_setCell (only_setCell (World.grownBy.refl _ _) _) _) _) _))
  · exact (Below.setCell (Below.setCell (Below.setCell (Below.setCell HB.out (by simp; try omega) _) (by simp; try omega) _) (by simp; try omega) _) (by simp; try omega) _)
set_option maxRecDepth 100000 in
set_option maxHeartbeats 4000000 in
theorem rfsub_ok {q r : Rat} {a1 b1 a2 b2 : Option Addr} {c1 d1 c2 d2 : Nat} {w : World} (h1 : FD G w a1 c1 b1 d1 q) (h2 : FD G w a2 c2 b2 d2 r) (hx : Fz q 137438953472) (hy : Fz r 137438953472) :
    Calls Tryz.prog 13 #[.agg #[.int .i64 (sg (nu q)), .slice a1 (ln (nu q)) c1, .int .i64 (sg (de q)), .slice b1 (ln (de q)) d1], .agg #[.int .i64 (sg (nu r)), .slice a2 (ln (nu r)) c2, .int .i64 (sg (de r)), .slice b2 (ln (de r)) d2]] w fun e w' => ∃ a c b d, e = .returned (.tuple #[.agg #[.int .i64 (sg (nu (q - r))), .slice a (ln (nu (q - r))) c, .int .i64 (sg (de (q - r))), .slice b (ln (de (q - r))) d], .int .i64 0]) ∧ FD G w' a c b d (q - r) ∧ Below w.heap.size w w' := by
  have HX := Lib.hid hx
  have HY := Lib.hid hy
  have H1 := Lib.hid h1
  have H2 := Lib.hid h2
  have HQR := Lib.hid (sub_parts q r)
  clear hx hy h1 h2

  go_enter Tryz.func13, Tryz.ntmps13
  go_wp2_with fail
  refine (rfright_ok (q := q) (H1.out.keep (by go_grown)) (HX.out.mono (by omega))).mono ?_
  rintro e w1 ⟨rfl, hb⟩
  have hbx := bx3 w 26 26 26 #[.int .i64 (sg (nu q)), .slice a1 (ln (nu q)) c1, .int .i64 (sg (de q)), .slice b1 (ln (de q)) d1] #[.int .i64 (sg (nu r)), .slice a2 (ln (nu r)) c2, .int .i64 (sg (de r)), .slice b2 (ln (de r)) d2] #[.int .i64 0, .slice none 0 0, .int .i64 0, .slice none 0 0]
  obtain ⟨k0, k1, k2⟩ := hbx
  have K0 := Lib.hid (k0.keep hb)
  have K1 := Lib.hid (k1.keep hb)
  have K2 := Lib.hid (k2.keep hb)
  clear k0 k1 k2
  have hb' : Below w.heap.size w w1 := below_call (by go_grown) hb
  have HB := Lib.hid hb'
  replace H1 := Lib.hid (H1.out.keep hb')
  replace H2 := Lib.hid (H2.out.keep hb')
  clear hb hb'
  refine K0.out.w4 fun aa ab ac ad ae af ag ah z0 => ?_
  refine K1.out.w4 fun ai aj ak al am ao ap aq z1 => ?_
  refine K2.out.w4 fun ar au av aw ax ay az ba z2 => ?_
  go_wp2_with fail
  refine (rfright_ok (q := r) (H2.out.keep (by go_grown)) (HY.out.mono (by omega))).mono ?_
  rintro e w2 ⟨rfl, hb⟩
  clear aa ab ac ad ae af ag ah z0 ai aj ak al am ao ap aq z1 ar au av aw ax ay az ba z2
  have hb' := below_call (w1 := w1) (by go_grown) hb
  replace K0 := Lib.hid (K0.out.keep hb')
  replace K1 := Lib.hid (K1.out.keep hb')
  replace K2 := Lib.hid (K2.out.keep hb')
  replace HB := Lib.hid (below_call HB.out hb')
  replace H1 := Lib.hid (H1.out.keep hb')
  replace H2 := Lib.hid (H2.out.keep hb')
  clear hb hb'
  refine K0.out.w4 fun aa ab ac ad ae af ag ah z0 => ?_
  refine K1.out.w4 fun ai aj ak al am ao ap aq z1 => ?_
  refine K2.out.w4 fun ar au av aw ax ay az ba z2 => ?_
  go_wp2_with fail
  refine (rmul_ok (x := nu q) (y := de r) (H1.out.keep (by go_grown)).n (H2.out.keep (by go_grown)).d (HX.out.1.mono (by omega)) (HY.out.2.mono (by omega))).mono ?_
  rintro e w3 ⟨a3, c3, rfl, hd3, hb⟩
  clear aa ab ac ad ae af ag ah z0 ai aj ak al am ao ap aq z1 ar au av aw ax ay az ba z2
  have hb' := below_call (w1 := w2) (by go_grown) hb
  replace K0 := Lib.hid (K0.out.keep hb')
  replace K1 := Lib.hid (K1.out.keep hb')
  replace K2 := Lib.hid (K2.out.keep hb')
  replace HB := Lib.hid (below_call HB.out hb')
  replace H1 := Lib.hid (H1.out.keep hb')
  replace H2 := Lib.hid (H2.out.keep hb')
  clear hb hb'
  have Hd3 := Lib.hid hd3; clear hd3
  refine K0.out.w4 fun aa ab ac ad ae af ag ah z0 => ?_
  refine K1.out.w4 fun ai aj ak al am ao ap aq z1 => ?_
  refine K2.out.w4 fun ar au av aw ax ay az ba z2 => ?_
  go_wp2_with fail
  refine (rmul_ok (x := nu r) (y := de q) (H2.out.keep (by go_grown)).n (H1.out.keep (by go_grown)).d (HY.out.1.mono (by omega)) (HX.out.2.mono (by omega))).mono ?_
  rintro e w4 ⟨a4, c4, rfl, hd4, hb⟩
  clear aa ab ac ad ae af ag ah z0 ai aj ak al am ao ap aq z1 ar au av aw ax ay az ba z2
  have hb' := below_call (w1 := w3) (by go_grown) hb
  replace K0 := Lib.hid (K0.out.keep hb')
  replace K1 := Lib.hid (K1.out.keep hb')
  replace K2 := Lib.hid (K2.out.keep hb')
  replace HB := Lib.hid (below_call HB.out hb')
  have K3 := Lib.hid ((Bx.new w3 24 #[.int .i64 (sg (nu q * de r)), .slice a3 (ln (nu q * de r)) c3]).keep hb)
  replace H1 := Lib.hid (H1.out.keep hb')
  replace H2 := Lib.hid (H2.out.keep hb')
  replace Hd3 := Lib.hid (Hd3.out.keep hb')
  clear hb hb'
  have Hd4 := Lib.hid hd4; clear hd4
  refine K0.out.w4 fun aa ab ac ad ae af ag ah z0 => ?_
  refine K1.out.w4 fun ai aj ak al am ao ap aq z1 => ?_
  refine K2.out.w4 fun ar au av aw ax ay az ba z2 => ?_
  refine K3.out.w2 fun bb bc bd bf z3 => ?_
  go_wp2_with fail
  refine (rmul_ok (x := de q) (y := de r) (H1.out.keep (by go_grown)).d (H2.out.keep (by go_grown)).d (HX.out.2.mono (by omega)) (HY.out.2.mono (by omega))).mono ?_
  rintro e w5 ⟨a5, c5, rfl, hd5, hb⟩
  clear aa ab ac ad ae af ag ah z0 ai aj ak al am ao ap aq z1 ar au av aw ax ay az ba z2 bb bc bd bf z3
  have hb' := below_call (w1 := w4) (by go_grown) hb
  replace K0 := Lib.hid (K0.out.keep hb')
  replace K1 := Lib.hid (K1.out.keep hb')
  replace K2 := Lib.hid (K2.out.keep hb')
  replace K3 := Lib.hid (K3.out.keep hb')
  replace HB := Lib.hid (below_call HB.out hb')
  have K4 := Lib.hid ((Bx.new w4 24 #[.int .i64 (sg (nu r * de q)), .slice a4 (ln (nu r * de q)) c4]).keep hb)
  replace H1 := Lib.hid (H1.out.keep hb')
  replace H2 := Lib.hid (H2.out.keep hb')
  replace Hd3 := Lib.hid (Hd3.out.keep hb')
  replace Hd4 := Lib.hid (Hd4.out.keep hb')
  clear hb hb'
  have Hd5 := Lib.hid hd5; clear hd5
  refine K0.out.w4 fun aa ab ac ad ae af ag ah z0 => ?_
  refine K1.out.w4 fun ai aj ak al am ao ap aq z1 => ?_
  refine K2.out.w4 fun ar au av aw ax ay az ba z2 => ?_
  refine K3.out.w2 fun bb bc bd bf z3 => ?_
  refine K4.out.w2 fun bg bh bi bj z4 => ?_
  go_wp2_with fail
  refine (rsub_ok (Hd3.out.keep (by go_grown)) (Hd4.out.keep (by go_grown)) ((HX.out.1.mul HY.out.2).mono (by omega)) ((HY.out.1.mul HX.out.2).mono (by omega))).mono ?_
  rintro e w6 ⟨a6, c6, rfl, hd6, hb⟩
  clear aa ab ac ad ae af ag ah z0 ai aj ak al am ao ap aq z1 ar au av aw ax ay az ba z2 bb bc bd bf z3 bg bh bi bj z4
  have hb' := below_call (w1 := w5) (by go_grown) hb
  replace K0 := Lib.hid (K0.out.keep hb')
  replace K1 := Lib.hid (K1.out.keep hb')
  replace K2 := Lib.hid (K2.out.keep hb')
  replace K3 := Lib.hid (K3.out.keep hb')
  replace K4 := Lib.hid (K4.out.keep hb')
  replace HB := Lib.hid (below_call HB.out hb')
  have K5 := Lib.hid ((Bx.new w5 24 #[.int .i64 (sg (de q * de r)), .slice a5 (ln (de q * de r)) c5]).keep hb)
  replace H1 := Lib.hid (H1.out.keep hb')
  replace H2 := Lib.hid (H2.out.keep hb')
  replace Hd3 := Lib.hid (Hd3.out.keep hb')
  replace Hd4 := Lib.hid (Hd4.out.keep hb')
  replace Hd5 := Lib.hid (Hd5.out.keep hb')
  clear hb hb'
  have Hd6 := Lib.hid hd6; clear hd6
  refine K0.out.w4 fun aa ab ac ad ae af ag ah z0 => ?_
  refine K1.out.w4 fun ai aj ak al am ao ap aq z1 => ?_
  refine K2.out.w4 fun ar au av aw ax ay az ba z2 => ?_
  refine K3.out.w2 fun bb bc bd bf z3 => ?_
  refine K4.out.w2 fun bg bh bi bj z4 => ?_
  refine K5.out.w2 fun bk bl bm bn z5 => ?_
  go_wp2_with fail
  refine (rnew_pos (Hd6.out.keep (by go_grown)) (Hd5.out.keep (by go_grown)) (((HX.out.1.mul HY.out.2).sub ((HY.out.1.mul HX.out.2).mono (by omega))).mono (by omega)) ((HX.out.2.mul HY.out.2).mono (by omega)) (Int.mul_pos (de_pos q) (de_pos r))).mono ?_
  rintro e w7 ⟨a8, c8, b8, d8, rfl, hf8, hb⟩
  clear aa ab ac ad ae af ag ah z0 ai aj ak al am ao ap aq z1 ar au av aw ax ay az ba z2 bb bc bd bf z3 bg bh bi bj z4 bk bl bm bn z5
  have hb' := below_call (w1 := w6) (by go_grown) hb
  replace K0 := Lib.hid (K0.out.keep hb')
  replace K1 := Lib.hid (K1.out.keep hb')
  replace K2 := Lib.hid (K2.out.keep hb')
  replace K3 := Lib.hid (K3.out.keep hb')
  replace K4 := Lib.hid (K4.out.keep hb')
  replace K5 := Lib.hid (K5.out.keep hb')
  replace HB := Lib.hid (below_call HB.out hb')
  have K6 := Lib.hid ((Bx.new w6 24 #[.int .i64 (sg (nu q * de r - nu r * de q)), .slice a6 (ln (nu q * de r - nu r * de q)) c6]).keep hb)
  replace H1 := Lib.hid (H1.out.keep hb')
  replace H2 := Lib.hid (H2.out.keep hb')
  replace Hd3 := Lib.hid (Hd3.out.keep hb')
  replace Hd4 := Lib.hid (Hd4.out.keep hb')
  replace Hd5 := Lib.hid (Hd5.out.keep hb')
  replace Hd6 := Lib.hid (Hd6.out.keep hb')
  clear hb hb'
  have Hf8 := Lib.hid hf8; clear hf8
  refine K0.out.w4 fun aa ab ac ad ae af ag ah z0 => ?_
  refine K1.out.w4 fun ai aj ak al am ao ap aq z1 => ?_
  refine K2.out.w4 fun ar au av aw ax ay az ba z2 => ?_
  refine K3.out.w2 fun bb bc bd bf z3 => ?_
  refine K4.out.w2 fun bg bh bi bj z4 => ?_
  refine K5.out.w2 fun bk bl bm bn z5 => ?_
  refine K6.out.w2 fun bo bp bq br z6 => ?_
  rw [HQR.out]
  go_wp2_with fail
  rw [HQR.out] at Hf8
  clear aa ab ac ad ae af ag ah z0 ai aj ak al am ao ap aq z1 ar au av aw ax ay az ba z2 bb bc bd bf z3 bg bh bi bj z4 bk bl bm bn z5 bo bp bq br z6
  refine bodyPost_ret (results_box2 rfl _ _ (w.heap.size + 1 + 1) 26 _ _ _ rfl (K2.out.set4 _ _ _ _) Tryz.underlying26 rfl (by kernel_rfl)) rfl ?_
  refine ⟨a8, c8, b8, d8, rfl, ?_, ?_⟩
  · exact (Hf8.out.far0 K2.out zb4 (only_setCell (only_setCell (only_setCell (only_setCell (World.grownBy.refl _ _) _) _) _) _))
  · exact (Below.setCell (Below.setCell (Below.setCell (Below.setCell HB.out (by simp; try omega) _) (by simp; try omega) _) (by simp; try omega) _) (by simp; try omega) _)
set_option maxRecDepth 100000 in
set_option maxHeartbeats 4000000 in
theorem rfcompare_ok {q r : Rat} {a1 b1 a2 b2 : Option Addr} {c1 d1 c2 d2 : Nat} {w : World} (h1 : FD G w a1 c1 b1 d1 q) (h2 : FD G w a2 c2 b2 d2 r) (hx : Fz q 137438953472) (hy : Fz r 137438953472) :
  Calls Tryz.prog 28 #[.agg #[.int .i64 (sg (nu q)), .slice a1 (ln (nu q)) c1, .int .i64 (sg (de q)), .slice b1 (ln (de q)) d1], .agg #[.int .i64 (sg (nu r)), .slice a2 (ln (nu r)) c2, .int .i64 (sg (de r)), .slice b2 (ln (de r)) d2]] w fun e w' => e = .returned (.int .i64 (ordQ q r)) ∧ Below w.heap.size w w' := by
 have HX := Lib.hid hx
 have HY := Lib.hid hy
 have H1 := Lib.hid h1
 have H2 := Lib.hid h2
 clear hx hy h1 h2

 go_enter Tryz.func28, Tryz.ntmps28
 go_wp2_with fail
 refine (rfright_ok (q := q) (H1.out.keep (by go_grown)) (HX.out.mono (by omega))).mono ?_
 rintro e w1 ⟨rfl, hb⟩
 have hbx := bx2 w 26 26 #[.int .i64 (sg (nu q)), .slice a1 (ln (nu q)) c1, .int .i64 (sg (de q)), .slice b1 (ln (de q)) d1] #[.int .i64 (sg (nu r)), .slice a2 (ln (nu r)) c2, .int .i64 (sg (de r)), .slice b2 (ln (de r)) d2]
 obtain ⟨k0, k1⟩ := hbx
 have K0 := Lib.hid (k0.keep hb)
 have K1 := Lib.hid (k1.keep hb)
 clear k0 k1
 have hb' : Below w.heap.size w w1 := below_call (by go_grown) hb
 have HB := Lib.hid hb'
 replace H1 := Lib.hid (H1.out.keep hb')
 replace H2 := Lib.hid (H2.out.keep hb')
 clear hb hb'
 refine K0.out.w4 fun aa ab ac ad ae af ag ah z0 => ?_
 refine K1.out.w4 fun ai aj ak al am ao ap aq z1 => ?_
 go_wp2_with fail
 refine (rfright_ok (q := r) (H2.out.keep (by go_grown)) (HY.out.mono (by omega))).mono ?_
 rintro e w2 ⟨rfl, hb⟩
 clear aa ab ac ad ae af ag ah z0 ai aj ak al am ao ap aq z1
 have hb' := below_call (w1 := w1) (by go_grown) hb
 replace K0 := Lib.hid (K0.out.keep hb')
 replace K1 := Lib.hid (K1.out.keep hb')
 replace HB := Lib.hid (below_call HB.out hb')
 replace H1 := Lib.hid (H1.out.keep hb')
 replace H2 := Lib.hid (H2.out.keep hb')
 clear hb hb'
 refine K0.out.w4 fun aa ab ac ad ae af ag ah z0 => ?_
 refine K1.out.w4 fun ai aj ak al am ao ap aq z1 => ?_
 go_wp2_with fail
 refine (rmul_ok (x := nu q) (y := de r) (H1.out.keep (by go_grown)).n (H2.out.keep (by go_grown)).d (HX.out.1.mono (by omega)) (HY.out.2.mono (by omega))).mono ?_
 rintro e w3 ⟨a3, c3, rfl, hd3, hb⟩
 clear aa ab ac ad ae af ag ah z0 ai aj ak al am ao ap aq z1
 have hb' := below_call (w1 := w2) (by go_grown) hb
 replace K0 := Lib.hid (K0.out.keep hb')
 replace K1 := Lib.hid (K1.out.keep hb')
 replace HB := Lib.hid (below_call HB.out hb')
 replace H1 := Lib.hid (H1.out.keep hb')
 replace H2 := Lib.hid (H2.out.keep hb')
 clear hb hb'
 have Hd3 := Lib.hid hd3; clear hd3
 refine K0.out.w4 fun aa ab ac ad ae af ag ah z0 => ?_
 refine K1.out.w4 fun ai aj ak al am ao ap aq z1 => ?_
 go_wp2_with fail
 refine (rmul_ok (x := nu r) (y := de q) (H2.out.keep (by go_grown)).n (H1.out.keep (by go_grown)).d (HY.out.1.mono (by omega)) (HX.out.2.mono (by omega))).mono ?_
 rintro e w4 ⟨a4, c4, rfl, hd4, hb⟩
 clear aa ab ac ad ae af ag ah z0 ai aj ak al am ao ap aq z1
 have hb' := below_call (w1 := w3) (by go_grown) hb
 replace K0 := Lib.hid (K0.out.keep hb')
 replace K1 := Lib.hid (K1.out.keep hb')
 replace HB := Lib.hid (below_call HB.out hb')
 have K2 := Lib.hid ((Bx.new w3 24 #[.int .i64 (sg (nu q * de r)), .slice a3 (ln (nu q * de r)) c3]).keep hb)
 replace H1 := Lib.hid (H1.out.keep hb')
 replace H2 := Lib.hid (H2.out.keep hb')
 replace Hd3 := Lib.hid (Hd3.out.keep hb')
 clear hb hb'
 have Hd4 := Lib.hid hd4; clear hd4
 refine K0.out.w4 fun aa ab ac ad ae af ag ah z0 => ?_
 refine K1.out.w4 fun ai aj ak al am ao ap aq z1 => ?_
 refine K2.out.w2 fun ar au av aw z2 => ?_
 go_wp2_with fail
 refine (rcompare_ok (Hd3.out.keep (by go_grown)) (Hd4.out.keep (by go_grown)) ((HX.out.1.mul HY.out.2).mono (by omega)) ((HY.out.1.mul HX.out.2).mono (by omega))).mono ?_
 rintro e w5 ⟨rfl, hb⟩
 clear aa ab ac ad ae af ag ah z0 ai aj ak al am ao ap aq z1 ar au av aw z2
 have hb' := below_call (w1 := w4) (by go_grown) hb
 replace K0 := Lib.hid (K0.out.keep hb')
 replace K1 := Lib.hid (K1.out.keep hb')
 replace K2 := Lib.hid (K2.out.keep hb')
 replace HB := Lib.hid (below_call HB.out hb')
 have K3 := Lib.hid ((Bx.new w4 24 #[.int .i64 (sg (nu r * de q)), .slice a4 (ln (nu r * de q)) c4]).keep hb)
 replace H1 := Lib.hid (H1.out.keep hb')
 replace H2 := Lib.hid (H2.out.keep hb')
 replace Hd3 := Lib.hid (Hd3.out.keep hb')
 replace Hd4 := Lib.hid (Hd4.out.keep hb')
 clear hb hb'
 refine K0.out.w4 fun aa ab ac ad ae af ag ah z0 => ?_
 refine K1.out.w4 fun ai aj ak al am ao ap aq z1 => ?_
 refine K2.out.w2 fun ar au av aw z2 => ?_
 refine K3.out.w2 fun ax ay az ba z3 => ?_
 go_wp2_with fail
 go_ret
 exact ⟨ret_int (ord_parts q r), HB.out⟩
end Go.Proofs.YtcfmakpckdicjaaGreatDoor
