/- Scale: errors and intervals, whether there is one or not, in one contract each. -/
import Derived.Test.YtpjpkcelajbfnaaBase
import Derived.Test.YtpjpkcelajbfnaaBigSpec
import Derived.Test.YtpjpkcelajbfnaaBigB
import Derived.Test.YtpjpkcelajbfnaaBigC
import Derived.Test.YtpjpkcelajbfnaaBigD
import Derived.Test.YtpjpkcelajbfnaaBigK
import Derived.Test.YtpjpkcelajbfnaaBigL
import Derived.Test.YtpjpkcelajbfnaaScaleA
import Derived.Test.YtpjpkcelajbfnaaHeld
import Derived.Test.YtpjpkcelajbfnaaScaleE
import Derived.Test.YtpjpkcelajbfnaaBigQ
import Derived.Test.YtpjpkcelajbfnaaAw
import Derived.Test.YtpjpkcelajbfnaaFz
import Derived.Test.YtpjpkcelajbfnaaRefE
import Derived.Test.YtpjpkcelajbfnaaRefJ
import Derived.Test.YtpjpkcelajbfnaaProg
import Derived.WalkKit
import Derived.WalkSpells
import Derived.WalkLawsBesides
import Derived.Handy
import Derived.Lib.Hide
import Derived.Lib.Strings
import Derived.Lib.Builder
import Derived.BigQuiet
import Derived.OwnWalk
import Derived.Laws.BitsLemmas
import Derived.WalkSmall
import Derived.Deep.QuietTactic
import Derived.StillTailTactics
import Derived.Maps.AppendAt
import Derived.IntWalk
import Derived.Deep.RegionHeld3
import Derived.Deep.DeepFit
import Derived.Deep.LoopGhost
import Derived.Deep.DeepCutAuto
namespace Go.Proofs.Ytpjpkcelajbfnaa
open Go.RowKit
variable {G : Nat}

theorem made_own_any {s z : Int} {v : Value} {l : Digs} {n B : Nat} {w : World} (h : OwnN w B v l) (hs : small l) (hn : l.length ≤ 8796093022208) (hv : val l = n) (hz : s * n = z) (h1 : n ≠ 0 → s = 1 ∨ s = -1) :
    Calls Try.prog 61 #[.int .i64 s, v] w fun e w' => ∃ a c, e = .returned (.agg #[.int .i64 (sg z), .slice a (ln z) c]) ∧ BD G w' a c z ∧ Below w.heap.size w w' := by
  obtain ⟨a, c, rfl, hc⟩ := h.sl
  exact made_ok (G := G) h.rd hs hn hc hv hz h1
set_option maxHeartbeats 8000000 in
set_option maxRecDepth 100000 in
theorem rof_pos (x : Int) (w : World) (hx : -9223372036854775808 ≤ x ∧ x ≤ 9223372036854775807) (hs : 0 < x) :
    Calls Try.prog 45 #[.int .i64 x] w fun e w' => ∃ a c, e = .returned (.agg #[.int .i64 (sg x), .slice a (ln x) c]) ∧ BD G w' a c x ∧ Below w.heap.size w w' := by
  obtain ⟨n, hn⟩ : ∃ n, n = x.natAbs := ⟨_, rfl⟩
  have hnb : n ≤ 9223372036854775808 := by omega
  have e0 : (x == 0) = false := by rw [beq_eq_false_iff_ne]; omega
  have e1 : decide (x < 0) = false := by rw [decide_eq_false_iff_not]; omega
  have HNX := Lib.hid hn
  have HX := Lib.hid hs
  have HSt : Hid (x = n) := by show _ = _; omega
  clear hn hs
  go_enter Try.func45, Try.ntmps45
  go_wp2_with fail
  obtain ⟨w0, hw0⟩ : ∃ w0, w0 = w.alloc (.cells #[.int .i64 0, .slice none 0 0] 32) := ⟨_, rfl⟩
  rw [← hw0]
  have K0 : Hid (Bx w0 w.heap.size 32 #[.int .i64 0, .slice none 0 0]) := by rw [hw0]; exact bx1 w _ _
  have HB0 : Hid (Below w.heap.size w w0) := by rw [hw0]; exact below_alloc _ _
  clear hw0
  go_loopw [0, 4] (fun i v wr => ∃ (l : Digs) (u : Nat), u ≤ n ∧ l.length ≤ 4 ∧ i = .int .i64 u ∧ Hid (small l) ∧ Hid (val l + 1048576 ^ l.length * u = n) ∧ Hid (OwnN wr w0.heap.size v l) ∧ Hid (Below w0.heap.size w0 wr)) (fun i _ _ => (intOf i).natAbs)
  case atStart => exact ⟨[], n, Nat.le_refl _, by simp, by rw [HSt.out], small_nil, by show _ = _; simp [val], ownN_nil _ _, Below.refl _ _⟩
  case round =>
    obtain ⟨l, u, hu, hll, rfl, HS, HE, HO, HB⟩ := hrel
    have hl4 : u ≠ 0 → l.length < 4 := fun h => of_room hnb HE.out h
    by_cases h0 : u = 0
    · have e2 : (u != 0) = false := by rw [h0]; rfl
      have e3 : ((u : Int) != 0) = false := by rw [h0]; rfl
      have HV : Hid (val l = n) := by show _ = _; have := HE.out; rw [h0, Nat.mul_zero] at this; omega
      have HL : Hid (l.length ≤ 8796093022208) := by show _ ≤ _; omega
      have HZ : Hid (1 * (n : Int) = x) := by show _ = _; rw [HNX.out]; have := HX.out; omega
      clear h0 hl4
      go_wp2_with fail
      refine (made_own_any (G := G) HO.out HS.out HL.out HV.out HZ.out (fun _ => .inl rfl)).mono ?_
      rintro e w2 ⟨a, c, rfl, hd, hb⟩
      have K2 := Lib.hid ((K0.out.keep HB.out).keep hb)
      have HB2 := Lib.hid (below_call HB0.out (below_call HB.out hb))
      have HD := Lib.hid hd
      clear hb hd
      obtain ⟨p0, q0⟩ := K2.out.at
      go_wp2_with fail
      refine bodyPost_ret (results_box1 rfl _ _ w.heap.size 32 _ _ _ rfl (K2.out.set2 _ _) Try.underlying32 rfl (by kernel_rfl)) rfl ⟨a, c, rfl, ?_, ?_⟩
      · exact HD.out.far0 K2.out zb2 (only_setCell (only_setCell (World.grownBy.refl _ _) _) _)
      · exact (HB2.out.setCell (Nat.le_refl _) _).setCell (Nat.le_refl _) _
    · have hl3 := hl4 h0
      have e2 : (u != 0) = true := by rw [bne_iff_ne]; exact h0
      have e3 : ((u : Int) != 0) = true := by rw [bne_iff_ne]; omega
      obtain ⟨d, hd⟩ : ∃ d, d = u % 1048576 := ⟨_, rfl⟩
      obtain ⟨m, hm⟩ : ∃ m, m = u / 1048576 := ⟨_, rfl⟩
      have hds : d < 1048576 := by omega
      have hmod : (u : Int) % 1048576 = (d : Int) := by omega
      have hdiv : (u : Int) / 1048576 = (m : Int) := by omega
      have hmu : m < u := by omega
      have hum : u ≤ 9223372036854775808 := by omega
      have HE2 : Hid (val (l ++ [d]) + 1048576 ^ (l ++ [d]).length * m = n) := by show _ = _; rw [val_snoc_digs, show d + 1048576 * m = u by omega]; exact HE.out
      have HA : Hid (OwnN (wr.alloc (.cells #[.int .i64 (d : Int)] 3)) w0.heap.size u4 l) := HO.out.keep (below_alloc _ _)
      have HL1 : Hid (RdN (wr.alloc (.cells #[.int .i64 (d : Int)] 3)) (.slice (some ⟨wr.heap.size, 0, none⟩) 1 1) [d]) := (own_lit1 wr wr.heap.size d (Nat.le_refl _)).rd
      have hsz : w0.heap.size ≤ wr.heap.size := HB.out.size
      clear hd hm h0 hl4
      go_wp2_with (at_builtin; go_must (refine wpList_appendN rfl _ _ rfl (wr.alloc (.cells #[.int .i64 (d : Int)] 3)) w0.heap.size u4 l rfl HA.out ⟨wr.heap.size, 0, none⟩ 1 1 [d] rfl rfl HL1.out (by simp; omega) (by simp; omega) ?_; intro v' w1 ho hg hb))
      have HO2 := Lib.hid ho
      have HB2 : Hid (Below w0.heap.size w0 w1) := (HB.out.alloc hsz _).trans hb
      clear ho hg hb
      go_roundw
      case rel => exact ⟨l ++ [d], m, by omega, by simp; omega, by first | rfl | rw [hdiv], small_append HS.out (small_one hds), HE2, HO2.out, HB2.out⟩
      case measure => simp [intOf]; omega
set_option maxHeartbeats 8000000 in
set_option maxRecDepth 100000 in
theorem rof_neg (x : Int) (w : World) (hx : -9223372036854775808 ≤ x ∧ x ≤ 9223372036854775807) (hs : x < 0) :
    Calls Try.prog 45 #[.int .i64 x] w fun e w' => ∃ a c, e = .returned (.agg #[.int .i64 (sg x), .slice a (ln x) c]) ∧ BD G w' a c x ∧ Below w.heap.size w w' := by
  obtain ⟨n, hn⟩ : ∃ n, n = x.natAbs := ⟨_, rfl⟩
  have hnb : n ≤ 9223372036854775808 := by omega
  have e0 : (x == 0) = false := by rw [beq_eq_false_iff_ne]; omega
  have e1 : decide (x < 0) = true := by rw [decide_eq_true_eq]; omega
  have HNX := Lib.hid hn
  have HX := Lib.hid hs
  have HSt : Hid (x = -(n : Int)) := by show _ = _; omega
  clear hn hs
  go_enter Try.func45, Try.ntmps45
  go_wp2_with fail
  obtain ⟨w0, hw0⟩ : ∃ w0, w0 = w.alloc (.cells #[.int .i64 0, .slice none 0 0] 32) := ⟨_, rfl⟩
  rw [← hw0]
  have K0 : Hid (Bx w0 w.heap.size 32 #[.int .i64 0, .slice none 0 0]) := by rw [hw0]; exact bx1 w _ _
  have HB0 : Hid (Below w.heap.size w w0) := by rw [hw0]; exact below_alloc _ _
  clear hw0
  go_loopw [0, 4] (fun i v wr => ∃ (l : Digs) (u : Nat), u ≤ n ∧ l.length ≤ 4 ∧ i = .int .i64 (-(u : Int)) ∧ Hid (small l) ∧ Hid (val l + 1048576 ^ l.length * u = n) ∧ Hid (OwnN wr w0.heap.size v l) ∧ Hid (Below w0.heap.size w0 wr)) (fun i _ _ => (intOf i).natAbs)
  case atStart => exact ⟨[], n, Nat.le_refl _, by simp, by rw [HSt.out], small_nil, by show _ = _; simp [val], ownN_nil _ _, Below.refl _ _⟩
  case round =>
    obtain ⟨l, u, hu, hll, rfl, HS, HE, HO, HB⟩ := hrel
    have hl4 : u ≠ 0 → l.length < 4 := fun h => of_room hnb HE.out h
    by_cases h0 : u = 0
    · have e2 : (u != 0) = false := by rw [h0]; rfl
      have e3 : ((-(u : Int)) != 0) = false := by rw [h0]; rfl
      have HV : Hid (val l = n) := by show _ = _; have := HE.out; rw [h0, Nat.mul_zero] at this; omega
      have HL : Hid (l.length ≤ 8796093022208) := by show _ ≤ _; omega
      have HZ : Hid ((-1) * (n : Int) = x) := by show _ = _; rw [HNX.out]; have := HX.out; omega
      clear h0 hl4
      go_wp2_with fail
      refine (made_own_any (G := G) HO.out HS.out HL.out HV.out HZ.out (fun _ => .inr rfl)).mono ?_
      rintro e w2 ⟨a, c, rfl, hd, hb⟩
      have K2 := Lib.hid ((K0.out.keep HB.out).keep hb)
      have HB2 := Lib.hid (below_call HB0.out (below_call HB.out hb))
      have HD := Lib.hid hd
      clear hb hd
      obtain ⟨p0, q0⟩ := K2.out.at
      go_wp2_with fail
      refine bodyPost_ret (results_box1 rfl _ _ w.heap.size 32 _ _ _ rfl (K2.out.set2 _ _) Try.underlying32 rfl (by kernel_rfl)) rfl ⟨a, c, rfl, ?_, ?_⟩
      · exact HD.out.far0 K2.out zb2 (only_setCell (only_setCell (World.grownBy.refl _ _) _) _)
      · exact (HB2.out.setCell (Nat.le_refl _) _).setCell (Nat.le_refl _) _
    · have hl3 := hl4 h0
      have e2 : (u != 0) = true := by rw [bne_iff_ne]; exact h0
      have e3 : ((-(u : Int)) != 0) = true := by rw [bne_iff_ne]; omega
      obtain ⟨d, hd⟩ : ∃ d, d = u % 1048576 := ⟨_, rfl⟩
      obtain ⟨m, hm⟩ : ∃ m, m = u / 1048576 := ⟨_, rfl⟩
      have hds : d < 1048576 := by omega
      have hmod : Int.tmod (-(u : Int)) 1048576 = -(d : Int) := by
        rw [Int.neg_tmod]
        have : Int.tmod (u : Int) 1048576 = (d : Int) := by (rw [Int.tmod_eq_emod_of_nonneg (by omega)]; omega)
        omega
      have hdiv : Int.tdiv (-(u : Int)) 1048576 = -(m : Int) := by
        rw [Int.neg_tdiv]
        have : Int.tdiv (u : Int) 1048576 = (m : Int) := by (rw [Int.tdiv_eq_ediv_of_nonneg (by omega)]; omega)
        omega
      have hmu : m < u := by omega
      have hum : u ≤ 9223372036854775808 := by omega
      have HE2 : Hid (val (l ++ [d]) + 1048576 ^ (l ++ [d]).length * m = n) := by show _ = _; rw [val_snoc_digs, show d + 1048576 * m = u by omega]; exact HE.out
      have HA : Hid (OwnN (wr.alloc (.cells #[.int .i64 (d : Int)] 3)) w0.heap.size u4 l) := HO.out.keep (below_alloc _ _)
      have HL1 : Hid (RdN (wr.alloc (.cells #[.int .i64 (d : Int)] 3)) (.slice (some ⟨wr.heap.size, 0, none⟩) 1 1) [d]) := (own_lit1 wr wr.heap.size d (Nat.le_refl _)).rd
      have hsz : w0.heap.size ≤ wr.heap.size := HB.out.size
      clear hd hm h0 hl4
      by_cases hd0 : d = 0
      · subst hd0
        have HA : Hid (OwnN (wr.alloc (.cells #[.int .i64 0] 3)) w0.heap.size u4 l) := HA.out
        have HL1 : Hid (RdN (wr.alloc (.cells #[.int .i64 0] 3)) (.slice (some ⟨wr.heap.size, 0, none⟩) 1 1) [0]) := HL1.out
        have hmod : Int.tmod (-(u : Int)) 1048576 = 0 := hmod
        go_wp2_with (at_builtin; go_must (refine wpList_appendN rfl _ _ rfl (wr.alloc (.cells #[.int .i64 0] 3)) w0.heap.size u4 l rfl HA.out ⟨wr.heap.size, 0, none⟩ 1 1 [0] rfl rfl HL1.out (by simp; omega) (by simp; omega) ?_; intro v' w1 ho hg hb))
        have HO2 := Lib.hid ho
        have HB2 : Hid (Below w0.heap.size w0 w1) := (HB.out.alloc hsz _).trans hb
        clear ho hg hb
        go_roundw
        case rel => exact ⟨l ++ [0], m, by omega, by simp; omega, by first | rfl | rw [hdiv], small_append HS.out (small_one hds), HE2, HO2.out, HB2.out⟩
        case measure => simp [intOf]; omega
      · have t4 : decide (-(d : Int) < 0) = true := by rw [decide_eq_true_eq]; omega
        go_wp2_with (at_builtin; go_must (refine wpList_appendN rfl _ _ rfl (wr.alloc (.cells #[.int .i64 (d : Int)] 3)) w0.heap.size u4 l rfl HA.out ⟨wr.heap.size, 0, none⟩ 1 1 [d] rfl rfl HL1.out (by simp; omega) (by simp; omega) ?_; intro v' w1 ho hg hb))
        have HO2 := Lib.hid ho
        have HB2 : Hid (Below w0.heap.size w0 w1) := (HB.out.alloc hsz _).trans hb
        clear ho hg hb
        go_roundw
        case rel => exact ⟨l ++ [d], m, by omega, by simp; omega, by first | rfl | rw [hdiv], small_append HS.out (small_one hds), HE2, HO2.out, HB2.out⟩
        case measure => simp [intOf]; omega
set_option maxHeartbeats 8000000 in
theorem rof_zero (w : World) :
    Calls Try.prog 45 #[.int .i64 0] w fun e w' => ∃ a c, e = .returned (.agg #[.int .i64 (sg 0), .slice a (ln 0) c]) ∧ BD G w' a c 0 ∧ Below w.heap.size w w' := by
  go_enter Try.func45, Try.ntmps45
  go_wp2_with fail
  refine bodyPost_ret (results_box1 rfl _ _ w.heap.size 32 _ _ _ rfl (bx1 w _ #[.int .i64 0, .slice none 0 0]) Try.underlying32 rfl (by kernel_rfl)) rfl ⟨none, 0, rfl, ?_, ?_⟩
  · exact bd_zero _ _ _
  · exact below_alloc _ _
theorem rof_ok (x : Int) (w : World) (hx : -9223372036854775808 ≤ x ∧ x ≤ 9223372036854775807) :
    Calls Try.prog 45 #[.int .i64 x] w fun e w' => ∃ a c, e = .returned (.agg #[.int .i64 (sg x), .slice a (ln x) c]) ∧ BD G w' a c x ∧ Below w.heap.size w w' := by
  rcases Int.lt_trichotomy x 0 with h | h | h
  · exact rof_neg (G := G) x w hx h
  · rw [h]; exact rof_zero (G := G) w
  · exact rof_pos (G := G) x w hx h
end Go.Proofs.Ytpjpkcelajbfnaa
namespace Go.Proofs.Ytpjpkcelajbfnaa
open Go.RowKit
variable {G : Nat}

theorem rgcd_is {x y g : Int} {a1 a2 : Option Addr} {c1 c2 : Nat} {w : World} (h1 : BD G w a1 c1 x) (h2 : BD G w a2 c2 y) (hx : Sz x 549755813888) (hy : Sz y 549755813888) (hg : ((Nat.gcd x.natAbs y.natAbs : Nat) : Int) = g) :
    Calls Try.prog 60 #[.agg #[.int .i64 (sg x), .slice a1 (ln x) c1], .agg #[.int .i64 (sg y), .slice a2 (ln y) c2]] w fun e w' => ∃ a c, e = .returned (.tuple #[.agg #[.int .i64 (sg g), .slice a (ln g) c], .int .i64 0]) ∧ BD G w' a c g ∧ Below w.heap.size w w' := by
  subst hg; exact rgcd_ok h1 h2 hx hy
theorem rdiv_exact {x y q : Int} {a1 a2 : Option Addr} {c1 c2 : Nat} {w : World} (h1 : BD G w a1 c1 x) (h2 : BD G w a2 c2 y) (hx : Sz x 549755813888) (hy : Sz y 549755813888) (hy0 : 0 < y) (h : x = y * q) :
    Calls Try.prog 66 #[.agg #[.int .i64 (sg x), .slice a1 (ln x) c1], .agg #[.int .i64 (sg y), .slice a2 (ln y) c2]] w fun e w' => ∃ a c b d, e = .returned (.tuple #[.agg #[.int .i64 (sg q), .slice a (ln q) c], .agg #[.int .i64 (sg 0), .slice b (ln 0) d], .int .i64 0]) ∧ BD G w' a c q ∧ BD G w' b d 0 ∧ Below w.heap.size w w' := by
  have := rdiv_ok h1 h2 hx hy (by omega)
  have hu := dv_unique (x := x) (y := y) (q := q) (r := 0) (by omega) (.inl ⟨by omega, hy0⟩)
  rwa [hu.1, hu.2] at this
set_option maxHeartbeats 4000000 in
theorem rnew_pos {x y : Int} {a1 a2 : Option Addr} {c1 c2 : Nat} {w : World} (h1 : BD G w a1 c1 x) (h2 : BD G w a2 c2 y) (hx : Sz x 549755813888) (hy : Sz y 549755813888) (hs : 0 < y) :
    Calls Try.prog 44 #[.agg #[.int .i64 (sg x), .slice a1 (ln x) c1], .agg #[.int .i64 (sg y), .slice a2 (ln y) c2]] w fun e w' => ∃ a c b d, e = .returned (.tuple #[.agg #[.int .i64 (sg (nu (Rat.divInt x y))), .slice a (ln (nu (Rat.divInt x y))) c, .int .i64 (sg (de (Rat.divInt x y))), .slice b (ln (de (Rat.divInt x y))) d], .int .i64 0]) ∧ FD G w' a c b d (Rat.divInt x y) ∧ Below w.heap.size w w' := by
  have HX := Lib.hid hx
  have HY := Lib.hid hy
  have H1 := Lib.hid h1
  have H2 := Lib.hid h2
  have e1 : (sg y == 0) = false := by rw [sg_pos hs]; rfl
  have e2 : decide (sg y < 0) = false := by rw [sg_pos hs]; rfl
  obtain ⟨g, hg0, hg, he1, he2⟩ := new_parts (x := x) hs
  obtain ⟨r, hr⟩ : ∃ r, r = Rat.divInt x y := ⟨_, rfl⟩
  rw [← hr] at he1 he2 ⊢
  have HG := Lib.hid hg
  have HG0 := Lib.hid hg0
  have HE1 := Lib.hid he1
  have HE2 := Lib.hid he2
  have HGS : Hid (Sz g 549755813888) := hy.le (by rw [← hg]; have := Nat.gcd_le_right (m := x.natAbs) (n := y.natAbs) (by omega); omega)
  clear hx hy h1 h2 hg hg0 he1 he2 hr hs

  go_enter Try.func44, Try.ntmps44
  go_wp2_with fail
  refine (rright_ok (x := x) (H1.out.keep (by go_grown)) (HX.out.mono (by omega))).mono ?_
  rintro e w1 ⟨rfl, hb⟩
  have hbx := bx3 w 32 32 34 #[.int .i64 (sg x), .slice a1 (ln x) c1] #[.int .i64 (sg y), .slice a2 (ln y) c2] #[.int .i64 0, .slice none 0 0, .int .i64 0, .slice none 0 0]
  obtain ⟨k0, k1, k2⟩ := hbx
  have K0 := Lib.hid (k0.keep hb)
  have K1 := Lib.hid (k1.keep hb)
  have K2 := Lib.hid (k2.keep hb)
  clear k0 k1 k2
  have hb' : Below w.heap.size w w1 := below_call (by go_grown) hb
  have HB := Lib.hid hb'
  replace H1 := Lib.hid (H1.out.keep hb')
  replace H2 := Lib.hid (H2.out.keep hb')
  clear hb hb'
  have p0_0 : w1.cell? ⟨w.heap.size, 0, none⟩ = some (.int .i64 (sg x)) := K0.out.at.1 0
  have q0_0 : w1.frozen? ⟨w.heap.size, 0, none⟩ = false := K0.out.at.2 0
  have p0_1 : w1.cell? ⟨w.heap.size, 1, none⟩ = some (.slice a1 (ln x) c1) := K0.out.at.1 1
  have q0_1 : w1.frozen? ⟨w.heap.size, 1, none⟩ = false := K0.out.at.2 1
  have z0 : w.heap.size < w1.heap.size := K0.out.lt
  have p1_0 : w1.cell? ⟨w.heap.size + 1, 0, none⟩ = some (.int .i64 (sg y)) := K1.out.at.1 0
  have q1_0 : w1.frozen? ⟨w.heap.size + 1, 0, none⟩ = false := K1.out.at.2 0
  have p1_1 : w1.cell? ⟨w.heap.size + 1, 1, none⟩ = some (.slice a2 (ln y) c2) := K1.out.at.1 1
  have q1_1 : w1.frozen? ⟨w.heap.size + 1, 1, none⟩ = false := K1.out.at.2 1
  have z1 : w.heap.size + 1 < w1.heap.size := K1.out.lt
  have p2_0 : w1.cell? ⟨w.heap.size + 1 + 1, 0, none⟩ = some (.int .i64 0) := K2.out.at.1 0
  have q2_0 : w1.frozen? ⟨w.heap.size + 1 + 1, 0, none⟩ = false := K2.out.at.2 0
  have p2_1 : w1.cell? ⟨w.heap.size + 1 + 1, 1, none⟩ = some (.slice none 0 0) := K2.out.at.1 1
  have q2_1 : w1.frozen? ⟨w.heap.size + 1 + 1, 1, none⟩ = false := K2.out.at.2 1
  have p2_2 : w1.cell? ⟨w.heap.size + 1 + 1, 2, none⟩ = some (.int .i64 0) := K2.out.at.1 2
  have q2_2 : w1.frozen? ⟨w.heap.size + 1 + 1, 2, none⟩ = false := K2.out.at.2 2
  have p2_3 : w1.cell? ⟨w.heap.size + 1 + 1, 3, none⟩ = some (.slice none 0 0) := K2.out.at.1 3
  have q2_3 : w1.frozen? ⟨w.heap.size + 1 + 1, 3, none⟩ = false := K2.out.at.2 3
  have z2 : w.heap.size + 1 + 1 < w1.heap.size := K2.out.lt
  go_wp2_with fail
  refine (rright_ok (x := y) (H2.out.keep (by go_grown)) (HY.out.mono (by omega))).mono ?_
  rintro e w2 ⟨rfl, hb⟩
  clear p0_0 q0_0 p0_1 q0_1 z0 p1_0 q1_0 p1_1 q1_1 z1 p2_0 q2_0 p2_1 q2_1 p2_2 q2_2 p2_3 q2_3 z2
  have hb' := below_call (w1 := w1) (by go_grown) hb
  replace K0 := Lib.hid (K0.out.keep hb')
  replace K1 := Lib.hid (K1.out.keep hb')
  replace K2 := Lib.hid (K2.out.keep hb')
  replace HB := Lib.hid (below_call HB.out hb')
  replace H1 := Lib.hid (H1.out.keep hb')
  replace H2 := Lib.hid (H2.out.keep hb')
  clear hb hb'
  have p0_0 : w2.cell? ⟨w.heap.size, 0, none⟩ = some (.int .i64 (sg x)) := K0.out.at.1 0
  have q0_0 : w2.frozen? ⟨w.heap.size, 0, none⟩ = false := K0.out.at.2 0
  have p0_1 : w2.cell? ⟨w.heap.size, 1, none⟩ = some (.slice a1 (ln x) c1) := K0.out.at.1 1
  have q0_1 : w2.frozen? ⟨w.heap.size, 1, none⟩ = false := K0.out.at.2 1
  have z0 : w.heap.size < w2.heap.size := K0.out.lt
  have p1_0 : w2.cell? ⟨w.heap.size + 1, 0, none⟩ = some (.int .i64 (sg y)) := K1.out.at.1 0
  have q1_0 : w2.frozen? ⟨w.heap.size + 1, 0, none⟩ = false := K1.out.at.2 0
  have p1_1 : w2.cell? ⟨w.heap.size + 1, 1, none⟩ = some (.slice a2 (ln y) c2) := K1.out.at.1 1
  have q1_1 : w2.frozen? ⟨w.heap.size + 1, 1, none⟩ = false := K1.out.at.2 1
  have z1 : w.heap.size + 1 < w2.heap.size := K1.out.lt
  have p2_0 : w2.cell? ⟨w.heap.size + 1 + 1, 0, none⟩ = some (.int .i64 0) := K2.out.at.1 0
  have q2_0 : w2.frozen? ⟨w.heap.size + 1 + 1, 0, none⟩ = false := K2.out.at.2 0
  have p2_1 : w2.cell? ⟨w.heap.size + 1 + 1, 1, none⟩ = some (.slice none 0 0) := K2.out.at.1 1
  have q2_1 : w2.frozen? ⟨w.heap.size + 1 + 1, 1, none⟩ = false := K2.out.at.2 1
  have p2_2 : w2.cell? ⟨w.heap.size + 1 + 1, 2, none⟩ = some (.int .i64 0) := K2.out.at.1 2
  have q2_2 : w2.frozen? ⟨w.heap.size + 1 + 1, 2, none⟩ = false := K2.out.at.2 2
  have p2_3 : w2.cell? ⟨w.heap.size + 1 + 1, 3, none⟩ = some (.slice none 0 0) := K2.out.at.1 3
  have q2_3 : w2.frozen? ⟨w.heap.size + 1 + 1, 3, none⟩ = false := K2.out.at.2 3
  have z2 : w.heap.size + 1 + 1 < w2.heap.size := K2.out.lt
  go_wp2_with fail
  refine (rgcd_is (H1.out.keep (by go_grown)) (H2.out.keep (by go_grown)) HX.out HY.out HG.out).mono ?_
  rintro e w3 ⟨a3, c3, rfl, hd3, hb⟩
  clear p0_0 q0_0 p0_1 q0_1 z0 p1_0 q1_0 p1_1 q1_1 z1 p2_0 q2_0 p2_1 q2_1 p2_2 q2_2 p2_3 q2_3 z2
  have hb' := below_call (w1 := w2) (by go_grown) hb
  replace K0 := Lib.hid (K0.out.keep hb')
  replace K1 := Lib.hid (K1.out.keep hb')
  replace K2 := Lib.hid (K2.out.keep hb')
  replace HB := Lib.hid (below_call HB.out hb')
  replace H1 := Lib.hid (H1.out.keep hb')
  replace H2 := Lib.hid (H2.out.keep hb')
  clear hb hb'
  have Hd3 := Lib.hid hd3; clear hd3
  have p0_0 : w3.cell? ⟨w.heap.size, 0, none⟩ = some (.int .i64 (sg x)) := K0.out.at.1 0
  have q0_0 : w3.frozen? ⟨w.heap.size, 0, none⟩ = false := K0.out.at.2 0
  have p0_1 : w3.cell? ⟨w.heap.size, 1, none⟩ = some (.slice a1 (ln x) c1) := K0.out.at.1 1
  have q0_1 : w3.frozen? ⟨w.heap.size, 1, none⟩ = false := K0.out.at.2 1
  have z0 : w.heap.size < w3.heap.size := K0.out.lt
  have p1_0 : w3.cell? ⟨w.heap.size + 1, 0, none⟩ = some (.int .i64 (sg y)) := K1.out.at.1 0
  have q1_0 : w3.frozen? ⟨w.heap.size + 1, 0, none⟩ = false := K1.out.at.2 0
  have p1_1 : w3.cell? ⟨w.heap.size + 1, 1, none⟩ = some (.slice a2 (ln y) c2) := K1.out.at.1 1
  have q1_1 : w3.frozen? ⟨w.heap.size + 1, 1, none⟩ = false := K1.out.at.2 1
  have z1 : w.heap.size + 1 < w3.heap.size := K1.out.lt
  have p2_0 : w3.cell? ⟨w.heap.size + 1 + 1, 0, none⟩ = some (.int .i64 0) := K2.out.at.1 0
  have q2_0 : w3.frozen? ⟨w.heap.size + 1 + 1, 0, none⟩ = false := K2.out.at.2 0
  have p2_1 : w3.cell? ⟨w.heap.size + 1 + 1, 1, none⟩ = some (.slice none 0 0) := K2.out.at.1 1
  have q2_1 : w3.frozen? ⟨w.heap.size + 1 + 1, 1, none⟩ = false := K2.out.at.2 1
  have p2_2 : w3.cell? ⟨w.heap.size + 1 + 1, 2, none⟩ = some (.int .i64 0) := K2.out.at.1 2
  have q2_2 : w3.frozen? ⟨w.heap.size + 1 + 1, 2, none⟩ = false := K2.out.at.2 2
  have p2_3 : w3.cell? ⟨w.heap.size + 1 + 1, 3, none⟩ = some (.slice none 0 0) := K2.out.at.1 3
  have q2_3 : w3.frozen? ⟨w.heap.size + 1 + 1, 3, none⟩ = false := K2.out.at.2 3
  have z2 : w.heap.size + 1 + 1 < w3.heap.size := K2.out.lt
  go_wp2_with fail
  refine (rdiv_exact (q := nu r) (H1.out.keep (by go_grown)) (Hd3.out.keep (by go_grown)) HX.out HGS.out HG0.out HE1.out).mono ?_
  rintro e w4 ⟨a4, c4, b4, d4, rfl, hd4, -, hb⟩
  clear p0_0 q0_0 p0_1 q0_1 z0 p1_0 q1_0 p1_1 q1_1 z1 p2_0 q2_0 p2_1 q2_1 p2_2 q2_2 p2_3 q2_3 z2
  have hb' := below_call (w1 := w3) (by go_grown) hb
  replace K0 := Lib.hid (K0.out.keep hb')
  replace K1 := Lib.hid (K1.out.keep hb')
  replace K2 := Lib.hid (K2.out.keep hb')
  replace HB := Lib.hid (below_call HB.out hb')
  have K3 := Lib.hid ((Bx.new w3 32 #[.int .i64 (sg g), .slice a3 (ln g) c3]).keep hb)
  replace H1 := Lib.hid (H1.out.keep hb')
  replace H2 := Lib.hid (H2.out.keep hb')
  replace Hd3 := Lib.hid (Hd3.out.keep hb')
  clear hb hb'
  have Hd4 := Lib.hid hd4; clear hd4
  have p0_0 : w4.cell? ⟨w.heap.size, 0, none⟩ = some (.int .i64 (sg x)) := K0.out.at.1 0
  have q0_0 : w4.frozen? ⟨w.heap.size, 0, none⟩ = false := K0.out.at.2 0
  have p0_1 : w4.cell? ⟨w.heap.size, 1, none⟩ = some (.slice a1 (ln x) c1) := K0.out.at.1 1
  have q0_1 : w4.frozen? ⟨w.heap.size, 1, none⟩ = false := K0.out.at.2 1
  have z0 : w.heap.size < w4.heap.size := K0.out.lt
  have p1_0 : w4.cell? ⟨w.heap.size + 1, 0, none⟩ = some (.int .i64 (sg y)) := K1.out.at.1 0
  have q1_0 : w4.frozen? ⟨w.heap.size + 1, 0, none⟩ = false := K1.out.at.2 0
  have p1_1 : w4.cell? ⟨w.heap.size + 1, 1, none⟩ = some (.slice a2 (ln y) c2) := K1.out.at.1 1
  have q1_1 : w4.frozen? ⟨w.heap.size + 1, 1, none⟩ = false := K1.out.at.2 1
  have z1 : w.heap.size + 1 < w4.heap.size := K1.out.lt
  have p2_0 : w4.cell? ⟨w.heap.size + 1 + 1, 0, none⟩ = some (.int .i64 0) := K2.out.at.1 0
  have q2_0 : w4.frozen? ⟨w.heap.size + 1 + 1, 0, none⟩ = false := K2.out.at.2 0
  have p2_1 : w4.cell? ⟨w.heap.size + 1 + 1, 1, none⟩ = some (.slice none 0 0) := K2.out.at.1 1
  have q2_1 : w4.frozen? ⟨w.heap.size + 1 + 1, 1, none⟩ = false := K2.out.at.2 1
  have p2_2 : w4.cell? ⟨w.heap.size + 1 + 1, 2, none⟩ = some (.int .i64 0) := K2.out.at.1 2
  have q2_2 : w4.frozen? ⟨w.heap.size + 1 + 1, 2, none⟩ = false := K2.out.at.2 2
  have p2_3 : w4.cell? ⟨w.heap.size + 1 + 1, 3, none⟩ = some (.slice none 0 0) := K2.out.at.1 3
  have q2_3 : w4.frozen? ⟨w.heap.size + 1 + 1, 3, none⟩ = false := K2.out.at.2 3
  have z2 : w.heap.size + 1 + 1 < w4.heap.size := K2.out.lt
  have p3_0 : w4.cell? ⟨w3.heap.size, 0, none⟩ = some (.int .i64 (sg g)) := K3.out.at.1 0
  have q3_0 : w4.frozen? ⟨w3.heap.size, 0, none⟩ = false := K3.out.at.2 0
  have p3_1 : w4.cell? ⟨w3.heap.size, 1, none⟩ = some (.slice a3 (ln g) c3) := K3.out.at.1 1
  have q3_1 : w4.frozen? ⟨w3.heap.size, 1, none⟩ = false := K3.out.at.2 1
  have z3 : w3.heap.size < w4.heap.size := K3.out.lt
  go_wp2_with fail
  refine (rdiv_exact (q := de r) (H2.out.keep (by go_grown)) (Hd3.out.keep (by go_grown)) HY.out HGS.out HG0.out HE2.out).mono ?_
  rintro e w5 ⟨a5, c5, b5, d5, rfl, hd5, -, hb⟩
  clear p0_0 q0_0 p0_1 q0_1 z0 p1_0 q1_0 p1_1 q1_1 z1 p2_0 q2_0 p2_1 q2_1 p2_2 q2_2 p2_3 q2_3 z2 p3_0 q3_0 p3_1 q3_1 z3
  have hb' := below_call (w1 := w4) (by go_grown) hb
  replace K0 := Lib.hid (K0.out.keep hb')
  replace K1 := Lib.hid (K1.out.keep hb')
  replace K2 := Lib.hid (K2.out.keep hb')
  replace K3 := Lib.hid (K3.out.keep hb')
  replace HB := Lib.hid (below_call HB.out hb')
  have hnb := bx2 w4 32 32 #[.int .i64 (sg (nu r)), .slice a4 (ln (nu r)) c4] #[.int .i64 (sg 0), .slice b4 (ln 0) d4]
  obtain ⟨k4, k5⟩ := hnb
  have K4 := Lib.hid (k4.keep hb)
  have K5 := Lib.hid (k5.keep hb)
  clear k4 k5
  replace H1 := Lib.hid (H1.out.keep hb')
  replace H2 := Lib.hid (H2.out.keep hb')
  replace Hd3 := Lib.hid (Hd3.out.keep hb')
  replace Hd4 := Lib.hid (Hd4.out.keep hb')
  clear hb hb'
  have Hd5 := Lib.hid hd5; clear hd5
  have p0_0 : w5.cell? ⟨w.heap.size, 0, none⟩ = some (.int .i64 (sg x)) := K0.out.at.1 0
  have q0_0 : w5.frozen? ⟨w.heap.size, 0, none⟩ = false := K0.out.at.2 0
  have p0_1 : w5.cell? ⟨w.heap.size, 1, none⟩ = some (.slice a1 (ln x) c1) := K0.out.at.1 1
  have q0_1 : w5.frozen? ⟨w.heap.size, 1, none⟩ = false := K0.out.at.2 1
  have z0 : w.heap.size < w5.heap.size := K0.out.lt
  have p1_0 : w5.cell? ⟨w.heap.size + 1, 0, none⟩ = some (.int .i64 (sg y)) := K1.out.at.1 0
  have q1_0 : w5.frozen? ⟨w.heap.size + 1, 0, none⟩ = false := K1.out.at.2 0
  have p1_1 : w5.cell? ⟨w.heap.size + 1, 1, none⟩ = some (.slice a2 (ln y) c2) := K1.out.at.1 1
  have q1_1 : w5.frozen? ⟨w.heap.size + 1, 1, none⟩ = false := K1.out.at.2 1
  have z1 : w.heap.size + 1 < w5.heap.size := K1.out.lt
  have p2_0 : w5.cell? ⟨w.heap.size + 1 + 1, 0, none⟩ = some (.int .i64 0) := K2.out.at.1 0
  have q2_0 : w5.frozen? ⟨w.heap.size + 1 + 1, 0, none⟩ = false := K2.out.at.2 0
  have p2_1 : w5.cell? ⟨w.heap.size + 1 + 1, 1, none⟩ = some (.slice none 0 0) := K2.out.at.1 1
  have q2_1 : w5.frozen? ⟨w.heap.size + 1 + 1, 1, none⟩ = false := K2.out.at.2 1
  have p2_2 : w5.cell? ⟨w.heap.size + 1 + 1, 2, none⟩ = some (.int .i64 0) := K2.out.at.1 2
  have q2_2 : w5.frozen? ⟨w.heap.size + 1 + 1, 2, none⟩ = false := K2.out.at.2 2
  have p2_3 : w5.cell? ⟨w.heap.size + 1 + 1, 3, none⟩ = some (.slice none 0 0) := K2.out.at.1 3
  have q2_3 : w5.frozen? ⟨w.heap.size + 1 + 1, 3, none⟩ = false := K2.out.at.2 3
  have z2 : w.heap.size + 1 + 1 < w5.heap.size := K2.out.lt
  have p3_0 : w5.cell? ⟨w3.heap.size, 0, none⟩ = some (.int .i64 (sg g)) := K3.out.at.1 0
  have q3_0 : w5.frozen? ⟨w3.heap.size, 0, none⟩ = false := K3.out.at.2 0
  have p3_1 : w5.cell? ⟨w3.heap.size, 1, none⟩ = some (.slice a3 (ln g) c3) := K3.out.at.1 1
  have q3_1 : w5.frozen? ⟨w3.heap.size, 1, none⟩ = false := K3.out.at.2 1
  have z3 : w3.heap.size < w5.heap.size := K3.out.lt
  have p4_0 : w5.cell? ⟨w4.heap.size, 0, none⟩ = some (.int .i64 (sg (nu r))) := K4.out.at.1 0
  have q4_0 : w5.frozen? ⟨w4.heap.size, 0, none⟩ = false := K4.out.at.2 0
  have p4_1 : w5.cell? ⟨w4.heap.size, 1, none⟩ = some (.slice a4 (ln (nu r)) c4) := K4.out.at.1 1
  have q4_1 : w5.frozen? ⟨w4.heap.size, 1, none⟩ = false := K4.out.at.2 1
  have z4 : w4.heap.size < w5.heap.size := K4.out.lt
  have p5_0 : w5.cell? ⟨w4.heap.size + 1, 0, none⟩ = some (.int .i64 (sg 0)) := K5.out.at.1 0
  have q5_0 : w5.frozen? ⟨w4.heap.size + 1, 0, none⟩ = false := K5.out.at.2 0
  have p5_1 : w5.cell? ⟨w4.heap.size + 1, 1, none⟩ = some (.slice b4 (ln 0) d4) := K5.out.at.1 1
  have q5_1 : w5.frozen? ⟨w4.heap.size + 1, 1, none⟩ = false := K5.out.at.2 1
  have z5 : w4.heap.size + 1 < w5.heap.size := K5.out.lt
  go_wp2_with fail
  have HF : Hid (FD G w5 a4 c4 a5 c5 r) := FD.mk Hd4.out Hd5.out
  clear p0_0 q0_0 p0_1 q0_1 z0 p1_0 q1_0 p1_1 q1_1 z1 p2_0 q2_0 p2_1 q2_1 p2_2 q2_2 p2_3 q2_3 z2 p3_0 q3_0 p3_1 q3_1 z3 p4_0 q4_0 p4_1 q4_1 z4 p5_0 q5_0 p5_1 q5_1 z5
  refine bodyPost_ret (results_box2 rfl _ _ (w.heap.size + 1 + 1) 34 _ _ _ rfl (((K2.out.set4 _ _ _ _).keep (below_alloc _ _)).keep (below_alloc _ _)) Try.underlying34 rfl (by kernel_rfl)) rfl ?_
  refine ⟨a4, c4, a5, c5, rfl, ?_, ?_⟩
  · exact (((HF.out.far0 K2.out zb4 (only_setCell (only_setCell (only_setCell (only_setCell (World.grownBy.refl _ _) _) _) _) _)).keep (below_alloc _ _)).keep (below_alloc _ _))
  · exact (Below.alloc (Below.alloc (Below.setCell (Below.setCell (Below.setCell (Below.setCell HB.out (by simp; try omega) _) (by simp; try omega) _) (by simp; try omega) _) (by simp; try omega) _) (by have := HB.out.size; simp [World.setCell]; omega) _) (by have := HB.out.size; simp [World.setCell]; omega) _)
set_option maxHeartbeats 4000000 in
theorem rfof_pos (x y : Int) (w : World) (hx : -9223372036854775808 ≤ x ∧ x ≤ 9223372036854775807) (hy : -9223372036854775808 ≤ y ∧ y ≤ 9223372036854775807) (hp : 0 < y) :
    Calls Try.prog 25 #[.int .i64 x, .int .i64 y] w fun e w' => ∃ a c b d, e = .returned (.tuple #[.agg #[.int .i64 (sg (nu (Rat.divInt x y))), .slice a (ln (nu (Rat.divInt x y))) c, .int .i64 (sg (de (Rat.divInt x y))), .slice b (ln (de (Rat.divInt x y))) d], .int .i64 0]) ∧ FD G w' a c b d (Rat.divInt x y) ∧ Below w.heap.size w w' := by
  have HX := Lib.hid hx
  have HY := Lib.hid hy
  have HP := Lib.hid hp
  clear hx hy hp

  go_enter Try.func25, Try.ntmps25
  go_wp2_with fail
  refine (rof_ok (G := G) x _ HX.out).mono ?_
  rintro e w1 ⟨a1, c1, rfl, hd1, hb⟩
  have hbx := bx1 w 34 #[.int .i64 0, .slice none 0 0, .int .i64 0, .slice none 0 0]
  have k0 := hbx; clear hbx
  have K0 := Lib.hid (k0.keep hb)
  clear k0
  have hb' : Below w.heap.size w w1 := below_call (by go_grown) hb
  have HB := Lib.hid hb'
  clear hb hb'
  have Hd1 := Lib.hid hd1; clear hd1
  have p0_0 : w1.cell? ⟨w.heap.size, 0, none⟩ = some (.int .i64 0) := K0.out.at.1 0
  have q0_0 : w1.frozen? ⟨w.heap.size, 0, none⟩ = false := K0.out.at.2 0
  have p0_1 : w1.cell? ⟨w.heap.size, 1, none⟩ = some (.slice none 0 0) := K0.out.at.1 1
  have q0_1 : w1.frozen? ⟨w.heap.size, 1, none⟩ = false := K0.out.at.2 1
  have p0_2 : w1.cell? ⟨w.heap.size, 2, none⟩ = some (.int .i64 0) := K0.out.at.1 2
  have q0_2 : w1.frozen? ⟨w.heap.size, 2, none⟩ = false := K0.out.at.2 2
  have p0_3 : w1.cell? ⟨w.heap.size, 3, none⟩ = some (.slice none 0 0) := K0.out.at.1 3
  have q0_3 : w1.frozen? ⟨w.heap.size, 3, none⟩ = false := K0.out.at.2 3
  have z0 : w.heap.size < w1.heap.size := K0.out.lt
  go_wp2_with fail
  refine (rof_ok (G := G) y _ HY.out).mono ?_
  rintro e w2 ⟨a2, c2, rfl, hd2, hb⟩
  clear p0_0 q0_0 p0_1 q0_1 p0_2 q0_2 p0_3 q0_3 z0
  have hb' := below_call (w1 := w1) (by go_grown) hb
  replace K0 := Lib.hid (K0.out.keep hb')
  replace HB := Lib.hid (below_call HB.out hb')
  replace Hd1 := Lib.hid (Hd1.out.keep hb')
  clear hb hb'
  have Hd2 := Lib.hid hd2; clear hd2
  have p0_0 : w2.cell? ⟨w.heap.size, 0, none⟩ = some (.int .i64 0) := K0.out.at.1 0
  have q0_0 : w2.frozen? ⟨w.heap.size, 0, none⟩ = false := K0.out.at.2 0
  have p0_1 : w2.cell? ⟨w.heap.size, 1, none⟩ = some (.slice none 0 0) := K0.out.at.1 1
  have q0_1 : w2.frozen? ⟨w.heap.size, 1, none⟩ = false := K0.out.at.2 1
  have p0_2 : w2.cell? ⟨w.heap.size, 2, none⟩ = some (.int .i64 0) := K0.out.at.1 2
  have q0_2 : w2.frozen? ⟨w.heap.size, 2, none⟩ = false := K0.out.at.2 2
  have p0_3 : w2.cell? ⟨w.heap.size, 3, none⟩ = some (.slice none 0 0) := K0.out.at.1 3
  have q0_3 : w2.frozen? ⟨w.heap.size, 3, none⟩ = false := K0.out.at.2 3
  have z0 : w.heap.size < w2.heap.size := K0.out.lt
  go_wp2_with fail
  refine (rnew_pos (Hd1.out.keep (by go_grown)) (Hd2.out.keep (by go_grown)) (sz_int HX.out) (sz_int HY.out) HP.out).mono ?_
  rintro e w3 ⟨a3, c3, b3, d3, rfl, hf3, hb⟩
  clear p0_0 q0_0 p0_1 q0_1 p0_2 q0_2 p0_3 q0_3 z0
  have hb' := below_call (w1 := w2) (by go_grown) hb
  replace K0 := Lib.hid (K0.out.keep hb')
  replace HB := Lib.hid (below_call HB.out hb')
  replace Hd1 := Lib.hid (Hd1.out.keep hb')
  replace Hd2 := Lib.hid (Hd2.out.keep hb')
  clear hb hb'
  have Hf3 := Lib.hid hf3; clear hf3
  have p0_0 : w3.cell? ⟨w.heap.size, 0, none⟩ = some (.int .i64 0) := K0.out.at.1 0
  have q0_0 : w3.frozen? ⟨w.heap.size, 0, none⟩ = false := K0.out.at.2 0
  have p0_1 : w3.cell? ⟨w.heap.size, 1, none⟩ = some (.slice none 0 0) := K0.out.at.1 1
  have q0_1 : w3.frozen? ⟨w.heap.size, 1, none⟩ = false := K0.out.at.2 1
  have p0_2 : w3.cell? ⟨w.heap.size, 2, none⟩ = some (.int .i64 0) := K0.out.at.1 2
  have q0_2 : w3.frozen? ⟨w.heap.size, 2, none⟩ = false := K0.out.at.2 2
  have p0_3 : w3.cell? ⟨w.heap.size, 3, none⟩ = some (.slice none 0 0) := K0.out.at.1 3
  have q0_3 : w3.frozen? ⟨w.heap.size, 3, none⟩ = false := K0.out.at.2 3
  have z0 : w.heap.size < w3.heap.size := K0.out.lt
  go_wp2_with fail
  clear p0_0 q0_0 p0_1 q0_1 p0_2 q0_2 p0_3 q0_3 z0
  refine bodyPost_ret (results_box2 rfl _ _ w.heap.size 34 _ _ _ rfl (K0.out.set4 _ _ _ _) Try.underlying34 rfl (by kernel_rfl)) rfl ?_
  refine ⟨a3, c3, b3, d3, rfl, ?_, ?_⟩
  · exact (Hf3.out.far0 K0.out zb4 (only_setCell (only_setCell (only_setCell (only_setCell (World.grownBy.refl _ _) _) _) _) _))
  · exact (Below.setCell (Below.setCell (Below.setCell (Below.setCell HB.out (by simp; try omega) _) (by simp; try omega) _) (by simp; try omega) _) (by simp; try omega) _)
theorem rfof_one (x : Int) (w : World) (hx : -9223372036854775808 ≤ x ∧ x ≤ 9223372036854775807) :
    Calls Try.prog 25 #[.int .i64 x, .int .i64 1] w fun e w' => ∃ a c b d, e = .returned (.tuple #[.agg #[.int .i64 (sg (nu (x : Rat))), .slice a (ln (nu (x : Rat))) c, .int .i64 (sg (de (x : Rat))), .slice b (ln (de (x : Rat))) d], .int .i64 0]) ∧ FD G w' a c b d (x : Rat) ∧ Below w.heap.size w w' := by
  have := rfof_pos (G := G) x 1 w hx (by decide) (by decide)
  rwa [show Rat.divInt x 1 = (x : Rat) from divInt_parts (x : Rat)] at this
set_option maxHeartbeats 4000000 in
theorem rfint_ok (x : Int) (w : World) (hx : -9223372036854775808 ≤ x ∧ x ≤ 9223372036854775807) :
    Calls Try.prog 21 #[.int .i64 x] w fun e w' => ∃ a c b d, e = .returned (.agg #[.int .i64 (sg (nu (x : Rat))), .slice a (ln (nu (x : Rat))) c, .int .i64 (sg (de (x : Rat))), .slice b (ln (de (x : Rat))) d]) ∧ FD G w' a c b d (x : Rat) ∧ Below w.heap.size w w' := by
  have HX := Lib.hid hx
  clear hx

  go_enter Try.func21, Try.ntmps21
  go_wp2_with fail
  refine (rfof_one (G := G) x _ HX.out).mono ?_
  rintro e w1 ⟨a3, c3, b3, d3, rfl, hf3, hb⟩
  have hbx := bx1 w 34 #[.int .i64 0, .slice none 0 0, .int .i64 0, .slice none 0 0]
  have k0 := hbx; clear hbx
  have K0 := Lib.hid (k0.keep hb)
  clear k0
  have hb' : Below w.heap.size w w1 := below_call (by go_grown) hb
  have HB := Lib.hid hb'
  clear hb hb'
  have Hf3 := Lib.hid hf3; clear hf3
  have p0_0 : w1.cell? ⟨w.heap.size, 0, none⟩ = some (.int .i64 0) := K0.out.at.1 0
  have q0_0 : w1.frozen? ⟨w.heap.size, 0, none⟩ = false := K0.out.at.2 0
  have p0_1 : w1.cell? ⟨w.heap.size, 1, none⟩ = some (.slice none 0 0) := K0.out.at.1 1
  have q0_1 : w1.frozen? ⟨w.heap.size, 1, none⟩ = false := K0.out.at.2 1
  have p0_2 : w1.cell? ⟨w.heap.size, 2, none⟩ = some (.int .i64 0) := K0.out.at.1 2
  have q0_2 : w1.frozen? ⟨w.heap.size, 2, none⟩ = false := K0.out.at.2 2
  have p0_3 : w1.cell? ⟨w.heap.size, 3, none⟩ = some (.slice none 0 0) := K0.out.at.1 3
  have q0_3 : w1.frozen? ⟨w.heap.size, 3, none⟩ = false := K0.out.at.2 3
  have z0 : w.heap.size < w1.heap.size := K0.out.lt
  go_wp2_with fail
  clear p0_0 q0_0 p0_1 q0_1 p0_2 q0_2 p0_3 q0_3 z0
  refine bodyPost_ret (results_box1 rfl _ _ w.heap.size 34 _ _ _ rfl ((K0.out.set4 _ _ _ _).keep (below_alloc _ _)) Try.underlying34 rfl (by kernel_rfl)) rfl ?_
  refine ⟨a3, c3, b3, d3, rfl, ?_, ?_⟩
  · exact ((Hf3.out.far0 K0.out zb4 (only_setCell (only_setCell (only_setCell (only_setCell (World.grownBy.refl _ _) _) _) _) _)).keep (below_alloc _ _))
  · exact (Below.alloc (Below.setCell (Below.setCell (Below.setCell (Below.setCell HB.out (by simp; try omega) _) (by simp; try omega) _) (by simp; try omega) _) (by simp; try omega) _) (by have := HB.out.size; simp [World.setCell]; omega) _)
end Go.Proofs.Ytpjpkcelajbfnaa
namespace Go.Proofs.Ytpjpkcelajbfnaa
open Go.RowKit
variable {G : Nat}

end Go.Proofs.Ytpjpkcelajbfnaa
namespace Go.Proofs.Ytpjpkcelajbfnaa
open Go.RowKit
variable {G : Nat}

theorem covers_is {s f u n p d day : Int} {b : Bool} (h : coversC ⟨s, f, u, n, p, d⟩ day = b) (w : World) :
    Calls Try.prog 27 #[.agg #[.int .i64 s, .int .i64 f, .int .i64 u, .int .i64 n, .int .i64 p, .int .i64 d], .int .i64 day] w fun e w' => e = .returned (.bool b) ∧ Below w.heap.size w w' := by
  rw [← h]; exact covers_ok ⟨s, f, u, n, p, d⟩ day w
theorem within_is {n m : Int} {b : Bool} (h : inR n 0 m = b) (w : World) :
    Calls Try.prog 29 #[.int .i64 n, .int .i64 m] w fun e w' => e = .returned (.bool b) ∧ w = w' := by
  rw [← h]; exact within_ok n m w
/-- The error of a reading by a certificate. -/
def errQ (c : Ct) (rd day : Int) : Rat := Rat.divInt (c.p * rd) 1000 + ((c.n + c.d * (day - c.f) : Int) : Rat)
theorem covers_bounds {c : Ct} {day : Int} (h : coversC c day = true) : 0 ≤ c.f ∧ c.f ≤ day ∧ day ≤ 100000 ∧ 0 ≤ c.n ∧ c.n ≤ 1099511627776 ∧ 0 ≤ c.p ∧ c.p ≤ 1000 ∧ 0 ≤ c.d ∧ c.d ≤ 10000000 := by
  simp [coversC, rightC, daysC, inR] at h; omega
theorem err_bounds {c : Ct} {rd day : Int} (h : coversC c day = true) (h' : inR rd 0 1099511627776 = true) :
    (0 ≤ c.p * rd ∧ c.p * rd ≤ 1099511627776000) ∧ (0 ≤ c.d * (day - c.f) ∧ c.d * (day - c.f) ≤ 1000000000000) := by
  have hb := covers_bounds h
  simp [inR] at h'
  refine ⟨⟨Int.mul_nonneg (by omega) (by omega), ?_⟩, ⟨Int.mul_nonneg (by omega) (by omega), ?_⟩⟩
  · have := Int.mul_le_mul (show c.p ≤ 1000 by omega) (show rd ≤ 1099511627776 by omega) (by omega) (by omega); omega
  · have := Int.mul_le_mul (show c.d ≤ 10000000 by omega) (show day - c.f ≤ 100000 by omega) (by omega) (by omega); omega
set_option maxHeartbeats 4000000 in
theorem scError_yes {s f u n p d rd day : Int} {w : World} (hG : G ≤ w.heap.size) (h1 : coversC ⟨s, f, u, n, p, d⟩ day = true) (h2 : inR rd 0 1099511627776 = true) :
    Calls Try.prog 12 #[.agg #[.int .i64 s, .int .i64 f, .int .i64 u, .int .i64 n, .int .i64 p, .int .i64 d], .int .i64 rd, .int .i64 day] w fun e w' => ∃ a c b d', e = .returned (.tuple #[.agg #[.int .i64 (sg (nu (errQ ⟨s, f, u, n, p, d⟩ rd day))), .slice a (ln (nu (errQ ⟨s, f, u, n, p, d⟩ rd day))) c, .int .i64 (sg (de (errQ ⟨s, f, u, n, p, d⟩ rd day))), .slice b (ln (de (errQ ⟨s, f, u, n, p, d⟩ rd day))) d'], .bool true]) ∧ FD G w' a c b d' (errQ ⟨s, f, u, n, p, d⟩ rd day) ∧ Below w.heap.size w w' := by
  have hb := covers_bounds h1
  have he := err_bounds h1 h2
  dsimp only at hb he
  have H1 := Lib.hid h1
  have H2 := Lib.hid h2
  have w1_ : IntKind.i64.wrap (p * rd) = p * rd := IntWalk.i64_in _ (by omega)
  have w2_ : IntKind.i64.wrap (d * (day - f)) = d * (day - f) := IntWalk.i64_in _ (by omega)
  have w3_ : IntKind.i64.wrap (day - f) = day - f := IntWalk.i64_in _ (by omega)
  have w4_ : IntKind.i64.wrap (n + d * (day - f)) = n + d * (day - f) := IntWalk.i64_in _ (by omega)
  have HE : Hid (errQ ⟨s, f, u, n, p, d⟩ rd day = Rat.divInt (p * rd) 1000 + ((n + d * (day - f) : Int) : Rat)) := rfl
  have HP : Hid (-9223372036854775808 ≤ p * rd ∧ p * rd ≤ 9223372036854775807) := by show _ ∧ _; omega
  have HI : Hid (-9223372036854775808 ≤ n + d * (day - f) ∧ n + d * (day - f) ≤ 9223372036854775807) := by show _ ∧ _; omega
  clear h1 h2 he
  have M : Hid (Below w.heap.size w w) := Below.refl _ _
  go_enter Try.func12, Try.ntmps12
  go_wp2_with fail
  obtain ⟨w1, hv⟩ : ∃ x, x = ((w.alloc (.cells #[.int .i64 s, .int .i64 f, .int .i64 u, .int .i64 n, .int .i64 p, .int .i64 d] 25)).alloc (.cells #[.int .i64 0, .slice none 0 0, .int .i64 0, .slice none 0 0] 34)) := ⟨_, rfl⟩
  rw [← hv]
  have hbx := bx2 w 25 34 #[.int .i64 s, .int .i64 f, .int .i64 u, .int .i64 n, .int .i64 p, .int .i64 d] #[.int .i64 0, .slice none 0 0, .int .i64 0, .slice none 0 0]
  rw [← hv] at hbx
  have hbn : Below w.heap.size w w1 := by rw [hv]; exact (Below.alloc (Below.alloc (Below.refl _ _) (by simp) _) (by simp) _)
  replace M := Lib.hid (And.intro hbx.2 (And.intro hbx.1 (Goes.go M.out hbn)))
  clear hbx hbn
  clear hv
  refine (covers_is (s := s) (f := f) (u := u) (n := n) (p := p) (d := d) (day := day) (b := true) H1.out _).mono ?_
  rintro e w2 ⟨rfl, hb⟩
  replace M := Lib.hid (Goes.go M.out hb)
  clear hb
  go_wp2_with fail
  refine (within_is (n := rd) (m := 1099511627776) (b := true) H2.out _).mono ?_
  rintro e _ ⟨rfl, rfl⟩
  obtain ⟨p0_0, q0_0, p0_1, q0_1, p0_2, q0_2, p0_3, q0_3, p0_4, q0_4, p0_5, q0_5⟩ := (M.out.2.1).c6
  go_wp2_with fail
  clear p0_0 q0_0 p0_1 q0_1 p0_2 q0_2 p0_3 q0_3 p0_4 q0_4 p0_5 q0_5
  obtain ⟨q5, eq5⟩ : ∃ x : Rat, x = (Rat.divInt (p * rd) 1000) := ⟨_, rfl⟩
  refine (fracOf_pos (G := G) (p * rd) 1000 _ HP.out (by omega) (by omega)).mono ?_
  rintro e w3 ⟨a_1, c_2, b_3, d_4, rfl, hd6, hb⟩
  rw [← eq5] at hd6 ⊢
  have Sq5 : Hid (Fz q5 4) := by show Fz q5 4; rw [eq5]; exact (Fz.of64 HP.out (by omega) (by omega))
  have Eq5 := Lib.hid eq5; clear eq5
  replace M := Lib.hid (And.intro hd6 (Goes.go M.out hb))
  clear hb hd6
  go_wp2_with fail
  obtain ⟨w4, hv⟩ : ∃ x, x = (w3.alloc (.cells #[.int .i64 (sg (nu q5)), .slice a_1 (ln (nu q5)) c_2, .int .i64 (sg (de q5)), .slice b_3 (ln (de q5)) d_4] 34)) := ⟨_, rfl⟩
  rw [← hv]
  have o2 : w.heap.size + 1 < w3.heap.size := ((M.out.2.1)).lt
  replace M := Lib.hid (And.intro (hv ▸ bx1 w3 34 #[.int .i64 (sg (nu q5)), .slice a_1 (ln (nu q5)) c_2, .int .i64 (sg (de q5)), .slice b_3 (ln (de q5)) d_4]) (Goes.go M.out (hv ▸ below_alloc _ _ : Below w3.heap.size w3 w4)))
  clear hv
  obtain ⟨w5, hv⟩ : ∃ x, x = w4.drew := ⟨_, rfl⟩
  replace M := Lib.hid (Goes.go M.out (hv ▸ below_drew _ : Below w4.heap.size w4 w5))
  refine wp_region_held_drew (S := (fun w' => w'.cell? ⟨w.heap.size, 0, none⟩ = some (.int .i64 s) ∧ w'.cell? ⟨w.heap.size, 1, none⟩ = some (.int .i64 f) ∧ w'.cell? ⟨w.heap.size, 2, none⟩ = some (.int .i64 u) ∧ w'.cell? ⟨w.heap.size, 3, none⟩ = some (.int .i64 n) ∧ w'.cell? ⟨w.heap.size, 4, none⟩ = some (.int .i64 p) ∧ w'.cell? ⟨w.heap.size, 5, none⟩ = some (.int .i64 d) ∧ w'.cell? ⟨w3.heap.size, 0, none⟩ = some (.int .i64 (sg (nu q5))) ∧ w'.cell? ⟨w3.heap.size, 1, none⟩ = some (.slice a_1 (ln (nu q5)) c_2) ∧ w'.cell? ⟨w3.heap.size, 2, none⟩ = some (.int .i64 (sg (de q5))) ∧ w'.cell? ⟨w3.heap.size, 3, none⟩ = some (.slice b_3 (ln (de q5)) d_4))) (by kernel_rfl) (by rw [← hv]; exact ⟨(M.out.2.2.2.1).at.1 0, (M.out.2.2.2.1).at.1 1, (M.out.2.2.2.1).at.1 2, (M.out.2.2.2.1).at.1 3, (M.out.2.2.2.1).at.1 4, (M.out.2.2.2.1).at.1 5, (M.out.1).at.1 0, (M.out.1).at.1 1, (M.out.1).at.1 2, (M.out.1).at.1 3⟩) (fun hH19 => ?_)
  rw [← hv] at hH19 ⊢
  clear hv
  refine tk at0 ?_
  refine tk at1 ?_
  refine tk at2 ?_
  refine tk at3 ?_
  refine tk at4 ?_
  refine tk at5 ?_
  refine tk at6 ?_
  refine tk at7 ?_
  refine tk at8 ?_
  refine tk at9 ?_
  refine tk at10 ?_
  clear w1_ w2_ w3_ w4_
  refine wpAnyH_ready (rs := [11, 16]) (by kernel_rfl) (by simp) ?_
  refine AllReadyH.cons at11 (fun K hK => ?_) ?_
  ·
    go_simp
    obtain ⟨q24, eq24⟩ : ∃ x : Rat, x = (((n + d * (day - f)) : Int) : Rat) := ⟨_, rfl⟩
    refine (fracInt_ok (G := G) (n + d * (day - f)) _ HI.out).mono ?_
    rintro e w6 ⟨a_20, c_21, b_22, d_23, rfl, hd25, hb⟩
    rw [← eq24] at hd25 ⊢
    have Sq24 : Hid (Fz q24 4) := by show Fz q24 4; rw [eq24]; exact (Fz.int64 HI.out)
    have Eq24 := Lib.hid eq24; clear eq24
    replace M := Lib.hid (And.intro hd25 (Goes.go M.out hb))
    clear hb hd25
    (try go_wp2_with fail)
    refine hK.out _ _ (⟨(M.out.2.2.2.2.1).at.1 0, (M.out.2.2.2.2.1).at.1 1, (M.out.2.2.2.2.1).at.1 2, (M.out.2.2.2.2.1).at.1 3, (M.out.2.2.2.2.1).at.1 4, (M.out.2.2.2.2.1).at.1 5, (M.out.2.1).at.1 0, (M.out.2.1).at.1 1, (M.out.2.1).at.1 2, (M.out.2.1).at.1 3⟩) (fun hH26 => ?_)
    clear hK K hH19
    (try simp only [Act.put, List.setIfInBounds_toArray, List.set_cons_zero, List.set_cons_succ])
    refine wpAnyH_ready (rs := [12, 16]) (by kernel_rfl) (by simp) ?_
    refine AllReadyH.cons at12 (fun K hK => ?_) ?_
    ·
      go_simp
      obtain ⟨q31, eq31⟩ : ∃ x : Rat, x = (q5 + q24) := ⟨_, rfl⟩
      refine (fracAdd_ok (q := q5) (r := q24) (M.out.2.2.1) (M.out.1) (Fz.mono Sq5.out (by omega)) (Fz.mono Sq24.out (by omega))).mono ?_
      rintro e w7 ⟨a_27, c_28, b_29, d_30, rfl, hd32, hb⟩
      rw [← eq31] at hd32 ⊢
      have Sq31 : Hid (Fz q31 9) := by show Fz q31 9; rw [eq31]; exact (Fz.add Sq5.out Sq24.out)
      have Eq31 := Lib.hid eq31; clear eq31
      replace M := Lib.hid (And.intro hd32 (Goes.go M.out hb))
      clear hb hd32
      (try go_wp2_with fail)
      refine hK.out _ _ (⟨(M.out.2.2.2.2.2.1).at.1 0, (M.out.2.2.2.2.2.1).at.1 1, (M.out.2.2.2.2.2.1).at.1 2, (M.out.2.2.2.2.2.1).at.1 3, (M.out.2.2.2.2.2.1).at.1 4, (M.out.2.2.2.2.2.1).at.1 5, (M.out.2.2.1).at.1 0, (M.out.2.2.1).at.1 1, (M.out.2.2.1).at.1 2, (M.out.2.2.1).at.1 3⟩) (fun hH33 => ?_)
      clear hK K hH26
      (try simp only [Act.put, List.setIfInBounds_toArray, List.set_cons_zero, List.set_cons_succ])
      refine tk at13 ?_
      refine tk at14 ?_
      refine tk at15 ?_
      refine wpAnyH_ready (rs := [16]) (by kernel_rfl) (by simp) ?_
      refine AllReadyH.cons at16 (fun K hK => ?_) AllReadyH.nil
      go_simp
      obtain ⟨w8, hv⟩ : ∃ x, x = (w7.alloc (.cells #[.int .i64 0, .slice none 0 0, .int .i64 0, .slice none 0 0] 34)) := ⟨_, rfl⟩
      rw [← hv]
      have o3 : w3.heap.size < w7.heap.size := ((M.out.2.2.1)).lt
      replace M := Lib.hid (And.intro (hv ▸ bx1 w7 34 #[.int .i64 0, .slice none 0 0, .int .i64 0, .slice none 0 0]) (Goes.go M.out (hv ▸ below_alloc _ _ : Below w7.heap.size w7 w8)))
      clear hv
      refine hK.out _ _ (⟨(M.out.2.2.2.2.2.2.1).at.1 0, (M.out.2.2.2.2.2.2.1).at.1 1, (M.out.2.2.2.2.2.2.1).at.1 2, (M.out.2.2.2.2.2.2.1).at.1 3, (M.out.2.2.2.2.2.2.1).at.1 4, (M.out.2.2.2.2.2.2.1).at.1 5, (M.out.2.2.2.1).at.1 0, (M.out.2.2.2.1).at.1 1, (M.out.2.2.2.1).at.1 2, (M.out.2.2.2.1).at.1 3⟩) (fun hH34 => ?_)
      clear hK K hH33
      (try simp only [Act.put, List.setIfInBounds_toArray, List.set_cons_zero, List.set_cons_succ])
      refine wpAnyH_ready (rs := [17]) (by kernel_rfl) (by simp) ?_
      refine AllReadyH.cons at17 (fun K hK => ?_) AllReadyH.nil
      obtain ⟨p3_0, q3_0, p3_1, q3_1, p3_2, q3_2, p3_3, q3_3⟩ := (M.out.1).c4
      go_simp
      clear p3_0 q3_0 p3_1 q3_1 p3_2 q3_2 p3_3 q3_3
      obtain ⟨w9, hv⟩ : ∃ x, x = ((((w8.setCell ⟨w7.heap.size, 0, none⟩ (.int .i64 (sg (nu q31)))).setCell ⟨w7.heap.size, 1, none⟩ (.slice a_27 (ln (nu q31)) c_28)).setCell ⟨w7.heap.size, 2, none⟩ (.int .i64 (sg (de q31)))).setCell ⟨w7.heap.size, 3, none⟩ (.slice b_29 (ln (de q31)) d_30)) := ⟨_, rfl⟩
      rw [← hv]
      have og : w8.grownBy w9 (some w7.heap.size) := by rw [hv]; exact (only_setCell (only_setCell (only_setCell (only_setCell (World.grownBy.refl _ _) _) _) _) _)
      have hz : w.heap.size ≤ w7.heap.size := by omega
      have hk : Bx w9 w7.heap.size 34 #[.int .i64 (sg (nu q31)), .slice a_27 (ln (nu q31)) c_28, .int .i64 (sg (de q31)), .slice b_29 (ln (de q31)) d_30] := by rw [hv]; exact (((((M.out.1).set 0 _).set 1 _).set 2 _).set 3 _)
      have hbw : Below w.heap.size w w9 := by rw [hv]; exact (Below.setCell (Below.setCell (Below.setCell (Below.setCell (M.out.2.2.2.2.2.2.2) (by omega) _) (by omega) _) (by omega) _) (by omega) _)
      replace M := Lib.hid (And.intro hk (And.intro ((M.out.2.1).far (M.out.1) (by rfl) (by omega) og) (And.intro ((M.out.2.2.1).far (M.out.1) (by rfl) (by omega) og) (And.intro ((M.out.2.2.2.1).only og (by omega)) (And.intro ((M.out.2.2.2.2.1).far (M.out.1) (by rfl) (by omega) og) (And.intro ((M.out.2.2.2.2.2.1).only og (by omega)) (And.intro ((M.out.2.2.2.2.2.2.1).only og (by omega)) hbw)))))))
      clear hk hbw og hv hz
      refine hK.out _ _ (⟨(M.out.2.2.2.2.2.2.1).at.1 0, (M.out.2.2.2.2.2.2.1).at.1 1, (M.out.2.2.2.2.2.2.1).at.1 2, (M.out.2.2.2.2.2.2.1).at.1 3, (M.out.2.2.2.2.2.2.1).at.1 4, (M.out.2.2.2.2.2.2.1).at.1 5, (M.out.2.2.2.1).at.1 0, (M.out.2.2.2.1).at.1 1, (M.out.2.2.2.1).at.1 2, (M.out.2.2.2.1).at.1 3⟩) (fun hH35 => ?_)
      clear hK K hH34
      (try simp only [Act.put, List.setIfInBounds_toArray, List.set_cons_zero, List.set_cons_succ])
      refine tk at18 ?_
      refine wpAnyH_done (by kernel_rfl) ?_ _
      clear hH35
      obtain ⟨p3_0, q3_0, p3_1, q3_1, p3_2, q3_2, p3_3, q3_3⟩ := (M.out.1).c4
      obtain ⟨p1_0, q1_0, p1_1, q1_1, p1_2, q1_2, p1_3, q1_3⟩ := (M.out.2.2.2.2.2.1).c4
      go_wp2_with fail
      clear p3_0 q3_0 p3_1 q3_1 p3_2 q3_2 p3_3 q3_3 p1_0 q1_0 p1_1 q1_1 p1_2 q1_2 p1_3 q1_3
      obtain ⟨w10, hv⟩ : ∃ x, x = ((((w9.setCell ⟨w.heap.size + 1, 0, none⟩ (.int .i64 (sg (nu q31)))).setCell ⟨w.heap.size + 1, 1, none⟩ (.slice a_27 (ln (nu q31)) c_28)).setCell ⟨w.heap.size + 1, 2, none⟩ (.int .i64 (sg (de q31)))).setCell ⟨w.heap.size + 1, 3, none⟩ (.slice b_29 (ln (de q31)) d_30)) := ⟨_, rfl⟩
      rw [← hv]
      have og : w9.grownBy w10 (some (w.heap.size + 1)) := by rw [hv]; exact (only_setCell (only_setCell (only_setCell (only_setCell (World.grownBy.refl _ _) _) _) _) _)
      have hz : w.heap.size ≤ w.heap.size + 1 := by omega
      have hk : Bx w10 (w.heap.size + 1) 34 #[.int .i64 (sg (nu q31)), .slice a_27 (ln (nu q31)) c_28, .int .i64 (sg (de q31)), .slice b_29 (ln (de q31)) d_30] := by rw [hv]; exact (((((M.out.2.2.2.2.2.1).set 0 _).set 1 _).set 2 _).set 3 _)
      have hbw : Below w.heap.size w w10 := by rw [hv]; exact (Below.setCell (Below.setCell (Below.setCell (Below.setCell (M.out.2.2.2.2.2.2.2) (by omega) _) (by omega) _) (by omega) _) (by omega) _)
      replace M := Lib.hid (And.intro ((M.out.1).only og (by omega)) (And.intro ((M.out.2.1).far (M.out.2.2.2.2.2.1) (by rfl) (by omega) og) (And.intro ((M.out.2.2.1).far (M.out.2.2.2.2.2.1) (by rfl) (by omega) og) (And.intro ((M.out.2.2.2.1).only og (by omega)) (And.intro ((M.out.2.2.2.2.1).far (M.out.2.2.2.2.2.1) (by rfl) (by omega) og) (And.intro hk (And.intro ((M.out.2.2.2.2.2.2.1).only og (by omega)) hbw)))))))
      clear hk hbw og hv hz
      have HR : errQ ⟨s, f, u, n, p, d⟩ rd day = q31 := by rw [HE.out, Eq31.out, Eq5.out, Eq24.out]
      rw [HR]
      refine bodyPost_ret (results_box2 rfl _ _ (w.heap.size + 1) 34 _ _ _ rfl (M.out.2.2.2.2.2.1) Try.underlying34 rfl (by kernel_rfl)) rfl ?_
      exact ⟨_, _, _, _, rfl, (M.out.2.1), (M.out.2.2.2.2.2.2.2)⟩
    refine AllReadyH.cons at16 (fun K hK => ?_) AllReadyH.nil
    go_simp
    obtain ⟨w7, hv⟩ : ∃ x, x = (w6.alloc (.cells #[.int .i64 0, .slice none 0 0, .int .i64 0, .slice none 0 0] 34)) := ⟨_, rfl⟩
    rw [← hv]
    have o3 : w3.heap.size < w6.heap.size := ((M.out.2.1)).lt
    replace M := Lib.hid (And.intro (hv ▸ bx1 w6 34 #[.int .i64 0, .slice none 0 0, .int .i64 0, .slice none 0 0]) (Goes.go M.out (hv ▸ below_alloc _ _ : Below w6.heap.size w6 w7)))
    clear hv
    refine hK.out _ _ (⟨(M.out.2.2.2.2.2.1).at.1 0, (M.out.2.2.2.2.2.1).at.1 1, (M.out.2.2.2.2.2.1).at.1 2, (M.out.2.2.2.2.2.1).at.1 3, (M.out.2.2.2.2.2.1).at.1 4, (M.out.2.2.2.2.2.1).at.1 5, (M.out.2.2.1).at.1 0, (M.out.2.2.1).at.1 1, (M.out.2.2.1).at.1 2, (M.out.2.2.1).at.1 3⟩) (fun hH36 => ?_)
    clear hK K hH26
    (try simp only [Act.put, List.setIfInBounds_toArray, List.set_cons_zero, List.set_cons_succ])
    refine wpAnyH_ready (rs := [12]) (by kernel_rfl) (by simp) ?_
    refine AllReadyH.cons at12 (fun K hK => ?_) AllReadyH.nil
    go_simp
    obtain ⟨q41, eq41⟩ : ∃ x : Rat, x = (q5 + q24) := ⟨_, rfl⟩
    refine (fracAdd_ok (q := q5) (r := q24) (M.out.2.2.2.1) (M.out.2.1) (Fz.mono Sq5.out (by omega)) (Fz.mono Sq24.out (by omega))).mono ?_
    rintro e w8 ⟨a_37, c_38, b_39, d_40, rfl, hd42, hb⟩
    rw [← eq41] at hd42 ⊢
    have Sq41 : Hid (Fz q41 9) := by show Fz q41 9; rw [eq41]; exact (Fz.add Sq5.out Sq24.out)
    have Eq41 := Lib.hid eq41; clear eq41
    replace M := Lib.hid (And.intro hd42 (Goes.go M.out hb))
    clear hb hd42
    (try go_wp2_with fail)
    refine hK.out _ _ (⟨(M.out.2.2.2.2.2.2.1).at.1 0, (M.out.2.2.2.2.2.2.1).at.1 1, (M.out.2.2.2.2.2.2.1).at.1 2, (M.out.2.2.2.2.2.2.1).at.1 3, (M.out.2.2.2.2.2.2.1).at.1 4, (M.out.2.2.2.2.2.2.1).at.1 5, (M.out.2.2.2.1).at.1 0, (M.out.2.2.2.1).at.1 1, (M.out.2.2.2.1).at.1 2, (M.out.2.2.2.1).at.1 3⟩) (fun hH43 => ?_)
    clear hK K hH36
    (try simp only [Act.put, List.setIfInBounds_toArray, List.set_cons_zero, List.set_cons_succ])
    refine tk at13 ?_
    refine tk at14 ?_
    refine tk at15 ?_
    refine wpAnyH_ready (rs := [17]) (by kernel_rfl) (by simp) ?_
    refine AllReadyH.cons at17 (fun K hK => ?_) AllReadyH.nil
    obtain ⟨p3_0, q3_0, p3_1, q3_1, p3_2, q3_2, p3_3, q3_3⟩ := (M.out.2.1).c4
    go_simp
    clear p3_0 q3_0 p3_1 q3_1 p3_2 q3_2 p3_3 q3_3
    obtain ⟨w9, hv⟩ : ∃ x, x = ((((w8.setCell ⟨w6.heap.size, 0, none⟩ (.int .i64 (sg (nu q41)))).setCell ⟨w6.heap.size, 1, none⟩ (.slice a_37 (ln (nu q41)) c_38)).setCell ⟨w6.heap.size, 2, none⟩ (.int .i64 (sg (de q41)))).setCell ⟨w6.heap.size, 3, none⟩ (.slice b_39 (ln (de q41)) d_40)) := ⟨_, rfl⟩
    rw [← hv]
    have og : w8.grownBy w9 (some w6.heap.size) := by rw [hv]; exact (only_setCell (only_setCell (only_setCell (only_setCell (World.grownBy.refl _ _) _) _) _) _)
    have hz : w.heap.size ≤ w6.heap.size := by omega
    have hk : Bx w9 w6.heap.size 34 #[.int .i64 (sg (nu q41)), .slice a_37 (ln (nu q41)) c_38, .int .i64 (sg (de q41)), .slice b_39 (ln (de q41)) d_40] := by rw [hv]; exact (((((M.out.2.1).set 0 _).set 1 _).set 2 _).set 3 _)
    have hbw : Below w.heap.size w w9 := by rw [hv]; exact (Below.setCell (Below.setCell (Below.setCell (Below.setCell (M.out.2.2.2.2.2.2.2) (by omega) _) (by omega) _) (by omega) _) (by omega) _)
    replace M := Lib.hid (And.intro ((M.out.1).far (M.out.2.1) (by rfl) (by omega) og) (And.intro hk (And.intro ((M.out.2.2.1).far (M.out.2.1) (by rfl) (by omega) og) (And.intro ((M.out.2.2.2.1).only og (by omega)) (And.intro ((M.out.2.2.2.2.1).far (M.out.2.1) (by rfl) (by omega) og) (And.intro ((M.out.2.2.2.2.2.1).only og (by omega)) (And.intro ((M.out.2.2.2.2.2.2.1).only og (by omega)) hbw)))))))
    clear hk hbw og hv hz
    refine hK.out _ _ (⟨(M.out.2.2.2.2.2.2.1).at.1 0, (M.out.2.2.2.2.2.2.1).at.1 1, (M.out.2.2.2.2.2.2.1).at.1 2, (M.out.2.2.2.2.2.2.1).at.1 3, (M.out.2.2.2.2.2.2.1).at.1 4, (M.out.2.2.2.2.2.2.1).at.1 5, (M.out.2.2.2.1).at.1 0, (M.out.2.2.2.1).at.1 1, (M.out.2.2.2.1).at.1 2, (M.out.2.2.2.1).at.1 3⟩) (fun hH44 => ?_)
    clear hK K hH43
    (try simp only [Act.put, List.setIfInBounds_toArray, List.set_cons_zero, List.set_cons_succ])
    refine tk at18 ?_
    refine wpAnyH_done (by kernel_rfl) ?_ _
    clear hH44
    obtain ⟨p3_0, q3_0, p3_1, q3_1, p3_2, q3_2, p3_3, q3_3⟩ := (M.out.2.1).c4
    obtain ⟨p1_0, q1_0, p1_1, q1_1, p1_2, q1_2, p1_3, q1_3⟩ := (M.out.2.2.2.2.2.1).c4
    go_wp2_with fail
    clear p3_0 q3_0 p3_1 q3_1 p3_2 q3_2 p3_3 q3_3 p1_0 q1_0 p1_1 q1_1 p1_2 q1_2 p1_3 q1_3
    obtain ⟨w10, hv⟩ : ∃ x, x = ((((w9.setCell ⟨w.heap.size + 1, 0, none⟩ (.int .i64 (sg (nu q41)))).setCell ⟨w.heap.size + 1, 1, none⟩ (.slice a_37 (ln (nu q41)) c_38)).setCell ⟨w.heap.size + 1, 2, none⟩ (.int .i64 (sg (de q41)))).setCell ⟨w.heap.size + 1, 3, none⟩ (.slice b_39 (ln (de q41)) d_40)) := ⟨_, rfl⟩
    rw [← hv]
    have og : w9.grownBy w10 (some (w.heap.size + 1)) := by rw [hv]; exact (only_setCell (only_setCell (only_setCell (only_setCell (World.grownBy.refl _ _) _) _) _) _)
    have hz : w.heap.size ≤ w.heap.size + 1 := by omega
    have hk : Bx w10 (w.heap.size + 1) 34 #[.int .i64 (sg (nu q41)), .slice a_37 (ln (nu q41)) c_38, .int .i64 (sg (de q41)), .slice b_39 (ln (de q41)) d_40] := by rw [hv]; exact (((((M.out.2.2.2.2.2.1).set 0 _).set 1 _).set 2 _).set 3 _)
    have hbw : Below w.heap.size w w10 := by rw [hv]; exact (Below.setCell (Below.setCell (Below.setCell (Below.setCell (M.out.2.2.2.2.2.2.2) (by omega) _) (by omega) _) (by omega) _) (by omega) _)
    replace M := Lib.hid (And.intro ((M.out.1).far (M.out.2.2.2.2.2.1) (by rfl) (by omega) og) (And.intro ((M.out.2.1).only og (by omega)) (And.intro ((M.out.2.2.1).far (M.out.2.2.2.2.2.1) (by rfl) (by omega) og) (And.intro ((M.out.2.2.2.1).only og (by omega)) (And.intro ((M.out.2.2.2.2.1).far (M.out.2.2.2.2.2.1) (by rfl) (by omega) og) (And.intro hk (And.intro ((M.out.2.2.2.2.2.2.1).only og (by omega)) hbw)))))))
    clear hk hbw og hv hz
    have HR : errQ ⟨s, f, u, n, p, d⟩ rd day = q41 := by rw [HE.out, Eq41.out, Eq5.out, Eq24.out]
    rw [HR]
    refine bodyPost_ret (results_box2 rfl _ _ (w.heap.size + 1) 34 _ _ _ rfl (M.out.2.2.2.2.2.1) Try.underlying34 rfl (by kernel_rfl)) rfl ?_
    exact ⟨_, _, _, _, rfl, (M.out.1), (M.out.2.2.2.2.2.2.2)⟩
  refine AllReadyH.cons at16 (fun K hK => ?_) AllReadyH.nil
  go_simp
  obtain ⟨w6, hv⟩ : ∃ x, x = (w5.alloc (.cells #[.int .i64 0, .slice none 0 0, .int .i64 0, .slice none 0 0] 34)) := ⟨_, rfl⟩
  rw [← hv]
  have o3 : w3.heap.size < w5.heap.size := ((M.out.1)).lt
  replace M := Lib.hid (And.intro (hv ▸ bx1 w5 34 #[.int .i64 0, .slice none 0 0, .int .i64 0, .slice none 0 0]) (Goes.go M.out (hv ▸ below_alloc _ _ : Below w5.heap.size w5 w6)))
  clear hv
  refine hK.out _ _ (⟨(M.out.2.2.2.2.1).at.1 0, (M.out.2.2.2.2.1).at.1 1, (M.out.2.2.2.2.1).at.1 2, (M.out.2.2.2.2.1).at.1 3, (M.out.2.2.2.2.1).at.1 4, (M.out.2.2.2.2.1).at.1 5, (M.out.2.1).at.1 0, (M.out.2.1).at.1 1, (M.out.2.1).at.1 2, (M.out.2.1).at.1 3⟩) (fun hH45 => ?_)
  clear hK K hH19
  (try simp only [Act.put, List.setIfInBounds_toArray, List.set_cons_zero, List.set_cons_succ])
  refine wpAnyH_ready (rs := [11]) (by kernel_rfl) (by simp) ?_
  refine AllReadyH.cons at11 (fun K hK => ?_) AllReadyH.nil
  go_simp
  obtain ⟨q50, eq50⟩ : ∃ x : Rat, x = (((n + d * (day - f)) : Int) : Rat) := ⟨_, rfl⟩
  refine (fracInt_ok (G := G) (n + d * (day - f)) _ HI.out).mono ?_
  rintro e w7 ⟨a_46, c_47, b_48, d_49, rfl, hd51, hb⟩
  rw [← eq50] at hd51 ⊢
  have Sq50 : Hid (Fz q50 4) := by show Fz q50 4; rw [eq50]; exact (Fz.int64 HI.out)
  have Eq50 := Lib.hid eq50; clear eq50
  replace M := Lib.hid (And.intro hd51 (Goes.go M.out hb))
  clear hb hd51
  (try go_wp2_with fail)
  refine hK.out _ _ (⟨(M.out.2.2.2.2.2.1).at.1 0, (M.out.2.2.2.2.2.1).at.1 1, (M.out.2.2.2.2.2.1).at.1 2, (M.out.2.2.2.2.2.1).at.1 3, (M.out.2.2.2.2.2.1).at.1 4, (M.out.2.2.2.2.2.1).at.1 5, (M.out.2.2.1).at.1 0, (M.out.2.2.1).at.1 1, (M.out.2.2.1).at.1 2, (M.out.2.2.1).at.1 3⟩) (fun hH52 => ?_)
  clear hK K hH45
  (try simp only [Act.put, List.setIfInBounds_toArray, List.set_cons_zero, List.set_cons_succ])
  refine wpAnyH_ready (rs := [12]) (by kernel_rfl) (by simp) ?_
  refine AllReadyH.cons at12 (fun K hK => ?_) AllReadyH.nil
  go_simp
  obtain ⟨q57, eq57⟩ : ∃ x : Rat, x = (q5 + q50) := ⟨_, rfl⟩
  refine (fracAdd_ok (q := q5) (r := q50) (M.out.2.2.2.1) (M.out.1) (Fz.mono Sq5.out (by omega)) (Fz.mono Sq50.out (by omega))).mono ?_
  rintro e w8 ⟨a_53, c_54, b_55, d_56, rfl, hd58, hb⟩
  rw [← eq57] at hd58 ⊢
  have Sq57 : Hid (Fz q57 9) := by show Fz q57 9; rw [eq57]; exact (Fz.add Sq5.out Sq50.out)
  have Eq57 := Lib.hid eq57; clear eq57
  replace M := Lib.hid (And.intro hd58 (Goes.go M.out hb))
  clear hb hd58
  (try go_wp2_with fail)
  refine hK.out _ _ (⟨(M.out.2.2.2.2.2.2.1).at.1 0, (M.out.2.2.2.2.2.2.1).at.1 1, (M.out.2.2.2.2.2.2.1).at.1 2, (M.out.2.2.2.2.2.2.1).at.1 3, (M.out.2.2.2.2.2.2.1).at.1 4, (M.out.2.2.2.2.2.2.1).at.1 5, (M.out.2.2.2.1).at.1 0, (M.out.2.2.2.1).at.1 1, (M.out.2.2.2.1).at.1 2, (M.out.2.2.2.1).at.1 3⟩) (fun hH59 => ?_)
  clear hK K hH52
  (try simp only [Act.put, List.setIfInBounds_toArray, List.set_cons_zero, List.set_cons_succ])
  refine tk at13 ?_
  refine tk at14 ?_
  refine tk at15 ?_
  refine wpAnyH_ready (rs := [17]) (by kernel_rfl) (by simp) ?_
  refine AllReadyH.cons at17 (fun K hK => ?_) AllReadyH.nil
  obtain ⟨p3_0, q3_0, p3_1, q3_1, p3_2, q3_2, p3_3, q3_3⟩ := (M.out.2.2.1).c4
  go_simp
  clear p3_0 q3_0 p3_1 q3_1 p3_2 q3_2 p3_3 q3_3
  obtain ⟨w9, hv⟩ : ∃ x, x = ((((w8.setCell ⟨w5.heap.size, 0, none⟩ (.int .i64 (sg (nu q57)))).setCell ⟨w5.heap.size, 1, none⟩ (.slice a_53 (ln (nu q57)) c_54)).setCell ⟨w5.heap.size, 2, none⟩ (.int .i64 (sg (de q57)))).setCell ⟨w5.heap.size, 3, none⟩ (.slice b_55 (ln (de q57)) d_56)) := ⟨_, rfl⟩
  rw [← hv]
  have og : w8.grownBy w9 (some w5.heap.size) := by rw [hv]; exact (only_setCell (only_setCell (only_setCell (only_setCell (World.grownBy.refl _ _) _) _) _) _)
  have hz : w.heap.size ≤ w5.heap.size := by omega
  have hk : Bx w9 w5.heap.size 34 #[.int .i64 (sg (nu q57)), .slice a_53 (ln (nu q57)) c_54, .int .i64 (sg (de q57)), .slice b_55 (ln (de q57)) d_56] := by rw [hv]; exact (((((M.out.2.2.1).set 0 _).set 1 _).set 2 _).set 3 _)
  have hbw : Below w.heap.size w w9 := by rw [hv]; exact (Below.setCell (Below.setCell (Below.setCell (Below.setCell (M.out.2.2.2.2.2.2.2) (by omega) _) (by omega) _) (by omega) _) (by omega) _)
  replace M := Lib.hid (And.intro ((M.out.1).far (M.out.2.2.1) (by rfl) (by omega) og) (And.intro ((M.out.2.1).far (M.out.2.2.1) (by rfl) (by omega) og) (And.intro hk (And.intro ((M.out.2.2.2.1).only og (by omega)) (And.intro ((M.out.2.2.2.2.1).far (M.out.2.2.1) (by rfl) (by omega) og) (And.intro ((M.out.2.2.2.2.2.1).only og (by omega)) (And.intro ((M.out.2.2.2.2.2.2.1).only og (by omega)) hbw)))))))
  clear hk hbw og hv hz
  refine hK.out _ _ (⟨(M.out.2.2.2.2.2.2.1).at.1 0, (M.out.2.2.2.2.2.2.1).at.1 1, (M.out.2.2.2.2.2.2.1).at.1 2, (M.out.2.2.2.2.2.2.1).at.1 3, (M.out.2.2.2.2.2.2.1).at.1 4, (M.out.2.2.2.2.2.2.1).at.1 5, (M.out.2.2.2.1).at.1 0, (M.out.2.2.2.1).at.1 1, (M.out.2.2.2.1).at.1 2, (M.out.2.2.2.1).at.1 3⟩) (fun hH60 => ?_)
  clear hK K hH59
  (try simp only [Act.put, List.setIfInBounds_toArray, List.set_cons_zero, List.set_cons_succ])
  refine tk at18 ?_
  refine wpAnyH_done (by kernel_rfl) ?_ _
  clear hH60
  obtain ⟨p3_0, q3_0, p3_1, q3_1, p3_2, q3_2, p3_3, q3_3⟩ := (M.out.2.2.1).c4
  obtain ⟨p1_0, q1_0, p1_1, q1_1, p1_2, q1_2, p1_3, q1_3⟩ := (M.out.2.2.2.2.2.1).c4
  go_wp2_with fail
  clear p3_0 q3_0 p3_1 q3_1 p3_2 q3_2 p3_3 q3_3 p1_0 q1_0 p1_1 q1_1 p1_2 q1_2 p1_3 q1_3
  obtain ⟨w10, hv⟩ : ∃ x, x = ((((w9.setCell ⟨w.heap.size + 1, 0, none⟩ (.int .i64 (sg (nu q57)))).setCell ⟨w.heap.size + 1, 1, none⟩ (.slice a_53 (ln (nu q57)) c_54)).setCell ⟨w.heap.size + 1, 2, none⟩ (.int .i64 (sg (de q57)))).setCell ⟨w.heap.size + 1, 3, none⟩ (.slice b_55 (ln (de q57)) d_56)) := ⟨_, rfl⟩
  rw [← hv]
  have og : w9.grownBy w10 (some (w.heap.size + 1)) := by rw [hv]; exact (only_setCell (only_setCell (only_setCell (only_setCell (World.grownBy.refl _ _) _) _) _) _)
  have hz : w.heap.size ≤ w.heap.size + 1 := by omega
  have hk : Bx w10 (w.heap.size + 1) 34 #[.int .i64 (sg (nu q57)), .slice a_53 (ln (nu q57)) c_54, .int .i64 (sg (de q57)), .slice b_55 (ln (de q57)) d_56] := by rw [hv]; exact (((((M.out.2.2.2.2.2.1).set 0 _).set 1 _).set 2 _).set 3 _)
  have hbw : Below w.heap.size w w10 := by rw [hv]; exact (Below.setCell (Below.setCell (Below.setCell (Below.setCell (M.out.2.2.2.2.2.2.2) (by omega) _) (by omega) _) (by omega) _) (by omega) _)
  replace M := Lib.hid (And.intro ((M.out.1).far (M.out.2.2.2.2.2.1) (by rfl) (by omega) og) (And.intro ((M.out.2.1).far (M.out.2.2.2.2.2.1) (by rfl) (by omega) og) (And.intro ((M.out.2.2.1).only og (by omega)) (And.intro ((M.out.2.2.2.1).only og (by omega)) (And.intro ((M.out.2.2.2.2.1).far (M.out.2.2.2.2.2.1) (by rfl) (by omega) og) (And.intro hk (And.intro ((M.out.2.2.2.2.2.2.1).only og (by omega)) hbw)))))))
  clear hk hbw og hv hz
  have HR : errQ ⟨s, f, u, n, p, d⟩ rd day = q57 := by rw [HE.out, Eq57.out, Eq5.out, Eq50.out]
  rw [HR]
  refine bodyPost_ret (results_box2 rfl _ _ (w.heap.size + 1) 34 _ _ _ rfl (M.out.2.2.2.2.2.1) Try.underlying34 rfl (by kernel_rfl)) rfl ?_
  exact ⟨_, _, _, _, rfl, (M.out.1), (M.out.2.2.2.2.2.2.2)⟩
end Go.Proofs.Ytpjpkcelajbfnaa
namespace Go.Proofs.Ytpjpkcelajbfnaa
open Go.RowKit
variable {G : Nat}

set_option maxHeartbeats 4000000 in
theorem scError_no2 {s f u n p d rd day : Int} {w : World} (h1 : coversC ⟨s, f, u, n, p, d⟩ day = true) (h2 : inR rd 0 1099511627776 = false) :
    Calls Try.prog 12 #[.agg #[.int .i64 s, .int .i64 f, .int .i64 u, .int .i64 n, .int .i64 p, .int .i64 d], .int .i64 rd, .int .i64 day] w fun e w' => e = .returned (.tuple #[.agg #[.int .i64 0, .slice none 0 0, .int .i64 0, .slice none 0 0], .bool false]) ∧ Below w.heap.size w w' := by
  have H1 := Lib.hid h1; clear h1
  have H2 := Lib.hid h2; clear h2
  have M : Hid (Below w.heap.size w w) := Below.refl _ _
  go_enter Try.func12, Try.ntmps12
  go_wp2_with fail
  obtain ⟨w1, hv⟩ : ∃ x, x = ((w.alloc (.cells #[.int .i64 s, .int .i64 f, .int .i64 u, .int .i64 n, .int .i64 p, .int .i64 d] 25)).alloc (.cells #[.int .i64 0, .slice none 0 0, .int .i64 0, .slice none 0 0] 34)) := ⟨_, rfl⟩
  rw [← hv]
  have hbx := bx2 w 25 34 #[.int .i64 s, .int .i64 f, .int .i64 u, .int .i64 n, .int .i64 p, .int .i64 d] #[.int .i64 0, .slice none 0 0, .int .i64 0, .slice none 0 0]
  rw [← hv] at hbx
  have hbn : Below w.heap.size w w1 := by rw [hv]; exact (Below.alloc (Below.alloc (Below.refl _ _) (by simp) _) (by simp) _)
  replace M := Lib.hid (And.intro hbx.2 (And.intro hbx.1 (Goes.go M.out hbn)))
  clear hbx hbn
  clear hv
  refine (covers_is (s := s) (f := f) (u := u) (n := n) (p := p) (d := d) (day := day) (b := true) H1.out _).mono ?_
  rintro e w2 ⟨rfl, hb⟩
  replace M := Lib.hid (Goes.go M.out hb)
  clear hb
  go_wp2_with fail
  refine (within_is (n := rd) (m := 1099511627776) (b := false) H2.out _).mono ?_
  rintro e _ ⟨rfl, rfl⟩
  obtain ⟨p1_0, q1_0, p1_1, q1_1, p1_2, q1_2, p1_3, q1_3⟩ := (M.out.1).c4
  go_wp2_with fail
  clear p1_0 q1_0 p1_1 q1_1 p1_2 q1_2 p1_3 q1_3
  obtain ⟨w3, hv⟩ : ∃ x, x = ((((w2.setCell ⟨w.heap.size + 1, 0, none⟩ (.int .i64 0)).setCell ⟨w.heap.size + 1, 1, none⟩ (.slice none 0 0)).setCell ⟨w.heap.size + 1, 2, none⟩ (.int .i64 0)).setCell ⟨w.heap.size + 1, 3, none⟩ (.slice none 0 0)) := ⟨_, rfl⟩
  rw [← hv]
  have og : w2.grownBy w3 (some (w.heap.size + 1)) := by rw [hv]; exact (only_setCell (only_setCell (only_setCell (only_setCell (World.grownBy.refl _ _) _) _) _) _)
  have hz : w.heap.size ≤ w.heap.size + 1 := by omega
  have hk : Bx w3 (w.heap.size + 1) 34 #[.int .i64 0, .slice none 0 0, .int .i64 0, .slice none 0 0] := by rw [hv]; exact (((((M.out.1).set 0 _).set 1 _).set 2 _).set 3 _)
  have hbw : Below w.heap.size w w3 := by rw [hv]; exact (Below.setCell (Below.setCell (Below.setCell (Below.setCell (M.out.2.2) (by omega) _) (by omega) _) (by omega) _) (by omega) _)
  replace M := Lib.hid (And.intro hk (And.intro ((M.out.2.1).only og (by omega)) hbw))
  clear hk hbw og hv hz
  refine bodyPost_ret (results_box2 rfl _ _ (w.heap.size + 1) 34 _ _ _ rfl (M.out.1) Try.underlying34 rfl (by kernel_rfl)) rfl ?_
  exact ⟨rfl, (M.out.2.2)⟩
end Go.Proofs.Ytpjpkcelajbfnaa
namespace Go.Proofs.Ytpjpkcelajbfnaa
open Go.RowKit
variable {G : Nat}

instance {w w' : World} {v : Value} {cs : List Ct} : Goes (CtIn w v cs) w w' (CtIn w' v cs) := ⟨fun h hb => h.keep hb⟩
instance {w w' : World} {v : Value} {rs : List Rc} : Goes (RcIn w v rs) w w' (RcIn w' v rs) := ⟨fun h hb => h.keep hb⟩
theorem scFind_none {cs : List Ct} {sc day : Int} {a : Option Addr} {cap : Nat} {w : World} (h : CtIn w (.slice a cs.length cap) cs) (hn : cs.length ≤ 1099511627776) (hf : findC cs sc day = none) :
    Calls Try.prog 10 #[.slice a cs.length cap, .int .i64 sc, .int .i64 day] w fun e w' => e = .returned (.tuple #[.int .i64 0, .bool false]) ∧ Below w.heap.size w w' := by
  have := scFind_ok _ cs sc day w h hn
  rwa [hf] at this
theorem scFind_some {cs : List Ct} {sc day : Int} {a : Option Addr} {cap g : Nat} {w : World} (h : CtIn w (.slice a cs.length cap) cs) (hn : cs.length ≤ 1099511627776) (hf : findC cs sc day = some g) :
    Calls Try.prog 10 #[.slice a cs.length cap, .int .i64 sc, .int .i64 day] w fun e w' => e = .returned (.tuple #[.int .i64 (g : Int), .bool true]) ∧ Below w.heap.size w w' := by
  have := scFind_ok _ cs sc day w h hn
  rwa [hf] at this
theorem scRec_is {rs : List Rc} {sc day : Int} {a : Option Addr} {cap : Nat} {b : Bool} {w : World} (h : RcIn w (.slice a rs.length cap) rs) (hn : rs.length ≤ 1099511627776) (hf : recalledB rs sc day = b) :
    Calls Try.prog 19 #[.slice a rs.length cap, .int .i64 sc, .int .i64 day] w fun e w' => e = .returned (.bool b) ∧ Below w.heap.size w w' := by
  rw [← hf]; exact scRecalled_ok _ rs sc day w h hn
theorem findS_is {cs : List Ct} {sc day : Int} : ∀ {k g : Nat}, k ≤ cs.length → findS cs sc day k = some g → ∃ h : g < cs.length, cs[g].s = sc ∧ coversC cs[g] day = true
  | 0, g, _, h => by simp [findS] at h
  | k + 1, g, hk, h => by
    have hlt : k < cs.length := by omega
    cases hb : (cs[k].s == sc && coversC cs[k] day && laterB cs (findS cs sc day k) cs[k]) with
    | true =>
      rw [findS_yes hlt hb] at h; cases h
      simp at hb; exact ⟨hlt, hb.1.1, hb.1.2⟩
    | false => rw [findS_no hlt hb] at h; exact findS_is (by omega) h
theorem findC_is {cs : List Ct} {sc day : Int} {g : Nat} (h : findC cs sc day = some g) : ∃ h : g < cs.length, cs[g].s = sc ∧ coversC cs[g] day = true := findS_is (Nat.le_refl _) h
theorem errQ_size {c : Ct} {rd day : Int} (h : coversC c day = true) (h' : inR rd 0 1099511627776 = true) : Fz (errQ c rd day) 9 := by
  have hb := covers_bounds h
  have he := err_bounds h h'
  exact Fz.add (n := 4) (m := 4) (Fz.of64 (by omega) (by omega) (by omega)) (Fz.int64 (by omega))
theorem in_bounds {n m : Int} (h : inR n 0 m = true) : 0 ≤ n ∧ n ≤ m := by simp [inR] at h; exact h
/-- The ends of an interval. -/
def loQ (e : Rat) (rd : Int) : Rat := pick ((rd : Rat) - e) ((0 : Int) : Rat) (1)
def hiQ (e : Rat) (rd : Int) : Rat := (rd : Rat) + e
set_option maxHeartbeats 4000000 in
theorem scInterval_no1 {cs : List Ct} {rs : List Rc} {sc rd day : Int} {a1 a2 : Option Addr} {cap1 cap2 : Nat} {w : World} (h1 : CtIn w (.slice a1 cs.length cap1) cs) (h2 : RcIn w (.slice a2 rs.length cap2) rs) (hn1 : cs.length ≤ 1099511627776) (_hn2 : rs.length ≤ 1099511627776) (hf : findC cs sc day = none) :
    Calls Try.prog 14 #[.slice a1 cs.length cap1, .slice a2 rs.length cap2, .int .i64 sc, .int .i64 rd, .int .i64 day] w fun e w' => e = .returned (.tuple #[.agg #[.int .i64 0, .slice none 0 0, .int .i64 0, .slice none 0 0], .agg #[.int .i64 0, .slice none 0 0, .int .i64 0, .slice none 0 0], .bool false]) ∧ Below w.heap.size w w' := by
  have HF := Lib.hid hf; clear hf
  have H1 : Hid (CtIn w (.slice a1 cs.length cap1) cs) := h1
  have H2 : Hid (RcIn w (.slice a2 rs.length cap2) rs) := h2
  clear h1 h2
  have M : Hid (Below w.heap.size w w) := Below.refl _ _
  go_enter Try.func14, Try.ntmps14
  go_upto_region 1 with fail
  obtain ⟨w1, hv⟩ : ∃ x, x = ((w.alloc (.cells #[.int .i64 0, .slice none 0 0, .int .i64 0, .slice none 0 0] 34)).alloc (.cells #[.int .i64 0, .slice none 0 0, .int .i64 0, .slice none 0 0] 34)) := ⟨_, rfl⟩
  rw [← hv]
  have hbx := bx2 w 34 34 #[.int .i64 0, .slice none 0 0, .int .i64 0, .slice none 0 0] #[.int .i64 0, .slice none 0 0, .int .i64 0, .slice none 0 0]
  rw [← hv] at hbx
  have hbn : Below w.heap.size w w1 := by rw [hv]; exact (Below.alloc (Below.alloc (Below.refl _ _) (by simp) _) (by simp) _)
  replace M := Lib.hid (And.intro hbx.2 (And.intro hbx.1 (Goes.go M.out hbn)))
  clear hbx hbn
  clear hv
  go_wp2_with fail
  refine (scFind_none (sc := sc) (day := day) (H1.out.keep (M.out.2.2)) (by omega) HF.out).mono ?_
  rintro e w2 ⟨rfl, hb⟩
  replace M := Lib.hid (Goes.go M.out hb)
  clear hb
  obtain ⟨p0_0, q0_0, p0_1, q0_1, p0_2, q0_2, p0_3, q0_3⟩ := (M.out.2.1).c4
  obtain ⟨p1_0, q1_0, p1_1, q1_1, p1_2, q1_2, p1_3, q1_3⟩ := (M.out.1).c4
  go_wp2_with fail
  clear p0_0 q0_0 p0_1 q0_1 p0_2 q0_2 p0_3 q0_3 p1_0 q1_0 p1_1 q1_1 p1_2 q1_2 p1_3 q1_3
  obtain ⟨w3, hv⟩ : ∃ x, x = ((((w2.setCell ⟨w.heap.size, 0, none⟩ (.int .i64 0)).setCell ⟨w.heap.size, 1, none⟩ (.slice none 0 0)).setCell ⟨w.heap.size, 2, none⟩ (.int .i64 0)).setCell ⟨w.heap.size, 3, none⟩ (.slice none 0 0)) := ⟨_, rfl⟩
  rw [← hv]
  have og : w2.grownBy w3 (some w.heap.size) := by rw [hv]; exact (only_setCell (only_setCell (only_setCell (only_setCell (World.grownBy.refl _ _) _) _) _) _)
  have hz : w.heap.size ≤ w.heap.size := by exact Nat.le_refl _
  have hk : Bx w3 w.heap.size 34 #[.int .i64 0, .slice none 0 0, .int .i64 0, .slice none 0 0] := by rw [hv]; exact (((((M.out.2.1).set 0 _).set 1 _).set 2 _).set 3 _)
  have hbw : Below w.heap.size w w3 := by rw [hv]; exact (Below.setCell (Below.setCell (Below.setCell (Below.setCell (M.out.2.2) (by omega) _) (by omega) _) (by omega) _) (by omega) _)
  replace M := Lib.hid (And.intro ((M.out.1).only og (by omega)) (And.intro hk hbw))
  clear hk hbw og hv hz
  obtain ⟨w4, hv⟩ : ∃ x, x = ((((w3.setCell ⟨w.heap.size + 1, 0, none⟩ (.int .i64 0)).setCell ⟨w.heap.size + 1, 1, none⟩ (.slice none 0 0)).setCell ⟨w.heap.size + 1, 2, none⟩ (.int .i64 0)).setCell ⟨w.heap.size + 1, 3, none⟩ (.slice none 0 0)) := ⟨_, rfl⟩
  rw [← hv]
  have og : w3.grownBy w4 (some (w.heap.size + 1)) := by rw [hv]; exact (only_setCell (only_setCell (only_setCell (only_setCell (World.grownBy.refl _ _) _) _) _) _)
  have hz : w.heap.size ≤ w.heap.size + 1 := by omega
  have hk : Bx w4 (w.heap.size + 1) 34 #[.int .i64 0, .slice none 0 0, .int .i64 0, .slice none 0 0] := by rw [hv]; exact (((((M.out.1).set 0 _).set 1 _).set 2 _).set 3 _)
  have hbw : Below w.heap.size w w4 := by rw [hv]; exact (Below.setCell (Below.setCell (Below.setCell (Below.setCell (M.out.2.2) (by omega) _) (by omega) _) (by omega) _) (by omega) _)
  replace M := Lib.hid (And.intro hk (And.intro ((M.out.2.1).only og (by omega)) hbw))
  clear hk hbw og hv hz
  refine bodyPost_ret (results_box2t rfl _ _ w.heap.size (w.heap.size + 1) 34 34 _ _ _ _ _ _ rfl (M.out.2.1) Try.underlying34 rfl (by kernel_rfl) rfl (M.out.1) Try.underlying34 rfl (by kernel_rfl)) rfl ?_
  exact ⟨rfl, (M.out.2.2)⟩
set_option maxHeartbeats 4000000 in
theorem scInterval_no2 {cs : List Ct} {rs : List Rc} {sc rd day : Int} {a1 a2 : Option Addr} {cap1 cap2 : Nat} {w : World} (h1 : CtIn w (.slice a1 cs.length cap1) cs) (h2 : RcIn w (.slice a2 rs.length cap2) rs) (hn1 : cs.length ≤ 1099511627776) (hn2 : rs.length ≤ 1099511627776) {g : Nat} (hf : findC cs sc day = some g) (hr : recalledB rs sc day = true) :
    Calls Try.prog 14 #[.slice a1 cs.length cap1, .slice a2 rs.length cap2, .int .i64 sc, .int .i64 rd, .int .i64 day] w fun e w' => e = .returned (.tuple #[.agg #[.int .i64 0, .slice none 0 0, .int .i64 0, .slice none 0 0], .agg #[.int .i64 0, .slice none 0 0, .int .i64 0, .slice none 0 0], .bool false]) ∧ Below w.heap.size w w' := by
  have HF := Lib.hid hf; clear hf
  have HR := Lib.hid hr; clear hr
  have H1 : Hid (CtIn w (.slice a1 cs.length cap1) cs) := h1
  have H2 : Hid (RcIn w (.slice a2 rs.length cap2) rs) := h2
  clear h1 h2
  have M : Hid (Below w.heap.size w w) := Below.refl _ _
  go_enter Try.func14, Try.ntmps14
  go_upto_region 1 with fail
  obtain ⟨w1, hv⟩ : ∃ x, x = ((w.alloc (.cells #[.int .i64 0, .slice none 0 0, .int .i64 0, .slice none 0 0] 34)).alloc (.cells #[.int .i64 0, .slice none 0 0, .int .i64 0, .slice none 0 0] 34)) := ⟨_, rfl⟩
  rw [← hv]
  have hbx := bx2 w 34 34 #[.int .i64 0, .slice none 0 0, .int .i64 0, .slice none 0 0] #[.int .i64 0, .slice none 0 0, .int .i64 0, .slice none 0 0]
  rw [← hv] at hbx
  have hbn : Below w.heap.size w w1 := by rw [hv]; exact (Below.alloc (Below.alloc (Below.refl _ _) (by simp) _) (by simp) _)
  replace M := Lib.hid (And.intro hbx.2 (And.intro hbx.1 (Goes.go M.out hbn)))
  clear hbx hbn
  clear hv
  go_wp2_with fail
  refine (scFind_some (sc := sc) (day := day) (H1.out.keep (M.out.2.2)) (by omega) HF.out).mono ?_
  rintro e w2 ⟨rfl, hb⟩
  replace M := Lib.hid (Goes.go M.out hb)
  clear hb
  go_wp2_with fail
  refine (scRec_is (sc := sc) (day := day) (b := true) (H2.out.keep (M.out.2.2)) (by omega) HR.out).mono ?_
  rintro e w3 ⟨rfl, hb⟩
  replace M := Lib.hid (Goes.go M.out hb)
  clear hb
  obtain ⟨p0_0, q0_0, p0_1, q0_1, p0_2, q0_2, p0_3, q0_3⟩ := (M.out.2.1).c4
  obtain ⟨p1_0, q1_0, p1_1, q1_1, p1_2, q1_2, p1_3, q1_3⟩ := (M.out.1).c4
  go_wp2_with fail
  clear p0_0 q0_0 p0_1 q0_1 p0_2 q0_2 p0_3 q0_3 p1_0 q1_0 p1_1 q1_1 p1_2 q1_2 p1_3 q1_3
  obtain ⟨w4, hv⟩ : ∃ x, x = ((((w3.setCell ⟨w.heap.size, 0, none⟩ (.int .i64 0)).setCell ⟨w.heap.size, 1, none⟩ (.slice none 0 0)).setCell ⟨w.heap.size, 2, none⟩ (.int .i64 0)).setCell ⟨w.heap.size, 3, none⟩ (.slice none 0 0)) := ⟨_, rfl⟩
  rw [← hv]
  have og : w3.grownBy w4 (some w.heap.size) := by rw [hv]; exact (only_setCell (only_setCell (only_setCell (only_setCell (World.grownBy.refl _ _) _) _) _) _)
  have hz : w.heap.size ≤ w.heap.size := by exact Nat.le_refl _
  have hk : Bx w4 w.heap.size 34 #[.int .i64 0, .slice none 0 0, .int .i64 0, .slice none 0 0] := by rw [hv]; exact (((((M.out.2.1).set 0 _).set 1 _).set 2 _).set 3 _)
  have hbw : Below w.heap.size w w4 := by rw [hv]; exact (Below.setCell (Below.setCell (Below.setCell (Below.setCell (M.out.2.2) (by omega) _) (by omega) _) (by omega) _) (by omega) _)
  replace M := Lib.hid (And.intro ((M.out.1).only og (by omega)) (And.intro hk hbw))
  clear hk hbw og hv hz
  obtain ⟨w5, hv⟩ : ∃ x, x = ((((w4.setCell ⟨w.heap.size + 1, 0, none⟩ (.int .i64 0)).setCell ⟨w.heap.size + 1, 1, none⟩ (.slice none 0 0)).setCell ⟨w.heap.size + 1, 2, none⟩ (.int .i64 0)).setCell ⟨w.heap.size + 1, 3, none⟩ (.slice none 0 0)) := ⟨_, rfl⟩
  rw [← hv]
  have og : w4.grownBy w5 (some (w.heap.size + 1)) := by rw [hv]; exact (only_setCell (only_setCell (only_setCell (only_setCell (World.grownBy.refl _ _) _) _) _) _)
  have hz : w.heap.size ≤ w.heap.size + 1 := by omega
  have hk : Bx w5 (w.heap.size + 1) 34 #[.int .i64 0, .slice none 0 0, .int .i64 0, .slice none 0 0] := by rw [hv]; exact (((((M.out.1).set 0 _).set 1 _).set 2 _).set 3 _)
  have hbw : Below w.heap.size w w5 := by rw [hv]; exact (Below.setCell (Below.setCell (Below.setCell (Below.setCell (M.out.2.2) (by omega) _) (by omega) _) (by omega) _) (by omega) _)
  replace M := Lib.hid (And.intro hk (And.intro ((M.out.2.1).only og (by omega)) hbw))
  clear hk hbw og hv hz
  refine bodyPost_ret (results_box2t rfl _ _ w.heap.size (w.heap.size + 1) 34 34 _ _ _ _ _ _ rfl (M.out.2.1) Try.underlying34 rfl (by kernel_rfl) rfl (M.out.1) Try.underlying34 rfl (by kernel_rfl)) rfl ?_
  exact ⟨rfl, (M.out.2.2)⟩
set_option maxHeartbeats 4000000 in
theorem scInterval_no3 {cs : List Ct} {rs : List Rc} {sc rd day : Int} {a1 a2 : Option Addr} {cap1 cap2 : Nat} {w : World} (h1 : CtIn w (.slice a1 cs.length cap1) cs) (h2 : RcIn w (.slice a2 rs.length cap2) rs) (hn1 : cs.length ≤ 1099511627776) (hn2 : rs.length ≤ 1099511627776) {ct : Ct} {g : Nat} {hgl : g < cs.length} (hct : ct = cs[g]) (hf : findC cs sc day = some g) (hr : recalledB rs sc day = false) (hi : inR rd 0 1099511627776 = false) :
    Calls Try.prog 14 #[.slice a1 cs.length cap1, .slice a2 rs.length cap2, .int .i64 sc, .int .i64 rd, .int .i64 day] w fun e w' => e = .returned (.tuple #[.agg #[.int .i64 0, .slice none 0 0, .int .i64 0, .slice none 0 0], .agg #[.int .i64 0, .slice none 0 0, .int .i64 0, .slice none 0 0], .bool false]) ∧ Below w.heap.size w w' := by
  obtain ⟨hgl, -, hc⟩ := findC_is hf
  obtain ⟨b, off, rfl, hb, hcell⟩ := h1.at hgl
  obtain ⟨s, f, u, n, p, d⟩ := ct
  rw [← hct] at hc hcell
  have hI2 : (g : Int) < (cs.length : Int) := by omega
  have HC := Lib.hid hc
  have HF := Lib.hid hf
  have HR := Lib.hid hr
  have HI := Lib.hid hi
  clear hf hr hi hc hct
  have H1 : Hid (CtIn w (.slice (some ⟨b, off, none⟩) cs.length cap1) cs) := h1
  have H2 : Hid (RcIn w (.slice a2 rs.length cap2) rs) := h2
  have HROW : Hid (Row w b (off + g * 6) [.int .i64 s, .int .i64 f, .int .i64 u, .int .i64 n, .int .i64 p, .int .i64 d]) := ⟨hb, hcell⟩
  clear h1 h2 hcell
  have M : Hid (Below w.heap.size w w) := Below.refl _ _
  go_enter Try.func14, Try.ntmps14
  go_upto_region 1 with fail
  obtain ⟨w1, hv⟩ : ∃ x, x = ((w.alloc (.cells #[.int .i64 0, .slice none 0 0, .int .i64 0, .slice none 0 0] 34)).alloc (.cells #[.int .i64 0, .slice none 0 0, .int .i64 0, .slice none 0 0] 34)) := ⟨_, rfl⟩
  rw [← hv]
  have hbx := bx2 w 34 34 #[.int .i64 0, .slice none 0 0, .int .i64 0, .slice none 0 0] #[.int .i64 0, .slice none 0 0, .int .i64 0, .slice none 0 0]
  rw [← hv] at hbx
  have hbn : Below w.heap.size w w1 := by rw [hv]; exact (Below.alloc (Below.alloc (Below.refl _ _) (by simp) _) (by simp) _)
  replace M := Lib.hid (And.intro hbx.2 (And.intro hbx.1 (Goes.go M.out hbn)))
  clear hbx hbn
  clear hv
  go_wp2_with fail
  refine (scFind_some (sc := sc) (day := day) (H1.out.keep (M.out.2.2)) (by omega) HF.out).mono ?_
  rintro e w2 ⟨rfl, hb⟩
  replace M := Lib.hid (Goes.go M.out hb)
  clear hb
  go_wp2_with fail
  refine (scRec_is (sc := sc) (day := day) (b := false) (H2.out.keep (M.out.2.2)) (by omega) HR.out).mono ?_
  rintro e w3 ⟨rfl, hb⟩
  replace M := Lib.hid (Goes.go M.out hb)
  clear hb
  obtain ⟨r0_0, r0_1, r0_2, r0_3, r0_4, r0_5⟩ := (HROW.out.keep (M.out.2.2)).c6
  go_wp2_with fail
  clear r0_0 r0_1 r0_2 r0_3 r0_4 r0_5
  refine (scError_no2 (s := s) (f := f) (u := u) (n := n) (p := p) (d := d) (rd := rd) (day := day) HC.out HI.out).mono ?_
  rintro e w4 ⟨rfl, hb⟩
  replace M := Lib.hid (Goes.go M.out hb)
  clear hb
  go_upto_region 5 with fail
  obtain ⟨w5, hv⟩ : ∃ x, x = (w4.alloc (.cells #[.int .i64 0, .slice none 0 0, .int .i64 0, .slice none 0 0] 34)) := ⟨_, rfl⟩
  rw [← hv]
  have o2 : w.heap.size + 1 < w4.heap.size := ((M.out.1)).lt
  replace M := Lib.hid (And.intro (hv ▸ bx1 w4 34 #[.int .i64 0, .slice none 0 0, .int .i64 0, .slice none 0 0]) (Goes.go M.out (hv ▸ below_alloc _ _ : Below w4.heap.size w4 w5)))
  clear hv
  obtain ⟨p0_0, q0_0, p0_1, q0_1, p0_2, q0_2, p0_3, q0_3⟩ := (M.out.2.2.1).c4
  obtain ⟨p1_0, q1_0, p1_1, q1_1, p1_2, q1_2, p1_3, q1_3⟩ := (M.out.2.1).c4
  go_wp2_with fail
  clear p0_0 q0_0 p0_1 q0_1 p0_2 q0_2 p0_3 q0_3 p1_0 q1_0 p1_1 q1_1 p1_2 q1_2 p1_3 q1_3
  obtain ⟨w6, hv⟩ : ∃ x, x = ((((w5.setCell ⟨w.heap.size, 0, none⟩ (.int .i64 0)).setCell ⟨w.heap.size, 1, none⟩ (.slice none 0 0)).setCell ⟨w.heap.size, 2, none⟩ (.int .i64 0)).setCell ⟨w.heap.size, 3, none⟩ (.slice none 0 0)) := ⟨_, rfl⟩
  rw [← hv]
  have og : w5.grownBy w6 (some w.heap.size) := by rw [hv]; exact (only_setCell (only_setCell (only_setCell (only_setCell (World.grownBy.refl _ _) _) _) _) _)
  have hz : w.heap.size ≤ w.heap.size := by exact Nat.le_refl _
  have hk : Bx w6 w.heap.size 34 #[.int .i64 0, .slice none 0 0, .int .i64 0, .slice none 0 0] := by rw [hv]; exact (((((M.out.2.2.1).set 0 _).set 1 _).set 2 _).set 3 _)
  have hbw : Below w.heap.size w w6 := by rw [hv]; exact (Below.setCell (Below.setCell (Below.setCell (Below.setCell (M.out.2.2.2) (by omega) _) (by omega) _) (by omega) _) (by omega) _)
  replace M := Lib.hid (And.intro ((M.out.1).only og (by omega)) (And.intro ((M.out.2.1).only og (by omega)) (And.intro hk hbw)))
  clear hk hbw og hv hz
  obtain ⟨w7, hv⟩ : ∃ x, x = ((((w6.setCell ⟨w.heap.size + 1, 0, none⟩ (.int .i64 0)).setCell ⟨w.heap.size + 1, 1, none⟩ (.slice none 0 0)).setCell ⟨w.heap.size + 1, 2, none⟩ (.int .i64 0)).setCell ⟨w.heap.size + 1, 3, none⟩ (.slice none 0 0)) := ⟨_, rfl⟩
  rw [← hv]
  have og : w6.grownBy w7 (some (w.heap.size + 1)) := by rw [hv]; exact (only_setCell (only_setCell (only_setCell (only_setCell (World.grownBy.refl _ _) _) _) _) _)
  have hz : w.heap.size ≤ w.heap.size + 1 := by omega
  have hk : Bx w7 (w.heap.size + 1) 34 #[.int .i64 0, .slice none 0 0, .int .i64 0, .slice none 0 0] := by rw [hv]; exact (((((M.out.2.1).set 0 _).set 1 _).set 2 _).set 3 _)
  have hbw : Below w.heap.size w w7 := by rw [hv]; exact (Below.setCell (Below.setCell (Below.setCell (Below.setCell (M.out.2.2.2) (by omega) _) (by omega) _) (by omega) _) (by omega) _)
  replace M := Lib.hid (And.intro ((M.out.1).only og (by omega)) (And.intro hk (And.intro ((M.out.2.2.1).only og (by omega)) hbw)))
  clear hk hbw og hv hz
  refine bodyPost_ret (results_box2t rfl _ _ w.heap.size (w.heap.size + 1) 34 34 _ _ _ _ _ _ rfl (M.out.2.2.1) Try.underlying34 rfl (by kernel_rfl) rfl (M.out.2.1) Try.underlying34 rfl (by kernel_rfl)) rfl ?_
  exact ⟨rfl, (M.out.2.2.2)⟩
set_option maxHeartbeats 4000000 in
theorem scInterval_yes {cs : List Ct} {rs : List Rc} {sc rd day : Int} {a1 a2 : Option Addr} {cap1 cap2 : Nat} {w : World} (h1 : CtIn w (.slice a1 cs.length cap1) cs) (h2 : RcIn w (.slice a2 rs.length cap2) rs) (hn1 : cs.length ≤ 1099511627776) (hn2 : rs.length ≤ 1099511627776) {ct : Ct} {g : Nat} {hgl : g < cs.length} (hct : ct = cs[g]) (hf : findC cs sc day = some g) (hr : recalledB rs sc day = false) (hi : inR rd 0 1099511627776 = true) (hG : G ≤ w.heap.size) :
    Calls Try.prog 14 #[.slice a1 cs.length cap1, .slice a2 rs.length cap2, .int .i64 sc, .int .i64 rd, .int .i64 day] w fun e w' => ∃ a c b d a' c' b' d', e = .returned (.tuple #[.agg #[.int .i64 (sg (nu (loQ (errQ ct rd day) rd))), .slice a (ln (nu (loQ (errQ ct rd day) rd))) c, .int .i64 (sg (de (loQ (errQ ct rd day) rd))), .slice b (ln (de (loQ (errQ ct rd day) rd))) d], .agg #[.int .i64 (sg (nu (hiQ (errQ ct rd day) rd))), .slice a' (ln (nu (hiQ (errQ ct rd day) rd))) c', .int .i64 (sg (de (hiQ (errQ ct rd day) rd))), .slice b' (ln (de (hiQ (errQ ct rd day) rd))) d'], .bool true]) ∧ FD G w' a c b d (loQ (errQ ct rd day) rd) ∧ FD G w' a' c' b' d' (hiQ (errQ ct rd day) rd) ∧ Below w.heap.size w w' := by
  obtain ⟨hgl, -, hc⟩ := findC_is hf
  obtain ⟨b, off, rfl, hb, hcell⟩ := h1.at hgl
  obtain ⟨s, f, u, n, p, d⟩ := ct
  rw [← hct] at hc hcell
  have hI2 : (g : Int) < (cs.length : Int) := by omega
  have HC := Lib.hid hc
  have HF := Lib.hid hf
  have HR := Lib.hid hr
  have HI := Lib.hid hi
  clear hf hr hi hc hct
  have hbi := in_bounds HI.out
  have H1 : Hid (CtIn w (.slice (some ⟨b, off, none⟩) cs.length cap1) cs) := h1
  have H2 : Hid (RcIn w (.slice a2 rs.length cap2) rs) := h2
  have HROW : Hid (Row w b (off + g * 6) [.int .i64 s, .int .i64 f, .int .i64 u, .int .i64 n, .int .i64 p, .int .i64 d]) := ⟨hb, hcell⟩
  clear h1 h2 hcell
  have M : Hid (Below w.heap.size w w) := Below.refl _ _
  go_enter Try.func14, Try.ntmps14
  go_upto_region 1 with fail
  obtain ⟨w1, hv⟩ : ∃ x, x = ((w.alloc (.cells #[.int .i64 0, .slice none 0 0, .int .i64 0, .slice none 0 0] 34)).alloc (.cells #[.int .i64 0, .slice none 0 0, .int .i64 0, .slice none 0 0] 34)) := ⟨_, rfl⟩
  rw [← hv]
  have hbx := bx2 w 34 34 #[.int .i64 0, .slice none 0 0, .int .i64 0, .slice none 0 0] #[.int .i64 0, .slice none 0 0, .int .i64 0, .slice none 0 0]
  rw [← hv] at hbx
  have hbn : Below w.heap.size w w1 := by rw [hv]; exact (Below.alloc (Below.alloc (Below.refl _ _) (by simp) _) (by simp) _)
  replace M := Lib.hid (And.intro hbx.2 (And.intro hbx.1 (Goes.go M.out hbn)))
  clear hbx hbn
  clear hv
  go_wp2_with fail
  refine (scFind_some (sc := sc) (day := day) (H1.out.keep (M.out.2.2)) (by omega) HF.out).mono ?_
  rintro e w2 ⟨rfl, hb⟩
  replace M := Lib.hid (Goes.go M.out hb)
  clear hb
  go_wp2_with fail
  refine (scRec_is (sc := sc) (day := day) (b := false) (H2.out.keep (M.out.2.2)) (by omega) HR.out).mono ?_
  rintro e w3 ⟨rfl, hb⟩
  replace M := Lib.hid (Goes.go M.out hb)
  clear hb
  obtain ⟨r0_0, r0_1, r0_2, r0_3, r0_4, r0_5⟩ := (HROW.out.keep (M.out.2.2)).c6
  go_wp2_with fail
  clear r0_0 r0_1 r0_2 r0_3 r0_4 r0_5
  obtain ⟨q5, eq5⟩ : ∃ x : Rat, x = (errQ ⟨s, f, u, n, p, d⟩ rd day) := ⟨_, rfl⟩
  refine (scError_yes (G := G) (s := s) (f := f) (u := u) (n := n) (p := p) (d := d) (rd := rd) (day := day) (Nat.le_trans hG (M.out.2.2).size) HC.out HI.out).mono ?_
  rintro e w4 ⟨a_1, c_2, b_3, d_4, rfl, hd6, hb⟩
  rw [← eq5] at hd6 ⊢
  have Sq5 : Hid (Fz q5 9) := by show Fz q5 9; rw [eq5]; exact (errQ_size HC.out HI.out)
  have Eq5 := Lib.hid eq5; clear eq5
  replace M := Lib.hid (And.intro hd6 (Goes.go M.out hb))
  clear hb hd6
  go_upto_region 5 with fail
  obtain ⟨w5, hv⟩ : ∃ x, x = (w4.alloc (.cells #[.int .i64 (sg (nu q5)), .slice a_1 (ln (nu q5)) c_2, .int .i64 (sg (de q5)), .slice b_3 (ln (de q5)) d_4] 34)) := ⟨_, rfl⟩
  rw [← hv]
  have o2 : w.heap.size + 1 < w4.heap.size := ((M.out.2.1)).lt
  replace M := Lib.hid (And.intro (hv ▸ bx1 w4 34 #[.int .i64 (sg (nu q5)), .slice a_1 (ln (nu q5)) c_2, .int .i64 (sg (de q5)), .slice b_3 (ln (de q5)) d_4]) (Goes.go M.out (hv ▸ below_alloc _ _ : Below w4.heap.size w4 w5)))
  clear hv
  go_wp2_with fail
  obtain ⟨q11, eq11⟩ : ∃ x : Rat, x = (rd : Rat) := ⟨_, rfl⟩
  refine (fracInt_ok (G := G) rd _ (by omega)).mono ?_
  rintro e w6 ⟨a_7, c_8, b_9, d_10, rfl, hd12, hb⟩
  rw [← eq11] at hd12 ⊢
  have Sq11 : Hid (Fz q11 4) := by show Fz q11 4; rw [eq11]; exact (Fz.int64 (by omega))
  have Eq11 := Lib.hid eq11; clear eq11
  replace M := Lib.hid (And.intro hd12 (Goes.go M.out hb))
  clear hb hd12
  go_upto_region 8 with fail
  obtain ⟨w7, hv⟩ : ∃ x, x = (w6.alloc (.cells #[.int .i64 (sg (nu q11)), .slice a_7 (ln (nu q11)) c_8, .int .i64 (sg (de q11)), .slice b_9 (ln (de q11)) d_10] 34)) := ⟨_, rfl⟩
  rw [← hv]
  have o3 : w4.heap.size < w6.heap.size := ((M.out.2.1)).lt
  replace M := Lib.hid (And.intro (hv ▸ bx1 w6 34 #[.int .i64 (sg (nu q11)), .slice a_7 (ln (nu q11)) c_8, .int .i64 (sg (de q11)), .slice b_9 (ln (de q11)) d_10]) (Goes.go M.out (hv ▸ below_alloc _ _ : Below w6.heap.size w6 w7)))
  clear hv
  obtain ⟨p3_0, q3_0, p3_1, q3_1, p3_2, q3_2, p3_3, q3_3⟩ := (M.out.1).c4
  obtain ⟨p2_0, q2_0, p2_1, q2_1, p2_2, q2_2, p2_3, q2_3⟩ := (M.out.2.2.1).c4
  go_wp2_with fail
  clear p3_0 q3_0 p3_1 q3_1 p3_2 q3_2 p3_3 q3_3 p2_0 q2_0 p2_1 q2_1 p2_2 q2_2 p2_3 q2_3
  obtain ⟨q17, eq17⟩ : ∃ x : Rat, x = (q11 - q5) := ⟨_, rfl⟩
  refine (fracSub_ok (G := G) (q := q11) (r := q5) (M.out.2.1) (M.out.2.2.2.1) (Fz.mono Sq11.out (by omega)) (Fz.mono Sq5.out (by omega))).mono ?_
  rintro e w8 ⟨a_13, c_14, b_15, d_16, rfl, hd18, hb⟩
  rw [← eq17] at hd18 ⊢
  have Sq17 : Hid (Fz q17 14) := by show Fz q17 14; rw [eq17]; exact (Fz.sub Sq11.out Sq5.out)
  have Eq17 := Lib.hid eq17; clear eq17
  replace M := Lib.hid (And.intro hd18 (Goes.go M.out hb))
  clear hb hd18
  obtain ⟨p0_0, q0_0, p0_1, q0_1, p0_2, q0_2, p0_3, q0_3⟩ := (M.out.2.2.2.2.2.2.1).c4
  go_upto_region 9 with fail
  clear p0_0 q0_0 p0_1 q0_1 p0_2 q0_2 p0_3 q0_3
  obtain ⟨w9, hv⟩ : ∃ x, x = ((((w8.setCell ⟨w.heap.size, 0, none⟩ (.int .i64 (sg (nu q17)))).setCell ⟨w.heap.size, 1, none⟩ (.slice a_13 (ln (nu q17)) c_14)).setCell ⟨w.heap.size, 2, none⟩ (.int .i64 (sg (de q17)))).setCell ⟨w.heap.size, 3, none⟩ (.slice b_15 (ln (de q17)) d_16)) := ⟨_, rfl⟩
  rw [← hv]
  have og : w8.grownBy w9 (some w.heap.size) := by rw [hv]; exact (only_setCell (only_setCell (only_setCell (only_setCell (World.grownBy.refl _ _) _) _) _) _)
  have hz : w.heap.size ≤ w.heap.size := by exact Nat.le_refl _
  have hk : Bx w9 w.heap.size 34 #[.int .i64 (sg (nu q17)), .slice a_13 (ln (nu q17)) c_14, .int .i64 (sg (de q17)), .slice b_15 (ln (de q17)) d_16] := by rw [hv]; exact (((((M.out.2.2.2.2.2.2.1).set 0 _).set 1 _).set 2 _).set 3 _)
  have hbw : Below w.heap.size w w9 := by rw [hv]; exact (Below.setCell (Below.setCell (Below.setCell (Below.setCell (M.out.2.2.2.2.2.2.2) (by omega) _) (by omega) _) (by omega) _) (by omega) _)
  replace M := Lib.hid (And.intro ((M.out.1).far (M.out.2.2.2.2.2.2.1) (by rfl) (by omega) og) (And.intro ((M.out.2.1).only og (by omega)) (And.intro ((M.out.2.2.1).far (M.out.2.2.2.2.2.2.1) (by rfl) (by omega) og) (And.intro ((M.out.2.2.2.1).only og (by omega)) (And.intro ((M.out.2.2.2.2.1).far (M.out.2.2.2.2.2.2.1) (by rfl) (by omega) og) (And.intro ((M.out.2.2.2.2.2.1).only og (by omega)) (And.intro hk hbw)))))))
  clear hk hbw og hv hz
  obtain ⟨p3_0, q3_0, p3_1, q3_1, p3_2, q3_2, p3_3, q3_3⟩ := (M.out.2.1).c4
  obtain ⟨p2_0, q2_0, p2_1, q2_1, p2_2, q2_2, p2_3, q2_3⟩ := (M.out.2.2.2.1).c4
  go_wp2_with fail
  clear p3_0 q3_0 p3_1 q3_1 p3_2 q3_2 p3_3 q3_3 p2_0 q2_0 p2_1 q2_1 p2_2 q2_2 p2_3 q2_3
  obtain ⟨q23, eq23⟩ : ∃ x : Rat, x = (q11 + q5) := ⟨_, rfl⟩
  refine (fracAdd_ok (G := G) (q := q11) (r := q5) (M.out.2.2.1) (M.out.2.2.2.2.1) (Fz.mono Sq11.out (by omega)) (Fz.mono Sq5.out (by omega))).mono ?_
  rintro e w10 ⟨a_19, c_20, b_21, d_22, rfl, hd24, hb⟩
  rw [← eq23] at hd24 ⊢
  have Sq23 : Hid (Fz q23 14) := by show Fz q23 14; rw [eq23]; exact (Fz.add Sq11.out Sq5.out)
  have Eq23 := Lib.hid eq23; clear eq23
  replace M := Lib.hid (And.intro hd24 (Goes.go M.out hb))
  clear hb hd24
  obtain ⟨p1_0, q1_0, p1_1, q1_1, p1_2, q1_2, p1_3, q1_3⟩ := (M.out.2.2.2.2.2.2.1).c4
  go_upto_region 10 with fail
  clear p1_0 q1_0 p1_1 q1_1 p1_2 q1_2 p1_3 q1_3
  obtain ⟨w11, hv⟩ : ∃ x, x = ((((w10.setCell ⟨w.heap.size + 1, 0, none⟩ (.int .i64 (sg (nu q23)))).setCell ⟨w.heap.size + 1, 1, none⟩ (.slice a_19 (ln (nu q23)) c_20)).setCell ⟨w.heap.size + 1, 2, none⟩ (.int .i64 (sg (de q23)))).setCell ⟨w.heap.size + 1, 3, none⟩ (.slice b_21 (ln (de q23)) d_22)) := ⟨_, rfl⟩
  rw [← hv]
  have og : w10.grownBy w11 (some (w.heap.size + 1)) := by rw [hv]; exact (only_setCell (only_setCell (only_setCell (only_setCell (World.grownBy.refl _ _) _) _) _) _)
  have hz : w.heap.size ≤ w.heap.size + 1 := by omega
  have hk : Bx w11 (w.heap.size + 1) 34 #[.int .i64 (sg (nu q23)), .slice a_19 (ln (nu q23)) c_20, .int .i64 (sg (de q23)), .slice b_21 (ln (de q23)) d_22] := by rw [hv]; exact (((((M.out.2.2.2.2.2.2.1).set 0 _).set 1 _).set 2 _).set 3 _)
  have hbw : Below w.heap.size w w11 := by rw [hv]; exact (Below.setCell (Below.setCell (Below.setCell (Below.setCell (M.out.2.2.2.2.2.2.2.2) (by omega) _) (by omega) _) (by omega) _) (by omega) _)
  replace M := Lib.hid (And.intro ((M.out.1).far (M.out.2.2.2.2.2.2.1) (by rfl) (by omega) og) (And.intro ((M.out.2.1).far (M.out.2.2.2.2.2.2.1) (by rfl) (by omega) og) (And.intro ((M.out.2.2.1).only og (by omega)) (And.intro ((M.out.2.2.2.1).far (M.out.2.2.2.2.2.2.1) (by rfl) (by omega) og) (And.intro ((M.out.2.2.2.2.1).only og (by omega)) (And.intro ((M.out.2.2.2.2.2.1).far (M.out.2.2.2.2.2.2.1) (by rfl) (by omega) og) (And.intro hk (And.intro ((M.out.2.2.2.2.2.2.2.1).only og (by omega)) hbw))))))))
  clear hk hbw og hv hz
  go_cut [] (fun wx => ∃ (a_25 : Option Addr), ∃ (c_26 : Nat), ∃ (b_27 : Option Addr), ∃ (d_28 : Nat), ∃ (q29 : Rat), ∃ (a_31 : Option Addr), ∃ (c_32 : Nat), ∃ (b_33 : Option Addr), ∃ (d_34 : Nat), ∃ (q35 : Rat), Hid (q29 = ((0 : Int) : Rat)) ∧ Hid (q35 = (pick q17 q29 (1))) ∧ Hid (Fz q29 4) ∧ Hid (FD G wx a_31 c_32 b_33 d_34 q35 ∧ FD G wx a_25 c_26 b_27 d_28 q29 ∧ FD G wx a_19 c_20 b_21 d_22 q23 ∧ FD G wx a_13 c_14 b_15 d_16 q17 ∧ FD G wx a_7 c_8 b_9 d_10 q11 ∧ FD G wx a_1 c_2 b_3 d_4 q5 ∧ Bx wx w.heap.size 34 #[.int .i64 (sg (nu q35)), .slice a_31 (ln (nu q35)) c_32, .int .i64 (sg (de q35)), .slice b_33 (ln (de q35)) d_34] ∧ Bx wx (w.heap.size + 1) 34 #[.int .i64 (sg (nu q23)), .slice a_19 (ln (nu q23)) c_20, .int .i64 (sg (de q23)), .slice b_21 (ln (de q23)) d_22] ∧ Bx wx w4.heap.size 34 #[.int .i64 (sg (nu q5)), .slice a_1 (ln (nu q5)) c_2, .int .i64 (sg (de q5)), .slice b_3 (ln (de q5)) d_4] ∧ Bx wx w6.heap.size 34 #[.int .i64 (sg (nu q11)), .slice a_7 (ln (nu q11)) c_8, .int .i64 (sg (de q11)), .slice b_9 (ln (de q11)) d_10] ∧ Below w.heap.size w wx))
  case first =>
    obtain ⟨w12, hv⟩ : ∃ x, x = w11.drew := ⟨_, rfl⟩
    replace M := Lib.hid (Goes.go M.out (hv ▸ below_drew _ : Below w11.heap.size w11 w12))
    refine wp_region_held_drew (S := (fun _ => True)) (by kernel_rfl) trivial (fun hH37 => ?_)
    rw [← hv]
    clear hv
    refine wpAnyH_ready (rs := [0, 1]) (by kernel_rfl) (by simp) ?_
    refine AllReadyH.cons at0 (fun K hK => ?_) ?_
    ·
      obtain ⟨p0_0, q0_0, p0_1, q0_1, p0_2, q0_2, p0_3, q0_3⟩ := (M.out.2.2.2.2.2.2.2.1).c4
      go_simp
      clear p0_0 q0_0 p0_1 q0_1 p0_2 q0_2 p0_3 q0_3
      refine hK.out _ _ (trivial) (fun hH38 => ?_)
      clear hK K hH37
      (try simp only [Act.put, List.setIfInBounds_toArray, List.set_cons_zero, List.set_cons_succ])
      refine wpAnyH_ready (rs := [1]) (by kernel_rfl) (by simp) ?_
      refine AllReadyH.cons at1 (fun K hK => ?_) AllReadyH.nil
      go_simp
      obtain ⟨q43, eq43⟩ : ∃ x : Rat, x = ((0 : Int) : Rat) := ⟨_, rfl⟩
      refine (fracInt_ok (G := G) 0 _ (by omega)).mono ?_
      rintro e w13 ⟨a_39, c_40, b_41, d_42, rfl, hd44, hb⟩
      rw [← eq43] at hd44 ⊢
      have Sq43 : Hid (Fz q43 4) := by show Fz q43 4; rw [eq43]; exact (Fz.int64 (by omega))
      have Eq43 := Lib.hid eq43; clear eq43
      replace M := Lib.hid (And.intro hd44 (Goes.go M.out hb))
      clear hb hd44
      (try go_wp2_with fail)
      refine hK.out _ _ (trivial) (fun hH45 => ?_)
      clear hK K hH38
      (try simp only [Act.put, List.setIfInBounds_toArray, List.set_cons_zero, List.set_cons_succ])
      refine wpAnyH_ready (rs := [2]) (by kernel_rfl) (by simp) ?_
      refine AllReadyH.cons at2 (fun K hK => ?_) AllReadyH.nil
      go_simp
      obtain ⟨q50, eq50⟩ : ∃ x : Rat, x = (pick q17 q43 (1)) := ⟨_, rfl⟩
      refine (fracMax_ok (G := G) (q := q17) (r := q43) (M.out.2.2.1) (M.out.1) (Fz.mono Sq17.out (by omega)) (Fz.mono Sq43.out (by omega))).mono ?_
      rintro e w14 ⟨a_46, c_47, b_48, d_49, rfl, hd51, hb⟩
      rw [← eq50] at hd51 ⊢
      have Eq50 := Lib.hid eq50; clear eq50
      replace M := Lib.hid (And.intro hd51 (Goes.go M.out hb))
      clear hb hd51
      (try go_wp2_with fail)
      refine hK.out _ _ (trivial) (fun hH52 => ?_)
      clear hK K hH45
      (try simp only [Act.put, List.setIfInBounds_toArray, List.set_cons_zero, List.set_cons_succ])
      refine tk at3 ?_
      refine tk at4 ?_
      refine tk at5 ?_
      refine wpAnyH_ready (rs := [6]) (by kernel_rfl) (by simp) ?_
      refine AllReadyH.cons at6 (fun K hK => ?_) AllReadyH.nil
      obtain ⟨p0_0, q0_0, p0_1, q0_1, p0_2, q0_2, p0_3, q0_3⟩ := (M.out.2.2.2.2.2.2.2.2.2.1).c4
      go_simp
      clear p0_0 q0_0 p0_1 q0_1 p0_2 q0_2 p0_3 q0_3
      obtain ⟨w15, hv⟩ : ∃ x, x = ((((w14.setCell ⟨w.heap.size, 0, none⟩ (.int .i64 (sg (nu q50)))).setCell ⟨w.heap.size, 1, none⟩ (.slice a_46 (ln (nu q50)) c_47)).setCell ⟨w.heap.size, 2, none⟩ (.int .i64 (sg (de q50)))).setCell ⟨w.heap.size, 3, none⟩ (.slice b_48 (ln (de q50)) d_49)) := ⟨_, rfl⟩
      rw [← hv]
      have og : w14.grownBy w15 (some w.heap.size) := by rw [hv]; exact (only_setCell (only_setCell (only_setCell (only_setCell (World.grownBy.refl _ _) _) _) _) _)
      have hz : w.heap.size ≤ w.heap.size := by exact Nat.le_refl _
      have hk : Bx w15 w.heap.size 34 #[.int .i64 (sg (nu q50)), .slice a_46 (ln (nu q50)) c_47, .int .i64 (sg (de q50)), .slice b_48 (ln (de q50)) d_49] := by rw [hv]; exact (((((M.out.2.2.2.2.2.2.2.2.2.1).set 0 _).set 1 _).set 2 _).set 3 _)
      have hbw : Below w.heap.size w w15 := by rw [hv]; exact (Below.setCell (Below.setCell (Below.setCell (Below.setCell (M.out.2.2.2.2.2.2.2.2.2.2) (by omega) _) (by omega) _) (by omega) _) (by omega) _)
      replace M := Lib.hid (And.intro ((M.out.1).far (M.out.2.2.2.2.2.2.2.2.2.1) (by rfl) (by omega) og) (And.intro ((M.out.2.1).far (M.out.2.2.2.2.2.2.2.2.2.1) (by rfl) (by omega) og) (And.intro ((M.out.2.2.1).far (M.out.2.2.2.2.2.2.2.2.2.1) (by rfl) (by omega) og) (And.intro ((M.out.2.2.2.1).far (M.out.2.2.2.2.2.2.2.2.2.1) (by rfl) (by omega) og) (And.intro ((M.out.2.2.2.2.1).only og (by omega)) (And.intro ((M.out.2.2.2.2.2.1).far (M.out.2.2.2.2.2.2.2.2.2.1) (by rfl) (by omega) og) (And.intro ((M.out.2.2.2.2.2.2.1).only og (by omega)) (And.intro ((M.out.2.2.2.2.2.2.2.1).far (M.out.2.2.2.2.2.2.2.2.2.1) (by rfl) (by omega) og) (And.intro ((M.out.2.2.2.2.2.2.2.2.1).only og (by omega)) (And.intro hk hbw))))))))))
      clear hk hbw og hv hz
      refine hK.out _ _ (trivial) (fun hH53 => ?_)
      clear hK K hH52
      (try simp only [Act.put, List.setIfInBounds_toArray, List.set_cons_zero, List.set_cons_succ])
      refine wpAnyH_done (by kernel_rfl) ?_ _
      clear hH53
      go_wp2_with fail
      go_meet
      exact ⟨a_39, c_40, b_41, d_42, q43, a_46, c_47, b_48, d_49, q50, Eq43, Eq50, Sq43, (M.out.1), (M.out.2.1), (M.out.2.2.1), (M.out.2.2.2.1), (M.out.2.2.2.2.2.1), (M.out.2.2.2.2.2.2.2.1), (M.out.2.2.2.2.2.2.2.2.2.1), (M.out.2.2.2.2.2.2.2.2.1), (M.out.2.2.2.2.2.2.1), (M.out.2.2.2.2.1), (M.out.2.2.2.2.2.2.2.2.2.2)⟩
    refine AllReadyH.cons at1 (fun K hK => ?_) AllReadyH.nil
    go_simp
    obtain ⟨q58, eq58⟩ : ∃ x : Rat, x = ((0 : Int) : Rat) := ⟨_, rfl⟩
    refine (fracInt_ok (G := G) 0 _ (by omega)).mono ?_
    rintro e w13 ⟨a_54, c_55, b_56, d_57, rfl, hd59, hb⟩
    rw [← eq58] at hd59 ⊢
    have Sq58 : Hid (Fz q58 4) := by show Fz q58 4; rw [eq58]; exact (Fz.int64 (by omega))
    have Eq58 := Lib.hid eq58; clear eq58
    replace M := Lib.hid (And.intro hd59 (Goes.go M.out hb))
    clear hb hd59
    (try go_wp2_with fail)
    refine hK.out _ _ (trivial) (fun hH60 => ?_)
    clear hK K hH37
    (try simp only [Act.put, List.setIfInBounds_toArray, List.set_cons_zero, List.set_cons_succ])
    refine wpAnyH_ready (rs := [0]) (by kernel_rfl) (by simp) ?_
    refine AllReadyH.cons at0 (fun K hK => ?_) AllReadyH.nil
    obtain ⟨p0_0, q0_0, p0_1, q0_1, p0_2, q0_2, p0_3, q0_3⟩ := (M.out.2.2.2.2.2.2.2.2.1).c4
    go_simp
    clear p0_0 q0_0 p0_1 q0_1 p0_2 q0_2 p0_3 q0_3
    refine hK.out _ _ (trivial) (fun hH61 => ?_)
    clear hK K hH60
    (try simp only [Act.put, List.setIfInBounds_toArray, List.set_cons_zero, List.set_cons_succ])
    refine wpAnyH_ready (rs := [2]) (by kernel_rfl) (by simp) ?_
    refine AllReadyH.cons at2 (fun K hK => ?_) AllReadyH.nil
    go_simp
    obtain ⟨q66, eq66⟩ : ∃ x : Rat, x = (pick q17 q58 (1)) := ⟨_, rfl⟩
    refine (fracMax_ok (G := G) (q := q17) (r := q58) (M.out.2.2.1) (M.out.1) (Fz.mono Sq17.out (by omega)) (Fz.mono Sq58.out (by omega))).mono ?_
    rintro e w14 ⟨a_62, c_63, b_64, d_65, rfl, hd67, hb⟩
    rw [← eq66] at hd67 ⊢
    have Eq66 := Lib.hid eq66; clear eq66
    replace M := Lib.hid (And.intro hd67 (Goes.go M.out hb))
    clear hb hd67
    (try go_wp2_with fail)
    refine hK.out _ _ (trivial) (fun hH68 => ?_)
    clear hK K hH61
    (try simp only [Act.put, List.setIfInBounds_toArray, List.set_cons_zero, List.set_cons_succ])
    refine tk at3 ?_
    refine tk at4 ?_
    refine tk at5 ?_
    refine wpAnyH_ready (rs := [6]) (by kernel_rfl) (by simp) ?_
    refine AllReadyH.cons at6 (fun K hK => ?_) AllReadyH.nil
    obtain ⟨p0_0, q0_0, p0_1, q0_1, p0_2, q0_2, p0_3, q0_3⟩ := (M.out.2.2.2.2.2.2.2.2.2.1).c4
    go_simp
    clear p0_0 q0_0 p0_1 q0_1 p0_2 q0_2 p0_3 q0_3
    obtain ⟨w15, hv⟩ : ∃ x, x = ((((w14.setCell ⟨w.heap.size, 0, none⟩ (.int .i64 (sg (nu q66)))).setCell ⟨w.heap.size, 1, none⟩ (.slice a_62 (ln (nu q66)) c_63)).setCell ⟨w.heap.size, 2, none⟩ (.int .i64 (sg (de q66)))).setCell ⟨w.heap.size, 3, none⟩ (.slice b_64 (ln (de q66)) d_65)) := ⟨_, rfl⟩
    rw [← hv]
    have og : w14.grownBy w15 (some w.heap.size) := by rw [hv]; exact (only_setCell (only_setCell (only_setCell (only_setCell (World.grownBy.refl _ _) _) _) _) _)
    have hz : w.heap.size ≤ w.heap.size := by exact Nat.le_refl _
    have hk : Bx w15 w.heap.size 34 #[.int .i64 (sg (nu q66)), .slice a_62 (ln (nu q66)) c_63, .int .i64 (sg (de q66)), .slice b_64 (ln (de q66)) d_65] := by rw [hv]; exact (((((M.out.2.2.2.2.2.2.2.2.2.1).set 0 _).set 1 _).set 2 _).set 3 _)
    have hbw : Below w.heap.size w w15 := by rw [hv]; exact (Below.setCell (Below.setCell (Below.setCell (Below.setCell (M.out.2.2.2.2.2.2.2.2.2.2) (by omega) _) (by omega) _) (by omega) _) (by omega) _)
    replace M := Lib.hid (And.intro ((M.out.1).far (M.out.2.2.2.2.2.2.2.2.2.1) (by rfl) (by omega) og) (And.intro ((M.out.2.1).far (M.out.2.2.2.2.2.2.2.2.2.1) (by rfl) (by omega) og) (And.intro ((M.out.2.2.1).far (M.out.2.2.2.2.2.2.2.2.2.1) (by rfl) (by omega) og) (And.intro ((M.out.2.2.2.1).far (M.out.2.2.2.2.2.2.2.2.2.1) (by rfl) (by omega) og) (And.intro ((M.out.2.2.2.2.1).only og (by omega)) (And.intro ((M.out.2.2.2.2.2.1).far (M.out.2.2.2.2.2.2.2.2.2.1) (by rfl) (by omega) og) (And.intro ((M.out.2.2.2.2.2.2.1).only og (by omega)) (And.intro ((M.out.2.2.2.2.2.2.2.1).far (M.out.2.2.2.2.2.2.2.2.2.1) (by rfl) (by omega) og) (And.intro ((M.out.2.2.2.2.2.2.2.2.1).only og (by omega)) (And.intro hk hbw))))))))))
    clear hk hbw og hv hz
    refine hK.out _ _ (trivial) (fun hH69 => ?_)
    clear hK K hH68
    (try simp only [Act.put, List.setIfInBounds_toArray, List.set_cons_zero, List.set_cons_succ])
    refine wpAnyH_done (by kernel_rfl) ?_ _
    clear hH69
    go_wp2_with fail
    go_meet
    exact ⟨a_54, c_55, b_56, d_57, q58, a_62, c_63, b_64, d_65, q66, Eq58, Eq66, Sq58, (M.out.1), (M.out.2.1), (M.out.2.2.1), (M.out.2.2.2.1), (M.out.2.2.2.2.2.1), (M.out.2.2.2.2.2.2.2.1), (M.out.2.2.2.2.2.2.2.2.2.1), (M.out.2.2.2.2.2.2.2.2.1), (M.out.2.2.2.2.2.2.1), (M.out.2.2.2.2.1), (M.out.2.2.2.2.2.2.2.2.2.2)⟩
  case rest =>
    obtain ⟨a_25, c_26, b_27, d_28, q29, a_31, c_32, b_33, d_34, q35, Eq29, Eq35, Sq29, M⟩ := hcut
    obtain ⟨w12, rfl⟩ : ∃ x, x = wc := ⟨_, rfl⟩
    go_wp2_with fail
    obtain ⟨w13, hv⟩ : ∃ x, x = w12.drew := ⟨_, rfl⟩
    replace M := Lib.hid (Goes.go M.out (hv ▸ below_drew _ : Below w12.heap.size w12 w13))
    refine wp_region_held_drew (S := (fun _ => True)) (by kernel_rfl) trivial (fun hH70 => ?_)
    rw [← hv]
    clear hv
    refine wpAnyH_ready (rs := [0, 1]) (by kernel_rfl) (by simp) ?_
    refine AllReadyH.cons at0 (fun K hK => ?_) ?_
    ·
      obtain ⟨p0_0, q0_0, p0_1, q0_1, p0_2, q0_2, p0_3, q0_3⟩ := (M.out.2.2.2.2.2.2.1).c4
      go_simp
      clear p0_0 q0_0 p0_1 q0_1 p0_2 q0_2 p0_3 q0_3
      refine hK.out _ _ (trivial) (fun hH71 => ?_)
      clear hK K hH70
      (try simp only [Act.put, List.setIfInBounds_toArray, List.set_cons_zero, List.set_cons_succ])
      refine wpAnyH_ready (rs := [1, 2]) (by kernel_rfl) (by simp) ?_
      refine AllReadyH.cons at1 (fun K hK => ?_) ?_
      ·
        obtain ⟨p1_0, q1_0, p1_1, q1_1, p1_2, q1_2, p1_3, q1_3⟩ := (M.out.2.2.2.2.2.2.2.1).c4
        go_simp
        clear p1_0 q1_0 p1_1 q1_1 p1_2 q1_2 p1_3 q1_3
        refine hK.out _ _ (trivial) (fun hH72 => ?_)
        clear hK K hH71
        (try simp only [Act.put, List.setIfInBounds_toArray, List.set_cons_zero, List.set_cons_succ])
        refine wpAnyH_ready (rs := [2]) (by kernel_rfl) (by simp) ?_
        refine AllReadyH.cons at2 (fun K hK => ?_) AllReadyH.nil
        obtain ⟨p0_0, q0_0, p0_1, q0_1, p0_2, q0_2, p0_3, q0_3⟩ := (M.out.2.2.2.2.2.2.1).c4
        go_simp
        clear p0_0 q0_0 p0_1 q0_1 p0_2 q0_2 p0_3 q0_3
        obtain ⟨w14, hv⟩ : ∃ x, x = ((((w13.setCell ⟨w.heap.size, 0, none⟩ (.int .i64 (sg (nu q35)))).setCell ⟨w.heap.size, 1, none⟩ (.slice a_31 (ln (nu q35)) c_32)).setCell ⟨w.heap.size, 2, none⟩ (.int .i64 (sg (de q35)))).setCell ⟨w.heap.size, 3, none⟩ (.slice b_33 (ln (de q35)) d_34)) := ⟨_, rfl⟩
        rw [← hv]
        have og : w13.grownBy w14 (some w.heap.size) := by rw [hv]; exact (only_setCell (only_setCell (only_setCell (only_setCell (World.grownBy.refl _ _) _) _) _) _)
        have hz : w.heap.size ≤ w.heap.size := by exact Nat.le_refl _
        have hk : Bx w14 w.heap.size 34 #[.int .i64 (sg (nu q35)), .slice a_31 (ln (nu q35)) c_32, .int .i64 (sg (de q35)), .slice b_33 (ln (de q35)) d_34] := by rw [hv]; exact (((((M.out.2.2.2.2.2.2.1).set 0 _).set 1 _).set 2 _).set 3 _)
        have hbw : Below w.heap.size w w14 := by rw [hv]; exact (Below.setCell (Below.setCell (Below.setCell (Below.setCell (M.out.2.2.2.2.2.2.2.2.2.2) (by omega) _) (by omega) _) (by omega) _) (by omega) _)
        replace M := Lib.hid (And.intro ((M.out.1).far (M.out.2.2.2.2.2.2.1) (by rfl) (by omega) og) (And.intro ((M.out.2.1).far (M.out.2.2.2.2.2.2.1) (by rfl) (by omega) og) (And.intro ((M.out.2.2.1).far (M.out.2.2.2.2.2.2.1) (by rfl) (by omega) og) (And.intro ((M.out.2.2.2.1).far (M.out.2.2.2.2.2.2.1) (by rfl) (by omega) og) (And.intro ((M.out.2.2.2.2.1).far (M.out.2.2.2.2.2.2.1) (by rfl) (by omega) og) (And.intro ((M.out.2.2.2.2.2.1).far (M.out.2.2.2.2.2.2.1) (by rfl) (by omega) og) (And.intro hk (And.intro ((M.out.2.2.2.2.2.2.2.1).only og (by omega)) (And.intro ((M.out.2.2.2.2.2.2.2.2.1).only og (by omega)) (And.intro ((M.out.2.2.2.2.2.2.2.2.2.1).only og (by omega)) hbw))))))))))
        clear hk hbw og hv hz
        refine hK.out _ _ (trivial) (fun hH73 => ?_)
        clear hK K hH72
        (try simp only [Act.put, List.setIfInBounds_toArray, List.set_cons_zero, List.set_cons_succ])
        refine wpAnyH_ready (rs := [3]) (by kernel_rfl) (by simp) ?_
        refine AllReadyH.cons at3 (fun K hK => ?_) AllReadyH.nil
        obtain ⟨p1_0, q1_0, p1_1, q1_1, p1_2, q1_2, p1_3, q1_3⟩ := (M.out.2.2.2.2.2.2.2.1).c4
        go_simp
        clear p1_0 q1_0 p1_1 q1_1 p1_2 q1_2 p1_3 q1_3
        obtain ⟨w15, hv⟩ : ∃ x, x = ((((w14.setCell ⟨w.heap.size + 1, 0, none⟩ (.int .i64 (sg (nu q23)))).setCell ⟨w.heap.size + 1, 1, none⟩ (.slice a_19 (ln (nu q23)) c_20)).setCell ⟨w.heap.size + 1, 2, none⟩ (.int .i64 (sg (de q23)))).setCell ⟨w.heap.size + 1, 3, none⟩ (.slice b_21 (ln (de q23)) d_22)) := ⟨_, rfl⟩
        rw [← hv]
        have og : w14.grownBy w15 (some (w.heap.size + 1)) := by rw [hv]; exact (only_setCell (only_setCell (only_setCell (only_setCell (World.grownBy.refl _ _) _) _) _) _)
        have hz : w.heap.size ≤ w.heap.size + 1 := by omega
        have hk : Bx w15 (w.heap.size + 1) 34 #[.int .i64 (sg (nu q23)), .slice a_19 (ln (nu q23)) c_20, .int .i64 (sg (de q23)), .slice b_21 (ln (de q23)) d_22] := by rw [hv]; exact (((((M.out.2.2.2.2.2.2.2.1).set 0 _).set 1 _).set 2 _).set 3 _)
        have hbw : Below w.heap.size w w15 := by rw [hv]; exact (Below.setCell (Below.setCell (Below.setCell (Below.setCell (M.out.2.2.2.2.2.2.2.2.2.2) (by omega) _) (by omega) _) (by omega) _) (by omega) _)
        replace M := Lib.hid (And.intro ((M.out.1).far (M.out.2.2.2.2.2.2.2.1) (by rfl) (by omega) og) (And.intro ((M.out.2.1).far (M.out.2.2.2.2.2.2.2.1) (by rfl) (by omega) og) (And.intro ((M.out.2.2.1).far (M.out.2.2.2.2.2.2.2.1) (by rfl) (by omega) og) (And.intro ((M.out.2.2.2.1).far (M.out.2.2.2.2.2.2.2.1) (by rfl) (by omega) og) (And.intro ((M.out.2.2.2.2.1).far (M.out.2.2.2.2.2.2.2.1) (by rfl) (by omega) og) (And.intro ((M.out.2.2.2.2.2.1).far (M.out.2.2.2.2.2.2.2.1) (by rfl) (by omega) og) (And.intro ((M.out.2.2.2.2.2.2.1).only og (by omega)) (And.intro hk (And.intro ((M.out.2.2.2.2.2.2.2.2.1).only og (by omega)) (And.intro ((M.out.2.2.2.2.2.2.2.2.2.1).only og (by omega)) hbw))))))))))
        clear hk hbw og hv hz
        refine hK.out _ _ (trivial) (fun hH74 => ?_)
        clear hK K hH73
        (try simp only [Act.put, List.setIfInBounds_toArray, List.set_cons_zero, List.set_cons_succ])
        refine tk at4 ?_
        refine wpAnyH_done (by kernel_rfl) ?_ _
        clear hH74
        go_wp2_with fail
        have HL : loQ (errQ ⟨s, f, u, n, p, d⟩ rd day) rd = q35 := by rw [Eq35.out, Eq17.out, Eq29.out, Eq11.out, Eq5.out]; rfl
        have HH : hiQ (errQ ⟨s, f, u, n, p, d⟩ rd day) rd = q23 := by rw [Eq23.out, Eq11.out, Eq5.out]; rfl
        rw [HL, HH]
        refine bodyPost_ret (results_box2t rfl _ _ w.heap.size (w.heap.size + 1) 34 34 _ _ _ _ _ _ rfl (M.out.2.2.2.2.2.2.1) Try.underlying34 rfl (by kernel_rfl) rfl (M.out.2.2.2.2.2.2.2.1) Try.underlying34 rfl (by kernel_rfl)) rfl ?_
        exact ⟨_, _, _, _, _, _, _, _, rfl, (M.out.1), (M.out.2.2.1), (M.out.2.2.2.2.2.2.2.2.2.2)⟩
      refine AllReadyH.cons at2 (fun K hK => ?_) AllReadyH.nil
      obtain ⟨p0_0, q0_0, p0_1, q0_1, p0_2, q0_2, p0_3, q0_3⟩ := (M.out.2.2.2.2.2.2.1).c4
      go_simp
      clear p0_0 q0_0 p0_1 q0_1 p0_2 q0_2 p0_3 q0_3
      obtain ⟨w14, hv⟩ : ∃ x, x = ((((w13.setCell ⟨w.heap.size, 0, none⟩ (.int .i64 (sg (nu q35)))).setCell ⟨w.heap.size, 1, none⟩ (.slice a_31 (ln (nu q35)) c_32)).setCell ⟨w.heap.size, 2, none⟩ (.int .i64 (sg (de q35)))).setCell ⟨w.heap.size, 3, none⟩ (.slice b_33 (ln (de q35)) d_34)) := ⟨_, rfl⟩
      rw [← hv]
      have og : w13.grownBy w14 (some w.heap.size) := by rw [hv]; exact (only_setCell (only_setCell (only_setCell (only_setCell (World.grownBy.refl _ _) _) _) _) _)
      have hz : w.heap.size ≤ w.heap.size := by exact Nat.le_refl _
      have hk : Bx w14 w.heap.size 34 #[.int .i64 (sg (nu q35)), .slice a_31 (ln (nu q35)) c_32, .int .i64 (sg (de q35)), .slice b_33 (ln (de q35)) d_34] := by rw [hv]; exact (((((M.out.2.2.2.2.2.2.1).set 0 _).set 1 _).set 2 _).set 3 _)
      have hbw : Below w.heap.size w w14 := by rw [hv]; exact (Below.setCell (Below.setCell (Below.setCell (Below.setCell (M.out.2.2.2.2.2.2.2.2.2.2) (by omega) _) (by omega) _) (by omega) _) (by omega) _)
      replace M := Lib.hid (And.intro ((M.out.1).far (M.out.2.2.2.2.2.2.1) (by rfl) (by omega) og) (And.intro ((M.out.2.1).far (M.out.2.2.2.2.2.2.1) (by rfl) (by omega) og) (And.intro ((M.out.2.2.1).far (M.out.2.2.2.2.2.2.1) (by rfl) (by omega) og) (And.intro ((M.out.2.2.2.1).far (M.out.2.2.2.2.2.2.1) (by rfl) (by omega) og) (And.intro ((M.out.2.2.2.2.1).far (M.out.2.2.2.2.2.2.1) (by rfl) (by omega) og) (And.intro ((M.out.2.2.2.2.2.1).far (M.out.2.2.2.2.2.2.1) (by rfl) (by omega) og) (And.intro hk (And.intro ((M.out.2.2.2.2.2.2.2.1).only og (by omega)) (And.intro ((M.out.2.2.2.2.2.2.2.2.1).only og (by omega)) (And.intro ((M.out.2.2.2.2.2.2.2.2.2.1).only og (by omega)) hbw))))))))))
      clear hk hbw og hv hz
      refine hK.out _ _ (trivial) (fun hH75 => ?_)
      clear hK K hH71
      (try simp only [Act.put, List.setIfInBounds_toArray, List.set_cons_zero, List.set_cons_succ])
      refine wpAnyH_ready (rs := [1]) (by kernel_rfl) (by simp) ?_
      refine AllReadyH.cons at1 (fun K hK => ?_) AllReadyH.nil
      obtain ⟨p1_0, q1_0, p1_1, q1_1, p1_2, q1_2, p1_3, q1_3⟩ := (M.out.2.2.2.2.2.2.2.1).c4
      go_simp
      clear p1_0 q1_0 p1_1 q1_1 p1_2 q1_2 p1_3 q1_3
      refine hK.out _ _ (trivial) (fun hH76 => ?_)
      clear hK K hH75
      (try simp only [Act.put, List.setIfInBounds_toArray, List.set_cons_zero, List.set_cons_succ])
      refine wpAnyH_ready (rs := [3]) (by kernel_rfl) (by simp) ?_
      refine AllReadyH.cons at3 (fun K hK => ?_) AllReadyH.nil
      obtain ⟨p1_0, q1_0, p1_1, q1_1, p1_2, q1_2, p1_3, q1_3⟩ := (M.out.2.2.2.2.2.2.2.1).c4
      go_simp
      clear p1_0 q1_0 p1_1 q1_1 p1_2 q1_2 p1_3 q1_3
      obtain ⟨w15, hv⟩ : ∃ x, x = ((((w14.setCell ⟨w.heap.size + 1, 0, none⟩ (.int .i64 (sg (nu q23)))).setCell ⟨w.heap.size + 1, 1, none⟩ (.slice a_19 (ln (nu q23)) c_20)).setCell ⟨w.heap.size + 1, 2, none⟩ (.int .i64 (sg (de q23)))).setCell ⟨w.heap.size + 1, 3, none⟩ (.slice b_21 (ln (de q23)) d_22)) := ⟨_, rfl⟩
      rw [← hv]
      have og : w14.grownBy w15 (some (w.heap.size + 1)) := by rw [hv]; exact (only_setCell (only_setCell (only_setCell (only_setCell (World.grownBy.refl _ _) _) _) _) _)
      have hz : w.heap.size ≤ w.heap.size + 1 := by omega
      have hk : Bx w15 (w.heap.size + 1) 34 #[.int .i64 (sg (nu q23)), .slice a_19 (ln (nu q23)) c_20, .int .i64 (sg (de q23)), .slice b_21 (ln (de q23)) d_22] := by rw [hv]; exact (((((M.out.2.2.2.2.2.2.2.1).set 0 _).set 1 _).set 2 _).set 3 _)
      have hbw : Below w.heap.size w w15 := by rw [hv]; exact (Below.setCell (Below.setCell (Below.setCell (Below.setCell (M.out.2.2.2.2.2.2.2.2.2.2) (by omega) _) (by omega) _) (by omega) _) (by omega) _)
      replace M := Lib.hid (And.intro ((M.out.1).far (M.out.2.2.2.2.2.2.2.1) (by rfl) (by omega) og) (And.intro ((M.out.2.1).far (M.out.2.2.2.2.2.2.2.1) (by rfl) (by omega) og) (And.intro ((M.out.2.2.1).far (M.out.2.2.2.2.2.2.2.1) (by rfl) (by omega) og) (And.intro ((M.out.2.2.2.1).far (M.out.2.2.2.2.2.2.2.1) (by rfl) (by omega) og) (And.intro ((M.out.2.2.2.2.1).far (M.out.2.2.2.2.2.2.2.1) (by rfl) (by omega) og) (And.intro ((M.out.2.2.2.2.2.1).far (M.out.2.2.2.2.2.2.2.1) (by rfl) (by omega) og) (And.intro ((M.out.2.2.2.2.2.2.1).only og (by omega)) (And.intro hk (And.intro ((M.out.2.2.2.2.2.2.2.2.1).only og (by omega)) (And.intro ((M.out.2.2.2.2.2.2.2.2.2.1).only og (by omega)) hbw))))))))))
      clear hk hbw og hv hz
      refine hK.out _ _ (trivial) (fun hH77 => ?_)
      clear hK K hH76
      (try simp only [Act.put, List.setIfInBounds_toArray, List.set_cons_zero, List.set_cons_succ])
      refine tk at4 ?_
      refine wpAnyH_done (by kernel_rfl) ?_ _
      clear hH77
      go_wp2_with fail
      have HL : loQ (errQ ⟨s, f, u, n, p, d⟩ rd day) rd = q35 := by rw [Eq35.out, Eq17.out, Eq29.out, Eq11.out, Eq5.out]; rfl
      have HH : hiQ (errQ ⟨s, f, u, n, p, d⟩ rd day) rd = q23 := by rw [Eq23.out, Eq11.out, Eq5.out]; rfl
      rw [HL, HH]
      refine bodyPost_ret (results_box2t rfl _ _ w.heap.size (w.heap.size + 1) 34 34 _ _ _ _ _ _ rfl (M.out.2.2.2.2.2.2.1) Try.underlying34 rfl (by kernel_rfl) rfl (M.out.2.2.2.2.2.2.2.1) Try.underlying34 rfl (by kernel_rfl)) rfl ?_
      exact ⟨_, _, _, _, _, _, _, _, rfl, (M.out.1), (M.out.2.2.1), (M.out.2.2.2.2.2.2.2.2.2.2)⟩
    refine AllReadyH.cons at1 (fun K hK => ?_) AllReadyH.nil
    obtain ⟨p1_0, q1_0, p1_1, q1_1, p1_2, q1_2, p1_3, q1_3⟩ := (M.out.2.2.2.2.2.2.2.1).c4
    go_simp
    clear p1_0 q1_0 p1_1 q1_1 p1_2 q1_2 p1_3 q1_3
    refine hK.out _ _ (trivial) (fun hH78 => ?_)
    clear hK K hH70
    (try simp only [Act.put, List.setIfInBounds_toArray, List.set_cons_zero, List.set_cons_succ])
    refine wpAnyH_ready (rs := [0]) (by kernel_rfl) (by simp) ?_
    refine AllReadyH.cons at0 (fun K hK => ?_) AllReadyH.nil
    obtain ⟨p0_0, q0_0, p0_1, q0_1, p0_2, q0_2, p0_3, q0_3⟩ := (M.out.2.2.2.2.2.2.1).c4
    go_simp
    clear p0_0 q0_0 p0_1 q0_1 p0_2 q0_2 p0_3 q0_3
    refine hK.out _ _ (trivial) (fun hH79 => ?_)
    clear hK K hH78
    (try simp only [Act.put, List.setIfInBounds_toArray, List.set_cons_zero, List.set_cons_succ])
    refine wpAnyH_ready (rs := [2]) (by kernel_rfl) (by simp) ?_
    refine AllReadyH.cons at2 (fun K hK => ?_) AllReadyH.nil
    obtain ⟨p0_0, q0_0, p0_1, q0_1, p0_2, q0_2, p0_3, q0_3⟩ := (M.out.2.2.2.2.2.2.1).c4
    go_simp
    clear p0_0 q0_0 p0_1 q0_1 p0_2 q0_2 p0_3 q0_3
    obtain ⟨w14, hv⟩ : ∃ x, x = ((((w13.setCell ⟨w.heap.size, 0, none⟩ (.int .i64 (sg (nu q35)))).setCell ⟨w.heap.size, 1, none⟩ (.slice a_31 (ln (nu q35)) c_32)).setCell ⟨w.heap.size, 2, none⟩ (.int .i64 (sg (de q35)))).setCell ⟨w.heap.size, 3, none⟩ (.slice b_33 (ln (de q35)) d_34)) := ⟨_, rfl⟩
    rw [← hv]
    have og : w13.grownBy w14 (some w.heap.size) := by rw [hv]; exact (only_setCell (only_setCell (only_setCell (only_setCell (World.grownBy.refl _ _) _) _) _) _)
    have hz : w.heap.size ≤ w.heap.size := by exact Nat.le_refl _
    have hk : Bx w14 w.heap.size 34 #[.int .i64 (sg (nu q35)), .slice a_31 (ln (nu q35)) c_32, .int .i64 (sg (de q35)), .slice b_33 (ln (de q35)) d_34] := by rw [hv]; exact (((((M.out.2.2.2.2.2.2.1).set 0 _).set 1 _).set 2 _).set 3 _)
    have hbw : Below w.heap.size w w14 := by rw [hv]; exact (Below.setCell (Below.setCell (Below.setCell (Below.setCell (M.out.2.2.2.2.2.2.2.2.2.2) (by omega) _) (by omega) _) (by omega) _) (by omega) _)
    replace M := Lib.hid (And.intro ((M.out.1).far (M.out.2.2.2.2.2.2.1) (by rfl) (by omega) og) (And.intro ((M.out.2.1).far (M.out.2.2.2.2.2.2.1) (by rfl) (by omega) og) (And.intro ((M.out.2.2.1).far (M.out.2.2.2.2.2.2.1) (by rfl) (by omega) og) (And.intro ((M.out.2.2.2.1).far (M.out.2.2.2.2.2.2.1) (by rfl) (by omega) og) (And.intro ((M.out.2.2.2.2.1).far (M.out.2.2.2.2.2.2.1) (by rfl) (by omega) og) (And.intro ((M.out.2.2.2.2.2.1).far (M.out.2.2.2.2.2.2.1) (by rfl) (by omega) og) (And.intro hk (And.intro ((M.out.2.2.2.2.2.2.2.1).only og (by omega)) (And.intro ((M.out.2.2.2.2.2.2.2.2.1).only og (by omega)) (And.intro ((M.out.2.2.2.2.2.2.2.2.2.1).only og (by omega)) hbw))))))))))
    clear hk hbw og hv hz
    refine hK.out _ _ (trivial) (fun hH80 => ?_)
    clear hK K hH79
    (try simp only [Act.put, List.setIfInBounds_toArray, List.set_cons_zero, List.set_cons_succ])
    refine wpAnyH_ready (rs := [3]) (by kernel_rfl) (by simp) ?_
    refine AllReadyH.cons at3 (fun K hK => ?_) AllReadyH.nil
    obtain ⟨p1_0, q1_0, p1_1, q1_1, p1_2, q1_2, p1_3, q1_3⟩ := (M.out.2.2.2.2.2.2.2.1).c4
    go_simp
    clear p1_0 q1_0 p1_1 q1_1 p1_2 q1_2 p1_3 q1_3
    obtain ⟨w15, hv⟩ : ∃ x, x = ((((w14.setCell ⟨w.heap.size + 1, 0, none⟩ (.int .i64 (sg (nu q23)))).setCell ⟨w.heap.size + 1, 1, none⟩ (.slice a_19 (ln (nu q23)) c_20)).setCell ⟨w.heap.size + 1, 2, none⟩ (.int .i64 (sg (de q23)))).setCell ⟨w.heap.size + 1, 3, none⟩ (.slice b_21 (ln (de q23)) d_22)) := ⟨_, rfl⟩
    rw [← hv]
    have og : w14.grownBy w15 (some (w.heap.size + 1)) := by rw [hv]; exact (only_setCell (only_setCell (only_setCell (only_setCell (World.grownBy.refl _ _) _) _) _) _)
    have hz : w.heap.size ≤ w.heap.size + 1 := by omega
    have hk : Bx w15 (w.heap.size + 1) 34 #[.int .i64 (sg (nu q23)), .slice a_19 (ln (nu q23)) c_20, .int .i64 (sg (de q23)), .slice b_21 (ln (de q23)) d_22] := by rw [hv]; exact (((((M.out.2.2.2.2.2.2.2.1).set 0 _).set 1 _).set 2 _).set 3 _)
    have hbw : Below w.heap.size w w15 := by rw [hv]; exact (Below.setCell (Below.setCell (Below.setCell (Below.setCell (M.out.2.2.2.2.2.2.2.2.2.2) (by omega) _) (by omega) _) (by omega) _) (by omega) _)
    replace M := Lib.hid (And.intro ((M.out.1).far (M.out.2.2.2.2.2.2.2.1) (by rfl) (by omega) og) (And.intro ((M.out.2.1).far (M.out.2.2.2.2.2.2.2.1) (by rfl) (by omega) og) (And.intro ((M.out.2.2.1).far (M.out.2.2.2.2.2.2.2.1) (by rfl) (by omega) og) (And.intro ((M.out.2.2.2.1).far (M.out.2.2.2.2.2.2.2.1) (by rfl) (by omega) og) (And.intro ((M.out.2.2.2.2.1).far (M.out.2.2.2.2.2.2.2.1) (by rfl) (by omega) og) (And.intro ((M.out.2.2.2.2.2.1).far (M.out.2.2.2.2.2.2.2.1) (by rfl) (by omega) og) (And.intro ((M.out.2.2.2.2.2.2.1).only og (by omega)) (And.intro hk (And.intro ((M.out.2.2.2.2.2.2.2.2.1).only og (by omega)) (And.intro ((M.out.2.2.2.2.2.2.2.2.2.1).only og (by omega)) hbw))))))))))
    clear hk hbw og hv hz
    refine hK.out _ _ (trivial) (fun hH81 => ?_)
    clear hK K hH80
    (try simp only [Act.put, List.setIfInBounds_toArray, List.set_cons_zero, List.set_cons_succ])
    refine tk at4 ?_
    refine wpAnyH_done (by kernel_rfl) ?_ _
    clear hH81
    go_wp2_with fail
    have HL : loQ (errQ ⟨s, f, u, n, p, d⟩ rd day) rd = q35 := by rw [Eq35.out, Eq17.out, Eq29.out, Eq11.out, Eq5.out]; rfl
    have HH : hiQ (errQ ⟨s, f, u, n, p, d⟩ rd day) rd = q23 := by rw [Eq23.out, Eq11.out, Eq5.out]; rfl
    rw [HL, HH]
    refine bodyPost_ret (results_box2t rfl _ _ w.heap.size (w.heap.size + 1) 34 34 _ _ _ _ _ _ rfl (M.out.2.2.2.2.2.2.1) Try.underlying34 rfl (by kernel_rfl) rfl (M.out.2.2.2.2.2.2.2.1) Try.underlying34 rfl (by kernel_rfl)) rfl ?_
    exact ⟨_, _, _, _, _, _, _, _, rfl, (M.out.1), (M.out.2.2.1), (M.out.2.2.2.2.2.2.2.2.2.2)⟩
end Go.Proofs.Ytpjpkcelajbfnaa
namespace Go.Proofs.Ytpjpkcelajbfnaa
open Go.RowKit
variable {G : Nat}

def ivl (cs : List Ct) (rs : List Rc) (sc rd day : Int) : Option (Rat × Rat) :=
  match findC cs sc day with
  | none => none
  | some g => match cs[g]? with
    | none => none
    | some c => if recalledB rs sc day = true then none else if inR rd 0 1099511627776 = true then some (loQ (errQ c rd day) rd, hiQ (errQ c rd day) rd) else none
def loO (cs : List Ct) (rs : List Rc) (sc rd day : Int) : Option Rat := (ivl cs rs sc rd day).map (·.1)
def hiO (cs : List Ct) (rs : List Rc) (sc rd day : Int) : Option Rat := (ivl cs rs sc rd day).map (·.2)
def hasI (cs : List Ct) (rs : List Rc) (sc rd day : Int) : Bool := (ivl cs rs sc rd day).isSome
theorem sz_zero (n : Nat) : Sz 0 n := by unfold Sz; simp [digs_zero]
theorem lo_size {e : Rat} {rd : Int} (h : Fz e 9) (h' : inR rd 0 1099511627776 = true) : Fz (loQ e rd) 14 := by
  have hb := in_bounds h'
  unfold loQ pick
  split
  · exact (Fz.int64 (x := 0) (by omega)).mono (by omega)
  · exact Fz.sub (n := 4) (Fz.int64 (by omega)) h
theorem hi_size {e : Rat} {rd : Int} (h : Fz e 9) (h' : inR rd 0 1099511627776 = true) : Fz (hiQ e rd) 14 := by
  have hb := in_bounds h'
  exact Fz.add (n := 4) (Fz.int64 (by omega)) h
theorem ivl_some {cs : List Ct} {rs : List Rc} {sc rd day : Int} {l h : Rat} (hi : ivl cs rs sc rd day = some (l, h)) :
    ∃ (g : Nat) (hg : g < cs.length), findC cs sc day = some g ∧ recalledB rs sc day = false ∧ inR rd 0 1099511627776 = true ∧ coversC cs[g] day = true ∧ l = loQ (errQ cs[g] rd day) rd ∧ h = hiQ (errQ cs[g] rd day) rd := by
  unfold ivl at hi
  split at hi
  · cases hi
  · rename_i g hg
    obtain ⟨hgl, -, hc⟩ := findC_is hg
    rw [List.getElem?_eq_getElem hgl] at hi
    simp only at hi
    split at hi
    · cases hi
    · split at hi
      · rename_i h1 h2
        simp only [Option.some.injEq, Prod.mk.injEq] at hi
        exact ⟨g, hgl, hg, by simpa using h1, h2, hc, hi.1.symm, hi.2.symm⟩
      · cases hi
theorem ivl_none {cs : List Ct} {rs : List Rc} {sc rd day : Int} (hi : ivl cs rs sc rd day = none) :
    findC cs sc day = none ∨ (∃ g, findC cs sc day = some g ∧ recalledB rs sc day = true) ∨ (∃ (g : Nat) (_ : g < cs.length), findC cs sc day = some g ∧ recalledB rs sc day = false ∧ inR rd 0 1099511627776 = false) := by
  unfold ivl at hi
  split at hi
  · rename_i h; exact .inl h
  · rename_i g hg
    obtain ⟨hgl, -, hc⟩ := findC_is hg
    rw [List.getElem?_eq_getElem hgl] at hi
    simp only at hi
    split at hi
    · rename_i h1; exact .inr (.inl ⟨g, hg, h1⟩)
    · rename_i h1
      split at hi
      · cases hi
      · rename_i h2; exact .inr (.inr ⟨g, hgl, hg, by simpa using h1, by simpa using h2⟩)
theorem ivl_size {cs : List Ct} {rs : List Rc} {sc rd day : Int} {l h : Rat} (hi : ivl cs rs sc rd day = some (l, h)) : Fz l 14 ∧ Fz h 14 := by
  obtain ⟨g, hg, -, -, h2, hc, rfl, rfl⟩ := ivl_some hi
  exact ⟨lo_size (errQ_size hc h2) h2, hi_size (errQ_size hc h2) h2⟩
theorem lo_sizes (cs : List Ct) (rs : List Rc) (sc rd day : Int) : Sz (oN (loO cs rs sc rd day)) 14 ∧ Sz (oD (loO cs rs sc rd day)) 14 := by
  unfold loO
  cases h : ivl cs rs sc rd day with
  | none => exact ⟨sz_zero _, sz_zero _⟩
  | some x => obtain ⟨l, r⟩ := x; exact (ivl_size h).1
theorem hi_sizes (cs : List Ct) (rs : List Rc) (sc rd day : Int) : Sz (oN (hiO cs rs sc rd day)) 14 ∧ Sz (oD (hiO cs rs sc rd day)) 14 := by
  unfold hiO
  cases h : ivl cs rs sc rd day with
  | none => exact ⟨sz_zero _, sz_zero _⟩
  | some x => obtain ⟨l, r⟩ := x; exact (ivl_size h).2
theorem scInterval_all {v1 v2 : Value} {cs : List Ct} {rs : List Rc} {sc rd day : Int} {w : World} (h1 : CtIn w v1 cs) (h2 : RcIn w v2 rs) (hn1 : cs.length ≤ 1099511627776) (hn2 : rs.length ≤ 1099511627776) (hG : G ≤ w.heap.size) :
    Calls Try.prog 14 #[v1, v2, .int .i64 sc, .int .i64 rd, .int .i64 day] w fun e w' => ∃ a c b d a' c' b' d', e = .returned (.tuple #[.agg #[.int .i64 (sg (oN (loO cs rs sc rd day))), .slice a (ln (oN (loO cs rs sc rd day))) c, .int .i64 (sg (oD (loO cs rs sc rd day))), .slice b (ln (oD (loO cs rs sc rd day))) d], .agg #[.int .i64 (sg (oN (hiO cs rs sc rd day))), .slice a' (ln (oN (hiO cs rs sc rd day))) c', .int .i64 (sg (oD (hiO cs rs sc rd day))), .slice b' (ln (oD (hiO cs rs sc rd day))) d'], .bool (hasI cs rs sc rd day)]) ∧ BD G w' a c (oN (loO cs rs sc rd day)) ∧ BD G w' b d (oD (loO cs rs sc rd day)) ∧ BD G w' a' c' (oN (hiO cs rs sc rd day)) ∧ BD G w' b' d' (oD (hiO cs rs sc rd day)) ∧ Below w.heap.size w w' := by
  obtain ⟨a1, cap1, rfl⟩ := h1.shape
  obtain ⟨a2, cap2, rfl⟩ := h2.shape
  unfold loO hiO hasI
  cases hi : ivl cs rs sc rd day with
  | none =>
    rcases ivl_none hi with hf | ⟨g, hf, hr⟩ | ⟨g, hgl, hf, hr, hr2⟩
    · exact (scInterval_no1 h1 h2 hn1 hn2 hf).mono fun e w' ⟨he, hb⟩ => ⟨none, 0, none, 0, none, 0, none, 0, he, bd_zero _ _ _, bd_zero _ _ _, bd_zero _ _ _, bd_zero _ _ _, hb⟩
    · exact (scInterval_no2 h1 h2 hn1 hn2 hf hr).mono fun e w' ⟨he, hb⟩ => ⟨none, 0, none, 0, none, 0, none, 0, he, bd_zero _ _ _, bd_zero _ _ _, bd_zero _ _ _, bd_zero _ _ _, hb⟩
    · exact (scInterval_no3 h1 h2 hn1 hn2 (hgl := hgl) rfl hf hr hr2).mono fun e w' ⟨he, hb⟩ => ⟨none, 0, none, 0, none, 0, none, 0, he, bd_zero _ _ _, bd_zero _ _ _, bd_zero _ _ _, bd_zero _ _ _, hb⟩
  | some x =>
    obtain ⟨l, r⟩ := x
    obtain ⟨g, hgl, hf, hr, hr2, hc, rfl, rfl⟩ := ivl_some hi
    exact (scInterval_yes h1 h2 hn1 hn2 (hgl := hgl) rfl hf hr hr2 hG).mono fun e w' ⟨a, c, b, d, a', c', b', d', he, hl, hh, hb⟩ => ⟨a, c, b, d, a', c', b', d', he, hl.n, hl.d, hh.n, hh.d, hb⟩
end Go.Proofs.Ytpjpkcelajbfnaa
