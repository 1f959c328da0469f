/- Spans of rational numbers, plain: no Go in sight. -/
import Derived.Test.YtjbfngjlepafgaaBigK
import Derived.Test.YtjbfngjlepafgaaBigP
import Derived.Test.YtjbfngjlepafgaaFracA
import Derived.Test.YtjbfngjlepafgaaBigU
import Derived.Test.YtjbfngjlepafgaaFracR
import Derived.Test.YtjbfngjlepafgaaRefJ
import Derived.Test.YtjbfngjlepafgaaProg
import Derived.WalkKit
import Derived.WalkSpells
import Derived.WalkLawsBesides
import Derived.Handy
import Derived.Lib.Hide
import Derived.Lib.Strings
import Derived.Lib.Builder
import Derived.BigQuiet
import Derived.OwnWalk
import Derived.Laws.BitsLemmas
import Derived.WalkSmall
import Derived.Deep.QuietTactic
import Derived.StillTailTactics
import Derived.Maps.AppendAt
import Derived.IntWalk
import Derived.Deep.RegionHeld3
import Derived.Deep.DeepFit
import Derived.Deep.LoopGhost
import Derived.Deep.DeepCutAuto
import Derived.Lib.ItoaNum
import Derived.Lib.Repeat
import Derived.Lib.AppendIntMem
import Derived.Sort.OwnSorted
import Derived.Shelf.Strings.SlTrimAscii
import Derived.Lib.ConvBytes
import Derived.Lib.CutLaws
namespace Go.Proofs.Ytjbfngjlepafgaa
open Go.RowKit
variable {G : Nat}

theorem made_own_any {s z : Int} {v : Value} {l : Digs} {n B : Nat} {w : World} (h : OwnN w B v l) (hs : small l) (hn : l.length ≤ 8796093022208) (hv : val l = n) (hz : s * n = z) (h1 : n ≠ 0 → s = 1 ∨ s = -1) :
    Calls Try.prog 78 #[.int .i64 s, v] w fun e w' => ∃ a c, e = .returned (.agg #[.int .i64 (sg z), .slice a (ln z) c]) ∧ BD G w' a c z ∧ Below w.heap.size w w' := by
  obtain ⟨a, c, rfl, hc⟩ := h.sl
  exact made_ok (G := G) h.rd hs hn hc hv hz h1
set_option maxHeartbeats 8000000 in
set_option maxRecDepth 100000 in
theorem rof_pos (x : Int) (w : World) (hx : -9223372036854775808 ≤ x ∧ x ≤ 9223372036854775807) (hs : 0 < x) :
    Calls Try.prog 54 #[.int .i64 x] w fun e w' => ∃ a c, e = .returned (.agg #[.int .i64 (sg x), .slice a (ln x) c]) ∧ BD G w' a c x ∧ Below w.heap.size w w' := by
  obtain ⟨n, hn⟩ : ∃ n, n = x.natAbs := ⟨_, rfl⟩
  have hnb : n ≤ 9223372036854775808 := by omega
  have e0 : (x == 0) = false := by rw [beq_eq_false_iff_ne]; omega
  have e1 : decide (x < 0) = false := by rw [decide_eq_false_iff_not]; omega
  have HNX := Lib.hid hn
  have HX := Lib.hid hs
  have HSt : Hid (x = n) := by show _ = _; omega
  clear hn hs
  go_enter Try.func54, Try.ntmps54
  go_wp2_with fail
  obtain ⟨w0, hw0⟩ : ∃ w0, w0 = w.alloc (.cells #[.int .i64 0, .slice none 0 0] 24) := ⟨_, rfl⟩
  rw [← hw0]
  have K0 : Hid (Bx w0 w.heap.size 24 #[.int .i64 0, .slice none 0 0]) := by rw [hw0]; exact bx1 w _ _
  have HB0 : Hid (Below w.heap.size w w0) := by rw [hw0]; exact below_alloc _ _
  clear hw0
  go_loopw [0, 4] (fun i v wr => ∃ (l : Digs) (u : Nat), u ≤ n ∧ l.length ≤ 4 ∧ i = .int .i64 u ∧ Hid (small l) ∧ Hid (val l + 1048576 ^ l.length * u = n) ∧ Hid (OwnN wr w0.heap.size v l) ∧ Hid (Below w0.heap.size w0 wr)) (fun i _ _ => (intOf i).natAbs)
  case atStart => exact ⟨[], n, Nat.le_refl _, by simp, by rw [HSt.out], small_nil, by show _ = _; simp [val], ownN_nil _ _, Below.refl _ _⟩
  case round =>
    obtain ⟨l, u, hu, hll, rfl, HS, HE, HO, HB⟩ := hrel
    have hl4 : u ≠ 0 → l.length < 4 := fun h => of_room hnb HE.out h
    by_cases h0 : u = 0
    · have e2 : (u != 0) = false := by rw [h0]; rfl
      have e3 : ((u : Int) != 0) = false := by rw [h0]; rfl
      have HV : Hid (val l = n) := by show _ = _; have := HE.out; rw [h0, Nat.mul_zero] at this; omega
      have HL : Hid (l.length ≤ 8796093022208) := by show _ ≤ _; omega
      have HZ : Hid (1 * (n : Int) = x) := by show _ = _; rw [HNX.out]; have := HX.out; omega
      clear h0 hl4
      go_wp2_with fail
      refine (made_own_any (G := G) HO.out HS.out HL.out HV.out HZ.out (fun _ => .inl rfl)).mono ?_
      rintro e w2 ⟨a, c, rfl, hd, hb⟩
      have K2 := Lib.hid ((K0.out.keep HB.out).keep hb)
      have HB2 := Lib.hid (below_call HB0.out (below_call HB.out hb))
      have HD := Lib.hid hd
      clear hb hd
      obtain ⟨p0, q0⟩ := K2.out.at
      go_wp2_with fail
      refine bodyPost_ret (results_box1 rfl _ _ w.heap.size 24 _ _ _ rfl (K2.out.set2 _ _) Try.underlying24 rfl (by kernel_rfl)) rfl ⟨a, c, rfl, ?_, ?_⟩
      · exact HD.out.far0 K2.out zb2 (only_setCell (only_setCell (World.grownBy.refl _ _) _) _)
      · exact (HB2.out.setCell (Nat.le_refl _) _).setCell (Nat.le_refl _) _
    · have hl3 := hl4 h0
      have e2 : (u != 0) = true := by rw [bne_iff_ne]; exact h0
      have e3 : ((u : Int) != 0) = true := by rw [bne_iff_ne]; omega
      obtain ⟨d, hd⟩ : ∃ d, d = u % 1048576 := ⟨_, rfl⟩
      obtain ⟨m, hm⟩ : ∃ m, m = u / 1048576 := ⟨_, rfl⟩
      have hds : d < 1048576 := by omega
      have hmod : (u : Int) % 1048576 = (d : Int) := by omega
      have hdiv : (u : Int) / 1048576 = (m : Int) := by omega
      have hmu : m < u := by omega
      have hum : u ≤ 9223372036854775808 := by omega
      have HE2 : Hid (val (l ++ [d]) + 1048576 ^ (l ++ [d]).length * m = n) := by show _ = _; rw [val_snoc_digs, show d + 1048576 * m = u by omega]; exact HE.out
      have HA : Hid (OwnN (wr.alloc (.cells #[.int .i64 (d : Int)] 3)) w0.heap.size u4 l) := HO.out.keep (below_alloc _ _)
      have HL1 : Hid (RdN (wr.alloc (.cells #[.int .i64 (d : Int)] 3)) (.slice (some ⟨wr.heap.size, 0, none⟩) 1 1) [d]) := (own_lit1 wr wr.heap.size d (Nat.le_refl _)).rd
      have hsz : w0.heap.size ≤ wr.heap.size := HB.out.size
      clear hd hm h0 hl4
      go_wp2_with (at_builtin; go_must (refine wpList_appendN rfl _ _ rfl (wr.alloc (.cells #[.int .i64 (d : Int)] 3)) w0.heap.size u4 l rfl HA.out ⟨wr.heap.size, 0, none⟩ 1 1 [d] rfl rfl HL1.out (by simp; omega) (by simp; omega) ?_; intro v' w1 ho hg hb))
      have HO2 := Lib.hid ho
      have HB2 : Hid (Below w0.heap.size w0 w1) := (HB.out.alloc hsz _).trans hb
      clear ho hg hb
      go_roundw
      case rel => exact ⟨l ++ [d], m, by omega, by simp; omega, by first | rfl | rw [hdiv], small_append HS.out (small_one hds), HE2, HO2.out, HB2.out⟩
      case measure => simp [intOf]; omega
set_option maxHeartbeats 8000000 in
set_option maxRecDepth 100000 in
theorem rof_neg (x : Int) (w : World) (hx : -9223372036854775808 ≤ x ∧ x ≤ 9223372036854775807) (hs : x < 0) :
    Calls Try.prog 54 #[.int .i64 x] w fun e w' => ∃ a c, e = .returned (.agg #[.int .i64 (sg x), .slice a (ln x) c]) ∧ BD G w' a c x ∧ Below w.heap.size w w' := by
  obtain ⟨n, hn⟩ : ∃ n, n = x.natAbs := ⟨_, rfl⟩
  have hnb : n ≤ 9223372036854775808 := by omega
  have e0 : (x == 0) = false := by rw [beq_eq_false_iff_ne]; omega
  have e1 : decide (x < 0) = true := by rw [decide_eq_true_eq]; omega
  have HNX := Lib.hid hn
  have HX := Lib.hid hs
  have HSt : Hid (x = -(n : Int)) := by show _ = _; omega
  clear hn hs
  go_enter Try.func54, Try.ntmps54
  go_wp2_with fail
  obtain ⟨w0, hw0⟩ : ∃ w0, w0 = w.alloc (.cells #[.int .i64 0, .slice none 0 0] 24) := ⟨_, rfl⟩
  rw [← hw0]
  have K0 : Hid (Bx w0 w.heap.size 24 #[.int .i64 0, .slice none 0 0]) := by rw [hw0]; exact bx1 w _ _
  have HB0 : Hid (Below w.heap.size w w0) := by rw [hw0]; exact below_alloc _ _
  clear hw0
  go_loopw [0, 4] (fun i v wr => ∃ (l : Digs) (u : Nat), u ≤ n ∧ l.length ≤ 4 ∧ i = .int .i64 (-(u : Int)) ∧ Hid (small l) ∧ Hid (val l + 1048576 ^ l.length * u = n) ∧ Hid (OwnN wr w0.heap.size v l) ∧ Hid (Below w0.heap.size w0 wr)) (fun i _ _ => (intOf i).natAbs)
  case atStart => exact ⟨[], n, Nat.le_refl _, by simp, by rw [HSt.out], small_nil, by show _ = _; simp [val], ownN_nil _ _, Below.refl _ _⟩
  case round =>
    obtain ⟨l, u, hu, hll, rfl, HS, HE, HO, HB⟩ := hrel
    have hl4 : u ≠ 0 → l.length < 4 := fun h => of_room hnb HE.out h
    by_cases h0 : u = 0
    · have e2 : (u != 0) = false := by rw [h0]; rfl
      have e3 : ((-(u : Int)) != 0) = false := by rw [h0]; rfl
      have HV : Hid (val l = n) := by show _ = _; have := HE.out; rw [h0, Nat.mul_zero] at this; omega
      have HL : Hid (l.length ≤ 8796093022208) := by show _ ≤ _; omega
      have HZ : Hid ((-1) * (n : Int) = x) := by show _ = _; rw [HNX.out]; have := HX.out; omega
      clear h0 hl4
      go_wp2_with fail
      refine (made_own_any (G := G) HO.out HS.out HL.out HV.out HZ.out (fun _ => .inr rfl)).mono ?_
      rintro e w2 ⟨a, c, rfl, hd, hb⟩
      have K2 := Lib.hid ((K0.out.keep HB.out).keep hb)
      have HB2 := Lib.hid (below_call HB0.out (below_call HB.out hb))
      have HD := Lib.hid hd
      clear hb hd
      obtain ⟨p0, q0⟩ := K2.out.at
      go_wp2_with fail
      refine bodyPost_ret (results_box1 rfl _ _ w.heap.size 24 _ _ _ rfl (K2.out.set2 _ _) Try.underlying24 rfl (by kernel_rfl)) rfl ⟨a, c, rfl, ?_, ?_⟩
      · exact HD.out.far0 K2.out zb2 (only_setCell (only_setCell (World.grownBy.refl _ _) _) _)
      · exact (HB2.out.setCell (Nat.le_refl _) _).setCell (Nat.le_refl _) _
    · have hl3 := hl4 h0
      have e2 : (u != 0) = true := by rw [bne_iff_ne]; exact h0
      have e3 : ((-(u : Int)) != 0) = true := by rw [bne_iff_ne]; omega
      obtain ⟨d, hd⟩ : ∃ d, d = u % 1048576 := ⟨_, rfl⟩
      obtain ⟨m, hm⟩ : ∃ m, m = u / 1048576 := ⟨_, rfl⟩
      have hds : d < 1048576 := by omega
      have hmod : Int.tmod (-(u : Int)) 1048576 = -(d : Int) := by
        rw [Int.neg_tmod]
        have : Int.tmod (u : Int) 1048576 = (d : Int) := by (rw [Int.tmod_eq_emod_of_nonneg (by omega)]; omega)
        omega
      have hdiv : Int.tdiv (-(u : Int)) 1048576 = -(m : Int) := by
        rw [Int.neg_tdiv]
        have : Int.tdiv (u : Int) 1048576 = (m : Int) := by (rw [Int.tdiv_eq_ediv_of_nonneg (by omega)]; omega)
        omega
      have hmu : m < u := by omega
      have hum : u ≤ 9223372036854775808 := by omega
      have HE2 : Hid (val (l ++ [d]) + 1048576 ^ (l ++ [d]).length * m = n) := by show _ = _; rw [val_snoc_digs, show d + 1048576 * m = u by omega]; exact HE.out
      have HA : Hid (OwnN (wr.alloc (.cells #[.int .i64 (d : Int)] 3)) w0.heap.size u4 l) := HO.out.keep (below_alloc _ _)
      have HL1 : Hid (RdN (wr.alloc (.cells #[.int .i64 (d : Int)] 3)) (.slice (some ⟨wr.heap.size, 0, none⟩) 1 1) [d]) := (own_lit1 wr wr.heap.size d (Nat.le_refl _)).rd
      have hsz : w0.heap.size ≤ wr.heap.size := HB.out.size
      clear hd hm h0 hl4
      by_cases hd0 : d = 0
      · subst hd0
        have HA : Hid (OwnN (wr.alloc (.cells #[.int .i64 0] 3)) w0.heap.size u4 l) := HA.out
        have HL1 : Hid (RdN (wr.alloc (.cells #[.int .i64 0] 3)) (.slice (some ⟨wr.heap.size, 0, none⟩) 1 1) [0]) := HL1.out
        have hmod : Int.tmod (-(u : Int)) 1048576 = 0 := hmod
        go_wp2_with (at_builtin; go_must (refine wpList_appendN rfl _ _ rfl (wr.alloc (.cells #[.int .i64 0] 3)) w0.heap.size u4 l rfl HA.out ⟨wr.heap.size, 0, none⟩ 1 1 [0] rfl rfl HL1.out (by simp; omega) (by simp; omega) ?_; intro v' w1 ho hg hb))
        have HO2 := Lib.hid ho
        have HB2 : Hid (Below w0.heap.size w0 w1) := (HB.out.alloc hsz _).trans hb
        clear ho hg hb
        go_roundw
        case rel => exact ⟨l ++ [0], m, by omega, by simp; omega, by first | rfl | rw [hdiv], small_append HS.out (small_one hds), HE2, HO2.out, HB2.out⟩
        case measure => simp [intOf]; omega
      · have t4 : decide (-(d : Int) < 0) = true := by rw [decide_eq_true_eq]; omega
        go_wp2_with (at_builtin; go_must (refine wpList_appendN rfl _ _ rfl (wr.alloc (.cells #[.int .i64 (d : Int)] 3)) w0.heap.size u4 l rfl HA.out ⟨wr.heap.size, 0, none⟩ 1 1 [d] rfl rfl HL1.out (by simp; omega) (by simp; omega) ?_; intro v' w1 ho hg hb))
        have HO2 := Lib.hid ho
        have HB2 : Hid (Below w0.heap.size w0 w1) := (HB.out.alloc hsz _).trans hb
        clear ho hg hb
        go_roundw
        case rel => exact ⟨l ++ [d], m, by omega, by simp; omega, by first | rfl | rw [hdiv], small_append HS.out (small_one hds), HE2, HO2.out, HB2.out⟩
        case measure => simp [intOf]; omega
set_option maxHeartbeats 8000000 in
theorem rof_zero (w : World) :
    Calls Try.prog 54 #[.int .i64 0] w fun e w' => ∃ a c, e = .returned (.agg #[.int .i64 (sg 0), .slice a (ln 0) c]) ∧ BD G w' a c 0 ∧ Below w.heap.size w w' := by
  go_enter Try.func54, Try.ntmps54
  go_wp2_with fail
  refine bodyPost_ret (results_box1 rfl _ _ w.heap.size 24 _ _ _ rfl (bx1 w _ #[.int .i64 0, .slice none 0 0]) Try.underlying24 rfl (by kernel_rfl)) rfl ⟨none, 0, rfl, ?_, ?_⟩
  · exact bd_zero _ _ _
  · exact below_alloc _ _
theorem rof_ok (x : Int) (w : World) (hx : -9223372036854775808 ≤ x ∧ x ≤ 9223372036854775807) :
    Calls Try.prog 54 #[.int .i64 x] w fun e w' => ∃ a c, e = .returned (.agg #[.int .i64 (sg x), .slice a (ln x) c]) ∧ BD G w' a c x ∧ Below w.heap.size w w' := by
  rcases Int.lt_trichotomy x 0 with h | h | h
  · exact rof_neg (G := G) x w hx h
  · rw [h]; exact rof_zero (G := G) w
  · exact rof_pos (G := G) x w hx h
end Go.Proofs.Ytjbfngjlepafgaa
namespace Go.Proofs.Ytjbfngjlepafgaa
open Go.RowKit
variable {G : Nat}

theorem rgcd_is {x y g : Int} {a1 a2 : Option Addr} {c1 c2 : Nat} {w : World} (h1 : BD G w a1 c1 x) (h2 : BD G w a2 c2 y) (hx : Sz x 549755813888) (hy : Sz y 549755813888) (hg : ((Nat.gcd x.natAbs y.natAbs : Nat) : Int) = g) :
    Calls Try.prog 76 #[.agg #[.int .i64 (sg x), .slice a1 (ln x) c1], .agg #[.int .i64 (sg y), .slice a2 (ln y) c2]] w fun e w' => ∃ a c, e = .returned (.tuple #[.agg #[.int .i64 (sg g), .slice a (ln g) c], .int .i64 0]) ∧ BD G w' a c g ∧ Below w.heap.size w w' := by
  subst hg; exact rgcd_ok h1 h2 hx hy
theorem rdiv_exact {x y q : Int} {a1 a2 : Option Addr} {c1 c2 : Nat} {w : World} (h1 : BD G w a1 c1 x) (h2 : BD G w a2 c2 y) (hx : Sz x 549755813888) (hy : Sz y 549755813888) (hy0 : 0 < y) (h : x = y * q) :
    Calls Try.prog 77 #[.agg #[.int .i64 (sg x), .slice a1 (ln x) c1], .agg #[.int .i64 (sg y), .slice a2 (ln y) c2]] w fun e w' => ∃ a c b d, e = .returned (.tuple #[.agg #[.int .i64 (sg q), .slice a (ln q) c], .agg #[.int .i64 (sg 0), .slice b (ln 0) d], .int .i64 0]) ∧ BD G w' a c q ∧ BD G w' b d 0 ∧ Below w.heap.size w w' := by
  have := rdiv_ok h1 h2 hx hy (by omega)
  have hu := dv_unique (x := x) (y := y) (q := q) (r := 0) (by omega) (.inl ⟨by omega, hy0⟩)
  rwa [hu.1, hu.2] at this
set_option maxHeartbeats 4000000 in
theorem rnew_pos {x y : Int} {a1 a2 : Option Addr} {c1 c2 : Nat} {w : World} (h1 : BD G w a1 c1 x) (h2 : BD G w a2 c2 y) (hx : Sz x 549755813888) (hy : Sz y 549755813888) (hs : 0 < y) :
    Calls Try.prog 53 #[.agg #[.int .i64 (sg x), .slice a1 (ln x) c1], .agg #[.int .i64 (sg y), .slice a2 (ln y) c2]] w fun e w' => ∃ a c b d, e = .returned (.tuple #[.agg #[.int .i64 (sg (nu (Rat.divInt x y))), .slice a (ln (nu (Rat.divInt x y))) c, .int .i64 (sg (de (Rat.divInt x y))), .slice b (ln (de (Rat.divInt x y))) d], .int .i64 0]) ∧ FD G w' a c b d (Rat.divInt x y) ∧ Below w.heap.size w w' := by
  have HX := Lib.hid hx
  have HY := Lib.hid hy
  have H1 := Lib.hid h1
  have H2 := Lib.hid h2
  have e1 : (sg y == 0) = false := by rw [sg_pos hs]; rfl
  have e2 : decide (sg y < 0) = false := by rw [sg_pos hs]; rfl
  obtain ⟨g, hg0, hg, he1, he2⟩ := new_parts (x := x) hs
  obtain ⟨r, hr⟩ : ∃ r, r = Rat.divInt x y := ⟨_, rfl⟩
  rw [← hr] at he1 he2 ⊢
  have HG := Lib.hid hg
  have HG0 := Lib.hid hg0
  have HE1 := Lib.hid he1
  have HE2 := Lib.hid he2
  have HGS : Hid (Sz g 549755813888) := hy.le (by rw [← hg]; have := Nat.gcd_le_right (m := x.natAbs) (n := y.natAbs) (by omega); omega)
  clear hx hy h1 h2 hg hg0 he1 he2 hr hs

  go_enter Try.func53, Try.ntmps53
  go_wp2_with fail
  refine (rright_ok (x := x) (H1.out.keep (by go_grown)) (HX.out.mono (by omega))).mono ?_
  rintro e w1 ⟨rfl, hb⟩
  have hbx := bx3 w 24 24 26 #[.int .i64 (sg x), .slice a1 (ln x) c1] #[.int .i64 (sg y), .slice a2 (ln y) c2] #[.int .i64 0, .slice none 0 0, .int .i64 0, .slice none 0 0]
  obtain ⟨k0, k1, k2⟩ := hbx
  have K0 := Lib.hid (k0.keep hb)
  have K1 := Lib.hid (k1.keep hb)
  have K2 := Lib.hid (k2.keep hb)
  clear k0 k1 k2
  have hb' : Below w.heap.size w w1 := below_call (by go_grown) hb
  have HB := Lib.hid hb'
  replace H1 := Lib.hid (H1.out.keep hb')
  replace H2 := Lib.hid (H2.out.keep hb')
  clear hb hb'
  have p0_0 : w1.cell? ⟨w.heap.size, 0, none⟩ = some (.int .i64 (sg x)) := K0.out.at.1 0
  have q0_0 : w1.frozen? ⟨w.heap.size, 0, none⟩ = false := K0.out.at.2 0
  have p0_1 : w1.cell? ⟨w.heap.size, 1, none⟩ = some (.slice a1 (ln x) c1) := K0.out.at.1 1
  have q0_1 : w1.frozen? ⟨w.heap.size, 1, none⟩ = false := K0.out.at.2 1
  have z0 : w.heap.size < w1.heap.size := K0.out.lt
  have p1_0 : w1.cell? ⟨w.heap.size + 1, 0, none⟩ = some (.int .i64 (sg y)) := K1.out.at.1 0
  have q1_0 : w1.frozen? ⟨w.heap.size + 1, 0, none⟩ = false := K1.out.at.2 0
  have p1_1 : w1.cell? ⟨w.heap.size + 1, 1, none⟩ = some (.slice a2 (ln y) c2) := K1.out.at.1 1
  have q1_1 : w1.frozen? ⟨w.heap.size + 1, 1, none⟩ = false := K1.out.at.2 1
  have z1 : w.heap.size + 1 < w1.heap.size := K1.out.lt
  have p2_0 : w1.cell? ⟨w.heap.size + 1 + 1, 0, none⟩ = some (.int .i64 0) := K2.out.at.1 0
  have q2_0 : w1.frozen? ⟨w.heap.size + 1 + 1, 0, none⟩ = false := K2.out.at.2 0
  have p2_1 : w1.cell? ⟨w.heap.size + 1 + 1, 1, none⟩ = some (.slice none 0 0) := K2.out.at.1 1
  have q2_1 : w1.frozen? ⟨w.heap.size + 1 + 1, 1, none⟩ = false := K2.out.at.2 1
  have p2_2 : w1.cell? ⟨w.heap.size + 1 + 1, 2, none⟩ = some (.int .i64 0) := K2.out.at.1 2
  have q2_2 : w1.frozen? ⟨w.heap.size + 1 + 1, 2, none⟩ = false := K2.out.at.2 2
  have p2_3 : w1.cell? ⟨w.heap.size + 1 + 1, 3, none⟩ = some (.slice none 0 0) := K2.out.at.1 3
  have q2_3 : w1.frozen? ⟨w.heap.size + 1 + 1, 3, none⟩ = false := K2.out.at.2 3
  have z2 : w.heap.size + 1 + 1 < w1.heap.size := K2.out.lt
  go_wp2_with fail
  refine (rright_ok (x := y) (H2.out.keep (by go_grown)) (HY.out.mono (by omega))).mono ?_
  rintro e w2 ⟨rfl, hb⟩
  clear p0_0 q0_0 p0_1 q0_1 z0 p1_0 q1_0 p1_1 q1_1 z1 p2_0 q2_0 p2_1 q2_1 p2_2 q2_2 p2_3 q2_3 z2
  have hb' := below_call (w1 := w1) (by go_grown) hb
  replace K0 := Lib.hid (K0.out.keep hb')
  replace K1 := Lib.hid (K1.out.keep hb')
  replace K2 := Lib.hid (K2.out.keep hb')
  replace HB := Lib.hid (below_call HB.out hb')
  replace H1 := Lib.hid (H1.out.keep hb')
  replace H2 := Lib.hid (H2.out.keep hb')
  clear hb hb'
  have p0_0 : w2.cell? ⟨w.heap.size, 0, none⟩ = some (.int .i64 (sg x)) := K0.out.at.1 0
  have q0_0 : w2.frozen? ⟨w.heap.size, 0, none⟩ = false := K0.out.at.2 0
  have p0_1 : w2.cell? ⟨w.heap.size, 1, none⟩ = some (.slice a1 (ln x) c1) := K0.out.at.1 1
  have q0_1 : w2.frozen? ⟨w.heap.size, 1, none⟩ = false := K0.out.at.2 1
  have z0 : w.heap.size < w2.heap.size := K0.out.lt
  have p1_0 : w2.cell? ⟨w.heap.size + 1, 0, none⟩ = some (.int .i64 (sg y)) := K1.out.at.1 0
  have q1_0 : w2.frozen? ⟨w.heap.size + 1, 0, none⟩ = false := K1.out.at.2 0
  have p1_1 : w2.cell? ⟨w.heap.size + 1, 1, none⟩ = some (.slice a2 (ln y) c2) := K1.out.at.1 1
  have q1_1 : w2.frozen? ⟨w.heap.size + 1, 1, none⟩ = false := K1.out.at.2 1
  have z1 : w.heap.size + 1 < w2.heap.size := K1.out.lt
  have p2_0 : w2.cell? ⟨w.heap.size + 1 + 1, 0, none⟩ = some (.int .i64 0) := K2.out.at.1 0
  have q2_0 : w2.frozen? ⟨w.heap.size + 1 + 1, 0, none⟩ = false := K2.out.at.2 0
  have p2_1 : w2.cell? ⟨w.heap.size + 1 + 1, 1, none⟩ = some (.slice none 0 0) := K2.out.at.1 1
  have q2_1 : w2.frozen? ⟨w.heap.size + 1 + 1, 1, none⟩ = false := K2.out.at.2 1
  have p2_2 : w2.cell? ⟨w.heap.size + 1 + 1, 2, none⟩ = some (.int .i64 0) := K2.out.at.1 2
  have q2_2 : w2.frozen? ⟨w.heap.size + 1 + 1, 2, none⟩ = false := K2.out.at.2 2
  have p2_3 : w2.cell? ⟨w.heap.size + 1 + 1, 3, none⟩ = some (.slice none 0 0) := K2.out.at.1 3
  have q2_3 : w2.frozen? ⟨w.heap.size + 1 + 1, 3, none⟩ = false := K2.out.at.2 3
  have z2 : w.heap.size + 1 + 1 < w2.heap.size := K2.out.lt
  go_wp2_with fail
  refine (rgcd_is (H1.out.keep (by go_grown)) (H2.out.keep (by go_grown)) HX.out HY.out HG.out).mono ?_
  rintro e w3 ⟨a3, c3, rfl, hd3, hb⟩
  clear p0_0 q0_0 p0_1 q0_1 z0 p1_0 q1_0 p1_1 q1_1 z1 p2_0 q2_0 p2_1 q2_1 p2_2 q2_2 p2_3 q2_3 z2
  have hb' := below_call (w1 := w2) (by go_grown) hb
  replace K0 := Lib.hid (K0.out.keep hb')
  replace K1 := Lib.hid (K1.out.keep hb')
  replace K2 := Lib.hid (K2.out.keep hb')
  replace HB := Lib.hid (below_call HB.out hb')
  replace H1 := Lib.hid (H1.out.keep hb')
  replace H2 := Lib.hid (H2.out.keep hb')
  clear hb hb'
  have Hd3 := Lib.hid hd3; clear hd3
  have p0_0 : w3.cell? ⟨w.heap.size, 0, none⟩ = some (.int .i64 (sg x)) := K0.out.at.1 0
  have q0_0 : w3.frozen? ⟨w.heap.size, 0, none⟩ = false := K0.out.at.2 0
  have p0_1 : w3.cell? ⟨w.heap.size, 1, none⟩ = some (.slice a1 (ln x) c1) := K0.out.at.1 1
  have q0_1 : w3.frozen? ⟨w.heap.size, 1, none⟩ = false := K0.out.at.2 1
  have z0 : w.heap.size < w3.heap.size := K0.out.lt
  have p1_0 : w3.cell? ⟨w.heap.size + 1, 0, none⟩ = some (.int .i64 (sg y)) := K1.out.at.1 0
  have q1_0 : w3.frozen? ⟨w.heap.size + 1, 0, none⟩ = false := K1.out.at.2 0
  have p1_1 : w3.cell? ⟨w.heap.size + 1, 1, none⟩ = some (.slice a2 (ln y) c2) := K1.out.at.1 1
  have q1_1 : w3.frozen? ⟨w.heap.size + 1, 1, none⟩ = false := K1.out.at.2 1
  have z1 : w.heap.size + 1 < w3.heap.size := K1.out.lt
  have p2_0 : w3.cell? ⟨w.heap.size + 1 + 1, 0, none⟩ = some (.int .i64 0) := K2.out.at.1 0
  have q2_0 : w3.frozen? ⟨w.heap.size + 1 + 1, 0, none⟩ = false := K2.out.at.2 0
  have p2_1 : w3.cell? ⟨w.heap.size + 1 + 1, 1, none⟩ = some (.slice none 0 0) := K2.out.at.1 1
  have q2_1 : w3.frozen? ⟨w.heap.size + 1 + 1, 1, none⟩ = false := K2.out.at.2 1
  have p2_2 : w3.cell? ⟨w.heap.size + 1 + 1, 2, none⟩ = some (.int .i64 0) := K2.out.at.1 2
  have q2_2 : w3.frozen? ⟨w.heap.size + 1 + 1, 2, none⟩ = false := K2.out.at.2 2
  have p2_3 : w3.cell? ⟨w.heap.size + 1 + 1, 3, none⟩ = some (.slice none 0 0) := K2.out.at.1 3
  have q2_3 : w3.frozen? ⟨w.heap.size + 1 + 1, 3, none⟩ = false := K2.out.at.2 3
  have z2 : w.heap.size + 1 + 1 < w3.heap.size := K2.out.lt
  go_wp2_with fail
  refine (rdiv_exact (q := nu r) (H1.out.keep (by go_grown)) (Hd3.out.keep (by go_grown)) HX.out HGS.out HG0.out HE1.out).mono ?_
  rintro e w4 ⟨a4, c4, b4, d4, rfl, hd4, -, hb⟩
  clear p0_0 q0_0 p0_1 q0_1 z0 p1_0 q1_0 p1_1 q1_1 z1 p2_0 q2_0 p2_1 q2_1 p2_2 q2_2 p2_3 q2_3 z2
  have hb' := below_call (w1 := w3) (by go_grown) hb
  replace K0 := Lib.hid (K0.out.keep hb')
  replace K1 := Lib.hid (K1.out.keep hb')
  replace K2 := Lib.hid (K2.out.keep hb')
  replace HB := Lib.hid (below_call HB.out hb')
  have K3 := Lib.hid ((Bx.new w3 24 #[.int .i64 (sg g), .slice a3 (ln g) c3]).keep hb)
  replace H1 := Lib.hid (H1.out.keep hb')
  replace H2 := Lib.hid (H2.out.keep hb')
  replace Hd3 := Lib.hid (Hd3.out.keep hb')
  clear hb hb'
  have Hd4 := Lib.hid hd4; clear hd4
  have p0_0 : w4.cell? ⟨w.heap.size, 0, none⟩ = some (.int .i64 (sg x)) := K0.out.at.1 0
  have q0_0 : w4.frozen? ⟨w.heap.size, 0, none⟩ = false := K0.out.at.2 0
  have p0_1 : w4.cell? ⟨w.heap.size, 1, none⟩ = some (.slice a1 (ln x) c1) := K0.out.at.1 1
  have q0_1 : w4.frozen? ⟨w.heap.size, 1, none⟩ = false := K0.out.at.2 1
  have z0 : w.heap.size < w4.heap.size := K0.out.lt
  have p1_0 : w4.cell? ⟨w.heap.size + 1, 0, none⟩ = some (.int .i64 (sg y)) := K1.out.at.1 0
  have q1_0 : w4.frozen? ⟨w.heap.size + 1, 0, none⟩ = false := K1.out.at.2 0
  have p1_1 : w4.cell? ⟨w.heap.size + 1, 1, none⟩ = some (.slice a2 (ln y) c2) := K1.out.at.1 1
  have q1_1 : w4.frozen? ⟨w.heap.size + 1, 1, none⟩ = false := K1.out.at.2 1
  have z1 : w.heap.size + 1 < w4.heap.size := K1.out.lt
  have p2_0 : w4.cell? ⟨w.heap.size + 1 + 1, 0, none⟩ = some (.int .i64 0) := K2.out.at.1 0
  have q2_0 : w4.frozen? ⟨w.heap.size + 1 + 1, 0, none⟩ = false := K2.out.at.2 0
  have p2_1 : w4.cell? ⟨w.heap.size + 1 + 1, 1, none⟩ = some (.slice none 0 0) := K2.out.at.1 1
  have q2_1 : w4.frozen? ⟨w.heap.size + 1 + 1, 1, none⟩ = false := K2.out.at.2 1
  have p2_2 : w4.cell? ⟨w.heap.size + 1 + 1, 2, none⟩ = some (.int .i64 0) := K2.out.at.1 2
  have q2_2 : w4.frozen? ⟨w.heap.size + 1 + 1, 2, none⟩ = false := K2.out.at.2 2
  have p2_3 : w4.cell? ⟨w.heap.size + 1 + 1, 3, none⟩ = some (.slice none 0 0) := K2.out.at.1 3
  have q2_3 : w4.frozen? ⟨w.heap.size + 1 + 1, 3, none⟩ = false := K2.out.at.2 3
  have z2 : w.heap.size + 1 + 1 < w4.heap.size := K2.out.lt
  have p3_0 : w4.cell? ⟨w3.heap.size, 0, none⟩ = some (.int .i64 (sg g)) := K3.out.at.1 0
  have q3_0 : w4.frozen? ⟨w3.heap.size, 0, none⟩ = false := K3.out.at.2 0
  have p3_1 : w4.cell? ⟨w3.heap.size, 1, none⟩ = some (.slice a3 (ln g) c3) := K3.out.at.1 1
  have q3_1 : w4.frozen? ⟨w3.heap.size, 1, none⟩ = false := K3.out.at.2 1
  have z3 : w3.heap.size < w4.heap.size := K3.out.lt
  go_wp2_with fail
  refine (rdiv_exact (q := de r) (H2.out.keep (by go_grown)) (Hd3.out.keep (by go_grown)) HY.out HGS.out HG0.out HE2.out).mono ?_
  rintro e w5 ⟨a5, c5, b5, d5, rfl, hd5, -, hb⟩
  clear p0_0 q0_0 p0_1 q0_1 z0 p1_0 q1_0 p1_1 q1_1 z1 p2_0 q2_0 p2_1 q2_1 p2_2 q2_2 p2_3 q2_3 z2 p3_0 q3_0 p3_1 q3_1 z3
  have hb' := below_call (w1 := w4) (by go_grown) hb
  replace K0 := Lib.hid (K0.out.keep hb')
  replace K1 := Lib.hid (K1.out.keep hb')
  replace K2 := Lib.hid (K2.out.keep hb')
  replace K3 := Lib.hid (K3.out.keep hb')
  replace HB := Lib.hid (below_call HB.out hb')
  have hnb := bx2 w4 24 24 #[.int .i64 (sg (nu r)), .slice a4 (ln (nu r)) c4] #[.int .i64 (sg 0), .slice b4 (ln 0) d4]
  obtain ⟨k4, k5⟩ := hnb
  have K4 := Lib.hid (k4.keep hb)
  have K5 := Lib.hid (k5.keep hb)
  clear k4 k5
  replace H1 := Lib.hid (H1.out.keep hb')
  replace H2 := Lib.hid (H2.out.keep hb')
  replace Hd3 := Lib.hid (Hd3.out.keep hb')
  replace Hd4 := Lib.hid (Hd4.out.keep hb')
  clear hb hb'
  have Hd5 := Lib.hid hd5; clear hd5
  have p0_0 : w5.cell? ⟨w.heap.size, 0, none⟩ = some (.int .i64 (sg x)) := K0.out.at.1 0
  have q0_0 : w5.frozen? ⟨w.heap.size, 0, none⟩ = false := K0.out.at.2 0
  have p0_1 : w5.cell? ⟨w.heap.size, 1, none⟩ = some (.slice a1 (ln x) c1) := K0.out.at.1 1
  have q0_1 : w5.frozen? ⟨w.heap.size, 1, none⟩ = false := K0.out.at.2 1
  have z0 : w.heap.size < w5.heap.size := K0.out.lt
  have p1_0 : w5.cell? ⟨w.heap.size + 1, 0, none⟩ = some (.int .i64 (sg y)) := K1.out.at.1 0
  have q1_0 : w5.frozen? ⟨w.heap.size + 1, 0, none⟩ = false := K1.out.at.2 0
  have p1_1 : w5.cell? ⟨w.heap.size + 1, 1, none⟩ = some (.slice a2 (ln y) c2) := K1.out.at.1 1
  have q1_1 : w5.frozen? ⟨w.heap.size + 1, 1, none⟩ = false := K1.out.at.2 1
  have z1 : w.heap.size + 1 < w5.heap.size := K1.out.lt
  have p2_0 : w5.cell? ⟨w.heap.size + 1 + 1, 0, none⟩ = some (.int .i64 0) := K2.out.at.1 0
  have q2_0 : w5.frozen? ⟨w.heap.size + 1 + 1, 0, none⟩ = false := K2.out.at.2 0
  have p2_1 : w5.cell? ⟨w.heap.size + 1 + 1, 1, none⟩ = some (.slice none 0 0) := K2.out.at.1 1
  have q2_1 : w5.frozen? ⟨w.heap.size + 1 + 1, 1, none⟩ = false := K2.out.at.2 1
  have p2_2 : w5.cell? ⟨w.heap.size + 1 + 1, 2, none⟩ = some (.int .i64 0) := K2.out.at.1 2
  have q2_2 : w5.frozen? ⟨w.heap.size + 1 + 1, 2, none⟩ = false := K2.out.at.2 2
  have p2_3 : w5.cell? ⟨w.heap.size + 1 + 1, 3, none⟩ = some (.slice none 0 0) := K2.out.at.1 3
  have q2_3 : w5.frozen? ⟨w.heap.size + 1 + 1, 3, none⟩ = false := K2.out.at.2 3
  have z2 : w.heap.size + 1 + 1 < w5.heap.size := K2.out.lt
  have p3_0 : w5.cell? ⟨w3.heap.size, 0, none⟩ = some (.int .i64 (sg g)) := K3.out.at.1 0
  have q3_0 : w5.frozen? ⟨w3.heap.size, 0, none⟩ = false := K3.out.at.2 0
  have p3_1 : w5.cell? ⟨w3.heap.size, 1, none⟩ = some (.slice a3 (ln g) c3) := K3.out.at.1 1
  have q3_1 : w5.frozen? ⟨w3.heap.size, 1, none⟩ = false := K3.out.at.2 1
  have z3 : w3.heap.size < w5.heap.size := K3.out.lt
  have p4_0 : w5.cell? ⟨w4.heap.size, 0, none⟩ = some (.int .i64 (sg (nu r))) := K4.out.at.1 0
  have q4_0 : w5.frozen? ⟨w4.heap.size, 0, none⟩ = false := K4.out.at.2 0
  have p4_1 : w5.cell? ⟨w4.heap.size, 1, none⟩ = some (.slice a4 (ln (nu r)) c4) := K4.out.at.1 1
  have q4_1 : w5.frozen? ⟨w4.heap.size, 1, none⟩ = false := K4.out.at.2 1
  have z4 : w4.heap.size < w5.heap.size := K4.out.lt
  have p5_0 : w5.cell? ⟨w4.heap.size + 1, 0, none⟩ = some (.int .i64 (sg 0)) := K5.out.at.1 0
  have q5_0 : w5.frozen? ⟨w4.heap.size + 1, 0, none⟩ = false := K5.out.at.2 0
  have p5_1 : w5.cell? ⟨w4.heap.size + 1, 1, none⟩ = some (.slice b4 (ln 0) d4) := K5.out.at.1 1
  have q5_1 : w5.frozen? ⟨w4.heap.size + 1, 1, none⟩ = false := K5.out.at.2 1
  have z5 : w4.heap.size + 1 < w5.heap.size := K5.out.lt
  go_wp2_with fail
  have HF : Hid (FD G w5 a4 c4 a5 c5 r) := FD.mk Hd4.out Hd5.out
  clear p0_0 q0_0 p0_1 q0_1 z0 p1_0 q1_0 p1_1 q1_1 z1 p2_0 q2_0 p2_1 q2_1 p2_2 q2_2 p2_3 q2_3 z2 p3_0 q3_0 p3_1 q3_1 z3 p4_0 q4_0 p4_1 q4_1 z4 p5_0 q5_0 p5_1 q5_1 z5
  refine bodyPost_ret (results_box2 rfl _ _ (w.heap.size + 1 + 1) 26 _ _ _ rfl (((K2.out.set4 _ _ _ _).keep (below_alloc _ _)).keep (below_alloc _ _)) Try.underlying26 rfl (by kernel_rfl)) rfl ?_
  refine ⟨a4, c4, a5, c5, rfl, ?_, ?_⟩
  · exact (((HF.out.far0 K2.out zb4 (only_setCell (only_setCell (only_setCell (only_setCell (World.grownBy.refl _ _) _) _) _) _)).keep (below_alloc _ _)).keep (below_alloc _ _))
  · exact (Below.alloc (Below.alloc (Below.setCell (Below.setCell (Below.setCell (Below.setCell HB.out (by simp; try omega) _) (by simp; try omega) _) (by simp; try omega) _) (by simp; try omega) _) (by have := HB.out.size; simp [World.setCell]; omega) _) (by have := HB.out.size; simp [World.setCell]; omega) _)
set_option maxHeartbeats 4000000 in
theorem rfof_pos (x y : Int) (w : World) (hx : -9223372036854775808 ≤ x ∧ x ≤ 9223372036854775807) (hy : -9223372036854775808 ≤ y ∧ y ≤ 9223372036854775807) (hp : 0 < y) :
    Calls Try.prog 34 #[.int .i64 x, .int .i64 y] w fun e w' => ∃ a c b d, e = .returned (.tuple #[.agg #[.int .i64 (sg (nu (Rat.divInt x y))), .slice a (ln (nu (Rat.divInt x y))) c, .int .i64 (sg (de (Rat.divInt x y))), .slice b (ln (de (Rat.divInt x y))) d], .int .i64 0]) ∧ FD G w' a c b d (Rat.divInt x y) ∧ Below w.heap.size w w' := by
  have HX := Lib.hid hx
  have HY := Lib.hid hy
  have HP := Lib.hid hp
  clear hx hy hp

  go_enter Try.func34, Try.ntmps34
  go_wp2_with fail
  refine (rof_ok (G := G) x _ HX.out).mono ?_
  rintro e w1 ⟨a1, c1, rfl, hd1, hb⟩
  have hbx := bx1 w 26 #[.int .i64 0, .slice none 0 0, .int .i64 0, .slice none 0 0]
  have k0 := hbx; clear hbx
  have K0 := Lib.hid (k0.keep hb)
  clear k0
  have hb' : Below w.heap.size w w1 := below_call (by go_grown) hb
  have HB := Lib.hid hb'
  clear hb hb'
  have Hd1 := Lib.hid hd1; clear hd1
  have p0_0 : w1.cell? ⟨w.heap.size, 0, none⟩ = some (.int .i64 0) := K0.out.at.1 0
  have q0_0 : w1.frozen? ⟨w.heap.size, 0, none⟩ = false := K0.out.at.2 0
  have p0_1 : w1.cell? ⟨w.heap.size, 1, none⟩ = some (.slice none 0 0) := K0.out.at.1 1
  have q0_1 : w1.frozen? ⟨w.heap.size, 1, none⟩ = false := K0.out.at.2 1
  have p0_2 : w1.cell? ⟨w.heap.size, 2, none⟩ = some (.int .i64 0) := K0.out.at.1 2
  have q0_2 : w1.frozen? ⟨w.heap.size, 2, none⟩ = false := K0.out.at.2 2
  have p0_3 : w1.cell? ⟨w.heap.size, 3, none⟩ = some (.slice none 0 0) := K0.out.at.1 3
  have q0_3 : w1.frozen? ⟨w.heap.size, 3, none⟩ = false := K0.out.at.2 3
  have z0 : w.heap.size < w1.heap.size := K0.out.lt
  go_wp2_with fail
  refine (rof_ok (G := G) y _ HY.out).mono ?_
  rintro e w2 ⟨a2, c2, rfl, hd2, hb⟩
  clear p0_0 q0_0 p0_1 q0_1 p0_2 q0_2 p0_3 q0_3 z0
  have hb' := below_call (w1 := w1) (by go_grown) hb
  replace K0 := Lib.hid (K0.out.keep hb')
  replace HB := Lib.hid (below_call HB.out hb')
  replace Hd1 := Lib.hid (Hd1.out.keep hb')
  clear hb hb'
  have Hd2 := Lib.hid hd2; clear hd2
  have p0_0 : w2.cell? ⟨w.heap.size, 0, none⟩ = some (.int .i64 0) := K0.out.at.1 0
  have q0_0 : w2.frozen? ⟨w.heap.size, 0, none⟩ = false := K0.out.at.2 0
  have p0_1 : w2.cell? ⟨w.heap.size, 1, none⟩ = some (.slice none 0 0) := K0.out.at.1 1
  have q0_1 : w2.frozen? ⟨w.heap.size, 1, none⟩ = false := K0.out.at.2 1
  have p0_2 : w2.cell? ⟨w.heap.size, 2, none⟩ = some (.int .i64 0) := K0.out.at.1 2
  have q0_2 : w2.frozen? ⟨w.heap.size, 2, none⟩ = false := K0.out.at.2 2
  have p0_3 : w2.cell? ⟨w.heap.size, 3, none⟩ = some (.slice none 0 0) := K0.out.at.1 3
  have q0_3 : w2.frozen? ⟨w.heap.size, 3, none⟩ = false := K0.out.at.2 3
  have z0 : w.heap.size < w2.heap.size := K0.out.lt
  go_wp2_with fail
  refine (rnew_pos (Hd1.out.keep (by go_grown)) (Hd2.out.keep (by go_grown)) (sz_int HX.out) (sz_int HY.out) HP.out).mono ?_
  rintro e w3 ⟨a3, c3, b3, d3, rfl, hf3, hb⟩
  clear p0_0 q0_0 p0_1 q0_1 p0_2 q0_2 p0_3 q0_3 z0
  have hb' := below_call (w1 := w2) (by go_grown) hb
  replace K0 := Lib.hid (K0.out.keep hb')
  replace HB := Lib.hid (below_call HB.out hb')
  replace Hd1 := Lib.hid (Hd1.out.keep hb')
  replace Hd2 := Lib.hid (Hd2.out.keep hb')
  clear hb hb'
  have Hf3 := Lib.hid hf3; clear hf3
  have p0_0 : w3.cell? ⟨w.heap.size, 0, none⟩ = some (.int .i64 0) := K0.out.at.1 0
  have q0_0 : w3.frozen? ⟨w.heap.size, 0, none⟩ = false := K0.out.at.2 0
  have p0_1 : w3.cell? ⟨w.heap.size, 1, none⟩ = some (.slice none 0 0) := K0.out.at.1 1
  have q0_1 : w3.frozen? ⟨w.heap.size, 1, none⟩ = false := K0.out.at.2 1
  have p0_2 : w3.cell? ⟨w.heap.size, 2, none⟩ = some (.int .i64 0) := K0.out.at.1 2
  have q0_2 : w3.frozen? ⟨w.heap.size, 2, none⟩ = false := K0.out.at.2 2
  have p0_3 : w3.cell? ⟨w.heap.size, 3, none⟩ = some (.slice none 0 0) := K0.out.at.1 3
  have q0_3 : w3.frozen? ⟨w.heap.size, 3, none⟩ = false := K0.out.at.2 3
  have z0 : w.heap.size < w3.heap.size := K0.out.lt
  go_wp2_with fail
  clear p0_0 q0_0 p0_1 q0_1 p0_2 q0_2 p0_3 q0_3 z0
  refine bodyPost_ret (results_box2 rfl _ _ w.heap.size 26 _ _ _ rfl (K0.out.set4 _ _ _ _) Try.underlying26 rfl (by kernel_rfl)) rfl ?_
  refine ⟨a3, c3, b3, d3, rfl, ?_, ?_⟩
  · exact (Hf3.out.far0 K0.out zb4 (only_setCell (only_setCell (only_setCell (only_setCell (World.grownBy.refl _ _) _) _) _) _))
  · exact (Below.setCell (Below.setCell (Below.setCell (Below.setCell HB.out (by simp; try omega) _) (by simp; try omega) _) (by simp; try omega) _) (by simp; try omega) _)
theorem rfof_one (x : Int) (w : World) (hx : -9223372036854775808 ≤ x ∧ x ≤ 9223372036854775807) :
    Calls Try.prog 34 #[.int .i64 x, .int .i64 1] w fun e w' => ∃ a c b d, e = .returned (.tuple #[.agg #[.int .i64 (sg (nu (x : Rat))), .slice a (ln (nu (x : Rat))) c, .int .i64 (sg (de (x : Rat))), .slice b (ln (de (x : Rat))) d], .int .i64 0]) ∧ FD G w' a c b d (x : Rat) ∧ Below w.heap.size w w' := by
  have := rfof_pos (G := G) x 1 w hx (by decide) (by decide)
  rwa [show Rat.divInt x 1 = (x : Rat) from divInt_parts (x : Rat)] at this
set_option maxHeartbeats 4000000 in
theorem rfint_ok (x : Int) (w : World) (hx : -9223372036854775808 ≤ x ∧ x ≤ 9223372036854775807) :
    Calls Try.prog 28 #[.int .i64 x] w fun e w' => ∃ a c b d, e = .returned (.agg #[.int .i64 (sg (nu (x : Rat))), .slice a (ln (nu (x : Rat))) c, .int .i64 (sg (de (x : Rat))), .slice b (ln (de (x : Rat))) d]) ∧ FD G w' a c b d (x : Rat) ∧ Below w.heap.size w w' := by
  have HX := Lib.hid hx
  clear hx

  go_enter Try.func28, Try.ntmps28
  go_wp2_with fail
  refine (rfof_one (G := G) x _ HX.out).mono ?_
  rintro e w1 ⟨a3, c3, b3, d3, rfl, hf3, hb⟩
  have hbx := bx1 w 26 #[.int .i64 0, .slice none 0 0, .int .i64 0, .slice none 0 0]
  have k0 := hbx; clear hbx
  have K0 := Lib.hid (k0.keep hb)
  clear k0
  have hb' : Below w.heap.size w w1 := below_call (by go_grown) hb
  have HB := Lib.hid hb'
  clear hb hb'
  have Hf3 := Lib.hid hf3; clear hf3
  have p0_0 : w1.cell? ⟨w.heap.size, 0, none⟩ = some (.int .i64 0) := K0.out.at.1 0
  have q0_0 : w1.frozen? ⟨w.heap.size, 0, none⟩ = false := K0.out.at.2 0
  have p0_1 : w1.cell? ⟨w.heap.size, 1, none⟩ = some (.slice none 0 0) := K0.out.at.1 1
  have q0_1 : w1.frozen? ⟨w.heap.size, 1, none⟩ = false := K0.out.at.2 1
  have p0_2 : w1.cell? ⟨w.heap.size, 2, none⟩ = some (.int .i64 0) := K0.out.at.1 2
  have q0_2 : w1.frozen? ⟨w.heap.size, 2, none⟩ = false := K0.out.at.2 2
  have p0_3 : w1.cell? ⟨w.heap.size, 3, none⟩ = some (.slice none 0 0) := K0.out.at.1 3
  have q0_3 : w1.frozen? ⟨w.heap.size, 3, none⟩ = false := K0.out.at.2 3
  have z0 : w.heap.size < w1.heap.size := K0.out.lt
  go_wp2_with fail
  clear p0_0 q0_0 p0_1 q0_1 p0_2 q0_2 p0_3 q0_3 z0
  refine bodyPost_ret (results_box1 rfl _ _ w.heap.size 26 _ _ _ rfl ((K0.out.set4 _ _ _ _).keep (below_alloc _ _)) Try.underlying26 rfl (by kernel_rfl)) rfl ?_
  refine ⟨a3, c3, b3, d3, rfl, ?_, ?_⟩
  · exact ((Hf3.out.far0 K0.out zb4 (only_setCell (only_setCell (only_setCell (only_setCell (World.grownBy.refl _ _) _) _) _) _)).keep (below_alloc _ _))
  · exact (Below.alloc (Below.setCell (Below.setCell (Below.setCell (Below.setCell HB.out (by simp; try omega) _) (by simp; try omega) _) (by simp; try omega) _) (by simp; try omega) _) (by have := HB.out.size; simp [World.setCell]; omega) _)
end Go.Proofs.Ytjbfngjlepafgaa
namespace Go.Proofs.Ytjbfngjlepafgaa
open Go.RowKit
variable {G : Nat}

end Go.Proofs.Ytjbfngjlepafgaa
namespace Go.Proofs.Ytjbfngjlepafgaa
open Go.RowKit

/-- The region of this number in a sequence, and what follows it. -/
def partAt (k : Nat) : Code → Option (Code × Code)
  | .seq a b => match a with
    | .region id _ _ => if id = k then some (a, b) else partAt k b
    | _ => partAt k b
  | .scope c => partAt k c
  | _ => none
noncomputable def regAt (f : Func) (k : Nat) : Code := ((f.body.bind (partAt k)).getD (.skip, .skip)).1
noncomputable def restAt (f : Func) (k : Nat) : Code := ((f.body.bind (partAt k)).getD (.skip, .skip)).2
end Go.Proofs.Ytjbfngjlepafgaa
namespace Go.Proofs.Ytjbfngjlepafgaa
open Go.RowKit Go.Lib
variable {G : Nat}

theorem results_cc {P : Program} {fn : Func} {p q : Tmp} {ty ty2 : TypeId} (h : fn.results = #[.cell p ty, .cell q ty2]) (tmps : Array Value) (w : World) (g g2 : Nat) (t t2 : TypeId) (cs cs2 : Array Value) (fr fr2 : Nat × Nat) (d d2 : TypeDesc)
    (hp : tmps.getD p undef = .pointer (some ⟨g, 0, none⟩)) (hg : w.heap[g]? = some (.cells cs t fr)) (hu : P.underlying ty = some d) (hd : (match d with | .struct _ | .array _ _ => true | _ => false) = true) (hi : (P.info? ty).map (·.size) = some cs.size)
    (hp2 : tmps.getD q undef = .pointer (some ⟨g2, 0, none⟩)) (hg2 : w.heap[g2]? = some (.cells cs2 t2 fr2)) (hu2 : P.underlying ty2 = some d2) (hd2 : (match d2 with | .struct _ | .array _ _ => true | _ => false) = true) (hi2 : (P.info? ty2).map (·.size) = some cs2.size) :
    (results fn tmps).run P w = .ok (.tuple #[.agg cs, .agg cs2]) w := by
  have hp' : tmps[p]?.getD undef = .pointer (some ⟨g, 0, none⟩) := by simpa using hp
  have hp2' : tmps[q]?.getD undef = .pointer (some ⟨g2, 0, none⟩) := by simpa using hp2
  simp [results, h, hp', hp2', asAddr, run_loadVar_row w g t ty cs fr d hg hu hd hi, run_loadVar_row w g2 t2 ty2 cs2 fr2 d2 hg2 hu2 hd2 hi2]
theorem Bx.d4 {w : World} {g : Nat} {T : TypeId} {u0 u1 u2 u3 : Value} (h : Bx w g T #[u0, u1, u2, u3]) : w.cell? ⟨g, 0, none⟩ = some u0 ∧ w.cell? ⟨g, 1, none⟩ = some u1 ∧ w.cell? ⟨g, 2, none⟩ = some u2 ∧ w.cell? ⟨g, 3, none⟩ = some u3 :=
  ⟨h.at.1 0, h.at.1 1, h.at.1 2, h.at.1 3⟩
theorem Bx.d8 {w : World} {g : Nat} {T : TypeId} {u0 u1 u2 u3 u4 u5 u6 u7 : Value} (h : Bx w g T #[u0, u1, u2, u3, u4, u5, u6, u7]) : w.cell? ⟨g, 0, none⟩ = some u0 ∧ w.cell? ⟨g, 1, none⟩ = some u1 ∧ w.cell? ⟨g, 2, none⟩ = some u2 ∧ w.cell? ⟨g, 3, none⟩ = some u3 ∧ w.cell? ⟨g, 4, none⟩ = some u4 ∧ w.cell? ⟨g, 5, none⟩ = some u5 ∧ w.cell? ⟨g, 6, none⟩ = some u6 ∧ w.cell? ⟨g, 7, none⟩ = some u7 :=
  ⟨h.at.1 0, h.at.1 1, h.at.1 2, h.at.1 3, h.at.1 4, h.at.1 5, h.at.1 6, h.at.1 7⟩
/-- Four cells that hold two integers. -/
def TQ (G : Nat) (w : World) (u0 u1 u2 u3 : Value) (x y : Int) : Prop :=
  ∃ a c b d, u0 = .int .i64 (sg x) ∧ u1 = .slice a (ln x) c ∧ u2 = .int .i64 (sg y) ∧ u3 = .slice b (ln y) d ∧ BD G w a c x ∧ BD G w b d y
def FQ (G : Nat) (w : World) (u0 u1 u2 u3 : Value) (q : Rat) : Prop := TQ G w u0 u1 u2 u3 (nu q) (de q)
def OQ (G : Nat) (w : World) (u0 u1 u2 u3 : Value) (o : Option Rat) : Prop := TQ G w u0 u1 u2 u3 (oN o) (oD o)
/-- Four cells of a fraction, right or not: how many digits each part has, and which fraction it is, if it is right. -/
def FX (w : World) (u0 u1 u2 u3 : Value) (n m : Nat) (o : Option Rat) : Prop :=
  ∃ s a c t b d l k, u0 = .int .i64 s ∧ u1 = .slice a n c ∧ u2 = .int .i64 t ∧ u3 = .slice b m d ∧ List.length l = n ∧ List.length k = m ∧ FR w a c b d l k ∧
    ((o = none ∧ rightF s l t k = false) ∨ ∃ q, o = some q ∧ rightF s l t k = true ∧ s = sg (nu q) ∧ n = Go.Proofs.Ytjbfngjlepafgaa.ln (nu q) ∧ t = sg (de q) ∧ m = Go.Proofs.Ytjbfngjlepafgaa.ln (de q) ∧ FD w.heap.size w a c b d q)
theorem TQ.keep {w w' : World} {u0 u1 u2 u3 : Value} {x y : Int} (h : TQ G w u0 u1 u2 u3 x y) (hb : Below w.heap.size w w') : TQ G w' u0 u1 u2 u3 x y := by
  obtain ⟨a, c, b, d, h0, h1, h2, h3, h4, h5⟩ := h
  exact ⟨a, c, b, d, h0, h1, h2, h3, h4.keep hb, h5.keep hb⟩
theorem FQ.keep {w w' : World} {u0 u1 u2 u3 : Value} {q : Rat} (h : FQ G w u0 u1 u2 u3 q) (hb : Below w.heap.size w w') : FQ G w' u0 u1 u2 u3 q := TQ.keep h hb
theorem OQ.keep {w w' : World} {u0 u1 u2 u3 : Value} {o : Option Rat} (h : OQ G w u0 u1 u2 u3 o) (hb : Below w.heap.size w w') : OQ G w' u0 u1 u2 u3 o := TQ.keep h hb
theorem FX.keep {w w' : World} {u0 u1 u2 u3 : Value} {n m : Nat} {o : Option Rat} (h : FX w u0 u1 u2 u3 n m o) (hb : Below w.heap.size w w') : FX w' u0 u1 u2 u3 n m o := by
  obtain ⟨s, a, c, t, b, d, l, k, h0, h1, h2, h3, h4, h5, h6, h7⟩ := h
  refine ⟨s, a, c, t, b, d, l, k, h0, h1, h2, h3, h4, h5, h6.keep hb, ?_⟩
  rcases h7 with h7 | ⟨q, e, hr, k1, k2, k3, k4, k5⟩
  · exact .inl h7
  · exact .inr ⟨q, e, hr, k1, k2, k3, k4, (k5.keep hb).up hb.size⟩
instance {w w' : World} {u0 u1 u2 u3 : Value} {x y : Int} : Goes (TQ G w u0 u1 u2 u3 x y) w w' (TQ G w' u0 u1 u2 u3 x y) := ⟨fun h hb => h.keep hb⟩
instance {w w' : World} {u0 u1 u2 u3 : Value} {q : Rat} : Goes (FQ G w u0 u1 u2 u3 q) w w' (FQ G w' u0 u1 u2 u3 q) := ⟨fun h hb => h.keep hb⟩
instance {w w' : World} {u0 u1 u2 u3 : Value} {o : Option Rat} : Goes (OQ G w u0 u1 u2 u3 o) w w' (OQ G w' u0 u1 u2 u3 o) := ⟨fun h hb => h.keep hb⟩
instance {w w' : World} {u0 u1 u2 u3 : Value} {n m : Nat} {o : Option Rat} : Goes (FX w u0 u1 u2 u3 n m o) w w' (FX w' u0 u1 u2 u3 n m o) := ⟨fun h hb => h.keep hb⟩
theorem TQ.far {w w' : World} {g : Nat} {T : TypeId} {cs : Array Value} {u0 u1 u2 u3 : Value} {x y : Int} (h : TQ G w u0 u1 u2 u3 x y) (k : Bx w g T cs) (hT : (T == 3) = false) (hG : G ≤ g) (hg : w.grownBy w' (some g)) : TQ G w' u0 u1 u2 u3 x y := by
  obtain ⟨a, c, b, d, h0, h1, h2, h3, h4, h5⟩ := h
  exact ⟨a, c, b, d, h0, h1, h2, h3, h4.far k hT hG hg, h5.far k hT hG hg⟩
theorem FQ.far {w w' : World} {g : Nat} {T : TypeId} {cs : Array Value} {u0 u1 u2 u3 : Value} {q : Rat} (h : FQ G w u0 u1 u2 u3 q) (k : Bx w g T cs) (hT : (T == 3) = false) (hG : G ≤ g) (hg : w.grownBy w' (some g)) : FQ G w' u0 u1 u2 u3 q := TQ.far h k hT hG hg
theorem OQ.far {w w' : World} {g : Nat} {T : TypeId} {cs : Array Value} {u0 u1 u2 u3 : Value} {o : Option Rat} (h : OQ G w u0 u1 u2 u3 o) (k : Bx w g T cs) (hT : (T == 3) = false) (hG : G ≤ g) (hg : w.grownBy w' (some g)) : OQ G w' u0 u1 u2 u3 o := TQ.far h k hT hG hg
theorem TQ.st {w : World} {u0 u1 u2 u3 : Value} {x y : Int} (h : TQ G w u0 u1 u2 u3 x y) : (∀ a m w', Sem.run Try.prog (store a u0 m) w' = stored Try.prog w' a u0 m) ∧ (∀ a m w', Sem.run Try.prog (store a u1 m) w' = stored Try.prog w' a u1 m) ∧ (∀ a m w', Sem.run Try.prog (store a u2 m) w' = stored Try.prog w' a u2 m) ∧ (∀ a m w', Sem.run Try.prog (store a u3 m) w' = stored Try.prog w' a u3 m) := by
  obtain ⟨a, c, b, d, rfl, rfl, rfl, rfl, -, -⟩ := h
  exact ⟨fun _ _ _ => run_store _ _ _ _ _ rfl, fun _ _ _ => run_store _ _ _ _ _ rfl, fun _ _ _ => run_store _ _ _ _ _ rfl, fun _ _ _ => run_store _ _ _ _ _ rfl⟩
theorem FX.st {w : World} {u0 u1 u2 u3 : Value} {n m : Nat} {o : Option Rat} (h : FX w u0 u1 u2 u3 n m o) : (∀ a m w', Sem.run Try.prog (store a u0 m) w' = stored Try.prog w' a u0 m) ∧ (∀ a m w', Sem.run Try.prog (store a u1 m) w' = stored Try.prog w' a u1 m) ∧ (∀ a m w', Sem.run Try.prog (store a u2 m) w' = stored Try.prog w' a u2 m) ∧ (∀ a m w', Sem.run Try.prog (store a u3 m) w' = stored Try.prog w' a u3 m) := by
  obtain ⟨s, a, c, t, b, d, l, k, rfl, rfl, rfl, rfl, -⟩ := h
  exact ⟨fun _ _ _ => run_store _ _ _ _ _ rfl, fun _ _ _ => run_store _ _ _ _ _ rfl, fun _ _ _ => run_store _ _ _ _ _ rfl, fun _ _ _ => run_store _ _ _ _ _ rfl⟩
theorem TQ.up {G' : Nat} {w : World} {u0 u1 u2 u3 : Value} {x y : Int} (h : TQ G w u0 u1 u2 u3 x y) (hG : G ≤ G') : TQ G' w u0 u1 u2 u3 x y := by
  obtain ⟨a, c, b, d, h0, h1, h2, h3, h4, h5⟩ := h
  exact ⟨a, c, b, d, h0, h1, h2, h3, h4.up hG, h5.up hG⟩
theorem FQ.up {G' : Nat} {w : World} {u0 u1 u2 u3 : Value} {q : Rat} (h : FQ G w u0 u1 u2 u3 q) (hG : G ≤ G') : FQ G' w u0 u1 u2 u3 q := TQ.up h hG
theorem FQ.ex {w : World} {u0 u1 u2 u3 : Value} {q : Rat} (h : FQ G w u0 u1 u2 u3 q) : ∃ a c b d, u0 = .int .i64 (sg (nu q)) ∧ u1 = .slice a (ln (nu q)) c ∧ u2 = .int .i64 (sg (de q)) ∧ u3 = .slice b (ln (de q)) d ∧ FD G w a c b d q := by
  obtain ⟨a, c, b, d, h0, h1, h2, h3, h4, h5⟩ := h
  exact ⟨a, c, b, d, h0, h1, h2, h3, h4, h5⟩
theorem FQ.of {w : World} {a b : Option Addr} {c d : Nat} {q : Rat} (h : FD G w a c b d q) : FQ G w (.int .i64 (sg (nu q))) (.slice a (ln (nu q)) c) (.int .i64 (sg (de q))) (.slice b (ln (de q)) d) q :=
  ⟨a, c, b, d, rfl, rfl, rfl, rfl, h.n, h.d⟩
theorem OQ.of {w : World} {a b : Option Addr} {c d : Nat} {o : Option Rat} (h : BD G w a c (oN o)) (h' : BD G w b d (oD o)) : OQ G w (.int .i64 (sg (oN o))) (.slice a (ln (oN o)) c) (.int .i64 (sg (oD o))) (.slice b (ln (oD o)) d) o :=
  ⟨a, c, b, d, rfl, rfl, rfl, rfl, h, h'⟩
theorem fx_of {s t : Int} {l k : List Int} {a b : Option Addr} {c d : Nat} {w : World} (h : FR w a c b d l k) : ∃ o, FX w (.int .i64 s) (.slice a l.length c) (.int .i64 t) (.slice b k.length d) l.length k.length o := by
  cases hr : rightF s l t k with
  | false => exact ⟨none, s, a, c, t, b, d, l, k, rfl, rfl, rfl, rfl, rfl, rfl, h, .inl ⟨rfl, hr⟩⟩
  | true =>
    obtain ⟨q, e1, e2, e3, e4, k1⟩ := fd_of_right h hr
    exact ⟨some q, s, a, c, t, b, d, l, k, rfl, rfl, rfl, rfl, rfl, rfl, h, .inr ⟨q, rfl, hr, e1, e2, e3, e4, k1⟩⟩
theorem FX.fq {w : World} {u0 u1 u2 u3 : Value} {n m : Nat} {q : Rat} (h : FX w u0 u1 u2 u3 n m (some q)) : FQ w.heap.size w u0 u1 u2 u3 q := by
  obtain ⟨s, a, c, t, b, d, l, k, h0, h1, h2, h3, h4, h5, h6, h7⟩ := h
  rcases h7 with ⟨h7, -⟩ | ⟨q', e, hr, k1, k2, k3, k4, k5⟩
  · cases h7
  · obtain rfl := Option.some.inj e
    subst k1 k2 k3 k4
    exact ⟨a, c, b, d, h0, h1, h2, h3, k5.n, k5.d⟩
theorem FX.fz {w : World} {u0 u1 u2 u3 : Value} {n m k : Nat} {q : Rat} (h : FX w u0 u1 u2 u3 n m (some q)) (hn : n ≤ k) (hm : m ≤ k) : Fz q k := by
  obtain ⟨s, a, c, t, b, d, l, _, h0, h1, h2, h3, h4, h5, h6, h7⟩ := h
  rcases h7 with ⟨h7, -⟩ | ⟨q', e, hr, k1, k2, k3, k4, k5⟩
  · cases h7
  · obtain rfl := Option.some.inj e
    have k2' : n = (digs (nu q).natAbs).length := k2
    have k4' : m = (digs (de q).natAbs).length := k4
    exact ⟨show (digs (nu q).natAbs).length ≤ k by omega, show (digs (de q).natAbs).length ≤ k by omega⟩
theorem fxRight_ok {u0 u1 u2 u3 : Value} {n m : Nat} {o : Option Rat} {b_ : Bool} {w : World} (h : FX w u0 u1 u2 u3 n m o) (hn : n ≤ 549755813888) (hm : m ≤ 549755813888) (hb : o.isSome = b_) :
    Calls Try.prog 41 #[.agg #[u0, u1, u2, u3]] w fun e w' => e = .returned (.bool b_) ∧ Below w.heap.size w w' := by
  obtain ⟨s, a, c, t, b, d, l, k, rfl, rfl, rfl, rfl, h4, h5, h6, h7⟩ := h
  subst hb
  rcases h7 with ⟨rfl, hr⟩ | ⟨q, rfl, hr, -⟩
  · exact fracRight_len h6 h4 h5 hn hm hr
  · exact fracRight_len h6 h4 h5 hn hm hr
theorem fxFew_ok {u0 u1 u2 u3 : Value} {n m : Nat} {o : Option Rat} {k : Int} {r : Bool} {w : World} (h : FX w u0 u1 u2 u3 n m o) (hr : (decide ((n : Int) ≤ k) && decide ((m : Int) ≤ k)) = r) :
    Calls Try.prog 22 #[.agg #[u0, u1, u2, u3], .int .i64 k] w fun e w' => e = .returned (.bool r) ∧ Below w.heap.size w w' := by
  obtain ⟨s, a, c, t, b, d, l, k, rfl, rfl, rfl, rfl, h4, h5, h6, h7⟩ := h
  exact rfFew_ok hr
def Oz (o : Option Rat) (n : Nat) : Prop := Sz (oN o) n ∧ Sz (oD o) n
theorem Oz.some_ {q : Rat} {n : Nat} (h : Fz q n) : Oz (some q) n := h
theorem Oz.mono {o : Option Rat} {n m : Nat} (h : Oz o n) (hm : n ≤ m) : Oz o m := ⟨h.1.mono hm, h.2.mono hm⟩
theorem q_of_parts {q r : Rat} (h : nu q = nu r) (h' : de q = de r) : q = r := by rw [← divInt_parts q, ← divInt_parts r, h, h']
theorem oq_eq {o p : Option Rat} : (eqZ (oN o) (oN p) && eqZ (oD o) (oD p)) = decide (o = p) := by
  have hz : ∀ x y : Int, eqZ x y = decide (x = y) := by
    intro x y
    by_cases h : x = y
    · rw [decide_eq_true h]; exact eqZ_of h
    · rw [decide_eq_false h]; unfold eqZ; rw [decide_eq_false_iff_not]; exact h
  rw [hz, hz, ← Bool.decide_and]
  apply decide_eq_decide.2
  constructor
  · intro ⟨h, h'⟩
    cases o with
    | none =>
      cases p with
      | none => rfl
      | some r => exfalso; have := de_pos r; have h2 : (0 : Int) = de r := h'; omega
    | some q =>
      cases p with
      | none => exfalso; have := de_pos q; have h2 : de q = (0 : Int) := h'; omega
      | some r => rw [q_of_parts h h']
  · rintro rfl; exact ⟨rfl, rfl⟩
theorem rfsame_o {o p : Option Rat} {u0 u1 u2 u3 v0 v1 v2 v3 : Value} {b_ : Bool} {w : World} (h1 : OQ G w u0 u1 u2 u3 o) (h2 : OQ G w v0 v1 v2 v3 p) (hx : Oz o 1099511627776) (hy : Oz p 1099511627776) (hb : decide (o = p) = b_) :
    Calls Try.prog 26 #[.agg #[u0, u1, u2, u3], .agg #[v0, v1, v2, v3]] w fun e w' => e = .returned (.bool b_) ∧ Below w.heap.size w w' := by
  obtain ⟨a, c, b, d, rfl, rfl, rfl, rfl, k1, k2⟩ := h1
  obtain ⟨a', c', b', d', rfl, rfl, rfl, rfl, k3, k4⟩ := h2
  rw [← hb, ← oq_eq]
  exact rfsame_ok k1 k2 k3 k4 hx.1 hx.2 hy.1 hy.2
theorem fqRight {u0 u1 u2 u3 : Value} {q : Rat} {w : World} (h1 : FQ G w u0 u1 u2 u3 q) (hx : Fz q 549755813888) :
    Calls Try.prog 41 #[.agg #[u0, u1, u2, u3]] w fun e w' => e = .returned (.bool true) ∧ Below w.heap.size w w' := by
  obtain ⟨a1, c1, b1, d1, rfl, rfl, rfl, rfl, k1⟩ := h1.ex
  exact fracRight_ok (G := G) k1 hx
theorem fqCompare {u0 u1 u2 u3 v0 v1 v2 v3 : Value} {q r : Rat} {k : Int} {w : World} (h1 : FQ G w u0 u1 u2 u3 q) (h2 : FQ G w v0 v1 v2 v3 r) (hx : Fz q 137438953472) (hy : Fz r 137438953472) (hk : ordQ q r = k) :
    Calls Try.prog 37 #[.agg #[u0, u1, u2, u3], .agg #[v0, v1, v2, v3]] w fun e w' => e = .returned (.int .i64 k) ∧ Below w.heap.size w w' := by
  obtain ⟨a1, c1, b1, d1, rfl, rfl, rfl, rfl, k1⟩ := h1.ex
  obtain ⟨a2, c2, b2, d2, rfl, rfl, rfl, rfl, k2⟩ := h2.ex
  exact fracCompare_is (G := G) k1 k2 hx hy hk
theorem fqAdd {u0 u1 u2 u3 v0 v1 v2 v3 : Value} {q r : Rat} {w : World} (h1 : FQ G w u0 u1 u2 u3 q) (h2 : FQ G w v0 v1 v2 v3 r) (hx : Fz q 137438953472) (hy : Fz r 137438953472) :
    Calls Try.prog 24 #[.agg #[u0, u1, u2, u3], .agg #[v0, v1, v2, v3]] w fun e w' => ∃ x0 x1 x2 x3, e = .returned (.tuple #[.agg #[x0, x1, x2, x3], .int .i64 0]) ∧ FQ G w' x0 x1 x2 x3 (q + r) ∧ Below w.heap.size w w' := by
  obtain ⟨a1, c1, b1, d1, rfl, rfl, rfl, rfl, k1⟩ := h1.ex
  obtain ⟨a2, c2, b2, d2, rfl, rfl, rfl, rfl, k2⟩ := h2.ex
  exact (fracAdd_ok (G := G) k1 k2 hx hy).mono fun e w' ⟨a, c, b, d, he, hd, hb⟩ => ⟨_, _, _, _, he, FQ.of hd, hb⟩
theorem fqSub {u0 u1 u2 u3 v0 v1 v2 v3 : Value} {q r : Rat} {w : World} (h1 : FQ G w u0 u1 u2 u3 q) (h2 : FQ G w v0 v1 v2 v3 r) (hx : Fz q 137438953472) (hy : Fz r 137438953472) :
    Calls Try.prog 46 #[.agg #[u0, u1, u2, u3], .agg #[v0, v1, v2, v3]] w fun e w' => ∃ x0 x1 x2 x3, e = .returned (.tuple #[.agg #[x0, x1, x2, x3], .int .i64 0]) ∧ FQ G w' x0 x1 x2 x3 (q - r) ∧ Below w.heap.size w w' := by
  obtain ⟨a1, c1, b1, d1, rfl, rfl, rfl, rfl, k1⟩ := h1.ex
  obtain ⟨a2, c2, b2, d2, rfl, rfl, rfl, rfl, k2⟩ := h2.ex
  exact (fracSub_ok (G := G) k1 k2 hx hy).mono fun e w' ⟨a, c, b, d, he, hd, hb⟩ => ⟨_, _, _, _, he, FQ.of hd, hb⟩
theorem fqMul {u0 u1 u2 u3 v0 v1 v2 v3 : Value} {q r : Rat} {w : World} (hG : G ≤ w.heap.size) (h1 : FQ G w u0 u1 u2 u3 q) (h2 : FQ G w v0 v1 v2 v3 r) (hx : Fz q 137438953472) (hy : Fz r 137438953472) :
    Calls Try.prog 50 #[.agg #[u0, u1, u2, u3], .agg #[v0, v1, v2, v3]] w fun e w' => ∃ x0 x1 x2 x3, e = .returned (.tuple #[.agg #[x0, x1, x2, x3], .int .i64 0]) ∧ FQ G w' x0 x1 x2 x3 (q * r) ∧ Below w.heap.size w w' := by
  obtain ⟨a1, c1, b1, d1, rfl, rfl, rfl, rfl, k1⟩ := h1.ex
  obtain ⟨a2, c2, b2, d2, rfl, rfl, rfl, rfl, k2⟩ := h2.ex
  exact (fracMul_ok (G := G) hG k1 k2 hx hy).mono fun e w' ⟨a, c, b, d, he, hd, hb⟩ => ⟨_, _, _, _, he, FQ.of hd, hb⟩
theorem fqDiv {u0 u1 u2 u3 v0 v1 v2 v3 : Value} {q r : Rat} {w : World} (hG : G ≤ w.heap.size) (h1 : FQ G w u0 u1 u2 u3 q) (h2 : FQ G w v0 v1 v2 v3 r) (hx : Fz q 137438953472) (hy : Fz r 137438953472) (h0 : r ≠ 0) :
    Calls Try.prog 49 #[.agg #[u0, u1, u2, u3], .agg #[v0, v1, v2, v3]] w fun e w' => ∃ x0 x1 x2 x3, e = .returned (.tuple #[.agg #[x0, x1, x2, x3], .int .i64 0]) ∧ FQ G w' x0 x1 x2 x3 (q / r) ∧ Below w.heap.size w w' := by
  obtain ⟨a1, c1, b1, d1, rfl, rfl, rfl, rfl, k1⟩ := h1.ex
  obtain ⟨a2, c2, b2, d2, rfl, rfl, rfl, rfl, k2⟩ := h2.ex
  exact (fracDiv_ok (G := G) hG k1 k2 hx hy h0).mono fun e w' ⟨a, c, b, d, he, hd, hb⟩ => ⟨_, _, _, _, he, FQ.of hd, hb⟩
theorem fqDivAny {u0 u1 u2 u3 v0 v1 v2 v3 : Value} {q r : Rat} {o : Option Rat} {er : Int} {w : World} (hG : G ≤ w.heap.size) (h1 : FQ G w u0 u1 u2 u3 q) (h2 : FQ G w v0 v1 v2 v3 r) (hx : Fz q 137438953472) (hy : Fz r 137438953472) (ho : divO q r = o) (he : divE r = er) :
    Calls Try.prog 49 #[.agg #[u0, u1, u2, u3], .agg #[v0, v1, v2, v3]] w fun e w' => ∃ x0 x1 x2 x3, e = .returned (.tuple #[.agg #[x0, x1, x2, x3], .int .i64 er]) ∧ OQ G w' x0 x1 x2 x3 o ∧ Below w.heap.size w w' := by
  obtain ⟨a1, c1, b1, d1, rfl, rfl, rfl, rfl, k1⟩ := h1.ex
  obtain ⟨a2, c2, b2, d2, rfl, rfl, rfl, rfl, k2⟩ := h2.ex
  exact (fracDiv_any (G := G) hG k1 k2 hx hy ho he).mono fun e w' ⟨a, c, b, d, he, hd, hd2, hb⟩ => ⟨_, _, _, _, he, OQ.of hd hd2, hb⟩
theorem fqMin {u0 u1 u2 u3 v0 v1 v2 v3 : Value} {q r : Rat} {m : Rat} {w : World} (hG : G ≤ w.heap.size) (h1 : FQ G w u0 u1 u2 u3 q) (h2 : FQ G w v0 v1 v2 v3 r) (hx : Fz q 137438953472) (hy : Fz r 137438953472) (hm : pick q r (-1) = m) :
    Calls Try.prog 51 #[.agg #[u0, u1, u2, u3], .agg #[v0, v1, v2, v3]] w fun e w' => ∃ x0 x1 x2 x3, e = .returned (.tuple #[.agg #[x0, x1, x2, x3], .int .i64 0]) ∧ FQ G w' x0 x1 x2 x3 m ∧ Below w.heap.size w w' := by
  obtain ⟨a1, c1, b1, d1, rfl, rfl, rfl, rfl, k1⟩ := h1.ex
  obtain ⟨a2, c2, b2, d2, rfl, rfl, rfl, rfl, k2⟩ := h2.ex
  exact (fracMin_is (G := G) hG k1 k2 hx hy hm).mono fun e w' ⟨a, c, b, d, he, hd, hb⟩ => ⟨_, _, _, _, he, FQ.of hd, hb⟩
theorem fqMax {u0 u1 u2 u3 v0 v1 v2 v3 : Value} {q r : Rat} {m : Rat} {w : World} (hG : G ≤ w.heap.size) (h1 : FQ G w u0 u1 u2 u3 q) (h2 : FQ G w v0 v1 v2 v3 r) (hx : Fz q 137438953472) (hy : Fz r 137438953472) (hm : pick q r 1 = m) :
    Calls Try.prog 52 #[.agg #[u0, u1, u2, u3], .agg #[v0, v1, v2, v3]] w fun e w' => ∃ x0 x1 x2 x3, e = .returned (.tuple #[.agg #[x0, x1, x2, x3], .int .i64 0]) ∧ FQ G w' x0 x1 x2 x3 m ∧ Below w.heap.size w w' := by
  obtain ⟨a1, c1, b1, d1, rfl, rfl, rfl, rfl, k1⟩ := h1.ex
  obtain ⟨a2, c2, b2, d2, rfl, rfl, rfl, rfl, k2⟩ := h2.ex
  exact (fracMax_is (G := G) hG k1 k2 hx hy hm).mono fun e w' ⟨a, c, b, d, he, hd, hb⟩ => ⟨_, _, _, _, he, FQ.of hd, hb⟩
theorem fqNeg {u0 u1 u2 u3 : Value} {q : Rat} {w : World} (hG : G ≤ w.heap.size) (h1 : FQ G w u0 u1 u2 u3 q) (hx : Fz q 137438953472) :
    Calls Try.prog 40 #[.agg #[u0, u1, u2, u3]] w fun e w' => ∃ x0 x1 x2 x3, e = .returned (.agg #[x0, x1, x2, x3]) ∧ FQ G w' x0 x1 x2 x3 (-q) ∧ Below w.heap.size w w' := by
  obtain ⟨a1, c1, b1, d1, rfl, rfl, rfl, rfl, k1⟩ := h1.ex
  exact (fracNeg_ok (G := G) hG k1 hx).mono fun e w' ⟨a, c, b, d, he, hd, hb⟩ => ⟨_, _, _, _, he, FQ.of hd, hb⟩
theorem fqInt {x : Int} {w : World} (hx : -9223372036854775808 ≤ x ∧ x ≤ 9223372036854775807) :
    Calls Try.prog 48 #[.int .i64 x] w fun e w' => ∃ x0 x1 x2 x3, e = .returned (.agg #[x0, x1, x2, x3]) ∧ FQ G w' x0 x1 x2 x3 (x : Rat) ∧ Below w.heap.size w w' := by
  exact (fracInt_ok (G := G) x _ hx).mono fun e w' ⟨a, c, b, d, he, hd, hb⟩ => ⟨_, _, _, _, he, FQ.of hd, hb⟩
theorem rqInt {x : Int} {w : World} (hx : -9223372036854775808 ≤ x ∧ x ≤ 9223372036854775807) :
    Calls Try.prog 28 #[.int .i64 x] w fun e w' => ∃ x0 x1 x2 x3, e = .returned (.agg #[x0, x1, x2, x3]) ∧ FQ G w' x0 x1 x2 x3 (x : Rat) ∧ Below w.heap.size w w' := by
  exact (rfint_ok (G := G) x _ hx).mono fun e w' ⟨a, c, b, d, he, hd, hb⟩ => ⟨_, _, _, _, he, FQ.of hd, hb⟩
end Go.Proofs.Ytjbfngjlepafgaa
namespace Go.Proofs.Ytjbfngjlepafgaa

def minQ (q r : Rat) : Rat := if r < q then r else q
def maxQ (q r : Rat) : Rat := if q < r then r else q
theorem minQ_le1 (q r : Rat) : minQ q r ≤ q := by unfold minQ; split <;> grind
theorem le_maxQ1 (q r : Rat) : q ≤ maxQ q r := by unfold maxQ; split <;> grind
theorem le_minQ {z q r : Rat} : z ≤ minQ q r ↔ z ≤ q ∧ z ≤ r := by unfold minQ; split <;> grind
theorem maxQ_le {z q r : Rat} : maxQ q r ≤ z ↔ q ≤ z ∧ r ≤ z := by unfold maxQ; split <;> grind
theorem minQ_or (q r : Rat) : minQ q r = q ∨ minQ q r = r := by unfold minQ; split <;> simp
theorem maxQ_or (q r : Rat) : maxQ q r = q ∨ maxQ q r = r := by unfold maxQ; split <;> simp
structure Sp where
  lo : Rat
  hi : Rat
def min4 (x y z u : Rat) : Rat := minQ (minQ (minQ x y) z) u
def max4 (x y z u : Rat) : Rat := maxQ (maxQ (maxQ x y) z) u
theorem le_min4 {v x y z u : Rat} : v ≤ min4 x y z u ↔ v ≤ x ∧ v ≤ y ∧ v ≤ z ∧ v ≤ u := by unfold min4; rw [le_minQ, le_minQ, le_minQ]; grind
theorem max4_le {v x y z u : Rat} : max4 x y z u ≤ v ↔ x ≤ v ∧ y ≤ v ∧ z ≤ v ∧ u ≤ v := by unfold max4; rw [maxQ_le, maxQ_le, maxQ_le]; grind
theorem min4_or (x y z u : Rat) : min4 x y z u = x ∨ min4 x y z u = y ∨ min4 x y z u = z ∨ min4 x y z u = u := by
  unfold min4
  rcases minQ_or (minQ (minQ x y) z) u with h | h
  · rcases minQ_or (minQ x y) z with h2 | h2
    · rcases minQ_or x y with h3 | h3 <;> grind
    · grind
  · grind
theorem max4_or (x y z u : Rat) : max4 x y z u = x ∨ max4 x y z u = y ∨ max4 x y z u = z ∨ max4 x y z u = u := by
  unfold max4
  rcases maxQ_or (maxQ (maxQ x y) z) u with h | h
  · rcases maxQ_or (maxQ x y) z with h2 | h2
    · rcases maxQ_or x y with h3 | h3 <;> grind
    · grind
  · grind
theorem eq_of_le_iff {a b : Rat} (h : ∀ z, a ≤ z ↔ b ≤ z) : a = b := Rat.le_antisymm ((h b).2 Rat.le_refl) ((h a).1 Rat.le_refl)
theorem eq_of_ge_iff {a b : Rat} (h : ∀ z, z ≤ a ↔ z ≤ b) : a = b := Rat.le_antisymm ((h a).1 Rat.le_refl) ((h b).2 Rat.le_refl)
theorem mulr_mono {x y z : Rat} (h : x ≤ y) (hz : 0 ≤ z) : x * z ≤ y * z := Rat.mul_le_mul_of_nonneg_right h hz
theorem mulr_anti {x y z : Rat} (h : x ≤ y) (hz : z ≤ 0) : y * z ≤ x * z := by
  have h1 : 0 ≤ -z := by grind
  have := Rat.mul_le_mul_of_nonneg_right h h1
  rw [Rat.mul_neg, Rat.mul_neg] at this
  exact Rat.neg_le_neg_iff.1 this
/-- A product lies between the products of the ends. -/
theorem mul_hi {p x q y : Rat} {v : Rat} (h1 : p ≤ x) (h2 : x ≤ q) (k1 : p * y ≤ v) (k2 : q * y ≤ v) : x * y ≤ v := by
  rcases (show 0 ≤ y ∨ y ≤ 0 by grind) with h | h
  · exact Rat.le_trans (mulr_mono h2 h) k2
  · exact Rat.le_trans (mulr_anti h1 h) k1
theorem mul_lo {p x q y : Rat} {v : Rat} (h1 : p ≤ x) (h2 : x ≤ q) (k1 : v ≤ p * y) (k2 : v ≤ q * y) : v ≤ x * y := by
  rcases (show 0 ≤ y ∨ y ≤ 0 by grind) with h | h
  · exact Rat.le_trans k1 (mulr_mono h1 h)
  · exact Rat.le_trans k2 (mulr_anti h2 h)
def mulS (a b : Sp) : Sp := ⟨min4 (a.lo * b.lo) (a.lo * b.hi) (a.hi * b.lo) (a.hi * b.hi), max4 (a.lo * b.lo) (a.lo * b.hi) (a.hi * b.lo) (a.hi * b.hi)⟩
def addS (a b : Sp) : Sp := ⟨a.lo + b.lo, a.hi + b.hi⟩
def negS (a : Sp) : Sp := ⟨-a.hi, -a.lo⟩
def subS (a b : Sp) : Sp := addS a (negS b)
def minS (a b : Sp) : Sp := ⟨minQ a.lo b.lo, minQ a.hi b.hi⟩
def maxS (a b : Sp) : Sp := ⟨maxQ a.lo b.lo, maxQ a.hi b.hi⟩
def hullS (a b : Sp) : Sp := ⟨min4 a.lo a.hi b.lo b.hi, max4 a.lo a.hi b.lo b.hi⟩
def invS (b : Sp) : Sp := ⟨1 / b.hi, 1 / b.lo⟩
def okS (a : Sp) : Prop := a.lo ≤ a.hi
def hasS (a : Sp) (x : Rat) : Prop := a.lo ≤ x ∧ x ≤ a.hi
def inS (a b : Sp) : Prop := b.lo ≤ a.lo ∧ a.hi ≤ b.hi
def divS (a b : Sp) : Option Sp := if b.lo ≤ 0 ∧ 0 ≤ b.hi then none else some (mulS a (invS b))
theorem mulS_has {a b : Sp} {x y : Rat} (hx : hasS a x) (hy : hasS b y) : hasS (mulS a b) (x * y) := by
  have hl := le_min4.1 (Rat.le_refl (a := (mulS a b).lo))
  have hh := max4_le.1 (Rat.le_refl (a := (mulS a b).hi))
  constructor
  · refine mul_lo hx.1 hx.2 ?_ ?_
    · rw [Rat.mul_comm]; refine mul_lo hy.1 hy.2 ?_ ?_ <;> rw [Rat.mul_comm] <;> grind
    · rw [Rat.mul_comm]; refine mul_lo hy.1 hy.2 ?_ ?_ <;> rw [Rat.mul_comm] <;> grind
  · refine mul_hi hx.1 hx.2 ?_ ?_
    · rw [Rat.mul_comm]; refine mul_hi hy.1 hy.2 ?_ ?_ <;> rw [Rat.mul_comm] <;> grind
    · rw [Rat.mul_comm]; refine mul_hi hy.1 hy.2 ?_ ?_ <;> rw [Rat.mul_comm] <;> grind
theorem has_lo {a : Sp} (h : okS a) : hasS a a.lo := ⟨Rat.le_refl, h⟩
theorem has_hi {a : Sp} (h : okS a) : hasS a a.hi := ⟨h, Rat.le_refl⟩
theorem mulS_ok {a b : Sp} (ha : okS a) (hb : okS b) : okS (mulS a b) := by
  have := mulS_has (has_lo ha) (has_lo hb)
  exact Rat.le_trans this.1 this.2
/-- The least span: it lies in every span that has the products of the ends. -/
theorem mulS_hi {a b : Sp} {z : Rat} : (mulS a b).hi ≤ z ↔ a.lo * b.lo ≤ z ∧ a.lo * b.hi ≤ z ∧ a.hi * b.lo ≤ z ∧ a.hi * b.hi ≤ z := max4_le
theorem mulS_lo {a b : Sp} {z : Rat} : z ≤ (mulS a b).lo ↔ z ≤ a.lo * b.lo ∧ z ≤ a.lo * b.hi ∧ z ≤ a.hi * b.lo ∧ z ≤ a.hi * b.hi := le_min4
theorem Sp.ext' {a b : Sp} (h : a.lo = b.lo) (k : a.hi = b.hi) : a = b := by cases a; cases b; simp_all
theorem mulS_comm (a b : Sp) : mulS a b = mulS b a := by
  apply Sp.ext'
  · apply eq_of_ge_iff; intro z; rw [mulS_lo, mulS_lo]; rw [Rat.mul_comm b.lo, Rat.mul_comm b.lo, Rat.mul_comm b.hi, Rat.mul_comm b.hi]; grind
  · apply eq_of_le_iff; intro z; rw [mulS_hi, mulS_hi]; rw [Rat.mul_comm b.lo, Rat.mul_comm b.lo, Rat.mul_comm b.hi, Rat.mul_comm b.hi]; grind
/-- All products of ends. -/
def all8 (P : Rat → Prop) (a b c : Sp) : Prop := ∀ x y z, (x = a.lo ∨ x = a.hi) → (y = b.lo ∨ y = b.hi) → (z = c.lo ∨ z = c.hi) → P (x * y * z)
theorem end_has {a : Sp} (h : okS a) {x : Rat} (hx : x = a.lo ∨ x = a.hi) : hasS a x := by rcases hx with rfl | rfl; exact has_lo h; exact has_hi h
theorem mulS_end_lo (a b : Sp) : ∃ x y, (x = a.lo ∨ x = a.hi) ∧ (y = b.lo ∨ y = b.hi) ∧ (mulS a b).lo = x * y := by
  rcases min4_or (a.lo * b.lo) (a.lo * b.hi) (a.hi * b.lo) (a.hi * b.hi) with h | h | h | h
  · exact ⟨_, _, .inl rfl, .inl rfl, h⟩
  · exact ⟨_, _, .inl rfl, .inr rfl, h⟩
  · exact ⟨_, _, .inr rfl, .inl rfl, h⟩
  · exact ⟨_, _, .inr rfl, .inr rfl, h⟩
theorem mulS_end_hi (a b : Sp) : ∃ x y, (x = a.lo ∨ x = a.hi) ∧ (y = b.lo ∨ y = b.hi) ∧ (mulS a b).hi = x * y := by
  rcases max4_or (a.lo * b.lo) (a.lo * b.hi) (a.hi * b.lo) (a.hi * b.hi) with h | h | h | h
  · exact ⟨_, _, .inl rfl, .inl rfl, h⟩
  · exact ⟨_, _, .inl rfl, .inr rfl, h⟩
  · exact ⟨_, _, .inr rfl, .inl rfl, h⟩
  · exact ⟨_, _, .inr rfl, .inr rfl, h⟩
theorem mulS_end {a b : Sp} {x : Rat} (h : x = (mulS a b).lo ∨ x = (mulS a b).hi) : ∃ y z, (y = a.lo ∨ y = a.hi) ∧ (z = b.lo ∨ z = b.hi) ∧ x = y * z := by
  rcases h with h | h
  · obtain ⟨y, z, hy, hz, e⟩ := mulS_end_lo a b; exact ⟨y, z, hy, hz, h.trans e⟩
  · obtain ⟨y, z, hy, hz, e⟩ := mulS_end_hi a b; exact ⟨y, z, hy, hz, h.trans e⟩
theorem mul3_hi {a b c : Sp} (ha : okS a) (hb : okS b) {z : Rat} : (mulS (mulS a b) c).hi ≤ z ↔ all8 (· ≤ z) a b c := by
  rw [mulS_hi]
  constructor
  · intro h x y v hx hy hv
    have hm := mulS_has (end_has ha hx) (end_has hb hy)
    rcases hv with rfl | rfl
    · exact mul_hi hm.1 hm.2 h.1 h.2.2.1
    · exact mul_hi hm.1 hm.2 h.2.1 h.2.2.2
  · intro h
    obtain ⟨x, y, hx, hy, e⟩ := mulS_end_lo a b
    obtain ⟨x', y', hx', hy', e'⟩ := mulS_end_hi a b
    rw [e, e']
    exact ⟨h _ _ _ hx hy (.inl rfl), h _ _ _ hx hy (.inr rfl), h _ _ _ hx' hy' (.inl rfl), h _ _ _ hx' hy' (.inr rfl)⟩
theorem mul3_lo {a b c : Sp} (ha : okS a) (hb : okS b) {z : Rat} : z ≤ (mulS (mulS a b) c).lo ↔ all8 (z ≤ ·) a b c := by
  rw [mulS_lo]
  constructor
  · intro h x y v hx hy hv
    have hm := mulS_has (end_has ha hx) (end_has hb hy)
    rcases hv with rfl | rfl
    · exact mul_lo hm.1 hm.2 h.1 h.2.2.1
    · exact mul_lo hm.1 hm.2 h.2.1 h.2.2.2
  · intro h
    obtain ⟨x, y, hx, hy, e⟩ := mulS_end_lo a b
    obtain ⟨x', y', hx', hy', e'⟩ := mulS_end_hi a b
    rw [e, e']
    exact ⟨h _ _ _ hx hy (.inl rfl), h _ _ _ hx hy (.inr rfl), h _ _ _ hx' hy' (.inl rfl), h _ _ _ hx' hy' (.inr rfl)⟩
theorem all8_turn {P : Rat → Prop} {a b c : Sp} : all8 P a b c ↔ all8 P b c a := by
  constructor
  · intro h x y z hx hy hz
    have := h z x y hz hx hy
    rwa [show x * y * z = z * x * y by grind]
  · intro h x y z hx hy hz
    have := h y z x hy hz hx
    rwa [show x * y * z = y * z * x by grind]
theorem mulS_assoc {a b c : Sp} (ha : okS a) (hb : okS b) (hc : okS c) : mulS (mulS a b) c = mulS a (mulS b c) := by
  rw [mulS_comm a (mulS b c)]
  apply Sp.ext'
  · apply eq_of_ge_iff; intro z; rw [mul3_lo ha hb, mul3_lo hb hc, all8_turn]
  · apply eq_of_le_iff; intro z; rw [mul3_hi ha hb, mul3_hi hb hc, all8_turn]
theorem addS_comm (a b : Sp) : addS a b = addS b a := by unfold addS; apply Sp.ext' <;> grind
theorem addS_assoc (a b c : Sp) : addS (addS a b) c = addS a (addS b c) := by unfold addS; apply Sp.ext' <;> grind
theorem minQ_comm (a b : Rat) : minQ a b = minQ b a := by unfold minQ; grind
theorem maxQ_comm (a b : Rat) : maxQ a b = maxQ b a := by unfold maxQ; grind
theorem minQ_assoc (a b c : Rat) : minQ (minQ a b) c = minQ a (minQ b c) := by unfold minQ; grind
theorem maxQ_assoc (a b c : Rat) : maxQ (maxQ a b) c = maxQ a (maxQ b c) := by unfold maxQ; grind
theorem minS_comm (a b : Sp) : minS a b = minS b a := by unfold minS; rw [minQ_comm, minQ_comm a.hi]
theorem maxS_comm (a b : Sp) : maxS a b = maxS b a := by unfold maxS; rw [maxQ_comm, maxQ_comm a.hi]
theorem minS_assoc (a b c : Sp) : minS (minS a b) c = minS a (minS b c) := by unfold minS; simp only [minQ_assoc]
theorem maxS_assoc (a b c : Sp) : maxS (maxS a b) c = maxS a (maxS b c) := by unfold maxS; simp only [maxQ_assoc]
theorem hullS_eq {a b : Sp} (ha : okS a) (hb : okS b) : hullS a b = ⟨minQ a.lo b.lo, maxQ a.hi b.hi⟩ := by
  unfold hullS
  unfold okS at ha hb
  apply Sp.ext'
  · apply eq_of_ge_iff; intro z; rw [le_min4, le_minQ]; grind
  · apply eq_of_le_iff; intro z; rw [max4_le, maxQ_le]; grind
theorem hullS_ok {a b : Sp} (ha : okS a) (hb : okS b) : okS (hullS a b) := by
  rw [hullS_eq ha hb]; exact Rat.le_trans (minQ_le1 _ _) (Rat.le_trans ha (le_maxQ1 _ _))
theorem hullS_comm {a b : Sp} (ha : okS a) (hb : okS b) : hullS a b = hullS b a := by rw [hullS_eq ha hb, hullS_eq hb ha, minQ_comm, maxQ_comm]
theorem hullS_assoc {a b c : Sp} (ha : okS a) (hb : okS b) (hc : okS c) : hullS (hullS a b) c = hullS a (hullS b c) := by
  rw [hullS_eq (hullS_ok ha hb) hc, hullS_eq ha (hullS_ok hb hc), hullS_eq ha hb, hullS_eq hb hc]
  simp only [minQ_assoc, maxQ_assoc]
theorem addS_ok {a b : Sp} (ha : okS a) (hb : okS b) : okS (addS a b) := by unfold okS addS at *; grind
/-- The product of a span and a sum lies in the sum of the products. -/
theorem distr {a b c : Sp} (ha : okS a) (hb : okS b) (hc : okS c) : inS (mulS a (addS b c)) (addS (mulS a b) (mulS a c)) := by
  constructor
  · rw [mulS_lo]
    have h1 := mulS_has (has_lo ha) (has_lo hb); have h2 := mulS_has (has_lo ha) (has_lo hc)
    have h3 := mulS_has (has_lo ha) (has_hi hb); have h4 := mulS_has (has_lo ha) (has_hi hc)
    have h5 := mulS_has (has_hi ha) (has_lo hb); have h6 := mulS_has (has_hi ha) (has_lo hc)
    have h7 := mulS_has (has_hi ha) (has_hi hb); have h8 := mulS_has (has_hi ha) (has_hi hc)
    unfold hasS at *; unfold addS; simp only
    rw [Rat.mul_add, Rat.mul_add, Rat.mul_add, Rat.mul_add]
    refine ⟨?_, ?_, ?_, ?_⟩ <;> grind
  · rw [mulS_hi]
    have h1 := mulS_has (has_lo ha) (has_lo hb); have h2 := mulS_has (has_lo ha) (has_lo hc)
    have h3 := mulS_has (has_lo ha) (has_hi hb); have h4 := mulS_has (has_lo ha) (has_hi hc)
    have h5 := mulS_has (has_hi ha) (has_lo hb); have h6 := mulS_has (has_hi ha) (has_lo hc)
    have h7 := mulS_has (has_hi ha) (has_hi hb); have h8 := mulS_has (has_hi ha) (has_hi hc)
    unfold hasS at *; unfold addS; simp only
    rw [Rat.mul_add, Rat.mul_add, Rat.mul_add, Rat.mul_add]
    refine ⟨?_, ?_, ?_, ?_⟩ <;> grind
/-- Sub-spans. -/
theorem in_has {a c : Sp} {x : Rat} (h : inS a c) (hx : hasS a x) : hasS c x := ⟨Rat.le_trans h.1 hx.1, Rat.le_trans hx.2 h.2⟩
theorem mulS_in {a b c d : Sp} (ha : okS a) (hb : okS b) (h : inS a c) (k : inS b d) : inS (mulS a b) (mulS c d) := by
  constructor
  · obtain ⟨x, y, hx, hy, e⟩ := mulS_end_lo a b
    rw [e]; exact (mulS_has (in_has h (end_has ha hx)) (in_has k (end_has hb hy))).1
  · obtain ⟨x, y, hx, hy, e⟩ := mulS_end_hi a b
    rw [e]; exact (mulS_has (in_has h (end_has ha hx)) (in_has k (end_has hb hy))).2
theorem addS_in {a b c d : Sp} (h : inS a c) (k : inS b d) : inS (addS a b) (addS c d) := by unfold inS addS at *; grind
theorem negS_in {a c : Sp} (h : inS a c) : inS (negS a) (negS c) := by unfold inS negS at *; grind
theorem subS_in {a b c d : Sp} (h : inS a c) (k : inS b d) : inS (subS a b) (subS c d) := addS_in h (negS_in k)
theorem minS_in {a b c d : Sp} (h : inS a c) (k : inS b d) : inS (minS a b) (minS c d) := by unfold inS minS minQ at *; grind
theorem maxS_in {a b c d : Sp} (h : inS a c) (k : inS b d) : inS (maxS a b) (maxS c d) := by unfold inS maxS maxQ at *; grind
theorem hullS_in {a b c d : Sp} (ha : okS a) (hb : okS b) (hc : okS c) (hd : okS d) (h : inS a c) (k : inS b d) : inS (hullS a b) (hullS c d) := by
  rw [hullS_eq ha hb, hullS_eq hc hd]; unfold inS minQ maxQ at *; grind
/-- Spans without 0, turned over. -/
theorem inv_pos {y : Rat} (h : 0 < y) : 0 < 1 / y := by rw [Rat.div_def, Rat.one_mul]; exact Rat.inv_pos.2 h
theorem inv_neg {y : Rat} (h : y < 0) : 1 / y < 0 := by
  have := inv_pos (show 0 < -y by grind)
  have e : 1 / -y = -(1 / y) := by
    have hy : y ≠ 0 := by grind
    have hn : -y ≠ 0 := by grind
    have h1 := Rat.div_mul_cancel (a := 1) hn
    have h2 := Rat.div_mul_cancel (a := 1) hy
    grind
  rw [e] at this; grind
theorem mul_one_div {x y : Rat} : x * (1 / y) = x / y := by rw [Rat.div_def, Rat.div_def, Rat.one_mul]
theorem inv_anti_pos {y z : Rat} (h : 0 < y) (hz : y ≤ z) : 1 / z ≤ 1 / y := by
  have hp : 0 < z := by grind
  have h1 := Rat.div_mul_cancel (a := 1) (show y ≠ 0 by grind)
  have h2 := Rat.div_mul_cancel (a := 1) (show z ≠ 0 by grind)
  have h3 := inv_pos h; have h4 := inv_pos hp
  have h5 := mulr_mono hz (Rat.le_of_lt (Rat.mul_pos h3 h4))
  have e1 : y * (1 / y * (1 / z)) = 1 / z := by grind
  have e2 : z * (1 / y * (1 / z)) = 1 / y := by grind
  rw [e1, e2] at h5; exact h5
theorem inv_anti_neg {y z : Rat} (h : z < 0) (hz : y ≤ z) : 1 / z ≤ 1 / y := by
  have hp : y < 0 := by grind
  have h1 := Rat.div_mul_cancel (a := 1) (show y ≠ 0 by grind)
  have h2 := Rat.div_mul_cancel (a := 1) (show z ≠ 0 by grind)
  have h3 := inv_neg hp; have h4 := inv_neg h
  have h6 : 0 < (1 / y) * (1 / z) := by
    have := Rat.mul_pos (show 0 < -(1 / y) by grind) (show 0 < -(1 / z) by grind)
    rw [Rat.neg_mul, Rat.mul_neg, Rat.neg_neg] at this; exact this
  have h5 := mulr_mono hz (Rat.le_of_lt h6)
  have e1 : y * (1 / y * (1 / z)) = 1 / z := by grind
  have e2 : z * (1 / y * (1 / z)) = 1 / y := by grind
  rw [e1, e2] at h5; exact h5
/-- It has no 0. -/
def no0 (b : Sp) : Prop := ¬ (b.lo ≤ 0 ∧ 0 ≤ b.hi)
theorem no0_sign {b : Sp} (_hb : okS b) (h : no0 b) : 0 < b.lo ∨ b.hi < 0 := by unfold no0 okS at *; grind
theorem invS_has {b : Sp} {y : Rat} (hb : okS b) (h : no0 b) (hy : hasS b y) : hasS (invS b) (1 / y) := by
  unfold hasS invS at *
  rcases no0_sign hb h with h1 | h1
  · exact ⟨inv_anti_pos (by grind) hy.2, inv_anti_pos h1 hy.1⟩
  · exact ⟨inv_anti_neg h1 hy.2, inv_anti_neg (by grind) hy.1⟩
theorem invS_ok {b : Sp} (hb : okS b) (h : no0 b) : okS (invS b) := by
  have := invS_has hb h (has_lo hb); exact Rat.le_trans this.1 this.2
theorem invS_in {b d : Sp} (hb : okS b) (hd : okS d) (k : inS b d) (h : no0 d) : inS (invS b) (invS d) ∧ no0 b := by
  have hn : no0 b := by unfold no0 inS at *; grind
  refine ⟨⟨?_, ?_⟩, hn⟩
  · exact (invS_has hd h (in_has k (has_hi hb))).1
  · exact (invS_has hd h (in_has k (has_lo hb))).2
theorem has_ne {b : Sp} {y : Rat} (h : no0 b) (hy : hasS b y) : y ≠ 0 := by unfold no0 hasS at *; grind
theorem div_has {a b : Sp} {x y : Rat} (hb : okS b) (h : no0 b) (hx : hasS a x) (hy : hasS b y) : hasS (mulS a (invS b)) (x / y) := by
  rw [← mul_one_div]; exact mulS_has hx (invS_has hb h hy)
theorem mul_back {a b : Sp} (ha : okS a) (hb : okS b) (h : no0 b) : inS a (mulS (mulS a b) (invS b)) := by
  have hm := mulS_has (has_lo ha) (has_lo hb)
  have hm2 := mulS_has (has_hi ha) (has_lo hb)
  have h1 := div_has hb h hm (has_lo hb)
  have h2 := div_has hb h hm2 (has_lo hb)
  have hne := has_ne h (has_lo hb)
  rw [Rat.mul_div_cancel hne] at h1 h2
  exact ⟨h1.1, h2.2⟩
def opS : Nat → Sp → Sp → Option Sp
  | 0, a, b => some (addS a b)
  | 1, a, b => some (subS a b)
  | 2, a, b => some (mulS a b)
  | 3, a, b => divS a b
  | 4, a, b => some (minS a b)
  | _, a, b => some (maxS a b)
def calcQ : Nat → Rat → Rat → Option Rat
  | 0, x, y => some (x + y)
  | 1, x, y => some (x - y)
  | 2, x, y => some (x * y)
  | 3, x, y => if y = 0 then none else some (x / y)
  | 4, x, y => some (minQ x y)
  | _, x, y => some (maxQ x y)
theorem divS_some {a b s : Sp} (h : divS a b = some s) : no0 b ∧ s = mulS a (invS b) := by
  unfold divS at h; split at h
  · cases h
  · rename_i h0; exact ⟨h0, (Option.some.inj h).symm⟩
theorem addS_has {a b : Sp} {x y : Rat} (hx : hasS a x) (hy : hasS b y) : hasS (addS a b) (x + y) := by unfold hasS addS at *; grind
theorem subS_has {a b : Sp} {x y : Rat} (hx : hasS a x) (hy : hasS b y) : hasS (subS a b) (x - y) := by unfold hasS subS addS negS at *; grind
theorem minS_has {a b : Sp} {x y : Rat} (hx : hasS a x) (hy : hasS b y) : hasS (minS a b) (minQ x y) := by unfold hasS minS minQ at *; grind
theorem maxS_has {a b : Sp} {x y : Rat} (hx : hasS a x) (hy : hasS b y) : hasS (maxS a b) (maxQ x y) := by unfold hasS maxS maxQ at *; grind
theorem op_has {k : Nat} {a b s : Sp} {x y : Rat} (hb : okS b) (hx : hasS a x) (hy : hasS b y) (h : opS k a b = some s) : ∃ z, calcQ k x y = some z ∧ hasS s z := by
  match k, h with
  | 0, h => cases h; exact ⟨_, rfl, addS_has hx hy⟩
  | 1, h => cases h; exact ⟨_, rfl, subS_has hx hy⟩
  | 2, h => cases h; exact ⟨_, rfl, mulS_has hx hy⟩
  | 3, h =>
    obtain ⟨h0, rfl⟩ := divS_some h
    exact ⟨_, if_neg (has_ne h0 hy), div_has hb h0 hx hy⟩
  | 4, h => cases h; exact ⟨_, rfl, minS_has hx hy⟩
  | _ + 5, h => cases h; exact ⟨_, rfl, maxS_has hx hy⟩
theorem op_none {k : Nat} {a b : Sp} (h : opS k a b = none) : k = 3 ∧ hasS b 0 := by
  match k, h with
  | 0, h => cases h
  | 1, h => cases h
  | 2, h => cases h
  | 3, h =>
    refine ⟨rfl, ?_⟩
    have h' : divS a b = none := h
    unfold divS at h'; split at h'
    · assumption
    · cases h'
  | 4, h => cases h
  | _ + 5, h => cases h
theorem op_ok {k : Nat} {a b s : Sp} (ha : okS a) (hb : okS b) (h : opS k a b = some s) : okS s := by
  obtain ⟨z, -, hz⟩ := op_has hb (has_lo ha) (has_lo hb) h
  exact Rat.le_trans hz.1 hz.2
/-- Which ends: the first of a pair by the number's first bit, the second by its second. -/
def endA (a : Sp) (i : Nat) : Rat := if i % 2 = 1 then a.hi else a.lo
def endB (b : Sp) (i : Nat) : Rat := if i / 2 = 1 then b.hi else b.lo
theorem ends_pick {a b : Sp} {x y : Rat} (hx : x = a.lo ∨ x = a.hi) (hy : y = b.lo ∨ y = b.hi) : ∃ i, i < 4 ∧ endA a i = x ∧ endB b i = y := by
  rcases hx with rfl | rfl <;> rcases hy with rfl | rfl
  · exact ⟨0, by decide, rfl, rfl⟩
  · exact ⟨2, by decide, rfl, rfl⟩
  · exact ⟨1, by decide, rfl, rfl⟩
  · exact ⟨3, by decide, rfl, rfl⟩
theorem inv_end {b : Sp} {y : Rat} (h : y = (invS b).lo ∨ y = (invS b).hi) : ∃ z, (z = b.lo ∨ z = b.hi) ∧ y = 1 / z := by
  rcases h with h | h
  · exact ⟨_, .inr rfl, h⟩
  · exact ⟨_, .inl rfl, h⟩
theorem met_fin {k : Nat} {a b : Sp} {v x y : Rat} (hx : x = a.lo ∨ x = a.hi) (hy : y = b.lo ∨ y = b.hi) (e : calcQ k x y = some v) : ∃ i, i < 4 ∧ calcQ k (endA a i) (endB b i) = some v := by
  obtain ⟨i, hi, e1, e2⟩ := ends_pick hx hy
  exact ⟨i, hi, by rw [e1, e2]; exact e⟩
/-- The ends of a result are results for ends. -/
theorem op_met {k : Nat} {a b s : Sp} {v : Rat} (hb : okS b) (h : opS k a b = some s) (hv : v = s.lo ∨ v = s.hi) : ∃ i, i < 4 ∧ calcQ k (endA a i) (endB b i) = some v := by
  match k, h with
  | 0, h =>
    cases h
    rcases hv with rfl | rfl
    · exact met_fin (.inl rfl) (.inl rfl) rfl
    · exact met_fin (.inr rfl) (.inr rfl) rfl
  | 1, h =>
    cases h
    rcases hv with rfl | rfl
    · exact met_fin (.inl rfl) (.inr rfl) (by unfold calcQ subS addS negS; simp only [Rat.sub_eq_add_neg])
    · exact met_fin (.inr rfl) (.inl rfl) (by unfold calcQ subS addS negS; simp only [Rat.sub_eq_add_neg])
  | 2, h =>
    cases h
    obtain ⟨x, y, hx, hy, e⟩ := mulS_end hv
    exact met_fin hx hy (by rw [e]; rfl)
  | 3, h =>
    obtain ⟨h0, rfl⟩ := divS_some h
    obtain ⟨x, y, hx, hy, e⟩ := mulS_end hv
    obtain ⟨z, hz, e2⟩ := inv_end hy
    have hne := has_ne h0 (end_has hb hz)
    exact met_fin hx hz (by show (if z = 0 then none else some (x / z)) = some v; rw [if_neg hne, e, e2, mul_one_div])
  | 4, h =>
    cases h
    rcases hv with rfl | rfl
    · exact met_fin (.inl rfl) (.inl rfl) rfl
    · exact met_fin (.inr rfl) (.inr rfl) rfl
  | _ + 5, h =>
    cases h
    rcases hv with rfl | rfl
    · exact met_fin (.inl rfl) (.inl rfl) rfl
    · exact met_fin (.inr rfl) (.inr rfl) rfl
theorem op_in {k : Nat} {a b c d t : Sp} (ha : okS a) (hb : okS b) (hd : okS d) (h : inS a c) (k' : inS b d) (ht : opS k c d = some t) : ∃ s, opS k a b = some s ∧ inS s t := by
  match k, ht with
  | 0, ht => cases ht; exact ⟨_, rfl, addS_in h k'⟩
  | 1, ht => cases ht; exact ⟨_, rfl, subS_in h k'⟩
  | 2, ht => cases ht; exact ⟨_, rfl, mulS_in ha hb h k'⟩
  | 3, ht =>
    obtain ⟨h0, rfl⟩ := divS_some ht
    obtain ⟨hi, hn⟩ := invS_in hb hd k' h0
    exact ⟨_, if_neg hn, mulS_in ha (invS_ok hb hn) h hi⟩
  | 4, ht => cases ht; exact ⟨_, rfl, minS_in h k'⟩
  | _ + 5, ht => cases ht; exact ⟨_, rfl, maxS_in h k'⟩
/-- What two spans have in common. -/
def meetS (a b : Sp) : Option Sp := if minQ a.hi b.hi < maxQ a.lo b.lo then none else some ⟨maxQ a.lo b.lo, minQ a.hi b.hi⟩
theorem meet_in {a b c d s : Sp} (h : inS a c) (k : inS b d) (hm : meetS a b = some s) : ∃ t, meetS c d = some t ∧ inS s t := by
  unfold meetS at *
  split at hm
  · cases hm
  · cases hm
    have : ¬ minQ c.hi d.hi < maxQ c.lo d.lo := by unfold inS minQ maxQ at *; grind
    rw [if_neg this]
    exact ⟨_, rfl, by unfold inS minQ maxQ at *; grind⟩
theorem meet_none {a b : Sp} {x : Rat} (h : meetS a b = none) : ¬ (hasS a x ∧ hasS b x) := by
  unfold meetS at h; split at h
  · unfold hasS minQ maxQ at *; grind
  · cases h
theorem meet_ninS {a b c : Sp} (hc : okS c) (h : meetS a b = none) : ¬ (inS c a ∧ inS c b) := by
  unfold meetS at h; split at h
  · unfold inS okS minQ maxQ at *; grind
  · cases h
theorem hull_in1 {a b : Sp} (ha : okS a) (hb : okS b) : inS a (hullS a b) ∧ inS b (hullS a b) := by rw [hullS_eq ha hb]; unfold inS minQ maxQ; grind
theorem hull_least {a b c : Sp} (ha : okS a) (hb : okS b) (h : inS a c) (k : inS b c) : inS (hullS a b) c := by rw [hullS_eq ha hb]; unfold inS minQ maxQ at *; grind
theorem hull_is {a b : Sp} (ha : okS a) (hb : okS b) : inS a b ↔ hullS a b = b := by
  rw [hullS_eq ha hb]
  constructor
  · intro h; unfold inS minQ maxQ at *; apply Sp.ext' <;> grind
  · intro h
    have h1 := congrArg Sp.lo h; have h2 := congrArg Sp.hi h
    simp only at h1 h2
    unfold inS minQ maxQ at *; grind
end Go.Proofs.Ytjbfngjlepafgaa
