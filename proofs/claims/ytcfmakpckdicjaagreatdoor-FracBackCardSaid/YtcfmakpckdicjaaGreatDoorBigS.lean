/- Walks: big integers and ints. -/
import Derived.Test.YtcfmakpckdicjaaGreatDoorBigR
namespace Go.Proofs.YtcfmakpckdicjaaGreatDoor
open Go.RowKit
variable {G : Nat}

theorem wraps_u64 (n : Int) (h₀ : 0 ≤ n) (h₁ : n < 2 ^ 64) : IntKind.u64.wrap n = n := by rw [IntKind.wrap_u64]; omega
theorem or_low (i : Nat) {u d : Nat} (hu : u < 2 ^ i) (hd : 2 ^ i * d < 2 ^ 64) (hu64 : u < 2 ^ 64) : bits .or .u64 (u : Int) ((2 ^ i * d : Nat) : Int) = ((2 ^ i * d + u : Nat) : Int) := by
  rw [(bits_nat .u64 64 (by decide) wraps_u64 u (2 ^ i * d) hu64 hd).2, Nat.or_comm, ← Nat.two_pow_add_eq_or_of_lt hu]
/-- What Int answers. -/
def intRes (x : Int) : Value := if -9223372036854775808 ≤ x ∧ x ≤ 9223372036854775807 then .tuple #[.int .i64 x, .bool true] else .tuple #[.int .i64 0, .bool false]
theorem intRes_yes {x : Int} (h : -9223372036854775808 ≤ x ∧ x ≤ 9223372036854775807) : intRes x = .tuple #[.int .i64 x, .bool true] := by rw [intRes, if_pos h]
theorem intRes_no {x : Int} (h : ¬ (-9223372036854775808 ≤ x ∧ x ≤ 9223372036854775807)) : intRes x = .tuple #[.int .i64 0, .bool false] := by rw [intRes, if_neg h]
theorem int_big {x : Int} (h : 4 < ln x) : intRes x = .tuple #[.int .i64 0, .bool false] := by
  refine intRes_no ?_
  have h0 : x.natAbs ≠ 0 := by intro h0; rw [ln, h0] at h; simp [digs_zero] at h
  have h1 := digs_len_ge h0
  have h2 : 1048576 ^ 4 ≤ 1048576 ^ ((digs x.natAbs).length - 1) := Nat.pow_le_pow_right (by omega) (by unfold ln at h; omega)
  have h3 : (1048576 ^ 4 : Nat) = 1208925819614629174706176 := by decide
  omega
theorem int_top {x : Int} {P : Digs} {d : Nat} (hP : P = digs x.natAbs) (h3 : P[3]? = some d) (hd : 8 < d) : intRes x = .tuple #[.int .i64 0, .bool false] := by
  refine intRes_no ?_
  have h1 : val P = x.natAbs := by rw [hP, val_digs]
  obtain ⟨hl, hd3⟩ := List.getElem?_eq_some_iff.1 h3
  have h2 := val_split P 3 (by omega)
  rw [List.drop_eq_getElem_cons hl, val, hd3] at h2
  have h4 : (1048576 ^ 3 : Nat) = 1152921504606846976 := by decide
  rw [h4, Nat.mul_add] at h2
  omega
theorem sg_nonneg {x : Int} (h : 0 ≤ x) : 0 ≤ sg x := by
  rcases Int.lt_trichotomy x 0 with h' | h' | h'
  · omega
  · rw [h']; exact Int.le_refl _
  · rw [sg_pos h']; omega
theorem int_end {x : Int} {P : Digs} {k uv : Nat} (hP : P = digs x.natAbs) (hk : P.length ≤ k) (h : uv = val (P.take k)) : uv = x.natAbs := by
  rw [h, List.take_of_length_le hk, hP, val_digs]

set_option maxHeartbeats 8000000 in
theorem bigInt_long {x : Int} {a1 : Option Addr} {c1 : Nat} {w : World} (h1 : BD G w a1 c1 x) (hx : 4 < ln x) (hX : Sz x 1099511627776) :
    Calls Tryz.prog 95 #[.agg #[.int .i64 (sg x), .slice a1 (ln x) c1]] w fun e w' => e = .returned (intRes x) ∧ Below w.heap.size w w' := by
  have H1 := Lib.hid h1
  have HX := Lib.hid hX
  have HR := Lib.hid (int_big hx)
  clear h1 hX
  go_enter Tryz.func95, Tryz.ntmps95
  go_wp2_with fail
  refine (bigRight_ok (z := x) (H1.out.keep (by go_grown)) HX.out).mono ?_
  rintro e w1 ⟨rfl, hb⟩
  have hbx := bx1 w 24 #[.int .i64 (sg x), .slice a1 (ln x) c1]
  have K0 := Lib.hid (hbx.keep hb)
  have HB : Hid (Below w.heap.size w w1) := below_call (by go_grown) hb
  clear hbx hb
  have p0 : w1.cell? ⟨w.heap.size, 0, none⟩ = some (.int .i64 (sg x)) := K0.out.at.1 0
  have p1 : w1.cell? ⟨w.heap.size, 1, none⟩ = some (.slice a1 (ln x) c1) := K0.out.at.1 1
  have e1 : decide (4 < ln x) = true := by rw [decide_eq_true_eq]; exact hx
  go_wp2_with fail
  go_ret2
  exact ⟨by rw [HR.out]; rfl, HB.out⟩

set_option maxHeartbeats 8000000 in
theorem bigInt_short {x : Int} {a1 : Option Addr} {c1 : Nat} {w : World} (h1 : BD G w a1 c1 x) (hx : ln x ≤ 4) :
    Calls Tryz.prog 95 #[.agg #[.int .i64 (sg x), .slice a1 (ln x) c1]] w fun e w' => e = .returned (intRes x) ∧ Below w.heap.size w w' := by
  have H1 := Lib.hid h1
  have HX : Hid (Sz x 1099511627776) := by show _ ≤ _; unfold ln at hx; omega
  clear h1
  go_enter Tryz.func95, Tryz.ntmps95
  go_wp2_with fail
  refine (bigRight_ok (z := x) (H1.out.keep (by go_grown)) HX.out).mono ?_
  rintro e w1 ⟨rfl, hb⟩
  have hbx := bx1 w 24 #[.int .i64 (sg x), .slice a1 (ln x) c1]
  have K0 := Lib.hid (hbx.keep hb)
  have HB : Hid (Below w.heap.size w w1) := below_call (by go_grown) hb
  clear hbx hb
  have p0 : w1.cell? ⟨w.heap.size, 0, none⟩ = some (.int .i64 (sg x)) := K0.out.at.1 0
  have p1 : w1.cell? ⟨w.heap.size, 1, none⟩ = some (.slice a1 (ln x) c1) := K0.out.at.1 1
  have e1 : decide (4 < ln x) = false := by rw [decide_eq_false_iff_not]; omega
  go_wp2_with fail
  obtain ⟨P, hP⟩ : ∃ P, P = digs x.natAbs := ⟨_, rfl⟩
  have hlP : P.length = ln x := by rw [hP]; rfl
  have sP : small P := by rw [hP]; exact digs_small _
  have HH : Hid (RdN w1 (.slice a1 (ln x) c1) P) := by rw [hP]; exact H1.out.rd.keep HB.out
  have HLP := Lib.hid hlP
  have HPd := Lib.hid hP
  clear hP hlP
  go_loop [4, 19] (fun u i => ∃ k uv : Nat, k ≤ ln x ∧ u = .int .u64 uv ∧ i = .int .i64 k ∧ Hid (uv = val (P.take k))) (fun _ i => ln x - (intOf i).toNat)
  case atStart => exact ⟨0, 0, Nat.zero_le _, rfl, rfl, rfl⟩
  case round =>
    obtain ⟨k, uv, hk, rfl, rfl, HU⟩ := hrel
    by_cases hlt : k < ln x
    · have hkP : k < P.length := by rw [HLP.out]; exact hlt
      obtain ⟨b, off, rfl, hb, hcell⟩ := HH.out.at hkP
      obtain ⟨d, hd⟩ : ∃ d, d = P[k] := ⟨_, rfl⟩
      rw [← hd] at hcell
      have hds : d < 1048576 := by rw [hd]; exact small_get sP k hkP
      have hub : uv < 1048576 ^ k := by
        rw [HU.out]
        have := val_lt (small_take sP k)
        rwa [List.length_take, Nat.min_eq_left (by omega)] at this
      have HN : Hid (val (P.take (k + 1)) = uv + 1048576 ^ k * d) := by show _ = _; rw [val_take_succ P k hkP, ← hd, HU.out]
      have HDd : Hid (P[k]? = some d) := by show _ = _; rw [List.getElem?_eq_getElem hkP, hd]
      clear hd
      match k, hk, hlt, hcell, hub, HN, HU, HDd with
      | 0, hk, hlt, hcell, hub, HN, HU, HDd =>
        rw [Nat.add_zero] at hcell
        obtain rfl : uv = 0 := by omega
        have hor : bits .or .u64 0 (d : Int) = (d : Int) := by have := or_low 0 (u := 0) (d := d) (by omega) (by omega) (by omega); simpa using this
        have HN2 : Hid (d = val (P.take 1)) := by show _ = _; have := HN.out; simp at this; simpa using this.symm
        go_wp2_with fail
        go_round
        case rel => exact ⟨1, d, by omega, rfl, rfl, HN2⟩
        case measure => simp [intOf]; omega
      | 1, hk, hlt, hcell, hub, HN, HU, HDd =>
        have hub2 : uv < 1048576 := hub
        obtain ⟨n, hn⟩ : ∃ n, n = uv + 1048576 * d := ⟨_, rfl⟩
        have hor : bits .or .u64 (uv : Int) ((d : Int) * 1048576) = (n : Int) := by
          have := or_low 20 (u := uv) (d := d) (by omega) (by omega) (by omega)
          rw [show ((d : Int) * 1048576) = ((2 ^ 20 * d : Nat) : Int) by omega, this, hn]; omega
        have HN2 : Hid (n = val (P.take 2)) := by show _ = _; rw [hn]; exact HN.out.symm
        clear hub hn
        go_wp2_with fail
        go_round
        case rel => exact ⟨2, n, by omega, rfl, rfl, HN2⟩
        case measure => simp [intOf]; omega
      | 2, hk, hlt, hcell, hub, HN, HU, HDd =>
        have hub2 : uv < 1099511627776 := hub
        obtain ⟨n, hn⟩ : ∃ n, n = uv + 1099511627776 * d := ⟨_, rfl⟩
        have hor : bits .or .u64 (uv : Int) ((d : Int) * 1099511627776) = (n : Int) := by
          have := or_low 40 (u := uv) (d := d) (by omega) (by omega) (by omega)
          rw [show ((d : Int) * 1099511627776) = ((2 ^ 40 * d : Nat) : Int) by omega, this, hn]; omega
        have HN2 : Hid (n = val (P.take 3)) := by show _ = _; rw [hn]; exact HN.out.symm
        clear hub hn
        go_wp2_with fail
        go_round
        case rel => exact ⟨3, n, by omega, rfl, rfl, HN2⟩
        case measure => simp [intOf]; omega
      | 3, hk, hlt, hcell, hub, HN, HU, HDd =>
        by_cases h8 : 8 < d
        · have HR := Lib.hid (int_top HPd.out HDd.out h8)
          have e2 : decide (8 < d) = true := by rw [decide_eq_true_eq]; exact h8
          have e3 : decide ((8 : Int) < (d : Int)) = true := by rw [decide_eq_true_eq]; omega
          clear hub h8
          go_wp2_with fail
          go_ret2
          exact ⟨by rw [HR.out]; rfl, HB.out⟩
        · have e2 : decide (8 < d) = false := by rw [decide_eq_false_iff_not]; exact h8
          have e3 : decide ((8 : Int) < (d : Int)) = false := by rw [decide_eq_false_iff_not]; omega
          have hub2 : uv < 1152921504606846976 := hub
          obtain ⟨n, hn⟩ : ∃ n, n = uv + 1152921504606846976 * d := ⟨_, rfl⟩
          have hw : IntKind.u64.wrap ((d : Int) * 1152921504606846976) = (d : Int) * 1152921504606846976 := wraps_u64 _ (by omega) (by omega)
          have hor : bits .or .u64 (uv : Int) ((d : Int) * 1152921504606846976) = (n : Int) := by
            have := or_low 60 (u := uv) (d := d) (by omega) (by omega) (by omega)
            rw [show ((d : Int) * 1152921504606846976) = ((2 ^ 60 * d : Nat) : Int) by omega, this, hn]; omega
          have HN2 : Hid (n = val (P.take 4)) := by show _ = _; rw [hn]; exact HN.out.symm
          clear hub hn h8
          go_wp2_with fail
          go_round
          case rel => exact ⟨4, n, by omega, rfl, rfl, HN2⟩
          case measure => simp [intOf]; omega
      | k + 4, hk, hlt, hcell, hub, HN, HU, HDd => omega
    · have hend : uv = x.natAbs := int_end HPd.out (by rw [HLP.out]; omega) HU.out
      clear hk
      by_cases hs : x < 0
      · have es : decide (sg x < 0) = true := by rw [sg_neg hs]; rfl
        have es2 : decide (0 ≤ sg x) = false := by rw [sg_neg hs]; rfl
        by_cases hu : uv ≤ 9223372036854775808
        · have HR := Lib.hid (intRes_yes (x := x) (by omega))
          have eu : decide (uv ≤ 9223372036854775808) = true := by rw [decide_eq_true_eq]; exact hu
          have eu2 : decide ((uv : Int) ≤ 9223372036854775808) = true := by rw [decide_eq_true_eq]; omega
          have HF : Hid (wrap64 (IntKind.u64.wrap (-(uv : Int))) = x) := by show _ = _; rw [IntKind.wrap_u64]; simp only [wrap64]; omega
          clear hs hu hend
          go_wp2_with fail
          go_ret2
          exact ⟨by rw [HR.out]; exact congrArg (fun z => Ending.returned (.tuple #[.int .i64 z, .bool true])) HF.out, HB.out⟩
        · have HR := Lib.hid (intRes_no (x := x) (by omega))
          have eu : decide (uv ≤ 9223372036854775808) = false := by rw [decide_eq_false_iff_not]; exact hu
          have eu2 : decide ((uv : Int) ≤ 9223372036854775808) = false := by rw [decide_eq_false_iff_not]; omega
          clear hs hu hend
          go_wp2_with fail
          go_ret2
          exact ⟨by rw [HR.out]; rfl, HB.out⟩
      · have es : decide (sg x < 0) = false := by rw [decide_eq_false_iff_not]; have := sg_nonneg (x := x) (by omega); omega
        have es2 : decide (0 ≤ sg x) = true := by rw [decide_eq_true_eq]; exact sg_nonneg (x := x) (by omega)
        by_cases hu : uv < 9223372036854775808
        · have HR := Lib.hid (intRes_yes (x := x) (by omega))
          have eu : decide (uv < 9223372036854775808) = true := by rw [decide_eq_true_eq]; exact hu
          have eu2 : decide ((uv : Int) < 9223372036854775808) = true := by rw [decide_eq_true_eq]; omega
          have HF : Hid (wrap64 (uv : Int) = x) := by show _ = _; simp only [wrap64]; omega
          clear hs hu hend
          go_wp2_with fail
          go_ret2
          exact ⟨by rw [HR.out]; exact congrArg (fun z => Ending.returned (.tuple #[.int .i64 z, .bool true])) HF.out, HB.out⟩
        · have HR := Lib.hid (intRes_no (x := x) (by omega))
          have eu : decide (uv < 9223372036854775808) = false := by rw [decide_eq_false_iff_not]; exact hu
          have eu2 : decide ((uv : Int) < 9223372036854775808) = false := by rw [decide_eq_false_iff_not]; omega
          clear hs hu hend
          go_wp2_with fail
          go_ret2
          exact ⟨by rw [HR.out]; rfl, HB.out⟩

theorem bigInt_ok {x : Int} {a1 : Option Addr} {c1 : Nat} {w : World} (h1 : BD G w a1 c1 x) (hX : Sz x 1099511627776) :
    Calls Tryz.prog 95 #[.agg #[.int .i64 (sg x), .slice a1 (ln x) c1]] w fun e w' => e = .returned (intRes x) ∧ Below w.heap.size w w' := by
  by_cases h : ln x ≤ 4
  · exact bigInt_short h1 h
  · exact bigInt_long h1 (by omega) hX
end Go.Proofs.YtcfmakpckdicjaaGreatDoor
namespace Go.Proofs.YtcfmakpckdicjaaGreatDoor
open Go.RowKit
variable {G : Nat}

theorem mask_u64 (i : Nat) (hi : i ≤ 64) (n : Int) (h0 : 0 ≤ n) (h1 : n < 2 ^ 64) : bits .and .u64 n (2 ^ i - 1) = n % 2 ^ i := bits_mask .u64 64 (by decide) wraps_u64 i hi n h0 h1
theorem val_snoc_digs (l : Digs) (d m : Nat) : val (l ++ [d]) + 1048576 ^ (l ++ [d]).length * m = val l + 1048576 ^ l.length * (d + 1048576 * m) := by
  rw [val_snoc, List.length_append, List.length_singleton, Nat.pow_succ]; grind

theorem of_room {n u : Nat} {l : Digs} (hn : n ≤ 9223372036854775808) (h : val l + 1048576 ^ l.length * u = n) (hu : u ≠ 0) : l.length < 4 := by
  rcases Nat.lt_or_ge l.length 4 with h1 | h1
  · exact h1
  · exfalso
    have h2 : 1048576 ^ 4 ≤ 1048576 ^ l.length := Nat.pow_le_pow_right (by omega) h1
    have h3 : (1048576 ^ 4 : Nat) = 1208925819614629174706176 := by decide
    have h4 := Nat.le_mul_of_pos_right (1048576 ^ l.length) (Nat.pos_of_ne_zero hu)
    omega

set_option maxHeartbeats 8000000 in
theorem bigOf_ok (x : Int) (w : World) (hx : -9223372036854775808 ≤ x ∧ x ≤ 9223372036854775807) :
    Calls Tryz.prog 48 #[.int .i64 x] w fun e w' => ∃ a c, e = .returned (.agg #[.int .i64 (sg x), .slice a (ln x) c]) ∧ BD G w' a c x ∧ Below w.heap.size w w' := by
  obtain ⟨n, hn⟩ : ∃ n, n = x.natAbs := ⟨_, rfl⟩
  have hnb : n ≤ 9223372036854775808 := by omega
  by_cases hs : x < 0
  · have hw : IntKind.u64.wrap (-(IntKind.u64.wrap x)) = (n : Int) := by rw [IntKind.wrap_u64, IntKind.wrap_u64]; omega
    have e1 : decide (x < 0) = true := by rw [decide_eq_true_eq]; exact hs
    have HNX := Lib.hid hn
    have HX := Lib.hid hs
    clear hn hs
    go_enter Tryz.func48, Tryz.ntmps48
    go_wp2_with fail
    obtain ⟨w0, hw0⟩ : ∃ w0, w0 = w.alloc (.cells #[.int .i64 0, .slice none 0 0] 24) := ⟨_, rfl⟩
    rw [← hw0]
    have K0 : Hid (Bx w0 w.heap.size 24 #[.int .i64 0, .slice none 0 0]) := by rw [hw0]; exact bx1 w _ _
    have HB0 : Hid (Below w.heap.size w w0) := by rw [hw0]; exact below_alloc _ _
    clear hw0
    go_loopw [5, 4] (fun v i wr => ∃ (l : Digs) (u : Nat), u ≤ n ∧ l.length ≤ 4 ∧ i = .int .u64 u ∧ Hid (small l) ∧ Hid (val l + 1048576 ^ l.length * u = n) ∧ Hid (OwnN wr w0.heap.size v l) ∧ Hid (Below w0.heap.size w0 wr)) (fun _ i _ => (intOf i).toNat)
    case atStart => exact ⟨[], n, Nat.le_refl _, by simp, rfl, small_nil, by show _ = _; simp [val], ownN_nil _ _, Below.refl _ _⟩
    case round =>
      obtain ⟨l, u, hu, hll, rfl, HS, HE, HO, HB⟩ := hrel
      have hl4 : u ≠ 0 → l.length < 4 := fun h => of_room hnb HE.out h
      by_cases h0 : u = 0
      · have e2 : decide (0 < u) = false := by rw [h0]; rfl
        have e3 : decide ((0 : Int) < (u : Int)) = false := by rw [h0]; rfl
        have HV : Hid (val l = n) := by show _ = _; have := HE.out; rw [h0, Nat.mul_zero] at this; omega
        have HL : Hid (l.length ≤ 8796093022208) := by show _ ≤ _; omega
        clear h0 hl4
        go_wp2_with fail
        refine (signed_any (G := G) w0.heap.size (-1) u5 l _ HO.out HS.out HL.out (fun _ => .inr rfl)).mono ?_
        rintro e w2 ⟨r, rfl, hr, hb⟩
        have HZ : Hid ((-1) * (val l : Int) = x) := by show _ = _; rw [HV.out, HNX.out]; have := HX.out; omega
        rw [HZ.out] at hr
        obtain ⟨a, c, rfl, hd⟩ := hr
        have K2 := Lib.hid ((K0.out.keep HB.out).keep hb)
        have HB2 := Lib.hid (below_call HB0.out (below_call HB.out hb))
        have HD := Lib.hid hd
        clear hb hd
        obtain ⟨p0, q0⟩ := K2.out.at
        go_wp2_with fail
        refine bodyPost_ret (results_box1 rfl _ _ w.heap.size 24 _ _ _ rfl (K2.out.set2 _ _) Tryz.underlying24 rfl (by kernel_rfl)) rfl ⟨a, c, rfl, ?_, ?_⟩
        · exact HD.out.far0 K2.out zb2 (only_setCell (only_setCell (World.grownBy.refl _ _) _) _)
        · exact (HB2.out.setCell (Nat.le_refl _) _).setCell (Nat.le_refl _) _
      · have hl3 := hl4 h0
        have e2 : decide (0 < u) = true := by rw [decide_eq_true_eq]; omega
        have e3 : decide ((0 : Int) < (u : Int)) = true := by rw [decide_eq_true_eq]; omega
        obtain ⟨d, hd⟩ : ∃ d, d = u % 1048576 := ⟨_, rfl⟩
        obtain ⟨m, hm⟩ : ∃ m, m = u / 1048576 := ⟨_, rfl⟩
        have hds : d < 1048576 := by omega
        have hmask : bits .and .u64 (u : Int) 1048575 = (d : Int) := by have := mask_u64 20 (by omega) (u : Int) (by omega) (by omega); simp at this; rw [this]; omega
        have hdiv : (u : Int) / 1048576 = (m : Int) := by omega
        have hmu : m < u := by omega
        have HE2 : Hid (val (l ++ [d]) + 1048576 ^ (l ++ [d]).length * m = n) := by show _ = _; rw [val_snoc_digs, show d + 1048576 * m = u by omega]; exact HE.out
        have HA : Hid (OwnN (wr.alloc (.cells #[.int .i64 (d : Int)] 3)) w0.heap.size u5 l) := HO.out.keep (below_alloc _ _)
        have HL1 : Hid (RdN (wr.alloc (.cells #[.int .i64 (d : Int)] 3)) (.slice (some ⟨wr.heap.size, 0, none⟩) 1 1) [d]) := (own_lit1 wr wr.heap.size d (Nat.le_refl _)).rd
        have hsz : w0.heap.size ≤ wr.heap.size := HB.out.size
        clear hd hm h0 hl4
        go_wp2_with (at_builtin; go_must (refine wpList_appendN rfl _ _ rfl (wr.alloc (.cells #[.int .i64 (d : Int)] 3)) w0.heap.size u5 l rfl HA.out ⟨wr.heap.size, 0, none⟩ 1 1 [d] rfl rfl HL1.out (by simp; omega) (by simp; omega) ?_; intro v' w1 ho hg hb))
        have HO2 := Lib.hid ho
        have HB2 : Hid (Below w0.heap.size w0 w1) := (HB.out.alloc hsz _).trans hb
        clear ho hg hb
        go_roundw
        case rel => exact ⟨l ++ [d], m, by omega, by simp; omega, rfl, small_append HS.out (small_one hds), HE2, HO2.out, HB2.out⟩
        case measure => simp [intOf]; omega
  · have hw : IntKind.u64.wrap x = (n : Int) := by rw [IntKind.wrap_u64]; omega
    have e1 : decide (x < 0) = false := by rw [decide_eq_false_iff_not]; exact hs
    have HNX := Lib.hid hn
    have HX := Lib.hid hs
    clear hn hs
    go_enter Tryz.func48, Tryz.ntmps48
    go_wp2_with fail
    obtain ⟨w0, hw0⟩ : ∃ w0, w0 = w.alloc (.cells #[.int .i64 0, .slice none 0 0] 24) := ⟨_, rfl⟩
    rw [← hw0]
    have K0 : Hid (Bx w0 w.heap.size 24 #[.int .i64 0, .slice none 0 0]) := by rw [hw0]; exact bx1 w _ _
    have HB0 : Hid (Below w.heap.size w w0) := by rw [hw0]; exact below_alloc _ _
    clear hw0
    go_loopw [5, 4] (fun v i wr => ∃ (l : Digs) (u : Nat), u ≤ n ∧ l.length ≤ 4 ∧ i = .int .u64 u ∧ Hid (small l) ∧ Hid (val l + 1048576 ^ l.length * u = n) ∧ Hid (OwnN wr w0.heap.size v l) ∧ Hid (Below w0.heap.size w0 wr)) (fun _ i _ => (intOf i).toNat)
    case atStart => exact ⟨[], n, Nat.le_refl _, by simp, rfl, small_nil, by show _ = _; simp [val], ownN_nil _ _, Below.refl _ _⟩
    case round =>
      obtain ⟨l, u, hu, hll, rfl, HS, HE, HO, HB⟩ := hrel
      have hl4 : u ≠ 0 → l.length < 4 := fun h => of_room hnb HE.out h
      by_cases h0 : u = 0
      · have e2 : decide (0 < u) = false := by rw [h0]; rfl
        have e3 : decide ((0 : Int) < (u : Int)) = false := by rw [h0]; rfl
        have HV : Hid (val l = n) := by show _ = _; have := HE.out; rw [h0, Nat.mul_zero] at this; omega
        have HL : Hid (l.length ≤ 8796093022208) := by show _ ≤ _; omega
        clear h0 hl4
        go_wp2_with fail
        refine (signed_any (G := G) w0.heap.size 1 u5 l _ HO.out HS.out HL.out (fun _ => .inl rfl)).mono ?_
        rintro e w2 ⟨r, rfl, hr, hb⟩
        have HZ : Hid (1 * (val l : Int) = x) := by show _ = _; rw [HV.out, HNX.out]; have := HX.out; omega
        rw [HZ.out] at hr
        obtain ⟨a, c, rfl, hd⟩ := hr
        have K2 := Lib.hid ((K0.out.keep HB.out).keep hb)
        have HB2 := Lib.hid (below_call HB0.out (below_call HB.out hb))
        have HD := Lib.hid hd
        clear hb hd
        obtain ⟨p0, q0⟩ := K2.out.at
        go_wp2_with fail
        refine bodyPost_ret (results_box1 rfl _ _ w.heap.size 24 _ _ _ rfl (K2.out.set2 _ _) Tryz.underlying24 rfl (by kernel_rfl)) rfl ⟨a, c, rfl, ?_, ?_⟩
        · exact HD.out.far0 K2.out zb2 (only_setCell (only_setCell (World.grownBy.refl _ _) _) _)
        · exact (HB2.out.setCell (Nat.le_refl _) _).setCell (Nat.le_refl _) _
      · have hl3 := hl4 h0
        have e2 : decide (0 < u) = true := by rw [decide_eq_true_eq]; omega
        have e3 : decide ((0 : Int) < (u : Int)) = true := by rw [decide_eq_true_eq]; omega
        obtain ⟨d, hd⟩ : ∃ d, d = u % 1048576 := ⟨_, rfl⟩
        obtain ⟨m, hm⟩ : ∃ m, m = u / 1048576 := ⟨_, rfl⟩
        have hds : d < 1048576 := by omega
        have hmask : bits .and .u64 (u : Int) 1048575 = (d : Int) := by have := mask_u64 20 (by omega) (u : Int) (by omega) (by omega); simp at this; rw [this]; omega
        have hdiv : (u : Int) / 1048576 = (m : Int) := by omega
        have hmu : m < u := by omega
        have HE2 : Hid (val (l ++ [d]) + 1048576 ^ (l ++ [d]).length * m = n) := by show _ = _; rw [val_snoc_digs, show d + 1048576 * m = u by omega]; exact HE.out
        have HA : Hid (OwnN (wr.alloc (.cells #[.int .i64 (d : Int)] 3)) w0.heap.size u5 l) := HO.out.keep (below_alloc _ _)
        have HL1 : Hid (RdN (wr.alloc (.cells #[.int .i64 (d : Int)] 3)) (.slice (some ⟨wr.heap.size, 0, none⟩) 1 1) [d]) := (own_lit1 wr wr.heap.size d (Nat.le_refl _)).rd
        have hsz : w0.heap.size ≤ wr.heap.size := HB.out.size
        clear hd hm h0 hl4
        go_wp2_with (at_builtin; go_must (refine wpList_appendN rfl _ _ rfl (wr.alloc (.cells #[.int .i64 (d : Int)] 3)) w0.heap.size u5 l rfl HA.out ⟨wr.heap.size, 0, none⟩ 1 1 [d] rfl rfl HL1.out (by simp; omega) (by simp; omega) ?_; intro v' w1 ho hg hb))
        have HO2 := Lib.hid ho
        have HB2 : Hid (Below w0.heap.size w0 w1) := (HB.out.alloc hsz _).trans hb
        clear ho hg hb
        go_roundw
        case rel => exact ⟨l ++ [d], m, by omega, by simp; omega, rfl, small_append HS.out (small_one hds), HE2, HO2.out, HB2.out⟩
        case measure => simp [intOf]; omega
end Go.Proofs.YtcfmakpckdicjaaGreatDoor
