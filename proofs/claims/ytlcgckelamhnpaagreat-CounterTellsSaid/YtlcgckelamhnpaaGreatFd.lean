/- Two integers in memory that are a fraction's parts. -/
import Derived.Test.YtlcgckelamhnpaaGreatBigQ
import Derived.Deep.LoopGhost
set_option maxRecDepth 100000
set_option maxHeartbeats 8000000
namespace Go.Proofs.YtlcgckelamhnpaaGreat
open Go.RowKit
variable {G : Nat}
theorem bigdiv_nat {m n : Nat} {a1 a2 : Option Addr} {c1 c2 : Nat} {w : World} (h1 : RdN w (.slice a1 (lnN m) c1) (digs m)) (h2 : RdN w (.slice a2 (lnN n) c2) (digs n)) (hm : lnN m ≤ 549755813888) (hn : lnN n ≤ 549755813888) (h0 : n ≠ 0) {q r : Nat} (hq : m / n = q) (hr : m % n = r) :
 Calls Tryz.prog 103 #[.slice a1 (lnN m) c1, .slice a2 (lnN n) c2] w fun e w' => ∃ a c b d, e = .returned (.tuple #[.slice a (lnN q) c, .slice b (lnN r) d]) ∧ OwnN w' w.heap.size (.slice a (lnN q) c) (digs q) ∧ OwnN w' w.heap.size (.slice b (lnN r) d) (digs r) ∧ Below w.heap.size w w' :=
 (bigDiv_any _ _ _ _ w h1 h2 (by omega) (by unfold lnN at hm; omega) (by unfold lnN at hn; omega)).mono fun e w' ⟨v, r', he, h3, h4, hb⟩ => by
  rw [hq] at h3; rw [hr] at h4; obtain ⟨a, c, rfl⟩ := h3.slice; obtain ⟨b, d, rfl⟩ := h4.slice; exact ⟨a, c, b, d, he, h3, h4, hb⟩
theorem clone_is {n : Nat} {a : Option Addr} {c : Nat} {w : World} (h : RdN w (.slice a (lnN n) c) (digs n)) (hn : lnN n ≤ 549755813888) :
 Calls Tryz.prog 70 #[.slice a (lnN n) c] w fun e w' => ∃ b d, e = .returned (.slice b (lnN n) d) ∧ OwnN w' w.heap.size (.slice b (lnN n) d) (digs n) ∧ Below w.heap.size w w' :=
 (clone_any _ _ w h (by unfold lnN at hn; omega)).mono fun e w' ⟨v, he, ho, hb⟩ => by
  obtain ⟨b, d, rfl⟩ := ho.slice; exact ⟨b, d, he, ho, hb⟩
theorem ln_eq (x : Int) : ln x = lnN x.natAbs := rfl
theorem bigGcd_ok {x y : Int} {a1 a2 : Option Addr} {c1 c2 : Nat} {w : World} (h1 : BD G w a1 c1 x) (h2 : BD G w a2 c2 y) (hx : Sz x 549755813888) (hy : Sz y 549755813888) :
 Calls Tryz.prog 68 #[.agg #[.int .i64 (sg x), .slice a1 (ln x) c1], .agg #[.int .i64 (sg y), .slice a2 (ln y) c2]] w fun e w' => ∃ a c, e = .returned (.tuple #[.agg #[.int .i64 (sg (Nat.gcd x.natAbs y.natAbs)), .slice a (ln (Nat.gcd x.natAbs y.natAbs)) c], .int .i64 0]) ∧ BD G w' a c (Nat.gcd x.natAbs y.natAbs) ∧ Below w.heap.size w w' := by
 have HX := hI hx; have HY := hI hy; have H1 := hI h1; have H2 := hI h2; clear hx hy h1 h2
 go_enter Tryz.func68, Tryz.ntmps68
 go_wp2_with fail
 refine (bigRight_ok (z := x) (H1.out.keep (by go_grown)) (HX.out.mono (by omega))).mono ?_; rintro e w1 ⟨rfl, hb⟩; refine kp3W hb fun K0 K1 K2 => ?_; have hb' : Below w.heap.size w w1 := below_call (by go_grown) hb; have HB := hI hb'; replace H1 := kdW H1 hb'; replace H2 := kdW H2 hb'; clear hb hb'; refine K0.out.w2 fun aa ab ac ad z0 => ?_; refine K1.out.w2 fun ae af ag ah z1 => ?_; refine K2.out.w2 fun ai aj ak al z2 => ?_; go_wp2_with fail
 refine (bigRight_ok (z := y) (H2.out.keep (by go_grown)) (HY.out.mono (by omega))).mono ?_; rintro e w2 ⟨rfl, hb⟩; clear aa ab ac ad z0 ae af ag ah z1 ai aj ak al z2; have hb' := below_call (w1 := w1) (by go_grown) hb; replace K0 := kbW K0 hb'; replace K1 := kbW K1 hb'; replace K2 := kbW K2 hb'; replace HB := hI (below_call HB.out hb'); replace H1 := kdW H1 hb'; replace H2 := kdW H2 hb'; clear hb hb'; refine K0.out.w2 fun aa ab ac ad z0 => ?_; refine K1.out.w2 fun ae af ag ah z1 => ?_; refine K2.out.w2 fun ai aj ak al z2 => ?_; go_wp2_with fail
 clear aa ab ac ad z0 ae af ag ah z1 ai aj ak al z2; have mk := Lib.hid fun w' (h : Below w2.heap.size w2 w') => (K0.out.keep h).t2 ((K1.out.keep h).t2 h)
 have hs0 : Below w2.heap.size w2 w2.drew := (Below.refl _ _).drew; have HS0 : Hid (Below w2.heap.size w2 w2.drew) := (Below.refl _ _).drew; have tok0 : True := trivial
 go_region_held3 (fun w' => w'.cell? ⟨w.heap.size, 0, none⟩ = some (.int .i64 (sg x)) ∧ w'.cell? ⟨w.heap.size, 1, none⟩ = some (.slice a1 (ln x) c1) ∧ w'.cell? ⟨w.heap.size + 1, 0, none⟩ = some (.int .i64 (sg y)) ∧ w'.cell? ⟨w.heap.size + 1, 1, none⟩ = some (.slice a2 (ln y) c2) ∧ Below w2.heap.size w2 w')
   (first | exact mk.out _ (by assumption) | exact mk.out _ (Below.alloc (by assumption) (Below.size (by assumption)) _))
   (first
     | (go_at_call 70; have _t := tok0; refine (clone_is (n := x.natAbs) (H1.out.keep HS0.out).rd HX.out).mono ?_; rintro e w3 ⟨a3, c3, rfl, ho3, hb⟩; clear tok0 _t; have hs1 := below_call hs0 hb; have HS1 := hI (below_call HS0.out hb); clear hb; have Ho3 := hI ho3; clear ho3))
 replace K0 := kbW K0 HS1.out; replace K1 := kbW K1 HS1.out; replace K2 := kbW K2 HS1.out; replace HB := hI (below_call HB.out HS1.out); replace H1 := kdW H1 HS1.out; replace H2 := kdW H2 HS1.out; clear mk hs0 HS0 hs1 HS1; refine K0.out.w2 fun aa ab ac ad z0 => ?_; refine K1.out.w2 fun ae af ag ah z1 => ?_; refine K2.out.w2 fun ai aj ak al z2 => ?_; go_wp2_with fail
 clear aa ab ac ad z0 ae af ag ah z1 ai aj ak al z2; rw [ln_eq y]; go_loopg [6, 7] y.natAbs (fun k v6 v7 wr => ∃ (m : Nat) (ax : Option Addr) (cx : Nat) (ay : Option Addr) (cy : Nat), v6 = .slice ax (lnN m) cx ∧ v7 = .slice ay (lnN k) cy ∧ Hid (Nat.gcd m k = Nat.gcd x.natAbs y.natAbs) ∧ Hid (RdN wr (.slice ax (lnN m) cx) (digs m)) ∧ Hid (RdN wr (.slice ay (lnN k) cy) (digs k)) ∧ Hid (lnN m ≤ 549755813888 ∧ lnN k ≤ 549755813888) ∧ Hid (Below w3.heap.size w3 wr))
 case atStart => exact ⟨x.natAbs, _, _, _, _, rfl, rfl, rfl, Ho3.out.rd, H2.out.rd, ⟨HX.out, HY.out⟩, Below.refl _ _⟩
 case round =>
  obtain ⟨m, ax, cx, ay, cy, rfl, rfl, HG, HA, HC, HL, HW⟩ := hrel
  by_cases h0 : gk = 0
  · have e1 : decide (0 < lnN gk) = false := by rw [h0]; rfl
    have HM : Hid (m = Nat.gcd x.natAbs y.natAbs) := by show _ = _; rw [← HG.out, h0, Nat.gcd_zero_right]
    clear h0; go_wp2_with fail
    replace K0 := kbW K0 HW.out; replace K1 := kbW K1 HW.out; replace K2 := kbW K2 HW.out; replace HB := hI (below_call HB.out HW.out); refine K0.out.w2 fun aa ab ac ad z0 => ?_; refine K1.out.w2 fun ae af ag ah z1 => ?_; refine K2.out.w2 fun ai aj ak al z2 => ?_; refine (clone_is (n := m) (HA.out.keep (by go_grown)) HL.out.1).mono ?_; rintro e w4 ⟨a5, c5, rfl, ho5, hb⟩; clear aa ab ac ad z0 ae af ag ah z1 ai aj ak al z2; have hb' := below_call (w1 := wr) (by go_grown) hb; replace K0 := kbW K0 hb'; replace K1 := kbW K1 hb'; replace K2 := kbW K2 hb'; replace HB := hI (below_call HB.out hb'); replace HA := hI (HA.out.keep hb'); clear hb hb'; have Ho5 := hI ho5; clear ho5; refine K0.out.w2 fun aa ab ac ad z0 => ?_; refine K1.out.w2 fun ae af ag ah z1 => ?_; refine K2.out.w2 fun ai aj ak al z2 => ?_; go_wp2_with fail
    refine (signed_is (G := G) (z := (m : Int)) (n := m) (Ho5.out.keep (by go_grown)) (by have := HL.out.1; unfold lnN at this; omega) (Int.one_mul _) (fun _ => .inl rfl)).mono ?_; rintro e w5 ⟨a6, c6, rfl, hd6, hb⟩; clear aa ab ac ad z0 ae af ag ah z1 ai aj ak al z2; have hb' := below_call (w1 := w4) (by go_grown) hb; replace K0 := kbW K0 hb'; replace K1 := kbW K1 hb'; replace K2 := kbW K2 hb'; replace HB := hI (below_call HB.out hb'); replace HA := hI (HA.out.keep hb'); replace Ho5 := hI (Ho5.out.keep hb'); clear hb hb'; have Hd6 := hI hd6; clear hd6; refine K0.out.w2 fun aa ab ac ad z0 => ?_; refine K1.out.w2 fun ae af ag ah z1 => ?_; refine K2.out.w2 fun ai aj ak al z2 => ?_; go_wp2_with fail
    refine (checked_yes _).mono ?_; rintro e w6 ⟨rfl, hb⟩; clear aa ab ac ad z0 ae af ag ah z1 ai aj ak al z2; have hb' := below_call (w1 := w5) (by go_grown) hb; replace K0 := kbW K0 hb'; replace K1 := kbW K1 hb'; replace K2 := kbW K2 hb'; replace HB := hI (below_call HB.out hb'); replace HA := hI (HA.out.keep hb'); replace Ho5 := hI (Ho5.out.keep hb'); replace Hd6 := hI (Hd6.out.keep hb'); clear hb hb'; refine K0.out.w2 fun aa ab ac ad z0 => ?_; refine K1.out.w2 fun ae af ag ah z1 => ?_; refine K2.out.w2 fun ai aj ak al z2 => ?_; go_wp2_with fail
    refine bodyPost_ret (results_box2 rfl _ _ (w.heap.size + 1 + 1) 34 _ _ _ rfl (K2.out.set2 _ _) Tryz.underlying34 rfl (by kernel_rfl)) rfl ?_; rw [← HM.out]; refine ⟨a6, c6, rfl, ?_, ?_⟩
    · exact Hd6.out.far0 K2.out zb2 (only_setCell (only_setCell (World.grownBy.refl _ _) _) _)
    · exact (HB.out.setCell (by simp; omega) _).setCell (by simp; omega) _
  · have hp := lnN_pos h0
    have e1 : decide (0 < lnN gk) = true := by rw [decide_eq_true_eq]; exact hp
    have HH := hI h0; clear h0 hp; go_wp2_with fail
    refine (bigdiv_nat (q := m / gk) (r := m % gk) HA.out HC.out HL.out.1 HL.out.2 HH.out rfl rfl).mono ?_; rintro e w4 ⟨aq, cq, ar, cr, rfl, hq4, hr4, hb⟩; have HR4 := hI hr4; have HB4 := hI hb; clear hq4 hr4 hb; go_wp2_with fail
    go_roundg (m % gk)
    case measure => exact Nat.mod_lt _ (Nat.pos_of_ne_zero HH.out)
    case rel => exact ⟨gk, _, _, _, _, rfl, rfl, by show _ = _; rw [← HG.out, Nat.gcd_comm m gk, Nat.gcd_rec gk m, Nat.gcd_comm], HC.out.keep HB4.out, HR4.out.rd, ⟨HL.out.2, Nat.le_trans (digs_len_mono (Nat.mod_le _ _)) HL.out.1⟩, below_call HW.out HB4.out⟩
theorem wraps_u64 (n : Int) (h₀ : 0 ≤ n) (h₁ : n < 2 ^ 64) : IntKind.u64.wrap n = n := by rw [IntKind.wrap_u64]; omega
theorem or_low (i : Nat) {u d : Nat} (hu : u < 2 ^ i) (hd : 2 ^ i * d < 2 ^ 64) (hu64 : u < 2 ^ 64) : bits .or .u64 (u : Int) ((2 ^ i * d : Nat) : Int) = ((2 ^ i * d + u : Nat) : Int) := by
 rw [(bits_nat .u64 64 (by decide) wraps_u64 u (2 ^ i * d) hu64 hd).2, Nat.or_comm, ← Nat.two_pow_add_eq_or_of_lt hu]
def intRes (x : Int) : Value := if -9223372036854775808 ≤ x ∧ x ≤ 9223372036854775807 then .tuple #[.int .i64 x, .bool true] else .tuple #[.int .i64 0, .bool false]
theorem intRes_yes {x : Int} (h : -9223372036854775808 ≤ x ∧ x ≤ 9223372036854775807) : intRes x = .tuple #[.int .i64 x, .bool true] := by rw [intRes, if_pos h]
theorem intRes_no {x : Int} (h : ¬ (-9223372036854775808 ≤ x ∧ x ≤ 9223372036854775807)) : intRes x = .tuple #[.int .i64 0, .bool false] := by rw [intRes, if_neg h]
theorem int_big {x : Int} (h : 4 < ln x) : intRes x = .tuple #[.int .i64 0, .bool false] := by
 refine intRes_no ?_; have h0 : x.natAbs ≠ 0 := by intro h0; rw [ln, h0] at h; simp [digs_zero] at h
 have h1 := digs_len_ge h0; have h2 : 1048576 ^ 4 ≤ 1048576 ^ ((digs x.natAbs).length - 1) := Nat.pow_le_pow_right (by omega) (by unfold ln at h; omega); have h3 : (1048576 ^ 4 : Nat) = 1208925819614629174706176 := by decide
 omega
theorem int_top {x : Int} {P : Digs} {d : Nat} (hP : P = digs x.natAbs) (h3 : P[3]? = some d) (hd : 8 < d) : intRes x = .tuple #[.int .i64 0, .bool false] := by
 refine intRes_no ?_; have h1 : val P = x.natAbs := by rw [hP, val_digs]
 obtain ⟨hl, hd3⟩ := List.getElem?_eq_some_iff.1 h3; have h2 := val_split P 3 (by omega); rw [List.drop_eq_getElem_cons hl, val, hd3] at h2; have h4 : (1048576 ^ 3 : Nat) = 1152921504606846976 := by decide
 rw [h4, Nat.mul_add] at h2
 omega
theorem sg_nonneg {x : Int} (h : 0 ≤ x) : 0 ≤ sg x := by
 rcases Int.lt_trichotomy x 0 with h' | h' | h'
 · omega
 · rw [h']; exact Int.le_refl _
 · rw [sg_pos h']; omega
theorem int_end {x : Int} {P : Digs} {k uv : Nat} (hP : P = digs x.natAbs) (hk : P.length ≤ k) (h : uv = val (P.take k)) : uv = x.natAbs := by
 rw [h, List.take_of_length_le hk, hP, val_digs]
theorem bigInt_long {x : Int} {a1 : Option Addr} {c1 : Nat} {w : World} (h1 : BD G w a1 c1 x) (hx : 4 < ln x) (hX : Sz x 1099511627776) :
 Calls Tryz.prog 104 #[.agg #[.int .i64 (sg x), .slice a1 (ln x) c1]] w fun e w' => e = .returned (intRes x) ∧ Below w.heap.size w w' := by
 have H1 := hI h1; have HX := hI hX; have HR := hI (int_big hx); clear h1 hX; go_enter Tryz.func104, Tryz.ntmps104
 go_wp2_with fail
 refine (bigRight_ok (z := x) (H1.out.keep (by go_grown)) HX.out).mono ?_; rintro e w1 ⟨rfl, hb⟩; have hbx := bx1 w 34 #[.int .i64 (sg x), .slice a1 (ln x) c1]; have K0 := hI (hbx.keep hb); have HB : Hid (Below w.heap.size w w1) := below_call (by go_grown) hb; clear hbx hb; have p0 : w1.cell? ⟨w.heap.size, 0, none⟩ = some (.int .i64 (sg x)) := K0.out.at.1 0; have p1 : w1.cell? ⟨w.heap.size, 1, none⟩ = some (.slice a1 (ln x) c1) := K0.out.at.1 1; have e1 : decide (4 < ln x) = true := by rw [decide_eq_true_eq]; exact hx
 go_wp2_with fail
 go_ret2
 exact ⟨by rw [HR.out]; rfl, HB.out⟩
theorem bigInt_short {x : Int} {a1 : Option Addr} {c1 : Nat} {w : World} (h1 : BD G w a1 c1 x) (hx : ln x ≤ 4) :
 Calls Tryz.prog 104 #[.agg #[.int .i64 (sg x), .slice a1 (ln x) c1]] w fun e w' => e = .returned (intRes x) ∧ Below w.heap.size w w' := by
 have H1 := hI h1; have HX : Hid (Sz x 1099511627776) := by show _ ≤ _; unfold ln at hx; omega
 clear h1; go_enter Tryz.func104, Tryz.ntmps104
 go_wp2_with fail
 refine (bigRight_ok (z := x) (H1.out.keep (by go_grown)) HX.out).mono ?_; rintro e w1 ⟨rfl, hb⟩; have hbx := bx1 w 34 #[.int .i64 (sg x), .slice a1 (ln x) c1]; have K0 := hI (hbx.keep hb); have HB : Hid (Below w.heap.size w w1) := below_call (by go_grown) hb; clear hbx hb; have p0 : w1.cell? ⟨w.heap.size, 0, none⟩ = some (.int .i64 (sg x)) := K0.out.at.1 0; have p1 : w1.cell? ⟨w.heap.size, 1, none⟩ = some (.slice a1 (ln x) c1) := K0.out.at.1 1; have e1 : decide (4 < ln x) = false := by rw [decide_eq_false_iff_not]; omega
 go_wp2_with fail
 obtain ⟨P, hP⟩ : ∃ P, P = digs x.natAbs := ⟨_, rfl⟩; have hlP : P.length = ln x := by rw [hP]; rfl
 have sP : small P := by rw [hP]; exact digs_small _
 have HH : Hid (RdN w1 (.slice a1 (ln x) c1) P) := by rw [hP]; exact H1.out.rd.keep HB.out
 have HLP := hI hlP; have HPd := hI hP; clear hP hlP; go_loop [4, 19] (fun u i => ∃ k uv : Nat, k ≤ ln x ∧ u = .int .u64 uv ∧ i = .int .i64 k ∧ Hid (uv = val (P.take k))) (fun _ i => ln x - (intOf i).toNat)
 case atStart => exact ⟨0, 0, Nat.zero_le _, rfl, rfl, rfl⟩
 case round =>
  obtain ⟨k, uv, hk, rfl, rfl, HU⟩ := hrel
  by_cases hlt : k < ln x
  · have hkP : k < P.length := by rw [HLP.out]; exact hlt
    obtain ⟨b, off, rfl, hb, hcell⟩ := HH.out.at hkP; obtain ⟨d, hd⟩ : ∃ d, d = P[k] := ⟨_, rfl⟩; rw [← hd] at hcell; have hds : d < 1048576 := by rw [hd]; exact small_get sP k hkP
    have hub : uv < 1048576 ^ k := by
     rw [HU.out]; have := val_lt (small_take sP k)
     rwa [List.length_take, Nat.min_eq_left (by omega)] at this
    have HN : Hid (val (P.take (k + 1)) = uv + 1048576 ^ k * d) := by show _ = _; rw [val_take_succ P k hkP, ← hd, HU.out]
    have HDd : Hid (P[k]? = some d) := by show _ = _; rw [List.getElem?_eq_getElem hkP, hd]
    clear hd
    match k, hk, hlt, hcell, hub, HN, HU, HDd with
    | 0, hk, hlt, hcell, hub, HN, HU, HDd =>
     rw [Nat.add_zero] at hcell; obtain rfl : uv = 0 := by omega
     have hor : bits .or .u64 0 (d : Int) = (d : Int) := by have := or_low 0 (u := 0) (d := d) (by omega) (by omega) (by omega); simpa using this
     have HN2 : Hid (d = val (P.take 1)) := by show _ = _; have := HN.out; simp at this; simpa using this.symm
     go_wp2_with fail
     go_round
     case rel => exact ⟨1, d, by omega, rfl, rfl, HN2⟩
     case measure => simp [intOf]; omega
    | 1, hk, hlt, hcell, hub, HN, HU, HDd =>
     have hub2 : uv < 1048576 := hub; obtain ⟨n, hn⟩ : ∃ n, n = uv + 1048576 * d := ⟨_, rfl⟩
     have hor : bits .or .u64 (uv : Int) ((d : Int) * 1048576) = (n : Int) := by
      have := or_low 20 (u := uv) (d := d) (by omega) (by omega) (by omega); rw [show ((d : Int) * 1048576) = ((2 ^ 20 * d : Nat) : Int) by omega, this, hn]; omega
     have HN2 : Hid (n = val (P.take 2)) := by show _ = _; rw [hn]; exact HN.out.symm
     clear hub hn; go_wp2_with fail
     go_round
     case rel => exact ⟨2, n, by omega, rfl, rfl, HN2⟩
     case measure => simp [intOf]; omega
    | 2, hk, hlt, hcell, hub, HN, HU, HDd =>
     have hub2 : uv < 1099511627776 := hub; obtain ⟨n, hn⟩ : ∃ n, n = uv + 1099511627776 * d := ⟨_, rfl⟩
     have hor : bits .or .u64 (uv : Int) ((d : Int) * 1099511627776) = (n : Int) := by
      have := or_low 40 (u := uv) (d := d) (by omega) (by omega) (by omega); rw [show ((d : Int) * 1099511627776) = ((2 ^ 40 * d : Nat) : Int) by omega, this, hn]; omega
     have HN2 : Hid (n = val (P.take 3)) := by show _ = _; rw [hn]; exact HN.out.symm
     clear hub hn; go_wp2_with fail
     go_round
     case rel => exact ⟨3, n, by omega, rfl, rfl, HN2⟩
     case measure => simp [intOf]; omega
    | 3, hk, hlt, hcell, hub, HN, HU, HDd =>
     by_cases h8 : 8 < d
     · have HR := hI (int_top HPd.out HDd.out h8)
       have e2 : decide (8 < d) = true := by rw [decide_eq_true_eq]; exact h8
       have e3 : decide ((8 : Int) < (d : Int)) = true := by rw [decide_eq_true_eq]; omega
       clear hub h8; go_wp2_with fail
       go_ret2
       exact ⟨by rw [HR.out]; rfl, HB.out⟩
     · have e2 : decide (8 < d) = false := by rw [decide_eq_false_iff_not]; exact h8
       have e3 : decide ((8 : Int) < (d : Int)) = false := by rw [decide_eq_false_iff_not]; omega
       have hub2 : uv < 1152921504606846976 := hub; obtain ⟨n, hn⟩ : ∃ n, n = uv + 1152921504606846976 * d := ⟨_, rfl⟩; have hw : IntKind.u64.wrap ((d : Int) * 1152921504606846976) = (d : Int) * 1152921504606846976 := wraps_u64 _ (by omega) (by omega)
       have hor : bits .or .u64 (uv : Int) ((d : Int) * 1152921504606846976) = (n : Int) := by
        have := or_low 60 (u := uv) (d := d) (by omega) (by omega) (by omega); rw [show ((d : Int) * 1152921504606846976) = ((2 ^ 60 * d : Nat) : Int) by omega, this, hn]; omega
       have HN2 : Hid (n = val (P.take 4)) := by show _ = _; rw [hn]; exact HN.out.symm
       clear hub hn h8; go_wp2_with fail
       go_round
       case rel => exact ⟨4, n, by omega, rfl, rfl, HN2⟩
       case measure => simp [intOf]; omega
    | k + 4, hk, hlt, hcell, hub, HN, HU, HDd => omega
  · have hend : uv = x.natAbs := int_end HPd.out (by rw [HLP.out]; omega) HU.out
    clear hk
    by_cases hs : x < 0
    · have es : decide (sg x < 0) = true := by rw [sg_neg hs]; rfl
      have es2 : decide (0 ≤ sg x) = false := by rw [sg_neg hs]; rfl
      by_cases hu : uv ≤ 9223372036854775808
      · have HR := hI (intRes_yes (x := x) (by omega))
        have eu : decide (uv ≤ 9223372036854775808) = true := by rw [decide_eq_true_eq]; exact hu
        have eu2 : decide ((uv : Int) ≤ 9223372036854775808) = true := by rw [decide_eq_true_eq]; omega
        have HF : Hid (wrap64 (IntKind.u64.wrap (-(uv : Int))) = x) := by show _ = _; rw [IntKind.wrap_u64]; simp only [wrap64]; omega
        clear hs hu hend; go_wp2_with fail
        go_ret2
        exact ⟨by rw [HR.out]; exact congrArg (fun z => Ending.returned (.tuple #[.int .i64 z, .bool true])) HF.out, HB.out⟩
      · have HR := hI (intRes_no (x := x) (by omega))
        have eu : decide (uv ≤ 9223372036854775808) = false := by rw [decide_eq_false_iff_not]; exact hu
        have eu2 : decide ((uv : Int) ≤ 9223372036854775808) = false := by rw [decide_eq_false_iff_not]; omega
        clear hs hu hend; go_wp2_with fail
        go_ret2
        exact ⟨by rw [HR.out]; rfl, HB.out⟩
    · have es : decide (sg x < 0) = false := by rw [decide_eq_false_iff_not]; have := sg_nonneg (x := x) (by omega); omega
      have es2 : decide (0 ≤ sg x) = true := by rw [decide_eq_true_eq]; exact sg_nonneg (x := x) (by omega)
      by_cases hu : uv < 9223372036854775808
      · have HR := hI (intRes_yes (x := x) (by omega))
        have eu : decide (uv < 9223372036854775808) = true := by rw [decide_eq_true_eq]; exact hu
        have eu2 : decide ((uv : Int) < 9223372036854775808) = true := by rw [decide_eq_true_eq]; omega
        have HF : Hid (wrap64 (uv : Int) = x) := by show _ = _; simp only [wrap64]; omega
        clear hs hu hend; go_wp2_with fail
        go_ret2
        exact ⟨by rw [HR.out]; exact congrArg (fun z => Ending.returned (.tuple #[.int .i64 z, .bool true])) HF.out, HB.out⟩
      · have HR := hI (intRes_no (x := x) (by omega))
        have eu : decide (uv < 9223372036854775808) = false := by rw [decide_eq_false_iff_not]; exact hu
        have eu2 : decide ((uv : Int) < 9223372036854775808) = false := by rw [decide_eq_false_iff_not]; omega
        clear hs hu hend; go_wp2_with fail
        go_ret2
        exact ⟨by rw [HR.out]; rfl, HB.out⟩
theorem bigInt_ok {x : Int} {a1 : Option Addr} {c1 : Nat} {w : World} (h1 : BD G w a1 c1 x) (hX : Sz x 1099511627776) :
 Calls Tryz.prog 104 #[.agg #[.int .i64 (sg x), .slice a1 (ln x) c1]] w fun e w' => e = .returned (intRes x) ∧ Below w.heap.size w w' := by
 by_cases h : ln x ≤ 4
 · exact bigInt_short h1 h
 · exact bigInt_long h1 (by omega) hX
theorem mask_u64 (i : Nat) (hi : i ≤ 64) (n : Int) (h0 : 0 ≤ n) (h1 : n < 2 ^ 64) : bits .and .u64 n (2 ^ i - 1) = n % 2 ^ i := bits_mask .u64 64 (by decide) wraps_u64 i hi n h0 h1
theorem val_snoc_digs (l : Digs) (d m : Nat) : val (l ++ [d]) + 1048576 ^ (l ++ [d]).length * m = val l + 1048576 ^ l.length * (d + 1048576 * m) := by
 rw [val_snoc, List.length_append, List.length_singleton, Nat.pow_succ]; grind
theorem of_room {n u : Nat} {l : Digs} (hn : n ≤ 9223372036854775808) (h : val l + 1048576 ^ l.length * u = n) (hu : u ≠ 0) : l.length < 4 := by
 rcases Nat.lt_or_ge l.length 4 with h1 | h1
 · exact h1
 · exfalso
   have h2 : 1048576 ^ 4 ≤ 1048576 ^ l.length := Nat.pow_le_pow_right (by omega) h1; have h3 : (1048576 ^ 4 : Nat) = 1208925819614629174706176 := by decide
   have h4 := Nat.le_mul_of_pos_right (1048576 ^ l.length) (Nat.pos_of_ne_zero hu)
   omega
theorem bigOf_ok (x : Int) (w : World) (hx : -9223372036854775808 ≤ x ∧ x ≤ 9223372036854775807) :
 Calls Tryz.prog 39 #[.int .i64 x] w fun e w' => ∃ a c, e = .returned (.agg #[.int .i64 (sg x), .slice a (ln x) c]) ∧ BD G w' a c x ∧ Below w.heap.size w w' := by
 obtain ⟨n, hn⟩ : ∃ n, n = x.natAbs := ⟨_, rfl⟩; have hnb : n ≤ 9223372036854775808 := by omega
 by_cases hs : x < 0
 · have hw : IntKind.u64.wrap (-(IntKind.u64.wrap x)) = (n : Int) := by rw [IntKind.wrap_u64, IntKind.wrap_u64]; omega
   have e1 : decide (x < 0) = true := by rw [decide_eq_true_eq]; exact hs
   have HNX := hI hn; have HX := hI hs; clear hn hs; go_enter Tryz.func39, Tryz.ntmps39
   go_wp2_with fail
   generalize hw0 : World.alloc w _ = w0; have K0 : Hid (Bx w0 w.heap.size 34 #[.int .i64 0, .slice none 0 0]) := by rw [← hw0]; exact bx1 w _ _
   have HB0 : Hid (Below w.heap.size w w0) := by rw [← hw0]; exact below_alloc _ _
   clear hw0; go_loopw [5, 4] (fun v i wr => ∃ (l : Digs) (u : Nat), u ≤ n ∧ l.length ≤ 4 ∧ i = .int .u64 u ∧ Hid (small l) ∧ Hid (val l + 1048576 ^ l.length * u = n) ∧ Hid (OwnN wr w0.heap.size v l) ∧ Hid (Below w0.heap.size w0 wr)) (fun _ i _ => (intOf i).toNat)
   case atStart => exact ⟨[], n, Nat.le_refl _, by simp, rfl, small_nil, by show _ = _; simp [val], ownN_nil _ _, Below.refl _ _⟩
   case round =>
    obtain ⟨l, u, hu, hll, rfl, HS, HE, HO, HB⟩ := hrel; have hl4 : u ≠ 0 → l.length < 4 := fun h => of_room hnb HE.out h
    by_cases h0 : u = 0
    · have e2 : decide (0 < u) = false := by rw [h0]; rfl
      have e3 : decide ((0 : Int) < (u : Int)) = false := by rw [h0]; rfl
      have HV : Hid (val l = n) := by show _ = _; have := HE.out; rw [h0, Nat.mul_zero] at this; omega
      have HL : Hid (l.length ≤ 8796093022208) := by show _ ≤ _; omega
      clear h0 hl4; go_wp2_with fail
      refine (signed_any (G := G) w0.heap.size (-1) u5 l _ HO.out HS.out HL.out (fun _ => .inr rfl)).mono ?_; rintro e w2 ⟨r, rfl, hr, hb⟩; have HZ : Hid ((-1) * (val l : Int) = x) := by show _ = _; rw [HV.out, HNX.out]; have := HX.out; omega
      rw [HZ.out] at hr; obtain ⟨a, c, rfl, hd⟩ := hr; have K2 := hI ((K0.out.keep HB.out).keep hb); have HB2 := hI (below_call HB0.out (below_call HB.out hb)); have HD := hI hd; clear hb hd; obtain ⟨p0, q0⟩ := K2.out.at; go_wp2_with fail
      refine bodyPost_ret (results_box1 rfl _ _ w.heap.size 34 _ _ _ rfl (K2.out.set2 _ _) Tryz.underlying34 rfl (by kernel_rfl)) rfl ⟨a, c, rfl, ?_, ?_⟩
      · exact HD.out.far0 K2.out zb2 (only_setCell (only_setCell (World.grownBy.refl _ _) _) _)
      · exact (HB2.out.setCell (Nat.le_refl _) _).setCell (Nat.le_refl _) _
    · have hl3 := hl4 h0
      have e2 : decide (0 < u) = true := by rw [decide_eq_true_eq]; omega
      have e3 : decide ((0 : Int) < (u : Int)) = true := by rw [decide_eq_true_eq]; omega
      obtain ⟨d, hd⟩ : ∃ d, d = u % 1048576 := ⟨_, rfl⟩; obtain ⟨m, hm⟩ : ∃ m, m = u / 1048576 := ⟨_, rfl⟩; have hds : d < 1048576 := by omega
      have hmask : bits .and .u64 (u : Int) 1048575 = (d : Int) := by have := mask_u64 20 (by omega) (u : Int) (by omega) (by omega); simp at this; rw [this]; omega
      have hdiv : (u : Int) / 1048576 = (m : Int) := by omega
      have hmu : m < u := by omega
      have HE2 : Hid (val (l ++ [d]) + 1048576 ^ (l ++ [d]).length * m = n) := by show _ = _; rw [val_snoc_digs, show d + 1048576 * m = u by omega]; exact HE.out
      have HA : Hid (OwnN (wr.alloc (.cells #[.int .i64 (d : Int)] 3)) w0.heap.size u5 l) := HO.out.keep (below_alloc _ _); have HL1 : Hid (RdN (wr.alloc (.cells #[.int .i64 (d : Int)] 3)) (.slice (some ⟨wr.heap.size, 0, none⟩) 1 1) [d]) := (own_lit1 wr wr.heap.size d (Nat.le_refl _)).rd; have hsz : w0.heap.size ≤ wr.heap.size := HB.out.size; clear hd hm h0 hl4; go_wp2_with (at_builtin; go_must (refine wpList_appendN rfl _ _ rfl (wr.alloc (.cells #[.int .i64 (d : Int)] 3)) w0.heap.size u5 l rfl HA.out ⟨wr.heap.size, 0, none⟩ 1 1 [d] rfl rfl HL1.out (by simp; omega) (by simp; omega) ?_; intro v' w1 ho hg hb))
      have HO2 := hI ho; have HB2 : Hid (Below w0.heap.size w0 w1) := (HB.out.alloc hsz _).trans hb; clear ho hg hb; go_roundw
      case rel => exact ⟨l ++ [d], m, by omega, by simp; omega, rfl, small_append HS.out (small_one hds), HE2, HO2.out, HB2.out⟩
      case measure => simp [intOf]; omega
 · have hw : IntKind.u64.wrap x = (n : Int) := by rw [IntKind.wrap_u64]; omega
   have e1 : decide (x < 0) = false := by rw [decide_eq_false_iff_not]; exact hs
   have HNX := hI hn; have HX := hI hs; clear hn hs; go_enter Tryz.func39, Tryz.ntmps39
   go_wp2_with fail
   generalize hw0 : World.alloc w _ = w0; have K0 : Hid (Bx w0 w.heap.size 34 #[.int .i64 0, .slice none 0 0]) := by rw [← hw0]; exact bx1 w _ _
   have HB0 : Hid (Below w.heap.size w w0) := by rw [← hw0]; exact below_alloc _ _
   clear hw0; go_loopw [5, 4] (fun v i wr => ∃ (l : Digs) (u : Nat), u ≤ n ∧ l.length ≤ 4 ∧ i = .int .u64 u ∧ Hid (small l) ∧ Hid (val l + 1048576 ^ l.length * u = n) ∧ Hid (OwnN wr w0.heap.size v l) ∧ Hid (Below w0.heap.size w0 wr)) (fun _ i _ => (intOf i).toNat)
   case atStart => exact ⟨[], n, Nat.le_refl _, by simp, rfl, small_nil, by show _ = _; simp [val], ownN_nil _ _, Below.refl _ _⟩
   case round =>
    obtain ⟨l, u, hu, hll, rfl, HS, HE, HO, HB⟩ := hrel; have hl4 : u ≠ 0 → l.length < 4 := fun h => of_room hnb HE.out h
    by_cases h0 : u = 0
    · have e2 : decide (0 < u) = false := by rw [h0]; rfl
      have e3 : decide ((0 : Int) < (u : Int)) = false := by rw [h0]; rfl
      have HV : Hid (val l = n) := by show _ = _; have := HE.out; rw [h0, Nat.mul_zero] at this; omega
      have HL : Hid (l.length ≤ 8796093022208) := by show _ ≤ _; omega
      clear h0 hl4; go_wp2_with fail
      refine (signed_any (G := G) w0.heap.size 1 u5 l _ HO.out HS.out HL.out (fun _ => .inl rfl)).mono ?_; rintro e w2 ⟨r, rfl, hr, hb⟩; have HZ : Hid (1 * (val l : Int) = x) := by show _ = _; rw [HV.out, HNX.out]; have := HX.out; omega
      rw [HZ.out] at hr; obtain ⟨a, c, rfl, hd⟩ := hr; have K2 := hI ((K0.out.keep HB.out).keep hb); have HB2 := hI (below_call HB0.out (below_call HB.out hb)); have HD := hI hd; clear hb hd; obtain ⟨p0, q0⟩ := K2.out.at; go_wp2_with fail
      refine bodyPost_ret (results_box1 rfl _ _ w.heap.size 34 _ _ _ rfl (K2.out.set2 _ _) Tryz.underlying34 rfl (by kernel_rfl)) rfl ⟨a, c, rfl, ?_, ?_⟩
      · exact HD.out.far0 K2.out zb2 (only_setCell (only_setCell (World.grownBy.refl _ _) _) _)
      · exact (HB2.out.setCell (Nat.le_refl _) _).setCell (Nat.le_refl _) _
    · have hl3 := hl4 h0
      have e2 : decide (0 < u) = true := by rw [decide_eq_true_eq]; omega
      have e3 : decide ((0 : Int) < (u : Int)) = true := by rw [decide_eq_true_eq]; omega
      obtain ⟨d, hd⟩ : ∃ d, d = u % 1048576 := ⟨_, rfl⟩; obtain ⟨m, hm⟩ : ∃ m, m = u / 1048576 := ⟨_, rfl⟩; have hds : d < 1048576 := by omega
      have hmask : bits .and .u64 (u : Int) 1048575 = (d : Int) := by have := mask_u64 20 (by omega) (u : Int) (by omega) (by omega); simp at this; rw [this]; omega
      have hdiv : (u : Int) / 1048576 = (m : Int) := by omega
      have hmu : m < u := by omega
      have HE2 : Hid (val (l ++ [d]) + 1048576 ^ (l ++ [d]).length * m = n) := by show _ = _; rw [val_snoc_digs, show d + 1048576 * m = u by omega]; exact HE.out
      have HA : Hid (OwnN (wr.alloc (.cells #[.int .i64 (d : Int)] 3)) w0.heap.size u5 l) := HO.out.keep (below_alloc _ _); have HL1 : Hid (RdN (wr.alloc (.cells #[.int .i64 (d : Int)] 3)) (.slice (some ⟨wr.heap.size, 0, none⟩) 1 1) [d]) := (own_lit1 wr wr.heap.size d (Nat.le_refl _)).rd; have hsz : w0.heap.size ≤ wr.heap.size := HB.out.size; clear hd hm h0 hl4; go_wp2_with (at_builtin; go_must (refine wpList_appendN rfl _ _ rfl (wr.alloc (.cells #[.int .i64 (d : Int)] 3)) w0.heap.size u5 l rfl HA.out ⟨wr.heap.size, 0, none⟩ 1 1 [d] rfl rfl HL1.out (by simp; omega) (by simp; omega) ?_; intro v' w1 ho hg hb))
      have HO2 := hI ho; have HB2 : Hid (Below w0.heap.size w0 w1) := (HB.out.alloc hsz _).trans hb; clear ho hg hb; go_roundw
      case rel => exact ⟨l ++ [d], m, by omega, by simp; omega, rfl, small_append HS.out (small_one hds), HE2, HO2.out, HB2.out⟩
      case measure => simp [intOf]; omega
open Rat in
def nu (q : Rat) : Int := q.num
def de (q : Rat) : Int := (q.den : Int)
structure FD (G : Nat) (w : World) (a : Option Addr) (c : Nat) (b : Option Addr) (d : Nat) (q : Rat) : Prop where
 n : BD G w a c (nu q)
 d : BD G w b d (de q)
theorem FD.keep {w w' : World} {a b : Option Addr} {c d : Nat} {q : Rat} (h : FD G w a c b d q) (hb : Below w.heap.size w w') : FD G w' a c b d q := ⟨h.n.keep hb, h.d.keep hb⟩
theorem FD.far0 {w w' : World} {g : Nat} {T : TypeId} {cs : Array Value} {a b : Option Addr} {c d : Nat} {q : Rat} (h : FD G w a c b d q) (k : Bx w g T cs) (hz : Zb cs) (hg : w.grownBy w' (some g)) : FD G w' a c b d q := ⟨h.n.far0 k hz hg, h.d.far0 k hz hg⟩
theorem FD.far {w w' : World} {g : Nat} {T : TypeId} {cs : Array Value} {a b : Option Addr} {c d : Nat} {q : Rat} (h : FD G w a c b d q) (k : Bx w g T cs) (hT : (T == 3) = false) (hG : G ≤ g) (hg : w.grownBy w' (some g)) : FD G w' a c b d q := ⟨h.n.far k hT hG hg, h.d.far k hT hG hg⟩
theorem FD.up {G' : Nat} {w : World} {a b : Option Addr} {c d : Nat} {q : Rat} (h : FD G w a c b d q) (hG : G ≤ G') : FD G' w a c b d q := ⟨h.n.up hG, h.d.up hG⟩
def Fz (q : Rat) (n : Nat) : Prop := Sz (nu q) n ∧ Sz (de q) n
theorem Fz.mono {q : Rat} {n m : Nat} (h : Fz q n) (hm : n ≤ m) : Fz q m := ⟨h.1.mono hm, h.2.mono hm⟩
theorem de_pos (q : Rat) : 0 < de q := by have := q.den_pos; unfold de; omega
theorem sg_de (q : Rat) : sg (de q) = 1 := sg_pos (de_pos q)
theorem gcd_parts (q : Rat) : Nat.gcd (nu q).natAbs (de q).natAbs = 1 := q.reduced
theorem new_parts {x y : Int} (hy : 0 < y) : ∃ g : Int, 0 < g ∧ ((Nat.gcd x.natAbs y.natAbs : Nat) : Int) = g ∧ x = g * nu (Rat.divInt x y) ∧ y = g * de (Rat.divInt x y) := by
 refine ⟨(Nat.gcd x.natAbs y.natAbs : Nat), ?_, rfl, ?_, ?_⟩
 · have := Nat.gcd_pos_of_pos_right x.natAbs (show 0 < y.natAbs by omega); omega
 · unfold nu
   rw [Rat.num_divInt, Int.sign_eq_one_of_pos hy, Int.one_mul]; have h : ((y.gcd x : Nat) : Int) ∣ x := Int.gcd_dvd_right ..; rw [show Nat.gcd x.natAbs y.natAbs = y.gcd x by rw [Nat.gcd_comm]; rfl]; rw [Int.mul_ediv_cancel' h]
 · unfold de
   rw [Rat.den_divInt, if_neg (by omega)]; have h : y.gcd x ∣ y.natAbs := Nat.gcd_dvd_left ..; rw [show Nat.gcd x.natAbs y.natAbs = y.gcd x by rw [Nat.gcd_comm]; rfl]; have := Nat.mul_div_cancel' h; have h2 : ((y.gcd x * (y.natAbs / y.gcd x) : Nat) : Int) = (y.natAbs : Int) := by rw [this]
   rw [Int.natCast_mul] at h2
   omega
theorem sz_factor {x g q : Int} {n : Nat} (h : x = g * q) (hg : 0 < g) (hx : Sz x n) : Sz q n := by
 refine hx.le ?_; rw [h, Int.natAbs_mul]; exact Nat.le_mul_of_pos_left _ (by omega)
theorem new_size {x y : Int} {n : Nat} (hy : 0 < y) (hx : Sz x n) (hy' : Sz y n) : Fz (Rat.divInt x y) n := by
 obtain ⟨g, hg, -, h1, h2⟩ := new_parts (x := x) hy; exact ⟨sz_factor h1 hg hx, sz_factor h2 hg hy'⟩
theorem FD.f {w v : World} {g : Nat} {T : TypeId} {cs : Array Value} {a b : Option Addr} {c d : Nat} {q : Rat} (h : FD G w a c b d q) (k : Bx w g T cs) (hg : w.grownBy v (some g)) (hT : (T == 3) = false := by rfl) (hG : G ≤ g := by omega) : FD G v a c b d q := h.far k hT hG hg
theorem szW {q x : Rat} (e : q = x) {n : Nat} (h : Fz x n) : Hid (Fz q n) := by subst e; exact Lib.hid h
end Go.Proofs.YtlcgckelamhnpaaGreat
