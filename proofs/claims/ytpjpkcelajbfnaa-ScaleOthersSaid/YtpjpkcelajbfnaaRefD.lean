/- Walks of the verifier's reference: products of digits. -/
import Derived.Test.YtpjpkcelajbfnaaRefA
import Derived.IntWalk
namespace Go.Proofs.Ytpjpkcelajbfnaa
open Go.RowKit

def flag (n : Int) : Nat := if n = 0 then 0 else 1
theorem flag_le (n : Int) : flag n ≤ 1 := by unfold flag; split <;> omega
theorem flag_pos {n : Int} (h : n ≠ 0) : flag n = 1 := by rw [flag, if_neg h]

set_option maxHeartbeats 8000000 in
theorem rtimes_ok (p q : Value) (P Q : Digs) (w : World) (hp : RdN w p P) (hq : RdN w q Q) (sp : small P) (sq : small Q) (hn : P.length ≤ 1099511627776) (hm : Q.length ≤ 1099511627776) :
    Calls Try.prog 62 #[p, q] w fun e w' => ∃ v, e = .returned v ∧ OwnN w' w.heap.size v (digs (val P * val Q)) ∧ Below w.heap.size w w' := by
  obtain ⟨a1, cap1, rfl⟩ := hp.shape
  obtain ⟨a2, cap2, rfl⟩ := hq.shape
  have HP := Lib.hid hp; clear hp
  have HQ := Lib.hid hq; clear hq
  go_enter Try.func62, Try.ntmps62
  go_wp2_with (at_make; go_must (refine wpList_mkints rfl _ _ rfl w w.heap.size (P.length + Q.length) _ _ rfl rfl (by simp) (by simp) (by omega) (Nat.le_refl _) ?_; intro w1 ho hb))
  have HO := Lib.hid ho; clear ho
  have HB0 := Lib.hid hb; clear hb
  go_loopw [6] (fun i wr => ∃ (k : Nat) (os : Digs), k ≤ P.length ∧ os.length = P.length + Q.length ∧ i = .int .i64 k ∧ Hid (small os) ∧ Hid (zerosFrom os (k + Q.length)) ∧ Hid (val os = val (P.take k) * val Q) ∧ Hid (OwnN wr w.heap.size (.slice (some ⟨w.heap.size, 0, none⟩) (P.length + Q.length) (P.length + Q.length)) os) ∧ Hid (Below w.heap.size w wr)) (fun i _ => P.length - (intOf i).toNat)
  case atStart => exact ⟨0, List.replicate (P.length + Q.length) 0, Nat.zero_le _, by simp, rfl, small_replicate _, by show zerosFrom _ _; intro j h _; simp, by show _ = _; rw [val_zeros (by simp)]; simp [val], HO, HB0⟩
  case round =>
    obtain ⟨k, os, hk, hlo, rfl, HSm, HZ, HE, HW, HB⟩ := hrel
    have HLo := Lib.hid hlo
    by_cases hlt : k < P.length
    · obtain ⟨x, hx⟩ : ∃ x, x = P[k] := ⟨_, rfl⟩
      have hxs : x < 1048576 := by rw [hx]; exact small_get sp k hlt
      have HX := Lib.hid hx
      clear hx hlo
      go_wp2_with fail
      obtain ⟨wo, rfl⟩ : ∃ wo : World, wo = wr := ⟨_, rfl⟩
      go_loopw [7, 8] (fun c i wr => ∃ (j cy : Nat) (ot : Digs), j ≤ Q.length + 1 ∧ (j ≤ Q.length ∨ cy = 0) ∧ cy < 1048576 ∧ ot.length = P.length + Q.length ∧ c = .int .i64 cy ∧ i = .int .i64 j ∧ Hid (small ot) ∧ Hid (j ≤ Q.length → zerosFrom ot (k + Q.length)) ∧ Hid (zerosFrom ot (k + 1 + Q.length)) ∧ Hid (val ot + 1048576 ^ (k + j) * cy = val os + 1048576 ^ k * (x * val (Q.take j))) ∧ Hid (OwnN wr w.heap.size (.slice (some ⟨w.heap.size, 0, none⟩) (P.length + Q.length) (P.length + Q.length)) ot) ∧ Hid (Below w.heap.size w wr)) (fun c i _ => 2 * (Q.length + 1 - (intOf i).toNat) + flag (intOf c))
      case atStart => exact ⟨0, 0, os, Nat.zero_le _, .inl (Nat.zero_le _), by omega, HLo.out, rfl, rfl, HSm, fun _ => HZ.out, zerosFrom_mono HZ.out (by omega), by show _ = _; simp [val], HW, HB⟩
      case round =>
        obtain ⟨j, cy, ot, hj, hjc, hcy, hlt2, rfl, rfl, HSm2, HZ2, HZ3, HE2, HW2, HB2⟩ := hrel
        have HLt := Lib.hid hlt2

        by_cases hjl : j < Q.length
        · have e1 : decide ((j : Int) < (Q.length : Int)) = true := by rw [decide_eq_true_eq]; omega
          obtain ⟨b1, off1, rfl, hb1, hcell⟩ := (HP.out.keep HB2.out).at hlt
          rw [← HX.out] at hcell
          obtain ⟨y, hy⟩ : ∃ y, y = dg Q j := ⟨_, rfl⟩
          have hys : y < 1048576 := by rw [hy]; exact dg_small sq j
          have hkj : k + j < ot.length := by omega
          have hold := HW2.out.cell hkj
          obtain ⟨o, ho⟩ : ∃ o, o = ot[k + j] := ⟨_, rfl⟩
          rw [← ho] at hold
          have hos : o < 1048576 := by rw [ho]; exact small_get HSm2.out _ hkj
          have hfr := HW2.out.live (k + j)
          obtain ⟨z, hz⟩ : ∃ z : Nat, z = x * y := ⟨_, rfl⟩
          have hzb : z ≤ 1099509530625 := by rw [hz]; exact Nat.mul_le_mul (show x ≤ 1048575 by omega) (show y ≤ 1048575 by omega)
          have hzi : ((x : Int) * (y : Int)) = (z : Int) := by rw [hz]; simp
          obtain ⟨m, hm1⟩ : ∃ m : Nat, m = (o + z + cy) % 1048576 := ⟨_, rfl⟩
          obtain ⟨c, hc1⟩ : ∃ c : Nat, c = (o + z + cy) / 1048576 := ⟨_, rfl⟩
          have hmod : ((o : Int) + z + cy) % 1048576 = (m : Int) := by omega
          have hdiv : ((o : Int) + z + cy) / 1048576 = (c : Int) := by omega
          have hsum : m + 1048576 * c = o + z + cy := by omega
          have hms : m < 1048576 := by omega
          have hcs : c < 1048576 := by omega
          have HE3 : Hid (val (ot.set (k + j) m) + 1048576 ^ (k + (j + 1)) * c = val os + 1048576 ^ k * (x * val (Q.take (j + 1)))) := by
            show _ = _
            rw [val_take_step Q j, ← hy]
            have h1 := val_set ot (k + j) m hkj
            rw [← ho] at h1
            exact mul_step h1 HE2.out hsum hz
          have HZ4 : Hid (zerosFrom (ot.set (k + j) m) (k + Q.length)) := zerosFrom_set (HZ2.out (by omega)) (by omega)
          have HY := Lib.hid hy
          obtain ⟨s, hs⟩ : ∃ s, s = k + j := ⟨_, rfl⟩
          rw [← hs] at hold hfr
          have his : (k : Int) + (j : Int) = (s : Int) := by omega
          have wis : IntKind.i64.wrap ((k : Int) + (j : Int)) = (s : Int) := by rw [his]; exact IntWalk.i64_in _ (by omega)
          have hsl : (s : Int) < (P.length : Int) + (Q.length : Int) := by omega
          have hsl2 : (s : Int) < ((P.length + Q.length : Nat) : Int) := by omega
          have hki : (k : Int) < (P.length : Int) := by omega
          have hjb : j ≤ 4398046511104 := by omega
          have wz : IntKind.i64.wrap (z : Int) = (z : Int) := IntWalk.i64_in _ (by omega)
          have wo1 : IntKind.i64.wrap ((o : Int) + (z : Int)) = (o : Int) + (z : Int) := IntWalk.i64_in _ (by omega)
          have wo2 : IntKind.i64.wrap ((o : Int) + (z : Int) + (cy : Int)) = (o : Int) + (z : Int) + (cy : Int) := IntWalk.i64_in _ (by omega)
          have HSS := Lib.hid hs
          clear hy ho hlt2 hz hm1 hc1 hs hsum hkj
          go_wp2_with fail
          go_quiet ((go_at_call 83; refine quiet_same (v := .int .i64 (y : Int)) ?_; rw [HY.out]; exact digit_ok _ Q j _ (HQ.out.keep (below_drewN HB2.out _)) hm hjb))
          clear wis wz wo1 wo2
          go_wp2_with fail
          rename_i nq
          have HE4 : Hid (val (ot.set s m) + 1048576 ^ (k + (j + 1)) * c = val os + 1048576 ^ k * (x * val (Q.take (j + 1)))) := by show _ = _; rw [HSS.out]; exact HE3.out
          have HZ5 : Hid (j + 1 ≤ Q.length → zerosFrom (ot.set s m) (k + Q.length)) := by intro h; rw [HSS.out]; exact HZ4.out
          have HZ6 : Hid (zerosFrom (ot.set s m) (k + 1 + Q.length)) := by rw [HSS.out]; exact zerosFrom_set HZ3.out (by omega)
          go_roundw
          case rel => exact ⟨j + 1, c, ot.set s m, by omega, .inl (by omega), hcs, by rw [List.length_set]; exact HLt.out, by first | rfl | rw [hdiv], by go_num, small_set HSm2.out hms, HZ5, HZ6, HE4, (ownN_drewN HW2.out nq).set s m, (below_drewN HB2.out nq).setCell (Nat.le_refl _) _⟩
          case measure => rw [hdiv]; show 2 * (Q.length + 1 - ((j : Int) + 1).toNat) + flag (c : Int) < 2 * (Q.length + 1 - (j : Int).toNat) + flag (cy : Int); have := flag_le (c : Int); omega
        · have e1 : decide ((j : Int) < (Q.length : Int)) = false := by rw [decide_eq_false_iff_not]; omega
          by_cases hc0 : 0 < cy
          · have e2 : decide ((0 : Int) < (cy : Int)) = true := by rw [decide_eq_true_eq]; omega
            have e3 : decide (0 < cy) = true := by rw [decide_eq_true_eq]; omega
            obtain ⟨b1, off1, rfl, hb1, hcell⟩ := (HP.out.keep HB2.out).at hlt
            rw [← HX.out] at hcell
            obtain ⟨y, hy⟩ : ∃ y, y = dg Q j := ⟨_, rfl⟩
            have hys : y < 1048576 := by rw [hy]; exact dg_small sq j
            have hkj : k + j < ot.length := by omega
            have hold := HW2.out.cell hkj
            obtain ⟨o, ho⟩ : ∃ o, o = ot[k + j] := ⟨_, rfl⟩
            rw [← ho] at hold
            have hos : o < 1048576 := by rw [ho]; exact small_get HSm2.out _ hkj
            have hfr := HW2.out.live (k + j)
            obtain ⟨z, hz⟩ : ∃ z : Nat, z = x * y := ⟨_, rfl⟩
            have hzb : z ≤ 1099509530625 := by rw [hz]; exact Nat.mul_le_mul (show x ≤ 1048575 by omega) (show y ≤ 1048575 by omega)
            have hzi : ((x : Int) * (y : Int)) = (z : Int) := by rw [hz]; simp
            obtain ⟨m, hm1⟩ : ∃ m : Nat, m = (o + z + cy) % 1048576 := ⟨_, rfl⟩
            obtain ⟨c, hc1⟩ : ∃ c : Nat, c = (o + z + cy) / 1048576 := ⟨_, rfl⟩
            have hmod : ((o : Int) + z + cy) % 1048576 = (m : Int) := by omega
            have hdiv : ((o : Int) + z + cy) / 1048576 = (c : Int) := by omega
            have hsum : m + 1048576 * c = o + z + cy := by omega
            have hms : m < 1048576 := by omega
            have hcs : c < 1048576 := by omega
            have HE3 : Hid (val (ot.set (k + j) m) + 1048576 ^ (k + (j + 1)) * c = val os + 1048576 ^ k * (x * val (Q.take (j + 1)))) := by
              show _ = _
              rw [val_take_step Q j, ← hy]
              have h1 := val_set ot (k + j) m hkj
              rw [← ho] at h1
              exact mul_step h1 HE2.out hsum hz
            have hc00 : c = 0 := by (have h1 := dg_ge (l := Q) (i := j) (by omega); have h2 := HZ2.out (by omega) (k + j) hkj (by omega); rw [← hy] at h1; rw [← ho] at h2; rw [h1, Nat.mul_zero] at hz; omega)
            have HY := Lib.hid hy
            obtain ⟨s, hs⟩ : ∃ s, s = k + j := ⟨_, rfl⟩
            rw [← hs] at hold hfr
            have his : (k : Int) + (j : Int) = (s : Int) := by omega
            have wis : IntKind.i64.wrap ((k : Int) + (j : Int)) = (s : Int) := by rw [his]; exact IntWalk.i64_in _ (by omega)
            have hsl : (s : Int) < (P.length : Int) + (Q.length : Int) := by omega
            have hsl2 : (s : Int) < ((P.length + Q.length : Nat) : Int) := by omega
            have hki : (k : Int) < (P.length : Int) := by omega
            have hjb : j ≤ 4398046511104 := by omega
            have wz : IntKind.i64.wrap (z : Int) = (z : Int) := IntWalk.i64_in _ (by omega)
            have wo1 : IntKind.i64.wrap ((o : Int) + (z : Int)) = (o : Int) + (z : Int) := IntWalk.i64_in _ (by omega)
            have wo2 : IntKind.i64.wrap ((o : Int) + (z : Int) + (cy : Int)) = (o : Int) + (z : Int) + (cy : Int) := IntWalk.i64_in _ (by omega)
            have HSS := Lib.hid hs
            clear hy ho hlt2 hz hm1 hc1 hs hsum hkj
            go_wp2_with fail
            go_quiet ((go_at_call 83; refine quiet_same (v := .int .i64 (y : Int)) ?_; rw [HY.out]; exact digit_ok _ Q j _ (HQ.out.keep (below_drewN HB2.out _)) hm hjb))
            clear wis wz wo1 wo2
            go_wp2_with fail
            rename_i nq
            have HE4 : Hid (val (ot.set s m) + 1048576 ^ (k + (j + 1)) * c = val os + 1048576 ^ k * (x * val (Q.take (j + 1)))) := by show _ = _; rw [HSS.out]; exact HE3.out
            have HZ5 : Hid (j + 1 ≤ Q.length → zerosFrom (ot.set s m) (k + Q.length)) := by intro h; rw [HSS.out]; omega
            have HZ6 : Hid (zerosFrom (ot.set s m) (k + 1 + Q.length)) := by rw [HSS.out]; exact zerosFrom_set HZ3.out (by omega)
            go_roundw
            case rel => exact ⟨j + 1, c, ot.set s m, by omega, .inr hc00, hcs, by rw [List.length_set]; exact HLt.out, by first | rfl | rw [hdiv], by go_num, small_set HSm2.out hms, HZ5, HZ6, HE4, (ownN_drewN HW2.out nq).set s m, (below_drewN HB2.out nq).setCell (Nat.le_refl _) _⟩
            case measure => rw [hdiv]; show 2 * (Q.length + 1 - ((j : Int) + 1).toNat) + flag (c : Int) < 2 * (Q.length + 1 - (j : Int).toNat) + flag (cy : Int); rw [hc00, show flag ((0 : Nat) : Int) = 0 from rfl, flag_pos (show (cy : Int) ≠ 0 by omega)]; omega
          · have e2 : decide ((0 : Int) < (cy : Int)) = false := by rw [decide_eq_false_iff_not]; omega
            have e3 : decide (0 < cy) = false := by rw [decide_eq_false_iff_not]; omega
            have HE5 : Hid (val ot = val (P.take (k + 1)) * val Q) := by
              show _ = _
              have h1 := HE2.out
              obtain rfl : cy = 0 := by omega
              rw [Nat.mul_zero, Nat.add_zero, val_take_all (l := Q) (by omega)] at h1
              rw [h1, HE.out, val_take_succ P k hlt, ← HX.out, Nat.add_mul, Nat.mul_assoc]
            clear hlt2
            go_wp2_with fail
            go_roundw
            case rel => exact ⟨k + 1, ot, by omega, HLt.out, by go_num, HSm2, HZ3, HE5, HW2, HB2⟩
            case measure => simp [intOf]; omega
    · obtain rfl : k = P.length := by omega
      have HV : Hid (val os = val P * val Q) := by show _ = _; rw [HE.out, List.take_of_length_le (Nat.le_refl _)]
      have HLn : Hid (os.length ≤ 8796093022208) := by show _ ≤ _; omega
      clear hlo hlt
      go_wp2_with fail
      refine (refTrim_own HW.out HSm.out HLn.out).mono ?_
      rintro e w2 ⟨v2, rfl, ho, hb⟩
      rw [HV.out] at ho
      have HO2 := Lib.hid (ho.mono HB.out.size)
      have HB2 : Hid (Below w.heap.size w w2) := HB.out.trans (hb.mono HB.out.size)
      clear ho hb
      go_wp2_with fail
      go_ret
      exact ⟨v2, rfl, HO2.out, HB2.out⟩
end Go.Proofs.Ytpjpkcelajbfnaa
