/- Walk: products of digits. -/
import Derived.Test.YtlcgckelamhnpaaGreatBigD
import Derived.StillTailTactics
set_option maxRecDepth 100000
set_option maxHeartbeats 4000000
namespace Go.Proofs.YtlcgckelamhnpaaGreat
open Go.RowKit
theorem val_set (l : Digs) (k d : Nat) (h : k < l.length) : val (l.set k d) + 1048576 ^ k * l[k] = val l + 1048576 ^ k * d := by
 have h1 := val_split l k (by omega); have h2 := val_split (l.set k d) k (by rw [List.length_set]; omega); rw [List.take_set_of_le (Nat.le_refl k), List.drop_eq_getElem_cons (by rw [List.length_set]; exact h), drop_set_succ, List.getElem_set_self, val] at h2; rw [List.drop_eq_getElem_cons h, val] at h1; rw [h1, h2, Nat.mul_add, Nat.mul_add]; omega
theorem mul_step {k j a v q x y o z cy m c V : Nat} (h1 : a + 1048576 ^ (k + j) * o = v + 1048576 ^ (k + j) * m) (h2 : v + 1048576 ^ (k + j) * cy = q + 1048576 ^ k * (x * V)) (h3 : m + 1048576 * c = o + z + cy) (h4 : z = x * y) :
 a + 1048576 ^ (k + (j + 1)) * c = q + 1048576 ^ k * (x * (V + 1048576 ^ j * y)) := by
 rw [← Nat.add_assoc, Nat.pow_succ, Nat.pow_add] at *; generalize 1048576 ^ k = e at *; generalize 1048576 ^ j = f at *
 grind
def zerosFrom (l : Digs) (n : Nat) : Prop := ∀ j (h : j < l.length), n ≤ j → l[j] = 0
theorem small_replicate (n : Nat) : small (List.replicate n 0) := by intro d hd; rw [List.mem_replicate] at hd; omega
theorem zerosFrom_set {l : Digs} {n k d : Nat} (h : zerosFrom l n) (hk : k < n) : zerosFrom (l.set k d) n := by
 intro j hj hn
 rw [List.getElem_set, if_neg (by omega)]; exact h j (by simpa using hj) hn
theorem zerosFrom_mono {l : Digs} {n m : Nat} (h : zerosFrom l n) (hm : n ≤ m) : zerosFrom l m := fun j hj hn => h j hj (by omega)
theorem bigMul_any (p q : Value) (P Q : Digs) (w : World) (hp : RdN w p P) (hq : RdN w q Q) (sp : small P) (sq : small Q) (hn : P.length ≤ 1099511627776) (hm : Q.length ≤ 1099511627776) :
 Calls Tryz.prog 121 #[p, q] w fun e w' => ∃ v, e = .returned v ∧ OwnN w' w.heap.size v (digs (val P * val Q)) ∧ Below w.heap.size w w' := by
 obtain ⟨a1, cap1, rfl⟩ := hp.shape; obtain ⟨a2, cap2, rfl⟩ := hq.shape; have HP := Lib.hid hp; clear hp; have HQ := Lib.hid hq; clear hq; go_enter Tryz.func121, Tryz.ntmps121
 go_wp2_with (at_make; go_must (refine wpList_mkints rfl _ _ rfl w w.heap.size (P.length + Q.length) _ _ rfl rfl (by simp) (by simp) (by omega) (Nat.le_refl _) ?_; intro w1 ho hb))
 have HO := Lib.hid ho; clear ho; have HB0 := Lib.hid hb; clear hb; go_loopw [20] (fun i wr => ∃ (k : Nat) (os : Digs), k ≤ P.length ∧ os.length = P.length + Q.length ∧ i = .int .i64 k ∧ Hid (small os) ∧ Hid (zerosFrom os (k + Q.length)) ∧ Hid (val os = val (P.take k) * val Q) ∧ Hid (OwnN wr w.heap.size (.slice (some ⟨w.heap.size, 0, none⟩) (P.length + Q.length) (P.length + Q.length)) os) ∧ Hid (Below w.heap.size w wr)) (fun i _ => P.length - (intOf i).toNat)
 case atStart => exact ⟨0, List.replicate (P.length + Q.length) 0, Nat.zero_le _, by simp, rfl, small_replicate _, by show zerosFrom _ _; intro j h _; simp, by show _ = _; rw [val_zeros (by simp)]; simp [val], HO, HB0⟩
 case round =>
  obtain ⟨k, os, hk, hlo, rfl, HSm, HZ, HE, HW, HB⟩ := hrel; have HLo := Lib.hid hlo
  by_cases hlt : k < P.length
  · obtain ⟨b1, off1, rfl, hb1, hcell⟩ := (HP.out.keep HB.out).at hlt
    obtain ⟨x, hx⟩ : ∃ x, x = P[k] := ⟨_, rfl⟩; rw [← hx] at hcell; have hxs : x < 1048576 := by rw [hx]; exact small_get sp k hlt
    have HX := Lib.hid hx; clear hx hlo; go_wp2_with fail
    obtain ⟨wo, rfl⟩ : ∃ wo : World, wo = wr := ⟨_, rfl⟩; go_loopw [8, 27] (fun c i wr => ∃ (j cy : Nat) (ot : Digs), j ≤ Q.length ∧ cy < 1048576 ∧ ot.length = P.length + Q.length ∧ c = .int .i64 cy ∧ i = .int .i64 j ∧ Hid (small ot) ∧ Hid (zerosFrom ot (k + Q.length)) ∧ Hid (val ot + 1048576 ^ (k + j) * cy = val os + 1048576 ^ k * (x * val (Q.take j))) ∧ Hid (OwnN wr w.heap.size (.slice (some ⟨w.heap.size, 0, none⟩) (P.length + Q.length) (P.length + Q.length)) ot) ∧ Hid (Below w.heap.size w wr)) (fun _ i _ => Q.length - (intOf i).toNat)
    case atStart => exact ⟨0, 0, os, Nat.zero_le _, by omega, HLo.out, rfl, rfl, HSm, HZ, by show _ = _; simp [val], HW, HB⟩
    case round =>
     obtain ⟨j, cy, ot, hj, hcy, hlt2, rfl, rfl, HSm2, HZ2, HE2, HW2, HB2⟩ := hrel; have HLt := Lib.hid hlt2
     by_cases hjl : j < Q.length
     · obtain ⟨b2, off2, rfl, hb2, hcell2⟩ := (HQ.out.keep HB2.out).at hjl
       obtain ⟨y, hy⟩ : ∃ y, y = Q[j] := ⟨_, rfl⟩; rw [← hy] at hcell2; have hys : y < 1048576 := by rw [hy]; exact small_get sq j hjl
       have HY := Lib.hid hy; clear hy; have hkj : k + j < ot.length := by omega
       have hold := HW2.out.cell hkj; obtain ⟨o, ho⟩ : ∃ o, o = ot[k + j] := ⟨_, rfl⟩; rw [← ho] at hold; have hos : o < 1048576 := by rw [ho]; exact small_get HSm2.out _ hkj
       have HO2 := Lib.hid ho; have hfr := HW2.out.live (k + j); clear ho hlt2; obtain ⟨z, hz⟩ : ∃ z : Nat, z = x * y := ⟨_, rfl⟩; have hzb : z ≤ 1099509530625 := by rw [hz]; exact Nat.mul_le_mul (show x ≤ 1048575 by omega) (show y ≤ 1048575 by omega)
       have hzi : ((x : Int) * (y : Int)) = (z : Int) := by rw [hz]; simp
       have HZ3 := Lib.hid hz; clear hz; obtain ⟨m, hm1⟩ : ∃ m : Nat, m = (o + z + cy) % 1048576 := ⟨_, rfl⟩; obtain ⟨c, hc1⟩ : ∃ c : Nat, c = (o + z + cy) / 1048576 := ⟨_, rfl⟩; have hmask : bits .and .i64 ((o : Int) + z + cy) 1048575 = (m : Int) := by rw [mask20]; omega
       have hdiv : ((o : Int) + z + cy) / 1048576 = (c : Int) := by omega
       have hsum : m + 1048576 * c = o + z + cy := by omega
       have hms : m < 1048576 := by omega
       have hcs : c < 1048576 := by omega
       have HE3 : Hid (val (ot.set (k + j) m) + 1048576 ^ (k + (j + 1)) * c = val os + 1048576 ^ k * (x * val (Q.take (j + 1)))) := by
        show _ = _
        rw [val_take_succ Q j hjl, ← HY.out]; have h1 := val_set ot (k + j) m hkj; rw [← HO2.out] at h1; exact mul_step h1 HE2.out hsum HZ3.out
       clear hm1 hc1 hsum; go_wp2_with fail
       go_roundw
       case rel => exact ⟨j + 1, c, ot.set (k + j) m, by omega, hcs, by rw [List.length_set]; exact HLt.out, rfl, by go_num, small_set HSm2.out hms, zerosFrom_set HZ2.out (by omega), HE3, HW2.out.set (k + j) m, HB2.out.setCell (Nat.le_refl _) _⟩
       case measure => simp [intOf]; omega
     · obtain rfl : j = Q.length := by omega
       have hkj : k + Q.length < ot.length := by omega
       have hold := HW2.out.cell hkj; rw [HZ2.out _ hkj (Nat.le_refl _)] at hold; have hfr := HW2.out.live (k + Q.length)
       have HE3 : Hid (val (ot.set (k + Q.length) cy) = val (P.take (k + 1)) * val Q) := by
        show _ = _
        have h1 := val_set ot (k + Q.length) cy hkj; rw [HZ2.out _ hkj (Nat.le_refl _), Nat.mul_zero, Nat.add_zero] at h1; rw [h1, HE2.out, HE.out, List.take_of_length_le (Nat.le_refl _), val_take_succ P k hlt, ← HX.out, Nat.add_mul, Nat.mul_assoc]
       clear hlt2; go_wp2_with fail
       go_roundw
       case rel => exact ⟨k + 1, ot.set (k + Q.length) cy, by omega, by rw [List.length_set]; exact HLt.out, by go_num, small_set HSm2.out hcy, zerosFrom_set (zerosFrom_mono HZ2.out (by omega)) (by omega), HE3, HW2.out.set (k + Q.length) cy, HB2.out.setCell (Nat.le_refl _) _⟩
       case measure => simp [intOf]; omega
  · obtain rfl : k = P.length := by omega
    have HV : Hid (val os = val P * val Q) := by show _ = _; rw [HE.out, List.take_of_length_le (Nat.le_refl _)]
    have hol : os.length ≤ 8796093022208 := by omega
    have HOL := Lib.hid hol; clear hlo hol hlt; go_wp2_with fail
    refine (bigTrim_own w.heap.size _ os _ ?_ HSm.out HOL.out).mono ?_
    · exact HW.out
    rintro e w2 ⟨v', rfl, ho, rfl⟩; have HO2 := Lib.hid ho; clear ho; rw [HV.out] at HO2; go_wp2_with fail
    go_ret
    exact ⟨v', rfl, HO2.out, HB.out⟩
theorem short_step {a q d r n rm x : Nat} (h1 : q * d + r = n) (h2 : n = rm * 1048576 + x) : (q + 1048576 * a) * d + r = x + 1048576 * (a * d + rm) := by grind
theorem bigShort_any (p : Value) (P : Digs) (d : Nat) (w : World) (hp : RdN w p P) (sp : small P) (hd0 : 0 < d) (hd : d < 1048576) (hn : P.length ≤ 2199023255552) :
 Calls Tryz.prog 122 #[p, .int .i64 d] w fun e w' => ∃ v, e = .returned (.tuple #[v, .int .i64 (val P % d : Nat)]) ∧ OwnN w' w.heap.size v (digs (val P / d)) ∧ Below w.heap.size w w' := by
 obtain ⟨a1, cap1, rfl⟩ := hp.shape; have HP := Lib.hid hp; clear hp; go_enter Tryz.func122, Tryz.ntmps122
 go_wp2_with (at_make; go_must (refine wpList_mkints rfl _ _ rfl w w.heap.size P.length _ _ rfl rfl (by simp) (by simp) (by omega) (Nat.le_refl _) ?_; intro w1 ho hb))
 have HO := Lib.hid ho; clear ho; have HB0 := Lib.hid hb; clear hb; go_loopw [7, 8] (fun r i wr => ∃ (k rm : Nat) (os : Digs), k ≤ P.length ∧ rm < d ∧ os.length = P.length ∧ r = .int .i64 rm ∧ i = .int .i64 ((k : Int) - 1) ∧ Hid (small os) ∧ Hid (val (os.drop k) * d + rm = val (P.drop k)) ∧ Hid (OwnN wr w.heap.size (.slice (some ⟨w.heap.size, 0, none⟩) P.length P.length) os) ∧ Hid (Below w.heap.size w wr)) (fun _ i _ => (intOf i + 1).toNat)
 case atStart => exact ⟨P.length, 0, List.replicate P.length 0, Nat.le_refl _, hd0, by simp, rfl, rfl, small_replicate _, by show _ = _; rw [List.drop_of_length_le (by simp), List.drop_of_length_le (by simp)]; simp [val], HO, HB0⟩
 case round =>
  obtain ⟨k, rm, os, hk, hrm, hlo, rfl, rfl, HSm, HE, HW, HB⟩ := hrel; have HLo := Lib.hid hlo
  by_cases h0 : 0 < k
  · obtain ⟨m, rfl⟩ : ∃ m, k = m + 1 := ⟨k - 1, by omega⟩
    have em : (((m + 1 : Nat) : Int) - 1) = (m : Int) := by omega
    rw [em]; clear em; have hm1 : m < P.length := by omega
    obtain ⟨b1, off1, rfl, hb1, hcell⟩ := (HP.out.keep HB.out).at hm1; obtain ⟨x, hx⟩ : ∃ x, x = P[m] := ⟨_, rfl⟩; rw [← hx] at hcell; have hxs : x < 1048576 := by rw [hx]; exact small_get sp m hm1
    have HX := Lib.hid hx; clear hx; have hmo : m < os.length := by omega
    obtain ⟨o, ho⟩ : ∃ o, o = os[m] := ⟨_, rfl⟩; have hold := HW.out.cell hmo; rw [← ho] at hold; have hfr := HW.out.live m; have HOo := Lib.hid ho; clear ho hlo; obtain ⟨n, hn1⟩ : ∃ n : Nat, n = rm * 1048576 + x := ⟨_, rfl⟩; have hor : bits .or .i64 ((rm : Int) * 1048576) (x : Int) = (n : Int) := by rw [or20 (by omega) hxs, hn1]
    obtain ⟨q, hq⟩ : ∃ q : Nat, q = n / d := ⟨_, rfl⟩; obtain ⟨r, hr⟩ : ∃ r : Nat, r = n % d := ⟨_, rfl⟩; have hnb : n < 1099511627776 := by omega
    have hqn : q ≤ n := by rw [hq]; exact Nat.div_le_self _ _
    have hrd : r < d := by rw [hr]; exact Nat.mod_lt _ hd0
    have hqr : q * d + r = n := by rw [hq, hr, Nat.mul_comm]; exact Nat.div_add_mod n d
    have hqs : q < 1048576 := by
     have : q * d < 1048576 * d := by
      have : rm * 1048576 + 1048576 ≤ d * 1048576 := by have := Nat.mul_le_mul_right 1048576 (show rm + 1 ≤ d by omega); omega
      omega
     exact Nat.lt_of_mul_lt_mul_right this
    have htd : ((n : Int).tdiv (d : Int)) = (q : Int) := by rw [hq, Int.tdiv_eq_ediv_of_nonneg (by omega)]; rfl
    have htm : ((n : Int).tmod (d : Int)) = (r : Int) := by rw [hr, Int.tmod_eq_emod_of_nonneg (by omega)]; rfl
    have HE2 : Hid (val ((os.set m q).drop m) * d + r = val (P.drop m)) := by
     show _ = _
     have e1 : (os.set m q).drop m = q :: os.drop (m + 1) := by
      rw [List.drop_eq_getElem_cons (by rw [List.length_set]; exact hmo), List.getElem_set_self, drop_set_succ]
     rw [e1, List.drop_eq_getElem_cons hm1, val, val, ← HX.out, ← HE.out]; exact short_step hqr hn1
    clear hn1 hq hr hqr; go_wp2_with fail
    go_roundw
    case rel => exact ⟨m, r, os.set m q, by omega, hrd, by rw [List.length_set]; exact HLo.out, by rfl, rfl, small_set HSm.out hqs, HE2, HW.out.set m q, HB.out.setCell (Nat.le_refl _) _⟩
    case measure => simp [intOf]
  · obtain rfl : k = 0 := by omega
    have em : ((0 : Nat) : Int) - 1 = -1 := rfl; rw [em]; clear em; have hV := HE.out; rw [List.drop_zero, List.drop_zero] at hV
    have HV : Hid (val os = val P / d ∧ rm = val P % d) := by
     rw [← hV, Nat.mul_comm]; exact ⟨by rw [Nat.mul_add_div hd0, Nat.div_eq_of_lt hrm, Nat.add_zero], by rw [Nat.mul_add_mod, Nat.mod_eq_of_lt hrm]⟩
    have hol : os.length ≤ 8796093022208 := by omega
    have HOL := Lib.hid hol; clear hlo hol hV; go_wp2_with fail
    refine (bigTrim_own w.heap.size _ os _ ?_ HSm.out HOL.out).mono ?_
    · exact HW.out
    rintro e w2 ⟨v', rfl, ho, rfl⟩; have HO2 := Lib.hid ho; clear ho; rw [HV.out.1] at HO2; go_wp2_with fail
    go_ret2
    exact ⟨v', by rw [HV.out.2]; rfl, HO2.out, HB.out⟩
end Go.Proofs.YtlcgckelamhnpaaGreat
