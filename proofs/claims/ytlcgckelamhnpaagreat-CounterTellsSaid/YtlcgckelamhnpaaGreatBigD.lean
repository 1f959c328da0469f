/- Walks: appending digits to digits of the call's own; a copy of digits. -/
import Derived.Test.YtlcgckelamhnpaaGreatBigA
import Derived.Test.YtlcgckelamhnpaaGreatBigC
import Derived.WalkSmall
import Derived.Deep.QuietTactic
set_option maxRecDepth 100000
set_option maxHeartbeats 4000000
namespace Go.Proofs.YtlcgckelamhnpaaGreat
open Go.RowKit
theorem elemInt : ElemT Tryz.prog 32 3 (.int .i64 0) 1 8 := ⟨Tryz.underlying32, by kernel_rfl, rfl, by decide⟩
theorem cellsN_app (a b : Digs) : cellsN (a ++ b) = cellsN a ++ cellsN b := by simp [cellsN, cellsZ, ints]
theorem cellsN_one (l : Digs) : ∀ u ∈ cellsN l, u.oneCell' = true := by
 intro u hu
 simp only [cellsN, cellsZ, List.mem_map] at hu; obtain ⟨d, -, rfl⟩ := hu; rfl
theorem wpList_appendN {ops : Array Oper} {rest : List Oper} {o : Oper} {a : Act} {Q : Exit → Act → World → Prop} (hgd : o.guard = none) (s x : Operand)
 (ho : o.op = .call { callee := .builtin .append, args := #[s, x], argTypes := #[32, 32] }) (w : World) (B : Nat) (v : Value) (l : Digs) (hs : a.eval s = v) (hown : OwnN w B v l)
 (ad : Addr) (m c : Nat) (k : Digs) (hx : a.eval x = .slice (some ad) m c) (hm : m = k.length) (hk : RdN w (.slice (some ad) m c) k) (hn : l.length + k.length ≤ 17592186044416) (hB : B ≤ w.heap.size)
 (h : ∀ v' w', OwnN w' B v' (l ++ k) → w.grownBy w' v.ownBlock → Below B w w' → wpList Tryz.prog ops Q rest (a.put o.dst v') w') :
 wpList Tryz.prog ops Q (o :: rest) a w := by
 subst hm; obtain ⟨i0, hi, hz0, hz1, hz2⟩ := info_parts elemInt.info; refine wpList_append_own _ hgd s x 32 ho B 3 i0 (.int .i64 0) 1 8 elemInt.under hi hz0 hz1 hz2 elemInt.cells elemInt.pos v l.length (cellsN l) hs hown ad k.length c (cellsN k) hx (by rw [cellsN_len, Nat.mul_one]) ?_ (cellsN_one k) (by unfold maxLen; omega) (by omega) hB ?_
 · intro j u hj
   have hlt : j < k.length := by
    rcases Nat.lt_or_ge j k.length with hh | hh
    · exact hh
    · rw [List.getElem?_eq_none (by rw [cellsN_len]; exact hh)] at hj; cases hj
   rw [cellsN_get k j hlt] at hj
   cases hj
   obtain ⟨b', off', ha, -, hc⟩ := hk.at hlt
   cases ha
   rw [add_off]; exact hc
 · intro v' w' h2 h3 _
   rw [← cellsN_app] at h2; refine h v' w' ?_ h3 (grown_below hown h3 hB)
   show w'.ownsRow _ _ _ _ _ _
   rw [List.length_append]; exact h2
theorem clone_any (p : Value) (P : Digs) (w : World) (hp : RdN w p P) (hn : P.length ≤ 1099511627776) :
 Calls Tryz.prog 70 #[p] w fun e w' => ∃ v, e = .returned v ∧ OwnN w' w.heap.size v P ∧ Below w.heap.size w w' := by
 obtain ⟨a, cap, rfl⟩ := hp.shape
 cases a with
 | none =>
  have hP : P = [] := by
   cases P with
   | nil => rfl
   | cons d r => obtain ⟨b, off, ha, -⟩ := hp.at (k := 0) (by simp); cases ha
  subst hP; have heq : ∀ w : World, (binOp BinOp.eql 32 (Value.slice none 0 cap) (Value.slice none 0 0)).run Tryz.prog w = .ok (.bool true) w := fun w => Lib.run_eql_slice_nil w 32 3 none _ _ _ _ Tryz.underlying32
  go_enter Tryz.func70, Tryz.ntmps70
  go_wp2_with fail
  go_ret
  exact ⟨_, rfl, ownN_nil _ _, Below.refl _ _⟩
 | some ad =>
  have HP := Lib.hid hp; clear hp; have heq : ∀ w : World, (binOp BinOp.eql 32 (Value.slice (some ad) P.length cap) (Value.slice none 0 0)).run Tryz.prog w = .ok (.bool false) w := fun w => Lib.run_eql_slice_nil w 32 3 (some ad) _ _ _ _ Tryz.underlying32
  go_enter Tryz.func70, Tryz.ntmps70
  have h0 : OwnN (w.alloc (.cells #[] 3)) w.heap.size (.slice (some ⟨w.heap.size, 0, none⟩) 0 0) [] := World.ownsRow_lit w #[] 0 (Nat.le_refl _) (by unfold maxLen; omega) rfl; have H0 := Lib.hid h0; clear h0; have HB := Lib.hid ((Below.refl w.heap.size w).alloc (Nat.le_refl _) (.cells #[] 3)); go_wp2_with (at_builtin; go_must (refine wpList_appendN rfl _ _ rfl (w.alloc (.cells #[] 3)) w.heap.size (.slice (some ⟨w.heap.size, 0, none⟩) 0 0) [] rfl H0.out ad P.length cap P rfl rfl (HP.out.keep HB.out) (by simp; omega) (by simp) ?_; intro v' w1 ho hg hb))
  go_ret
  exact ⟨v', rfl, ho, HB.out.trans hb⟩
theorem sub_step {b v p q bw x y m c : Nat} (h : p + b * bw = v + q) (hm : x + 1048576 * c = m + bw + y) : (p + b * x) + (b * 1048576) * c = (v + b * m) + (q + b * y) := by
 have h2 := congrArg (fun z => b * z) hm; simp only [Nat.mul_add] at h2; rw [Nat.mul_assoc b 1048576 c]; omega
theorem drop_set_succ (l : Digs) (k m : Nat) : (l.set k m).drop (k + 1) = l.drop (k + 1) := by
 rw [List.drop_set_of_lt (by omega)]
theorem sub_end {p v q B bw : Nat} (h : p + B * bw = v + q) (hv : v < B) (hq : q ≤ p) (hb : bw ≤ 1) : v = p - q := by
 obtain rfl | rfl : bw = 0 ∨ bw = 1 := by omega
 · omega
 · omega
theorem bigSub_any (p q : Value) (P Q : Digs) (w : World) (hp : RdN w p P) (hq : RdN w q Q) (sp : small P) (sq : small Q) (hl : Q.length ≤ P.length) (hle : val Q ≤ val P) (hn : P.length ≤ 1099511627776) :
 Calls Tryz.prog 114 #[p, q] w fun e w' => ∃ v, e = .returned v ∧ OwnN w' w.heap.size v (digs (val P - val Q)) ∧ Below w.heap.size w w' := by
 obtain ⟨a2, cap2, rfl⟩ := hq.shape; have HQ := Lib.hid hq; clear hq; go_enter Tryz.func114, Tryz.ntmps114
 go_wp2_with fail
 refine (clone_any p P w hp hn).mono ?_; rintro e w1 ⟨v1, rfl, ho, hb⟩; have HB0 := Lib.hid hb; clear hb; rcases ho.shape with ⟨rfl, rfl⟩ | ⟨g, cap, rfl, hg, hlt, hcap⟩
 · have hq0 : val Q = 0 := by simp [val] at hle; exact hle
   have HV : Hid (digs (val ([] : Digs) - val Q) = []) := by show _ = _; rw [hq0]; rfl
   clear hle hq0 hl; go_wp2_with fail
   go_loopw [6, 13] (fun b i wr => i = .int .i64 0 ∧ b = .int .i64 0 ∧ wr = w1) (fun _ _ _ => 0)
   case atStart => exact ⟨rfl, rfl, rfl⟩
   case round =>
    obtain ⟨rfl, rfl, rfl⟩ := hrel; go_wp2_with fail
    refine (bigTrim_own w.heap.size _ [] _ (ownN_nil _ _) small_nil (by simp)).mono ?_; rintro e w2 ⟨v', rfl, ho2, rfl⟩; have HO2 := Lib.hid ho2; clear ho2; go_wp2_with fail
    go_ret
    exact ⟨v', rfl, by rw [HV.out]; exact HO2.out, HB0.out⟩
 · have HO := Lib.hid ho; clear ho
   go_wp2_with fail
   go_loopw [6, 13] (fun b i wr => ∃ (k bw : Nat) (os : Digs), k ≤ P.length ∧ bw ≤ 1 ∧ os.length = P.length ∧ b = .int .i64 bw ∧ i = .int .i64 k ∧ Hid (small os) ∧ Hid (os.drop k = P.drop k) ∧ Hid (val (P.take k) + 1048576 ^ k * bw = val (os.take k) + val (Q.take k)) ∧ Hid (OwnN wr w.heap.size (.slice (some ⟨g, 0, none⟩) P.length cap) os) ∧ Hid (Below w.heap.size w wr)) (fun _ i _ => P.length - (intOf i).toNat)
   case atStart => exact ⟨0, 0, P, Nat.zero_le _, by omega, rfl, rfl, rfl, sp, rfl, by show _ = _; simp [val], HO, HB0⟩
   case round =>
    obtain ⟨k, bw, os, hk, hbw, hlo, rfl, rfl, HSm, HD, HE, HW, HB⟩ := hrel; have HLo := Lib.hid hlo
    by_cases hlt : k < P.length
    · have hko : k < os.length := by omega
      obtain ⟨x, hx⟩ : ∃ x, x = os[k] := ⟨_, rfl⟩; have hcell := HW.out.cell hko; rw [← hx] at hcell; have hxs : x < 1048576 := by rw [hx]; exact small_get HSm.out k hko
      have hxp : x = P[k] := by
       have h1 := HD.out; rw [List.drop_eq_getElem_cons hko, List.drop_eq_getElem_cons hlt] at h1; rw [hx]; exact (List.cons.inj h1).1
      have hdp : os.drop (k + 1) = P.drop (k + 1) := by
       have h1 := HD.out; rw [List.drop_eq_getElem_cons hko, List.drop_eq_getElem_cons hlt] at h1; exact (List.cons.inj h1).2
      have HX := Lib.hid hxp; have HDP := Lib.hid hdp; have hfr := HW.out.live k; clear hlo hx hxp hdp
      by_cases hq : k < Q.length
      · obtain ⟨b2, off2, rfl, hb2, hcell2⟩ := (HQ.out.keep HB.out).at hq
        obtain ⟨y, hy⟩ : ∃ y, y = Q[k] := ⟨_, rfl⟩; rw [← hy] at hcell2; have hys : y < 1048576 := by rw [hy]; exact small_get sq k hq
        have HY := Lib.hid hy; clear hy; obtain ⟨m, hm⟩ : ∃ m : Nat, (m : Int) = ((x : Int) - bw - y) % 1048576 := ⟨(((x : Int) - bw - y) % 1048576).toNat, by omega⟩; obtain ⟨c, hc⟩ : ∃ c : Nat, (c : Int) = (((x : Int) - bw - y) / 1048576) % 2 := ⟨((((x : Int) - bw - y) / 1048576) % 2).toNat, by omega⟩; have hmask : bits .and .i64 ((x : Int) - bw - y) 1048575 = (m : Int) := by rw [mask20, hm]
        have hbor : bits .and .i64 (((x : Int) - bw - y) / 1048576) 1 = (c : Int) := by rw [mask1, hc]
        have hsum : x + 1048576 * c = m + bw + y := by omega
        have hms : m < 1048576 := by omega
        have hcs : c ≤ 1 := by omega
        have HE2 : Hid (val (P.take (k + 1)) + 1048576 ^ (k + 1) * c = val ((os.set k m).take (k + 1)) + val (Q.take (k + 1))) := by
         show _ = _
         rw [val_take_set _ _ _ hko, val_take_succ P k hlt, val_take_succ Q k hq, ← HX.out, ← HY.out, Nat.pow_succ]; exact sub_step HE.out hsum
        clear hm hc hsum; go_wp2_with fail
        go_roundw
        case rel => exact ⟨k + 1, c, os.set k m, by omega, hcs, by rw [List.length_set]; exact HLo.out, by rfl, by go_num, small_set HSm.out hms, by show _ = _; rw [drop_set_succ]; exact HDP.out, HE2, HW.out.set k m, HB.out.setCell hg _⟩
        case measure => simp [intOf]; omega
      · obtain ⟨m, hm⟩ : ∃ m : Nat, (m : Int) = ((x : Int) - bw) % 1048576 := ⟨(((x : Int) - bw) % 1048576).toNat, by omega⟩
        obtain ⟨c, hc⟩ : ∃ c : Nat, (c : Int) = (((x : Int) - bw) / 1048576) % 2 := ⟨((((x : Int) - bw) / 1048576) % 2).toNat, by omega⟩; have hmask : bits .and .i64 ((x : Int) - bw) 1048575 = (m : Int) := by rw [mask20, hm]
        have hbor : bits .and .i64 (((x : Int) - bw) / 1048576) 1 = (c : Int) := by rw [mask1, hc]
        have hsum : x + 1048576 * c = m + bw + 0 := by omega
        have hms : m < 1048576 := by omega
        have hcs : c ≤ 1 := by omega
        have HE2 : Hid (val (P.take (k + 1)) + 1048576 ^ (k + 1) * c = val ((os.set k m).take (k + 1)) + val (Q.take (k + 1))) := by
         show _ = _
         have h1 := sub_step HE.out hsum; rw [val_take_set _ _ _ hko, val_take_succ P k hlt, ← HX.out, val_take_all (l := Q) (k := k + 1) (by omega), Nat.pow_succ]; rw [val_take_all (l := Q) (k := k) (by omega)] at h1
         simpa using h1
        clear hm hc hsum; go_wp2_with fail
        go_roundw
        case rel => exact ⟨k + 1, c, os.set k m, by omega, hcs, by rw [List.length_set]; exact HLo.out, by rfl, by go_num, small_set HSm.out hms, by show _ = _; rw [drop_set_succ]; exact HDP.out, HE2, HW.out.set k m, HB.out.setCell hg _⟩
        case measure => simp [intOf]; omega
    · obtain rfl : k = P.length := by omega
      have HV : Hid (val os = val P - val Q) := by
       show _ = _
       have h1 := HE.out; rw [val_take_all (Nat.le_refl _), val_take_all (l := os) (by omega), val_take_all hl] at h1; have h2 := val_lt HSm.out; rw [HLo.out] at h2; exact sub_end h1 h2 hle hbw
      have hol : os.length ≤ 8796093022208 := by omega
      have HOL := Lib.hid hol; have HW2 : Hid (OwnN wr w.heap.size (.slice (some ⟨g, 0, none⟩) P.length cap) os) := HW; clear hlo hol hlt hle; go_wp2_with fail
      refine (bigTrim_own w.heap.size _ os _ HW2.out HSm.out HOL.out).mono ?_; rintro e w2 ⟨v', rfl, ho2, rfl⟩; have HO2 := Lib.hid ho2; clear ho2; rw [HV.out] at HO2; go_wp2_with fail
      go_ret
      exact ⟨v', rfl, HO2.out, HB.out⟩
theorem below_drewN {B : Nat} {a w : World} (h : Below B a w) (n : Nat) : Below B a (w.drewN n) := h.trans ⟨rfl, rfl, rfl, Nat.le_refl _, fun _ _ => rfl⟩
theorem quiet_same {P : Program} {f : FuncId} {args : Array Value} {w : World} {n : Nat} {v : Value}
 (h : Calls P f args (w.drewN n) fun e w' => e = .returned v ∧ w.drewN n = w') : Calls P f args (w.drewN n) fun e w'' => e = .returned v ∧ ∃ m, w'' = w.drewN m :=
 h.mono fun _ _ ⟨he, hm⟩ => ⟨he, n, hm.symm⟩
theorem quiet_add_left {P : Program} {f : FuncId} {args : Array Value} {w : World} {a n : Nat} {v : Value}
 (h : Calls P f args (w.drewN (a + n)) fun e w' => e = .returned v ∧ w.drewN (a + n) = w') :
 Calls P f args (w.drewN (a + n)) fun e w'' => e = .returned v ∧ ∃ m, w'' = w.drewN (a + m) :=
 h.mono fun _ _ ⟨he, hm⟩ => ⟨he, n, hm.symm⟩
def ord (a b : Int) : Int := if a < b then -1 else if b < a then 1 else 0
theorem ord_lt {a b : Int} (h : a < b) : ord a b = -1 := by rw [ord, if_pos h]
theorem ord_gt {a b : Int} (h : b < a) : ord a b = 1 := by rw [ord, if_neg (by omega), if_pos h]
theorem ord_eq (a : Int) : ord a a = 0 := by rw [ord, if_neg (by omega), if_neg (by omega)]
theorem isNaN_any (x : Int) (w : World) : Calls Tryz.prog 120 #[.int .i64 x] w fun e w' => e = .returned (.bool false) ∧ w = w' := by
 go_enter Tryz.func120, Tryz.ntmps120
 go_wp2
 go_ret
 exact ⟨ret_bool (by simp), rfl⟩
theorem cmpCompare_any (x y : Int) (w : World) : Calls Tryz.prog 99 #[.int .i64 x, .int .i64 y] w fun e w' => e = .returned (.int .i64 (ord x y)) ∧ w = w' := by
 rcases Int.lt_trichotomy x y with h | h | h
 · have h' : ¬ y < x := by omega
   have HO := Lib.hid (ord_lt h); go_enter Tryz.func99, Tryz.ntmps99
   go_wp2_with (go_at_call 120; refine (isNaN_any _ _).mono ?_; rintro e w' ⟨rfl, rfl⟩)
   go_ret
   exact ⟨ret_int HO.out.symm, rfl⟩
 · subst h
   have HO := Lib.hid (ord_eq x); go_enter Tryz.func99, Tryz.ntmps99
   go_wp2_with (go_at_call 120; refine (isNaN_any _ _).mono ?_; rintro e w' ⟨rfl, rfl⟩)
   go_ret
   exact ⟨ret_int HO.out.symm, rfl⟩
 · have h' : ¬ x < y := by omega
   have HO := Lib.hid (ord_gt h); go_enter Tryz.func99, Tryz.ntmps99
   go_wp2_with (go_at_call 120; refine (isNaN_any _ _).mono ?_; rintro e w' ⟨rfl, rfl⟩)
   go_ret
   exact ⟨ret_int HO.out.symm, rfl⟩
theorem digs_len_le_of_lt {a b : Nat} (h : (digs a).length < (digs b).length) : a < b := by
 rcases Nat.lt_or_ge a b with h' | h'
 · exact h'
 · have := digs_len_mono h'; omega
theorem val_drop_lt {P Q : Digs} (sp : small P) {k : Nat} (h1 : k < P.length) (h2 : k < Q.length) (hd : P.drop (k + 1) = Q.drop (k + 1)) (hlt : P[k] < Q[k]) : val P < val Q := by
 have a1 := val_split P k (by omega); have a2 := val_split Q k (by omega); rw [List.drop_eq_getElem_cons h1, val] at a1; rw [List.drop_eq_getElem_cons h2, val, ← hd] at a2; have b1 := val_lt (small_take sp k); rw [List.length_take, Nat.min_eq_left (by omega)] at b1; have b2 : 1048576 ^ k * (P[k] + 1 + 1048576 * val (P.drop (k + 1))) ≤ 1048576 ^ k * (Q[k] + 1048576 * val (P.drop (k + 1))) := Nat.mul_le_mul_left _ (by omega); rw [show P[k] + 1 + 1048576 * val (P.drop (k + 1)) = (P[k] + 1048576 * val (P.drop (k + 1))) + 1 by omega, Nat.mul_add] at b2
 omega
theorem bigcmp_any (p q : Value) (a b : Nat) (w : World) (hp : RdN w p (digs a)) (hq : RdN w q (digs b)) (hn : (digs a).length ≤ 1099511627776) (_hm : (digs b).length ≤ 1099511627776) :
 Calls Tryz.prog 100 #[p, q] w fun e w' => e = .returned (.int .i64 (ord a b)) ∧ Below w.heap.size w w' := by
 obtain ⟨P, HP⟩ : ∃ P, Hid (P = digs a) := ⟨_, rfl⟩; obtain ⟨Q, HQ⟩ : ∃ Q, Hid (Q = digs b) := ⟨_, rfl⟩; rw [← HP.out] at hp hn; rw [← HQ.out] at hq; obtain ⟨a1, cap1, rfl⟩ := hp.shape; obtain ⟨a2, cap2, rfl⟩ := hq.shape; have H1 := Lib.hid hp; clear hp; have H2 := Lib.hid hq; clear hq
 by_cases hl : P.length = Q.length
 · rw [← hl]
   have HL := Lib.hid hl; clear hl; go_enter Tryz.func100, Tryz.ntmps100
   go_wp2_with fail
   go_loopw [5] (fun i wr => ∃ k : Nat, k ≤ P.length ∧ i = .int .i64 ((k : Int) - 1) ∧ Hid (P.drop k = Q.drop k) ∧ Hid (Below w.heap.size w wr)) (fun i _ => (intOf i + 1).toNat)
   case atStart => exact ⟨P.length, Nat.le_refl _, rfl, by show _ = _; rw [List.drop_of_length_le (Nat.le_refl _), List.drop_of_length_le (by rw [HL.out]; exact Nat.le_refl _)], Below.refl _ _⟩
   case round =>
    obtain ⟨k, hk, rfl, HD, HB⟩ := hrel
    by_cases h0 : 0 < k
    · obtain ⟨m, rfl⟩ : ∃ m, k = m + 1 := ⟨k - 1, by omega⟩
      have em : (((m + 1 : Nat) : Int) - 1) = (m : Int) := by omega
      rw [em]; clear em; have hm1 : m < P.length := by omega
      have hm2 : m < Q.length := by rw [← HL.out]; exact hm1
      obtain ⟨b1, off1, rfl, hb1, hcell⟩ := (H1.out.keep HB.out).at hm1; obtain ⟨b2, off2, rfl, hb2, hcell2⟩ := (H2.out.keep HB.out).at hm2; obtain ⟨x, hx⟩ : ∃ x, x = P[m] := ⟨_, rfl⟩; obtain ⟨y, hy⟩ : ∃ y, y = Q[m] := ⟨_, rfl⟩; rw [← hx] at hcell; rw [← hy] at hcell2; have HX := Lib.hid hx; have HY := Lib.hid hy; clear hx hy; have hIx : (m : Int) < (P.length : Int) := by omega
      by_cases hxy : x = y
      · have HD2 : Hid (P.drop m = Q.drop m) := by
         show _ = _
         rw [List.drop_eq_getElem_cons hm1, List.drop_eq_getElem_cons hm2, ← HX.out, ← HY.out, HD.out, hxy]
        have e1 : ((x : Int) != (y : Int)) = false := by simp [hxy]
        have HXY := Lib.hid hxy; clear hxy; go_wp2_with fail
        go_quiet (fail)
        go_wp2_with fail
        go_roundw
        case rel => exact ⟨m, by omega, rfl, HD2, below_drewN HB.out _⟩
        case measure => simp [intOf]
      · have HO : Hid (ord x y = ord a b) := by
         show _ = _
         have va := val_digs a; have vb := val_digs b; rw [← HP.out] at va; rw [← HQ.out] at vb; have sP : small P := by rw [HP.out]; exact digs_small a
         have sQ : small Q := by rw [HQ.out]; exact digs_small b
         rcases Nat.lt_or_ge x y with h | h
         · have := val_drop_lt sP hm1 hm2 HD.out (by rw [← HX.out, ← HY.out]; exact h)
           rw [ord_lt (by omega), ord_lt (by omega)]
         · have := val_drop_lt sQ hm2 hm1 HD.out.symm (by rw [← HX.out, ← HY.out]; omega)
           rw [ord_gt (by omega), ord_gt (by omega)]
        have e1 : ((x : Int) != (y : Int)) = true := by simp; omega
        clear hxy; go_wp2_with fail
        go_quiet (fail)
        go_wp2_with fail
        go_quiet ((go_at_call 99; exact quiet_add_left (cmpCompare_any _ _ _)))
        go_wp2_with fail
        go_ret
        exact ⟨ret_int HO.out, below_drewN (below_drewN HB.out _) _⟩
    · obtain rfl : k = 0 := by omega
      have em : ((0 : Nat) : Int) - 1 = -1 := rfl; rw [em]; clear em
      have HO : Hid (ord a b = 0) := by
       show _ = _
       have h1 := HD.out; rw [List.drop_zero, List.drop_zero, HP.out, HQ.out] at h1; rw [digs_inj h1, ord_eq]
      go_wp2_with fail
      go_ret
      exact ⟨ret_int HO.out.symm, HB.out⟩
 · have HO : Hid (ord P.length Q.length = ord a b) := by
    show _ = _
    rcases Nat.lt_or_ge P.length Q.length with h | h
    · have := digs_len_le_of_lt (a := a) (b := b) (by rw [← HP.out, ← HQ.out]; exact h)
      rw [ord_lt (by omega), ord_lt (by omega)]
    · have := digs_len_le_of_lt (a := b) (b := a) (by rw [← HP.out, ← HQ.out]; omega)
      rw [ord_gt (by omega), ord_gt (by omega)]
   have e1 : ((P.length : Int) != (Q.length : Int)) = true := by simp; omega
   clear hl; go_enter Tryz.func100, Tryz.ntmps100
   go_wp2_with (go_at_call 99; refine (cmpCompare_any _ _ _).mono ?_; rintro e w' ⟨rfl, rfl⟩)
   go_ret
   exact ⟨ret_int HO.out, Below.refl _ _⟩
variable {G : Nat}
def sg (z : Int) : Int := z.sign
def ln (z : Int) : Nat := (digs z.natAbs).length
theorem sg_zero : sg 0 = 0 := rfl
def Ty (G : Nat) (w : World) (a : Option Addr) (n : Nat) : Prop := n = 0 ∨ ∀ b off, a = some ⟨b, off, none⟩ → b < G ∨ ∃ cs fr, w.heap[b]? = some (.cells cs 3 fr)
theorem Ty.keep {w w' : World} {a : Option Addr} {n : Nat} (h : Ty G w a n) (hb : Below w.heap.size w w') : Ty G w' a n := by
 rcases h with h | h
 · exact .inl h
 · refine .inr fun b off ha => ?_
   rcases h b off ha with h1 | ⟨cs, fr, h1⟩
   · exact .inl h1
   · refine .inr ⟨cs, fr, ?_⟩
     rw [hb.block b (lt_of_block h1)]; exact h1
theorem Ty.mono {G' : Nat} {w : World} {a : Option Addr} {n : Nat} (h : Ty G w a n) (hG : G ≤ G') : Ty G' w a n := by
 rcases h with h | h
 · exact .inl h
 · exact .inr fun b off ha => (h b off ha).imp (fun h1 => by omega) id
theorem OwnN.ty {w : World} {B : Nat} {a : Option Addr} {n c : Nat} {l : Digs} (h : OwnN w B (.slice a n c) l) : Ty G w a n := by
 rcases h.2 with ⟨h1, h2⟩ | ⟨g, cap, cur, h1, h2, h3, h4⟩
 · simp only [Value.slice.injEq] at h1; exact .inl h1.2.1
 · simp only [Value.slice.injEq] at h1
   refine .inr fun b off ha => ?_; rw [h1.1] at ha
   cases ha
   exact .inr ⟨cur, (0, 0), h3⟩
structure BD (G : Nat) (w : World) (a : Option Addr) (c : Nat) (z : Int) : Prop where
 rd : RdN w (.slice a (ln z) c) (digs z.natAbs)
 le : ln z ≤ c
 ty : Ty G w a (ln z)
theorem BD.up {G' : Nat} {w : World} {a : Option Addr} {c : Nat} {z : Int} (h : BD G w a c z) (hG : G ≤ G') : BD G' w a c z := ⟨h.rd, h.le, h.ty.mono hG⟩
theorem BD.keep {w w' : World} {a : Option Addr} {c : Nat} {z : Int} (h : BD G w a c z) (hb : Below w.heap.size w w') : BD G w' a c z := ⟨h.rd.keep hb, h.le, h.ty.keep hb⟩
theorem bd_zero (w : World) (a : Option Addr) (c : Nat) : BD G w a c 0 := ⟨rdN_nil w c a, Nat.zero_le _, .inl rfl⟩
def BigIs (G : Nat) (w : World) (v : Value) (z : Int) : Prop := ∃ a c, v = .agg #[.int .i64 (sg z), .slice a (ln z) c] ∧ BD G w a c z
theorem BigIs.keep {w w' : World} {v : Value} {z : Int} (h : BigIs G w v z) (hb : Below w.heap.size w w') : BigIs G w' v z := by
 obtain ⟨a, c, hv, hd⟩ := h; exact ⟨a, c, hv, hd.keep hb⟩
theorem bigIs_zero (w : World) (c : Nat) (a : Option Addr) : BigIs G w (.agg #[.int .i64 0, .slice a 0 c]) 0 := ⟨_, _, rfl, bd_zero w a c⟩
theorem bigIs_mk {w : World} {a : Option Addr} {c m : Nat} {s : Int} {n : Nat} (h : RdN w (.slice a m c) (digs n)) (hy : Ty G w a m) (hm : m = (digs n).length) (hc : m ≤ c) (hn : n ≠ 0) (hs : s = 1 ∨ s = -1) : BigIs G w (.agg #[.int .i64 s, .slice a m c]) (s * n) := by
 have h1 : sg (s * (n : Int)) = s := by rcases hs with rfl | rfl <;> simp [sg] <;> omega
 have h2 : (s * (n : Int)).natAbs = n := by rcases hs with rfl | rfl <;> simp
 subst hm; exact ⟨a, c, by rw [h1, ln, h2], by unfold ln; rw [h2]; exact h, by unfold ln; rw [h2]; exact hc, by unfold ln; rw [h2]; exact hy⟩
theorem signed_any (B : Nat) (s : Int) (v : Value) (l : Digs) (w : World) (h : OwnN w B v l) (hs : small l) (hn : l.length ≤ 8796093022208) (h1 : val l ≠ 0 → s = 1 ∨ s = -1) :
 Calls Tryz.prog 71 #[.int .i64 s, v] w fun e w' => ∃ r, e = .returned r ∧ BigIs G w' r (s * val l) ∧ Below w.heap.size w w' := by
 have HO := Lib.hid h; clear h; have HS := Lib.hid hs; clear hs; have H1 := Lib.hid h1; clear h1; go_enter Tryz.func71, Tryz.ntmps71
 go_wp2_with fail
 refine (bigTrim_all B v l _ ?_ HS.out hn).mono ?_
 · exact HO.out.keep ((Below.refl _ _).alloc (Nat.le_refl _) _)
 rintro e w1 ⟨v', rfl, ha, rfl⟩; have ho := ha _ _ HO.out; clear ha; rcases ho.shape with ⟨rfl, hl⟩ | ⟨g, cap, rfl, hg, hlt, hcap⟩
 · have hv : val l = 0 := digs_nil.1 hl
   have HV := Lib.hid hv; clear hv hl ho; go_wp2_with fail
   go_returns
   exact ⟨_, rfl, by rw [HV.out, Int.natCast_zero, Int.mul_zero]; exact bigIs_zero _ _ _, by go_grown⟩
 · have HO2 := Lib.hid ho; clear ho
   by_cases hv : (digs (val l)).length = 0
   · have hv0 : Hid (val l = 0) := digs_nil.1 (List.length_eq_zero_iff.1 hv)
     have e0 : (((digs (val l)).length : Int) == 0) = true := by rw [beq_iff_eq]; omega
     clear hv; go_wp2_with fail
     go_returns
     exact ⟨_, rfl, by rw [hv0.out, Int.natCast_zero, Int.mul_zero]; exact bigIs_zero _ _ _, by go_grown⟩
   · have hv0 : val l ≠ 0 := fun h => hv (by rw [h]; rfl)
     have HV := Lib.hid hv0; have HS1 := Lib.hid (H1.out hv0); clear hv0; have e0 : (((digs (val l)).length : Int) == 0) = false := by rw [beq_eq_false_iff_ne]; omega
     clear hv; go_wp2_with fail
     go_returns
     exact ⟨_, rfl, bigIs_mk (m := (digs (val l)).length) (HO2.out.rd.keep ((Below.refl _ _).alloc (Nat.le_refl _) _)) (HO2.out.ty.keep ((Below.refl _ _).alloc (Nat.le_refl _) _)) rfl hcap HV.out HS1.out, by go_grown⟩
end Go.Proofs.YtlcgckelamhnpaaGreat
