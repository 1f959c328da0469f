/- Walks of the verifier's reference: a big integer of an int. -/
import Derived.Test.YtlcgckelamhnpaaGreatFz
import Derived.Test.YtlcgckelamhnpaaGreatRefS
set_option maxRecDepth 100000
set_option maxHeartbeats 8000000
namespace Go.Proofs.YtlcgckelamhnpaaGreat
open Go.RowKit
def dg (l : Digs) (i : Nat) : Nat := l.getD i 0
theorem dg_lt {l : Digs} {i : Nat} (h : i < l.length) : dg l i = l[i] := by simp [dg, h]
theorem dg_ge {l : Digs} {i : Nat} (h : l.length ≤ i) : dg l i = 0 := by simp [dg, h]
theorem dg_small {l : Digs} (h : small l) (i : Nat) : dg l i < 1048576 := by
 rcases Nat.lt_or_ge i l.length with h' | h'
 · rw [dg_lt h']; exact small_get h i h'
 · rw [dg_ge h']; omega
theorem val_drop_step (l : Digs) (k : Nat) : val (l.drop k) = dg l k + 1048576 * val (l.drop (k + 1)) := by
 rcases Nat.lt_or_ge k l.length with h | h
 · rw [List.drop_eq_getElem_cons h, val, dg_lt h]
 · rw [List.drop_of_length_le h, List.drop_of_length_le (by omega), dg_ge h]; rfl
theorem val_take_step (l : Digs) (k : Nat) : val (l.take (k + 1)) = val (l.take k) + 1048576 ^ k * dg l k := by
 rcases Nat.lt_or_ge k l.length with h | h
 · rw [val_take_succ l k h, dg_lt h]
 · rw [val_take_all (by omega), val_take_all h, dg_ge h]; simp
theorem val_split' (l : Digs) (k : Nat) : val l = val (l.take k) + 1048576 ^ k * val (l.drop k) := by
 rcases Nat.lt_or_ge k l.length with h | h
 · exact val_split l k (by omega)
 · rw [val_take_all h, List.drop_of_length_le h]; simp [val]
theorem val_take_lt {l : Digs} (h : small l) (k : Nat) : val (l.take k) < 1048576 ^ k :=
 Nat.lt_of_lt_of_le (val_lt (small_take h k)) (Nat.pow_le_pow_right (by omega) (by rw [List.length_take]; omega))
theorem digit_ok (v : Value) (L : Digs) (i : Nat) (w : World) (h : RdN w v L) (_hn : L.length ≤ 1099511627776) (_hi : i ≤ 4398046511104) :
 Calls Tryz.prog 117 #[v, .int .i64 i] w fun e w' => e = .returned (.int .i64 (dg L i : Nat)) ∧ w = w' := by
 obtain ⟨a, cap, rfl⟩ := h.shape
 by_cases hlt : i < L.length
 · obtain ⟨b, off, rfl, hb, hcell⟩ := h.at hlt
   have HD := hI (dg_lt hlt); obtain ⟨d, hd⟩ : ∃ d, d = L[i] := ⟨_, rfl⟩; rw [← hd] at hcell HD; clear hd h; go_enter Tryz.func117, Tryz.ntmps117
   go_wp2_with fail
   go_ret
   exact ⟨ret_int (by rw [HD.out]), rfl⟩
 · have HD := hI (dg_ge (l := L) (i := i) (by omega))
   clear h; go_enter Tryz.func117, Tryz.ntmps117
   go_wp2_with fail
   go_ret
   exact ⟨ret_int (by rw [HD.out]; rfl), rfl⟩
def lessB (A B : Digs) : Bool := decide (val A < val B)
theorem less_at {A B : Digs} (sA : small A) (sB : small B) {k : Nat} (hd : val (A.drop (k + 1)) = val (B.drop (k + 1))) (hne : dg A k ≠ dg B k) : lessB A B = decide (dg A k < dg B k) := by
 have a1 := val_split' A k; have b1 := val_split' B k; rw [val_drop_step, hd] at a1; rw [val_drop_step] at b1; have a2 := val_take_lt sA k; have b2 := val_take_lt sB k; generalize val (B.drop (k + 1)) = t at *; generalize 1048576 ^ k = e at *; rw [lessB, decide_eq_decide]
 constructor
 · intro h
   rcases Nat.lt_or_ge (dg A k) (dg B k) with h' | h'
   · exact h'
   · exfalso
     have h3 := Nat.mul_le_mul_left e (show dg B k + 1 + 1048576 * t ≤ dg A k + 1048576 * t by omega); rw [show dg B k + 1 + 1048576 * t = (dg B k + 1048576 * t) + 1 by omega, Nat.mul_add] at h3
     omega
 · intro h
   have h3 := Nat.mul_le_mul_left e (show dg A k + 1 + 1048576 * t ≤ dg B k + 1048576 * t by omega); rw [show dg A k + 1 + 1048576 * t = (dg A k + 1048576 * t) + 1 by omega, Nat.mul_add] at h3
   omega
theorem less_ok (p q : Value) (A B : Digs) (w : World) (hp : RdN w p A) (hq : RdN w q B) (sA : small A) (sB : small B) (hn : A.length ≤ 1099511627776) (hm : B.length ≤ 1099511627776) :
 Calls Tryz.prog 84 #[p, q] w fun e w' => e = .returned (.bool (lessB A B)) ∧ Below w.heap.size w w' := by
 have HP := hI hp; have HQ := hI hq; obtain ⟨a1, cap1, rfl⟩ := hp.shape; obtain ⟨a2, cap2, rfl⟩ := hq.shape; clear hp hq
 by_cases hab : A.length < B.length
 · have HM1 : Hid (A.length ≤ B.length ∧ B.length ≤ B.length) := ⟨by omega, by omega⟩
   go_enter Tryz.func84, Tryz.ntmps84
   go_wp2_with fail
   go_loopw [5] (fun i wr => ∃ k : Nat, k ≤ B.length ∧ i = .int .i64 ((k : Int) - 1) ∧ Hid (val (A.drop k) = val (B.drop k)) ∧ Hid (Below w.heap.size w wr)) (fun i _ => (intOf i + 1).toNat)
   case atStart => exact ⟨B.length, Nat.le_refl _, rfl, by show _ = _; rw [List.drop_of_length_le HM1.out.1, List.drop_of_length_le HM1.out.2], Below.refl _ _⟩
   case round =>
    obtain ⟨k, hk, rfl, HD, HB⟩ := hrel
    by_cases h0 : 0 < k
    · obtain ⟨m, rfl⟩ : ∃ m, k = m + 1 := ⟨k - 1, by omega⟩
      have em : (((m + 1 : Nat) : Int) - 1) = (m : Int) := by omega
      rw [em]; clear em; have hmb : m ≤ 4398046511104 := by omega
      obtain ⟨x, hx⟩ : ∃ x, x = dg A m := ⟨_, rfl⟩; obtain ⟨y, hy⟩ : ∃ y, y = dg B m := ⟨_, rfl⟩; have HX := hI hx; have HY := hI hy; clear hx hy
      by_cases hxy : x = y
      · have e1 : ((x : Int) != (y : Int)) = false := by simp [hxy]
        have HD2 : Hid (val (A.drop m) = val (B.drop m)) := by show _ = _; rw [val_drop_step, val_drop_step B, HD.out, ← HX.out, ← HY.out, hxy]
        clear hxy; go_wp2_with (first | (go_at_call_of 117 (Value.slice a1 A.length cap1); refine (digit_ok _ A m _ (HP.out.keep HB.out) hn hmb).mono ?_; rintro e w' ⟨rfl, rfl⟩; rw [← HX.out]) | (go_at_call 117; refine (digit_ok _ B m _ (HQ.out.keep HB.out) hm hmb).mono ?_; rintro e w' ⟨rfl, rfl⟩; rw [← HY.out]))
        go_roundw
        case rel => exact ⟨m, by omega, rfl, HD2, HB⟩
        case measure => simp [intOf]
      · have e1 : ((x : Int) != (y : Int)) = true := by simp; omega
        have HR : Hid (lessB A B = decide (x < y)) := by show _ = _; rw [HX.out, HY.out]; exact less_at sA sB HD.out (by rw [← HX.out, ← HY.out]; exact hxy)
        clear hxy; go_wp2_with (first | (go_at_call_of 117 (Value.slice a1 A.length cap1); refine (digit_ok _ A m _ (HP.out.keep HB.out) hn hmb).mono ?_; rintro e w' ⟨rfl, rfl⟩; rw [← HX.out]) | (go_at_call 117; refine (digit_ok _ B m _ (HQ.out.keep HB.out) hm hmb).mono ?_; rintro e w' ⟨rfl, rfl⟩; rw [← HY.out]))
        go_ret
        exact ⟨ret_bool (by rw [HR.out]), HB.out⟩
    · obtain rfl : k = 0 := by omega
      have em : ((0 : Nat) : Int) - 1 = -1 := rfl; rw [em]; clear em
      have HR : Hid (lessB A B = false) := by
       show _ = _
       have := HD.out; rw [List.drop_zero, List.drop_zero] at this; rw [lessB, decide_eq_false_iff_not]; omega
      go_wp2_with fail
      go_ret
      exact ⟨ret_bool HR.out.symm, HB.out⟩
 · have HM1 : Hid (A.length ≤ A.length ∧ B.length ≤ A.length) := ⟨by omega, by omega⟩
   go_enter Tryz.func84, Tryz.ntmps84
   go_wp2_with fail
   go_loopw [5] (fun i wr => ∃ k : Nat, k ≤ A.length ∧ i = .int .i64 ((k : Int) - 1) ∧ Hid (val (A.drop k) = val (B.drop k)) ∧ Hid (Below w.heap.size w wr)) (fun i _ => (intOf i + 1).toNat)
   case atStart => exact ⟨A.length, Nat.le_refl _, rfl, by show _ = _; rw [List.drop_of_length_le HM1.out.1, List.drop_of_length_le HM1.out.2], Below.refl _ _⟩
   case round =>
    obtain ⟨k, hk, rfl, HD, HB⟩ := hrel
    by_cases h0 : 0 < k
    · obtain ⟨m, rfl⟩ : ∃ m, k = m + 1 := ⟨k - 1, by omega⟩
      have em : (((m + 1 : Nat) : Int) - 1) = (m : Int) := by omega
      rw [em]; clear em; have hmb : m ≤ 4398046511104 := by omega
      obtain ⟨x, hx⟩ : ∃ x, x = dg A m := ⟨_, rfl⟩; obtain ⟨y, hy⟩ : ∃ y, y = dg B m := ⟨_, rfl⟩; have HX := hI hx; have HY := hI hy; clear hx hy
      by_cases hxy : x = y
      · have e1 : ((x : Int) != (y : Int)) = false := by simp [hxy]
        have HD2 : Hid (val (A.drop m) = val (B.drop m)) := by show _ = _; rw [val_drop_step, val_drop_step B, HD.out, ← HX.out, ← HY.out, hxy]
        clear hxy; go_wp2_with (first | (go_at_call_of 117 (Value.slice a1 A.length cap1); refine (digit_ok _ A m _ (HP.out.keep HB.out) hn hmb).mono ?_; rintro e w' ⟨rfl, rfl⟩; rw [← HX.out]) | (go_at_call 117; refine (digit_ok _ B m _ (HQ.out.keep HB.out) hm hmb).mono ?_; rintro e w' ⟨rfl, rfl⟩; rw [← HY.out]))
        go_roundw
        case rel => exact ⟨m, by omega, rfl, HD2, HB⟩
        case measure => simp [intOf]
      · have e1 : ((x : Int) != (y : Int)) = true := by simp; omega
        have HR : Hid (lessB A B = decide (x < y)) := by show _ = _; rw [HX.out, HY.out]; exact less_at sA sB HD.out (by rw [← HX.out, ← HY.out]; exact hxy)
        clear hxy; go_wp2_with (first | (go_at_call_of 117 (Value.slice a1 A.length cap1); refine (digit_ok _ A m _ (HP.out.keep HB.out) hn hmb).mono ?_; rintro e w' ⟨rfl, rfl⟩; rw [← HX.out]) | (go_at_call 117; refine (digit_ok _ B m _ (HQ.out.keep HB.out) hm hmb).mono ?_; rintro e w' ⟨rfl, rfl⟩; rw [← HY.out]))
        go_ret
        exact ⟨ret_bool (by rw [HR.out]), HB.out⟩
    · obtain rfl : k = 0 := by omega
      have em : ((0 : Nat) : Int) - 1 = -1 := rfl; rw [em]; clear em
      have HR : Hid (lessB A B = false) := by
       show _ = _
       have := HD.out; rw [List.drop_zero, List.drop_zero] at this; rw [lessB, decide_eq_false_iff_not]; omega
      go_wp2_with fail
      go_ret
      exact ⟨ret_bool HR.out.symm, HB.out⟩
theorem wpList_appendNil {ops : Array Oper} {rest : List Oper} {o : Oper} {a : Act} {Q : Exit → Act → World → Prop} (hgd : o.guard = none) (s x : Operand)
 (ho : o.op = .call { callee := .builtin .append, args := #[s, x], argTypes := #[32, 32] }) (w : World) (B : Nat) (v : Value) (l : Digs) (hs : a.eval s = v) (hown : OwnN w B v l) (c : Nat) (hx : a.eval x = .slice none 0 c)
 (h : wpList Tryz.prog ops Q rest (a.put o.dst v) w) : wpList Tryz.prog ops Q (o :: rest) a w := by
 refine wpList_plain hgd fun K hK => ?_; obtain ⟨i0, hi, -, -, -⟩ := info_parts elemInt.info
 have hrun : (Builtin.append_ #[32, 32] o.type #[v, .slice none 0 c]).run Tryz.prog w = .ok v w := by
  rcases hown.2 with ⟨rfl, h0⟩ | ⟨g, cap, cur, rfl, _, _, hnc, _⟩
  · simp [Builtin.append_, run_underlying elemInt.under, sizeOf, typeInfo, hi, Builtin.lenOf, Builtin.firstCells]
  · simp [Builtin.append_, run_underlying elemInt.under, sizeOf, typeInfo, hi, Builtin.lenOf, Builtin.firstCells, hnc, storeCells]
 unfold Oper.wp execOp; simp only [ho, resolve, invoke, builtin, Sem.run_bind, Sem.run_pure, Result.andThen_ok, List.map_toArray, List.map_cons, List.map_nil, hs, hx, hrun]; exact hK _ _ h
theorem nil_of_none {w : World} {n c : Nat} {l : Digs} (h : RdN w (.slice none n c) l) : l = [] := by
 cases l with
 | nil => rfl
 | cons d r => obtain ⟨b, off, ha, -⟩ := h.at (k := 0) (by simp); cases ha
theorem refTrim_ok (a : Option Addr) (cap : Nat) (l : Digs) (w : World) (h : RdN w (.slice a l.length cap) l) (hs : small l) (hn : l.length ≤ 8796093022208) (hcp : l.length ≤ cap) :
 Calls Tryz.prog 116 #[.slice a l.length cap] w fun e w' => ∃ v', e = .returned v' ∧ OwnN w' w.heap.size v' (digs (val l)) ∧ Below w.heap.size w w' := by
 have h0 : OwnN (w.alloc (.cells #[] 3)) w.heap.size (.slice (some ⟨w.heap.size, 0, none⟩) 0 0) [] := World.ownsRow_lit w #[] 0 (Nat.le_refl _) (by unfold maxLen; omega) rfl; have H0 := hI h0; clear h0; have HB := hI ((Below.refl w.heap.size w).alloc (Nat.le_refl _) (.cells #[] 3))
 cases a with
 | none =>
  have hl := nil_of_none h; subst hl; clear h; go_enter Tryz.func116, Tryz.ntmps116
  go_wp2_with fail
  go_loop [3] (fun i => i = .int .i64 0) (fun _ => 0)
  case atStart => rfl
  case round =>
   obtain rfl := hrel; go_wp2_with (at_builtin; go_must (refine wpList_appendNil rfl _ _ rfl (w.alloc (.cells #[] 3)) w.heap.size (.slice (some ⟨w.heap.size, 0, none⟩) 0 0) [] rfl H0.out cap rfl ?_))
   go_ret
   exact ⟨_, rfl, H0.out, HB.out⟩
 | some ad =>
  have HR := hI h; clear h; go_enter Tryz.func116, Tryz.ntmps116
  go_wp2_with fail
  go_loop [3] (fun i => ∃ k : Nat, k ≤ l.length ∧ i = .int .i64 k ∧ Hid (∀ j (h : j < l.length), k ≤ j → l[j] = 0)) (fun i => (intOf i).toNat)
  case atStart => exact ⟨l.length, Nat.le_refl _, rfl, fun j h hj => by omega⟩
  case round =>
   obtain ⟨k, hk, rfl, HZ⟩ := hrel
   by_cases h0 : 0 < k
   · have hk1 : k - 1 < l.length := by omega
     obtain ⟨b, off, ha, hb, hcell⟩ := HR.out.at hk1; obtain ⟨d, hd⟩ : ∃ d, d = l[k - 1] := ⟨_, rfl⟩; rw [← hd] at hcell; obtain ⟨m, rfl⟩ : ∃ m, k = m + 1 := ⟨k - 1, by omega⟩; rw [Nat.add_sub_cancel] at hcell; have hd' : d = l[m] := hd; have HD := hI hd'; clear hd hd'; have had : ad = ⟨b, off, none⟩ := by cases ha; rfl
     subst had; clear ha
     by_cases hd0 : d = 0
     · have e1 : ((d : Int) == 0) = true := by rw [beq_iff_eq]; omega
       have H1 := hI hd0; clear hd0; go_wp2_with fail
       go_round
       case rel => exact ⟨m, by omega, by go_num, fun j hj hjm => by
        rcases Nat.lt_or_ge m j with h' | h'
        · exact HZ.out j hj (by omega)
        · obtain rfl : j = m := by omega
          rw [← HD.out]; exact H1.out⟩
       case measure => simp [intOf]
     · have e1 : ((d : Int) == 0) = false := by rw [beq_eq_false_iff_ne]; omega
       have H1 := hI hd0; clear hd0; have ht := hI (trim_take hs hk HZ.out (.inr ⟨by simpa using hk1, by simp only [Nat.add_sub_cancel]; rw [← HD.out]; exact H1.out⟩)); go_wp2_with (at_builtin; go_must (refine wpList_appendN rfl _ _ rfl (w.alloc (.cells #[] 3)) w.heap.size (.slice (some ⟨w.heap.size, 0, none⟩) 0 0) [] rfl H0.out ⟨b, off, none⟩ (m + 1) cap (l.take (m + 1)) rfl (by rw [List.length_take]; omega) ((HR.out.keep HB.out).take hk) (by simp; omega) (by simp) ?_; intro v' w1 ho hg hb))
       go_ret
       exact ⟨v', rfl, by rw [← ht.out]; exact ho, HB.out.trans hb⟩
   · obtain rfl : k = 0 := by omega
     have ht := hI (trim_take hs hk HZ.out (.inl rfl)); go_wp2_with (at_builtin; go_must (refine wpList_appendN rfl _ _ rfl (w.alloc (.cells #[] 3)) w.heap.size (.slice (some ⟨w.heap.size, 0, none⟩) 0 0) [] rfl H0.out ad 0 cap (l.take 0) rfl (by simp) ((HR.out.keep HB.out).take hk) (by simp) (by simp) ?_; intro v' w1 ho hg hb))
     go_ret
     exact ⟨v', rfl, by rw [← ht.out]; exact ho, HB.out.trans hb⟩
theorem OwnN.sl {w : World} {B : Nat} {v : Value} {l : Digs} (h : OwnN w B v l) : ∃ a c, v = .slice a l.length c ∧ l.length ≤ c := by
 rcases h.shape with ⟨h1, h2⟩ | ⟨g, cap, h1, -, -, h3⟩
 · subst h2; exact ⟨none, 0, h1, Nat.le_refl _⟩
 · exact ⟨_, _, h1, h3⟩
theorem refTrim_own {w : World} {B : Nat} {v : Value} {l : Digs} (h : OwnN w B v l) (hs : small l) (hn : l.length ≤ 8796093022208) :
 Calls Tryz.prog 116 #[v] w fun e w' => ∃ v', e = .returned v' ∧ OwnN w' w.heap.size v' (digs (val l)) ∧ Below w.heap.size w w' := by
 obtain ⟨a, c, rfl, hc⟩ := h.sl; exact refTrim_ok a c l w h.rd hs hn hc
theorem plus_step {v a b e x y cy m c : Nat} (h : v + e * cy = a + b) (h2 : m + 1048576 * c = x + y + cy) : v + e * m + e * 1048576 * c = (a + e * x) + (b + e * y) := by grind
theorem plus_ok (p q : Value) (A B : Digs) (w : World) (hp : RdN w p A) (hq : RdN w q B) (sA : small A) (sB : small B) (hn : A.length ≤ 1099511627776) (hm : B.length ≤ 1099511627776) :
 Calls Tryz.prog 83 #[p, q] w fun e w' => ∃ v, e = .returned v ∧ OwnN w' w.heap.size v (digs (val A + val B)) ∧ Below w.heap.size w w' := by
 have HP := hI hp; have HQ := hI hq; obtain ⟨a1, cap1, rfl⟩ := hp.shape; obtain ⟨a2, cap2, rfl⟩ := hq.shape; clear hp hq; go_enter Tryz.func83, Tryz.ntmps83
 go_wp2_with fail
 go_slots
 go_loopw [5, 6, 7] (fun v c i wr => ∃ (k cy : Nat) (os : Digs), k ≤ A.length + B.length + 1 ∧ (k ≤ A.length ∨ k ≤ B.length ∨ cy = 0) ∧ cy ≤ 1 ∧ os.length = k ∧ c = .int .i64 cy ∧ i = .int .i64 k ∧ Hid (small os) ∧ Hid (val os + 1048576 ^ k * cy = val (A.take k) + val (B.take k)) ∧ Hid (OwnN wr w.heap.size v os) ∧ Hid (Below w.heap.size w wr)) (fun _ c i _ => 2 * (A.length + B.length - (intOf i).toNat) + (intOf c).toNat)
 case atStart => exact ⟨0, 0, [], by omega, .inr (.inr rfl), by omega, rfl, rfl, rfl, small_nil, by show _ = _; simp [val], ownN_nil _ _, Below.refl _ _⟩
 case round =>
  obtain ⟨k, cy, os, hk, hkc, hcy, hlo, rfl, rfl, HS, HE, HW, HB⟩ := hrel; obtain ⟨x, hx⟩ : ∃ x, x = dg A k := ⟨_, rfl⟩; obtain ⟨y, hy⟩ : ∃ y, y = dg B k := ⟨_, rfl⟩; have hxs : x < 1048576 := by rw [hx]; exact dg_small sA k
  have hys : y < 1048576 := by rw [hy]; exact dg_small sB k
  have hkb : k ≤ 4398046511104 := by omega
  obtain ⟨m, hm1⟩ : ∃ m : Nat, m = (x + y + cy) % 1048576 := ⟨_, rfl⟩; obtain ⟨c, hc1⟩ : ∃ c : Nat, c = (x + y + cy) / 1048576 := ⟨_, rfl⟩; have hmod : ((x : Int) + y + cy) % 1048576 = (m : Int) := by omega
  have hdiv : ((x : Int) + y + cy) / 1048576 = (c : Int) := by omega
  have hms : m < 1048576 := by omega
  have hcs : c ≤ 1 := by omega
  have HE2 : Hid (val (os ++ [m]) + 1048576 ^ (k + 1) * c = val (A.take (k + 1)) + val (B.take (k + 1))) := by
   show _ = _
   rw [val_snoc, hlo, val_take_step, val_take_step, ← hx, ← hy, Nat.pow_succ]; exact plus_step HE.out (by omega)
  have HX := hI hx; have HY := hI hy; have HLo := hI hlo; have HA1 : Hid (OwnN (wr.alloc (.cells #[.int .i64 (m : Int)] 3)) w.heap.size u5 os) := HW.out.keep (below_alloc _ _); have HL1 : Hid (RdN (wr.alloc (.cells #[.int .i64 (m : Int)] 3)) (.slice (some ⟨wr.heap.size, 0, none⟩) 1 1) [m]) := (own_lit1 wr wr.heap.size m (Nat.le_refl _)).rd; have hsz : w.heap.size ≤ wr.heap.size := HB.out.size
  have HC0 : Hid (A.length ≤ k → B.length ≤ k → c = 0) := by
   intro h1 h2
   rw [dg_ge h1] at hx; rw [dg_ge h2] at hy
   omega
  have HM := hI hm1; have HCc := hI hc1; clear hx hy hm1 hc1
  by_cases h1 : k < A.length
  · have e1 : decide ((k : Int) < (A.length : Int)) = true := by rw [decide_eq_true_eq]; omega
    clear hlo; go_wp2_with (first | (go_at_call_of 117 (Value.slice a1 A.length cap1); refine (digit_ok _ A k _ (HP.out.keep HB.out) hn hkb).mono ?_; rintro e w' ⟨rfl, rfl⟩; rw [← HX.out]) | (go_at_call 117; refine (digit_ok _ B k _ (HQ.out.keep HB.out) hm hkb).mono ?_; rintro e w' ⟨rfl, rfl⟩; rw [← HY.out]) | (at_builtin; go_must (refine wpList_appendN rfl _ _ rfl (wr.alloc (.cells #[.int .i64 (m : Int)] 3)) w.heap.size u5 os rfl HA1.out ⟨wr.heap.size, 0, none⟩ 1 1 [m] rfl rfl HL1.out (by have := HLo.out; simp; omega) (by simp; omega) ?_; intro v' w1 ho hg hb)))
    have HO2 := hI ho; have HB2 : Hid (Below w.heap.size w w1) := (HB.out.alloc hsz _).trans hb; clear ho hg hb; go_roundw
    case rel => exact ⟨k + 1, c, os ++ [m], by omega, .inl (by omega), hcs, by rw [List.length_append, HLo.out]; rfl, by first | rfl | rw [hdiv], by go_num, small_append HS.out (small_one hms), HE2, HO2.out, HB2.out⟩
    case measure => simp [intOf]; omega
  · have e1 : decide ((k : Int) < (A.length : Int)) = false := by rw [decide_eq_false_iff_not]; omega
    by_cases h2 : k < B.length
    · have e2 : decide ((k : Int) < (B.length : Int)) = true := by rw [decide_eq_true_eq]; omega
      clear hlo; go_wp2_with (first | (go_at_call_of 117 (Value.slice a1 A.length cap1); refine (digit_ok _ A k _ (HP.out.keep HB.out) hn hkb).mono ?_; rintro e w' ⟨rfl, rfl⟩; rw [← HX.out]) | (go_at_call 117; refine (digit_ok _ B k _ (HQ.out.keep HB.out) hm hkb).mono ?_; rintro e w' ⟨rfl, rfl⟩; rw [← HY.out]) | (at_builtin; go_must (refine wpList_appendN rfl _ _ rfl (wr.alloc (.cells #[.int .i64 (m : Int)] 3)) w.heap.size u5 os rfl HA1.out ⟨wr.heap.size, 0, none⟩ 1 1 [m] rfl rfl HL1.out (by have := HLo.out; simp; omega) (by simp; omega) ?_; intro v' w1 ho hg hb)))
      have HO2 := hI ho; have HB2 : Hid (Below w.heap.size w w1) := (HB.out.alloc hsz _).trans hb; clear ho hg hb; go_roundw
      case rel => exact ⟨k + 1, c, os ++ [m], by omega, .inr (.inl (by omega)), hcs, by rw [List.length_append, HLo.out]; rfl, by first | rfl | rw [hdiv], by go_num, small_append HS.out (small_one hms), HE2, HO2.out, HB2.out⟩
      case measure => simp [intOf]; omega
    · have e2 : decide ((k : Int) < (B.length : Int)) = false := by rw [decide_eq_false_iff_not]; omega
      by_cases h3 : 0 < cy
      · have e3 : decide ((0 : Int) < (cy : Int)) = true := by rw [decide_eq_true_eq]; omega
        have e4 : decide (0 < cy) = true := by rw [decide_eq_true_eq]; omega
        clear hlo; go_wp2_with (first | (go_at_call_of 117 (Value.slice a1 A.length cap1); refine (digit_ok _ A k _ (HP.out.keep HB.out) hn hkb).mono ?_; rintro e w' ⟨rfl, rfl⟩; rw [← HX.out]) | (go_at_call 117; refine (digit_ok _ B k _ (HQ.out.keep HB.out) hm hkb).mono ?_; rintro e w' ⟨rfl, rfl⟩; rw [← HY.out]) | (at_builtin; go_must (refine wpList_appendN rfl _ _ rfl (wr.alloc (.cells #[.int .i64 (m : Int)] 3)) w.heap.size u5 os rfl HA1.out ⟨wr.heap.size, 0, none⟩ 1 1 [m] rfl rfl HL1.out (by have := HLo.out; simp; omega) (by simp; omega) ?_; intro v' w1 ho hg hb)))
        have HO2 := hI ho; have HB2 : Hid (Below w.heap.size w w1) := (HB.out.alloc hsz _).trans hb; clear ho hg hb; go_roundw
        case rel => exact ⟨k + 1, c, os ++ [m], by omega, .inr (.inr (HC0.out (by omega) (by omega))), hcs, by rw [List.length_append, HLo.out]; rfl, by first | rfl | rw [hdiv], by go_num, small_append HS.out (small_one hms), HE2, HO2.out, HB2.out⟩
        case measure => have := HC0.out (by omega) (by omega); simp [intOf]; omega
      · have e3 : decide ((0 : Int) < (cy : Int)) = false := by rw [decide_eq_false_iff_not]; omega
        have e4 : decide (0 < cy) = false := by rw [decide_eq_false_iff_not]; omega
        have HV : Hid (val os = val A + val B) := by
         show _ = _
         have h4 := HE.out; obtain rfl : cy = 0 := by omega
         rw [val_take_all (by omega), val_take_all (l := B) (by omega), Nat.mul_zero, Nat.add_zero] at h4; exact h4
        have HLn : Hid (os.length ≤ 8796093022208) := by show _ ≤ _; omega
        clear hlo; go_wp2_with fail
        refine (refTrim_own HW.out HS.out HLn.out).mono ?_; rintro e w2 ⟨v2, rfl, ho, hb⟩; rw [HV.out] at ho; have HO2 := hI (ho.mono HB.out.size); have HB2 : Hid (Below w.heap.size w w2) := HB.out.trans (hb.mono HB.out.size); clear ho hb; go_wp2_with fail
        go_ret
        exact ⟨v2, rfl, HO2.out, HB2.out⟩
theorem minus_step {p v q b bw x y m c : Nat} (h : p + b * bw = v + q) (hm : x + 1048576 * c = m + bw + y) : (p + b * x) + (b * 1048576) * c = (v + b * m) + (q + b * y) := by grind
theorem minus_ok (p q : Value) (A B : Digs) (w : World) (hp : RdN w p A) (hq : RdN w q B) (sA : small A) (sB : small B) (hle : val B ≤ val A) (hl : B.length ≤ A.length) (hn : A.length ≤ 1099511627776) :
 Calls Tryz.prog 85 #[p, q] w fun e w' => ∃ v, e = .returned v ∧ OwnN w' w.heap.size v (digs (val A - val B)) ∧ Below w.heap.size w w' := by
 have HP := hI hp; have HQ := hI hq; obtain ⟨a1, cap1, rfl⟩ := hp.shape; obtain ⟨a2, cap2, rfl⟩ := hq.shape; have hm : B.length ≤ 1099511627776 := by omega
 have HL := hI hl; have HLE := hI hle; clear hp hq hl hle; go_enter Tryz.func85, Tryz.ntmps85
 go_wp2_with fail
 go_loopw [5, 6, 7] (fun v b i wr => ∃ (k bw : Nat) (os : Digs), k ≤ A.length ∧ bw ≤ 1 ∧ os.length = k ∧ b = .int .i64 bw ∧ i = .int .i64 k ∧ Hid (small os) ∧ Hid (val (A.take k) + 1048576 ^ k * bw = val os + val (B.take k)) ∧ Hid (OwnN wr w.heap.size v os) ∧ Hid (Below w.heap.size w wr)) (fun _ _ i _ => A.length - (intOf i).toNat)
 case atStart => exact ⟨0, 0, [], by omega, by omega, rfl, rfl, rfl, small_nil, by show _ = _; simp [val], ownN_nil _ _, Below.refl _ _⟩
 case round =>
  obtain ⟨k, bw, os, hk, hbw, hlo, rfl, rfl, HS, HE, HW, HB⟩ := hrel
  by_cases h1 : k < A.length
  · obtain ⟨b, off, rfl, hb, hcell⟩ := (HP.out.keep HB.out).at h1
    obtain ⟨x, hx⟩ : ∃ x, x = A[k] := ⟨_, rfl⟩; rw [← hx] at hcell; obtain ⟨y, hy⟩ : ∃ y, y = dg B k := ⟨_, rfl⟩; have hxs : x < 1048576 := by rw [hx]; exact small_get sA k h1
    have hys : y < 1048576 := by rw [hy]; exact dg_small sB k
    have hkb : k ≤ 4398046511104 := by omega
    obtain ⟨m, hm1⟩ : ∃ m : Nat, (m : Int) = ((x : Int) - y - bw) % 1048576 := ⟨(((x : Int) - y - bw) % 1048576).toNat, by omega⟩; obtain ⟨c, hc1⟩ : ∃ c : Nat, c = if (x : Int) - y - bw < 0 then 1 else 0 := ⟨_, rfl⟩; have hsum : x + 1048576 * c = m + bw + y := by rw [hc1]; split <;> omega
    have hms : m < 1048576 := by omega
    have HE2 : Hid (val (A.take (k + 1)) + 1048576 ^ (k + 1) * c = val (os ++ [m]) + val (B.take (k + 1))) := by
     show _ = _
     rw [val_snoc, hlo, val_take_succ A k h1, val_take_step, ← hx, ← hy, Nat.pow_succ]; exact minus_step HE.out hsum
    have HX := hI hx; have HY := hI hy; have HLo := hI hlo; have hki : (k : Int) < (A.length : Int) := by omega
    clear hx hy hlo
    by_cases hneg : (x : Int) - y - bw < 0
    · have e1 : decide ((x : Int) - y - bw < 0) = true := by rw [decide_eq_true_eq]; exact hneg
      have HC1 : Hid (c = 1) := by show _ = _; rw [hc1, if_pos hneg]
      have hfin : (x : Int) - y - bw + 1048576 = (m : Int) := by omega
      have HX := hI hm1; clear hm1 hc1 hneg hsum; have wn1 : IntKind.i64.wrap ((x : Int) - (y : Int)) = (x : Int) - (y : Int) := IntWalk.i64_in _ (by omega); have wn2 : IntKind.i64.wrap ((x : Int) - (y : Int) - (bw : Int)) = (x : Int) - (y : Int) - (bw : Int) := IntWalk.i64_in _ (by omega); go_wp2_with fail
      go_quiet ((go_at_call 117; refine quiet_same (v := .int .i64 (y : Int)) ?_; rw [HY.out]; exact digit_ok _ B k _ (HQ.out.keep (below_drewN HB.out _)) hm hkb))
      rename_i nq
      clear wn1 wn2; have HA1 : Hid (OwnN ((wr.drewN nq).alloc (.cells #[.int .i64 (m : Int)] 3)) w.heap.size u5 os) := (ownN_drewN HW.out nq).keep (below_alloc _ _); have HL1 : Hid (RdN ((wr.drewN nq).alloc (.cells #[.int .i64 (m : Int)] 3)) (.slice (some ⟨(wr.drewN nq).heap.size, 0, none⟩) 1 1) [m]) := (own_lit1 (wr.drewN nq) (wr.drewN nq).heap.size m (Nat.le_refl _)).rd; have hsz : w.heap.size ≤ wr.heap.size := HB.out.size; go_wp2_with (at_builtin; go_must (refine wpList_appendN rfl _ _ rfl ((wr.drewN nq).alloc (.cells #[.int .i64 (m : Int)] 3)) w.heap.size u5 os rfl HA1.out ⟨(wr.drewN nq).heap.size, 0, none⟩ 1 1 [m] rfl rfl HL1.out (by have := HLo.out; simp; omega) (by simp; omega) ?_; intro v' w1 ho hg hb))
      have HO2 := hI ho; have HB2 : Hid (Below w.heap.size w w1) := ((below_drewN HB.out nq).alloc hsz _).trans hb; clear ho hg hb; go_roundw
      case rel => exact ⟨k + 1, c, os ++ [m], by omega, by rw [HC1.out]; omega, by rw [List.length_append, HLo.out]; rfl, by rw [HC1.out]; rfl, by go_num, small_append HS.out (small_one hms), HE2, HO2.out, HB2.out⟩
      case measure => simp [intOf]; omega
    · have e1 : decide ((x : Int) - y - bw < 0) = false := by rw [decide_eq_false_iff_not]; exact hneg
      have HC1 : Hid (c = 0) := by show _ = _; rw [hc1, if_neg hneg]
      have hfin : (x : Int) - y - bw = (m : Int) := by omega
      have HX := hI hm1; clear hm1 hc1 hneg hsum; have wn1 : IntKind.i64.wrap ((x : Int) - (y : Int)) = (x : Int) - (y : Int) := IntWalk.i64_in _ (by omega); have wn2 : IntKind.i64.wrap ((x : Int) - (y : Int) - (bw : Int)) = (x : Int) - (y : Int) - (bw : Int) := IntWalk.i64_in _ (by omega); go_wp2_with fail
      go_quiet ((go_at_call 117; refine quiet_same (v := .int .i64 (y : Int)) ?_; rw [HY.out]; exact digit_ok _ B k _ (HQ.out.keep (below_drewN HB.out _)) hm hkb))
      rename_i nq
      clear wn1 wn2; have HA1 : Hid (OwnN ((wr.drewN nq).alloc (.cells #[.int .i64 (m : Int)] 3)) w.heap.size u5 os) := (ownN_drewN HW.out nq).keep (below_alloc _ _); have HL1 : Hid (RdN ((wr.drewN nq).alloc (.cells #[.int .i64 (m : Int)] 3)) (.slice (some ⟨(wr.drewN nq).heap.size, 0, none⟩) 1 1) [m]) := (own_lit1 (wr.drewN nq) (wr.drewN nq).heap.size m (Nat.le_refl _)).rd; have hsz : w.heap.size ≤ wr.heap.size := HB.out.size; go_wp2_with (at_builtin; go_must (refine wpList_appendN rfl _ _ rfl ((wr.drewN nq).alloc (.cells #[.int .i64 (m : Int)] 3)) w.heap.size u5 os rfl HA1.out ⟨(wr.drewN nq).heap.size, 0, none⟩ 1 1 [m] rfl rfl HL1.out (by have := HLo.out; simp; omega) (by simp; omega) ?_; intro v' w1 ho hg hb))
      have HO2 := hI ho; have HB2 : Hid (Below w.heap.size w w1) := ((below_drewN HB.out nq).alloc hsz _).trans hb; clear ho hg hb; go_roundw
      case rel => exact ⟨k + 1, c, os ++ [m], by omega, by rw [HC1.out]; omega, by rw [List.length_append, HLo.out]; rfl, by rw [HC1.out]; rfl, by go_num, small_append HS.out (small_one hms), HE2, HO2.out, HB2.out⟩
      case measure => simp [intOf]; omega
  · obtain rfl : k = A.length := by omega
    have HV : Hid (val os = val A - val B) := by
     show _ = _
     have h4 := HE.out; rw [List.take_of_length_le (Nat.le_refl _), val_take_all HL.out] at h4; have h5 := val_lt HS.out; rw [hlo] at h5; exact sub_end h4 h5 HLE.out hbw
    have HLn : Hid (os.length ≤ 8796093022208) := by show _ ≤ _; omega
    clear hlo; go_wp2_with fail
    refine (refTrim_own HW.out HS.out HLn.out).mono ?_; rintro e w2 ⟨v2, rfl, ho, hb⟩; rw [HV.out] at ho; have HO2 := hI (ho.mono HB.out.size); have HB2 : Hid (Below w.heap.size w w2) := HB.out.trans (hb.mono HB.out.size); clear ho hb; go_wp2_with fail
    go_ret
    exact ⟨v2, rfl, HO2.out, HB2.out⟩
def flag (n : Int) : Nat := if n = 0 then 0 else 1
theorem flag_le (n : Int) : flag n ≤ 1 := by unfold flag; split <;> omega
theorem flag_pos {n : Int} (h : n ≠ 0) : flag n = 1 := by rw [flag, if_neg h]
theorem rtimes_ok (p q : Value) (P Q : Digs) (w : World) (hp : RdN w p P) (hq : RdN w q Q) (sp : small P) (sq : small Q) (hn : P.length ≤ 1099511627776) (hm : Q.length ≤ 1099511627776) :
 Calls Tryz.prog 82 #[p, q] w fun e w' => ∃ v, e = .returned v ∧ OwnN w' w.heap.size v (digs (val P * val Q)) ∧ Below w.heap.size w w' := by
 obtain ⟨a1, cap1, rfl⟩ := hp.shape; obtain ⟨a2, cap2, rfl⟩ := hq.shape; have HP := hI hp; clear hp; have HQ := hI hq; clear hq; go_enter Tryz.func82, Tryz.ntmps82
 go_wp2_with (at_make; go_must (refine wpList_mkints rfl _ _ rfl w w.heap.size (P.length + Q.length) _ _ rfl rfl (by simp) (by simp) (by omega) (Nat.le_refl _) ?_; intro w1 ho hb))
 have HO := hI ho; clear ho; have HB0 := hI hb; clear hb; go_loopw [6] (fun i wr => ∃ (k : Nat) (os : Digs), k ≤ P.length ∧ os.length = P.length + Q.length ∧ i = .int .i64 k ∧ Hid (small os) ∧ Hid (zerosFrom os (k + Q.length)) ∧ Hid (val os = val (P.take k) * val Q) ∧ Hid (OwnN wr w.heap.size (.slice (some ⟨w.heap.size, 0, none⟩) (P.length + Q.length) (P.length + Q.length)) os) ∧ Hid (Below w.heap.size w wr)) (fun i _ => P.length - (intOf i).toNat)
 case atStart => exact ⟨0, List.replicate (P.length + Q.length) 0, Nat.zero_le _, by simp, rfl, small_replicate _, by show zerosFrom _ _; intro j h _; simp, by show _ = _; rw [val_zeros (by simp)]; simp [val], HO, HB0⟩
 case round =>
  obtain ⟨k, os, hk, hlo, rfl, HSm, HZ, HE, HW, HB⟩ := hrel; have HLo := hI hlo
  by_cases hlt : k < P.length
  · obtain ⟨x, hx⟩ : ∃ x, x = P[k] := ⟨_, rfl⟩
    have hxs : x < 1048576 := by rw [hx]; exact small_get sp k hlt
    have HX := hI hx; clear hx hlo; go_wp2_with fail
    obtain ⟨wo, rfl⟩ : ∃ wo : World, wo = wr := ⟨_, rfl⟩; go_loopw [7, 8] (fun c i wr => ∃ (j cy : Nat) (ot : Digs), j ≤ Q.length + 1 ∧ (j ≤ Q.length ∨ cy = 0) ∧ cy < 1048576 ∧ ot.length = P.length + Q.length ∧ c = .int .i64 cy ∧ i = .int .i64 j ∧ Hid (small ot) ∧ Hid (j ≤ Q.length → zerosFrom ot (k + Q.length)) ∧ Hid (zerosFrom ot (k + 1 + Q.length)) ∧ Hid (val ot + 1048576 ^ (k + j) * cy = val os + 1048576 ^ k * (x * val (Q.take j))) ∧ Hid (OwnN wr w.heap.size (.slice (some ⟨w.heap.size, 0, none⟩) (P.length + Q.length) (P.length + Q.length)) ot) ∧ Hid (Below w.heap.size w wr)) (fun c i _ => 2 * (Q.length + 1 - (intOf i).toNat) + flag (intOf c))
    case atStart => exact ⟨0, 0, os, Nat.zero_le _, .inl (Nat.zero_le _), by omega, HLo.out, rfl, rfl, HSm, fun _ => HZ.out, zerosFrom_mono HZ.out (by omega), by show _ = _; simp [val], HW, HB⟩
    case round =>
     obtain ⟨j, cy, ot, hj, hjc, hcy, hlt2, rfl, rfl, HSm2, HZ2, HZ3, HE2, HW2, HB2⟩ := hrel; have HLt := hI hlt2
     by_cases hjl : j < Q.length
     · have e1 : decide ((j : Int) < (Q.length : Int)) = true := by rw [decide_eq_true_eq]; omega
       obtain ⟨b1, off1, rfl, hb1, hcell⟩ := (HP.out.keep HB2.out).at hlt; rw [← HX.out] at hcell; obtain ⟨y, hy⟩ : ∃ y, y = dg Q j := ⟨_, rfl⟩; have hys : y < 1048576 := by rw [hy]; exact dg_small sq j
       have hkj : k + j < ot.length := by omega
       have hold := HW2.out.cell hkj; obtain ⟨o, ho⟩ : ∃ o, o = ot[k + j] := ⟨_, rfl⟩; rw [← ho] at hold; have hos : o < 1048576 := by rw [ho]; exact small_get HSm2.out _ hkj
       have hfr := HW2.out.live (k + j); obtain ⟨z, hz⟩ : ∃ z : Nat, z = x * y := ⟨_, rfl⟩; have hzb : z ≤ 1099509530625 := by rw [hz]; exact Nat.mul_le_mul (show x ≤ 1048575 by omega) (show y ≤ 1048575 by omega)
       have hzi : ((x : Int) * (y : Int)) = (z : Int) := by rw [hz]; simp
       obtain ⟨m, hm1⟩ : ∃ m : Nat, m = (o + z + cy) % 1048576 := ⟨_, rfl⟩; obtain ⟨c, hc1⟩ : ∃ c : Nat, c = (o + z + cy) / 1048576 := ⟨_, rfl⟩; have hmod : ((o : Int) + z + cy) % 1048576 = (m : Int) := by omega
       have hdiv : ((o : Int) + z + cy) / 1048576 = (c : Int) := by omega
       have hsum : m + 1048576 * c = o + z + cy := by omega
       have hms : m < 1048576 := by omega
       have hcs : c < 1048576 := by omega
       have HE3 : Hid (val (ot.set (k + j) m) + 1048576 ^ (k + (j + 1)) * c = val os + 1048576 ^ k * (x * val (Q.take (j + 1)))) := by
        show _ = _
        rw [val_take_step Q j, ← hy]; have h1 := val_set ot (k + j) m hkj; rw [← ho] at h1; exact mul_step h1 HE2.out hsum hz
       have HZ4 : Hid (zerosFrom (ot.set (k + j) m) (k + Q.length)) := zerosFrom_set (HZ2.out (by omega)) (by omega); have HY := hI hy; obtain ⟨s, hs⟩ : ∃ s, s = k + j := ⟨_, rfl⟩; rw [← hs] at hold hfr; have his : (k : Int) + (j : Int) = (s : Int) := by omega
       have wis : IntKind.i64.wrap ((k : Int) + (j : Int)) = (s : Int) := by rw [his]; exact IntWalk.i64_in _ (by omega)
       have hsl : (s : Int) < (P.length : Int) + (Q.length : Int) := by omega
       have hsl2 : (s : Int) < ((P.length + Q.length : Nat) : Int) := by omega
       have hki : (k : Int) < (P.length : Int) := by omega
       have hjb : j ≤ 4398046511104 := by omega
       have wz : IntKind.i64.wrap (z : Int) = (z : Int) := IntWalk.i64_in _ (by omega); have wo1 : IntKind.i64.wrap ((o : Int) + (z : Int)) = (o : Int) + (z : Int) := IntWalk.i64_in _ (by omega); have wo2 : IntKind.i64.wrap ((o : Int) + (z : Int) + (cy : Int)) = (o : Int) + (z : Int) + (cy : Int) := IntWalk.i64_in _ (by omega); have HSS := hI hs; clear hy ho hlt2 hz hm1 hc1 hs hsum hkj; go_wp2_with fail
       go_quiet ((go_at_call 117; refine quiet_same (v := .int .i64 (y : Int)) ?_; rw [HY.out]; exact digit_ok _ Q j _ (HQ.out.keep (below_drewN HB2.out _)) hm hjb))
       clear wis wz wo1 wo2; go_wp2_with fail
       rename_i nq
       have HE4 : Hid (val (ot.set s m) + 1048576 ^ (k + (j + 1)) * c = val os + 1048576 ^ k * (x * val (Q.take (j + 1)))) := by show _ = _; rw [HSS.out]; exact HE3.out
       have HZ5 : Hid (j + 1 ≤ Q.length → zerosFrom (ot.set s m) (k + Q.length)) := by intro h; rw [HSS.out]; exact HZ4.out
       have HZ6 : Hid (zerosFrom (ot.set s m) (k + 1 + Q.length)) := by rw [HSS.out]; exact zerosFrom_set HZ3.out (by omega)
       go_roundw
       case rel => exact ⟨j + 1, c, ot.set s m, by omega, .inl (by omega), hcs, by rw [List.length_set]; exact HLt.out, by first | rfl | rw [hdiv], by go_num, small_set HSm2.out hms, HZ5, HZ6, HE4, (ownN_drewN HW2.out nq).set s m, (below_drewN HB2.out nq).setCell (Nat.le_refl _) _⟩
       case measure => rw [hdiv]; show 2 * (Q.length + 1 - ((j : Int) + 1).toNat) + flag (c : Int) < 2 * (Q.length + 1 - (j : Int).toNat) + flag (cy : Int); have := flag_le (c : Int); omega
     · have e1 : decide ((j : Int) < (Q.length : Int)) = false := by rw [decide_eq_false_iff_not]; omega
       by_cases hc0 : 0 < cy
       · have e2 : decide ((0 : Int) < (cy : Int)) = true := by rw [decide_eq_true_eq]; omega
         have e3 : decide (0 < cy) = true := by rw [decide_eq_true_eq]; omega
         obtain ⟨b1, off1, rfl, hb1, hcell⟩ := (HP.out.keep HB2.out).at hlt; rw [← HX.out] at hcell; obtain ⟨y, hy⟩ : ∃ y, y = dg Q j := ⟨_, rfl⟩; have hys : y < 1048576 := by rw [hy]; exact dg_small sq j
         have hkj : k + j < ot.length := by omega
         have hold := HW2.out.cell hkj; obtain ⟨o, ho⟩ : ∃ o, o = ot[k + j] := ⟨_, rfl⟩; rw [← ho] at hold; have hos : o < 1048576 := by rw [ho]; exact small_get HSm2.out _ hkj
         have hfr := HW2.out.live (k + j); obtain ⟨z, hz⟩ : ∃ z : Nat, z = x * y := ⟨_, rfl⟩; have hzb : z ≤ 1099509530625 := by rw [hz]; exact Nat.mul_le_mul (show x ≤ 1048575 by omega) (show y ≤ 1048575 by omega)
         have hzi : ((x : Int) * (y : Int)) = (z : Int) := by rw [hz]; simp
         obtain ⟨m, hm1⟩ : ∃ m : Nat, m = (o + z + cy) % 1048576 := ⟨_, rfl⟩; obtain ⟨c, hc1⟩ : ∃ c : Nat, c = (o + z + cy) / 1048576 := ⟨_, rfl⟩; have hmod : ((o : Int) + z + cy) % 1048576 = (m : Int) := by omega
         have hdiv : ((o : Int) + z + cy) / 1048576 = (c : Int) := by omega
         have hsum : m + 1048576 * c = o + z + cy := by omega
         have hms : m < 1048576 := by omega
         have hcs : c < 1048576 := by omega
         have HE3 : Hid (val (ot.set (k + j) m) + 1048576 ^ (k + (j + 1)) * c = val os + 1048576 ^ k * (x * val (Q.take (j + 1)))) := by
          show _ = _
          rw [val_take_step Q j, ← hy]; have h1 := val_set ot (k + j) m hkj; rw [← ho] at h1; exact mul_step h1 HE2.out hsum hz
         have hc00 : c = 0 := by (have h1 := dg_ge (l := Q) (i := j) (by omega); have h2 := HZ2.out (by omega) (k + j) hkj (by omega); rw [← hy] at h1; rw [← ho] at h2; rw [h1, Nat.mul_zero] at hz; omega)
         have HY := hI hy; obtain ⟨s, hs⟩ : ∃ s, s = k + j := ⟨_, rfl⟩; rw [← hs] at hold hfr; have his : (k : Int) + (j : Int) = (s : Int) := by omega
         have wis : IntKind.i64.wrap ((k : Int) + (j : Int)) = (s : Int) := by rw [his]; exact IntWalk.i64_in _ (by omega)
         have hsl : (s : Int) < (P.length : Int) + (Q.length : Int) := by omega
         have hsl2 : (s : Int) < ((P.length + Q.length : Nat) : Int) := by omega
         have hki : (k : Int) < (P.length : Int) := by omega
         have hjb : j ≤ 4398046511104 := by omega
         have wz : IntKind.i64.wrap (z : Int) = (z : Int) := IntWalk.i64_in _ (by omega); have wo1 : IntKind.i64.wrap ((o : Int) + (z : Int)) = (o : Int) + (z : Int) := IntWalk.i64_in _ (by omega); have wo2 : IntKind.i64.wrap ((o : Int) + (z : Int) + (cy : Int)) = (o : Int) + (z : Int) + (cy : Int) := IntWalk.i64_in _ (by omega); have HSS := hI hs; clear hy ho hlt2 hz hm1 hc1 hs hsum hkj; go_wp2_with fail
         go_quiet ((go_at_call 117; refine quiet_same (v := .int .i64 (y : Int)) ?_; rw [HY.out]; exact digit_ok _ Q j _ (HQ.out.keep (below_drewN HB2.out _)) hm hjb))
         clear wis wz wo1 wo2; go_wp2_with fail
         rename_i nq
         have HE4 : Hid (val (ot.set s m) + 1048576 ^ (k + (j + 1)) * c = val os + 1048576 ^ k * (x * val (Q.take (j + 1)))) := by show _ = _; rw [HSS.out]; exact HE3.out
         have HZ5 : Hid (j + 1 ≤ Q.length → zerosFrom (ot.set s m) (k + Q.length)) := by intro h; rw [HSS.out]; omega
         have HZ6 : Hid (zerosFrom (ot.set s m) (k + 1 + Q.length)) := by rw [HSS.out]; exact zerosFrom_set HZ3.out (by omega)
         go_roundw
         case rel => exact ⟨j + 1, c, ot.set s m, by omega, .inr hc00, hcs, by rw [List.length_set]; exact HLt.out, by first | rfl | rw [hdiv], by go_num, small_set HSm2.out hms, HZ5, HZ6, HE4, (ownN_drewN HW2.out nq).set s m, (below_drewN HB2.out nq).setCell (Nat.le_refl _) _⟩
         case measure => rw [hdiv]; show 2 * (Q.length + 1 - ((j : Int) + 1).toNat) + flag (c : Int) < 2 * (Q.length + 1 - (j : Int).toNat) + flag (cy : Int); rw [hc00, show flag ((0 : Nat) : Int) = 0 from rfl, flag_pos (show (cy : Int) ≠ 0 by omega)]; omega
       · have e2 : decide ((0 : Int) < (cy : Int)) = false := by rw [decide_eq_false_iff_not]; omega
         have e3 : decide (0 < cy) = false := by rw [decide_eq_false_iff_not]; omega
         have HE5 : Hid (val ot = val (P.take (k + 1)) * val Q) := by
          show _ = _
          have h1 := HE2.out; obtain rfl : cy = 0 := by omega
          rw [Nat.mul_zero, Nat.add_zero, val_take_all (l := Q) (by omega)] at h1; rw [h1, HE.out, val_take_succ P k hlt, ← HX.out, Nat.add_mul, Nat.mul_assoc]
         clear hlt2; go_wp2_with fail
         go_roundw
         case rel => exact ⟨k + 1, ot, by omega, HLt.out, by go_num, HSm2, HZ3, HE5, HW2, HB2⟩
         case measure => simp [intOf]; omega
  · obtain rfl : k = P.length := by omega
    have HV : Hid (val os = val P * val Q) := by show _ = _; rw [HE.out, List.take_of_length_le (Nat.le_refl _)]
    have HLn : Hid (os.length ≤ 8796093022208) := by show _ ≤ _; omega
    clear hlo hlt; go_wp2_with fail
    refine (refTrim_own HW.out HSm.out HLn.out).mono ?_; rintro e w2 ⟨v2, rfl, ho, hb⟩; rw [HV.out] at ho; have HO2 := hI (ho.mono HB.out.size); have HB2 : Hid (Below w.heap.size w w2) := HB.out.trans (hb.mono HB.out.size); clear ho hb; go_wp2_with fail
    go_ret
    exact ⟨v2, rfl, HO2.out, HB2.out⟩
theorem wpList_appendAny {ops : Array Oper} {rest : List Oper} {o : Oper} {a : Act} {Q : Exit → Act → World → Prop} (hgd : o.guard = none) (s x : Operand)
 (ho : o.op = .call { callee := .builtin .append, args := #[s, x], argTypes := #[32, 32] }) (w : World) (B : Nat) (v : Value) (l : Digs) (hs : a.eval s = v) (hown : OwnN w B v l)
 (sv : Value) (k : Digs) (hx : a.eval x = sv) (hk : RdN w sv k) (hn : l.length + k.length ≤ 17592186044416) (hB : B ≤ w.heap.size)
 (h : ∀ v' w', OwnN w' B v' (l ++ k) → Below B w w' → wpList Tryz.prog ops Q rest (a.put o.dst v') w') :
 wpList Tryz.prog ops Q (o :: rest) a w := by
 obtain ⟨A, c, rfl⟩ := hk.shape
 cases A with
 | none =>
  have := nil_of_none hk; subst this; refine wpList_appendNil hgd s x ho w B v l hs hown c hx (h v w (by rw [List.append_nil]; exact hown) (Below.refl _ _))
 | some ad => exact wpList_appendN hgd s x ho w B v l hs hown ad k.length c k hx rfl hk hn hB (fun v' w' h1 _ h3 => h v' w' h1 h3)
theorem OwnN.away {w w' : World} {B g : Nat} {v : Value} {l : Digs} (h : OwnN w B v l) (hg : w.grownBy w' (some g)) (hlt : g < B) : OwnN w' B v l := by
 rcases h.shape with ⟨rfl, rfl⟩ | ⟨gv, cap, rfl, hge, -, -⟩
 · exact ownN_nil _ _
 · exact h.far hg (by omega)
theorem OwnN.blw {w w' : World} {B n cap : Nat} {l : Digs} {g B' : Nat} (h : OwnN w B (.slice (some ⟨g, 0, none⟩) n cap) l) (hb : Below B' w w') (hg : g < B' := by omega) : OwnN w' B (.slice (some ⟨g, 0, none⟩) n cap) l := by
 refine ⟨h.1, ?_⟩; rcases h.2 with h2 | ⟨g', cap', cur, hv, hg', hh, r⟩
 · exact .inl h2
 · have : g' = g := by simp only [Value.slice.injEq, Option.some.injEq, Addr.mk.injEq, and_true] at hv; exact hv.1.symm
   subst this; exact .inr ⟨g', cap', cur, hv, hg', by rw [hb.block g' hg]; exact hh, r⟩
structure OverAt (P : Digs) (b : Nat) (qs : Digs) (R k : Nat) : Prop where
 sq : small qs
 len : qs.length = P.length
 sum : val (P.drop k) = val (qs.drop k) * b + R
 lt : R < b
theorem over_start {P : Digs} {b : Nat} (h : 0 < b) : OverAt P b (List.replicate P.length 0) 0 P.length :=
 ⟨small_replicate _, by simp, by rw [List.drop_of_length_le (Nat.le_refl _), List.drop_of_length_le (by simp)]; simp [val], h⟩
theorem over_sum {x B R S b lo v : Nat} (h : v = S * b + R) (h1 : lo * b ≤ x + B * R) : x + B * v = (lo + B * S) * b + (x + B * R - lo * b) := by
 subst h; have e1 : x + B * (S * b + R) = (x + B * R) + B * S * b := by grind
 have e2 : (lo + B * S) * b = lo * b + B * S * b := by grind
 omega
theorem over_next {P qs : Digs} {b R m lo : Nat} (h : OverAt P b qs R (m + 1)) (hm : m < P.length) (hl : lo < 1048576) (h1 : lo * b ≤ P[m] + 1048576 * R) (h2 : P[m] + 1048576 * R < lo * b + b) :
 OverAt P b (qs.set m lo) (P[m] + 1048576 * R - lo * b) m := by
 have hmq : m < qs.length := by rw [h.len]; exact hm
 refine ⟨small_set h.sq hl, by rw [List.length_set]; exact h.len, ?_, by omega⟩; rw [List.drop_eq_getElem_cons hm, val, List.drop_eq_getElem_cons (l := qs.set m lo) (by rw [List.length_set]; exact hmq), List.getElem_set_self, drop_set_succ, val]; exact over_sum h.sum h1
theorem over_end {P qs : Digs} {b R : Nat} (h : OverAt P b qs R 0) : val qs = val P / b ∧ R = val P % b := by
 have h1 := h.sum; have h2 := h.lt; rw [List.drop_zero, List.drop_zero] at h1; rw [h1, Nat.mul_comm]; exact ⟨by rw [Nat.mul_add_div (by omega), Nat.div_eq_of_lt h2, Nat.add_zero], by rw [Nat.mul_add_mod, Nat.mod_eq_of_lt h2]⟩
theorem over_ok (p q : Value) (P : Digs) (b : Nat) (w : World) (hp : RdN w p P) (hq : RdN w q (digs b)) (sP : small P) (hb0 : 0 < b) (hn : P.length ≤ 549755813888) (hm : (digs b).length ≤ 549755813888) :
 Calls Tryz.prog 98 #[p, q] w fun e w' => ∃ v r, e = .returned (.tuple #[v, r]) ∧ OwnN w' w.heap.size v (digs (val P / b)) ∧ OwnN w' w.heap.size r (digs (val P % b)) ∧ Below w.heap.size w w' := by
 obtain ⟨a1, cap1, rfl⟩ := hp.shape; have HP := hI hp; clear hp; have HQ := hI hq; clear hq; go_enter Tryz.func98, Tryz.ntmps98
 go_wp2_with (at_make; go_must (refine wpList_mkints rfl _ _ rfl w w.heap.size P.length _ _ rfl rfl (by simp) (by simp) (by omega) (Nat.le_refl _) ?_; intro w1 ho hb))
 have HO := hI ho; have HB0 := hI hb
 have hlt1 : w.heap.size + 1 ≤ w1.heap.size := by
  rcases ho.shape with ⟨h1, -⟩ | ⟨g, cap, h1, -, h2, -⟩
  · cases h1
  · simp only [Value.slice.injEq, Option.some.injEq, Addr.mk.injEq, and_true] at h1
    rw [h1.1]; exact h2
 clear ho hb; go_loopw [7, 8] (fun rv i wr => ∃ (k R : Nat) (qs : Digs), k ≤ P.length ∧ i = .int .i64 ((k : Int) - 1) ∧ Hid (OverAt P b qs R k) ∧ Hid (OwnN wr (w.heap.size + 1) rv (digs R)) ∧ Hid (OwnN wr w.heap.size (.slice (some ⟨w.heap.size, 0, none⟩) P.length P.length) qs) ∧ Hid (Below w.heap.size w wr) ∧ w.heap.size + 1 ≤ wr.heap.size) (fun _ i _ => (intOf i + 1).toNat)
 case atStart => exact ⟨P.length, 0, List.replicate P.length 0, Nat.le_refl _, rfl, over_start hb0, ownN_nil _ _, HO, HB0, hlt1⟩
 case round =>
  obtain ⟨k, R, qs, hk, rfl, HV, HR, HW, HB, hsz⟩ := hrel
  by_cases h0 : 0 < k
  · obtain ⟨m, rfl⟩ : ∃ m, k = m + 1 := ⟨k - 1, by omega⟩
    have em : (((m + 1 : Nat) : Int) - 1) = (m : Int) := by omega
    rw [em]; clear em; have hm1 : m < P.length := by omega
    obtain ⟨b1, off1, rfl, hb1, hcell⟩ := (HP.out.keep HB.out).at hm1; obtain ⟨x, hx⟩ : ∃ x, x = P[m] := ⟨_, rfl⟩; rw [← hx] at hcell; have hxs : x < 1048576 := by rw [hx]; exact small_get sP m hm1
    have HRb : Hid ((digs R).length ≤ 549755813888) := Nat.le_trans (digs_len_mono (Nat.le_of_lt HV.out.lt)) hm
    have HN : Hid (∀ lo, lo < 1048576 → lo * b ≤ x + 1048576 * R → x + 1048576 * R < lo * b + b → OverAt P b (qs.set m lo) (x + 1048576 * R - lo * b) m) := by
     intro lo h1 h2 h3
     rw [hx] at h2 h3 ⊢; exact over_next HV.out hm1 h1 h2 h3
    have HTop : Hid (x + 1048576 * R < 1048576 * b) := by show _ < _; have := HV.out.lt; omega
    obtain ⟨T, hT⟩ : ∃ T, T = x + 1048576 * R := ⟨_, rfl⟩; rw [← hT] at HN HTop; have HTT := hI hT; have HA1 : Hid (OwnN (wr.alloc (.cells #[.int .i64 (x : Int)] 3)) (w.heap.size + 1) (.slice (some ⟨wr.heap.size, 0, none⟩) 1 1) [x]) := own_lit1 wr _ x hsz; have HA2 : Hid (RdN (wr.alloc (.cells #[.int .i64 (x : Int)] 3)) u7 (digs R)) := (HR.out.keep (below_alloc _ _)).rd
    have HTb : Hid ((digs T).length ≤ 1099511627776) := by
     show _ ≤ _
     have h1 := digs_len_mono (Nat.le_of_lt HTop.out); have h2 := digs_len_mul b 1048576; have h3 : (digs 1048576).length = 2 := by decide
     rw [Nat.mul_comm] at h1
     omega
    clear hx hT; go_wp2_with (at_builtin; go_must (refine wpList_appendAny rfl _ _ rfl (wr.alloc (.cells #[.int .i64 (x : Int)] 3)) (w.heap.size + 1) (.slice (some ⟨wr.heap.size, 0, none⟩) 1 1) [x] rfl HA1.out u7 (digs R) rfl HA2.out (by have := HRb.out; simp; omega) (by simp; omega) ?_; intro v' w2 ho hb))
    have HB2 : Hid (Below w.heap.size w w2) := (HB.out.alloc HB.out.size _).trans (hb.mono (by omega)); have hsz2 : w.heap.size + 1 ≤ w2.heap.size := by have := hb.size; simp at this; omega
    have HW2 : Hid (OwnN w2 w.heap.size (.slice (some ⟨w.heap.size, 0, none⟩) P.length P.length) qs) := (HW.out.keep (below_alloc _ _)).blw hb; have HO2 := hI ho; clear ho hb; go_wp2_with fail
    refine (refTrim_own HO2.out (small_append (small_one hxs) (digs_small _)) (by have := HRb.out; simp; omega)).mono ?_; rintro e w3 ⟨v3, rfl, ho, hb⟩; have hv3 : val ([x] ++ digs R) = T := by rw [HTT.out]; simp [val, val_digs]
    rw [hv3] at ho; have HO3 := hI (ho.mono (B' := w.heap.size + 1) hsz2); have HB3 : Hid (Below w.heap.size w w3) := HB2.out.trans (hb.mono (by omega)); have HW3 := hI (HW2.out.keep hb); have hsz3 : w.heap.size + 1 ≤ w3.heap.size := by have := hb.size; omega
    clear ho hb hv3; go_wp2_with fail
    go_loopw [9, 10] (fun lv hv wr => ∃ lo hi : Nat, lo < hi ∧ hi ≤ 1048576 ∧ lv = .int .i64 lo ∧ hv = .int .i64 hi ∧ Hid (lo * b ≤ T ∧ T < hi * b) ∧ Hid (Below w3.heap.size w3 wr)) (fun lv hv _ => (intOf hv - intOf lv).toNat)
    case atStart => exact ⟨0, 1048576, by omega, by omega, rfl, rfl, ⟨by omega, HTop.out⟩, Below.refl _ _⟩
    case round =>
     obtain ⟨lo, hi, hlh, hhi, rfl, rfl, HLH, HB4⟩ := hrel
     by_cases hd : 1 < hi - lo
     · have e1 : decide ((1 : Int) < (hi : Int) - (lo : Int)) = true := by rw [decide_eq_true_eq]; omega
       obtain ⟨mid, hmid⟩ : ∃ mid, mid = (lo + hi) / 2 := ⟨_, rfl⟩; have hmi : ((lo : Int) + (hi : Int)) / 2 = (mid : Int) := by omega
       have hm1' : mid < 1048576 := by omega
       have hm2 : lo < mid := by omega
       have hm3 : mid < hi := by omega
       clear hmid; have HB5 : Hid (Below w.heap.size w wr) := HB3.out.trans (HB4.out.mono (by omega)); have hsz4 : w3.heap.size ≤ wr.heap.size := HB4.out.size; go_wp2_with fail
       refine (rtimes_ok q _ (digs b) [mid] _ (HQ.out.keep (HB5.out.alloc HB5.out.size _)) (own_lit1 wr wr.heap.size mid (Nat.le_refl _)).rd (digs_small _) (small_one hm1') (by omega) (by simp)).mono ?_; rintro e w5 ⟨v5, rfl, ho, hb⟩; have hv5 : val (digs b) * val [mid] = mid * b := by rw [val_digs, Nat.mul_comm]; simp [val]
       rw [hv5] at ho; have HO5 := hI ho; have HB6 : Hid (Below wr.heap.size wr w5) := below_call (below_alloc _ _) hb; have HR5 := hI ((HO3.out.keep HB4.out).keep HB6.out)
       have HTm : Hid ((digs (mid * b)).length ≤ 1099511627776) := by
        show _ ≤ _
        have h1 := digs_len_mul_one (a := b) (b := mid) hm1'; rw [Nat.mul_comm] at h1; omega
       clear ho hb hv5
       by_cases hc : T < mid * b
       · have HL : Hid (lessB (digs T) (digs (mid * b)) = true) := by show _ = _; rw [lessB, val_digs, val_digs, decide_eq_true_eq]; exact hc
         go_wp2_with fail
         refine (less_ok _ _ (digs T) (digs (mid * b)) w5 HR5.out.rd HO5.out.rd (digs_small _) (digs_small _) HTb.out HTm.out).mono ?_; rintro e w6 ⟨rfl, hb⟩; rw [HL.out]; have HB7 : Hid (Below w3.heap.size w3 w6) := below_call (below_call HB4.out HB6.out) hb; clear hb; go_wp2_with fail
         go_roundw
         case rel => exact ⟨lo, mid, hm2, by omega, rfl, by first | rfl | rw [hmi], ⟨HLH.out.1, hc⟩, HB7.out⟩
         case measure => simp [intOf]; omega
       · have HL : Hid (lessB (digs T) (digs (mid * b)) = false) := by show _ = _; rw [lessB, val_digs, val_digs, decide_eq_false_iff_not]; exact hc
         go_wp2_with fail
         refine (less_ok _ _ (digs T) (digs (mid * b)) w5 HR5.out.rd HO5.out.rd (digs_small _) (digs_small _) HTb.out HTm.out).mono ?_; rintro e w6 ⟨rfl, hb⟩; rw [HL.out]; have HB7 : Hid (Below w3.heap.size w3 w6) := below_call (below_call HB4.out HB6.out) hb; clear hb; go_wp2_with fail
         go_roundw
         case rel => exact ⟨mid, hi, hm3, hhi, by first | rfl | rw [hmi], rfl, ⟨by omega, HLH.out.2⟩, HB7.out⟩
         case measure => simp [intOf]; omega
     · have e1 : decide ((1 : Int) < (hi : Int) - (lo : Int)) = false := by rw [decide_eq_false_iff_not]; omega
       obtain rfl : hi = lo + 1 := by omega
       have hlo2 : lo < 1048576 := by omega
       have HLE : Hid (lo * b ≤ T ∧ T < lo * b + b) := ⟨HLH.out.1, by have := HLH.out.2; rw [Nat.add_mul, Nat.one_mul] at this; exact this⟩; have HB5 : Hid (Below w.heap.size w wr) := HB3.out.trans (HB4.out.mono (by omega)); have hsz4 : w3.heap.size ≤ wr.heap.size := HB4.out.size; have HW4 := hI (HW3.out.keep HB4.out); have HR4 := hI (HO3.out.keep HB4.out); have hmq : m < qs.length := by rw [HV.out.len]; exact hm1
       have hold := HW4.out.cell hmq; have hfr := HW4.out.live m; have hmi2 : (m : Int) < (P.length : Int) := by omega
       go_wp2_with fail
       obtain ⟨ws, hws⟩ : ∃ ws, ws = wr.setCell ⟨w.heap.size, m, none⟩ (.int .i64 (lo : Int)) := ⟨_, rfl⟩; have hz : ws.heap.size = wr.heap.size := by rw [hws]; simp [World.setCell]
       have HWs : Hid (OwnN ws w.heap.size (.slice (some ⟨w.heap.size, 0, none⟩) P.length P.length) (qs.set m lo)) := by rw [hws]; exact HW4.out.set m lo
       have HRs : Hid (OwnN ws (w.heap.size + 1) v3 (digs T)) := by rw [hws]; exact HR4.out.away (only_setCell (World.grownBy.refl _ _) _) (by omega)
       have HBs : Hid (Below w.heap.size w ws) := by show Below _ _ _; rw [hws]; exact HB5.out.setCell (Nat.le_refl _) _
       rw [← hws, ← hz]; have hsz5 : w.heap.size + 1 ≤ ws.heap.size := by omega
       clear hws hz hold hfr; refine (refTrim_ok _ 1 [lo] _ (own_lit1 ws ws.heap.size lo (Nat.le_refl _)).rd (small_one hlo2) (by simp) (by simp)).mono ?_; rintro e w7 ⟨v7, rfl, ho, hb⟩; have hv7 : val [lo] = lo := by simp [val]
       rw [hv7] at ho; have HO7 := hI ho; have hb7 : Below ws.heap.size ws w7 := below_call (below_alloc _ _) hb; have HW7 := hI (HWs.out.keep hb7); have HR7 := hI (HRs.out.keep hb7); have HB7 := hI (below_call HBs.out hb7); have hsz7 : w.heap.size + 1 ≤ w7.heap.size := by have := hb7.size; omega
       clear ho hb hb7 hv7; go_wp2_with fail
       refine (rtimes_ok q v7 (digs b) (digs lo) w7 (HQ.out.keep HB7.out) HO7.out.rd (digs_small _) (digs_small _) (by omega) (by have := digs_len_of_lt (n := lo) (k := 1) (by rw [Nat.pow_one]; exact hlo2); omega)).mono ?_; rintro e w8 ⟨v8, rfl, ho, hb⟩; have hv8 : val (digs b) * val (digs lo) = lo * b := by rw [val_digs, val_digs, Nat.mul_comm]
       rw [hv8] at ho; have HO8 := hI ho; have HW8 := hI (HW7.out.keep hb); have HR8 := hI (HR7.out.keep hb); have HB8 := hI (below_call HB7.out hb); have hsz8 : w.heap.size + 1 ≤ w8.heap.size := by have := hb.size; omega
       clear ho hb hv8; go_wp2_with fail
       refine (minus_ok v3 v8 (digs T) (digs (lo * b)) w8 HR8.out.rd HO8.out.rd (digs_small _) (digs_small _) (by rw [val_digs, val_digs]; exact HLE.out.1) (digs_len_mono HLE.out.1) HTb.out).mono ?_; rintro e w9 ⟨v9, rfl, ho, hb⟩; rw [val_digs, val_digs] at ho; have HO9 := hI (ho.mono hsz8); have HW9 := hI (HW8.out.keep hb); have HB9 := hI (below_call HB8.out hb); have hsz9 : w.heap.size + 1 ≤ w9.heap.size := by have := hb.size; omega
       clear ho hb; have HNV := hI (HN.out lo hlo2 HLE.out.1 HLE.out.2); go_wp2_with fail
       go_roundw
       case rel => exact ⟨m, T - lo * b, qs.set m lo, by omega, rfl, HNV, HO9, HW9, HB9, hsz9⟩
       case measure => simp [intOf]
  · obtain rfl : k = 0 := by omega
    have em : ((0 : Nat) : Int) - 1 = -1 := rfl; rw [em]; clear em; have HE := hI (over_end HV.out); have HLn : Hid (qs.length ≤ 8796093022208) := by show _ ≤ _; rw [HV.out.len]; omega
    go_wp2_with fail
    refine (refTrim_own (l := qs) HW.out HV.out.sq HLn.out).mono ?_; rintro e w2 ⟨v2, rfl, ho, hb⟩; rw [HE.out.1] at ho; have HO2 := hI (ho.mono HB.out.size); have HR2 : Hid (OwnN w2 w.heap.size u7 (digs (val P % b))) := by rw [← HE.out.2]; exact (HR.out.keep hb).mono (by omega)
    have HB2 := hI (below_call HB.out hb); clear ho hb; go_wp2_with fail
    go_ret2
    exact ⟨v2, u7, rfl, HO2.out, HR2.out, HB2.out⟩
variable {G : Nat}
theorem refTrim_is {a : Option Addr} {c : Nat} {l : Digs} {w : World} (h : RdN w (.slice a l.length c) l) (hs : small l) (hn : l.length ≤ 8796093022208) (hc : l.length ≤ c) {n : Nat} (hv : val l = n) :
 Calls Tryz.prog 116 #[.slice a l.length c] w fun e w' => ∃ b d, e = .returned (.slice b (lnN n) d) ∧ OwnN w' w.heap.size (.slice b (lnN n) d) (digs n) ∧ Below w.heap.size w w' :=
 (refTrim_ok a c l w h hs hn hc).mono fun e w' ⟨v, he, ho, hb⟩ => by
  rw [hv] at ho; obtain ⟨b, d, rfl⟩ := ho.slice; exact ⟨b, d, he, ho, hb⟩
theorem OwnN.le {w : World} {B : Nat} {a : Option Addr} {n c : Nat} (h : OwnN w B (.slice a (lnN n) c) (digs n)) : lnN n ≤ c := by
 rcases h.shape with ⟨h1, h2⟩ | ⟨g, cap, h1, -, -, h3⟩
 · rw [lnN, h2]; exact Nat.zero_le _
 · simp only [Value.slice.injEq] at h1
   rw [h1.2.2]; exact h3
theorem bd_of_own {w : World} {B : Nat} {a : Option Addr} {n c : Nat} {s z : Int} (h : OwnN w B (.slice a (lnN n) c) (digs n)) (hz : s * n = z) (hn : n ≠ 0) (hs : s = 1 ∨ s = -1) : sg z = s ∧ ln z = lnN n ∧ BD G w a c z := by
 obtain ⟨a', c', he, hb⟩ := bigIs_mk (G := G) (s := s) h.rd h.ty rfl h.le hn hs; rw [hz] at he hb; simp only [Value.agg.injEq, Array.mk.injEq, List.cons.injEq, Value.int.injEq, Value.slice.injEq, and_true, true_and] at he; obtain ⟨h1, h2, h3, h4⟩ := he; subst h2 h4; exact ⟨h1.symm, h3.symm, hb⟩
theorem made_zero {s z : Int} {l : Digs} {a : Option Addr} {c n : Nat} {w : World} (h : RdN w (.slice a l.length c) l) (hs : small l) (hn : l.length ≤ 8796093022208) (hc : l.length ≤ c) (hv : val l = n) (h0 : n = 0) (hz : z = 0) :
 Calls Tryz.prog 81 #[.int .i64 s, .slice a l.length c] w fun e w' => ∃ a c, e = .returned (.agg #[.int .i64 (sg z), .slice a (ln z) c]) ∧ BD G w' a c z ∧ Below w.heap.size w w' := by
 have H1 := hI h; have HS := hI hs; have HN := hI hn; have HV := hI hv; have HZ := hI hz; have e1 : ((lnN n : Int) == 0) = true := by rw [h0]; rfl
 clear h hs hn hv h0 hz
 go_enter Tryz.func81, Tryz.ntmps81
 go_wp2_with fail
 refine (refTrim_is (H1.out.keep (by go_grown)) HS.out HN.out hc HV.out).mono ?_; rintro e w1 ⟨b2, d2, rfl, ho2, hb⟩; have hbx := bx1 w 34 #[.int .i64 0, .slice none 0 0]; have k0 := hbx; clear hbx; have K0 := hI (k0.keep hb); clear k0; have hb' : Below w.heap.size w w1 := below_call (by go_grown) hb; have HB := hI hb'; replace H1 := hI (H1.out.keep hb'); clear hb hb'; have Ho2 := hI ho2; clear ho2; refine K0.out.w2 fun aa ab ac ad z0 => ?_; go_wp2_with fail
 refine bodyPost_ret (results_box1 rfl _ _ w.heap.size 34 _ _ _ rfl (K0.out.set2 _ _) Tryz.underlying34 rfl (by kernel_rfl)) rfl ⟨none, 0, by rw [HZ.out]; rfl, ?_, ?_⟩
 · rw [HZ.out]; exact bd_zero _ _ _
 · exact (HB.out.setCell (by simp) _).setCell (by simp) _
theorem made_some {s z : Int} {l : Digs} {a : Option Addr} {c n : Nat} {w : World} (h : RdN w (.slice a l.length c) l) (hs : small l) (hn : l.length ≤ 8796093022208) (hc : l.length ≤ c) (hv : val l = n) (h0 : n ≠ 0) (hz : s * n = z) (h1 : s = 1 ∨ s = -1) :
 Calls Tryz.prog 81 #[.int .i64 s, .slice a l.length c] w fun e w' => ∃ a c, e = .returned (.agg #[.int .i64 (sg z), .slice a (ln z) c]) ∧ BD G w' a c z ∧ Below w.heap.size w w' := by
 have H1 := hI h; have HS := hI hs; have HN := hI hn; have HV := hI hv; have HZ := hI hz; have HN0 := hI h0; have HS1 := hI h1; have hp := lnN_pos h0; have e1 : ((lnN n : Int) == 0) = false := by rw [beq_eq_false_iff_ne]; omega
 clear h hs hn hv h0 hz hp h1
 go_enter Tryz.func81, Tryz.ntmps81
 go_wp2_with fail
 refine (refTrim_is (H1.out.keep (by go_grown)) HS.out HN.out hc HV.out).mono ?_; rintro e w1 ⟨b2, d2, rfl, ho2, hb⟩; have hbx := bx1 w 34 #[.int .i64 0, .slice none 0 0]; have k0 := hbx; clear hbx; have K0 := hI (k0.keep hb); clear k0; have hb' : Below w.heap.size w w1 := below_call (by go_grown) hb; have HB := hI hb'; replace H1 := hI (H1.out.keep hb'); clear hb hb'; have Ho2 := hI ho2; clear ho2; refine K0.out.w2 fun aa ab ac ad z0 => ?_; go_wp2_with fail
 have HF := bd_of_own (G := G) Ho2.out HZ.out HN0.out HS1.out; have HBD := hI HF.2.2; rw [← HF.1, ← HF.2.1]; clear HF; clear aa ab ac ad z0; refine bodyPost_ret (results_box1 rfl _ _ w.heap.size 34 _ _ _ rfl (K0.out.set2 _ _) Tryz.underlying34 rfl (by kernel_rfl)) rfl ?_; refine ⟨b2, d2, rfl, ?_, ?_⟩
 · exact (HBD.out.far0 K0.out zb2 (only_setCell (only_setCell (World.grownBy.refl _ _) _) _))
 · exact (Below.setCell (Below.setCell HB.out (by simp; try omega) _) (by simp; try omega) _)
theorem made_ok {s z : Int} {l : Digs} {a : Option Addr} {c n : Nat} {w : World} (h : RdN w (.slice a l.length c) l) (hs : small l) (hn : l.length ≤ 8796093022208) (hc : l.length ≤ c) (hv : val l = n) (hz : s * n = z) (h1 : n ≠ 0 → s = 1 ∨ s = -1) :
 Calls Tryz.prog 81 #[.int .i64 s, .slice a l.length c] w fun e w' => ∃ a c, e = .returned (.agg #[.int .i64 (sg z), .slice a (ln z) c]) ∧ BD G w' a c z ∧ Below w.heap.size w w' := by
 by_cases h0 : n = 0
 · exact made_zero (G := G) h hs hn hc hv h0 (by rw [← hz, h0]; simp)
 · exact made_some (G := G) h hs hn hc hv h0 hz (h1 h0)
theorem made_own {s z : Int} {a : Option Addr} {c n B : Nat} {w : World} (h : OwnN w B (.slice a (lnN n) c) (digs n)) (hn : lnN n ≤ 8796093022208) (hz : s * n = z) (h1 : n ≠ 0 → s = 1 ∨ s = -1) :
 Calls Tryz.prog 81 #[.int .i64 s, .slice a (lnN n) c] w fun e w' => ∃ a c, e = .returned (.agg #[.int .i64 (sg z), .slice a (ln z) c]) ∧ BD G w' a c z ∧ Below w.heap.size w w' :=
 made_ok (G := G) (l := digs n) h.rd (digs_small n) hn h.le (val_digs n) hz h1
theorem made_bd {s x z : Int} {a : Option Addr} {c : Nat} {w : World} (h : BD G w a c x) (hn : Sz x 8796093022208) (hz : s * x.natAbs = z) (h1 : x.natAbs ≠ 0 → s = 1 ∨ s = -1) :
 Calls Tryz.prog 81 #[.int .i64 s, .slice a (ln x) c] w fun e w' => ∃ a c, e = .returned (.agg #[.int .i64 (sg z), .slice a (ln z) c]) ∧ BD G w' a c z ∧ Below w.heap.size w w' :=
 made_ok (G := G) (l := digs x.natAbs) h.rd (digs_small _) hn h.le (val_digs _) hz h1
theorem rright_ok {x : Int} {a1 : Option Addr} {c1 : Nat} {w : World} (h1 : BD G w a1 c1 x) (hx : Sz x 1099511627776) :
 Calls Tryz.prog 62 #[.agg #[.int .i64 (sg x), .slice a1 (ln x) c1]] w fun e w' => e = .returned (.bool true) ∧ Below w.heap.size w w' := by
 have H1 := hI h1; have hlb : ln x ≤ 1099511627776 := hx; clear h1 hx; go_enter Tryz.func62, Tryz.ntmps62
 go_wp2_with fail
 refine nmW (w.alloc (.cells #[.int .i64 (sg x), .slice a1 (ln x) c1] 34)) fun w0 hw0 => ?_; have K0 : Hid (Bx w0 w.heap.size 34 #[.int .i64 (sg x), .slice a1 (ln x) c1]) := by rw [hw0]; exact bx1 w _ _
 have HB : Hid (Below w.heap.size w w0) := by rw [hw0]; exact below_alloc _ _
 rw [← hw0]; clear hw0; have p0 : w0.cell? ⟨w.heap.size, 0, none⟩ = some (.int .i64 (sg x)) := K0.out.at.1 0; have p1 : w0.cell? ⟨w.heap.size, 1, none⟩ = some (.slice a1 (ln x) c1) := K0.out.at.1 1; go_loopw [3] (fun i wr => ∃ k nd : Nat, k ≤ ln x ∧ i = .int .i64 k ∧ wr = w0.drewN nd) (fun i _ => ln x - (intOf i).toNat)
 case atStart => exact ⟨0, 0, Nat.zero_le _, rfl, rfl⟩
 case round =>
  obtain ⟨k, nd, hk, rfl, rfl⟩ := hrel
  by_cases hlt : k < ln x
  · obtain ⟨b, off, rfl, hb, hcell⟩ := (H1.out.rd.keep HB.out).at (k := k) hlt
    obtain ⟨d, hd⟩ : ∃ d, d = (digs x.natAbs)[k]'hlt := ⟨_, rfl⟩; rw [← hd] at hcell; have hds : d < 1048576 := by rw [hd]; exact small_get (digs_small _) k hlt
    have e1 : decide ((d : Int) < 0) = false := by rw [decide_eq_false_iff_not]; omega
    have e2 : decide ((1048576 : Int) ≤ (d : Int)) = false := by rw [decide_eq_false_iff_not]; omega
    have e3 : decide (1048576 ≤ d) = false := by rw [decide_eq_false_iff_not]; omega
    have hki : (k : Int) < (ln x : Int) := by omega
    clear hd; go_wp2_with fail
    go_roundw
    case rel => exact ⟨k + 1, nd, by omega, by go_num, rfl⟩
    case measure => simp [intOf]; omega
  · have t1 : decide (sg x < -1) = false := by rw [decide_eq_false_iff_not]; rcases sg_cases x with h | h | h <;> omega
    have t2 : decide (1 < sg x) = false := by rw [decide_eq_false_iff_not]; rcases sg_cases x with h | h | h <;> omega
    have hBw : Hid (Below w.heap.size w (w0.drewN nd)) := below_drewN HB.out nd
    by_cases h0 : x = 0
    · have s1 : ((ln x : Int) == 0) = true := by rw [h0]; rfl
      have s2 : (sg x == 0) = true := by rw [h0]; rfl
      have H0 := hI h0; clear h0; go_wp2_with fail
      go_ret
      exact ⟨rfl, hBw.out⟩
    · have s2 : (sg x == 0) = false := by rw [beq_eq_false_iff_ne]; rcases sg_ne h0 with h | h <;> omega
      have hlp : 0 < ln x := lnN_pos (n := x.natAbs) (by omega); have s1 : ((ln x : Int) == 0) = false := by rw [beq_eq_false_iff_ne]; omega
      obtain ⟨m, hm⟩ : ∃ m, m = ln x - 1 := ⟨_, rfl⟩; have hml : m < (digs x.natAbs).length := by show m < ln x; omega
      have hmi : (ln x : Int) - 1 = (m : Int) := by omega
      have hmi2 : (m : Int) < (ln x : Int) := by omega
      obtain ⟨b, off, rfl, hb, hcell⟩ := (H1.out.rd.keep HB.out).at (k := m) hml; obtain ⟨d, hd⟩ : ∃ d, d = (digs x.natAbs)[m] := ⟨_, rfl⟩; rw [← hd] at hcell
      have hd0 : d ≠ 0 := by
       rw [hd]
       intro hh
       apply digs_last x.natAbs
       rw [List.getLast?_eq_getElem?, show (digs x.natAbs).length - 1 = m from hm.symm, List.getElem?_eq_getElem hml, hh]
      have s3 : ((d : Int) != 0) = true := by rw [bne_iff_ne]; omega
      have H0 := hI h0; clear h0 hm hd; go_wp2_with fail
      go_ret
      exact ⟨rfl, hBw.out⟩
theorem own_slice {P : Program} {f : FuncId} {args : Array Value} {w : World} {n : Nat} (h : Calls P f args w fun e w' => ∃ v, e = .returned v ∧ OwnN w' w.heap.size v (digs n) ∧ Below w.heap.size w w') :
 Calls P f args w fun e w' => ∃ a c, e = .returned (.slice a (lnN n) c) ∧ OwnN w' w.heap.size (.slice a (lnN n) c) (digs n) ∧ Below w.heap.size w w' :=
 h.mono fun e w' ⟨v, he, ho, hb⟩ => by
  obtain ⟨a, c, rfl⟩ := ho.slice; exact ⟨a, c, he, ho, hb⟩
theorem rtimes_is {x y : Int} {a1 a2 : Option Addr} {c1 c2 : Nat} {w : World} (h1 : BD G w a1 c1 x) (h2 : BD G w a2 c2 y) (hx : Sz x 549755813888) (hy : Sz y 549755813888) :
 Calls Tryz.prog 82 #[.slice a1 (ln x) c1, .slice a2 (ln y) c2] w fun e w' => ∃ a c, e = .returned (.slice a (lnN (x.natAbs * y.natAbs)) c) ∧ OwnN w' w.heap.size (.slice a (lnN (x.natAbs * y.natAbs)) c) (digs (x.natAbs * y.natAbs)) ∧ Below w.heap.size w w' := by
 have := rtimes_ok _ _ _ _ w h1.rd h2.rd (digs_small _) (digs_small _) (by unfold Sz at hx; omega) (by unfold Sz at hy; omega); rw [val_digs, val_digs] at this; exact own_slice this
theorem plus_is {x y : Int} {a1 a2 : Option Addr} {c1 c2 : Nat} {w : World} (h1 : BD G w a1 c1 x) (h2 : BD G w a2 c2 y) (hx : Sz x 549755813888) (hy : Sz y 549755813888) :
 Calls Tryz.prog 83 #[.slice a1 (ln x) c1, .slice a2 (ln y) c2] w fun e w' => ∃ a c, e = .returned (.slice a (lnN (x.natAbs + y.natAbs)) c) ∧ OwnN w' w.heap.size (.slice a (lnN (x.natAbs + y.natAbs)) c) (digs (x.natAbs + y.natAbs)) ∧ Below w.heap.size w w' := by
 have := plus_ok _ _ _ _ w h1.rd h2.rd (digs_small _) (digs_small _) (by unfold Sz at hx; omega) (by unfold Sz at hy; omega); rw [val_digs, val_digs] at this; exact own_slice this
theorem minus_is {x y : Int} {a1 a2 : Option Addr} {c1 c2 : Nat} {w : World} (h1 : BD G w a1 c1 x) (h2 : BD G w a2 c2 y) (hx : Sz x 549755813888) (hle : y.natAbs ≤ x.natAbs) :
 Calls Tryz.prog 85 #[.slice a1 (ln x) c1, .slice a2 (ln y) c2] w fun e w' => ∃ a c, e = .returned (.slice a (lnN (x.natAbs - y.natAbs)) c) ∧ OwnN w' w.heap.size (.slice a (lnN (x.natAbs - y.natAbs)) c) (digs (x.natAbs - y.natAbs)) ∧ Below w.heap.size w w' := by
 have := minus_ok _ _ _ _ w h1.rd h2.rd (digs_small _) (digs_small _) (by rw [val_digs, val_digs]; exact hle) (digs_len_mono hle) (by unfold Sz at hx; omega); rw [val_digs, val_digs] at this; exact own_slice this
def lessZ (x y : Int) : Bool := decide (x.natAbs < y.natAbs)
theorem less_is {x y : Int} {a1 a2 : Option Addr} {c1 c2 : Nat} {w : World} (h1 : BD G w a1 c1 x) (h2 : BD G w a2 c2 y) (hx : Sz x 549755813888) (hy : Sz y 549755813888) :
 Calls Tryz.prog 84 #[.slice a1 (ln x) c1, .slice a2 (ln y) c2] w fun e w' => e = .returned (.bool (lessZ x y)) ∧ Below w.heap.size w w' := by
 have := less_ok _ _ _ _ w h1.rd h2.rd (digs_small _) (digs_small _) (by unfold Sz at hx; omega) (by unfold Sz at hy; omega)
 rwa [lessB, val_digs, val_digs] at this
theorem or_signs {x y : Int} (h : 0 ≤ sg x * sg y) : bits .or .i64 (sg x) (sg y) = orS (sg x) (sg y) := by
 rcases sg_cases x with h1 | h1 | h1 <;> rcases sg_cases y with h2 | h2 | h2 <;> rw [h1, h2] at h ⊢ <;> first | (exfalso; omega) | decide
theorem rneg_ok {x : Int} {a1 : Option Addr} {c1 : Nat} {w : World} (h1 : BD G w a1 c1 x) (hx : Sz x 549755813888) :
 Calls Tryz.prog 86 #[.agg #[.int .i64 (sg x), .slice a1 (ln x) c1]] w fun e w' => ∃ a c, e = .returned (.agg #[.int .i64 (sg (-x)), .slice a (ln (-x)) c]) ∧ BD G w' a c (-x) ∧ Below w.heap.size w w' := by
 have HX := hI hx; have H1 := hI h1; have HM1 : Hid (-(sg x) * (x.natAbs : Int) = -x) := by show _ = _; rw [sg, Int.neg_mul, sign_mul_abs]
 have HM2 : Hid (x.natAbs ≠ 0 → -(sg x) = 1 ∨ -(sg x) = -1) := by
  intro h
  have := sg_ne (x := x) (by omega)
  omega
 have hw : IntKind.i64.wrap (-(sg x)) = -(sg x) := by rcases sg_cases x with h | h | h <;> rw [h] <;> rfl
 clear hx h1
 go_enter Tryz.func86, Tryz.ntmps86
 go_wp2_with fail
 refine (rright_ok (x := x) (H1.out.keep (by go_grown)) (HX.out.mono (by omega))).mono ?_; rintro e w1 ⟨rfl, hb⟩; refine kp2W hb fun K0 K1 => ?_; have hb' : Below w.heap.size w w1 := below_call (by go_grown) hb; have HB := hI hb'; replace H1 := kdW H1 hb'; clear hb hb'; refine K0.out.w2 fun aa ab ac ad z0 => ?_; refine K1.out.w2 fun ae af ag ah z1 => ?_; go_wp2_with fail
 refine (made_bd (z := -x) (H1.out.keep (by go_grown)) (HX.out.mono (by omega)) HM1.out HM2.out).mono ?_; rintro e w2 ⟨a3, c3, rfl, hd3, hb⟩; clear aa ab ac ad z0 ae af ag ah z1; have hb' := below_call (w1 := w1) (by go_grown) hb; replace K0 := kbW K0 hb'; replace K1 := kbW K1 hb'; replace HB := hI (below_call HB.out hb'); replace H1 := kdW H1 hb'; clear hb hb'; have Hd3 := hI hd3; clear hd3; refine K0.out.w2 fun aa ab ac ad z0 => ?_; refine K1.out.w2 fun ae af ag ah z1 => ?_; go_wp2_with fail
 clear aa ab ac ad z0 ae af ag ah z1; refine bodyPost_ret (results_box1 rfl _ _ (w.heap.size + 1) 34 _ _ _ rfl (K1.out.set2 _ _) Tryz.underlying34 rfl (by kernel_rfl)) rfl ?_; refine ⟨a3, c3, rfl, ?_, ?_⟩
 · exact (Hd3.out.far0 K1.out zb2 (only_setCell (only_setCell (World.grownBy.refl _ _) _) _))
 · exact (Below.setCell (Below.setCell HB.out (by simp; try omega) _) (by simp; try omega) _)
theorem rmul_ok {x y : Int} {a1 a2 : Option Addr} {c1 c2 : Nat} {w : World} (h1 : BD G w a1 c1 x) (h2 : BD G w a2 c2 y) (hx : Sz x 549755813888) (hy : Sz y 549755813888) :
 Calls Tryz.prog 49 #[.agg #[.int .i64 (sg x), .slice a1 (ln x) c1], .agg #[.int .i64 (sg y), .slice a2 (ln y) c2]] w fun e w' => ∃ a c, e = .returned (.tuple #[.agg #[.int .i64 (sg (x * y)), .slice a (ln (x * y)) c], .int .i64 0]) ∧ BD G w' a c (x * y) ∧ Below w.heap.size w w' := by
 have HX := hI hx; have H1 := hI h1; have HY := hI hy; have H2 := hI h2; have HM1 := hI (mul_signs x y); have HM2 := hI (mul_sign_one x y); have hws := wrap_signs x y; have HM0 : Hid (lnN (x.natAbs * y.natAbs) ≤ 8796093022208) := mul_room hx hy; clear hx h1 hy h2
 go_enter Tryz.func49, Tryz.ntmps49
 go_wp2_with fail
 refine (rright_ok (x := x) (H1.out.keep (by go_grown)) (HX.out.mono (by omega))).mono ?_; rintro e w1 ⟨rfl, hb⟩; refine kp3W hb fun K0 K1 K2 => ?_; have hb' : Below w.heap.size w w1 := below_call (by go_grown) hb; have HB := hI hb'; replace H1 := kdW H1 hb'; replace H2 := kdW H2 hb'; clear hb hb'; refine K0.out.w2 fun aa ab ac ad z0 => ?_; refine K1.out.w2 fun ae af ag ah z1 => ?_; refine K2.out.w2 fun ai aj ak al z2 => ?_; go_wp2_with fail
 refine (rright_ok (x := y) (H2.out.keep (by go_grown)) (HY.out.mono (by omega))).mono ?_; rintro e w2 ⟨rfl, hb⟩; clear aa ab ac ad z0 ae af ag ah z1 ai aj ak al z2; have hb' := below_call (w1 := w1) (by go_grown) hb; replace K0 := kbW K0 hb'; replace K1 := kbW K1 hb'; replace K2 := kbW K2 hb'; replace HB := hI (below_call HB.out hb'); replace H1 := kdW H1 hb'; replace H2 := kdW H2 hb'; clear hb hb'; refine K0.out.w2 fun aa ab ac ad z0 => ?_; refine K1.out.w2 fun ae af ag ah z1 => ?_; refine K2.out.w2 fun ai aj ak al z2 => ?_; go_wp2_with fail
 clear aa ab ac ad z0 ae af ag ah z1 ai aj ak al z2; have mk := Lib.hid fun w' (h : w2.grownBy w' (some (w.heap.size + 1 + 1))) => (K0.out.only h (by omega)).t2 ((K1.out.only h (by omega)).t2 h)
 have hs0 : w2.grownBy w2.drew (some (w.heap.size + 1 + 1)) := only_start _ _; have HS0 : Hid (Below w2.heap.size w2 w2.drew) := (Below.refl _ _).drew; have tok0 : True := trivial; have tok1 : True := trivial
 go_region_held3 (fun w' => w'.cell? ⟨w.heap.size, 0, none⟩ = some (.int .i64 (sg x)) ∧ w'.cell? ⟨w.heap.size, 1, none⟩ = some (.slice a1 (ln x) c1) ∧ w'.cell? ⟨w.heap.size + 1, 0, none⟩ = some (.int .i64 (sg y)) ∧ w'.cell? ⟨w.heap.size + 1, 1, none⟩ = some (.slice a2 (ln y) c2) ∧ w2.grownBy w' (some (w.heap.size + 1 + 1)))
   (first | exact mk.out _ (by assumption) | exact mk.out _ (only_setCell (only_setCell (by assumption) _) _) | exact mk.out _ (only_alloc (by assumption) _))
   (first
     | (go_at_call 82; have _t := tok0; refine (rtimes_is (H1.out.keep HS0.out) (H2.out.keep HS0.out) HX.out HY.out).mono ?_; rintro e w3 ⟨a3, c3, rfl, ho3, hb⟩; clear tok0 _t; have hs1 := only_call hs0 hb; have HS1 := hI (below_call HS0.out hb); clear hb; have Ho3 := hI ho3; clear ho3)
     | (go_at_call 81; have _t := tok1; refine (made_own (G := G) (z := x * y) Ho3.out HM0.out HM1.out HM2.out).mono ?_; rintro e w4 ⟨a4, c4, rfl, hd4, hb⟩; clear tok1 _t; have hs2 := only_call hs1 hb; have HS2 := hI (below_call HS1.out hb); have Ho3 := hI (Ho3.out.keep hb); clear hb; have Hd4 := hI hd4; clear hd4; obtain ⟨p2, q2⟩ := (K2.out.keep HS2.out).at))
 replace K0 := kbW K0 HS2.out; replace K1 := kbW K1 HS2.out; replace K2 := kbW K2 HS2.out; replace HB := hI (below_call HB.out HS2.out); replace H1 := kdW H1 HS2.out; replace H2 := kdW H2 HS2.out; clear mk hs0 HS0 hs1 HS1 hs2 HS2  p2 q2; go_wp2_with fail
 refine bodyPost_ret (results_box2 rfl _ _ (w.heap.size + 1 + 1) 34 _ _ _ rfl (K2.out.set2 _ _) Tryz.underlying34 rfl (by kernel_rfl)) rfl ?_; refine ⟨a4, c4, rfl, ?_, ?_⟩
 · exact (Hd4.out.far0 K2.out zb2 (only_setCell (only_setCell (World.grownBy.refl _ _) _) _))
 · exact (Below.setCell (Below.setCell HB.out (by simp; try omega) _) (by simp; try omega) _)
theorem radd_x0 {x y : Int} {a1 a2 : Option Addr} {c1 c2 : Nat} {w : World} (h1 : BD G w a1 c1 x) (h2 : BD G w a2 c2 y) (hx : Sz x 549755813888) (hy : Sz y 549755813888) (hc : sg x = 0) :
 Calls Tryz.prog 50 #[.agg #[.int .i64 (sg x), .slice a1 (ln x) c1], .agg #[.int .i64 (sg y), .slice a2 (ln y) c2]] w fun e w' => ∃ a c, e = .returned (.tuple #[.agg #[.int .i64 (sg (x + y)), .slice a (ln (x + y)) c], .int .i64 0]) ∧ BD G w' a c (x + y) ∧ Below w.heap.size w w' := by
 have HX := hI hx; have H1 := hI h1; have HY := hI hy; have H2 := hI h2; have hlk : 0 ≤ sg x * sg y := by rw [hc]; simp
 have HM := hI (add_signs hlk); have HM0 : Hid (lnN (x.natAbs + y.natAbs) ≤ 8796093022208) := add_room hx hy; have hor := or_signs hlk; have t1 : (sg x == 0) = true := by rw [hc]; rfl
 clear hlk hc; clear hx h1 hy h2
 go_enter Tryz.func50, Tryz.ntmps50
 go_wp2_with fail
 refine (rright_ok (x := x) (H1.out.keep (by go_grown)) (HX.out.mono (by omega))).mono ?_; rintro e w1 ⟨rfl, hb⟩; refine kp3W hb fun K0 K1 K2 => ?_; have hb' : Below w.heap.size w w1 := below_call (by go_grown) hb; have HB := hI hb'; replace H1 := kdW H1 hb'; replace H2 := kdW H2 hb'; clear hb hb'; refine K0.out.w2 fun aa ab ac ad z0 => ?_; refine K1.out.w2 fun ae af ag ah z1 => ?_; refine K2.out.w2 fun ai aj ak al z2 => ?_; go_wp2_with fail
 refine (rright_ok (x := y) (H2.out.keep (by go_grown)) (HY.out.mono (by omega))).mono ?_; rintro e w2 ⟨rfl, hb⟩; clear aa ab ac ad z0 ae af ag ah z1 ai aj ak al z2; have hb' := below_call (w1 := w1) (by go_grown) hb; replace K0 := kbW K0 hb'; replace K1 := kbW K1 hb'; replace K2 := kbW K2 hb'; replace HB := hI (below_call HB.out hb'); replace H1 := kdW H1 hb'; replace H2 := kdW H2 hb'; clear hb hb'; refine K0.out.w2 fun aa ab ac ad z0 => ?_; refine K1.out.w2 fun ae af ag ah z1 => ?_; refine K2.out.w2 fun ai aj ak al z2 => ?_; go_wp2_with fail
 clear aa ab ac ad z0 ae af ag ah z1 ai aj ak al z2; have mk := Lib.hid fun w' (h : w2.grownBy w' (some (w.heap.size + 1 + 1))) => (K0.out.only h (by omega)).t2 ((K1.out.only h (by omega)).t2 h)
 have hs0 : w2.grownBy w2.drew (some (w.heap.size + 1 + 1)) := only_start _ _; have HS0 : Hid (Below w2.heap.size w2 w2.drew) := (Below.refl _ _).drew; have tok0 : True := trivial; have tok1 : True := trivial
 go_region_held3 (fun w' => w'.cell? ⟨w.heap.size, 0, none⟩ = some (.int .i64 (sg x)) ∧ w'.cell? ⟨w.heap.size, 1, none⟩ = some (.slice a1 (ln x) c1) ∧ w'.cell? ⟨w.heap.size + 1, 0, none⟩ = some (.int .i64 (sg y)) ∧ w'.cell? ⟨w.heap.size + 1, 1, none⟩ = some (.slice a2 (ln y) c2) ∧ w2.grownBy w' (some (w.heap.size + 1 + 1)))
   (first | exact mk.out _ (by assumption) | exact mk.out _ (only_setCell (only_setCell (by assumption) _) _) | exact mk.out _ (only_alloc (by assumption) _))
   (first
     | (go_at_call 83; have _t := tok0; refine (plus_is (H1.out.keep HS0.out) (H2.out.keep HS0.out) HX.out HY.out).mono ?_; rintro e w3 ⟨a3, c3, rfl, ho3, hb⟩; clear tok0 _t; have hs1 := only_call hs0 hb; have HS1 := hI (below_call HS0.out hb); clear hb; have Ho3 := hI ho3; clear ho3)
     | (go_at_call 81; have _t := tok1; refine (made_own (G := G) (z := x + y) Ho3.out HM0.out HM.out.1 HM.out.2).mono ?_; rintro e w4 ⟨a4, c4, rfl, hd4, hb⟩; clear tok1 _t; have hs2 := only_call hs1 hb; have HS2 := hI (below_call HS1.out hb); have Ho3 := hI (Ho3.out.keep hb); clear hb; have Hd4 := hI hd4; clear hd4; obtain ⟨p2, q2⟩ := (K2.out.keep HS2.out).at))
 replace K0 := kbW K0 HS2.out; replace K1 := kbW K1 HS2.out; replace K2 := kbW K2 HS2.out; replace HB := hI (below_call HB.out HS2.out); replace H1 := kdW H1 HS2.out; replace H2 := kdW H2 HS2.out; clear mk hs0 HS0 hs1 HS1 hs2 HS2  p2 q2; go_wp2_with fail
 refine bodyPost_ret (results_box2 rfl _ _ (w.heap.size + 1 + 1) 34 _ _ _ rfl (K2.out.set2 _ _) Tryz.underlying34 rfl (by kernel_rfl)) rfl ?_; refine ⟨a4, c4, rfl, ?_, ?_⟩
 · exact (Hd4.out.far0 K2.out zb2 (only_setCell (only_setCell (World.grownBy.refl _ _) _) _))
 · exact (Below.setCell (Below.setCell HB.out (by simp; try omega) _) (by simp; try omega) _)
theorem radd_y0 {x y : Int} {a1 a2 : Option Addr} {c1 c2 : Nat} {w : World} (h1 : BD G w a1 c1 x) (h2 : BD G w a2 c2 y) (hx : Sz x 549755813888) (hy : Sz y 549755813888) (hc : sg x ≠ 0 ∧ sg y = 0) :
 Calls Tryz.prog 50 #[.agg #[.int .i64 (sg x), .slice a1 (ln x) c1], .agg #[.int .i64 (sg y), .slice a2 (ln y) c2]] w fun e w' => ∃ a c, e = .returned (.tuple #[.agg #[.int .i64 (sg (x + y)), .slice a (ln (x + y)) c], .int .i64 0]) ∧ BD G w' a c (x + y) ∧ Below w.heap.size w w' := by
 have HX := hI hx; have H1 := hI h1; have HY := hI hy; have H2 := hI h2; have hlk : 0 ≤ sg x * sg y := by rw [hc.2]; simp
 have HM := hI (add_signs hlk); have HM0 : Hid (lnN (x.natAbs + y.natAbs) ≤ 8796093022208) := add_room hx hy; have hor := or_signs hlk; have t1 : (sg x == 0) = false := by rw [beq_eq_false_iff_ne]; exact hc.1
 have t2 : (sg y == 0) = true := by rw [hc.2]; rfl
 clear hlk hc; clear hx h1 hy h2
 go_enter Tryz.func50, Tryz.ntmps50
 go_wp2_with fail
 refine (rright_ok (x := x) (H1.out.keep (by go_grown)) (HX.out.mono (by omega))).mono ?_; rintro e w1 ⟨rfl, hb⟩; refine kp3W hb fun K0 K1 K2 => ?_; have hb' : Below w.heap.size w w1 := below_call (by go_grown) hb; have HB := hI hb'; replace H1 := kdW H1 hb'; replace H2 := kdW H2 hb'; clear hb hb'; refine K0.out.w2 fun aa ab ac ad z0 => ?_; refine K1.out.w2 fun ae af ag ah z1 => ?_; refine K2.out.w2 fun ai aj ak al z2 => ?_; go_wp2_with fail
 refine (rright_ok (x := y) (H2.out.keep (by go_grown)) (HY.out.mono (by omega))).mono ?_; rintro e w2 ⟨rfl, hb⟩; clear aa ab ac ad z0 ae af ag ah z1 ai aj ak al z2; have hb' := below_call (w1 := w1) (by go_grown) hb; replace K0 := kbW K0 hb'; replace K1 := kbW K1 hb'; replace K2 := kbW K2 hb'; replace HB := hI (below_call HB.out hb'); replace H1 := kdW H1 hb'; replace H2 := kdW H2 hb'; clear hb hb'; refine K0.out.w2 fun aa ab ac ad z0 => ?_; refine K1.out.w2 fun ae af ag ah z1 => ?_; refine K2.out.w2 fun ai aj ak al z2 => ?_; go_wp2_with fail
 clear aa ab ac ad z0 ae af ag ah z1 ai aj ak al z2; have mk := Lib.hid fun w' (h : w2.grownBy w' (some (w.heap.size + 1 + 1))) => (K0.out.only h (by omega)).t2 ((K1.out.only h (by omega)).t2 h)
 have hs0 : w2.grownBy w2.drew (some (w.heap.size + 1 + 1)) := only_start _ _; have HS0 : Hid (Below w2.heap.size w2 w2.drew) := (Below.refl _ _).drew; have tok0 : True := trivial; have tok1 : True := trivial
 go_region_held3 (fun w' => w'.cell? ⟨w.heap.size, 0, none⟩ = some (.int .i64 (sg x)) ∧ w'.cell? ⟨w.heap.size, 1, none⟩ = some (.slice a1 (ln x) c1) ∧ w'.cell? ⟨w.heap.size + 1, 0, none⟩ = some (.int .i64 (sg y)) ∧ w'.cell? ⟨w.heap.size + 1, 1, none⟩ = some (.slice a2 (ln y) c2) ∧ w2.grownBy w' (some (w.heap.size + 1 + 1)))
   (first | exact mk.out _ (by assumption) | exact mk.out _ (only_setCell (only_setCell (by assumption) _) _) | exact mk.out _ (only_alloc (by assumption) _))
   (first
     | (go_at_call 83; have _t := tok0; refine (plus_is (H1.out.keep HS0.out) (H2.out.keep HS0.out) HX.out HY.out).mono ?_; rintro e w3 ⟨a3, c3, rfl, ho3, hb⟩; clear tok0 _t; have hs1 := only_call hs0 hb; have HS1 := hI (below_call HS0.out hb); clear hb; have Ho3 := hI ho3; clear ho3)
     | (go_at_call 81; have _t := tok1; refine (made_own (G := G) (z := x + y) Ho3.out HM0.out HM.out.1 HM.out.2).mono ?_; rintro e w4 ⟨a4, c4, rfl, hd4, hb⟩; clear tok1 _t; have hs2 := only_call hs1 hb; have HS2 := hI (below_call HS1.out hb); have Ho3 := hI (Ho3.out.keep hb); clear hb; have Hd4 := hI hd4; clear hd4; obtain ⟨p2, q2⟩ := (K2.out.keep HS2.out).at))
 replace K0 := kbW K0 HS2.out; replace K1 := kbW K1 HS2.out; replace K2 := kbW K2 HS2.out; replace HB := hI (below_call HB.out HS2.out); replace H1 := kdW H1 HS2.out; replace H2 := kdW H2 HS2.out; clear mk hs0 HS0 hs1 HS1 hs2 HS2  p2 q2; go_wp2_with fail
 refine bodyPost_ret (results_box2 rfl _ _ (w.heap.size + 1 + 1) 34 _ _ _ rfl (K2.out.set2 _ _) Tryz.underlying34 rfl (by kernel_rfl)) rfl ?_; refine ⟨a4, c4, rfl, ?_, ?_⟩
 · exact (Hd4.out.far0 K2.out zb2 (only_setCell (only_setCell (World.grownBy.refl _ _) _) _))
 · exact (Below.setCell (Below.setCell HB.out (by simp; try omega) _) (by simp; try omega) _)
theorem radd_eq {x y : Int} {a1 a2 : Option Addr} {c1 c2 : Nat} {w : World} (h1 : BD G w a1 c1 x) (h2 : BD G w a2 c2 y) (hx : Sz x 549755813888) (hy : Sz y 549755813888) (hc : sg x ≠ 0 ∧ sg y ≠ 0 ∧ sg x = sg y) :
 Calls Tryz.prog 50 #[.agg #[.int .i64 (sg x), .slice a1 (ln x) c1], .agg #[.int .i64 (sg y), .slice a2 (ln y) c2]] w fun e w' => ∃ a c, e = .returned (.tuple #[.agg #[.int .i64 (sg (x + y)), .slice a (ln (x + y)) c], .int .i64 0]) ∧ BD G w' a c (x + y) ∧ Below w.heap.size w w' := by
 have HX := hI hx; have H1 := hI h1; have HY := hI hy; have H2 := hI h2; have hlk : 0 ≤ sg x * sg y := by rw [hc.2.2]; rcases sg_cases y with h | h | h <;> rw [h] <;> decide
 have HM := hI (add_signs hlk); have HM0 : Hid (lnN (x.natAbs + y.natAbs) ≤ 8796093022208) := add_room hx hy; have hor := or_signs hlk; have t1 : (sg x == 0) = false := by rw [beq_eq_false_iff_ne]; exact hc.1
 have t2 : (sg y == 0) = false := by rw [beq_eq_false_iff_ne]; exact hc.2.1
 have t3 : (sg x == sg y) = true := by rw [beq_iff_eq]; exact hc.2.2
 clear hlk hc; clear hx h1 hy h2
 go_enter Tryz.func50, Tryz.ntmps50
 go_wp2_with fail
 refine (rright_ok (x := x) (H1.out.keep (by go_grown)) (HX.out.mono (by omega))).mono ?_; rintro e w1 ⟨rfl, hb⟩; refine kp3W hb fun K0 K1 K2 => ?_; have hb' : Below w.heap.size w w1 := below_call (by go_grown) hb; have HB := hI hb'; replace H1 := kdW H1 hb'; replace H2 := kdW H2 hb'; clear hb hb'; refine K0.out.w2 fun aa ab ac ad z0 => ?_; refine K1.out.w2 fun ae af ag ah z1 => ?_; refine K2.out.w2 fun ai aj ak al z2 => ?_; go_wp2_with fail
 refine (rright_ok (x := y) (H2.out.keep (by go_grown)) (HY.out.mono (by omega))).mono ?_; rintro e w2 ⟨rfl, hb⟩; clear aa ab ac ad z0 ae af ag ah z1 ai aj ak al z2; have hb' := below_call (w1 := w1) (by go_grown) hb; replace K0 := kbW K0 hb'; replace K1 := kbW K1 hb'; replace K2 := kbW K2 hb'; replace HB := hI (below_call HB.out hb'); replace H1 := kdW H1 hb'; replace H2 := kdW H2 hb'; clear hb hb'; refine K0.out.w2 fun aa ab ac ad z0 => ?_; refine K1.out.w2 fun ae af ag ah z1 => ?_; refine K2.out.w2 fun ai aj ak al z2 => ?_; go_wp2_with fail
 clear aa ab ac ad z0 ae af ag ah z1 ai aj ak al z2; have mk := Lib.hid fun w' (h : w2.grownBy w' (some (w.heap.size + 1 + 1))) => (K0.out.only h (by omega)).t2 ((K1.out.only h (by omega)).t2 h)
 have hs0 : w2.grownBy w2.drew (some (w.heap.size + 1 + 1)) := only_start _ _; have HS0 : Hid (Below w2.heap.size w2 w2.drew) := (Below.refl _ _).drew; have tok0 : True := trivial; have tok1 : True := trivial
 go_region_held3 (fun w' => w'.cell? ⟨w.heap.size, 0, none⟩ = some (.int .i64 (sg x)) ∧ w'.cell? ⟨w.heap.size, 1, none⟩ = some (.slice a1 (ln x) c1) ∧ w'.cell? ⟨w.heap.size + 1, 0, none⟩ = some (.int .i64 (sg y)) ∧ w'.cell? ⟨w.heap.size + 1, 1, none⟩ = some (.slice a2 (ln y) c2) ∧ w2.grownBy w' (some (w.heap.size + 1 + 1)))
   (first | exact mk.out _ (by assumption) | exact mk.out _ (only_setCell (only_setCell (by assumption) _) _) | exact mk.out _ (only_alloc (by assumption) _))
   (first
     | (go_at_call 83; have _t := tok0; refine (plus_is (H1.out.keep HS0.out) (H2.out.keep HS0.out) HX.out HY.out).mono ?_; rintro e w3 ⟨a3, c3, rfl, ho3, hb⟩; clear tok0 _t; have hs1 := only_call hs0 hb; have HS1 := hI (below_call HS0.out hb); clear hb; have Ho3 := hI ho3; clear ho3)
     | (go_at_call 81; have _t := tok1; refine (made_own (G := G) (z := x + y) Ho3.out HM0.out HM.out.1 HM.out.2).mono ?_; rintro e w4 ⟨a4, c4, rfl, hd4, hb⟩; clear tok1 _t; have hs2 := only_call hs1 hb; have HS2 := hI (below_call HS1.out hb); have Ho3 := hI (Ho3.out.keep hb); clear hb; have Hd4 := hI hd4; clear hd4; obtain ⟨p2, q2⟩ := (K2.out.keep HS2.out).at))
 replace K0 := kbW K0 HS2.out; replace K1 := kbW K1 HS2.out; replace K2 := kbW K2 HS2.out; replace HB := hI (below_call HB.out HS2.out); replace H1 := kdW H1 HS2.out; replace H2 := kdW H2 HS2.out; clear mk hs0 HS0 hs1 HS1 hs2 HS2  p2 q2; go_wp2_with fail
 refine bodyPost_ret (results_box2 rfl _ _ (w.heap.size + 1 + 1) 34 _ _ _ rfl (K2.out.set2 _ _) Tryz.underlying34 rfl (by kernel_rfl)) rfl ?_; refine ⟨a4, c4, rfl, ?_, ?_⟩
 · exact (Hd4.out.far0 K2.out zb2 (only_setCell (only_setCell (World.grownBy.refl _ _) _) _))
 · exact (Below.setCell (Below.setCell HB.out (by simp; try omega) _) (by simp; try omega) _)
theorem radd_lt {x y : Int} {a1 a2 : Option Addr} {c1 c2 : Nat} {w : World} (h1 : BD G w a1 c1 x) (h2 : BD G w a2 c2 y) (hx : Sz x 549755813888) (hy : Sz y 549755813888) (hs : sg x * sg y < 0) (hle : x.natAbs < y.natAbs) :
 Calls Tryz.prog 50 #[.agg #[.int .i64 (sg x), .slice a1 (ln x) c1], .agg #[.int .i64 (sg y), .slice a2 (ln y) c2]] w fun e w' => ∃ a c, e = .returned (.tuple #[.agg #[.int .i64 (sg (x + y)), .slice a (ln (x + y)) c], .int .i64 0]) ∧ BD G w' a c (x + y) ∧ Below w.heap.size w w' := by
 have HX := hI hx; have H1 := hI h1; have HY := hI hy; have H2 := hI h2; have hx0 : sg x ≠ 0 := by intro h; rw [h] at hs; simp at hs
 have hy0 : sg y ≠ 0 := by intro h; rw [h] at hs; simp at hs
 have hxy : sg x ≠ sg y := by intro h; rw [h] at hs; rcases sg_cases y with h' | h' | h' <;> rw [h'] at hs <;> simp at hs
 have t1 : (sg x == 0) = false := by rw [beq_eq_false_iff_ne]; exact hx0
 have t2 : (sg y == 0) = false := by rw [beq_eq_false_iff_ne]; exact hy0
 have t3 : (sg x == sg y) = false := by rw [beq_eq_false_iff_ne]; exact hxy
 have HLS : Hid (lessZ x y = true) := by show _ = _; rw [lessZ]; rw [decide_eq_true_eq]; exact hle
 have HLE : Hid (x.natAbs ≤ y.natAbs) := by show _ ≤ _; omega
 have HM0 : Hid (lnN (y.natAbs - x.natAbs) ≤ 8796093022208) := by show _ ≤ _; have := digs_len_mono (Nat.sub_le y.natAbs x.natAbs); unfold Sz at hx hy; unfold lnN; omega
 have hsg := sub_signs (x := y) (y := x) (by rw [Int.mul_comm]; exact hs) (by omega); have HM1 : Hid (sg y * ((y.natAbs - x.natAbs : Nat) : Int) = x + y) := hsg.1.trans (Int.add_comm _ _); have HM2 := hI hsg.2; clear hx0 hy0 hxy hs hle hsg; clear hx h1 hy h2
 go_enter Tryz.func50, Tryz.ntmps50
 go_wp2_with fail
 refine (rright_ok (x := x) (H1.out.keep (by go_grown)) (HX.out.mono (by omega))).mono ?_; rintro e w1 ⟨rfl, hb⟩; refine kp3W hb fun K0 K1 K2 => ?_; have hb' : Below w.heap.size w w1 := below_call (by go_grown) hb; have HB := hI hb'; replace H1 := kdW H1 hb'; replace H2 := kdW H2 hb'; clear hb hb'; refine K0.out.w2 fun aa ab ac ad z0 => ?_; refine K1.out.w2 fun ae af ag ah z1 => ?_; refine K2.out.w2 fun ai aj ak al z2 => ?_; go_wp2_with fail
 refine (rright_ok (x := y) (H2.out.keep (by go_grown)) (HY.out.mono (by omega))).mono ?_; rintro e w2 ⟨rfl, hb⟩; clear aa ab ac ad z0 ae af ag ah z1 ai aj ak al z2; have hb' := below_call (w1 := w1) (by go_grown) hb; replace K0 := kbW K0 hb'; replace K1 := kbW K1 hb'; replace K2 := kbW K2 hb'; replace HB := hI (below_call HB.out hb'); replace H1 := kdW H1 hb'; replace H2 := kdW H2 hb'; clear hb hb'; refine K0.out.w2 fun aa ab ac ad z0 => ?_; refine K1.out.w2 fun ae af ag ah z1 => ?_; refine K2.out.w2 fun ai aj ak al z2 => ?_; go_wp2_with fail
 refine (less_is (H1.out.keep (by go_grown)) (H2.out.keep (by go_grown)) HX.out HY.out).mono ?_; rintro e w3 ⟨rfl, hb⟩; clear aa ab ac ad z0 ae af ag ah z1 ai aj ak al z2; have hb' := below_call (w1 := w2) (by go_grown) hb; replace K0 := kbW K0 hb'; replace K1 := kbW K1 hb'; replace K2 := kbW K2 hb'; replace HB := hI (below_call HB.out hb'); replace H1 := kdW H1 hb'; replace H2 := kdW H2 hb'; clear hb hb'; refine K0.out.w2 fun aa ab ac ad z0 => ?_; refine K1.out.w2 fun ae af ag ah z1 => ?_; refine K2.out.w2 fun ai aj ak al z2 => ?_; rw [HLS.out]; go_wp2_with fail
 clear aa ab ac ad z0 ae af ag ah z1 ai aj ak al z2; have mk := Lib.hid fun w' (h : w3.grownBy w' (some (w.heap.size + 1 + 1))) => (K0.out.only h (by omega)).t2 ((K1.out.only h (by omega)).t2 h)
 have hs0 : w3.grownBy w3.drew (some (w.heap.size + 1 + 1)) := only_start _ _; have HS0 : Hid (Below w3.heap.size w3 w3.drew) := (Below.refl _ _).drew; have tok0 : True := trivial; have tok1 : True := trivial
 go_region_held3 (fun w' => w'.cell? ⟨w.heap.size, 0, none⟩ = some (.int .i64 (sg x)) ∧ w'.cell? ⟨w.heap.size, 1, none⟩ = some (.slice a1 (ln x) c1) ∧ w'.cell? ⟨w.heap.size + 1, 0, none⟩ = some (.int .i64 (sg y)) ∧ w'.cell? ⟨w.heap.size + 1, 1, none⟩ = some (.slice a2 (ln y) c2) ∧ w3.grownBy w' (some (w.heap.size + 1 + 1)))
   (first | exact mk.out _ (by assumption) | exact mk.out _ (only_setCell (only_setCell (by assumption) _) _) | exact mk.out _ (only_alloc (by assumption) _))
   (first
     | (go_at_call 85; have _t := tok0; refine (minus_is (H2.out.keep HS0.out) (H1.out.keep HS0.out) HY.out HLE.out).mono ?_; rintro e w4 ⟨a3, c3, rfl, ho3, hb⟩; clear tok0 _t; have hs1 := only_call hs0 hb; have HS1 := hI (below_call HS0.out hb); clear hb; have Ho3 := hI ho3; clear ho3)
     | (go_at_call 81; have _t := tok1; refine (made_own (G := G) (z := x + y) Ho3.out HM0.out HM1.out (fun _ => HM2.out)).mono ?_; rintro e w5 ⟨a4, c4, rfl, hd4, hb⟩; clear tok1 _t; have hs2 := only_call hs1 hb; have HS2 := hI (below_call HS1.out hb); have Ho3 := hI (Ho3.out.keep hb); clear hb; have Hd4 := hI hd4; clear hd4; obtain ⟨p2, q2⟩ := (K2.out.keep HS2.out).at))
 replace K0 := kbW K0 HS2.out; replace K1 := kbW K1 HS2.out; replace K2 := kbW K2 HS2.out; replace HB := hI (below_call HB.out HS2.out); replace H1 := kdW H1 HS2.out; replace H2 := kdW H2 HS2.out; clear mk hs0 HS0 hs1 HS1 hs2 HS2  p2 q2; go_wp2_with fail
 refine bodyPost_ret (results_box2 rfl _ _ (w.heap.size + 1 + 1) 34 _ _ _ rfl (K2.out.set2 _ _) Tryz.underlying34 rfl (by kernel_rfl)) rfl ?_; refine ⟨a4, c4, rfl, ?_, ?_⟩
 · exact (Hd4.out.far0 K2.out zb2 (only_setCell (only_setCell (World.grownBy.refl _ _) _) _))
 · exact (Below.setCell (Below.setCell HB.out (by simp; try omega) _) (by simp; try omega) _)
theorem radd_ge {x y : Int} {a1 a2 : Option Addr} {c1 c2 : Nat} {w : World} (h1 : BD G w a1 c1 x) (h2 : BD G w a2 c2 y) (hx : Sz x 549755813888) (hy : Sz y 549755813888) (hs : sg x * sg y < 0) (hle : y.natAbs ≤ x.natAbs) :
 Calls Tryz.prog 50 #[.agg #[.int .i64 (sg x), .slice a1 (ln x) c1], .agg #[.int .i64 (sg y), .slice a2 (ln y) c2]] w fun e w' => ∃ a c, e = .returned (.tuple #[.agg #[.int .i64 (sg (x + y)), .slice a (ln (x + y)) c], .int .i64 0]) ∧ BD G w' a c (x + y) ∧ Below w.heap.size w w' := by
 have HX := hI hx; have H1 := hI h1; have HY := hI hy; have H2 := hI h2; have hx0 : sg x ≠ 0 := by intro h; rw [h] at hs; simp at hs
 have hy0 : sg y ≠ 0 := by intro h; rw [h] at hs; simp at hs
 have hxy : sg x ≠ sg y := by intro h; rw [h] at hs; rcases sg_cases y with h' | h' | h' <;> rw [h'] at hs <;> simp at hs
 have t1 : (sg x == 0) = false := by rw [beq_eq_false_iff_ne]; exact hx0
 have t2 : (sg y == 0) = false := by rw [beq_eq_false_iff_ne]; exact hy0
 have t3 : (sg x == sg y) = false := by rw [beq_eq_false_iff_ne]; exact hxy
 have HLS : Hid (lessZ x y = false) := by show _ = _; rw [lessZ]; rw [decide_eq_false_iff_not]; omega
 have HLE : Hid (y.natAbs ≤ x.natAbs) := by show _ ≤ _; omega
 have HM0 : Hid (lnN (x.natAbs - y.natAbs) ≤ 8796093022208) := by show _ ≤ _; have := digs_len_mono (Nat.sub_le x.natAbs y.natAbs); unfold Sz at hx hy; unfold lnN; omega
 have hsg := sub_signs hs hle; have HM1 : Hid (sg x * ((x.natAbs - y.natAbs : Nat) : Int) = x + y) := hsg.1; have HM2 := hI hsg.2; clear hx0 hy0 hxy hs hle hsg; clear hx h1 hy h2
 go_enter Tryz.func50, Tryz.ntmps50
 go_wp2_with fail
 refine (rright_ok (x := x) (H1.out.keep (by go_grown)) (HX.out.mono (by omega))).mono ?_; rintro e w1 ⟨rfl, hb⟩; refine kp3W hb fun K0 K1 K2 => ?_; have hb' : Below w.heap.size w w1 := below_call (by go_grown) hb; have HB := hI hb'; replace H1 := kdW H1 hb'; replace H2 := kdW H2 hb'; clear hb hb'; refine K0.out.w2 fun aa ab ac ad z0 => ?_; refine K1.out.w2 fun ae af ag ah z1 => ?_; refine K2.out.w2 fun ai aj ak al z2 => ?_; go_wp2_with fail
 refine (rright_ok (x := y) (H2.out.keep (by go_grown)) (HY.out.mono (by omega))).mono ?_; rintro e w2 ⟨rfl, hb⟩; clear aa ab ac ad z0 ae af ag ah z1 ai aj ak al z2; have hb' := below_call (w1 := w1) (by go_grown) hb; replace K0 := kbW K0 hb'; replace K1 := kbW K1 hb'; replace K2 := kbW K2 hb'; replace HB := hI (below_call HB.out hb'); replace H1 := kdW H1 hb'; replace H2 := kdW H2 hb'; clear hb hb'; refine K0.out.w2 fun aa ab ac ad z0 => ?_; refine K1.out.w2 fun ae af ag ah z1 => ?_; refine K2.out.w2 fun ai aj ak al z2 => ?_; go_wp2_with fail
 refine (less_is (H1.out.keep (by go_grown)) (H2.out.keep (by go_grown)) HX.out HY.out).mono ?_; rintro e w3 ⟨rfl, hb⟩; clear aa ab ac ad z0 ae af ag ah z1 ai aj ak al z2; have hb' := below_call (w1 := w2) (by go_grown) hb; replace K0 := kbW K0 hb'; replace K1 := kbW K1 hb'; replace K2 := kbW K2 hb'; replace HB := hI (below_call HB.out hb'); replace H1 := kdW H1 hb'; replace H2 := kdW H2 hb'; clear hb hb'; refine K0.out.w2 fun aa ab ac ad z0 => ?_; refine K1.out.w2 fun ae af ag ah z1 => ?_; refine K2.out.w2 fun ai aj ak al z2 => ?_; rw [HLS.out]; go_wp2_with fail
 clear aa ab ac ad z0 ae af ag ah z1 ai aj ak al z2; have mk := Lib.hid fun w' (h : w3.grownBy w' (some (w.heap.size + 1 + 1))) => (K0.out.only h (by omega)).t2 ((K1.out.only h (by omega)).t2 h)
 have hs0 : w3.grownBy w3.drew (some (w.heap.size + 1 + 1)) := only_start _ _; have HS0 : Hid (Below w3.heap.size w3 w3.drew) := (Below.refl _ _).drew; have tok0 : True := trivial; have tok1 : True := trivial
 go_region_held3 (fun w' => w'.cell? ⟨w.heap.size, 0, none⟩ = some (.int .i64 (sg x)) ∧ w'.cell? ⟨w.heap.size, 1, none⟩ = some (.slice a1 (ln x) c1) ∧ w'.cell? ⟨w.heap.size + 1, 0, none⟩ = some (.int .i64 (sg y)) ∧ w'.cell? ⟨w.heap.size + 1, 1, none⟩ = some (.slice a2 (ln y) c2) ∧ w3.grownBy w' (some (w.heap.size + 1 + 1)))
   (first | exact mk.out _ (by assumption) | exact mk.out _ (only_setCell (only_setCell (by assumption) _) _) | exact mk.out _ (only_alloc (by assumption) _))
   (first
     | (go_at_call 85; have _t := tok0; refine (minus_is (H1.out.keep HS0.out) (H2.out.keep HS0.out) HX.out HLE.out).mono ?_; rintro e w4 ⟨a3, c3, rfl, ho3, hb⟩; clear tok0 _t; have hs1 := only_call hs0 hb; have HS1 := hI (below_call HS0.out hb); clear hb; have Ho3 := hI ho3; clear ho3)
     | (go_at_call 81; have _t := tok1; refine (made_own (G := G) (z := x + y) Ho3.out HM0.out HM1.out (fun _ => HM2.out)).mono ?_; rintro e w5 ⟨a4, c4, rfl, hd4, hb⟩; clear tok1 _t; have hs2 := only_call hs1 hb; have HS2 := hI (below_call HS1.out hb); have Ho3 := hI (Ho3.out.keep hb); clear hb; have Hd4 := hI hd4; clear hd4; obtain ⟨p2, q2⟩ := (K2.out.keep HS2.out).at))
 replace K0 := kbW K0 HS2.out; replace K1 := kbW K1 HS2.out; replace K2 := kbW K2 HS2.out; replace HB := hI (below_call HB.out HS2.out); replace H1 := kdW H1 HS2.out; replace H2 := kdW H2 HS2.out; clear mk hs0 HS0 hs1 HS1 hs2 HS2  p2 q2; go_wp2_with fail
 refine bodyPost_ret (results_box2 rfl _ _ (w.heap.size + 1 + 1) 34 _ _ _ rfl (K2.out.set2 _ _) Tryz.underlying34 rfl (by kernel_rfl)) rfl ?_; refine ⟨a4, c4, rfl, ?_, ?_⟩
 · exact (Hd4.out.far0 K2.out zb2 (only_setCell (only_setCell (World.grownBy.refl _ _) _) _))
 · exact (Below.setCell (Below.setCell HB.out (by simp; try omega) _) (by simp; try omega) _)
theorem radd_ok {x y : Int} {a1 a2 : Option Addr} {c1 c2 : Nat} {w : World} (h1 : BD G w a1 c1 x) (h2 : BD G w a2 c2 y) (hx : Sz x 549755813888) (hy : Sz y 549755813888) :
 Calls Tryz.prog 50 #[.agg #[.int .i64 (sg x), .slice a1 (ln x) c1], .agg #[.int .i64 (sg y), .slice a2 (ln y) c2]] w fun e w' => ∃ a c, e = .returned (.tuple #[.agg #[.int .i64 (sg (x + y)), .slice a (ln (x + y)) c], .int .i64 0]) ∧ BD G w' a c (x + y) ∧ Below w.heap.size w w' := by
 by_cases h : sg x * sg y < 0
 · rcases Nat.lt_or_ge x.natAbs y.natAbs with h' | h'
   · exact radd_lt h1 h2 hx hy h h'
   · exact radd_ge h1 h2 hx hy h h'
 · by_cases hx0 : sg x = 0
   · exact radd_x0 h1 h2 hx hy hx0
   · by_cases hy0 : sg y = 0
     · exact radd_y0 h1 h2 hx hy ⟨hx0, hy0⟩
     · refine radd_eq h1 h2 hx hy ⟨hx0, hy0, ?_⟩
       rcases sg_cases x with h3 | h3 | h3 <;> rcases sg_cases y with h4 | h4 | h4 <;> rw [h3, h4] at h <;> omega
theorem over_nat {m n : Nat} {a1 a2 : Option Addr} {c1 c2 : Nat} {w : World} (h1 : RdN w (.slice a1 (lnN m) c1) (digs m)) (h2 : RdN w (.slice a2 (lnN n) c2) (digs n)) (hm : lnN m ≤ 549755813888) (hn : lnN n ≤ 549755813888) (h0 : n ≠ 0) {q r : Nat} (hq : m / n = q) (hr : m % n = r) :
 Calls Tryz.prog 98 #[.slice a1 (lnN m) c1, .slice a2 (lnN n) c2] w fun e w' => ∃ a c b d, e = .returned (.tuple #[.slice a (lnN q) c, .slice b (lnN r) d]) ∧ OwnN w' w.heap.size (.slice a (lnN q) c) (digs q) ∧ OwnN w' w.heap.size (.slice b (lnN r) d) (digs r) ∧ Below w.heap.size w w' := by
 have h3 := over_ok _ _ (digs m) n w h1 h2 (digs_small _) (by omega) hm hn; rw [val_digs, hq, hr] at h3
 exact h3.mono fun e w' ⟨v, r', he, h3, h4, hb⟩ => by
  obtain ⟨a, c, rfl⟩ := h3.slice; obtain ⟨b, d, rfl⟩ := h4.slice; exact ⟨a, c, b, d, he, h3, h4, hb⟩
theorem ord_ref {x y : Int} (hs : sg x = sg y) (hne : x ≠ y) : ord x y = if lessZ x y = decide (0 < sg x) then -1 else 1 := by
 rcases Int.lt_trichotomy x 0 with hx | hx | hx
 · rw [sg_neg hx] at *
   rcases Int.lt_trichotomy y 0 with hy | hy | hy
   · rw [show decide ((0 : Int) < -1) = false from rfl]
     unfold lessZ
     by_cases h : x.natAbs < y.natAbs
     · rw [decide_eq_true h, if_neg (by simp), ord_gt (by omega)]
     · rw [decide_eq_false h, if_pos rfl, ord_lt (by omega)]
   · rw [sg_zero' hy] at hs; omega
   · rw [sg_pos hy] at hs; omega
 · rw [sg_zero' hx] at hs
   rcases Int.lt_trichotomy y 0 with hy | hy | hy
   · rw [sg_neg hy] at hs; omega
   · omega
   · rw [sg_pos hy] at hs; omega
 · rw [sg_pos hx] at *
   rcases Int.lt_trichotomy y 0 with hy | hy | hy
   · rw [sg_neg hy] at hs; omega
   · rw [sg_zero' hy] at hs; omega
   · rw [show decide ((0 : Int) < 1) = true from rfl]
     unfold lessZ
     by_cases h : x.natAbs < y.natAbs
     · rw [decide_eq_true h, if_pos rfl, ord_lt (by omega)]
     · rw [decide_eq_false h, if_neg (by simp), ord_gt (by omega)]
theorem ord_sign {x y : Int} (h : sg x ≠ sg y) : ord x y = if sg x < sg y then -1 else 1 := by
 rw [← ord_signs h]; unfold ord
 by_cases h1 : sg x < sg y
 · rw [if_pos h1, if_pos h1]
 · rw [if_neg h1, if_neg h1, if_pos (by omega)]
theorem rcompare_eq {x y : Int} {a1 a2 : Option Addr} {c1 c2 : Nat} {w : World} (h1 : BD G w a1 c1 x) (h2 : BD G w a2 c2 y) (hx : Sz x 549755813888) (hy : Sz y 549755813888) (hc : x = y) :
 Calls Tryz.prog 59 #[.agg #[.int .i64 (sg x), .slice a1 (ln x) c1], .agg #[.int .i64 (sg y), .slice a2 (ln y) c2]] w fun e w' => e = .returned (.int .i64 (ord x y)) ∧ Below w.heap.size w w' := by
 have HX := hI hx; have H1 := hI h1; have HY := hI hy; have H2 := hI h2; have HEQ : Hid (eqZ x y = true) := by show _ = _; rw [eqZ, decide_eq_true_eq]; exact hc
 have HO : Hid (0 = ord x y) := by show _ = _; rw [hc, ord_eq]
 clear hc; clear hx h1 hy h2
 go_enter Tryz.func59, Tryz.ntmps59
 go_wp2_with fail
 refine (rright_ok (x := x) (H1.out.keep (by go_grown)) (HX.out.mono (by omega))).mono ?_; rintro e w1 ⟨rfl, hb⟩; refine kp2W hb fun K0 K1 => ?_; have hb' : Below w.heap.size w w1 := below_call (by go_grown) hb; have HB := hI hb'; replace H1 := kdW H1 hb'; replace H2 := kdW H2 hb'; clear hb hb'; refine K0.out.w2 fun aa ab ac ad z0 => ?_; refine K1.out.w2 fun ae af ag ah z1 => ?_; go_wp2_with fail
 refine (rright_ok (x := y) (H2.out.keep (by go_grown)) (HY.out.mono (by omega))).mono ?_; rintro e w2 ⟨rfl, hb⟩; clear aa ab ac ad z0 ae af ag ah z1; have hb' := below_call (w1 := w1) (by go_grown) hb; replace K0 := kbW K0 hb'; replace K1 := kbW K1 hb'; replace HB := hI (below_call HB.out hb'); replace H1 := kdW H1 hb'; replace H2 := kdW H2 hb'; clear hb hb'; refine K0.out.w2 fun aa ab ac ad z0 => ?_; refine K1.out.w2 fun ae af ag ah z1 => ?_; go_wp2_with fail
 refine (rsame_ok (H1.out.keep (by go_grown)) (H2.out.keep (by go_grown)) (HX.out.mono (by omega)) (HY.out.mono (by omega))).mono ?_; rintro e w3 ⟨rfl, hb⟩; clear aa ab ac ad z0 ae af ag ah z1; have hb' := below_call (w1 := w2) (by go_grown) hb; replace K0 := kbW K0 hb'; replace K1 := kbW K1 hb'; replace HB := hI (below_call HB.out hb'); replace H1 := kdW H1 hb'; replace H2 := kdW H2 hb'; clear hb hb'; refine K0.out.w2 fun aa ab ac ad z0 => ?_; refine K1.out.w2 fun ae af ag ah z1 => ?_; rw [HEQ.out]; go_wp2_with fail
 go_ret
 exact ⟨ret_int HO.out, HB.out⟩
theorem rcompare_slt {x y : Int} {a1 a2 : Option Addr} {c1 c2 : Nat} {w : World} (h1 : BD G w a1 c1 x) (h2 : BD G w a2 c2 y) (hx : Sz x 549755813888) (hy : Sz y 549755813888) (hc : sg x < sg y) :
 Calls Tryz.prog 59 #[.agg #[.int .i64 (sg x), .slice a1 (ln x) c1], .agg #[.int .i64 (sg y), .slice a2 (ln y) c2]] w fun e w' => e = .returned (.int .i64 (ord x y)) ∧ Below w.heap.size w w' := by
 have HX := hI hx; have H1 := hI h1; have HY := hI hy; have H2 := hI h2; have HEQ : Hid (eqZ x y = false) := eqZ_sign (by omega); have HO : Hid (-1 = ord x y) := by show _ = _; rw [ord_sign (by omega)]; rw [if_pos hc]
 have t1 : (sg x != sg y) = true := by rw [bne_iff_ne]; omega
 have t2 : decide (sg x < sg y) = true := by rw [decide_eq_true_eq]; exact hc
 clear hc; clear hx h1 hy h2
 go_enter Tryz.func59, Tryz.ntmps59
 go_wp2_with fail
 refine (rright_ok (x := x) (H1.out.keep (by go_grown)) (HX.out.mono (by omega))).mono ?_; rintro e w1 ⟨rfl, hb⟩; refine kp2W hb fun K0 K1 => ?_; have hb' : Below w.heap.size w w1 := below_call (by go_grown) hb; have HB := hI hb'; replace H1 := kdW H1 hb'; replace H2 := kdW H2 hb'; clear hb hb'; refine K0.out.w2 fun aa ab ac ad z0 => ?_; refine K1.out.w2 fun ae af ag ah z1 => ?_; go_wp2_with fail
 refine (rright_ok (x := y) (H2.out.keep (by go_grown)) (HY.out.mono (by omega))).mono ?_; rintro e w2 ⟨rfl, hb⟩; clear aa ab ac ad z0 ae af ag ah z1; have hb' := below_call (w1 := w1) (by go_grown) hb; replace K0 := kbW K0 hb'; replace K1 := kbW K1 hb'; replace HB := hI (below_call HB.out hb'); replace H1 := kdW H1 hb'; replace H2 := kdW H2 hb'; clear hb hb'; refine K0.out.w2 fun aa ab ac ad z0 => ?_; refine K1.out.w2 fun ae af ag ah z1 => ?_; go_wp2_with fail
 refine (rsame_ok (H1.out.keep (by go_grown)) (H2.out.keep (by go_grown)) (HX.out.mono (by omega)) (HY.out.mono (by omega))).mono ?_; rintro e w3 ⟨rfl, hb⟩; clear aa ab ac ad z0 ae af ag ah z1; have hb' := below_call (w1 := w2) (by go_grown) hb; replace K0 := kbW K0 hb'; replace K1 := kbW K1 hb'; replace HB := hI (below_call HB.out hb'); replace H1 := kdW H1 hb'; replace H2 := kdW H2 hb'; clear hb hb'; refine K0.out.w2 fun aa ab ac ad z0 => ?_; refine K1.out.w2 fun ae af ag ah z1 => ?_; rw [HEQ.out]; go_wp2_with fail
 go_ret
 exact ⟨ret_int HO.out, HB.out⟩
theorem rcompare_sgt {x y : Int} {a1 a2 : Option Addr} {c1 c2 : Nat} {w : World} (h1 : BD G w a1 c1 x) (h2 : BD G w a2 c2 y) (hx : Sz x 549755813888) (hy : Sz y 549755813888) (hc : sg y < sg x) :
 Calls Tryz.prog 59 #[.agg #[.int .i64 (sg x), .slice a1 (ln x) c1], .agg #[.int .i64 (sg y), .slice a2 (ln y) c2]] w fun e w' => e = .returned (.int .i64 (ord x y)) ∧ Below w.heap.size w w' := by
 have HX := hI hx; have H1 := hI h1; have HY := hI hy; have H2 := hI h2; have HEQ : Hid (eqZ x y = false) := eqZ_sign (by omega); have HO : Hid (1 = ord x y) := by show _ = _; rw [ord_sign (by omega)]; rw [if_neg (by omega)]
 have t1 : (sg x != sg y) = true := by rw [bne_iff_ne]; omega
 have t2 : decide (sg x < sg y) = false := by rw [decide_eq_false_iff_not]; omega
 clear hc; clear hx h1 hy h2
 go_enter Tryz.func59, Tryz.ntmps59
 go_wp2_with fail
 refine (rright_ok (x := x) (H1.out.keep (by go_grown)) (HX.out.mono (by omega))).mono ?_; rintro e w1 ⟨rfl, hb⟩; refine kp2W hb fun K0 K1 => ?_; have hb' : Below w.heap.size w w1 := below_call (by go_grown) hb; have HB := hI hb'; replace H1 := kdW H1 hb'; replace H2 := kdW H2 hb'; clear hb hb'; refine K0.out.w2 fun aa ab ac ad z0 => ?_; refine K1.out.w2 fun ae af ag ah z1 => ?_; go_wp2_with fail
 refine (rright_ok (x := y) (H2.out.keep (by go_grown)) (HY.out.mono (by omega))).mono ?_; rintro e w2 ⟨rfl, hb⟩; clear aa ab ac ad z0 ae af ag ah z1; have hb' := below_call (w1 := w1) (by go_grown) hb; replace K0 := kbW K0 hb'; replace K1 := kbW K1 hb'; replace HB := hI (below_call HB.out hb'); replace H1 := kdW H1 hb'; replace H2 := kdW H2 hb'; clear hb hb'; refine K0.out.w2 fun aa ab ac ad z0 => ?_; refine K1.out.w2 fun ae af ag ah z1 => ?_; go_wp2_with fail
 refine (rsame_ok (H1.out.keep (by go_grown)) (H2.out.keep (by go_grown)) (HX.out.mono (by omega)) (HY.out.mono (by omega))).mono ?_; rintro e w3 ⟨rfl, hb⟩; clear aa ab ac ad z0 ae af ag ah z1; have hb' := below_call (w1 := w2) (by go_grown) hb; replace K0 := kbW K0 hb'; replace K1 := kbW K1 hb'; replace HB := hI (below_call HB.out hb'); replace H1 := kdW H1 hb'; replace H2 := kdW H2 hb'; clear hb hb'; refine K0.out.w2 fun aa ab ac ad z0 => ?_; refine K1.out.w2 fun ae af ag ah z1 => ?_; rw [HEQ.out]; go_wp2_with fail
 go_ret
 exact ⟨ret_int HO.out, HB.out⟩
theorem rcompare_llt {x y : Int} {a1 a2 : Option Addr} {c1 c2 : Nat} {w : World} (h1 : BD G w a1 c1 x) (h2 : BD G w a2 c2 y) (hx : Sz x 549755813888) (hy : Sz y 549755813888) (hs : sg x = sg y) (hne : x ≠ y) (hc : lessZ x y = decide (0 < sg x)) :
 Calls Tryz.prog 59 #[.agg #[.int .i64 (sg x), .slice a1 (ln x) c1], .agg #[.int .i64 (sg y), .slice a2 (ln y) c2]] w fun e w' => e = .returned (.int .i64 (ord x y)) ∧ Below w.heap.size w w' := by
 have HX := hI hx; have H1 := hI h1; have HY := hI hy; have H2 := hI h2; have HEQ : Hid (eqZ x y = false) := by show _ = _; rw [eqZ, decide_eq_false_iff_not]; exact hne
 have HO : Hid (-1 = ord x y) := by show _ = _; rw [ord_ref hs hne]; rw [if_pos hc]
 have t1 : (sg x != sg y) = false := by rw [hs]; simp
 obtain ⟨b1, hb1⟩ : ∃ b, b = lessZ x y := ⟨_, rfl⟩; obtain ⟨b2, hb2⟩ : ∃ b, b = decide (0 < sg x) := ⟨_, rfl⟩; have HB1 := hI hb1; have t2 : decide (0 < sg x) = b2 := hb2.symm; have t3 : (b1 == b2) = true := by rw [hb1, hb2]; rw [beq_iff_eq]; exact hc
 clear hc hs hne hb1 hb2; clear hx h1 hy h2
 go_enter Tryz.func59, Tryz.ntmps59
 go_wp2_with fail
 refine (rright_ok (x := x) (H1.out.keep (by go_grown)) (HX.out.mono (by omega))).mono ?_; rintro e w1 ⟨rfl, hb⟩; refine kp2W hb fun K0 K1 => ?_; have hb' : Below w.heap.size w w1 := below_call (by go_grown) hb; have HB := hI hb'; replace H1 := kdW H1 hb'; replace H2 := kdW H2 hb'; clear hb hb'; refine K0.out.w2 fun aa ab ac ad z0 => ?_; refine K1.out.w2 fun ae af ag ah z1 => ?_; go_wp2_with fail
 refine (rright_ok (x := y) (H2.out.keep (by go_grown)) (HY.out.mono (by omega))).mono ?_; rintro e w2 ⟨rfl, hb⟩; clear aa ab ac ad z0 ae af ag ah z1; have hb' := below_call (w1 := w1) (by go_grown) hb; replace K0 := kbW K0 hb'; replace K1 := kbW K1 hb'; replace HB := hI (below_call HB.out hb'); replace H1 := kdW H1 hb'; replace H2 := kdW H2 hb'; clear hb hb'; refine K0.out.w2 fun aa ab ac ad z0 => ?_; refine K1.out.w2 fun ae af ag ah z1 => ?_; go_wp2_with fail
 refine (rsame_ok (H1.out.keep (by go_grown)) (H2.out.keep (by go_grown)) (HX.out.mono (by omega)) (HY.out.mono (by omega))).mono ?_; rintro e w3 ⟨rfl, hb⟩; clear aa ab ac ad z0 ae af ag ah z1; have hb' := below_call (w1 := w2) (by go_grown) hb; replace K0 := kbW K0 hb'; replace K1 := kbW K1 hb'; replace HB := hI (below_call HB.out hb'); replace H1 := kdW H1 hb'; replace H2 := kdW H2 hb'; clear hb hb'; refine K0.out.w2 fun aa ab ac ad z0 => ?_; refine K1.out.w2 fun ae af ag ah z1 => ?_; rw [HEQ.out]; go_wp2_with fail
 clear aa ab ac ad z0 ae af ag ah z1; have mk := Lib.hid fun w' (h : Below w3.heap.size w3 w') => (K0.out.keep h).t2 ((K1.out.keep h).t2 h)
 have hs0 : Below w3.heap.size w3 w3.drew := (Below.refl _ _).drew; have HS0 : Hid (Below w3.heap.size w3 w3.drew) := (Below.refl _ _).drew; have tok0 : True := trivial
 go_region_held3 (fun w' => w'.cell? ⟨w.heap.size, 0, none⟩ = some (.int .i64 (sg x)) ∧ w'.cell? ⟨w.heap.size, 1, none⟩ = some (.slice a1 (ln x) c1) ∧ w'.cell? ⟨w.heap.size + 1, 0, none⟩ = some (.int .i64 (sg y)) ∧ w'.cell? ⟨w.heap.size + 1, 1, none⟩ = some (.slice a2 (ln y) c2) ∧ Below w3.heap.size w3 w')
  (first | exact mk.out _ (by assumption) | exact mk.out _ (Below.alloc (by assumption) (Below.size (by assumption)) _))
  (first
   | (go_at_call 84; have _t := tok0; refine (less_is (H1.out.keep HS0.out) (H2.out.keep HS0.out) (HX.out.mono (by omega)) (HY.out.mono (by omega))).mono ?_; rintro e w4 ⟨rfl, hb⟩; clear tok0 _t; have hs1 := below_call hs0 hb; have HS1 := hI (below_call HS0.out hb); clear hb))
 replace K0 := kbW K0 HS1.out; replace K1 := kbW K1 HS1.out; replace HB := hI (below_call HB.out HS1.out); replace H1 := kdW H1 HS1.out; replace H2 := kdW H2 HS1.out; clear mk hs0 HS0 hs1 HS1; rw [← HB1.out]; go_wp2_with fail
 any_goals (exfalso; rename_i hh; rw [t3] at hh; exact Bool.noConfusion hh)
 go_ret
 exact ⟨ret_int HO.out, HB.out⟩
theorem rcompare_lgt {x y : Int} {a1 a2 : Option Addr} {c1 c2 : Nat} {w : World} (h1 : BD G w a1 c1 x) (h2 : BD G w a2 c2 y) (hx : Sz x 549755813888) (hy : Sz y 549755813888) (hs : sg x = sg y) (hne : x ≠ y) (hc : lessZ x y ≠ decide (0 < sg x)) :
 Calls Tryz.prog 59 #[.agg #[.int .i64 (sg x), .slice a1 (ln x) c1], .agg #[.int .i64 (sg y), .slice a2 (ln y) c2]] w fun e w' => e = .returned (.int .i64 (ord x y)) ∧ Below w.heap.size w w' := by
 have HX := hI hx; have H1 := hI h1; have HY := hI hy; have H2 := hI h2; have HEQ : Hid (eqZ x y = false) := by show _ = _; rw [eqZ, decide_eq_false_iff_not]; exact hne
 have HO : Hid (1 = ord x y) := by show _ = _; rw [ord_ref hs hne]; rw [if_neg hc]
 have t1 : (sg x != sg y) = false := by rw [hs]; simp
 obtain ⟨b1, hb1⟩ : ∃ b, b = lessZ x y := ⟨_, rfl⟩; obtain ⟨b2, hb2⟩ : ∃ b, b = decide (0 < sg x) := ⟨_, rfl⟩; have HB1 := hI hb1; have t2 : decide (0 < sg x) = b2 := hb2.symm; have t3 : (b1 == b2) = false := by rw [hb1, hb2]; rw [beq_eq_false_iff_ne]; exact hc
 clear hc hs hne hb1 hb2; clear hx h1 hy h2
 go_enter Tryz.func59, Tryz.ntmps59
 go_wp2_with fail
 refine (rright_ok (x := x) (H1.out.keep (by go_grown)) (HX.out.mono (by omega))).mono ?_; rintro e w1 ⟨rfl, hb⟩; refine kp2W hb fun K0 K1 => ?_; have hb' : Below w.heap.size w w1 := below_call (by go_grown) hb; have HB := hI hb'; replace H1 := kdW H1 hb'; replace H2 := kdW H2 hb'; clear hb hb'; refine K0.out.w2 fun aa ab ac ad z0 => ?_; refine K1.out.w2 fun ae af ag ah z1 => ?_; go_wp2_with fail
 refine (rright_ok (x := y) (H2.out.keep (by go_grown)) (HY.out.mono (by omega))).mono ?_; rintro e w2 ⟨rfl, hb⟩; clear aa ab ac ad z0 ae af ag ah z1; have hb' := below_call (w1 := w1) (by go_grown) hb; replace K0 := kbW K0 hb'; replace K1 := kbW K1 hb'; replace HB := hI (below_call HB.out hb'); replace H1 := kdW H1 hb'; replace H2 := kdW H2 hb'; clear hb hb'; refine K0.out.w2 fun aa ab ac ad z0 => ?_; refine K1.out.w2 fun ae af ag ah z1 => ?_; go_wp2_with fail
 refine (rsame_ok (H1.out.keep (by go_grown)) (H2.out.keep (by go_grown)) (HX.out.mono (by omega)) (HY.out.mono (by omega))).mono ?_; rintro e w3 ⟨rfl, hb⟩; clear aa ab ac ad z0 ae af ag ah z1; have hb' := below_call (w1 := w2) (by go_grown) hb; replace K0 := kbW K0 hb'; replace K1 := kbW K1 hb'; replace HB := hI (below_call HB.out hb'); replace H1 := kdW H1 hb'; replace H2 := kdW H2 hb'; clear hb hb'; refine K0.out.w2 fun aa ab ac ad z0 => ?_; refine K1.out.w2 fun ae af ag ah z1 => ?_; rw [HEQ.out]; go_wp2_with fail
 clear aa ab ac ad z0 ae af ag ah z1; have mk := Lib.hid fun w' (h : Below w3.heap.size w3 w') => (K0.out.keep h).t2 ((K1.out.keep h).t2 h)
 have hs0 : Below w3.heap.size w3 w3.drew := (Below.refl _ _).drew; have HS0 : Hid (Below w3.heap.size w3 w3.drew) := (Below.refl _ _).drew; have tok0 : True := trivial
 go_region_held3 (fun w' => w'.cell? ⟨w.heap.size, 0, none⟩ = some (.int .i64 (sg x)) ∧ w'.cell? ⟨w.heap.size, 1, none⟩ = some (.slice a1 (ln x) c1) ∧ w'.cell? ⟨w.heap.size + 1, 0, none⟩ = some (.int .i64 (sg y)) ∧ w'.cell? ⟨w.heap.size + 1, 1, none⟩ = some (.slice a2 (ln y) c2) ∧ Below w3.heap.size w3 w')
  (first | exact mk.out _ (by assumption) | exact mk.out _ (Below.alloc (by assumption) (Below.size (by assumption)) _))
  (first
   | (go_at_call 84; have _t := tok0; refine (less_is (H1.out.keep HS0.out) (H2.out.keep HS0.out) (HX.out.mono (by omega)) (HY.out.mono (by omega))).mono ?_; rintro e w4 ⟨rfl, hb⟩; clear tok0 _t; have hs1 := below_call hs0 hb; have HS1 := hI (below_call HS0.out hb); clear hb))
 replace K0 := kbW K0 HS1.out; replace K1 := kbW K1 HS1.out; replace HB := hI (below_call HB.out HS1.out); replace H1 := kdW H1 HS1.out; replace H2 := kdW H2 HS1.out; clear mk hs0 HS0 hs1 HS1; rw [← HB1.out]; go_wp2_with fail
 any_goals (exfalso; rename_i hh; rw [t3] at hh; exact Bool.noConfusion hh)
 go_ret
 exact ⟨ret_int HO.out, HB.out⟩
theorem rcompare_ok {x y : Int} {a1 a2 : Option Addr} {c1 c2 : Nat} {w : World} (h1 : BD G w a1 c1 x) (h2 : BD G w a2 c2 y) (hx : Sz x 549755813888) (hy : Sz y 549755813888) :
 Calls Tryz.prog 59 #[.agg #[.int .i64 (sg x), .slice a1 (ln x) c1], .agg #[.int .i64 (sg y), .slice a2 (ln y) c2]] w fun e w' => e = .returned (.int .i64 (ord x y)) ∧ Below w.heap.size w w' := by
 by_cases hc : x = y
 · exact rcompare_eq h1 h2 hx hy hc
 · by_cases hs : sg x = sg y
   · by_cases hl : lessZ x y = decide (0 < sg x)
     · exact rcompare_llt h1 h2 hx hy hs hc hl
     · exact rcompare_lgt h1 h2 hx hy hs hc hl
   · by_cases hl : sg x < sg y
     · exact rcompare_slt h1 h2 hx hy hl
     · exact rcompare_sgt h1 h2 hx hy (by omega)
theorem radd_sub {x y : Int} {a1 a2 : Option Addr} {c1 c2 : Nat} {w : World} (h1 : BD G w a1 c1 x) (h2 : BD G w a2 c2 (-y)) (hx : Sz x 549755813888) (hy : Sz y 549755813888) :
 Calls Tryz.prog 50 #[.agg #[.int .i64 (sg x), .slice a1 (ln x) c1], .agg #[.int .i64 (sg (-y)), .slice a2 (ln (-y)) c2]] w fun e w' => ∃ a c, e = .returned (.tuple #[.agg #[.int .i64 (sg (x - y)), .slice a (ln (x - y)) c], .int .i64 0]) ∧ BD G w' a c (x - y) ∧ Below w.heap.size w w' := by
 have := radd_ok h1 h2 hx hy.neg
 rwa [show x + -y = x - y by omega] at this
theorem rsub_ok {x y : Int} {a1 a2 : Option Addr} {c1 c2 : Nat} {w : World} (h1 : BD G w a1 c1 x) (h2 : BD G w a2 c2 y) (hx : Sz x 549755813888) (hy : Sz y 549755813888) :
 Calls Tryz.prog 80 #[.agg #[.int .i64 (sg x), .slice a1 (ln x) c1], .agg #[.int .i64 (sg y), .slice a2 (ln y) c2]] w fun e w' => ∃ a c, e = .returned (.tuple #[.agg #[.int .i64 (sg (x - y)), .slice a (ln (x - y)) c], .int .i64 0]) ∧ BD G w' a c (x - y) ∧ Below w.heap.size w w' := by
 have HX := hI hx; have H1 := hI h1; have HY := hI hy; have H2 := hI h2; have HSB : Hid (x + -y = x - y) := by show _ = _; omega
 clear hx h1 hy h2
 go_enter Tryz.func80, Tryz.ntmps80
 go_wp2_with fail
 refine (rright_ok (x := y) (H2.out.keep (by go_grown)) (HY.out.mono (by omega))).mono ?_; rintro e w1 ⟨rfl, hb⟩; refine kp3W hb fun K0 K1 K2 => ?_; have hb' : Below w.heap.size w w1 := below_call (by go_grown) hb; have HB := hI hb'; replace H1 := kdW H1 hb'; replace H2 := kdW H2 hb'; clear hb hb'; refine K0.out.w2 fun aa ab ac ad z0 => ?_; refine K1.out.w2 fun ae af ag ah z1 => ?_; refine K2.out.w2 fun ai aj ak al z2 => ?_; go_wp2_with fail
 clear aa ab ac ad z0 ae af ag ah z1 ai aj ak al z2; go_upto_region 3 with fail
 go_cut [6, 7] (fun sA s7 wx => ∃ (A : Nat) (a4 : Option Addr) (c4 : Nat), sA = .pointer (some ⟨A, 0, none⟩) ∧ s7 = .int .i64 0 ∧ Hid (Bx wx A 34 #[.int .i64 (sg (x - y)), .slice a4 (ln (x - y)) c4]) ∧ Hid (Bx wx w.heap.size 34 #[.int .i64 (sg x), .slice a1 (ln x) c1]) ∧ Hid (Bx wx (w.heap.size + 1) 34 #[.int .i64 (sg y), .slice a2 (ln y) c2]) ∧ Hid (Bx wx (w.heap.size + 1 + 1) 34 #[.int .i64 0, .slice none 0 0]) ∧ Hid (BD G wx a4 c4 (x - y)) ∧ Hid (BD G wx a1 c1 x) ∧ Hid (BD G wx a2 c2 y) ∧ Hid (Below w.heap.size w wx) ∧ w.heap.size + 1 + 1 < A)
 case first =>
  have mk := Lib.hid fun w' (h : Below w1.heap.size w1 w') => (K0.out.keep h).t2 ((K1.out.keep h).t2 ((K2.out.keep h).t2 h))
  have hs0 : Below w1.heap.size w1 w1.drew := (Below.refl _ _).drew; have HS0 : Hid (Below w1.heap.size w1 w1.drew) := (Below.refl _ _).drew; have tok0 : True := trivial; have tok1 : True := trivial
  go_region_held3 (fun w' => w'.cell? ⟨w.heap.size, 0, none⟩ = some (.int .i64 (sg x)) ∧ w'.cell? ⟨w.heap.size, 1, none⟩ = some (.slice a1 (ln x) c1) ∧ w'.cell? ⟨w.heap.size + 1, 0, none⟩ = some (.int .i64 (sg y)) ∧ w'.cell? ⟨w.heap.size + 1, 1, none⟩ = some (.slice a2 (ln y) c2) ∧ w'.cell? ⟨w.heap.size + 1 + 1, 0, none⟩ = some (.int .i64 0) ∧ w'.cell? ⟨w.heap.size + 1 + 1, 1, none⟩ = some (.slice none 0 0) ∧ Below w1.heap.size w1 w')
    (first | exact mk.out _ (by assumption) | exact mk.out _ (Below.alloc (by assumption) (Below.size (by assumption)) _) | exact mk.out _ (Below.setCell (Below.setCell (by assumption) hlA _) hlA _))
    (first
      | (go_at_call 86; have _t := tok0; refine (rneg_ok (H2.out.keep (Below.alloc HS0.out (Below.size HS0.out) _)) (HY.out.mono (by omega))).mono ?_; rintro e w2 ⟨a3, c3, rfl, hd3, hb⟩; clear tok0 _t; have hlA : w1.heap.size ≤ w1.heap.size := HS0.out.size; have KP : Hid (Bx w2 w1.heap.size 34 #[.int .i64 0, .slice none 0 0]) := (Bx.new w1.drew 34 #[.int .i64 0, .slice none 0 0]).keep hb; have ne0 : w.heap.size < w1.heap.size := (K0.out.keep HS0.out).lt; have ne1 : w.heap.size + 1 < w1.heap.size := (K1.out.keep HS0.out).lt; have ne2 : w.heap.size + 1 + 1 < w1.heap.size := (K2.out.keep HS0.out).lt; have hs1 := below_call (Below.alloc hs0 (Below.size hs0) _) hb; have HS1 := hI (below_call (Below.alloc HS0.out (Below.size HS0.out) _) hb); clear hb; have Hd3 := hI hd3; clear hd3)
      | (go_at_call 86; have _t := tok0; refine (rneg_ok (H2.out.keep HS0.out) (HY.out.mono (by omega))).mono ?_; rintro e w2 ⟨a3, c3, rfl, hd3, hb⟩; clear tok0 _t; have hs1 := below_call hs0 hb; have HS1 := hI (below_call HS0.out hb); clear hb; have Hd3 := hI hd3; clear hd3)
      | (go_at_call 50; have _t := tok1; refine (radd_sub (H1.out.keep (Below.alloc HS1.out (Below.size HS1.out) _)) (Hd3.out.keep (below_alloc _ _)) (HX.out.mono (by omega)) (HY.out.mono (by omega))).mono ?_; rintro e w3 ⟨a4, c4, rfl, hd4, hb⟩; clear tok1 _t; have hlA : w1.heap.size ≤ w2.heap.size := HS1.out.size; have KP : Hid (Bx w3 w2.heap.size 34 #[.int .i64 0, .slice none 0 0]) := (Bx.new w2 34 #[.int .i64 0, .slice none 0 0]).keep hb; have ne0 : w.heap.size < w2.heap.size := (K0.out.keep HS1.out).lt; have ne1 : w.heap.size + 1 < w2.heap.size := (K1.out.keep HS1.out).lt; have ne2 : w.heap.size + 1 + 1 < w2.heap.size := (K2.out.keep HS1.out).lt; (try (obtain ⟨pA, qA⟩ := KP.out.at)); have hs2 := below_call (Below.alloc hs1 (Below.size hs1) _) hb; have HS2 := hI (below_call (Below.alloc HS1.out (Below.size HS1.out) _) hb); have Hd3 := hI (Hd3.out.keep (below_call (below_alloc _ _) hb)); clear hb; have Hd4 := hI hd4; clear hd4)
      | (go_at_call 50; have _t := tok1; refine (radd_sub (H1.out.keep HS1.out) Hd3.out (HX.out.mono (by omega)) (HY.out.mono (by omega))).mono ?_; rintro e w3 ⟨a4, c4, rfl, hd4, hb⟩; clear tok1 _t; (try (have KP := hI (KP.out.keep hb))); (try (obtain ⟨pA, qA⟩ := KP.out.at)); have hs2 := below_call hs1 hb; have HS2 := hI (below_call HS1.out hb); have Hd3 := hI (Hd3.out.keep hb); clear hb; have Hd4 := hI hd4; clear hd4))
  all_goals (go_wp2_with fail)
  all_goals go_meet
  all_goals first
    | (exact ⟨_, a4, c4, rfl, rfl, Bx.new _ _ _, (K0.out.keep HS2.out).keep (below_alloc _ _), (K1.out.keep HS2.out).keep (below_alloc _ _), (K2.out.keep HS2.out).keep (below_alloc _ _), Hd4.out.keep (below_alloc _ _), (H1.out.keep HS2.out).keep (below_alloc _ _), (H2.out.keep HS2.out).keep (below_alloc _ _), below_call HB.out (below_call HS2.out (below_alloc _ _)), (K2.out.keep HS2.out).lt⟩)
    | ((have hA : w.heap.size ≤ w1.heap.size := by (have := ne0; omega)); have og := only_setCell (o := 1) (only_setCell (o := 0) (World.grownBy.refl w3 (some w1.heap.size)) (.int .i64 (sg (x - y)))) (.slice a4 (ln (x - y)) c4); exact ⟨_, a4, c4, rfl, rfl, KP.out.set2 _ _, (K0.out.keep HS2.out).only og (by omega), (K1.out.keep HS2.out).only og (by omega), (K2.out.keep HS2.out).only og (by omega), Hd4.out.far0 KP.out zb2 og, (H1.out.keep HS2.out).far0 KP.out zb2 og, (H2.out.keep HS2.out).far0 KP.out zb2 og, (Below.setCell (Below.setCell (below_call HB.out HS2.out) hA _) hA _), ne2⟩)
    | ((have hA : w.heap.size ≤ w2.heap.size := by (have := ne0; omega)); have og := only_setCell (o := 1) (only_setCell (o := 0) (World.grownBy.refl w3 (some w2.heap.size)) (.int .i64 (sg (x - y)))) (.slice a4 (ln (x - y)) c4); exact ⟨_, a4, c4, rfl, rfl, KP.out.set2 _ _, (K0.out.keep HS2.out).only og (by omega), (K1.out.keep HS2.out).only og (by omega), (K2.out.keep HS2.out).only og (by omega), Hd4.out.far0 KP.out zb2 og, (H1.out.keep HS2.out).far0 KP.out zb2 og, (H2.out.keep HS2.out).far0 KP.out zb2 og, (Below.setCell (Below.setCell (below_call HB.out HS2.out) hA _) hA _), ne2⟩)
 case rest =>
  obtain ⟨A, a4, c4, rfl, rfl, KA, K0, K1, K2, Hd4, H1, H2, HB, hltA⟩ := hcut; obtain ⟨w4, rfl⟩ : ∃ x, x = wc := ⟨_, rfl⟩; have K3 := KA; clear KA; refine K0.out.w2 fun aa ab ac ad z0 => ?_; refine K1.out.w2 fun ae af ag ah z1 => ?_; refine K2.out.w2 fun ai aj ak al z2 => ?_; refine K3.out.w2 fun am ao ap aq z3 => ?_; go_wp2_with fail
  clear aa ab ac ad z0 ae af ag ah z1 ai aj ak al z2 am ao ap aq z3; refine bodyPost_ret (results_box2 rfl _ _ (w.heap.size + 1 + 1) 34 _ _ _ rfl (K2.out.set2 _ _) Tryz.underlying34 rfl (by kernel_rfl)) rfl ?_; refine ⟨a4, c4, rfl, ?_, ?_⟩
  · exact (Hd4.out.far0 K2.out zb2 (only_setCell (only_setCell (World.grownBy.refl _ _) _) _))
  · exact (Below.setCell (Below.setCell HB.out (by simp; try omega) _) (by simp; try omega) _)
theorem made_rd {s z : Int} {a : Option Addr} {c n : Nat} {w : World} (h : RdN w (.slice a (lnN n) c) (digs n)) (hn : lnN n ≤ 8796093022208) (hc : lnN n ≤ c) (hz : s * n = z) (h1 : n ≠ 0 → s = 1 ∨ s = -1) :
 Calls Tryz.prog 81 #[.int .i64 s, .slice a (lnN n) c] w fun e w' => ∃ a c, e = .returned (.agg #[.int .i64 (sg z), .slice a (ln z) c]) ∧ BD G w' a c z ∧ Below w.heap.size w w' :=
 made_ok (G := G) (l := digs n) h (digs_small n) hn hc (val_digs n) hz h1
theorem rgcd_ok {x y : Int} {a1 a2 : Option Addr} {c1 c2 : Nat} {w : World} (h1 : BD G w a1 c1 x) (h2 : BD G w a2 c2 y) (hx : Sz x 549755813888) (hy : Sz y 549755813888) :
 Calls Tryz.prog 63 #[.agg #[.int .i64 (sg x), .slice a1 (ln x) c1], .agg #[.int .i64 (sg y), .slice a2 (ln y) c2]] w fun e w' => ∃ a c, e = .returned (.tuple #[.agg #[.int .i64 (sg (Nat.gcd x.natAbs y.natAbs)), .slice a (ln (Nat.gcd x.natAbs y.natAbs)) c], .int .i64 0]) ∧ BD G w' a c (Nat.gcd x.natAbs y.natAbs) ∧ Below w.heap.size w w' := by
 have HX := hI hx; have H1 := hI h1; have HY := hI hy; have H2 := hI h2; clear hx h1 hy h2
 go_enter Tryz.func63, Tryz.ntmps63
 go_wp2_with fail
 refine (rright_ok (x := x) (H1.out.keep (by go_grown)) (HX.out.mono (by omega))).mono ?_; rintro e w1 ⟨rfl, hb⟩; refine kp3W hb fun K0 K1 K2 => ?_; have hb' : Below w.heap.size w w1 := below_call (by go_grown) hb; have HB := hI hb'; replace H1 := kdW H1 hb'; replace H2 := kdW H2 hb'; clear hb hb'; refine K0.out.w2 fun aa ab ac ad z0 => ?_; refine K1.out.w2 fun ae af ag ah z1 => ?_; refine K2.out.w2 fun ai aj ak al z2 => ?_; go_wp2_with fail
 refine (rright_ok (x := y) (H2.out.keep (by go_grown)) (HY.out.mono (by omega))).mono ?_; rintro e w2 ⟨rfl, hb⟩; clear aa ab ac ad z0 ae af ag ah z1 ai aj ak al z2; have hb' := below_call (w1 := w1) (by go_grown) hb; replace K0 := kbW K0 hb'; replace K1 := kbW K1 hb'; replace K2 := kbW K2 hb'; replace HB := hI (below_call HB.out hb'); replace H1 := kdW H1 hb'; replace H2 := kdW H2 hb'; clear hb hb'; refine K0.out.w2 fun aa ab ac ad z0 => ?_; refine K1.out.w2 fun ae af ag ah z1 => ?_; refine K2.out.w2 fun ai aj ak al z2 => ?_; go_wp2_with fail
 clear aa ab ac ad z0 ae af ag ah z1 ai aj ak al z2; rw [ln_eq y, ln_eq x]; go_loopg [6, 7] y.natAbs (fun k v6 v7 wr => ∃ (m : Nat) (ax : Option Addr) (cx : Nat) (ay : Option Addr) (cy : Nat), v6 = .slice ax (lnN m) cx ∧ v7 = .slice ay (lnN k) cy ∧ Hid (Nat.gcd m k = Nat.gcd x.natAbs y.natAbs) ∧ Hid (RdN wr (.slice ax (lnN m) cx) (digs m)) ∧ Hid (RdN wr (.slice ay (lnN k) cy) (digs k)) ∧ Hid (lnN m ≤ 549755813888 ∧ lnN k ≤ 549755813888 ∧ lnN m ≤ cx ∧ lnN k ≤ cy) ∧ Hid (Below w2.heap.size w2 wr))
 case atStart => exact ⟨x.natAbs, _, _, _, _, rfl, rfl, rfl, H1.out.rd, H2.out.rd, ⟨HX.out, HY.out, H1.out.le, H2.out.le⟩, Below.refl _ _⟩
 case round =>
  obtain ⟨m, ax, cx, ay, cy, rfl, rfl, HG, HA, HC, HL, HW⟩ := hrel
  by_cases h0 : gk = 0
  · have e1 : decide (0 < lnN gk) = false := by rw [h0]; rfl
    have HM : Hid (m = Nat.gcd x.natAbs y.natAbs) := by show _ = _; rw [← HG.out, h0, Nat.gcd_zero_right]
    clear h0; go_wp2_with fail
    replace K0 := kbW K0 HW.out; replace K1 := kbW K1 HW.out; replace K2 := kbW K2 HW.out; replace HB := hI (below_call HB.out HW.out); refine K0.out.w2 fun aa ab ac ad z0 => ?_; refine K1.out.w2 fun ae af ag ah z1 => ?_; refine K2.out.w2 fun ai aj ak al z2 => ?_; refine (made_rd (G := G) (z := (m : Int)) (HA.out.keep (by go_grown)) (by have := HL.out.1; omega) HL.out.2.2.1 (Int.one_mul _) (fun _ => .inl rfl)).mono ?_; rintro e w3 ⟨a6, c6, rfl, hd6, hb⟩; clear aa ab ac ad z0 ae af ag ah z1 ai aj ak al z2; have hb' := below_call (w1 := wr) (by go_grown) hb; replace K0 := kbW K0 hb'; replace K1 := kbW K1 hb'; replace K2 := kbW K2 hb'; replace HB := hI (below_call HB.out hb'); replace HA := hI (HA.out.keep hb'); clear hb hb'; have Hd6 := hI hd6; clear hd6; refine K0.out.w2 fun aa ab ac ad z0 => ?_; refine K1.out.w2 fun ae af ag ah z1 => ?_; refine K2.out.w2 fun ai aj ak al z2 => ?_; go_wp2_with fail
    refine bodyPost_ret (results_box2 rfl _ _ (w.heap.size + 1 + 1) 34 _ _ _ rfl (K2.out.set2 _ _) Tryz.underlying34 rfl (by kernel_rfl)) rfl ?_; rw [← HM.out]; refine ⟨a6, c6, rfl, ?_, ?_⟩
    · exact Hd6.out.far0 K2.out zb2 (only_setCell (only_setCell (World.grownBy.refl _ _) _) _)
    · exact (HB.out.setCell (by simp; omega) _).setCell (by simp; omega) _
  · have hp := lnN_pos h0
    have e1 : decide (0 < lnN gk) = true := by rw [decide_eq_true_eq]; exact hp
    have HH := hI h0; clear h0 hp; go_wp2_with fail
    refine (over_nat (q := m / gk) (r := m % gk) HA.out HC.out HL.out.1 HL.out.2.1 HH.out rfl rfl).mono ?_; rintro e w4 ⟨aq, cq, ar, cr, rfl, hq4, hr4, hb⟩; have HR4 := hI hr4; have HB4 := hI hb; clear hq4 hr4 hb; go_wp2_with fail
    go_roundg (m % gk)
    case measure => exact Nat.mod_lt _ (Nat.pos_of_ne_zero HH.out)
    case rel => exact ⟨gk, _, _, _, _, rfl, rfl, by show _ = _; rw [← HG.out, Nat.gcd_comm m gk, Nat.gcd_rec gk m, Nat.gcd_comm], HC.out.keep HB4.out, HR4.out.rd, ⟨HL.out.2.1, Nat.le_trans (digs_len_mono (Nat.mod_le _ _)) HL.out.1, HL.out.2.2.2, HR4.out.le⟩, below_call HW.out HB4.out⟩
theorem over_is {x y : Int} {a1 a2 : Option Addr} {c1 c2 : Nat} {w : World} (h1 : BD G w a1 c1 x) (h2 : BD G w a2 c2 y) (hx : Sz x 549755813888) (hy : Sz y 549755813888) (h0 : y ≠ 0) {q r : Nat} (hq : x.natAbs / y.natAbs = q) (hr : x.natAbs % y.natAbs = r) :
 Calls Tryz.prog 98 #[.slice a1 (ln x) c1, .slice a2 (ln y) c2] w fun e w' => ∃ a c b d, e = .returned (.tuple #[.slice a (lnN q) c, .slice b (lnN r) d]) ∧ OwnN w' w.heap.size (.slice a (lnN q) c) (digs q) ∧ OwnN w' w.heap.size (.slice b (lnN r) d) (digs r) ∧ Below w.heap.size w w' := by
 rw [ln_eq, ln_eq]; exact over_nat h1.rd h2.rd (by unfold Sz at hx; exact hx) (by unfold Sz at hy; exact hy) (by omega) hq hr
theorem minus_nat {y : Int} {r : Nat} {a2 b : Option Addr} {c2 d B : Nat} {w : World} (h2 : BD G w a2 c2 y) (h : OwnN w B (.slice b (lnN r) d) (digs r)) (hy : Sz y 549755813888) (hle : r ≤ y.natAbs) :
 Calls Tryz.prog 85 #[.slice a2 (ln y) c2, .slice b (lnN r) d] w fun e w' => ∃ a c, e = .returned (.slice a (lnN (y.natAbs - r)) c) ∧ OwnN w' w.heap.size (.slice a (lnN (y.natAbs - r)) c) (digs (y.natAbs - r)) ∧ Below w.heap.size w w' := by
 have := minus_ok _ _ _ _ w h2.rd h.rd (digs_small _) (digs_small _) (by rw [val_digs, val_digs]; exact hle) (digs_len_mono hle) (by unfold Sz at hy; omega); rw [val_digs, val_digs] at this; exact own_slice this
theorem plus_one {q : Nat} {a : Option Addr} {c B : Nat} {w : World} (h : OwnN (w.alloc (.cells #[.int .i64 1] 3)) B (.slice a (lnN q) c) (digs q)) (hq : lnN q ≤ 549755813888) :
 Calls Tryz.prog 83 #[.slice a (lnN q) c, .slice (some ⟨w.heap.size, 0, none⟩) 1 1] (w.alloc (.cells #[.int .i64 1] 3)) fun e w' => ∃ a c, e = .returned (.slice a (lnN (q + 1)) c) ∧ OwnN w' (w.alloc (.cells #[.int .i64 1] 3)).heap.size (.slice a (lnN (q + 1)) c) (digs (q + 1)) ∧ Below (w.alloc (.cells #[.int .i64 1] 3)).heap.size (w.alloc (.cells #[.int .i64 1] 3)) w' := by
 have := plus_ok _ _ _ _ _ h.rd (own_lit1 w w.heap.size 1 (Nat.le_refl _)).rd (digs_small _) (small_one (by omega)) (by unfold lnN at hq; omega) (by simp); rw [val_digs] at this; exact own_slice this
theorem rdiv_unlike {x y : Int} {a1 a2 : Option Addr} {c1 c2 : Nat} {w : World} (h1 : BD G w a1 c1 x) (h2 : BD G w a2 c2 y) (hx : Sz x 549755813888) (hy : Sz y 549755813888) (hy0 : y ≠ 0) (hs : sg x * sg y < 0 ∧ x.natAbs % y.natAbs ≠ 0) :
 Calls Tryz.prog 87 #[.agg #[.int .i64 (sg x), .slice a1 (ln x) c1], .agg #[.int .i64 (sg y), .slice a2 (ln y) c2]] w fun e w' => ∃ a c b d, e = .returned (.tuple #[.agg #[.int .i64 (sg (dv x y)), .slice a (ln (dv x y)) c], .agg #[.int .i64 (sg (md x y)), .slice b (ln (md x y)) d], .int .i64 0]) ∧ BD G w' a c (dv x y) ∧ BD G w' b d (md x y) ∧ Below w.heap.size w w' := by
 have HX := hI hx; have HY := hI hy; have H1 := hI h1; have H2 := hI h2; have hws := wrap_signs x y; have e0 : (sg y == 0) = false := by rw [beq_eq_false_iff_ne]; rcases sg_ne hy0 with h | h <;> rw [h] <;> decide
 obtain ⟨q, hq⟩ : ∃ q, x.natAbs / y.natAbs = q := ⟨_, rfl⟩; obtain ⟨r, hr⟩ : ∃ r, x.natAbs % y.natAbs = r := ⟨_, rfl⟩; have hrm := tail_room (y := y) hx; have hm1 := div_unlike hs.1 hs.2; have hry := Nat.mod_lt x.natAbs (show 0 < y.natAbs by omega); rw [hq, hr] at hm1; rw [hr] at hry; have HM1 := hI hm1; have HRY : Hid (r ≤ y.natAbs) := by show _ ≤ _; omega
 have e1 : decide (0 ≤ sg x * sg y) = false := by rw [decide_eq_false_iff_not]; omega
 have hrp := lnN_pos hs.2; rw [hr] at hrp; have e2 : (lnN r == 0) = false := by rw [beq_eq_false_iff_ne]; omega
 have e3 : ((lnN r : Int) == 0) = false := by rw [beq_eq_false_iff_ne]; omega
 have HM0 : Hid ((digs (q + 1)).length ≤ 8796093022208) := by
  show _ ≤ _
  have h1 := digs_len_add q 1; have h2 : (digs 1).length = 1 := rfl; have h3 := hrm.1; rw [hq, lnN] at h3; omega
 have HM4 : Hid ((digs (y.natAbs - r)).length ≤ 8796093022208) := by show _ ≤ _; have := digs_len_mono (Nat.sub_le y.natAbs r); unfold Sz at hy; omega
 clear hm1 hry hrp; rw [hq, hr] at hrm; have HRM := hI hrm; have HQ := hI hq; have HR := hI hr; clear hx hy h1 h2 hs hq hr hrm
 go_enter Tryz.func87, Tryz.ntmps87
 go_wp2_with fail
 refine (rright_ok (x := x) (H1.out.keep (by go_grown)) (HX.out.mono (by omega))).mono ?_; rintro e w1 ⟨rfl, hb⟩; refine kp4W hb fun K0 K1 K2 K3 => ?_; have hb' : Below w.heap.size w w1 := below_call (by go_grown) hb; have HB := hI hb'; replace H1 := kdW H1 hb'; replace H2 := kdW H2 hb'; clear hb hb'; refine K0.out.w2 fun aa ab ac ad z0 => ?_; refine K1.out.w2 fun ae af ag ah z1 => ?_; refine K2.out.w2 fun ai aj ak al z2 => ?_; refine K3.out.w2 fun am ao ap au z3 => ?_; go_wp2_with fail
 refine (rright_ok (x := y) (H2.out.keep (by go_grown)) (HY.out.mono (by omega))).mono ?_; rintro e w2 ⟨rfl, hb⟩; clear aa ab ac ad z0 ae af ag ah z1 ai aj ak al z2 am ao ap au z3; have hb' := below_call (w1 := w1) (by go_grown) hb; replace K0 := kbW K0 hb'; replace K1 := kbW K1 hb'; replace K2 := kbW K2 hb'; replace K3 := kbW K3 hb'; replace HB := hI (below_call HB.out hb'); replace H1 := kdW H1 hb'; replace H2 := kdW H2 hb'; clear hb hb'; refine K0.out.w2 fun aa ab ac ad z0 => ?_; refine K1.out.w2 fun ae af ag ah z1 => ?_; refine K2.out.w2 fun ai aj ak al z2 => ?_; refine K3.out.w2 fun am ao ap au z3 => ?_; go_wp2_with fail
 refine (over_is (q := q) (r := r) (H1.out.keep (by go_grown)) (H2.out.keep (by go_grown)) (HX.out.mono (by omega)) (HY.out.mono (by omega)) hy0 HQ.out HR.out).mono ?_; rintro e w3 ⟨aq, cq, ar, cr, rfl, hq3, hr3, hb⟩; clear aa ab ac ad z0 ae af ag ah z1 ai aj ak al z2 am ao ap au z3; have hb' := below_call (w1 := w2) (by go_grown) hb; replace K0 := kbW K0 hb'; replace K1 := kbW K1 hb'; replace K2 := kbW K2 hb'; replace K3 := kbW K3 hb'; replace HB := hI (below_call HB.out hb'); replace H1 := kdW H1 hb'; replace H2 := kdW H2 hb'; clear hb hb'; have Hq3 := hI hq3; clear hq3; have Hr3 := hI hr3; clear hr3; refine K0.out.w2 fun aa ab ac ad z0 => ?_; refine K1.out.w2 fun ae af ag ah z1 => ?_; refine K2.out.w2 fun ai aj ak al z2 => ?_; refine K3.out.w2 fun am ao ap au z3 => ?_; go_wp2_with fail
 clear aa ab ac ad z0 ae af ag ah z1 ai aj ak al z2 am ao ap au z3; have mk := Lib.hid fun w' (h : Out w3 w' (w.heap.size + 1 + 1) (w.heap.size + 1 + 1 + 1)) => (K0.out.outside h (by omega)).t2 ((K1.out.outside h (by omega)).t2 h)
 have hs0 : Out w3 w3.drew (w.heap.size + 1 + 1) (w.heap.size + 1 + 1 + 1) := out_start _ _ _; have HS0 : Hid (Below w3.heap.size w3 w3.drew) := (Below.refl _ _).drew; have tok0 : True := trivial; have tok1 : True := trivial; have tok2 : True := trivial; have tok3 : True := trivial
 go_region_held3 (fun w' => w'.cell? ⟨w.heap.size, 0, none⟩ = some (.int .i64 (sg x)) ∧ w'.cell? ⟨w.heap.size, 1, none⟩ = some (.slice a1 (ln x) c1) ∧ w'.cell? ⟨w.heap.size + 1, 0, none⟩ = some (.int .i64 (sg y)) ∧ w'.cell? ⟨w.heap.size + 1, 1, none⟩ = some (.slice a2 (ln y) c2) ∧ Out w3 w' (w.heap.size + 1 + 1) (w.heap.size + 1 + 1 + 1))
   (first | exact mk.out _ (by assumption) | exact mk.out _ (out_alloc (by assumption) _) | (go_split_ands; exact mk.out _ (out_set (out_set (by assumption) (by omega) _) (by omega) _)))
   (first
     | (go_at_call 83; have _t := tok0; refine (plus_one (w := w3.drew) (Hq3.out.keep (Below.alloc HS0.out (Below.size HS0.out) _)) (by have := HRM.out.1; omega)).mono ?_; rintro e w4 ⟨a4, c4, rfl, ho4, hb⟩; clear tok0 _t; have hs1 := out_call (out_alloc hs0 _) hb; have HS1 := hI (below_call (Below.alloc HS0.out (Below.size HS0.out) _) hb); clear hb; have Ho4 := hI ho4; clear ho4)
     | (go_at_call 81; have _t := tok1; refine (made_own (G := G) (z := dv x y) Ho4.out HM0.out HM1.out.1 (fun _ => .inr rfl)).mono ?_; rintro e w5 ⟨a5, c5, rfl, hd5, hb⟩; clear tok1 _t; have hs2 := out_call hs1 hb; have HS2 := hI (below_call HS1.out hb); have Ho4 := hI (Ho4.out.keep hb); clear hb; have Hd5 := hI hd5; clear hd5)
     | (go_at_call 85; have _t := tok2; refine (minus_nat (H2.out.keep HS2.out) (Hr3.out.keep HS2.out) (HY.out.mono (by omega)) HRY.out).mono ?_; rintro e w6 ⟨a6, c6, rfl, ho6, hb⟩; clear tok2 _t; have hs3 := out_call hs2 hb; have HS3 := hI (below_call HS2.out hb); have Ho4 := hI (Ho4.out.keep hb); have Hd5 := hI (Hd5.out.keep hb); clear hb; have Ho6 := hI ho6; clear ho6)
     | (go_at_call 81; have _t := tok3; refine (made_own (G := G) (z := md x y) Ho6.out HM4.out HM1.out.2.1 (fun _ => HM1.out.2.2)).mono ?_; rintro e w7 ⟨a7, c7, rfl, hd7, hb⟩; clear tok3 _t; have hs4 := out_call hs3 hb; have HS4 := hI (below_call HS3.out hb); have Ho4 := hI (Ho4.out.keep hb); have Hd5 := hI (Hd5.out.keep hb); have Ho6 := hI (Ho6.out.keep hb); clear hb; have Hd7 := hI hd7; clear hd7; obtain ⟨p2, q2⟩ := (K2.out.keep HS4.out).at; obtain ⟨p3, q3⟩ := (K3.out.keep HS4.out).at))
 replace K0 := kbW K0 HS4.out; replace K1 := kbW K1 HS4.out; replace K2 := kbW K2 HS4.out; replace K3 := kbW K3 HS4.out; replace HB := hI (below_call HB.out HS4.out); replace H1 := kdW H1 HS4.out; replace H2 := kdW H2 HS4.out; replace Hq3 := hI (Hq3.out.keep HS4.out); replace Hr3 := hI (Hr3.out.keep HS4.out); clear mk hs0 HS0 hs1 HS1 hs2 HS2 hs3 HS3 hs4 HS4  p2 q2 p3 q3; go_wp2_with fail
 have hst2 := only_setCell (g := w.heap.size + 1 + 1) (o := 1) (only_setCell (o := 0) (World.grownBy.refl w7 (some (w.heap.size + 1 + 1))) (.int .i64 (sg (dv x y)))) (.slice a5 (ln (dv x y)) c5); have k3 := K3.out.only hst2 (by omega); refine bodyPost_ret (results_box2t rfl _ _ (w.heap.size + 1 + 1) (w.heap.size + 1 + 1 + 1) 34 34 _ _ _ _ _ _ rfl ((K2.out.set2 _ _).only (only_setCell (only_setCell (World.grownBy.refl _ _) _) _) (by omega)) Tryz.underlying34 rfl (by kernel_rfl) rfl (k3.set2 _ _) Tryz.underlying34 rfl (by kernel_rfl)) rfl ⟨a5, c5, a7, c7, rfl, ?_, ?_, ?_⟩
 · exact (Hd5.out.far0 K2.out zb2 hst2).far0 k3 zb2 (only_setCell (only_setCell (World.grownBy.refl _ _) _) _)
 · exact (Hd7.out.far0 K2.out zb2 hst2).far0 k3 zb2 (only_setCell (only_setCell (World.grownBy.refl _ _) _) _)
 · exact (((HB.out.setCell (by simp; omega) _).setCell (by simp; omega) _).setCell (by simp; omega) _).setCell (by simp; omega) _
theorem rdiv_like {x y : Int} {a1 a2 : Option Addr} {c1 c2 : Nat} {w : World} (h1 : BD G w a1 c1 x) (h2 : BD G w a2 c2 y) (hx : Sz x 549755813888) (hy : Sz y 549755813888) (hy0 : y ≠ 0) (hs : 0 ≤ sg x * sg y) :
 Calls Tryz.prog 87 #[.agg #[.int .i64 (sg x), .slice a1 (ln x) c1], .agg #[.int .i64 (sg y), .slice a2 (ln y) c2]] w fun e w' => ∃ a c b d, e = .returned (.tuple #[.agg #[.int .i64 (sg (dv x y)), .slice a (ln (dv x y)) c], .agg #[.int .i64 (sg (md x y)), .slice b (ln (md x y)) d], .int .i64 0]) ∧ BD G w' a c (dv x y) ∧ BD G w' b d (md x y) ∧ Below w.heap.size w w' := by
 have HX := hI hx; have HY := hI hy; have H1 := hI h1; have H2 := hI h2; have hws := wrap_signs x y; have e0 : (sg y == 0) = false := by rw [beq_eq_false_iff_ne]; rcases sg_ne hy0 with h | h <;> rw [h] <;> decide
 obtain ⟨q, hq⟩ : ∃ q, x.natAbs / y.natAbs = q := ⟨_, rfl⟩; obtain ⟨r, hr⟩ : ∃ r, x.natAbs % y.natAbs = r := ⟨_, rfl⟩; have hrm := tail_room (y := y) hx; have hm1 := div_like hy0 (.inl hs); have e1 : decide (0 ≤ sg x * sg y) = true := by rw [decide_eq_true_eq]; exact hs
 rw [hq, hr] at hm1; have HM1 := hI hm1; have HM0 : Hid ((digs q).length ≤ 8796093022208) := by show _ ≤ _; have h3 := hrm.1; rw [hq, lnN] at h3; omega
 have HM4 : Hid ((digs r).length ≤ 8796093022208) := by show _ ≤ _; have h3 := hrm.2; rw [hr, lnN] at h3; omega
 have HM5 : Hid (q ≠ 0 → sg x * sg y = 1 ∨ sg x * sg y = -1) := fun h => sgs_ne (by rintro rfl; rw [← hq] at h; simp at h) hy0
 have HM6 : Hid (r ≠ 0 → sg x = 1 ∨ sg x = -1) := fun h => sg_ne (by rintro rfl; rw [← hr] at h; simp at h)
 clear hm1; rw [hq, hr] at hrm; have HRM := hI hrm; have HQ := hI hq; have HR := hI hr; clear hx hy h1 h2 hs hq hr hrm
 go_enter Tryz.func87, Tryz.ntmps87
 go_wp2_with fail
 refine (rright_ok (x := x) (H1.out.keep (by go_grown)) (HX.out.mono (by omega))).mono ?_; rintro e w1 ⟨rfl, hb⟩; refine kp4W hb fun K0 K1 K2 K3 => ?_; have hb' : Below w.heap.size w w1 := below_call (by go_grown) hb; have HB := hI hb'; replace H1 := kdW H1 hb'; replace H2 := kdW H2 hb'; clear hb hb'; refine K0.out.w2 fun aa ab ac ad z0 => ?_; refine K1.out.w2 fun ae af ag ah z1 => ?_; refine K2.out.w2 fun ai aj ak al z2 => ?_; refine K3.out.w2 fun am ao ap au z3 => ?_; go_wp2_with fail
 refine (rright_ok (x := y) (H2.out.keep (by go_grown)) (HY.out.mono (by omega))).mono ?_; rintro e w2 ⟨rfl, hb⟩; clear aa ab ac ad z0 ae af ag ah z1 ai aj ak al z2 am ao ap au z3; have hb' := below_call (w1 := w1) (by go_grown) hb; replace K0 := kbW K0 hb'; replace K1 := kbW K1 hb'; replace K2 := kbW K2 hb'; replace K3 := kbW K3 hb'; replace HB := hI (below_call HB.out hb'); replace H1 := kdW H1 hb'; replace H2 := kdW H2 hb'; clear hb hb'; refine K0.out.w2 fun aa ab ac ad z0 => ?_; refine K1.out.w2 fun ae af ag ah z1 => ?_; refine K2.out.w2 fun ai aj ak al z2 => ?_; refine K3.out.w2 fun am ao ap au z3 => ?_; go_wp2_with fail
 refine (over_is (q := q) (r := r) (H1.out.keep (by go_grown)) (H2.out.keep (by go_grown)) (HX.out.mono (by omega)) (HY.out.mono (by omega)) hy0 HQ.out HR.out).mono ?_; rintro e w3 ⟨aq, cq, ar, cr, rfl, hq3, hr3, hb⟩; clear aa ab ac ad z0 ae af ag ah z1 ai aj ak al z2 am ao ap au z3; have hb' := below_call (w1 := w2) (by go_grown) hb; replace K0 := kbW K0 hb'; replace K1 := kbW K1 hb'; replace K2 := kbW K2 hb'; replace K3 := kbW K3 hb'; replace HB := hI (below_call HB.out hb'); replace H1 := kdW H1 hb'; replace H2 := kdW H2 hb'; clear hb hb'; have Hq3 := hI hq3; clear hq3; have Hr3 := hI hr3; clear hr3; refine K0.out.w2 fun aa ab ac ad z0 => ?_; refine K1.out.w2 fun ae af ag ah z1 => ?_; refine K2.out.w2 fun ai aj ak al z2 => ?_; refine K3.out.w2 fun am ao ap au z3 => ?_; go_wp2_with fail
 clear aa ab ac ad z0 ae af ag ah z1 ai aj ak al z2 am ao ap au z3; have mk := Lib.hid fun w' (h : Out w3 w' (w.heap.size + 1 + 1) (w.heap.size + 1 + 1 + 1)) => (K0.out.outside h (by omega)).t2 ((K1.out.outside h (by omega)).t2 h)
 have hs0 : Out w3 w3.drew (w.heap.size + 1 + 1) (w.heap.size + 1 + 1 + 1) := out_start _ _ _; have HS0 : Hid (Below w3.heap.size w3 w3.drew) := (Below.refl _ _).drew; have tok0 : True := trivial; have tok1 : True := trivial
 go_region_held3 (fun w' => w'.cell? ⟨w.heap.size, 0, none⟩ = some (.int .i64 (sg x)) ∧ w'.cell? ⟨w.heap.size, 1, none⟩ = some (.slice a1 (ln x) c1) ∧ w'.cell? ⟨w.heap.size + 1, 0, none⟩ = some (.int .i64 (sg y)) ∧ w'.cell? ⟨w.heap.size + 1, 1, none⟩ = some (.slice a2 (ln y) c2) ∧ Out w3 w' (w.heap.size + 1 + 1) (w.heap.size + 1 + 1 + 1))
   (first | exact mk.out _ (by assumption) | exact mk.out _ (out_alloc (by assumption) _) | (go_split_ands; exact mk.out _ (out_set (out_set (by assumption) (by omega) _) (by omega) _)))
   (first
     | (go_at_call 81; have _t := tok0; refine (made_own (G := G) (z := dv x y) (Hq3.out.keep HS0.out) HM0.out HM1.out.1 HM5.out).mono ?_; rintro e w4 ⟨a4, c4, rfl, hd4, hb⟩; clear tok0 _t; have hs1 := out_call hs0 hb; have HS1 := hI (below_call HS0.out hb); clear hb; have Hd4 := hI hd4; clear hd4)
     | (go_at_call 81; have _t := tok1; refine (made_own (G := G) (z := md x y) (Hr3.out.keep HS1.out) HM4.out HM1.out.2 HM6.out).mono ?_; rintro e w5 ⟨a5, c5, rfl, hd5, hb⟩; clear tok1 _t; have hs2 := out_call hs1 hb; have HS2 := hI (below_call HS1.out hb); have Hd4 := hI (Hd4.out.keep hb); clear hb; have Hd5 := hI hd5; clear hd5; obtain ⟨p2, q2⟩ := (K2.out.keep HS2.out).at; obtain ⟨p3, q3⟩ := (K3.out.keep HS2.out).at))
 replace K0 := kbW K0 HS2.out; replace K1 := kbW K1 HS2.out; replace K2 := kbW K2 HS2.out; replace K3 := kbW K3 HS2.out; replace HB := hI (below_call HB.out HS2.out); replace H1 := kdW H1 HS2.out; replace H2 := kdW H2 HS2.out; replace Hq3 := hI (Hq3.out.keep HS2.out); replace Hr3 := hI (Hr3.out.keep HS2.out); clear mk hs0 HS0 hs1 HS1 hs2 HS2  p2 q2 p3 q3; go_wp2_with fail
 have hst2 := only_setCell (g := w.heap.size + 1 + 1) (o := 1) (only_setCell (o := 0) (World.grownBy.refl w5 (some (w.heap.size + 1 + 1))) (.int .i64 (sg (dv x y)))) (.slice a4 (ln (dv x y)) c4); have k3 := K3.out.only hst2 (by omega); refine bodyPost_ret (results_box2t rfl _ _ (w.heap.size + 1 + 1) (w.heap.size + 1 + 1 + 1) 34 34 _ _ _ _ _ _ rfl ((K2.out.set2 _ _).only (only_setCell (only_setCell (World.grownBy.refl _ _) _) _) (by omega)) Tryz.underlying34 rfl (by kernel_rfl) rfl (k3.set2 _ _) Tryz.underlying34 rfl (by kernel_rfl)) rfl ⟨a4, c4, a5, c5, rfl, ?_, ?_, ?_⟩
 · exact (Hd4.out.far0 K2.out zb2 hst2).far0 k3 zb2 (only_setCell (only_setCell (World.grownBy.refl _ _) _) _)
 · exact (Hd5.out.far0 K2.out zb2 hst2).far0 k3 zb2 (only_setCell (only_setCell (World.grownBy.refl _ _) _) _)
 · exact (((HB.out.setCell (by simp; omega) _).setCell (by simp; omega) _).setCell (by simp; omega) _).setCell (by simp; omega) _
theorem rdiv_none {x y : Int} {a1 a2 : Option Addr} {c1 c2 : Nat} {w : World} (h1 : BD G w a1 c1 x) (h2 : BD G w a2 c2 y) (hx : Sz x 549755813888) (hy : Sz y 549755813888) (hy0 : y ≠ 0) (hs : sg x * sg y < 0 ∧ x.natAbs % y.natAbs = 0) :
 Calls Tryz.prog 87 #[.agg #[.int .i64 (sg x), .slice a1 (ln x) c1], .agg #[.int .i64 (sg y), .slice a2 (ln y) c2]] w fun e w' => ∃ a c b d, e = .returned (.tuple #[.agg #[.int .i64 (sg (dv x y)), .slice a (ln (dv x y)) c], .agg #[.int .i64 (sg (md x y)), .slice b (ln (md x y)) d], .int .i64 0]) ∧ BD G w' a c (dv x y) ∧ BD G w' b d (md x y) ∧ Below w.heap.size w w' := by
 have HX := hI hx; have HY := hI hy; have H1 := hI h1; have H2 := hI h2; have hws := wrap_signs x y; have e0 : (sg y == 0) = false := by rw [beq_eq_false_iff_ne]; rcases sg_ne hy0 with h | h <;> rw [h] <;> decide
 obtain ⟨q, hq⟩ : ∃ q, x.natAbs / y.natAbs = q := ⟨_, rfl⟩; obtain ⟨r, hr⟩ : ∃ r, x.natAbs % y.natAbs = r := ⟨_, rfl⟩; have hrm := tail_room (y := y) hx; have hm1 := div_like hy0 (.inr hs.2); have e1 : decide (0 ≤ sg x * sg y) = false := by rw [decide_eq_false_iff_not]; omega
 have e2 : (lnN r == 0) = true := by rw [← hr, hs.2]; rfl
 have e3 : ((lnN r : Int) == 0) = true := by rw [← hr, hs.2]; rfl
 rw [hq, hr] at hm1; have HM1 := hI hm1; have HM0 : Hid ((digs q).length ≤ 8796093022208) := by show _ ≤ _; have h3 := hrm.1; rw [hq, lnN] at h3; omega
 have HM4 : Hid ((digs r).length ≤ 8796093022208) := by show _ ≤ _; have h3 := hrm.2; rw [hr, lnN] at h3; omega
 have HM5 : Hid (q ≠ 0 → sg x * sg y = 1 ∨ sg x * sg y = -1) := fun h => sgs_ne (by rintro rfl; rw [← hq] at h; simp at h) hy0
 have HM6 : Hid (r ≠ 0 → sg x = 1 ∨ sg x = -1) := fun h => sg_ne (by rintro rfl; rw [← hr] at h; simp at h)
 clear hm1; rw [hq, hr] at hrm; have HRM := hI hrm; have HQ := hI hq; have HR := hI hr; clear hx hy h1 h2 hs hq hr hrm
 go_enter Tryz.func87, Tryz.ntmps87
 go_wp2_with fail
 refine (rright_ok (x := x) (H1.out.keep (by go_grown)) (HX.out.mono (by omega))).mono ?_; rintro e w1 ⟨rfl, hb⟩; refine kp4W hb fun K0 K1 K2 K3 => ?_; have hb' : Below w.heap.size w w1 := below_call (by go_grown) hb; have HB := hI hb'; replace H1 := kdW H1 hb'; replace H2 := kdW H2 hb'; clear hb hb'; refine K0.out.w2 fun aa ab ac ad z0 => ?_; refine K1.out.w2 fun ae af ag ah z1 => ?_; refine K2.out.w2 fun ai aj ak al z2 => ?_; refine K3.out.w2 fun am ao ap au z3 => ?_; go_wp2_with fail
 refine (rright_ok (x := y) (H2.out.keep (by go_grown)) (HY.out.mono (by omega))).mono ?_; rintro e w2 ⟨rfl, hb⟩; clear aa ab ac ad z0 ae af ag ah z1 ai aj ak al z2 am ao ap au z3; have hb' := below_call (w1 := w1) (by go_grown) hb; replace K0 := kbW K0 hb'; replace K1 := kbW K1 hb'; replace K2 := kbW K2 hb'; replace K3 := kbW K3 hb'; replace HB := hI (below_call HB.out hb'); replace H1 := kdW H1 hb'; replace H2 := kdW H2 hb'; clear hb hb'; refine K0.out.w2 fun aa ab ac ad z0 => ?_; refine K1.out.w2 fun ae af ag ah z1 => ?_; refine K2.out.w2 fun ai aj ak al z2 => ?_; refine K3.out.w2 fun am ao ap au z3 => ?_; go_wp2_with fail
 refine (over_is (q := q) (r := r) (H1.out.keep (by go_grown)) (H2.out.keep (by go_grown)) (HX.out.mono (by omega)) (HY.out.mono (by omega)) hy0 HQ.out HR.out).mono ?_; rintro e w3 ⟨aq, cq, ar, cr, rfl, hq3, hr3, hb⟩; clear aa ab ac ad z0 ae af ag ah z1 ai aj ak al z2 am ao ap au z3; have hb' := below_call (w1 := w2) (by go_grown) hb; replace K0 := kbW K0 hb'; replace K1 := kbW K1 hb'; replace K2 := kbW K2 hb'; replace K3 := kbW K3 hb'; replace HB := hI (below_call HB.out hb'); replace H1 := kdW H1 hb'; replace H2 := kdW H2 hb'; clear hb hb'; have Hq3 := hI hq3; clear hq3; have Hr3 := hI hr3; clear hr3; refine K0.out.w2 fun aa ab ac ad z0 => ?_; refine K1.out.w2 fun ae af ag ah z1 => ?_; refine K2.out.w2 fun ai aj ak al z2 => ?_; refine K3.out.w2 fun am ao ap au z3 => ?_; go_wp2_with fail
 clear aa ab ac ad z0 ae af ag ah z1 ai aj ak al z2 am ao ap au z3; have mk := Lib.hid fun w' (h : Out w3 w' (w.heap.size + 1 + 1) (w.heap.size + 1 + 1 + 1)) => (K0.out.outside h (by omega)).t2 ((K1.out.outside h (by omega)).t2 h)
 have hs0 : Out w3 w3.drew (w.heap.size + 1 + 1) (w.heap.size + 1 + 1 + 1) := out_start _ _ _; have HS0 : Hid (Below w3.heap.size w3 w3.drew) := (Below.refl _ _).drew; have tok0 : True := trivial; have tok1 : True := trivial
 go_region_held3 (fun w' => w'.cell? ⟨w.heap.size, 0, none⟩ = some (.int .i64 (sg x)) ∧ w'.cell? ⟨w.heap.size, 1, none⟩ = some (.slice a1 (ln x) c1) ∧ w'.cell? ⟨w.heap.size + 1, 0, none⟩ = some (.int .i64 (sg y)) ∧ w'.cell? ⟨w.heap.size + 1, 1, none⟩ = some (.slice a2 (ln y) c2) ∧ Out w3 w' (w.heap.size + 1 + 1) (w.heap.size + 1 + 1 + 1))
   (first | exact mk.out _ (by assumption) | exact mk.out _ (out_alloc (by assumption) _) | (go_split_ands; exact mk.out _ (out_set (out_set (by assumption) (by omega) _) (by omega) _)))
   (first
     | (go_at_call 81; have _t := tok0; refine (made_own (G := G) (z := dv x y) (Hq3.out.keep HS0.out) HM0.out HM1.out.1 HM5.out).mono ?_; rintro e w4 ⟨a4, c4, rfl, hd4, hb⟩; clear tok0 _t; have hs1 := out_call hs0 hb; have HS1 := hI (below_call HS0.out hb); clear hb; have Hd4 := hI hd4; clear hd4)
     | (go_at_call 81; have _t := tok1; refine (made_own (G := G) (z := md x y) (Hr3.out.keep HS1.out) HM4.out HM1.out.2 HM6.out).mono ?_; rintro e w5 ⟨a5, c5, rfl, hd5, hb⟩; clear tok1 _t; have hs2 := out_call hs1 hb; have HS2 := hI (below_call HS1.out hb); have Hd4 := hI (Hd4.out.keep hb); clear hb; have Hd5 := hI hd5; clear hd5; obtain ⟨p2, q2⟩ := (K2.out.keep HS2.out).at; obtain ⟨p3, q3⟩ := (K3.out.keep HS2.out).at))
 replace K0 := kbW K0 HS2.out; replace K1 := kbW K1 HS2.out; replace K2 := kbW K2 HS2.out; replace K3 := kbW K3 HS2.out; replace HB := hI (below_call HB.out HS2.out); replace H1 := kdW H1 HS2.out; replace H2 := kdW H2 HS2.out; replace Hq3 := hI (Hq3.out.keep HS2.out); replace Hr3 := hI (Hr3.out.keep HS2.out); clear mk hs0 HS0 hs1 HS1 hs2 HS2  p2 q2 p3 q3; go_wp2_with fail
 have hst2 := only_setCell (g := w.heap.size + 1 + 1) (o := 1) (only_setCell (o := 0) (World.grownBy.refl w5 (some (w.heap.size + 1 + 1))) (.int .i64 (sg (dv x y)))) (.slice a4 (ln (dv x y)) c4); have k3 := K3.out.only hst2 (by omega); refine bodyPost_ret (results_box2t rfl _ _ (w.heap.size + 1 + 1) (w.heap.size + 1 + 1 + 1) 34 34 _ _ _ _ _ _ rfl ((K2.out.set2 _ _).only (only_setCell (only_setCell (World.grownBy.refl _ _) _) _) (by omega)) Tryz.underlying34 rfl (by kernel_rfl) rfl (k3.set2 _ _) Tryz.underlying34 rfl (by kernel_rfl)) rfl ⟨a4, c4, a5, c5, rfl, ?_, ?_, ?_⟩
 · exact (Hd4.out.far0 K2.out zb2 hst2).far0 k3 zb2 (only_setCell (only_setCell (World.grownBy.refl _ _) _) _)
 · exact (Hd5.out.far0 K2.out zb2 hst2).far0 k3 zb2 (only_setCell (only_setCell (World.grownBy.refl _ _) _) _)
 · exact (((HB.out.setCell (by simp; omega) _).setCell (by simp; omega) _).setCell (by simp; omega) _).setCell (by simp; omega) _
theorem rdiv_ok {x y : Int} {a1 a2 : Option Addr} {c1 c2 : Nat} {w : World} (h1 : BD G w a1 c1 x) (h2 : BD G w a2 c2 y) (hx : Sz x 549755813888) (hy : Sz y 549755813888) (hy0 : y ≠ 0) :
 Calls Tryz.prog 87 #[.agg #[.int .i64 (sg x), .slice a1 (ln x) c1], .agg #[.int .i64 (sg y), .slice a2 (ln y) c2]] w fun e w' => ∃ a c b d, e = .returned (.tuple #[.agg #[.int .i64 (sg (dv x y)), .slice a (ln (dv x y)) c], .agg #[.int .i64 (sg (md x y)), .slice b (ln (md x y)) d], .int .i64 0]) ∧ BD G w' a c (dv x y) ∧ BD G w' b d (md x y) ∧ Below w.heap.size w w' := by
 by_cases hs : sg x * sg y < 0
 · by_cases hr : x.natAbs % y.natAbs = 0
   · exact rdiv_none h1 h2 hx hy hy0 ⟨hs, hr⟩
   · exact rdiv_unlike h1 h2 hx hy hy0 ⟨hs, hr⟩
 · exact rdiv_like h1 h2 hx hy hy0 (by omega)
theorem made_own_any {s z : Int} {v : Value} {l : Digs} {n B : Nat} {w : World} (h : OwnN w B v l) (hs : small l) (hn : l.length ≤ 8796093022208) (hv : val l = n) (hz : s * n = z) (h1 : n ≠ 0 → s = 1 ∨ s = -1) :
 Calls Tryz.prog 81 #[.int .i64 s, v] w fun e w' => ∃ a c, e = .returned (.agg #[.int .i64 (sg z), .slice a (ln z) c]) ∧ BD G w' a c z ∧ Below w.heap.size w w' := by
 obtain ⟨a, c, rfl, hc⟩ := h.sl; exact made_ok (G := G) h.rd hs hn hc hv hz h1
theorem rof_pos (x : Int) (w : World) (hx : -9223372036854775808 ≤ x ∧ x ≤ 9223372036854775807) (hs : 0 < x) :
 Calls Tryz.prog 64 #[.int .i64 x] w fun e w' => ∃ a c, e = .returned (.agg #[.int .i64 (sg x), .slice a (ln x) c]) ∧ BD G w' a c x ∧ Below w.heap.size w w' := by
 obtain ⟨n, hn⟩ : ∃ n, n = x.natAbs := ⟨_, rfl⟩; have hnb : n ≤ 9223372036854775808 := by omega
 have e0 : (x == 0) = false := by rw [beq_eq_false_iff_ne]; omega
 have e1 : decide (x < 0) = false := by rw [decide_eq_false_iff_not]; omega
 have HNX := hI hn; have HX := hI hs; have HSt : Hid (x = n) := by show _ = _; omega
 clear hn hs; go_enter Tryz.func64, Tryz.ntmps64
 go_wp2_with fail
 generalize hw0 : World.alloc w _ = w0; have K0 : Hid (Bx w0 w.heap.size 34 #[.int .i64 0, .slice none 0 0]) := by rw [← hw0]; exact bx1 w _ _
 have HB0 : Hid (Below w.heap.size w w0) := by rw [← hw0]; exact below_alloc _ _
 clear hw0; go_loopw [0, 4] (fun i v wr => ∃ (l : Digs) (u : Nat), u ≤ n ∧ l.length ≤ 4 ∧ i = .int .i64 u ∧ Hid (small l) ∧ Hid (val l + 1048576 ^ l.length * u = n) ∧ Hid (OwnN wr w0.heap.size v l) ∧ Hid (Below w0.heap.size w0 wr)) (fun i _ _ => (intOf i).natAbs)
 case atStart => exact ⟨[], n, Nat.le_refl _, by simp, by rw [HSt.out], small_nil, by show _ = _; simp [val], ownN_nil _ _, Below.refl _ _⟩
 case round =>
  obtain ⟨l, u, hu, hll, rfl, HS, HE, HO, HB⟩ := hrel; have hl4 : u ≠ 0 → l.length < 4 := fun h => of_room hnb HE.out h
  by_cases h0 : u = 0
  · have e2 : (u != 0) = false := by rw [h0]; rfl
    have e3 : ((u : Int) != 0) = false := by rw [h0]; rfl
    have HV : Hid (val l = n) := by show _ = _; have := HE.out; rw [h0, Nat.mul_zero] at this; omega
    have HL : Hid (l.length ≤ 8796093022208) := by show _ ≤ _; omega
    have HZ : Hid (1 * (n : Int) = x) := by show _ = _; rw [HNX.out]; have := HX.out; omega
    clear h0 hl4; go_wp2_with fail
    refine (made_own_any (G := G) HO.out HS.out HL.out HV.out HZ.out (fun _ => .inl rfl)).mono ?_; rintro e w2 ⟨a, c, rfl, hd, hb⟩; have K2 := hI ((K0.out.keep HB.out).keep hb); have HB2 := hI (below_call HB0.out (below_call HB.out hb)); have HD := hI hd; clear hb hd; obtain ⟨p0, q0⟩ := K2.out.at; go_wp2_with fail
    refine bodyPost_ret (results_box1 rfl _ _ w.heap.size 34 _ _ _ rfl (K2.out.set2 _ _) Tryz.underlying34 rfl (by kernel_rfl)) rfl ⟨a, c, rfl, ?_, ?_⟩
    · exact HD.out.far0 K2.out zb2 (only_setCell (only_setCell (World.grownBy.refl _ _) _) _)
    · exact (HB2.out.setCell (Nat.le_refl _) _).setCell (Nat.le_refl _) _
  · have hl3 := hl4 h0
    have e2 : (u != 0) = true := by rw [bne_iff_ne]; exact h0
    have e3 : ((u : Int) != 0) = true := by rw [bne_iff_ne]; omega
    obtain ⟨d, hd⟩ : ∃ d, d = u % 1048576 := ⟨_, rfl⟩; obtain ⟨m, hm⟩ : ∃ m, m = u / 1048576 := ⟨_, rfl⟩; have hds : d < 1048576 := by omega
    have hmod : (u : Int) % 1048576 = (d : Int) := by omega
    have hdiv : (u : Int) / 1048576 = (m : Int) := by omega
    have hmu : m < u := by omega
    have hum : u ≤ 9223372036854775808 := by omega
    have HE2 : Hid (val (l ++ [d]) + 1048576 ^ (l ++ [d]).length * m = n) := by show _ = _; rw [val_snoc_digs, show d + 1048576 * m = u by omega]; exact HE.out
    have HA : Hid (OwnN (wr.alloc (.cells #[.int .i64 (d : Int)] 3)) w0.heap.size u4 l) := HO.out.keep (below_alloc _ _); have HL1 : Hid (RdN (wr.alloc (.cells #[.int .i64 (d : Int)] 3)) (.slice (some ⟨wr.heap.size, 0, none⟩) 1 1) [d]) := (own_lit1 wr wr.heap.size d (Nat.le_refl _)).rd; have hsz : w0.heap.size ≤ wr.heap.size := HB.out.size; clear hd hm h0 hl4; go_wp2_with (at_builtin; go_must (refine wpList_appendN rfl _ _ rfl (wr.alloc (.cells #[.int .i64 (d : Int)] 3)) w0.heap.size u4 l rfl HA.out ⟨wr.heap.size, 0, none⟩ 1 1 [d] rfl rfl HL1.out (by simp; omega) (by simp; omega) ?_; intro v' w1 ho hg hb))
    have HO2 := hI ho; have HB2 : Hid (Below w0.heap.size w0 w1) := (HB.out.alloc hsz _).trans hb; clear ho hg hb; go_roundw
    case rel => exact ⟨l ++ [d], m, by omega, by simp; omega, by first | rfl | rw [hdiv], small_append HS.out (small_one hds), HE2, HO2.out, HB2.out⟩
    case measure => simp [intOf]; omega
theorem rof_neg (x : Int) (w : World) (hx : -9223372036854775808 ≤ x ∧ x ≤ 9223372036854775807) (hs : x < 0) :
 Calls Tryz.prog 64 #[.int .i64 x] w fun e w' => ∃ a c, e = .returned (.agg #[.int .i64 (sg x), .slice a (ln x) c]) ∧ BD G w' a c x ∧ Below w.heap.size w w' := by
 obtain ⟨n, hn⟩ : ∃ n, n = x.natAbs := ⟨_, rfl⟩; have hnb : n ≤ 9223372036854775808 := by omega
 have e0 : (x == 0) = false := by rw [beq_eq_false_iff_ne]; omega
 have e1 : decide (x < 0) = true := by rw [decide_eq_true_eq]; omega
 have HNX := hI hn; have HX := hI hs; have HSt : Hid (x = -(n : Int)) := by show _ = _; omega
 clear hn hs; go_enter Tryz.func64, Tryz.ntmps64
 go_wp2_with fail
 generalize hw0 : World.alloc w _ = w0; have K0 : Hid (Bx w0 w.heap.size 34 #[.int .i64 0, .slice none 0 0]) := by rw [← hw0]; exact bx1 w _ _
 have HB0 : Hid (Below w.heap.size w w0) := by rw [← hw0]; exact below_alloc _ _
 clear hw0; go_loopw [0, 4] (fun i v wr => ∃ (l : Digs) (u : Nat), u ≤ n ∧ l.length ≤ 4 ∧ i = .int .i64 (-(u : Int)) ∧ Hid (small l) ∧ Hid (val l + 1048576 ^ l.length * u = n) ∧ Hid (OwnN wr w0.heap.size v l) ∧ Hid (Below w0.heap.size w0 wr)) (fun i _ _ => (intOf i).natAbs)
 case atStart => exact ⟨[], n, Nat.le_refl _, by simp, by rw [HSt.out], small_nil, by show _ = _; simp [val], ownN_nil _ _, Below.refl _ _⟩
 case round =>
  obtain ⟨l, u, hu, hll, rfl, HS, HE, HO, HB⟩ := hrel; have hl4 : u ≠ 0 → l.length < 4 := fun h => of_room hnb HE.out h
  by_cases h0 : u = 0
  · have e2 : (u != 0) = false := by rw [h0]; rfl
    have e3 : ((-(u : Int)) != 0) = false := by rw [h0]; rfl
    have HV : Hid (val l = n) := by show _ = _; have := HE.out; rw [h0, Nat.mul_zero] at this; omega
    have HL : Hid (l.length ≤ 8796093022208) := by show _ ≤ _; omega
    have HZ : Hid ((-1) * (n : Int) = x) := by show _ = _; rw [HNX.out]; have := HX.out; omega
    clear h0 hl4; go_wp2_with fail
    refine (made_own_any (G := G) HO.out HS.out HL.out HV.out HZ.out (fun _ => .inr rfl)).mono ?_; rintro e w2 ⟨a, c, rfl, hd, hb⟩; have K2 := hI ((K0.out.keep HB.out).keep hb); have HB2 := hI (below_call HB0.out (below_call HB.out hb)); have HD := hI hd; clear hb hd; obtain ⟨p0, q0⟩ := K2.out.at; go_wp2_with fail
    refine bodyPost_ret (results_box1 rfl _ _ w.heap.size 34 _ _ _ rfl (K2.out.set2 _ _) Tryz.underlying34 rfl (by kernel_rfl)) rfl ⟨a, c, rfl, ?_, ?_⟩
    · exact HD.out.far0 K2.out zb2 (only_setCell (only_setCell (World.grownBy.refl _ _) _) _)
    · exact (HB2.out.setCell (Nat.le_refl _) _).setCell (Nat.le_refl _) _
  · have hl3 := hl4 h0
    have e2 : (u != 0) = true := by rw [bne_iff_ne]; exact h0
    have e3 : ((-(u : Int)) != 0) = true := by rw [bne_iff_ne]; omega
    obtain ⟨d, hd⟩ : ∃ d, d = u % 1048576 := ⟨_, rfl⟩; obtain ⟨m, hm⟩ : ∃ m, m = u / 1048576 := ⟨_, rfl⟩; have hds : d < 1048576 := by omega
    have hmod : Int.tmod (-(u : Int)) 1048576 = -(d : Int) := by
     rw [Int.neg_tmod]; have : Int.tmod (u : Int) 1048576 = (d : Int) := by (rw [Int.tmod_eq_emod_of_nonneg (by omega)]; omega)
     omega
    have hdiv : Int.tdiv (-(u : Int)) 1048576 = -(m : Int) := by
     rw [Int.neg_tdiv]; have : Int.tdiv (u : Int) 1048576 = (m : Int) := by (rw [Int.tdiv_eq_ediv_of_nonneg (by omega)]; omega)
     omega
    have hmu : m < u := by omega
    have hum : u ≤ 9223372036854775808 := by omega
    have HE2 : Hid (val (l ++ [d]) + 1048576 ^ (l ++ [d]).length * m = n) := by show _ = _; rw [val_snoc_digs, show d + 1048576 * m = u by omega]; exact HE.out
    have HA : Hid (OwnN (wr.alloc (.cells #[.int .i64 (d : Int)] 3)) w0.heap.size u4 l) := HO.out.keep (below_alloc _ _); have HL1 : Hid (RdN (wr.alloc (.cells #[.int .i64 (d : Int)] 3)) (.slice (some ⟨wr.heap.size, 0, none⟩) 1 1) [d]) := (own_lit1 wr wr.heap.size d (Nat.le_refl _)).rd; have hsz : w0.heap.size ≤ wr.heap.size := HB.out.size; clear hd hm h0 hl4
    by_cases hd0 : d = 0
    · subst hd0
      have HA : Hid (OwnN (wr.alloc (.cells #[.int .i64 0] 3)) w0.heap.size u4 l) := HA.out; have HL1 : Hid (RdN (wr.alloc (.cells #[.int .i64 0] 3)) (.slice (some ⟨wr.heap.size, 0, none⟩) 1 1) [0]) := HL1.out; have hmod : Int.tmod (-(u : Int)) 1048576 = 0 := hmod; go_wp2_with (at_builtin; go_must (refine wpList_appendN rfl _ _ rfl (wr.alloc (.cells #[.int .i64 0] 3)) w0.heap.size u4 l rfl HA.out ⟨wr.heap.size, 0, none⟩ 1 1 [0] rfl rfl HL1.out (by simp; omega) (by simp; omega) ?_; intro v' w1 ho hg hb))
      have HO2 := hI ho; have HB2 : Hid (Below w0.heap.size w0 w1) := (HB.out.alloc hsz _).trans hb; clear ho hg hb; go_roundw
      case rel => exact ⟨l ++ [0], m, by omega, by simp; omega, by first | rfl | rw [hdiv], small_append HS.out (small_one hds), HE2, HO2.out, HB2.out⟩
      case measure => simp [intOf]; omega
    · have t4 : decide (-(d : Int) < 0) = true := by rw [decide_eq_true_eq]; omega
      go_wp2_with (at_builtin; go_must (refine wpList_appendN rfl _ _ rfl (wr.alloc (.cells #[.int .i64 (d : Int)] 3)) w0.heap.size u4 l rfl HA.out ⟨wr.heap.size, 0, none⟩ 1 1 [d] rfl rfl HL1.out (by simp; omega) (by simp; omega) ?_; intro v' w1 ho hg hb))
      have HO2 := hI ho; have HB2 : Hid (Below w0.heap.size w0 w1) := (HB.out.alloc hsz _).trans hb; clear ho hg hb; go_roundw
      case rel => exact ⟨l ++ [d], m, by omega, by simp; omega, by first | rfl | rw [hdiv], small_append HS.out (small_one hds), HE2, HO2.out, HB2.out⟩
      case measure => simp [intOf]; omega
theorem rof_zero (w : World) :
 Calls Tryz.prog 64 #[.int .i64 0] w fun e w' => ∃ a c, e = .returned (.agg #[.int .i64 (sg 0), .slice a (ln 0) c]) ∧ BD G w' a c 0 ∧ Below w.heap.size w w' := by
 go_enter Tryz.func64, Tryz.ntmps64
 go_wp2_with fail
 refine bodyPost_ret (results_box1 rfl _ _ w.heap.size 34 _ _ _ rfl (bx1 w _ #[.int .i64 0, .slice none 0 0]) Tryz.underlying34 rfl (by kernel_rfl)) rfl ⟨none, 0, rfl, ?_, ?_⟩
 · exact bd_zero _ _ _
 · exact below_alloc _ _
theorem rof_ok (x : Int) (w : World) (hx : -9223372036854775808 ≤ x ∧ x ≤ 9223372036854775807) :
 Calls Tryz.prog 64 #[.int .i64 x] w fun e w' => ∃ a c, e = .returned (.agg #[.int .i64 (sg x), .slice a (ln x) c]) ∧ BD G w' a c x ∧ Below w.heap.size w w' := by
 rcases Int.lt_trichotomy x 0 with h | h | h
 · exact rof_neg (G := G) x w hx h
 · rw [h]; exact rof_zero (G := G) w
 · exact rof_pos (G := G) x w hx h
theorem rgcd_is {x y g : Int} {a1 a2 : Option Addr} {c1 c2 : Nat} {w : World} (h1 : BD G w a1 c1 x) (h2 : BD G w a2 c2 y) (hx : Sz x 549755813888) (hy : Sz y 549755813888) (hg : ((Nat.gcd x.natAbs y.natAbs : Nat) : Int) = g) :
 Calls Tryz.prog 63 #[.agg #[.int .i64 (sg x), .slice a1 (ln x) c1], .agg #[.int .i64 (sg y), .slice a2 (ln y) c2]] w fun e w' => ∃ a c, e = .returned (.tuple #[.agg #[.int .i64 (sg g), .slice a (ln g) c], .int .i64 0]) ∧ BD G w' a c g ∧ Below w.heap.size w w' := by
 subst hg; exact rgcd_ok h1 h2 hx hy
theorem rdiv_exact {x y q : Int} {a1 a2 : Option Addr} {c1 c2 : Nat} {w : World} (h1 : BD G w a1 c1 x) (h2 : BD G w a2 c2 y) (hx : Sz x 549755813888) (hy : Sz y 549755813888) (hy0 : 0 < y) (h : x = y * q) :
 Calls Tryz.prog 87 #[.agg #[.int .i64 (sg x), .slice a1 (ln x) c1], .agg #[.int .i64 (sg y), .slice a2 (ln y) c2]] w fun e w' => ∃ a c b d, e = .returned (.tuple #[.agg #[.int .i64 (sg q), .slice a (ln q) c], .agg #[.int .i64 (sg 0), .slice b (ln 0) d], .int .i64 0]) ∧ BD G w' a c q ∧ BD G w' b d 0 ∧ Below w.heap.size w w' := by
 have := rdiv_ok h1 h2 hx hy (by omega); have hu := dv_unique (x := x) (y := y) (q := q) (r := 0) (by omega) (.inl ⟨by omega, hy0⟩)
 rwa [hu.1, hu.2] at this
theorem sz_one {n : Nat} : Sz 1 (n + 1) := by
 have : ln 1 = 1 := by decide
 show ln 1 ≤ n + 1
 rw [this]; omega
theorem rnew_pos {x y : Int} {a1 a2 : Option Addr} {c1 c2 : Nat} {w : World} (h1 : BD G w a1 c1 x) (h2 : BD G w a2 c2 y) (hx : Sz x 549755813888) (hy : Sz y 549755813888) (hs : 0 < y) :
 Calls Tryz.prog 51 #[.agg #[.int .i64 (sg x), .slice a1 (ln x) c1], .agg #[.int .i64 (sg y), .slice a2 (ln y) c2]] w fun e w' => ∃ a c b d, e = .returned (.tuple #[.agg #[.int .i64 (sg (nu (Rat.divInt x y))), .slice a (ln (nu (Rat.divInt x y))) c, .int .i64 (sg (de (Rat.divInt x y))), .slice b (ln (de (Rat.divInt x y))) d], .int .i64 0]) ∧ FD G w' a c b d (Rat.divInt x y) ∧ Below w.heap.size w w' := by
 have HX := hI hx; have HY := hI hy; have H1 := hI h1; have H2 := hI h2; have e1 : (sg y == 0) = false := by rw [sg_pos hs]; rfl
 have e2 : decide (sg y < 0) = false := by rw [sg_pos hs]; rfl
 obtain ⟨g, hg0, hg, he1, he2⟩ := new_parts (x := x) hs; obtain ⟨r, hr⟩ : ∃ r, r = Rat.divInt x y := ⟨_, rfl⟩; rw [← hr] at he1 he2 ⊢; have HG := hI hg; have HG0 := hI hg0; have HE1 := hI he1; have HE2 := hI he2; have HGS : Hid (Sz g 549755813888) := hy.le (by rw [← hg]; have := Nat.gcd_le_right (m := x.natAbs) (n := y.natAbs) (by omega); omega); clear hx hy h1 h2 hg hg0 he1 he2 hr hs
 go_enter Tryz.func51, Tryz.ntmps51
 go_wp2_with fail
 refine (rright_ok (x := x) (H1.out.keep (by go_grown)) (HX.out.mono (by omega))).mono ?_; rintro e w1 ⟨rfl, hb⟩; refine kp3W hb fun K0 K1 K2 => ?_; have hb' : Below w.heap.size w w1 := below_call (by go_grown) hb; have HB := hI hb'; replace H1 := kdW H1 hb'; replace H2 := kdW H2 hb'; clear hb hb'; refine K0.out.w2 fun aa ab ac ad z0 => ?_; refine K1.out.w2 fun ae af ag ah z1 => ?_; refine K2.out.w4 fun ai aj ak al am ao ap aq z2 => ?_; go_wp2_with fail
 refine (rright_ok (x := y) (H2.out.keep (by go_grown)) (HY.out.mono (by omega))).mono ?_; rintro e w2 ⟨rfl, hb⟩; clear aa ab ac ad z0 ae af ag ah z1 ai aj ak al am ao ap aq z2; have hb' := below_call (w1 := w1) (by go_grown) hb; replace K0 := kbW K0 hb'; replace K1 := kbW K1 hb'; replace K2 := kbW K2 hb'; replace HB := hI (below_call HB.out hb'); replace H1 := kdW H1 hb'; replace H2 := kdW H2 hb'; clear hb hb'; refine K0.out.w2 fun aa ab ac ad z0 => ?_; refine K1.out.w2 fun ae af ag ah z1 => ?_; refine K2.out.w4 fun ai aj ak al am ao ap aq z2 => ?_; go_wp2_with fail
 refine (rgcd_is (H1.out.keep (by go_grown)) (H2.out.keep (by go_grown)) HX.out HY.out HG.out).mono ?_; rintro e w3 ⟨a3, c3, rfl, hd3, hb⟩; clear aa ab ac ad z0 ae af ag ah z1 ai aj ak al am ao ap aq z2; have hb' := below_call (w1 := w2) (by go_grown) hb; replace K0 := kbW K0 hb'; replace K1 := kbW K1 hb'; replace K2 := kbW K2 hb'; replace HB := hI (below_call HB.out hb'); replace H1 := kdW H1 hb'; replace H2 := kdW H2 hb'; clear hb hb'; have Hd3 := hI hd3; clear hd3; refine K0.out.w2 fun aa ab ac ad z0 => ?_; refine K1.out.w2 fun ae af ag ah z1 => ?_; refine K2.out.w4 fun ai aj ak al am ao ap aq z2 => ?_; go_wp2_with fail
 refine (rdiv_exact (q := nu r) (H1.out.keep (by go_grown)) (Hd3.out.keep (by go_grown)) HX.out HGS.out HG0.out HE1.out).mono ?_; rintro e w4 ⟨a4, c4, b4, d4, rfl, hd4, -, hb⟩; clear aa ab ac ad z0 ae af ag ah z1 ai aj ak al am ao ap aq z2; have hb' := below_call (w1 := w3) (by go_grown) hb; replace K0 := kbW K0 hb'; replace K1 := kbW K1 hb'; replace K2 := kbW K2 hb'; replace HB := hI (below_call HB.out hb'); have K3 := hI ((Bx.new w3 34 #[.int .i64 (sg g), .slice a3 (ln g) c3]).keep hb); replace H1 := kdW H1 hb'; replace H2 := kdW H2 hb'; replace Hd3 := hI (Hd3.out.keep hb'); clear hb hb'; have Hd4 := hI hd4; clear hd4; refine K0.out.w2 fun aa ab ac ad z0 => ?_; refine K1.out.w2 fun ae af ag ah z1 => ?_; refine K2.out.w4 fun ai aj ak al am ao ap aq z2 => ?_; refine K3.out.w2 fun ar au av aw z3 => ?_; go_wp2_with fail
 refine (rdiv_exact (q := de r) (H2.out.keep (by go_grown)) (Hd3.out.keep (by go_grown)) HY.out HGS.out HG0.out HE2.out).mono ?_; rintro e w5 ⟨a5, c5, b5, d5, rfl, hd5, -, hb⟩; clear aa ab ac ad z0 ae af ag ah z1 ai aj ak al am ao ap aq z2 ar au av aw z3; have hb' := below_call (w1 := w4) (by go_grown) hb; replace K0 := kbW K0 hb'; replace K1 := kbW K1 hb'; replace K2 := kbW K2 hb'; replace K3 := kbW K3 hb'; replace HB := hI (below_call HB.out hb'); have hnb := bx2 w4 34 34 #[.int .i64 (sg (nu r)), .slice a4 (ln (nu r)) c4] #[.int .i64 (sg 0), .slice b4 (ln 0) d4]; obtain ⟨k4, k5⟩ := hnb; have K4 := hI (k4.keep hb); have K5 := hI (k5.keep hb); clear k4 k5; replace H1 := kdW H1 hb'; replace H2 := kdW H2 hb'; replace Hd3 := hI (Hd3.out.keep hb'); replace Hd4 := hI (Hd4.out.keep hb'); clear hb hb'; have Hd5 := hI hd5; clear hd5; refine K0.out.w2 fun aa ab ac ad z0 => ?_; refine K1.out.w2 fun ae af ag ah z1 => ?_; refine K2.out.w4 fun ai aj ak al am ao ap aq z2 => ?_; refine K3.out.w2 fun ar au av aw z3 => ?_; refine K4.out.w2 fun ax ay az ba z4 => ?_; refine K5.out.w2 fun bb bc bd bf z5 => ?_; go_wp2_with fail
 have HF : Hid (FD G w5 a4 c4 a5 c5 r) := FD.mk Hd4.out Hd5.out; clear aa ab ac ad z0 ae af ag ah z1 ai aj ak al am ao ap aq z2 ar au av aw z3 ax ay az ba z4 bb bc bd bf z5; refine bodyPost_ret (results_box2 rfl _ _ (w.heap.size + 1 + 1) 36 _ _ _ rfl (((K2.out.set4 _ _ _ _).keep (below_alloc _ _)).keep (below_alloc _ _)) Tryz.underlying36 rfl (by kernel_rfl)) rfl ?_; refine ⟨a4, c4, a5, c5, rfl, ?_, ?_⟩
 · exact (((HF.out.far0 K2.out zb4 (only_setCell (only_setCell (only_setCell (only_setCell (World.grownBy.refl _ _) _) _) _) _)).keep (below_alloc _ _)).keep (below_alloc _ _))
 · exact (Below.alloc (Below.alloc (Below.setCell (Below.setCell (Below.setCell (Below.setCell HB.out (by simp; try omega) _) (by simp; try omega) _) (by simp; try omega) _) (by simp; try omega) _) (by have := HB.out.size; simp [World.setCell]; omega) _) (by have := HB.out.size; simp [World.setCell]; omega) _)
theorem rcompare_one {a1 a2 : Option Addr} {c1 c2 : Nat} {w : World} (h1 : BD G w a1 c1 1) (h2 : BD G w a2 c2 1) :
 Calls Tryz.prog 59 #[.agg #[.int .i64 (sg 1), .slice a1 (ln 1) c1], .agg #[.int .i64 (sg 1), .slice a2 (ln 1) c2]] w fun e w' => e = .returned (.int .i64 0) ∧ Below w.heap.size w w' := by
 have := rcompare_ok h1 h2 sz_one sz_one
 rwa [ord_eq] at this
theorem rfright_ok {q : Rat} {a1 b1 : Option Addr} {c1 d1 : Nat} {w : World} (h1 : FD G w a1 c1 b1 d1 q) (hx : Fz q 549755813888) :
 Calls Tryz.prog 34 #[.agg #[.int .i64 (sg (nu q)), .slice a1 (ln (nu q)) c1, .int .i64 (sg (de q)), .slice b1 (ln (de q)) d1]] w fun e w' => e = .returned (.bool true) ∧ Below w.heap.size w w' := by
 have HX := hI hx; have H1 := hI h1; have e1 : decide (sg (de q) < 1) = false := by rw [sg_de]; rfl
 clear hx h1
 go_enter Tryz.func34, Tryz.ntmps34
 go_wp2_with fail
 refine (rright_ok (x := nu q) (H1.out.keep (by go_grown)).n (HX.out.1.mono (by omega))).mono ?_; rintro e w1 ⟨rfl, hb⟩; have hbx := bx1 w 36 #[.int .i64 (sg (nu q)), .slice a1 (ln (nu q)) c1, .int .i64 (sg (de q)), .slice b1 (ln (de q)) d1]; have k0 := hbx; clear hbx; have K0 := hI (k0.keep hb); clear k0; have hb' : Below w.heap.size w w1 := below_call (by go_grown) hb; have HB := hI hb'; replace H1 := hI (H1.out.keep hb'); clear hb hb'; refine K0.out.w4 fun aa ab ac ad ae af ag ah z0 => ?_; go_wp2_with fail
 refine (rright_ok (x := de q) (H1.out.keep (by go_grown)).d (HX.out.2.mono (by omega))).mono ?_; rintro e w2 ⟨rfl, hb⟩; clear aa ab ac ad ae af ag ah z0; have hb' := below_call (w1 := w1) (by go_grown) hb; replace K0 := kbW K0 hb'; replace HB := hI (below_call HB.out hb'); replace H1 := hI (H1.out.keep hb'); clear hb hb'; refine K0.out.w4 fun aa ab ac ad ae af ag ah z0 => ?_; go_wp2_with fail
 refine (rgcd_is (g := 1) (H1.out.keep (by go_grown)).n (H1.out.keep (by go_grown)).d HX.out.1 HX.out.2 (gcd_one q)).mono ?_; rintro e w3 ⟨a3, c3, rfl, hd3, hb⟩; clear aa ab ac ad ae af ag ah z0; have hb' := below_call (w1 := w2) (by go_grown) hb; replace K0 := kbW K0 hb'; replace HB := hI (below_call HB.out hb'); replace H1 := hI (H1.out.keep hb'); clear hb hb'; have Hd3 := hI hd3; clear hd3; refine K0.out.w4 fun aa ab ac ad ae af ag ah z0 => ?_; go_wp2_with fail
 clear aa ab ac ad ae af ag ah z0; generalize hwn : World.alloc w3 _ = w4; have hbn : Below w3.heap.size w3 w4 := by rw [← hwn]; exact (Below.alloc (Below.refl _ _) (by simp) _)
 have K1 : Hid (Bx w4 w3.heap.size 34 #[.int .i64 (sg 1), .slice a3 (ln 1) c3]) := by show Bx _ _ _ _; rw [← hwn]; exact bx1 w3 _ _
 replace K0 := kbW K0 hbn; replace HB := hI (below_call HB.out hbn); replace H1 := hI (H1.out.keep hbn); replace Hd3 := hI (Hd3.out.keep hbn); clear hbn hwn; refine K0.out.w4 fun aa ab ac ad ae af ag ah z0 => ?_; refine K1.out.w2 fun ai aj ak al z1 => ?_; clear aa ab ac ad ae af ag ah z0 ai aj ak al z1; have mk := Lib.hid fun w' (h : Below w4.heap.size w4 w') => (K0.out.keep h).t4 ((K1.out.keep h).t2 h)
 have hs0 : Below w4.heap.size w4 w4.drew := (Below.refl _ _).drew; have HS0 : Hid (Below w4.heap.size w4 w4.drew) := (Below.refl _ _).drew; have tok0 : True := trivial; have tok1 : True := trivial
 go_region_held3 (fun w' => w'.cell? ⟨w.heap.size, 0, none⟩ = some (.int .i64 (sg (nu q))) ∧ w'.cell? ⟨w.heap.size, 1, none⟩ = some (.slice a1 (ln (nu q)) c1) ∧ w'.cell? ⟨w.heap.size, 2, none⟩ = some (.int .i64 (sg (de q))) ∧ w'.cell? ⟨w.heap.size, 3, none⟩ = some (.slice b1 (ln (de q)) d1) ∧ w'.cell? ⟨w3.heap.size, 0, none⟩ = some (.int .i64 (sg 1)) ∧ w'.cell? ⟨w3.heap.size, 1, none⟩ = some (.slice a3 (ln 1) c3) ∧ Below w4.heap.size w4 w')
  (first | exact mk.out _ (by assumption) | exact mk.out _ (Below.alloc (by assumption) (Below.size (by assumption)) _))
  (first
   | (go_at_call 64; have _t := tok0; refine (rof_ok (G := G) 1 w4.drew (by decide)).mono ?_; rintro e w5 ⟨a4, c4, rfl, hd4, hb⟩; clear tok0 _t; have hs1 := below_call hs0 hb; have HS1 := hI (below_call HS0.out hb); clear hb; have Hd4 := hI hd4; clear hd4)
   | (go_at_call 59; have _t := tok1; refine (rcompare_one (Hd3.out.keep HS1.out) Hd4.out).mono ?_; rintro e w6 ⟨rfl, hb⟩; clear tok1 _t; have hs2 := below_call hs1 hb; have HS2 := hI (below_call HS1.out hb); have Hd4 := hI (Hd4.out.keep hb); clear hb))
 replace K0 := kbW K0 HS2.out; replace K1 := kbW K1 HS2.out; replace HB := hI (below_call HB.out HS2.out); replace H1 := hI (H1.out.keep HS2.out); replace Hd3 := hI (Hd3.out.keep HS2.out); clear mk hs0 HS0 hs1 HS1 hs2 HS2; refine K0.out.w4 fun aa ab ac ad ae af ag ah z0 => ?_; refine K1.out.w2 fun ai aj ak al z1 => ?_; go_wp2_with fail
 go_ret
 exact ⟨rfl, HB.out⟩
theorem rfof_pos (x y : Int) (w : World) (hx : -9223372036854775808 ≤ x ∧ x ≤ 9223372036854775807) (hy : -9223372036854775808 ≤ y ∧ y ≤ 9223372036854775807) (hp : 0 < y) :
 Calls Tryz.prog 47 #[.int .i64 x, .int .i64 y] w fun e w' => ∃ a c b d, e = .returned (.tuple #[.agg #[.int .i64 (sg (nu (Rat.divInt x y))), .slice a (ln (nu (Rat.divInt x y))) c, .int .i64 (sg (de (Rat.divInt x y))), .slice b (ln (de (Rat.divInt x y))) d], .int .i64 0]) ∧ FD G w' a c b d (Rat.divInt x y) ∧ Below w.heap.size w w' := by
 have HX := hI hx; have HY := hI hy; have HP := hI hp; clear hx hy hp
 go_enter Tryz.func47, Tryz.ntmps47
 go_wp2_with fail
 refine (rof_ok (G := G) x _ HX.out).mono ?_; rintro e w1 ⟨a1, c1, rfl, hd1, hb⟩; have hbx := bx1 w 36 #[.int .i64 0, .slice none 0 0, .int .i64 0, .slice none 0 0]; have k0 := hbx; clear hbx; have K0 := hI (k0.keep hb); clear k0; have hb' : Below w.heap.size w w1 := below_call (by go_grown) hb; have HB := hI hb'; clear hb hb'; have Hd1 := hI hd1; clear hd1; refine K0.out.w4 fun aa ab ac ad ae af ag ah z0 => ?_; go_wp2_with fail
 refine (rof_ok (G := G) y _ HY.out).mono ?_; rintro e w2 ⟨a2, c2, rfl, hd2, hb⟩; clear aa ab ac ad ae af ag ah z0; have hb' := below_call (w1 := w1) (by go_grown) hb; replace K0 := kbW K0 hb'; replace HB := hI (below_call HB.out hb'); replace Hd1 := hI (Hd1.out.keep hb'); clear hb hb'; have Hd2 := hI hd2; clear hd2; refine K0.out.w4 fun aa ab ac ad ae af ag ah z0 => ?_; go_wp2_with fail
 refine (rnew_pos (Hd1.out.keep (by go_grown)) (Hd2.out.keep (by go_grown)) (sz_int HX.out) (sz_int HY.out) HP.out).mono ?_; rintro e w3 ⟨a3, c3, b3, d3, rfl, hf3, hb⟩; clear aa ab ac ad ae af ag ah z0; have hb' := below_call (w1 := w2) (by go_grown) hb; replace K0 := kbW K0 hb'; replace HB := hI (below_call HB.out hb'); replace Hd1 := hI (Hd1.out.keep hb'); replace Hd2 := hI (Hd2.out.keep hb'); clear hb hb'; have Hf3 := hI hf3; clear hf3; refine K0.out.w4 fun aa ab ac ad ae af ag ah z0 => ?_; go_wp2_with fail
 clear aa ab ac ad ae af ag ah z0; refine bodyPost_ret (results_box2 rfl _ _ w.heap.size 36 _ _ _ rfl (K0.out.set4 _ _ _ _) Tryz.underlying36 rfl (by kernel_rfl)) rfl ?_; refine ⟨a3, c3, b3, d3, rfl, ?_, ?_⟩
 · exact (Hf3.out.far0 K0.out zb4 (only_setCell (only_setCell (only_setCell (only_setCell (World.grownBy.refl _ _) _) _) _) _))
 · exact (Below.setCell (Below.setCell (Below.setCell (Below.setCell HB.out (by simp; try omega) _) (by simp; try omega) _) (by simp; try omega) _) (by simp; try omega) _)
theorem rfof_one (x : Int) (w : World) (hx : -9223372036854775808 ≤ x ∧ x ≤ 9223372036854775807) :
 Calls Tryz.prog 47 #[.int .i64 x, .int .i64 1] w fun e w' => ∃ a c b d, e = .returned (.tuple #[.agg #[.int .i64 (sg (nu (x : Rat))), .slice a (ln (nu (x : Rat))) c, .int .i64 (sg (de (x : Rat))), .slice b (ln (de (x : Rat))) d], .int .i64 0]) ∧ FD G w' a c b d (x : Rat) ∧ Below w.heap.size w w' := by
 have := rfof_pos (G := G) x 1 w hx (by decide) (by decide)
 rwa [show Rat.divInt x 1 = (x : Rat) from divInt_parts (x : Rat)] at this
theorem rfint_ok (x : Int) (w : World) (hx : -9223372036854775808 ≤ x ∧ x ≤ 9223372036854775807) :
 Calls Tryz.prog 24 #[.int .i64 x] w fun e w' => ∃ a c b d, e = .returned (.agg #[.int .i64 (sg (nu (x : Rat))), .slice a (ln (nu (x : Rat))) c, .int .i64 (sg (de (x : Rat))), .slice b (ln (de (x : Rat))) d]) ∧ FD G w' a c b d (x : Rat) ∧ Below w.heap.size w w' := by
 have HX := hI hx; clear hx
 go_enter Tryz.func24, Tryz.ntmps24
 go_wp2_with fail
 refine (rfof_one (G := G) x _ HX.out).mono ?_; rintro e w1 ⟨a3, c3, b3, d3, rfl, hf3, hb⟩; have hbx := bx1 w 36 #[.int .i64 0, .slice none 0 0, .int .i64 0, .slice none 0 0]; have k0 := hbx; clear hbx; have K0 := hI (k0.keep hb); clear k0; have hb' : Below w.heap.size w w1 := below_call (by go_grown) hb; have HB := hI hb'; clear hb hb'; have Hf3 := hI hf3; clear hf3; refine K0.out.w4 fun aa ab ac ad ae af ag ah z0 => ?_; go_wp2_with fail
 clear aa ab ac ad ae af ag ah z0; refine bodyPost_ret (results_box1 rfl _ _ w.heap.size 36 _ _ _ rfl ((K0.out.set4 _ _ _ _).keep (below_alloc _ _)) Tryz.underlying36 rfl (by kernel_rfl)) rfl ?_; refine ⟨a3, c3, b3, d3, rfl, ?_, ?_⟩
 · exact ((Hf3.out.far0 K0.out zb4 (only_setCell (only_setCell (only_setCell (only_setCell (World.grownBy.refl _ _) _) _) _) _)).keep (below_alloc _ _))
 · exact (Below.alloc (Below.setCell (Below.setCell (Below.setCell (Below.setCell HB.out (by simp; try omega) _) (by simp; try omega) _) (by simp; try omega) _) (by simp; try omega) _) (by have := HB.out.size; simp [World.setCell]; omega) _)
theorem rfsign_ok {q : Rat} {a1 b1 : Option Addr} {c1 d1 : Nat} {w : World} (h1 : FD G w a1 c1 b1 d1 q) (hx : Fz q 549755813888) :
 Calls Tryz.prog 35 #[.agg #[.int .i64 (sg (nu q)), .slice a1 (ln (nu q)) c1, .int .i64 (sg (de q)), .slice b1 (ln (de q)) d1]] w fun e w' => e = .returned (.int .i64 (sg (nu q))) ∧ Below w.heap.size w w' := by
 have HX := hI hx; have H1 := hI h1; clear hx h1
 go_enter Tryz.func35, Tryz.ntmps35
 go_wp2_with fail
 refine (rfright_ok (q := q) (H1.out.keep (by go_grown)) HX.out).mono ?_; rintro e w1 ⟨rfl, hb⟩; have hbx := bx1 w 36 #[.int .i64 (sg (nu q)), .slice a1 (ln (nu q)) c1, .int .i64 (sg (de q)), .slice b1 (ln (de q)) d1]; have k0 := hbx; clear hbx; have K0 := hI (k0.keep hb); clear k0; have hb' : Below w.heap.size w w1 := below_call (by go_grown) hb; have HB := hI hb'; replace H1 := hI (H1.out.keep hb'); clear hb hb'; refine K0.out.w4 fun aa ab ac ad ae af ag ah z0 => ?_; go_wp2_with fail
 go_ret
 exact ⟨rfl, HB.out⟩
end Go.Proofs.YtlcgckelamhnpaaGreat
