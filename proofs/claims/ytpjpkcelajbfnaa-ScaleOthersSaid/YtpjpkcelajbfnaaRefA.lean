/- Walks of the verifier's reference: digits: one digit, order, trimming, sums. -/
import Derived.Test.YtpjpkcelajbfnaaFracC
import Derived.IntWalk
namespace Go.Proofs.Ytpjpkcelajbfnaa
open Go.RowKit

def dg (l : Digs) (i : Nat) : Nat := l.getD i 0
theorem dg_lt {l : Digs} {i : Nat} (h : i < l.length) : dg l i = l[i] := by simp [dg, h]
theorem dg_ge {l : Digs} {i : Nat} (h : l.length ≤ i) : dg l i = 0 := by simp [dg, h]
theorem dg_small {l : Digs} (h : small l) (i : Nat) : dg l i < 1048576 := by
  rcases Nat.lt_or_ge i l.length with h' | h'
  · rw [dg_lt h']; exact small_get h i h'
  · rw [dg_ge h']; omega
theorem val_drop_step (l : Digs) (k : Nat) : val (l.drop k) = dg l k + 1048576 * val (l.drop (k + 1)) := by
  rcases Nat.lt_or_ge k l.length with h | h
  · rw [List.drop_eq_getElem_cons h, val, dg_lt h]
  · rw [List.drop_of_length_le h, List.drop_of_length_le (by omega), dg_ge h]; rfl
theorem val_take_step (l : Digs) (k : Nat) : val (l.take (k + 1)) = val (l.take k) + 1048576 ^ k * dg l k := by
  rcases Nat.lt_or_ge k l.length with h | h
  · rw [val_take_succ l k h, dg_lt h]
  · rw [val_take_all (by omega), val_take_all h, dg_ge h]; simp
theorem val_split' (l : Digs) (k : Nat) : val l = val (l.take k) + 1048576 ^ k * val (l.drop k) := by
  rcases Nat.lt_or_ge k l.length with h | h
  · exact val_split l k (by omega)
  · rw [val_take_all h, List.drop_of_length_le h]; simp [val]
theorem val_take_lt {l : Digs} (h : small l) (k : Nat) : val (l.take k) < 1048576 ^ k :=
  Nat.lt_of_lt_of_le (val_lt (small_take h k)) (Nat.pow_le_pow_right (by omega) (by rw [List.length_take]; omega))

theorem digit_ok (v : Value) (L : Digs) (i : Nat) (w : World) (h : RdN w v L) (_hn : L.length ≤ 1099511627776) (_hi : i ≤ 4398046511104) :
    Calls Try.prog 83 #[v, .int .i64 i] w fun e w' => e = .returned (.int .i64 (dg L i : Nat)) ∧ w = w' := by
  obtain ⟨a, cap, rfl⟩ := h.shape
  by_cases hlt : i < L.length
  · obtain ⟨b, off, rfl, hb, hcell⟩ := h.at hlt
    have HD := Lib.hid (dg_lt hlt)
    obtain ⟨d, hd⟩ : ∃ d, d = L[i] := ⟨_, rfl⟩
    rw [← hd] at hcell HD
    clear hd h
    go_enter Try.func83, Try.ntmps83
    go_wp2_with fail
    go_ret
    exact ⟨ret_int (by rw [HD.out]), rfl⟩
  · have HD := Lib.hid (dg_ge (l := L) (i := i) (by omega))
    clear h
    go_enter Try.func83, Try.ntmps83
    go_wp2_with fail
    go_ret
    exact ⟨ret_int (by rw [HD.out]; rfl), rfl⟩

def lessB (A B : Digs) : Bool := decide (val A < val B)
theorem less_at {A B : Digs} (sA : small A) (sB : small B) {k : Nat} (hd : val (A.drop (k + 1)) = val (B.drop (k + 1))) (hne : dg A k ≠ dg B k) : lessB A B = decide (dg A k < dg B k) := by
  have a1 := val_split' A k
  have b1 := val_split' B k
  rw [val_drop_step, hd] at a1
  rw [val_drop_step] at b1
  have a2 := val_take_lt sA k
  have b2 := val_take_lt sB k
  generalize val (B.drop (k + 1)) = t at *
  generalize 1048576 ^ k = e at *
  rw [lessB, decide_eq_decide]
  constructor
  · intro h
    rcases Nat.lt_or_ge (dg A k) (dg B k) with h' | h'
    · exact h'
    · exfalso
      have h3 := Nat.mul_le_mul_left e (show dg B k + 1 + 1048576 * t ≤ dg A k + 1048576 * t by omega)
      rw [show dg B k + 1 + 1048576 * t = (dg B k + 1048576 * t) + 1 by omega, Nat.mul_add] at h3
      omega
  · intro h
    have h3 := Nat.mul_le_mul_left e (show dg A k + 1 + 1048576 * t ≤ dg B k + 1048576 * t by omega)
    rw [show dg A k + 1 + 1048576 * t = (dg A k + 1048576 * t) + 1 by omega, Nat.mul_add] at h3
    omega

set_option maxHeartbeats 4000000 in
theorem less_ok (p q : Value) (A B : Digs) (w : World) (hp : RdN w p A) (hq : RdN w q B) (sA : small A) (sB : small B) (hn : A.length ≤ 1099511627776) (hm : B.length ≤ 1099511627776) :
    Calls Try.prog 64 #[p, q] w fun e w' => e = .returned (.bool (lessB A B)) ∧ Below w.heap.size w w' := by
  have HP := Lib.hid hp
  have HQ := Lib.hid hq
  obtain ⟨a1, cap1, rfl⟩ := hp.shape
  obtain ⟨a2, cap2, rfl⟩ := hq.shape
  clear hp hq
  by_cases hab : A.length < B.length
  · have HM1 : Hid (A.length ≤ B.length ∧ B.length ≤ B.length) := ⟨by omega, by omega⟩
    go_enter Try.func64, Try.ntmps64
    go_wp2_with fail
    go_loopw [5] (fun i wr => ∃ k : Nat, k ≤ B.length ∧ i = .int .i64 ((k : Int) - 1) ∧ Hid (val (A.drop k) = val (B.drop k)) ∧ Hid (Below w.heap.size w wr)) (fun i _ => (intOf i + 1).toNat)
    case atStart => exact ⟨B.length, Nat.le_refl _, rfl, by show _ = _; rw [List.drop_of_length_le HM1.out.1, List.drop_of_length_le HM1.out.2], Below.refl _ _⟩
    case round =>
      obtain ⟨k, hk, rfl, HD, HB⟩ := hrel
      by_cases h0 : 0 < k
      · obtain ⟨m, rfl⟩ : ∃ m, k = m + 1 := ⟨k - 1, by omega⟩
        have em : (((m + 1 : Nat) : Int) - 1) = (m : Int) := by omega
        rw [em]; clear em
        have hmb : m ≤ 4398046511104 := by omega
        obtain ⟨x, hx⟩ : ∃ x, x = dg A m := ⟨_, rfl⟩
        obtain ⟨y, hy⟩ : ∃ y, y = dg B m := ⟨_, rfl⟩
        have HX := Lib.hid hx
        have HY := Lib.hid hy
        clear hx hy
        by_cases hxy : x = y
        · have e1 : ((x : Int) != (y : Int)) = false := by simp [hxy]
          have HD2 : Hid (val (A.drop m) = val (B.drop m)) := by show _ = _; rw [val_drop_step, val_drop_step B, HD.out, ← HX.out, ← HY.out, hxy]
          clear hxy
          go_wp2_with (first | (go_at_call_of 83 (Value.slice a1 A.length cap1); refine (digit_ok _ A m _ (HP.out.keep HB.out) hn hmb).mono ?_; rintro e w' ⟨rfl, rfl⟩; rw [← HX.out]) | (go_at_call 83; refine (digit_ok _ B m _ (HQ.out.keep HB.out) hm hmb).mono ?_; rintro e w' ⟨rfl, rfl⟩; rw [← HY.out]))
          go_roundw
          case rel => exact ⟨m, by omega, rfl, HD2, HB⟩
          case measure => simp [intOf]
        · have e1 : ((x : Int) != (y : Int)) = true := by simp; omega
          have HR : Hid (lessB A B = decide (x < y)) := by show _ = _; rw [HX.out, HY.out]; exact less_at sA sB HD.out (by rw [← HX.out, ← HY.out]; exact hxy)
          clear hxy
          go_wp2_with (first | (go_at_call_of 83 (Value.slice a1 A.length cap1); refine (digit_ok _ A m _ (HP.out.keep HB.out) hn hmb).mono ?_; rintro e w' ⟨rfl, rfl⟩; rw [← HX.out]) | (go_at_call 83; refine (digit_ok _ B m _ (HQ.out.keep HB.out) hm hmb).mono ?_; rintro e w' ⟨rfl, rfl⟩; rw [← HY.out]))
          go_ret
          exact ⟨ret_bool (by rw [HR.out]), HB.out⟩
      · obtain rfl : k = 0 := by omega
        have em : ((0 : Nat) : Int) - 1 = -1 := rfl
        rw [em]; clear em
        have HR : Hid (lessB A B = false) := by
          show _ = _
          have := HD.out
          rw [List.drop_zero, List.drop_zero] at this
          rw [lessB, decide_eq_false_iff_not]; omega
        go_wp2_with fail
        go_ret
        exact ⟨ret_bool HR.out.symm, HB.out⟩
  · have HM1 : Hid (A.length ≤ A.length ∧ B.length ≤ A.length) := ⟨by omega, by omega⟩
    go_enter Try.func64, Try.ntmps64
    go_wp2_with fail
    go_loopw [5] (fun i wr => ∃ k : Nat, k ≤ A.length ∧ i = .int .i64 ((k : Int) - 1) ∧ Hid (val (A.drop k) = val (B.drop k)) ∧ Hid (Below w.heap.size w wr)) (fun i _ => (intOf i + 1).toNat)
    case atStart => exact ⟨A.length, Nat.le_refl _, rfl, by show _ = _; rw [List.drop_of_length_le HM1.out.1, List.drop_of_length_le HM1.out.2], Below.refl _ _⟩
    case round =>
      obtain ⟨k, hk, rfl, HD, HB⟩ := hrel
      by_cases h0 : 0 < k
      · obtain ⟨m, rfl⟩ : ∃ m, k = m + 1 := ⟨k - 1, by omega⟩
        have em : (((m + 1 : Nat) : Int) - 1) = (m : Int) := by omega
        rw [em]; clear em
        have hmb : m ≤ 4398046511104 := by omega
        obtain ⟨x, hx⟩ : ∃ x, x = dg A m := ⟨_, rfl⟩
        obtain ⟨y, hy⟩ : ∃ y, y = dg B m := ⟨_, rfl⟩
        have HX := Lib.hid hx
        have HY := Lib.hid hy
        clear hx hy
        by_cases hxy : x = y
        · have e1 : ((x : Int) != (y : Int)) = false := by simp [hxy]
          have HD2 : Hid (val (A.drop m) = val (B.drop m)) := by show _ = _; rw [val_drop_step, val_drop_step B, HD.out, ← HX.out, ← HY.out, hxy]
          clear hxy
          go_wp2_with (first | (go_at_call_of 83 (Value.slice a1 A.length cap1); refine (digit_ok _ A m _ (HP.out.keep HB.out) hn hmb).mono ?_; rintro e w' ⟨rfl, rfl⟩; rw [← HX.out]) | (go_at_call 83; refine (digit_ok _ B m _ (HQ.out.keep HB.out) hm hmb).mono ?_; rintro e w' ⟨rfl, rfl⟩; rw [← HY.out]))
          go_roundw
          case rel => exact ⟨m, by omega, rfl, HD2, HB⟩
          case measure => simp [intOf]
        · have e1 : ((x : Int) != (y : Int)) = true := by simp; omega
          have HR : Hid (lessB A B = decide (x < y)) := by show _ = _; rw [HX.out, HY.out]; exact less_at sA sB HD.out (by rw [← HX.out, ← HY.out]; exact hxy)
          clear hxy
          go_wp2_with (first | (go_at_call_of 83 (Value.slice a1 A.length cap1); refine (digit_ok _ A m _ (HP.out.keep HB.out) hn hmb).mono ?_; rintro e w' ⟨rfl, rfl⟩; rw [← HX.out]) | (go_at_call 83; refine (digit_ok _ B m _ (HQ.out.keep HB.out) hm hmb).mono ?_; rintro e w' ⟨rfl, rfl⟩; rw [← HY.out]))
          go_ret
          exact ⟨ret_bool (by rw [HR.out]), HB.out⟩
      · obtain rfl : k = 0 := by omega
        have em : ((0 : Nat) : Int) - 1 = -1 := rfl
        rw [em]; clear em
        have HR : Hid (lessB A B = false) := by
          show _ = _
          have := HD.out
          rw [List.drop_zero, List.drop_zero] at this
          rw [lessB, decide_eq_false_iff_not]; omega
        go_wp2_with fail
        go_ret
        exact ⟨ret_bool HR.out.symm, HB.out⟩

/-- append(own digits, nothing...). -/
theorem wpList_appendNil {ops : Array Oper} {rest : List Oper} {o : Oper} {a : Act} {Q : Exit → Act → World → Prop} (hgd : o.guard = none) (s x : Operand)
    (ho : o.op = .call { callee := .builtin .append, args := #[s, x], argTypes := #[30, 30] }) (w : World) (B : Nat) (v : Value) (l : Digs) (hs : a.eval s = v) (hown : OwnN w B v l) (c : Nat) (hx : a.eval x = .slice none 0 c)
    (h : wpList Try.prog ops Q rest (a.put o.dst v) w) : wpList Try.prog ops Q (o :: rest) a w := by
  refine wpList_plain hgd fun K hK => ?_
  obtain ⟨i0, hi, -, -, -⟩ := info_parts elemInt.info
  have hrun : (Builtin.append_ #[30, 30] o.type #[v, .slice none 0 c]).run Try.prog w = .ok v w := by
    rcases hown.2 with ⟨rfl, h0⟩ | ⟨g, cap, cur, rfl, _, _, hnc, _⟩
    · simp [Builtin.append_, run_underlying elemInt.under, sizeOf, typeInfo, hi, Builtin.lenOf, Builtin.firstCells]
    · simp [Builtin.append_, run_underlying elemInt.under, sizeOf, typeInfo, hi, Builtin.lenOf, Builtin.firstCells, hnc, storeCells]
  unfold Oper.wp execOp
  simp only [ho, resolve, invoke, builtin, Sem.run_bind, Sem.run_pure, Result.andThen_ok, List.map_toArray, List.map_cons, List.map_nil, hs, hx, hrun]
  exact hK _ _ h

theorem nil_of_none {w : World} {n c : Nat} {l : Digs} (h : RdN w (.slice none n c) l) : l = [] := by
  cases l with
  | nil => rfl
  | cons d r => obtain ⟨b, off, ha, -⟩ := h.at (k := 0) (by simp); cases ha

set_option maxHeartbeats 4000000 in
theorem refTrim_ok (a : Option Addr) (cap : Nat) (l : Digs) (w : World) (h : RdN w (.slice a l.length cap) l) (hs : small l) (hn : l.length ≤ 8796093022208) (hcp : l.length ≤ cap) :
    Calls Try.prog 82 #[.slice a l.length cap] w fun e w' => ∃ v', e = .returned v' ∧ OwnN w' w.heap.size v' (digs (val l)) ∧ Below w.heap.size w w' := by
  have h0 : OwnN (w.alloc (.cells #[] 3)) w.heap.size (.slice (some ⟨w.heap.size, 0, none⟩) 0 0) [] := World.ownsRow_lit w #[] 0 (Nat.le_refl _) (by unfold maxLen; omega) rfl
  have H0 := Lib.hid h0; clear h0
  have HB := Lib.hid ((Below.refl w.heap.size w).alloc (Nat.le_refl _) (.cells #[] 3))
  cases a with
  | none =>
    have hl := nil_of_none h
    subst hl
    clear h
    go_enter Try.func82, Try.ntmps82
    go_wp2_with fail
    go_loop [3] (fun i => i = .int .i64 0) (fun _ => 0)
    case atStart => rfl
    case round =>
      obtain rfl := hrel
      go_wp2_with (at_builtin; go_must (refine wpList_appendNil rfl _ _ rfl (w.alloc (.cells #[] 3)) w.heap.size (.slice (some ⟨w.heap.size, 0, none⟩) 0 0) [] rfl H0.out cap rfl ?_))
      go_ret
      exact ⟨_, rfl, H0.out, HB.out⟩
  | some ad =>
    have HR := Lib.hid h; clear h
    go_enter Try.func82, Try.ntmps82
    go_wp2_with fail
    go_loop [3] (fun i => ∃ k : Nat, k ≤ l.length ∧ i = .int .i64 k ∧ Hid (∀ j (h : j < l.length), k ≤ j → l[j] = 0)) (fun i => (intOf i).toNat)
    case atStart => exact ⟨l.length, Nat.le_refl _, rfl, fun j h hj => by omega⟩
    case round =>
      obtain ⟨k, hk, rfl, HZ⟩ := hrel
      by_cases h0 : 0 < k
      · have hk1 : k - 1 < l.length := by omega
        obtain ⟨b, off, ha, hb, hcell⟩ := HR.out.at hk1
        obtain ⟨d, hd⟩ : ∃ d, d = l[k - 1] := ⟨_, rfl⟩
        rw [← hd] at hcell
        obtain ⟨m, rfl⟩ : ∃ m, k = m + 1 := ⟨k - 1, by omega⟩
        rw [Nat.add_sub_cancel] at hcell
        have hd' : d = l[m] := hd
        have HD := Lib.hid hd'
        clear hd hd'
        have had : ad = ⟨b, off, none⟩ := by cases ha; rfl
        subst had
        clear ha
        by_cases hd0 : d = 0
        · have e1 : ((d : Int) == 0) = true := by rw [beq_iff_eq]; omega
          have H1 := Lib.hid hd0; clear hd0
          go_wp2_with fail
          go_round
          case rel => exact ⟨m, by omega, by go_num, fun j hj hjm => by
            rcases Nat.lt_or_ge m j with h' | h'
            · exact HZ.out j hj (by omega)
            · obtain rfl : j = m := by omega
              rw [← HD.out]; exact H1.out⟩
          case measure => simp [intOf]
        · have e1 : ((d : Int) == 0) = false := by rw [beq_eq_false_iff_ne]; omega
          have H1 := Lib.hid hd0; clear hd0
          have ht := Lib.hid (trim_take hs hk HZ.out (.inr ⟨by simpa using hk1, by simp only [Nat.add_sub_cancel]; rw [← HD.out]; exact H1.out⟩))
          go_wp2_with (at_builtin; go_must (refine wpList_appendN rfl _ _ rfl (w.alloc (.cells #[] 3)) w.heap.size (.slice (some ⟨w.heap.size, 0, none⟩) 0 0) [] rfl H0.out ⟨b, off, none⟩ (m + 1) cap (l.take (m + 1)) rfl (by rw [List.length_take]; omega) ((HR.out.keep HB.out).take hk) (by simp; omega) (by simp) ?_; intro v' w1 ho hg hb))
          go_ret
          exact ⟨v', rfl, by rw [← ht.out]; exact ho, HB.out.trans hb⟩
      · obtain rfl : k = 0 := by omega
        have ht := Lib.hid (trim_take hs hk HZ.out (.inl rfl))
        go_wp2_with (at_builtin; go_must (refine wpList_appendN rfl _ _ rfl (w.alloc (.cells #[] 3)) w.heap.size (.slice (some ⟨w.heap.size, 0, none⟩) 0 0) [] rfl H0.out ad 0 cap (l.take 0) rfl (by simp) ((HR.out.keep HB.out).take hk) (by simp) (by simp) ?_; intro v' w1 ho hg hb))
        go_ret
        exact ⟨v', rfl, by rw [← ht.out]; exact ho, HB.out.trans hb⟩
end Go.Proofs.Ytpjpkcelajbfnaa
namespace Go.Proofs.Ytpjpkcelajbfnaa
open Go.RowKit

theorem OwnN.sl {w : World} {B : Nat} {v : Value} {l : Digs} (h : OwnN w B v l) : ∃ a c, v = .slice a l.length c ∧ l.length ≤ c := by
  rcases h.shape with ⟨h1, h2⟩ | ⟨g, cap, h1, -, -, h3⟩
  · subst h2; exact ⟨none, 0, h1, Nat.le_refl _⟩
  · exact ⟨_, _, h1, h3⟩
theorem refTrim_own {w : World} {B : Nat} {v : Value} {l : Digs} (h : OwnN w B v l) (hs : small l) (hn : l.length ≤ 8796093022208) :
    Calls Try.prog 82 #[v] w fun e w' => ∃ v', e = .returned v' ∧ OwnN w' w.heap.size v' (digs (val l)) ∧ Below w.heap.size w w' := by
  obtain ⟨a, c, rfl, hc⟩ := h.sl
  exact refTrim_ok a c l w h.rd hs hn hc
theorem plus_step {v a b e x y cy m c : Nat} (h : v + e * cy = a + b) (h2 : m + 1048576 * c = x + y + cy) : v + e * m + e * 1048576 * c = (a + e * x) + (b + e * y) := by grind

set_option maxHeartbeats 4000000 in
theorem plus_ok (p q : Value) (A B : Digs) (w : World) (hp : RdN w p A) (hq : RdN w q B) (sA : small A) (sB : small B) (hn : A.length ≤ 1099511627776) (hm : B.length ≤ 1099511627776) :
    Calls Try.prog 74 #[p, q] w fun e w' => ∃ v, e = .returned v ∧ OwnN w' w.heap.size v (digs (val A + val B)) ∧ Below w.heap.size w w' := by
  have HP := Lib.hid hp
  have HQ := Lib.hid hq
  obtain ⟨a1, cap1, rfl⟩ := hp.shape
  obtain ⟨a2, cap2, rfl⟩ := hq.shape
  clear hp hq
  go_enter Try.func74, Try.ntmps74
  go_wp2_with fail
  go_slots
  go_loopw [5, 6, 7] (fun v c i wr => ∃ (k cy : Nat) (os : Digs), k ≤ A.length + B.length + 1 ∧ (k ≤ A.length ∨ k ≤ B.length ∨ cy = 0) ∧ cy ≤ 1 ∧ os.length = k ∧ c = .int .i64 cy ∧ i = .int .i64 k ∧ Hid (small os) ∧ Hid (val os + 1048576 ^ k * cy = val (A.take k) + val (B.take k)) ∧ Hid (OwnN wr w.heap.size v os) ∧ Hid (Below w.heap.size w wr)) (fun _ c i _ => 2 * (A.length + B.length - (intOf i).toNat) + (intOf c).toNat)
  case atStart => exact ⟨0, 0, [], by omega, .inr (.inr rfl), by omega, rfl, rfl, rfl, small_nil, by show _ = _; simp [val], ownN_nil _ _, Below.refl _ _⟩
  case round =>
    obtain ⟨k, cy, os, hk, hkc, hcy, hlo, rfl, rfl, HS, HE, HW, HB⟩ := hrel
    obtain ⟨x, hx⟩ : ∃ x, x = dg A k := ⟨_, rfl⟩
    obtain ⟨y, hy⟩ : ∃ y, y = dg B k := ⟨_, rfl⟩
    have hxs : x < 1048576 := by rw [hx]; exact dg_small sA k
    have hys : y < 1048576 := by rw [hy]; exact dg_small sB k
    have hkb : k ≤ 4398046511104 := by omega
    obtain ⟨m, hm1⟩ : ∃ m : Nat, m = (x + y + cy) % 1048576 := ⟨_, rfl⟩
    obtain ⟨c, hc1⟩ : ∃ c : Nat, c = (x + y + cy) / 1048576 := ⟨_, rfl⟩
    have hmod : ((x : Int) + y + cy) % 1048576 = (m : Int) := by omega
    have hdiv : ((x : Int) + y + cy) / 1048576 = (c : Int) := by omega
    have hms : m < 1048576 := by omega
    have hcs : c ≤ 1 := by omega
    have HE2 : Hid (val (os ++ [m]) + 1048576 ^ (k + 1) * c = val (A.take (k + 1)) + val (B.take (k + 1))) := by
      show _ = _
      rw [val_snoc, hlo, val_take_step, val_take_step, ← hx, ← hy, Nat.pow_succ]
      exact plus_step HE.out (by omega)
    have HX := Lib.hid hx
    have HY := Lib.hid hy
    have HLo := Lib.hid hlo
    have HA1 : Hid (OwnN (wr.alloc (.cells #[.int .i64 (m : Int)] 3)) w.heap.size u5 os) := HW.out.keep (below_alloc _ _)
    have HL1 : Hid (RdN (wr.alloc (.cells #[.int .i64 (m : Int)] 3)) (.slice (some ⟨wr.heap.size, 0, none⟩) 1 1) [m]) := (own_lit1 wr wr.heap.size m (Nat.le_refl _)).rd
    have hsz : w.heap.size ≤ wr.heap.size := HB.out.size
    have HC0 : Hid (A.length ≤ k → B.length ≤ k → c = 0) := by
      intro h1 h2
      rw [dg_ge h1] at hx
      rw [dg_ge h2] at hy
      omega
    have HM := Lib.hid hm1
    have HCc := Lib.hid hc1
    clear hx hy hm1 hc1

    by_cases h1 : k < A.length
    · have e1 : decide ((k : Int) < (A.length : Int)) = true := by rw [decide_eq_true_eq]; omega
      clear hlo
      go_wp2_with (first | (go_at_call_of 83 (Value.slice a1 A.length cap1); refine (digit_ok _ A k _ (HP.out.keep HB.out) hn hkb).mono ?_; rintro e w' ⟨rfl, rfl⟩; rw [← HX.out]) | (go_at_call 83; refine (digit_ok _ B k _ (HQ.out.keep HB.out) hm hkb).mono ?_; rintro e w' ⟨rfl, rfl⟩; rw [← HY.out]) | (at_builtin; go_must (refine wpList_appendN rfl _ _ rfl (wr.alloc (.cells #[.int .i64 (m : Int)] 3)) w.heap.size u5 os rfl HA1.out ⟨wr.heap.size, 0, none⟩ 1 1 [m] rfl rfl HL1.out (by have := HLo.out; simp; omega) (by simp; omega) ?_; intro v' w1 ho hg hb)))
      have HO2 := Lib.hid ho
      have HB2 : Hid (Below w.heap.size w w1) := (HB.out.alloc hsz _).trans hb
      clear ho hg hb
      go_roundw
      case rel => exact ⟨k + 1, c, os ++ [m], by omega, .inl (by omega), hcs, by rw [List.length_append, HLo.out]; rfl, by first | rfl | rw [hdiv], by go_num, small_append HS.out (small_one hms), HE2, HO2.out, HB2.out⟩
      case measure => simp [intOf]; omega
    · have e1 : decide ((k : Int) < (A.length : Int)) = false := by rw [decide_eq_false_iff_not]; omega
      by_cases h2 : k < B.length
      · have e2 : decide ((k : Int) < (B.length : Int)) = true := by rw [decide_eq_true_eq]; omega
        clear hlo
        go_wp2_with (first | (go_at_call_of 83 (Value.slice a1 A.length cap1); refine (digit_ok _ A k _ (HP.out.keep HB.out) hn hkb).mono ?_; rintro e w' ⟨rfl, rfl⟩; rw [← HX.out]) | (go_at_call 83; refine (digit_ok _ B k _ (HQ.out.keep HB.out) hm hkb).mono ?_; rintro e w' ⟨rfl, rfl⟩; rw [← HY.out]) | (at_builtin; go_must (refine wpList_appendN rfl _ _ rfl (wr.alloc (.cells #[.int .i64 (m : Int)] 3)) w.heap.size u5 os rfl HA1.out ⟨wr.heap.size, 0, none⟩ 1 1 [m] rfl rfl HL1.out (by have := HLo.out; simp; omega) (by simp; omega) ?_; intro v' w1 ho hg hb)))
        have HO2 := Lib.hid ho
        have HB2 : Hid (Below w.heap.size w w1) := (HB.out.alloc hsz _).trans hb
        clear ho hg hb
        go_roundw
        case rel => exact ⟨k + 1, c, os ++ [m], by omega, .inr (.inl (by omega)), hcs, by rw [List.length_append, HLo.out]; rfl, by first | rfl | rw [hdiv], by go_num, small_append HS.out (small_one hms), HE2, HO2.out, HB2.out⟩
        case measure => simp [intOf]; omega
      · have e2 : decide ((k : Int) < (B.length : Int)) = false := by rw [decide_eq_false_iff_not]; omega
        by_cases h3 : 0 < cy
        · have e3 : decide ((0 : Int) < (cy : Int)) = true := by rw [decide_eq_true_eq]; omega
          have e4 : decide (0 < cy) = true := by rw [decide_eq_true_eq]; omega
          clear hlo
          go_wp2_with (first | (go_at_call_of 83 (Value.slice a1 A.length cap1); refine (digit_ok _ A k _ (HP.out.keep HB.out) hn hkb).mono ?_; rintro e w' ⟨rfl, rfl⟩; rw [← HX.out]) | (go_at_call 83; refine (digit_ok _ B k _ (HQ.out.keep HB.out) hm hkb).mono ?_; rintro e w' ⟨rfl, rfl⟩; rw [← HY.out]) | (at_builtin; go_must (refine wpList_appendN rfl _ _ rfl (wr.alloc (.cells #[.int .i64 (m : Int)] 3)) w.heap.size u5 os rfl HA1.out ⟨wr.heap.size, 0, none⟩ 1 1 [m] rfl rfl HL1.out (by have := HLo.out; simp; omega) (by simp; omega) ?_; intro v' w1 ho hg hb)))
          have HO2 := Lib.hid ho
          have HB2 : Hid (Below w.heap.size w w1) := (HB.out.alloc hsz _).trans hb
          clear ho hg hb
          go_roundw
          case rel => exact ⟨k + 1, c, os ++ [m], by omega, .inr (.inr (HC0.out (by omega) (by omega))), hcs, by rw [List.length_append, HLo.out]; rfl, by first | rfl | rw [hdiv], by go_num, small_append HS.out (small_one hms), HE2, HO2.out, HB2.out⟩
          case measure => have := HC0.out (by omega) (by omega); simp [intOf]; omega
        · have e3 : decide ((0 : Int) < (cy : Int)) = false := by rw [decide_eq_false_iff_not]; omega
          have e4 : decide (0 < cy) = false := by rw [decide_eq_false_iff_not]; omega
          have HV : Hid (val os = val A + val B) := by
            show _ = _
            have h4 := HE.out
            obtain rfl : cy = 0 := by omega
            rw [val_take_all (by omega), val_take_all (l := B) (by omega), Nat.mul_zero, Nat.add_zero] at h4
            exact h4
          have HLn : Hid (os.length ≤ 8796093022208) := by show _ ≤ _; omega
          clear hlo
          go_wp2_with fail
          refine (refTrim_own HW.out HS.out HLn.out).mono ?_
          rintro e w2 ⟨v2, rfl, ho, hb⟩
          rw [HV.out] at ho
          have HO2 := Lib.hid (ho.mono HB.out.size)
          have HB2 : Hid (Below w.heap.size w w2) := HB.out.trans (hb.mono HB.out.size)
          clear ho hb
          go_wp2_with fail
          go_ret
          exact ⟨v2, rfl, HO2.out, HB2.out⟩

end Go.Proofs.Ytpjpkcelajbfnaa
namespace Go.Proofs.Ytpjpkcelajbfnaa
open Go.RowKit

theorem minus_step {p v q b bw x y m c : Nat} (h : p + b * bw = v + q) (hm : x + 1048576 * c = m + bw + y) : (p + b * x) + (b * 1048576) * c = (v + b * m) + (q + b * y) := by grind

set_option maxHeartbeats 4000000 in
theorem minus_ok (p q : Value) (A B : Digs) (w : World) (hp : RdN w p A) (hq : RdN w q B) (sA : small A) (sB : small B) (hle : val B ≤ val A) (hl : B.length ≤ A.length) (hn : A.length ≤ 1099511627776) :
    Calls Try.prog 75 #[p, q] w fun e w' => ∃ v, e = .returned v ∧ OwnN w' w.heap.size v (digs (val A - val B)) ∧ Below w.heap.size w w' := by
  have HP := Lib.hid hp
  have HQ := Lib.hid hq
  obtain ⟨a1, cap1, rfl⟩ := hp.shape
  obtain ⟨a2, cap2, rfl⟩ := hq.shape
  have hm : B.length ≤ 1099511627776 := by omega
  have HL := Lib.hid hl
  have HLE := Lib.hid hle
  clear hp hq hl hle
  go_enter Try.func75, Try.ntmps75
  go_wp2_with fail
  go_loopw [5, 6, 7] (fun v b i wr => ∃ (k bw : Nat) (os : Digs), k ≤ A.length ∧ bw ≤ 1 ∧ os.length = k ∧ b = .int .i64 bw ∧ i = .int .i64 k ∧ Hid (small os) ∧ Hid (val (A.take k) + 1048576 ^ k * bw = val os + val (B.take k)) ∧ Hid (OwnN wr w.heap.size v os) ∧ Hid (Below w.heap.size w wr)) (fun _ _ i _ => A.length - (intOf i).toNat)
  case atStart => exact ⟨0, 0, [], by omega, by omega, rfl, rfl, rfl, small_nil, by show _ = _; simp [val], ownN_nil _ _, Below.refl _ _⟩
  case round =>
    obtain ⟨k, bw, os, hk, hbw, hlo, rfl, rfl, HS, HE, HW, HB⟩ := hrel
    by_cases h1 : k < A.length
    · obtain ⟨b, off, rfl, hb, hcell⟩ := (HP.out.keep HB.out).at h1
      obtain ⟨x, hx⟩ : ∃ x, x = A[k] := ⟨_, rfl⟩
      rw [← hx] at hcell
      obtain ⟨y, hy⟩ : ∃ y, y = dg B k := ⟨_, rfl⟩
      have hxs : x < 1048576 := by rw [hx]; exact small_get sA k h1
      have hys : y < 1048576 := by rw [hy]; exact dg_small sB k
      have hkb : k ≤ 4398046511104 := by omega
      obtain ⟨m, hm1⟩ : ∃ m : Nat, (m : Int) = ((x : Int) - y - bw) % 1048576 := ⟨(((x : Int) - y - bw) % 1048576).toNat, by omega⟩
      obtain ⟨c, hc1⟩ : ∃ c : Nat, c = if (x : Int) - y - bw < 0 then 1 else 0 := ⟨_, rfl⟩
      have hsum : x + 1048576 * c = m + bw + y := by rw [hc1]; split <;> omega
      have hms : m < 1048576 := by omega
      have HE2 : Hid (val (A.take (k + 1)) + 1048576 ^ (k + 1) * c = val (os ++ [m]) + val (B.take (k + 1))) := by
        show _ = _
        rw [val_snoc, hlo, val_take_succ A k h1, val_take_step, ← hx, ← hy, Nat.pow_succ]
        exact minus_step HE.out hsum
      have HX := Lib.hid hx
      have HY := Lib.hid hy
      have HLo := Lib.hid hlo
      have hki : (k : Int) < (A.length : Int) := by omega
      clear hx hy hlo
      by_cases hneg : (x : Int) - y - bw < 0
      · have e1 : decide ((x : Int) - y - bw < 0) = true := by rw [decide_eq_true_eq]; exact hneg
        have HC1 : Hid (c = 1) := by show _ = _; rw [hc1, if_pos hneg]
        have hfin : (x : Int) - y - bw + 1048576 = (m : Int) := by omega
        have HX := Lib.hid hm1; clear hm1 hc1 hneg hsum
        have wn1 : IntKind.i64.wrap ((x : Int) - (y : Int)) = (x : Int) - (y : Int) := IntWalk.i64_in _ (by omega)
        have wn2 : IntKind.i64.wrap ((x : Int) - (y : Int) - (bw : Int)) = (x : Int) - (y : Int) - (bw : Int) := IntWalk.i64_in _ (by omega)
        go_wp2_with fail
        go_quiet ((go_at_call 83; refine quiet_same (v := .int .i64 (y : Int)) ?_; rw [HY.out]; exact digit_ok _ B k _ (HQ.out.keep (below_drewN HB.out _)) hm hkb))
        rename_i nq
        clear wn1 wn2
        have HA1 : Hid (OwnN ((wr.drewN nq).alloc (.cells #[.int .i64 (m : Int)] 3)) w.heap.size u5 os) := (ownN_drewN HW.out nq).keep (below_alloc _ _)
        have HL1 : Hid (RdN ((wr.drewN nq).alloc (.cells #[.int .i64 (m : Int)] 3)) (.slice (some ⟨(wr.drewN nq).heap.size, 0, none⟩) 1 1) [m]) := (own_lit1 (wr.drewN nq) (wr.drewN nq).heap.size m (Nat.le_refl _)).rd
        have hsz : w.heap.size ≤ wr.heap.size := HB.out.size
        go_wp2_with (at_builtin; go_must (refine wpList_appendN rfl _ _ rfl ((wr.drewN nq).alloc (.cells #[.int .i64 (m : Int)] 3)) w.heap.size u5 os rfl HA1.out ⟨(wr.drewN nq).heap.size, 0, none⟩ 1 1 [m] rfl rfl HL1.out (by have := HLo.out; simp; omega) (by simp; omega) ?_; intro v' w1 ho hg hb))
        have HO2 := Lib.hid ho
        have HB2 : Hid (Below w.heap.size w w1) := ((below_drewN HB.out nq).alloc hsz _).trans hb
        clear ho hg hb
        go_roundw
        case rel => exact ⟨k + 1, c, os ++ [m], by omega, by rw [HC1.out]; omega, by rw [List.length_append, HLo.out]; rfl, by rw [HC1.out]; rfl, by go_num, small_append HS.out (small_one hms), HE2, HO2.out, HB2.out⟩
        case measure => simp [intOf]; omega
      · have e1 : decide ((x : Int) - y - bw < 0) = false := by rw [decide_eq_false_iff_not]; exact hneg
        have HC1 : Hid (c = 0) := by show _ = _; rw [hc1, if_neg hneg]
        have hfin : (x : Int) - y - bw = (m : Int) := by omega
        have HX := Lib.hid hm1; clear hm1 hc1 hneg hsum
        have wn1 : IntKind.i64.wrap ((x : Int) - (y : Int)) = (x : Int) - (y : Int) := IntWalk.i64_in _ (by omega)
        have wn2 : IntKind.i64.wrap ((x : Int) - (y : Int) - (bw : Int)) = (x : Int) - (y : Int) - (bw : Int) := IntWalk.i64_in _ (by omega)
        go_wp2_with fail
        go_quiet ((go_at_call 83; refine quiet_same (v := .int .i64 (y : Int)) ?_; rw [HY.out]; exact digit_ok _ B k _ (HQ.out.keep (below_drewN HB.out _)) hm hkb))
        rename_i nq
        clear wn1 wn2
        have HA1 : Hid (OwnN ((wr.drewN nq).alloc (.cells #[.int .i64 (m : Int)] 3)) w.heap.size u5 os) := (ownN_drewN HW.out nq).keep (below_alloc _ _)
        have HL1 : Hid (RdN ((wr.drewN nq).alloc (.cells #[.int .i64 (m : Int)] 3)) (.slice (some ⟨(wr.drewN nq).heap.size, 0, none⟩) 1 1) [m]) := (own_lit1 (wr.drewN nq) (wr.drewN nq).heap.size m (Nat.le_refl _)).rd
        have hsz : w.heap.size ≤ wr.heap.size := HB.out.size
        go_wp2_with (at_builtin; go_must (refine wpList_appendN rfl _ _ rfl ((wr.drewN nq).alloc (.cells #[.int .i64 (m : Int)] 3)) w.heap.size u5 os rfl HA1.out ⟨(wr.drewN nq).heap.size, 0, none⟩ 1 1 [m] rfl rfl HL1.out (by have := HLo.out; simp; omega) (by simp; omega) ?_; intro v' w1 ho hg hb))
        have HO2 := Lib.hid ho
        have HB2 : Hid (Below w.heap.size w w1) := ((below_drewN HB.out nq).alloc hsz _).trans hb
        clear ho hg hb
        go_roundw
        case rel => exact ⟨k + 1, c, os ++ [m], by omega, by rw [HC1.out]; omega, by rw [List.length_append, HLo.out]; rfl, by rw [HC1.out]; rfl, by go_num, small_append HS.out (small_one hms), HE2, HO2.out, HB2.out⟩
        case measure => simp [intOf]; omega
    · obtain rfl : k = A.length := by omega
      have HV : Hid (val os = val A - val B) := by
        show _ = _
        have h4 := HE.out
        rw [List.take_of_length_le (Nat.le_refl _), val_take_all HL.out] at h4
        have h5 := val_lt HS.out
        rw [hlo] at h5
        exact sub_end h4 h5 HLE.out hbw
      have HLn : Hid (os.length ≤ 8796093022208) := by show _ ≤ _; omega
      clear hlo
      go_wp2_with fail
      refine (refTrim_own HW.out HS.out HLn.out).mono ?_
      rintro e w2 ⟨v2, rfl, ho, hb⟩
      rw [HV.out] at ho
      have HO2 := Lib.hid (ho.mono HB.out.size)
      have HB2 : Hid (Below w.heap.size w w2) := HB.out.trans (hb.mono HB.out.size)
      clear ho hb
      go_wp2_with fail
      go_ret
      exact ⟨v2, rfl, HO2.out, HB2.out⟩
end Go.Proofs.Ytpjpkcelajbfnaa
