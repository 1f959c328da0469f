/- The reference's Right of big integers, whatever they are. -/
import Derived.Test.YtlinegodpoihoaaGreatDoorBase
import Derived.Test.YtlinegodpoihoaaGreatDoorBigSpec
import Derived.Test.YtlinegodpoihoaaGreatDoorBigA
import Derived.Test.YtlinegodpoihoaaGreatDoorBigB
import Derived.Test.YtlinegodpoihoaaGreatDoorBigC
import Derived.Test.YtlinegodpoihoaaGreatDoorBigD
import Derived.Test.YtlinegodpoihoaaGreatDoorBigH
import Derived.Test.YtlinegodpoihoaaGreatDoorBigK
import Derived.Test.YtlinegodpoihoaaGreatDoorBigL
import Derived.Test.YtlinegodpoihoaaGreatDoorBigQ
import Derived.Test.YtlinegodpoihoaaGreatDoorProg
import Derived.WalkKit
import Derived.WalkSpells
import Derived.WalkLawsBesides
import Derived.Handy
import Derived.Lib.Hide
import Derived.Lib.Strings
import Derived.Lib.Builder
import Derived.BigQuiet
import Derived.OwnWalk
import Derived.Laws.BitsLemmas
import Derived.WalkSmall
import Derived.Deep.QuietTactic
import Derived.StillTailTactics
import Derived.Maps.AppendAt
import Derived.IntWalk
import Derived.Deep.RegionHeld3
import Derived.Deep.DeepFit
import Derived.Deep.LoopGhost
import Derived.Deep.DeepCutAuto
namespace Go.Proofs.YtlinegodpoihoaaGreatDoor
open Go.RowKit

def dg (l : Digs) (i : Nat) : Nat := l.getD i 0
theorem dg_lt {l : Digs} {i : Nat} (h : i < l.length) : dg l i = l[i] := by simp [dg, h]
theorem dg_ge {l : Digs} {i : Nat} (h : l.length ≤ i) : dg l i = 0 := by simp [dg, h]
theorem dg_small {l : Digs} (h : small l) (i : Nat) : dg l i < 1048576 := by
  rcases Nat.lt_or_ge i l.length with h' | h'
  · rw [dg_lt h']; exact small_get h i h'
  · rw [dg_ge h']; omega
theorem val_drop_step (l : Digs) (k : Nat) : val (l.drop k) = dg l k + 1048576 * val (l.drop (k + 1)) := by
  rcases Nat.lt_or_ge k l.length with h | h
  · rw [List.drop_eq_getElem_cons h, val, dg_lt h]
  · rw [List.drop_of_length_le h, List.drop_of_length_le (by omega), dg_ge h]; rfl
theorem val_take_step (l : Digs) (k : Nat) : val (l.take (k + 1)) = val (l.take k) + 1048576 ^ k * dg l k := by
  rcases Nat.lt_or_ge k l.length with h | h
  · rw [val_take_succ l k h, dg_lt h]
  · rw [val_take_all (by omega), val_take_all h, dg_ge h]; simp
theorem val_split' (l : Digs) (k : Nat) : val l = val (l.take k) + 1048576 ^ k * val (l.drop k) := by
  rcases Nat.lt_or_ge k l.length with h | h
  · exact val_split l k (by omega)
  · rw [val_take_all h, List.drop_of_length_le h]; simp [val]
theorem val_take_lt {l : Digs} (h : small l) (k : Nat) : val (l.take k) < 1048576 ^ k :=
 Nat.lt_of_lt_of_le (val_lt (small_take h k)) (Nat.pow_le_pow_right (by omega) (by rw [List.length_take]; omega))
theorem digit_ok (v : Value) (L : Digs) (i : Nat) (w : World) (h : RdN w v L) (_hn : L.length ≤ 1099511627776) (_hi : i ≤ 4398046511104) :
    Calls Tryz.prog 60 #[v, .int .i64 i] w fun e w' => e = .returned (.int .i64 (dg L i : Nat)) ∧ w = w' := by
  obtain ⟨a, cap, rfl⟩ := h.shape
  by_cases hlt : i < L.length
  · obtain ⟨b, off, rfl, hb, hcell⟩ := h.at hlt
    have HD := Lib.hid (dg_lt hlt)
    obtain ⟨d, hd⟩ : ∃ d, d = L[i] := ⟨_, rfl⟩
    rw [← hd] at hcell HD
    clear hd h
    go_enter Tryz.func60, Tryz.ntmps60
    go_wp2_with fail
    go_ret
    exact ⟨ret_int (by rw [HD.out]), rfl⟩
  · have HD := Lib.hid (dg_ge (l := L) (i := i) (by omega))
    clear h
    go_enter Tryz.func60, Tryz.ntmps60
    go_wp2_with fail
    go_ret
    exact ⟨ret_int (by rw [HD.out]; rfl), rfl⟩
def lessB (A B : Digs) : Bool := decide (val A < val B)
theorem less_at {A B : Digs} (sA : small A) (sB : small B) {k : Nat} (hd : val (A.drop (k + 1)) = val (B.drop (k + 1))) (hne : dg A k ≠ dg B k) : lessB A B = decide (dg A k < dg B k) := by
  have a1 := val_split' A k
  have b1 := val_split' B k
  rw [val_drop_step, hd] at a1
  rw [val_drop_step] at b1
  have a2 := val_take_lt sA k
  have b2 := val_take_lt sB k
  generalize val (B.drop (k + 1)) = t at *
  generalize 1048576 ^ k = e at *
  rw [lessB, decide_eq_decide]
  constructor
  · intro h
    rcases Nat.lt_or_ge (dg A k) (dg B k) with h' | h'
    · exact h'
    · exfalso
      have h3 := Nat.mul_le_mul_left e (show dg B k + 1 + 1048576 * t ≤ dg A k + 1048576 * t by omega)
      rw [show dg B k + 1 + 1048576 * t = (dg B k + 1048576 * t) + 1 by omega, Nat.mul_add] at h3
      omega
  · intro h
    have h3 := Nat.mul_le_mul_left e (show dg A k + 1 + 1048576 * t ≤ dg B k + 1048576 * t by omega)
    rw [show dg A k + 1 + 1048576 * t = (dg A k + 1048576 * t) + 1 by omega, Nat.mul_add] at h3
    omega
set_option maxRecDepth 100000 in
set_option maxHeartbeats 4000000 in
theorem less_ok (p q : Value) (A B : Digs) (w : World) (hp : RdN w p A) (hq : RdN w q B) (sA : small A) (sB : small B) (hn : A.length ≤ 1099511627776) (hm : B.length ≤ 1099511627776) :
    Calls Tryz.prog 41 #[p, q] w fun e w' => e = .returned (.bool (lessB A B)) ∧ Below w.heap.size w w' := by
  have HP := Lib.hid hp
  have HQ := Lib.hid hq
  obtain ⟨a1, cap1, rfl⟩ := hp.shape
  obtain ⟨a2, cap2, rfl⟩ := hq.shape
  clear hp hq
  by_cases hab : A.length < B.length
  · have HM1 : Hid (A.length ≤ B.length ∧ B.length ≤ B.length) := ⟨by omega, by omega⟩
    go_enter Tryz.func41, Tryz.ntmps41
    go_wp2_with fail
    go_loopw [5] (fun i wr => ∃ k : Nat, k ≤ B.length ∧ i = .int .i64 ((k : Int) - 1) ∧ Hid (val (A.drop k) = val (B.drop k)) ∧ Hid (Below w.heap.size w wr)) (fun i _ => (intOf i + 1).toNat)
    case atStart => exact ⟨B.length, Nat.le_refl _, rfl, by show _ = _; rw [List.drop_of_length_le HM1.out.1, List.drop_of_length_le HM1.out.2], Below.refl _ _⟩
    case round =>
      obtain ⟨k, hk, rfl, HD, HB⟩ := hrel
      by_cases h0 : 0 < k
      · obtain ⟨m, rfl⟩ : ∃ m, k = m + 1 := ⟨k - 1, by omega⟩
        have em : (((m + 1 : Nat) : Int) - 1) = (m : Int) := by omega
        rw [em]; clear em
        have hmb : m ≤ 4398046511104 := by omega
        obtain ⟨x, hx⟩ : ∃ x, x = dg A m := ⟨_, rfl⟩
        obtain ⟨y, hy⟩ : ∃ y, y = dg B m := ⟨_, rfl⟩
        have HX := Lib.hid hx
        have HY := Lib.hid hy
        clear hx hy
        by_cases hxy : x = y
        · have e1 : ((x : Int) != (y : Int)) = false := by simp [hxy]
          have HD2 : Hid (val (A.drop m) = val (B.drop m)) := by show _ = _; rw [val_drop_step, val_drop_step B, HD.out, ← HX.out, ← HY.out, hxy]
          clear hxy
          go_wp2_with (first | (go_at_call_of 60 (Value.slice a1 A.length cap1); refine (digit_ok _ A m _ (HP.out.keep HB.out) hn hmb).mono ?_; rintro e w' ⟨rfl, rfl⟩; rw [← HX.out]) | (go_at_call 60; refine (digit_ok _ B m _ (HQ.out.keep HB.out) hm hmb).mono ?_; rintro e w' ⟨rfl, rfl⟩; rw [← HY.out]))
          go_roundw
          case rel => exact ⟨m, by omega, rfl, HD2, HB⟩
          case measure => simp [intOf]
        · have e1 : ((x : Int) != (y : Int)) = true := by simp; omega
          have HR : Hid (lessB A B = decide (x < y)) := by show _ = _; rw [HX.out, HY.out]; exact less_at sA sB HD.out (by rw [← HX.out, ← HY.out]; exact hxy)
          clear hxy
          go_wp2_with (first | (go_at_call_of 60 (Value.slice a1 A.length cap1); refine (digit_ok _ A m _ (HP.out.keep HB.out) hn hmb).mono ?_; rintro e w' ⟨rfl, rfl⟩; rw [← HX.out]) | (go_at_call 60; refine (digit_ok _ B m _ (HQ.out.keep HB.out) hm hmb).mono ?_; rintro e w' ⟨rfl, rfl⟩; rw [← HY.out]))
          go_ret
          exact ⟨ret_bool (by rw [HR.out]), HB.out⟩
      · obtain rfl : k = 0 := by omega
        have em : ((0 : Nat) : Int) - 1 = -1 := rfl
        rw [em]; clear em
        have HR : Hid (lessB A B = false) := by
          show _ = _
          have := HD.out
          rw [List.drop_zero, List.drop_zero] at this
          rw [lessB, decide_eq_false_iff_not]; omega
        go_wp2_with fail
        go_ret
        exact ⟨ret_bool HR.out.symm, HB.out⟩
  · have HM1 : Hid (A.length ≤ A.length ∧ B.length ≤ A.length) := ⟨by omega, by omega⟩
    go_enter Tryz.func41, Tryz.ntmps41
    go_wp2_with fail
    go_loopw [5] (fun i wr => ∃ k : Nat, k ≤ A.length ∧ i = .int .i64 ((k : Int) - 1) ∧ Hid (val (A.drop k) = val (B.drop k)) ∧ Hid (Below w.heap.size w wr)) (fun i _ => (intOf i + 1).toNat)
    case atStart => exact ⟨A.length, Nat.le_refl _, rfl, by show _ = _; rw [List.drop_of_length_le HM1.out.1, List.drop_of_length_le HM1.out.2], Below.refl _ _⟩
    case round =>
      obtain ⟨k, hk, rfl, HD, HB⟩ := hrel
      by_cases h0 : 0 < k
      · obtain ⟨m, rfl⟩ : ∃ m, k = m + 1 := ⟨k - 1, by omega⟩
        have em : (((m + 1 : Nat) : Int) - 1) = (m : Int) := by omega
        rw [em]; clear em
        have hmb : m ≤ 4398046511104 := by omega
        obtain ⟨x, hx⟩ : ∃ x, x = dg A m := ⟨_, rfl⟩
        obtain ⟨y, hy⟩ : ∃ y, y = dg B m := ⟨_, rfl⟩
        have HX := Lib.hid hx
        have HY := Lib.hid hy
        clear hx hy
        by_cases hxy : x = y
        · have e1 : ((x : Int) != (y : Int)) = false := by simp [hxy]
          have HD2 : Hid (val (A.drop m) = val (B.drop m)) := by show _ = _; rw [val_drop_step, val_drop_step B, HD.out, ← HX.out, ← HY.out, hxy]
          clear hxy
          go_wp2_with (first | (go_at_call_of 60 (Value.slice a1 A.length cap1); refine (digit_ok _ A m _ (HP.out.keep HB.out) hn hmb).mono ?_; rintro e w' ⟨rfl, rfl⟩; rw [← HX.out]) | (go_at_call 60; refine (digit_ok _ B m _ (HQ.out.keep HB.out) hm hmb).mono ?_; rintro e w' ⟨rfl, rfl⟩; rw [← HY.out]))
          go_roundw
          case rel => exact ⟨m, by omega, rfl, HD2, HB⟩
          case measure => simp [intOf]
        · have e1 : ((x : Int) != (y : Int)) = true := by simp; omega
          have HR : Hid (lessB A B = decide (x < y)) := by show _ = _; rw [HX.out, HY.out]; exact less_at sA sB HD.out (by rw [← HX.out, ← HY.out]; exact hxy)
          clear hxy
          go_wp2_with (first | (go_at_call_of 60 (Value.slice a1 A.length cap1); refine (digit_ok _ A m _ (HP.out.keep HB.out) hn hmb).mono ?_; rintro e w' ⟨rfl, rfl⟩; rw [← HX.out]) | (go_at_call 60; refine (digit_ok _ B m _ (HQ.out.keep HB.out) hm hmb).mono ?_; rintro e w' ⟨rfl, rfl⟩; rw [← HY.out]))
          go_ret
          exact ⟨ret_bool (by rw [HR.out]), HB.out⟩
      · obtain rfl : k = 0 := by omega
        have em : ((0 : Nat) : Int) - 1 = -1 := rfl
        rw [em]; clear em
        have HR : Hid (lessB A B = false) := by
          show _ = _
          have := HD.out
          rw [List.drop_zero, List.drop_zero] at this
          rw [lessB, decide_eq_false_iff_not]; omega
        go_wp2_with fail
        go_ret
        exact ⟨ret_bool HR.out.symm, HB.out⟩
/-- append(own digits, nothing...). -/
theorem wpList_appendNil {ops : Array Oper} {rest : List Oper} {o : Oper} {a : Act} {Q : Exit → Act → World → Prop} (hgd : o.guard = none) (s x : Operand)
    (ho : o.op = .call { callee := .builtin .append, args := #[s, x], argTypes := #[22, 22] }) (w : World) (B : Nat) (v : Value) (l : Digs) (hs : a.eval s = v) (hown : OwnN w B v l) (c : Nat) (hx : a.eval x = .slice none 0 c)
    (h : wpList Tryz.prog ops Q rest (a.put o.dst v) w) : wpList Tryz.prog ops Q (o :: rest) a w := by
  refine wpList_plain hgd fun K hK => ?_
  obtain ⟨i0, hi, -, -, -⟩ := info_parts elemInt.info
  have hrun : (Builtin.append_ #[22, 22] o.type #[v, .slice none 0 c]).run Tryz.prog w = .ok v w := by
    rcases hown.2 with ⟨rfl, h0⟩ | ⟨g, cap, cur, rfl, _, _, hnc, _⟩
    · simp [Builtin.append_, run_underlying elemInt.under, sizeOf, typeInfo, hi, Builtin.lenOf, Builtin.firstCells]
    · simp [Builtin.append_, run_underlying elemInt.under, sizeOf, typeInfo, hi, Builtin.lenOf, Builtin.firstCells, hnc, storeCells]
  unfold Oper.wp execOp
  simp only [ho, resolve, invoke, builtin, Sem.run_bind, Sem.run_pure, Result.andThen_ok, List.map_toArray, List.map_cons, List.map_nil, hs, hx, hrun]
  exact hK _ _ h
theorem nil_of_none {w : World} {n c : Nat} {l : Digs} (h : RdN w (.slice none n c) l) : l = [] := by
 cases l with
 | nil => rfl
 | cons d r => obtain ⟨b, off, ha, -⟩ := h.at (k := 0) (by simp); cases ha
set_option maxRecDepth 100000 in
set_option maxHeartbeats 4000000 in
theorem refTrim_ok (a : Option Addr) (cap : Nat) (l : Digs) (w : World) (h : RdN w (.slice a l.length cap) l) (hs : small l) (hn : l.length ≤ 8796093022208) (hcp : l.length ≤ cap) :
    Calls Tryz.prog 50 #[.slice a l.length cap] w fun e w' => ∃ v', e = .returned v' ∧ OwnN w' w.heap.size v' (digs (val l)) ∧ Below w.heap.size w w' := by
  have h0 : OwnN (w.alloc (.cells #[] 3)) w.heap.size (.slice (some ⟨w.heap.size, 0, none⟩) 0 0) [] := World.ownsRow_lit w #[] 0 (Nat.le_refl _) (by unfold maxLen; omega) rfl
  have H0 := Lib.hid h0; clear h0
  have HB := Lib.hid ((Below.refl w.heap.size w).alloc (Nat.le_refl _) (.cells #[] 3))
  cases a with
  | none =>
    have hl := nil_of_none h
    subst hl
    clear h
    go_enter Tryz.func50, Tryz.ntmps50
    go_wp2_with fail
    go_loop [3] (fun i => i = .int .i64 0) (fun _ => 0)
    case atStart => rfl
    case round =>
      obtain rfl := hrel
      go_wp2_with (at_builtin; go_must (refine wpList_appendNil rfl _ _ rfl (w.alloc (.cells #[] 3)) w.heap.size (.slice (some ⟨w.heap.size, 0, none⟩) 0 0) [] rfl H0.out cap rfl ?_))
      go_ret
      exact ⟨_, rfl, H0.out, HB.out⟩
  | some ad =>
    have HR := Lib.hid h; clear h
    go_enter Tryz.func50, Tryz.ntmps50
    go_wp2_with fail
    go_loop [3] (fun i => ∃ k : Nat, k ≤ l.length ∧ i = .int .i64 k ∧ Hid (∀ j (h : j < l.length), k ≤ j → l[j] = 0)) (fun i => (intOf i).toNat)
    case atStart => exact ⟨l.length, Nat.le_refl _, rfl, fun j h hj => by omega⟩
    case round =>
      obtain ⟨k, hk, rfl, HZ⟩ := hrel
      by_cases h0 : 0 < k
      · have hk1 : k - 1 < l.length := by omega
        obtain ⟨b, off, ha, hb, hcell⟩ := HR.out.at hk1
        obtain ⟨d, hd⟩ : ∃ d, d = l[k - 1] := ⟨_, rfl⟩
        rw [← hd] at hcell
        obtain ⟨m, rfl⟩ : ∃ m, k = m + 1 := ⟨k - 1, by omega⟩
        rw [Nat.add_sub_cancel] at hcell
        have hd' : d = l[m] := hd
        have HD := Lib.hid hd'
        clear hd hd'
        have had : ad = ⟨b, off, none⟩ := by cases ha; rfl
        subst had
        clear ha
        by_cases hd0 : d = 0
        · have e1 : ((d : Int) == 0) = true := by rw [beq_iff_eq]; omega
          have H1 := Lib.hid hd0; clear hd0
          go_wp2_with fail
          go_round
          case rel => exact ⟨m, by omega, by go_num, fun j hj hjm => by
            rcases Nat.lt_or_ge m j with h' | h'
            · exact HZ.out j hj (by omega)
            · obtain rfl : j = m := by omega
              rw [← HD.out]; exact H1.out⟩
          case measure => simp [intOf]
        · have e1 : ((d : Int) == 0) = false := by rw [beq_eq_false_iff_ne]; omega
          have H1 := Lib.hid hd0; clear hd0
          have ht := Lib.hid (trim_take hs hk HZ.out (.inr ⟨by simpa using hk1, by simp only [Nat.add_sub_cancel]; rw [← HD.out]; exact H1.out⟩))
          go_wp2_with (at_builtin; go_must (refine wpList_appendN rfl _ _ rfl (w.alloc (.cells #[] 3)) w.heap.size (.slice (some ⟨w.heap.size, 0, none⟩) 0 0) [] rfl H0.out ⟨b, off, none⟩ (m + 1) cap (l.take (m + 1)) rfl (by rw [List.length_take]; omega) ((HR.out.keep HB.out).take hk) (by simp; omega) (by simp) ?_; intro v' w1 ho hg hb))
          go_ret
          exact ⟨v', rfl, by rw [← ht.out]; exact ho, HB.out.trans hb⟩
      · obtain rfl : k = 0 := by omega
        have ht := Lib.hid (trim_take hs hk HZ.out (.inl rfl))
        go_wp2_with (at_builtin; go_must (refine wpList_appendN rfl _ _ rfl (w.alloc (.cells #[] 3)) w.heap.size (.slice (some ⟨w.heap.size, 0, none⟩) 0 0) [] rfl H0.out ad 0 cap (l.take 0) rfl (by simp) ((HR.out.keep HB.out).take hk) (by simp) (by simp) ?_; intro v' w1 ho hg hb))
        go_ret
        exact ⟨v', rfl, by rw [← ht.out]; exact ho, HB.out.trans hb⟩
end Go.Proofs.YtlinegodpoihoaaGreatDoor
namespace Go.Proofs.YtlinegodpoihoaaGreatDoor
open Go.RowKit

theorem OwnN.sl {w : World} {B : Nat} {v : Value} {l : Digs} (h : OwnN w B v l) : ∃ a c, v = .slice a l.length c ∧ l.length ≤ c := by
  rcases h.shape with ⟨h1, h2⟩ | ⟨g, cap, h1, -, -, h3⟩
  · subst h2; exact ⟨none, 0, h1, Nat.le_refl _⟩
  · exact ⟨_, _, h1, h3⟩
theorem refTrim_own {w : World} {B : Nat} {v : Value} {l : Digs} (h : OwnN w B v l) (hs : small l) (hn : l.length ≤ 8796093022208) :
  Calls Tryz.prog 50 #[v] w fun e w' => ∃ v', e = .returned v' ∧ OwnN w' w.heap.size v' (digs (val l)) ∧ Below w.heap.size w w' := by
 obtain ⟨a, c, rfl, hc⟩ := h.sl
 exact refTrim_ok a c l w h.rd hs hn hc
theorem plus_step {v a b e x y cy m c : Nat} (h : v + e * cy = a + b) (h2 : m + 1048576 * c = x + y + cy) : v + e * m + e * 1048576 * c = (a + e * x) + (b + e * y) := by grind
set_option maxRecDepth 100000 in
set_option maxHeartbeats 4000000 in
theorem plus_ok (p q : Value) (A B : Digs) (w : World) (hp : RdN w p A) (hq : RdN w q B) (sA : small A) (sB : small B) (hn : A.length ≤ 1099511627776) (hm : B.length ≤ 1099511627776) :
    Calls Tryz.prog 40 #[p, q] w fun e w' => ∃ v, e = .returned v ∧ OwnN w' w.heap.size v (digs (val A + val B)) ∧ Below w.heap.size w w' := by
  have HP := Lib.hid hp
  have HQ := Lib.hid hq
  obtain ⟨a1, cap1, rfl⟩ := hp.shape
  obtain ⟨a2, cap2, rfl⟩ := hq.shape
  clear hp hq
  go_enter Tryz.func40, Tryz.ntmps40
  go_wp2_with fail
  go_slots
  go_loopw [5, 6, 7] (fun v c i wr => ∃ (k cy : Nat) (os : Digs), k ≤ A.length + B.length + 1 ∧ (k ≤ A.length ∨ k ≤ B.length ∨ cy = 0) ∧ cy ≤ 1 ∧ os.length = k ∧ c = .int .i64 cy ∧ i = .int .i64 k ∧ Hid (small os) ∧ Hid (val os + 1048576 ^ k * cy = val (A.take k) + val (B.take k)) ∧ Hid (OwnN wr w.heap.size v os) ∧ Hid (Below w.heap.size w wr)) (fun _ c i _ => 2 * (A.length + B.length - (intOf i).toNat) + (intOf c).toNat)
  case atStart => exact ⟨0, 0, [], by omega, .inr (.inr rfl), by omega, rfl, rfl, rfl, small_nil, by show _ = _; simp [val], ownN_nil _ _, Below.refl _ _⟩
  case round =>
    obtain ⟨k, cy, os, hk, hkc, hcy, hlo, rfl, rfl, HS, HE, HW, HB⟩ := hrel
    obtain ⟨x, hx⟩ : ∃ x, x = dg A k := ⟨_, rfl⟩
    obtain ⟨y, hy⟩ : ∃ y, y = dg B k := ⟨_, rfl⟩
    have hxs : x < 1048576 := by rw [hx]; exact dg_small sA k
    have hys : y < 1048576 := by rw [hy]; exact dg_small sB k
    have hkb : k ≤ 4398046511104 := by omega
    obtain ⟨m, hm1⟩ : ∃ m : Nat, m = (x + y + cy) % 1048576 := ⟨_, rfl⟩
    obtain ⟨c, hc1⟩ : ∃ c : Nat, c = (x + y + cy) / 1048576 := ⟨_, rfl⟩
    have hmod : ((x : Int) + y + cy) % 1048576 = (m : Int) := by omega
    have hdiv : ((x : Int) + y + cy) / 1048576 = (c : Int) := by omega
    have hms : m < 1048576 := by omega
    have hcs : c ≤ 1 := by omega
    have HE2 : Hid (val (os ++ [m]) + 1048576 ^ (k + 1) * c = val (A.take (k + 1)) + val (B.take (k + 1))) := by
      show _ = _
      rw [val_snoc, hlo, val_take_step, val_take_step, ← hx, ← hy, Nat.pow_succ]
      exact plus_step HE.out (by omega)
    have HX := Lib.hid hx
    have HY := Lib.hid hy
    have HLo := Lib.hid hlo
    have HA1 : Hid (OwnN (wr.alloc (.cells #[.int .i64 (m : Int)] 3)) w.heap.size u5 os) := HW.out.keep (below_alloc _ _)
    have HL1 : Hid (RdN (wr.alloc (.cells #[.int .i64 (m : Int)] 3)) (.slice (some ⟨wr.heap.size, 0, none⟩) 1 1) [m]) := (own_lit1 wr wr.heap.size m (Nat.le_refl _)).rd
    have hsz : w.heap.size ≤ wr.heap.size := HB.out.size
    have HC0 : Hid (A.length ≤ k → B.length ≤ k → c = 0) := by
      intro h1 h2
      rw [dg_ge h1] at hx
      rw [dg_ge h2] at hy
      omega
    have HM := Lib.hid hm1
    have HCc := Lib.hid hc1
    clear hx hy hm1 hc1

    by_cases h1 : k < A.length
    · have e1 : decide ((k : Int) < (A.length : Int)) = true := by rw [decide_eq_true_eq]; omega
      clear hlo
      go_wp2_with (first | (go_at_call_of 60 (Value.slice a1 A.length cap1); refine (digit_ok _ A k _ (HP.out.keep HB.out) hn hkb).mono ?_; rintro e w' ⟨rfl, rfl⟩; rw [← HX.out]) | (go_at_call 60; refine (digit_ok _ B k _ (HQ.out.keep HB.out) hm hkb).mono ?_; rintro e w' ⟨rfl, rfl⟩; rw [← HY.out]) | (at_builtin; go_must (refine wpList_appendN rfl _ _ rfl (wr.alloc (.cells #[.int .i64 (m : Int)] 3)) w.heap.size u5 os rfl HA1.out ⟨wr.heap.size, 0, none⟩ 1 1 [m] rfl rfl HL1.out (by have := HLo.out; simp; omega) (by simp; omega) ?_; intro v' w1 ho hg hb)))
      have HO2 := Lib.hid ho
      have HB2 : Hid (Below w.heap.size w w1) := (HB.out.alloc hsz _).trans hb
      clear ho hg hb
      go_roundw
      case rel => exact ⟨k + 1, c, os ++ [m], by omega, .inl (by omega), hcs, by rw [List.length_append, HLo.out]; rfl, by first | rfl | rw [hdiv], by go_num, small_append HS.out (small_one hms), HE2, HO2.out, HB2.out⟩
      case measure => simp [intOf]; omega
    · have e1 : decide ((k : Int) < (A.length : Int)) = false := by rw [decide_eq_false_iff_not]; omega
      by_cases h2 : k < B.length
      · have e2 : decide ((k : Int) < (B.length : Int)) = true := by rw [decide_eq_true_eq]; omega
        clear hlo
        go_wp2_with (first | (go_at_call_of 60 (Value.slice a1 A.length cap1); refine (digit_ok _ A k _ (HP.out.keep HB.out) hn hkb).mono ?_; rintro e w' ⟨rfl, rfl⟩; rw [← HX.out]) | (go_at_call 60; refine (digit_ok _ B k _ (HQ.out.keep HB.out) hm hkb).mono ?_; rintro e w' ⟨rfl, rfl⟩; rw [← HY.out]) | (at_builtin; go_must (refine wpList_appendN rfl _ _ rfl (wr.alloc (.cells #[.int .i64 (m : Int)] 3)) w.heap.size u5 os rfl HA1.out ⟨wr.heap.size, 0, none⟩ 1 1 [m] rfl rfl HL1.out (by have := HLo.out; simp; omega) (by simp; omega) ?_; intro v' w1 ho hg hb)))
        have HO2 := Lib.hid ho
        have HB2 : Hid (Below w.heap.size w w1) := (HB.out.alloc hsz _).trans hb
        clear ho hg hb
        go_roundw
        case rel => exact ⟨k + 1, c, os ++ [m], by omega, .inr (.inl (by omega)), hcs, by rw [List.length_append, HLo.out]; rfl, by first | rfl | rw [hdiv], by go_num, small_append HS.out (small_one hms), HE2, HO2.out, HB2.out⟩
        case measure => simp [intOf]; omega
      · have e2 : decide ((k : Int) < (B.length : Int)) = false := by rw [decide_eq_false_iff_not]; omega
        by_cases h3 : 0 < cy
        · have e3 : decide ((0 : Int) < (cy : Int)) = true := by rw [decide_eq_true_eq]; omega
          have e4 : decide (0 < cy) = true := by rw [decide_eq_true_eq]; omega
          clear hlo
          go_wp2_with (first | (go_at_call_of 60 (Value.slice a1 A.length cap1); refine (digit_ok _ A k _ (HP.out.keep HB.out) hn hkb).mono ?_; rintro e w' ⟨rfl, rfl⟩; rw [← HX.out]) | (go_at_call 60; refine (digit_ok _ B k _ (HQ.out.keep HB.out) hm hkb).mono ?_; rintro e w' ⟨rfl, rfl⟩; rw [← HY.out]) | (at_builtin; go_must (refine wpList_appendN rfl _ _ rfl (wr.alloc (.cells #[.int .i64 (m : Int)] 3)) w.heap.size u5 os rfl HA1.out ⟨wr.heap.size, 0, none⟩ 1 1 [m] rfl rfl HL1.out (by have := HLo.out; simp; omega) (by simp; omega) ?_; intro v' w1 ho hg hb)))
          have HO2 := Lib.hid ho
          have HB2 : Hid (Below w.heap.size w w1) := (HB.out.alloc hsz _).trans hb
          clear ho hg hb
          go_roundw
          case rel => exact ⟨k + 1, c, os ++ [m], by omega, .inr (.inr (HC0.out (by omega) (by omega))), hcs, by rw [List.length_append, HLo.out]; rfl, by first | rfl | rw [hdiv], by go_num, small_append HS.out (small_one hms), HE2, HO2.out, HB2.out⟩
          case measure => have := HC0.out (by omega) (by omega); simp [intOf]; omega
        · have e3 : decide ((0 : Int) < (cy : Int)) = false := by rw [decide_eq_false_iff_not]; omega
          have e4 : decide (0 < cy) = false := by rw [decide_eq_false_iff_not]; omega
          have HV : Hid (val os = val A + val B) := by
            show _ = _
            have h4 := HE.out
            obtain rfl : cy = 0 := by omega
            rw [val_take_all (by omega), val_take_all (l := B) (by omega), Nat.mul_zero, Nat.add_zero] at h4
            exact h4
          have HLn : Hid (os.length ≤ 8796093022208) := by show _ ≤ _; omega
          clear hlo
          go_wp2_with fail
          refine (refTrim_own HW.out HS.out HLn.out).mono ?_
          rintro e w2 ⟨v2, rfl, ho, hb⟩
          rw [HV.out] at ho
          have HO2 := Lib.hid (ho.mono HB.out.size)
          have HB2 : Hid (Below w.heap.size w w2) := HB.out.trans (hb.mono HB.out.size)
          clear ho hb
          go_wp2_with fail
          go_ret
          exact ⟨v2, rfl, HO2.out, HB2.out⟩
end Go.Proofs.YtlinegodpoihoaaGreatDoor
namespace Go.Proofs.YtlinegodpoihoaaGreatDoor
open Go.RowKit

theorem minus_step {p v q b bw x y m c : Nat} (h : p + b * bw = v + q) (hm : x + 1048576 * c = m + bw + y) : (p + b * x) + (b * 1048576) * c = (v + b * m) + (q + b * y) := by grind
set_option maxRecDepth 100000 in
set_option maxHeartbeats 4000000 in
theorem minus_ok (p q : Value) (A B : Digs) (w : World) (hp : RdN w p A) (hq : RdN w q B) (sA : small A) (sB : small B) (hle : val B ≤ val A) (hl : B.length ≤ A.length) (hn : A.length ≤ 1099511627776) :
    Calls Tryz.prog 42 #[p, q] w fun e w' => ∃ v, e = .returned v ∧ OwnN w' w.heap.size v (digs (val A - val B)) ∧ Below w.heap.size w w' := by
  have HP := Lib.hid hp
  have HQ := Lib.hid hq
  obtain ⟨a1, cap1, rfl⟩ := hp.shape
  obtain ⟨a2, cap2, rfl⟩ := hq.shape
  have hm : B.length ≤ 1099511627776 := by omega
  have HL := Lib.hid hl
  have HLE := Lib.hid hle
  clear hp hq hl hle
  go_enter Tryz.func42, Tryz.ntmps42
  go_wp2_with fail
  go_loopw [5, 6, 7] (fun v b i wr => ∃ (k bw : Nat) (os : Digs), k ≤ A.length ∧ bw ≤ 1 ∧ os.length = k ∧ b = .int .i64 bw ∧ i = .int .i64 k ∧ Hid (small os) ∧ Hid (val (A.take k) + 1048576 ^ k * bw = val os + val (B.take k)) ∧ Hid (OwnN wr w.heap.size v os) ∧ Hid (Below w.heap.size w wr)) (fun _ _ i _ => A.length - (intOf i).toNat)
  case atStart => exact ⟨0, 0, [], by omega, by omega, rfl, rfl, rfl, small_nil, by show _ = _; simp [val], ownN_nil _ _, Below.refl _ _⟩
  case round =>
    obtain ⟨k, bw, os, hk, hbw, hlo, rfl, rfl, HS, HE, HW, HB⟩ := hrel
    by_cases h1 : k < A.length
    · obtain ⟨b, off, rfl, hb, hcell⟩ := (HP.out.keep HB.out).at h1
      obtain ⟨x, hx⟩ : ∃ x, x = A[k] := ⟨_, rfl⟩
      rw [← hx] at hcell
      obtain ⟨y, hy⟩ : ∃ y, y = dg B k := ⟨_, rfl⟩
      have hxs : x < 1048576 := by rw [hx]; exact small_get sA k h1
      have hys : y < 1048576 := by rw [hy]; exact dg_small sB k
      have hkb : k ≤ 4398046511104 := by omega
      obtain ⟨m, hm1⟩ : ∃ m : Nat, (m : Int) = ((x : Int) - y - bw) % 1048576 := ⟨(((x : Int) - y - bw) % 1048576).toNat, by omega⟩
      obtain ⟨c, hc1⟩ : ∃ c : Nat, c = if (x : Int) - y - bw < 0 then 1 else 0 := ⟨_, rfl⟩
      have hsum : x + 1048576 * c = m + bw + y := by rw [hc1]; split <;> omega
      have hms : m < 1048576 := by omega
      have HE2 : Hid (val (A.take (k + 1)) + 1048576 ^ (k + 1) * c = val (os ++ [m]) + val (B.take (k + 1))) := by
        show _ = _
        rw [val_snoc, hlo, val_take_succ A k h1, val_take_step, ← hx, ← hy, Nat.pow_succ]
        exact minus_step HE.out hsum
      have HX := Lib.hid hx
      have HY := Lib.hid hy
      have HLo := Lib.hid hlo
      have hki : (k : Int) < (A.length : Int) := by omega
      clear hx hy hlo
      by_cases hneg : (x : Int) - y - bw < 0
      · have e1 : decide ((x : Int) - y - bw < 0) = true := by rw [decide_eq_true_eq]; exact hneg
        have HC1 : Hid (c = 1) := by show _ = _; rw [hc1, if_pos hneg]
        have hfin : (x : Int) - y - bw + 1048576 = (m : Int) := by omega
        have HX := Lib.hid hm1; clear hm1 hc1 hneg hsum
        have wn1 : IntKind.i64.wrap ((x : Int) - (y : Int)) = (x : Int) - (y : Int) := IntWalk.i64_in _ (by omega)
        have wn2 : IntKind.i64.wrap ((x : Int) - (y : Int) - (bw : Int)) = (x : Int) - (y : Int) - (bw : Int) := IntWalk.i64_in _ (by omega)
        go_wp2_with fail
        go_quiet ((go_at_call 60; refine quiet_same (v := .int .i64 (y : Int)) ?_; rw [HY.out]; exact digit_ok _ B k _ (HQ.out.keep (below_drewN HB.out _)) hm hkb))
        rename_i nq
        clear wn1 wn2
        have HA1 : Hid (OwnN ((wr.drewN nq).alloc (.cells #[.int .i64 (m : Int)] 3)) w.heap.size u5 os) := (ownN_drewN HW.out nq).keep (below_alloc _ _)
        have HL1 : Hid (RdN ((wr.drewN nq).alloc (.cells #[.int .i64 (m : Int)] 3)) (.slice (some ⟨(wr.drewN nq).heap.size, 0, none⟩) 1 1) [m]) := (own_lit1 (wr.drewN nq) (wr.drewN nq).heap.size m (Nat.le_refl _)).rd
        have hsz : w.heap.size ≤ wr.heap.size := HB.out.size
        go_wp2_with (at_builtin; go_must (refine wpList_appendN rfl _ _ rfl ((wr.drewN nq).alloc (.cells #[.int .i64 (m : Int)] 3)) w.heap.size u5 os rfl HA1.out ⟨(wr.drewN nq).heap.size, 0, none⟩ 1 1 [m] rfl rfl HL1.out (by have := HLo.out; simp; omega) (by simp; omega) ?_; intro v' w1 ho hg hb))
        have HO2 := Lib.hid ho
        have HB2 : Hid (Below w.heap.size w w1) := ((below_drewN HB.out nq).alloc hsz _).trans hb
        clear ho hg hb
        go_roundw
        case rel => exact ⟨k + 1, c, os ++ [m], by omega, by rw [HC1.out]; omega, by rw [List.length_append, HLo.out]; rfl, by rw [HC1.out]; rfl, by go_num, small_append HS.out (small_one hms), HE2, HO2.out, HB2.out⟩
        case measure => simp [intOf]; omega
      · have e1 : decide ((x : Int) - y - bw < 0) = false := by rw [decide_eq_false_iff_not]; exact hneg
        have HC1 : Hid (c = 0) := by show _ = _; rw [hc1, if_neg hneg]
        have hfin : (x : Int) - y - bw = (m : Int) := by omega
        have HX := Lib.hid hm1; clear hm1 hc1 hneg hsum
        have wn1 : IntKind.i64.wrap ((x : Int) - (y : Int)) = (x : Int) - (y : Int) := IntWalk.i64_in _ (by omega)
        have wn2 : IntKind.i64.wrap ((x : Int) - (y : Int) - (bw : Int)) = (x : Int) - (y : Int) - (bw : Int) := IntWalk.i64_in _ (by omega)
        go_wp2_with fail
        go_quiet ((go_at_call 60; refine quiet_same (v := .int .i64 (y : Int)) ?_; rw [HY.out]; exact digit_ok _ B k _ (HQ.out.keep (below_drewN HB.out _)) hm hkb))
        rename_i nq
        clear wn1 wn2
        have HA1 : Hid (OwnN ((wr.drewN nq).alloc (.cells #[.int .i64 (m : Int)] 3)) w.heap.size u5 os) := (ownN_drewN HW.out nq).keep (below_alloc _ _)
        have HL1 : Hid (RdN ((wr.drewN nq).alloc (.cells #[.int .i64 (m : Int)] 3)) (.slice (some ⟨(wr.drewN nq).heap.size, 0, none⟩) 1 1) [m]) := (own_lit1 (wr.drewN nq) (wr.drewN nq).heap.size m (Nat.le_refl _)).rd
        have hsz : w.heap.size ≤ wr.heap.size := HB.out.size
        go_wp2_with (at_builtin; go_must (refine wpList_appendN rfl _ _ rfl ((wr.drewN nq).alloc (.cells #[.int .i64 (m : Int)] 3)) w.heap.size u5 os rfl HA1.out ⟨(wr.drewN nq).heap.size, 0, none⟩ 1 1 [m] rfl rfl HL1.out (by have := HLo.out; simp; omega) (by simp; omega) ?_; intro v' w1 ho hg hb))
        have HO2 := Lib.hid ho
        have HB2 : Hid (Below w.heap.size w w1) := ((below_drewN HB.out nq).alloc hsz _).trans hb
        clear ho hg hb
        go_roundw
        case rel => exact ⟨k + 1, c, os ++ [m], by omega, by rw [HC1.out]; omega, by rw [List.length_append, HLo.out]; rfl, by rw [HC1.out]; rfl, by go_num, small_append HS.out (small_one hms), HE2, HO2.out, HB2.out⟩
        case measure => simp [intOf]; omega
    · obtain rfl : k = A.length := by omega
      have HV : Hid (val os = val A - val B) := by
        show _ = _
        have h4 := HE.out
        rw [List.take_of_length_le (Nat.le_refl _), val_take_all HL.out] at h4
        have h5 := val_lt HS.out
        rw [hlo] at h5
        exact sub_end h4 h5 HLE.out hbw
      have HLn : Hid (os.length ≤ 8796093022208) := by show _ ≤ _; omega
      clear hlo
      go_wp2_with fail
      refine (refTrim_own HW.out HS.out HLn.out).mono ?_
      rintro e w2 ⟨v2, rfl, ho, hb⟩
      rw [HV.out] at ho
      have HO2 := Lib.hid (ho.mono HB.out.size)
      have HB2 : Hid (Below w.heap.size w w2) := HB.out.trans (hb.mono HB.out.size)
      clear ho hb
      go_wp2_with fail
      go_ret
      exact ⟨v2, rfl, HO2.out, HB2.out⟩
end Go.Proofs.YtlinegodpoihoaaGreatDoor
namespace Go.Proofs.YtlinegodpoihoaaGreatDoor
open Go.RowKit

def flag (n : Int) : Nat := if n = 0 then 0 else 1
theorem flag_le (n : Int) : flag n ≤ 1 := by unfold flag; split <;> omega
theorem flag_pos {n : Int} (h : n ≠ 0) : flag n = 1 := by rw [flag, if_neg h]
set_option maxRecDepth 100000 in
set_option maxHeartbeats 8000000 in
theorem rtimes_ok (p q : Value) (P Q : Digs) (w : World) (hp : RdN w p P) (hq : RdN w q Q) (sp : small P) (sq : small Q) (hn : P.length ≤ 1099511627776) (hm : Q.length ≤ 1099511627776) :
    Calls Tryz.prog 44 #[p, q] w fun e w' => ∃ v, e = .returned v ∧ OwnN w' w.heap.size v (digs (val P * val Q)) ∧ Below w.heap.size w w' := by
  obtain ⟨a1, cap1, rfl⟩ := hp.shape
  obtain ⟨a2, cap2, rfl⟩ := hq.shape
  have HP := Lib.hid hp; clear hp
  have HQ := Lib.hid hq; clear hq
  go_enter Tryz.func44, Tryz.ntmps44
  go_wp2_with (at_make; go_must (refine wpList_mkints rfl _ _ rfl w w.heap.size (P.length + Q.length) _ _ rfl rfl (by simp) (by simp) (by omega) (Nat.le_refl _) ?_; intro w1 ho hb))
  have HO := Lib.hid ho; clear ho
  have HB0 := Lib.hid hb; clear hb
  go_loopw [6] (fun i wr => ∃ (k : Nat) (os : Digs), k ≤ P.length ∧ os.length = P.length + Q.length ∧ i = .int .i64 k ∧ Hid (small os) ∧ Hid (zerosFrom os (k + Q.length)) ∧ Hid (val os = val (P.take k) * val Q) ∧ Hid (OwnN wr w.heap.size (.slice (some ⟨w.heap.size, 0, none⟩) (P.length + Q.length) (P.length + Q.length)) os) ∧ Hid (Below w.heap.size w wr)) (fun i _ => P.length - (intOf i).toNat)
  case atStart => exact ⟨0, List.replicate (P.length + Q.length) 0, Nat.zero_le _, by simp, rfl, small_replicate _, by show zerosFrom _ _; intro j h _; simp, by show _ = _; rw [val_zeros (by simp)]; simp [val], HO, HB0⟩
  case round =>
    obtain ⟨k, os, hk, hlo, rfl, HSm, HZ, HE, HW, HB⟩ := hrel
    have HLo := Lib.hid hlo
    by_cases hlt : k < P.length
    · obtain ⟨x, hx⟩ : ∃ x, x = P[k] := ⟨_, rfl⟩
      have hxs : x < 1048576 := by rw [hx]; exact small_get sp k hlt
      have HX := Lib.hid hx
      clear hx hlo
      go_wp2_with fail
      obtain ⟨wo, rfl⟩ : ∃ wo : World, wo = wr := ⟨_, rfl⟩
      go_loopw [7, 8] (fun c i wr => ∃ (j cy : Nat) (ot : Digs), j ≤ Q.length + 1 ∧ (j ≤ Q.length ∨ cy = 0) ∧ cy < 1048576 ∧ ot.length = P.length + Q.length ∧ c = .int .i64 cy ∧ i = .int .i64 j ∧ Hid (small ot) ∧ Hid (j ≤ Q.length → zerosFrom ot (k + Q.length)) ∧ Hid (zerosFrom ot (k + 1 + Q.length)) ∧ Hid (val ot + 1048576 ^ (k + j) * cy = val os + 1048576 ^ k * (x * val (Q.take j))) ∧ Hid (OwnN wr w.heap.size (.slice (some ⟨w.heap.size, 0, none⟩) (P.length + Q.length) (P.length + Q.length)) ot) ∧ Hid (Below w.heap.size w wr)) (fun c i _ => 2 * (Q.length + 1 - (intOf i).toNat) + flag (intOf c))
      case atStart => exact ⟨0, 0, os, Nat.zero_le _, .inl (Nat.zero_le _), by omega, HLo.out, rfl, rfl, HSm, fun _ => HZ.out, zerosFrom_mono HZ.out (by omega), by show _ = _; simp [val], HW, HB⟩
      case round =>
        obtain ⟨j, cy, ot, hj, hjc, hcy, hlt2, rfl, rfl, HSm2, HZ2, HZ3, HE2, HW2, HB2⟩ := hrel
        have HLt := Lib.hid hlt2

        by_cases hjl : j < Q.length
        · have e1 : decide ((j : Int) < (Q.length : Int)) = true := by rw [decide_eq_true_eq]; omega
          obtain ⟨b1, off1, rfl, hb1, hcell⟩ := (HP.out.keep HB2.out).at hlt
          rw [← HX.out] at hcell
          obtain ⟨y, hy⟩ : ∃ y, y = dg Q j := ⟨_, rfl⟩
          have hys : y < 1048576 := by rw [hy]; exact dg_small sq j
          have hkj : k + j < ot.length := by omega
          have hold := HW2.out.cell hkj
          obtain ⟨o, ho⟩ : ∃ o, o = ot[k + j] := ⟨_, rfl⟩
          rw [← ho] at hold
          have hos : o < 1048576 := by rw [ho]; exact small_get HSm2.out _ hkj
          have hfr := HW2.out.live (k + j)
          obtain ⟨z, hz⟩ : ∃ z : Nat, z = x * y := ⟨_, rfl⟩
          have hzb : z ≤ 1099509530625 := by rw [hz]; exact Nat.mul_le_mul (show x ≤ 1048575 by omega) (show y ≤ 1048575 by omega)
          have hzi : ((x : Int) * (y : Int)) = (z : Int) := by rw [hz]; simp
          obtain ⟨m, hm1⟩ : ∃ m : Nat, m = (o + z + cy) % 1048576 := ⟨_, rfl⟩
          obtain ⟨c, hc1⟩ : ∃ c : Nat, c = (o + z + cy) / 1048576 := ⟨_, rfl⟩
          have hmod : ((o : Int) + z + cy) % 1048576 = (m : Int) := by omega
          have hdiv : ((o : Int) + z + cy) / 1048576 = (c : Int) := by omega
          have hsum : m + 1048576 * c = o + z + cy := by omega
          have hms : m < 1048576 := by omega
          have hcs : c < 1048576 := by omega
          have HE3 : Hid (val (ot.set (k + j) m) + 1048576 ^ (k + (j + 1)) * c = val os + 1048576 ^ k * (x * val (Q.take (j + 1)))) := by
            show _ = _
            rw [val_take_step Q j, ← hy]
            have h1 := val_set ot (k + j) m hkj
            rw [← ho] at h1
            exact mul_step h1 HE2.out hsum hz
          have HZ4 : Hid (zerosFrom (ot.set (k + j) m) (k + Q.length)) := zerosFrom_set (HZ2.out (by omega)) (by omega)
          have HY := Lib.hid hy
          obtain ⟨s, hs⟩ : ∃ s, s = k + j := ⟨_, rfl⟩
          rw [← hs] at hold hfr
          have his : (k : Int) + (j : Int) = (s : Int) := by omega
          have wis : IntKind.i64.wrap ((k : Int) + (j : Int)) = (s : Int) := by rw [his]; exact IntWalk.i64_in _ (by omega)
          have hsl : (s : Int) < (P.length : Int) + (Q.length : Int) := by omega
          have hsl2 : (s : Int) < ((P.length + Q.length : Nat) : Int) := by omega
          have hki : (k : Int) < (P.length : Int) := by omega
          have hjb : j ≤ 4398046511104 := by omega
          have wz : IntKind.i64.wrap (z : Int) = (z : Int) := IntWalk.i64_in _ (by omega)
          have wo1 : IntKind.i64.wrap ((o : Int) + (z : Int)) = (o : Int) + (z : Int) := IntWalk.i64_in _ (by omega)
          have wo2 : IntKind.i64.wrap ((o : Int) + (z : Int) + (cy : Int)) = (o : Int) + (z : Int) + (cy : Int) := IntWalk.i64_in _ (by omega)
          have HSS := Lib.hid hs
          clear hy ho hlt2 hz hm1 hc1 hs hsum hkj
          go_wp2_with fail
          go_quiet ((go_at_call 60; refine quiet_same (v := .int .i64 (y : Int)) ?_; rw [HY.out]; exact digit_ok _ Q j _ (HQ.out.keep (below_drewN HB2.out _)) hm hjb))
          clear wis wz wo1 wo2
          go_wp2_with fail
          rename_i nq
          have HE4 : Hid (val (ot.set s m) + 1048576 ^ (k + (j + 1)) * c = val os + 1048576 ^ k * (x * val (Q.take (j + 1)))) := by show _ = _; rw [HSS.out]; exact HE3.out
          have HZ5 : Hid (j + 1 ≤ Q.length → zerosFrom (ot.set s m) (k + Q.length)) := by intro h; rw [HSS.out]; exact HZ4.out
          have HZ6 : Hid (zerosFrom (ot.set s m) (k + 1 + Q.length)) := by rw [HSS.out]; exact zerosFrom_set HZ3.out (by omega)
          go_roundw
          case rel => exact ⟨j + 1, c, ot.set s m, by omega, .inl (by omega), hcs, by rw [List.length_set]; exact HLt.out, by first | rfl | rw [hdiv], by go_num, small_set HSm2.out hms, HZ5, HZ6, HE4, (ownN_drewN HW2.out nq).set s m, (below_drewN HB2.out nq).setCell (Nat.le_refl _) _⟩
          case measure => rw [hdiv]; show 2 * (Q.length + 1 - ((j : Int) + 1).toNat) + flag (c : Int) < 2 * (Q.length + 1 - (j : Int).toNat) + flag (cy : Int); have := flag_le (c : Int); omega
        · have e1 : decide ((j : Int) < (Q.length : Int)) = false := by rw [decide_eq_false_iff_not]; omega
          by_cases hc0 : 0 < cy
          · have e2 : decide ((0 : Int) < (cy : Int)) = true := by rw [decide_eq_true_eq]; omega
            have e3 : decide (0 < cy) = true := by rw [decide_eq_true_eq]; omega
            obtain ⟨b1, off1, rfl, hb1, hcell⟩ := (HP.out.keep HB2.out).at hlt
            rw [← HX.out] at hcell
            obtain ⟨y, hy⟩ : ∃ y, y = dg Q j := ⟨_, rfl⟩
            have hys : y < 1048576 := by rw [hy]; exact dg_small sq j
            have hkj : k + j < ot.length := by omega
            have hold := HW2.out.cell hkj
            obtain ⟨o, ho⟩ : ∃ o, o = ot[k + j] := ⟨_, rfl⟩
            rw [← ho] at hold
            have hos : o < 1048576 := by rw [ho]; exact small_get HSm2.out _ hkj
            have hfr := HW2.out.live (k + j)
            obtain ⟨z, hz⟩ : ∃ z : Nat, z = x * y := ⟨_, rfl⟩
            have hzb : z ≤ 1099509530625 := by rw [hz]; exact Nat.mul_le_mul (show x ≤ 1048575 by omega) (show y ≤ 1048575 by omega)
            have hzi : ((x : Int) * (y : Int)) = (z : Int) := by rw [hz]; simp
            obtain ⟨m, hm1⟩ : ∃ m : Nat, m = (o + z + cy) % 1048576 := ⟨_, rfl⟩
            obtain ⟨c, hc1⟩ : ∃ c : Nat, c = (o + z + cy) / 1048576 := ⟨_, rfl⟩
            have hmod : ((o : Int) + z + cy) % 1048576 = (m : Int) := by omega
            have hdiv : ((o : Int) + z + cy) / 1048576 = (c : Int) := by omega
            have hsum : m + 1048576 * c = o + z + cy := by omega
            have hms : m < 1048576 := by omega
            have hcs : c < 1048576 := by omega
            have HE3 : Hid (val (ot.set (k + j) m) + 1048576 ^ (k + (j + 1)) * c = val os + 1048576 ^ k * (x * val (Q.take (j + 1)))) := by
              show _ = _
              rw [val_take_step Q j, ← hy]
              have h1 := val_set ot (k + j) m hkj
              rw [← ho] at h1
              exact mul_step h1 HE2.out hsum hz
            have hc00 : c = 0 := by (have h1 := dg_ge (l := Q) (i := j) (by omega); have h2 := HZ2.out (by omega) (k + j) hkj (by omega); rw [← hy] at h1; rw [← ho] at h2; rw [h1, Nat.mul_zero] at hz; omega)
            have HY := Lib.hid hy
            obtain ⟨s, hs⟩ : ∃ s, s = k + j := ⟨_, rfl⟩
            rw [← hs] at hold hfr
            have his : (k : Int) + (j : Int) = (s : Int) := by omega
            have wis : IntKind.i64.wrap ((k : Int) + (j : Int)) = (s : Int) := by rw [his]; exact IntWalk.i64_in _ (by omega)
            have hsl : (s : Int) < (P.length : Int) + (Q.length : Int) := by omega
            have hsl2 : (s : Int) < ((P.length + Q.length : Nat) : Int) := by omega
            have hki : (k : Int) < (P.length : Int) := by omega
            have hjb : j ≤ 4398046511104 := by omega
            have wz : IntKind.i64.wrap (z : Int) = (z : Int) := IntWalk.i64_in _ (by omega)
            have wo1 : IntKind.i64.wrap ((o : Int) + (z : Int)) = (o : Int) + (z : Int) := IntWalk.i64_in _ (by omega)
            have wo2 : IntKind.i64.wrap ((o : Int) + (z : Int) + (cy : Int)) = (o : Int) + (z : Int) + (cy : Int) := IntWalk.i64_in _ (by omega)
            have HSS := Lib.hid hs
            clear hy ho hlt2 hz hm1 hc1 hs hsum hkj
            go_wp2_with fail
            go_quiet ((go_at_call 60; refine quiet_same (v := .int .i64 (y : Int)) ?_; rw [HY.out]; exact digit_ok _ Q j _ (HQ.out.keep (below_drewN HB2.out _)) hm hjb))
            clear wis wz wo1 wo2
            go_wp2_with fail
            rename_i nq
            have HE4 : Hid (val (ot.set s m) + 1048576 ^ (k + (j + 1)) * c = val os + 1048576 ^ k * (x * val (Q.take (j + 1)))) := by show _ = _; rw [HSS.out]; exact HE3.out
            have HZ5 : Hid (j + 1 ≤ Q.length → zerosFrom (ot.set s m) (k + Q.length)) := by intro h; rw [HSS.out]; omega
            have HZ6 : Hid (zerosFrom (ot.set s m) (k + 1 + Q.length)) := by rw [HSS.out]; exact zerosFrom_set HZ3.out (by omega)
            go_roundw
            case rel => exact ⟨j + 1, c, ot.set s m, by omega, .inr hc00, hcs, by rw [List.length_set]; exact HLt.out, by first | rfl | rw [hdiv], by go_num, small_set HSm2.out hms, HZ5, HZ6, HE4, (ownN_drewN HW2.out nq).set s m, (below_drewN HB2.out nq).setCell (Nat.le_refl _) _⟩
            case measure => rw [hdiv]; show 2 * (Q.length + 1 - ((j : Int) + 1).toNat) + flag (c : Int) < 2 * (Q.length + 1 - (j : Int).toNat) + flag (cy : Int); rw [hc00, show flag ((0 : Nat) : Int) = 0 from rfl, flag_pos (show (cy : Int) ≠ 0 by omega)]; omega
          · have e2 : decide ((0 : Int) < (cy : Int)) = false := by rw [decide_eq_false_iff_not]; omega
            have e3 : decide (0 < cy) = false := by rw [decide_eq_false_iff_not]; omega
            have HE5 : Hid (val ot = val (P.take (k + 1)) * val Q) := by
              show _ = _
              have h1 := HE2.out
              obtain rfl : cy = 0 := by omega
              rw [Nat.mul_zero, Nat.add_zero, val_take_all (l := Q) (by omega)] at h1
              rw [h1, HE.out, val_take_succ P k hlt, ← HX.out, Nat.add_mul, Nat.mul_assoc]
            clear hlt2
            go_wp2_with fail
            go_roundw
            case rel => exact ⟨k + 1, ot, by omega, HLt.out, by go_num, HSm2, HZ3, HE5, HW2, HB2⟩
            case measure => simp [intOf]; omega
    · obtain rfl : k = P.length := by omega
      have HV : Hid (val os = val P * val Q) := by show _ = _; rw [HE.out, List.take_of_length_le (Nat.le_refl _)]
      have HLn : Hid (os.length ≤ 8796093022208) := by show _ ≤ _; omega
      clear hlo hlt
      go_wp2_with fail
      refine (refTrim_own HW.out HSm.out HLn.out).mono ?_
      rintro e w2 ⟨v2, rfl, ho, hb⟩
      rw [HV.out] at ho
      have HO2 := Lib.hid (ho.mono HB.out.size)
      have HB2 : Hid (Below w.heap.size w w2) := HB.out.trans (hb.mono HB.out.size)
      clear ho hb
      go_wp2_with fail
      go_ret
      exact ⟨v2, rfl, HO2.out, HB2.out⟩
end Go.Proofs.YtlinegodpoihoaaGreatDoor
namespace Go.Proofs.YtlinegodpoihoaaGreatDoor
open Go.RowKit

theorem wpList_appendAny {ops : Array Oper} {rest : List Oper} {o : Oper} {a : Act} {Q : Exit → Act → World → Prop} (hgd : o.guard = none) (s x : Operand)
    (ho : o.op = .call { callee := .builtin .append, args := #[s, x], argTypes := #[22, 22] }) (w : World) (B : Nat) (v : Value) (l : Digs) (hs : a.eval s = v) (hown : OwnN w B v l)
    (sv : Value) (k : Digs) (hx : a.eval x = sv) (hk : RdN w sv k) (hn : l.length + k.length ≤ 17592186044416) (hB : B ≤ w.heap.size)
    (h : ∀ v' w', OwnN w' B v' (l ++ k) → Below B w w' → wpList Tryz.prog ops Q rest (a.put o.dst v') w') :
    wpList Tryz.prog ops Q (o :: rest) a w := by
  obtain ⟨A, c, rfl⟩ := hk.shape
  cases A with
  | none =>
    have := nil_of_none hk
    subst this
    refine wpList_appendNil hgd s x ho w B v l hs hown c hx (h v w (by rw [List.append_nil]; exact hown) (Below.refl _ _))
  | some ad => exact wpList_appendN hgd s x ho w B v l hs hown ad k.length c k hx rfl hk hn hB (fun v' w' h1 _ h3 => h v' w' h1 h3)
theorem OwnN.away {w w' : World} {B g : Nat} {v : Value} {l : Digs} (h : OwnN w B v l) (hg : w.grownBy w' (some g)) (hlt : g < B) : OwnN w' B v l := by
  rcases h.shape with ⟨rfl, rfl⟩ | ⟨gv, cap, rfl, hge, -, -⟩
  · exact ownN_nil _ _
  · exact h.far hg (by omega)
theorem OwnN.blw {w w' : World} {B n cap : Nat} {l : Digs} {g B' : Nat} (h : OwnN w B (.slice (some ⟨g, 0, none⟩) n cap) l) (hb : Below B' w w') (hg : g < B' := by omega) : OwnN w' B (.slice (some ⟨g, 0, none⟩) n cap) l := by
  refine ⟨h.1, ?_⟩
  rcases h.2 with h2 | ⟨g', cap', cur, hv, hg', hh, r⟩
  · exact .inl h2
  · have : g' = g := by simp only [Value.slice.injEq, Option.some.injEq, Addr.mk.injEq, and_true] at hv; exact hv.1.symm
    subst this
    exact .inr ⟨g', cap', cur, hv, hg', by rw [hb.block g' hg]; exact hh, r⟩
/-- Where the reference's division stands. -/
structure OverAt (P : Digs) (b : Nat) (qs : Digs) (R k : Nat) : Prop where
 sq : small qs
 len : qs.length = P.length
 sum : val (P.drop k) = val (qs.drop k) * b + R
 lt : R < b
theorem over_start {P : Digs} {b : Nat} (h : 0 < b) : OverAt P b (List.replicate P.length 0) 0 P.length :=
 ⟨small_replicate _, by simp, by rw [List.drop_of_length_le (Nat.le_refl _), List.drop_of_length_le (by simp)]; simp [val], h⟩
theorem over_sum {x B R S b lo v : Nat} (h : v = S * b + R) (h1 : lo * b ≤ x + B * R) : x + B * v = (lo + B * S) * b + (x + B * R - lo * b) := by
 subst h
 have e1 : x + B * (S * b + R) = (x + B * R) + B * S * b := by grind
 have e2 : (lo + B * S) * b = lo * b + B * S * b := by grind
 omega
theorem over_next {P qs : Digs} {b R m lo : Nat} (h : OverAt P b qs R (m + 1)) (hm : m < P.length) (hl : lo < 1048576) (h1 : lo * b ≤ P[m] + 1048576 * R) (h2 : P[m] + 1048576 * R < lo * b + b) :
  OverAt P b (qs.set m lo) (P[m] + 1048576 * R - lo * b) m := by
 have hmq : m < qs.length := by rw [h.len]; exact hm
 refine ⟨small_set h.sq hl, by rw [List.length_set]; exact h.len, ?_, by omega⟩
 rw [List.drop_eq_getElem_cons hm, val, List.drop_eq_getElem_cons (l := qs.set m lo) (by rw [List.length_set]; exact hmq), List.getElem_set_self, drop_set_succ, val]
 exact over_sum h.sum h1
theorem over_end {P qs : Digs} {b R : Nat} (h : OverAt P b qs R 0) : val qs = val P / b ∧ R = val P % b := by
 have h1 := h.sum
 have h2 := h.lt
 rw [List.drop_zero, List.drop_zero] at h1
 rw [h1, Nat.mul_comm]
 exact ⟨by rw [Nat.mul_add_div (by omega), Nat.div_eq_of_lt h2, Nat.add_zero], by rw [Nat.mul_add_mod, Nat.mod_eq_of_lt h2]⟩
set_option maxRecDepth 100000 in
set_option maxHeartbeats 8000000 in
theorem over_ok (p q : Value) (P : Digs) (b : Nat) (w : World) (hp : RdN w p P) (hq : RdN w q (digs b)) (sP : small P) (hb0 : 0 < b) (hn : P.length ≤ 549755813888) (hm : (digs b).length ≤ 549755813888) :
    Calls Tryz.prog 46 #[p, q] w fun e w' => ∃ v r, e = .returned (.tuple #[v, r]) ∧ OwnN w' w.heap.size v (digs (val P / b)) ∧ OwnN w' w.heap.size r (digs (val P % b)) ∧ Below w.heap.size w w' := by
  obtain ⟨a1, cap1, rfl⟩ := hp.shape
  have HP := Lib.hid hp; clear hp
  have HQ := Lib.hid hq; clear hq
  go_enter Tryz.func46, Tryz.ntmps46
  go_wp2_with (at_make; go_must (refine wpList_mkints rfl _ _ rfl w w.heap.size P.length _ _ rfl rfl (by simp) (by simp) (by omega) (Nat.le_refl _) ?_; intro w1 ho hb))
  have HO := Lib.hid ho
  have HB0 := Lib.hid hb
  have hlt1 : w.heap.size + 1 ≤ w1.heap.size := by
    rcases ho.shape with ⟨h1, -⟩ | ⟨g, cap, h1, -, h2, -⟩
    · cases h1
    · simp only [Value.slice.injEq, Option.some.injEq, Addr.mk.injEq, and_true] at h1
      rw [h1.1]; exact h2
  clear ho hb
  go_loopw [7, 8] (fun rv i wr => ∃ (k R : Nat) (qs : Digs), k ≤ P.length ∧ i = .int .i64 ((k : Int) - 1) ∧ Hid (OverAt P b qs R k) ∧ Hid (OwnN wr (w.heap.size + 1) rv (digs R)) ∧ Hid (OwnN wr w.heap.size (.slice (some ⟨w.heap.size, 0, none⟩) P.length P.length) qs) ∧ Hid (Below w.heap.size w wr) ∧ w.heap.size + 1 ≤ wr.heap.size) (fun _ i _ => (intOf i + 1).toNat)
  case atStart => exact ⟨P.length, 0, List.replicate P.length 0, Nat.le_refl _, rfl, over_start hb0, ownN_nil _ _, HO, HB0, hlt1⟩
  case round =>
    obtain ⟨k, R, qs, hk, rfl, HV, HR, HW, HB, hsz⟩ := hrel
    by_cases h0 : 0 < k
    · obtain ⟨m, rfl⟩ : ∃ m, k = m + 1 := ⟨k - 1, by omega⟩
      have em : (((m + 1 : Nat) : Int) - 1) = (m : Int) := by omega
      rw [em]; clear em
      have hm1 : m < P.length := by omega
      obtain ⟨b1, off1, rfl, hb1, hcell⟩ := (HP.out.keep HB.out).at hm1
      obtain ⟨x, hx⟩ : ∃ x, x = P[m] := ⟨_, rfl⟩
      rw [← hx] at hcell
      have hxs : x < 1048576 := by rw [hx]; exact small_get sP m hm1
      have HRb : Hid ((digs R).length ≤ 549755813888) := Nat.le_trans (digs_len_mono (Nat.le_of_lt HV.out.lt)) hm
      have HN : Hid (∀ lo, lo < 1048576 → lo * b ≤ x + 1048576 * R → x + 1048576 * R < lo * b + b → OverAt P b (qs.set m lo) (x + 1048576 * R - lo * b) m) := by
        intro lo h1 h2 h3
        rw [hx] at h2 h3 ⊢
        exact over_next HV.out hm1 h1 h2 h3
      have HTop : Hid (x + 1048576 * R < 1048576 * b) := by show _ < _; have := HV.out.lt; omega
      obtain ⟨T, hT⟩ : ∃ T, T = x + 1048576 * R := ⟨_, rfl⟩
      rw [← hT] at HN HTop
      have HTT := Lib.hid hT
      have HA1 : Hid (OwnN (wr.alloc (.cells #[.int .i64 (x : Int)] 3)) (w.heap.size + 1) (.slice (some ⟨wr.heap.size, 0, none⟩) 1 1) [x]) := own_lit1 wr _ x hsz
      have HA2 : Hid (RdN (wr.alloc (.cells #[.int .i64 (x : Int)] 3)) u7 (digs R)) := (HR.out.keep (below_alloc _ _)).rd
      have HTb : Hid ((digs T).length ≤ 1099511627776) := by
        show _ ≤ _
        have h1 := digs_len_mono (Nat.le_of_lt HTop.out)
        have h2 := digs_len_mul b 1048576
        have h3 : (digs 1048576).length = 2 := by decide
        rw [Nat.mul_comm] at h1
        omega
      clear hx hT
      go_wp2_with (at_builtin; go_must (refine wpList_appendAny rfl _ _ rfl (wr.alloc (.cells #[.int .i64 (x : Int)] 3)) (w.heap.size + 1) (.slice (some ⟨wr.heap.size, 0, none⟩) 1 1) [x] rfl HA1.out u7 (digs R) rfl HA2.out (by have := HRb.out; simp; omega) (by simp; omega) ?_; intro v' w2 ho hb))
      have HB2 : Hid (Below w.heap.size w w2) := (HB.out.alloc HB.out.size _).trans (hb.mono (by omega))
      have hsz2 : w.heap.size + 1 ≤ w2.heap.size := by have := hb.size; simp at this; omega
      have HW2 : Hid (OwnN w2 w.heap.size (.slice (some ⟨w.heap.size, 0, none⟩) P.length P.length) qs) := (HW.out.keep (below_alloc _ _)).blw hb
      have HO2 := Lib.hid ho
      clear ho hb
      go_wp2_with fail
      refine (refTrim_own HO2.out (small_append (small_one hxs) (digs_small _)) (by have := HRb.out; simp; omega)).mono ?_
      rintro e w3 ⟨v3, rfl, ho, hb⟩
      have hv3 : val ([x] ++ digs R) = T := by rw [HTT.out]; simp [val, val_digs]
      rw [hv3] at ho
      have HO3 := Lib.hid (ho.mono (B' := w.heap.size + 1) hsz2)
      have HB3 : Hid (Below w.heap.size w w3) := HB2.out.trans (hb.mono (by omega))
      have HW3 := Lib.hid (HW2.out.keep hb)
      have hsz3 : w.heap.size + 1 ≤ w3.heap.size := by have := hb.size; omega
      clear ho hb hv3
      go_wp2_with fail
      go_loopw [9, 10] (fun lv hv wr => ∃ lo hi : Nat, lo < hi ∧ hi ≤ 1048576 ∧ lv = .int .i64 lo ∧ hv = .int .i64 hi ∧ Hid (lo * b ≤ T ∧ T < hi * b) ∧ Hid (Below w3.heap.size w3 wr)) (fun lv hv _ => (intOf hv - intOf lv).toNat)
      case atStart => exact ⟨0, 1048576, by omega, by omega, rfl, rfl, ⟨by omega, HTop.out⟩, Below.refl _ _⟩
      case round =>
        obtain ⟨lo, hi, hlh, hhi, rfl, rfl, HLH, HB4⟩ := hrel
        by_cases hd : 1 < hi - lo
        · have e1 : decide ((1 : Int) < (hi : Int) - (lo : Int)) = true := by rw [decide_eq_true_eq]; omega
          obtain ⟨mid, hmid⟩ : ∃ mid, mid = (lo + hi) / 2 := ⟨_, rfl⟩
          have hmi : ((lo : Int) + (hi : Int)) / 2 = (mid : Int) := by omega
          have hm1' : mid < 1048576 := by omega
          have hm2 : lo < mid := by omega
          have hm3 : mid < hi := by omega
          clear hmid
          have HB5 : Hid (Below w.heap.size w wr) := HB3.out.trans (HB4.out.mono (by omega))
          have hsz4 : w3.heap.size ≤ wr.heap.size := HB4.out.size
          go_wp2_with fail
          refine (rtimes_ok q _ (digs b) [mid] _ (HQ.out.keep (HB5.out.alloc HB5.out.size _)) (own_lit1 wr wr.heap.size mid (Nat.le_refl _)).rd (digs_small _) (small_one hm1') (by omega) (by simp)).mono ?_
          rintro e w5 ⟨v5, rfl, ho, hb⟩
          have hv5 : val (digs b) * val [mid] = mid * b := by rw [val_digs, Nat.mul_comm]; simp [val]
          rw [hv5] at ho
          have HO5 := Lib.hid ho
          have HB6 : Hid (Below wr.heap.size wr w5) := below_call (below_alloc _ _) hb
          have HR5 := Lib.hid ((HO3.out.keep HB4.out).keep HB6.out)
          have HTm : Hid ((digs (mid * b)).length ≤ 1099511627776) := by
            show _ ≤ _
            have h1 := digs_len_mul_one (a := b) (b := mid) hm1'
            rw [Nat.mul_comm] at h1; omega
          clear ho hb hv5
          by_cases hc : T < mid * b
          · have HL : Hid (lessB (digs T) (digs (mid * b)) = true) := by show _ = _; rw [lessB, val_digs, val_digs, decide_eq_true_eq]; exact hc
            go_wp2_with fail
            refine (less_ok _ _ (digs T) (digs (mid * b)) w5 HR5.out.rd HO5.out.rd (digs_small _) (digs_small _) HTb.out HTm.out).mono ?_
            rintro e w6 ⟨rfl, hb⟩
            rw [HL.out]
            have HB7 : Hid (Below w3.heap.size w3 w6) := below_call (below_call HB4.out HB6.out) hb
            clear hb
            go_wp2_with fail
            go_roundw
            case rel => exact ⟨lo, mid, hm2, by omega, rfl, by first | rfl | rw [hmi], ⟨HLH.out.1, hc⟩, HB7.out⟩
            case measure => simp [intOf]; omega
          · have HL : Hid (lessB (digs T) (digs (mid * b)) = false) := by show _ = _; rw [lessB, val_digs, val_digs, decide_eq_false_iff_not]; exact hc
            go_wp2_with fail
            refine (less_ok _ _ (digs T) (digs (mid * b)) w5 HR5.out.rd HO5.out.rd (digs_small _) (digs_small _) HTb.out HTm.out).mono ?_
            rintro e w6 ⟨rfl, hb⟩
            rw [HL.out]
            have HB7 : Hid (Below w3.heap.size w3 w6) := below_call (below_call HB4.out HB6.out) hb
            clear hb
            go_wp2_with fail
            go_roundw
            case rel => exact ⟨mid, hi, hm3, hhi, by first | rfl | rw [hmi], rfl, ⟨by omega, HLH.out.2⟩, HB7.out⟩
            case measure => simp [intOf]; omega
        · have e1 : decide ((1 : Int) < (hi : Int) - (lo : Int)) = false := by rw [decide_eq_false_iff_not]; omega
          obtain rfl : hi = lo + 1 := by omega
          have hlo2 : lo < 1048576 := by omega
          have HLE : Hid (lo * b ≤ T ∧ T < lo * b + b) := ⟨HLH.out.1, by have := HLH.out.2; rw [Nat.add_mul, Nat.one_mul] at this; exact this⟩
          have HB5 : Hid (Below w.heap.size w wr) := HB3.out.trans (HB4.out.mono (by omega))
          have hsz4 : w3.heap.size ≤ wr.heap.size := HB4.out.size
          have HW4 := Lib.hid (HW3.out.keep HB4.out)
          have HR4 := Lib.hid (HO3.out.keep HB4.out)
          have hmq : m < qs.length := by rw [HV.out.len]; exact hm1
          have hold := HW4.out.cell hmq
          have hfr := HW4.out.live m
          have hmi2 : (m : Int) < (P.length : Int) := by omega
          go_wp2_with fail
          obtain ⟨ws, hws⟩ : ∃ ws, ws = wr.setCell ⟨w.heap.size, m, none⟩ (.int .i64 (lo : Int)) := ⟨_, rfl⟩
          have hz : ws.heap.size = wr.heap.size := by rw [hws]; simp [World.setCell]
          have HWs : Hid (OwnN ws w.heap.size (.slice (some ⟨w.heap.size, 0, none⟩) P.length P.length) (qs.set m lo)) := by rw [hws]; exact HW4.out.set m lo
          have HRs : Hid (OwnN ws (w.heap.size + 1) v3 (digs T)) := by rw [hws]; exact HR4.out.away (only_setCell (World.grownBy.refl _ _) _) (by omega)
          have HBs : Hid (Below w.heap.size w ws) := by show Below _ _ _; rw [hws]; exact HB5.out.setCell (Nat.le_refl _) _
          rw [← hws, ← hz]
          have hsz5 : w.heap.size + 1 ≤ ws.heap.size := by omega
          clear hws hz hold hfr
          refine (refTrim_ok _ 1 [lo] _ (own_lit1 ws ws.heap.size lo (Nat.le_refl _)).rd (small_one hlo2) (by simp) (by simp)).mono ?_
          rintro e w7 ⟨v7, rfl, ho, hb⟩
          have hv7 : val [lo] = lo := by simp [val]
          rw [hv7] at ho
          have HO7 := Lib.hid ho
          have hb7 : Below ws.heap.size ws w7 := below_call (below_alloc _ _) hb
          have HW7 := Lib.hid (HWs.out.keep hb7)
          have HR7 := Lib.hid (HRs.out.keep hb7)
          have HB7 := Lib.hid (below_call HBs.out hb7)
          have hsz7 : w.heap.size + 1 ≤ w7.heap.size := by have := hb7.size; omega
          clear ho hb hb7 hv7
          go_wp2_with fail
          refine (rtimes_ok q v7 (digs b) (digs lo) w7 (HQ.out.keep HB7.out) HO7.out.rd (digs_small _) (digs_small _) (by omega) (by have := digs_len_of_lt (n := lo) (k := 1) (by rw [Nat.pow_one]; exact hlo2); omega)).mono ?_
          rintro e w8 ⟨v8, rfl, ho, hb⟩
          have hv8 : val (digs b) * val (digs lo) = lo * b := by rw [val_digs, val_digs, Nat.mul_comm]
          rw [hv8] at ho
          have HO8 := Lib.hid ho
          have HW8 := Lib.hid (HW7.out.keep hb)
          have HR8 := Lib.hid (HR7.out.keep hb)
          have HB8 := Lib.hid (below_call HB7.out hb)
          have hsz8 : w.heap.size + 1 ≤ w8.heap.size := by have := hb.size; omega
          clear ho hb hv8
          go_wp2_with fail
          refine (minus_ok v3 v8 (digs T) (digs (lo * b)) w8 HR8.out.rd HO8.out.rd (digs_small _) (digs_small _) (by rw [val_digs, val_digs]; exact HLE.out.1) (digs_len_mono HLE.out.1) HTb.out).mono ?_
          rintro e w9 ⟨v9, rfl, ho, hb⟩
          rw [val_digs, val_digs] at ho
          have HO9 := Lib.hid (ho.mono hsz8)
          have HW9 := Lib.hid (HW8.out.keep hb)
          have HB9 := Lib.hid (below_call HB8.out hb)
          have hsz9 : w.heap.size + 1 ≤ w9.heap.size := by have := hb.size; omega
          clear ho hb
          have HNV := Lib.hid (HN.out lo hlo2 HLE.out.1 HLE.out.2)
          go_wp2_with fail
          go_roundw
          case rel => exact ⟨m, T - lo * b, qs.set m lo, by omega, rfl, HNV, HO9, HW9, HB9, hsz9⟩
          case measure => simp [intOf]
    · obtain rfl : k = 0 := by omega
      have em : ((0 : Nat) : Int) - 1 = -1 := rfl
      rw [em]; clear em
      have HE := Lib.hid (over_end HV.out)
      have HLn : Hid (qs.length ≤ 8796093022208) := by show _ ≤ _; rw [HV.out.len]; omega
      go_wp2_with fail
      refine (refTrim_own (l := qs) HW.out HV.out.sq HLn.out).mono ?_
      rintro e w2 ⟨v2, rfl, ho, hb⟩
      rw [HE.out.1] at ho
      have HO2 := Lib.hid (ho.mono HB.out.size)
      have HR2 : Hid (OwnN w2 w.heap.size u7 (digs (val P % b))) := by rw [← HE.out.2]; exact (HR.out.keep hb).mono (by omega)
      have HB2 := Lib.hid (below_call HB.out hb)
      clear ho hb
      go_wp2_with fail
      go_ret2
      exact ⟨v2, u7, rfl, HO2.out, HR2.out, HB2.out⟩
end Go.Proofs.YtlinegodpoihoaaGreatDoor
namespace Go.Proofs.YtlinegodpoihoaaGreatDoor
open Go.RowKit
variable {G : Nat}

theorem refTrim_is {a : Option Addr} {c : Nat} {l : Digs} {w : World} (h : RdN w (.slice a l.length c) l) (hs : small l) (hn : l.length ≤ 8796093022208) (hc : l.length ≤ c) {n : Nat} (hv : val l = n) :
  Calls Tryz.prog 50 #[.slice a l.length c] w fun e w' => ∃ b d, e = .returned (.slice b (lnN n) d) ∧ OwnN w' w.heap.size (.slice b (lnN n) d) (digs n) ∧ Below w.heap.size w w' :=
 (refTrim_ok a c l w h hs hn hc).mono fun e w' ⟨v, he, ho, hb⟩ => by
  rw [hv] at ho
  obtain ⟨b, d, rfl⟩ := ho.slice
  exact ⟨b, d, he, ho, hb⟩
theorem OwnN.le {w : World} {B : Nat} {a : Option Addr} {n c : Nat} (h : OwnN w B (.slice a (lnN n) c) (digs n)) : lnN n ≤ c := by
  rcases h.shape with ⟨h1, h2⟩ | ⟨g, cap, h1, -, -, h3⟩
  · rw [lnN, h2]; exact Nat.zero_le _
  · simp only [Value.slice.injEq] at h1
    rw [h1.2.2]; exact h3
theorem bd_of_own {w : World} {B : Nat} {a : Option Addr} {n c : Nat} {s z : Int} (h : OwnN w B (.slice a (lnN n) c) (digs n)) (hz : s * n = z) (hn : n ≠ 0) (hs : s = 1 ∨ s = -1) : sg z = s ∧ ln z = lnN n ∧ BD G w a c z := by
 obtain ⟨a', c', he, hb⟩ := bigIs_mk (G := G) (s := s) h.rd h.ty rfl h.le hn hs
 rw [hz] at he hb
 simp only [Value.agg.injEq, Array.mk.injEq, List.cons.injEq, Value.int.injEq, Value.slice.injEq, and_true, true_and] at he
 obtain ⟨h1, h2, h3, h4⟩ := he
 subst h2 h4
 exact ⟨h1.symm, h3.symm, hb⟩
set_option maxRecDepth 100000 in
set_option maxHeartbeats 4000000 in
theorem made_zero {s z : Int} {l : Digs} {a : Option Addr} {c n : Nat} {w : World} (h : RdN w (.slice a l.length c) l) (hs : small l) (hn : l.length ≤ 8796093022208) (hc : l.length ≤ c) (hv : val l = n) (h0 : n = 0) (hz : z = 0) :
    Calls Tryz.prog 39 #[.int .i64 s, .slice a l.length c] w fun e w' => ∃ a c, e = .returned (.agg #[.int .i64 (sg z), .slice a (ln z) c]) ∧ BD G w' a c z ∧ Below w.heap.size w w' := by
  have H1 := Lib.hid h
  have HS := Lib.hid hs
  have HN := Lib.hid hn
  have HV := Lib.hid hv
  have HZ := Lib.hid hz
  have e1 : ((lnN n : Int) == 0) = true := by rw [h0]; rfl
  clear h hs hn hv h0 hz

  go_enter Tryz.func39, Tryz.ntmps39
  go_wp2_with fail
  refine (refTrim_is (H1.out.keep (by go_grown)) HS.out HN.out hc HV.out).mono ?_
  rintro e w1 ⟨b2, d2, rfl, ho2, hb⟩
  have hbx := bx1 w 24 #[.int .i64 0, .slice none 0 0]
  have k0 := hbx; clear hbx
  have K0 := Lib.hid (k0.keep hb)
  clear k0
  have hb' : Below w.heap.size w w1 := below_call (by go_grown) hb
  have HB := Lib.hid hb'
  replace H1 := Lib.hid (H1.out.keep hb')
  clear hb hb'
  have Ho2 := Lib.hid ho2; clear ho2
  refine K0.out.w2 fun aa ab ac ad z0 => ?_
  go_wp2_with fail
  refine bodyPost_ret (results_box1 rfl _ _ w.heap.size 24 _ _ _ rfl (K0.out.set2 _ _) Tryz.underlying24 rfl (by kernel_rfl)) rfl ⟨none, 0, by rw [HZ.out]; rfl, ?_, ?_⟩
  · rw [HZ.out]; exact bd_zero _ _ _
  · exact (HB.out.setCell (by simp) _).setCell (by simp) _
set_option maxRecDepth 100000 in
set_option maxHeartbeats 4000000 in
theorem made_some {s z : Int} {l : Digs} {a : Option Addr} {c n : Nat} {w : World} (h : RdN w (.slice a l.length c) l) (hs : small l) (hn : l.length ≤ 8796093022208) (hc : l.length ≤ c) (hv : val l = n) (h0 : n ≠ 0) (hz : s * n = z) (h1 : s = 1 ∨ s = -1) :
    Calls Tryz.prog 39 #[.int .i64 s, .slice a l.length c] w fun e w' => ∃ a c, e = .returned (.agg #[.int .i64 (sg z), .slice a (ln z) c]) ∧ BD G w' a c z ∧ Below w.heap.size w w' := by
  have H1 := Lib.hid h
  have HS := Lib.hid hs
  have HN := Lib.hid hn
  have HV := Lib.hid hv
  have HZ := Lib.hid hz
  have HN0 := Lib.hid h0
  have HS1 := Lib.hid h1
  have hp := lnN_pos h0
  have e1 : ((lnN n : Int) == 0) = false := by rw [beq_eq_false_iff_ne]; omega
  clear h hs hn hv h0 hz hp h1

  go_enter Tryz.func39, Tryz.ntmps39
  go_wp2_with fail
  refine (refTrim_is (H1.out.keep (by go_grown)) HS.out HN.out hc HV.out).mono ?_
  rintro e w1 ⟨b2, d2, rfl, ho2, hb⟩
  have hbx := bx1 w 24 #[.int .i64 0, .slice none 0 0]
  have k0 := hbx; clear hbx
  have K0 := Lib.hid (k0.keep hb)
  clear k0
  have hb' : Below w.heap.size w w1 := below_call (by go_grown) hb
  have HB := Lib.hid hb'
  replace H1 := Lib.hid (H1.out.keep hb')
  clear hb hb'
  have Ho2 := Lib.hid ho2; clear ho2
  refine K0.out.w2 fun aa ab ac ad z0 => ?_
  go_wp2_with fail
  have HF := bd_of_own (G := G) Ho2.out HZ.out HN0.out HS1.out
  have HBD := Lib.hid HF.2.2
  rw [← HF.1, ← HF.2.1]
  clear HF
  clear aa ab ac ad z0
  refine bodyPost_ret (results_box1 rfl _ _ w.heap.size 24 _ _ _ rfl (K0.out.set2 _ _) Tryz.underlying24 rfl (by kernel_rfl)) rfl ?_
  refine ⟨b2, d2, rfl, ?_, ?_⟩
  · exact (HBD.out.far0 K0.out zb2 (only_setCell (only_setCell (World.grownBy.refl _ _) _) _))
  · exact (Below.setCell (Below.setCell HB.out (by simp; try omega) _) (by simp; try omega) _)
theorem made_ok {s z : Int} {l : Digs} {a : Option Addr} {c n : Nat} {w : World} (h : RdN w (.slice a l.length c) l) (hs : small l) (hn : l.length ≤ 8796093022208) (hc : l.length ≤ c) (hv : val l = n) (hz : s * n = z) (h1 : n ≠ 0 → s = 1 ∨ s = -1) :
    Calls Tryz.prog 39 #[.int .i64 s, .slice a l.length c] w fun e w' => ∃ a c, e = .returned (.agg #[.int .i64 (sg z), .slice a (ln z) c]) ∧ BD G w' a c z ∧ Below w.heap.size w w' := by
  by_cases h0 : n = 0
  · exact made_zero (G := G) h hs hn hc hv h0 (by rw [← hz, h0]; simp)
  · exact made_some (G := G) h hs hn hc hv h0 hz (h1 h0)
theorem made_own {s z : Int} {a : Option Addr} {c n B : Nat} {w : World} (h : OwnN w B (.slice a (lnN n) c) (digs n)) (hn : lnN n ≤ 8796093022208) (hz : s * n = z) (h1 : n ≠ 0 → s = 1 ∨ s = -1) :
  Calls Tryz.prog 39 #[.int .i64 s, .slice a (lnN n) c] w fun e w' => ∃ a c, e = .returned (.agg #[.int .i64 (sg z), .slice a (ln z) c]) ∧ BD G w' a c z ∧ Below w.heap.size w w' :=
 made_ok (G := G) (l := digs n) h.rd (digs_small n) hn h.le (val_digs n) hz h1
theorem made_bd {s x z : Int} {a : Option Addr} {c : Nat} {w : World} (h : BD G w a c x) (hn : Sz x 8796093022208) (hz : s * x.natAbs = z) (h1 : x.natAbs ≠ 0 → s = 1 ∨ s = -1) :
  Calls Tryz.prog 39 #[.int .i64 s, .slice a (ln x) c] w fun e w' => ∃ a c, e = .returned (.agg #[.int .i64 (sg z), .slice a (ln z) c]) ∧ BD G w' a c z ∧ Below w.heap.size w w' :=
 made_ok (G := G) (l := digs x.natAbs) h.rd (digs_small _) hn h.le (val_digs _) hz h1
set_option maxRecDepth 100000 in
set_option maxHeartbeats 4000000 in
theorem rright_ok {x : Int} {a1 : Option Addr} {c1 : Nat} {w : World} (h1 : BD G w a1 c1 x) (hx : Sz x 1099511627776) :
    Calls Tryz.prog 22 #[.agg #[.int .i64 (sg x), .slice a1 (ln x) c1]] w fun e w' => e = .returned (.bool true) ∧ Below w.heap.size w w' := by
  have H1 := Lib.hid h1
  have hlb : ln x ≤ 1099511627776 := hx
  clear h1 hx
  go_enter Tryz.func22, Tryz.ntmps22
  go_wp2_with fail
  obtain ⟨w0, hw0⟩ : ∃ w0, w0 = w.alloc (.cells #[.int .i64 (sg x), .slice a1 (ln x) c1] 24) := ⟨_, rfl⟩
  have K0 : Hid (Bx w0 w.heap.size 24 #[.int .i64 (sg x), .slice a1 (ln x) c1]) := by rw [hw0]; exact bx1 w _ _
  have HB : Hid (Below w.heap.size w w0) := by rw [hw0]; exact below_alloc _ _
  rw [← hw0]
  clear hw0
  have p0 : w0.cell? ⟨w.heap.size, 0, none⟩ = some (.int .i64 (sg x)) := K0.out.at.1 0
  have p1 : w0.cell? ⟨w.heap.size, 1, none⟩ = some (.slice a1 (ln x) c1) := K0.out.at.1 1
  go_loopw [3] (fun i wr => ∃ k nd : Nat, k ≤ ln x ∧ i = .int .i64 k ∧ wr = w0.drewN nd) (fun i _ => ln x - (intOf i).toNat)
  case atStart => exact ⟨0, 0, Nat.zero_le _, rfl, rfl⟩
  case round =>
    obtain ⟨k, nd, hk, rfl, rfl⟩ := hrel
    by_cases hlt : k < ln x
    · obtain ⟨b, off, rfl, hb, hcell⟩ := (H1.out.rd.keep HB.out).at (k := k) hlt
      obtain ⟨d, hd⟩ : ∃ d, d = (digs x.natAbs)[k]'hlt := ⟨_, rfl⟩
      rw [← hd] at hcell
      have hds : d < 1048576 := by rw [hd]; exact small_get (digs_small _) k hlt
      have e1 : decide ((d : Int) < 0) = false := by rw [decide_eq_false_iff_not]; omega
      have e2 : decide ((1048576 : Int) ≤ (d : Int)) = false := by rw [decide_eq_false_iff_not]; omega
      have e3 : decide (1048576 ≤ d) = false := by rw [decide_eq_false_iff_not]; omega
      have hki : (k : Int) < (ln x : Int) := by omega
      clear hd
      go_wp2_with fail
      go_roundw
      case rel => exact ⟨k + 1, nd, by omega, by go_num, rfl⟩
      case measure => simp [intOf]; omega
    · have t1 : decide (sg x < -1) = false := by rw [decide_eq_false_iff_not]; rcases sg_cases x with h | h | h <;> omega
      have t2 : decide (1 < sg x) = false := by rw [decide_eq_false_iff_not]; rcases sg_cases x with h | h | h <;> omega
      have hBw : Hid (Below w.heap.size w (w0.drewN nd)) := below_drewN HB.out nd
      by_cases h0 : x = 0
      · have s1 : ((ln x : Int) == 0) = true := by rw [h0]; rfl
        have s2 : (sg x == 0) = true := by rw [h0]; rfl
        have H0 := Lib.hid h0
        clear h0
        go_wp2_with fail
        go_ret
        exact ⟨rfl, hBw.out⟩
      · have s2 : (sg x == 0) = false := by rw [beq_eq_false_iff_ne]; rcases sg_ne h0 with h | h <;> omega
        have hlp : 0 < ln x := lnN_pos (n := x.natAbs) (by omega)
        have s1 : ((ln x : Int) == 0) = false := by rw [beq_eq_false_iff_ne]; omega
        obtain ⟨m, hm⟩ : ∃ m, m = ln x - 1 := ⟨_, rfl⟩
        have hml : m < (digs x.natAbs).length := by show m < ln x; omega
        have hmi : (ln x : Int) - 1 = (m : Int) := by omega
        have hmi2 : (m : Int) < (ln x : Int) := by omega
        obtain ⟨b, off, rfl, hb, hcell⟩ := (H1.out.rd.keep HB.out).at (k := m) hml
        obtain ⟨d, hd⟩ : ∃ d, d = (digs x.natAbs)[m] := ⟨_, rfl⟩
        rw [← hd] at hcell
        have hd0 : d ≠ 0 := by
          rw [hd]
          intro hh
          apply digs_last x.natAbs
          rw [List.getLast?_eq_getElem?, show (digs x.natAbs).length - 1 = m from hm.symm, List.getElem?_eq_getElem hml, hh]
        have s3 : ((d : Int) != 0) = true := by rw [bne_iff_ne]; omega
        have H0 := Lib.hid h0
        clear h0 hm hd
        go_wp2_with fail
        go_ret
        exact ⟨rfl, hBw.out⟩
end Go.Proofs.YtlinegodpoihoaaGreatDoor
namespace Go.Proofs.YtlinegodpoihoaaGreatDoor
open Go.RowKit
variable {G : Nat}

set_option maxRecDepth 100000 in
set_option maxHeartbeats 4000000 in
theorem rright_raw {s : Int} {v : Value} {l : List Int} {r : Bool} {w : World} (hv : RdZ w v l) (hn : l.length ≤ 1099511627776) (hr : rightB s l = r) :
    Calls Tryz.prog 22 #[.agg #[.int .i64 s, v]] w fun e w' => e = .returned (.bool r) ∧ Below w.heap.size w w' := by
  obtain ⟨a, c, rfl⟩ := hv.shape
  have H1 := Lib.hid hv
  have HR := Lib.hid hr
  clear hv hr
  go_enter Tryz.func22, Tryz.ntmps22
  go_wp2_with fail
  obtain ⟨w0, hw0⟩ : ∃ w0, w0 = w.alloc (.cells #[.int .i64 s, .slice a l.length c] 24) := ⟨_, rfl⟩
  have K0 : Hid (Bx w0 w.heap.size 24 #[.int .i64 s, .slice a l.length c]) := by rw [hw0]; exact bx1 w _ _
  have HB : Hid (Below w.heap.size w w0) := by rw [hw0]; exact below_alloc _ _
  rw [← hw0]
  clear hw0
  have p0 : w0.cell? ⟨w.heap.size, 0, none⟩ = some (.int .i64 s) := K0.out.at.1 0
  have p1 : w0.cell? ⟨w.heap.size, 1, none⟩ = some (.slice a l.length c) := K0.out.at.1 1
  go_loopw [3] (fun i wr => ∃ k nd : Nat, k ≤ l.length ∧ i = .int .i64 k ∧ wr = w0.drewN nd ∧ Hid ((l.take k).all digitOk = true)) (fun i _ => l.length - (intOf i).toNat)
  case atStart => exact ⟨0, 0, Nat.zero_le _, rfl, rfl, rfl⟩
  case round =>
    obtain ⟨k, nd, hk, rfl, rfl, HA⟩ := hrel
    have hBw : Hid (Below w.heap.size w (w0.drewN nd)) := below_drewN HB.out nd
    by_cases hlt : k < l.length
    · obtain ⟨b, off, rfl, hb, hcell⟩ := (H1.out.keep HB.out).at (k := k) hlt
      obtain ⟨d, hd⟩ : ∃ d, d = l[k]'hlt := ⟨_, rfl⟩
      rw [← hd] at hcell
      have hsn := all_ztake l k hlt
      rw [← hd] at hsn
      have HS := Lib.hid hsn
      have hmem : d ∈ l := by rw [hd]; exact List.getElem_mem _
      have HM := Lib.hid hmem
      have hki : (k : Int) < (l.length : Int) := by omega
      clear hd hsn hmem
      by_cases h1 : d < 0
      · have hno : Hid (rightB s l = false) := by
          show _ = _
          have : l.all digitOk = false := by
            rw [Bool.eq_false_iff]; intro hh
            have := List.all_eq_true.1 hh _ HM.out
            rw [digitOk_no (.inl (by omega))] at this; cases this
          rw [rightB, this]; rfl
        have e1 : decide (d < 0) = true := decide_eq_true h1
        clear h1
        go_wp2_with fail
        go_ret
        exact ⟨ret_bool (hno.out.symm.trans HR.out), hBw.out⟩
      · by_cases h2 : 1048576 ≤ d
        · have hno : Hid (rightB s l = false) := by
            show _ = _
            have : l.all digitOk = false := by
              rw [Bool.eq_false_iff]; intro hh
              have := List.all_eq_true.1 hh _ HM.out
              rw [digitOk_no (.inr (by omega))] at this; cases this
            rw [rightB, this]; rfl
          have e1 : decide (d < 0) = false := decide_eq_false h1
          have e2 : decide (1048576 ≤ d) = true := decide_eq_true h2
          clear h1 h2
          go_wp2_with fail
          go_ret
          exact ⟨ret_bool (hno.out.symm.trans HR.out), hBw.out⟩
        · have HO := Lib.hid (digitOk_yes (d := d) (by omega) (by omega))
          have e1 : decide (d < 0) = false := decide_eq_false h1
          have e2 : decide (1048576 ≤ d) = false := decide_eq_false h2
          clear h1 h2
          go_wp2_with fail
          go_roundw
          case rel => exact ⟨k + 1, nd, by omega, by go_num, rfl, by show _ = _; rw [HS.out, HA.out, HO.out]; rfl⟩
          case measure => simp [intOf]; omega
    · have hall : Hid (l.all digitOk = true) := by have := HA.out; rw [List.take_of_length_le (by omega)] at this; exact this
      by_cases t1 : s < -1
      · have hno : Hid (rightB s l = false) := by
          show _ = _
          rw [rightB, hall.out, Bool.true_and]
          have x1 : (s == 0) = false := by rw [beq_eq_false_iff_ne]; omega
          have x2 : (s == 1) = false := by rw [beq_eq_false_iff_ne]; omega
          have x3 : (s == -1) = false := by rw [beq_eq_false_iff_ne]; omega
          rw [x1, x2, x3]; simp
        have e1 : decide (s < -1) = true := decide_eq_true t1
        clear t1
        go_wp2_with fail
        go_ret
        exact ⟨ret_bool (hno.out.symm.trans HR.out), hBw.out⟩
      · by_cases t2 : 1 < s
        · have hno : Hid (rightB s l = false) := by
            show _ = _
            rw [rightB, hall.out, Bool.true_and]
            have x1 : (s == 0) = false := by rw [beq_eq_false_iff_ne]; omega
            have x2 : (s == 1) = false := by rw [beq_eq_false_iff_ne]; omega
            have x3 : (s == -1) = false := by rw [beq_eq_false_iff_ne]; omega
            rw [x1, x2, x3]; simp
          have e1 : decide (s < -1) = false := decide_eq_false t1
          have e2 : decide (1 < s) = true := decide_eq_true t2
          clear t1 t2
          go_wp2_with fail
          go_ret
          exact ⟨ret_bool (hno.out.symm.trans HR.out), hBw.out⟩
        · have e1 : decide (s < -1) = false := decide_eq_false t1
          have e2 : decide (1 < s) = false := decide_eq_false t2
          by_cases h0 : l.length = 0
          · have s1 : ((l.length : Int) == 0) = true := by rw [beq_iff_eq]; omega
            have hl : Hid (rightB s l = (s == 0)) := by
              show _ = _
              rw [rightB, hall.out, if_pos (List.length_eq_zero_iff.1 h0)]; rfl
            clear h0 t1 t2
            cases s2 : (s == 0) with
            | true =>
              go_wp2_with fail
              go_ret
              exact ⟨ret_bool (by rw [← HR.out, hl.out, s2]), hBw.out⟩
            | false =>
              go_wp2_with fail
              go_ret
              exact ⟨ret_bool (by rw [← HR.out, hl.out, s2]), hBw.out⟩
          · have s1 : ((l.length : Int) == 0) = false := by rw [beq_eq_false_iff_ne]; omega
            obtain ⟨m, hm⟩ : ∃ m, m = l.length - 1 := ⟨_, rfl⟩
            have hml : m < l.length := by omega
            have hmi : (l.length : Int) - 1 = (m : Int) := by omega
            have hmi2 : (m : Int) < (l.length : Int) := by omega
            obtain ⟨b, off, rfl, hb, hcell⟩ := (H1.out.keep HB.out).at (k := m) hml
            obtain ⟨d, hd⟩ : ∃ d, d = l[m]'hml := ⟨_, rfl⟩
            rw [← hd] at hcell
            have hl : Hid (rightB s l = (!(s == 0) && (d != 0))) := by
              show _ = _
              have hne : l ≠ [] := fun h => h0 (by rw [h]; rfl)
              rw [rightB, hall.out, if_neg hne, Bool.true_and, List.getLast?_eq_getElem?, ← hm, List.getElem?_eq_getElem hml, ← hd]
              have x : (s == 1 || s == -1) = !(s == 0) := by
                rcases (show s = 0 ∨ s = 1 ∨ s = -1 by omega) with h | h | h <;> subst h <;> rfl
              rw [x]
              by_cases hd0 : d = 0 <;> simp [hd0]
            clear h0 hm hd t1 t2
            cases s2 : (s == 0) with
            | true =>
              go_wp2_with fail
              go_ret
              exact ⟨ret_bool (by rw [← HR.out, hl.out, s2]; rfl), hBw.out⟩
            | false =>
              cases s3 : (d != 0) with
              | true =>
                go_wp2_with fail
                go_ret
                exact ⟨ret_bool (by rw [← HR.out, hl.out, s2, s3]; rfl), hBw.out⟩
              | false =>
                go_wp2_with fail
                go_ret
                exact ⟨ret_bool (by rw [← HR.out, hl.out, s2, s3]; rfl), hBw.out⟩
end Go.Proofs.YtlinegodpoihoaaGreatDoor
