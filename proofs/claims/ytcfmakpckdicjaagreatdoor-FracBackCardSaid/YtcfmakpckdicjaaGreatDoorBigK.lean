/- Walk: quotient and remainder of digits: the short ways; the laws of a guessed digit. -/
import Derived.Test.YtcfmakpckdicjaaGreatDoorBigJ
namespace Go.Proofs.YtcfmakpckdicjaaGreatDoor
open Go.RowKit

/-! ### a digit guessed from the first digits -/
theorem guess_start {e B V U vl wl v1 v2 w2 top g : Nat} (hB : B = 1048576) (hV : V = vl + e * (v2 + B * v1)) (hU : U = wl + e * (w2 + B * top)) (hw : wl < e) (h2 : w2 < B) (hg : top < (g + 1) * v1) : U < g * V + V := by
  have h1 : e * (w2 + B * top) + e ≤ e * (B * (top + 1)) := by
    rw [← Nat.mul_succ]; exact Nat.mul_le_mul_left _ (by rw [Nat.mul_add]; omega)
  have h3 : e * (B * (top + 1)) ≤ e * (B * ((g + 1) * v1)) := Nat.mul_le_mul_left _ (Nat.mul_le_mul_left _ hg)
  have h4 : e * (B * ((g + 1) * v1)) ≤ g * V + V := by
    subst hV
    have : g * (vl + e * (v2 + B * v1)) + (vl + e * (v2 + B * v1)) = e * (B * ((g + 1) * v1)) + (g + 1) * (vl + e * v2) := by grind
    omega
  omega
theorem guess_big {B V U g : Nat} (hU : U < B * V) (hg : B ≤ g) : U < (g - 1) * V + V := by
  have h1 : B * V ≤ g * V := Nat.mul_le_mul_right _ hg
  rcases Nat.eq_zero_or_pos g with h | h
  · subst h; omega
  · obtain ⟨k, rfl⟩ : ∃ k, g = k + 1 := ⟨g - 1, by omega⟩
    rw [Nat.add_sub_cancel]; rw [Nat.add_mul] at h1; omega
theorem guess_down {e B V U vl wl v1 v2 w2 top g rest : Nat} (hV : V = vl + e * (v2 + B * v1)) (hU : U = wl + e * (w2 + B * top)) (hw : wl < e) (hr : g * v1 + rest = top) (hg : rest * B + w2 < g * v2) : U < (g - 1) * V + V := by
  have h1 : w2 + B * top + 1 ≤ g * (v2 + B * v1) := by
    subst hr
    have : g * (v2 + B * v1) = g * v2 + B * (g * v1) := by grind
    have h3 : B * (g * v1 + rest) = B * (g * v1) + rest * B := by grind
    omega
  have h2 := Nat.mul_le_mul_left e h1
  have h3 : g * V = g * vl + e * (g * (v2 + B * v1)) := by subst hV; grind
  rw [Nat.mul_add, Nat.mul_one] at h2
  rcases Nat.eq_zero_or_pos g with h | h
  · subst h; omega
  · obtain ⟨k, rfl⟩ : ∃ k, g = k + 1 := ⟨g - 1, by omega⟩
    rw [Nat.add_sub_cancel]; rw [Nat.add_mul, Nat.one_mul] at h3; omega
theorem guess_end {e B V U vl wl v1 v2 w2 top g rest : Nat} (hV : V = vl + e * (v2 + B * v1)) (hU : U = wl + e * (w2 + B * top)) (hv : vl < e) (hr : g * v1 + rest = top) (h1 : 1 ≤ v1) (hgB : g < B) (hx : B ≤ rest ∨ g * v2 ≤ rest * B + w2) (h2 : v2 < B) : g * V ≤ U + V := by
  have h3 : g * v2 ≤ rest * B + w2 := by
    rcases hx with hx | hx
    · have a1 : g * v2 ≤ B * B := Nat.mul_le_mul (by omega) (by omega)
      have a2 : B * B ≤ rest * B := Nat.mul_le_mul_right _ hx
      omega
    · exact hx
  have h4 : g * (v2 + B * v1) ≤ w2 + B * top := by
    subst hr
    have : g * (v2 + B * v1) = g * v2 + B * (g * v1) := by grind
    have h3 : B * (g * v1 + rest) = B * (g * v1) + rest * B := by grind
    omega
  have h5 := Nat.mul_le_mul_left e h4
  have h6 : g * V = g * vl + e * (g * (v2 + B * v1)) := by subst hV; grind
  have h7 : g * vl ≤ B * e := Nat.mul_le_mul (by omega) (by omega)
  have h8 : B * e ≤ e * (v2 + B * v1) := by
    have : e * (B * 1) ≤ e * (v2 + B * v1) := Nat.mul_le_mul_left _ (by have := Nat.mul_le_mul_left B h1; omega)
    rw [Nat.mul_one, Nat.mul_comm] at this; exact this
  omega

theorem own_lit1 (w : World) (B d : Nat) (hB : B ≤ w.heap.size) : OwnN (w.alloc (.cells #[.int .i64 (d : Int)] 3)) B (.slice (some ⟨w.heap.size, 0, none⟩) 1 1) [d] :=
  World.ownsRow_lit w #[.int .i64 (d : Int)] 1 hB (by unfold maxLen; omega) rfl

theorem digs_len_of_lt {n k : Nat} (h : n < 1048576 ^ k) : (digs n).length ≤ k := by
  rcases Nat.lt_or_ge k (digs n).length with h1 | h1
  · exfalso
    have h0 : n ≠ 0 := by rintro rfl; simp [digs_zero] at h1
    have h2 := digs_len_ge h0
    have h3 : 1048576 ^ k ≤ 1048576 ^ ((digs n).length - 1) := Nat.pow_le_pow_right (by omega) (by omega)
    omega
  · exact h1
theorem digs_len_mul (a b : Nat) : (digs (a * b)).length ≤ (digs a).length + (digs b).length := by
  refine digs_len_of_lt ?_
  rw [Nat.pow_add]
  exact Nat.mul_lt_mul'' (digs_len_lt a) (digs_len_lt b)
theorem digs_len_mul_one {a b : Nat} (h : b < 1048576) : (digs (a * b)).length ≤ (digs a).length + 1 := by
  have h1 := digs_len_mul a b
  have h2 : (digs b).length ≤ 1 := digs_len_of_lt (by rw [Nat.pow_one]; exact h)
  omega
theorem digs_len_add (a b : Nat) : (digs (a + b)).length ≤ max (digs a).length (digs b).length + 1 := by
  refine digs_len_of_lt ?_
  have h1 : a < 1048576 ^ max (digs a).length (digs b).length := Nat.lt_of_lt_of_le (digs_len_lt a) (Nat.pow_le_pow_right (by omega) (Nat.le_max_left _ _))
  have h2 : b < 1048576 ^ max (digs a).length (digs b).length := Nat.lt_of_lt_of_le (digs_len_lt b) (Nat.pow_le_pow_right (by omega) (Nat.le_max_right _ _))
  rw [Nat.pow_succ]; omega

/-- The first two digits of digits, and the rest. -/
theorem top2 (V : Digs) (n : Nat) (hn : V.length = n + 2) : val V = val (V.take n) + 1048576 ^ n * (V[n]'(by omega) + 1048576 * V[n + 1]'(by omega)) := by
  rw [val_split V n (by omega), List.drop_eq_getElem_cons (by omega), List.drop_eq_getElem_cons (by omega), List.drop_of_length_le (by omega)]
  simp [val]
theorem top3 (W : Digs) (n : Nat) (hn : W.length = n + 3) : val W = val (W.take n) + 1048576 ^ n * (W[n]'(by omega) + 1048576 * (W[n + 2]'(by omega) * 1048576 + W[n + 1]'(by omega))) := by
  rw [val_split W n (by omega), List.drop_eq_getElem_cons (by omega), List.drop_eq_getElem_cons (by omega), List.drop_eq_getElem_cons (by omega), List.drop_of_length_le (by omega)]
  simp only [val, Nat.mul_zero, Nat.add_zero]
  rw [Nat.add_comm (W[n + 2] * 1048576), Nat.mul_comm W[n + 2]]

set_option maxRecDepth 100000 in
set_option maxHeartbeats 4000000 in
theorem bigDiv_lt (p q : Value) (a b : Nat) (w : World) (hp : RdN w p (digs a)) (hq : RdN w q (digs b)) (hab : a < b) (hn : (digs a).length ≤ 1099511627776) (hm : (digs b).length ≤ 1099511627776) :
    Calls Tryz.prog 93 #[p, q] w fun e w' => ∃ v r, e = .returned (.tuple #[v, r]) ∧ OwnN w' w.heap.size v (digs (a / b)) ∧ OwnN w' w.heap.size r (digs (a % b)) ∧ Below w.heap.size w w' := by
  have HO := Lib.hid (ord_lt (a := a) (b := b) (by omega))
  have HD : Hid (digs (a / b) = [] ∧ a % b = a) := ⟨by rw [Nat.div_eq_of_lt hab]; rfl, Nat.mod_eq_of_lt hab⟩
  have HP := Lib.hid hp
  have HQ := Lib.hid hq
  clear hp hq hab
  go_enter Tryz.func93, Tryz.ntmps93
  go_wp2_with fail
  refine (bigcmp_any p q a b w HP.out HQ.out hn hm).mono ?_
  rintro e w1 ⟨rfl, hb⟩
  rw [HO.out]
  have HB := Lib.hid hb; clear hb
  go_wp2_with fail
  refine (clone_any p _ w1 (HP.out.keep HB.out) hn).mono ?_
  rintro e w2 ⟨v, rfl, ho, hb⟩
  have HB2 := Lib.hid hb; clear hb
  have HO2 := Lib.hid ho; clear ho
  go_wp2_with fail
  go_ret2
  exact ⟨_, v, rfl, by rw [HD.out.1]; exact ownN_nil _ _, by rw [HD.out.2]; exact HO2.out.mono HB.out.size, HB.out.trans (HB2.out.mono HB.out.size)⟩

set_option maxRecDepth 100000 in
set_option maxHeartbeats 4000000 in
theorem bigDiv_one (p q : Value) (a d : Nat) (w : World) (hp : RdN w p (digs a)) (hq : RdN w q (digs d)) (hab : d ≤ a) (h0 : 0 < d) (hd : d < 1048576) (hn : (digs a).length ≤ 1099511627776) :
    Calls Tryz.prog 93 #[p, q] w fun e w' => ∃ v r, e = .returned (.tuple #[v, r]) ∧ OwnN w' w.heap.size v (digs (a / d)) ∧ OwnN w' w.heap.size r (digs (a % d)) ∧ Below w.heap.size w w' := by
  have HO : Hid (¬ ord a d < 0) := by
    show ¬ _
    rcases Nat.lt_or_ge d a with h | h
    · rw [ord_gt (by omega)]; omega
    · obtain rfl : a = d := by omega
      rw [ord_eq]; omega
  obtain ⟨o, ho⟩ : ∃ o, o = ord a d := ⟨_, rfl⟩
  have hon : ¬ o < 0 := by rw [ho]; exact HO.out
  have HOO := Lib.hid ho; clear ho
  have hdd : digs d = [d] := by
    have := digs_mk (n := 0) hd (by omega)
    rw [Nat.mul_zero, Nat.add_zero] at this; exact this
  have HP := Lib.hid hp
  have HQ : Hid (RdN w q [d]) := by rw [← hdd]; exact hq
  have HDD := Lib.hid hdd
  clear hp hq hab hdd
  obtain ⟨a2, cap2, rfl⟩ := HQ.out.shape
  go_enter Tryz.func93, Tryz.ntmps93
  go_wp2_with fail
  refine (bigcmp_any p _ a d w HP.out (by rw [HDD.out]; exact HQ.out) hn (by rw [HDD.out]; simp)).mono ?_
  rintro e w1 ⟨rfl, hb⟩
  rw [← HOO.out]
  have HB := Lib.hid hb; clear hb
  obtain ⟨b1, off1, rfl, hb1, hcell⟩ := (HQ.out.keep HB.out).at (k := 0) (by simp)
  rw [Nat.add_zero] at hcell
  simp only [List.getElem_cons_zero] at hcell
  go_wp2_with fail
  refine (bigShort_any p _ d w1 (HP.out.keep HB.out) (digs_small a) h0 hd (by omega)).mono ?_
  rintro e w2 ⟨v, rfl, ho, hb⟩
  have HB2 := Lib.hid hb; clear hb
  rw [val_digs] at ho
  have HO2 := Lib.hid ho; clear ho
  rw [val_digs]
  obtain ⟨r, hr⟩ : ∃ r, r = a % d := ⟨_, rfl⟩
  rw [← hr]
  have hrd : r < d := by rw [hr]; exact Nat.mod_lt _ h0
  have HR := Lib.hid hr; clear hr
  have HB12 := Lib.hid (HB.out.trans (HB2.out.mono HB.out.size))
  go_wp2_with fail
  refine (bigTrim_own w.heap.size _ [r] _ ?_ (small_one (by omega)) (by simp)).mono ?_
  · exact own_lit1 _ _ _ HB12.out.size
  rintro e w3 ⟨v', rfl, ho, rfl⟩
  have HO3 := Lib.hid ho; clear ho
  have hv1 : val [r] = r := by simp [val]
  rw [hv1] at HO3
  go_wp2_with fail
  go_ret2
  exact ⟨v, v', rfl, (HO2.out.keep ((Below.refl _ _).alloc (Nat.le_refl _) _)).mono HB.out.size, by rw [← HR.out]; exact HO3.out, HB12.out.alloc HB12.out.size _⟩
end Go.Proofs.YtcfmakpckdicjaaGreatDoor
