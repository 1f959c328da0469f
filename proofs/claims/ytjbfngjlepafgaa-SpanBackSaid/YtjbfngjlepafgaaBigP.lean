/- Walks: sums of big integers with unlike signs; differences; order. -/
import Derived.Test.YtjbfngjlepafgaaBigK
import Derived.Test.YtjbfngjlepafgaaProg
import Derived.WalkKit
import Derived.WalkSpells
import Derived.WalkLawsBesides
import Derived.Handy
import Derived.Lib.Hide
import Derived.Lib.Strings
import Derived.Lib.Builder
import Derived.BigQuiet
import Derived.OwnWalk
import Derived.Laws.BitsLemmas
import Derived.WalkSmall
import Derived.Deep.QuietTactic
import Derived.StillTailTactics
import Derived.Maps.AppendAt
import Derived.IntWalk
import Derived.Deep.RegionHeld3
import Derived.Deep.DeepFit
namespace Go.Proofs.Ytjbfngjlepafgaa
open Go.RowKit

structure DivFit (a b s : Nat) (U V : Digs) (nq : Nat) : Prop where
  lenV : (digs b).length ≤ V.length
  lenU : (digs a).length < U.length
  len : nq + V.length = U.length
  valU : val U = a * s
  valV : val V = b * s
  sU : small U
  sV : small V
  low : val (U.drop nq) < val V
  top : ∀ (h : V.length - 1 < V.length), 1 ≤ V[V.length - 1]
theorem pos_of_len {b : Nat} (h : 1 < (digs b).length) : 1 ≤ b := by
  rcases Nat.eq_zero_or_pos b with h' | h'
  · rw [h'] at h; simp [digs_zero] at h
  · exact h'
theorem div_start (a b s : Nat) (hs : 1 ≤ s) (hab : b ≤ a) (hb : 1 ≤ b) : ∃ (U V : Digs) (nq : Nat), Hid (U = digs (a * s) ++ [0]) ∧ Hid (V = digs (b * s)) ∧ Hid (DivFit a b s U V nq) := by
  have h1 : b * s ≤ a * s := Nat.mul_le_mul_right _ hab
  have h2 := digs_len_mono h1
  have h3 : a ≤ a * s := by have := Nat.mul_le_mul_left a hs; omega
  have h4 : b ≤ b * s := by have := Nat.mul_le_mul_left b hs; omega
  refine ⟨_, _, (digs (a * s) ++ [0]).length - (digs (b * s)).length, rfl, rfl, digs_len_mono h4, ?_, ?_, ?_, val_digs _, ?_, digs_small _, ?_, ?_⟩
  · have := digs_len_mono h3; simp; omega
  · simp; omega
  · rw [val_snoc, val_digs]; simp
  · exact small_append (digs_small _) (small_one (by omega))
  · have h5 := digs_len_ge (n := b * s) (by omega)
    have h6 : (digs (b * s)).length ≠ 0 := by
      intro h; have := digs_nil.1 (List.length_eq_zero_iff.1 h); omega
    rw [List.length_append, List.drop_append_of_le_length (by simp; omega), val_snoc, val_digs, Nat.mul_zero, Nat.add_zero]
    have h7 := val_lt (small_drop (digs_small (a * s)) ((digs (a * s)).length + [0].length - (digs (b * s)).length))
    refine Nat.lt_of_lt_of_le h7 (Nat.le_trans (Nat.pow_le_pow_right (by omega) ?_) h5)
    simp; omega
  · intro h
    rcases Nat.eq_zero_or_pos (digs (b * s))[(digs (b * s)).length - 1] with h5 | h5
    · exfalso
      apply digs_last (b * s)
      rw [List.getLast?_eq_getElem?, List.getElem?_eq_getElem h, h5]
    · exact h5
/-- Where the long division stands: k digits of the quotient are to come. -/
structure DivAt (a s : Nat) (V os qs : Digs) (k : Nat) : Prop where
  so : small os
  sq : small qs
  sum : val os + val V * val qs = a * s
  low : val (os.drop k) < val V
  zero : ∀ j (h : j < qs.length), j < k → qs[j] = 0
theorem DivFit.start {a b s nq : Nat} {U V : Digs} (h : DivFit a b s U V nq) : DivAt a s V U (List.replicate nq 0) nq :=
  ⟨h.sU, small_replicate _, by rw [val_zeros (l := List.replicate nq 0) (by simp), h.valU]; simp, h.low, by simp⟩
/-- The window at digit i. -/
structure DivWin (V os A W C : Digs) (i : Nat) : Prop where
  eq : os = A ++ W ++ C
  lenA : A.length = i
  lenW : W.length = V.length + 1
  sW : small W
  lt : val W < 1048576 * val V
  zC : val C = 0
theorem div_win {a s i : Nat} {V os qs : Digs} (sV : small V) (hi : i + V.length < os.length) (h : DivAt a s V os qs (i + 1)) :
    val ((os.drop i).take (V.length + 1)) < 1048576 * val V ∧ val (os.drop (i + V.length + 1)) = 0 := by
  have hi' : i < os.length := by omega
  have h1 : val (os.drop i) < 1048576 * val V := by
    rw [List.drop_eq_getElem_cons hi', val]
    have := small_get h.so i hi'
    have := h.low
    omega
  have h2 := val_split (os.drop i) (V.length + 1) (by simp; omega)
  rw [List.drop_drop, ← Nat.add_assoc] at h2
  have h3 : 1048576 * val V < 1048576 ^ (V.length + 1) := by rw [Nat.pow_succ, Nat.mul_comm]; exact Nat.mul_lt_mul_of_pos_right (val_lt sV) (by omega)
  have h4 : val (os.drop (i + V.length + 1)) = 0 := by
    rcases Nat.eq_zero_or_pos (val (os.drop (i + V.length + 1))) with h5 | h5
    · exact h5
    · have := Nat.mul_le_mul_left (1048576 ^ (V.length + 1)) h5
      omega
  refine ⟨?_, h4⟩
  rw [h4] at h2; omega
theorem DivWin.get {V os A W C : Digs} {i : Nat} (h : DivWin V os A W C i) (k : Nat) (hk : k < W.length) (hi : i + k < os.length) : os[i + k] = W[k] := by
  have e := h.eq
  have ea := h.lenA
  subst e ea
  exact mid_get A W C k hk hi
theorem div_window {a s i : Nat} {V os qs : Digs} (sV : small V) (hi : i + V.length < os.length) (h : DivAt a s V os qs (i + 1)) :
    ∃ A W C, DivWin V os A W C i := by
  refine ⟨os.take i, (os.drop i).take (V.length + 1), os.drop (i + V.length + 1), ?_, by simp; omega, by simp; omega, small_take (small_drop h.so _) _, ?_, ?_⟩
  · rw [List.append_assoc, Nat.add_assoc, ← List.drop_drop, List.take_append_drop, List.take_append_drop]
  · exact (div_win sV hi h).1
  · exact (div_win sV hi h).2
/-- What is known of the digits that the guess is made from. -/
structure DivDigit (V os A W C : Digs) (i n2 x0 x1 x2 y1 w0 w1 w2 v1 v2 top g0 r0 : Nat) : Prop where
  win : DivWin V os A W C i
  i0 : (i : Int) + (V.length : Int) = (x0 : Int)
  i1 : (x0 : Int) - 1 = (x1 : Int)
  i2 : (x0 : Int) - 2 = (x2 : Int)
  j1 : (V.length : Int) - 1 = (y1 : Int)
  j2 : (V.length : Int) - 2 = (n2 : Int)
  c0 : os[x0]? = some w0
  c1 : os[x1]? = some w1
  c2 : os[x2]? = some w2
  d1 : V[y1]? = some v1
  d2 : V[n2]? = some v2
  s0 : w0 < 1048576
  s1 : w1 < 1048576
  s2 : w2 < 1048576
  sv1 : v1 < 1048576
  sv2 : v2 < 1048576
  v1p : 1 ≤ v1
  hor : bits .or .i64 ((w0 : Int) * 1048576) (w1 : Int) = (top : Int)
  tb : top < 1099511627776
  td : ((top : Int).tdiv (v1 : Int)) = (g0 : Int)
  tm : ((top : Int).tmod (v1 : Int)) = (r0 : Int)
  g0b : g0 ≤ top
  r0b : r0 ≤ top
  gr : g0 * v1 + r0 = top ∧ top < (g0 + 1) * v1
  tv : val V = val (V.take n2) + 1048576 ^ n2 * (v2 + 1048576 * v1)
  tw : val W = val (W.take n2) + 1048576 ^ n2 * (w2 + 1048576 * top)
  lv : val (V.take n2) < 1048576 ^ n2
  lw : val (W.take n2) < 1048576 ^ n2
  ib : x0 + 1 ≤ os.length ∧ x1 ≤ 1099511627778 ∧ x2 ≤ 1099511627778 ∧ y1 ≤ 1099511627778 ∧ i ≤ 1099511627778 ∧ n2 ≤ 1099511627778
theorem div_digit {a b s nq i : Nat} {U V os qs : Digs} (HF : DivFit a b s U V nq) (HD : DivAt a s V os qs (i + 1)) (hi : i < nq) (hV : 2 ≤ V.length) (hlo : os.length = U.length) (hUb : U.length ≤ 1099511627778) :
    ∃ A W C n2 x0 x1 x2 y1 w0 w1 w2 v1 v2 top g0 r0, Hid (DivDigit V os A W C i n2 x0 x1 x2 y1 w0 w1 w2 v1 v2 top g0 r0) := by
  have hlen := HF.len
  obtain ⟨A, W, C, H⟩ := div_window HF.sV (by omega : i + V.length < os.length) HD
  obtain ⟨n2, hn2⟩ : ∃ n2, V.length = n2 + 2 := ⟨V.length - 2, by omega⟩
  have hLW : W.length = n2 + 3 := by rw [H.lenW, hn2]
  have hw0 := small_get H.sW (n2 + 2) (by omega)
  have hw1 := small_get H.sW (n2 + 1) (by omega)
  have hw2 := small_get H.sW n2 (by omega)
  have hv1 := small_get HF.sV (n2 + 1) (by omega)
  have hv2 := small_get HF.sV n2 (by omega)
  have hc0 := H.get (n2 + 2) (by omega) (by omega)
  have hc1 := H.get (n2 + 1) (by omega) (by omega)
  have hc2 := H.get n2 (by omega) (by omega)
  have hvp : 1 ≤ V[n2 + 1]'(by omega) := by
    refine Nat.le_trans (HF.top (by omega)) (Nat.le_of_eq ?_); congr 1; omega
  have htv := top2 V n2 hn2
  have htw := top3 W n2 hLW
  have hlv : val (V.take n2) < 1048576 ^ n2 := Nat.lt_of_lt_of_le (val_lt (small_take HF.sV _)) (by rw [List.length_take]; exact Nat.pow_le_pow_right (by omega) (by omega))
  have hlw : val (W.take n2) < 1048576 ^ n2 := Nat.lt_of_lt_of_le (val_lt (small_take H.sW _)) (by rw [List.length_take]; exact Nat.pow_le_pow_right (by omega) (by omega))
  obtain ⟨w0, e0⟩ : ∃ x, x = W[n2 + 2]'(by omega) := ⟨_, rfl⟩
  obtain ⟨w1, e1⟩ : ∃ x, x = W[n2 + 1]'(by omega) := ⟨_, rfl⟩
  obtain ⟨w2, e2⟩ : ∃ x, x = W[n2]'(by omega) := ⟨_, rfl⟩
  obtain ⟨v1, e3⟩ : ∃ x, x = V[n2 + 1]'(by omega) := ⟨_, rfl⟩
  obtain ⟨v2, e4⟩ : ∃ x, x = V[n2]'(by omega) := ⟨_, rfl⟩
  rw [← e0] at hw0 hc0
  rw [← e1] at hw1 hc1
  rw [← e2] at hw2 hc2
  rw [← e3] at hv1 hvp
  rw [← e4] at hv2
  rw [← e3, ← e4] at htv
  rw [← e0, ← e1, ← e2] at htw
  have h1 := Nat.div_add_mod (w0 * 1048576 + w1) v1
  have h2 := Nat.mod_lt (w0 * 1048576 + w1) hvp
  exact ⟨A, W, C, n2, i + (n2 + 2), i + (n2 + 1), i + n2, n2 + 1, w0, w1, w2, v1, v2, w0 * 1048576 + w1, (w0 * 1048576 + w1) / v1, (w0 * 1048576 + w1) % v1,
    { win := H, i0 := by omega, i1 := by omega, i2 := by omega, j1 := by omega, j2 := by omega
      c0 := by rw [List.getElem?_eq_getElem (by omega), hc0]
      c1 := by rw [List.getElem?_eq_getElem (by omega), hc1]
      c2 := by rw [List.getElem?_eq_getElem (by omega), hc2]
      d1 := by rw [List.getElem?_eq_getElem (by omega), e3]
      d2 := by rw [List.getElem?_eq_getElem (by omega), e4]
      s0 := hw0, s1 := hw1, s2 := hw2, sv1 := hv1, sv2 := hv2, v1p := hvp
      hor := or20 (by omega) hw1
      tb := by omega
      td := by rw [Int.tdiv_eq_ediv_of_nonneg (by omega)]; rfl
      tm := by rw [Int.tmod_eq_emod_of_nonneg (by omega)]; rfl
      g0b := Nat.div_le_self _ _
      r0b := Nat.mod_le _ _
      gr := ⟨by rw [Nat.mul_comm]; exact h1, by rw [Nat.add_mul, Nat.one_mul, Nat.mul_comm (_ / _) v1]; omega⟩
      tv := htv, tw := htw, lv := hlv, lw := hlw
      ib := by omega }⟩
/-- The guess, not less than the digit; what is left of the first two digits. -/
structure GuessAt (V W : Digs) (v1 top g rest : Nat) : Prop where
  sum : g * v1 + rest = top
  hi : val W < g * val V + val V
theorem GuessAt.le {V W : Digs} {v1 top g rest : Nat} (h : GuessAt V W v1 top g rest) (h1 : 1 ≤ v1) : g ≤ top := by
  have := h.sum
  have := Nat.mul_le_mul_left g h1
  omega
theorem GuessAt.le2 {V W : Digs} {v1 top g rest : Nat} (h : GuessAt V W v1 top g rest) : rest ≤ top := by have := h.sum; omega
theorem GuessAt.down {V W : Digs} {v1 top g rest : Nat} (h : GuessAt V W v1 top (g + 1) rest) (hi : val W < g * val V + val V) : GuessAt V W v1 top g (rest + v1) :=
  ⟨by have := h.sum; rw [Nat.add_mul] at this; omega, hi⟩
theorem GuessAt.big {V W : Digs} {v1 top g rest : Nat} (h : GuessAt V W v1 top (g + 1) rest) (hW : val W < 1048576 * val V) (hg : 1048576 ≤ g + 1) : GuessAt V W v1 top g (rest + v1) :=
  h.down (by have := guess_big hW hg; simpa using this)
section
variable {V os A W C : Digs} {i n2 x0 x1 x2 y1 w0 w1 w2 v1 v2 top g0 r0 g rest : Nat} (F : DivDigit V os A W C i n2 x0 x1 x2 y1 w0 w1 w2 v1 v2 top g0 r0)
include F
theorem DivDigit.guess0 : GuessAt V W v1 top g0 r0 := ⟨F.gr.1, guess_start rfl F.tv F.tw F.lw F.s2 F.gr.2⟩
theorem DivDigit.guess1 (h : GuessAt V W v1 top (g + 1) rest) (hg : rest * 1048576 + w2 < (g + 1) * v2) : GuessAt V W v1 top g (rest + v1) :=
  h.down (by have := guess_down F.tv F.tw F.lw h.sum hg; simpa using this)
theorem DivDigit.guess2 (h : GuessAt V W v1 top g rest) (hg : g < 1048576) (hx : 1048576 ≤ rest ∨ g * v2 ≤ rest * 1048576 + w2) : g * val V ≤ val W + val V :=
  guess_end F.tv F.tw F.lv h.sum F.v1p hg hx F.sv2
end

theorem div_sum {A p W W' V Q q N : Nat} (h : A + p * W + V * Q = N) (hq : q * V + W' = W) : A + p * W' + V * (Q + p * q) = N := by
  subst hq; grind
theorem ownN_drewN {w : World} {B : Nat} {v : Value} {l : Digs} (h : OwnN w B v l) (n : Nat) : OwnN (w.drewN n) B v l := h
theorem val_mid (A W C : Digs) (h : val C = 0) : val (A ++ W ++ C) = val A + 1048576 ^ A.length * val W := by
  rw [List.append_assoc, val_append, val_append, h, Nat.mul_zero, Nat.add_zero]
theorem val_set0 {l : Digs} {k d : Nat} (h : k < l.length) (h0 : l[k] = 0) : val (l.set k d) = val l + 1048576 ^ k * d := by
  have := val_set l k d h
  rw [h0, Nat.mul_zero, Nat.add_zero] at this; exact this
theorem small_mid {A W C : Digs} (h : small (A ++ W ++ C)) {W' : Digs} (h' : small W') : small (A ++ W' ++ C) := by
  intro d hd
  rcases List.mem_append.1 hd with hd | hd
  · rcases List.mem_append.1 hd with hd | hd
    · exact h d (by simp [hd])
    · exact h' d hd
  · exact h d (by simp [hd])
theorem DivWin.next {a s i qd : Nat} {V os qs A W C W' : Digs} (H : DivWin V os A W C i) (D : DivAt a s V os qs (i + 1)) (hi : i < qs.length) (hl : W'.length = W.length) (sW : small W') (hq : qd * val V + val W' = val W) (hlt : val W' < val V) :
    DivAt a s V (A ++ W' ++ C) (qs.set i qd) i ∧ (A ++ W' ++ C).length = os.length := by
  have e := H.eq
  have hqd : qd < 1048576 := by
    have h1 : qd * val V < 1048576 * val V := by have := H.lt; omega
    exact Nat.lt_of_mul_lt_mul_right h1
  refine ⟨⟨?_, small_set D.sq hqd, ?_, ?_, ?_⟩, ?_⟩
  · have := D.so
    rw [e] at this
    exact small_mid this sW
  · have h1 := D.sum
    rw [e, val_mid A W C H.zC, H.lenA] at h1
    rw [val_mid A W' C H.zC, H.lenA, val_set0 hi (D.zero i hi (by omega))]
    exact div_sum h1 hq
  · rw [List.append_assoc, List.drop_append_of_le_length (by rw [H.lenA]; omega), List.drop_of_length_le (by rw [H.lenA]; omega), List.nil_append, val_append, H.zC, Nat.mul_zero, Nat.add_zero]
    exact hlt
  · intro j hj hji
    rw [List.getElem_set, if_neg (by omega)]
    exact D.zero j (by simpa using hj) (by omega)
  · rw [e]; simp [hl]
theorem DivAt.done {a b s nq : Nat} {U V os qs : Digs} (h : DivAt a s V os qs 0) (F : DivFit a b s U V nq) (hs : 1 ≤ s) : val qs = a / b ∧ val os / s = a % b := by
  have h1 := h.sum
  have h2 := h.low
  rw [List.drop_zero] at h2
  have h3 := F.valV
  have h0 : 0 < val V := by omega
  have hq : val qs = a * s / (b * s) := by
    rw [← h1, ← h3, Nat.add_mul_div_left _ _ h0, Nat.div_eq_of_lt h2, Nat.zero_add]
  have hr : val os = a * s % (b * s) := by
    rw [← h1, ← h3, Nat.add_mul_mod_self_left, Nat.mod_eq_of_lt h2]
  rw [Nat.mul_div_mul_right _ _ hs] at hq
  rw [Nat.mul_mod_mul_right] at hr
  exact ⟨hq, by rw [hr, Nat.mul_div_cancel _ hs]⟩
theorem OwnN.cellAt {w : World} {B g n cap : Nat} {l : Digs} (h : OwnN w B (.slice (some ⟨g, 0, none⟩) n cap) l) {k d : Nat} (hk : l[k]? = some d) : w.cell? ⟨g, k, none⟩ = some (.int .i64 (d : Int)) := by
  obtain ⟨hlt, rfl⟩ := List.getElem?_eq_some_iff.1 hk
  exact h.cell hlt
set_option maxRecDepth 100000 in
set_option maxHeartbeats 8000000 in
theorem bigDiv_long (p q : Value) (a b : Nat) (w : World) (hp : RdN w p (digs a)) (hq : RdN w q (digs b)) (hab : b ≤ a) (h0 : 1 < (digs b).length) (hn : (digs a).length ≤ 1099511627776) :
    Calls Try.prog 81 #[p, q] w fun e w' => ∃ v r, e = .returned (.tuple #[v, r]) ∧ OwnN w' w.heap.size v (digs (a / b)) ∧ OwnN w' w.heap.size r (digs (a % b)) ∧ Below w.heap.size w w' := by
  have HO : Hid (0 ≤ ord a b) := by
    show _ ≤ _
    rcases Nat.lt_or_ge b a with h | h
    · rw [ord_gt (by omega)]; omega
    · obtain rfl : a = b := by omega
      rw [ord_eq]; omega
  obtain ⟨o, ho⟩ : ∃ o, o = ord a b := ⟨_, rfl⟩
  have hon : 0 ≤ o := by rw [ho]; exact HO.out
  have HOO := Lib.hid ho; clear ho
  have hlen := digs_len_mono hab
  obtain ⟨P, hP⟩ : ∃ P, P = digs a := ⟨_, rfl⟩
  obtain ⟨Q, hQ⟩ : ∃ Q, Q = digs b := ⟨_, rfl⟩
  have sP : small P := by rw [hP]; exact digs_small a
  have sQ : small Q := by rw [hQ]; exact digs_small b
  have hlast : Q.getLast? ≠ some 0 := by rw [hQ]; exact digs_last b
  rw [← hP] at hp hn hlen
  rw [← hQ] at hq h0 hlen
  have HPa : Hid (val P = a) := by show _ = _; rw [hP, val_digs]
  have HQb : Hid (val Q = b) := by show _ = _; rw [hQ, val_digs]
  have HP := Lib.hid hp
  have HQ := Lib.hid hq
  have HDP := Lib.hid hP
  have HDQ := Lib.hid hQ
  clear hp hq hP hQ
  obtain ⟨a2, cap2, rfl⟩ := HQ.out.shape
  obtain ⟨a1, cap1, rfl⟩ := HP.out.shape
  go_enter Try.func81, Try.ntmps81
  go_wp2_with fail
  refine (bigcmp_any _ _ a b w (by rw [← HDP.out]; exact HP.out) (by rw [← HDQ.out]; exact HQ.out) (by rw [← HDP.out]; exact hn) (by rw [← HDQ.out]; omega)).mono ?_
  rintro e w1 ⟨rfl, hb⟩
  rw [← HOO.out]
  have HB := Lib.hid hb; clear hb
  obtain ⟨m, hm⟩ : ∃ m, m = Q.length - 1 := ⟨_, rfl⟩
  have ht : m < Q.length := by omega
  have hidx : (Q.length : Int) - 1 = (m : Int) := by omega
  have hm1 : 1 ≤ m := by omega
  have hmb : m ≤ 1099511627776 := by omega
  have hnq : Q.length ≤ 1099511627776 := by omega
  obtain ⟨b1, off1, rfl, hb1, hcell⟩ := (HQ.out.keep HB.out).at ht
  obtain ⟨t, htt⟩ : ∃ t, t = Q[m] := ⟨_, rfl⟩
  rw [← htt] at hcell
  have ht1 : 1 ≤ t := by
    rcases Nat.eq_zero_or_pos t with h | h
    · exfalso; apply hlast; rw [List.getLast?_eq_getElem?, ← hm, List.getElem?_eq_getElem ht, ← htt, h]
    · exact h
  have hts : t < 1048576 := by rw [htt]; exact small_get sQ _ ht
  have HT := Lib.hid htt
  have HM := Lib.hid hm
  have HL := Lib.hid hlen
  clear hlast htt hm hlen
  have e1 : ((Q.length : Int) == 1) = false := by rw [beq_eq_false_iff_ne]; omega
  go_wp2_with fail
  go_loop [8] (fun v => ∃ s : Nat, 1 ≤ s ∧ s < 1048576 ∧ v = .int .i64 s ∧ Hid (t * s < 1048576)) (fun v => 1048576 - (intOf v).toNat)
  case atStart => exact ⟨1, by omega, by omega, rfl, by show _ < _; omega⟩
  case round =>
    obtain ⟨s, hs1, hs2, rfl, HTS⟩ := hrel
    obtain ⟨z, hz⟩ : ∃ z : Nat, z = t * s := ⟨_, rfl⟩
    have hzb : z < 1048576 := by rw [hz]; exact HTS.out
    have hzs : s ≤ z := by rw [hz]; have := Nat.mul_le_mul_right s ht1; omega
    have hzi : ((t : Int) * (s : Int)) = (z : Int) := by rw [hz]; simp
    have HZ := Lib.hid hz; clear hz
    by_cases hlt : z < 524288
    · have e2 : decide ((z : Int) < 524288) = true := by rw [decide_eq_true_eq]; omega
      have HLT := Lib.hid hlt; clear hlt
      go_wp2_with fail
      go_round
      case rel => exact ⟨s * 2, by omega, by have := HLT.out; omega, by go_num, by show _ < _; have := HLT.out; rw [← Nat.mul_assoc, ← HZ.out]; omega⟩
      case measure => simp [intOf]; omega
    · have e2 : decide ((z : Int) < 524288) = false := by rw [decide_eq_false_iff_not]; omega
      have HLT := Lib.hid hlt; clear hlt
      go_wp2_with fail
      refine (bigMul_any _ _ P [s] _ (HP.out.keep (HB.out.alloc HB.out.size _)) (own_lit1 w1 w1.heap.size s (Nat.le_refl _)).rd sP (small_one hs2) hn (by simp)).mono ?_
      rintro e w2 ⟨v1, rfl, ho1, hb2⟩
      have hv1 : val P * val [s] = a * s := by rw [HPa.out]; simp [val]
      rw [hv1] at ho1
      have HO1 := Lib.hid ho1; clear ho1 hv1
      have HB2 := Lib.hid hb2; clear hb2
      have hBw : w.heap.size ≤ w2.heap.size := by have h1 := HB.out.size; have h2 := HB2.out.size; simp at h2; omega
      have HA1 : Hid (OwnN (w2.alloc (.cells #[.int .i64 0] 3)) w.heap.size v1 (digs (a * s))) := (HO1.out.keep ((Below.refl _ _).alloc (Nat.le_refl _) _)).mono (by have h1 := HB.out.size; simp; omega)
      have HA2 : Hid (RdN (w2.alloc (.cells #[.int .i64 0] 3)) (.slice (some ⟨w2.heap.size, 0, none⟩) 1 1) [0]) := (own_lit1 w2 w2.heap.size 0 (Nat.le_refl _)).rd
      have HA3 : Hid ((digs (a * s)).length ≤ P.length + 1) := by show _ ≤ _; rw [HDP.out]; exact digs_len_mul_one hs2
      have HB3 : Hid (Below w.heap.size w w2) := (HB.out.alloc HB.out.size _).trans (HB2.out.mono (by have h1 := HB.out.size; simp; omega))
      go_wp2_with (at_builtin; go_must (refine wpList_appendN rfl _ _ rfl (w2.alloc (.cells #[.int .i64 0] 3)) w.heap.size v1 (digs (a * s)) rfl HA1.out ⟨w2.heap.size, 0, none⟩ 1 1 [0] rfl rfl HA2.out (by have := HA3.out; simp; omega) (by simp; omega) ?_; intro v3 w3 ho3 hg3 hb3))
      have HO3 := Lib.hid ho3; clear ho3
      have HB4 : Hid (Below w.heap.size w w3) := (HB3.out.alloc HB3.out.size _).trans hb3
      clear hg3 hb3
      refine (bigMul_any _ _ Q [s] _ (HQ.out.keep (HB4.out.alloc HB4.out.size _)) (own_lit1 w3 w3.heap.size s (Nat.le_refl _)).rd sQ (small_one hs2) hnq (by simp)).mono ?_
      rintro e w4 ⟨v4, rfl, ho4, hb4⟩
      have hv4 : val Q * val [s] = b * s := by rw [HQb.out]; simp [val]
      rw [hv4] at ho4
      have HB5 : Hid (Below w3.heap.size w3 w4) := below_new hb4
      clear hb4 hv4
      obtain ⟨U, V, nq, HU, HV, HF⟩ := div_start a b s hs1 hab (pos_of_len (by rw [← HDQ.out]; exact h0))
      have hVlen : 2 ≤ V.length := by have h1 := HF.out.lenV; rw [← HDQ.out] at h1; omega
      have hUP : P.length < U.length := by have h1 := HF.out.lenU; rw [← HDP.out] at h1; exact h1
      have hUb : U.length ≤ 1099511627778 := by rw [HU.out]; simp; have := HA3.out; omega
      have hnq1 : nq + V.length = U.length := HF.out.len
      rw [← HU.out] at HO3
      rw [← HV.out] at ho4
      have hnn : (U.length : Int) - (V.length : Int) = (nq : Int) := by omega
      have hVb : V.length ≤ 1099511627778 := by omega
      have hnb : nq ≤ 1099511627778 := by omega
      have e3 : ((U.length : Int) == (P.length : Int)) = false := by rw [beq_eq_false_iff_ne]; omega
      have HNQ := Lib.hid hnq1; clear hnq1
      rcases HO3.out.shape with ⟨-, h⟩ | ⟨gu, capu, rfl, hgu, hgul, hcapu⟩
      · exfalso; rw [h] at hUP; simp at hUP
      rcases ho4.shape with ⟨-, h⟩ | ⟨gv, capv, rfl, hgv, hgvl, hcapv⟩
      · exfalso; rw [h] at hVlen; simp at hVlen
      have HO4 := Lib.hid (ho4.mono (B' := w.heap.size) (by have := HB4.out.size; simp; omega)); clear ho4
      have HO5 := Lib.hid (HO3.out.keep HB5.out)
      have HB6 : Hid (Below w.heap.size w w4) := HB4.out.trans (HB5.out.mono HB4.out.size)
      have hne : gv ≠ gu := by simp at hgv; omega
      go_wp2_with (at_make; go_must (refine wpList_mkints rfl _ _ rfl w4 w4.heap.size nq _ _ rfl rfl rfl rfl (by omega) (Nat.le_refl _) ?_; intro w5 ho5 hb5))
      have HA : Hid (OwnN w5 w.heap.size (.slice (some ⟨w4.heap.size, 0, none⟩) nq nq) (List.replicate nq 0)) := ho5.mono HB6.out.size
      have HAu := Lib.hid (HO5.out.keep hb5)
      have HAv := Lib.hid (HO4.out.keep hb5)
      have HAb : Hid (Below w.heap.size w w5) := HB6.out.trans (hb5.mono HB6.out.size)
      have hguq : gu ≠ w4.heap.size := by have := HB5.out.size; omega
      have hgvq : gv ≠ w4.heap.size := by omega
      have hw4 : w.heap.size ≤ w4.heap.size := HB6.out.size
      clear ho5 hb5 HO1 HB2 HA1 HA2 HA3 HB3 hidx hcell e1 e3 hBw HTS hzb hzs hzi HZ e2 HLT hcapv hm1 hmb hnq ht1 hts HT HM HL hb1 hgul hgvl hgv HO3 HO4 HO5 HB4 HB5 HB6 HQ HP
      go_loopw [13] (fun v wr => ∃ (k : Nat) (os qs : Digs), k ≤ nq ∧ os.length = U.length ∧ qs.length = nq ∧ v = .int .i64 ((k : Int) - 1) ∧ Hid (DivAt a s V os qs k) ∧ Hid (OwnN wr w.heap.size (.slice (some ⟨gu, 0, none⟩) U.length capu) os) ∧ Hid (OwnN wr w.heap.size (.slice (some ⟨gv, 0, none⟩) V.length capv) V) ∧ Hid (OwnN wr w.heap.size (.slice (some ⟨w4.heap.size, 0, none⟩) nq nq) qs) ∧ Hid (Below w.heap.size w wr)) (fun v _ => (intOf v + 1).toNat)
      case atStart => exact ⟨nq, U, List.replicate nq 0, Nat.le_refl _, rfl, by simp, rfl, HF.out.start, HAu, HAv, HA, HAb⟩
      case round =>
        obtain ⟨k, os, qs, hk, hlo, hlq, rfl, HD, HWu, HWv, HWq, HWB⟩ := hrel
        have HLo := Lib.hid hlo
        have HLq := Lib.hid hlq
        by_cases hk0 : 0 < k
        · obtain ⟨i, rfl⟩ : ∃ i, k = i + 1 := ⟨k - 1, by omega⟩
          have em : (((i + 1 : Nat) : Int) - 1) = (i : Int) := by omega
          rw [em]; clear em
          obtain ⟨A, W, C, n2, x0, x1, x2, y1, w0, w1d, w2d, v1d, v2d, top, g0, r0, HF2⟩ := div_digit HF.out HD.out (by omega) hVlen hlo hUb
          have hi0 := HF2.out.i0
          have hi1 := HF2.out.i1
          have hi2 := HF2.out.i2
          have hj1 := HF2.out.j1
          have hj2 := HF2.out.j2
          have hc0 := HWu.out.cellAt HF2.out.c0
          have hc1 := HWu.out.cellAt HF2.out.c1
          have hc2 := HWu.out.cellAt HF2.out.c2
          have hd1 := HWv.out.cellAt HF2.out.d1
          have hd2 := HWv.out.cellAt HF2.out.d2
          have hs0 := HF2.out.s0
          have hs2' := HF2.out.s2
          have hsv1 := HF2.out.sv1
          have hsv2 := HF2.out.sv2
          have hv1p := HF2.out.v1p
          have hor := HF2.out.hor
          have htb := HF2.out.tb
          have htd := HF2.out.td
          have htm := HF2.out.tm
          have hg0b := HF2.out.g0b
          have hr0b := HF2.out.r0b
          obtain ⟨hxb0, hxb1, hxb2, hyb1, hib, hnb2⟩ := HF2.out.ib
          have hx0 : x0 ≤ 1099511627778 := by omega
          have hq0 : (x0 : Int) < (U.length : Int) := by omega
          have hq1 : (x1 : Int) < (U.length : Int) := by omega
          have hq2 : (x2 : Int) < (U.length : Int) := by omega
          have hq3 : (y1 : Int) < (V.length : Int) := by omega
          have hq4 : (n2 : Int) < (V.length : Int) := by omega
          have wi0 : IntKind.i64.wrap ((i : Int) + (V.length : Int)) = (x0 : Int) := by rw [hi0]; exact IntWalk.i64_in _ (by omega)
          have wi1 : IntKind.i64.wrap ((x0 : Int) - 1) = (x1 : Int) := by rw [hi1]; exact IntWalk.i64_in _ (by omega)
          have wi2 : IntKind.i64.wrap ((x0 : Int) - 2) = (x2 : Int) := by rw [hi2]; exact IntWalk.i64_in _ (by omega)
          have wj1 : IntKind.i64.wrap ((V.length : Int) - 1) = (y1 : Int) := by rw [hj1]; exact IntWalk.i64_in _ (by omega)
          have wj2 : IntKind.i64.wrap ((V.length : Int) - 2) = (n2 : Int) := by rw [hj2]; exact IntWalk.i64_in _ (by omega)
          have ws0 : IntKind.i64.wrap ((w0 : Int) * 1048576) = (w0 : Int) * 1048576 := IntWalk.i64_in _ (by omega)
          clear hlo hlq
          go_wp2_with fail
          go_quiet (fail)
          go_wp2_with fail
          have ev1 : ((v1d : Int) == 0) = false := by rw [beq_eq_false_iff_ne]; omega
          have wg0 : IntKind.i64.wrap (g0 : Int) = (g0 : Int) := IntWalk.i64_in _ (by omega)
          go_quiet (fail)
          go_wp2_with fail
          obtain ⟨wo, rfl⟩ : ∃ wo : World, wo = wr := ⟨_, rfl⟩
          have HG0 : Hid (GuessAt V W v1d top g0 r0) := HF2.out.guess0
          clear wi0 hor htd htm wg0 hc0 hc1 hq0 hq1 wi1
          go_loopw [15, 16] (fun a b wr => ∃ g rest nd : Nat, a = .int .i64 g ∧ b = .int .i64 rest ∧ wr = wo.drewN nd ∧ Hid (GuessAt V W v1d top g rest)) (fun a _ _ => (intOf a).toNat)
          case atStart => exact ⟨g0, r0, _, rfl, rfl, World.drewN_drewN _ _ _, HG0⟩
          case round =>
            obtain ⟨g, rest, nd, rfl, rfl, rfl, HG⟩ := hrel
            have hgt : g ≤ top := HG.out.le hv1p
            have hrt : rest ≤ top := HG.out.le2
            by_cases hA : 1048576 ≤ g
            · have eA : decide (1048576 ≤ (g : Int)) = true := by rw [decide_eq_true_eq]; omega
              obtain ⟨g', hg'⟩ : ∃ g', g = g' + 1 := ⟨g - 1, by omega⟩
              have HG' : Hid (GuessAt V W v1d top g' (rest + v1d)) := by
                have h1 := HG.out
                rw [hg'] at h1 hA
                exact h1.big HF2.out.win.lt hA
              have hgm : (g : Int) - 1 = (g' : Int) := by omega
              have HAA := Lib.hid hA
              have HGG := Lib.hid hg'
              clear hA hg'
              go_wp2_with fail
              go_quiet (fail)
              go_wp2_with fail
              go_roundw
              case rel => exact ⟨g', rest + v1d, _, rfl, by go_num, rfl, HG'⟩
              case measure => have := HGG.out; simp [intOf]; omega
            · have eA : decide (1048576 ≤ (g : Int)) = false := by rw [decide_eq_false_iff_not]; omega
              have hgB : g < 1048576 := by omega
              clear hA
              by_cases hR : 1048576 ≤ rest
              · have eR : decide ((rest : Int) < 1048576) = false := by rw [decide_eq_false_iff_not]; omega
                have HEX : Hid (g * val V ≤ val W + val V) := HF2.out.guess2 HG.out (by omega) (.inl hR)
                go_wp2_with fail
                go_quiet (fail)
                go_wp2_with fail
                have hxi : x0 + 1 - i = W.length := by have := HF2.out.win.lenW; have := HF2.out.i0; omega
                rw [hxi]
                have HWl := Lib.hid hxi
                clear hxi
                refine (bigSettle_any w.heap.size gu gv i U.length capu _ capv g A W C V _ (ownN_drewN (by rw [← HF2.out.win.eq]; exact HWu.out) _) (ownN_drewN HWv.out _) hne HF2.out.win.lenA HF2.out.win.sW HF.out.sV (by rw [HF2.out.win.lenW]; omega) (by rw [HF2.out.win.lenW]; omega) hgB HEX.out HG.out.hi).mono ?_
                rintro e w6 ⟨qd, rfl, HS⟩
                obtain ⟨W', hW', hlW, sW', hqe, hql⟩ := HS.left
                have HWq6 := Lib.hid ((ownN_drewN HWq.out _).far HS.frame (Ne.symm hguq))
                have HWv6 := Lib.hid ((ownN_drewN HWv.out _).far HS.frame hne)
                have HWB6 : Hid (Below w.heap.size w w6) := (below_drewN HWB.out _).grown HS.frame HWB.out.size (by intro k hk; cases hk; exact hgu)
                have hiq : i < qs.length := by rw [HLq.out]; omega
                have hcq := HWq6.out.cell hiq
                have hfq := HWq6.out.live i
                have HND : Hid (DivAt a s V (A ++ W' ++ C) (qs.set i qd) i ∧ (A ++ W' ++ C).length = U.length) := by
                  have h1 := HF2.out.win.next HD.out hiq hlW sW' hqe hql
                  exact ⟨h1.1, h1.2.trans HLo.out⟩
                have HW6 := Lib.hid hW'
                clear HS hW' hlW sW' hqe hql
                go_wp2_with fail
                go_roundw
                case rel => exact ⟨i, A ++ W' ++ C, qs.set i qd, Nat.le_of_succ_le hk, HND.out.2, by rw [List.length_set]; exact HLq.out, rfl, HND.out.1, HW6.out.far (only_setCell (World.grownBy.refl _ _) _) hguq, HWv6.out.far (only_setCell (World.grownBy.refl _ _) _) hgvq, HWq6.out.set i qd, HWB6.out.setCell hw4 _⟩
                case measure => simp [intOf]
              · have eR : decide ((rest : Int) < 1048576) = true := by rw [decide_eq_true_eq]; omega
                have hrB : rest < 1048576 := by omega
                clear hR
                obtain ⟨zz, hzz⟩ : ∃ z : Nat, z = g * v2d := ⟨_, rfl⟩
                have hzzb : zz ≤ 1099509530625 := by rw [hzz]; exact Nat.mul_le_mul (show g ≤ 1048575 by omega) (show v2d ≤ 1048575 by omega)
                have hzzi : ((g : Int) * (v2d : Int)) = (zz : Int) := by rw [hzz]; simp
                obtain ⟨o2, ho2⟩ : ∃ x, x = rest * 1048576 + w2d := ⟨_, rfl⟩
                have hor2 : bits .or .i64 ((rest : Int) * 1048576) (w2d : Int) = (o2 : Int) := by rw [or20 (by omega) hs2', ho2]
                have wzz : IntKind.i64.wrap (zz : Int) = (zz : Int) := IntWalk.i64_in _ (by omega)
                have wrs : IntKind.i64.wrap ((rest : Int) * 1048576) = (rest : Int) * 1048576 := IntWalk.i64_in _ (by omega)
                have HZZ := Lib.hid hzz
                have HO2 := Lib.hid ho2
                clear hzz ho2
                by_cases hC : o2 < zz
                · have eC : decide ((o2 : Int) < (zz : Int)) = true := by rw [decide_eq_true_eq]; omega
                  have eC' : decide (o2 < zz) = true := by rw [decide_eq_true_eq]; omega
                  have hg1 : 1 ≤ g := by
                    rcases Nat.eq_zero_or_pos g with h | h
                    · have := HZZ.out; rw [h, Nat.zero_mul] at this; omega
                    · exact h
                  obtain ⟨g', hg'⟩ : ∃ g', g = g' + 1 := ⟨g - 1, by omega⟩
                  have HG' : Hid (GuessAt V W v1d top g' (rest + v1d)) := by
                    have h1 := HG.out
                    rw [HO2.out, HZZ.out] at hC
                    rw [hg'] at h1 hC
                    exact HF2.out.guess1 h1 hC
                  have hgm : (g : Int) - 1 = (g' : Int) := by omega
                  have HGG := Lib.hid hg'
                  clear hg' hC
                  go_wp2_with fail
                  go_quiet (fail)
                  go_wp2_with fail
                  go_roundw
                  case rel => exact ⟨g', rest + v1d, _, rfl, by go_num, rfl, HG'⟩
                  case measure => have := HGG.out; simp [intOf]; omega
                · have eC : decide ((o2 : Int) < (zz : Int)) = false := by rw [decide_eq_false_iff_not]; omega
                  have eC' : decide (o2 < zz) = false := by rw [decide_eq_false_iff_not]; omega
                  have HEX : Hid (g * val V ≤ val W + val V) := HF2.out.guess2 HG.out (by omega) (.inr (by rw [← HZZ.out, ← HO2.out]; omega))
                  go_wp2_with fail
                  go_quiet (fail)
                  go_wp2_with fail
                  have hxi : x0 + 1 - i = W.length := by have := HF2.out.win.lenW; have := HF2.out.i0; omega
                  rw [hxi]
                  have HWl := Lib.hid hxi
                  clear hxi
                  refine (bigSettle_any w.heap.size gu gv i U.length capu _ capv g A W C V _ (ownN_drewN (by rw [← HF2.out.win.eq]; exact HWu.out) _) (ownN_drewN HWv.out _) hne HF2.out.win.lenA HF2.out.win.sW HF.out.sV (by rw [HF2.out.win.lenW]; omega) (by rw [HF2.out.win.lenW]; omega) hgB HEX.out HG.out.hi).mono ?_
                  rintro e w6 ⟨qd, rfl, HS⟩
                  obtain ⟨W', hW', hlW, sW', hqe, hql⟩ := HS.left
                  have HWq6 := Lib.hid ((ownN_drewN HWq.out _).far HS.frame (Ne.symm hguq))
                  have HWv6 := Lib.hid ((ownN_drewN HWv.out _).far HS.frame hne)
                  have HWB6 : Hid (Below w.heap.size w w6) := (below_drewN HWB.out _).grown HS.frame HWB.out.size (by intro k hk; cases hk; exact hgu)
                  have hiq : i < qs.length := by rw [HLq.out]; omega
                  have hcq := HWq6.out.cell hiq
                  have hfq := HWq6.out.live i
                  have HND : Hid (DivAt a s V (A ++ W' ++ C) (qs.set i qd) i ∧ (A ++ W' ++ C).length = U.length) := by
                    have h1 := HF2.out.win.next HD.out hiq hlW sW' hqe hql
                    exact ⟨h1.1, h1.2.trans HLo.out⟩
                  have HW6 := Lib.hid hW'
                  clear HS hW' hlW sW' hqe hql
                  go_wp2_with fail
                  go_roundw
                  case rel => exact ⟨i, A ++ W' ++ C, qs.set i qd, Nat.le_of_succ_le hk, HND.out.2, by rw [List.length_set]; exact HLq.out, rfl, HND.out.1, HW6.out.far (only_setCell (World.grownBy.refl _ _) _) hguq, HWv6.out.far (only_setCell (World.grownBy.refl _ _) _) hgvq, HWq6.out.set i qd, HWB6.out.setCell hw4 _⟩
                  case measure => simp [intOf]
        · obtain rfl : k = 0 := by omega
          have em : ((0 : Nat) : Int) - 1 = -1 := rfl
          rw [em]; clear em
          have HQR : Hid (val qs = a / b ∧ val os / s = a % b) := HD.out.done HF.out hs1
          have hol : Hid (os.length ≤ 8796093022208) := by show _ ≤ _; omega
          have hql : Hid (qs.length ≤ 8796093022208) := by show _ ≤ _; omega
          have hvl : Hid ((digs (val os)).length ≤ 1099511627778) := by
            show _ ≤ _
            have := digs_len_of_lt (val_lt HD.out.so)
            omega
          clear hlo hlq
          go_wp2_with fail
          refine (bigTrim_own w.heap.size _ os _ HWu.out HD.out.so hol.out).mono ?_
          rintro e w6 ⟨v6, rfl, ho6, rfl⟩
          have HO6 := Lib.hid ho6; clear ho6
          go_wp2_with fail
          refine (bigShort_any v6 (digs (val os)) s _ HO6.out.rd (digs_small _) hs1 hs2 (by have := hvl.out; omega)).mono ?_
          rintro e w7 ⟨v7, rfl, ho7, hb7⟩
          rw [val_digs, HQR.out.2] at ho7
          have HO7 := Lib.hid (ho7.mono HWB.out.size); clear ho7
          have HQ7 := Lib.hid (HWq.out.keep hb7)
          have HB7 : Hid (Below w.heap.size w w7) := HWB.out.trans (hb7.mono HWB.out.size)
          clear hb7
          rw [val_digs]
          go_wp2_with fail
          refine (bigTrim_own w.heap.size _ qs _ HQ7.out HD.out.sq hql.out).mono ?_
          rintro e w8 ⟨v8, rfl, ho8, rfl⟩
          rw [HQR.out.1] at ho8
          have HO8 := Lib.hid ho8; clear ho8
          go_wp2_with fail
          go_ret2
          exact ⟨v8, v7, rfl, HO8.out, HO7.out, HB7.out⟩
theorem bigDiv_any (p q : Value) (a b : Nat) (w : World) (hp : RdN w p (digs a)) (hq : RdN w q (digs b)) (hb : 0 < b) (hn : (digs a).length ≤ 1099511627775) (hm : (digs b).length ≤ 1099511627776) :
    Calls Try.prog 81 #[p, q] w fun e w' => ∃ v r, e = .returned (.tuple #[v, r]) ∧ OwnN w' w.heap.size v (digs (a / b)) ∧ OwnN w' w.heap.size r (digs (a % b)) ∧ Below w.heap.size w w' := by
  rcases Nat.lt_or_ge a b with h | h
  · exact bigDiv_lt p q a b w hp hq h (by omega) hm
  · rcases Nat.lt_or_ge 1 (digs b).length with h1 | h1
    · exact bigDiv_long p q a b w hp hq h h1 (by omega)
    · exact bigDiv_one p q a b w hp hq h hb (by
        have := digs_len_lt b
        have h2 : 1048576 ^ (digs b).length ≤ 1048576 ^ 1 := Nat.pow_le_pow_right (by omega) h1
        omega) (by omega)
end Go.Proofs.Ytjbfngjlepafgaa
namespace Go.Proofs.Ytjbfngjlepafgaa
open Go.RowKit
variable {G : Nat}

theorem sign_cases (z : Int) : z.sign = 1 ∨ z.sign = -1 ∨ z.sign = 0 := by
  rcases Int.lt_trichotomy z 0 with h | h | h
  · exact .inr (.inl (Int.sign_eq_neg_one_of_neg h))
  · exact .inr (.inr (by rw [h]; rfl))
  · exact .inl (Int.sign_eq_one_of_pos h)
theorem sign_mul_abs (z : Int) : z.sign * (z.natAbs : Int) = z := Int.sign_mul_natAbs z
theorem rightB_is (z : Int) : rightB (sg z) (ints (digs z.natAbs)) = true := by
  unfold sg
  have h1 : (ints (digs z.natAbs)).all digitOk = true := by
    rw [List.all_eq_true]
    intro d hd
    simp only [ints, List.mem_map] at hd
    obtain ⟨k, hk, rfl⟩ := hd
    have := digs_small _ k hk
    exact digitOk_yes (by omega) (by omega)
  rw [rightB, h1, Bool.true_and]
  by_cases h0 : ints (digs z.natAbs) = []
  · rw [if_pos h0]
    have h2 : digs z.natAbs = [] := by simpa [ints] using h0
    have h3 : z = 0 := by have := digs_nil.1 h2; omega
    rw [h3]; rfl
  · rw [if_neg h0]
    have h2 : (ints (digs z.natAbs)).getLast? ≠ some 0 := by
      have := digs_last z.natAbs
      simp only [ints, List.getLast?_map]
      intro h
      cases hl : (digs z.natAbs).getLast? with
      | none => rw [hl] at h; cases h
      | some d => rw [hl] at h this; simp at h; subst h; exact this rfl
    have h3 : z ≠ 0 := by rintro rfl; exact h0 rfl
    rcases sign_cases z with h | h | h
    · simp [h, h2]
    · simp [h, h2]
    · exact absurd (Int.sign_eq_zero_iff_zero.1 h) h3
/-- A block of the call's own, known whole. -/
def Bx (w : World) (g : Nat) (T : TypeId) (cs : Array Value) : Prop := w.heap[g]? = some (.cells cs T (0, 0))
theorem Bx.lt {w : World} {g : Nat} {T : TypeId} {cs : Array Value} (h : Bx w g T cs) : g < w.heap.size := by
  rcases Nat.lt_or_ge g w.heap.size with hlt | hge
  · exact hlt
  · unfold Bx at h; rw [Array.getElem?_eq_none hge] at h; cases h
theorem Bx.keep {w w' : World} {g : Nat} {T : TypeId} {cs : Array Value} (h : Bx w g T cs) (hb : Below w.heap.size w w') : Bx w' g T cs := (hb.block g h.lt).trans h
theorem Bx.at {w : World} {g : Nat} {T : TypeId} {cs : Array Value} (h : Bx w g T cs) : (∀ j, w.cell? ⟨g, j, none⟩ = cs[j]?) ∧ (∀ j, w.frozen? ⟨g, j, none⟩ = false) := by
  unfold Bx at h
  exact ⟨fun j => by simp [World.cell?, h], fun j => by simp [World.frozen?, h]⟩
theorem Bx.new (w : World) (T : TypeId) (cs : Array Value) : Bx (w.alloc (.cells cs T)) w.heap.size T cs := by unfold Bx; show (w.heap.push _)[w.heap.size]? = _; simp
theorem below_call {w1 W w2 : World} (h : Below w1.heap.size w1 W) (h2 : Below W.heap.size W w2) : Below w1.heap.size w1 w2 := h.trans (h2.mono h.size)
theorem below_alloc (w : World) (o : Obj) : Below w.heap.size w (w.alloc o) := (Below.refl _ _).alloc (Nat.le_refl _) o
theorem bx1 (w : World) (T : TypeId) (c1 : Array Value) : Bx (w.alloc (.cells c1 T)) w.heap.size T c1 := Bx.new w T c1
theorem bx2 (w : World) (T1 T2 : TypeId) (c1 c2 : Array Value) : Bx ((w.alloc (.cells c1 T1)).alloc (.cells c2 T2)) w.heap.size T1 c1 ∧ Bx ((w.alloc (.cells c1 T1)).alloc (.cells c2 T2)) (w.heap.size + 1) T2 c2 :=
  ⟨(Bx.new w T1 c1).keep (below_alloc _ _), by have := Bx.new (w.alloc (.cells c1 T1)) T2 c2; simpa using this⟩
theorem bx3 (w : World) (T1 T2 T3 : TypeId) (c1 c2 c3 : Array Value) : Bx (((w.alloc (.cells c1 T1)).alloc (.cells c2 T2)).alloc (.cells c3 T3)) w.heap.size T1 c1 ∧
    Bx (((w.alloc (.cells c1 T1)).alloc (.cells c2 T2)).alloc (.cells c3 T3)) (w.heap.size + 1) T2 c2 ∧ Bx (((w.alloc (.cells c1 T1)).alloc (.cells c2 T2)).alloc (.cells c3 T3)) (w.heap.size + 1 + 1) T3 c3 :=
  ⟨(bx2 w T1 T2 c1 c2).1.keep (below_alloc _ _), (bx2 w T1 T2 c1 c2).2.keep (below_alloc _ _), by have := Bx.new ((w.alloc (.cells c1 T1)).alloc (.cells c2 T2)) T3 c3; simpa using this⟩
/-- A bound on the number of digits. -/
def Sz (z : Int) (n : Nat) : Prop := (digs z.natAbs).length ≤ n
theorem mul_room {x y : Int} (hx : Sz x 549755813888) (hy : Sz y 549755813888) : (digs (x.natAbs * y.natAbs)).length ≤ 8796093022208 := by
  unfold Sz at *; have := digs_len_mul x.natAbs y.natAbs; omega
theorem Sz.mono {z : Int} {n m : Nat} (h : Sz z n) (hm : n ≤ m) : Sz z m := Nat.le_trans h hm
theorem Sz.neg {z : Int} {n : Nat} (h : Sz z n) : Sz (-z) n := by unfold Sz; rw [Int.natAbs_neg]; exact h
theorem Sz.mul {x y : Int} {n m : Nat} (h : Sz x n) (h' : Sz y m) : Sz (x * y) (n + m) := by
  unfold Sz at *; rw [Int.natAbs_mul]; have := digs_len_mul x.natAbs y.natAbs; omega
theorem Sz.le {x y : Int} {n : Nat} (h : Sz x n) (hy : y.natAbs ≤ x.natAbs) : Sz y n := Nat.le_trans (digs_len_mono hy) h
theorem Sz.add {x y : Int} {n : Nat} (h : Sz x n) (h' : Sz y n) : Sz (x + y) (n + 1) := by
  unfold Sz at *
  have h1 := digs_len_add x.natAbs y.natAbs
  have h2 : (digs (x + y).natAbs).length ≤ (digs (x.natAbs + y.natAbs)).length := digs_len_mono (by omega)
  omega
theorem Sz.sub {x y : Int} {n : Nat} (h : Sz x n) (h' : Sz y n) : Sz (x - y) (n + 1) := by rw [Int.sub_eq_add_neg]; exact h.add h'.neg
theorem bigRight_ok {z : Int} {a : Option Addr} {c : Nat} {w : World} (h : BD G w a c z) (hn : Sz z 1099511627776) :
    Calls Try.prog 61 #[.agg #[.int .i64 (sg z), .slice a (ln z) c]] w fun e w' => e = .returned (.bool true) ∧ Below w.heap.size w w' := by
  have := bigRight_any (sg z) (.slice a (ln z) c) (ints (digs z.natAbs)) w h.rd (by rw [ints_len]; exact hn)
  rwa [rightB_is] at this
theorem bx4 (w : World) (T1 T2 T3 T4 : TypeId) (c1 c2 c3 c4 : Array Value) : let W := ((((w.alloc (.cells c1 T1)).alloc (.cells c2 T2)).alloc (.cells c3 T3)).alloc (.cells c4 T4))
    Bx W w.heap.size T1 c1 ∧ Bx W (w.heap.size + 1) T2 c2 ∧ Bx W (w.heap.size + 1 + 1) T3 c3 ∧ Bx W (w.heap.size + 1 + 1 + 1) T4 c4 := by
  obtain ⟨h1, h2, h3⟩ := bx3 w T1 T2 T3 c1 c2 c3
  exact ⟨h1.keep (below_alloc _ _), h2.keep (below_alloc _ _), h3.keep (below_alloc _ _), by have := Bx.new (((w.alloc (.cells c1 T1)).alloc (.cells c2 T2)).alloc (.cells c3 T3)) T4 c4; simpa using this⟩
theorem only_below {w w2 wx : World} {g : Nat} (h : Below w.heap.size w w2) (hg : w2.grownBy wx (some g)) (hle : w.heap.size ≤ g) : Below w.heap.size w wx :=
  h.trans ⟨hg.os, hg.tape, hg.output, hg.size, fun k hk => hg.block k (Nat.lt_of_lt_of_le hk h.size) (by simp; omega)⟩
theorem only_call {w2 wx w' : World} {g : Nat} (hg : w2.grownBy wx (some g)) (hb : Below wx.heap.size wx w') : w2.grownBy w' (some g) :=
  ⟨hb.os.trans hg.os, hb.tape.trans hg.tape, hb.output.trans hg.output, Nat.le_trans hg.size hb.size, fun k hk hne => (hb.block k (Nat.lt_of_lt_of_le hk hg.size)).trans (hg.block k hk hne)⟩
theorem only_start (w : World) (g : Nat) : w.grownBy w.drew (some g) := ⟨rfl, rfl, rfl, Nat.le_refl _, fun _ _ _ => rfl⟩
theorem Bx.only {w w' : World} {g g' : Nat} {T : TypeId} {cs : Array Value} (h : Bx w g T cs) (hb : w.grownBy w' (some g')) (hne : g ≠ g') : Bx w' g T cs := (hb.block g h.lt (by simp; exact hne)).trans h
theorem Bx.set {w : World} {g : Nat} {T : TypeId} {cs : Array Value} (h : Bx w g T cs) (i : Nat) (u : Value) : Bx (w.setCell ⟨g, i, none⟩ u) g T (cs.setIfInBounds i u) := by
  unfold Bx at h ⊢
  simp [World.setCell, Array.getElem?_modify, h]
theorem Bx.set2 {w : World} {g : Nat} {T : TypeId} {u0 u1 : Value} (h : Bx w g T #[u0, u1]) (x y : Value) : Bx ((w.setCell ⟨g, 0, none⟩ x).setCell ⟨g, 1, none⟩ y) g T #[x, y] := by
  have := (h.set 0 x).set 1 y; simpa using this
theorem Bx.set4 {w : World} {g : Nat} {T : TypeId} {u0 u1 u2 u3 : Value} (h : Bx w g T #[u0, u1, u2, u3]) (x y z v : Value) : Bx ((((w.setCell ⟨g, 0, none⟩ x).setCell ⟨g, 1, none⟩ y).setCell ⟨g, 2, none⟩ z).setCell ⟨g, 3, none⟩ v) g T #[x, y, z, v] := by
  have := (((h.set 0 x).set 1 y).set 2 z).set 3 v; simpa using this
/-- No int but 0 lies in these cells. -/
def Zb (cs : Array Value) : Prop := ∀ (j : Nat) n, cs[j]? = some (.int .i64 n) → n = 0
theorem zb2 : Zb #[.int .i64 0, .slice none 0 0] := by
  intro j n h
  match j, h with
  | 0, h => simp at h; exact h.symm
  | 1, h => simp at h
  | j + 2, h => simp at h
theorem zb4 : Zb #[.int .i64 0, .slice none 0 0, .int .i64 0, .slice none 0 0] := by
  intro j n h
  match j, h with
  | 0, h => simp at h; exact h.symm
  | 1, h => simp at h
  | 2, h => simp at h; exact h.symm
  | 3, h => simp at h
  | j + 4, h => simp at h
theorem BD.other {w w' : World} {g : Nat} {a : Option Addr} {c : Nat} {z : Int} (h : BD G w a c z) (hg : w.grownBy w' (some g)) (hne : ∀ b off, a = some ⟨b, off, none⟩ → b ≠ g) : BD G w' a c z := by
  refine ⟨⟨a, c, by rw [ints_len]; rfl, fun k hk => ?_⟩, h.le, ?_⟩
  rotate_left
  · rcases h.ty with h1 | h1
    · exact .inl h1
    · refine .inr fun b off ha => ?_
      rcases h1 b off ha with h2 | ⟨cs, fr, h2⟩
      · exact .inl h2
      · exact .inr ⟨cs, fr, (hg.block b (lt_of_block h2) (by have := hne b off ha; simp; exact this)).trans h2⟩
  rw [ints_len] at hk
  obtain ⟨b, off, ha, hlt, hc⟩ := RdN.at h.rd hk
  refine ⟨b, off, ha, Nat.lt_of_lt_of_le hlt hg.size, fun j u hj => ?_⟩
  have hg2 : (ints (digs z.natAbs))[k]? = some ((digs z.natAbs)[k] : Int) := by
    rw [List.getElem?_eq_getElem (by rw [ints_len]; exact hk), ints_get _ _ hk]
  dsimp only at hj
  rw [hg2] at hj
  match j, hj with
  | 0, hj =>
    simp at hj; subst hj
    rw [Nat.mul_one, Nat.add_zero, hg.cell hc (by have := hne b off ha; simp; exact this)]
  | j + 1, hj => simp at hj
/-- Digits do not lie in a block that holds no int but 0. -/
theorem BD.far0 {w w' : World} {g : Nat} {T : TypeId} {cs : Array Value} {a : Option Addr} {c : Nat} {z : Int} (h : BD G w a c z) (k : Bx w g T cs) (hz : Zb cs) (hg : w.grownBy w' (some g)) : BD G w' a c z := by
  by_cases h0 : (digs z.natAbs).length = 0
  · exact ⟨⟨a, c, by rw [ints_len]; rfl, fun k hk => by rw [ints_len] at hk; omega⟩, h.le, .inl h0⟩
  · refine h.other hg fun b off ha hb => ?_
    subst hb
    have hl : (digs z.natAbs).length - 1 < (digs z.natAbs).length := by omega
    obtain ⟨b', off', ha', -, hc⟩ := RdN.at h.rd hl
    rw [ha] at ha'
    cases ha'
    rw [k.at.1] at hc
    have := hz _ _ hc
    apply digs_last z.natAbs
    rw [List.getLast?_eq_getElem?, List.getElem?_eq_getElem hl]
    congr 1; omega
/-- Digits do not lie in a box of another type that was made behind G. -/
theorem BD.far {w w' : World} {g : Nat} {T : TypeId} {cs : Array Value} {a : Option Addr} {c : Nat} {z : Int} (h : BD G w a c z) (k : Bx w g T cs) (hT : (T == 3) = false) (hG : G ≤ g) (hg : w.grownBy w' (some g)) : BD G w' a c z := by
  rcases h.ty with h1 | h1
  · exact ⟨⟨a, c, by rw [ints_len]; rfl, fun j hj => by rw [ints_len] at hj; unfold ln at h1; omega⟩, h.le, .inl h1⟩
  · refine h.other hg fun b off ha hb => ?_
    subst hb
    rcases h1 b off ha with h2 | ⟨cs', fr, h2⟩
    · omega
    · unfold Bx at k
      rw [k] at h2
      simp only [Option.some.injEq, Obj.cells.injEq] at h2
      rw [h2.2.1] at hT
      simp at hT
theorem checked_yes {s : Int} {a : Option Addr} {n c : Nat} (w : World) :
    Calls Try.prog 64 #[.bool true, .agg #[.int .i64 s, .slice a n c]] w fun e w' => e = .returned (.tuple #[.agg #[.int .i64 s, .slice a n c], .int .i64 0]) ∧ Below w.heap.size w w' := by
  go_enter Try.func64, Try.ntmps64
  go_wp2_with fail
  go_returns
  exact ⟨rfl, by go_grown⟩
theorem signed_is {z : Int} {s : Int} {v : Value} {n B : Nat} {w : World} (h : OwnN w B v (digs n)) (hn : (digs n).length ≤ 8796093022208) (hz : s * n = z) (h1 : n ≠ 0 → s = 1 ∨ s = -1) :
    Calls Try.prog 65 #[.int .i64 s, v] w fun e w' => ∃ a c, e = .returned (.agg #[.int .i64 (sg z), .slice a (ln z) c]) ∧ BD G w' a c z ∧ Below w.heap.size w w' :=
  (signed_any (G := G) B s v (digs n) w h (digs_small n) hn (by rw [val_digs]; exact h1)).mono fun e w' ⟨r, he, hr, hb⟩ => by
    rw [val_digs, hz] at hr
    obtain ⟨a, c, rfl, hd⟩ := hr
    exact ⟨a, c, he, hd, hb⟩
theorem mul_signs (x y : Int) : sg x * sg y * ((x.natAbs * y.natAbs : Nat) : Int) = x * y := by
  have h1 := sign_mul_abs x
  have h2 := sign_mul_abs y
  have h3 : ((x.natAbs * y.natAbs : Nat) : Int) = (x.natAbs : Int) * (y.natAbs : Int) := by simp
  unfold sg
  calc x.sign * y.sign * ((x.natAbs * y.natAbs : Nat) : Int) = (x.sign * (x.natAbs : Int)) * (y.sign * (y.natAbs : Int)) := by rw [h3]; grind
    _ = x * y := by rw [h1, h2]
theorem sg_cases (z : Int) : sg z = 1 ∨ sg z = -1 ∨ sg z = 0 := sign_cases z
theorem mul_sign_one (x y : Int) (h : x.natAbs * y.natAbs ≠ 0) : sg x * sg y = 1 ∨ sg x * sg y = -1 := by
  have hx : x ≠ 0 := by rintro rfl; simp at h
  have hy : y ≠ 0 := by rintro rfl; simp at h
  unfold sg
  rcases sign_cases x with h1 | h1 | h1
  · rcases sign_cases y with h2 | h2 | h2
    · rw [h1, h2]; simp
    · rw [h1, h2]; simp
    · exact absurd (Int.sign_eq_zero_iff_zero.1 h2) hy
  · rcases sign_cases y with h2 | h2 | h2
    · rw [h1, h2]; simp
    · rw [h1, h2]; simp
    · exact absurd (Int.sign_eq_zero_iff_zero.1 h2) hy
  · exact absurd (Int.sign_eq_zero_iff_zero.1 h1) hx
theorem sg_ne {x : Int} (h : x ≠ 0) : sg x = 1 ∨ sg x = -1 := by
  rcases sg_cases x with h1 | h1 | h1
  · exact .inl h1
  · exact .inr h1
  · exact absurd (Int.sign_eq_zero_iff_zero.1 h1) h
theorem results_box1 {P : Program} {fn : Func} {p : Tmp} {ty : TypeId} (h : fn.results = #[.cell p ty]) (tmps : Array Value) (w : World) (g : Nat) (t : TypeId) (cs : Array Value) (fr : Nat × Nat) (d : TypeDesc)
    (hp : tmps.getD p undef = .pointer (some ⟨g, 0, none⟩)) (hg : w.heap[g]? = some (.cells cs t fr))
    (hu : P.underlying ty = some d) (hd : (match d with | .struct _ | .array _ _ => true | _ => false) = true) (hi : (P.info? ty).map (·.size) = some cs.size) :
    (results fn tmps).run P w = .ok (.agg cs) w := by
  have hp' : tmps[p]?.getD undef = .pointer (some ⟨g, 0, none⟩) := by simpa using hp
  simp [results, h, hp', asAddr, run_loadVar_row w g t ty cs fr d hg hu hd hi]
theorem wrap_signs (x y : Int) : IntKind.i64.wrap (sg x * sg y) = sg x * sg y := by
  rcases sg_cases x with h1 | h1 | h1 <;> rcases sg_cases y with h2 | h2 | h2 <;> rw [h1, h2] <;> rfl
set_option maxHeartbeats 4000000 in
theorem bigMul_ok {x y : Int} {a1 a2 : Option Addr} {c1 c2 : Nat} {w : World} (h1 : BD G w a1 c1 x) (h2 : BD G w a2 c2 y) (hx : Sz x 549755813888) (hy : Sz y 549755813888) :
    Calls Try.prog 70 #[.agg #[.int .i64 (sg x), .slice a1 (ln x) c1], .agg #[.int .i64 (sg y), .slice a2 (ln y) c2]] w fun e w' => ∃ a c, e = .returned (.tuple #[.agg #[.int .i64 (sg (x * y)), .slice a (ln (x * y)) c], .int .i64 0]) ∧ BD G w' a c (x * y) ∧ Below w.heap.size w w' := by
  have HM1 := Lib.hid (mul_signs x y)
  have HM2 := Lib.hid (mul_sign_one x y)
  have hws := wrap_signs x y
  have HX := Lib.hid hx
  have HY := Lib.hid hy
  have H1 := Lib.hid h1
  have H2 := Lib.hid h2
  obtain ⟨z, hz⟩ : ∃ z, z = x * y := ⟨_, rfl⟩
  rw [← hz]
  have HZ := Lib.hid hz
  clear hx hy h1 h2 hz
  go_enter Try.func70, Try.ntmps70
  go_wp2_with fail
  refine (bigRight_ok (G := G) (z := x) ?_ (HX.out.mono (by omega))).mono ?_
  · exact H1.out.keep (by go_grown)
  rintro e w1 ⟨rfl, hb⟩
  obtain ⟨B1, B2, B3⟩ := bx3 w 24 24 24 #[.int .i64 (sg x), .slice a1 (ln x) c1] #[.int .i64 (sg y), .slice a2 (ln y) c2] #[.int .i64 0, .slice none 0 0]
  have K1 := Lib.hid (B1.keep hb)
  have K2 := Lib.hid (B2.keep hb)
  have K3 := Lib.hid (B3.keep hb)
  have HB : Hid (Below w.heap.size w w1) := below_call (by go_grown) hb
  clear B1 B2 B3 hb
  obtain ⟨p1, p1'⟩ := K1.out.at
  obtain ⟨p2, p2'⟩ := K2.out.at
  obtain ⟨p3, p3'⟩ := K3.out.at
  go_wp2_with fail
  refine (bigRight_ok (G := G) (z := y) ?_ (HY.out.mono (by omega))).mono ?_
  · exact H2.out.keep (below_call HB.out (by go_grown))
  rintro e w2 ⟨rfl, hb⟩
  have hb' := below_call (by go_grown) hb
  clear p1 p1' p2 p2' p3 p3'
  have K1 := Lib.hid (K1.out.keep hb')
  have K2 := Lib.hid (K2.out.keep hb')
  have K3 := Lib.hid (K3.out.keep hb')
  have HB := Lib.hid (below_call HB.out hb')
  obtain ⟨p1, p1'⟩ := K1.out.at
  obtain ⟨p2, p2'⟩ := K2.out.at
  obtain ⟨p3, p3'⟩ := K3.out.at
  clear hb hb'
  go_wp2_with fail
  clear p1 p1' p2 p2' p3 p3'
  have mk : Hid (∀ w', w2.grownBy w' (some (w.heap.size + 1 + 1)) → w'.cell? ⟨w.heap.size, 0, none⟩ = some (.int .i64 (sg x)) ∧ w'.cell? ⟨w.heap.size, 1, none⟩ = some (.slice a1 (ln x) c1) ∧ w'.cell? ⟨w.heap.size + 1, 0, none⟩ = some (.int .i64 (sg y)) ∧ w'.cell? ⟨w.heap.size + 1, 1, none⟩ = some (.slice a2 (ln y) c2) ∧ w2.grownBy w' (some (w.heap.size + 1 + 1))) := fun w' h =>
    ⟨(K1.out.only h (by omega)).at.1 0, (K1.out.only h (by omega)).at.1 1, (K2.out.only h (by omega)).at.1 0, (K2.out.only h (by omega)).at.1 1, h⟩
  have hst := only_start w2 (w.heap.size + 1 + 1)
  go_region_held3 (fun w' => w'.cell? ⟨w.heap.size, 0, none⟩ = some (.int .i64 (sg x)) ∧ w'.cell? ⟨w.heap.size, 1, none⟩ = some (.slice a1 (ln x) c1) ∧ w'.cell? ⟨w.heap.size + 1, 0, none⟩ = some (.int .i64 (sg y)) ∧ w'.cell? ⟨w.heap.size + 1, 1, none⟩ = some (.slice a2 (ln y) c2) ∧ w2.grownBy w' (some (w.heap.size + 1 + 1)))
    (first | exact mk.out _ (by assumption) | exact mk.out _ (only_setCell (only_setCell (by assumption) _) _))
    (first
      | (go_at_call 84; refine (bigMul_any _ _ _ _ _ (H1.out.rd.keep (only_below HB.out hst (by omega))) (H2.out.rd.keep (only_below HB.out hst (by omega))) (digs_small _) (digs_small _) (HX.out.mono (by omega)) (HY.out.mono (by omega))).mono ?_; rintro e w3 ⟨v3, rfl, ho3, hb3⟩; have hg3 := only_call hst hb3; have HB3 := Lib.hid (below_call (Below.refl _ _).drew hb3); clear hb3; rw [val_digs, val_digs] at ho3; have HO3 := Lib.hid ho3; clear ho3)
      | (go_at_call 65; refine (signed_is (G := G) (z := z) HO3.out (mul_room HX.out HY.out) (HM1.out.trans HZ.out.symm) HM2.out).mono ?_; rintro e w4 ⟨a4, c4, rfl, hd4, hb4⟩; have hg4 := only_call hg3 hb4; have HB4 := Lib.hid (below_call HB3.out hb4); have HD4 := Lib.hid hd4; clear hb4 hd4)
      | (go_at_call 64; refine (checked_yes _).mono ?_; rintro e w5 ⟨rfl, hb5⟩; have hg5 := only_call hg4 hb5; have HB5 := Lib.hid (below_call HB4.out hb5); obtain ⟨q1, q2⟩ := (K3.out.keep HB5.out).at; have HD5 := Lib.hid (HD4.out.keep hb5); clear hb5))
  go_wp2_with fail
  refine bodyPost_ret (results_box2 rfl _ _ (w.heap.size + 1 + 1) 24 _ _ _ rfl ((K3.out.keep HB5.out).set2 _ _) Try.underlying24 rfl (by kernel_rfl)) rfl ⟨a4, c4, rfl, ?_, ?_⟩
  · exact HD5.out.far0 (K3.out.keep HB5.out) zb2 (only_setCell (only_setCell (World.grownBy.refl _ _) _) _)
  · exact only_below HB.out (only_setCell (only_setCell hg5 _) _) (by omega)
end Go.Proofs.Ytjbfngjlepafgaa
namespace Go.Proofs.Ytjbfngjlepafgaa
open Go.RowKit
variable {G : Nat}

set_option maxHeartbeats 4000000 in
theorem bigNeg_ok {x : Int} {a1 : Option Addr} {c1 : Nat} {w : World} (h1 : BD G w a1 c1 x) (hx : Sz x 549755813888) :
    Calls Try.prog 59 #[.agg #[.int .i64 (sg x), .slice a1 (ln x) c1]] w fun e w' => ∃ a c, e = .returned (.agg #[.int .i64 (sg (-x)), .slice a (ln (-x)) c]) ∧ BD G w' a c (-x) ∧ Below w.heap.size w w' := by
  have HX := Lib.hid hx
  have H1 := Lib.hid h1
  obtain ⟨z, hz⟩ : ∃ z, z = -x := ⟨_, rfl⟩
  have HM1 : Hid (-(sg x) * (x.natAbs : Int) = z) := by show _ = _; rw [hz, sg, Int.neg_mul, sign_mul_abs]
  have HM2 : Hid (x.natAbs ≠ 0 → -(sg x) = 1 ∨ -(sg x) = -1) := by
    intro h
    have := sg_ne (x := x) (by omega)
    omega
  have hw : IntKind.i64.wrap (-(sg x)) = -(sg x) := by rcases sg_cases x with h | h | h <;> rw [h] <;> rfl
  rw [← hz]
  clear hx h1 hz

  go_enter Try.func59, Try.ntmps59
  go_wp2_with fail
  refine (bigRight_ok (z := x) (H1.out.keep (by go_grown)) (HX.out.mono (by omega))).mono ?_
  rintro e w1 ⟨rfl, hb⟩
  have hbx := bx2 w 24 24 #[.int .i64 (sg x), .slice a1 (ln x) c1] #[.int .i64 0, .slice none 0 0]
  obtain ⟨k0, k1⟩ := hbx
  have K0 := Lib.hid (k0.keep hb)
  have K1 := Lib.hid (k1.keep hb)
  clear k0 k1
  have hb' : Below w.heap.size w w1 := below_call (by go_grown) hb
  have HB := Lib.hid hb'
  replace H1 := Lib.hid (H1.out.keep hb')
  clear hb hb'
  have p0_0 : w1.cell? ⟨w.heap.size, 0, none⟩ = some (.int .i64 (sg x)) := K0.out.at.1 0
  have q0_0 : w1.frozen? ⟨w.heap.size, 0, none⟩ = false := K0.out.at.2 0
  have p0_1 : w1.cell? ⟨w.heap.size, 1, none⟩ = some (.slice a1 (ln x) c1) := K0.out.at.1 1
  have q0_1 : w1.frozen? ⟨w.heap.size, 1, none⟩ = false := K0.out.at.2 1
  have z0 : w.heap.size < w1.heap.size := K0.out.lt
  have p1_0 : w1.cell? ⟨w.heap.size + 1, 0, none⟩ = some (.int .i64 0) := K1.out.at.1 0
  have q1_0 : w1.frozen? ⟨w.heap.size + 1, 0, none⟩ = false := K1.out.at.2 0
  have p1_1 : w1.cell? ⟨w.heap.size + 1, 1, none⟩ = some (.slice none 0 0) := K1.out.at.1 1
  have q1_1 : w1.frozen? ⟨w.heap.size + 1, 1, none⟩ = false := K1.out.at.2 1
  have z1 : w.heap.size + 1 < w1.heap.size := K1.out.lt
  go_wp2_with fail
  clear p0_0 q0_0 p0_1 q0_1 z0 p1_0 q1_0 p1_1 q1_1 z1
  have mk : Hid (∀ w', w1.grownBy w' (some (w.heap.size + 1)) → w'.cell? ⟨w.heap.size, 0, none⟩ = some (.int .i64 (sg x)) ∧ w'.cell? ⟨w.heap.size, 1, none⟩ = some (.slice a1 (ln x) c1) ∧ w1.grownBy w' (some (w.heap.size + 1))) := fun w' h => ⟨(K0.out.only h (by omega)).at.1 0, (K0.out.only h (by omega)).at.1 1, h⟩
  have hs0 : w1.grownBy w1.drew (some (w.heap.size + 1)) := only_start _ _
  have HS0 : Hid (Below w1.heap.size w1 w1.drew) := (Below.refl _ _).drew
  have tok0 : True := trivial
  have tok1 : True := trivial
  go_region_held3 (fun w' => w'.cell? ⟨w.heap.size, 0, none⟩ = some (.int .i64 (sg x)) ∧ w'.cell? ⟨w.heap.size, 1, none⟩ = some (.slice a1 (ln x) c1) ∧ w1.grownBy w' (some (w.heap.size + 1)))
    (first | exact mk.out _ (by assumption) | exact mk.out _ (only_setCell (only_setCell (by assumption) _) _) | exact mk.out _ (only_alloc (by assumption) _))
    (first
      | (go_at_call 79; have _t := tok0; refine (clone_any _ _ _ (H1.out.keep HS0.out).rd (HX.out.mono (by omega))).mono ?_; rintro e w2 ⟨v2, rfl, ho2, hb⟩; clear tok0 _t; have hs1 := only_call hs0 hb; have HS1 := Lib.hid (below_call HS0.out hb); clear hb; have Ho2 := Lib.hid ho2; clear ho2)
      | (go_at_call 65; have _t := tok1; refine (signed_is (G := G) (z := z) Ho2.out (HX.out.mono (by omega)) HM1.out HM2.out).mono ?_; rintro e w3 ⟨a3, c3, rfl, hd3, hb⟩; clear tok1 _t; have hs2 := only_call hs1 hb; have HS2 := Lib.hid (below_call HS1.out hb); have Ho2 := Lib.hid (Ho2.out.keep hb); clear hb; have Hd3 := Lib.hid hd3; clear hd3; obtain ⟨p1, q1⟩ := (K1.out.keep HS2.out).at))
  replace K0 := Lib.hid (K0.out.keep HS2.out)
  replace K1 := Lib.hid (K1.out.keep HS2.out)
  replace HB := Lib.hid (below_call HB.out HS2.out)
  replace H1 := Lib.hid (H1.out.keep HS2.out)
  clear mk hs0 HS0 hs1 HS1 hs2 HS2  p1 q1
  go_wp2_with fail
  refine bodyPost_ret (results_box1 rfl _ _ (w.heap.size + 1) 24 _ _ _ rfl (K1.out.set2 _ _) Try.underlying24 rfl (by kernel_rfl)) rfl ⟨a3, c3, rfl, ?_, ?_⟩
  · exact Hd3.out.far0 K1.out zb2 (only_setCell (only_setCell (World.grownBy.refl _ _) _) _)
  · exact (HB.out.setCell (by simp) _).setCell (by simp) _
end Go.Proofs.Ytjbfngjlepafgaa
namespace Go.Proofs.Ytjbfngjlepafgaa
open Go.RowKit
variable {G : Nat}

theorem only_alloc {a w : World} {row : Option Nat} (h : a.grownBy w row) (o : Obj) : a.grownBy (w.alloc o) row :=
  ⟨h.os, h.tape, h.output, Nat.le_trans h.size (by simp), fun i hi hne => (Below.heap_alloc w o i (Nat.lt_of_lt_of_le hi h.size)).trans (h.block i hi hne)⟩
theorem lit2 (w : World) (s t : Int) : RdZ (w.alloc (.cells #[.int .i64 s, .int .i64 t] 3)) (.slice (some ⟨w.heap.size, 0, none⟩) 2 2) [s, t] :=
  rdZ_own (World.ownsRow_lit (base := 0) w #[.int .i64 s, .int .i64 t] 2 (Nat.zero_le _) (by unfold maxLen; omega) rfl) rfl
/-- The first one that is not 0. -/
def orS (s t : Int) : Int := if s = 0 then t else s
theorem add_room {x y : Int} (hx : Sz x 549755813888) (hy : Sz y 549755813888) : (digs (x.natAbs + y.natAbs)).length ≤ 8796093022208 := by
  unfold Sz at *; have := digs_len_add x.natAbs y.natAbs; omega
theorem sg_pos {x : Int} (h : 0 < x) : sg x = 1 := Int.sign_eq_one_of_pos h
theorem sg_neg {x : Int} (h : x < 0) : sg x = -1 := Int.sign_eq_neg_one_of_neg h
theorem sg_zero' {x : Int} (h : x = 0) : sg x = 0 := by rw [h]; rfl
theorem add_signs {x y : Int} (h : 0 ≤ sg x * sg y) : orS (sg x) (sg y) * ((x.natAbs + y.natAbs : Nat) : Int) = x + y ∧ (x.natAbs + y.natAbs ≠ 0 → orS (sg x) (sg y) = 1 ∨ orS (sg x) (sg y) = -1) := by
  rcases Int.lt_trichotomy x 0 with hx | hx | hx
  · rw [sg_neg hx] at *
    rcases Int.lt_trichotomy y 0 with hy | hy | hy
    · rw [sg_neg hy] at *; simp [orS]; omega
    · rw [sg_zero' hy] at *; simp [orS]; omega
    · rw [sg_pos hy] at h; omega
  · rw [sg_zero' hx] at *
    rcases Int.lt_trichotomy y 0 with hy | hy | hy
    · rw [sg_neg hy] at *; simp [orS]; omega
    · rw [sg_zero' hy] at *; simp [orS]; omega
    · rw [sg_pos hy] at *; simp [orS]; omega
  · rw [sg_pos hx] at *
    rcases Int.lt_trichotomy y 0 with hy | hy | hy
    · rw [sg_neg hy] at h; omega
    · rw [sg_zero' hy] at *; simp [orS]; omega
    · rw [sg_pos hy] at *; simp [orS]; omega
set_option maxHeartbeats 4000000 in
theorem cmpOr_any (v : Value) (s t : Int) (w : World) (h : RdZ w v [s, t]) :
    Calls Try.prog 66 #[v] w fun e w' => e = .returned (.int .i64 (orS s t)) ∧ Below w.heap.size w w' := by
  obtain ⟨a, cap, rfl⟩ := h.shape
  obtain ⟨b, off, rfl, hb, hc0⟩ := h.at (k := 0) (by simp)
  obtain ⟨b', off', ha, hb', hc1⟩ := h.at (k := 1) (by simp)
  cases ha
  rw [Nat.add_zero] at hc0
  simp only [List.getElem_cons_zero, List.getElem_cons_succ] at hc0 hc1
  clear h
  by_cases h0 : s = 0
  · have e0 : (s != 0) = false := by rw [h0]; rfl
    have HO : Hid (orS s t = t) := by show _ = _; rw [orS, if_pos h0]
    have H0 := Lib.hid h0; clear h0
    by_cases h1 : t = 0
    · have e1 : (t != 0) = false := by rw [h1]; rfl
      have H1 := Lib.hid h1; clear h1
      go_enter Try.func66, Try.ntmps66
      go_wp2_with fail
      go_rounds 3
      go_ret
      exact ⟨ret_int (by rw [HO.out, H1.out]), Below.refl _ _⟩
    · have e1 : (t != 0) = true := by rw [bne_iff_ne]; exact h1
      clear h1
      go_enter Try.func66, Try.ntmps66
      go_wp2_with fail
      go_rounds 3
      go_ret
      exact ⟨ret_int HO.out.symm, Below.refl _ _⟩
  · have e0 : (s != 0) = true := by rw [bne_iff_ne]; exact h0
    have HO : Hid (orS s t = s) := by show _ = _; rw [orS, if_neg h0]
    clear h0
    go_enter Try.func66, Try.ntmps66
    go_wp2_with fail
    go_rounds 3
    go_ret
    exact ⟨ret_int HO.out.symm, Below.refl _ _⟩
set_option maxHeartbeats 4000000 in
theorem bigAdd_same {x y : Int} {a1 a2 : Option Addr} {c1 c2 : Nat} {w : World} (h1 : BD G w a1 c1 x) (h2 : BD G w a2 c2 y) (hx : Sz x 549755813888) (hy : Sz y 549755813888) (hs : 0 ≤ sg x * sg y) :
    Calls Try.prog 43 #[.agg #[.int .i64 (sg x), .slice a1 (ln x) c1], .agg #[.int .i64 (sg y), .slice a2 (ln y) c2]] w fun e w' => ∃ a c, e = .returned (.tuple #[.agg #[.int .i64 (sg (x + y)), .slice a (ln (x + y)) c], .int .i64 0]) ∧ BD G w' a c (x + y) ∧ Below w.heap.size w w' := by
  have HX := Lib.hid hx
  have HY := Lib.hid hy
  have H1 := Lib.hid h1
  have H2 := Lib.hid h2
  have hws := wrap_signs x y
  have e1 : decide (0 ≤ sg x * sg y) = true := by rw [decide_eq_true_eq]; exact hs
  obtain ⟨z, hz⟩ : ∃ z, z = x + y := ⟨_, rfl⟩
  have HM0 : Hid ((digs (val (digs x.natAbs) + val (digs y.natAbs))).length ≤ 8796093022208) := by rw [val_digs, val_digs]; exact add_room hx hy
  have HM1 : Hid (orS (sg x) (sg y) * ((val (digs x.natAbs) + val (digs y.natAbs) : Nat) : Int) = z) := by rw [val_digs, val_digs, hz]; exact (add_signs hs).1
  have HM2 : Hid (val (digs x.natAbs) + val (digs y.natAbs) ≠ 0 → orS (sg x) (sg y) = 1 ∨ orS (sg x) (sg y) = -1) := by rw [val_digs, val_digs]; exact (add_signs hs).2
  rw [← hz]
  clear hx hy h1 h2 hz hs

  go_enter Try.func43, Try.ntmps43
  go_wp2_with fail
  refine (bigRight_ok (z := x) (H1.out.keep (by go_grown)) (HX.out.mono (by omega))).mono ?_
  rintro e w1 ⟨rfl, hb⟩
  have hbx := bx3 w 24 24 24 #[.int .i64 (sg x), .slice a1 (ln x) c1] #[.int .i64 (sg y), .slice a2 (ln y) c2] #[.int .i64 0, .slice none 0 0]
  obtain ⟨k0, k1, k2⟩ := hbx
  have K0 := Lib.hid (k0.keep hb)
  have K1 := Lib.hid (k1.keep hb)
  have K2 := Lib.hid (k2.keep hb)
  clear k0 k1 k2
  have hb' : Below w.heap.size w w1 := below_call (by go_grown) hb
  have HB := Lib.hid hb'
  replace H1 := Lib.hid (H1.out.keep hb')
  replace H2 := Lib.hid (H2.out.keep hb')
  clear hb hb'
  have p0_0 : w1.cell? ⟨w.heap.size, 0, none⟩ = some (.int .i64 (sg x)) := K0.out.at.1 0
  have q0_0 : w1.frozen? ⟨w.heap.size, 0, none⟩ = false := K0.out.at.2 0
  have p0_1 : w1.cell? ⟨w.heap.size, 1, none⟩ = some (.slice a1 (ln x) c1) := K0.out.at.1 1
  have q0_1 : w1.frozen? ⟨w.heap.size, 1, none⟩ = false := K0.out.at.2 1
  have z0 : w.heap.size < w1.heap.size := K0.out.lt
  have p1_0 : w1.cell? ⟨w.heap.size + 1, 0, none⟩ = some (.int .i64 (sg y)) := K1.out.at.1 0
  have q1_0 : w1.frozen? ⟨w.heap.size + 1, 0, none⟩ = false := K1.out.at.2 0
  have p1_1 : w1.cell? ⟨w.heap.size + 1, 1, none⟩ = some (.slice a2 (ln y) c2) := K1.out.at.1 1
  have q1_1 : w1.frozen? ⟨w.heap.size + 1, 1, none⟩ = false := K1.out.at.2 1
  have z1 : w.heap.size + 1 < w1.heap.size := K1.out.lt
  have p2_0 : w1.cell? ⟨w.heap.size + 1 + 1, 0, none⟩ = some (.int .i64 0) := K2.out.at.1 0
  have q2_0 : w1.frozen? ⟨w.heap.size + 1 + 1, 0, none⟩ = false := K2.out.at.2 0
  have p2_1 : w1.cell? ⟨w.heap.size + 1 + 1, 1, none⟩ = some (.slice none 0 0) := K2.out.at.1 1
  have q2_1 : w1.frozen? ⟨w.heap.size + 1 + 1, 1, none⟩ = false := K2.out.at.2 1
  have z2 : w.heap.size + 1 + 1 < w1.heap.size := K2.out.lt
  go_wp2_with fail
  refine (bigRight_ok (z := y) (H2.out.keep (by go_grown)) (HY.out.mono (by omega))).mono ?_
  rintro e w2 ⟨rfl, hb⟩
  clear p0_0 q0_0 p0_1 q0_1 z0 p1_0 q1_0 p1_1 q1_1 z1 p2_0 q2_0 p2_1 q2_1 z2
  have hb' := below_call (w1 := w1) (by go_grown) hb
  replace K0 := Lib.hid (K0.out.keep hb')
  replace K1 := Lib.hid (K1.out.keep hb')
  replace K2 := Lib.hid (K2.out.keep hb')
  replace HB := Lib.hid (below_call HB.out hb')
  replace H1 := Lib.hid (H1.out.keep hb')
  replace H2 := Lib.hid (H2.out.keep hb')
  clear hb hb'
  have p0_0 : w2.cell? ⟨w.heap.size, 0, none⟩ = some (.int .i64 (sg x)) := K0.out.at.1 0
  have q0_0 : w2.frozen? ⟨w.heap.size, 0, none⟩ = false := K0.out.at.2 0
  have p0_1 : w2.cell? ⟨w.heap.size, 1, none⟩ = some (.slice a1 (ln x) c1) := K0.out.at.1 1
  have q0_1 : w2.frozen? ⟨w.heap.size, 1, none⟩ = false := K0.out.at.2 1
  have z0 : w.heap.size < w2.heap.size := K0.out.lt
  have p1_0 : w2.cell? ⟨w.heap.size + 1, 0, none⟩ = some (.int .i64 (sg y)) := K1.out.at.1 0
  have q1_0 : w2.frozen? ⟨w.heap.size + 1, 0, none⟩ = false := K1.out.at.2 0
  have p1_1 : w2.cell? ⟨w.heap.size + 1, 1, none⟩ = some (.slice a2 (ln y) c2) := K1.out.at.1 1
  have q1_1 : w2.frozen? ⟨w.heap.size + 1, 1, none⟩ = false := K1.out.at.2 1
  have z1 : w.heap.size + 1 < w2.heap.size := K1.out.lt
  have p2_0 : w2.cell? ⟨w.heap.size + 1 + 1, 0, none⟩ = some (.int .i64 0) := K2.out.at.1 0
  have q2_0 : w2.frozen? ⟨w.heap.size + 1 + 1, 0, none⟩ = false := K2.out.at.2 0
  have p2_1 : w2.cell? ⟨w.heap.size + 1 + 1, 1, none⟩ = some (.slice none 0 0) := K2.out.at.1 1
  have q2_1 : w2.frozen? ⟨w.heap.size + 1 + 1, 1, none⟩ = false := K2.out.at.2 1
  have z2 : w.heap.size + 1 + 1 < w2.heap.size := K2.out.lt
  go_wp2_with fail
  clear p0_0 q0_0 p0_1 q0_1 z0 p1_0 q1_0 p1_1 q1_1 z1 p2_0 q2_0 p2_1 q2_1 z2
  have mk : Hid (∀ w', w2.grownBy w' (some (w.heap.size + 1 + 1)) → w'.cell? ⟨w.heap.size, 0, none⟩ = some (.int .i64 (sg x)) ∧ w'.cell? ⟨w.heap.size, 1, none⟩ = some (.slice a1 (ln x) c1) ∧ w'.cell? ⟨w.heap.size + 1, 0, none⟩ = some (.int .i64 (sg y)) ∧ w'.cell? ⟨w.heap.size + 1, 1, none⟩ = some (.slice a2 (ln y) c2) ∧ w2.grownBy w' (some (w.heap.size + 1 + 1))) := fun w' h => ⟨(K0.out.only h (by omega)).at.1 0, (K0.out.only h (by omega)).at.1 1, (K1.out.only h (by omega)).at.1 0, (K1.out.only h (by omega)).at.1 1, h⟩
  have hs0 : w2.grownBy w2.drew (some (w.heap.size + 1 + 1)) := only_start _ _
  have HS0 : Hid (Below w2.heap.size w2 w2.drew) := (Below.refl _ _).drew
  have tok0 : True := trivial
  have tok1 : True := trivial
  have tok2 : True := trivial
  have tok3 : True := trivial
  go_region_held3 (fun w' => w'.cell? ⟨w.heap.size, 0, none⟩ = some (.int .i64 (sg x)) ∧ w'.cell? ⟨w.heap.size, 1, none⟩ = some (.slice a1 (ln x) c1) ∧ w'.cell? ⟨w.heap.size + 1, 0, none⟩ = some (.int .i64 (sg y)) ∧ w'.cell? ⟨w.heap.size + 1, 1, none⟩ = some (.slice a2 (ln y) c2) ∧ w2.grownBy w' (some (w.heap.size + 1 + 1)))
    (first | exact mk.out _ (by assumption) | exact mk.out _ (only_setCell (only_setCell (by assumption) _) _) | exact mk.out _ (only_alloc (by assumption) _))
    (first
      | (go_at_call 66; have _t := tok0; refine (cmpOr_any _ (sg x) (sg y) _ (lit2 w2.drew _ _)).mono ?_; rintro e w3 ⟨rfl, hb⟩; clear tok0 _t; have hs1 := only_call (only_alloc hs0 _) hb; have HS1 := Lib.hid (below_call (Below.alloc HS0.out (Below.size HS0.out) _) hb); clear hb)
      | (go_at_call 67; have _t := tok1; refine (bigAdd_any _ _ _ _ _ (H1.out.keep HS1.out).rd (H2.out.keep HS1.out).rd (digs_small _) (digs_small _) (HX.out.mono (by omega)) (HY.out.mono (by omega))).mono ?_; rintro e w4 ⟨v4, rfl, ho4, hb⟩; clear tok1 _t; have hs2 := only_call hs1 hb; have HS2 := Lib.hid (below_call HS1.out hb); clear hb; have Ho4 := Lib.hid ho4; clear ho4)
      | (go_at_call 65; have _t := tok2; refine (signed_is (G := G) (z := z) (n := val (digs x.natAbs) + val (digs y.natAbs)) Ho4.out HM0.out HM1.out HM2.out).mono ?_; rintro e w5 ⟨a5, c5, rfl, hd5, hb⟩; clear tok2 _t; have hs3 := only_call hs2 hb; have HS3 := Lib.hid (below_call HS2.out hb); have Ho4 := Lib.hid (Ho4.out.keep hb); clear hb; have Hd5 := Lib.hid hd5; clear hd5)
      | (go_at_call 64; have _t := tok3; refine (checked_yes _).mono ?_; rintro e w6 ⟨rfl, hb⟩; clear tok3 _t; have hs4 := only_call hs3 hb; have HS4 := Lib.hid (below_call HS3.out hb); have Ho4 := Lib.hid (Ho4.out.keep hb); have Hd5 := Lib.hid (Hd5.out.keep hb); clear hb; obtain ⟨p2, q2⟩ := (K2.out.keep HS4.out).at))
  replace K0 := Lib.hid (K0.out.keep HS4.out)
  replace K1 := Lib.hid (K1.out.keep HS4.out)
  replace K2 := Lib.hid (K2.out.keep HS4.out)
  replace HB := Lib.hid (below_call HB.out HS4.out)
  replace H1 := Lib.hid (H1.out.keep HS4.out)
  replace H2 := Lib.hid (H2.out.keep HS4.out)
  clear mk hs0 HS0 hs1 HS1 hs2 HS2 hs3 HS3 hs4 HS4  p2 q2
  go_wp2_with fail
  refine bodyPost_ret (results_box2 rfl _ _ (w.heap.size + 1 + 1) 24 _ _ _ rfl (K2.out.set2 _ _) Try.underlying24 rfl (by kernel_rfl)) rfl ⟨a5, c5, rfl, ?_, ?_⟩
  · exact Hd5.out.far0 K2.out zb2 (only_setCell (only_setCell (World.grownBy.refl _ _) _) _)
  · exact (HB.out.setCell (by simp; omega) _).setCell (by simp; omega) _
end Go.Proofs.Ytjbfngjlepafgaa
namespace Go.Proofs.Ytjbfngjlepafgaa
open Go.RowKit
variable {G : Nat}

/-- How two integers' digits are ordered. -/
def cmpD (x y : Int) : Int := ord x.natAbs y.natAbs
theorem cmpD_lt {x y : Int} (h : x.natAbs < y.natAbs) : cmpD x y = -1 := ord_lt (by omega)
theorem cmpD_ge {x y : Int} (h : y.natAbs ≤ x.natAbs) : cmpD x y = 0 ∨ cmpD x y = 1 := by
  rcases Nat.lt_or_ge y.natAbs x.natAbs with h' | h'
  · exact .inr (ord_gt (by omega))
  · have : x.natAbs = y.natAbs := by omega
    refine .inl ?_; rw [cmpD, this, ord_eq]
theorem bigcmp_is {x y : Int} {a1 a2 : Option Addr} {c1 c2 : Nat} {w : World} (h1 : BD G w a1 c1 x) (h2 : BD G w a2 c2 y) (hx : Sz x 1099511627776) (hy : Sz y 1099511627776) :
    Calls Try.prog 68 #[.slice a1 (ln x) c1, .slice a2 (ln y) c2] w fun e w' => e = .returned (.int .i64 (cmpD x y)) ∧ Below w.heap.size w w' :=
  bigcmp_any _ _ _ _ w h1.rd h2.rd hx hy
theorem bigsub_is {x y : Int} {a1 a2 : Option Addr} {c1 c2 : Nat} {w : World} (h1 : BD G w a1 c1 x) (h2 : BD G w a2 c2 y) (hx : Sz x 1099511627776) (hle : y.natAbs ≤ x.natAbs) :
    Calls Try.prog 69 #[.slice a1 (ln x) c1, .slice a2 (ln y) c2] w fun e w' => ∃ v, e = .returned v ∧ OwnN w' w.heap.size v (digs (x.natAbs - y.natAbs)) ∧ Below w.heap.size w w' := by
  have := bigSub_any _ _ _ _ w h1.rd h2.rd (digs_small _) (digs_small _) (digs_len_mono hle) (by rw [val_digs, val_digs]; exact hle) hx
  rwa [val_digs, val_digs] at this
theorem sub_signs {x y : Int} (h : sg x * sg y < 0) (hle : y.natAbs ≤ x.natAbs) : sg x * ((x.natAbs - y.natAbs : Nat) : Int) = x + y ∧ (sg x = 1 ∨ sg x = -1) := by
  rcases Int.lt_trichotomy x 0 with hx | hx | hx
  · rw [sg_neg hx] at *
    rcases Int.lt_trichotomy y 0 with hy | hy | hy
    · rw [sg_neg hy] at h; omega
    · rw [sg_zero' hy] at h; omega
    · exact ⟨by omega, .inr rfl⟩
  · rw [sg_zero' hx] at h; omega
  · rw [sg_pos hx] at *
    rcases Int.lt_trichotomy y 0 with hy | hy | hy
    · exact ⟨by omega, .inl rfl⟩
    · rw [sg_zero' hy] at h; omega
    · rw [sg_pos hy] at h; omega
theorem ord_signs {x y : Int} (h : sg x ≠ sg y) : ord (sg x) (sg y) = ord x y := by
  rcases Int.lt_trichotomy x 0 with hx | hx | hx
  · rw [sg_neg hx] at *
    rcases Int.lt_trichotomy y 0 with hy | hy | hy
    · rw [sg_neg hy] at h; omega
    · rw [sg_zero' hy, ord_lt (a := x) (b := y) (by omega)]; rfl
    · rw [sg_pos hy, ord_lt (a := x) (b := y) (by omega)]; rfl
  · rw [sg_zero' hx] at *
    rcases Int.lt_trichotomy y 0 with hy | hy | hy
    · rw [sg_neg hy, ord_gt (a := x) (b := y) (by omega)]; rfl
    · rw [sg_zero' hy] at h; omega
    · rw [sg_pos hy, ord_lt (a := x) (b := y) (by omega)]; rfl
  · rw [sg_pos hx] at *
    rcases Int.lt_trichotomy y 0 with hy | hy | hy
    · rw [sg_neg hy, ord_gt (a := x) (b := y) (by omega)]; rfl
    · rw [sg_zero' hy, ord_gt (a := x) (b := y) (by omega)]; rfl
    · rw [sg_pos hy] at h; omega
theorem ord_abs {x y : Int} (h : sg x = sg y) : sg x * cmpD x y = ord x y := by
  rcases Int.lt_trichotomy x 0 with hx | hx | hx
  · rw [sg_neg hx] at *
    rcases Int.lt_trichotomy y 0 with hy | hy | hy
    · unfold cmpD ord; split <;> split <;> (try split) <;> omega
    · rw [sg_zero' hy] at h; omega
    · rw [sg_pos hy] at h; omega
  · rw [sg_zero' hx] at *
    rcases Int.lt_trichotomy y 0 with hy | hy | hy
    · rw [sg_neg hy] at h; omega
    · rw [hx, hy]; rfl
    · rw [sg_pos hy] at h; omega
  · rw [sg_pos hx] at *
    rcases Int.lt_trichotomy y 0 with hy | hy | hy
    · rw [sg_neg hy] at h; omega
    · rw [sg_zero' hy] at h; omega
    · unfold cmpD ord; split <;> split <;> (try split) <;> omega
theorem wrap_cmp (x y : Int) : IntKind.i64.wrap (sg x * cmpD x y) = sg x * cmpD x y := by
  have h : cmpD x y = 1 ∨ cmpD x y = -1 ∨ cmpD x y = 0 := by unfold cmpD ord; split <;> (try split) <;> simp
  rcases sg_cases x with h1 | h1 | h1 <;> rcases h with h2 | h2 | h2 <;> rw [h1, h2] <;> rfl
theorem calls_below {P : Program} {f : FuncId} {args : Array Value} {w : World} {v : Value} (h : Calls P f args w fun e w' => e = .returned v ∧ w = w') : Calls P f args w fun e w' => e = .returned v ∧ Below w.heap.size w w' :=
  h.mono fun _ _ ⟨he, hw⟩ => ⟨he, by rw [← hw]; exact Below.refl _ _⟩
set_option maxHeartbeats 4000000 in
theorem bigAdd_neglt {x y : Int} {a1 a2 : Option Addr} {c1 c2 : Nat} {w : World} (h1 : BD G w a1 c1 x) (h2 : BD G w a2 c2 y) (hx : Sz x 549755813888) (hy : Sz y 549755813888) (hs : sg x * sg y < 0) (hle : x.natAbs < y.natAbs) :
    Calls Try.prog 43 #[.agg #[.int .i64 (sg x), .slice a1 (ln x) c1], .agg #[.int .i64 (sg y), .slice a2 (ln y) c2]] w fun e w' => ∃ a c, e = .returned (.tuple #[.agg #[.int .i64 (sg (x + y)), .slice a (ln (x + y)) c], .int .i64 0]) ∧ BD G w' a c (x + y) ∧ Below w.heap.size w w' := by
  have HX := Lib.hid hx
  have HY := Lib.hid hy
  have H1 := Lib.hid h1
  have H2 := Lib.hid h2
  have hws := wrap_signs x y
  have e1 : decide (0 ≤ sg x * sg y) = false := by rw [decide_eq_false_iff_not]; omega
  have e2 : decide (cmpD x y < 0) = true := by rw [cmpD_lt hle]; rfl
  obtain ⟨z, hz⟩ : ∃ z, z = x + y := ⟨_, rfl⟩
  have HLE : Hid (x.natAbs ≤ y.natAbs) := by show _ ≤ _; omega
  have HM0 : Hid ((digs (y.natAbs - x.natAbs)).length ≤ 8796093022208) := by show _ ≤ _; have := digs_len_mono (Nat.sub_le y.natAbs x.natAbs); unfold Sz at hx hy; omega
  have hsg := sub_signs (x := y) (y := x) (by rw [Int.mul_comm]; exact hs) (by omega)
  have HM1 : Hid (sg y * ((y.natAbs - x.natAbs : Nat) : Int) = z) := by show _ = _; rw [hz]; exact hsg.1.trans (Int.add_comm _ _)
  have HM2 := Lib.hid hsg.2
  rw [← hz]
  clear hx hy h1 h2 hz hs hle hsg

  go_enter Try.func43, Try.ntmps43
  go_wp2_with fail
  refine (bigRight_ok (z := x) (H1.out.keep (by go_grown)) (HX.out.mono (by omega))).mono ?_
  rintro e w1 ⟨rfl, hb⟩
  have hbx := bx3 w 24 24 24 #[.int .i64 (sg x), .slice a1 (ln x) c1] #[.int .i64 (sg y), .slice a2 (ln y) c2] #[.int .i64 0, .slice none 0 0]
  obtain ⟨k0, k1, k2⟩ := hbx
  have K0 := Lib.hid (k0.keep hb)
  have K1 := Lib.hid (k1.keep hb)
  have K2 := Lib.hid (k2.keep hb)
  clear k0 k1 k2
  have hb' : Below w.heap.size w w1 := below_call (by go_grown) hb
  have HB := Lib.hid hb'
  replace H1 := Lib.hid (H1.out.keep hb')
  replace H2 := Lib.hid (H2.out.keep hb')
  clear hb hb'
  have p0_0 : w1.cell? ⟨w.heap.size, 0, none⟩ = some (.int .i64 (sg x)) := K0.out.at.1 0
  have q0_0 : w1.frozen? ⟨w.heap.size, 0, none⟩ = false := K0.out.at.2 0
  have p0_1 : w1.cell? ⟨w.heap.size, 1, none⟩ = some (.slice a1 (ln x) c1) := K0.out.at.1 1
  have q0_1 : w1.frozen? ⟨w.heap.size, 1, none⟩ = false := K0.out.at.2 1
  have z0 : w.heap.size < w1.heap.size := K0.out.lt
  have p1_0 : w1.cell? ⟨w.heap.size + 1, 0, none⟩ = some (.int .i64 (sg y)) := K1.out.at.1 0
  have q1_0 : w1.frozen? ⟨w.heap.size + 1, 0, none⟩ = false := K1.out.at.2 0
  have p1_1 : w1.cell? ⟨w.heap.size + 1, 1, none⟩ = some (.slice a2 (ln y) c2) := K1.out.at.1 1
  have q1_1 : w1.frozen? ⟨w.heap.size + 1, 1, none⟩ = false := K1.out.at.2 1
  have z1 : w.heap.size + 1 < w1.heap.size := K1.out.lt
  have p2_0 : w1.cell? ⟨w.heap.size + 1 + 1, 0, none⟩ = some (.int .i64 0) := K2.out.at.1 0
  have q2_0 : w1.frozen? ⟨w.heap.size + 1 + 1, 0, none⟩ = false := K2.out.at.2 0
  have p2_1 : w1.cell? ⟨w.heap.size + 1 + 1, 1, none⟩ = some (.slice none 0 0) := K2.out.at.1 1
  have q2_1 : w1.frozen? ⟨w.heap.size + 1 + 1, 1, none⟩ = false := K2.out.at.2 1
  have z2 : w.heap.size + 1 + 1 < w1.heap.size := K2.out.lt
  go_wp2_with fail
  refine (bigRight_ok (z := y) (H2.out.keep (by go_grown)) (HY.out.mono (by omega))).mono ?_
  rintro e w2 ⟨rfl, hb⟩
  clear p0_0 q0_0 p0_1 q0_1 z0 p1_0 q1_0 p1_1 q1_1 z1 p2_0 q2_0 p2_1 q2_1 z2
  have hb' := below_call (w1 := w1) (by go_grown) hb
  replace K0 := Lib.hid (K0.out.keep hb')
  replace K1 := Lib.hid (K1.out.keep hb')
  replace K2 := Lib.hid (K2.out.keep hb')
  replace HB := Lib.hid (below_call HB.out hb')
  replace H1 := Lib.hid (H1.out.keep hb')
  replace H2 := Lib.hid (H2.out.keep hb')
  clear hb hb'
  have p0_0 : w2.cell? ⟨w.heap.size, 0, none⟩ = some (.int .i64 (sg x)) := K0.out.at.1 0
  have q0_0 : w2.frozen? ⟨w.heap.size, 0, none⟩ = false := K0.out.at.2 0
  have p0_1 : w2.cell? ⟨w.heap.size, 1, none⟩ = some (.slice a1 (ln x) c1) := K0.out.at.1 1
  have q0_1 : w2.frozen? ⟨w.heap.size, 1, none⟩ = false := K0.out.at.2 1
  have z0 : w.heap.size < w2.heap.size := K0.out.lt
  have p1_0 : w2.cell? ⟨w.heap.size + 1, 0, none⟩ = some (.int .i64 (sg y)) := K1.out.at.1 0
  have q1_0 : w2.frozen? ⟨w.heap.size + 1, 0, none⟩ = false := K1.out.at.2 0
  have p1_1 : w2.cell? ⟨w.heap.size + 1, 1, none⟩ = some (.slice a2 (ln y) c2) := K1.out.at.1 1
  have q1_1 : w2.frozen? ⟨w.heap.size + 1, 1, none⟩ = false := K1.out.at.2 1
  have z1 : w.heap.size + 1 < w2.heap.size := K1.out.lt
  have p2_0 : w2.cell? ⟨w.heap.size + 1 + 1, 0, none⟩ = some (.int .i64 0) := K2.out.at.1 0
  have q2_0 : w2.frozen? ⟨w.heap.size + 1 + 1, 0, none⟩ = false := K2.out.at.2 0
  have p2_1 : w2.cell? ⟨w.heap.size + 1 + 1, 1, none⟩ = some (.slice none 0 0) := K2.out.at.1 1
  have q2_1 : w2.frozen? ⟨w.heap.size + 1 + 1, 1, none⟩ = false := K2.out.at.2 1
  have z2 : w.heap.size + 1 + 1 < w2.heap.size := K2.out.lt
  go_wp2_with fail
  refine (bigcmp_is (H1.out.keep (by go_grown)) (H2.out.keep (by go_grown)) (HX.out.mono (by omega)) (HY.out.mono (by omega))).mono ?_
  rintro e w3 ⟨rfl, hb⟩
  clear p0_0 q0_0 p0_1 q0_1 z0 p1_0 q1_0 p1_1 q1_1 z1 p2_0 q2_0 p2_1 q2_1 z2
  have hb' := below_call (w1 := w2) (by go_grown) hb
  replace K0 := Lib.hid (K0.out.keep hb')
  replace K1 := Lib.hid (K1.out.keep hb')
  replace K2 := Lib.hid (K2.out.keep hb')
  replace HB := Lib.hid (below_call HB.out hb')
  replace H1 := Lib.hid (H1.out.keep hb')
  replace H2 := Lib.hid (H2.out.keep hb')
  clear hb hb'
  have p0_0 : w3.cell? ⟨w.heap.size, 0, none⟩ = some (.int .i64 (sg x)) := K0.out.at.1 0
  have q0_0 : w3.frozen? ⟨w.heap.size, 0, none⟩ = false := K0.out.at.2 0
  have p0_1 : w3.cell? ⟨w.heap.size, 1, none⟩ = some (.slice a1 (ln x) c1) := K0.out.at.1 1
  have q0_1 : w3.frozen? ⟨w.heap.size, 1, none⟩ = false := K0.out.at.2 1
  have z0 : w.heap.size < w3.heap.size := K0.out.lt
  have p1_0 : w3.cell? ⟨w.heap.size + 1, 0, none⟩ = some (.int .i64 (sg y)) := K1.out.at.1 0
  have q1_0 : w3.frozen? ⟨w.heap.size + 1, 0, none⟩ = false := K1.out.at.2 0
  have p1_1 : w3.cell? ⟨w.heap.size + 1, 1, none⟩ = some (.slice a2 (ln y) c2) := K1.out.at.1 1
  have q1_1 : w3.frozen? ⟨w.heap.size + 1, 1, none⟩ = false := K1.out.at.2 1
  have z1 : w.heap.size + 1 < w3.heap.size := K1.out.lt
  have p2_0 : w3.cell? ⟨w.heap.size + 1 + 1, 0, none⟩ = some (.int .i64 0) := K2.out.at.1 0
  have q2_0 : w3.frozen? ⟨w.heap.size + 1 + 1, 0, none⟩ = false := K2.out.at.2 0
  have p2_1 : w3.cell? ⟨w.heap.size + 1 + 1, 1, none⟩ = some (.slice none 0 0) := K2.out.at.1 1
  have q2_1 : w3.frozen? ⟨w.heap.size + 1 + 1, 1, none⟩ = false := K2.out.at.2 1
  have z2 : w.heap.size + 1 + 1 < w3.heap.size := K2.out.lt
  go_wp2_with fail
  clear p0_0 q0_0 p0_1 q0_1 z0 p1_0 q1_0 p1_1 q1_1 z1 p2_0 q2_0 p2_1 q2_1 z2
  have mk : Hid (∀ w', w3.grownBy w' (some (w.heap.size + 1 + 1)) → w'.cell? ⟨w.heap.size, 0, none⟩ = some (.int .i64 (sg x)) ∧ w'.cell? ⟨w.heap.size, 1, none⟩ = some (.slice a1 (ln x) c1) ∧ w'.cell? ⟨w.heap.size + 1, 0, none⟩ = some (.int .i64 (sg y)) ∧ w'.cell? ⟨w.heap.size + 1, 1, none⟩ = some (.slice a2 (ln y) c2) ∧ w3.grownBy w' (some (w.heap.size + 1 + 1))) := fun w' h => ⟨(K0.out.only h (by omega)).at.1 0, (K0.out.only h (by omega)).at.1 1, (K1.out.only h (by omega)).at.1 0, (K1.out.only h (by omega)).at.1 1, h⟩
  have hs0 : w3.grownBy w3.drew (some (w.heap.size + 1 + 1)) := only_start _ _
  have HS0 : Hid (Below w3.heap.size w3 w3.drew) := (Below.refl _ _).drew
  have tok0 : True := trivial
  have tok1 : True := trivial
  have tok2 : True := trivial
  go_region_held3 (fun w' => w'.cell? ⟨w.heap.size, 0, none⟩ = some (.int .i64 (sg x)) ∧ w'.cell? ⟨w.heap.size, 1, none⟩ = some (.slice a1 (ln x) c1) ∧ w'.cell? ⟨w.heap.size + 1, 0, none⟩ = some (.int .i64 (sg y)) ∧ w'.cell? ⟨w.heap.size + 1, 1, none⟩ = some (.slice a2 (ln y) c2) ∧ w3.grownBy w' (some (w.heap.size + 1 + 1)))
    (first | exact mk.out _ (by assumption) | exact mk.out _ (only_setCell (only_setCell (by assumption) _) _) | exact mk.out _ (only_alloc (by assumption) _))
    (first
      | (go_at_call 69; have _t := tok0; refine (bigsub_is (H2.out.keep HS0.out) (H1.out.keep HS0.out) (HY.out.mono (by omega)) HLE.out).mono ?_; rintro e w4 ⟨v4, rfl, ho4, hb⟩; clear tok0 _t; have hs1 := only_call hs0 hb; have HS1 := Lib.hid (below_call HS0.out hb); clear hb; have Ho4 := Lib.hid ho4; clear ho4)
      | (go_at_call 65; have _t := tok1; refine (signed_is (G := G) (z := z) (n := y.natAbs - x.natAbs) Ho4.out HM0.out HM1.out (fun _ => HM2.out)).mono ?_; rintro e w5 ⟨a5, c5, rfl, hd5, hb⟩; clear tok1 _t; have hs2 := only_call hs1 hb; have HS2 := Lib.hid (below_call HS1.out hb); have Ho4 := Lib.hid (Ho4.out.keep hb); clear hb; have Hd5 := Lib.hid hd5; clear hd5)
      | (go_at_call 64; have _t := tok2; refine (checked_yes _).mono ?_; rintro e w6 ⟨rfl, hb⟩; clear tok2 _t; have hs3 := only_call hs2 hb; have HS3 := Lib.hid (below_call HS2.out hb); have Ho4 := Lib.hid (Ho4.out.keep hb); have Hd5 := Lib.hid (Hd5.out.keep hb); clear hb; obtain ⟨p2, q2⟩ := (K2.out.keep HS3.out).at))
  replace K0 := Lib.hid (K0.out.keep HS3.out)
  replace K1 := Lib.hid (K1.out.keep HS3.out)
  replace K2 := Lib.hid (K2.out.keep HS3.out)
  replace HB := Lib.hid (below_call HB.out HS3.out)
  replace H1 := Lib.hid (H1.out.keep HS3.out)
  replace H2 := Lib.hid (H2.out.keep HS3.out)
  clear mk hs0 HS0 hs1 HS1 hs2 HS2 hs3 HS3  p2 q2
  go_wp2_with fail
  refine bodyPost_ret (results_box2 rfl _ _ (w.heap.size + 1 + 1) 24 _ _ _ rfl (K2.out.set2 _ _) Try.underlying24 rfl (by kernel_rfl)) rfl ⟨a5, c5, rfl, ?_, ?_⟩
  · exact Hd5.out.far0 K2.out zb2 (only_setCell (only_setCell (World.grownBy.refl _ _) _) _)
  · exact (HB.out.setCell (by simp; omega) _).setCell (by simp; omega) _
set_option maxHeartbeats 4000000 in
theorem bigAdd_negge {x y : Int} {a1 a2 : Option Addr} {c1 c2 : Nat} {w : World} (h1 : BD G w a1 c1 x) (h2 : BD G w a2 c2 y) (hx : Sz x 549755813888) (hy : Sz y 549755813888) (hs : sg x * sg y < 0) (hle : y.natAbs ≤ x.natAbs) :
    Calls Try.prog 43 #[.agg #[.int .i64 (sg x), .slice a1 (ln x) c1], .agg #[.int .i64 (sg y), .slice a2 (ln y) c2]] w fun e w' => ∃ a c, e = .returned (.tuple #[.agg #[.int .i64 (sg (x + y)), .slice a (ln (x + y)) c], .int .i64 0]) ∧ BD G w' a c (x + y) ∧ Below w.heap.size w w' := by
  have HX := Lib.hid hx
  have HY := Lib.hid hy
  have H1 := Lib.hid h1
  have H2 := Lib.hid h2
  have hws := wrap_signs x y
  have e1 : decide (0 ≤ sg x * sg y) = false := by rw [decide_eq_false_iff_not]; omega
  have e2 : decide (cmpD x y < 0) = false := by rcases cmpD_ge hle with h | h <;> rw [h] <;> rfl
  obtain ⟨z, hz⟩ : ∃ z, z = x + y := ⟨_, rfl⟩
  have HLE : Hid (y.natAbs ≤ x.natAbs) := by show _ ≤ _; omega
  have HM0 : Hid ((digs (x.natAbs - y.natAbs)).length ≤ 8796093022208) := by show _ ≤ _; have := digs_len_mono (Nat.sub_le x.natAbs y.natAbs); unfold Sz at hx hy; omega
  have hsg := sub_signs hs hle
  have HM1 : Hid (sg x * ((x.natAbs - y.natAbs : Nat) : Int) = z) := by show _ = _; rw [hz]; exact hsg.1
  have HM2 := Lib.hid hsg.2
  rw [← hz]
  clear hx hy h1 h2 hz hs hle hsg

  go_enter Try.func43, Try.ntmps43
  go_wp2_with fail
  refine (bigRight_ok (z := x) (H1.out.keep (by go_grown)) (HX.out.mono (by omega))).mono ?_
  rintro e w1 ⟨rfl, hb⟩
  have hbx := bx3 w 24 24 24 #[.int .i64 (sg x), .slice a1 (ln x) c1] #[.int .i64 (sg y), .slice a2 (ln y) c2] #[.int .i64 0, .slice none 0 0]
  obtain ⟨k0, k1, k2⟩ := hbx
  have K0 := Lib.hid (k0.keep hb)
  have K1 := Lib.hid (k1.keep hb)
  have K2 := Lib.hid (k2.keep hb)
  clear k0 k1 k2
  have hb' : Below w.heap.size w w1 := below_call (by go_grown) hb
  have HB := Lib.hid hb'
  replace H1 := Lib.hid (H1.out.keep hb')
  replace H2 := Lib.hid (H2.out.keep hb')
  clear hb hb'
  have p0_0 : w1.cell? ⟨w.heap.size, 0, none⟩ = some (.int .i64 (sg x)) := K0.out.at.1 0
  have q0_0 : w1.frozen? ⟨w.heap.size, 0, none⟩ = false := K0.out.at.2 0
  have p0_1 : w1.cell? ⟨w.heap.size, 1, none⟩ = some (.slice a1 (ln x) c1) := K0.out.at.1 1
  have q0_1 : w1.frozen? ⟨w.heap.size, 1, none⟩ = false := K0.out.at.2 1
  have z0 : w.heap.size < w1.heap.size := K0.out.lt
  have p1_0 : w1.cell? ⟨w.heap.size + 1, 0, none⟩ = some (.int .i64 (sg y)) := K1.out.at.1 0
  have q1_0 : w1.frozen? ⟨w.heap.size + 1, 0, none⟩ = false := K1.out.at.2 0
  have p1_1 : w1.cell? ⟨w.heap.size + 1, 1, none⟩ = some (.slice a2 (ln y) c2) := K1.out.at.1 1
  have q1_1 : w1.frozen? ⟨w.heap.size + 1, 1, none⟩ = false := K1.out.at.2 1
  have z1 : w.heap.size + 1 < w1.heap.size := K1.out.lt
  have p2_0 : w1.cell? ⟨w.heap.size + 1 + 1, 0, none⟩ = some (.int .i64 0) := K2.out.at.1 0
  have q2_0 : w1.frozen? ⟨w.heap.size + 1 + 1, 0, none⟩ = false := K2.out.at.2 0
  have p2_1 : w1.cell? ⟨w.heap.size + 1 + 1, 1, none⟩ = some (.slice none 0 0) := K2.out.at.1 1
  have q2_1 : w1.frozen? ⟨w.heap.size + 1 + 1, 1, none⟩ = false := K2.out.at.2 1
  have z2 : w.heap.size + 1 + 1 < w1.heap.size := K2.out.lt
  go_wp2_with fail
  refine (bigRight_ok (z := y) (H2.out.keep (by go_grown)) (HY.out.mono (by omega))).mono ?_
  rintro e w2 ⟨rfl, hb⟩
  clear p0_0 q0_0 p0_1 q0_1 z0 p1_0 q1_0 p1_1 q1_1 z1 p2_0 q2_0 p2_1 q2_1 z2
  have hb' := below_call (w1 := w1) (by go_grown) hb
  replace K0 := Lib.hid (K0.out.keep hb')
  replace K1 := Lib.hid (K1.out.keep hb')
  replace K2 := Lib.hid (K2.out.keep hb')
  replace HB := Lib.hid (below_call HB.out hb')
  replace H1 := Lib.hid (H1.out.keep hb')
  replace H2 := Lib.hid (H2.out.keep hb')
  clear hb hb'
  have p0_0 : w2.cell? ⟨w.heap.size, 0, none⟩ = some (.int .i64 (sg x)) := K0.out.at.1 0
  have q0_0 : w2.frozen? ⟨w.heap.size, 0, none⟩ = false := K0.out.at.2 0
  have p0_1 : w2.cell? ⟨w.heap.size, 1, none⟩ = some (.slice a1 (ln x) c1) := K0.out.at.1 1
  have q0_1 : w2.frozen? ⟨w.heap.size, 1, none⟩ = false := K0.out.at.2 1
  have z0 : w.heap.size < w2.heap.size := K0.out.lt
  have p1_0 : w2.cell? ⟨w.heap.size + 1, 0, none⟩ = some (.int .i64 (sg y)) := K1.out.at.1 0
  have q1_0 : w2.frozen? ⟨w.heap.size + 1, 0, none⟩ = false := K1.out.at.2 0
  have p1_1 : w2.cell? ⟨w.heap.size + 1, 1, none⟩ = some (.slice a2 (ln y) c2) := K1.out.at.1 1
  have q1_1 : w2.frozen? ⟨w.heap.size + 1, 1, none⟩ = false := K1.out.at.2 1
  have z1 : w.heap.size + 1 < w2.heap.size := K1.out.lt
  have p2_0 : w2.cell? ⟨w.heap.size + 1 + 1, 0, none⟩ = some (.int .i64 0) := K2.out.at.1 0
  have q2_0 : w2.frozen? ⟨w.heap.size + 1 + 1, 0, none⟩ = false := K2.out.at.2 0
  have p2_1 : w2.cell? ⟨w.heap.size + 1 + 1, 1, none⟩ = some (.slice none 0 0) := K2.out.at.1 1
  have q2_1 : w2.frozen? ⟨w.heap.size + 1 + 1, 1, none⟩ = false := K2.out.at.2 1
  have z2 : w.heap.size + 1 + 1 < w2.heap.size := K2.out.lt
  go_wp2_with fail
  refine (bigcmp_is (H1.out.keep (by go_grown)) (H2.out.keep (by go_grown)) (HX.out.mono (by omega)) (HY.out.mono (by omega))).mono ?_
  rintro e w3 ⟨rfl, hb⟩
  clear p0_0 q0_0 p0_1 q0_1 z0 p1_0 q1_0 p1_1 q1_1 z1 p2_0 q2_0 p2_1 q2_1 z2
  have hb' := below_call (w1 := w2) (by go_grown) hb
  replace K0 := Lib.hid (K0.out.keep hb')
  replace K1 := Lib.hid (K1.out.keep hb')
  replace K2 := Lib.hid (K2.out.keep hb')
  replace HB := Lib.hid (below_call HB.out hb')
  replace H1 := Lib.hid (H1.out.keep hb')
  replace H2 := Lib.hid (H2.out.keep hb')
  clear hb hb'
  have p0_0 : w3.cell? ⟨w.heap.size, 0, none⟩ = some (.int .i64 (sg x)) := K0.out.at.1 0
  have q0_0 : w3.frozen? ⟨w.heap.size, 0, none⟩ = false := K0.out.at.2 0
  have p0_1 : w3.cell? ⟨w.heap.size, 1, none⟩ = some (.slice a1 (ln x) c1) := K0.out.at.1 1
  have q0_1 : w3.frozen? ⟨w.heap.size, 1, none⟩ = false := K0.out.at.2 1
  have z0 : w.heap.size < w3.heap.size := K0.out.lt
  have p1_0 : w3.cell? ⟨w.heap.size + 1, 0, none⟩ = some (.int .i64 (sg y)) := K1.out.at.1 0
  have q1_0 : w3.frozen? ⟨w.heap.size + 1, 0, none⟩ = false := K1.out.at.2 0
  have p1_1 : w3.cell? ⟨w.heap.size + 1, 1, none⟩ = some (.slice a2 (ln y) c2) := K1.out.at.1 1
  have q1_1 : w3.frozen? ⟨w.heap.size + 1, 1, none⟩ = false := K1.out.at.2 1
  have z1 : w.heap.size + 1 < w3.heap.size := K1.out.lt
  have p2_0 : w3.cell? ⟨w.heap.size + 1 + 1, 0, none⟩ = some (.int .i64 0) := K2.out.at.1 0
  have q2_0 : w3.frozen? ⟨w.heap.size + 1 + 1, 0, none⟩ = false := K2.out.at.2 0
  have p2_1 : w3.cell? ⟨w.heap.size + 1 + 1, 1, none⟩ = some (.slice none 0 0) := K2.out.at.1 1
  have q2_1 : w3.frozen? ⟨w.heap.size + 1 + 1, 1, none⟩ = false := K2.out.at.2 1
  have z2 : w.heap.size + 1 + 1 < w3.heap.size := K2.out.lt
  go_wp2_with fail
  clear p0_0 q0_0 p0_1 q0_1 z0 p1_0 q1_0 p1_1 q1_1 z1 p2_0 q2_0 p2_1 q2_1 z2
  have mk : Hid (∀ w', w3.grownBy w' (some (w.heap.size + 1 + 1)) → w'.cell? ⟨w.heap.size, 0, none⟩ = some (.int .i64 (sg x)) ∧ w'.cell? ⟨w.heap.size, 1, none⟩ = some (.slice a1 (ln x) c1) ∧ w'.cell? ⟨w.heap.size + 1, 0, none⟩ = some (.int .i64 (sg y)) ∧ w'.cell? ⟨w.heap.size + 1, 1, none⟩ = some (.slice a2 (ln y) c2) ∧ w3.grownBy w' (some (w.heap.size + 1 + 1))) := fun w' h => ⟨(K0.out.only h (by omega)).at.1 0, (K0.out.only h (by omega)).at.1 1, (K1.out.only h (by omega)).at.1 0, (K1.out.only h (by omega)).at.1 1, h⟩
  have hs0 : w3.grownBy w3.drew (some (w.heap.size + 1 + 1)) := only_start _ _
  have HS0 : Hid (Below w3.heap.size w3 w3.drew) := (Below.refl _ _).drew
  have tok0 : True := trivial
  have tok1 : True := trivial
  have tok2 : True := trivial
  go_region_held3 (fun w' => w'.cell? ⟨w.heap.size, 0, none⟩ = some (.int .i64 (sg x)) ∧ w'.cell? ⟨w.heap.size, 1, none⟩ = some (.slice a1 (ln x) c1) ∧ w'.cell? ⟨w.heap.size + 1, 0, none⟩ = some (.int .i64 (sg y)) ∧ w'.cell? ⟨w.heap.size + 1, 1, none⟩ = some (.slice a2 (ln y) c2) ∧ w3.grownBy w' (some (w.heap.size + 1 + 1)))
    (first | exact mk.out _ (by assumption) | exact mk.out _ (only_setCell (only_setCell (by assumption) _) _) | exact mk.out _ (only_alloc (by assumption) _))
    (first
      | (go_at_call 69; have _t := tok0; refine (bigsub_is (H1.out.keep HS0.out) (H2.out.keep HS0.out) (HX.out.mono (by omega)) HLE.out).mono ?_; rintro e w4 ⟨v4, rfl, ho4, hb⟩; clear tok0 _t; have hs1 := only_call hs0 hb; have HS1 := Lib.hid (below_call HS0.out hb); clear hb; have Ho4 := Lib.hid ho4; clear ho4)
      | (go_at_call 65; have _t := tok1; refine (signed_is (G := G) (z := z) (n := x.natAbs - y.natAbs) Ho4.out HM0.out HM1.out (fun _ => HM2.out)).mono ?_; rintro e w5 ⟨a5, c5, rfl, hd5, hb⟩; clear tok1 _t; have hs2 := only_call hs1 hb; have HS2 := Lib.hid (below_call HS1.out hb); have Ho4 := Lib.hid (Ho4.out.keep hb); clear hb; have Hd5 := Lib.hid hd5; clear hd5)
      | (go_at_call 64; have _t := tok2; refine (checked_yes _).mono ?_; rintro e w6 ⟨rfl, hb⟩; clear tok2 _t; have hs3 := only_call hs2 hb; have HS3 := Lib.hid (below_call HS2.out hb); have Ho4 := Lib.hid (Ho4.out.keep hb); have Hd5 := Lib.hid (Hd5.out.keep hb); clear hb; obtain ⟨p2, q2⟩ := (K2.out.keep HS3.out).at))
  replace K0 := Lib.hid (K0.out.keep HS3.out)
  replace K1 := Lib.hid (K1.out.keep HS3.out)
  replace K2 := Lib.hid (K2.out.keep HS3.out)
  replace HB := Lib.hid (below_call HB.out HS3.out)
  replace H1 := Lib.hid (H1.out.keep HS3.out)
  replace H2 := Lib.hid (H2.out.keep HS3.out)
  clear mk hs0 HS0 hs1 HS1 hs2 HS2 hs3 HS3  p2 q2
  go_wp2_with fail
  refine bodyPost_ret (results_box2 rfl _ _ (w.heap.size + 1 + 1) 24 _ _ _ rfl (K2.out.set2 _ _) Try.underlying24 rfl (by kernel_rfl)) rfl ⟨a5, c5, rfl, ?_, ?_⟩
  · exact Hd5.out.far0 K2.out zb2 (only_setCell (only_setCell (World.grownBy.refl _ _) _) _)
  · exact (HB.out.setCell (by simp; omega) _).setCell (by simp; omega) _
theorem bigAdd_ok {x y : Int} {a1 a2 : Option Addr} {c1 c2 : Nat} {w : World} (h1 : BD G w a1 c1 x) (h2 : BD G w a2 c2 y) (hx : Sz x 549755813888) (hy : Sz y 549755813888) :
    Calls Try.prog 43 #[.agg #[.int .i64 (sg x), .slice a1 (ln x) c1], .agg #[.int .i64 (sg y), .slice a2 (ln y) c2]] w fun e w' => ∃ a c, e = .returned (.tuple #[.agg #[.int .i64 (sg (x + y)), .slice a (ln (x + y)) c], .int .i64 0]) ∧ BD G w' a c (x + y) ∧ Below w.heap.size w w' := by
  by_cases h : sg x * sg y < 0
  · rcases Nat.lt_or_ge x.natAbs y.natAbs with h' | h'
    · exact bigAdd_neglt h1 h2 hx hy h h'
    · exact bigAdd_negge h1 h2 hx hy h h'
  · exact bigAdd_same h1 h2 hx hy (by omega)
set_option maxHeartbeats 4000000 in
theorem bigCompare_ne {x y : Int} {a1 a2 : Option Addr} {c1 c2 : Nat} {w : World} (h1 : BD G w a1 c1 x) (h2 : BD G w a2 c2 y) (hx : Sz x 549755813888) (hy : Sz y 549755813888) (hs : sg x ≠ sg y) :
    Calls Try.prog 56 #[.agg #[.int .i64 (sg x), .slice a1 (ln x) c1], .agg #[.int .i64 (sg y), .slice a2 (ln y) c2]] w fun e w' => e = .returned (.int .i64 (ord x y)) ∧ Below w.heap.size w w' := by
  have HX := Lib.hid hx
  have HY := Lib.hid hy
  have H1 := Lib.hid h1
  have H2 := Lib.hid h2
  have e1 : (sg x != sg y) = true := by rw [bne_iff_ne]; exact hs
  have HO : Hid (ord (sg x) (sg y) = ord x y) := ord_signs hs
  clear hx hy h1 h2 hs

  go_enter Try.func56, Try.ntmps56
  go_wp2_with fail
  refine (bigRight_ok (z := x) (H1.out.keep (by go_grown)) (HX.out.mono (by omega))).mono ?_
  rintro e w1 ⟨rfl, hb⟩
  have hbx := bx2 w 24 24 #[.int .i64 (sg x), .slice a1 (ln x) c1] #[.int .i64 (sg y), .slice a2 (ln y) c2]
  obtain ⟨k0, k1⟩ := hbx
  have K0 := Lib.hid (k0.keep hb)
  have K1 := Lib.hid (k1.keep hb)
  clear k0 k1
  have hb' : Below w.heap.size w w1 := below_call (by go_grown) hb
  have HB := Lib.hid hb'
  replace H1 := Lib.hid (H1.out.keep hb')
  replace H2 := Lib.hid (H2.out.keep hb')
  clear hb hb'
  have p0_0 : w1.cell? ⟨w.heap.size, 0, none⟩ = some (.int .i64 (sg x)) := K0.out.at.1 0
  have q0_0 : w1.frozen? ⟨w.heap.size, 0, none⟩ = false := K0.out.at.2 0
  have p0_1 : w1.cell? ⟨w.heap.size, 1, none⟩ = some (.slice a1 (ln x) c1) := K0.out.at.1 1
  have q0_1 : w1.frozen? ⟨w.heap.size, 1, none⟩ = false := K0.out.at.2 1
  have z0 : w.heap.size < w1.heap.size := K0.out.lt
  have p1_0 : w1.cell? ⟨w.heap.size + 1, 0, none⟩ = some (.int .i64 (sg y)) := K1.out.at.1 0
  have q1_0 : w1.frozen? ⟨w.heap.size + 1, 0, none⟩ = false := K1.out.at.2 0
  have p1_1 : w1.cell? ⟨w.heap.size + 1, 1, none⟩ = some (.slice a2 (ln y) c2) := K1.out.at.1 1
  have q1_1 : w1.frozen? ⟨w.heap.size + 1, 1, none⟩ = false := K1.out.at.2 1
  have z1 : w.heap.size + 1 < w1.heap.size := K1.out.lt
  go_wp2_with fail
  refine (bigRight_ok (z := y) (H2.out.keep (by go_grown)) (HY.out.mono (by omega))).mono ?_
  rintro e w2 ⟨rfl, hb⟩
  clear p0_0 q0_0 p0_1 q0_1 z0 p1_0 q1_0 p1_1 q1_1 z1
  have hb' := below_call (w1 := w1) (by go_grown) hb
  replace K0 := Lib.hid (K0.out.keep hb')
  replace K1 := Lib.hid (K1.out.keep hb')
  replace HB := Lib.hid (below_call HB.out hb')
  replace H1 := Lib.hid (H1.out.keep hb')
  replace H2 := Lib.hid (H2.out.keep hb')
  clear hb hb'
  have p0_0 : w2.cell? ⟨w.heap.size, 0, none⟩ = some (.int .i64 (sg x)) := K0.out.at.1 0
  have q0_0 : w2.frozen? ⟨w.heap.size, 0, none⟩ = false := K0.out.at.2 0
  have p0_1 : w2.cell? ⟨w.heap.size, 1, none⟩ = some (.slice a1 (ln x) c1) := K0.out.at.1 1
  have q0_1 : w2.frozen? ⟨w.heap.size, 1, none⟩ = false := K0.out.at.2 1
  have z0 : w.heap.size < w2.heap.size := K0.out.lt
  have p1_0 : w2.cell? ⟨w.heap.size + 1, 0, none⟩ = some (.int .i64 (sg y)) := K1.out.at.1 0
  have q1_0 : w2.frozen? ⟨w.heap.size + 1, 0, none⟩ = false := K1.out.at.2 0
  have p1_1 : w2.cell? ⟨w.heap.size + 1, 1, none⟩ = some (.slice a2 (ln y) c2) := K1.out.at.1 1
  have q1_1 : w2.frozen? ⟨w.heap.size + 1, 1, none⟩ = false := K1.out.at.2 1
  have z1 : w.heap.size + 1 < w2.heap.size := K1.out.lt
  go_wp2_with fail
  refine (calls_below (cmpCompare_any (sg x) (sg y) _)).mono ?_
  rintro e w3 ⟨rfl, hb⟩
  clear p0_0 q0_0 p0_1 q0_1 z0 p1_0 q1_0 p1_1 q1_1 z1
  have hb' := below_call (w1 := w2) (by go_grown) hb
  replace K0 := Lib.hid (K0.out.keep hb')
  replace K1 := Lib.hid (K1.out.keep hb')
  replace HB := Lib.hid (below_call HB.out hb')
  replace H1 := Lib.hid (H1.out.keep hb')
  replace H2 := Lib.hid (H2.out.keep hb')
  clear hb hb'
  have p0_0 : w3.cell? ⟨w.heap.size, 0, none⟩ = some (.int .i64 (sg x)) := K0.out.at.1 0
  have q0_0 : w3.frozen? ⟨w.heap.size, 0, none⟩ = false := K0.out.at.2 0
  have p0_1 : w3.cell? ⟨w.heap.size, 1, none⟩ = some (.slice a1 (ln x) c1) := K0.out.at.1 1
  have q0_1 : w3.frozen? ⟨w.heap.size, 1, none⟩ = false := K0.out.at.2 1
  have z0 : w.heap.size < w3.heap.size := K0.out.lt
  have p1_0 : w3.cell? ⟨w.heap.size + 1, 0, none⟩ = some (.int .i64 (sg y)) := K1.out.at.1 0
  have q1_0 : w3.frozen? ⟨w.heap.size + 1, 0, none⟩ = false := K1.out.at.2 0
  have p1_1 : w3.cell? ⟨w.heap.size + 1, 1, none⟩ = some (.slice a2 (ln y) c2) := K1.out.at.1 1
  have q1_1 : w3.frozen? ⟨w.heap.size + 1, 1, none⟩ = false := K1.out.at.2 1
  have z1 : w.heap.size + 1 < w3.heap.size := K1.out.lt
  go_wp2_with fail
  go_ret
  exact ⟨ret_int HO.out, HB.out⟩
set_option maxHeartbeats 4000000 in
theorem bigCompare_eq {x y : Int} {a1 a2 : Option Addr} {c1 c2 : Nat} {w : World} (h1 : BD G w a1 c1 x) (h2 : BD G w a2 c2 y) (hx : Sz x 549755813888) (hy : Sz y 549755813888) (hs : sg x = sg y) :
    Calls Try.prog 56 #[.agg #[.int .i64 (sg x), .slice a1 (ln x) c1], .agg #[.int .i64 (sg y), .slice a2 (ln y) c2]] w fun e w' => e = .returned (.int .i64 (ord x y)) ∧ Below w.heap.size w w' := by
  have HX := Lib.hid hx
  have HY := Lib.hid hy
  have H1 := Lib.hid h1
  have H2 := Lib.hid h2
  have e1 : (sg x != sg y) = false := by rw [hs]; simp
  have HO : Hid (sg x * cmpD x y = ord x y) := ord_abs hs
  have hwm : IntKind.i64.wrap (sg x * cmpD x y) = sg x * cmpD x y := wrap_cmp x y
  clear hx hy h1 h2 hs

  go_enter Try.func56, Try.ntmps56
  go_wp2_with fail
  refine (bigRight_ok (z := x) (H1.out.keep (by go_grown)) (HX.out.mono (by omega))).mono ?_
  rintro e w1 ⟨rfl, hb⟩
  have hbx := bx2 w 24 24 #[.int .i64 (sg x), .slice a1 (ln x) c1] #[.int .i64 (sg y), .slice a2 (ln y) c2]
  obtain ⟨k0, k1⟩ := hbx
  have K0 := Lib.hid (k0.keep hb)
  have K1 := Lib.hid (k1.keep hb)
  clear k0 k1
  have hb' : Below w.heap.size w w1 := below_call (by go_grown) hb
  have HB := Lib.hid hb'
  replace H1 := Lib.hid (H1.out.keep hb')
  replace H2 := Lib.hid (H2.out.keep hb')
  clear hb hb'
  have p0_0 : w1.cell? ⟨w.heap.size, 0, none⟩ = some (.int .i64 (sg x)) := K0.out.at.1 0
  have q0_0 : w1.frozen? ⟨w.heap.size, 0, none⟩ = false := K0.out.at.2 0
  have p0_1 : w1.cell? ⟨w.heap.size, 1, none⟩ = some (.slice a1 (ln x) c1) := K0.out.at.1 1
  have q0_1 : w1.frozen? ⟨w.heap.size, 1, none⟩ = false := K0.out.at.2 1
  have z0 : w.heap.size < w1.heap.size := K0.out.lt
  have p1_0 : w1.cell? ⟨w.heap.size + 1, 0, none⟩ = some (.int .i64 (sg y)) := K1.out.at.1 0
  have q1_0 : w1.frozen? ⟨w.heap.size + 1, 0, none⟩ = false := K1.out.at.2 0
  have p1_1 : w1.cell? ⟨w.heap.size + 1, 1, none⟩ = some (.slice a2 (ln y) c2) := K1.out.at.1 1
  have q1_1 : w1.frozen? ⟨w.heap.size + 1, 1, none⟩ = false := K1.out.at.2 1
  have z1 : w.heap.size + 1 < w1.heap.size := K1.out.lt
  go_wp2_with fail
  refine (bigRight_ok (z := y) (H2.out.keep (by go_grown)) (HY.out.mono (by omega))).mono ?_
  rintro e w2 ⟨rfl, hb⟩
  clear p0_0 q0_0 p0_1 q0_1 z0 p1_0 q1_0 p1_1 q1_1 z1
  have hb' := below_call (w1 := w1) (by go_grown) hb
  replace K0 := Lib.hid (K0.out.keep hb')
  replace K1 := Lib.hid (K1.out.keep hb')
  replace HB := Lib.hid (below_call HB.out hb')
  replace H1 := Lib.hid (H1.out.keep hb')
  replace H2 := Lib.hid (H2.out.keep hb')
  clear hb hb'
  have p0_0 : w2.cell? ⟨w.heap.size, 0, none⟩ = some (.int .i64 (sg x)) := K0.out.at.1 0
  have q0_0 : w2.frozen? ⟨w.heap.size, 0, none⟩ = false := K0.out.at.2 0
  have p0_1 : w2.cell? ⟨w.heap.size, 1, none⟩ = some (.slice a1 (ln x) c1) := K0.out.at.1 1
  have q0_1 : w2.frozen? ⟨w.heap.size, 1, none⟩ = false := K0.out.at.2 1
  have z0 : w.heap.size < w2.heap.size := K0.out.lt
  have p1_0 : w2.cell? ⟨w.heap.size + 1, 0, none⟩ = some (.int .i64 (sg y)) := K1.out.at.1 0
  have q1_0 : w2.frozen? ⟨w.heap.size + 1, 0, none⟩ = false := K1.out.at.2 0
  have p1_1 : w2.cell? ⟨w.heap.size + 1, 1, none⟩ = some (.slice a2 (ln y) c2) := K1.out.at.1 1
  have q1_1 : w2.frozen? ⟨w.heap.size + 1, 1, none⟩ = false := K1.out.at.2 1
  have z1 : w.heap.size + 1 < w2.heap.size := K1.out.lt
  go_wp2_with fail
  clear p0_0 q0_0 p0_1 q0_1 z0 p1_0 q1_0 p1_1 q1_1 z1
  have mk : Hid (∀ w', Below w2.heap.size w2 w' → w'.cell? ⟨w.heap.size, 0, none⟩ = some (.int .i64 (sg x)) ∧ w'.cell? ⟨w.heap.size, 1, none⟩ = some (.slice a1 (ln x) c1) ∧ w'.cell? ⟨w.heap.size + 1, 0, none⟩ = some (.int .i64 (sg y)) ∧ w'.cell? ⟨w.heap.size + 1, 1, none⟩ = some (.slice a2 (ln y) c2) ∧ Below w2.heap.size w2 w') := fun w' h => ⟨(K0.out.keep h).at.1 0, (K0.out.keep h).at.1 1, (K1.out.keep h).at.1 0, (K1.out.keep h).at.1 1, h⟩
  have hs0 : Below w2.heap.size w2 w2.drew := (Below.refl _ _).drew
  have HS0 : Hid (Below w2.heap.size w2 w2.drew) := (Below.refl _ _).drew
  have tok0 : True := trivial
  go_region_held3 (fun w' => w'.cell? ⟨w.heap.size, 0, none⟩ = some (.int .i64 (sg x)) ∧ w'.cell? ⟨w.heap.size, 1, none⟩ = some (.slice a1 (ln x) c1) ∧ w'.cell? ⟨w.heap.size + 1, 0, none⟩ = some (.int .i64 (sg y)) ∧ w'.cell? ⟨w.heap.size + 1, 1, none⟩ = some (.slice a2 (ln y) c2) ∧ Below w2.heap.size w2 w')
    (first | exact mk.out _ (by assumption) | exact mk.out _ (Below.alloc (by assumption) (Below.size (by assumption)) _))
    (first
      | (go_at_call 68; have _t := tok0; refine (bigcmp_is (H1.out.keep HS0.out) (H2.out.keep HS0.out) (HX.out.mono (by omega)) (HY.out.mono (by omega))).mono ?_; rintro e w3 ⟨rfl, hb⟩; clear tok0 _t; have hs1 := below_call hs0 hb; have HS1 := Lib.hid (below_call HS0.out hb); clear hb))
  replace K0 := Lib.hid (K0.out.keep HS1.out)
  replace K1 := Lib.hid (K1.out.keep HS1.out)
  replace HB := Lib.hid (below_call HB.out HS1.out)
  replace H1 := Lib.hid (H1.out.keep HS1.out)
  replace H2 := Lib.hid (H2.out.keep HS1.out)
  clear mk hs0 HS0 hs1 HS1
  go_wp2_with fail
  go_ret
  exact ⟨ret_int HO.out, HB.out⟩
theorem bigCompare_ok {x y : Int} {a1 a2 : Option Addr} {c1 c2 : Nat} {w : World} (h1 : BD G w a1 c1 x) (h2 : BD G w a2 c2 y) (hx : Sz x 549755813888) (hy : Sz y 549755813888) :
    Calls Try.prog 56 #[.agg #[.int .i64 (sg x), .slice a1 (ln x) c1], .agg #[.int .i64 (sg y), .slice a2 (ln y) c2]] w fun e w' => e = .returned (.int .i64 (ord x y)) ∧ Below w.heap.size w w' := by
  by_cases h : sg x = sg y
  · exact bigCompare_eq h1 h2 hx hy h
  · exact bigCompare_ne h1 h2 hx hy h
end Go.Proofs.Ytjbfngjlepafgaa
