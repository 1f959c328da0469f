/- Walk: the long division of digits. -/
import Derived.Test.YtlcgckelamhnpaaGreatBigK
import Derived.IntWalk
set_option maxRecDepth 100000
set_option maxHeartbeats 8000000
namespace Go.Proofs.YtlcgckelamhnpaaGreat
open Go.RowKit
structure DivFit (a b s : Nat) (U V : Digs) (nq : Nat) : Prop where
 lenV : (digs b).length ≤ V.length
 lenU : (digs a).length < U.length
 len : nq + V.length = U.length
 valU : val U = a * s
 valV : val V = b * s
 sU : small U
 sV : small V
 low : val (U.drop nq) < val V
 top : ∀ (h : V.length - 1 < V.length), 1 ≤ V[V.length - 1]
theorem pos_of_len {b : Nat} (h : 1 < (digs b).length) : 1 ≤ b := by
 rcases Nat.eq_zero_or_pos b with h' | h'
 · rw [h'] at h; simp [digs_zero] at h
 · exact h'
theorem div_start (a b s : Nat) (hs : 1 ≤ s) (hab : b ≤ a) (hb : 1 ≤ b) : ∃ (U V : Digs) (nq : Nat), Hid (U = digs (a * s) ++ [0]) ∧ Hid (V = digs (b * s)) ∧ Hid (DivFit a b s U V nq) := by
 have h1 : b * s ≤ a * s := Nat.mul_le_mul_right _ hab; have h2 := digs_len_mono h1; have h3 : a ≤ a * s := by have := Nat.mul_le_mul_left a hs; omega
 have h4 : b ≤ b * s := by have := Nat.mul_le_mul_left b hs; omega
 refine ⟨_, _, (digs (a * s) ++ [0]).length - (digs (b * s)).length, rfl, rfl, digs_len_mono h4, ?_, ?_, ?_, val_digs _, ?_, digs_small _, ?_, ?_⟩
 · have := digs_len_mono h3; simp; omega
 · simp; omega
 · rw [val_snoc, val_digs]; simp
 · exact small_append (digs_small _) (small_one (by omega))
 · have h5 := digs_len_ge (n := b * s) (by omega)
   have h6 : (digs (b * s)).length ≠ 0 := by
    intro h; have := digs_nil.1 (List.length_eq_zero_iff.1 h); omega
   rw [List.length_append, List.drop_append_of_le_length (by simp; omega), val_snoc, val_digs, Nat.mul_zero, Nat.add_zero]; have h7 := val_lt (small_drop (digs_small (a * s)) ((digs (a * s)).length + [0].length - (digs (b * s)).length)); refine Nat.lt_of_lt_of_le h7 (Nat.le_trans (Nat.pow_le_pow_right (by omega) ?_) h5)
   simp; omega
 · intro h
   rcases Nat.eq_zero_or_pos (digs (b * s))[(digs (b * s)).length - 1] with h5 | h5
   · exfalso
     apply digs_last (b * s)
     rw [List.getLast?_eq_getElem?, List.getElem?_eq_getElem h, h5]
   · exact h5
structure DivAt (a s : Nat) (V os qs : Digs) (k : Nat) : Prop where
 so : small os
 sq : small qs
 sum : val os + val V * val qs = a * s
 low : val (os.drop k) < val V
 zero : ∀ j (h : j < qs.length), j < k → qs[j] = 0
theorem DivFit.start {a b s nq : Nat} {U V : Digs} (h : DivFit a b s U V nq) : DivAt a s V U (List.replicate nq 0) nq :=
 ⟨h.sU, small_replicate _, by rw [val_zeros (l := List.replicate nq 0) (by simp), h.valU]; simp, h.low, by simp⟩
structure DivWin (V os A W C : Digs) (i : Nat) : Prop where
 eq : os = A ++ W ++ C
 lenA : A.length = i
 lenW : W.length = V.length + 1
 sW : small W
 lt : val W < 1048576 * val V
 zC : val C = 0
theorem div_win {a s i : Nat} {V os qs : Digs} (sV : small V) (hi : i + V.length < os.length) (h : DivAt a s V os qs (i + 1)) :
 val ((os.drop i).take (V.length + 1)) < 1048576 * val V ∧ val (os.drop (i + V.length + 1)) = 0 := by
 have hi' : i < os.length := by omega
 have h1 : val (os.drop i) < 1048576 * val V := by
  rw [List.drop_eq_getElem_cons hi', val]; have := small_get h.so i hi'; have := h.low
  omega
 have h2 := val_split (os.drop i) (V.length + 1) (by simp; omega); rw [List.drop_drop, ← Nat.add_assoc] at h2; have h3 : 1048576 * val V < 1048576 ^ (V.length + 1) := by rw [Nat.pow_succ, Nat.mul_comm]; exact Nat.mul_lt_mul_of_pos_right (val_lt sV) (by omega)
 have h4 : val (os.drop (i + V.length + 1)) = 0 := by
  rcases Nat.eq_zero_or_pos (val (os.drop (i + V.length + 1))) with h5 | h5
  · exact h5
  · have := Nat.mul_le_mul_left (1048576 ^ (V.length + 1)) h5
    omega
 refine ⟨?_, h4⟩; rw [h4] at h2; omega
theorem DivWin.get {V os A W C : Digs} {i : Nat} (h : DivWin V os A W C i) (k : Nat) (hk : k < W.length) (hi : i + k < os.length) : os[i + k] = W[k] := by
 have e := h.eq; have ea := h.lenA; subst e ea; exact mid_get A W C k hk hi
theorem div_window {a s i : Nat} {V os qs : Digs} (sV : small V) (hi : i + V.length < os.length) (h : DivAt a s V os qs (i + 1)) :
 ∃ A W C, DivWin V os A W C i := by
 refine ⟨os.take i, (os.drop i).take (V.length + 1), os.drop (i + V.length + 1), ?_, by simp; omega, by simp; omega, small_take (small_drop h.so _) _, ?_, ?_⟩
 · rw [List.append_assoc, Nat.add_assoc, ← List.drop_drop, List.take_append_drop, List.take_append_drop]
 · exact (div_win sV hi h).1
 · exact (div_win sV hi h).2
structure DivDigit (V os A W C : Digs) (i n2 x0 x1 x2 y1 w0 w1 w2 v1 v2 top g0 r0 : Nat) : Prop where
 win : DivWin V os A W C i
 i0 : (i : Int) + (V.length : Int) = (x0 : Int)
 i1 : (x0 : Int) - 1 = (x1 : Int)
 i2 : (x0 : Int) - 2 = (x2 : Int)
 j1 : (V.length : Int) - 1 = (y1 : Int)
 j2 : (V.length : Int) - 2 = (n2 : Int)
 c0 : os[x0]? = some w0
 c1 : os[x1]? = some w1
 c2 : os[x2]? = some w2
 d1 : V[y1]? = some v1
 d2 : V[n2]? = some v2
 s0 : w0 < 1048576
 s1 : w1 < 1048576
 s2 : w2 < 1048576
 sv1 : v1 < 1048576
 sv2 : v2 < 1048576
 v1p : 1 ≤ v1
 hor : bits .or .i64 ((w0 : Int) * 1048576) (w1 : Int) = (top : Int)
 tb : top < 1099511627776
 td : ((top : Int).tdiv (v1 : Int)) = (g0 : Int)
 tm : ((top : Int).tmod (v1 : Int)) = (r0 : Int)
 g0b : g0 ≤ top
 r0b : r0 ≤ top
 gr : g0 * v1 + r0 = top ∧ top < (g0 + 1) * v1
 tv : val V = val (V.take n2) + 1048576 ^ n2 * (v2 + 1048576 * v1)
 tw : val W = val (W.take n2) + 1048576 ^ n2 * (w2 + 1048576 * top)
 lv : val (V.take n2) < 1048576 ^ n2
 lw : val (W.take n2) < 1048576 ^ n2
 ib : x0 + 1 ≤ os.length ∧ x1 ≤ 1099511627778 ∧ x2 ≤ 1099511627778 ∧ y1 ≤ 1099511627778 ∧ i ≤ 1099511627778 ∧ n2 ≤ 1099511627778
theorem div_digit {a b s nq i : Nat} {U V os qs : Digs} (HF : DivFit a b s U V nq) (HD : DivAt a s V os qs (i + 1)) (hi : i < nq) (hV : 2 ≤ V.length) (hlo : os.length = U.length) (hUb : U.length ≤ 1099511627778) :
 ∃ A W C n2 x0 x1 x2 y1 w0 w1 w2 v1 v2 top g0 r0, Hid (DivDigit V os A W C i n2 x0 x1 x2 y1 w0 w1 w2 v1 v2 top g0 r0) := by
 have hlen := HF.len; obtain ⟨A, W, C, H⟩ := div_window HF.sV (by omega : i + V.length < os.length) HD; obtain ⟨n2, hn2⟩ : ∃ n2, V.length = n2 + 2 := ⟨V.length - 2, by omega⟩; have hLW : W.length = n2 + 3 := by rw [H.lenW, hn2]
 have hw0 := small_get H.sW (n2 + 2) (by omega); have hw1 := small_get H.sW (n2 + 1) (by omega); have hw2 := small_get H.sW n2 (by omega); have hv1 := small_get HF.sV (n2 + 1) (by omega); have hv2 := small_get HF.sV n2 (by omega); have hc0 := H.get (n2 + 2) (by omega) (by omega); have hc1 := H.get (n2 + 1) (by omega) (by omega); have hc2 := H.get n2 (by omega) (by omega)
 have hvp : 1 ≤ V[n2 + 1]'(by omega) := by
  refine Nat.le_trans (HF.top (by omega)) (Nat.le_of_eq ?_); congr 1; omega
 have htv := top2 V n2 hn2; have htw := top3 W n2 hLW; have hlv : val (V.take n2) < 1048576 ^ n2 := Nat.lt_of_lt_of_le (val_lt (small_take HF.sV _)) (by rw [List.length_take]; exact Nat.pow_le_pow_right (by omega) (by omega)); have hlw : val (W.take n2) < 1048576 ^ n2 := Nat.lt_of_lt_of_le (val_lt (small_take H.sW _)) (by rw [List.length_take]; exact Nat.pow_le_pow_right (by omega) (by omega)); obtain ⟨w0, e0⟩ : ∃ x, x = W[n2 + 2]'(by omega) := ⟨_, rfl⟩; obtain ⟨w1, e1⟩ : ∃ x, x = W[n2 + 1]'(by omega) := ⟨_, rfl⟩; obtain ⟨w2, e2⟩ : ∃ x, x = W[n2]'(by omega) := ⟨_, rfl⟩; obtain ⟨v1, e3⟩ : ∃ x, x = V[n2 + 1]'(by omega) := ⟨_, rfl⟩; obtain ⟨v2, e4⟩ : ∃ x, x = V[n2]'(by omega) := ⟨_, rfl⟩; rw [← e0] at hw0 hc0; rw [← e1] at hw1 hc1; rw [← e2] at hw2 hc2; rw [← e3] at hv1 hvp; rw [← e4] at hv2; rw [← e3, ← e4] at htv; rw [← e0, ← e1, ← e2] at htw; have h1 := Nat.div_add_mod (w0 * 1048576 + w1) v1; have h2 := Nat.mod_lt (w0 * 1048576 + w1) hvp
 exact ⟨A, W, C, n2, i + (n2 + 2), i + (n2 + 1), i + n2, n2 + 1, w0, w1, w2, v1, v2, w0 * 1048576 + w1, (w0 * 1048576 + w1) / v1, (w0 * 1048576 + w1) % v1,
  { win := H, i0 := by omega, i1 := by omega, i2 := by omega, j1 := by omega, j2 := by omega
    c0 := by rw [List.getElem?_eq_getElem (by omega), hc0]
    c1 := by rw [List.getElem?_eq_getElem (by omega), hc1]
    c2 := by rw [List.getElem?_eq_getElem (by omega), hc2]
    d1 := by rw [List.getElem?_eq_getElem (by omega), e3]
    d2 := by rw [List.getElem?_eq_getElem (by omega), e4]
    s0 := hw0, s1 := hw1, s2 := hw2, sv1 := hv1, sv2 := hv2, v1p := hvp
    hor := or20 (by omega) hw1
    tb := by omega
    td := by rw [Int.tdiv_eq_ediv_of_nonneg (by omega)]; rfl
    tm := by rw [Int.tmod_eq_emod_of_nonneg (by omega)]; rfl
    g0b := Nat.div_le_self _ _
    r0b := Nat.mod_le _ _
    gr := ⟨by rw [Nat.mul_comm]; exact h1, by rw [Nat.add_mul, Nat.one_mul, Nat.mul_comm (_ / _) v1]; omega⟩
    tv := htv, tw := htw, lv := hlv, lw := hlw
    ib := by omega }⟩
structure GuessAt (V W : Digs) (v1 top g rest : Nat) : Prop where
 sum : g * v1 + rest = top
 hi : val W < g * val V + val V
theorem GuessAt.le {V W : Digs} {v1 top g rest : Nat} (h : GuessAt V W v1 top g rest) (h1 : 1 ≤ v1) : g ≤ top := by
 have := h.sum; have := Nat.mul_le_mul_left g h1
 omega
theorem GuessAt.le2 {V W : Digs} {v1 top g rest : Nat} (h : GuessAt V W v1 top g rest) : rest ≤ top := by have := h.sum; omega
theorem GuessAt.down {V W : Digs} {v1 top g rest : Nat} (h : GuessAt V W v1 top (g + 1) rest) (hi : val W < g * val V + val V) : GuessAt V W v1 top g (rest + v1) :=
 ⟨by have := h.sum; rw [Nat.add_mul] at this; omega, hi⟩
theorem GuessAt.big {V W : Digs} {v1 top g rest : Nat} (h : GuessAt V W v1 top (g + 1) rest) (hW : val W < 1048576 * val V) (hg : 1048576 ≤ g + 1) : GuessAt V W v1 top g (rest + v1) :=
 h.down (by have := guess_big hW hg; simpa using this)
section
variable {V os A W C : Digs} {i n2 x0 x1 x2 y1 w0 w1 w2 v1 v2 top g0 r0 g rest : Nat} (F : DivDigit V os A W C i n2 x0 x1 x2 y1 w0 w1 w2 v1 v2 top g0 r0)
include F
theorem DivDigit.guess0 : GuessAt V W v1 top g0 r0 := ⟨F.gr.1, guess_start rfl F.tv F.tw F.lw F.s2 F.gr.2⟩
theorem DivDigit.guess1 (h : GuessAt V W v1 top (g + 1) rest) (hg : rest * 1048576 + w2 < (g + 1) * v2) : GuessAt V W v1 top g (rest + v1) :=
 h.down (by have := guess_down F.tv F.tw F.lw h.sum hg; simpa using this)
theorem DivDigit.guess2 (h : GuessAt V W v1 top g rest) (hg : g < 1048576) (hx : 1048576 ≤ rest ∨ g * v2 ≤ rest * 1048576 + w2) : g * val V ≤ val W + val V :=
 guess_end F.tv F.tw F.lv h.sum F.v1p hg hx F.sv2
end
theorem div_sum {A p W W' V Q q N : Nat} (h : A + p * W + V * Q = N) (hq : q * V + W' = W) : A + p * W' + V * (Q + p * q) = N := by
 subst hq; grind
theorem ownN_drewN {w : World} {B : Nat} {v : Value} {l : Digs} (h : OwnN w B v l) (n : Nat) : OwnN (w.drewN n) B v l := h
theorem val_mid (A W C : Digs) (h : val C = 0) : val (A ++ W ++ C) = val A + 1048576 ^ A.length * val W := by
 rw [List.append_assoc, val_append, val_append, h, Nat.mul_zero, Nat.add_zero]
theorem val_set0 {l : Digs} {k d : Nat} (h : k < l.length) (h0 : l[k] = 0) : val (l.set k d) = val l + 1048576 ^ k * d := by
 have := val_set l k d h; rw [h0, Nat.mul_zero, Nat.add_zero] at this; exact this
theorem small_mid {A W C : Digs} (h : small (A ++ W ++ C)) {W' : Digs} (h' : small W') : small (A ++ W' ++ C) := by
 intro d hd
 rcases List.mem_append.1 hd with hd | hd
 · rcases List.mem_append.1 hd with hd | hd
   · exact h d (by simp [hd])
   · exact h' d hd
 · exact h d (by simp [hd])
theorem DivWin.next {a s i qd : Nat} {V os qs A W C W' : Digs} (H : DivWin V os A W C i) (D : DivAt a s V os qs (i + 1)) (hi : i < qs.length) (hl : W'.length = W.length) (sW : small W') (hq : qd * val V + val W' = val W) (hlt : val W' < val V) :
 DivAt a s V (A ++ W' ++ C) (qs.set i qd) i ∧ (A ++ W' ++ C).length = os.length := by
 have e := H.eq
 have hqd : qd < 1048576 := by
  have h1 : qd * val V < 1048576 * val V := by have := H.lt; omega
  exact Nat.lt_of_mul_lt_mul_right h1
 refine ⟨⟨?_, small_set D.sq hqd, ?_, ?_, ?_⟩, ?_⟩
 · have := D.so
   rw [e] at this; exact small_mid this sW
 · have h1 := D.sum
   rw [e, val_mid A W C H.zC, H.lenA] at h1; rw [val_mid A W' C H.zC, H.lenA, val_set0 hi (D.zero i hi (by omega))]; exact div_sum h1 hq
 · rw [List.append_assoc, List.drop_append_of_le_length (by rw [H.lenA]; omega), List.drop_of_length_le (by rw [H.lenA]; omega), List.nil_append, val_append, H.zC, Nat.mul_zero, Nat.add_zero]
   exact hlt
 · intro j hj hji
   rw [List.getElem_set, if_neg (by omega)]; exact D.zero j (by simpa using hj) (by omega)
 · rw [e]; simp [hl]
theorem DivAt.done {a b s nq : Nat} {U V os qs : Digs} (h : DivAt a s V os qs 0) (F : DivFit a b s U V nq) (hs : 1 ≤ s) : val qs = a / b ∧ val os / s = a % b := by
 have h1 := h.sum; have h2 := h.low; rw [List.drop_zero] at h2; have h3 := F.valV; have h0 : 0 < val V := by omega
 have hq : val qs = a * s / (b * s) := by
  rw [← h1, ← h3, Nat.add_mul_div_left _ _ h0, Nat.div_eq_of_lt h2, Nat.zero_add]
 have hr : val os = a * s % (b * s) := by
  rw [← h1, ← h3, Nat.add_mul_mod_self_left, Nat.mod_eq_of_lt h2]
 rw [Nat.mul_div_mul_right _ _ hs] at hq; rw [Nat.mul_mod_mul_right] at hr; exact ⟨hq, by rw [hr, Nat.mul_div_cancel _ hs]⟩
theorem OwnN.cellAt {w : World} {B g n cap : Nat} {l : Digs} (h : OwnN w B (.slice (some ⟨g, 0, none⟩) n cap) l) {k d : Nat} (hk : l[k]? = some d) : w.cell? ⟨g, k, none⟩ = some (.int .i64 (d : Int)) := by
 obtain ⟨hlt, rfl⟩ := List.getElem?_eq_some_iff.1 hk; exact h.cell hlt
theorem bigDiv_long (p q : Value) (a b : Nat) (w : World) (hp : RdN w p (digs a)) (hq : RdN w q (digs b)) (hab : b ≤ a) (h0 : 1 < (digs b).length) (hn : (digs a).length ≤ 1099511627776) :
 Calls Tryz.prog 103 #[p, q] w fun e w' => ∃ v r, e = .returned (.tuple #[v, r]) ∧ OwnN w' w.heap.size v (digs (a / b)) ∧ OwnN w' w.heap.size r (digs (a % b)) ∧ Below w.heap.size w w' := by
 have HO : Hid (0 ≤ ord a b) := by
  show _ ≤ _
  rcases Nat.lt_or_ge b a with h | h
  · rw [ord_gt (by omega)]; omega
  · obtain rfl : a = b := by omega
    rw [ord_eq]; omega
 obtain ⟨o, ho⟩ : ∃ o, o = ord a b := ⟨_, rfl⟩; have hon : 0 ≤ o := by rw [ho]; exact HO.out
 have HOO := Lib.hid ho; clear ho; have hlen := digs_len_mono hab; obtain ⟨P, hP⟩ : ∃ P, P = digs a := ⟨_, rfl⟩; obtain ⟨Q, hQ⟩ : ∃ Q, Q = digs b := ⟨_, rfl⟩; have sP : small P := by rw [hP]; exact digs_small a
 have sQ : small Q := by rw [hQ]; exact digs_small b
 have hlast : Q.getLast? ≠ some 0 := by rw [hQ]; exact digs_last b
 rw [← hP] at hp hn hlen; rw [← hQ] at hq h0 hlen; have HPa : Hid (val P = a) := by show _ = _; rw [hP, val_digs]
 have HQb : Hid (val Q = b) := by show _ = _; rw [hQ, val_digs]
 have HP := Lib.hid hp; have HQ := Lib.hid hq; have HDP := Lib.hid hP; have HDQ := Lib.hid hQ; clear hp hq hP hQ; obtain ⟨a2, cap2, rfl⟩ := HQ.out.shape; obtain ⟨a1, cap1, rfl⟩ := HP.out.shape; go_enter Tryz.func103, Tryz.ntmps103
 go_wp2_with fail
 refine (bigcmp_any _ _ a b w (by rw [← HDP.out]; exact HP.out) (by rw [← HDQ.out]; exact HQ.out) (by rw [← HDP.out]; exact hn) (by rw [← HDQ.out]; omega)).mono ?_; rintro e w1 ⟨rfl, hb⟩; rw [← HOO.out]; have HB := Lib.hid hb; clear hb; obtain ⟨m, hm⟩ : ∃ m, m = Q.length - 1 := ⟨_, rfl⟩; have ht : m < Q.length := by omega
 have hidx : (Q.length : Int) - 1 = (m : Int) := by omega
 have hm1 : 1 ≤ m := by omega
 have hmb : m ≤ 1099511627776 := by omega
 have hnq : Q.length ≤ 1099511627776 := by omega
 obtain ⟨b1, off1, rfl, hb1, hcell⟩ := (HQ.out.keep HB.out).at ht; obtain ⟨t, htt⟩ : ∃ t, t = Q[m] := ⟨_, rfl⟩; rw [← htt] at hcell
 have ht1 : 1 ≤ t := by
  rcases Nat.eq_zero_or_pos t with h | h
  · exfalso; apply hlast; rw [List.getLast?_eq_getElem?, ← hm, List.getElem?_eq_getElem ht, ← htt, h]
  · exact h
 have hts : t < 1048576 := by rw [htt]; exact small_get sQ _ ht
 have HT := Lib.hid htt; have HM := Lib.hid hm; have HL := Lib.hid hlen; clear hlast htt hm hlen; have e1 : ((Q.length : Int) == 1) = false := by rw [beq_eq_false_iff_ne]; omega
 go_wp2_with fail
 go_loop [8] (fun v => ∃ s : Nat, 1 ≤ s ∧ s < 1048576 ∧ v = .int .i64 s ∧ Hid (t * s < 1048576)) (fun v => 1048576 - (intOf v).toNat)
 case atStart => exact ⟨1, by omega, by omega, rfl, by show _ < _; omega⟩
 case round =>
  obtain ⟨s, hs1, hs2, rfl, HTS⟩ := hrel; obtain ⟨z, hz⟩ : ∃ z : Nat, z = t * s := ⟨_, rfl⟩; have hzb : z < 1048576 := by rw [hz]; exact HTS.out
  have hzs : s ≤ z := by rw [hz]; have := Nat.mul_le_mul_right s ht1; omega
  have hzi : ((t : Int) * (s : Int)) = (z : Int) := by rw [hz]; simp
  have HZ := Lib.hid hz; clear hz
  by_cases hlt : z < 524288
  · have e2 : decide ((z : Int) < 524288) = true := by rw [decide_eq_true_eq]; omega
    have HLT := Lib.hid hlt; clear hlt; go_wp2_with fail
    go_round
    case rel => exact ⟨s * 2, by omega, by have := HLT.out; omega, by go_num, by show _ < _; have := HLT.out; rw [← Nat.mul_assoc, ← HZ.out]; omega⟩
    case measure => simp [intOf]; omega
  · have e2 : decide ((z : Int) < 524288) = false := by rw [decide_eq_false_iff_not]; omega
    have HLT := Lib.hid hlt; clear hlt; go_wp2_with fail
    refine (bigMul_any _ _ P [s] _ (HP.out.keep (HB.out.alloc HB.out.size _)) (own_lit1 w1 w1.heap.size s (Nat.le_refl _)).rd sP (small_one hs2) hn (by simp)).mono ?_; rintro e w2 ⟨v1, rfl, ho1, hb2⟩; have hv1 : val P * val [s] = a * s := by rw [HPa.out]; simp [val]
    rw [hv1] at ho1; have HO1 := Lib.hid ho1; clear ho1 hv1; have HB2 := Lib.hid hb2; clear hb2; have hBw : w.heap.size ≤ w2.heap.size := by have h1 := HB.out.size; have h2 := HB2.out.size; simp at h2; omega
    have HA1 : Hid (OwnN (w2.alloc (.cells #[.int .i64 0] 3)) w.heap.size v1 (digs (a * s))) := (HO1.out.keep ((Below.refl _ _).alloc (Nat.le_refl _) _)).mono (by have h1 := HB.out.size; simp; omega); have HA2 : Hid (RdN (w2.alloc (.cells #[.int .i64 0] 3)) (.slice (some ⟨w2.heap.size, 0, none⟩) 1 1) [0]) := (own_lit1 w2 w2.heap.size 0 (Nat.le_refl _)).rd; have HA3 : Hid ((digs (a * s)).length ≤ P.length + 1) := by show _ ≤ _; rw [HDP.out]; exact digs_len_mul_one hs2
    have HB3 : Hid (Below w.heap.size w w2) := (HB.out.alloc HB.out.size _).trans (HB2.out.mono (by have h1 := HB.out.size; simp; omega)); go_wp2_with (at_builtin; go_must (refine wpList_appendN rfl _ _ rfl (w2.alloc (.cells #[.int .i64 0] 3)) w.heap.size v1 (digs (a * s)) rfl HA1.out ⟨w2.heap.size, 0, none⟩ 1 1 [0] rfl rfl HA2.out (by have := HA3.out; simp; omega) (by simp; omega) ?_; intro v3 w3 ho3 hg3 hb3))
    have HO3 := Lib.hid ho3; clear ho3; have HB4 : Hid (Below w.heap.size w w3) := (HB3.out.alloc HB3.out.size _).trans hb3; clear hg3 hb3; refine (bigMul_any _ _ Q [s] _ (HQ.out.keep (HB4.out.alloc HB4.out.size _)) (own_lit1 w3 w3.heap.size s (Nat.le_refl _)).rd sQ (small_one hs2) hnq (by simp)).mono ?_; rintro e w4 ⟨v4, rfl, ho4, hb4⟩; have hv4 : val Q * val [s] = b * s := by rw [HQb.out]; simp [val]
    rw [hv4] at ho4; have HB5 : Hid (Below w3.heap.size w3 w4) := below_new hb4; clear hb4 hv4; obtain ⟨U, V, nq, HU, HV, HF⟩ := div_start a b s hs1 hab (pos_of_len (by rw [← HDQ.out]; exact h0)); have hVlen : 2 ≤ V.length := by have h1 := HF.out.lenV; rw [← HDQ.out] at h1; omega
    have hUP : P.length < U.length := by have h1 := HF.out.lenU; rw [← HDP.out] at h1; exact h1
    have hUb : U.length ≤ 1099511627778 := by rw [HU.out]; simp; have := HA3.out; omega
    have hnq1 : nq + V.length = U.length := HF.out.len; rw [← HU.out] at HO3; rw [← HV.out] at ho4; have hnn : (U.length : Int) - (V.length : Int) = (nq : Int) := by omega
    have hVb : V.length ≤ 1099511627778 := by omega
    have hnb : nq ≤ 1099511627778 := by omega
    have e3 : ((U.length : Int) == (P.length : Int)) = false := by rw [beq_eq_false_iff_ne]; omega
    have HNQ := Lib.hid hnq1; clear hnq1; rcases HO3.out.shape with ⟨-, h⟩ | ⟨gu, capu, rfl, hgu, hgul, hcapu⟩
    · exfalso; rw [h] at hUP; simp at hUP
    rcases ho4.shape with ⟨-, h⟩ | ⟨gv, capv, rfl, hgv, hgvl, hcapv⟩
    · exfalso; rw [h] at hVlen; simp at hVlen
    have HO4 := Lib.hid (ho4.mono (B' := w.heap.size) (by have := HB4.out.size; simp; omega)); clear ho4; have HO5 := Lib.hid (HO3.out.keep HB5.out); have HB6 : Hid (Below w.heap.size w w4) := HB4.out.trans (HB5.out.mono HB4.out.size); have hne : gv ≠ gu := by simp at hgv; omega
    go_wp2_with (at_make; go_must (refine wpList_mkints rfl _ _ rfl w4 w4.heap.size nq _ _ rfl rfl rfl rfl (by omega) (Nat.le_refl _) ?_; intro w5 ho5 hb5))
    have HA : Hid (OwnN w5 w.heap.size (.slice (some ⟨w4.heap.size, 0, none⟩) nq nq) (List.replicate nq 0)) := ho5.mono HB6.out.size; have HAu := Lib.hid (HO5.out.keep hb5); have HAv := Lib.hid (HO4.out.keep hb5); have HAb : Hid (Below w.heap.size w w5) := HB6.out.trans (hb5.mono HB6.out.size); have hguq : gu ≠ w4.heap.size := by have := HB5.out.size; omega
    have hgvq : gv ≠ w4.heap.size := by omega
    have hw4 : w.heap.size ≤ w4.heap.size := HB6.out.size; clear ho5 hb5 HO1 HB2 HA1 HA2 HA3 HB3 hidx hcell e1 e3 hBw HTS hzb hzs hzi HZ e2 HLT hcapv hm1 hmb hnq ht1 hts HT HM HL hb1 hgul hgvl hgv HO3 HO4 HO5 HB4 HB5 HB6 HQ HP; go_loopw [13] (fun v wr => ∃ (k : Nat) (os qs : Digs), k ≤ nq ∧ os.length = U.length ∧ qs.length = nq ∧ v = .int .i64 ((k : Int) - 1) ∧ Hid (DivAt a s V os qs k) ∧ Hid (OwnN wr w.heap.size (.slice (some ⟨gu, 0, none⟩) U.length capu) os) ∧ Hid (OwnN wr w.heap.size (.slice (some ⟨gv, 0, none⟩) V.length capv) V) ∧ Hid (OwnN wr w.heap.size (.slice (some ⟨w4.heap.size, 0, none⟩) nq nq) qs) ∧ Hid (Below w.heap.size w wr)) (fun v _ => (intOf v + 1).toNat)
    case atStart => exact ⟨nq, U, List.replicate nq 0, Nat.le_refl _, rfl, by simp, rfl, HF.out.start, HAu, HAv, HA, HAb⟩
    case round =>
     obtain ⟨k, os, qs, hk, hlo, hlq, rfl, HD, HWu, HWv, HWq, HWB⟩ := hrel; have HLo := Lib.hid hlo; have HLq := Lib.hid hlq
     by_cases hk0 : 0 < k
     · obtain ⟨i, rfl⟩ : ∃ i, k = i + 1 := ⟨k - 1, by omega⟩
       have em : (((i + 1 : Nat) : Int) - 1) = (i : Int) := by omega
       rw [em]; clear em; obtain ⟨A, W, C, n2, x0, x1, x2, y1, w0, w1d, w2d, v1d, v2d, top, g0, r0, HF2⟩ := div_digit HF.out HD.out (by omega) hVlen hlo hUb; have hi0 := HF2.out.i0; have hi1 := HF2.out.i1; have hi2 := HF2.out.i2; have hj1 := HF2.out.j1; have hj2 := HF2.out.j2; have hc0 := HWu.out.cellAt HF2.out.c0; have hc1 := HWu.out.cellAt HF2.out.c1; have hc2 := HWu.out.cellAt HF2.out.c2; have hd1 := HWv.out.cellAt HF2.out.d1; have hd2 := HWv.out.cellAt HF2.out.d2; have hs0 := HF2.out.s0; have hs2' := HF2.out.s2; have hsv1 := HF2.out.sv1; have hsv2 := HF2.out.sv2; have hv1p := HF2.out.v1p; have hor := HF2.out.hor; have htb := HF2.out.tb; have htd := HF2.out.td; have htm := HF2.out.tm; have hg0b := HF2.out.g0b; have hr0b := HF2.out.r0b; obtain ⟨hxb0, hxb1, hxb2, hyb1, hib, hnb2⟩ := HF2.out.ib; have hx0 : x0 ≤ 1099511627778 := by omega
       have hq0 : (x0 : Int) < (U.length : Int) := by omega
       have hq1 : (x1 : Int) < (U.length : Int) := by omega
       have hq2 : (x2 : Int) < (U.length : Int) := by omega
       have hq3 : (y1 : Int) < (V.length : Int) := by omega
       have hq4 : (n2 : Int) < (V.length : Int) := by omega
       have wi0 : IntKind.i64.wrap ((i : Int) + (V.length : Int)) = (x0 : Int) := by rw [hi0]; exact IntWalk.i64_in _ (by omega)
       have wi1 : IntKind.i64.wrap ((x0 : Int) - 1) = (x1 : Int) := by rw [hi1]; exact IntWalk.i64_in _ (by omega)
       have wi2 : IntKind.i64.wrap ((x0 : Int) - 2) = (x2 : Int) := by rw [hi2]; exact IntWalk.i64_in _ (by omega)
       have wj1 : IntKind.i64.wrap ((V.length : Int) - 1) = (y1 : Int) := by rw [hj1]; exact IntWalk.i64_in _ (by omega)
       have wj2 : IntKind.i64.wrap ((V.length : Int) - 2) = (n2 : Int) := by rw [hj2]; exact IntWalk.i64_in _ (by omega)
       have ws0 : IntKind.i64.wrap ((w0 : Int) * 1048576) = (w0 : Int) * 1048576 := IntWalk.i64_in _ (by omega); clear hlo hlq; go_wp2_with fail
       go_quiet (fail)
       go_wp2_with fail
       have ev1 : ((v1d : Int) == 0) = false := by rw [beq_eq_false_iff_ne]; omega
       have wg0 : IntKind.i64.wrap (g0 : Int) = (g0 : Int) := IntWalk.i64_in _ (by omega); go_quiet (fail)
       go_wp2_with fail
       obtain ⟨wo, rfl⟩ : ∃ wo : World, wo = wr := ⟨_, rfl⟩; have HG0 : Hid (GuessAt V W v1d top g0 r0) := HF2.out.guess0; clear wi0 hor htd htm wg0 hc0 hc1 hq0 hq1 wi1; go_loopw [15, 16] (fun a b wr => ∃ g rest nd : Nat, a = .int .i64 g ∧ b = .int .i64 rest ∧ wr = wo.drewN nd ∧ Hid (GuessAt V W v1d top g rest)) (fun a _ _ => (intOf a).toNat)
       case atStart => exact ⟨g0, r0, _, rfl, rfl, World.drewN_drewN _ _ _, HG0⟩
       case round =>
        obtain ⟨g, rest, nd, rfl, rfl, rfl, HG⟩ := hrel; have hgt : g ≤ top := HG.out.le hv1p; have hrt : rest ≤ top := HG.out.le2
        by_cases hA : 1048576 ≤ g
        · have eA : decide (1048576 ≤ (g : Int)) = true := by rw [decide_eq_true_eq]; omega
          obtain ⟨g', hg'⟩ : ∃ g', g = g' + 1 := ⟨g - 1, by omega⟩
          have HG' : Hid (GuessAt V W v1d top g' (rest + v1d)) := by
           have h1 := HG.out; rw [hg'] at h1 hA; exact h1.big HF2.out.win.lt hA
          have hgm : (g : Int) - 1 = (g' : Int) := by omega
          have HAA := Lib.hid hA; have HGG := Lib.hid hg'; clear hA hg'; go_wp2_with fail
          go_quiet (fail)
          go_wp2_with fail
          go_roundw
          case rel => exact ⟨g', rest + v1d, _, rfl, by go_num, rfl, HG'⟩
          case measure => have := HGG.out; simp [intOf]; omega
        · have eA : decide (1048576 ≤ (g : Int)) = false := by rw [decide_eq_false_iff_not]; omega
          have hgB : g < 1048576 := by omega
          clear hA
          by_cases hR : 1048576 ≤ rest
          · have eR : decide ((rest : Int) < 1048576) = false := by rw [decide_eq_false_iff_not]; omega
            have HEX : Hid (g * val V ≤ val W + val V) := HF2.out.guess2 HG.out (by omega) (.inl hR); go_wp2_with fail
            go_quiet (fail)
            go_wp2_with fail
            have hxi : x0 + 1 - i = W.length := by have := HF2.out.win.lenW; have := HF2.out.i0; omega
            rw [hxi]; have HWl := Lib.hid hxi; clear hxi; refine (bigSettle_any w.heap.size gu gv i U.length capu _ capv g A W C V _ (ownN_drewN (by rw [← HF2.out.win.eq]; exact HWu.out) _) (ownN_drewN HWv.out _) hne HF2.out.win.lenA HF2.out.win.sW HF.out.sV (by rw [HF2.out.win.lenW]; omega) (by rw [HF2.out.win.lenW]; omega) hgB HEX.out HG.out.hi).mono ?_; rintro e w6 ⟨qd, rfl, HS⟩; obtain ⟨W', hW', hlW, sW', hqe, hql⟩ := HS.left; have HWq6 := Lib.hid ((ownN_drewN HWq.out _).far HS.frame (Ne.symm hguq)); have HWv6 := Lib.hid ((ownN_drewN HWv.out _).far HS.frame hne); have HWB6 : Hid (Below w.heap.size w w6) := (below_drewN HWB.out _).grown HS.frame HWB.out.size (by intro k hk; cases hk; exact hgu); have hiq : i < qs.length := by rw [HLq.out]; omega
            have hcq := HWq6.out.cell hiq; have hfq := HWq6.out.live i
            have HND : Hid (DivAt a s V (A ++ W' ++ C) (qs.set i qd) i ∧ (A ++ W' ++ C).length = U.length) := by
             have h1 := HF2.out.win.next HD.out hiq hlW sW' hqe hql; exact ⟨h1.1, h1.2.trans HLo.out⟩
            have HW6 := Lib.hid hW'; clear HS hW' hlW sW' hqe hql; go_wp2_with fail
            go_roundw
            case rel => exact ⟨i, A ++ W' ++ C, qs.set i qd, Nat.le_of_succ_le hk, HND.out.2, by rw [List.length_set]; exact HLq.out, rfl, HND.out.1, HW6.out.far (only_setCell (World.grownBy.refl _ _) _) hguq, HWv6.out.far (only_setCell (World.grownBy.refl _ _) _) hgvq, HWq6.out.set i qd, HWB6.out.setCell hw4 _⟩
            case measure => simp [intOf]
          · have eR : decide ((rest : Int) < 1048576) = true := by rw [decide_eq_true_eq]; omega
            have hrB : rest < 1048576 := by omega
            clear hR; obtain ⟨zz, hzz⟩ : ∃ z : Nat, z = g * v2d := ⟨_, rfl⟩; have hzzb : zz ≤ 1099509530625 := by rw [hzz]; exact Nat.mul_le_mul (show g ≤ 1048575 by omega) (show v2d ≤ 1048575 by omega)
            have hzzi : ((g : Int) * (v2d : Int)) = (zz : Int) := by rw [hzz]; simp
            obtain ⟨o2, ho2⟩ : ∃ x, x = rest * 1048576 + w2d := ⟨_, rfl⟩; have hor2 : bits .or .i64 ((rest : Int) * 1048576) (w2d : Int) = (o2 : Int) := by rw [or20 (by omega) hs2', ho2]
            have wzz : IntKind.i64.wrap (zz : Int) = (zz : Int) := IntWalk.i64_in _ (by omega); have wrs : IntKind.i64.wrap ((rest : Int) * 1048576) = (rest : Int) * 1048576 := IntWalk.i64_in _ (by omega); have HZZ := Lib.hid hzz; have HO2 := Lib.hid ho2; clear hzz ho2
            by_cases hC : o2 < zz
            · have eC : decide ((o2 : Int) < (zz : Int)) = true := by rw [decide_eq_true_eq]; omega
              have eC' : decide (o2 < zz) = true := by rw [decide_eq_true_eq]; omega
              have hg1 : 1 ≤ g := by
               rcases Nat.eq_zero_or_pos g with h | h
               · have := HZZ.out; rw [h, Nat.zero_mul] at this; omega
               · exact h
              obtain ⟨g', hg'⟩ : ∃ g', g = g' + 1 := ⟨g - 1, by omega⟩
              have HG' : Hid (GuessAt V W v1d top g' (rest + v1d)) := by
               have h1 := HG.out; rw [HO2.out, HZZ.out] at hC; rw [hg'] at h1 hC; exact HF2.out.guess1 h1 hC
              have hgm : (g : Int) - 1 = (g' : Int) := by omega
              have HGG := Lib.hid hg'; clear hg' hC; go_wp2_with fail
              go_quiet (fail)
              go_wp2_with fail
              go_roundw
              case rel => exact ⟨g', rest + v1d, _, rfl, by go_num, rfl, HG'⟩
              case measure => have := HGG.out; simp [intOf]; omega
            · have eC : decide ((o2 : Int) < (zz : Int)) = false := by rw [decide_eq_false_iff_not]; omega
              have eC' : decide (o2 < zz) = false := by rw [decide_eq_false_iff_not]; omega
              have HEX : Hid (g * val V ≤ val W + val V) := HF2.out.guess2 HG.out (by omega) (.inr (by rw [← HZZ.out, ← HO2.out]; omega)); go_wp2_with fail
              go_quiet (fail)
              go_wp2_with fail
              have hxi : x0 + 1 - i = W.length := by have := HF2.out.win.lenW; have := HF2.out.i0; omega
              rw [hxi]; have HWl := Lib.hid hxi; clear hxi; refine (bigSettle_any w.heap.size gu gv i U.length capu _ capv g A W C V _ (ownN_drewN (by rw [← HF2.out.win.eq]; exact HWu.out) _) (ownN_drewN HWv.out _) hne HF2.out.win.lenA HF2.out.win.sW HF.out.sV (by rw [HF2.out.win.lenW]; omega) (by rw [HF2.out.win.lenW]; omega) hgB HEX.out HG.out.hi).mono ?_; rintro e w6 ⟨qd, rfl, HS⟩; obtain ⟨W', hW', hlW, sW', hqe, hql⟩ := HS.left; have HWq6 := Lib.hid ((ownN_drewN HWq.out _).far HS.frame (Ne.symm hguq)); have HWv6 := Lib.hid ((ownN_drewN HWv.out _).far HS.frame hne); have HWB6 : Hid (Below w.heap.size w w6) := (below_drewN HWB.out _).grown HS.frame HWB.out.size (by intro k hk; cases hk; exact hgu); have hiq : i < qs.length := by rw [HLq.out]; omega
              have hcq := HWq6.out.cell hiq; have hfq := HWq6.out.live i
              have HND : Hid (DivAt a s V (A ++ W' ++ C) (qs.set i qd) i ∧ (A ++ W' ++ C).length = U.length) := by
               have h1 := HF2.out.win.next HD.out hiq hlW sW' hqe hql; exact ⟨h1.1, h1.2.trans HLo.out⟩
              have HW6 := Lib.hid hW'; clear HS hW' hlW sW' hqe hql; go_wp2_with fail
              go_roundw
              case rel => exact ⟨i, A ++ W' ++ C, qs.set i qd, Nat.le_of_succ_le hk, HND.out.2, by rw [List.length_set]; exact HLq.out, rfl, HND.out.1, HW6.out.far (only_setCell (World.grownBy.refl _ _) _) hguq, HWv6.out.far (only_setCell (World.grownBy.refl _ _) _) hgvq, HWq6.out.set i qd, HWB6.out.setCell hw4 _⟩
              case measure => simp [intOf]
     · obtain rfl : k = 0 := by omega
       have em : ((0 : Nat) : Int) - 1 = -1 := rfl; rw [em]; clear em; have HQR : Hid (val qs = a / b ∧ val os / s = a % b) := HD.out.done HF.out hs1; have hol : Hid (os.length ≤ 8796093022208) := by show _ ≤ _; omega
       have hql : Hid (qs.length ≤ 8796093022208) := by show _ ≤ _; omega
       have hvl : Hid ((digs (val os)).length ≤ 1099511627778) := by
        show _ ≤ _
        have := digs_len_of_lt (val_lt HD.out.so)
        omega
       clear hlo hlq; go_wp2_with fail
       refine (bigTrim_own w.heap.size _ os _ HWu.out HD.out.so hol.out).mono ?_; rintro e w6 ⟨v6, rfl, ho6, rfl⟩; have HO6 := Lib.hid ho6; clear ho6; go_wp2_with fail
       refine (bigShort_any v6 (digs (val os)) s _ HO6.out.rd (digs_small _) hs1 hs2 (by have := hvl.out; omega)).mono ?_; rintro e w7 ⟨v7, rfl, ho7, hb7⟩; rw [val_digs, HQR.out.2] at ho7; have HO7 := Lib.hid (ho7.mono HWB.out.size); clear ho7; have HQ7 := Lib.hid (HWq.out.keep hb7); have HB7 : Hid (Below w.heap.size w w7) := HWB.out.trans (hb7.mono HWB.out.size); clear hb7; rw [val_digs]; go_wp2_with fail
       refine (bigTrim_own w.heap.size _ qs _ HQ7.out HD.out.sq hql.out).mono ?_; rintro e w8 ⟨v8, rfl, ho8, rfl⟩; rw [HQR.out.1] at ho8; have HO8 := Lib.hid ho8; clear ho8; go_wp2_with fail
       go_ret2
       exact ⟨v8, v7, rfl, HO8.out, HO7.out, HB7.out⟩
theorem bigDiv_any (p q : Value) (a b : Nat) (w : World) (hp : RdN w p (digs a)) (hq : RdN w q (digs b)) (hb : 0 < b) (hn : (digs a).length ≤ 1099511627775) (hm : (digs b).length ≤ 1099511627776) :
 Calls Tryz.prog 103 #[p, q] w fun e w' => ∃ v r, e = .returned (.tuple #[v, r]) ∧ OwnN w' w.heap.size v (digs (a / b)) ∧ OwnN w' w.heap.size r (digs (a % b)) ∧ Below w.heap.size w w' := by
 rcases Nat.lt_or_ge a b with h | h
 · exact bigDiv_lt p q a b w hp hq h (by omega) hm
 · rcases Nat.lt_or_ge 1 (digs b).length with h1 | h1
   · exact bigDiv_long p q a b w hp hq h h1 (by omega)
   · exact bigDiv_one p q a b w hp hq h hb (by
      have := digs_len_lt b; have h2 : 1048576 ^ (digs b).length ≤ 1048576 ^ 1 := Nat.pow_le_pow_right (by omega) h1
      omega) (by omega)
end Go.Proofs.YtlcgckelamhnpaaGreat
