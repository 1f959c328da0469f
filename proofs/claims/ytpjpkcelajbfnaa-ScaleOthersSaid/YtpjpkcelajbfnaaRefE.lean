/- Walks of the verifier's reference: digits divided by digits. -/
import Derived.Test.YtpjpkcelajbfnaaRefD
namespace Go.Proofs.Ytpjpkcelajbfnaa
open Go.RowKit

theorem wpList_appendAny {ops : Array Oper} {rest : List Oper} {o : Oper} {a : Act} {Q : Exit → Act → World → Prop} (hgd : o.guard = none) (s x : Operand)
    (ho : o.op = .call { callee := .builtin .append, args := #[s, x], argTypes := #[30, 30] }) (w : World) (B : Nat) (v : Value) (l : Digs) (hs : a.eval s = v) (hown : OwnN w B v l)
    (sv : Value) (k : Digs) (hx : a.eval x = sv) (hk : RdN w sv k) (hn : l.length + k.length ≤ 17592186044416) (hB : B ≤ w.heap.size)
    (h : ∀ v' w', OwnN w' B v' (l ++ k) → Below B w w' → wpList Try.prog ops Q rest (a.put o.dst v') w') :
    wpList Try.prog ops Q (o :: rest) a w := by
  obtain ⟨A, c, rfl⟩ := hk.shape
  cases A with
  | none =>
    have := nil_of_none hk
    subst this
    refine wpList_appendNil hgd s x ho w B v l hs hown c hx (h v w (by rw [List.append_nil]; exact hown) (Below.refl _ _))
  | some ad => exact wpList_appendN hgd s x ho w B v l hs hown ad k.length c k hx rfl hk hn hB (fun v' w' h1 _ h3 => h v' w' h1 h3)
theorem OwnN.away {w w' : World} {B g : Nat} {v : Value} {l : Digs} (h : OwnN w B v l) (hg : w.grownBy w' (some g)) (hlt : g < B) : OwnN w' B v l := by
  rcases h.shape with ⟨rfl, rfl⟩ | ⟨gv, cap, rfl, hge, -, -⟩
  · exact ownN_nil _ _
  · exact h.far hg (by omega)

theorem OwnN.blw {w w' : World} {B n cap : Nat} {l : Digs} {g B' : Nat} (h : OwnN w B (.slice (some ⟨g, 0, none⟩) n cap) l) (hb : Below B' w w') (hg : g < B' := by omega) : OwnN w' B (.slice (some ⟨g, 0, none⟩) n cap) l := by
  refine ⟨h.1, ?_⟩
  rcases h.2 with h2 | ⟨g', cap', cur, hv, hg', hh, r⟩
  · exact .inl h2
  · have : g' = g := by simp only [Value.slice.injEq, Option.some.injEq, Addr.mk.injEq, and_true] at hv; exact hv.1.symm
    subst this
    exact .inr ⟨g', cap', cur, hv, hg', by rw [hb.block g' hg]; exact hh, r⟩

/-- Where the reference's division stands. -/
structure OverAt (P : Digs) (b : Nat) (qs : Digs) (R k : Nat) : Prop where
  sq : small qs
  len : qs.length = P.length
  sum : val (P.drop k) = val (qs.drop k) * b + R
  lt : R < b
theorem over_start {P : Digs} {b : Nat} (h : 0 < b) : OverAt P b (List.replicate P.length 0) 0 P.length :=
  ⟨small_replicate _, by simp, by rw [List.drop_of_length_le (Nat.le_refl _), List.drop_of_length_le (by simp)]; simp [val], h⟩
theorem over_sum {x B R S b lo v : Nat} (h : v = S * b + R) (h1 : lo * b ≤ x + B * R) : x + B * v = (lo + B * S) * b + (x + B * R - lo * b) := by
  subst h
  have e1 : x + B * (S * b + R) = (x + B * R) + B * S * b := by grind
  have e2 : (lo + B * S) * b = lo * b + B * S * b := by grind
  omega
theorem over_next {P qs : Digs} {b R m lo : Nat} (h : OverAt P b qs R (m + 1)) (hm : m < P.length) (hl : lo < 1048576) (h1 : lo * b ≤ P[m] + 1048576 * R) (h2 : P[m] + 1048576 * R < lo * b + b) :
    OverAt P b (qs.set m lo) (P[m] + 1048576 * R - lo * b) m := by
  have hmq : m < qs.length := by rw [h.len]; exact hm
  refine ⟨small_set h.sq hl, by rw [List.length_set]; exact h.len, ?_, by omega⟩
  rw [List.drop_eq_getElem_cons hm, val, List.drop_eq_getElem_cons (l := qs.set m lo) (by rw [List.length_set]; exact hmq), List.getElem_set_self, drop_set_succ, val]
  exact over_sum h.sum h1
theorem over_end {P qs : Digs} {b R : Nat} (h : OverAt P b qs R 0) : val qs = val P / b ∧ R = val P % b := by
  have h1 := h.sum
  have h2 := h.lt
  rw [List.drop_zero, List.drop_zero] at h1
  rw [h1, Nat.mul_comm]
  exact ⟨by rw [Nat.mul_add_div (by omega), Nat.div_eq_of_lt h2, Nat.add_zero], by rw [Nat.mul_add_mod, Nat.mod_eq_of_lt h2]⟩

set_option maxRecDepth 100000 in
set_option maxHeartbeats 8000000 in
theorem over_ok (p q : Value) (P : Digs) (b : Nat) (w : World) (hp : RdN w p P) (hq : RdN w q (digs b)) (sP : small P) (hb0 : 0 < b) (hn : P.length ≤ 549755813888) (hm : (digs b).length ≤ 549755813888) :
    Calls Try.prog 81 #[p, q] w fun e w' => ∃ v r, e = .returned (.tuple #[v, r]) ∧ OwnN w' w.heap.size v (digs (val P / b)) ∧ OwnN w' w.heap.size r (digs (val P % b)) ∧ Below w.heap.size w w' := by
  obtain ⟨a1, cap1, rfl⟩ := hp.shape
  have HP := Lib.hid hp; clear hp
  have HQ := Lib.hid hq; clear hq
  go_enter Try.func81, Try.ntmps81
  go_wp2_with (at_make; go_must (refine wpList_mkints rfl _ _ rfl w w.heap.size P.length _ _ rfl rfl (by simp) (by simp) (by omega) (Nat.le_refl _) ?_; intro w1 ho hb))
  have HO := Lib.hid ho
  have HB0 := Lib.hid hb
  have hlt1 : w.heap.size + 1 ≤ w1.heap.size := by
    rcases ho.shape with ⟨h1, -⟩ | ⟨g, cap, h1, -, h2, -⟩
    · cases h1
    · simp only [Value.slice.injEq, Option.some.injEq, Addr.mk.injEq, and_true] at h1
      rw [h1.1]; exact h2
  clear ho hb
  go_loopw [7, 8] (fun rv i wr => ∃ (k R : Nat) (qs : Digs), k ≤ P.length ∧ i = .int .i64 ((k : Int) - 1) ∧ Hid (OverAt P b qs R k) ∧ Hid (OwnN wr (w.heap.size + 1) rv (digs R)) ∧ Hid (OwnN wr w.heap.size (.slice (some ⟨w.heap.size, 0, none⟩) P.length P.length) qs) ∧ Hid (Below w.heap.size w wr) ∧ w.heap.size + 1 ≤ wr.heap.size) (fun _ i _ => (intOf i + 1).toNat)
  case atStart => exact ⟨P.length, 0, List.replicate P.length 0, Nat.le_refl _, rfl, over_start hb0, ownN_nil _ _, HO, HB0, hlt1⟩
  case round =>
    obtain ⟨k, R, qs, hk, rfl, HV, HR, HW, HB, hsz⟩ := hrel
    by_cases h0 : 0 < k
    · obtain ⟨m, rfl⟩ : ∃ m, k = m + 1 := ⟨k - 1, by omega⟩
      have em : (((m + 1 : Nat) : Int) - 1) = (m : Int) := by omega
      rw [em]; clear em
      have hm1 : m < P.length := by omega
      obtain ⟨b1, off1, rfl, hb1, hcell⟩ := (HP.out.keep HB.out).at hm1
      obtain ⟨x, hx⟩ : ∃ x, x = P[m] := ⟨_, rfl⟩
      rw [← hx] at hcell
      have hxs : x < 1048576 := by rw [hx]; exact small_get sP m hm1
      have HRb : Hid ((digs R).length ≤ 549755813888) := Nat.le_trans (digs_len_mono (Nat.le_of_lt HV.out.lt)) hm
      have HN : Hid (∀ lo, lo < 1048576 → lo * b ≤ x + 1048576 * R → x + 1048576 * R < lo * b + b → OverAt P b (qs.set m lo) (x + 1048576 * R - lo * b) m) := by
        intro lo h1 h2 h3
        rw [hx] at h2 h3 ⊢
        exact over_next HV.out hm1 h1 h2 h3
      have HTop : Hid (x + 1048576 * R < 1048576 * b) := by show _ < _; have := HV.out.lt; omega
      obtain ⟨T, hT⟩ : ∃ T, T = x + 1048576 * R := ⟨_, rfl⟩
      rw [← hT] at HN HTop
      have HTT := Lib.hid hT
      have HA1 : Hid (OwnN (wr.alloc (.cells #[.int .i64 (x : Int)] 3)) (w.heap.size + 1) (.slice (some ⟨wr.heap.size, 0, none⟩) 1 1) [x]) := own_lit1 wr _ x hsz
      have HA2 : Hid (RdN (wr.alloc (.cells #[.int .i64 (x : Int)] 3)) u7 (digs R)) := (HR.out.keep (below_alloc _ _)).rd
      have HTb : Hid ((digs T).length ≤ 1099511627776) := by
        show _ ≤ _
        have h1 := digs_len_mono (Nat.le_of_lt HTop.out)
        have h2 := digs_len_mul b 1048576
        have h3 : (digs 1048576).length = 2 := by decide
        rw [Nat.mul_comm] at h1
        omega
      clear hx hT
      go_wp2_with (at_builtin; go_must (refine wpList_appendAny rfl _ _ rfl (wr.alloc (.cells #[.int .i64 (x : Int)] 3)) (w.heap.size + 1) (.slice (some ⟨wr.heap.size, 0, none⟩) 1 1) [x] rfl HA1.out u7 (digs R) rfl HA2.out (by have := HRb.out; simp; omega) (by simp; omega) ?_; intro v' w2 ho hb))
      have HB2 : Hid (Below w.heap.size w w2) := (HB.out.alloc HB.out.size _).trans (hb.mono (by omega))
      have hsz2 : w.heap.size + 1 ≤ w2.heap.size := by have := hb.size; simp at this; omega
      have HW2 : Hid (OwnN w2 w.heap.size (.slice (some ⟨w.heap.size, 0, none⟩) P.length P.length) qs) := (HW.out.keep (below_alloc _ _)).blw hb
      have HO2 := Lib.hid ho
      clear ho hb
      go_wp2_with fail
      refine (refTrim_own HO2.out (small_append (small_one hxs) (digs_small _)) (by have := HRb.out; simp; omega)).mono ?_
      rintro e w3 ⟨v3, rfl, ho, hb⟩
      have hv3 : val ([x] ++ digs R) = T := by rw [HTT.out]; simp [val, val_digs]
      rw [hv3] at ho
      have HO3 := Lib.hid (ho.mono (B' := w.heap.size + 1) hsz2)
      have HB3 : Hid (Below w.heap.size w w3) := HB2.out.trans (hb.mono (by omega))
      have HW3 := Lib.hid (HW2.out.keep hb)
      have hsz3 : w.heap.size + 1 ≤ w3.heap.size := by have := hb.size; omega
      clear ho hb hv3
      go_wp2_with fail
      go_loopw [9, 10] (fun lv hv wr => ∃ lo hi : Nat, lo < hi ∧ hi ≤ 1048576 ∧ lv = .int .i64 lo ∧ hv = .int .i64 hi ∧ Hid (lo * b ≤ T ∧ T < hi * b) ∧ Hid (Below w3.heap.size w3 wr)) (fun lv hv _ => (intOf hv - intOf lv).toNat)
      case atStart => exact ⟨0, 1048576, by omega, by omega, rfl, rfl, ⟨by omega, HTop.out⟩, Below.refl _ _⟩
      case round =>
        obtain ⟨lo, hi, hlh, hhi, rfl, rfl, HLH, HB4⟩ := hrel
        by_cases hd : 1 < hi - lo
        · have e1 : decide ((1 : Int) < (hi : Int) - (lo : Int)) = true := by rw [decide_eq_true_eq]; omega
          obtain ⟨mid, hmid⟩ : ∃ mid, mid = (lo + hi) / 2 := ⟨_, rfl⟩
          have hmi : ((lo : Int) + (hi : Int)) / 2 = (mid : Int) := by omega
          have hm1' : mid < 1048576 := by omega
          have hm2 : lo < mid := by omega
          have hm3 : mid < hi := by omega
          clear hmid
          have HB5 : Hid (Below w.heap.size w wr) := HB3.out.trans (HB4.out.mono (by omega))
          have hsz4 : w3.heap.size ≤ wr.heap.size := HB4.out.size
          go_wp2_with fail
          refine (rtimes_ok q _ (digs b) [mid] _ (HQ.out.keep (HB5.out.alloc HB5.out.size _)) (own_lit1 wr wr.heap.size mid (Nat.le_refl _)).rd (digs_small _) (small_one hm1') (by omega) (by simp)).mono ?_
          rintro e w5 ⟨v5, rfl, ho, hb⟩
          have hv5 : val (digs b) * val [mid] = mid * b := by rw [val_digs, Nat.mul_comm]; simp [val]
          rw [hv5] at ho
          have HO5 := Lib.hid ho
          have HB6 : Hid (Below wr.heap.size wr w5) := below_call (below_alloc _ _) hb
          have HR5 := Lib.hid ((HO3.out.keep HB4.out).keep HB6.out)
          have HTm : Hid ((digs (mid * b)).length ≤ 1099511627776) := by
            show _ ≤ _
            have h1 := digs_len_mul_one (a := b) (b := mid) hm1'
            rw [Nat.mul_comm] at h1; omega
          clear ho hb hv5
          by_cases hc : T < mid * b
          · have HL : Hid (lessB (digs T) (digs (mid * b)) = true) := by show _ = _; rw [lessB, val_digs, val_digs, decide_eq_true_eq]; exact hc
            go_wp2_with fail
            refine (less_ok _ _ (digs T) (digs (mid * b)) w5 HR5.out.rd HO5.out.rd (digs_small _) (digs_small _) HTb.out HTm.out).mono ?_
            rintro e w6 ⟨rfl, hb⟩
            rw [HL.out]
            have HB7 : Hid (Below w3.heap.size w3 w6) := below_call (below_call HB4.out HB6.out) hb
            clear hb
            go_wp2_with fail
            go_roundw
            case rel => exact ⟨lo, mid, hm2, by omega, rfl, by first | rfl | rw [hmi], ⟨HLH.out.1, hc⟩, HB7.out⟩
            case measure => simp [intOf]; omega
          · have HL : Hid (lessB (digs T) (digs (mid * b)) = false) := by show _ = _; rw [lessB, val_digs, val_digs, decide_eq_false_iff_not]; exact hc
            go_wp2_with fail
            refine (less_ok _ _ (digs T) (digs (mid * b)) w5 HR5.out.rd HO5.out.rd (digs_small _) (digs_small _) HTb.out HTm.out).mono ?_
            rintro e w6 ⟨rfl, hb⟩
            rw [HL.out]
            have HB7 : Hid (Below w3.heap.size w3 w6) := below_call (below_call HB4.out HB6.out) hb
            clear hb
            go_wp2_with fail
            go_roundw
            case rel => exact ⟨mid, hi, hm3, hhi, by first | rfl | rw [hmi], rfl, ⟨by omega, HLH.out.2⟩, HB7.out⟩
            case measure => simp [intOf]; omega
        · have e1 : decide ((1 : Int) < (hi : Int) - (lo : Int)) = false := by rw [decide_eq_false_iff_not]; omega
          obtain rfl : hi = lo + 1 := by omega
          have hlo2 : lo < 1048576 := by omega
          have HLE : Hid (lo * b ≤ T ∧ T < lo * b + b) := ⟨HLH.out.1, by have := HLH.out.2; rw [Nat.add_mul, Nat.one_mul] at this; exact this⟩
          have HB5 : Hid (Below w.heap.size w wr) := HB3.out.trans (HB4.out.mono (by omega))
          have hsz4 : w3.heap.size ≤ wr.heap.size := HB4.out.size
          have HW4 := Lib.hid (HW3.out.keep HB4.out)
          have HR4 := Lib.hid (HO3.out.keep HB4.out)
          have hmq : m < qs.length := by rw [HV.out.len]; exact hm1
          have hold := HW4.out.cell hmq
          have hfr := HW4.out.live m
          have hmi2 : (m : Int) < (P.length : Int) := by omega
          go_wp2_with fail
          obtain ⟨ws, hws⟩ : ∃ ws, ws = wr.setCell ⟨w.heap.size, m, none⟩ (.int .i64 (lo : Int)) := ⟨_, rfl⟩
          have hz : ws.heap.size = wr.heap.size := by rw [hws]; simp [World.setCell]
          have HWs : Hid (OwnN ws w.heap.size (.slice (some ⟨w.heap.size, 0, none⟩) P.length P.length) (qs.set m lo)) := by rw [hws]; exact HW4.out.set m lo
          have HRs : Hid (OwnN ws (w.heap.size + 1) v3 (digs T)) := by rw [hws]; exact HR4.out.away (only_setCell (World.grownBy.refl _ _) _) (by omega)
          have HBs : Hid (Below w.heap.size w ws) := by show Below _ _ _; rw [hws]; exact HB5.out.setCell (Nat.le_refl _) _
          rw [← hws, ← hz]
          have hsz5 : w.heap.size + 1 ≤ ws.heap.size := by omega
          clear hws hz hold hfr
          refine (refTrim_ok _ 1 [lo] _ (own_lit1 ws ws.heap.size lo (Nat.le_refl _)).rd (small_one hlo2) (by simp) (by simp)).mono ?_
          rintro e w7 ⟨v7, rfl, ho, hb⟩
          have hv7 : val [lo] = lo := by simp [val]
          rw [hv7] at ho
          have HO7 := Lib.hid ho
          have hb7 : Below ws.heap.size ws w7 := below_call (below_alloc _ _) hb
          have HW7 := Lib.hid (HWs.out.keep hb7)
          have HR7 := Lib.hid (HRs.out.keep hb7)
          have HB7 := Lib.hid (below_call HBs.out hb7)
          have hsz7 : w.heap.size + 1 ≤ w7.heap.size := by have := hb7.size; omega
          clear ho hb hb7 hv7
          go_wp2_with fail
          refine (rtimes_ok q v7 (digs b) (digs lo) w7 (HQ.out.keep HB7.out) HO7.out.rd (digs_small _) (digs_small _) (by omega) (by have := digs_len_of_lt (n := lo) (k := 1) (by rw [Nat.pow_one]; exact hlo2); omega)).mono ?_
          rintro e w8 ⟨v8, rfl, ho, hb⟩
          have hv8 : val (digs b) * val (digs lo) = lo * b := by rw [val_digs, val_digs, Nat.mul_comm]
          rw [hv8] at ho
          have HO8 := Lib.hid ho
          have HW8 := Lib.hid (HW7.out.keep hb)
          have HR8 := Lib.hid (HR7.out.keep hb)
          have HB8 := Lib.hid (below_call HB7.out hb)
          have hsz8 : w.heap.size + 1 ≤ w8.heap.size := by have := hb.size; omega
          clear ho hb hv8
          go_wp2_with fail
          refine (minus_ok v3 v8 (digs T) (digs (lo * b)) w8 HR8.out.rd HO8.out.rd (digs_small _) (digs_small _) (by rw [val_digs, val_digs]; exact HLE.out.1) (digs_len_mono HLE.out.1) HTb.out).mono ?_
          rintro e w9 ⟨v9, rfl, ho, hb⟩
          rw [val_digs, val_digs] at ho
          have HO9 := Lib.hid (ho.mono hsz8)
          have HW9 := Lib.hid (HW8.out.keep hb)
          have HB9 := Lib.hid (below_call HB8.out hb)
          have hsz9 : w.heap.size + 1 ≤ w9.heap.size := by have := hb.size; omega
          clear ho hb
          have HNV := Lib.hid (HN.out lo hlo2 HLE.out.1 HLE.out.2)
          go_wp2_with fail
          go_roundw
          case rel => exact ⟨m, T - lo * b, qs.set m lo, by omega, rfl, HNV, HO9, HW9, HB9, hsz9⟩
          case measure => simp [intOf]
    · obtain rfl : k = 0 := by omega
      have em : ((0 : Nat) : Int) - 1 = -1 := rfl
      rw [em]; clear em
      have HE := Lib.hid (over_end HV.out)
      have HLn : Hid (qs.length ≤ 8796093022208) := by show _ ≤ _; rw [HV.out.len]; omega
      go_wp2_with fail
      refine (refTrim_own (l := qs) HW.out HV.out.sq HLn.out).mono ?_
      rintro e w2 ⟨v2, rfl, ho, hb⟩
      rw [HE.out.1] at ho
      have HO2 := Lib.hid (ho.mono HB.out.size)
      have HR2 : Hid (OwnN w2 w.heap.size u7 (digs (val P % b))) := by rw [← HE.out.2]; exact (HR.out.keep hb).mono (by omega)
      have HB2 := Lib.hid (below_call HB.out hb)
      clear ho hb
      go_wp2_with fail
      go_ret2
      exact ⟨v2, u7, rfl, HO2.out, HR2.out, HB2.out⟩
end Go.Proofs.Ytpjpkcelajbfnaa
