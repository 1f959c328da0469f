/- The walk of LexerQuotes: whatever the string, it returns true. -/
import Derived.Test.YtekaplogeogbjaaDoorLawJoins
namespace Go.Proofs.YtekaplogeogbjaaDoor
open Go.RowKit

theorem escL_len (l : Bytes) : (escL l).length ≤ 2 * l.length + 2 := by have := escBody_len l; simp [escL]; omega
theorem quoteOk_eq (l : Bytes) : quoteOk l = (decide (l.length ≤ 400) && l.all isPlain) := rfl
theorem all_take_succ (s : ByteArray) (k : Nat) (h : k < s.size) (p : UInt8 → Bool) : (s.data.toList.take (k + 1)).all p = ((s.data.toList.take k).all p && p s[k]) := by
  rw [take_snoc s k h]; simp

theorem not_name {l : Bytes} (h : ∀ t, scanAll l ≠ .ok [t]) : nameOk l = false := by
  cases hn : nameOk l with
  | false => rfl
  | true => exact absurd (scan_name l hn) (h _)
theorem not_number {l : Bytes} (h : ∀ t, scanAll l ≠ .ok [t]) : numOf l = none := by
  cases hn : numOf l with
  | none => rfl
  | some n => exact absurd (scan_number l hn) (h _)

set_option maxHeartbeats 16000000 in
set_option maxRecDepth 100000 in
theorem quotes_walk (s : ByteArray) (w : World) (hs : s.size ≤ maxLen) (hsig : SignsIn w) :
    Calls Tryd.prog 8 #[.string s] w fun e w' => e = .returned (.bool true) ∧ Below w.heap.size w w' := by
  have HS := Lib.hid hsig; clear hsig
  go_enter Tryd.func8, Tryd.ntmps8
  go_wp2_with fail
  refine (sane_any _ HS.out).mono ?_
  rintro e w1 ⟨rfl, b1⟩
  have B1 := Lib.hid b1; clear b1
  go_wp2_with fail
  refine (cut_any s _ hs).mono ?_
  rintro e w1' ⟨T, rfl, hT, rfl⟩
  have HL : Hid (T.data.toList.length = T.size) := bytes_len T
  have hsT := Lib.hid (scanOut_small (l := T.data.toList) (by rw [HL.out]; omega))
  go_wp2_with fail
  refine (quote_any T _ (by omega)).mono ?_
  rintro e w2 ⟨rfl, b2⟩
  have B2 := Lib.hid (B1.out.trans (b2.mono B1.out.size)); clear b2 B1
  cases hq : quoteOk T.data.toList with
  | true =>
    have HQ := Lib.hid hq
    rw [quoteRes_yes hq]
    have HE := Lib.hid (scan_quote _ hq)
    clear hq
    go_wp2_with fail
    go_loop [7, 8] (fun v i => ∃ (k : Nat) (b : Bool), k ≤ T.size ∧ i = .int .i64 k ∧ v = .bool b ∧ Hid (b = (decide (T.size ≤ 400) && (T.data.toList.take k).all isPlain))) (fun _ i => T.size - (intOf i).toNat)
    case atStart => exact ⟨0, decide (T.size ≤ 400), Nat.zero_le _, rfl, by simp; omega, by show _ = _; simp⟩
    case round =>
      obtain ⟨k, b, hk, rfl, rfl, HB⟩ := hrel
      by_cases hlt : k < T.size
      · have hsn := Lib.hid (all_take_succ T k hlt isPlain)
        cases b with
        | false =>
          go_wp2_with fail
          go_round
          case rel => exact ⟨k + 1, false, by omega, by go_num, rfl, by show _ = _; rw [hsn.out, ← Bool.and_assoc, ← HB.out]; rfl⟩
          case measure => simp [intOf]; omega
        | true =>
          by_cases h1 : (32 : Int) ≤ (T[k].toNat : Int)
          · by_cases h2 : (T[k].toNat : Int) ≤ (126 : Int)
            · have hp : Hid (isPlain T[k] = true) := by show _ = _; simp [isPlain]; omega
              go_wp2_with fail
              go_round
              case rel => exact ⟨k + 1, true, by omega, by go_num, by rfl, by show _ = _; rw [hsn.out, ← Bool.and_assoc, ← HB.out, hp.out]; rfl⟩
              case measure => simp [intOf]; omega
            · have hp : Hid (isPlain T[k] = false) := by show _ = _; simp [isPlain]; omega
              go_wp2_with fail
              go_round
              case rel => exact ⟨k + 1, false, by omega, by go_num, by rfl, by show _ = _; rw [hsn.out, ← Bool.and_assoc, ← HB.out, hp.out]; rfl⟩
              case measure => simp [intOf]; omega
          · have hp : Hid (isPlain T[k] = false) := by show _ = _; simp [isPlain]; omega
            go_wp2_with fail
            go_round
            case rel => exact ⟨k + 1, false, by omega, by go_num, by rfl, by show _ = _; rw [hsn.out, ← Bool.and_assoc, ← HB.out, hp.out]; rfl⟩
            case measure => simp [intOf]; omega
      · have hb : b = quoteOk T.data.toList := by
          rw [HB.out, List.take_of_length_le (by rw [HL.out]; omega), quoteOk_eq, HL.out]
        rw [HQ.out] at hb
        subst hb
        clear HB
        have hE : (⟨(escL T.data.toList).toArray⟩ : ByteArray).size ≤ 1802 := by
          have h1 : (⟨(escL T.data.toList).toArray⟩ : ByteArray).size = (escL T.data.toList).length := by rw [← bytes_len]
          have h2 := escL_len T.data.toList
          rw [HL.out] at h2; omega
        obtain ⟨E, hEE⟩ : ∃ E : ByteArray, E = ⟨(escL T.data.toList).toArray⟩ := ⟨_, rfl⟩
        rw [← hEE] at hE
        have hEd : E.data.toList = escL T.data.toList := by rw [hEE]
        have HED := Lib.hid hEd
        rw [← hEE]
        clear hEE hEd
        go_wp2_with fail
        refine (scan_ok E _ (by omega) (HS.out.keep B2.out) (by rw [HED.out, scanOut_small (by have := escL_len T.data.toList; rw [HL.out] at this; omega), HE.out])).mono ?_
        rintro e' w3 ⟨v3, rfl, h3, b3⟩
        obtain ⟨a3, cap3, rfl⟩ := h3.shape
        have hc1 : ([⟨2, T.data.toList, 0, 0⟩] : List Tok).length = 1 := rfl
        rw [hc1]
        obtain ⟨bb, off, rfl, hbb, hcell⟩ := h3.tokAt (k := 0) (by simp)
        have B3 := Lib.hid (B2.out.trans (b3.mono B2.out.size)); clear b3 B2 h3 hc1
        obtain ⟨c0, c1, c2, c3⟩ := hcell
        have hTe : (⟨T.data.toList.toArray⟩ : ByteArray) = T := by simp
        simp only [Nat.zero_mul, Nat.add_zero, List.getElem_cons_zero, hTe] at c0 c1 c2 c3
        clear hTe
        go_wp2_with fail
        clear c0 c1 c2 c3 hbb
        cases hr : scanAll T.data.toList with
        | error q =>
          have hn1 := Lib.hid (not_name (l := T.data.toList) (by rw [hr]; intro t h; cases h))
          have hn2 := Lib.hid (numRes_none (not_number (l := T.data.toList) (by rw [hr]; intro t h; cases h)))
          obtain ⟨p, x⟩ := q
          have hee := (err_facts hr).2.1
          have e1 : ((x : Int) != 0) = true := by rw [bne_iff_ne]; omega
          have HR := Lib.hid (hsT.out.trans hr); clear hr hee
          refine (scan_err' T _ (by omega) (HS.out.keep B3.out) HR.out p x rfl rfl).mono ?_
          rintro e' w4 ⟨a4, c4, rfl, b4⟩
          have B4 := Lib.hid (B3.out.trans (b4.mono B3.out.size)); clear b4 B3
          go_wp2_with fail
          refine (number_any T _ (by unfold maxLen; omega)).mono ?_
          rintro e' w' ⟨rfl, rfl⟩
          rw [hn2.out]
          go_wp2_with fail
          refine (name_any T _ (by unfold maxLen; omega)).mono ?_
          rintro e' w' ⟨rfl, rfl⟩
          rw [hn1.out]
          go_wp2_with fail
          go_ret
          exact ⟨rfl, B4.out⟩
        | ok ts =>
          have hcnt := count_le hr
          rw [HL.out] at hcnt
          by_cases hone : ∃ t, ts = [t]
          · obtain ⟨t, rfl⟩ := hone
            have HR := Lib.hid (hsT.out.trans hr)
            refine (scan_ok T _ (by omega) (HS.out.keep B3.out) HR.out).mono ?_
            rintro e' w4 ⟨v4, rfl, h4, b4⟩
            obtain ⟨a4, cap4, rfl⟩ := h4.shape
            have hc1 : ([t] : List Tok).length = 1 := rfl
            rw [hc1]
            obtain ⟨bb, off, rfl, hbb, hcell⟩ := h4.tokAt (k := 0) (by simp)
            have B4 := Lib.hid (B3.out.trans (b4.mono B3.out.size)); clear b4 B3 h4 hc1
            obtain ⟨c0, c1, c2, c3⟩ := hcell
            simp only [Nat.zero_mul, Nat.add_zero, List.getElem_cons_zero] at c0 c1 c2 c3
            cases hnm : nameOk T.data.toList with
            | true =>
              have hnn := Lib.hid hnm
              have ht := scan_name _ hnm
              rw [hr] at ht
              have ht1 : t = ⟨0, T.data.toList, 0, 0⟩ := by injection ht with ht; simpa using ht
              have hno : numOf T.data.toList = none := by
                cases hn : numOf T.data.toList with
                | none => rfl
                | some n => have h2 := scan_number _ hn; rw [hr, ht1] at h2; injection h2 with h2; simp at h2
              have HNO := Lib.hid (numRes_none hno)
              have h20 : T.size ≤ 20 := by
                have := hnm
                rw [← HL.out]
                match hl : T.data.toList with
                | [] => rw [hl] at this; cases this
                | c :: r => rw [hl] at this; simp [nameOk] at this; simp; omega
              subst ht1
              have hTe : (⟨T.data.toList.toArray⟩ : ByteArray) = T := by simp
              simp only [hTe] at c1
              clear hr hnm ht hno hTe
              go_wp2_with fail
              refine (number_any T _ (by unfold maxLen; omega)).mono ?_
              rintro e' w' ⟨rfl, rfl⟩
              rw [HNO.out]
              go_wp2_with fail
              refine (name_any T _ (by unfold maxLen; omega)).mono ?_
              rintro e' w' ⟨rfl, rfl⟩
              rw [hnn.out]
              go_wp2_with fail
              go_ret
              exact ⟨rfl, B4.out⟩
            | false =>
              have hnn := Lib.hid hnm
              cases hno : numOf T.data.toList with
              | some n =>
                have ht := scan_number _ hno
                rw [hr] at ht
                have ht1 : t = ⟨1, T.data.toList, n, 0⟩ := by injection ht with ht; simpa using ht
                have hn40 := (numOf_some hno).2.2.2
                have HNO := Lib.hid (numRes_some hno)
                subst ht1
                have hTe : (⟨T.data.toList.toArray⟩ : ByteArray) = T := by simp
                simp only [hTe] at c1
                clear hr hnm ht hno hTe
                go_wp2_with fail
                refine (number_any T _ (by unfold maxLen; omega)).mono ?_
                rintro e' w' ⟨rfl, rfl⟩
                rw [HNO.out]
                go_wp2_with fail
                refine (name_any T _ (by unfold maxLen; omega)).mono ?_
                rintro e' w' ⟨rfl, rfl⟩
                rw [hnn.out]
                have hdec : decide ((n : Int) ≤ 1099511627776) = true := by simp; omega
                go_wp2_with fail
                go_ret
                exact ⟨rfl, B4.out⟩
              | none =>
                have HNO := Lib.hid (numRes_none hno)
                have hk0 : ¬ (t.text = T.data.toList ∧ t.pos = 0 ∧ t.kind = 0) := by
                  rintro ⟨h1, h2, h3⟩
                  have := (name_iff T.data.toList).2 ⟨t, hr, h1, h2, h3⟩
                  rw [hnm] at this; cases this
                have hk1 : ¬ (t.text = T.data.toList ∧ t.pos = 0 ∧ t.kind = 1) := by
                  rintro ⟨h1, h2, h3⟩
                  have := (number_iff T.data.toList t.n).2 ⟨t, hr, h1, h2, h3, rfl⟩
                  rw [hno] at this; cases this
                obtain ⟨X, hX⟩ : ∃ X : ByteArray, X = ⟨t.text.toArray⟩ := ⟨_, rfl⟩
                have hXT : X = T ↔ t.text = T.data.toList := by
                  rw [hX]
                  constructor
                  · intro h; rw [← h]
                  · intro h; rw [h]
                rw [← hX] at c1
                have hcase : ((X.toList == T.toList) = true ∧ ((t.pos : Int) == 0) = true ∧ ((t.kind : Int) == 0) = false ∧ ((t.kind : Int) == 1) = false) ∨ ((X.toList == T.toList) = true ∧ ((t.pos : Int) == 0) = false) ∨ (X.toList == T.toList) = false := by
                  by_cases h1 : t.text = T.data.toList
                  · have h1' : (X.toList == T.toList) = true := by rw [hXT.2 h1]; simp
                    by_cases h2 : t.pos = 0
                    · left
                      refine ⟨h1', by rw [beq_iff_eq]; omega, ?_, ?_⟩
                      · rw [beq_eq_false_iff_ne]; intro h; exact hk0 ⟨h1, h2, by omega⟩
                      · rw [beq_eq_false_iff_ne]; intro h; exact hk1 ⟨h1, h2, by omega⟩
                    · right; left
                      exact ⟨h1', by rw [beq_eq_false_iff_ne]; omega⟩
                  · right; right
                    rw [beq_eq_false_iff_ne, Lib.toList_data, Lib.toList_data]
                    intro h; exact h1 (hXT.1 (bytes_eq h))
                clear hr hnm hno hk0 hk1 hX hXT
                rcases hcase with ⟨f1, f2, f3, f4⟩ | ⟨f1, f2⟩ | f1
                all_goals
                  go_wp2_with fail
                  refine (number_any T _ (by unfold maxLen; omega)).mono ?_
                  rintro e' w' ⟨rfl, rfl⟩
                  rw [HNO.out]
                  go_wp2_with fail
                  refine (name_any T _ (by unfold maxLen; omega)).mono ?_
                  rintro e' w' ⟨rfl, rfl⟩
                  rw [hnn.out]
                  go_wp2_with fail
                  go_ret
                  exact ⟨rfl, B4.out⟩
          · have hn1 := Lib.hid (not_name (l := T.data.toList) (by rw [hr]; intro t h; injection h with h; exact hone ⟨t, h⟩))
            have hn2 := Lib.hid (numRes_none (not_number (l := T.data.toList) (by rw [hr]; intro t h; injection h with h; exact hone ⟨t, h⟩)))
            have hlen : ts.length ≠ 1 := by
              intro h; obtain ⟨t, h⟩ := List.length_eq_one_iff.1 h; exact hone ⟨t, h⟩
            have e1 : ((ts.length : Int) != 1) = true := by rw [bne_iff_ne]; omega
            have HR := Lib.hid (hsT.out.trans hr); clear hr hone hlen
            refine (scan_ok T _ (by omega) (HS.out.keep B3.out) HR.out).mono ?_
            rintro e' w4 ⟨v4, rfl, h4, b4⟩
            obtain ⟨a4, cap4, rfl⟩ := h4.shape
            have B4 := Lib.hid (B3.out.trans (b4.mono B3.out.size)); clear b4 B3 h4
            go_wp2_with fail
            refine (number_any T _ (by unfold maxLen; omega)).mono ?_
            rintro e' w' ⟨rfl, rfl⟩
            rw [hn2.out]
            go_wp2_with fail
            refine (name_any T _ (by unfold maxLen; omega)).mono ?_
            rintro e' w' ⟨rfl, rfl⟩
            rw [hn1.out]
            go_wp2_with fail
            go_ret
            exact ⟨rfl, B4.out⟩
  | false =>
    have HQ := Lib.hid hq
    rw [quoteRes_no hq]
    clear hq
    have B3 := B2
    go_wp2_with fail
    go_loop [7, 8] (fun v i => ∃ (k : Nat) (b : Bool), k ≤ T.size ∧ i = .int .i64 k ∧ v = .bool b ∧ Hid (b = (decide (T.size ≤ 400) && (T.data.toList.take k).all isPlain))) (fun _ i => T.size - (intOf i).toNat)
    case atStart => exact ⟨0, decide (T.size ≤ 400), Nat.zero_le _, rfl, by simp; omega, by show _ = _; simp⟩
    case round =>
      obtain ⟨k, b, hk, rfl, rfl, HB⟩ := hrel
      by_cases hlt : k < T.size
      · have hsn := Lib.hid (all_take_succ T k hlt isPlain)
        cases b with
        | false =>
          go_wp2_with fail
          go_round
          case rel => exact ⟨k + 1, false, by omega, by go_num, rfl, by show _ = _; rw [hsn.out, ← Bool.and_assoc, ← HB.out]; rfl⟩
          case measure => simp [intOf]; omega
        | true =>
          by_cases h1 : (32 : Int) ≤ (T[k].toNat : Int)
          · by_cases h2 : (T[k].toNat : Int) ≤ (126 : Int)
            · have hp : Hid (isPlain T[k] = true) := by show _ = _; simp [isPlain]; omega
              go_wp2_with fail
              go_round
              case rel => exact ⟨k + 1, true, by omega, by go_num, by rfl, by show _ = _; rw [hsn.out, ← Bool.and_assoc, ← HB.out, hp.out]; rfl⟩
              case measure => simp [intOf]; omega
            · have hp : Hid (isPlain T[k] = false) := by show _ = _; simp [isPlain]; omega
              go_wp2_with fail
              go_round
              case rel => exact ⟨k + 1, false, by omega, by go_num, by rfl, by show _ = _; rw [hsn.out, ← Bool.and_assoc, ← HB.out, hp.out]; rfl⟩
              case measure => simp [intOf]; omega
          · have hp : Hid (isPlain T[k] = false) := by show _ = _; simp [isPlain]; omega
            go_wp2_with fail
            go_round
            case rel => exact ⟨k + 1, false, by omega, by go_num, by rfl, by show _ = _; rw [hsn.out, ← Bool.and_assoc, ← HB.out, hp.out]; rfl⟩
            case measure => simp [intOf]; omega
      · have hb : b = quoteOk T.data.toList := by
          rw [HB.out, List.take_of_length_le (by rw [HL.out]; omega), quoteOk_eq, HL.out]
        rw [HQ.out] at hb
        subst hb
        clear HB
        go_wp2_with fail
        cases hr : scanAll T.data.toList with
        | error q =>
          have hn1 := Lib.hid (not_name (l := T.data.toList) (by rw [hr]; intro t h; cases h))
          have hn2 := Lib.hid (numRes_none (not_number (l := T.data.toList) (by rw [hr]; intro t h; cases h)))
          obtain ⟨p, x⟩ := q
          have hee := (err_facts hr).2.1
          have e1 : ((x : Int) != 0) = true := by rw [bne_iff_ne]; omega
          have HR := Lib.hid (hsT.out.trans hr); clear hr hee
          refine (scan_err' T _ (by omega) (HS.out.keep B3.out) HR.out p x rfl rfl).mono ?_
          rintro e' w4 ⟨a4, c4, rfl, b4⟩
          have B4 := Lib.hid (B3.out.trans (b4.mono B3.out.size)); clear b4 B3
          go_wp2_with fail
          refine (number_any T _ (by unfold maxLen; omega)).mono ?_
          rintro e' w' ⟨rfl, rfl⟩
          rw [hn2.out]
          go_wp2_with fail
          refine (name_any T _ (by unfold maxLen; omega)).mono ?_
          rintro e' w' ⟨rfl, rfl⟩
          rw [hn1.out]
          go_wp2_with fail
          go_ret
          exact ⟨rfl, B4.out⟩
        | ok ts =>
          have hcnt := count_le hr
          rw [HL.out] at hcnt
          by_cases hone : ∃ t, ts = [t]
          · obtain ⟨t, rfl⟩ := hone
            have HR := Lib.hid (hsT.out.trans hr)
            refine (scan_ok T _ (by omega) (HS.out.keep B3.out) HR.out).mono ?_
            rintro e' w4 ⟨v4, rfl, h4, b4⟩
            obtain ⟨a4, cap4, rfl⟩ := h4.shape
            have hc1 : ([t] : List Tok).length = 1 := rfl
            rw [hc1]
            obtain ⟨bb, off, rfl, hbb, hcell⟩ := h4.tokAt (k := 0) (by simp)
            have B4 := Lib.hid (B3.out.trans (b4.mono B3.out.size)); clear b4 B3 h4 hc1
            obtain ⟨c0, c1, c2, c3⟩ := hcell
            simp only [Nat.zero_mul, Nat.add_zero, List.getElem_cons_zero] at c0 c1 c2 c3
            cases hnm : nameOk T.data.toList with
            | true =>
              have hnn := Lib.hid hnm
              have ht := scan_name _ hnm
              rw [hr] at ht
              have ht1 : t = ⟨0, T.data.toList, 0, 0⟩ := by injection ht with ht; simpa using ht
              have hno : numOf T.data.toList = none := by
                cases hn : numOf T.data.toList with
                | none => rfl
                | some n => have h2 := scan_number _ hn; rw [hr, ht1] at h2; injection h2 with h2; simp at h2
              have HNO := Lib.hid (numRes_none hno)
              have h20 : T.size ≤ 20 := by
                have := hnm
                rw [← HL.out]
                match hl : T.data.toList with
                | [] => rw [hl] at this; cases this
                | c :: r => rw [hl] at this; simp [nameOk] at this; simp; omega
              subst ht1
              have hTe : (⟨T.data.toList.toArray⟩ : ByteArray) = T := by simp
              simp only [hTe] at c1
              clear hr hnm ht hno hTe
              go_wp2_with fail
              refine (number_any T _ (by unfold maxLen; omega)).mono ?_
              rintro e' w' ⟨rfl, rfl⟩
              rw [HNO.out]
              go_wp2_with fail
              refine (name_any T _ (by unfold maxLen; omega)).mono ?_
              rintro e' w' ⟨rfl, rfl⟩
              rw [hnn.out]
              go_wp2_with fail
              go_ret
              exact ⟨rfl, B4.out⟩
            | false =>
              have hnn := Lib.hid hnm
              cases hno : numOf T.data.toList with
              | some n =>
                have ht := scan_number _ hno
                rw [hr] at ht
                have ht1 : t = ⟨1, T.data.toList, n, 0⟩ := by injection ht with ht; simpa using ht
                have hn40 := (numOf_some hno).2.2.2
                have HNO := Lib.hid (numRes_some hno)
                subst ht1
                have hTe : (⟨T.data.toList.toArray⟩ : ByteArray) = T := by simp
                simp only [hTe] at c1
                clear hr hnm ht hno hTe
                go_wp2_with fail
                refine (number_any T _ (by unfold maxLen; omega)).mono ?_
                rintro e' w' ⟨rfl, rfl⟩
                rw [HNO.out]
                go_wp2_with fail
                refine (name_any T _ (by unfold maxLen; omega)).mono ?_
                rintro e' w' ⟨rfl, rfl⟩
                rw [hnn.out]
                have hdec : decide ((n : Int) ≤ 1099511627776) = true := by simp; omega
                go_wp2_with fail
                go_ret
                exact ⟨rfl, B4.out⟩
              | none =>
                have HNO := Lib.hid (numRes_none hno)
                have hk0 : ¬ (t.text = T.data.toList ∧ t.pos = 0 ∧ t.kind = 0) := by
                  rintro ⟨h1, h2, h3⟩
                  have := (name_iff T.data.toList).2 ⟨t, hr, h1, h2, h3⟩
                  rw [hnm] at this; cases this
                have hk1 : ¬ (t.text = T.data.toList ∧ t.pos = 0 ∧ t.kind = 1) := by
                  rintro ⟨h1, h2, h3⟩
                  have := (number_iff T.data.toList t.n).2 ⟨t, hr, h1, h2, h3, rfl⟩
                  rw [hno] at this; cases this
                obtain ⟨X, hX⟩ : ∃ X : ByteArray, X = ⟨t.text.toArray⟩ := ⟨_, rfl⟩
                have hXT : X = T ↔ t.text = T.data.toList := by
                  rw [hX]
                  constructor
                  · intro h; rw [← h]
                  · intro h; rw [h]
                rw [← hX] at c1
                have hcase : ((X.toList == T.toList) = true ∧ ((t.pos : Int) == 0) = true ∧ ((t.kind : Int) == 0) = false ∧ ((t.kind : Int) == 1) = false) ∨ ((X.toList == T.toList) = true ∧ ((t.pos : Int) == 0) = false) ∨ (X.toList == T.toList) = false := by
                  by_cases h1 : t.text = T.data.toList
                  · have h1' : (X.toList == T.toList) = true := by rw [hXT.2 h1]; simp
                    by_cases h2 : t.pos = 0
                    · left
                      refine ⟨h1', by rw [beq_iff_eq]; omega, ?_, ?_⟩
                      · rw [beq_eq_false_iff_ne]; intro h; exact hk0 ⟨h1, h2, by omega⟩
                      · rw [beq_eq_false_iff_ne]; intro h; exact hk1 ⟨h1, h2, by omega⟩
                    · right; left
                      exact ⟨h1', by rw [beq_eq_false_iff_ne]; omega⟩
                  · right; right
                    rw [beq_eq_false_iff_ne, Lib.toList_data, Lib.toList_data]
                    intro h; exact h1 (hXT.1 (bytes_eq h))
                clear hr hnm hno hk0 hk1 hX hXT
                rcases hcase with ⟨f1, f2, f3, f4⟩ | ⟨f1, f2⟩ | f1
                all_goals
                  go_wp2_with fail
                  refine (number_any T _ (by unfold maxLen; omega)).mono ?_
                  rintro e' w' ⟨rfl, rfl⟩
                  rw [HNO.out]
                  go_wp2_with fail
                  refine (name_any T _ (by unfold maxLen; omega)).mono ?_
                  rintro e' w' ⟨rfl, rfl⟩
                  rw [hnn.out]
                  go_wp2_with fail
                  go_ret
                  exact ⟨rfl, B4.out⟩
          · have hn1 := Lib.hid (not_name (l := T.data.toList) (by rw [hr]; intro t h; injection h with h; exact hone ⟨t, h⟩))
            have hn2 := Lib.hid (numRes_none (not_number (l := T.data.toList) (by rw [hr]; intro t h; injection h with h; exact hone ⟨t, h⟩)))
            have hlen : ts.length ≠ 1 := by
              intro h; obtain ⟨t, h⟩ := List.length_eq_one_iff.1 h; exact hone ⟨t, h⟩
            have e1 : ((ts.length : Int) != 1) = true := by rw [bne_iff_ne]; omega
            have HR := Lib.hid (hsT.out.trans hr); clear hr hone hlen
            refine (scan_ok T _ (by omega) (HS.out.keep B3.out) HR.out).mono ?_
            rintro e' w4 ⟨v4, rfl, h4, b4⟩
            obtain ⟨a4, cap4, rfl⟩ := h4.shape
            have B4 := Lib.hid (B3.out.trans (b4.mono B3.out.size)); clear b4 B3 h4
            go_wp2_with fail
            refine (number_any T _ (by unfold maxLen; omega)).mono ?_
            rintro e' w' ⟨rfl, rfl⟩
            rw [hn2.out]
            go_wp2_with fail
            refine (name_any T _ (by unfold maxLen; omega)).mono ?_
            rintro e' w' ⟨rfl, rfl⟩
            rw [hn1.out]
            go_wp2_with fail
            go_ret
            exact ⟨rfl, B4.out⟩
end Go.Proofs.YtekaplogeogbjaaDoor
