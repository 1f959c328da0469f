/- Walks: the reference's functions on bytes, names, numbers, quoted strings: they compute the same plain answer. -/
import Derived.Test.YtekaplogeogbjaaDoorLexSame
namespace Go.Proofs.YtekaplogeogbjaaDoor
open Go.RowKit

theorem all_take_succ' (s : ByteArray) (k : Nat) (h : k < s.size) (p : UInt8 → Bool) : (s.data.toList.take (k + 1)).all p = ((s.data.toList.take k).all p && p s[k]) := by
  rw [take_snoc s k h]; simp

theorem refLetter_calls (c : UInt8) (w : World) : Calls Tryd.prog 38 #[.int .u8 c.toNat] w fun e w' => e = .returned (.bool (isLetter c)) ∧ w = w' := by
  go_enter Tryd.func38, Tryd.ntmps38
  go_wp2
  all_goals (go_ret; refine ⟨ret_bool ?_, rfl⟩; rw [Bool.eq_iff_iff]; simp [isLetter]; omega)
theorem refDigit_calls (c : UInt8) (w : World) : Calls Tryd.prog 33 #[.int .u8 c.toNat] w fun e w' => e = .returned (.bool (isDigit c)) ∧ w = w' := by
  go_enter Tryd.func33, Tryd.ntmps33
  go_wp2
  all_goals (go_ret; refine ⟨ret_bool ?_, rfl⟩; rw [Bool.eq_iff_iff]; simp [isDigit]; omega)

/-! ### names -/
theorem inner_split (c : UInt8) : isInner c = true ∧ (isLetter c = true ∨ (isLetter c = false ∧ isDigit c = true) ∨ (isLetter c = false ∧ isDigit c = false ∧ c = 95)) ∨ isInner c = false ∧ isLetter c = false ∧ isDigit c = false ∧ c ≠ 95 := by
  have h95 : decide (c.toNat = 95) = true ↔ c = 95 := by
    rw [decide_eq_true_eq]
    constructor
    · intro h; apply UInt8.toNat_inj.1; simpa using h
    · intro h; rw [h]; rfl
  unfold isInner
  cases isLetter c <;> cases isDigit c <;> by_cases h : c = 95 <;> simp [h]
  intro hh; exact h (h95.1 (by simpa using hh))

set_option maxHeartbeats 2000000 in
theorem refName_any (s : ByteArray) (w : World) (hs : s.size ≤ maxLen) :
    Calls Tryd.prog 23 #[.string s] w fun e w' => e = .returned (.bool (nameOk s.data.toList)) ∧ w = w' := by
  unfold maxLen at hs
  have HL : Hid (s.data.toList.length = s.size) := bytes_len s
  by_cases h0 : 0 < s.size
  · have HN : Hid (nameOk s.data.toList = (isLetter s[0] && decide (s.size ≤ 20) && s.data.toList.all isInner)) := by
      have hd := bytes_drop s 0 h0
      rw [List.drop_zero] at hd
      show _ = _
      rw [← HL.out]
      conv => lhs; rw [hd]
      rw [nameOk, ← hd]
    by_cases h20 : s.size ≤ 20
    · cases hl : isLetter s[0] with
      | false =>
        have HH := Lib.hid hl; clear hl
        go_enter Tryd.func23, Tryd.ntmps23
        go_wp2_with (go_at_call 38; refine (refLetter_calls _ _).mono ?_; rintro e w' ⟨rfl, rfl⟩; rw [HH.out])
        go_ret
        exact ⟨ret_bool (by rw [HN.out, HH.out]; rfl), rfl⟩
      | true =>
        have HH := Lib.hid hl; clear hl
        go_enter Tryd.func23, Tryd.ntmps23
        go_wp2_with (go_at_call 38; refine (refLetter_calls _ _).mono ?_; rintro e w' ⟨rfl, rfl⟩; rw [HH.out])
        go_loop [3] (fun i => ∃ k : Nat, 1 ≤ k ∧ k ≤ s.size ∧ i = .int .i64 k ∧ Hid ((s.data.toList.take k).all isInner = true)) (fun i => s.size - (intOf i).toNat)
        case atStart =>
          refine ⟨1, Nat.le_refl _, by omega, rfl, ?_⟩
          show _ = _
          rw [all_take_succ' s 0 h0]; simp [letter_inner HH.out]
        case round =>
          obtain ⟨k, hk1, hk, rfl, HA⟩ := hrel
          by_cases hlt : k < s.size
          · have hsn := Lib.hid (all_take_succ' s k hlt isInner)
            rcases inner_split s[k] with ⟨hi, h⟩ | ⟨hi, g1, g2, g3⟩
            · have HI := Lib.hid hi
              have hrel' : Hid ((s.data.toList.take (k + 1)).all isInner = true) := by show _ = _; rw [hsn.out, HA.out, HI.out]; rfl
              clear hi
              rcases h with g1 | ⟨g1, g2⟩ | ⟨g1, g2, g3⟩
              · have G1 := Lib.hid g1; clear g1
                go_wp2_with (go_at_call 38; refine (refLetter_calls _ _).mono ?_; rintro e w' ⟨rfl, rfl⟩; rw [G1.out])
                go_round
                case rel => exact ⟨k + 1, by omega, by omega, by go_num, hrel'⟩
                case measure => simp [intOf]; omega
              · have G1 := Lib.hid g1; clear g1
                have G2 := Lib.hid g2; clear g2
                go_wp2_with (first | (go_at_call 38; refine (refLetter_calls _ _).mono ?_; rintro e w' ⟨rfl, rfl⟩; rw [G1.out]) | (go_at_call 33; refine (refDigit_calls _ _).mono ?_; rintro e w' ⟨rfl, rfl⟩; rw [G2.out]))
                go_round
                case rel => exact ⟨k + 1, by omega, by omega, by go_num, hrel'⟩
                case measure => simp [intOf]; omega
              · have G1 := Lib.hid g1; clear g1
                have G2 := Lib.hid g2; clear g2
                have e1 := u8_nne (n := 95) rfl g3
                clear g3
                go_wp2_with (first | (go_at_call 38; refine (refLetter_calls _ _).mono ?_; rintro e w' ⟨rfl, rfl⟩; rw [G1.out]) | (go_at_call 33; refine (refDigit_calls _ _).mono ?_; rintro e w' ⟨rfl, rfl⟩; rw [G2.out]))
                go_round
                case rel => exact ⟨k + 1, by omega, by omega, by go_num, hrel'⟩
                case measure => simp [intOf]; omega
            · have hno : Hid (s.data.toList.all isInner = false) := by
                show _ = _
                rw [Bool.eq_false_iff]; intro hh
                have hm : s[k] ∈ s.data.toList := List.mem_of_getElem? (bytes_get s k hlt)
                have := List.all_eq_true.1 hh _ hm
                rw [hi] at this; cases this
              have G1 := Lib.hid g1; clear g1
              have G2 := Lib.hid g2; clear g2
              have e1 := u8_neq (n := 95) rfl g3
              clear g3 hi
              go_wp2_with (first | (go_at_call 38; refine (refLetter_calls _ _).mono ?_; rintro e w' ⟨rfl, rfl⟩; rw [G1.out]) | (go_at_call 33; refine (refDigit_calls _ _).mono ?_; rintro e w' ⟨rfl, rfl⟩; rw [G2.out]))
              go_ret
              exact ⟨ret_bool (by rw [HN.out, hno.out]; simp), rfl⟩
          · have hall : Hid (s.data.toList.all isInner = true) := by have := HA.out; rw [List.take_of_length_le (by rw [HL.out]; omega)] at this; exact this
            go_wp2_with fail
            go_ret
            exact ⟨ret_bool (by rw [HN.out, HH.out, hall.out, decide_eq_true h20]; rfl), rfl⟩
    · go_enter Tryd.func23, Tryd.ntmps23
      go_wp2_with fail
      go_ret
      exact ⟨ret_bool (by rw [HN.out, decide_eq_false h20]; simp), rfl⟩
  · have hd := bytes_end s 0 (by omega)
    rw [List.drop_zero] at hd
    have HD := Lib.hid hd; clear hd
    go_enter Tryd.func23, Tryd.ntmps23
    go_wp2_with fail
    go_ret
    exact ⟨ret_bool (by rw [HD.out]; rfl), rfl⟩

/-! ### values -/
set_option maxHeartbeats 2000000 in
theorem refValue_any (s : ByteArray) (w : World) (hs : s.size ≤ maxLen) :
    Calls Tryd.prog 35 #[.string s] w fun e w' => e = .returned (.bool (quoteOk s.data.toList)) ∧ w = w' := by
  unfold maxLen at hs
  have HL : Hid (s.data.toList.length = s.size) := bytes_len s
  go_enter Tryd.func35, Tryd.ntmps35
  go_wp2_with fail
  go_loop [3] (fun i => ∃ k : Nat, k ≤ s.size ∧ i = .int .i64 k ∧ Hid ((s.data.toList.take k).all isPlain = true)) (fun i => s.size - (intOf i).toNat)
  case atStart => exact ⟨0, Nat.zero_le _, rfl, rfl⟩
  case round =>
    obtain ⟨k, hk, rfl, HA⟩ := hrel
    by_cases hlt : k < s.size
    · have hsn := Lib.hid (all_take_succ' s k hlt isPlain)
      by_cases hp : (32 : Int) ≤ (s[k].toNat : Int) ∧ (s[k].toNat : Int) ≤ (126 : Int)
      · obtain ⟨h1, h2⟩ := hp
        have hpl : Hid (isPlain s[k] = true) := by show _ = _; simp [isPlain]; omega
        go_wp2_with fail
        go_round
        case rel => exact ⟨k + 1, by omega, by go_num, by show _ = _; rw [hsn.out, HA.out, hpl.out]; rfl⟩
        case measure => simp [intOf]; omega
      · have hno : Hid (quoteOk s.data.toList = false) := by
          show _ = _
          rw [Bool.eq_false_iff]; intro hh
          simp only [quoteOk, Bool.and_eq_true] at hh
          have hm : s[k] ∈ s.data.toList := List.mem_of_getElem? (bytes_get s k hlt)
          have := List.all_eq_true.1 hh.2 _ hm
          simp [isPlain] at this; omega
        by_cases h1 : (32 : Int) ≤ (s[k].toNat : Int)
        · have h2 : (126 : Int) < (s[k].toNat : Int) := by omega
          clear hp
          go_wp2_with fail
          go_ret
          exact ⟨ret_bool (by rw [hno.out]), rfl⟩
        · have h2 : (s[k].toNat : Int) < (32 : Int) := by omega
          clear hp h1
          go_wp2_with fail
          go_ret
          exact ⟨ret_bool (by rw [hno.out]), rfl⟩
    · have hall : Hid (s.data.toList.all isPlain = true) := by have := HA.out; rw [List.take_of_length_le (by rw [HL.out]; omega)] at this; exact this
      go_wp2_with fail
      go_ret
      refine ⟨ret_bool ?_, rfl⟩
      rw [quoteOk, HL.out, hall.out, Bool.and_true, Bool.eq_iff_iff]
      simp; omega

theorem refQuote_any (s : ByteArray) (w : World) (hs : s.size ≤ 137438953472) :
    Calls Tryd.prog 20 #[.string s] w fun e w' => e = .returned (quoteRes s.data.toList) ∧ w = w' := by
  have hm : s.size ≤ maxLen := by unfold maxLen; omega
  cases hq : quoteOk s.data.toList with
  | true =>
    have HQ := Lib.hid hq; clear hq
    go_enter Tryd.func20, Tryd.ntmps20
    go_wp2_with (first | (go_at_call 35; refine (refValue_any s _ hm).mono ?_; rintro e w' ⟨rfl, rfl⟩; rw [HQ.out]) | (go_at_call 14; refine (refEscaped_any s _ hs).mono ?_; rintro e w' ⟨rfl, rfl⟩))
    go_ret2
    exact ⟨by rw [quoteRes_yes HQ.out]; rfl, rfl⟩
  | false =>
    have HQ := Lib.hid hq; clear hq
    go_enter Tryd.func20, Tryd.ntmps20
    go_wp2_with (first | (go_at_call 35; refine (refValue_any s _ hm).mono ?_; rintro e w' ⟨rfl, rfl⟩; rw [HQ.out]))
    go_ret2
    exact ⟨by rw [quoteRes_no HQ.out]; rfl, rfl⟩

/-! ### signs -/
theorem signStr_get (k : Nat) (h : k < 13) : (ByteArray.mk #[40, 41, 44, 59, 58, 61, 60, 43, 45, 42, 47, 123, 125])[k]'h = signBytes.getD k 0 := by
  match k, h with
  | 0, _ | 1, _ | 2, _ | 3, _ | 4, _ | 5, _ | 6, _ | 7, _ | 8, _ | 9, _ | 10, _ | 11, _ | 12, _ => rfl
  | k + 13, h => omega

set_option maxHeartbeats 2000000 in
theorem refSign_any (c : UInt8) (w : World) :
    Calls Tryd.prog 46 #[.int .u8 c.toNat] w fun e w' => e = .returned (.bool (isSign c)) ∧ w = w' := by
  have hsz : (ByteArray.mk #[40, 41, 44, 59, 58, 61, 60, 43, 45, 42, 47, 123, 125]).size = 13 := rfl
  go_enter Tryd.func46, Tryd.ntmps46
  go_wp2_with fail
  go_loop [4] (fun i => ∃ k : Nat, k ≤ 13 ∧ i = .int .i64 k ∧ Hid (∀ j, j < k → signBytes.getD j 0 ≠ c)) (fun i => 13 - (intOf i).toNat)
  case atStart => exact ⟨0, by omega, rfl, fun j hj => by omega⟩
  case round =>
    obtain ⟨k, hk, rfl, HN⟩ := hrel
    by_cases hlt : k < 13
    · have hlt' : k < (ByteArray.mk #[40, 41, 44, 59, 58, 61, 60, 43, 45, 42, 47, 123, 125]).size := hlt
      by_cases hh : (ByteArray.mk #[40, 41, 44, 59, 58, 61, 60, 43, 45, 42, 47, 123, 125])[k] = c
      · have e2 := u8_beq (n := (c.toNat : Int)) rfl hh
        have hy : Hid (isSign c = true) := sign_yes hlt (by rw [← signStr_get k hlt]; exact hh)
        clear hh
        go_wp2_with fail
        go_ret
        exact ⟨ret_bool (by rw [hy.out]), rfl⟩
      · have e2 := u8_bne (n := (c.toNat : Int)) rfl hh
        have HH := Lib.hid hh; clear hh
        go_wp2_with fail
        go_round
        case rel => exact ⟨k + 1, by omega, by go_num, fun j hj => by
          rcases Nat.lt_or_ge j k with h | h
          · exact HN.out j h
          · obtain rfl : j = k := by omega
            rw [← signStr_get j hlt]; exact HH.out⟩
        case measure => simp [intOf]; omega
    · have hn : Hid (isSign c = false) := sign_no (fun j hj => HN.out j (by omega))
      go_wp2_with fail
      go_ret
      exact ⟨ret_bool (by rw [hn.out]), rfl⟩
end Go.Proofs.YtekaplogeogbjaaDoor
