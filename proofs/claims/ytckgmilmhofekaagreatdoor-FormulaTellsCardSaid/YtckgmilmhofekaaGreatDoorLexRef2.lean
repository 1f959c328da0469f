/- Walks: the reference's numbers and quoted strings: they compute the same plain answer. -/
import Derived.Test.YtckgmilmhofekaaGreatDoorLexLaws
import Derived.Test.YtckgmilmhofekaaGreatDoorBase
import Derived.Test.YtckgmilmhofekaaGreatDoorLexBytes
import Derived.Test.YtckgmilmhofekaaGreatDoorLexPrint
import Derived.Test.YtckgmilmhofekaaGreatDoorProg
import Derived.Test.YtckgmilmhofekaaGreatDoorShelf
import Derived.WalkKit
import Derived.WalkSpells
import Derived.WalkLawsBesides
import Derived.Handy
import Derived.Lib.Hide
import Derived.Lib.Strings
import Derived.Lib.Builder
import Derived.Shelf.Strings.Builder1
import Derived.BigQuiet
import Derived.WalkSmall
import Derived.Deep.QuietTactic
namespace Go.Proofs.YtckgmilmhofekaaGreatDoor
open Go.RowKit

/-! ### idle -/
theorem refBlank_calls (c : UInt8) (w : World) : Calls Tryz.prog 32 #[.int .u8 c.toNat] w fun e w' => e = .returned (.bool (isBlank c)) ∧ w = w' := by
 go_enter Tryz.func32, Tryz.ntmps32
 go_wp2
 all_goals (go_ret; refine ⟨ret_boolL ?_, rfl⟩; rw [Bool.eq_iff_iff]; simp [isBlank]; omega)
/-! ### the verifier's Escaped, cut -/
set_option maxRecDepth 100000 in
set_option maxHeartbeats 2000000 in
theorem refEscaped_any (s : ByteArray) (w : World) (hs : s.size ≤ 137438953472) :
    Calls Tryz.prog 54 #[.string s] w fun e w' => e = .returned (.string ⟨(escL s.data.toList).toArray⟩) ∧ w = w' := by
  go_enter Tryz.func54, Tryz.ntmps54
  go_wp2_with fail
  go_loop [3, 4] (fun t i => ∃ (k : Nat) (x : ByteArray), k ≤ s.size ∧ i = .int .i64 k ∧ t = .string x ∧ x.size ≤ 2 * k + 1 ∧ Hid (x.data.toList = 34 :: escBody (s.data.toList.take k))) (fun _ i => s.size - (intOf i).toNat)
  case atStart => exact ⟨0, _, Nat.zero_le _, rfl, rfl, by decide, rfl⟩
  case round =>
    obtain ⟨k, x, hk, rfl, rfl, hxl, HX⟩ := hrel
    by_cases hlt : k < s.size
    · have hsn : Hid (escBody (s.data.toList.take (k + 1)) = escBody (s.data.toList.take k) ++ (if s[k] = 34 ∨ s[k] = 92 then [92, s[k]] else [s[k]])) := by
        show _ = _
        rw [take_snoc s k hlt, escBody_snoc]
      have hone : Hid ((s.extract k (k + 1)).data.toList = [s[k]]) := by
        show _ = _
        rw [Lib.extract_data, bytes_drop s k hlt]; simp
      by_cases hq : s[k] = 34 ∨ s[k] = 92
      · have hor : ((s[k].toNat : Int) == 34) = true ∨ (((s[k].toNat : Int) == 34) = false ∧ ((s[k].toNat : Int) == 92) = true) := by
          rcases hq with h | h
          · exact .inl ((u8_test _ 34).2 h)
          · right; rw [h]; exact ⟨by decide, by decide⟩
        have HQ := Lib.hid hq; clear hq
        rcases hor with e1 | ⟨e1, e2⟩
        all_goals
          have h92 : (⟨#[92]⟩ : ByteArray).size = 1 := rfl
          go_wp2_with fail
          go_round
          case rel => exact ⟨k + 1, _, by omega, by go_num, rfl, by simp [h92]; omega, by show _ = _; simp only [ByteArray.data_append, Array.toList_append, HX.out, hone.out, hsn.out, if_pos HQ.out]; simp⟩
          case measure => simp [intOf]; omega
      · have e1 : ((s[k].toNat : Int) == 34) = false := u8_bne rfl (fun h => hq (.inl h))
        have e2 : ((s[k].toNat : Int) == 92) = false := u8_bne rfl (fun h => hq (.inr h))
        have HQ := Lib.hid hq; clear hq
        go_wp2_with fail
        go_round
        case rel => exact ⟨k + 1, _, by omega, by go_num, rfl, by simp; omega, by show _ = _; simp only [ByteArray.data_append, Array.toList_append, HX.out, hone.out, hsn.out, if_neg HQ.out]; simp⟩
        case measure => simp [intOf]; omega
    · have hall : Hid (s.data.toList.take k = s.data.toList) := List.take_of_length_le (by simp; omega)
      go_wp2_with fail
      go_ret
      refine ⟨?_, rfl⟩
      have : x ++ ⟨#[34]⟩ = ⟨(escL s.data.toList).toArray⟩ := by
        refine mk_bytes _ ?_
        rw [ByteArray.data_append, Array.toList_append, HX.out, hall.out]; rfl
      rw [← this]; rfl
end Go.Proofs.YtckgmilmhofekaaGreatDoor
namespace Go.Proofs.YtckgmilmhofekaaGreatDoor
open Go.RowKit

theorem all_take_succ' (s : ByteArray) (k : Nat) (h : k < s.size) (p : UInt8 → Bool) : (s.data.toList.take (k + 1)).all p = ((s.data.toList.take k).all p && p s[k]) := by
 rw [take_snoc s k h]; simp
theorem refLetter_calls (c : UInt8) (w : World) : Calls Tryz.prog 57 #[.int .u8 c.toNat] w fun e w' => e = .returned (.bool (isLetter c)) ∧ w = w' := by
 go_enter Tryz.func57, Tryz.ntmps57
 go_wp2
 all_goals (go_ret; refine ⟨ret_boolL ?_, rfl⟩; rw [Bool.eq_iff_iff]; simp [isLetter]; omega)
theorem refDigit_calls (c : UInt8) (w : World) : Calls Tryz.prog 58 #[.int .u8 c.toNat] w fun e w' => e = .returned (.bool (isDigit c)) ∧ w = w' := by
 go_enter Tryz.func58, Tryz.ntmps58
 go_wp2
 all_goals (go_ret; refine ⟨ret_boolL ?_, rfl⟩; rw [Bool.eq_iff_iff]; simp [isDigit]; omega)
/-! ### names -/
theorem inner_split (c : UInt8) : isInner c = true ∧ (isLetter c = true ∨ (isLetter c = false ∧ isDigit c = true) ∨ (isLetter c = false ∧ isDigit c = false ∧ c = 95)) ∨ isInner c = false ∧ isLetter c = false ∧ isDigit c = false ∧ c ≠ 95 := by
  have h95 : decide (c.toNat = 95) = true ↔ c = 95 := by
    rw [decide_eq_true_eq]
    constructor
    · intro h; apply UInt8.toNat_inj.1; simpa using h
    · intro h; rw [h]; rfl
  unfold isInner
  cases isLetter c <;> cases isDigit c <;> by_cases h : c = 95 <;> simp [h]
  intro hh; exact h (h95.1 (by simpa using hh))
set_option maxRecDepth 100000 in
set_option maxHeartbeats 2000000 in
theorem refName_any (s : ByteArray) (w : World) (hs : s.size ≤ maxLen) :
    Calls Tryz.prog 59 #[.string s] w fun e w' => e = .returned (.bool (nameOk s.data.toList)) ∧ w = w' := by
  unfold maxLen at hs
  have HL : Hid (s.data.toList.length = s.size) := bytes_len s
  by_cases h0 : 0 < s.size
  · have HN : Hid (nameOk s.data.toList = (isLetter s[0] && decide (s.size ≤ 20) && s.data.toList.all isInner)) := by
      have hd := bytes_drop s 0 h0
      rw [List.drop_zero] at hd
      show _ = _
      rw [← HL.out]
      conv => lhs; rw [hd]
      rw [nameOk, ← hd]
    by_cases h20 : s.size ≤ 20
    · cases hl : isLetter s[0] with
      | false =>
        have HH := Lib.hid hl; clear hl
        go_enter Tryz.func59, Tryz.ntmps59
        go_wp2_with (go_at_call 57; refine (refLetter_calls _ _).mono ?_; rintro e w' ⟨rfl, rfl⟩; rw [HH.out])
        go_ret
        exact ⟨ret_boolL (by rw [HN.out, HH.out]; rfl), rfl⟩
      | true =>
        have HH := Lib.hid hl; clear hl
        go_enter Tryz.func59, Tryz.ntmps59
        go_wp2_with (go_at_call 57; refine (refLetter_calls _ _).mono ?_; rintro e w' ⟨rfl, rfl⟩; rw [HH.out])
        go_loop [3] (fun i => ∃ k : Nat, 1 ≤ k ∧ k ≤ s.size ∧ i = .int .i64 k ∧ Hid ((s.data.toList.take k).all isInner = true)) (fun i => s.size - (intOf i).toNat)
        case atStart =>
          refine ⟨1, Nat.le_refl _, by omega, rfl, ?_⟩
          show _ = _
          rw [all_take_succ' s 0 h0]; simp [letter_inner HH.out]
        case round =>
          obtain ⟨k, hk1, hk, rfl, HA⟩ := hrel
          by_cases hlt : k < s.size
          · have hsn := Lib.hid (all_take_succ' s k hlt isInner)
            rcases inner_split s[k] with ⟨hi, h⟩ | ⟨hi, g1, g2, g3⟩
            · have HI := Lib.hid hi
              have hrel' : Hid ((s.data.toList.take (k + 1)).all isInner = true) := by show _ = _; rw [hsn.out, HA.out, HI.out]; rfl
              clear hi
              rcases h with g1 | ⟨g1, g2⟩ | ⟨g1, g2, g3⟩
              · have G1 := Lib.hid g1; clear g1
                go_wp2_with (go_at_call 57; refine (refLetter_calls _ _).mono ?_; rintro e w' ⟨rfl, rfl⟩; rw [G1.out])
                go_round
                case rel => exact ⟨k + 1, by omega, by omega, by go_num, hrel'⟩
                case measure => simp [intOf]; omega
              · have G1 := Lib.hid g1; clear g1
                have G2 := Lib.hid g2; clear g2
                go_wp2_with (first | (go_at_call 57; refine (refLetter_calls _ _).mono ?_; rintro e w' ⟨rfl, rfl⟩; rw [G1.out]) | (go_at_call 58; refine (refDigit_calls _ _).mono ?_; rintro e w' ⟨rfl, rfl⟩; rw [G2.out]))
                go_round
                case rel => exact ⟨k + 1, by omega, by omega, by go_num, hrel'⟩
                case measure => simp [intOf]; omega
              · have G1 := Lib.hid g1; clear g1
                have G2 := Lib.hid g2; clear g2
                have e1 := u8_nne (n := 95) rfl g3
                clear g3
                go_wp2_with (first | (go_at_call 57; refine (refLetter_calls _ _).mono ?_; rintro e w' ⟨rfl, rfl⟩; rw [G1.out]) | (go_at_call 58; refine (refDigit_calls _ _).mono ?_; rintro e w' ⟨rfl, rfl⟩; rw [G2.out]))
                go_round
                case rel => exact ⟨k + 1, by omega, by omega, by go_num, hrel'⟩
                case measure => simp [intOf]; omega
            · have hno : Hid (s.data.toList.all isInner = false) := by
                show _ = _
                rw [Bool.eq_false_iff]; intro hh
                have hm : s[k] ∈ s.data.toList := List.mem_of_getElem? (bytes_get s k hlt)
                have := List.all_eq_true.1 hh _ hm
                rw [hi] at this; cases this
              have G1 := Lib.hid g1; clear g1
              have G2 := Lib.hid g2; clear g2
              have e1 := u8_neq (n := 95) rfl g3
              clear g3 hi
              go_wp2_with (first | (go_at_call 57; refine (refLetter_calls _ _).mono ?_; rintro e w' ⟨rfl, rfl⟩; rw [G1.out]) | (go_at_call 58; refine (refDigit_calls _ _).mono ?_; rintro e w' ⟨rfl, rfl⟩; rw [G2.out]))
              go_ret
              exact ⟨ret_boolL (by rw [HN.out, hno.out]; simp), rfl⟩
          · have hall : Hid (s.data.toList.all isInner = true) := by have := HA.out; rw [List.take_of_length_le (by rw [HL.out]; omega)] at this; exact this
            go_wp2_with fail
            go_ret
            exact ⟨ret_boolL (by rw [HN.out, HH.out, hall.out, decide_eq_true h20]; rfl), rfl⟩
    · go_enter Tryz.func59, Tryz.ntmps59
      go_wp2_with fail
      go_ret
      exact ⟨ret_boolL (by rw [HN.out, decide_eq_false h20]; simp), rfl⟩
  · have hd := bytes_end s 0 (by omega)
    rw [List.drop_zero] at hd
    have HD := Lib.hid hd; clear hd
    go_enter Tryz.func59, Tryz.ntmps59
    go_wp2_with fail
    go_ret
    exact ⟨ret_boolL (by rw [HD.out]; rfl), rfl⟩
/-! ### values -/
set_option maxRecDepth 100000 in
set_option maxHeartbeats 2000000 in
theorem refValue_any (s : ByteArray) (w : World) (hs : s.size ≤ maxLen) :
    Calls Tryz.prog 88 #[.string s] w fun e w' => e = .returned (.bool (quoteOk s.data.toList)) ∧ w = w' := by
  unfold maxLen at hs
  have HL : Hid (s.data.toList.length = s.size) := bytes_len s
  go_enter Tryz.func88, Tryz.ntmps88
  go_wp2_with fail
  go_loop [3] (fun i => ∃ k : Nat, k ≤ s.size ∧ i = .int .i64 k ∧ Hid ((s.data.toList.take k).all isPlain = true)) (fun i => s.size - (intOf i).toNat)
  case atStart => exact ⟨0, Nat.zero_le _, rfl, rfl⟩
  case round =>
    obtain ⟨k, hk, rfl, HA⟩ := hrel
    by_cases hlt : k < s.size
    · have hsn := Lib.hid (all_take_succ' s k hlt isPlain)
      by_cases hp : (32 : Int) ≤ (s[k].toNat : Int) ∧ (s[k].toNat : Int) ≤ (126 : Int)
      · obtain ⟨h1, h2⟩ := hp
        have hpl : Hid (isPlain s[k] = true) := by show _ = _; simp [isPlain]; omega
        go_wp2_with fail
        go_round
        case rel => exact ⟨k + 1, by omega, by go_num, by show _ = _; rw [hsn.out, HA.out, hpl.out]; rfl⟩
        case measure => simp [intOf]; omega
      · have hno : Hid (quoteOk s.data.toList = false) := by
          show _ = _
          rw [Bool.eq_false_iff]; intro hh
          simp only [quoteOk, Bool.and_eq_true] at hh
          have hm : s[k] ∈ s.data.toList := List.mem_of_getElem? (bytes_get s k hlt)
          have := List.all_eq_true.1 hh.2 _ hm
          simp [isPlain] at this; omega
        by_cases h1 : (32 : Int) ≤ (s[k].toNat : Int)
        · have h2 : (126 : Int) < (s[k].toNat : Int) := by omega
          clear hp
          go_wp2_with fail
          go_ret
          exact ⟨ret_boolL (by rw [hno.out]), rfl⟩
        · have h2 : (s[k].toNat : Int) < (32 : Int) := by omega
          clear hp h1
          go_wp2_with fail
          go_ret
          exact ⟨ret_boolL (by rw [hno.out]), rfl⟩
    · have hall : Hid (s.data.toList.all isPlain = true) := by have := HA.out; rw [List.take_of_length_le (by rw [HL.out]; omega)] at this; exact this
      go_wp2_with fail
      go_ret
      refine ⟨ret_boolL ?_, rfl⟩
      rw [quoteOk, HL.out, hall.out, Bool.and_true, Bool.eq_iff_iff]
      simp; omega
theorem refQuote_any (s : ByteArray) (w : World) (hs : s.size ≤ 137438953472) :
  Calls Tryz.prog 105 #[.string s] w fun e w' => e = .returned (quoteRes s.data.toList) ∧ w = w' := by
 have hm : s.size ≤ maxLen := by unfold maxLen; omega
 cases hq : quoteOk s.data.toList with
 | true =>
  have HQ := Lib.hid hq; clear hq
  go_enter Tryz.func105, Tryz.ntmps105
  go_wp2_with (first | (go_at_call 88; refine (refValue_any s _ hm).mono ?_; rintro e w' ⟨rfl, rfl⟩; rw [HQ.out]) | (go_at_call 54; refine (refEscaped_any s _ hs).mono ?_; rintro e w' ⟨rfl, rfl⟩))
  go_ret2
  exact ⟨by rw [quoteRes_yes HQ.out]; rfl, rfl⟩
 | false =>
  have HQ := Lib.hid hq; clear hq
  go_enter Tryz.func105, Tryz.ntmps105
  go_wp2_with (first | (go_at_call 88; refine (refValue_any s _ hm).mono ?_; rintro e w' ⟨rfl, rfl⟩; rw [HQ.out]))
  go_ret2
  exact ⟨by rw [quoteRes_no HQ.out]; rfl, rfl⟩
/-! ### signs -/
theorem signStr_get (k : Nat) (h : k < 13) : (ByteArray.mk #[40, 41, 44, 59, 58, 61, 60, 43, 45, 42, 47, 123, 125])[k]'h = signBytes.getD k 0 := by
 match k, h with
 | 0, _ | 1, _ | 2, _ | 3, _ | 4, _ | 5, _ | 6, _ | 7, _ | 8, _ | 9, _ | 10, _ | 11, _ | 12, _ => rfl
 | k + 13, h => omega
set_option maxRecDepth 100000 in
set_option maxHeartbeats 2000000 in
theorem refSign_any (c : UInt8) (w : World) :
    Calls Tryz.prog 62 #[.int .u8 c.toNat] w fun e w' => e = .returned (.bool (isSign c)) ∧ w = w' := by
  have hsz : (ByteArray.mk #[40, 41, 44, 59, 58, 61, 60, 43, 45, 42, 47, 123, 125]).size = 13 := rfl
  go_enter Tryz.func62, Tryz.ntmps62
  go_wp2_with fail
  go_loop [4] (fun i => ∃ k : Nat, k ≤ 13 ∧ i = .int .i64 k ∧ Hid (∀ j, j < k → signBytes.getD j 0 ≠ c)) (fun i => 13 - (intOf i).toNat)
  case atStart => exact ⟨0, by omega, rfl, fun j hj => by omega⟩
  case round =>
    obtain ⟨k, hk, rfl, HN⟩ := hrel
    by_cases hlt : k < 13
    · have hlt' : k < (ByteArray.mk #[40, 41, 44, 59, 58, 61, 60, 43, 45, 42, 47, 123, 125]).size := hlt
      by_cases hh : (ByteArray.mk #[40, 41, 44, 59, 58, 61, 60, 43, 45, 42, 47, 123, 125])[k] = c
      · have e2 := u8_beq (n := (c.toNat : Int)) rfl hh
        have hy : Hid (isSign c = true) := sign_yes hlt (by rw [← signStr_get k hlt]; exact hh)
        clear hh
        go_wp2_with fail
        go_ret
        exact ⟨ret_boolL (by rw [hy.out]), rfl⟩
      · have e2 := u8_bne (n := (c.toNat : Int)) rfl hh
        have HH := Lib.hid hh; clear hh
        go_wp2_with fail
        go_round
        case rel => exact ⟨k + 1, by omega, by go_num, fun j hj => by
          rcases Nat.lt_or_ge j k with h | h
          · exact HN.out j h
          · obtain rfl : j = k := by omega
            rw [← signStr_get j hlt]; exact HH.out⟩
        case measure => simp [intOf]; omega
    · have hn : Hid (isSign c = false) := sign_no (fun j hj => HN.out j (by omega))
      go_wp2_with fail
      go_ret
      exact ⟨ret_boolL (by rw [hn.out]), rfl⟩
end Go.Proofs.YtckgmilmhofekaaGreatDoor
namespace Go.Proofs.YtckgmilmhofekaaGreatDoor
open Go.RowKit

theorem numVal_le_append (a b : Bytes) : numVal a ≤ numVal (a ++ b) := by
 have h : ∀ (b : Bytes) (n : Nat), n ≤ b.foldl (fun n c => 10 * n + (c.toNat - 48)) n := by
  intro b
  induction b with
  | nil => intro n; exact Nat.le_refl _
  | cons c r ih => intro n; have := ih (10 * n + (c.toNat - 48)); simp only [List.foldl_cons]; omega
 unfold numVal; rw [List.foldl_append]; exact h b _
theorem numVal_ge (b : Bytes) (n : Nat) : n * 10 ^ b.length ≤ b.foldl (fun n c => 10 * n + (c.toNat - 48)) n := by
 induction b generalizing n with
 | nil => simp
 | cons c r ih =>
  have := ih (10 * n + (c.toNat - 48))
  simp only [List.foldl_cons, List.length_cons]
  have h2 : n * 10 ^ (r.length + 1) ≤ (10 * n + (c.toNat - 48)) * 10 ^ r.length := by
   rw [Nat.pow_succ, Nat.mul_comm (10 ^ r.length) 10, ← Nat.mul_assoc, Nat.mul_comm n 10]
   exact Nat.mul_le_mul_right _ (by omega)
  omega
theorem numVal_long {l : Bytes} (ha : l.all isDigit = true) (hh : l.head? ≠ some 48) (hl : 13 < l.length) : 1099511627776 < numVal l := by
 match l, hl with
 | c :: r, hl =>
  simp only [List.all_cons, Bool.and_eq_true] at ha
  have hc := ha.1
  have hne : c ≠ 48 := fun e => hh (by rw [e]; rfl)
  have hn : c.toNat ≠ 48 := fun e => hne (UInt8.toNat_inj.1 (by rw [e]; rfl))
  simp only [isDigit, Bool.and_eq_true, decide_eq_true_eq] at hc
  have h1 := numVal_ge r (10 * 0 + (c.toNat - 48))
  have h2 : 1 * 10 ^ 13 ≤ (10 * 0 + (c.toNat - 48)) * 10 ^ r.length := Nat.mul_le_mul (by omega) (Nat.pow_le_pow_right (by omega) (by simp at hl; omega))
  unfold numVal; rw [List.foldl_cons]; omega
theorem numOf_no_digit {l : Bytes} (h : l.all isDigit = false) : numOf l = none := by unfold numOf; rw [if_pos (.inr (.inl h))]
theorem numOf_no_big {l : Bytes} (h : 1099511627776 < numVal l) : numOf l = none := by
 unfold numOf; rw [if_pos h]; split <;> rfl
theorem numOf_no_nil : numOf [] = none := by unfold numOf; rw [if_pos (.inl rfl)]
theorem numOf_no_zero {l : Bytes} (h : l.head? = some 48) (h1 : 1 < l.length) : numOf l = none := by
 unfold numOf; rw [if_pos (.inr (.inr (.inl ⟨h, by rintro rfl; simp at h1⟩)))]
theorem numOf_yes {l : Bytes} (h0 : l ≠ []) (ha : l.all isDigit = true) (hz : l.head? ≠ some 48 ∨ l.length ≤ 1) (hm : numVal l ≤ 1099511627776) : numOf l = some (numVal l) := by
  unfold numOf
  rw [if_neg ?_, if_neg (by omega)]
  rintro (h | h | ⟨h, h'⟩ | h)
  · exact h0 h
  · rw [ha] at h; cases h
  · rcases hz with hz | hz
    · exact hz h
    · match l, h0, hz, h, h' with
      | [c], _, _, h, h' => simp at h; exact h' (by rw [h])
  · rcases hz with hz | hz
    · have := numVal_long ha hz h; omega
    · omega
theorem digit_val {c : UInt8} (h : isDigit c = true) : 48 ≤ c.toNat ∧ c.toNat ≤ 57 := by simpa [isDigit] using h
theorem digit_int {c : UInt8} (h : isDigit c = true) (n : Nat) : ((10 * n + (c.toNat - 48) : Nat) : Int) = 10 * (n : Int) + (c.toNat : Int) - 48 := by have := digit_val h; omega
set_option maxRecDepth 100000 in
set_option maxHeartbeats 4000000 in
theorem refNumber_any (s : ByteArray) (w : World) (hs : s.size ≤ maxLen) :
    Calls Tryz.prog 60 #[.string s] w fun e w' => e = .returned (numRes s.data.toList) ∧ w = w' := by
  unfold maxLen at hs
  have HL : Hid (s.data.toList.length = s.size) := bytes_len s
  go_enter Tryz.func60, Tryz.ntmps60
  go_wp2_with fail
  go_loop [4, 5] (fun n i => ∃ k m : Nat, k ≤ s.size ∧ m ≤ 10995116277769 ∧ n = .int .i64 m ∧ i = .int .i64 k ∧ Hid (numVal (s.data.toList.take k) = m) ∧ Hid ((s.data.toList.take k).all isDigit = true)) (fun _ i => s.size - (intOf i).toNat)
  case atStart => exact ⟨0, 0, Nat.zero_le _, by omega, rfl, rfl, rfl, rfl⟩
  case round =>
    obtain ⟨k, m, hk, hm, rfl, rfl, HM, HA⟩ := hrel
    by_cases hlt : k < s.size
    · have hsn := Lib.hid (all_take_succ' s k hlt isDigit)
      cases hd : isDigit s[k] with
      | false =>
        have HD := Lib.hid hd
        have hno : Hid (s.data.toList.all isDigit = false) := by
          show _ = _
          rw [Bool.eq_false_iff]; intro hh
          have hm : s[k] ∈ s.data.toList := List.mem_of_getElem? (bytes_get s k hlt)
          have := List.all_eq_true.1 hh _ hm
          rw [hd] at this; cases this
        clear hd
        go_wp2_with (go_at_call 58; refine (refDigit_calls _ _).mono ?_; rintro e w' ⟨rfl, rfl⟩; rw [HD.out])
        go_ret2
        exact ⟨by rw [numRes_none (numOf_no_digit hno.out)]; rfl, rfl⟩
      | true =>
        have HD := Lib.hid hd; clear hd
        by_cases hbig : m ≤ 1099511627776
        · have hi := digit_int HD.out m
          have hv := digit_val HD.out
          have HI := Lib.hid hi; clear hi
          have HV : Hid (numVal (s.data.toList.take (k + 1)) = 10 * m + (s[k].toNat - 48)) := by show _ = _; rw [take_snoc s k hlt, numVal_snoc, HM.out]
          go_wp2_with (go_at_call 58; refine (refDigit_calls _ _).mono ?_; rintro e w' ⟨rfl, rfl⟩; rw [HD.out])
          go_round
          case rel => exact ⟨k + 1, 10 * m + (s[k].toNat - 48), by omega, by omega, by rw [HI.out], by go_num, HV, by show _ = _; rw [hsn.out, HA.out, HD.out]; rfl⟩
          case measure => simp [intOf]; omega
        · have hno : Hid (numOf s.data.toList = none) := by
            refine numOf_no_big ?_
            have := numVal_le_append (s.data.toList.take k) (s.data.toList.drop k)
            rw [List.take_append_drop, HM.out] at this; omega
          go_wp2_with (go_at_call 58; refine (refDigit_calls _ _).mono ?_; rintro e w' ⟨rfl, rfl⟩; rw [HD.out])
          go_ret2
          exact ⟨by rw [numRes_none hno.out]; rfl, rfl⟩
    · have hta : s.data.toList.take k = s.data.toList := List.take_of_length_le (by rw [HL.out]; omega)
      have HM2 : Hid (numVal s.data.toList = m) := by have := HM.out; rw [hta] at this; exact this
      have HA2 : Hid (s.data.toList.all isDigit = true) := by have := HA.out; rw [hta] at this; exact this
      clear hta
      by_cases h0 : s.size < 1
      · have hno : Hid (numOf s.data.toList = none) := by
          have : s.data.toList = [] := List.length_eq_zero_iff.1 (by rw [HL.out]; omega)
          show _ = _; rw [this]; exact numOf_no_nil
        go_wp2_with fail
        go_ret2
        exact ⟨by rw [numRes_none hno.out]; rfl, rfl⟩
      · have hd0 := bytes_drop s 0 (by omega)
        rw [List.drop_zero] at hd0
        have hhead : Hid (s.data.toList.head? = some s[0]) := by show _ = _; rw [hd0]; rfl
        have hne : Hid (s.data.toList ≠ []) := by show _ ≠ _; rw [hd0]; simp
        clear hd0
        by_cases hbig : m ≤ 1099511627776
        · by_cases h1 : 1 < s.size
          · by_cases h48 : s[0] = 48
            · have hno : Hid (numOf s.data.toList = none) := numOf_no_zero (by rw [hhead.out, h48]) (by rw [HL.out]; exact h1)
              have e1 := u8_beq (n := 48) rfl h48
              clear h48
              go_wp2_with fail
              go_ret2
              exact ⟨by rw [numRes_none hno.out]; rfl, rfl⟩
            · have hyes : Hid (numOf s.data.toList = some m) := by show _ = _; rw [← HM2.out]; exact numOf_yes hne.out HA2.out (.inl (by rw [hhead.out]; simpa using h48)) (by rw [HM2.out]; exact hbig)
              have e1 := u8_bne (n := 48) rfl h48
              clear h48
              go_wp2_with fail
              go_ret2
              exact ⟨by rw [numRes_some hyes.out]; rfl, rfl⟩
          · have hyes : Hid (numOf s.data.toList = some m) := by show _ = _; rw [← HM2.out]; exact numOf_yes hne.out HA2.out (.inr (by rw [HL.out]; omega)) (by rw [HM2.out]; exact hbig)
            go_wp2_with fail
            go_ret2
            exact ⟨by rw [numRes_some hyes.out]; rfl, rfl⟩
        · have hno : Hid (numOf s.data.toList = none) := numOf_no_big (by rw [HM2.out]; omega)
          by_cases h1 : 1 < s.size
          · by_cases h48 : s[0] = 48
            · have e1 := u8_beq (n := 48) rfl h48
              clear h48
              go_wp2_with fail
              go_ret2
              exact ⟨by rw [numRes_none hno.out]; rfl, rfl⟩
            · have e1 := u8_bne (n := 48) rfl h48
              clear h48
              go_wp2_with fail
              go_ret2
              exact ⟨by rw [numRes_none hno.out]; rfl, rfl⟩
          · go_wp2_with fail
            go_ret2
            exact ⟨by rw [numRes_none hno.out]; rfl, rfl⟩
/-! ### quoted strings -/
def QR (d : Bytes) (k : Nat) (done : Bytes) : Prop := (QAt d k done ∧ done.all isPlain = true) ∨ (quotedT d = none ∧ done.all isPlain = false)
theorem qr_start (d : Bytes) : QR d 1 [] := .inl ⟨qat_start d, rfl⟩
theorem qr_end {d : Bytes} {k : Nat} {done r : Bytes} (h : QR d k done) (hd : d.drop k = 34 :: r) : quotedT d = if quoteOk done then some (done, k + 1) else none := by
  rcases h with ⟨h, hp⟩ | ⟨h, hp⟩
  · rw [qat_end h hd]; unfold quoteOk; rw [hp]
    by_cases h4 : 400 < done.length
    · rw [if_pos h4]; simp; omega
    · rw [if_neg h4]; simp; omega
  · rw [h]; unfold quoteOk; rw [hp]; simp
theorem qr_eof {d : Bytes} {k : Nat} {done : Bytes} (h : QR d k done) (hd : d.drop k = []) : quotedT d = none := by
  rcases h with ⟨h, hp⟩ | ⟨h, hp⟩
  · exact qat_none h (by rw [hd]; rfl)
  · exact h
theorem qr_plain {d : Bytes} {k : Nat} {done : Bytes} {c : UInt8} (h : QR d k done) (hd : d.drop k = c :: d.drop (k + 1)) (h1 : c ≠ 34) (h2 : c ≠ 92) : QR d (k + 1) (done ++ [c]) := by
  rcases h with ⟨h, hp⟩ | ⟨h, hp⟩
  · cases hc : isPlain c with
    | true => exact .inl ⟨qat_plain h hd hc h1 h2, by rw [List.all_append, hp]; simp [hc]⟩
    | false => exact .inr ⟨qat_none h (by rw [hd]; exact unq_bad _ hc), by simp [hc]⟩
  · exact .inr ⟨h, by rw [List.all_append, hp]; rfl⟩
theorem qr_esc {d : Bytes} {k : Nat} {done : Bytes} {c : UInt8} (h : QR d k done) (hd : d.drop k = 92 :: d.drop (k + 1)) (hd2 : d.drop (k + 1) = c :: d.drop (k + 2)) (hc : c = 34 ∨ c = 92) : QR d (k + 2) (done ++ [c]) := by
  rcases h with ⟨h, hp⟩ | ⟨h, hp⟩
  · refine .inl ⟨qat_esc h hd hd2 hc, ?_⟩
    have : isPlain c = true := by rcases hc with rfl | rfl <;> decide
    rw [List.all_append, hp]; simp [this]
  · exact .inr ⟨h, by rw [List.all_append, hp]; rfl⟩
theorem qr_esc_eof {d : Bytes} {k : Nat} {done : Bytes} (h : QR d k done) (hd : d.drop k = 92 :: d.drop (k + 1)) (hd2 : d.drop (k + 1) = []) : quotedT d = none := by
  rcases h with ⟨h, hp⟩ | ⟨h, hp⟩
  · exact qat_none h (by rw [hd, hd2]; exact unq_esc_end)
  · exact h
theorem qr_esc_bad {d r : Bytes} {k : Nat} {done : Bytes} {c : UInt8} (h : QR d k done) (hd : d.drop k = 92 :: d.drop (k + 1)) (hd2 : d.drop (k + 1) = c :: r) (hc : ¬ (c = 34 ∨ c = 92)) : quotedT d = none := by
  rcases h with ⟨h, hp⟩ | ⟨h, hp⟩
  · exact qat_none h (by rw [hd, hd2]; exact unq_esc_bad _ hc)
  · exact h
def refQuotedRes (l : Bytes) (p : Nat) : Value := match quotedT (l.drop p) with
 | none => .tuple #[.string ⟨#[]⟩, .int .i64 0, .bool false]
 | some q => .tuple #[.string ⟨q.1.toArray⟩, .int .i64 (p + q.2 : Nat), .bool true]
theorem refQuotedRes_no {l : Bytes} {p : Nat} (h : quotedT (l.drop p) = none) : refQuotedRes l p = .tuple #[.string ⟨#[]⟩, .int .i64 0, .bool false] := by simp [refQuotedRes, h]
theorem refQuotedRes_yes {l v : Bytes} {p k : Nat} (h : quotedT (l.drop p) = some (v, k)) : refQuotedRes l p = .tuple #[.string ⟨v.toArray⟩, .int .i64 (p + k : Nat), .bool true] := by simp [refQuotedRes, h]
set_option maxRecDepth 100000 in
set_option maxHeartbeats 4000000 in
theorem refQuoted_any (s : ByteArray) (p : Nat) (w : World) (hs : s.size ≤ 137438953472) (hp : p < s.size) :
    Calls Tryz.prog 61 #[.string s, .int .i64 p] w fun e w' => e = .returned (refQuotedRes s.data.toList p) ∧ w = w' := by
  go_enter Tryz.func61, Tryz.ntmps61
  go_wp2_with fail
  go_loop [7, 8] (fun v i => ∃ (k : Nat) (x : ByteArray), p + k ≤ s.size ∧ x.size ≤ k ∧ 1 ≤ k ∧ v = .string x ∧ i = .int .i64 (p + k : Nat) ∧ Hid (QR (s.data.toList.drop p) k x.data.toList)) (fun _ i => s.size - (intOf i).toNat)
  case atStart => exact ⟨1, ⟨#[]⟩, by omega, Nat.zero_le _, Nat.le_refl _, rfl, by go_num, qr_start _⟩
  case round =>
    obtain ⟨k, x, hk, hx, hk1, rfl, rfl, HQ⟩ := hrel
    have hdd : ∀ j, (s.data.toList.drop p).drop j = s.data.toList.drop (p + j) := fun j => List.drop_drop
    have HDD := Lib.hid hdd; clear hdd
    by_cases hlt : p + k < s.size
    · have hd := Lib.hid (bytes_drop s (p + k) hlt)
      by_cases h34 : s[p + k] = 34
      · have e1 := u8_nne (n := 34) rfl h34
        have hfin := Lib.hid (qr_end HQ.out (r := s.data.toList.drop (p + k + 1)) (by rw [HDD.out, hd.out, h34]))
        clear h34
        cases hq : quoteOk x.data.toList with
        | true =>
          have HV := Lib.hid hq
          have hyes : Hid (refQuotedRes s.data.toList p = .tuple #[.string ⟨x.data.toList.toArray⟩, .int .i64 (p + (k + 1) : Nat), .bool true]) := refQuotedRes_yes (by rw [hfin.out, if_pos hq])
          clear hq
          go_wp2_with (go_at_call 88; refine (refValue_any x _ (by unfold maxLen; omega)).mono ?_; rintro e w' ⟨rfl, rfl⟩; rw [HV.out])
          go_ret3
          exact ⟨by rw [hyes.out]; rfl, rfl⟩
        | false =>
          have HV := Lib.hid hq
          have hno : Hid (refQuotedRes s.data.toList p = .tuple #[.string ⟨#[]⟩, .int .i64 0, .bool false]) := refQuotedRes_no (by rw [hfin.out, hq]; rfl)
          clear hq
          go_wp2_with (go_at_call 88; refine (refValue_any x _ (by unfold maxLen; omega)).mono ?_; rintro e w' ⟨rfl, rfl⟩; rw [HV.out])
          go_ret3
          exact ⟨by rw [hno.out]; rfl, rfl⟩
      · have e1 := u8_neq (n := 34) rfl h34
        have H34 := Lib.hid h34; clear h34
        by_cases h92 : s[p + k] = 92
        · have e2 := u8_beq (n := 92) rfl h92
          have hd92 : Hid ((s.data.toList.drop p).drop k = 92 :: (s.data.toList.drop p).drop (k + 1)) := by show _ = _; rw [HDD.out, HDD.out, hd.out, h92]; rfl
          clear h92
          by_cases hlt2 : p + k + 1 < s.size
          · have hd2 : Hid ((s.data.toList.drop p).drop (k + 1) = s[p + k + 1] :: (s.data.toList.drop p).drop (k + 2)) := by show _ = _; rw [HDD.out, HDD.out]; exact bytes_drop s (p + k + 1) hlt2
            have hone : Hid ((s.extract (p + k + 1) (p + k + 1 + 1)).data.toList = [s[p + k + 1]]) := by
              show _ = _
              rw [Lib.extract_data, bytes_drop s (p + k + 1) hlt2]; simp
            by_cases hesc : s[p + k + 1] = 34 ∨ s[p + k + 1] = 92
            · have e3 : (((s[p + k + 1].toNat : Int) != 34) = false) ∨ (((s[p + k + 1].toNat : Int) != 34) = true ∧ ((s[p + k + 1].toNat : Int) != 92) = false) := by
                rcases hesc with h | h
                · exact .inl (u8_nne rfl h)
                · right; rw [h]; exact ⟨by decide, by decide⟩
              have HE := Lib.hid hesc; clear hesc
              rcases e3 with e3 | ⟨e3, e4⟩
              all_goals
                go_wp2_with fail
                go_round
                case rel => exact ⟨k + 2, _, by omega, by simp; omega, by omega, rfl, by go_num, by show QR _ _ _; simp only [ByteArray.data_append, Array.toList_append, hone.out]; exact qr_esc HQ.out hd92.out hd2.out HE.out⟩
                case measure => simp [intOf]; omega
            · have e3 := u8_neq (n := 34) rfl (fun h => hesc (.inl h))
              have e4 := u8_neq (n := 92) rfl (fun h => hesc (.inr h))
              have HE := Lib.hid hesc; clear hesc
              go_wp2_with fail
              go_ret3
              exact ⟨by rw [refQuotedRes_no (qr_esc_bad HQ.out hd92.out hd2.out HE.out)]; rfl, rfl⟩
          · have hd2 : Hid ((s.data.toList.drop p).drop (k + 1) = []) := by show _ = _; rw [HDD.out]; exact bytes_end s _ (by omega)
            go_wp2_with fail
            go_ret3
            exact ⟨by rw [refQuotedRes_no (qr_esc_eof HQ.out hd92.out hd2.out)]; rfl, rfl⟩
        · have e2 := u8_bne (n := 92) rfl h92
          have H92 := Lib.hid h92; clear h92
          have hone : Hid ((s.extract (p + k) (p + k + 1)).data.toList = [s[p + k]]) := by
            show _ = _
            rw [Lib.extract_data, bytes_drop s (p + k) hlt]; simp
          go_wp2_with fail
          go_round
          case rel => exact ⟨k + 1, _, by omega, by simp; omega, by omega, rfl, by go_num, by show QR _ _ _; simp only [ByteArray.data_append, Array.toList_append, hone.out]; exact qr_plain HQ.out (by rw [HDD.out, HDD.out]; exact hd.out) H34.out H92.out⟩
          case measure => simp [intOf]; omega
    · have hno : Hid (quotedT (s.data.toList.drop p) = none) := qr_eof HQ.out (by rw [HDD.out]; exact bytes_end s _ (by omega))
      go_wp2_with fail
      go_ret3
      exact ⟨by rw [refQuotedRes_no hno.out]; rfl, rfl⟩
end Go.Proofs.YtckgmilmhofekaaGreatDoor
