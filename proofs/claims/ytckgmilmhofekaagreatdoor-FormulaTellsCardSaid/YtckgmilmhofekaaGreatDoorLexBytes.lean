/- Walks: the lexer's tests of a byte, and the counts over a string. -/
import Derived.Test.YtckgmilmhofekaaGreatDoorLexLaws
import Derived.Test.YtckgmilmhofekaaGreatDoorProg
import Derived.WalkKit
import Derived.WalkSpells
import Derived.WalkLawsBesides
import Derived.Handy
import Derived.Lib.Hide
import Derived.Lib.Strings
import Derived.Lib.Builder
namespace Go.Proofs.YtckgmilmhofekaaGreatDoor
open Go.RowKit

/-- Function f tests a byte by p. -/
structure ByteFn (f : Nat) (p : UInt8 → Bool) : Prop where
 enters : ∀ args w, (callFunc f args).run Tryz.prog w = .ok (.enter f args) w
 calls : ∀ (c : UInt8) (w : World), Calls Tryz.prog f #[.int .u8 c.toNat] w fun e w' => e = .returned (.bool (p c)) ∧ w = w'
theorem ret_boolL {a b : Bool} (h : a = b) : Ending.returned (.bool a) = .returned (.bool b) := by rw [h]
theorem ret_intL {k : IntKind} {a b : Int} (h : a = b) : Ending.returned (.int k a) = .returned (.int k b) := by rw [h]
set_option maxRecDepth 100000 in
set_option maxHeartbeats 400000 in
theorem digit_calls (c : UInt8) (w : World) : Calls Tryz.prog 85 #[.int .u8 c.toNat] w fun e w' => e = .returned (.bool (isDigit c)) ∧ w = w' := by
 go_enter Tryz.func85, Tryz.ntmps85
 go_wp2
 all_goals (go_ret; refine ⟨ret_boolL ?_, rfl⟩; rw [Bool.eq_iff_iff]; simp [isDigit]; omega)
theorem plain_calls (c : UInt8) (w : World) : Calls Tryz.prog 111 #[.int .u8 c.toNat] w fun e w' => e = .returned (.bool (isPlain c)) ∧ w = w' := by
 go_enter Tryz.func111, Tryz.ntmps111
 go_wp2
 all_goals (go_ret; refine ⟨ret_boolL ?_, rfl⟩; rw [Bool.eq_iff_iff]; simp [isPlain]; omega)
theorem letter_calls (c : UInt8) (w : World) : Calls Tryz.prog 82 #[.int .u8 c.toNat] w fun e w' => e = .returned (.bool (isLetter c)) ∧ w = w' := by
 go_enter Tryz.func82, Tryz.ntmps82
 go_wp2
 all_goals (go_ret; refine ⟨ret_boolL ?_, rfl⟩; rw [Bool.eq_iff_iff]; simp [isLetter]; omega)
theorem blank_calls (c : UInt8) (w : World) : Calls Tryz.prog 81 #[.int .u8 c.toNat] w fun e w' => e = .returned (.bool (isBlank c)) ∧ w = w' := by
 go_enter Tryz.func81, Tryz.ntmps81
 go_wp2
 all_goals (go_ret; refine ⟨ret_boolL ?_, rfl⟩; rw [Bool.eq_iff_iff]; simp [isBlank]; omega)
theorem inner_calls (c : UInt8) (w : World) : Calls Tryz.prog 83 #[.int .u8 c.toNat] w fun e w' => e = .returned (.bool (isInner c)) ∧ w = w' := by
 go_enter Tryz.func83, Tryz.ntmps83
 go_wp2_with (first | (go_at_call 82; refine (letter_calls _ _).mono ?_; rintro e w' ⟨rfl, rfl⟩) | (go_at_call 85; refine (digit_calls _ _).mono ?_; rintro e w' ⟨rfl, rfl⟩))
 all_goals (go_ret; refine ⟨ret_boolL ?_, rfl⟩; rw [Bool.eq_iff_iff]; simp [isInner, *]; try omega)
theorem digit_fn : ByteFn 85 isDigit := ⟨fun _ _ => by kernel_rfl, digit_calls⟩
theorem plain_fn : ByteFn 111 isPlain := ⟨fun _ _ => by kernel_rfl, plain_calls⟩
theorem blank_fn : ByteFn 81 isBlank := ⟨fun _ _ => by kernel_rfl, blank_calls⟩
theorem inner_fn : ByteFn 83 isInner := ⟨fun _ _ => by kernel_rfl, inner_calls⟩
theorem bytes_drop (s : ByteArray) (k : Nat) (h : k < s.size) : s.data.toList.drop k = s[k] :: s.data.toList.drop (k + 1) := by
 rw [List.drop_eq_getElem_cons (by simpa using h)]; rfl
theorem bytes_end (s : ByteArray) (k : Nat) (h : s.size ≤ k) : s.data.toList.drop k = [] := by
 rw [List.drop_eq_nil_iff]; simpa using h
theorem spanN_cons (p : UInt8 → Bool) (c : UInt8) (r : Bytes) : spanN p (c :: r) = if p c then spanN p r + 1 else 0 := by
 unfold spanN; by_cases h : p c <;> simp [h]
theorem spanN_le (p : UInt8 → Bool) (l : Bytes) : spanN p l ≤ l.length := (List.takeWhile_sublist _).length_le
set_option maxRecDepth 100000 in
set_option maxHeartbeats 400000 in
theorem span_any (f : Nat) (p : UInt8 → Bool) (hf : ByteFn f p) (s : ByteArray) (w : World) (hs : s.size ≤ maxLen) :
    Calls Tryz.prog 80 #[.string s, .func (.func f) #[] #[]] w fun e w' => e = .returned (.int .i64 (spanN p s.data.toList)) ∧ w = w' := by
  unfold maxLen at hs
  have hen := hf.enters
  go_enter Tryz.func80, Tryz.ntmps80
  go_wp2_with fail
  go_loop [5] (fun n => ∃ k : Nat, k ≤ s.size ∧ n = .int .i64 k ∧ Hid (spanN p s.data.toList = k + spanN p (s.data.toList.drop k))) (fun n => s.size - (intOf n).toNat)
  case atStart => exact ⟨0, Nat.zero_le _, rfl, by simp [Hid]⟩
  case round =>
    obtain ⟨k, hk, rfl, HS⟩ := hrel
    by_cases hlt : k < s.size
    · have hsp : Hid (spanN p (s.data.toList.drop k) = if p s[k] then spanN p (s.data.toList.drop (k + 1)) + 1 else 0) := by
        show _ = _
        rw [bytes_drop s k hlt, spanN_cons]
      cases hp : p s[k] with
      | true =>
        have HP := Lib.hid hp; clear hp
        go_wp2_with (refine (hf.calls _ _).mono ?_; rintro e w' ⟨rfl, rfl⟩; rw [HP.out])
        go_round
        case rel => exact ⟨k + 1, by omega, by go_num, by have := HS.out; have h2 := hsp.out; rw [HP.out] at h2; show _ = _; simp at h2; omega⟩
        case measure => simp [intOf]; omega
      | false =>
        have HP := Lib.hid hp; clear hp
        go_wp2_with (refine (hf.calls _ _).mono ?_; rintro e w' ⟨rfl, rfl⟩; rw [HP.out])
        go_ret
        exact ⟨ret_intL (by have := HS.out; have h2 := hsp.out; rw [HP.out] at h2; simp at h2; omega), rfl⟩
    · go_wp2_with fail
      go_ret
      exact ⟨ret_intL (by have := HS.out; rw [bytes_end s k (by omega)] at this; simp [spanN] at this ⊢; omega), rfl⟩
end Go.Proofs.YtckgmilmhofekaaGreatDoor
