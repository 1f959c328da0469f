/- Walks: the lexer's tests of a byte, and the counts over a string. -/
import Derived.Test.YtlcgckelamhnpaaGreatLexSpec
import Derived.Test.YtlcgckelamhnpaaGreatProg
import Derived.WalkSpells
import Derived.WalkLawsBesides
import Derived.Handy
import Derived.Lib.Hide
import Derived.Lib.Strings
import Derived.Lib.Builder
set_option maxRecDepth 100000
set_option maxHeartbeats 400000
namespace Go.Proofs.YtlcgckelamhnpaaGreat
open Go.RowKit
structure ByteFn (f : Nat) (p : UInt8 → Bool) : Prop where
 enters : ∀ args w, (callFunc f args).run Tryz.prog w = .ok (.enter f args) w
 calls : ∀ (c : UInt8) (w : World), Calls Tryz.prog f #[.int .u8 c.toNat] w fun e w' => e = .returned (.bool (p c)) ∧ w = w'
theorem ret_boolL {a b : Bool} (h : a = b) : Ending.returned (.bool a) = .returned (.bool b) := by rw [h]
theorem ret_intL {k : IntKind} {a b : Int} (h : a = b) : Ending.returned (.int k a) = .returned (.int k b) := by rw [h]
theorem digit_calls (c : UInt8) (w : World) : Calls Tryz.prog 118 #[.int .u8 c.toNat] w fun e w' => e = .returned (.bool (isDigit c)) ∧ w = w' := by
 go_enter Tryz.func118, Tryz.ntmps118
 go_wp2
 all_goals (go_ret; refine ⟨ret_boolL ?_, rfl⟩; rw [Bool.eq_iff_iff]; simp [isDigit]; omega)
theorem letter_calls (c : UInt8) (w : World) : Calls Tryz.prog 88 #[.int .u8 c.toNat] w fun e w' => e = .returned (.bool (isLetter c)) ∧ w = w' := by
 go_enter Tryz.func88, Tryz.ntmps88
 go_wp2
 all_goals (go_ret; refine ⟨ret_boolL ?_, rfl⟩; rw [Bool.eq_iff_iff]; simp [isLetter]; omega)
theorem inner_calls (c : UInt8) (w : World) : Calls Tryz.prog 90 #[.int .u8 c.toNat] w fun e w' => e = .returned (.bool (isInner c)) ∧ w = w' := by
 go_enter Tryz.func90, Tryz.ntmps90
 go_wp2_with (first | (go_at_call 88; refine (letter_calls _ _).mono ?_; rintro e w' ⟨rfl, rfl⟩) | (go_at_call 118; refine (digit_calls _ _).mono ?_; rintro e w' ⟨rfl, rfl⟩))
 all_goals (go_ret; refine ⟨ret_boolL ?_, rfl⟩; rw [Bool.eq_iff_iff]; simp [isInner, *]; try omega)
theorem inner_fn : ByteFn 90 isInner := ⟨fun _ _ => by kernel_rfl, inner_calls⟩
theorem bytes_drop (s : ByteArray) (k : Nat) (h : k < s.size) : s.data.toList.drop k = s[k] :: s.data.toList.drop (k + 1) := by
 rw [List.drop_eq_getElem_cons (by simpa using h)]; rfl
theorem bytes_end (s : ByteArray) (k : Nat) (h : s.size ≤ k) : s.data.toList.drop k = [] := by
 rw [List.drop_eq_nil_iff]; simpa using h
theorem spanN_cons (p : UInt8 → Bool) (c : UInt8) (r : Bytes) : spanN p (c :: r) = if p c then spanN p r + 1 else 0 := by
 unfold spanN; by_cases h : p c <;> simp [h]
theorem spanN_le (p : UInt8 → Bool) (l : Bytes) : spanN p l ≤ l.length := (List.takeWhile_sublist _).length_le
theorem span_any (f : Nat) (p : UInt8 → Bool) (hf : ByteFn f p) (s : ByteArray) (w : World) (hs : s.size ≤ maxLen) :
 Calls Tryz.prog 89 #[.string s, .func (.func f) #[] #[]] w fun e w' => e = .returned (.int .i64 (spanN p s.data.toList)) ∧ w = w' := by
 unfold maxLen at hs; have hen := hf.enters; go_enter Tryz.func89, Tryz.ntmps89
 go_wp2_with fail
 go_loop [5] (fun n => ∃ k : Nat, k ≤ s.size ∧ n = .int .i64 k ∧ Hid (spanN p s.data.toList = k + spanN p (s.data.toList.drop k))) (fun n => s.size - (intOf n).toNat)
 case atStart => exact ⟨0, Nat.zero_le _, rfl, by simp [Hid]⟩
 case round =>
  obtain ⟨k, hk, rfl, HS⟩ := hrel
  by_cases hlt : k < s.size
  · have hsp : Hid (spanN p (s.data.toList.drop k) = if p s[k] then spanN p (s.data.toList.drop (k + 1)) + 1 else 0) := by
     show _ = _
     rw [bytes_drop s k hlt, spanN_cons]
    cases hp : p s[k] with
    | true =>
     have HP := Lib.hid hp; clear hp; go_wp2_with (refine (hf.calls _ _).mono ?_; rintro e w' ⟨rfl, rfl⟩; rw [HP.out])
     go_round
     case rel => exact ⟨k + 1, by omega, by go_num, by have := HS.out; have h2 := hsp.out; rw [HP.out] at h2; show _ = _; simp at h2; omega⟩
     case measure => simp [intOf]; omega
    | false =>
     have HP := Lib.hid hp; clear hp; go_wp2_with (refine (hf.calls _ _).mono ?_; rintro e w' ⟨rfl, rfl⟩; rw [HP.out])
     go_ret
     exact ⟨ret_intL (by have := HS.out; have h2 := hsp.out; rw [HP.out] at h2; simp at h2; omega), rfl⟩
  · go_wp2_with fail
    go_ret
    exact ⟨ret_intL (by have := HS.out; rw [bytes_end s k (by omega)] at this; simp [spanN] at this ⊢; omega), rfl⟩
end Go.Proofs.YtlcgckelamhnpaaGreat
