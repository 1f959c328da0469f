/- Walks: the lexer's gap, names, numbers, quoting. -/
import Derived.Test.YtlcgckelamhnpaaGreatLexBytes
import Derived.Shelf.Strings.Builder1
import Derived.BigQuiet
set_option maxRecDepth 100000
set_option maxHeartbeats 1000000
namespace Go.Proofs.YtlcgckelamhnpaaGreat
open Go.RowKit
theorem bytes_len (s : ByteArray) : s.data.toList.length = s.size := by simp
theorem bytes_get (s : ByteArray) (k : Nat) (h : k < s.size) : s.data.toList[k]? = some s[k] := by
 rw [List.getElem?_eq_getElem (by simpa using h)]; rfl
theorem span_all (f : Nat) (p : UInt8 → Bool) (hf : ByteFn f p) (s : ByteArray) (w : World) (hs : s.size ≤ maxLen) :
 Calls Tryz.prog 89 #[.string s, .func (.func f) #[] #[]] w fun e w' => ∃ g : Nat, e = .returned (.int .i64 g) ∧ g ≤ s.size ∧ Hid (spanN p s.data.toList = g) ∧ w = w' := by
 refine (span_any f p hf _ w hs).mono ?_; rintro e w' ⟨rfl, rfl⟩; exact ⟨_, rfl, by have := spanN_le p s.data.toList; rwa [bytes_len] at this, rfl, rfl⟩
theorem spanN_all (p : UInt8 → Bool) (l : Bytes) : (spanN p l = l.length) ↔ l.all p = true := by
 constructor
 · intro h
   have h2 := take_takeWhile p l; unfold spanN at h; rw [h, List.take_length] at h2; rw [h2]; exact all_takeWhile p l
 · intro h; unfold spanN; rw [takeWhile_all p l h]
theorem name_any (s : ByteArray) (w : World) (hs : s.size ≤ maxLen) :
 Calls Tryz.prog 53 #[.string s] w fun e w' => e = .returned (.bool (nameOk s.data.toList)) ∧ w = w' := by
 have hm := hs; unfold maxLen at hs
 by_cases h0 : 0 < s.size
 · have hd := bytes_drop s 0 h0
   rw [List.drop_zero] at hd; have HD := Lib.hid hd; clear hd; have he : s.toList.isEmpty = false := by rw [Lib.toList_data, HD.out]; rfl
   have hL : s.data.toList.length = s.size := bytes_len s; have HL := Lib.hid hL; clear hL
   have HN : Hid (nameOk s.data.toList = (isLetter s[0] && decide (s.size ≤ 20) && s.data.toList.all isInner)) := by
    show _ = _
    rw [← HL.out]
    conv => lhs; rw [HD.out]
    rw [nameOk, ← HD.out]
   cases hl : isLetter s[0] with
   | false =>
    have HH := Lib.hid hl; clear hl; go_enter Tryz.func53, Tryz.ntmps53
    go_wp2_with (go_at_call 88; refine (letter_calls _ _).mono ?_; rintro e w' ⟨rfl, rfl⟩; rw [HH.out])
    go_ret
    exact ⟨ret_boolL (by rw [HN.out, HH.out]; rfl), rfl⟩
   | true =>
    have HH := Lib.hid hl; clear hl
    by_cases h20 : s.size ≤ 20
    · go_enter Tryz.func53, Tryz.ntmps53
      go_wp2_with (first | (go_at_call 88; refine (letter_calls _ _).mono ?_; rintro e w' ⟨rfl, rfl⟩; rw [HH.out]) | (go_at_call 89; refine (span_all 90 isInner inner_fn s _ hm).mono ?_; rintro e w' ⟨g, rfl, hg, HG, rfl⟩))
      go_ret
      refine ⟨ret_boolL ?_, rfl⟩; rw [HN.out, HH.out, decide_eq_true h20, Bool.true_and, Bool.true_and, Bool.eq_iff_iff, ← spanN_all, HG.out, HL.out]
      simp; omega
    · go_enter Tryz.func53, Tryz.ntmps53
      go_wp2_with (first | (go_at_call 88; refine (letter_calls _ _).mono ?_; rintro e w' ⟨rfl, rfl⟩; rw [HH.out]))
      go_ret
      exact ⟨ret_boolL (by rw [HN.out, HH.out, decide_eq_false h20]; rfl), rfl⟩
 · have hd := bytes_end s 0 (by omega)
   rw [List.drop_zero] at hd; have HD := Lib.hid hd; clear hd; have he : s.toList.isEmpty = true := by rw [Lib.toList_data, HD.out]; rfl
   go_enter Tryz.func53, Tryz.ntmps53
   go_wp2_with fail
   go_ret
   exact ⟨ret_boolL (by rw [HD.out]; rfl), rfl⟩
theorem take_snoc (s : ByteArray) (k : Nat) (h : k < s.size) : s.data.toList.take (k + 1) = s.data.toList.take k ++ [s[k]] := by
 rw [List.take_succ_eq_append_getElem (by simpa using h)]; rfl
end Go.Proofs.YtlcgckelamhnpaaGreat
