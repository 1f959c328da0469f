/- The reference's functions on names. -/
import Derived.Test.YtlcgckelamhnpaaGreatLexCore
set_option maxRecDepth 100000
set_option maxHeartbeats 2000000
namespace Go.Proofs.YtlcgckelamhnpaaGreat
open Go.RowKit
theorem u8_nneN {c d : UInt8} {n : Int} (hn : n = d.toNat) (h : c = d) : ((c.toNat : Int) != n) = false := by subst hn h; simp
theorem u8_neqN {c d : UInt8} {n : Int} (hn : n = d.toNat) (h : c ≠ d) : ((c.toNat : Int) != n) = true := bne_iff_ne.2 fun e => h (UInt8.toNat_inj.1 (by rw [hn] at e; exact Int.ofNat_inj.1 e))
theorem all_take_succN (s : ByteArray) (k : Nat) (h : k < s.size) (p : UInt8 → Bool) : (s.data.toList.take (k + 1)).all p = ((s.data.toList.take k).all p && p s[k]) := by
 rw [take_snoc s k h]; simp
theorem refLetterN (c : UInt8) (w : World) : Calls Tryz.prog 91 #[.int .u8 c.toNat] w fun e w' => e = .returned (.bool (isLetter c)) ∧ w = w' := by
 go_enter Tryz.func91, Tryz.ntmps91
 go_wp2
 all_goals (go_ret; refine ⟨ret_boolL ?_, rfl⟩; rw [Bool.eq_iff_iff]; simp [isLetter]; omega)
theorem refDigitN (c : UInt8) (w : World) : Calls Tryz.prog 92 #[.int .u8 c.toNat] w fun e w' => e = .returned (.bool (isDigit c)) ∧ w = w' := by
 go_enter Tryz.func92, Tryz.ntmps92
 go_wp2
 all_goals (go_ret; refine ⟨ret_boolL ?_, rfl⟩; rw [Bool.eq_iff_iff]; simp [isDigit]; omega)
theorem inner_splitN (c : UInt8) : isInner c = true ∧ (isLetter c = true ∨ (isLetter c = false ∧ isDigit c = true) ∨ (isLetter c = false ∧ isDigit c = false ∧ c = 95)) ∨ isInner c = false ∧ isLetter c = false ∧ isDigit c = false ∧ c ≠ 95 := by
 have h95 : decide (c.toNat = 95) = true ↔ c = 95 := by
  rw [decide_eq_true_eq]
  constructor
  · intro h; apply UInt8.toNat_inj.1; simpa using h
  · intro h; rw [h]; rfl
 unfold isInner
 cases isLetter c <;> cases isDigit c <;> by_cases h : c = 95 <;> simp [h]
 intro hh; exact h (h95.1 (by simpa using hh))
theorem refNameN (s : ByteArray) (w : World) (hs : s.size ≤ maxLen) :
 Calls Tryz.prog 56 #[.string s] w fun e w' => e = .returned (.bool (nameOk s.data.toList)) ∧ w = w' := by
 unfold maxLen at hs; have HL : Hid (s.data.toList.length = s.size) := bytes_len s
 by_cases h0 : 0 < s.size
 · have HN : Hid (nameOk s.data.toList = (isLetter s[0] && decide (s.size ≤ 20) && s.data.toList.all isInner)) := by
    have hd := bytes_drop s 0 h0; rw [List.drop_zero] at hd
    show _ = _
    rw [← HL.out]
    conv => lhs; rw [hd]
    rw [nameOk, ← hd]
   by_cases h20 : s.size ≤ 20
   · cases hl : isLetter s[0] with
     | false =>
      have HH := Lib.hid hl; clear hl; go_enter Tryz.func56, Tryz.ntmps56
      go_wp2_with (go_at_call 91; refine (refLetterN _ _).mono ?_; rintro e w' ⟨rfl, rfl⟩; rw [HH.out])
      go_ret
      exact ⟨ret_boolL (by rw [HN.out, HH.out]; rfl), rfl⟩
     | true =>
      have HH := Lib.hid hl; clear hl; go_enter Tryz.func56, Tryz.ntmps56
      go_wp2_with (go_at_call 91; refine (refLetterN _ _).mono ?_; rintro e w' ⟨rfl, rfl⟩; rw [HH.out])
      go_loop [3] (fun i => ∃ k : Nat, 1 ≤ k ∧ k ≤ s.size ∧ i = .int .i64 k ∧ Hid ((s.data.toList.take k).all isInner = true)) (fun i => s.size - (intOf i).toNat)
      case atStart =>
       refine ⟨1, Nat.le_refl _, by omega, rfl, ?_⟩
       show _ = _
       rw [all_take_succN s 0 h0]; simp [letter_inner HH.out]
      case round =>
       obtain ⟨k, hk1, hk, rfl, HA⟩ := hrel
       by_cases hlt : k < s.size
       · have hsn := Lib.hid (all_take_succN s k hlt isInner)
         rcases inner_splitN s[k] with ⟨hi, h⟩ | ⟨hi, g1, g2, g3⟩
         · have HI := Lib.hid hi
           have hrel' : Hid ((s.data.toList.take (k + 1)).all isInner = true) := by show _ = _; rw [hsn.out, HA.out, HI.out]; rfl
           clear hi; rcases h with g1 | ⟨g1, g2⟩ | ⟨g1, g2, g3⟩
           · have G1 := Lib.hid g1; clear g1
             go_wp2_with (go_at_call 91; refine (refLetterN _ _).mono ?_; rintro e w' ⟨rfl, rfl⟩; rw [G1.out])
             go_round
             case rel => exact ⟨k + 1, by omega, by omega, by go_num, hrel'⟩
             case measure => simp [intOf]; omega
           · have G1 := Lib.hid g1; clear g1
             have G2 := Lib.hid g2; clear g2; go_wp2_with (first | (go_at_call 91; refine (refLetterN _ _).mono ?_; rintro e w' ⟨rfl, rfl⟩; rw [G1.out]) | (go_at_call 92; refine (refDigitN _ _).mono ?_; rintro e w' ⟨rfl, rfl⟩; rw [G2.out]))
             go_round
             case rel => exact ⟨k + 1, by omega, by omega, by go_num, hrel'⟩
             case measure => simp [intOf]; omega
           · have G1 := Lib.hid g1; clear g1
             have G2 := Lib.hid g2; clear g2; have e1 := u8_nneN (n := 95) rfl g3; clear g3; go_wp2_with (first | (go_at_call 91; refine (refLetterN _ _).mono ?_; rintro e w' ⟨rfl, rfl⟩; rw [G1.out]) | (go_at_call 92; refine (refDigitN _ _).mono ?_; rintro e w' ⟨rfl, rfl⟩; rw [G2.out]))
             go_round
             case rel => exact ⟨k + 1, by omega, by omega, by go_num, hrel'⟩
             case measure => simp [intOf]; omega
         · have hno : Hid (s.data.toList.all isInner = false) := by
            show _ = _
            rw [Bool.eq_false_iff]; intro hh; have hm : s[k] ∈ s.data.toList := List.mem_of_getElem? (bytes_get s k hlt); have := List.all_eq_true.1 hh _ hm; rw [hi] at this; cases this
           have G1 := Lib.hid g1; clear g1; have G2 := Lib.hid g2; clear g2; have e1 := u8_neqN (n := 95) rfl g3; clear g3 hi; go_wp2_with (first | (go_at_call 91; refine (refLetterN _ _).mono ?_; rintro e w' ⟨rfl, rfl⟩; rw [G1.out]) | (go_at_call 92; refine (refDigitN _ _).mono ?_; rintro e w' ⟨rfl, rfl⟩; rw [G2.out]))
           go_ret
           exact ⟨ret_boolL (by rw [HN.out, hno.out]; simp), rfl⟩
       · have hall : Hid (s.data.toList.all isInner = true) := by have := HA.out; rw [List.take_of_length_le (by rw [HL.out]; omega)] at this; exact this
         go_wp2_with fail
         go_ret
         exact ⟨ret_boolL (by rw [HN.out, HH.out, hall.out, decide_eq_true h20]; rfl), rfl⟩
   · go_enter Tryz.func56, Tryz.ntmps56
     go_wp2_with fail
     go_ret
     exact ⟨ret_boolL (by rw [HN.out, decide_eq_false h20]; simp), rfl⟩
 · have hd := bytes_end s 0 (by omega)
   rw [List.drop_zero] at hd; have HD := Lib.hid hd; clear hd; go_enter Tryz.func56, Tryz.ntmps56
   go_wp2_with fail
   go_ret
   exact ⟨ret_boolL (by rw [HD.out]; rfl), rfl⟩
end Go.Proofs.YtlcgckelamhnpaaGreat
