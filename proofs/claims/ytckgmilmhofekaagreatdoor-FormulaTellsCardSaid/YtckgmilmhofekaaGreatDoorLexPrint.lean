/- Walk: tokens as text. -/
import Derived.Test.YtckgmilmhofekaaGreatDoorLexLaws
import Derived.Test.YtckgmilmhofekaaGreatDoorBase
import Derived.Test.YtckgmilmhofekaaGreatDoorLexBytes
import Derived.Test.YtckgmilmhofekaaGreatDoorShelfB
import Derived.Test.YtckgmilmhofekaaGreatDoorProg
import Derived.Test.YtckgmilmhofekaaGreatDoorShelf
import Derived.WalkKit
import Derived.WalkSpells
import Derived.WalkLawsBesides
import Derived.Handy
import Derived.Lib.Hide
import Derived.Lib.Strings
import Derived.Lib.Builder
import Derived.Shelf.Strings.Builder1
import Derived.BigQuiet
namespace Go.Proofs.YtckgmilmhofekaaGreatDoor
open Go.RowKit

theorem ext_end (s : ByteArray) (k : Nat) : (s.extract k s.size).data.toList = s.data.toList.drop k := by
 rw [Lib.extract_data, List.take_of_length_le (by simp)]
theorem ext_front (s : ByteArray) (n : Nat) : (s.extract 0 n).data.toList = s.data.toList.take n := by
 rw [Lib.extract_data]; simp
theorem bytes_len (s : ByteArray) : s.data.toList.length = s.size := by simp
theorem bytes_eq {s t : ByteArray} (h : s.data.toList = t.data.toList) : s = t := by
 cases s; cases t; simp at h; rw [h]
theorem mk_bytes (s : ByteArray) {l : Bytes} (h : s.data.toList = l) : s = ⟨l.toArray⟩ := by subst h; simp
theorem bytes_get (s : ByteArray) (k : Nat) (h : k < s.size) : s.data.toList[k]? = some s[k] := by
 rw [List.getElem?_eq_getElem (by simpa using h)]; rfl
/-- 'span' of what is left from k on. -/
theorem span_at (f : Nat) (p : UInt8 → Bool) (hf : ByteFn f p) (s : ByteArray) (k : Nat) (w : World) (hs : s.size ≤ maxLen) (hk : k ≤ s.size) :
  Calls Tryz.prog 80 #[.string (s.extract k s.size), .func (.func f) #[] #[]] w fun e w' => ∃ g : Nat, e = .returned (.int .i64 g) ∧ k + g ≤ s.size ∧ Hid (spanN p (s.data.toList.drop k) = g) ∧ w = w' := by
 refine (span_any f p hf _ w (by unfold maxLen at *; simp; omega)).mono ?_
 rintro e w' ⟨rfl, rfl⟩
 refine ⟨_, rfl, ?_, by rw [ext_end]; rfl, rfl⟩
 have := spanN_le p (s.extract k s.size).data.toList
 rw [bytes_len] at this; simp at this ⊢; omega
theorem span_all (f : Nat) (p : UInt8 → Bool) (hf : ByteFn f p) (s : ByteArray) (w : World) (hs : s.size ≤ maxLen) :
  Calls Tryz.prog 80 #[.string s, .func (.func f) #[] #[]] w fun e w' => ∃ g : Nat, e = .returned (.int .i64 g) ∧ g ≤ s.size ∧ Hid (spanN p s.data.toList = g) ∧ w = w' := by
 refine (span_any f p hf _ w hs).mono ?_
 rintro e w' ⟨rfl, rfl⟩
 exact ⟨_, rfl, by have := spanN_le p s.data.toList; rwa [bytes_len] at this, rfl, rfl⟩
/-! ### gap -/
theorem gapC_cons (b : Bool) (c : UInt8) (r : Bytes) : gapC b (c :: r) = if c = 10 then gapC false r + 1 else if b then gapC b r + 1 else if isBlank c then gapC b r + 1 else if c = 35 then gapC true r + 1 else 0 := by rw [gapC]
theorem gap_blanks (l : Bytes) : gapC false l = spanN isBlank l + gapC false (l.drop (spanN isBlank l)) := by
  induction l with
  | nil => rfl
  | cons c r ih =>
    rw [spanN_cons]
    by_cases h : isBlank c = true
    · rw [if_pos h, List.drop_succ_cons, gapC_cons]
      by_cases h10 : c = 10
      · rw [if_pos h10]; omega
      · rw [if_neg h10]; simp [h]; omega
    · rw [if_neg h]; simp
theorem gap_hash (r : Bytes) : gapC false (35 :: r) = gapC true (35 :: r) := by simp [gapC, isBlank]
theorem gap_nl (b : Bool) (r : Bytes) : gapC b (10 :: r) = gapC false (10 :: r) := by cases b <;> simp [gapC]
theorem gap_in {c : UInt8} (h : c ≠ 10) (r : Bytes) : gapC true (c :: r) = gapC true r + 1 := by simp [gapC, h]
theorem span_stop (p : UInt8 → Bool) (l : Bytes) {c : UInt8} {r : Bytes} (h : l.drop (spanN p l) = c :: r) : p c = false := drop_takeWhile_stop p l h
theorem u8_eq {c d : UInt8} (h : (c.toNat : Int) = d.toNat) : c = d := by
 apply UInt8.toNat_inj.1; omega
theorem u8_test (c d : UInt8) : (((c.toNat : Int) == (d.toNat : Int)) = true) ↔ c = d := by
 rw [beq_iff_eq]; exact ⟨u8_eq, fun h => by rw [h]⟩
/-- What 'gap' knows at the head of its outer loop: blanks have been passed. -/
def GapAt (l : Bytes) (n : Nat) : Prop := gapC false l = n + gapC false (l.drop n) ∧ ∀ c r, l.drop n = c :: r → isBlank c = false
def GapIn (l : Bytes) (n : Nat) : Prop := gapC false l = n + gapC true (l.drop n)
theorem gapAt_start (l : Bytes) : GapAt l (spanN isBlank l) := ⟨gap_blanks l, fun _ _ h => span_stop _ _ h⟩
theorem gapIn_of {l : Bytes} {n : Nat} {r : Bytes} (h : GapAt l n) (hc : l.drop n = 35 :: r) : GapIn l n := by
 unfold GapIn; rw [h.1, hc, gap_hash]
theorem gapIn_step {l : Bytes} {n : Nat} {c : UInt8} (h : GapIn l n) (hc : l.drop n = c :: l.drop (n + 1)) (h10 : c ≠ 10) : GapIn l (n + 1) := by
 unfold GapIn at *; rw [h, hc, gap_in h10]; omega
theorem gapAt_again {l : Bytes} {n g : Nat} (h : GapIn l n) (hc : l.drop n = [] ∨ ∃ r, l.drop n = 10 :: r) (hg : spanN isBlank (l.drop n) = g) : GapAt l (n + g) := by
  have h1 : gapC false l = n + gapC false (l.drop n) := by
    unfold GapIn at h; rw [h]
    rcases hc with hc | ⟨r, hc⟩
    · rw [hc]; rfl
    · rw [hc, gap_nl]
  refine ⟨?_, fun c r hd => span_stop isBlank (l.drop n) (r := r) ?_⟩
  · rw [h1, gap_blanks (l.drop n), hg, List.drop_drop]; omega
  · rw [hg, List.drop_drop]; exact hd
theorem gapAt_done {l : Bytes} {n : Nat} (h : GapAt l n) (hc : ∀ c r, l.drop n = c :: r → c ≠ 35) : gapC false l = n := by
 rw [h.1]
 match hd : l.drop n with
 | [] => rfl
 | c :: r => rw [gapC_zero (h.2 c r hd) (hc c r hd)]; rfl
set_option maxRecDepth 100000 in
set_option maxHeartbeats 1000000 in
theorem gap_any (s : ByteArray) (w : World) (hs : s.size ≤ maxLen) :
    Calls Tryz.prog 55 #[.string s] w fun e w' => e = .returned (.int .i64 (gapC false s.data.toList)) ∧ w = w' := by
  have hm := hs
  unfold maxLen at hs
  go_enter Tryz.func55, Tryz.ntmps55
  go_wp2_with (go_at_call 80; refine (span_all 81 isBlank blank_fn s _ hm).mono ?_; rintro e w' ⟨g, rfl, hg, HG, rfl⟩)
  have H0 : Hid (GapAt s.data.toList g) := by have := gapAt_start s.data.toList; rw [HG.out] at this; exact this
  clear HG
  go_loop [3] (fun n => ∃ k : Nat, k ≤ s.size ∧ n = .int .i64 k ∧ Hid (GapAt s.data.toList k)) (fun n => s.size - (intOf n).toNat)
  case atStart => exact ⟨g, hg, rfl, H0⟩
  case round =>
    obtain ⟨k, hk, rfl, HK⟩ := hrel
    clear H0
    by_cases hlt : k < s.size
    · have hd := Lib.hid (bytes_drop s k hlt)
      by_cases hc : s[k] = 35
      · have hc1 : ((s[k].toNat : Int) == 35) = true := (u8_test _ 35).2 hc
        go_wp2_with fail
        go_loop [3] (fun n => ∃ j : Nat, k ≤ j ∧ j ≤ s.size ∧ n = .int .i64 j ∧ (j = k ∨ k < j) ∧ Hid (GapIn s.data.toList j)) (fun n => s.size - (intOf n).toNat)
        case atStart => exact ⟨k, Nat.le_refl _, by omega, rfl, .inl rfl, gapIn_of HK.out (by rw [hd.out, hc])⟩
        case round =>
          obtain ⟨j, hj1, hj2, rfl, hj3, HJ⟩ := hrel
          by_cases hjlt : j < s.size
          · have hdj := Lib.hid (bytes_drop s j hjlt)
            by_cases h10 : s[j] = 10
            · have hc2 : ((s[j].toNat : Int) != 10) = false := by have := (u8_test s[j] 10).2 h10; simpa using this
              have hkj : k < j := by
                rcases hj3 with rfl | h
                · rw [hc] at h10; exact absurd h10 (by decide)
                · exact h
              clear hc1 hj3
              go_wp2_with (go_at_call 80; refine (span_at 81 isBlank blank_fn s j _ hm (by omega)).mono ?_; rintro e w' ⟨g2, rfl, hg2, HG, rfl⟩)
              go_round
              case rel => exact ⟨j + g2, hg2, by go_num, gapAt_again HJ.out (.inr ⟨_, by rw [hdj.out, h10]⟩) HG.out⟩
              case measure => simp [intOf]; omega
            · have hc2 : ((s[j].toNat : Int) != 10) = true := by
                have : ¬ ((s[j].toNat : Int) == 10) = true := fun e => h10 ((u8_test s[j] 10).1 e)
                simpa using this
              clear hc1 hj3
              go_wp2_with fail
              go_round
              case rel => exact ⟨j + 1, by omega, by omega, by go_num, .inr (by omega), gapIn_step HJ.out hdj.out h10⟩
              case measure => simp [intOf]; omega
          · have hkj : k < j := by omega
            clear hc1 hj3
            go_wp2_with (go_at_call 80; refine (span_at 81 isBlank blank_fn s j _ hm (by omega)).mono ?_; rintro e w' ⟨g2, rfl, hg2, HG, rfl⟩)
            go_round
            case rel => exact ⟨j + g2, hg2, by go_num, gapAt_again HJ.out (.inl (bytes_end s j (by omega))) HG.out⟩
            case measure => simp [intOf]; omega
      · have hc1 : ((s[k].toNat : Int) == 35) = false := by
          have : ¬ ((s[k].toNat : Int) == 35) = true := fun e => hc ((u8_test s[k] 35).1 e)
          simpa using this
        go_wp2_with fail
        go_ret
        exact ⟨ret_intL (by rw [gapAt_done HK.out (fun c r h => by rw [hd.out] at h; cases h; exact hc)]), rfl⟩
    · go_wp2_with fail
      go_ret
      exact ⟨ret_intL (by rw [gapAt_done HK.out (fun c r h => by rw [bytes_end s k (by omega)] at h; cases h)]), rfl⟩
/-! ### names and numbers -/
theorem spanN_all (p : UInt8 → Bool) (l : Bytes) : (spanN p l = l.length) ↔ l.all p = true := by
  constructor
  · intro h
    have h2 := take_takeWhile p l
    unfold spanN at h
    rw [h, List.take_length] at h2
    rw [h2]; exact all_takeWhile p l
  · intro h; unfold spanN; rw [takeWhile_all p l h]
set_option maxRecDepth 100000 in
set_option maxHeartbeats 1000000 in
theorem name_any (s : ByteArray) (w : World) (hs : s.size ≤ maxLen) :
    Calls Tryz.prog 84 #[.string s] w fun e w' => e = .returned (.bool (nameOk s.data.toList)) ∧ w = w' := by
  have hm := hs
  unfold maxLen at hs
  by_cases h0 : 0 < s.size
  · have hd := bytes_drop s 0 h0
    rw [List.drop_zero] at hd
    have HD := Lib.hid hd; clear hd
    have he : s.toList.isEmpty = false := by rw [Lib.toList_data, HD.out]; rfl
    have hL : s.data.toList.length = s.size := bytes_len s
    have HL := Lib.hid hL; clear hL
    have HN : Hid (nameOk s.data.toList = (isLetter s[0] && decide (s.size ≤ 20) && s.data.toList.all isInner)) := by
      show _ = _
      rw [← HL.out]
      conv => lhs; rw [HD.out]
      rw [nameOk, ← HD.out]
    cases hl : isLetter s[0] with
    | false =>
      have HH := Lib.hid hl; clear hl
      go_enter Tryz.func84, Tryz.ntmps84
      go_wp2_with (go_at_call 82; refine (letter_calls _ _).mono ?_; rintro e w' ⟨rfl, rfl⟩; rw [HH.out])
      go_ret
      exact ⟨ret_boolL (by rw [HN.out, HH.out]; rfl), rfl⟩
    | true =>
      have HH := Lib.hid hl; clear hl
      by_cases h20 : s.size ≤ 20
      · go_enter Tryz.func84, Tryz.ntmps84
        go_wp2_with (first | (go_at_call 82; refine (letter_calls _ _).mono ?_; rintro e w' ⟨rfl, rfl⟩; rw [HH.out]) | (go_at_call 80; refine (span_all 83 isInner inner_fn s _ hm).mono ?_; rintro e w' ⟨g, rfl, hg, HG, rfl⟩))
        go_ret
        refine ⟨ret_boolL ?_, rfl⟩
        rw [HN.out, HH.out, decide_eq_true h20, Bool.true_and, Bool.true_and, Bool.eq_iff_iff, ← spanN_all, HG.out, HL.out]
        simp; omega
      · go_enter Tryz.func84, Tryz.ntmps84
        go_wp2_with (first | (go_at_call 82; refine (letter_calls _ _).mono ?_; rintro e w' ⟨rfl, rfl⟩; rw [HH.out]))
        go_ret
        exact ⟨ret_boolL (by rw [HN.out, HH.out, decide_eq_false h20]; rfl), rfl⟩
  · have hd := bytes_end s 0 (by omega)
    rw [List.drop_zero] at hd
    have HD := Lib.hid hd; clear hd
    have he : s.toList.isEmpty = true := by rw [Lib.toList_data, HD.out]; rfl
    go_enter Tryz.func84, Tryz.ntmps84
    go_wp2_with fail
    go_ret
    exact ⟨ret_boolL (by rw [HD.out]; rfl), rfl⟩
theorem numVal_snoc (l : Bytes) (c : UInt8) : numVal (l ++ [c]) = 10 * numVal l + (c.toNat - 48) := by simp [numVal]
theorem numVal_lt (l : Bytes) (h : l.all isDigit = true) : numVal l < 10 ^ l.length := by
 have : ∀ n (l : Bytes), l.length = n → l.all isDigit = true → numVal l < 10 ^ n := by
  intro n
  induction n with
  | zero => intro l hl _; have := List.length_eq_zero_iff.1 hl; subst this; simp [numVal]
  | succ n ih =>
   intro l hl ha
   have hne : l ≠ [] := by rintro rfl; simp at hl
   have hsplit := List.dropLast_concat_getLast hne
   have hlast : isDigit (l.getLast hne) = true := by
    rw [List.all_eq_true] at ha; exact ha _ (List.getLast_mem hne)
   have hfront : l.dropLast.all isDigit = true := by
    rw [List.all_eq_true] at ha ⊢; exact fun x hx => ha x (List.dropLast_subset _ hx)
   have h1 := ih l.dropLast (by simp; omega) hfront
   rw [← hsplit, numVal_snoc]
   simp [isDigit] at hlast
   rw [Nat.pow_succ]; omega
 exact this _ l rfl h
theorem take_snoc (s : ByteArray) (k : Nat) (h : k < s.size) : s.data.toList.take (k + 1) = s.data.toList.take k ++ [s[k]] := by
 rw [List.take_succ_eq_append_getElem (by simpa using h)]; rfl
theorem pow13 {k : Nat} (h : k ≤ 13) : 10 ^ k ≤ 10000000000000 := by
 have : 10 ^ k ≤ 10 ^ 13 := Nat.pow_le_pow_right (by decide) h
 simpa using this
/-- 'span' over a string that is all of a kind, or is not. -/
theorem span_full (f : Nat) (p : UInt8 → Bool) (hf : ByteFn f p) (s : ByteArray) (w : World) (hs : s.size ≤ maxLen) (ha : s.data.toList.all p = true) :
  Calls Tryz.prog 80 #[.string s, .func (.func f) #[] #[]] w fun e w' => e = .returned (.int .i64 s.size) ∧ w = w' := by
 refine (span_any f p hf s w hs).mono ?_
 rintro e w' ⟨rfl, rfl⟩
 exact ⟨ret_intL (by rw [(spanN_all p _).2 ha, bytes_len]), rfl⟩
theorem span_short (f : Nat) (p : UInt8 → Bool) (hf : ByteFn f p) (s : ByteArray) (w : World) (hs : s.size ≤ maxLen) (ha : s.data.toList.all p = false) :
    Calls Tryz.prog 80 #[.string s, .func (.func f) #[] #[]] w fun e w' => ∃ g : Nat, e = .returned (.int .i64 g) ∧ ((g : Int) != (s.size : Int)) = true ∧ w = w' := by
  refine (span_any f p hf s w hs).mono ?_
  rintro e w' ⟨rfl, rfl⟩
  refine ⟨_, rfl, ?_, rfl⟩
  have h1 := spanN_le p s.data.toList
  rw [bytes_len] at h1
  rcases Nat.lt_or_ge (spanN p s.data.toList) s.size with h | h
  · rw [bne_iff_ne]; omega
  · have := (spanN_all p s.data.toList).1 (by rw [bytes_len]; omega)
    rw [ha] at this; cases this
def numRes (l : Bytes) : Value := .tuple #[.int .i64 ((numOf l).getD 0 : Nat), .bool (numOf l).isSome]
theorem numRes_none {l : Bytes} (h : numOf l = none) : numRes l = .tuple #[.int .i64 0, .bool false] := by simp [numRes, h]
theorem numRes_some {l : Bytes} {n : Nat} (h : numOf l = some n) : numRes l = .tuple #[.int .i64 n, .bool true] := by simp [numRes, h]
set_option maxRecDepth 100000 in
set_option maxHeartbeats 1000000 in
theorem number_any (s : ByteArray) (w : World) (hs : s.size ≤ maxLen) :
    Calls Tryz.prog 86 #[.string s] w fun e w' => e = .returned (numRes s.data.toList) ∧ w = w' := by
  have hm := hs
  unfold maxLen at hs
  by_cases h0 : 0 < s.size
  · have hd := bytes_drop s 0 h0
    rw [List.drop_zero] at hd
    have HD := Lib.hid hd; clear hd
    have he : s.toList.isEmpty = false := by rw [Lib.toList_data, HD.out]; rfl
    have hL : s.data.toList.length = s.size := bytes_len s
    have HL := Lib.hid hL; clear hL
    have hne : s.data.toList ≠ [] := by rw [HD.out]; simp
    have HNE := Lib.hid hne; clear hne
    cases ha : s.data.toList.all isDigit with
    | false =>
      have HA := Lib.hid ha; clear ha
      go_enter Tryz.func86, Tryz.ntmps86
      go_wp2_with (go_at_call 80; refine (span_short 85 isDigit digit_fn s _ hm HA.out).mono ?_; rintro e w' ⟨g, rfl, hg, rfl⟩)
      go_ret2
      exact ⟨by rw [numRes_none (by unfold numOf; rw [if_pos (.inr (.inl HA.out))])]; rfl, rfl⟩
    | true =>
      have HA := Lib.hid ha; clear ha
      have hdig : ∀ k (h : k < s.size), 48 ≤ s[k].toNat ∧ s[k].toNat ≤ 57 := by
        intro k h
        have h1 : s[k] ∈ s.data.toList := List.mem_of_getElem? (bytes_get s k h)
        have h2 := List.all_eq_true.1 HA.out _ h1
        simpa [isDigit] using h2
      have HDG := Lib.hid hdig; clear hdig
      by_cases hz : s[0] = 48 ∧ s.data.toList ≠ [48]
      · have hz1 : ((s[0].toNat : Int) == 48) = true := (u8_test _ 48).2 hz.1
        have hz2 : (s.toList == [48]) = false := by rw [Lib.toList_data]; simpa using hz.2
        have HZ := Lib.hid hz; clear hz
        go_enter Tryz.func86, Tryz.ntmps86
        go_wp2_with (go_at_call 80; refine (span_full 85 isDigit digit_fn s _ hm HA.out).mono ?_; rintro e w' ⟨rfl, rfl⟩)
        go_ret2
        exact ⟨by rw [numRes_none (by unfold numOf; rw [if_pos (.inr (.inr (.inl ⟨by rw [HD.out, HZ.out.1]; rfl, HZ.out.2⟩)))])]; rfl, rfl⟩
      · by_cases h13 : s.size ≤ 13
        · have hno : ¬ (s.data.toList = [] ∨ s.data.toList.all isDigit = false ∨ (s.data.toList.head? = some 48 ∧ s.data.toList ≠ [48]) ∨ 13 < s.data.toList.length) := by
            rintro (h | h | h | h)
            · exact HNE.out h
            · rw [HA.out] at h; cases h
            · refine hz ⟨?_, h.2⟩
              have := h.1; rw [HD.out] at this; simpa using this
            · rw [HL.out] at h; omega
          have HNO := Lib.hid hno; clear hno
          have hloop : ∀ (z1 : Bool) (z2 : Bool), ((s[0].toNat : Int) == 48) = z1 → (z1 = true → (s.toList == [48]) = z2) → (z1 && !z2) = false →
              Calls Tryz.prog 86 #[.string s] w fun e w' => e = .returned (numRes s.data.toList) ∧ w = w' := by
            intro z1 z2 e1 e2 e3
            have HZ : Hid (z1 = true → (s.toList == [48]) = z2) := e2
            clear e2
            cases z1 with
            | false =>
              clear e3 HZ hz
              go_enter Tryz.func86, Tryz.ntmps86
              go_wp2_with (go_at_call 80; refine (span_full 85 isDigit digit_fn s _ hm HA.out).mono ?_; rintro e w' ⟨rfl, rfl⟩)
              go_loop [4, 31] (fun n i => ∃ k m : Nat, k ≤ s.size ∧ i = .int .i64 k ∧ n = .int .i64 m ∧ Hid (m = numVal (s.data.toList.take k))) (fun _ i => s.size - (intOf i).toNat)
              case atStart => exact ⟨0, 0, Nat.zero_le _, rfl, rfl, rfl⟩
              case round =>
                obtain ⟨k, m, hk, rfl, rfl, HM⟩ := hrel
                have hbd : m ≤ 10000000000000 := by
                  rw [HM.out]
                  have h1 := numVal_lt (s.data.toList.take k) (by
                    rw [List.all_eq_true]; exact fun x hx => List.all_eq_true.1 HA.out x (List.take_subset _ _ hx))
                  have h2 := pow13 (k := (s.data.toList.take k).length) (by simp; omega)
                  omega
                by_cases hlt : k < s.size
                · have hb1 := (HDG.out k hlt).1
                  have hb2 := (HDG.out k hlt).2
                  have hb3 : (48 : Int) ≤ (s[k].toNat : Int) := by omega
                  have hb4 : (s[k].toNat : Int) ≤ 57 := by omega
                  clear hb1 hb2
                  go_wp2_with fail
                  go_round
                  case rel => exact ⟨k + 1, 10 * m + (s[k].toNat - 48), by omega, by go_num, by rw [show ((10 * m + (s[k].toNat - 48) : Nat) : Int) = 10 * (m : Int) + ((s[k].toNat : Int) - 48) from by omega], by show _ = _; rw [take_snoc s k hlt, numVal_snoc, ← HM.out]⟩
                  case measure => simp [intOf]; omega
                · have hfin : Hid (m = numVal s.data.toList) := by
                    have := HM.out; rw [List.take_of_length_le (by simp; omega)] at this; exact this
                  clear HM
                  by_cases hbig : m ≤ 1099511627776
                  · go_wp2_with fail
                    go_ret2
                    exact ⟨by rw [numRes_some (n := m) (by unfold numOf; rw [if_neg HNO.out, if_neg (by rw [← hfin.out]; omega), ← hfin.out])]; rfl, rfl⟩
                  · go_wp2_with fail
                    go_ret2
                    exact ⟨by rw [numRes_none (by unfold numOf; rw [if_neg HNO.out, if_pos (by rw [← hfin.out]; omega)])]; rfl, rfl⟩
            | true =>
              have hz2 : (s.toList == [48]) = true := by rw [HZ.out rfl]; simpa using e3
              clear e3 HZ hz
              go_enter Tryz.func86, Tryz.ntmps86
              go_wp2_with (go_at_call 80; refine (span_full 85 isDigit digit_fn s _ hm HA.out).mono ?_; rintro e w' ⟨rfl, rfl⟩)
              go_loop [4, 31] (fun n i => ∃ k m : Nat, k ≤ s.size ∧ i = .int .i64 k ∧ n = .int .i64 m ∧ Hid (m = numVal (s.data.toList.take k))) (fun _ i => s.size - (intOf i).toNat)
              case atStart => exact ⟨0, 0, Nat.zero_le _, rfl, rfl, rfl⟩
              case round =>
                obtain ⟨k, m, hk, rfl, rfl, HM⟩ := hrel
                have hbd : m ≤ 10000000000000 := by
                  rw [HM.out]
                  have h1 := numVal_lt (s.data.toList.take k) (by
                    rw [List.all_eq_true]; exact fun x hx => List.all_eq_true.1 HA.out x (List.take_subset _ _ hx))
                  have h2 := pow13 (k := (s.data.toList.take k).length) (by simp; omega)
                  omega
                by_cases hlt : k < s.size
                · have hb1 := (HDG.out k hlt).1
                  have hb2 := (HDG.out k hlt).2
                  have hb3 : (48 : Int) ≤ (s[k].toNat : Int) := by omega
                  have hb4 : (s[k].toNat : Int) ≤ 57 := by omega
                  clear hb1 hb2
                  go_wp2_with fail
                  go_round
                  case rel => exact ⟨k + 1, 10 * m + (s[k].toNat - 48), by omega, by go_num, by rw [show ((10 * m + (s[k].toNat - 48) : Nat) : Int) = 10 * (m : Int) + ((s[k].toNat : Int) - 48) from by omega], by show _ = _; rw [take_snoc s k hlt, numVal_snoc, ← HM.out]⟩
                  case measure => simp [intOf]; omega
                · have hfin : Hid (m = numVal s.data.toList) := by
                    have := HM.out; rw [List.take_of_length_le (by simp; omega)] at this; exact this
                  clear HM
                  by_cases hbig : m ≤ 1099511627776
                  · go_wp2_with fail
                    go_ret2
                    exact ⟨by rw [numRes_some (n := m) (by unfold numOf; rw [if_neg HNO.out, if_neg (by rw [← hfin.out]; omega), ← hfin.out])]; rfl, rfl⟩
                  · go_wp2_with fail
                    go_ret2
                    exact ⟨by rw [numRes_none (by unfold numOf; rw [if_neg HNO.out, if_pos (by rw [← hfin.out]; omega)])]; rfl, rfl⟩
          refine hloop _ _ rfl (fun _ => rfl) ?_
          rw [Bool.and_eq_false_iff]
          by_cases h48 : s[0] = 48
          · right
            have : s.data.toList = [48] := Classical.byContradiction fun hh => hz ⟨h48, hh⟩
            rw [Lib.toList_data, this]; rfl
          · left
            have : ¬ ((s[0].toNat : Int) == 48) = true := fun e => h48 ((u8_test s[0] 48).1 e)
            simpa using this
        · have hbig : numOf s.data.toList = none := by unfold numOf; rw [if_pos (.inr (.inr (.inr (by rw [HL.out]; omega))))]
          have HB := Lib.hid hbig; clear hbig
          by_cases h48 : s[0] = 48
          · have h2 : s.data.toList = [48] := Classical.byContradiction fun hh => hz ⟨h48, hh⟩
            have := HL.out; rw [h2] at this; simp at this; omega
          · have hz1 : ((s[0].toNat : Int) == 48) = false := by
              have : ¬ ((s[0].toNat : Int) == 48) = true := fun e => h48 ((u8_test s[0] 48).1 e)
              simpa using this
            clear hz h48
            go_enter Tryz.func86, Tryz.ntmps86
            go_wp2_with (go_at_call 80; refine (span_full 85 isDigit digit_fn s _ hm HA.out).mono ?_; rintro e w' ⟨rfl, rfl⟩)
            go_ret2
            exact ⟨by rw [numRes_none HB.out]; rfl, rfl⟩
  · have hd := bytes_end s 0 (by omega)
    rw [List.drop_zero] at hd
    have HD := Lib.hid hd; clear hd
    have he : s.toList.isEmpty = true := by rw [Lib.toList_data, HD.out]; rfl
    go_enter Tryz.func86, Tryz.ntmps86
    go_wp2_with fail
    go_ret2
    exact ⟨by rw [HD.out, numRes_none rfl]; rfl, rfl⟩
end Go.Proofs.YtckgmilmhofekaaGreatDoor
namespace Go.Proofs.YtckgmilmhofekaaGreatDoor
open Go.RowKit

/-! ### a builder that holds bytes -/
def Holds (B b : Nat) (l : Bytes) (w : World) : Prop := Lib.IsBuilder 94 5 B b (Lib.byteCells l) w ∧ B ≤ w.heap.size
theorem byteCells_app (a b : Bytes) : Lib.byteCells (a ++ b) = Lib.byteCells a ++ Lib.byteCells b := by simp [Lib.byteCells]
theorem write_byte (B b : Nat) (l : Bytes) (n : Int) (c : UInt8) (w : World) (h : Holds B b l w) (hn : n = c.toNat) (hl : l.length ≤ 1099511627776) :
  Calls Tryz.prog 76 #[.pointer (some ⟨b, 0, none⟩), .int .u8 n] w fun e w' => e = .returned .nilIface ∧ Holds B b (l ++ [c]) w' ∧ Below B w w' := by
 subst hn
 refine (Tryz.Builder_WriteByte B b _ _ w h.1 (by simp [Lib.byteCells]; omega) h.2).mono ?_
 rintro e w' ⟨rfl, h1, h2⟩
 refine ⟨rfl, ⟨Or.inr ?_, Nat.le_trans h.2 h2.size⟩, h2⟩
 rw [byteCells_app]; exact h1
theorem build_string (B b : Nat) (l : Bytes) (w : World) (h : Holds B b l w) :
  Calls Tryz.prog 77 #[.pointer (some ⟨b, 0, none⟩)] w fun e w' => e = .returned (.string ⟨l.toArray⟩) ∧ Below B w w' := Tryz.Builder_String_any B b l w h.1 h.2
theorem holds_new (w : World) : Holds w.heap.size w.heap.size [] (w.alloc (.cells #[.pointer none, .slice none 0 0] 94)) := by
 refine ⟨Or.inl ⟨Nat.le_refl _, .slice none 0 0, by show (w.heap.push _)[w.heap.size]? = _; simp, World.ownsRow_nil _ _ _ _, by simp [Value.ownBlock]⟩, by simp⟩
theorem escBody_snoc (l : Bytes) (c : UInt8) : escBody (l ++ [c]) = escBody l ++ (if c = 34 ∨ c = 92 then [92, c] else [c]) := by simp [escBody]
theorem escBody_len (l : Bytes) : (escBody l).length ≤ 2 * l.length := by
 induction l with
 | nil => simp [escBody_nil]
 | cons c r ih => rw [escBody_cons]; split <;> simp <;> omega
theorem esc_len (s : ByteArray) (k : Nat) (hk : k ≤ s.size) (hs : s.size ≤ 137438953472) : (34 :: escBody (s.data.toList.take k)).length ≤ 1099511627776 - 10 := by
 have := escBody_len (s.data.toList.take k)
 simp only [List.length_take, bytes_len, List.length_cons] at this ⊢; omega
set_option maxRecDepth 100000 in
set_option maxHeartbeats 1000000 in
theorem escaped_any (s : ByteArray) (w : World) (hs : s.size ≤ 137438953472) :
    Calls Tryz.prog 52 #[.string s] w fun e w' => e = .returned (.string ⟨(escL s.data.toList).toArray⟩) ∧ Below w.heap.size w w' := by
  have h0 := holds_new w
  have H0 := Lib.hid h0; clear h0
  have b0 : Below w.heap.size w (w.alloc (.cells #[.pointer none, .slice none 0 0] 94)) := (Below.refl _ w).alloc (Nat.le_refl _) _
  go_enter Tryz.func52, Tryz.ntmps52
  go_wp2_with fail
  refine (write_byte _ _ _ _ 34 _ H0.out rfl (by simp)).mono ?_
  rintro e w1 ⟨rfl, h1, b1⟩
  have H1 := Lib.hid h1; clear h1 H0
  have B1 := b0.trans b1
  clear b0 b1
  go_wp2_with fail
  go_loopw [8] (fun i wr => ∃ k : Nat, k ≤ s.size ∧ i = .int .i64 k ∧ Hid (Holds w.heap.size w.heap.size (34 :: escBody (s.data.toList.take k)) wr) ∧ Below w.heap.size w wr) (fun i _ => s.size - (intOf i).toNat)
  case atStart => exact ⟨0, Nat.zero_le _, rfl, H1, B1⟩
  case round =>
    obtain ⟨k, hk, rfl, HH, HB⟩ := hrel
    have hlen := Lib.hid (esc_len s k hk hs)
    clear H1 B1
    by_cases hlt : k < s.size
    · have hsn : Hid (escBody (s.data.toList.take (k + 1)) = escBody (s.data.toList.take k) ++ (if s[k] = 34 ∨ s[k] = 92 then [92, s[k]] else [s[k]])) := by
        show _ = _
        rw [take_snoc s k hlt, escBody_snoc]
      by_cases hq : s[k] = 34 ∨ s[k] = 92
      · have hor : ((s[k].toNat : Int) == 34) = true ∨ (((s[k].toNat : Int) == 34) = false ∧ ((s[k].toNat : Int) == 92) = true) := by
          rcases hq with h | h
          · exact .inl ((u8_test _ 34).2 h)
          · right; rw [h]; exact ⟨by decide, by decide⟩
        have HQ := Lib.hid hq; clear hq
        rcases hor with e1 | ⟨e1, e2⟩
        all_goals
          go_wp2_with fail
          refine (write_byte _ _ _ _ 92 _ HH.out rfl (by have := hlen.out; omega)).mono ?_
          rintro e w2 ⟨rfl, h2, b2⟩
          have H2 := Lib.hid h2; clear h2
          go_wp2_with fail
          refine (write_byte _ _ _ _ s[k] _ H2.out rfl (by have := hlen.out; simp at this ⊢; omega)).mono ?_
          rintro e w3 ⟨rfl, h3, b3⟩
          have H3 : Hid (Holds w.heap.size w.heap.size (34 :: escBody (s.data.toList.take (k + 1))) w3) := by
            rw [hsn.out, if_pos HQ.out]; show Holds _ _ _ _; simpa using h3
          clear h3 H2
          go_wp2_with fail
          go_roundw
          case rel => exact ⟨k + 1, by omega, by go_num, H3, (HB.trans b2).trans b3⟩
          case measure => simp [intOf]; omega
      · have e1 : ((s[k].toNat : Int) == 34) = false := by
          have : ¬ ((s[k].toNat : Int) == 34) = true := fun e => hq (.inl ((u8_test s[k] 34).1 e))
          simpa using this
        have e2 : ((s[k].toNat : Int) == 92) = false := by
          have : ¬ ((s[k].toNat : Int) == 92) = true := fun e => hq (.inr ((u8_test s[k] 92).1 e))
          simpa using this
        have HQ := Lib.hid hq; clear hq
        go_wp2_with fail
        refine (write_byte _ _ _ _ s[k] _ HH.out rfl (by have := hlen.out; omega)).mono ?_
        rintro e w3 ⟨rfl, h3, b3⟩
        have H3 : Hid (Holds w.heap.size w.heap.size (34 :: escBody (s.data.toList.take (k + 1))) w3) := by
          rw [hsn.out, if_neg HQ.out]; show Holds _ _ _ _; simpa using h3
        clear h3
        go_wp2_with fail
        go_roundw
        case rel => exact ⟨k + 1, by omega, by go_num, H3, HB.trans b3⟩
        case measure => simp [intOf]; omega
    · have hall : Hid (s.data.toList.take k = s.data.toList) := List.take_of_length_le (by simp; omega)
      go_wp2_with fail
      refine (write_byte _ _ _ _ 34 _ HH.out rfl (by have := hlen.out; omega)).mono ?_
      rintro e w2 ⟨rfl, h2, b2⟩
      have H2 := Lib.hid h2; clear h2
      go_wp2_with fail
      refine (build_string _ _ _ _ H2.out).mono ?_
      rintro e w3 ⟨rfl, b3⟩
      go_wp2_with fail
      go_ret
      exact ⟨by rw [hall.out]; rfl, (HB.trans b2).trans b3⟩
def quoteRes (l : Bytes) : Value := .tuple #[.string ⟨(if quoteOk l then escL l else []).toArray⟩, .bool (quoteOk l)]
theorem quoteRes_yes {l : Bytes} (h : quoteOk l = true) : quoteRes l = .tuple #[.string ⟨(escL l).toArray⟩, .bool true] := by simp [quoteRes, h]
theorem quoteRes_no {l : Bytes} (h : quoteOk l = false) : quoteRes l = .tuple #[.string ⟨#[]⟩, .bool false] := by simp [quoteRes, h]
set_option maxRecDepth 100000 in
set_option maxHeartbeats 1000000 in
theorem quote_any (s : ByteArray) (w : World) (hs : s.size ≤ 137438953472) :
    Calls Tryz.prog 102 #[.string s] w fun e w' => e = .returned (quoteRes s.data.toList) ∧ Below w.heap.size w w' := by
  have hm : s.size ≤ maxLen := by unfold maxLen; omega
  have HL : Hid (s.data.toList.length = s.size) := bytes_len s
  by_cases h4 : s.size ≤ 400
  · cases ha : s.data.toList.all isPlain with
    | true =>
      have HA := Lib.hid ha; clear ha
      have HQ : Hid (quoteOk s.data.toList = true) := by show _ = _; simp only [quoteOk, HL.out, HA.out]; simpa using h4
      go_enter Tryz.func102, Tryz.ntmps102
      go_wp2_with (first | (go_at_call 80; refine (span_full 111 isPlain plain_fn s _ hm HA.out).mono ?_; rintro e w' ⟨rfl, rfl⟩) | (go_at_call 52; refine (escaped_any s _ hs).mono ?_; rintro e w' ⟨rfl, hb⟩))
      go_ret2
      exact ⟨by rw [quoteRes_yes HQ.out]; rfl, hb⟩
    | false =>
      have HA := Lib.hid ha; clear ha
      have HQ : Hid (quoteOk s.data.toList = false) := by show _ = _; simp [quoteOk, HA.out]
      go_enter Tryz.func102, Tryz.ntmps102
      go_wp2_with (first | (go_at_call 80; refine (span_short 111 isPlain plain_fn s _ hm HA.out).mono ?_; rintro e w' ⟨g, rfl, hg, rfl⟩))
      go_ret2
      exact ⟨by rw [quoteRes_no HQ.out]; rfl, Below.refl _ _⟩
  · have HQ : Hid (quoteOk s.data.toList = false) := by show _ = _; simp only [quoteOk, HL.out]; simp; omega
    go_enter Tryz.func102, Tryz.ntmps102
    go_wp2_with fail
    go_ret2
    exact ⟨by rw [quoteRes_no HQ.out]; rfl, Below.refl _ _⟩
end Go.Proofs.YtckgmilmhofekaaGreatDoor
namespace Go.Proofs.YtckgmilmhofekaaGreatDoor
open Go.RowKit

theorem elemU8 : ElemT Tryz.prog 91 5 (.int .u8 0) 1 1 := ⟨Tryz.underlying91, by kernel_rfl, rfl, by decide⟩
theorem one_int (k : IntKind) (n : Int) : ∀ u ∈ [Value.int k n], u.oneCell' = true := by intro u hu; simp at hu; subst hu; rfl
theorem strOfNums_bytes (l : Bytes) : strOfNums (l.map fun c => ((c.toNat : Nat) : Int)) = ⟨l.toArray⟩ := by
 apply bytes_eq
 rw [strOfNums_data]; simp [Function.comp_def]
/-- What a slice of the call's own holds, as a string. -/
theorem own_string {w : World} {B n : Nat} {v : Value} {l : Bytes} (h : w.ownsRow B 5 1 v n (Lib.byteCells l)) :
    (convert 91 9 v).run Tryz.prog w = .ok (.string ⟨l.toArray⟩) w := by
  have hl : n = l.length := by have := h.1; simp [Lib.byteCells] at this; omega
  rcases h.2 with ⟨rfl, h0⟩ | ⟨g, cap, cur, rfl, hg, hh, hn, hc, hs, ht⟩
  · have : l = [] := List.length_eq_zero_iff.1 (by omega)
    subst this
    exact run_convert_bytes_nil w _ _ Tryz.underlying91 Tryz.underlying5 _ _ _ Tryz.underlying9
  · rw [← strOfNums_bytes]
    refine run_convert_bytes_arg w _ _ Tryz.underlying91 Tryz.underlying5 g 0 n cap _ (by simp [hl]) ?_ _ Tryz.underlying9
    intro i hi
    have := h.cellAt (j := i) (by omega)
    rw [Nat.zero_add, this]
    simp [Lib.byteCells, List.getElem?_eq_getElem (show i < l.length by omega), List.getD]
def QAt (l : Bytes) (k : Nat) (done : Bytes) : Prop := 1 ≤ k ∧ unq (l.drop 1) = (unq (l.drop k)).map fun p => (done ++ p.1, p.2 + (k - 1))
theorem qat_start (l : Bytes) : QAt l 1 [] := ⟨Nat.le_refl _, by simp⟩
theorem qat_none {l : Bytes} {k : Nat} {done : Bytes} (h : QAt l k done) (hn : unq (l.drop k) = none) : quotedT l = none := by
 have h2 := h.2; rw [hn] at h2; unfold quotedT; rw [← List.drop_one, h2]; rfl
theorem unq_bad {c : UInt8} (r : Bytes) (h : isPlain c = false) : unq (c :: r) = none := by rw [unq_cons, if_pos h]
theorem unq_end (r : Bytes) : unq (34 :: r) = some ([], 1) := by rw [unq_cons]; simp [plain34]
theorem unq_esc_end : unq [92] = none := by decide
theorem unq_esc_bad {c : UInt8} (r : Bytes) (h : ¬ (c = 34 ∨ c = 92)) : unq (92 :: c :: r) = none := by rw [unq_cons]; simp [plain92, h]
theorem unq_esc_ok {c : UInt8} (r : Bytes) (h : c = 34 ∨ c = 92) : unq (92 :: c :: r) = (unq r).map fun p => (c :: p.1, p.2 + 2) := by rw [unq_cons]; simp [plain92, h]
theorem unq_plain {c : UInt8} (r : Bytes) (h : isPlain c = true) (h1 : c ≠ 34) (h2 : c ≠ 92) : unq (c :: r) = (unq r).map fun p => (c :: p.1, p.2 + 1) := by rw [unq_cons]; simp [h, h1, h2]
theorem qat_end {l : Bytes} {k : Nat} {done r : Bytes} (h : QAt l k done) (hd : l.drop k = 34 :: r) : quotedT l = if 400 < done.length then none else some (done, k + 1) := by
 have h2 := h.2; have h1 := h.1; rw [hd, unq_end] at h2
 unfold quotedT; rw [← List.drop_one, h2]; simp; rw [show 1 + (k - 1) + 1 = k + 1 from by omega]
theorem qat_plain {l : Bytes} {k : Nat} {done : Bytes} {c : UInt8} (h : QAt l k done) (hd : l.drop k = c :: l.drop (k + 1)) (hp : isPlain c = true) (h1 : c ≠ 34) (h2 : c ≠ 92) : QAt l (k + 1) (done ++ [c]) := by
 obtain ⟨a, b⟩ := h
 refine ⟨by omega, ?_⟩
 rw [b, hd, unq_plain _ hp h1 h2, Option.map_map]
 congr 1; funext p; simp; omega
theorem qat_esc {l : Bytes} {k : Nat} {done : Bytes} {c : UInt8} (h : QAt l k done) (hd : l.drop k = 92 :: l.drop (k + 1)) (hd2 : l.drop (k + 1) = c :: l.drop (k + 2)) (hc : c = 34 ∨ c = 92) : QAt l (k + 2) (done ++ [c]) := by
 obtain ⟨a, b⟩ := h
 refine ⟨by omega, ?_⟩
 rw [b, hd, hd2, unq_esc_ok _ hc, Option.map_map]
 congr 1; funext p; simp; omega
def quotedRes (l : Bytes) : Value := match quotedT l with
 | none => .tuple #[.string ⟨#[]⟩, .int .i64 0]
 | some p => .tuple #[.string ⟨p.1.toArray⟩, .int .i64 p.2]
theorem quotedRes_no {l : Bytes} (h : quotedT l = none) : quotedRes l = .tuple #[.string ⟨#[]⟩, .int .i64 0] := by simp [quotedRes, h]
theorem quotedRes_yes {l v : Bytes} {k : Nat} (h : quotedT l = some (v, k)) : quotedRes l = .tuple #[.string ⟨v.toArray⟩, .int .i64 k] := by simp [quotedRes, h]
theorem u8_beq {c d : UInt8} {n : Int} (hn : n = d.toNat) (h : c = d) : ((c.toNat : Int) == n) = true := by subst hn h; simp
theorem u8_bne {c d : UInt8} {n : Int} (hn : n = d.toNat) (h : c ≠ d) : ((c.toNat : Int) == n) = false := by
 subst hn
 have : ¬ ((c.toNat : Int) == (d.toNat : Int)) = true := fun e => h ((u8_test c d).1 e)
 simpa using this
theorem u8_neq {c d : UInt8} {n : Int} (hn : n = d.toNat) (h : c ≠ d) : ((c.toNat : Int) != n) = true := by rw [bne, u8_bne hn h]; rfl
theorem u8_nne {c d : UInt8} {n : Int} (hn : n = d.toNat) (h : c = d) : ((c.toNat : Int) != n) = false := by rw [bne, u8_beq hn h]; rfl
theorem own_push {w1 : World} {B n : Nat} {v' : Value} {done : Bytes} {c : UInt8} (ho : w1.ownsRow B 5 1 v' (n + 1) (Lib.byteCells done ++ [.int .u8 c.toNat])) (hn : n = done.length) :
  w1.ownsRow B 5 1 v' (done ++ [c]).length (Lib.byteCells (done ++ [c])) := by
 subst hn
 rw [byteCells_app]; simpa [Lib.byteCells] using ho
set_option maxRecDepth 100000 in
set_option maxHeartbeats 2000000 in
theorem quoted_any (s : ByteArray) (w : World) (hs : s.size ≤ 137438953472) (h0 : 0 < s.size) :
    Calls Tryz.prog 87 #[.string s] w fun e w' => e = .returned (quotedRes s.data.toList) ∧ Below w.heap.size w w' := by
  go_enter Tryz.func87, Tryz.ntmps87
  go_wp2_with fail
  go_step3
  go_wp2_with fail
  go_step3
  go_wp2_with fail
  go_loopw [4, 5] (fun v n wr => ∃ (k : Nat) (done : Bytes), k ≤ s.size ∧ done.length ≤ k ∧ n = .int .i64 k ∧ Hid (QAt s.data.toList k done) ∧ Hid (wr.ownsRow w.heap.size 5 1 v done.length (Lib.byteCells done)) ∧ Hid (Below w.heap.size w wr)) (fun _ n _ => s.size - (intOf n).toNat)
  case atStart => exact ⟨1, [], by omega, by simp, rfl, qat_start _, World.ownsRow_nil _ _ _ _, Below.refl _ _⟩
  case round =>
    obtain ⟨k, done, hk, hdk, rfl, HQ, HO, HB⟩ := hrel
    have hBs := HB.out.size
    have hk1 : 1 ≤ k := HQ.out.1
    by_cases hlt : k < s.size
    · have hd := Lib.hid (bytes_drop s k hlt)
      cases hp : isPlain s[k] with
      | false =>
        have HP := Lib.hid hp; clear hp
        go_wp2_with (go_at_call 111; refine (plain_calls _ _).mono ?_; rintro e w' ⟨rfl, rfl⟩; rw [HP.out])
        (try rw [Exit.noGoto_ret])
        go_ret2
        exact ⟨by rw [quotedRes_no (qat_none HQ.out (by rw [hd.out]; exact unq_bad _ HP.out))]; rfl, HB⟩
      | true =>
        have HP := Lib.hid hp; clear hp
        by_cases h34 : s[k] = 34
        · have e1 := u8_beq (n := 34) rfl h34
          have hfin := Lib.hid (qat_end HQ.out (r := s.data.toList.drop (k + 1)) (by rw [hd.out, h34]))
          have hcv := own_string HO.out
          clear h34
          obtain ⟨ao, cap, hv⟩ : ∃ ao cap, u4 = .slice ao done.length cap := by
            rcases HO.out.2 with ⟨rfl, h0⟩ | ⟨g, cap, cur, rfl, _⟩
            · exact ⟨none, 0, by rw [h0]⟩
            · exact ⟨_, _, rfl⟩
          subst hv
          by_cases h400 : done.length ≤ 400
          · have hyes : Hid (quotedRes s.data.toList = .tuple #[.string ⟨done.toArray⟩, .int .i64 (k + 1 : Nat)]) := quotedRes_yes (by rw [hfin.out, if_neg (by omega)])
            go_wp2_with (first | (go_at_call 111; refine (plain_calls _ _).mono ?_; rintro e w' ⟨rfl, rfl⟩; rw [HP.out]))
            (try rw [Exit.noGoto_ret])
            go_ret2
            exact ⟨by rw [hyes.out]; rfl, HB⟩
          · have hno : Hid (quotedRes s.data.toList = .tuple #[.string ⟨#[]⟩, .int .i64 0]) := quotedRes_no (by rw [hfin.out, if_pos (by omega)])
            clear hcv
            go_wp2_with (first | (go_at_call 111; refine (plain_calls _ _).mono ?_; rintro e w' ⟨rfl, rfl⟩; rw [HP.out]))
            (try rw [Exit.noGoto_ret])
            go_ret2
            exact ⟨by rw [hno.out]; rfl, HB⟩
        · have e1 := u8_bne (n := 34) rfl h34
          have H34 := Lib.hid h34; clear h34
          by_cases h92 : s[k] = 92
          · have e2 := u8_beq (n := 92) rfl h92
            have hd92 : Hid (s.data.toList.drop k = 92 :: s.data.toList.drop (k + 1)) := by show _ = _; rw [hd.out, h92]
            clear h92
            by_cases hlt2 : k + 1 < s.size
            · have hd2 := Lib.hid (bytes_drop s (k + 1) hlt2)
              by_cases hesc : s[k + 1] = 34 ∨ s[k + 1] = 92
              · have e3 : (((s[k + 1].toNat : Int) != 34) = false) ∨ (((s[k + 1].toNat : Int) != 34) = true ∧ ((s[k + 1].toNat : Int) != 92) = false) := by
                  rcases hesc with h | h
                  · exact .inl (u8_nne rfl h)
                  · right; rw [h]; exact ⟨by decide, by decide⟩
                have HE := Lib.hid hesc; clear hesc
                rcases e3 with e3 | ⟨e3, e4⟩
                all_goals
                  go_wp2_with (first | (go_at_call 111; refine (plain_calls _ _).mono ?_; rintro e w' ⟨rfl, rfl⟩; rw [HP.out]) | (at_builtin; refine wpList_push rfl (.tmp 46) (.tmp 50) elemU8 rfl wr w.heap.size _ _ _ rfl HO.out [.int .u8 s[k + 1].toNat] rfl rfl rfl rfl (one_int _ _) (by omega) (by omega) (by omega) ?_; intro v' w1 ho hg hb1))
                  go_roundw
                  case rel => exact ⟨k + 2, done ++ [s[k + 1]], by omega, by simp; omega, by go_num, qat_esc HQ.out hd92.out hd2.out HE.out, own_push ho rfl, HB.out.trans hb1⟩
                  case measure => simp [intOf]; omega
              · have e3 := u8_neq (n := 34) rfl (fun h => hesc (.inl h))
                have e4 := u8_neq (n := 92) rfl (fun h => hesc (.inr h))
                have HE := Lib.hid hesc; clear hesc
                go_wp2_with (first | (go_at_call 111; refine (plain_calls _ _).mono ?_; rintro e w' ⟨rfl, rfl⟩; rw [HP.out]))
                (try rw [Exit.noGoto_ret])
                go_ret2
                exact ⟨by rw [quotedRes_no (qat_none HQ.out (by rw [hd92.out, hd2.out]; exact unq_esc_bad _ HE.out))]; rfl, HB⟩
            · go_wp2_with (first | (go_at_call 111; refine (plain_calls _ _).mono ?_; rintro e w' ⟨rfl, rfl⟩; rw [HP.out]))
              (try rw [Exit.noGoto_ret])
              go_ret2
              exact ⟨by rw [quotedRes_no (qat_none HQ.out (by rw [hd92.out, bytes_end s (k + 1) (by omega)]; exact unq_esc_end))]; rfl, HB⟩
          · have e2 := u8_bne (n := 92) rfl h92
            have H92 := Lib.hid h92; clear h92
            go_wp2_with (first | (go_at_call 111; refine (plain_calls _ _).mono ?_; rintro e w' ⟨rfl, rfl⟩; rw [HP.out]) | (at_builtin; refine wpList_push rfl (.tmp 46) (.tmp 50) elemU8 rfl wr w.heap.size _ _ _ rfl HO.out [.int .u8 s[k].toNat] rfl rfl rfl rfl (one_int _ _) (by omega) (by omega) (by omega) ?_; intro v' w1 ho hg hb1))
            go_roundw
            case rel => exact ⟨k + 1, done ++ [s[k]], by omega, by simp; omega, by go_num, qat_plain HQ.out hd.out HP.out H34.out H92.out, own_push ho rfl, HB.out.trans hb1⟩
            case measure => simp [intOf]; omega
    · go_wp2_with fail
      (try rw [Exit.noGoto_ret])
      go_ret2
      exact ⟨by rw [quotedRes_no (qat_none HQ.out (by rw [bytes_end s k (by omega)]; rfl))]; rfl, HB⟩
end Go.Proofs.YtckgmilmhofekaaGreatDoor
namespace Go.Proofs.YtckgmilmhofekaaGreatDoor
open Go.RowKit

def signVals : List Value := signBytes.map fun c => .int .u8 c.toNat
/-- The table of signs lies in memory. -/
structure SignsIn (w : World) : Prop where
 lt : 0 < w.heap.size
 cell : ∀ j v, signVals[j]? = some v → w.cell? ⟨0, 0 + j, none⟩ = some v
theorem SignsIn.keep {w w' : World} (h : SignsIn w) (hb : Below w.heap.size w w') : SignsIn w' :=
 ⟨Nat.lt_of_lt_of_le h.lt hb.size, fun j v hj => by rw [hb.cell h.lt]; exact h.cell j v hj⟩
def tokCells (t : Tok) : List Value := [.int .i64 t.kind, .string ⟨t.text.toArray⟩, .int .i64 t.n, .int .i64 t.pos]
def tokVal (t : Tok) : Value := .agg (tokCells t).toArray
def noTok : Value := .agg #[.int .i64 0, .string ⟨#[]⟩, .int .i64 0, .int .i64 0]
def nextRes (l : Bytes) : Value := match nextT l with
 | .ok x => .tuple #[tokVal x.1, .int .i64 x.2, .int .i64 0]
 | .error e => .tuple #[noTok, .int .i64 0, .int .i64 e]
theorem nextRes_ok {l : Bytes} {t : Tok} {n : Nat} (h : nextT l = .ok (t, n)) : nextRes l = .tuple #[tokVal t, .int .i64 n, .int .i64 0] := by simp [nextRes, h]
theorem nextRes_err {l : Bytes} {e : Nat} (h : nextT l = .error e) : nextRes l = .tuple #[noTok, .int .i64 0, .int .i64 e] := by simp [nextRes, h]
theorem front_span {p : UInt8 → Bool} {s : ByteArray} {g : Nat} (h : spanN p s.data.toList = g) : (s.extract 0 g).data.toList = s.data.toList.takeWhile p := by
 rw [ext_front, ← h]; exact take_takeWhile p _
theorem signVals_len : signVals.length = 13 := rfl
theorem sign_index : ∀ (k : Nat), k < 13 → ∀ w : World, (Instr.index 105 (.agg signVals.toArray) (.int .i64 k)).run Tryz.prog w = .ok (.int .u8 (signBytes.getD k 0).toNat) w
 | 0, _, _ => by kernel_rfl
 | 1, _, _ => by kernel_rfl
 | 2, _, _ => by kernel_rfl
 | 3, _, _ => by kernel_rfl
 | 4, _, _ => by kernel_rfl
 | 5, _, _ => by kernel_rfl
 | 6, _, _ => by kernel_rfl
 | 7, _, _ => by kernel_rfl
 | 8, _, _ => by kernel_rfl
 | 9, _, _ => by kernel_rfl
 | 10, _, _ => by kernel_rfl
 | 11, _, _ => by kernel_rfl
 | 12, _, _ => by kernel_rfl
 | k + 13, h, _ => by omega
theorem sign_yes {c : UInt8} {k : Nat} (hk : k < 13) (h : signBytes.getD k 0 = c) : isSign c = true := by
 subst h
 unfold isSign
 rw [List.contains_eq_mem, decide_eq_true_eq]
 have : k < signBytes.length := hk
 rw [List.getD_eq_getElem?_getD, List.getElem?_eq_getElem this]
 exact List.getElem_mem _
theorem sign_no {c : UInt8} (h : ∀ j, j < 13 → signBytes.getD j 0 ≠ c) : isSign c = false := by
 unfold isSign
 rw [List.contains_eq_mem, decide_eq_false_iff_not]
 intro hm
 obtain ⟨j, hj, e⟩ := List.getElem_of_mem hm
 refine h j hj ?_
 rw [List.getD_eq_getElem?_getD, List.getElem?_eq_getElem hj]; exact e
set_option maxRecDepth 100000 in
set_option maxHeartbeats 2000000 in
theorem next_letter (s : ByteArray) (w : World) (hs : s.size ≤ 137438953472) (h0 : 0 < s.size) (hL : isLetter s[0] = true) :
    Calls Tryz.prog 56 #[.string s] w fun e w' => e = .returned (nextRes s.data.toList) ∧ Below w.heap.size w w' := by
  have hm : s.size ≤ maxLen := by unfold maxLen; omega
  have hd := bytes_drop s 0 h0
  rw [List.drop_zero] at hd
  have HD := Lib.hid hd; clear hd
  have HLt := Lib.hid hL; clear hL
  cases hn : nameOk (s.data.toList.takeWhile isInner) with
  | true =>
    have HN := Lib.hid hn; clear hn
    have hx : nextT s.data.toList = .ok (⟨0, s.data.toList.takeWhile isInner, 0, 0⟩, (s.data.toList.takeWhile isInner).length) := by
      rw [HD.out, nextT, if_pos HLt.out, ← HD.out, if_pos HN.out]
    have HR := Lib.hid (nextRes_ok hx); clear hx
    go_enter Tryz.func56, Tryz.ntmps56
    go_wp2_with fail
    refine (letter_calls _ _).mono ?_; rintro e w' ⟨rfl, rfl⟩; rw [HLt.out]
    go_wp2_with fail
    refine (span_all 83 isInner inner_fn s _ hm).mono ?_; rintro e w' ⟨g, rfl, hg, HG, rfl⟩
    have hfr := Lib.hid (front_span HG.out)
    have hlen : Hid ((s.data.toList.takeWhile isInner).length = g) := HG.out
    clear HG
    go_wp2_with fail
    refine (name_any _ _ (by unfold maxLen; simp; omega)).mono ?_; rintro e w' ⟨rfl, rfl⟩; rw [hfr.out, HN.out]
    go_wp2_with fail
    go_returns
    refine ⟨?_, ?_⟩
    · rw [HR.out, hlen.out]
      have hb := mk_bytes _ hfr.out
      simp [tokVal, tokCells, hb]
    · go_grown
  | false =>
    have HN := Lib.hid hn; clear hn
    have hx : nextT s.data.toList = .error 3 := by
      rw [HD.out, nextT, if_pos HLt.out, ← HD.out, if_neg (by rw [HN.out]; simp)]
    have HR := Lib.hid (nextRes_err hx); clear hx
    go_enter Tryz.func56, Tryz.ntmps56
    go_wp2_with fail
    refine (letter_calls _ _).mono ?_; rintro e w' ⟨rfl, rfl⟩; rw [HLt.out]
    go_wp2_with fail
    refine (span_all 83 isInner inner_fn s _ hm).mono ?_; rintro e w' ⟨g, rfl, hg, HG, rfl⟩
    have hfr := Lib.hid (front_span HG.out)
    clear HG
    go_wp2_with fail
    refine (name_any _ _ (by unfold maxLen; simp; omega)).mono ?_; rintro e w' ⟨rfl, rfl⟩; rw [hfr.out, HN.out]
    go_wp2_with fail
    go_returns
    refine ⟨?_, ?_⟩
    · rw [HR.out]; rfl
    · go_grown
set_option maxRecDepth 100000 in
set_option maxHeartbeats 2000000 in
theorem next_digit (s : ByteArray) (w : World) (hs : s.size ≤ 137438953472) (h0 : 0 < s.size) (hL : isLetter s[0] = false) (hD : isDigit s[0] = true) :
    Calls Tryz.prog 56 #[.string s] w fun e w' => e = .returned (nextRes s.data.toList) ∧ Below w.heap.size w w' := by
  have hm : s.size ≤ maxLen := by unfold maxLen; omega
  have hd := bytes_drop s 0 h0
  rw [List.drop_zero] at hd
  have HD := Lib.hid hd; clear hd
  have HLt := Lib.hid hL; clear hL
  have HDt := Lib.hid hD; clear hD
  have hif : nextT s.data.toList = (match numOf (s.data.toList.takeWhile isDigit) with | none => .error 3 | some n => .ok (⟨1, s.data.toList.takeWhile isDigit, n, 0⟩, (s.data.toList.takeWhile isDigit).length)) := by
    rw [HD.out, nextT, if_neg (by rw [HLt.out]; simp), if_pos HDt.out]
    rfl
  cases hn : numOf (s.data.toList.takeWhile isDigit) with
  | some n =>
    have HN := Lib.hid (numRes_some hn)
    have HR := Lib.hid (nextRes_ok (hif.trans (by rw [hn]))); clear hn hif
    go_enter Tryz.func56, Tryz.ntmps56
    go_wp2_with fail
    refine (letter_calls _ _).mono ?_; rintro e w' ⟨rfl, rfl⟩; rw [HLt.out]
    go_wp2_with fail
    refine (digit_calls _ _).mono ?_; rintro e w' ⟨rfl, rfl⟩; rw [HDt.out]
    go_wp2_with fail
    refine (span_all 85 isDigit digit_fn s _ hm).mono ?_; rintro e w' ⟨g, rfl, hg, HG, rfl⟩
    have hfr := Lib.hid (front_span HG.out)
    have hlen : Hid ((s.data.toList.takeWhile isDigit).length = g) := HG.out
    clear HG
    go_wp2_with fail
    refine (number_any _ _ (by unfold maxLen; simp; omega)).mono ?_; rintro e w' ⟨rfl, rfl⟩; rw [hfr.out, HN.out]
    go_wp2_with fail
    go_returns
    refine ⟨?_, ?_⟩
    · rw [HR.out, hlen.out]
      have hb := mk_bytes _ hfr.out
      simp [tokVal, tokCells, hb]
    · go_grown
  | none =>
    have HN := Lib.hid (numRes_none hn)
    have HR := Lib.hid (nextRes_err (hif.trans (by rw [hn]))); clear hn hif
    go_enter Tryz.func56, Tryz.ntmps56
    go_wp2_with fail
    refine (letter_calls _ _).mono ?_; rintro e w' ⟨rfl, rfl⟩; rw [HLt.out]
    go_wp2_with fail
    refine (digit_calls _ _).mono ?_; rintro e w' ⟨rfl, rfl⟩; rw [HDt.out]
    go_wp2_with fail
    refine (span_all 85 isDigit digit_fn s _ hm).mono ?_; rintro e w' ⟨g, rfl, hg, HG, rfl⟩
    have hfr := Lib.hid (front_span HG.out)
    clear HG
    go_wp2_with fail
    refine (number_any _ _ (by unfold maxLen; simp; omega)).mono ?_; rintro e w' ⟨rfl, rfl⟩; rw [hfr.out, HN.out]
    go_wp2_with fail
    go_returns
    refine ⟨?_, ?_⟩
    · rw [HR.out]; rfl
    · go_grown
theorem quotedT_pos {l v : Bytes} {n : Nat} (h : quotedT l = some (v, n)) : 1 ≤ n := by
  unfold quotedT at h
  split at h
  · cases h
  · split at h
    · cases h
    · cases h; simp
set_option maxRecDepth 100000 in
set_option maxHeartbeats 2000000 in
theorem next_string (s : ByteArray) (w : World) (hs : s.size ≤ 137438953472) (h0 : 0 < s.size) (hL : isLetter s[0] = false) (hD : isDigit s[0] = false) (hQ : s[0] = 34) :
    Calls Tryz.prog 56 #[.string s] w fun e w' => e = .returned (nextRes s.data.toList) ∧ Below w.heap.size w w' := by
  have hm : s.size ≤ maxLen := by unfold maxLen; omega
  have hd := bytes_drop s 0 h0
  rw [List.drop_zero] at hd
  have HD := Lib.hid hd; clear hd
  have HLt := Lib.hid hL; clear hL
  have HDt := Lib.hid hD; clear hD
  have e1 := u8_beq (n := 34) rfl hQ
  have hif : nextT s.data.toList = (match quotedT s.data.toList with | none => .error 2 | some p => .ok (⟨2, p.1, 0, 0⟩, p.2)) := by
    rw [HD.out, nextT, if_neg (by rw [HLt.out]; simp), if_neg (by rw [HDt.out]; simp), if_pos hQ]
    rfl
  clear hQ
  cases hn : quotedT s.data.toList with
  | some p =>
    obtain ⟨v, n⟩ := p
    have HN := Lib.hid (quotedRes_yes hn)
    have hpos := quotedT_pos hn
    have e2 : ((n : Int) == 0) = false := by simp; omega
    have HR := Lib.hid (nextRes_ok (hif.trans (by rw [hn]))); clear hn hif
    go_enter Tryz.func56, Tryz.ntmps56
    go_wp2_with fail
    refine (letter_calls _ _).mono ?_; rintro e w' ⟨rfl, rfl⟩; rw [HLt.out]
    go_wp2_with fail
    refine (digit_calls _ _).mono ?_; rintro e w' ⟨rfl, rfl⟩; rw [HDt.out]
    go_wp2_with fail
    refine (quoted_any s _ hs h0).mono ?_; rintro e w' ⟨rfl, hb⟩; rw [HN.out]
    have hk := hb.block w.heap.size (by simp)
    rw [heap_new] at hk
    have HK := Lib.hid hk; clear hk
    have hsz := size_new hb
    have HB := Lib.hid (below_new hb); clear hb
    go_wp2_with (refine wpList_store_box rfl 55 (.tmp 2) _ rfl w.heap.size _ rfl rfl 55 _ HK.out (by kernel_rfl) rfl rfl ?_; intro w2 hk2 hg2 hs2; have HK2 := Lib.hid hk2; have HG2 := Lib.hid hg2; clear hk2 hg2)
    refine bodyPost_ret (results_box3 rfl _ _ w.heap.size 55 _ _ _ rfl HK2.out Tryz.underlying55 rfl (by kernel_rfl)) rfl ⟨?_, ?_⟩
    · rw [HR.out]; rfl
    · exact HB.out.trans (grown_box HG2.out (Nat.le_refl _) hsz)
  | none =>
    have HN := Lib.hid (quotedRes_no hn)
    have HR := Lib.hid (nextRes_err (hif.trans (by rw [hn]))); clear hn hif
    go_enter Tryz.func56, Tryz.ntmps56
    go_wp2_with fail
    refine (letter_calls _ _).mono ?_; rintro e w' ⟨rfl, rfl⟩; rw [HLt.out]
    go_wp2_with fail
    refine (digit_calls _ _).mono ?_; rintro e w' ⟨rfl, rfl⟩; rw [HDt.out]
    go_wp2_with fail
    refine (quoted_any s _ hs h0).mono ?_; rintro e w' ⟨rfl, hb⟩; rw [HN.out]
    have hk := hb.block w.heap.size (by simp)
    rw [heap_new] at hk
    have HK := Lib.hid hk; clear hk
    have hsz := size_new hb
    have HB := Lib.hid (below_new hb); clear hb
    go_wp2_with (refine wpList_store_box rfl 55 (.tmp 2) _ rfl w.heap.size _ rfl rfl 55 _ HK.out (by kernel_rfl) rfl rfl ?_; intro w2 hk2 hg2 hs2; have HK2 := Lib.hid hk2; have HG2 := Lib.hid hg2; clear hk2 hg2)
    refine bodyPost_ret (results_box3 rfl _ _ w.heap.size 55 _ _ _ rfl HK2.out Tryz.underlying55 rfl (by kernel_rfl)) rfl ⟨?_, ?_⟩
    · rw [HR.out]; rfl
    · exact HB.out.trans (grown_box HG2.out (Nat.le_refl _) hsz)
set_option maxRecDepth 100000 in
set_option maxHeartbeats 4000000 in
theorem next_sign (s : ByteArray) (w : World) (hs : s.size ≤ 137438953472) (h0 : 0 < s.size) (hsig : SignsIn w) (hL : isLetter s[0] = false) (hD : isDigit s[0] = false) (hQ : s[0] ≠ 34) :
    Calls Tryz.prog 56 #[.string s] w fun e w' => e = .returned (nextRes s.data.toList) ∧ Below w.heap.size w w' := by
  have hd := bytes_drop s 0 h0
  rw [List.drop_zero] at hd
  have HD := Lib.hid hd; clear hd
  have HLt := Lib.hid hL; clear hL
  have HDt := Lib.hid hD; clear hD
  have e1 := u8_bne (n := 34) rfl hQ
  have hif : nextT s.data.toList = if isSign s[0] then .ok (⟨3, [s[0]], 0, 0⟩, 1) else .error 10 := by
    rw [HD.out, nextT, if_neg (by rw [HLt.out]; simp), if_neg (by rw [HDt.out]; simp), if_neg hQ]
  have HIF := Lib.hid hif; clear hif hQ
  have hsig1 := hsig.keep ((Below.refl _ w).alloc (Nat.le_refl _) (.cells #[.int .i64 0, .string ⟨#[]⟩, .int .i64 0, .int .i64 0] 55))
  have HSG := Lib.hid hsig1.cell; clear hsig1 hsig
  go_enter Tryz.func56, Tryz.ntmps56
  go_wp2_with fail
  refine (letter_calls _ _).mono ?_; rintro e w' ⟨rfl, rfl⟩; rw [HLt.out]
  go_wp2_with fail
  refine (digit_calls _ _).mono ?_; rintro e w' ⟨rfl, rfl⟩; rw [HDt.out]
  go_wp2_with (refine wpList_load_cells rfl 105 (.global 0) rfl 0 0 rfl signVals _ HSG.out Tryz.underlying105 rfl (by kernel_rfl) ?_)
  go_loop [66] (fun i => ∃ k : Nat, k ≤ 13 ∧ i = .int .i64 k ∧ Hid (∀ j, j < k → signBytes.getD j 0 ≠ s[0])) (fun i => 13 - (intOf i).toNat)
  case atStart => exact ⟨0, by omega, rfl, fun j hj => by omega⟩
  case round =>
    obtain ⟨k, hk, rfl, HN⟩ := hrel
    by_cases hlt : k < 13
    · have hix := sign_index k hlt
      obtain ⟨c, hc⟩ : ∃ c, c = signBytes.getD k 0 := ⟨_, rfl⟩
      rw [← hc] at hix
      have HC := Lib.hid hc; clear hc
      by_cases hh : s[0] = c
      · have e2 := u8_beq (n := (c.toNat : Int)) rfl hh
        have HR := Lib.hid (nextRes_ok (HIF.out.trans (by rw [if_pos (sign_yes hlt (by rw [← HC.out, hh]))])))
        clear hh
        have hfr : Hid (s.extract 0 1 = ⟨[s[0]].toArray⟩) := mk_bytes _ (by rw [ext_front, HD.out]; rfl)
        go_wp2_with fail
        go_returns
        refine ⟨?_, ?_⟩
        · rw [HR.out, hfr.out]; rfl
        · go_grown
      · have e2 := u8_bne (n := (c.toNat : Int)) rfl hh
        have HH := Lib.hid hh; clear hh
        go_wp2_with fail
        go_round
        case rel => exact ⟨k + 1, by omega, by go_num, fun j hj => by
          rcases Nat.lt_or_ge j k with h | h
          · exact HN.out j h
          · obtain rfl : j = k := by omega
            rw [← HC.out]; exact fun e => HH.out e.symm⟩
        case measure => simp [intOf]; omega
    · have HR := Lib.hid (nextRes_err (HIF.out.trans (by rw [if_neg (by rw [sign_no (fun j hj => HN.out j (by omega))]; simp)])))
      go_wp2_with fail
      go_returns
      refine ⟨?_, ?_⟩
      · rw [HR.out]; rfl
      · go_grown
theorem next_any (s : ByteArray) (w : World) (hs : s.size ≤ 137438953472) (h0 : 0 < s.size) (hsig : SignsIn w) :
    Calls Tryz.prog 56 #[.string s] w fun e w' => e = .returned (nextRes s.data.toList) ∧ Below w.heap.size w w' := by
  cases hL : isLetter s[0] with
  | true => exact next_letter s w hs h0 hL
  | false =>
    cases hD : isDigit s[0] with
    | true => exact next_digit s w hs h0 hL hD
    | false =>
      by_cases hQ : s[0] = 34
      · exact next_string s w hs h0 hL hD hQ
      · exact next_sign s w hs h0 hsig hL hD hQ
end Go.Proofs.YtckgmilmhofekaaGreatDoor
namespace Go.Proofs.YtckgmilmhofekaaGreatDoor
open Go.RowKit

theorem elemTok : ElemT Tryz.prog 27 55 noTok 4 40 := ⟨Tryz.underlying27, by kernel_rfl, rfl, by decide⟩
def scanOut (l : Bytes) : Except (Nat × Nat) (List Tok) := if 4000 < l.length then .error (0, 6) else scanAll l
def toksOf : Except (Nat × Nat) (List Tok) → List Tok | .ok ts => ts | .error _ => []
def posOf : Except (Nat × Nat) (List Tok) → Nat | .ok _ => 0 | .error e => e.1
def errOf : Except (Nat × Nat) (List Tok) → Nat | .ok _ => 0 | .error e => e.2
def toksCells (ts : List Tok) : List Value := ts.flatMap tokCells
/-- What 'Scan' hands back: a slice of its own with the tokens, a place and an error. -/
def ScanPost (r : Except (Nat × Nat) (List Tok)) (w : World) (e : Ending) (w' : World) : Prop :=
 ∃ v, e = .returned (.tuple #[v, .int .i64 (posOf r), .int .i64 (errOf r)]) ∧ w'.ownsRow w.heap.size 55 4 v (toksOf r).length (toksCells (toksOf r)) ∧ Below w.heap.size w w'
/-- After some rounds: what is still to be scanned decides the whole. -/
def ScanAt (l : Bytes) (k : Nat) (done : List Tok) : Prop := ∀ a, Scan k (l.drop k) a → Scan 0 l (sewn done a)
theorem scanAt_start (l : Bytes) : ScanAt l 0 [] := by intro a h; cases a <;> exact h
theorem scanAt_done {l : Bytes} {k : Nat} {done : List Tok} (h : ScanAt l k done) (hg : gapC false (l.drop k) = (l.drop k).length) : scanAll l = .ok done := by
 have := h _ (Scan.done k (l.drop k) hg)
 rw [sewn, List.append_nil] at this; exact scanAll_of this
theorem scanAt_bad {l : Bytes} {k g e : Nat} {done : List Tok} {c : UInt8} {r : Bytes} (h : ScanAt l k done) (hg : gapC false (l.drop k) = g) (hd : l.drop (k + g) = c :: r) (hn : nextT (c :: r) = .error e) : scanAll l = .error (k + g, e) := by
 have := h _ (Scan.bad k (l.drop k) c r e (by rw [hg, List.drop_drop]; exact hd) hn)
 rw [hg] at this; exact scanAll_of this
theorem scanAt_tok {l : Bytes} {k g n : Nat} {t : Tok} {done : List Tok} {c : UInt8} {r : Bytes} (h : ScanAt l k done) (hg : gapC false (l.drop k) = g) (hd : l.drop (k + g) = c :: r) (hn : nextT (c :: r) = .ok (t, n)) : ScanAt l (k + g + n) (done ++ [t.at (k + g)]) := by
 intro a ha
 have hdd : (l.drop k).drop (gapC false (l.drop k)) = c :: r := by rw [hg, List.drop_drop]; exact hd
 have hl : l.drop (k + g + n) = (c :: r).drop n := by rw [← hd, List.drop_drop]
 rw [hl] at ha
 cases a with
 | ok ts =>
  have := h _ (Scan.tok k (l.drop k) c r t n ts hdd hn (by rw [hg]; exact ha))
  rw [hg] at this
  simpa [sewn] using this
 | error x =>
  have := h _ (Scan.late k (l.drop k) c r t n x hdd hn (by rw [hg]; exact ha))
  exact this
theorem own_tok {w1 : World} {B n : Nat} {v' : Value} {done : List Tok} {t : Tok} {p : Nat} (ho : w1.ownsRow B 55 4 v' (n + 1) (toksCells done ++ [.int .i64 t.kind, .string ⟨t.text.toArray⟩, .int .i64 t.n, .int .i64 p])) (hn : n = done.length) :
  w1.ownsRow B 55 4 v' (done ++ [t.at p]).length (toksCells (done ++ [t.at p])) := by
 subst hn
 simpa [toksCells, tokCells, Tok.at] using ho
theorem one_tok (a b c : Int) (s : ByteArray) : ∀ u ∈ [Value.int .i64 a, .string s, .int .i64 b, .int .i64 c], u.oneCell' = true := by
 intro u hu; simp at hu; rcases hu with rfl | rfl | rfl | rfl <;> rfl
set_option maxRecDepth 100000 in
set_option maxHeartbeats 4000000 in
theorem scan_any (s : ByteArray) (w : World) (hs : s.size ≤ 137438953472) (hsig : SignsIn w) :
    Calls Tryz.prog 31 #[.string s] w (ScanPost (scanOut s.data.toList) w) := by
  have HL : Hid (s.data.toList.length = s.size) := bytes_len s
  by_cases h4 : s.size ≤ 4000
  · have HO : Hid (scanOut s.data.toList = scanAll s.data.toList) := by show _ = _; rw [scanOut, if_neg (by rw [HL.out]; omega)]
    have HS := Lib.hid hsig; clear hsig
    go_enter Tryz.func31, Tryz.ntmps31
    go_wp2_with fail
    go_loopw [5, 6] (fun v n wr => ∃ (k : Nat) (done : List Tok), k ≤ s.size ∧ done.length ≤ k ∧ n = .int .i64 k ∧ Hid (ScanAt s.data.toList k done) ∧ Hid (wr.ownsRow w.heap.size 55 4 v done.length (toksCells done)) ∧ Hid (Below w.heap.size w wr)) (fun _ n _ => s.size - (intOf n).toNat)
    case atStart => exact ⟨0, [], by omega, by simp, rfl, scanAt_start _, World.ownsRow_nil _ _ _ _, Below.refl _ _⟩
    case round =>
      obtain ⟨k, done, hk, hdk, rfl, HK, HW, HB⟩ := hrel
      have hBs := HB.out.size
      go_wp2_with fail
      obtain ⟨g, hg⟩ : ∃ g, g = gapC false (s.data.toList.drop k) := ⟨_, rfl⟩
      have hgl : g ≤ s.size - k := by have := gapC_le false (s.data.toList.drop k); rw [List.length_drop, HL.out] at this; omega
      have HG : Hid (gapC false (s.data.toList.drop k) = g) := hg.symm
      clear hg
      refine (gap_any (s.extract k s.size) _ (by unfold maxLen; simp; omega)).mono ?_
      rintro e w' ⟨rfl, rfl⟩
      rw [ext_end, HG.out]
      by_cases hend : k + g = s.size
      · have hr : Hid (scanOut s.data.toList = .ok done) := HO.out.trans (scanAt_done HK.out (by rw [HG.out, List.length_drop, HL.out]; omega))
        have e1 : (((k : Int) + (g : Int)) == (s.size : Int)) = true := by rw [beq_iff_eq]; omega
        have hend' := Lib.hid hend; clear hend
        go_wp2_with fail
        go_ret3
        refine ⟨u5, ?_, ?_, HB.out⟩
        · rw [hr.out]; rfl
        · rw [hr.out]; exact HW.out
      · have hlt : k + g < s.size := by omega
        have e1 : (((k : Int) + (g : Int)) == (s.size : Int)) = false := by rw [beq_eq_false_iff_ne]; omega
        have hd := Lib.hid (bytes_drop s (k + g) hlt)
        clear hend
        go_wp2_with fail
        refine (next_any (s.extract (k + g) s.size) _ (by simp; omega) (by simp; omega) (HS.out.keep HB.out)).mono ?_
        rintro e w1 ⟨rfl, hb1⟩
        rw [ext_end]
        cases hn : nextT (s.data.toList.drop (k + g)) with
        | error e =>
          have hr : Hid (scanOut s.data.toList = .error (k + g, e)) := HO.out.trans (scanAt_bad HK.out HG.out hd.out (by rw [← hd.out]; exact hn))
          rw [nextRes_err hn]
          have hee : e = 2 ∨ e = 3 ∨ e = 10 := nextT_err hd.out hn
          have e2 : ((e : Int) != 0) = true := by rw [bne_iff_ne]; omega
          clear hn hee
          have HB1 := Lib.hid (HB.out.trans (hb1.mono hBs))
          have hs1 := hb1.size
          clear hb1
          unfold noTok
          go_wp2_with fail
          refine bodyPost_ret (results_tmp3 rfl _ _ _) rfl ⟨.slice none 0 0, ?_, ?_, ?_⟩
          · rw [hr.out]; rfl
          · rw [hr.out]; exact World.ownsRow_nil _ _ _ _
          · exact HB1.out.alloc (by omega) _
        | ok x =>
          obtain ⟨t, n⟩ := x
          have hns := nextT_ok hn
          have hn1 := hns.1
          have hn2 := hns.2.1
          rw [List.length_drop, HL.out] at hn2
          have HT := Lib.hid (scanAt_tok HK.out HG.out hd.out (by rw [← hd.out]; exact hn))
          rw [nextRes_ok hn]
          clear hn hns
          have HW1 := Lib.hid (own_below HW.out hb1)
          have HB1 := Lib.hid (HB.out.trans (hb1.mono hBs))
          have hs1 := hb1.size
          clear hb1
          unfold tokVal tokCells
          go_wp2_with (at_builtin; go_must (refine wpList_push rfl (.tmp 38) (.tmp 40) elemTok rfl (w1.alloc (.cells #[.int .i64 t.kind, .string ⟨t.text.toArray⟩, .int .i64 t.n, .int .i64 ((k : Int) + (g : Int))] 55)) w.heap.size _ _ _ rfl (HW1.out.alloc _) [.int .i64 t.kind, .string ⟨t.text.toArray⟩, .int .i64 t.n, .int .i64 ((k : Int) + (g : Int))] rfl rfl (by simp) rfl (one_tok _ _ _ _) (by omega) (by omega) (by simp; omega) ?_; intro v' w2 ho hg2 hb2))
          go_roundw
          case rel => exact ⟨k + g + n, done ++ [t.at (k + g)], by omega, by simp; omega, by go_num, HT, own_tok (p := k + g) ho rfl, (HB1.out.alloc (by omega) _).trans hb2⟩
          case measure => simp [intOf]; omega
  · have HO : Hid (scanOut s.data.toList = .error (0, 6)) := by show _ = _; rw [scanOut, if_pos (by rw [HL.out]; omega)]
    go_enter Tryz.func31, Tryz.ntmps31
    go_wp2_with fail
    refine bodyPost_ret (results_tmp3 rfl _ _ _) rfl ⟨.slice none 0 0, ?_, ?_, Below.refl _ _⟩
    · rw [HO.out]; rfl
    · rw [HO.out]; exact World.ownsRow_nil _ _ _ _
end Go.Proofs.YtckgmilmhofekaaGreatDoor
namespace Go.Proofs.YtckgmilmhofekaaGreatDoor
open Go.RowKit

/-- A slice reads as tokens. -/
def ToksIn (w : World) (v : Value) (ts : List Tok) : Prop := RdS w v ts.length 4 (fun k => (ts[k]?.map tokCells).getD [])
theorem toksIn_own {w : World} {B : Nat} {v : Value} {ts : List Tok} (h : w.ownsRow B 55 4 v ts.length (toksCells ts)) : ToksIn w v ts := rds_of_own tokCells ts (fun _ _ => rfl) h
theorem ToksIn.keep {w w' : World} {v : Value} {ts : List Tok} (h : ToksIn w v ts) (hb : Below w.heap.size w w') : ToksIn w' v ts := RdS.keep h hb
theorem ToksIn.at {w : World} {a : Option Addr} {n cap : Nat} {ts : List Tok} (h : ToksIn w (.slice a n cap) ts) {k : Nat} (hk : k < ts.length) :
  ∃ b off, a = some ⟨b, off, none⟩ ∧ b < w.heap.size ∧ ∀ j u, (tokCells ts[k])[j]? = some u → w.cell? ⟨b, off + k * 4 + j, none⟩ = some u := by
 obtain ⟨a', cap', hv, hc⟩ := h
 cases hv
 obtain ⟨b, off, ha, hlt, hcell⟩ := hc k hk
 refine ⟨b, off, ha, hlt, fun j u hj => hcell j u ?_⟩
 show ((ts[k]?.map tokCells).getD [])[j]? = some u
 rw [List.getElem?_eq_getElem hk]; exact hj
theorem ToksIn.shape {w : World} {v : Value} {ts : List Tok} (h : ToksIn w v ts) : ∃ a cap, v = .slice a ts.length cap := by
 obtain ⟨a, cap, hv, _⟩ := h; exact ⟨a, cap, hv⟩
theorem elemStr : ElemT Tryz.prog 67 9 (.string ⟨#[]⟩) 1 16 := ⟨Tryz.underlying67, by kernel_rfl, rfl, by decide⟩
theorem one_str (s : ByteArray) : ∀ u ∈ [Value.string s], u.oneCell' = true := by intro u hu; simp at hu; subst hu; rfl
def strVals (l : List Bytes) : List Value := l.map fun b => Value.string ⟨b.toArray⟩
theorem join_print : ∀ ts : List Tok, Lib.join (ts.map tokText) [32] = printL ts
 | [] => rfl
 | [t] => by simp [Lib.join_one, printL]
 | t :: u :: r => by
  have ih := join_print (u :: r)
  rw [List.map_cons, Lib.join_cons] at ih
  rw [List.map_cons, List.map_cons, Lib.join_cons]
  simp only [printL, Lib.joinTail, List.map_cons, List.flatten_cons] at *
  rw [← ih]; simp
theorem own_strs {w1 : World} {B n : Nat} {v' : Value} {l : List Bytes} {b : Bytes} (ho : w1.ownsRow B 9 1 v' (n + 1) (strVals l ++ [.string ⟨b.toArray⟩])) (hn : n = l.length) :
  w1.ownsRow B 9 1 v' (l ++ [b]).length (strVals (l ++ [b])) := by
 subst hn; simpa [strVals] using ho
theorem tokText_len {ts : List Tok} {k : Nat} (hk : k < ts.length) : ((ts.take (k + 1)).map tokText) = ((ts.take k).map tokText) ++ [tokText ts[k]] := by
 rw [List.take_succ_eq_append_getElem hk, List.map_append]; rfl
theorem own_ne {w : World} {B : Nat} {e : TypeId} {size n : Nat} {v : Value} {xs : List Value} (h : w.ownsRow B e size v n xs) {j : Nat} : v.ownBlock ≠ some (⟨w.heap.size, j, none⟩ : Addr).block := by
 intro hh; have := (h.lt _ hh).2; simp at this
/-- strings.Join of what the call owns, with a blank. -/
theorem join_any (B : Nat) (v : Value) (l : List Bytes) (w : World) (h : w.ownsRow B 9 1 v l.length (strVals l)) (hn : l.length ≤ 1099511627776) (hl : (Lib.join l [32]).length ≤ 137438953472) :
    Calls Tryz.prog 53 #[v, .string ⟨#[32]⟩] w fun e w' => e = .returned (.string ⟨(Lib.join l [32]).toArray⟩) ∧ Below w.heap.size w w' := by
  rcases h.2 with ⟨rfl, h0⟩ | ⟨g, cap, cur, rfl, hg, hh, hcap, _⟩
  · have : l = [] := List.length_eq_zero_iff.1 h0
    subst this
    refine (Tryz.strings_Join_none none 0 ⟨#[32]⟩ w).mono ?_
    rintro e w' ⟨rfl, rfl⟩
    exact ⟨rfl, Below.refl _ _⟩
  · have hm : (l.map fun b => (⟨b.toArray⟩ : ByteArray)).map (·.data.toList) = l := by simp [Function.comp_def]
    have := Tryz.strings_Join g 0 cap (l.map fun b => ⟨b.toArray⟩) ⟨#[32]⟩ w ?_ (lt_of_block hh) (by simp; omega) (by simpa using hcap) (by rw [hm]; simp only []; omega)
    · rw [hm] at this
      simpa using this
    · intro j x hj
      have hjl : j < l.length := by
        rcases Nat.lt_or_ge j l.length with h' | h'
        · exact h'
        · rw [List.getElem?_eq_none (by simpa using h')] at hj; cases hj
      rw [Nat.zero_add, h.cellAt (j := j) (by omega)]
      simp [strVals, List.getElem?_eq_getElem hjl] at hj ⊢
      exact hj
set_option maxRecDepth 100000 in
set_option maxHeartbeats 4000000 in
theorem print_any (v : Value) (ts : List Tok) (w : World) (hin : ToksIn w v ts) (hn : ts.length ≤ 1099511627776) (ht : ∀ t ∈ ts, t.text.length ≤ 137438953472) (hl : (printL ts).length ≤ 137438953472) :
    Calls Tryz.prog 29 #[v] w fun e w' => e = .returned (.string ⟨(printL ts).toArray⟩) ∧ Below w.heap.size w w' := by
  obtain ⟨a, cap, rfl⟩ := hin.shape
  have HI := Lib.hid hin; clear hin
  have HT := Lib.hid ht; clear ht
  go_enter Tryz.func29, Tryz.ntmps29
  go_wp2_with fail
  go_loopw [3, 8] (fun p i wr => ∃ k : Nat, k ≤ ts.length ∧ i = .int .i64 k ∧ Hid (wr.ownsRow w.heap.size 9 1 p ((ts.take k).map tokText).length (strVals ((ts.take k).map tokText))) ∧ Hid (Below w.heap.size w wr)) (fun _ i _ => ts.length - (intOf i).toNat)
  case atStart => exact ⟨0, Nat.zero_le _, rfl, World.ownsRow_nil _ _ _ _, Below.refl _ _⟩
  case round =>
    obtain ⟨k, hk, rfl, HO, HB⟩ := hrel
    have hBs := HB.out.size
    by_cases hlt : k < ts.length
    · obtain ⟨b, off, rfl, hb, hcell⟩ := (HI.out.keep HB.out).at hlt
      obtain ⟨t, htk⟩ : ∃ t, t = ts[k] := ⟨_, rfl⟩
      rw [← htk] at hcell
      have c0 : wr.cell? ⟨b, off + k * 4, none⟩ = some (.int .i64 t.kind) := hcell 0 _ rfl
      have c1 : wr.cell? ⟨b, off + k * 4 + 1, none⟩ = some (.string ⟨t.text.toArray⟩) := hcell 1 _ rfl
      have c2 : wr.cell? ⟨b, off + k * 4 + 2, none⟩ = some (.int .i64 t.n) := hcell 2 _ rfl
      have c3 : wr.cell? ⟨b, off + k * 4 + 3, none⟩ = some (.int .i64 t.pos) := hcell 3 _ rfl
      have HLT : Hid ((⟨t.text.toArray⟩ : ByteArray).size ≤ 137438953472) := by
        have := HT.out t (by rw [htk]; exact List.getElem_mem _)
        show _ ≤ _; rw [← bytes_len]; exact this
      have HTK := Lib.hid htk; clear htk hcell
      by_cases h2 : t.kind = 2
      · have e1 : ((t.kind : Int) == 2) = true := by rw [beq_iff_eq]; omega
        have HTX : Hid (tokText t = escL t.text) := by show _ = _; rw [tokText, if_pos h2]
        have H2 := Lib.hid h2; clear h2
        go_wp2_with fail
        refine (escaped_any ⟨t.text.toArray⟩ _ (HLT.out)).mono ?_
        rintro e w1 ⟨rfl, hb1⟩
        have hk1 := hb1.block wr.heap.size (by simp)
        rw [heap_new] at hk1
        obtain ⟨q1, q2⟩ := box_new hb1
        have hsz := size_new hb1
        have HB1 := Lib.hid (HB.out.trans ((below_new hb1).mono hBs))
        have HO1 := Lib.hid (own_below HO.out (below_new hb1))
        clear hb1 hk1 c0 c1 c2 c3 hb
        have q20 := q2 1
        have q10 : w1.cell? ⟨wr.heap.size, 1, none⟩ = some (.string ⟨t.text.toArray⟩) := (q1 1).trans rfl
        clear q1 q2
        go_wp2_with (at_builtin; go_must (refine wpList_push rfl (.tmp 19) (.tmp 22) elemStr rfl (w1.setCell ⟨wr.heap.size, 1, none⟩ (.string ⟨(escL t.text).toArray⟩)) w.heap.size _ _ _ rfl (ownsRow_setCell_other HO1.out (own_ne HO.out) _) [.string ⟨(escL t.text).toArray⟩] rfl rfl (by simp) rfl (one_str _) (by simp; omega) (by simp; omega) (by simp; omega) ?_; intro v' w2 ho hg2 hb2))
        go_roundw
        case rel => exact ⟨k + 1, by omega, by go_num, by rw [tokText_len hlt, ← HTK.out]; exact own_strs (by rw [HTX.out]; exact ho) rfl, (HB1.out.setCell (by simpa using hBs) _).trans hb2⟩
        case measure => simp [intOf]; omega
      · have e1 : ((t.kind : Int) == 2) = false := by rw [beq_eq_false_iff_ne]; omega
        have HTX : Hid (tokText t = t.text) := by show _ = _; rw [tokText, if_neg h2]
        have H2 := Lib.hid h2; clear h2
        go_wp2_with (at_builtin; go_must (refine wpList_push rfl (.tmp 19) (.tmp 22) elemStr rfl (wr.alloc (.cells #[.int .i64 t.kind, .string ⟨t.text.toArray⟩, .int .i64 t.n, .int .i64 t.pos] 55)) w.heap.size _ _ _ rfl (HO.out.alloc _) [.string ⟨t.text.toArray⟩] rfl rfl (by simp) rfl (one_str _) (by simp; omega) (by simp; omega) (by simp; omega) ?_; intro v' w2 ho hg2 hb2))
        go_roundw
        case rel => exact ⟨k + 1, by omega, by go_num, by rw [tokText_len hlt, ← HTK.out]; exact own_strs (by rw [HTX.out]; exact ho) rfl, (HB.out.alloc (by omega) _).trans hb2⟩
        case measure => simp [intOf]; omega
    · have hall : Hid (ts.take k = ts) := List.take_of_length_le (by omega)
      have HO2 : Hid (wr.ownsRow w.heap.size 9 1 u3 (ts.map tokText).length (strVals (ts.map tokText))) := by have := HO.out; rw [hall.out] at this; exact this
      clear HO
      go_wp2_with fail
      refine (join_any _ _ _ _ HO2.out (by simpa using hn) (by rw [join_print]; exact hl)).mono ?_
      rintro e w1 ⟨rfl, hb1⟩
      have HB1 := Lib.hid (HB.out.trans (hb1.mono hBs))
      clear hb1
      go_wp2_with fail
      go_ret
      exact ⟨by rw [← join_print]; rfl, HB1.out⟩
end Go.Proofs.YtckgmilmhofekaaGreatDoor
