/- Walks: the lexer's gap, names, numbers, quoting. -/
import Derived.Test.YtekaplogeogbjaaDoorLexBytes
import Derived.Test.YtekaplogeogbjaaDoorShelf
import Derived.Test.YtekaplogeogbjaaDoorShelfB
import Derived.BigQuiet
namespace Go.Proofs.YtekaplogeogbjaaDoor
open Go.RowKit

theorem ext_end (s : ByteArray) (k : Nat) : (s.extract k s.size).data.toList = s.data.toList.drop k := by
  rw [Lib.extract_data, List.take_of_length_le (by simp)]
theorem ext_front (s : ByteArray) (n : Nat) : (s.extract 0 n).data.toList = s.data.toList.take n := by
  rw [Lib.extract_data]; simp
theorem bytes_len (s : ByteArray) : s.data.toList.length = s.size := by simp
theorem bytes_eq {s t : ByteArray} (h : s.data.toList = t.data.toList) : s = t := by
  cases s; cases t; simp at h; rw [h]
theorem mk_bytes (s : ByteArray) {l : Bytes} (h : s.data.toList = l) : s = ⟨l.toArray⟩ := by subst h; simp
theorem bytes_get (s : ByteArray) (k : Nat) (h : k < s.size) : s.data.toList[k]? = some s[k] := by
  rw [List.getElem?_eq_getElem (by simpa using h)]; rfl

/-- 'span' of what is left from k on. -/
theorem span_at (f : Nat) (p : UInt8 → Bool) (hf : ByteFn f p) (s : ByteArray) (k : Nat) (w : World) (hs : s.size ≤ maxLen) (hk : k ≤ s.size) :
    Calls Tryd.prog 31 #[.string (s.extract k s.size), .func (.func f) #[] #[]] w fun e w' => ∃ g : Nat, e = .returned (.int .i64 g) ∧ k + g ≤ s.size ∧ Hid (spanN p (s.data.toList.drop k) = g) ∧ w = w' := by
  refine (span_any f p hf _ w (by unfold maxLen at *; simp; omega)).mono ?_
  rintro e w' ⟨rfl, rfl⟩
  refine ⟨_, rfl, ?_, by rw [ext_end]; rfl, rfl⟩
  have := spanN_le p (s.extract k s.size).data.toList
  rw [bytes_len] at this; simp at this ⊢; omega

theorem span_all (f : Nat) (p : UInt8 → Bool) (hf : ByteFn f p) (s : ByteArray) (w : World) (hs : s.size ≤ maxLen) :
    Calls Tryd.prog 31 #[.string s, .func (.func f) #[] #[]] w fun e w' => ∃ g : Nat, e = .returned (.int .i64 g) ∧ g ≤ s.size ∧ Hid (spanN p s.data.toList = g) ∧ w = w' := by
  refine (span_any f p hf _ w hs).mono ?_
  rintro e w' ⟨rfl, rfl⟩
  exact ⟨_, rfl, by have := spanN_le p s.data.toList; rwa [bytes_len] at this, rfl, rfl⟩

/-! ### gap -/
theorem gapC_cons (b : Bool) (c : UInt8) (r : Bytes) : gapC b (c :: r) = if c = 10 then gapC false r + 1 else if b then gapC b r + 1 else if isBlank c then gapC b r + 1 else if c = 35 then gapC true r + 1 else 0 := by rw [gapC]

theorem gap_blanks (l : Bytes) : gapC false l = spanN isBlank l + gapC false (l.drop (spanN isBlank l)) := by
  induction l with
  | nil => rfl
  | cons c r ih =>
    rw [spanN_cons]
    by_cases h : isBlank c = true
    · rw [if_pos h, List.drop_succ_cons, gapC_cons]
      by_cases h10 : c = 10
      · rw [if_pos h10]; omega
      · rw [if_neg h10]; simp [h]; omega
    · rw [if_neg h]; simp

theorem gap_hash (r : Bytes) : gapC false (35 :: r) = gapC true (35 :: r) := by simp [gapC, isBlank]
theorem gap_nl (b : Bool) (r : Bytes) : gapC b (10 :: r) = gapC false (10 :: r) := by cases b <;> simp [gapC]
theorem gap_in {c : UInt8} (h : c ≠ 10) (r : Bytes) : gapC true (c :: r) = gapC true r + 1 := by simp [gapC, h]
theorem span_stop (p : UInt8 → Bool) (l : Bytes) {c : UInt8} {r : Bytes} (h : l.drop (spanN p l) = c :: r) : p c = false := drop_takeWhile_stop p l h

theorem u8_eq {c d : UInt8} (h : (c.toNat : Int) = d.toNat) : c = d := by
  apply UInt8.toNat_inj.1; omega
theorem u8_test (c d : UInt8) : (((c.toNat : Int) == (d.toNat : Int)) = true) ↔ c = d := by
  rw [beq_iff_eq]; exact ⟨u8_eq, fun h => by rw [h]⟩

/-- What 'gap' knows at the head of its outer loop: blanks have been passed. -/
def GapAt (l : Bytes) (n : Nat) : Prop := gapC false l = n + gapC false (l.drop n) ∧ ∀ c r, l.drop n = c :: r → isBlank c = false
def GapIn (l : Bytes) (n : Nat) : Prop := gapC false l = n + gapC true (l.drop n)

theorem gapAt_start (l : Bytes) : GapAt l (spanN isBlank l) := ⟨gap_blanks l, fun _ _ h => span_stop _ _ h⟩
theorem gapIn_of {l : Bytes} {n : Nat} {r : Bytes} (h : GapAt l n) (hc : l.drop n = 35 :: r) : GapIn l n := by
  unfold GapIn; rw [h.1, hc, gap_hash]
theorem gapIn_step {l : Bytes} {n : Nat} {c : UInt8} (h : GapIn l n) (hc : l.drop n = c :: l.drop (n + 1)) (h10 : c ≠ 10) : GapIn l (n + 1) := by
  unfold GapIn at *; rw [h, hc, gap_in h10]; omega
theorem gapAt_again {l : Bytes} {n g : Nat} (h : GapIn l n) (hc : l.drop n = [] ∨ ∃ r, l.drop n = 10 :: r) (hg : spanN isBlank (l.drop n) = g) : GapAt l (n + g) := by
  have h1 : gapC false l = n + gapC false (l.drop n) := by
    unfold GapIn at h; rw [h]
    rcases hc with hc | ⟨r, hc⟩
    · rw [hc]; rfl
    · rw [hc, gap_nl]
  refine ⟨?_, fun c r hd => span_stop isBlank (l.drop n) (r := r) ?_⟩
  · rw [h1, gap_blanks (l.drop n), hg, List.drop_drop]; omega
  · rw [hg, List.drop_drop]; exact hd
theorem gapAt_done {l : Bytes} {n : Nat} (h : GapAt l n) (hc : ∀ c r, l.drop n = c :: r → c ≠ 35) : gapC false l = n := by
  rw [h.1]
  match hd : l.drop n with
  | [] => rfl
  | c :: r => rw [gapC_zero (h.2 c r hd) (hc c r hd)]; rfl

set_option maxHeartbeats 1000000 in
theorem gap_any (s : ByteArray) (w : World) (hs : s.size ≤ maxLen) :
    Calls Tryd.prog 25 #[.string s] w fun e w' => e = .returned (.int .i64 (gapC false s.data.toList)) ∧ w = w' := by
  have hm := hs
  unfold maxLen at hs
  go_enter Tryd.func25, Tryd.ntmps25
  go_wp2_with (go_at_call 31; refine (span_all 39 isBlank blank_fn s _ hm).mono ?_; rintro e w' ⟨g, rfl, hg, HG, rfl⟩)
  have H0 : Hid (GapAt s.data.toList g) := by have := gapAt_start s.data.toList; rw [HG.out] at this; exact this
  clear HG
  go_loop [3] (fun n => ∃ k : Nat, k ≤ s.size ∧ n = .int .i64 k ∧ Hid (GapAt s.data.toList k)) (fun n => s.size - (intOf n).toNat)
  case atStart => exact ⟨g, hg, rfl, H0⟩
  case round =>
    obtain ⟨k, hk, rfl, HK⟩ := hrel
    clear H0
    by_cases hlt : k < s.size
    · have hd := Lib.hid (bytes_drop s k hlt)
      by_cases hc : s[k] = 35
      · have hc1 : ((s[k].toNat : Int) == 35) = true := (u8_test _ 35).2 hc
        go_wp2_with fail
        go_loop [3] (fun n => ∃ j : Nat, k ≤ j ∧ j ≤ s.size ∧ n = .int .i64 j ∧ (j = k ∨ k < j) ∧ Hid (GapIn s.data.toList j)) (fun n => s.size - (intOf n).toNat)
        case atStart => exact ⟨k, Nat.le_refl _, by omega, rfl, .inl rfl, gapIn_of HK.out (by rw [hd.out, hc])⟩
        case round =>
          obtain ⟨j, hj1, hj2, rfl, hj3, HJ⟩ := hrel
          by_cases hjlt : j < s.size
          · have hdj := Lib.hid (bytes_drop s j hjlt)
            by_cases h10 : s[j] = 10
            · have hc2 : ((s[j].toNat : Int) != 10) = false := by have := (u8_test s[j] 10).2 h10; simpa using this
              have hkj : k < j := by
                rcases hj3 with rfl | h
                · rw [hc] at h10; exact absurd h10 (by decide)
                · exact h
              clear hc1 hj3
              go_wp2_with (go_at_call 31; refine (span_at 39 isBlank blank_fn s j _ hm (by omega)).mono ?_; rintro e w' ⟨g2, rfl, hg2, HG, rfl⟩)
              go_round
              case rel => exact ⟨j + g2, hg2, by go_num, gapAt_again HJ.out (.inr ⟨_, by rw [hdj.out, h10]⟩) HG.out⟩
              case measure => simp [intOf]; omega
            · have hc2 : ((s[j].toNat : Int) != 10) = true := by
                have : ¬ ((s[j].toNat : Int) == 10) = true := fun e => h10 ((u8_test s[j] 10).1 e)
                simpa using this
              clear hc1 hj3
              go_wp2_with fail
              go_round
              case rel => exact ⟨j + 1, by omega, by omega, by go_num, .inr (by omega), gapIn_step HJ.out hdj.out h10⟩
              case measure => simp [intOf]; omega
          · have hkj : k < j := by omega
            clear hc1 hj3
            go_wp2_with (go_at_call 31; refine (span_at 39 isBlank blank_fn s j _ hm (by omega)).mono ?_; rintro e w' ⟨g2, rfl, hg2, HG, rfl⟩)
            go_round
            case rel => exact ⟨j + g2, hg2, by go_num, gapAt_again HJ.out (.inl (bytes_end s j (by omega))) HG.out⟩
            case measure => simp [intOf]; omega
      · have hc1 : ((s[k].toNat : Int) == 35) = false := by
          have : ¬ ((s[k].toNat : Int) == 35) = true := fun e => hc ((u8_test s[k] 35).1 e)
          simpa using this
        go_wp2_with fail
        go_ret
        exact ⟨ret_int (by rw [gapAt_done HK.out (fun c r h => by rw [hd.out] at h; cases h; exact hc)]), rfl⟩
    · go_wp2_with fail
      go_ret
      exact ⟨ret_int (by rw [gapAt_done HK.out (fun c r h => by rw [bytes_end s k (by omega)] at h; cases h)]), rfl⟩

/-! ### names and numbers -/
theorem spanN_all (p : UInt8 → Bool) (l : Bytes) : (spanN p l = l.length) ↔ l.all p = true := by
  constructor
  · intro h
    have h2 := take_takeWhile p l
    unfold spanN at h
    rw [h, List.take_length] at h2
    rw [h2]; exact all_takeWhile p l
  · intro h; unfold spanN; rw [takeWhile_all p l h]

theorem int_beq_nat (a b : Nat) : ((a : Int) == (b : Int)) = decide (a = b) := by
  rw [Bool.eq_iff_iff]; simp; omega

set_option maxHeartbeats 1000000 in
theorem name_any (s : ByteArray) (w : World) (hs : s.size ≤ maxLen) :
    Calls Tryd.prog 22 #[.string s] w fun e w' => e = .returned (.bool (nameOk s.data.toList)) ∧ w = w' := by
  have hm := hs
  unfold maxLen at hs
  by_cases h0 : 0 < s.size
  · have hd := bytes_drop s 0 h0
    rw [List.drop_zero] at hd
    have HD := Lib.hid hd; clear hd
    have he : s.toList.isEmpty = false := by rw [Lib.toList_data, HD.out]; rfl
    have hL : s.data.toList.length = s.size := bytes_len s
    have HL := Lib.hid hL; clear hL
    have HN : Hid (nameOk s.data.toList = (isLetter s[0] && decide (s.size ≤ 20) && s.data.toList.all isInner)) := by
      show _ = _
      rw [← HL.out]
      conv => lhs; rw [HD.out]
      rw [nameOk, ← HD.out]
    cases hl : isLetter s[0] with
    | false =>
      have HH := Lib.hid hl; clear hl
      go_enter Tryd.func22, Tryd.ntmps22
      go_wp2_with (go_at_call 36; refine (letter_calls _ _).mono ?_; rintro e w' ⟨rfl, rfl⟩; rw [HH.out])
      go_ret
      exact ⟨ret_bool (by rw [HN.out, HH.out]; rfl), rfl⟩
    | true =>
      have HH := Lib.hid hl; clear hl
      by_cases h20 : s.size ≤ 20
      · go_enter Tryd.func22, Tryd.ntmps22
        go_wp2_with (first | (go_at_call 36; refine (letter_calls _ _).mono ?_; rintro e w' ⟨rfl, rfl⟩; rw [HH.out]) | (go_at_call 31; refine (span_all 37 isInner inner_fn s _ hm).mono ?_; rintro e w' ⟨g, rfl, hg, HG, rfl⟩))
        go_ret
        refine ⟨ret_bool ?_, rfl⟩
        rw [HN.out, HH.out, decide_eq_true h20, Bool.true_and, Bool.true_and, Bool.eq_iff_iff, ← spanN_all, HG.out, HL.out]
        simp; omega
      · go_enter Tryd.func22, Tryd.ntmps22
        go_wp2_with (first | (go_at_call 36; refine (letter_calls _ _).mono ?_; rintro e w' ⟨rfl, rfl⟩; rw [HH.out]))
        go_ret
        exact ⟨ret_bool (by rw [HN.out, HH.out, decide_eq_false h20]; rfl), rfl⟩
  · have hd := bytes_end s 0 (by omega)
    rw [List.drop_zero] at hd
    have HD := Lib.hid hd; clear hd
    have he : s.toList.isEmpty = true := by rw [Lib.toList_data, HD.out]; rfl
    go_enter Tryd.func22, Tryd.ntmps22
    go_wp2_with fail
    go_ret
    exact ⟨ret_bool (by rw [HD.out]; rfl), rfl⟩

theorem numVal_snoc (l : Bytes) (c : UInt8) : numVal (l ++ [c]) = 10 * numVal l + (c.toNat - 48) := by simp [numVal]
theorem numVal_lt (l : Bytes) (h : l.all isDigit = true) : numVal l < 10 ^ l.length := by
  have : ∀ n (l : Bytes), l.length = n → l.all isDigit = true → numVal l < 10 ^ n := by
    intro n
    induction n with
    | zero => intro l hl _; have := List.length_eq_zero_iff.1 hl; subst this; simp [numVal]
    | succ n ih =>
      intro l hl ha
      have hne : l ≠ [] := by rintro rfl; simp at hl
      have hsplit := List.dropLast_concat_getLast hne
      have hlast : isDigit (l.getLast hne) = true := by
        rw [List.all_eq_true] at ha; exact ha _ (List.getLast_mem hne)
      have hfront : l.dropLast.all isDigit = true := by
        rw [List.all_eq_true] at ha ⊢; exact fun x hx => ha x (List.dropLast_subset _ hx)
      have h1 := ih l.dropLast (by simp; omega) hfront
      rw [← hsplit, numVal_snoc]
      simp [isDigit] at hlast
      rw [Nat.pow_succ]; omega
  exact this _ l rfl h
theorem take_snoc (s : ByteArray) (k : Nat) (h : k < s.size) : s.data.toList.take (k + 1) = s.data.toList.take k ++ [s[k]] := by
  rw [List.take_succ_eq_append_getElem (by simpa using h)]; rfl
theorem pow13 {k : Nat} (h : k ≤ 13) : 10 ^ k ≤ 10000000000000 := by
  have : 10 ^ k ≤ 10 ^ 13 := Nat.pow_le_pow_right (by decide) h
  simpa using this

/-- 'span' over a string that is all of a kind, or is not. -/
theorem span_full (f : Nat) (p : UInt8 → Bool) (hf : ByteFn f p) (s : ByteArray) (w : World) (hs : s.size ≤ maxLen) (ha : s.data.toList.all p = true) :
    Calls Tryd.prog 31 #[.string s, .func (.func f) #[] #[]] w fun e w' => e = .returned (.int .i64 s.size) ∧ w = w' := by
  refine (span_any f p hf s w hs).mono ?_
  rintro e w' ⟨rfl, rfl⟩
  exact ⟨ret_int (by rw [(spanN_all p _).2 ha, bytes_len]), rfl⟩
theorem span_short (f : Nat) (p : UInt8 → Bool) (hf : ByteFn f p) (s : ByteArray) (w : World) (hs : s.size ≤ maxLen) (ha : s.data.toList.all p = false) :
    Calls Tryd.prog 31 #[.string s, .func (.func f) #[] #[]] w fun e w' => ∃ g : Nat, e = .returned (.int .i64 g) ∧ ((g : Int) != (s.size : Int)) = true ∧ w = w' := by
  refine (span_any f p hf s w hs).mono ?_
  rintro e w' ⟨rfl, rfl⟩
  refine ⟨_, rfl, ?_, rfl⟩
  have h1 := spanN_le p s.data.toList
  rw [bytes_len] at h1
  rcases Nat.lt_or_ge (spanN p s.data.toList) s.size with h | h
  · rw [bne_iff_ne]; omega
  · have := (spanN_all p s.data.toList).1 (by rw [bytes_len]; omega)
    rw [ha] at this; cases this

def numRes (l : Bytes) : Value := .tuple #[.int .i64 ((numOf l).getD 0 : Nat), .bool (numOf l).isSome]
theorem numRes_none {l : Bytes} (h : numOf l = none) : numRes l = .tuple #[.int .i64 0, .bool false] := by simp [numRes, h]
theorem numRes_some {l : Bytes} {n : Nat} (h : numOf l = some n) : numRes l = .tuple #[.int .i64 n, .bool true] := by simp [numRes, h]

set_option maxHeartbeats 1000000 in
theorem number_any (s : ByteArray) (w : World) (hs : s.size ≤ maxLen) :
    Calls Tryd.prog 17 #[.string s] w fun e w' => e = .returned (numRes s.data.toList) ∧ w = w' := by
  have hm := hs
  unfold maxLen at hs
  by_cases h0 : 0 < s.size
  · have hd := bytes_drop s 0 h0
    rw [List.drop_zero] at hd
    have HD := Lib.hid hd; clear hd
    have he : s.toList.isEmpty = false := by rw [Lib.toList_data, HD.out]; rfl
    have hL : s.data.toList.length = s.size := bytes_len s
    have HL := Lib.hid hL; clear hL
    have hne : s.data.toList ≠ [] := by rw [HD.out]; simp
    have HNE := Lib.hid hne; clear hne
    cases ha : s.data.toList.all isDigit with
    | false =>
      have HA := Lib.hid ha; clear ha
      go_enter Tryd.func17, Tryd.ntmps17
      go_wp2_with (go_at_call 31; refine (span_short 32 isDigit digit_fn s _ hm HA.out).mono ?_; rintro e w' ⟨g, rfl, hg, rfl⟩)
      go_ret2
      exact ⟨by rw [numRes_none (by unfold numOf; rw [if_pos (.inr (.inl HA.out))])]; rfl, rfl⟩
    | true =>
      have HA := Lib.hid ha; clear ha
      have hdig : ∀ k (h : k < s.size), 48 ≤ s[k].toNat ∧ s[k].toNat ≤ 57 := by
        intro k h
        have h1 : s[k] ∈ s.data.toList := List.mem_of_getElem? (bytes_get s k h)
        have h2 := List.all_eq_true.1 HA.out _ h1
        simpa [isDigit] using h2
      have HDG := Lib.hid hdig; clear hdig
      by_cases hz : s[0] = 48 ∧ s.data.toList ≠ [48]
      · have hz1 : ((s[0].toNat : Int) == 48) = true := (u8_test _ 48).2 hz.1
        have hz2 : (s.toList == [48]) = false := by rw [Lib.toList_data]; simpa using hz.2
        have HZ := Lib.hid hz; clear hz
        go_enter Tryd.func17, Tryd.ntmps17
        go_wp2_with (go_at_call 31; refine (span_full 32 isDigit digit_fn s _ hm HA.out).mono ?_; rintro e w' ⟨rfl, rfl⟩)
        go_ret2
        exact ⟨by rw [numRes_none (by unfold numOf; rw [if_pos (.inr (.inr (.inl ⟨by rw [HD.out, HZ.out.1]; rfl, HZ.out.2⟩)))])]; rfl, rfl⟩
      · by_cases h13 : s.size ≤ 13
        · have hno : ¬ (s.data.toList = [] ∨ s.data.toList.all isDigit = false ∨ (s.data.toList.head? = some 48 ∧ s.data.toList ≠ [48]) ∨ 13 < s.data.toList.length) := by
            rintro (h | h | h | h)
            · exact HNE.out h
            · rw [HA.out] at h; cases h
            · refine hz ⟨?_, h.2⟩
              have := h.1; rw [HD.out] at this; simpa using this
            · rw [HL.out] at h; omega
          have HNO := Lib.hid hno; clear hno
          have hloop : ∀ (z1 : Bool) (z2 : Bool), ((s[0].toNat : Int) == 48) = z1 → (z1 = true → (s.toList == [48]) = z2) → (z1 && !z2) = false →
              Calls Tryd.prog 17 #[.string s] w fun e w' => e = .returned (numRes s.data.toList) ∧ w = w' := by
            intro z1 z2 e1 e2 e3
            have HZ : Hid (z1 = true → (s.toList == [48]) = z2) := e2
            clear e2
            cases z1 with
            | false =>
              clear e3 HZ hz
              go_enter Tryd.func17, Tryd.ntmps17
              go_wp2_with (go_at_call 31; refine (span_full 32 isDigit digit_fn s _ hm HA.out).mono ?_; rintro e w' ⟨rfl, rfl⟩)
              go_loop [4, 31] (fun n i => ∃ k m : Nat, k ≤ s.size ∧ i = .int .i64 k ∧ n = .int .i64 m ∧ Hid (m = numVal (s.data.toList.take k))) (fun _ i => s.size - (intOf i).toNat)
              case atStart => exact ⟨0, 0, Nat.zero_le _, rfl, rfl, rfl⟩
              case round =>
                obtain ⟨k, m, hk, rfl, rfl, HM⟩ := hrel
                have hbd : m ≤ 10000000000000 := by
                  rw [HM.out]
                  have h1 := numVal_lt (s.data.toList.take k) (by
                    rw [List.all_eq_true]; exact fun x hx => List.all_eq_true.1 HA.out x (List.take_subset _ _ hx))
                  have h2 := pow13 (k := (s.data.toList.take k).length) (by simp; omega)
                  omega
                by_cases hlt : k < s.size
                · have hb1 := (HDG.out k hlt).1
                  have hb2 := (HDG.out k hlt).2
                  have hb3 : (48 : Int) ≤ (s[k].toNat : Int) := by omega
                  have hb4 : (s[k].toNat : Int) ≤ 57 := by omega
                  clear hb1 hb2
                  go_wp2_with fail
                  go_round
                  case rel => exact ⟨k + 1, 10 * m + (s[k].toNat - 48), by omega, by go_num, by rw [show ((10 * m + (s[k].toNat - 48) : Nat) : Int) = 10 * (m : Int) + ((s[k].toNat : Int) - 48) from by omega], by show _ = _; rw [take_snoc s k hlt, numVal_snoc, ← HM.out]⟩
                  case measure => simp [intOf]; omega
                · have hfin : Hid (m = numVal s.data.toList) := by
                    have := HM.out; rw [List.take_of_length_le (by simp; omega)] at this; exact this
                  clear HM
                  by_cases hbig : m ≤ 1099511627776
                  · go_wp2_with fail
                    go_ret2
                    exact ⟨by rw [numRes_some (n := m) (by unfold numOf; rw [if_neg HNO.out, if_neg (by rw [← hfin.out]; omega), ← hfin.out])]; rfl, rfl⟩
                  · go_wp2_with fail
                    go_ret2
                    exact ⟨by rw [numRes_none (by unfold numOf; rw [if_neg HNO.out, if_pos (by rw [← hfin.out]; omega)])]; rfl, rfl⟩
            | true =>
              have hz2 : (s.toList == [48]) = true := by rw [HZ.out rfl]; simpa using e3
              clear e3 HZ hz
              go_enter Tryd.func17, Tryd.ntmps17
              go_wp2_with (go_at_call 31; refine (span_full 32 isDigit digit_fn s _ hm HA.out).mono ?_; rintro e w' ⟨rfl, rfl⟩)
              go_loop [4, 31] (fun n i => ∃ k m : Nat, k ≤ s.size ∧ i = .int .i64 k ∧ n = .int .i64 m ∧ Hid (m = numVal (s.data.toList.take k))) (fun _ i => s.size - (intOf i).toNat)
              case atStart => exact ⟨0, 0, Nat.zero_le _, rfl, rfl, rfl⟩
              case round =>
                obtain ⟨k, m, hk, rfl, rfl, HM⟩ := hrel
                have hbd : m ≤ 10000000000000 := by
                  rw [HM.out]
                  have h1 := numVal_lt (s.data.toList.take k) (by
                    rw [List.all_eq_true]; exact fun x hx => List.all_eq_true.1 HA.out x (List.take_subset _ _ hx))
                  have h2 := pow13 (k := (s.data.toList.take k).length) (by simp; omega)
                  omega
                by_cases hlt : k < s.size
                · have hb1 := (HDG.out k hlt).1
                  have hb2 := (HDG.out k hlt).2
                  have hb3 : (48 : Int) ≤ (s[k].toNat : Int) := by omega
                  have hb4 : (s[k].toNat : Int) ≤ 57 := by omega
                  clear hb1 hb2
                  go_wp2_with fail
                  go_round
                  case rel => exact ⟨k + 1, 10 * m + (s[k].toNat - 48), by omega, by go_num, by rw [show ((10 * m + (s[k].toNat - 48) : Nat) : Int) = 10 * (m : Int) + ((s[k].toNat : Int) - 48) from by omega], by show _ = _; rw [take_snoc s k hlt, numVal_snoc, ← HM.out]⟩
                  case measure => simp [intOf]; omega
                · have hfin : Hid (m = numVal s.data.toList) := by
                    have := HM.out; rw [List.take_of_length_le (by simp; omega)] at this; exact this
                  clear HM
                  by_cases hbig : m ≤ 1099511627776
                  · go_wp2_with fail
                    go_ret2
                    exact ⟨by rw [numRes_some (n := m) (by unfold numOf; rw [if_neg HNO.out, if_neg (by rw [← hfin.out]; omega), ← hfin.out])]; rfl, rfl⟩
                  · go_wp2_with fail
                    go_ret2
                    exact ⟨by rw [numRes_none (by unfold numOf; rw [if_neg HNO.out, if_pos (by rw [← hfin.out]; omega)])]; rfl, rfl⟩
          refine hloop _ _ rfl (fun _ => rfl) ?_
          rw [Bool.and_eq_false_iff]
          by_cases h48 : s[0] = 48
          · right
            have : s.data.toList = [48] := Classical.byContradiction fun hh => hz ⟨h48, hh⟩
            rw [Lib.toList_data, this]; rfl
          · left
            have : ¬ ((s[0].toNat : Int) == 48) = true := fun e => h48 ((u8_test s[0] 48).1 e)
            simpa using this
        · have hbig : numOf s.data.toList = none := by unfold numOf; rw [if_pos (.inr (.inr (.inr (by rw [HL.out]; omega))))]
          have HB := Lib.hid hbig; clear hbig
          by_cases h48 : s[0] = 48
          · have h2 : s.data.toList = [48] := Classical.byContradiction fun hh => hz ⟨h48, hh⟩
            have := HL.out; rw [h2] at this; simp at this; omega
          · have hz1 : ((s[0].toNat : Int) == 48) = false := by
              have : ¬ ((s[0].toNat : Int) == 48) = true := fun e => h48 ((u8_test s[0] 48).1 e)
              simpa using this
            clear hz h48
            go_enter Tryd.func17, Tryd.ntmps17
            go_wp2_with (go_at_call 31; refine (span_full 32 isDigit digit_fn s _ hm HA.out).mono ?_; rintro e w' ⟨rfl, rfl⟩)
            go_ret2
            exact ⟨by rw [numRes_none HB.out]; rfl, rfl⟩
  · have hd := bytes_end s 0 (by omega)
    rw [List.drop_zero] at hd
    have HD := Lib.hid hd; clear hd
    have he : s.toList.isEmpty = true := by rw [Lib.toList_data, HD.out]; rfl
    go_enter Tryd.func17, Tryd.ntmps17
    go_wp2_with fail
    go_ret2
    exact ⟨by rw [HD.out, numRes_none rfl]; rfl, rfl⟩

end Go.Proofs.YtekaplogeogbjaaDoor
