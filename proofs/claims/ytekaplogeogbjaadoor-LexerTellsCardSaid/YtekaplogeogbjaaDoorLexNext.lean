/- Walk: the token at the head of a string. -/
import Derived.Test.YtekaplogeogbjaaDoorLexUnq
namespace Go.Proofs.YtekaplogeogbjaaDoor
open Go.RowKit

def signVals : List Value := signBytes.map fun c => .int .u8 c.toNat
/-- The table of signs lies in memory. -/
structure SignsIn (w : World) : Prop where
  lt : 0 < w.heap.size
  cell : ∀ j v, signVals[j]? = some v → w.cell? ⟨0, 0 + j, none⟩ = some v
theorem SignsIn.keep {w w' : World} (h : SignsIn w) (hb : Below w.heap.size w w') : SignsIn w' :=
  ⟨Nat.lt_of_lt_of_le h.lt hb.size, fun j v hj => by rw [hb.cell h.lt]; exact h.cell j v hj⟩

def tokCells (t : Tok) : List Value := [.int .i64 t.kind, .string ⟨t.text.toArray⟩, .int .i64 t.n, .int .i64 t.pos]
def tokVal (t : Tok) : Value := .agg (tokCells t).toArray
def noTok : Value := .agg #[.int .i64 0, .string ⟨#[]⟩, .int .i64 0, .int .i64 0]
def nextRes (l : Bytes) : Value := match nextT l with
  | .ok x => .tuple #[tokVal x.1, .int .i64 x.2, .int .i64 0]
  | .error e => .tuple #[noTok, .int .i64 0, .int .i64 e]
theorem nextRes_ok {l : Bytes} {t : Tok} {n : Nat} (h : nextT l = .ok (t, n)) : nextRes l = .tuple #[tokVal t, .int .i64 n, .int .i64 0] := by simp [nextRes, h]
theorem nextRes_err {l : Bytes} {e : Nat} (h : nextT l = .error e) : nextRes l = .tuple #[noTok, .int .i64 0, .int .i64 e] := by simp [nextRes, h]

theorem front_span {p : UInt8 → Bool} {s : ByteArray} {g : Nat} (h : spanN p s.data.toList = g) : (s.extract 0 g).data.toList = s.data.toList.takeWhile p := by
  rw [ext_front, ← h]; exact take_takeWhile p _

theorem signVals_len : signVals.length = 13 := rfl
theorem sign_index : ∀ (k : Nat), k < 13 → ∀ w : World, (Instr.index 50 (.agg signVals.toArray) (.int .i64 k)).run Tryd.prog w = .ok (.int .u8 (signBytes.getD k 0).toNat) w
  | 0, _, _ => by kernel_rfl
  | 1, _, _ => by kernel_rfl
  | 2, _, _ => by kernel_rfl
  | 3, _, _ => by kernel_rfl
  | 4, _, _ => by kernel_rfl
  | 5, _, _ => by kernel_rfl
  | 6, _, _ => by kernel_rfl
  | 7, _, _ => by kernel_rfl
  | 8, _, _ => by kernel_rfl
  | 9, _, _ => by kernel_rfl
  | 10, _, _ => by kernel_rfl
  | 11, _, _ => by kernel_rfl
  | 12, _, _ => by kernel_rfl
  | k + 13, h, _ => by omega

theorem sign_yes {c : UInt8} {k : Nat} (hk : k < 13) (h : signBytes.getD k 0 = c) : isSign c = true := by
  subst h
  unfold isSign
  rw [List.contains_eq_mem, decide_eq_true_eq]
  have : k < signBytes.length := hk
  rw [List.getD_eq_getElem?_getD, List.getElem?_eq_getElem this]
  exact List.getElem_mem _
theorem sign_no {c : UInt8} (h : ∀ j, j < 13 → signBytes.getD j 0 ≠ c) : isSign c = false := by
  unfold isSign
  rw [List.contains_eq_mem, decide_eq_false_iff_not]
  intro hm
  obtain ⟨j, hj, e⟩ := List.getElem_of_mem hm
  refine h j hj ?_
  rw [List.getD_eq_getElem?_getD, List.getElem?_eq_getElem hj]; exact e

set_option maxHeartbeats 2000000 in
theorem next_letter (s : ByteArray) (w : World) (hs : s.size ≤ 137438953472) (h0 : 0 < s.size) (hL : isLetter s[0] = true) :
    Calls Tryd.prog 26 #[.string s] w fun e w' => e = .returned (nextRes s.data.toList) ∧ Below w.heap.size w w' := by
  have hm : s.size ≤ maxLen := by unfold maxLen; omega
  have hd := bytes_drop s 0 h0
  rw [List.drop_zero] at hd
  have HD := Lib.hid hd; clear hd
  have HLt := Lib.hid hL; clear hL
  cases hn : nameOk (s.data.toList.takeWhile isInner) with
  | true =>
    have HN := Lib.hid hn; clear hn
    have hx : nextT s.data.toList = .ok (⟨0, s.data.toList.takeWhile isInner, 0, 0⟩, (s.data.toList.takeWhile isInner).length) := by
      rw [HD.out, nextT, if_pos HLt.out, ← HD.out, if_pos HN.out]
    have HR := Lib.hid (nextRes_ok hx); clear hx
    go_enter Tryd.func26, Tryd.ntmps26
    go_wp2_with fail
    refine (letter_calls _ _).mono ?_; rintro e w' ⟨rfl, rfl⟩; rw [HLt.out]
    go_wp2_with fail
    refine (span_all 37 isInner inner_fn s _ hm).mono ?_; rintro e w' ⟨g, rfl, hg, HG, rfl⟩
    have hfr := Lib.hid (front_span HG.out)
    have hlen : Hid ((s.data.toList.takeWhile isInner).length = g) := HG.out
    clear HG
    go_wp2_with fail
    refine (name_any _ _ (by unfold maxLen; simp; omega)).mono ?_; rintro e w' ⟨rfl, rfl⟩; rw [hfr.out, HN.out]
    go_wp2_with fail
    go_returns
    refine ⟨?_, ?_⟩
    · rw [HR.out, hlen.out]
      have hb := mk_bytes _ hfr.out
      simp [tokVal, tokCells, hb]
    · go_grown
  | false =>
    have HN := Lib.hid hn; clear hn
    have hx : nextT s.data.toList = .error 3 := by
      rw [HD.out, nextT, if_pos HLt.out, ← HD.out, if_neg (by rw [HN.out]; simp)]
    have HR := Lib.hid (nextRes_err hx); clear hx
    go_enter Tryd.func26, Tryd.ntmps26
    go_wp2_with fail
    refine (letter_calls _ _).mono ?_; rintro e w' ⟨rfl, rfl⟩; rw [HLt.out]
    go_wp2_with fail
    refine (span_all 37 isInner inner_fn s _ hm).mono ?_; rintro e w' ⟨g, rfl, hg, HG, rfl⟩
    have hfr := Lib.hid (front_span HG.out)
    clear HG
    go_wp2_with fail
    refine (name_any _ _ (by unfold maxLen; simp; omega)).mono ?_; rintro e w' ⟨rfl, rfl⟩; rw [hfr.out, HN.out]
    go_wp2_with fail
    go_returns
    refine ⟨?_, ?_⟩
    · rw [HR.out]; rfl
    · go_grown

set_option maxHeartbeats 2000000 in
theorem next_digit (s : ByteArray) (w : World) (hs : s.size ≤ 137438953472) (h0 : 0 < s.size) (hL : isLetter s[0] = false) (hD : isDigit s[0] = true) :
    Calls Tryd.prog 26 #[.string s] w fun e w' => e = .returned (nextRes s.data.toList) ∧ Below w.heap.size w w' := by
  have hm : s.size ≤ maxLen := by unfold maxLen; omega
  have hd := bytes_drop s 0 h0
  rw [List.drop_zero] at hd
  have HD := Lib.hid hd; clear hd
  have HLt := Lib.hid hL; clear hL
  have HDt := Lib.hid hD; clear hD
  have hif : nextT s.data.toList = (match numOf (s.data.toList.takeWhile isDigit) with | none => .error 3 | some n => .ok (⟨1, s.data.toList.takeWhile isDigit, n, 0⟩, (s.data.toList.takeWhile isDigit).length)) := by
    rw [HD.out, nextT, if_neg (by rw [HLt.out]; simp), if_pos HDt.out]
    rfl
  cases hn : numOf (s.data.toList.takeWhile isDigit) with
  | some n =>
    have HN := Lib.hid (numRes_some hn)
    have HR := Lib.hid (nextRes_ok (hif.trans (by rw [hn]))); clear hn hif
    go_enter Tryd.func26, Tryd.ntmps26
    go_wp2_with fail
    refine (letter_calls _ _).mono ?_; rintro e w' ⟨rfl, rfl⟩; rw [HLt.out]
    go_wp2_with fail
    refine (digit_calls _ _).mono ?_; rintro e w' ⟨rfl, rfl⟩; rw [HDt.out]
    go_wp2_with fail
    refine (span_all 32 isDigit digit_fn s _ hm).mono ?_; rintro e w' ⟨g, rfl, hg, HG, rfl⟩
    have hfr := Lib.hid (front_span HG.out)
    have hlen : Hid ((s.data.toList.takeWhile isDigit).length = g) := HG.out
    clear HG
    go_wp2_with fail
    refine (number_any _ _ (by unfold maxLen; simp; omega)).mono ?_; rintro e w' ⟨rfl, rfl⟩; rw [hfr.out, HN.out]
    go_wp2_with fail
    go_returns
    refine ⟨?_, ?_⟩
    · rw [HR.out, hlen.out]
      have hb := mk_bytes _ hfr.out
      simp [tokVal, tokCells, hb]
    · go_grown
  | none =>
    have HN := Lib.hid (numRes_none hn)
    have HR := Lib.hid (nextRes_err (hif.trans (by rw [hn]))); clear hn hif
    go_enter Tryd.func26, Tryd.ntmps26
    go_wp2_with fail
    refine (letter_calls _ _).mono ?_; rintro e w' ⟨rfl, rfl⟩; rw [HLt.out]
    go_wp2_with fail
    refine (digit_calls _ _).mono ?_; rintro e w' ⟨rfl, rfl⟩; rw [HDt.out]
    go_wp2_with fail
    refine (span_all 32 isDigit digit_fn s _ hm).mono ?_; rintro e w' ⟨g, rfl, hg, HG, rfl⟩
    have hfr := Lib.hid (front_span HG.out)
    clear HG
    go_wp2_with fail
    refine (number_any _ _ (by unfold maxLen; simp; omega)).mono ?_; rintro e w' ⟨rfl, rfl⟩; rw [hfr.out, HN.out]
    go_wp2_with fail
    go_returns
    refine ⟨?_, ?_⟩
    · rw [HR.out]; rfl
    · go_grown

theorem quotedT_pos {l v : Bytes} {n : Nat} (h : quotedT l = some (v, n)) : 1 ≤ n := by
  unfold quotedT at h
  split at h
  · cases h
  · split at h
    · cases h
    · cases h; simp

set_option maxHeartbeats 2000000 in
theorem next_string (s : ByteArray) (w : World) (hs : s.size ≤ 137438953472) (h0 : 0 < s.size) (hL : isLetter s[0] = false) (hD : isDigit s[0] = false) (hQ : s[0] = 34) :
    Calls Tryd.prog 26 #[.string s] w fun e w' => e = .returned (nextRes s.data.toList) ∧ Below w.heap.size w w' := by
  have hm : s.size ≤ maxLen := by unfold maxLen; omega
  have hd := bytes_drop s 0 h0
  rw [List.drop_zero] at hd
  have HD := Lib.hid hd; clear hd
  have HLt := Lib.hid hL; clear hL
  have HDt := Lib.hid hD; clear hD
  have e1 := u8_beq (n := 34) rfl hQ
  have hif : nextT s.data.toList = (match quotedT s.data.toList with | none => .error 2 | some p => .ok (⟨2, p.1, 0, 0⟩, p.2)) := by
    rw [HD.out, nextT, if_neg (by rw [HLt.out]; simp), if_neg (by rw [HDt.out]; simp), if_pos hQ]
    rfl
  clear hQ
  cases hn : quotedT s.data.toList with
  | some p =>
    obtain ⟨v, n⟩ := p
    have HN := Lib.hid (quotedRes_yes hn)
    have hpos := quotedT_pos hn
    have e2 : ((n : Int) == 0) = false := by simp; omega
    have HR := Lib.hid (nextRes_ok (hif.trans (by rw [hn]))); clear hn hif
    go_enter Tryd.func26, Tryd.ntmps26
    go_wp2_with fail
    refine (letter_calls _ _).mono ?_; rintro e w' ⟨rfl, rfl⟩; rw [HLt.out]
    go_wp2_with fail
    refine (digit_calls _ _).mono ?_; rintro e w' ⟨rfl, rfl⟩; rw [HDt.out]
    go_wp2_with fail
    refine (quoted_any s _ hs h0).mono ?_; rintro e w' ⟨rfl, hb⟩; rw [HN.out]
    have hk := hb.block w.heap.size (by simp)
    rw [heap_new] at hk
    have HK := Lib.hid hk; clear hk
    have hsz := size_new hb
    have HB := Lib.hid (below_new hb); clear hb
    go_wp2_with (refine wpList_store_box rfl 32 (.tmp 2) _ rfl w.heap.size _ rfl rfl 32 _ HK.out (by kernel_rfl) rfl rfl ?_; intro w2 hk2 hg2 hs2; have HK2 := Lib.hid hk2; have HG2 := Lib.hid hg2; clear hk2 hg2)
    refine bodyPost_ret (results_box3 rfl _ _ w.heap.size 32 _ _ _ rfl HK2.out Tryd.underlying32 rfl (by kernel_rfl)) rfl ⟨?_, ?_⟩
    · rw [HR.out]; rfl
    · exact HB.out.trans (grown_box HG2.out (Nat.le_refl _) hsz)
  | none =>
    have HN := Lib.hid (quotedRes_no hn)
    have HR := Lib.hid (nextRes_err (hif.trans (by rw [hn]))); clear hn hif
    go_enter Tryd.func26, Tryd.ntmps26
    go_wp2_with fail
    refine (letter_calls _ _).mono ?_; rintro e w' ⟨rfl, rfl⟩; rw [HLt.out]
    go_wp2_with fail
    refine (digit_calls _ _).mono ?_; rintro e w' ⟨rfl, rfl⟩; rw [HDt.out]
    go_wp2_with fail
    refine (quoted_any s _ hs h0).mono ?_; rintro e w' ⟨rfl, hb⟩; rw [HN.out]
    have hk := hb.block w.heap.size (by simp)
    rw [heap_new] at hk
    have HK := Lib.hid hk; clear hk
    have hsz := size_new hb
    have HB := Lib.hid (below_new hb); clear hb
    go_wp2_with (refine wpList_store_box rfl 32 (.tmp 2) _ rfl w.heap.size _ rfl rfl 32 _ HK.out (by kernel_rfl) rfl rfl ?_; intro w2 hk2 hg2 hs2; have HK2 := Lib.hid hk2; have HG2 := Lib.hid hg2; clear hk2 hg2)
    refine bodyPost_ret (results_box3 rfl _ _ w.heap.size 32 _ _ _ rfl HK2.out Tryd.underlying32 rfl (by kernel_rfl)) rfl ⟨?_, ?_⟩
    · rw [HR.out]; rfl
    · exact HB.out.trans (grown_box HG2.out (Nat.le_refl _) hsz)


set_option maxHeartbeats 4000000 in
theorem next_sign (s : ByteArray) (w : World) (hs : s.size ≤ 137438953472) (h0 : 0 < s.size) (hsig : SignsIn w) (hL : isLetter s[0] = false) (hD : isDigit s[0] = false) (hQ : s[0] ≠ 34) :
    Calls Tryd.prog 26 #[.string s] w fun e w' => e = .returned (nextRes s.data.toList) ∧ Below w.heap.size w w' := by
  have hd := bytes_drop s 0 h0
  rw [List.drop_zero] at hd
  have HD := Lib.hid hd; clear hd
  have HLt := Lib.hid hL; clear hL
  have HDt := Lib.hid hD; clear hD
  have e1 := u8_bne (n := 34) rfl hQ
  have hif : nextT s.data.toList = if isSign s[0] then .ok (⟨3, [s[0]], 0, 0⟩, 1) else .error 10 := by
    rw [HD.out, nextT, if_neg (by rw [HLt.out]; simp), if_neg (by rw [HDt.out]; simp), if_neg hQ]
  have HIF := Lib.hid hif; clear hif hQ
  have hsig1 := hsig.keep ((Below.refl _ w).alloc (Nat.le_refl _) (.cells #[.int .i64 0, .string ⟨#[]⟩, .int .i64 0, .int .i64 0] 32))
  have HSG := Lib.hid hsig1.cell; clear hsig1 hsig
  go_enter Tryd.func26, Tryd.ntmps26
  go_wp2_with fail
  refine (letter_calls _ _).mono ?_; rintro e w' ⟨rfl, rfl⟩; rw [HLt.out]
  go_wp2_with fail
  refine (digit_calls _ _).mono ?_; rintro e w' ⟨rfl, rfl⟩; rw [HDt.out]
  go_wp2_with (refine wpList_load_cells rfl 50 (.global 0) rfl 0 0 rfl signVals _ HSG.out Tryd.underlying50 rfl (by kernel_rfl) ?_)
  go_loop [66] (fun i => ∃ k : Nat, k ≤ 13 ∧ i = .int .i64 k ∧ Hid (∀ j, j < k → signBytes.getD j 0 ≠ s[0])) (fun i => 13 - (intOf i).toNat)
  case atStart => exact ⟨0, by omega, rfl, fun j hj => by omega⟩
  case round =>
    obtain ⟨k, hk, rfl, HN⟩ := hrel
    by_cases hlt : k < 13
    · have hix := sign_index k hlt
      obtain ⟨c, hc⟩ : ∃ c, c = signBytes.getD k 0 := ⟨_, rfl⟩
      rw [← hc] at hix
      have HC := Lib.hid hc; clear hc
      by_cases hh : s[0] = c
      · have e2 := u8_beq (n := (c.toNat : Int)) rfl hh
        have HR := Lib.hid (nextRes_ok (HIF.out.trans (by rw [if_pos (sign_yes hlt (by rw [← HC.out, hh]))])))
        clear hh
        have hfr : Hid (s.extract 0 1 = ⟨[s[0]].toArray⟩) := mk_bytes _ (by rw [ext_front, HD.out]; rfl)
        go_wp2_with fail
        go_returns
        refine ⟨?_, ?_⟩
        · rw [HR.out, hfr.out]; rfl
        · go_grown
      · have e2 := u8_bne (n := (c.toNat : Int)) rfl hh
        have HH := Lib.hid hh; clear hh
        go_wp2_with fail
        go_round
        case rel => exact ⟨k + 1, by omega, by go_num, fun j hj => by
          rcases Nat.lt_or_ge j k with h | h
          · exact HN.out j h
          · obtain rfl : j = k := by omega
            rw [← HC.out]; exact fun e => HH.out e.symm⟩
        case measure => simp [intOf]; omega
    · have HR := Lib.hid (nextRes_err (HIF.out.trans (by rw [if_neg (by rw [sign_no (fun j hj => HN.out j (by omega))]; simp)])))
      go_wp2_with fail
      go_returns
      refine ⟨?_, ?_⟩
      · rw [HR.out]; rfl
      · go_grown

theorem next_any (s : ByteArray) (w : World) (hs : s.size ≤ 137438953472) (h0 : 0 < s.size) (hsig : SignsIn w) :
    Calls Tryd.prog 26 #[.string s] w fun e w' => e = .returned (nextRes s.data.toList) ∧ Below w.heap.size w w' := by
  cases hL : isLetter s[0] with
  | true => exact next_letter s w hs h0 hL
  | false =>
    cases hD : isDigit s[0] with
    | true => exact next_digit s w hs h0 hL hD
    | false =>
      by_cases hQ : s[0] = 34
      · exact next_string s w hs h0 hL hD hQ
      · exact next_sign s w hs h0 hsig hL hD hQ
end Go.Proofs.YtekaplogeogbjaaDoor
