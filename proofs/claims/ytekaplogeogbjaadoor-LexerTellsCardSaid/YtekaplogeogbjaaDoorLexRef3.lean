/- Walks: the reference's tokens: the same plain answer, at its offset. -/
import Derived.Test.YtekaplogeogbjaaDoorLexRef2
import Derived.Test.YtekaplogeogbjaaDoorLexSane
namespace Go.Proofs.YtekaplogeogbjaaDoor
open Go.RowKit

theorem takeWhile_at {q : UInt8 → Bool} {d : Bytes} {j : Nat} (ha : (d.take j).all q = true) (hs : ∀ c r, d.drop j = c :: r → q c = false) : d.takeWhile q = d.take j := by
  have := takeWhile_app_stop q (d.take j) (d.drop j) hs
  rw [List.take_append_drop, takeWhile_all _ _ ha] at this; exact this
theorem ext_mid (s : ByteArray) (p j : Nat) : (s.extract p (p + j)).data.toList = (s.data.toList.drop p).take j := by
  rw [Lib.extract_data, show p + j - p = j from by omega]
theorem all_from (s : ByteArray) (p j : Nat) (h : p + j < s.size) (q : UInt8 → Bool) : ((s.data.toList.drop p).take (j + 1)).all q = (((s.data.toList.drop p).take j).all q && q s[p + j]) := by
  have : (s.data.toList.drop p)[j]? = some s[p + j] := by rw [List.getElem?_drop]; exact bytes_get s (p + j) h
  rw [List.take_add_one, this]; simp
theorem stop_here (s : ByteArray) (p j : Nat) (h : p + j < s.size) {q : UInt8 → Bool} (hq : q s[p + j] = false) : ∀ c r, (s.data.toList.drop p).drop j = c :: r → q c = false := by
  intro c r hd
  rw [List.drop_drop, bytes_drop s (p + j) h] at hd
  cases hd; exact hq
theorem stop_end (s : ByteArray) (p j : Nat) (h : s.size ≤ p + j) {q : UInt8 → Bool} : ∀ c r, (s.data.toList.drop p).drop j = c :: r → q c = false := by
  intro c r hd
  rw [List.drop_drop, bytes_end s (p + j) h] at hd
  cases hd

def tokRes (l : Bytes) (p : Nat) : Value := match nextT (l.drop p) with
  | .ok x => .tuple #[tokVal (x.1.at p), .int .i64 (p + x.2 : Nat), .int .i64 0]
  | .error e => .tuple #[noTok, .int .i64 0, .int .i64 e]
theorem tokRes_ok {l : Bytes} {p : Nat} {t : Tok} {n : Nat} (h : nextT (l.drop p) = .ok (t, n)) : tokRes l p = .tuple #[tokVal (t.at p), .int .i64 (p + n : Nat), .int .i64 0] := by simp [tokRes, h]
theorem tokRes_err {l : Bytes} {p e : Nat} (h : nextT (l.drop p) = .error e) : tokRes l p = .tuple #[noTok, .int .i64 0, .int .i64 e] := by simp [tokRes, h]
theorem take_len {d : Bytes} {j n : Nat} (h : d.length = n) (hj : j ≤ n) : (d.take j).length = j := by rw [List.length_take]; omega

set_option maxHeartbeats 8000000 in
theorem refToken_letter (s : ByteArray) (p : Nat) (w : World) (hs : s.size ≤ 137438953472) (hp : p < s.size) (hL : isLetter s[p] = true) :
    Calls Tryd.prog 30 #[.string s, .int .i64 p] w fun e w' => e = .returned (tokRes s.data.toList p) ∧ Below w.heap.size w w' := by
  have hd := bytes_drop s p hp
  have HLt := Lib.hid hL; clear hL
  have HX : Hid (nextT (s.data.toList.drop p) = if nameOk ((s.data.toList.drop p).takeWhile isInner) then .ok (⟨0, (s.data.toList.drop p).takeWhile isInner, 0, 0⟩, ((s.data.toList.drop p).takeWhile isInner).length) else .error 3) := by
    show _ = _
    conv => lhs; rw [hd]
    rw [nextT, if_pos HLt.out, ← hd]
  have HA0 : Hid (((s.data.toList.drop p).take 1).all isInner = true) := by show _ = _; rw [hd]; simp [letter_inner HLt.out]
  clear hd
  go_enter Tryd.func30, Tryd.ntmps30
  go_wp2_with (go_at_call 38; refine (refLetter_calls _ _).mono ?_; rintro e w' ⟨rfl, rfl⟩; rw [HLt.out])
  go_loop [7] (fun i => ∃ j : Nat, 1 ≤ j ∧ p + j ≤ s.size ∧ i = .int .i64 (p + j : Nat) ∧ Hid (((s.data.toList.drop p).take j).all isInner = true)) (fun i => s.size - (intOf i).toNat)
  case atStart => exact ⟨1, Nat.le_refl _, by omega, by go_num, HA0⟩
  case round =>
    obtain ⟨j, hj1, hj, rfl, HA⟩ := hrel
    by_cases hlt : p + j < s.size
    · have hsn := Lib.hid (all_from s p j hlt isInner)
      rcases inner_split s[p + j] with ⟨hi, h⟩ | ⟨hi, g1, g2, g3⟩
      · have hrel' : Hid (((s.data.toList.drop p).take (j + 1)).all isInner = true) := by show _ = _; rw [hsn.out, HA.out, hi]; rfl
        clear hi
        rcases h with g1 | ⟨g1, g2⟩ | ⟨g1, g2, g3⟩
        · have G1 := Lib.hid g1; clear g1
          go_wp2_with (go_at_call 38; refine (refLetter_calls _ _).mono ?_; rintro e w' ⟨rfl, rfl⟩; rw [G1.out])
          go_round
          case rel => exact ⟨j + 1, by omega, by omega, by go_num, hrel'⟩
          case measure => simp [intOf]; omega
        · have G1 := Lib.hid g1; clear g1
          have G2 := Lib.hid g2; clear g2
          go_wp2_with (first | (go_at_call 38; refine (refLetter_calls _ _).mono ?_; rintro e w' ⟨rfl, rfl⟩; rw [G1.out]) | (go_at_call 33; refine (refDigit_calls _ _).mono ?_; rintro e w' ⟨rfl, rfl⟩; rw [G2.out]))
          go_round
          case rel => exact ⟨j + 1, by omega, by omega, by go_num, hrel'⟩
          case measure => simp [intOf]; omega
        · have G1 := Lib.hid g1; clear g1
          have G2 := Lib.hid g2; clear g2
          have e1 := u8_beq (n := 95) rfl g3
          clear g3
          go_wp2_with (first | (go_at_call 38; refine (refLetter_calls _ _).mono ?_; rintro e w' ⟨rfl, rfl⟩; rw [G1.out]) | (go_at_call 33; refine (refDigit_calls _ _).mono ?_; rintro e w' ⟨rfl, rfl⟩; rw [G2.out]))
          go_round
          case rel => exact ⟨j + 1, by omega, by omega, by go_num, hrel'⟩
          case measure => simp [intOf]; omega
      · have HW := Lib.hid (takeWhile_at HA.out (stop_here s p j hlt hi))
        have G1 := Lib.hid g1; clear g1
        have G2 := Lib.hid g2; clear g2
        have e1 := u8_bne (n := 95) rfl g3
        clear g3 hi hsn
        have hfr : Hid ((s.extract p (p + j)).data.toList = (s.data.toList.drop p).takeWhile isInner) := by show _ = _; rw [ext_mid, HW.out]
        have hlen : Hid (((s.data.toList.drop p).takeWhile isInner).length = j) := by show _ = _; rw [HW.out]; exact take_len (List.length_drop ..) (by rw [bytes_len]; omega)
        cases hn : nameOk ((s.data.toList.drop p).takeWhile isInner) with
        | true =>
          have HN := Lib.hid hn; clear hn
          have HR := Lib.hid (tokRes_ok (HX.out.trans (by rw [if_pos HN.out])))
          go_wp2_with (first | (go_at_call 38; refine (refLetter_calls _ _).mono ?_; rintro e w' ⟨rfl, rfl⟩; rw [G1.out]) | (go_at_call 33; refine (refDigit_calls _ _).mono ?_; rintro e w' ⟨rfl, rfl⟩; rw [G2.out]) | (go_at_call 23; refine (refName_any _ _ (by unfold maxLen; simp; omega)).mono ?_; rintro e w' ⟨rfl, rfl⟩; rw [hfr.out, HN.out]))
          go_returns
          refine ⟨?_, ?_⟩
          · rw [HR.out, hlen.out]
            have hb := mk_bytes _ hfr.out
            simp [tokVal, tokCells, Tok.at, hb]
          · go_grown
        | false =>
          have HN := Lib.hid hn; clear hn
          have HR := Lib.hid (tokRes_err (HX.out.trans (by rw [if_neg (by rw [HN.out]; simp)])))
          go_wp2_with (first | (go_at_call 38; refine (refLetter_calls _ _).mono ?_; rintro e w' ⟨rfl, rfl⟩; rw [G1.out]) | (go_at_call 33; refine (refDigit_calls _ _).mono ?_; rintro e w' ⟨rfl, rfl⟩; rw [G2.out]) | (go_at_call 23; refine (refName_any _ _ (by unfold maxLen; simp; omega)).mono ?_; rintro e w' ⟨rfl, rfl⟩; rw [hfr.out, HN.out]))
          go_returns
          refine ⟨?_, ?_⟩
          · rw [HR.out]; rfl
          · go_grown
    · have HW := Lib.hid (takeWhile_at HA.out (stop_end s p j (by omega)))
      have hfr : Hid ((s.extract p (p + j)).data.toList = (s.data.toList.drop p).takeWhile isInner) := by show _ = _; rw [ext_mid, HW.out]
      have hlen : Hid (((s.data.toList.drop p).takeWhile isInner).length = j) := by show _ = _; rw [HW.out]; exact take_len (List.length_drop ..) (by rw [bytes_len]; omega)
      cases hn : nameOk ((s.data.toList.drop p).takeWhile isInner) with
      | true =>
        have HN := Lib.hid hn; clear hn
        have HR := Lib.hid (tokRes_ok (HX.out.trans (by rw [if_pos HN.out])))
        go_wp2_with (first | (go_at_call 38; refine (refLetter_calls _ _).mono ?_; rintro e w' ⟨rfl, rfl⟩; rw [G1.out]) | (go_at_call 33; refine (refDigit_calls _ _).mono ?_; rintro e w' ⟨rfl, rfl⟩; rw [G2.out]) | (go_at_call 23; refine (refName_any _ _ (by unfold maxLen; simp; omega)).mono ?_; rintro e w' ⟨rfl, rfl⟩; rw [hfr.out, HN.out]))
        go_returns
        refine ⟨?_, ?_⟩
        · rw [HR.out, hlen.out]
          have hb := mk_bytes _ hfr.out
          simp [tokVal, tokCells, Tok.at, hb]
        · go_grown
      | false =>
        have HN := Lib.hid hn; clear hn
        have HR := Lib.hid (tokRes_err (HX.out.trans (by rw [if_neg (by rw [HN.out]; simp)])))
        go_wp2_with (first | (go_at_call 38; refine (refLetter_calls _ _).mono ?_; rintro e w' ⟨rfl, rfl⟩; rw [G1.out]) | (go_at_call 33; refine (refDigit_calls _ _).mono ?_; rintro e w' ⟨rfl, rfl⟩; rw [G2.out]) | (go_at_call 23; refine (refName_any _ _ (by unfold maxLen; simp; omega)).mono ?_; rintro e w' ⟨rfl, rfl⟩; rw [hfr.out, HN.out]))
        go_returns
        refine ⟨?_, ?_⟩
        · rw [HR.out]; rfl
        · go_grown

set_option maxHeartbeats 8000000 in
theorem refToken_digit (s : ByteArray) (p : Nat) (w : World) (hs : s.size ≤ 137438953472) (hp : p < s.size) (hL : isLetter s[p] = false) (hD : isDigit s[p] = true) :
    Calls Tryd.prog 30 #[.string s, .int .i64 p] w fun e w' => e = .returned (tokRes s.data.toList p) ∧ Below w.heap.size w w' := by
  have hd := bytes_drop s p hp
  have HLt := Lib.hid hL; clear hL
  have HDt := Lib.hid hD; clear hD
  have HX : Hid (nextT (s.data.toList.drop p) = (match numOf ((s.data.toList.drop p).takeWhile isDigit) with | none => .error 3 | some n => .ok (⟨1, (s.data.toList.drop p).takeWhile isDigit, n, 0⟩, ((s.data.toList.drop p).takeWhile isDigit).length))) := by
    show _ = _
    conv => lhs; rw [hd]
    rw [nextT, if_neg (by rw [HLt.out]; simp), if_pos HDt.out, ← hd]
    rfl
  have HA0 : Hid (((s.data.toList.drop p).take 1).all isDigit = true) := by show _ = _; rw [hd]; simp [HDt.out]
  clear hd
  go_enter Tryd.func30, Tryd.ntmps30
  go_wp2_with (first | (go_at_call 38; refine (refLetter_calls _ _).mono ?_; rintro e w' ⟨rfl, rfl⟩; rw [HLt.out]) | (go_at_call 33; refine (refDigit_calls _ _).mono ?_; rintro e w' ⟨rfl, rfl⟩; rw [HDt.out]))
  go_loop [7] (fun i => ∃ j : Nat, 1 ≤ j ∧ p + j ≤ s.size ∧ i = .int .i64 (p + j : Nat) ∧ Hid (((s.data.toList.drop p).take j).all isDigit = true)) (fun i => s.size - (intOf i).toNat)
  case atStart => exact ⟨1, Nat.le_refl _, by omega, by go_num, HA0⟩
  case round =>
    obtain ⟨j, hj1, hj, rfl, HA⟩ := hrel
    by_cases hlt : p + j < s.size
    · have hsn := Lib.hid (all_from s p j hlt isDigit)
      cases hi : isDigit s[p + j] with
      | true =>
        have hrel' : Hid (((s.data.toList.drop p).take (j + 1)).all isDigit = true) := by show _ = _; rw [hsn.out, HA.out, hi]; rfl
        have G2 := Lib.hid hi; clear hi
        go_wp2_with (go_at_call 33; refine (refDigit_calls _ _).mono ?_; rintro e w' ⟨rfl, rfl⟩; rw [G2.out])
        go_round
        case rel => exact ⟨j + 1, by omega, by omega, by go_num, hrel'⟩
        case measure => simp [intOf]; omega
      | false =>
        have HW := Lib.hid (takeWhile_at HA.out (stop_here s p j hlt hi))
        have G2 := Lib.hid hi; clear hi hsn
        have hfr : Hid ((s.extract p (p + j)).data.toList = (s.data.toList.drop p).takeWhile isDigit) := by show _ = _; rw [ext_mid, HW.out]
        have hlen : Hid (((s.data.toList.drop p).takeWhile isDigit).length = j) := by show _ = _; rw [HW.out]; exact take_len (List.length_drop ..) (by rw [bytes_len]; omega)
        cases hn : numOf ((s.data.toList.drop p).takeWhile isDigit) with
        | some n =>
          have HN := Lib.hid (numRes_some hn)
          have HR := Lib.hid (tokRes_ok (HX.out.trans (by rw [hn]))); clear hn
          go_wp2_with (first | (go_at_call 33; refine (refDigit_calls _ _).mono ?_; rintro e w' ⟨rfl, rfl⟩; rw [G2.out]) | (go_at_call 18; refine (refNumber_any _ _ (by unfold maxLen; simp; omega)).mono ?_; rintro e w' ⟨rfl, rfl⟩; rw [hfr.out, HN.out]))
          go_returns
          refine ⟨?_, ?_⟩
          · rw [HR.out, hlen.out]
            have hb := mk_bytes _ hfr.out
            simp [tokVal, tokCells, Tok.at, hb]
          · go_grown
        | none =>
          have HN := Lib.hid (numRes_none hn)
          have HR := Lib.hid (tokRes_err (HX.out.trans (by rw [hn]))); clear hn
          go_wp2_with (first | (go_at_call 33; refine (refDigit_calls _ _).mono ?_; rintro e w' ⟨rfl, rfl⟩; rw [G2.out]) | (go_at_call 18; refine (refNumber_any _ _ (by unfold maxLen; simp; omega)).mono ?_; rintro e w' ⟨rfl, rfl⟩; rw [hfr.out, HN.out]))
          go_returns
          refine ⟨?_, ?_⟩
          · rw [HR.out]; rfl
          · go_grown
    · have HW := Lib.hid (takeWhile_at HA.out (stop_end s p j (by omega)))
      have hfr : Hid ((s.extract p (p + j)).data.toList = (s.data.toList.drop p).takeWhile isDigit) := by show _ = _; rw [ext_mid, HW.out]
      have hlen : Hid (((s.data.toList.drop p).takeWhile isDigit).length = j) := by show _ = _; rw [HW.out]; exact take_len (List.length_drop ..) (by rw [bytes_len]; omega)
      cases hn : numOf ((s.data.toList.drop p).takeWhile isDigit) with
      | some n =>
        have HN := Lib.hid (numRes_some hn)
        have HR := Lib.hid (tokRes_ok (HX.out.trans (by rw [hn]))); clear hn
        go_wp2_with (first | (go_at_call 33; refine (refDigit_calls _ _).mono ?_; rintro e w' ⟨rfl, rfl⟩; rw [G2.out]) | (go_at_call 18; refine (refNumber_any _ _ (by unfold maxLen; simp; omega)).mono ?_; rintro e w' ⟨rfl, rfl⟩; rw [hfr.out, HN.out]))
        go_returns
        refine ⟨?_, ?_⟩
        · rw [HR.out, hlen.out]
          have hb := mk_bytes _ hfr.out
          simp [tokVal, tokCells, Tok.at, hb]
        · go_grown
      | none =>
        have HN := Lib.hid (numRes_none hn)
        have HR := Lib.hid (tokRes_err (HX.out.trans (by rw [hn]))); clear hn
        go_wp2_with (first | (go_at_call 33; refine (refDigit_calls _ _).mono ?_; rintro e w' ⟨rfl, rfl⟩; rw [G2.out]) | (go_at_call 18; refine (refNumber_any _ _ (by unfold maxLen; simp; omega)).mono ?_; rintro e w' ⟨rfl, rfl⟩; rw [hfr.out, HN.out]))
        go_returns
        refine ⟨?_, ?_⟩
        · rw [HR.out]; rfl
        · go_grown

set_option maxHeartbeats 4000000 in
theorem refToken_string (s : ByteArray) (p : Nat) (w : World) (hs : s.size ≤ 137438953472) (hp : p < s.size) (hL : isLetter s[p] = false) (hD : isDigit s[p] = false) (hQ : s[p] = 34) :
    Calls Tryd.prog 30 #[.string s, .int .i64 p] w fun e w' => e = .returned (tokRes s.data.toList p) ∧ Below w.heap.size w w' := by
  have hd := bytes_drop s p hp
  have HLt := Lib.hid hL; clear hL
  have HDt := Lib.hid hD; clear hD
  have e1 := u8_beq (n := 34) rfl hQ
  have HX : Hid (nextT (s.data.toList.drop p) = (match quotedT (s.data.toList.drop p) with | none => .error 2 | some q => .ok (⟨2, q.1, 0, 0⟩, q.2))) := by
    show _ = _
    conv => lhs; rw [hd]
    rw [nextT, if_neg (by rw [HLt.out]; simp), if_neg (by rw [HDt.out]; simp), if_pos hQ, ← hd]
    rfl
  clear hd hQ
  cases hn : quotedT (s.data.toList.drop p) with
  | some q =>
    obtain ⟨v, n⟩ := q
    have HN := Lib.hid (refQuotedRes_yes hn)
    have HR := Lib.hid (tokRes_ok (HX.out.trans (by rw [hn]))); clear hn
    go_enter Tryd.func30, Tryd.ntmps30
    go_wp2_with (first | (go_at_call 38; refine (refLetter_calls _ _).mono ?_; rintro e w' ⟨rfl, rfl⟩; rw [HLt.out]) | (go_at_call 33; refine (refDigit_calls _ _).mono ?_; rintro e w' ⟨rfl, rfl⟩; rw [HDt.out]) | (go_at_call 45; refine (refQuoted_any _ _ _ hs hp).mono ?_; rintro e w' ⟨rfl, rfl⟩; rw [HN.out]))
    go_returns
    refine ⟨?_, ?_⟩
    · rw [HR.out]; rfl
    · go_grown
  | none =>
    have HN := Lib.hid (refQuotedRes_no hn)
    have HR := Lib.hid (tokRes_err (HX.out.trans (by rw [hn]))); clear hn
    go_enter Tryd.func30, Tryd.ntmps30
    go_wp2_with (first | (go_at_call 38; refine (refLetter_calls _ _).mono ?_; rintro e w' ⟨rfl, rfl⟩; rw [HLt.out]) | (go_at_call 33; refine (refDigit_calls _ _).mono ?_; rintro e w' ⟨rfl, rfl⟩; rw [HDt.out]) | (go_at_call 45; refine (refQuoted_any _ _ _ hs hp).mono ?_; rintro e w' ⟨rfl, rfl⟩; rw [HN.out]))
    go_returns
    refine ⟨?_, ?_⟩
    · rw [HR.out]; rfl
    · go_grown

set_option maxHeartbeats 4000000 in
theorem refToken_sign (s : ByteArray) (p : Nat) (w : World) (hs : s.size ≤ 137438953472) (hp : p < s.size) (hL : isLetter s[p] = false) (hD : isDigit s[p] = false) (hQ : s[p] ≠ 34) :
    Calls Tryd.prog 30 #[.string s, .int .i64 p] w fun e w' => e = .returned (tokRes s.data.toList p) ∧ Below w.heap.size w w' := by
  have hd := bytes_drop s p hp
  have HLt := Lib.hid hL; clear hL
  have HDt := Lib.hid hD; clear hD
  have e1 := u8_bne (n := 34) rfl hQ
  have HX : Hid (nextT (s.data.toList.drop p) = if isSign s[p] then .ok (⟨3, [s[p]], 0, 0⟩, 1) else .error 10) := by
    show _ = _
    conv => lhs; rw [hd]
    rw [nextT, if_neg (by rw [HLt.out]; simp), if_neg (by rw [HDt.out]; simp), if_neg hQ]
  have hfr : Hid (s.extract p (p + 1) = ⟨[s[p]].toArray⟩) := mk_bytes _ (by rw [ext_mid, hd]; rfl)
  clear hd hQ
  cases hn : isSign s[p] with
  | true =>
    have HN := Lib.hid hn
    have HR := Lib.hid (tokRes_ok (HX.out.trans (by rw [if_pos hn]))); clear hn
    go_enter Tryd.func30, Tryd.ntmps30
    go_wp2_with (first | (go_at_call 38; refine (refLetter_calls _ _).mono ?_; rintro e w' ⟨rfl, rfl⟩; rw [HLt.out]) | (go_at_call 33; refine (refDigit_calls _ _).mono ?_; rintro e w' ⟨rfl, rfl⟩; rw [HDt.out]) | (go_at_call 46; refine (refSign_any _ _).mono ?_; rintro e w' ⟨rfl, rfl⟩; rw [HN.out]))
    go_returns
    refine ⟨?_, ?_⟩
    · rw [HR.out, hfr.out]; rfl
    · go_grown
  | false =>
    have HN := Lib.hid hn
    have HR := Lib.hid (tokRes_err (HX.out.trans (by rw [if_neg (by rw [hn]; simp)]))); clear hn
    go_enter Tryd.func30, Tryd.ntmps30
    go_wp2_with (first | (go_at_call 38; refine (refLetter_calls _ _).mono ?_; rintro e w' ⟨rfl, rfl⟩; rw [HLt.out]) | (go_at_call 33; refine (refDigit_calls _ _).mono ?_; rintro e w' ⟨rfl, rfl⟩; rw [HDt.out]) | (go_at_call 46; refine (refSign_any _ _).mono ?_; rintro e w' ⟨rfl, rfl⟩; rw [HN.out]))
    go_returns
    refine ⟨?_, ?_⟩
    · rw [HR.out]; rfl
    · go_grown

theorem refToken_any (s : ByteArray) (p : Nat) (w : World) (hs : s.size ≤ 137438953472) (hp : p < s.size) :
    Calls Tryd.prog 30 #[.string s, .int .i64 p] w fun e w' => e = .returned (tokRes s.data.toList p) ∧ Below w.heap.size w w' := by
  cases hL : isLetter s[p] with
  | true => exact refToken_letter s p w hs hp hL
  | false =>
    cases hD : isDigit s[p] with
    | true => exact refToken_digit s p w hs hp hL hD
    | false =>
      by_cases hQ : s[p] = 34
      · exact refToken_string s p w hs hp hL hD hQ
      · exact refToken_sign s p w hs hp hL hD hQ
end Go.Proofs.YtekaplogeogbjaaDoor
