/- Walks: the text of any list of tokens, valid or not, by the lexer and by the reference: the same bytes. -/
import Derived.Test.YtckgmilmhofekaaGreatDoorLexLaws
import Derived.Test.YtckgmilmhofekaaGreatDoorBase
import Derived.Test.YtckgmilmhofekaaGreatDoorLexBytes
import Derived.Test.YtckgmilmhofekaaGreatDoorLexPrint
import Derived.Test.YtckgmilmhofekaaGreatDoorLexRef2
import Derived.Test.YtckgmilmhofekaaGreatDoorProg
import Derived.Test.YtckgmilmhofekaaGreatDoorShelf
import Derived.WalkKit
import Derived.WalkSpells
import Derived.WalkLawsBesides
import Derived.Handy
import Derived.Lib.Hide
import Derived.Lib.Strings
import Derived.Lib.Builder
import Derived.Shelf.Strings.Builder1
import Derived.BigQuiet
import Derived.WalkSmall
import Derived.Deep.QuietTactic
namespace Go.Proofs.YtckgmilmhofekaaGreatDoor
open Go.RowKit

def exA : Bytes := [97, 49, 32, 61, 32, 34, 120, 92, 34, 121, 34, 59, 32, 35, 32, 122]
def exWant : List Tok := [⟨0, [97, 49], 0, 0⟩, ⟨3, [61], 0, 3⟩, ⟨2, [120, 34, 121], 0, 5⟩, ⟨3, [59], 0, 11⟩]
def exB : List Tok := [⟨0, [102], 0, 0⟩, ⟨3, [40], 0, 1⟩, ⟨1, [50], 2, 2⟩, ⟨3, [44], 0, 3⟩, ⟨2, [97], 0, 4⟩, ⟨3, [41], 0, 7⟩]
theorem r1 : scanOut exA = .ok exWant := by kernel_rfl
theorem r2 : scanOut [120, 32, 48, 48, 55] = .error (2, 3) := by kernel_rfl
theorem r3 : scanOut [97, 32, 62, 32, 98] = .error (2, 10) := by kernel_rfl
theorem r4 : scanOut [34, 97, 98] = .error (0, 2) := by kernel_rfl
theorem n1 : numRes [49, 50] = .tuple #[.int .i64 12, .bool true] := by kernel_rfl
theorem n2 : numRes [48, 49, 50] = .tuple #[.int .i64 0, .bool false] := by kernel_rfl
theorem p1 : printL exB = [102, 32, 40, 32, 50, 32, 44, 32, 34, 97, 34, 32, 41] := by kernel_rfl
end Go.Proofs.YtckgmilmhofekaaGreatDoor
namespace Go.Proofs.YtckgmilmhofekaaGreatDoor
open Go.RowKit

theorem takeWhile_at {q : UInt8 → Bool} {d : Bytes} {j : Nat} (ha : (d.take j).all q = true) (hs : ∀ c r, d.drop j = c :: r → q c = false) : d.takeWhile q = d.take j := by
 have := takeWhile_app_stop q (d.take j) (d.drop j) hs
 rw [List.take_append_drop, takeWhile_all _ _ ha] at this; exact this
theorem ext_mid (s : ByteArray) (p j : Nat) : (s.extract p (p + j)).data.toList = (s.data.toList.drop p).take j := by
 rw [Lib.extract_data, show p + j - p = j from by omega]
theorem all_from (s : ByteArray) (p j : Nat) (h : p + j < s.size) (q : UInt8 → Bool) : ((s.data.toList.drop p).take (j + 1)).all q = (((s.data.toList.drop p).take j).all q && q s[p + j]) := by
 have : (s.data.toList.drop p)[j]? = some s[p + j] := by rw [List.getElem?_drop]; exact bytes_get s (p + j) h
 rw [List.take_add_one, this]; simp
theorem stop_here (s : ByteArray) (p j : Nat) (h : p + j < s.size) {q : UInt8 → Bool} (hq : q s[p + j] = false) : ∀ c r, (s.data.toList.drop p).drop j = c :: r → q c = false := by
 intro c r hd
 rw [List.drop_drop, bytes_drop s (p + j) h] at hd
 cases hd; exact hq
theorem stop_end (s : ByteArray) (p j : Nat) (h : s.size ≤ p + j) {q : UInt8 → Bool} : ∀ c r, (s.data.toList.drop p).drop j = c :: r → q c = false := by
 intro c r hd
 rw [List.drop_drop, bytes_end s (p + j) h] at hd
 cases hd
def tokRes (l : Bytes) (p : Nat) : Value := match nextT (l.drop p) with
 | .ok x => .tuple #[tokVal (x.1.at p), .int .i64 (p + x.2 : Nat), .int .i64 0]
 | .error e => .tuple #[noTok, .int .i64 0, .int .i64 e]
theorem tokRes_ok {l : Bytes} {p : Nat} {t : Tok} {n : Nat} (h : nextT (l.drop p) = .ok (t, n)) : tokRes l p = .tuple #[tokVal (t.at p), .int .i64 (p + n : Nat), .int .i64 0] := by simp [tokRes, h]
theorem tokRes_err {l : Bytes} {p e : Nat} (h : nextT (l.drop p) = .error e) : tokRes l p = .tuple #[noTok, .int .i64 0, .int .i64 e] := by simp [tokRes, h]
theorem take_len {d : Bytes} {j n : Nat} (h : d.length = n) (hj : j ≤ n) : (d.take j).length = j := by rw [List.length_take]; omega
set_option maxRecDepth 100000 in
set_option maxHeartbeats 8000000 in
theorem refToken_letter (s : ByteArray) (p : Nat) (w : World) (hs : s.size ≤ 137438953472) (hp : p < s.size) (hL : isLetter s[p] = true) :
    Calls Tryz.prog 33 #[.string s, .int .i64 p] w fun e w' => e = .returned (tokRes s.data.toList p) ∧ Below w.heap.size w w' := by
  have hd := bytes_drop s p hp
  have HLt := Lib.hid hL; clear hL
  have HX : Hid (nextT (s.data.toList.drop p) = if nameOk ((s.data.toList.drop p).takeWhile isInner) then .ok (⟨0, (s.data.toList.drop p).takeWhile isInner, 0, 0⟩, ((s.data.toList.drop p).takeWhile isInner).length) else .error 3) := by
    show _ = _
    conv => lhs; rw [hd]
    rw [nextT, if_pos HLt.out, ← hd]
  have HA0 : Hid (((s.data.toList.drop p).take 1).all isInner = true) := by show _ = _; rw [hd]; simp [letter_inner HLt.out]
  clear hd
  go_enter Tryz.func33, Tryz.ntmps33
  go_wp2_with (go_at_call 57; refine (refLetter_calls _ _).mono ?_; rintro e w' ⟨rfl, rfl⟩; rw [HLt.out])
  go_loop [7] (fun i => ∃ j : Nat, 1 ≤ j ∧ p + j ≤ s.size ∧ i = .int .i64 (p + j : Nat) ∧ Hid (((s.data.toList.drop p).take j).all isInner = true)) (fun i => s.size - (intOf i).toNat)
  case atStart => exact ⟨1, Nat.le_refl _, by omega, by go_num, HA0⟩
  case round =>
    obtain ⟨j, hj1, hj, rfl, HA⟩ := hrel
    by_cases hlt : p + j < s.size
    · have hsn := Lib.hid (all_from s p j hlt isInner)
      rcases inner_split s[p + j] with ⟨hi, h⟩ | ⟨hi, g1, g2, g3⟩
      · have hrel' : Hid (((s.data.toList.drop p).take (j + 1)).all isInner = true) := by show _ = _; rw [hsn.out, HA.out, hi]; rfl
        clear hi
        rcases h with g1 | ⟨g1, g2⟩ | ⟨g1, g2, g3⟩
        · have G1 := Lib.hid g1; clear g1
          go_wp2_with (go_at_call 57; refine (refLetter_calls _ _).mono ?_; rintro e w' ⟨rfl, rfl⟩; rw [G1.out])
          go_round
          case rel => exact ⟨j + 1, by omega, by omega, by go_num, hrel'⟩
          case measure => simp [intOf]; omega
        · have G1 := Lib.hid g1; clear g1
          have G2 := Lib.hid g2; clear g2
          go_wp2_with (first | (go_at_call 57; refine (refLetter_calls _ _).mono ?_; rintro e w' ⟨rfl, rfl⟩; rw [G1.out]) | (go_at_call 58; refine (refDigit_calls _ _).mono ?_; rintro e w' ⟨rfl, rfl⟩; rw [G2.out]))
          go_round
          case rel => exact ⟨j + 1, by omega, by omega, by go_num, hrel'⟩
          case measure => simp [intOf]; omega
        · have G1 := Lib.hid g1; clear g1
          have G2 := Lib.hid g2; clear g2
          have e1 := u8_beq (n := 95) rfl g3
          clear g3
          go_wp2_with (first | (go_at_call 57; refine (refLetter_calls _ _).mono ?_; rintro e w' ⟨rfl, rfl⟩; rw [G1.out]) | (go_at_call 58; refine (refDigit_calls _ _).mono ?_; rintro e w' ⟨rfl, rfl⟩; rw [G2.out]))
          go_round
          case rel => exact ⟨j + 1, by omega, by omega, by go_num, hrel'⟩
          case measure => simp [intOf]; omega
      · have HW := Lib.hid (takeWhile_at HA.out (stop_here s p j hlt hi))
        have G1 := Lib.hid g1; clear g1
        have G2 := Lib.hid g2; clear g2
        have e1 := u8_bne (n := 95) rfl g3
        clear g3 hi hsn
        have hfr : Hid ((s.extract p (p + j)).data.toList = (s.data.toList.drop p).takeWhile isInner) := by show _ = _; rw [ext_mid, HW.out]
        have hlen : Hid (((s.data.toList.drop p).takeWhile isInner).length = j) := by show _ = _; rw [HW.out]; exact take_len (List.length_drop ..) (by rw [bytes_len]; omega)
        cases hn : nameOk ((s.data.toList.drop p).takeWhile isInner) with
        | true =>
          have HN := Lib.hid hn; clear hn
          have HR := Lib.hid (tokRes_ok (HX.out.trans (by rw [if_pos HN.out])))
          go_wp2_with (first | (go_at_call 57; refine (refLetter_calls _ _).mono ?_; rintro e w' ⟨rfl, rfl⟩; rw [G1.out]) | (go_at_call 58; refine (refDigit_calls _ _).mono ?_; rintro e w' ⟨rfl, rfl⟩; rw [G2.out]) | (go_at_call 59; refine (refName_any _ _ (by unfold maxLen; simp; omega)).mono ?_; rintro e w' ⟨rfl, rfl⟩; rw [hfr.out, HN.out]))
          go_returns
          refine ⟨?_, ?_⟩
          · rw [HR.out, hlen.out]
            have hb := mk_bytes _ hfr.out
            simp [tokVal, tokCells, Tok.at, hb]
          · go_grown
        | false =>
          have HN := Lib.hid hn; clear hn
          have HR := Lib.hid (tokRes_err (HX.out.trans (by rw [if_neg (by rw [HN.out]; simp)])))
          go_wp2_with (first | (go_at_call 57; refine (refLetter_calls _ _).mono ?_; rintro e w' ⟨rfl, rfl⟩; rw [G1.out]) | (go_at_call 58; refine (refDigit_calls _ _).mono ?_; rintro e w' ⟨rfl, rfl⟩; rw [G2.out]) | (go_at_call 59; refine (refName_any _ _ (by unfold maxLen; simp; omega)).mono ?_; rintro e w' ⟨rfl, rfl⟩; rw [hfr.out, HN.out]))
          go_returns
          refine ⟨?_, ?_⟩
          · rw [HR.out]; rfl
          · go_grown
    · have HW := Lib.hid (takeWhile_at HA.out (stop_end s p j (by omega)))
      have hfr : Hid ((s.extract p (p + j)).data.toList = (s.data.toList.drop p).takeWhile isInner) := by show _ = _; rw [ext_mid, HW.out]
      have hlen : Hid (((s.data.toList.drop p).takeWhile isInner).length = j) := by show _ = _; rw [HW.out]; exact take_len (List.length_drop ..) (by rw [bytes_len]; omega)
      cases hn : nameOk ((s.data.toList.drop p).takeWhile isInner) with
      | true =>
        have HN := Lib.hid hn; clear hn
        have HR := Lib.hid (tokRes_ok (HX.out.trans (by rw [if_pos HN.out])))
        go_wp2_with (first | (go_at_call 57; refine (refLetter_calls _ _).mono ?_; rintro e w' ⟨rfl, rfl⟩; rw [G1.out]) | (go_at_call 58; refine (refDigit_calls _ _).mono ?_; rintro e w' ⟨rfl, rfl⟩; rw [G2.out]) | (go_at_call 59; refine (refName_any _ _ (by unfold maxLen; simp; omega)).mono ?_; rintro e w' ⟨rfl, rfl⟩; rw [hfr.out, HN.out]))
        go_returns
        refine ⟨?_, ?_⟩
        · rw [HR.out, hlen.out]
          have hb := mk_bytes _ hfr.out
          simp [tokVal, tokCells, Tok.at, hb]
        · go_grown
      | false =>
        have HN := Lib.hid hn; clear hn
        have HR := Lib.hid (tokRes_err (HX.out.trans (by rw [if_neg (by rw [HN.out]; simp)])))
        go_wp2_with (first | (go_at_call 57; refine (refLetter_calls _ _).mono ?_; rintro e w' ⟨rfl, rfl⟩; rw [G1.out]) | (go_at_call 58; refine (refDigit_calls _ _).mono ?_; rintro e w' ⟨rfl, rfl⟩; rw [G2.out]) | (go_at_call 59; refine (refName_any _ _ (by unfold maxLen; simp; omega)).mono ?_; rintro e w' ⟨rfl, rfl⟩; rw [hfr.out, HN.out]))
        go_returns
        refine ⟨?_, ?_⟩
        · rw [HR.out]; rfl
        · go_grown
set_option maxRecDepth 100000 in
set_option maxHeartbeats 8000000 in
theorem refToken_digit (s : ByteArray) (p : Nat) (w : World) (hs : s.size ≤ 137438953472) (hp : p < s.size) (hL : isLetter s[p] = false) (hD : isDigit s[p] = true) :
    Calls Tryz.prog 33 #[.string s, .int .i64 p] w fun e w' => e = .returned (tokRes s.data.toList p) ∧ Below w.heap.size w w' := by
  have hd := bytes_drop s p hp
  have HLt := Lib.hid hL; clear hL
  have HDt := Lib.hid hD; clear hD
  have HX : Hid (nextT (s.data.toList.drop p) = (match numOf ((s.data.toList.drop p).takeWhile isDigit) with | none => .error 3 | some n => .ok (⟨1, (s.data.toList.drop p).takeWhile isDigit, n, 0⟩, ((s.data.toList.drop p).takeWhile isDigit).length))) := by
    show _ = _
    conv => lhs; rw [hd]
    rw [nextT, if_neg (by rw [HLt.out]; simp), if_pos HDt.out, ← hd]
    rfl
  have HA0 : Hid (((s.data.toList.drop p).take 1).all isDigit = true) := by show _ = _; rw [hd]; simp [HDt.out]
  clear hd
  go_enter Tryz.func33, Tryz.ntmps33
  go_wp2_with (first | (go_at_call 57; refine (refLetter_calls _ _).mono ?_; rintro e w' ⟨rfl, rfl⟩; rw [HLt.out]) | (go_at_call 58; refine (refDigit_calls _ _).mono ?_; rintro e w' ⟨rfl, rfl⟩; rw [HDt.out]))
  go_loop [7] (fun i => ∃ j : Nat, 1 ≤ j ∧ p + j ≤ s.size ∧ i = .int .i64 (p + j : Nat) ∧ Hid (((s.data.toList.drop p).take j).all isDigit = true)) (fun i => s.size - (intOf i).toNat)
  case atStart => exact ⟨1, Nat.le_refl _, by omega, by go_num, HA0⟩
  case round =>
    obtain ⟨j, hj1, hj, rfl, HA⟩ := hrel
    by_cases hlt : p + j < s.size
    · have hsn := Lib.hid (all_from s p j hlt isDigit)
      cases hi : isDigit s[p + j] with
      | true =>
        have hrel' : Hid (((s.data.toList.drop p).take (j + 1)).all isDigit = true) := by show _ = _; rw [hsn.out, HA.out, hi]; rfl
        have G2 := Lib.hid hi; clear hi
        go_wp2_with (go_at_call 58; refine (refDigit_calls _ _).mono ?_; rintro e w' ⟨rfl, rfl⟩; rw [G2.out])
        go_round
        case rel => exact ⟨j + 1, by omega, by omega, by go_num, hrel'⟩
        case measure => simp [intOf]; omega
      | false =>
        have HW := Lib.hid (takeWhile_at HA.out (stop_here s p j hlt hi))
        have G2 := Lib.hid hi; clear hi hsn
        have hfr : Hid ((s.extract p (p + j)).data.toList = (s.data.toList.drop p).takeWhile isDigit) := by show _ = _; rw [ext_mid, HW.out]
        have hlen : Hid (((s.data.toList.drop p).takeWhile isDigit).length = j) := by show _ = _; rw [HW.out]; exact take_len (List.length_drop ..) (by rw [bytes_len]; omega)
        cases hn : numOf ((s.data.toList.drop p).takeWhile isDigit) with
        | some n =>
          have HN := Lib.hid (numRes_some hn)
          have HR := Lib.hid (tokRes_ok (HX.out.trans (by rw [hn]))); clear hn
          go_wp2_with (first | (go_at_call 58; refine (refDigit_calls _ _).mono ?_; rintro e w' ⟨rfl, rfl⟩; rw [G2.out]) | (go_at_call 60; refine (refNumber_any _ _ (by unfold maxLen; simp; omega)).mono ?_; rintro e w' ⟨rfl, rfl⟩; rw [hfr.out, HN.out]))
          go_returns
          refine ⟨?_, ?_⟩
          · rw [HR.out, hlen.out]
            have hb := mk_bytes _ hfr.out
            simp [tokVal, tokCells, Tok.at, hb]
          · go_grown
        | none =>
          have HN := Lib.hid (numRes_none hn)
          have HR := Lib.hid (tokRes_err (HX.out.trans (by rw [hn]))); clear hn
          go_wp2_with (first | (go_at_call 58; refine (refDigit_calls _ _).mono ?_; rintro e w' ⟨rfl, rfl⟩; rw [G2.out]) | (go_at_call 60; refine (refNumber_any _ _ (by unfold maxLen; simp; omega)).mono ?_; rintro e w' ⟨rfl, rfl⟩; rw [hfr.out, HN.out]))
          go_returns
          refine ⟨?_, ?_⟩
          · rw [HR.out]; rfl
          · go_grown
    · have HW := Lib.hid (takeWhile_at HA.out (stop_end s p j (by omega)))
      have hfr : Hid ((s.extract p (p + j)).data.toList = (s.data.toList.drop p).takeWhile isDigit) := by show _ = _; rw [ext_mid, HW.out]
      have hlen : Hid (((s.data.toList.drop p).takeWhile isDigit).length = j) := by show _ = _; rw [HW.out]; exact take_len (List.length_drop ..) (by rw [bytes_len]; omega)
      cases hn : numOf ((s.data.toList.drop p).takeWhile isDigit) with
      | some n =>
        have HN := Lib.hid (numRes_some hn)
        have HR := Lib.hid (tokRes_ok (HX.out.trans (by rw [hn]))); clear hn
        go_wp2_with (first | (go_at_call 58; refine (refDigit_calls _ _).mono ?_; rintro e w' ⟨rfl, rfl⟩; rw [G2.out]) | (go_at_call 60; refine (refNumber_any _ _ (by unfold maxLen; simp; omega)).mono ?_; rintro e w' ⟨rfl, rfl⟩; rw [hfr.out, HN.out]))
        go_returns
        refine ⟨?_, ?_⟩
        · rw [HR.out, hlen.out]
          have hb := mk_bytes _ hfr.out
          simp [tokVal, tokCells, Tok.at, hb]
        · go_grown
      | none =>
        have HN := Lib.hid (numRes_none hn)
        have HR := Lib.hid (tokRes_err (HX.out.trans (by rw [hn]))); clear hn
        go_wp2_with (first | (go_at_call 58; refine (refDigit_calls _ _).mono ?_; rintro e w' ⟨rfl, rfl⟩; rw [G2.out]) | (go_at_call 60; refine (refNumber_any _ _ (by unfold maxLen; simp; omega)).mono ?_; rintro e w' ⟨rfl, rfl⟩; rw [hfr.out, HN.out]))
        go_returns
        refine ⟨?_, ?_⟩
        · rw [HR.out]; rfl
        · go_grown
set_option maxRecDepth 100000 in
set_option maxHeartbeats 4000000 in
theorem refToken_string (s : ByteArray) (p : Nat) (w : World) (hs : s.size ≤ 137438953472) (hp : p < s.size) (hL : isLetter s[p] = false) (hD : isDigit s[p] = false) (hQ : s[p] = 34) :
    Calls Tryz.prog 33 #[.string s, .int .i64 p] w fun e w' => e = .returned (tokRes s.data.toList p) ∧ Below w.heap.size w w' := by
  have hd := bytes_drop s p hp
  have HLt := Lib.hid hL; clear hL
  have HDt := Lib.hid hD; clear hD
  have e1 := u8_beq (n := 34) rfl hQ
  have HX : Hid (nextT (s.data.toList.drop p) = (match quotedT (s.data.toList.drop p) with | none => .error 2 | some q => .ok (⟨2, q.1, 0, 0⟩, q.2))) := by
    show _ = _
    conv => lhs; rw [hd]
    rw [nextT, if_neg (by rw [HLt.out]; simp), if_neg (by rw [HDt.out]; simp), if_pos hQ, ← hd]
    rfl
  clear hd hQ
  cases hn : quotedT (s.data.toList.drop p) with
  | some q =>
    obtain ⟨v, n⟩ := q
    have HN := Lib.hid (refQuotedRes_yes hn)
    have HR := Lib.hid (tokRes_ok (HX.out.trans (by rw [hn]))); clear hn
    go_enter Tryz.func33, Tryz.ntmps33
    go_wp2_with (first | (go_at_call 57; refine (refLetter_calls _ _).mono ?_; rintro e w' ⟨rfl, rfl⟩; rw [HLt.out]) | (go_at_call 58; refine (refDigit_calls _ _).mono ?_; rintro e w' ⟨rfl, rfl⟩; rw [HDt.out]) | (go_at_call 61; refine (refQuoted_any _ _ _ hs hp).mono ?_; rintro e w' ⟨rfl, rfl⟩; rw [HN.out]))
    go_returns
    refine ⟨?_, ?_⟩
    · rw [HR.out]; rfl
    · go_grown
  | none =>
    have HN := Lib.hid (refQuotedRes_no hn)
    have HR := Lib.hid (tokRes_err (HX.out.trans (by rw [hn]))); clear hn
    go_enter Tryz.func33, Tryz.ntmps33
    go_wp2_with (first | (go_at_call 57; refine (refLetter_calls _ _).mono ?_; rintro e w' ⟨rfl, rfl⟩; rw [HLt.out]) | (go_at_call 58; refine (refDigit_calls _ _).mono ?_; rintro e w' ⟨rfl, rfl⟩; rw [HDt.out]) | (go_at_call 61; refine (refQuoted_any _ _ _ hs hp).mono ?_; rintro e w' ⟨rfl, rfl⟩; rw [HN.out]))
    go_returns
    refine ⟨?_, ?_⟩
    · rw [HR.out]; rfl
    · go_grown
set_option maxRecDepth 100000 in
set_option maxHeartbeats 4000000 in
theorem refToken_sign (s : ByteArray) (p : Nat) (w : World) (hs : s.size ≤ 137438953472) (hp : p < s.size) (hL : isLetter s[p] = false) (hD : isDigit s[p] = false) (hQ : s[p] ≠ 34) :
    Calls Tryz.prog 33 #[.string s, .int .i64 p] w fun e w' => e = .returned (tokRes s.data.toList p) ∧ Below w.heap.size w w' := by
  have hd := bytes_drop s p hp
  have HLt := Lib.hid hL; clear hL
  have HDt := Lib.hid hD; clear hD
  have e1 := u8_bne (n := 34) rfl hQ
  have HX : Hid (nextT (s.data.toList.drop p) = if isSign s[p] then .ok (⟨3, [s[p]], 0, 0⟩, 1) else .error 10) := by
    show _ = _
    conv => lhs; rw [hd]
    rw [nextT, if_neg (by rw [HLt.out]; simp), if_neg (by rw [HDt.out]; simp), if_neg hQ]
  have hfr : Hid (s.extract p (p + 1) = ⟨[s[p]].toArray⟩) := mk_bytes _ (by rw [ext_mid, hd]; rfl)
  clear hd hQ
  cases hn : isSign s[p] with
  | true =>
    have HN := Lib.hid hn
    have HR := Lib.hid (tokRes_ok (HX.out.trans (by rw [if_pos hn]))); clear hn
    go_enter Tryz.func33, Tryz.ntmps33
    go_wp2_with (first | (go_at_call 57; refine (refLetter_calls _ _).mono ?_; rintro e w' ⟨rfl, rfl⟩; rw [HLt.out]) | (go_at_call 58; refine (refDigit_calls _ _).mono ?_; rintro e w' ⟨rfl, rfl⟩; rw [HDt.out]) | (go_at_call 62; refine (refSign_any _ _).mono ?_; rintro e w' ⟨rfl, rfl⟩; rw [HN.out]))
    go_returns
    refine ⟨?_, ?_⟩
    · rw [HR.out, hfr.out]; rfl
    · go_grown
  | false =>
    have HN := Lib.hid hn
    have HR := Lib.hid (tokRes_err (HX.out.trans (by rw [if_neg (by rw [hn]; simp)]))); clear hn
    go_enter Tryz.func33, Tryz.ntmps33
    go_wp2_with (first | (go_at_call 57; refine (refLetter_calls _ _).mono ?_; rintro e w' ⟨rfl, rfl⟩; rw [HLt.out]) | (go_at_call 58; refine (refDigit_calls _ _).mono ?_; rintro e w' ⟨rfl, rfl⟩; rw [HDt.out]) | (go_at_call 62; refine (refSign_any _ _).mono ?_; rintro e w' ⟨rfl, rfl⟩; rw [HN.out]))
    go_returns
    refine ⟨?_, ?_⟩
    · rw [HR.out]; rfl
    · go_grown
theorem refToken_any (s : ByteArray) (p : Nat) (w : World) (hs : s.size ≤ 137438953472) (hp : p < s.size) :
    Calls Tryz.prog 33 #[.string s, .int .i64 p] w fun e w' => e = .returned (tokRes s.data.toList p) ∧ Below w.heap.size w w' := by
  cases hL : isLetter s[p] with
  | true => exact refToken_letter s p w hs hp hL
  | false =>
    cases hD : isDigit s[p] with
    | true => exact refToken_digit s p w hs hp hL hD
    | false =>
      by_cases hQ : s[p] = 34
      · exact refToken_string s p w hs hp hL hD hQ
      · exact refToken_sign s p w hs hp hL hD hQ
end Go.Proofs.YtckgmilmhofekaaGreatDoor
namespace Go.Proofs.YtckgmilmhofekaaGreatDoor
open Go.RowKit

/-- The reference at an offset, inside or outside of a comment: which tokens are done, and that only a gap lies behind them. -/
def GR (l : Bytes) (k : Nat) (b : Bool) (done : List Tok) : Prop := ∃ p, p ≤ k ∧ ScanAt l p done ∧ gapC false (l.drop p) = (k - p) + gapC b (l.drop k)
def boolOf : Value → Nat | .bool true => 0 | _ => 1
theorem gr_start (l : Bytes) : GR l 0 false [] := ⟨0, Nat.le_refl _, scanAt_start l, by simp⟩
theorem gr_step {l : Bytes} {k : Nat} {b b' : Bool} {done : List Tok} {c : UInt8} (h : GR l k b done) (hd : l.drop k = c :: l.drop (k + 1)) (hg : gapC b (c :: l.drop (k + 1)) = gapC b' (l.drop (k + 1)) + 1) : GR l (k + 1) b' done := by
 obtain ⟨p, hp, hs, he⟩ := h
 refine ⟨p, by omega, hs, ?_⟩
 rw [he, hd, hg]; omega
theorem gr_nl {l : Bytes} {k : Nat} {b : Bool} {done : List Tok} {c : UInt8} (h : GR l k b done) (hd : l.drop k = c :: l.drop (k + 1)) (h10 : c = 10) : GR l (k + 1) false done := gr_step h hd (by rw [gapC_cons, if_pos h10])
theorem gr_in {l : Bytes} {k : Nat} {done : List Tok} {c : UInt8} (h : GR l k true done) (hd : l.drop k = c :: l.drop (k + 1)) (h10 : c ≠ 10) : GR l (k + 1) true done := gr_step h hd (gap_in h10 _)
theorem gr_blank {l : Bytes} {k : Nat} {done : List Tok} {c : UInt8} (h : GR l k false done) (hd : l.drop k = c :: l.drop (k + 1)) (h10 : c ≠ 10) (hb : isBlank c = true) : GR l (k + 1) false done := gr_step h hd (by rw [gapC_cons, if_neg h10, if_neg (by simp), if_pos hb])
theorem gr_hash {l : Bytes} {k : Nat} {done : List Tok} {c : UInt8} (h : GR l k false done) (hd : l.drop k = c :: l.drop (k + 1)) (hc : c = 35) : GR l k true done := by
 subst hc
 obtain ⟨p, hp, hs, he⟩ := h
 exact ⟨p, hp, hs, by rw [he, hd, gap_hash]⟩
theorem gr_end {l : Bytes} {k : Nat} {b : Bool} {done : List Tok} (h : GR l k b done) (hk : l.length ≤ k) (hk2 : k ≤ l.length) : scanAll l = .ok done := by
 obtain ⟨p, hp, hs, he⟩ := h
 refine scanAt_done hs ?_
 rw [he, List.drop_of_length_le hk, List.length_drop, gapC]; omega
theorem gr_here {l : Bytes} {k : Nat} {done : List Tok} {c : UInt8} (h : GR l k false done) (hd : l.drop k = c :: l.drop (k + 1)) (hb : isBlank c = false) (h35 : c ≠ 35) : ∃ p g, k = p + g ∧ ScanAt l p done ∧ gapC false (l.drop p) = g := by
 obtain ⟨p, hp, hs, he⟩ := h
 rw [hd, gapC_zero hb h35] at he
 exact ⟨p, k - p, by omega, hs, by omega⟩
theorem gr_tok {l : Bytes} {k n : Nat} {t : Tok} {done : List Tok} {c : UInt8} (h : GR l k false done) (hd : l.drop k = c :: l.drop (k + 1)) (hb : isBlank c = false) (h35 : c ≠ 35) (hn : nextT (l.drop k) = .ok (t, n)) : GR l (k + n) false (done ++ [t.at k]) := by
 obtain ⟨p, g, rfl, hs, hg⟩ := gr_here h hd hb h35
 rw [hd] at hn
 exact ⟨_, Nat.le_refl _, scanAt_tok hs hg hd hn, by simp⟩
theorem gr_bad {l : Bytes} {k e : Nat} {done : List Tok} {c : UInt8} (h : GR l k false done) (hd : l.drop k = c :: l.drop (k + 1)) (hb : isBlank c = false) (h35 : c ≠ 35) (hn : nextT (l.drop k) = .error e) : scanAll l = .error (k, e) := by
 obtain ⟨p, g, rfl, hs, hg⟩ := gr_here h hd hb h35
 rw [hd] at hn
 exact scanAt_bad hs hg hd hn
set_option maxHeartbeats 8000000 in
set_option maxRecDepth 100000 in
theorem refScan_any (s : ByteArray) (w : World) (hs : s.size ≤ 137438953472) :
    Calls Tryz.prog 14 #[.string s] w (ScanPost (scanOut s.data.toList) w) := by
  have HL : Hid (s.data.toList.length = s.size) := bytes_len s
  by_cases h4 : s.size ≤ 4000
  · have HO : Hid (scanOut s.data.toList = scanAll s.data.toList) := by show _ = _; rw [scanOut, if_neg (by rw [HL.out]; omega)]
    go_enter Tryz.func14, Tryz.ntmps14
    go_wp2_with fail
    go_loopw [5, 6, 7] (fun v n c wr => ∃ (k : Nat) (done : List Tok) (b : Bool), k ≤ s.size ∧ done.length ≤ k ∧ n = .int .i64 k ∧ c = .bool b ∧ Hid (GR s.data.toList k b done) ∧ Hid (wr.ownsRow w.heap.size 55 4 v done.length (toksCells done)) ∧ Hid (Below w.heap.size w wr)) (fun _ n c _ => 2 * (s.size - (intOf n).toNat) + boolOf c)
    case atStart => exact ⟨0, [], false, by omega, by simp, rfl, rfl, gr_start _, World.ownsRow_nil _ _ _ _, Below.refl _ _⟩
    case round =>
      obtain ⟨k, done, b, hk, hdk, rfl, rfl, HG, HW, HB⟩ := hrel
      have hBs := HB.out.size
      by_cases hlt : k < s.size
      · have hd := Lib.hid (bytes_drop s k hlt)
        by_cases h10 : s[k] = 10
        · have e1 := u8_beq (n := 10) rfl h10
          have HBl : Hid (isBlank s[k] = true) := by show _ = _; rw [h10]; decide
          have HN := Lib.hid (gr_nl HG.out hd.out h10)
          clear h10
          cases b
          all_goals
            go_wp2_with (go_at_call 32; refine (refBlank_calls _ _).mono ?_; rintro e w' ⟨rfl, rfl⟩; rw [HBl.out])
            go_roundw
            case rel => exact ⟨k + 1, done, _, by omega, by omega, by go_num, rfl, HN, HW, HB⟩
            case measure => simp [intOf, boolOf]; omega
        · have e1 := u8_bne (n := 10) rfl h10
          have H10 := Lib.hid h10; clear h10
          cases b with
          | true =>
            have HN := Lib.hid (gr_in HG.out hd.out H10.out)
            go_wp2_with fail
            go_roundw
            case rel => exact ⟨k + 1, done, true, by omega, by omega, by go_num, rfl, HN, HW, HB⟩
            case measure => simp [intOf, boolOf]; omega
          | false =>
            cases hbl : isBlank s[k] with
            | true =>
              have HBl := Lib.hid hbl; clear hbl
              have HN := Lib.hid (gr_blank HG.out hd.out H10.out HBl.out)
              go_wp2_with (go_at_call 32; refine (refBlank_calls _ _).mono ?_; rintro e w' ⟨rfl, rfl⟩; rw [HBl.out])
              go_roundw
              case rel => exact ⟨k + 1, done, _, by omega, by omega, by go_num, rfl, HN, HW, HB⟩
              case measure => simp [intOf, boolOf]; omega
            | false =>
              have HBl := Lib.hid hbl; clear hbl
              by_cases h35 : s[k] = 35
              · have e2 := u8_beq (n := 35) rfl h35
                have HN := Lib.hid (gr_hash HG.out hd.out h35)
                clear h35
                go_wp2_with (go_at_call 32; refine (refBlank_calls _ _).mono ?_; rintro e w' ⟨rfl, rfl⟩; rw [HBl.out])
                go_roundw
                case rel => exact ⟨k, done, true, by omega, by omega, by go_num, rfl, HN, HW, HB⟩
                case measure => simp [intOf, boolOf]
              · have e2 := u8_bne (n := 35) rfl h35
                have H35 := Lib.hid h35; clear h35
                cases hn : nextT (s.data.toList.drop k) with
                | error x =>
                  have hr : Hid (scanOut s.data.toList = .error (k, x)) := HO.out.trans (gr_bad HG.out hd.out HBl.out H35.out hn)
                  have hee : x = 2 ∨ x = 3 ∨ x = 10 := nextT_err hd.out hn
                  have e3 : ((x : Int) != 0) = true := by rw [bne_iff_ne]; omega
                  have HR := Lib.hid (tokRes_err hn)
                  clear hn hee
                  go_wp2_with (go_at_call 32; refine (refBlank_calls _ _).mono ?_; rintro e w' ⟨rfl, rfl⟩; rw [HBl.out])
                  refine (refToken_any s k _ hs hlt).mono ?_
                  rintro e w1 ⟨rfl, hb1⟩
                  rw [HR.out]
                  have HB1 := Lib.hid (HB.out.trans (hb1.mono hBs))
                  have hs1 := hb1.size
                  clear hb1
                  unfold noTok
                  go_wp2_with fail
                  refine bodyPost_ret (results_tmp3 rfl _ _ _) rfl ⟨.slice none 0 0, ?_, ?_, HB1.out.alloc (by omega) _⟩
                  · rw [hr.out]; rfl
                  · rw [hr.out]; exact World.ownsRow_nil _ _ _ _
                | ok x =>
                  obtain ⟨t, n⟩ := x
                  have hns := nextT_ok hn
                  have hn1 := hns.1
                  have hn2 := hns.2.1
                  rw [List.length_drop, HL.out] at hn2
                  have HN := Lib.hid (gr_tok HG.out hd.out HBl.out H35.out hn)
                  have HR := Lib.hid (tokRes_ok hn)
                  clear hn hns
                  go_wp2_with (go_at_call 32; refine (refBlank_calls _ _).mono ?_; rintro e w' ⟨rfl, rfl⟩; rw [HBl.out])
                  refine (refToken_any s k _ hs hlt).mono ?_
                  rintro e w1 ⟨rfl, hb1⟩
                  rw [HR.out]
                  have HW1 := Lib.hid (own_below HW.out hb1)
                  have HB1 := Lib.hid (HB.out.trans (hb1.mono hBs))
                  have hs1 := hb1.size
                  clear hb1
                  unfold tokVal tokCells Tok.at
                  go_wp2_with (at_builtin; go_must (refine wpList_push rfl _ _ elemTok rfl (w1.alloc (.cells #[.int .i64 t.kind, .string ⟨t.text.toArray⟩, .int .i64 t.n, .int .i64 k] 55)) w.heap.size u5 done.length (toksCells done) rfl (HW1.out.alloc _) [.int .i64 t.kind, .string ⟨t.text.toArray⟩, .int .i64 t.n, .int .i64 k] rfl rfl (by simp) rfl (one_tok _ _ _ _) (by omega) (by omega) (by simp; omega) ?_; intro v' w2 ho hg2 hb2))
                  go_roundw
                  case rel => exact ⟨k + n, done ++ [t.at k], false, by omega, by simp; omega, by go_num, rfl, HN, own_tok (p := k) ho rfl, (HB1.out.alloc (by omega) _).trans hb2⟩
                  case measure => simp [intOf, boolOf]; omega
      · have hr : Hid (scanOut s.data.toList = .ok done) := HO.out.trans (gr_end HG.out (by rw [HL.out]; omega) (by rw [HL.out]; omega))
        go_wp2_with fail
        go_ret3
        refine ⟨u5, ?_, ?_, HB.out⟩
        · rw [hr.out]; rfl
        · rw [hr.out]; exact HW.out
  · have HO : Hid (scanOut s.data.toList = .error (0, 6)) := by show _ = _; rw [scanOut, if_pos (by rw [HL.out]; omega)]
    go_enter Tryz.func14, Tryz.ntmps14
    go_wp2_with fail
    refine bodyPost_ret (results_tmp3 rfl _ _ _) rfl ⟨.slice none 0 0, ?_, ?_, Below.refl _ _⟩
    · rw [HO.out]; rfl
    · rw [HO.out]; exact World.ownsRow_nil _ _ _ _
end Go.Proofs.YtckgmilmhofekaaGreatDoor
namespace Go.Proofs.YtckgmilmhofekaaGreatDoor
open Go.RowKit

/-- A token as it lies in memory, valid or not. -/
structure RTok where
 kind : Int
 text : ByteArray
 n : Int
 pos : Int
def rCells (t : RTok) : List Value := [.int .i64 t.kind, .string t.text, .int .i64 t.n, .int .i64 t.pos]
def rText (t : RTok) : Bytes := if t.kind = 2 then escL t.text.data.toList else t.text.data.toList
def printR (ts : List RTok) : Bytes := Lib.join (ts.map rText) [32]
def RawIn (w : World) (v : Value) (ts : List RTok) : Prop := RdS w v ts.length 4 (fun k => (ts[k]?.map rCells).getD [])
theorem RawIn.keep {w w' : World} {v : Value} {ts : List RTok} (h : RawIn w v ts) (hb : Below w.heap.size w w') : RawIn w' v ts := RdS.keep h hb
theorem RawIn.at {w : World} {a : Option Addr} {n cap : Nat} {ts : List RTok} (h : RawIn w (.slice a n cap) ts) {k : Nat} (hk : k < ts.length) :
  ∃ b off, a = some ⟨b, off, none⟩ ∧ b < w.heap.size ∧ ∀ j u, (rCells ts[k])[j]? = some u → w.cell? ⟨b, off + k * 4 + j, none⟩ = some u := by
 obtain ⟨a', cap', hv, hc⟩ := h
 cases hv
 obtain ⟨b, off, ha, hlt, hcell⟩ := hc k hk
 refine ⟨b, off, ha, hlt, fun j u hj => hcell j u ?_⟩
 show ((ts[k]?.map rCells).getD [])[j]? = some u
 rw [List.getElem?_eq_getElem hk]; exact hj
theorem RawIn.shape {w : World} {v : Value} {ts : List RTok} (h : RawIn w v ts) : ∃ a cap, v = .slice a ts.length cap := by
 obtain ⟨a, cap, hv, _⟩ := h; exact ⟨a, cap, hv⟩
theorem rText_len {ts : List RTok} {k : Nat} (hk : k < ts.length) : ((ts.take (k + 1)).map rText) = ((ts.take k).map rText) ++ [rText ts[k]] := by
 rw [List.take_succ_eq_append_getElem hk, List.map_append]; rfl
theorem joinTail_app (sep : Bytes) (a b : List Bytes) : Lib.joinTail sep (a ++ b) = Lib.joinTail sep a ++ Lib.joinTail sep b := by simp [Lib.joinTail]
theorem join_snoc (l : List Bytes) (b sep : Bytes) : Lib.join (l ++ [b]) sep = if l = [] then b else Lib.join l sep ++ (sep ++ b) := by
 cases l with
 | nil => simp [Lib.join_one]
 | cons x r => rw [if_neg (by simp), List.cons_append, Lib.join_cons, Lib.join_cons, joinTail_app, List.append_assoc]; simp [Lib.joinTail]
theorem rText_le (t : RTok) : (rText t).length ≤ 2 * t.text.data.toList.length + 2 := by
  unfold rText; split
  · have := escBody_len t.text.data.toList
    simp only [escL, List.length_cons, List.length_append, List.length_nil]; omega
  · omega
theorem printR_le (ts : List RTok) (M : Nat) (h : ∀ t ∈ ts, t.text.size ≤ M) : (printR ts).length ≤ ts.length * (2 * M + 3) := by
 unfold printR
 cases ts with
 | nil => simp [Lib.join_nil]
 | cons x r =>
  have hl : ∀ t : RTok, t.text.size ≤ M → (rText t).length ≤ 2 * M + 2 := by
   intro t ht; have := rText_le t; rw [bytes_len] at this; omega
  have hx := hl x (h x (by simp))
  have hr : ∀ r : List RTok, (∀ t ∈ r, t.text.size ≤ M) → (Lib.joinTail [32] (r.map rText)).length ≤ r.length * (2 * M + 3) := by
   intro r
   induction r with
   | nil => intro _; simp [Lib.joinTail]
   | cons y q ih =>
    intro hq
    have h1 := ih (fun t ht => hq t (by simp [ht]))
    have h2 := hl y (hq y (by simp))
    have : Lib.joinTail [32] ((y :: q).map rText) = 32 :: (rText y ++ Lib.joinTail [32] (q.map rText)) := by simp [Lib.joinTail]
    rw [this, List.length_cons, List.length_append, List.length_cons, Nat.succ_mul]; omega
  have := hr r (fun t ht => h t (by simp [ht]))
  rw [List.map_cons, Lib.join_cons, List.length_append, List.length_cons, Nat.succ_mul]; omega
theorem printR_snoc {ts : List RTok} {k : Nat} (hk : k < ts.length) : printR (ts.take (k + 1)) = if k = 0 then rText ts[k] else printR (ts.take k) ++ (32 :: rText ts[k]) := by
  unfold printR
  rw [rText_len hk, join_snoc]
  by_cases h0 : k = 0
  · subst h0; rfl
  · rw [if_neg h0, if_neg ?_]; rfl
    intro h
    have := congrArg List.length h
    rw [List.length_map, List.length_take, List.length_nil] at this; omega
end Go.Proofs.YtckgmilmhofekaaGreatDoor
