/- The walk of LexerErrors: whatever the string, it returns true. -/
import Derived.Test.YtekaplogeogbjaaDoorLawBack
namespace Go.Proofs.YtekaplogeogbjaaDoor
open Go.RowKit

theorem scan_gen (s : ByteArray) (w : World) (hs : s.size ≤ 137438953472) (hsig : SignsIn w) {r : Except (Nat × Nat) (List Tok)} (h : scanOut s.data.toList = r) {n p x : Nat} (hn : n = (toksOf r).length) (hp : p = posOf r) (hx : x = errOf r) :
    Calls Tryd.prog 10 #[.string s] w fun e w' => ∃ a cap, e = .returned (.tuple #[.slice a n cap, .int .i64 p, .int .i64 x]) ∧ ToksIn w' (.slice a n cap) (toksOf r) ∧ Below w.heap.size w w' := by
  subst hn hp hx
  refine (scan_any s w hs hsig).mono ?_
  rw [h]
  rintro e w' ⟨v, rfl, ho, hb⟩
  have ht := toksIn_own ho
  obtain ⟨a, cap, rfl⟩ := ht.shape
  exact ⟨a, cap, rfl, ht, hb⟩

theorem join_blanks (l : Bytes) (n : Nat) : scanAll (l ++ 10 :: List.replicate n 32) = scanAll l := by
  cases h : scanAll l with
  | error e => exact join_error h
  | ok ts =>
    rw [join_ok h, scan_blanks _ (fun c hc => (List.mem_replicate.1 hc).2)]
    simp [shifted, sewn]

theorem joined_bytes (t u : ByteArray) : ((t ++ ⟨#[10]⟩) ++ u).data.toList = t.data.toList ++ 10 :: u.data.toList := by
  simp [ByteArray.data_append]

set_option maxHeartbeats 8000000 in
set_option maxRecDepth 100000 in
theorem errors_full (s : ByteArray) (full : Bool) (w : World) (hs : s.size ≤ maxLen) (hsig : SignsIn w) :
    Calls Tryd.prog 6 #[.string s, .bool full] w fun e w' => e = .returned (.bool true) ∧ Below w.heap.size w w' := by
  have HS := Lib.hid hsig; clear hsig
  go_enter Tryd.func6, Tryd.ntmps6
  go_wp2_with fail
  refine (sane_any _ HS.out).mono ?_
  rintro e w1 ⟨rfl, b1⟩
  have B1 := Lib.hid b1; clear b1
  go_wp2_with fail
  refine (cut_any s _ hs).mono ?_
  rintro e w1' ⟨t, rfl, ht, rfl⟩
  have HL : Hid (t.data.toList.length = t.size) := bytes_len t
  have hso := Lib.hid (scanOut_small (l := t.data.toList) (by rw [HL.out]; omega))
  go_wp2_with fail
  obtain ⟨r, hr⟩ : ∃ r, scanAll t.data.toList = r := ⟨_, rfl⟩
  have HR := Lib.hid hr; clear hr
  obtain ⟨n, hn⟩ : ∃ n, n = (toksOf r).length := ⟨_, rfl⟩
  obtain ⟨p, hp⟩ : ∃ p, p = posOf r := ⟨_, rfl⟩
  obtain ⟨x, hx⟩ : ∃ x, x = errOf r := ⟨_, rfl⟩
  have HN := Lib.hid hn; have HP := Lib.hid hp; have HX := Lib.hid hx
  have hfacts : x ≠ 0 → p < t.size ∧ (x = 2 ∨ x = 3 ∨ x = 10) ∧ (∃ us, scanAll (t.data.toList.take p) = .ok us) ∧ scanAll (t.data.toList.drop p) = .error (0, x) := by
    intro h0
    cases r with
    | ok ts => exact absurd hx h0
    | error q =>
      obtain ⟨q1, q2⟩ := q
      cases hx; cases hp
      have := err_facts HR.out
      rw [HL.out] at this; exact this
  have HF := Lib.hid hfacts
  clear hn hp hx hfacts
  refine (scan_gen t _ (by omega) (HS.out.keep B1.out) (hso.out.trans HR.out) HN.out HP.out HX.out).mono ?_
  rintro e w2 ⟨a2, c2, rfl, h2, b2⟩
  have B2 := Lib.hid (B1.out.trans (b2.mono B1.out.size)); clear b2 h2 B1
  cases full with
  | false =>
    by_cases hx0 : x = 0
    · have e1 : ((x : Int) == 0) = true := by rw [beq_iff_eq]; omega
      clear hx0
      go_wp2_with fail
      go_ret
      exact ⟨rfl, B2.out⟩
    · obtain ⟨f1, f2, ⟨us, f3⟩, f4⟩ := HF.out hx0
      have e1 : ((x : Int) == 0) = false := by rw [beq_eq_false_iff_ne]; omega
      have F3 := Lib.hid f3; have F4 := Lib.hid f4
      have e2 : (((x : Int) != 10) = false) ∨ (((x : Int) != 10) = true ∧ ((x : Int) != 3) = false) ∨ (((x : Int) != 10) = true ∧ ((x : Int) != 3) = true ∧ ((x : Int) != 2) = false) := by
        rcases f2 with rfl | rfl | rfl <;> decide
      clear f3 f4 f2 hx0
      rcases e2 with e2 | ⟨e2, e3⟩ | ⟨e2, e3, e4⟩
      all_goals
        go_wp2_with fail
        refine (scan_ok (t.extract 0 p) _ (by simp; omega) (HS.out.keep B2.out) (ts := us) (by rw [ext_front, scanOut_small (by simp only [List.length_take, HL.out]; omega), F3.out])).mono ?_
        rintro e w3 ⟨v3, rfl, h3, b3⟩
        have B3 := Lib.hid (B2.out.trans (b3.mono B2.out.size)); clear b3 h3
        go_wp2_with fail
        refine (scan_err' (t.extract p t.size) _ (by simp; omega) (HS.out.keep B3.out) (p := 0) (x := x) (by rw [ext_end, scanOut_small (by simp only [List.length_drop, HL.out]; omega), F4.out]) 0 x rfl rfl).mono ?_
        rintro e w4 ⟨a4, c4, rfl, b4⟩
        have B4 := Lib.hid (B3.out.trans (b4.mono B3.out.size)); clear b4
        go_wp2_with fail
        go_ret
        exact ⟨rfl, B4.out⟩
  | true =>
    go_wp2_with fail
    go_loop [10] (fun f => ∃ (x : ByteArray) (m : Nat), f = .string x ∧ 10 ≤ m ∧ m ≤ 8000 ∧ x.size = m ∧ Hid (x.data.toList = List.replicate m 32)) (fun f => match f with | .string x => 4000 - x.size | _ => 0)
    case atStart => exact ⟨_, 10, rfl, by omega, by omega, rfl, rfl⟩
    case round =>
      obtain ⟨f, m, rfl, hm1, hm2, hfm, HF2⟩ := hrel
      by_cases hlt : m < 4000
      · have hlt' : f.size < 4000 := by omega
        go_wp2_with fail
        go_round
        case rel => exact ⟨_, m + m, rfl, by omega, by omega, by simp; omega, by show _ = _; rw [ByteArray.data_append, Array.toList_append, HF2.out, List.replicate_append_replicate]⟩
        case measure => simp; omega
      · have hge : ¬ f.size < 4000 := by omega
        have h10 : (⟨#[10]⟩ : ByteArray).size = 1 := rfl
        have hb1 : ((t ++ ⟨#[10]⟩) ++ f.extract 0 (3999 - t.size)).data.toList = t.data.toList ++ 10 :: List.replicate (3999 - t.size) 32 := by
          rw [joined_bytes, ext_front, HF2.out, List.take_replicate, Nat.min_eq_left (by omega)]
        have hb2 : ((t ++ ⟨#[10]⟩) ++ f.extract 0 (4000 - t.size)).data.toList = t.data.toList ++ 10 :: List.replicate (4000 - t.size) 32 := by
          rw [joined_bytes, ext_front, HF2.out, List.take_replicate, Nat.min_eq_left (by omega)]
        have HB1 := Lib.hid hb1; have HB2 := Lib.hid hb2; clear hb1 hb2
        go_wp2_with fail
        have hz1 : (t ++ ⟨#[10]⟩ ++ f.extract 0 (3999 - t.size)).size = 4000 := by simp [h10]; omega
        have hz2 : (t ++ ⟨#[10]⟩ ++ f.extract 0 (4000 - t.size)).size = 4001 := by simp [h10]; omega
        refine (scan_gen _ _ (by rw [hz1]; omega) (HS.out.keep B2.out) (r := r) (n := n) (p := p) (x := x) (by rw [HB1.out, scanOut_small (by simp only [List.length_append, List.length_cons, List.length_replicate, HL.out]; omega), join_blanks, HR.out]) HN.out HP.out HX.out).mono ?_
        rintro e w2' ⟨a5, c5, rfl, h5, b5⟩
        have B2' := Lib.hid (B2.out.trans (b5.mono B2.out.size)); clear b5 h5 B2 hz1
        go_wp2_with fail
        refine (scan_err' _ _ (by rw [hz2]; omega) (HS.out.keep B2'.out) (p := 0) (x := 6) (by rw [HB2.out, scanOut, if_pos (by simp only [List.length_append, List.length_cons, List.length_replicate, HL.out]; omega)]) 0 6 rfl rfl).mono ?_
        rintro e w2'' ⟨a6, c6, rfl, b6⟩
        have B2 := Lib.hid (B2'.out.trans (b6.mono B2'.out.size)); clear b6 B2' hz2 h10
        by_cases hx0 : x = 0
        · have e1 : ((x : Int) == 0) = true := by rw [beq_iff_eq]; omega
          clear hx0
          go_wp2_with fail
          go_ret
          exact ⟨rfl, B2.out⟩
        · obtain ⟨f1, f2, ⟨us, f3⟩, f4⟩ := HF.out hx0
          have e1 : ((x : Int) == 0) = false := by rw [beq_eq_false_iff_ne]; omega
          have F3 := Lib.hid f3; have F4 := Lib.hid f4
          have e2 : (((x : Int) != 10) = false) ∨ (((x : Int) != 10) = true ∧ ((x : Int) != 3) = false) ∨ (((x : Int) != 10) = true ∧ ((x : Int) != 3) = true ∧ ((x : Int) != 2) = false) := by
            rcases f2 with rfl | rfl | rfl <;> decide
          clear f3 f4 f2 hx0
          rcases e2 with e2 | ⟨e2, e3⟩ | ⟨e2, e3, e4⟩
          all_goals
            go_wp2_with fail
            refine (scan_ok (t.extract 0 p) _ (by simp; omega) (HS.out.keep B2.out) (ts := us) (by rw [ext_front, scanOut_small (by simp only [List.length_take, HL.out]; omega), F3.out])).mono ?_
            rintro e w3 ⟨v3, rfl, h3, b3⟩
            have B3 := Lib.hid (B2.out.trans (b3.mono B2.out.size)); clear b3 h3
            go_wp2_with fail
            refine (scan_err' (t.extract p t.size) _ (by simp; omega) (HS.out.keep B3.out) (p := 0) (x := x) (by rw [ext_end, scanOut_small (by simp only [List.length_drop, HL.out]; omega), F4.out]) 0 x rfl rfl).mono ?_
            rintro e w4 ⟨a4, c4, rfl, b4⟩
            have B4 := Lib.hid (B3.out.trans (b4.mono B3.out.size)); clear b4
            go_wp2_with fail
            go_ret
            exact ⟨rfl, B4.out⟩
end Go.Proofs.YtekaplogeogbjaaDoor
