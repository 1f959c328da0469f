/- Walk: the reference's scanner: the same tokens. -/
import Derived.Test.YtekaplogeogbjaaDoorLexRef3
namespace Go.Proofs.YtekaplogeogbjaaDoor
open Go.RowKit

/-- The reference at an offset, inside or outside of a comment: which tokens are done, and that only a gap lies behind them. -/
def GR (l : Bytes) (k : Nat) (b : Bool) (done : List Tok) : Prop := ∃ p, p ≤ k ∧ ScanAt l p done ∧ gapC false (l.drop p) = (k - p) + gapC b (l.drop k)
def boolOf : Value → Nat | .bool true => 0 | _ => 1
theorem gr_start (l : Bytes) : GR l 0 false [] := ⟨0, Nat.le_refl _, scanAt_start l, by simp⟩
theorem gr_step {l : Bytes} {k : Nat} {b b' : Bool} {done : List Tok} {c : UInt8} (h : GR l k b done) (hd : l.drop k = c :: l.drop (k + 1)) (hg : gapC b (c :: l.drop (k + 1)) = gapC b' (l.drop (k + 1)) + 1) : GR l (k + 1) b' done := by
  obtain ⟨p, hp, hs, he⟩ := h
  refine ⟨p, by omega, hs, ?_⟩
  rw [he, hd, hg]; omega
theorem gr_nl {l : Bytes} {k : Nat} {b : Bool} {done : List Tok} {c : UInt8} (h : GR l k b done) (hd : l.drop k = c :: l.drop (k + 1)) (h10 : c = 10) : GR l (k + 1) false done := gr_step h hd (by rw [gapC_cons, if_pos h10])
theorem gr_in {l : Bytes} {k : Nat} {done : List Tok} {c : UInt8} (h : GR l k true done) (hd : l.drop k = c :: l.drop (k + 1)) (h10 : c ≠ 10) : GR l (k + 1) true done := gr_step h hd (gap_in h10 _)
theorem gr_blank {l : Bytes} {k : Nat} {done : List Tok} {c : UInt8} (h : GR l k false done) (hd : l.drop k = c :: l.drop (k + 1)) (h10 : c ≠ 10) (hb : isBlank c = true) : GR l (k + 1) false done := gr_step h hd (by rw [gapC_cons, if_neg h10, if_neg (by simp), if_pos hb])
theorem gr_hash {l : Bytes} {k : Nat} {done : List Tok} {c : UInt8} (h : GR l k false done) (hd : l.drop k = c :: l.drop (k + 1)) (hc : c = 35) : GR l k true done := by
  subst hc
  obtain ⟨p, hp, hs, he⟩ := h
  exact ⟨p, hp, hs, by rw [he, hd, gap_hash]⟩
theorem gr_end {l : Bytes} {k : Nat} {b : Bool} {done : List Tok} (h : GR l k b done) (hk : l.length ≤ k) (hk2 : k ≤ l.length) : scanAll l = .ok done := by
  obtain ⟨p, hp, hs, he⟩ := h
  refine scanAt_done hs ?_
  rw [he, List.drop_of_length_le hk, List.length_drop, gapC]; omega
theorem gr_here {l : Bytes} {k : Nat} {done : List Tok} {c : UInt8} (h : GR l k false done) (hd : l.drop k = c :: l.drop (k + 1)) (hb : isBlank c = false) (h35 : c ≠ 35) : ∃ p g, k = p + g ∧ ScanAt l p done ∧ gapC false (l.drop p) = g := by
  obtain ⟨p, hp, hs, he⟩ := h
  rw [hd, gapC_zero hb h35] at he
  exact ⟨p, k - p, by omega, hs, by omega⟩
theorem gr_tok {l : Bytes} {k n : Nat} {t : Tok} {done : List Tok} {c : UInt8} (h : GR l k false done) (hd : l.drop k = c :: l.drop (k + 1)) (hb : isBlank c = false) (h35 : c ≠ 35) (hn : nextT (l.drop k) = .ok (t, n)) : GR l (k + n) false (done ++ [t.at k]) := by
  obtain ⟨p, g, rfl, hs, hg⟩ := gr_here h hd hb h35
  rw [hd] at hn
  exact ⟨_, Nat.le_refl _, scanAt_tok hs hg hd hn, by simp⟩
theorem gr_bad {l : Bytes} {k e : Nat} {done : List Tok} {c : UInt8} (h : GR l k false done) (hd : l.drop k = c :: l.drop (k + 1)) (hb : isBlank c = false) (h35 : c ≠ 35) (hn : nextT (l.drop k) = .error e) : scanAll l = .error (k, e) := by
  obtain ⟨p, g, rfl, hs, hg⟩ := gr_here h hd hb h35
  rw [hd] at hn
  exact scanAt_bad hs hg hd hn

set_option maxHeartbeats 8000000 in
set_option maxRecDepth 100000 in
theorem refScan_any (s : ByteArray) (w : World) (hs : s.size ≤ 137438953472) :
    Calls Tryd.prog 16 #[.string s] w (ScanPost (scanOut s.data.toList) w) := by
  have HL : Hid (s.data.toList.length = s.size) := bytes_len s
  by_cases h4 : s.size ≤ 4000
  · have HO : Hid (scanOut s.data.toList = scanAll s.data.toList) := by show _ = _; rw [scanOut, if_neg (by rw [HL.out]; omega)]
    go_enter Tryd.func16, Tryd.ntmps16
    go_wp2_with fail
    go_loopw [5, 6, 7] (fun v n c wr => ∃ (k : Nat) (done : List Tok) (b : Bool), k ≤ s.size ∧ done.length ≤ k ∧ n = .int .i64 k ∧ c = .bool b ∧ Hid (GR s.data.toList k b done) ∧ Hid (wr.ownsRow w.heap.size 32 4 v done.length (toksCells done)) ∧ Hid (Below w.heap.size w wr)) (fun _ n c _ => 2 * (s.size - (intOf n).toNat) + boolOf c)
    case atStart => exact ⟨0, [], false, by omega, by simp, rfl, rfl, gr_start _, World.ownsRow_nil _ _ _ _, Below.refl _ _⟩
    case round =>
      obtain ⟨k, done, b, hk, hdk, rfl, rfl, HG, HW, HB⟩ := hrel
      have hBs := HB.out.size
      by_cases hlt : k < s.size
      · have hd := Lib.hid (bytes_drop s k hlt)
        by_cases h10 : s[k] = 10
        · have e1 := u8_beq (n := 10) rfl h10
          have HBl : Hid (isBlank s[k] = true) := by show _ = _; rw [h10]; decide
          have HN := Lib.hid (gr_nl HG.out hd.out h10)
          clear h10
          cases b
          all_goals
            go_wp2_with (go_at_call 29; refine (refBlank_calls _ _).mono ?_; rintro e w' ⟨rfl, rfl⟩; rw [HBl.out])
            go_roundw
            case rel => exact ⟨k + 1, done, _, by omega, by omega, by go_num, rfl, HN, HW, HB⟩
            case measure => simp [intOf, boolOf]; omega
        · have e1 := u8_bne (n := 10) rfl h10
          have H10 := Lib.hid h10; clear h10
          cases b with
          | true =>
            have HN := Lib.hid (gr_in HG.out hd.out H10.out)
            go_wp2_with fail
            go_roundw
            case rel => exact ⟨k + 1, done, true, by omega, by omega, by go_num, rfl, HN, HW, HB⟩
            case measure => simp [intOf, boolOf]; omega
          | false =>
            cases hbl : isBlank s[k] with
            | true =>
              have HBl := Lib.hid hbl; clear hbl
              have HN := Lib.hid (gr_blank HG.out hd.out H10.out HBl.out)
              go_wp2_with (go_at_call 29; refine (refBlank_calls _ _).mono ?_; rintro e w' ⟨rfl, rfl⟩; rw [HBl.out])
              go_roundw
              case rel => exact ⟨k + 1, done, _, by omega, by omega, by go_num, rfl, HN, HW, HB⟩
              case measure => simp [intOf, boolOf]; omega
            | false =>
              have HBl := Lib.hid hbl; clear hbl
              by_cases h35 : s[k] = 35
              · have e2 := u8_beq (n := 35) rfl h35
                have HN := Lib.hid (gr_hash HG.out hd.out h35)
                clear h35
                go_wp2_with (go_at_call 29; refine (refBlank_calls _ _).mono ?_; rintro e w' ⟨rfl, rfl⟩; rw [HBl.out])
                go_roundw
                case rel => exact ⟨k, done, true, by omega, by omega, by go_num, rfl, HN, HW, HB⟩
                case measure => simp [intOf, boolOf]
              · have e2 := u8_bne (n := 35) rfl h35
                have H35 := Lib.hid h35; clear h35
                cases hn : nextT (s.data.toList.drop k) with
                | error x =>
                  have hr : Hid (scanOut s.data.toList = .error (k, x)) := HO.out.trans (gr_bad HG.out hd.out HBl.out H35.out hn)
                  have hee : x = 2 ∨ x = 3 ∨ x = 10 := nextT_err hd.out hn
                  have e3 : ((x : Int) != 0) = true := by rw [bne_iff_ne]; omega
                  have HR := Lib.hid (tokRes_err hn)
                  clear hn hee
                  go_wp2_with (go_at_call 29; refine (refBlank_calls _ _).mono ?_; rintro e w' ⟨rfl, rfl⟩; rw [HBl.out])
                  refine (refToken_any s k _ hs hlt).mono ?_
                  rintro e w1 ⟨rfl, hb1⟩
                  rw [HR.out]
                  have HB1 := Lib.hid (HB.out.trans (hb1.mono hBs))
                  have hs1 := hb1.size
                  clear hb1
                  unfold noTok
                  go_wp2_with fail
                  refine bodyPost_ret (results_tmp3 rfl _ _ _) rfl ⟨.slice none 0 0, ?_, ?_, HB1.out.alloc (by omega) _⟩
                  · rw [hr.out]; rfl
                  · rw [hr.out]; exact World.ownsRow_nil _ _ _ _
                | ok x =>
                  obtain ⟨t, n⟩ := x
                  have hns := nextT_ok hn
                  have hn1 := hns.1
                  have hn2 := hns.2.1
                  rw [List.length_drop, HL.out] at hn2
                  have HN := Lib.hid (gr_tok HG.out hd.out HBl.out H35.out hn)
                  have HR := Lib.hid (tokRes_ok hn)
                  clear hn hns
                  go_wp2_with (go_at_call 29; refine (refBlank_calls _ _).mono ?_; rintro e w' ⟨rfl, rfl⟩; rw [HBl.out])
                  refine (refToken_any s k _ hs hlt).mono ?_
                  rintro e w1 ⟨rfl, hb1⟩
                  rw [HR.out]
                  have HW1 := Lib.hid (own_below HW.out hb1)
                  have HB1 := Lib.hid (HB.out.trans (hb1.mono hBs))
                  have hs1 := hb1.size
                  clear hb1
                  unfold tokVal tokCells Tok.at
                  go_wp2_with (at_builtin; go_must (refine wpList_push rfl _ _ elemTok rfl (w1.alloc (.cells #[.int .i64 t.kind, .string ⟨t.text.toArray⟩, .int .i64 t.n, .int .i64 k] 32)) w.heap.size u5 done.length (toksCells done) rfl (HW1.out.alloc _) [.int .i64 t.kind, .string ⟨t.text.toArray⟩, .int .i64 t.n, .int .i64 k] rfl rfl (by simp) rfl (one_tok _ _ _ _) (by omega) (by omega) (by simp; omega) ?_; intro v' w2 ho hg2 hb2))
                  go_roundw
                  case rel => exact ⟨k + n, done ++ [t.at k], false, by omega, by simp; omega, by go_num, rfl, HN, own_tok (p := k) ho rfl, (HB1.out.alloc (by omega) _).trans hb2⟩
                  case measure => simp [intOf, boolOf]; omega
      · have hr : Hid (scanOut s.data.toList = .ok done) := HO.out.trans (gr_end HG.out (by rw [HL.out]; omega) (by rw [HL.out]; omega))
        go_wp2_with fail
        go_ret3
        refine ⟨u5, ?_, ?_, HB.out⟩
        · rw [hr.out]; rfl
        · rw [hr.out]; exact HW.out
  · have HO : Hid (scanOut s.data.toList = .error (0, 6)) := by show _ = _; rw [scanOut, if_pos (by rw [HL.out]; omega)]
    go_enter Tryd.func16, Tryd.ntmps16
    go_wp2_with fail
    refine bodyPost_ret (results_tmp3 rfl _ _ _) rfl ⟨.slice none 0 0, ?_, ?_, Below.refl _ _⟩
    · rw [HO.out]; rfl
    · rw [HO.out]; exact World.ownsRow_nil _ _ _ _

theorem refScan_gen (s : ByteArray) (w : World) (hs : s.size ≤ 137438953472) {r : Except (Nat × Nat) (List Tok)} (h : scanOut s.data.toList = r) {n p x : Nat} (hn : n = (toksOf r).length) (hp : p = posOf r) (hx : x = errOf r) :
    Calls Tryd.prog 16 #[.string s] w fun e w' => ∃ a cap, e = .returned (.tuple #[.slice a n cap, .int .i64 p, .int .i64 x]) ∧ ToksIn w' (.slice a n cap) (toksOf r) ∧ Below w.heap.size w w' := by
  subst hn hp hx
  refine (refScan_any s w hs).mono ?_
  rw [h]
  rintro e w' ⟨v, rfl, ho, hb⟩
  have ht := toksIn_own ho
  obtain ⟨a, cap, rfl⟩ := ht.shape
  exact ⟨a, cap, rfl, ht, hb⟩
end Go.Proofs.YtekaplogeogbjaaDoor
