/- Walks: equal lists of tokens are told to be equal; the verifier's escaping, idling, cutting. -/
import Derived.Test.YtekaplogeogbjaaDoorLexPrint
import Derived.WalkSmall
import Derived.Deep.QuietTactic
import Derived.BigQuiet
namespace Go.Proofs.YtekaplogeogbjaaDoor
open Go.RowKit

set_option maxHeartbeats 2000000 in
theorem same_true (v1 v2 : Value) (ts : List Tok) (w : World) (h1 : ToksIn w v1 ts) (h2 : ToksIn w v2 ts) (hn : ts.length ≤ 1099511627776) :
    Calls Tryd.prog 21 #[v1, v2] w fun e w' => e = .returned (.bool true) ∧ Below w.heap.size w w' := by
  obtain ⟨a1, cap1, rfl⟩ := h1.shape
  obtain ⟨a2, cap2, rfl⟩ := h2.shape
  have H1 := Lib.hid h1; clear h1
  have H2 := Lib.hid h2; clear h2
  go_enter Tryd.func21, Tryd.ntmps21
  go_wp2_with fail
  go_loopw [5] (fun i wr => ∃ k : Nat, k ≤ ts.length ∧ i = .int .i64 k ∧ Hid (Below w.heap.size w wr)) (fun i _ => ts.length - (intOf i).toNat)
  case atStart => exact ⟨0, Nat.zero_le _, rfl, Below.refl _ _⟩
  case round =>
    obtain ⟨k, hk, rfl, HB⟩ := hrel
    by_cases hlt : k < ts.length
    · obtain ⟨b, off, rfl, hb, hcell⟩ := (H1.out.keep HB.out).at hlt
      obtain ⟨c, off2, rfl, hb2, hcell2⟩ := (H2.out.keep HB.out).at hlt
      obtain ⟨t, htk⟩ : ∃ t, t = ts[k] := ⟨_, rfl⟩
      rw [← htk] at hcell hcell2
      have c0 : wr.cell? ⟨b, off + k * 4, none⟩ = some (.int .i64 t.kind) := hcell 0 _ rfl
      have c1 : wr.cell? ⟨b, off + k * 4 + 1, none⟩ = some (.string ⟨t.text.toArray⟩) := hcell 1 _ rfl
      have c2 : wr.cell? ⟨b, off + k * 4 + 2, none⟩ = some (.int .i64 t.n) := hcell 2 _ rfl
      have c3 : wr.cell? ⟨b, off + k * 4 + 3, none⟩ = some (.int .i64 t.pos) := hcell 3 _ rfl
      have d0 : wr.cell? ⟨c, off2 + k * 4, none⟩ = some (.int .i64 t.kind) := hcell2 0 _ rfl
      have d1 : wr.cell? ⟨c, off2 + k * 4 + 1, none⟩ = some (.string ⟨t.text.toArray⟩) := hcell2 1 _ rfl
      have d2 : wr.cell? ⟨c, off2 + k * 4 + 2, none⟩ = some (.int .i64 t.n) := hcell2 2 _ rfl
      have d3 : wr.cell? ⟨c, off2 + k * 4 + 3, none⟩ = some (.int .i64 t.pos) := hcell2 3 _ rfl
      clear htk hcell hcell2
      have hI : (k : Int) < (ts.length : Int) := by omega
      go_wp2_with fail
      go_quiet (fail)
      go_wp2_with fail
      go_roundw
      case rel => exact ⟨k + 1, by omega, by go_num, below_drewN HB.out _⟩
      case measure => simp [intOf]; omega
    · go_wp2_with fail
      go_ret
      exact ⟨rfl, HB.out⟩

/-- Two lists are alike: equal apart from the places. -/
def Alike (ts us : List Tok) : Prop := us.map (fun t => t.at 0) = ts.map (fun t => t.at 0)
theorem Alike.len {ts us : List Tok} (h : Alike ts us) : us.length = ts.length := by have := congrArg List.length h; simpa using this
theorem Alike.at {ts us : List Tok} (h : Alike ts us) {k : Nat} (h1 : k < ts.length) (h2 : k < us.length) : us[k].kind = ts[k].kind ∧ us[k].text = ts[k].text ∧ us[k].n = ts[k].n := by
  have := congrArg (fun l => l[k]?) h
  simp [List.getElem?_eq_getElem h1, List.getElem?_eq_getElem h2] at this
  simp [Tok.at] at this
  exact ⟨this.1, this.2.1, this.2.2⟩

set_option maxHeartbeats 4000000 in
theorem like_true (v1 v2 : Value) (ts us : List Tok) (w : World) (h1 : ToksIn w v1 ts) (h2 : ToksIn w v2 us) (hl : Alike ts us) (hn : ts.length ≤ 1099511627776) :
    Calls Tryd.prog 13 #[v1, v2] w fun e w' => e = .returned (.bool true) ∧ Below w.heap.size w w' := by
  obtain ⟨a1, cap1, rfl⟩ := h1.shape
  obtain ⟨a2, cap2, rfl⟩ := h2.shape
  have H1 := Lib.hid h1; clear h1
  have H2 := Lib.hid h2; clear h2
  have HA := Lib.hid hl
  rw [hl.len]
  clear hl
  go_enter Tryd.func13, Tryd.ntmps13
  go_wp2_with fail
  go_loopw [5] (fun i wr => ∃ k : Nat, k ≤ ts.length ∧ i = .int .i64 k ∧ Hid (Below w.heap.size w wr)) (fun i _ => ts.length - (intOf i).toNat)
  case atStart => exact ⟨0, Nat.zero_le _, rfl, Below.refl _ _⟩
  case round =>
    obtain ⟨k, hk, rfl, HB⟩ := hrel
    by_cases hlt : k < ts.length
    · have hlt2 : k < us.length := by rw [HA.out.len]; exact hlt
      obtain ⟨b, off, rfl, hb, hcell⟩ := (H1.out.keep HB.out).at hlt
      obtain ⟨c, off2, ha2, hb2, hcell2⟩ := (H2.out.keep HB.out).at hlt2
      subst ha2
      obtain ⟨e1, e2, e3⟩ := HA.out.at hlt hlt2
      obtain ⟨t, htk⟩ : ∃ t, t = ts[k] := ⟨_, rfl⟩
      obtain ⟨u, huk⟩ : ∃ u, u = us[k] := ⟨_, rfl⟩
      rw [← htk, ← huk] at e1 e2 e3
      rw [← htk] at hcell
      rw [← huk] at hcell2
      have c0 : wr.cell? ⟨b, off + k * 4, none⟩ = some (.int .i64 t.kind) := hcell 0 _ rfl
      have c1 : wr.cell? ⟨b, off + k * 4 + 1, none⟩ = some (.string ⟨t.text.toArray⟩) := hcell 1 _ rfl
      have c2 : wr.cell? ⟨b, off + k * 4 + 2, none⟩ = some (.int .i64 t.n) := hcell 2 _ rfl
      have d0 : wr.cell? ⟨c, off2 + k * 4, none⟩ = some (.int .i64 t.kind) := by rw [← e1]; exact hcell2 0 _ rfl
      have d1 : wr.cell? ⟨c, off2 + k * 4 + 1, none⟩ = some (.string ⟨t.text.toArray⟩) := by rw [← e2]; exact hcell2 1 _ rfl
      have d2 : wr.cell? ⟨c, off2 + k * 4 + 2, none⟩ = some (.int .i64 t.n) := by rw [← e3]; exact hcell2 2 _ rfl
      clear htk huk hcell hcell2 e1 e2 e3 hlt2
      have hI : (k : Int) < (ts.length : Int) := by omega
      go_wp2_with fail
      go_quiet (fail)
      go_wp2_with fail
      go_roundw
      case rel => exact ⟨k + 1, by omega, by go_num, below_drewN HB.out _⟩
      case measure => simp [intOf]; omega
    · go_wp2_with fail
      go_ret
      exact ⟨rfl, HB.out⟩

/-! ### idle -/
theorem gap_step (b : Bool) (c : UInt8) (r : Bytes) : gapC b (c :: r) = if (decide (c = 35) || (b && decide (c ≠ 10))) || isBlank c then gapC (decide (c = 35) || (b && decide (c ≠ 10))) r + 1 else 0 := by
  rw [gapC_cons]
  by_cases h10 : c = 10
  · subst h10; cases b <;> simp [isBlank]
  · by_cases h35 : c = 35
    · subst h35; cases b <;> simp [isBlank]
    · cases b <;> simp [h10, h35]

def IdleAt (l : Bytes) (k : Nat) (b : Bool) : Prop := gapC b (l.drop k) = (l.drop k).length
theorem idle_next {l : Bytes} {k : Nat} {b : Bool} {c : UInt8} (h : IdleAt l k b) (hd : l.drop k = c :: l.drop (k + 1)) :
    ((decide (c = 35) || (b && decide (c ≠ 10))) || isBlank c) = true ∧ IdleAt l (k + 1) (decide (c = 35) || (b && decide (c ≠ 10))) := by
  unfold IdleAt at *
  rw [hd, gap_step] at h
  split at h
  · rename_i hc; exact ⟨hc, by simpa using h⟩
  · simp at h

theorem refBlank_calls (c : UInt8) (w : World) : Calls Tryd.prog 29 #[.int .u8 c.toNat] w fun e w' => e = .returned (.bool (isBlank c)) ∧ w = w' := by
  go_enter Tryd.func29, Tryd.ntmps29
  go_wp2
  all_goals (go_ret; refine ⟨ret_bool ?_, rfl⟩; rw [Bool.eq_iff_iff]; simp [isBlank]; omega)

set_option maxHeartbeats 2000000 in
theorem idle_true (s : ByteArray) (w : World) (hs : s.size ≤ maxLen) (hi : idleP s.data.toList) :
    Calls Tryd.prog 15 #[.string s] w fun e w' => e = .returned (.bool true) ∧ w = w' := by
  unfold maxLen at hs
  have h0 : Hid (IdleAt s.data.toList 0 false) := hi
  clear hi
  go_enter Tryd.func15, Tryd.ntmps15
  go_wp2_with fail
  go_loop [3, 4] (fun b i => ∃ (k : Nat) (c : Bool), k ≤ s.size ∧ i = .int .i64 k ∧ b = .bool c ∧ Hid (IdleAt s.data.toList k c)) (fun _ i => s.size - (intOf i).toNat)
  case atStart => exact ⟨0, false, Nat.zero_le _, rfl, rfl, h0⟩
  case round =>
    obtain ⟨k, b, hk, rfl, rfl, HI⟩ := hrel
    clear h0
    by_cases hlt : k < s.size
    · have hd := bytes_drop s k hlt
      have hn := idle_next HI.out hd
      clear hd
      by_cases h35 : s[k] = 35
      · have e1 := u8_beq (n := 35) rfl h35
        have hx : Hid (IdleAt s.data.toList (k + 1) true) := by have := hn.2; simp [h35] at this; exact this
        clear hn h35
        go_wp2_with fail
        go_round
        case rel => exact ⟨k + 1, true, by omega, by go_num, rfl, hx⟩
        case measure => simp [intOf]; omega
      · have e1 := u8_bne (n := 35) rfl h35
        cases b with
        | false =>
          have hx : Hid (IdleAt s.data.toList (k + 1) false) := by have := hn.2; simp [h35] at this; exact this
          have hb : Hid (isBlank s[k] = true) := by have := hn.1; simp [h35] at this; exact this
          clear hn h35
          go_wp2_with (go_at_call 29; refine (refBlank_calls _ _).mono ?_; rintro e w' ⟨rfl, rfl⟩; rw [hb.out])
          go_round
          case rel => exact ⟨k + 1, false, by omega, by go_num, rfl, hx⟩
          case measure => simp [intOf]; omega
        | true =>
          by_cases h10 : s[k] = 10
          · have e2 := u8_nne (n := 10) rfl h10
            have hx : Hid (IdleAt s.data.toList (k + 1) false) := by have := hn.2; simp [h10] at this; exact this
            have hb : Hid (isBlank s[k] = true) := by show _ = _; rw [h10]; decide
            clear hn h35 h10
            go_wp2_with (go_at_call 29; refine (refBlank_calls _ _).mono ?_; rintro e w' ⟨rfl, rfl⟩; rw [hb.out])
            go_round
            case rel => exact ⟨k + 1, false, by omega, by go_num, rfl, hx⟩
            case measure => simp [intOf]; omega
          · have e2 := u8_neq (n := 10) rfl h10
            have hx : Hid (IdleAt s.data.toList (k + 1) true) := by have := hn.2; simp [h10, h35] at this; exact this
            clear hn h35 h10
            go_wp2_with fail
            go_round
            case rel => exact ⟨k + 1, true, by omega, by go_num, rfl, hx⟩
            case measure => simp [intOf]; omega
    · go_wp2_with fail
      go_ret
      exact ⟨rfl, rfl⟩

/-! ### the verifier's Escaped, cut -/
set_option maxHeartbeats 2000000 in
theorem refEscaped_any (s : ByteArray) (w : World) (hs : s.size ≤ 137438953472) :
    Calls Tryd.prog 14 #[.string s] w fun e w' => e = .returned (.string ⟨(escL s.data.toList).toArray⟩) ∧ w = w' := by
  go_enter Tryd.func14, Tryd.ntmps14
  go_wp2_with fail
  go_loop [3, 4] (fun t i => ∃ (k : Nat) (x : ByteArray), k ≤ s.size ∧ i = .int .i64 k ∧ t = .string x ∧ x.size ≤ 2 * k + 1 ∧ Hid (x.data.toList = 34 :: escBody (s.data.toList.take k))) (fun _ i => s.size - (intOf i).toNat)
  case atStart => exact ⟨0, _, Nat.zero_le _, rfl, rfl, by decide, rfl⟩
  case round =>
    obtain ⟨k, x, hk, rfl, rfl, hxl, HX⟩ := hrel
    by_cases hlt : k < s.size
    · have hsn : Hid (escBody (s.data.toList.take (k + 1)) = escBody (s.data.toList.take k) ++ (if s[k] = 34 ∨ s[k] = 92 then [92, s[k]] else [s[k]])) := by
        show _ = _
        rw [take_snoc s k hlt, escBody_snoc]
      have hone : Hid ((s.extract k (k + 1)).data.toList = [s[k]]) := by
        show _ = _
        rw [Lib.extract_data, bytes_drop s k hlt]; simp
      by_cases hq : s[k] = 34 ∨ s[k] = 92
      · have hor : ((s[k].toNat : Int) == 34) = true ∨ (((s[k].toNat : Int) == 34) = false ∧ ((s[k].toNat : Int) == 92) = true) := by
          rcases hq with h | h
          · exact .inl ((u8_test _ 34).2 h)
          · right; rw [h]; exact ⟨by decide, by decide⟩
        have HQ := Lib.hid hq; clear hq
        rcases hor with e1 | ⟨e1, e2⟩
        all_goals
          have h92 : (⟨#[92]⟩ : ByteArray).size = 1 := rfl
          go_wp2_with fail
          go_round
          case rel => exact ⟨k + 1, _, by omega, by go_num, rfl, by simp [h92]; omega, by show _ = _; simp only [ByteArray.data_append, Array.toList_append, HX.out, hone.out, hsn.out, if_pos HQ.out]; simp⟩
          case measure => simp [intOf]; omega
      · have e1 : ((s[k].toNat : Int) == 34) = false := u8_bne rfl (fun h => hq (.inl h))
        have e2 : ((s[k].toNat : Int) == 92) = false := u8_bne rfl (fun h => hq (.inr h))
        have HQ := Lib.hid hq; clear hq
        go_wp2_with fail
        go_round
        case rel => exact ⟨k + 1, _, by omega, by go_num, rfl, by simp; omega, by show _ = _; simp only [ByteArray.data_append, Array.toList_append, HX.out, hone.out, hsn.out, if_neg HQ.out]; simp⟩
        case measure => simp [intOf]; omega
    · have hall : Hid (s.data.toList.take k = s.data.toList) := List.take_of_length_le (by simp; omega)
      go_wp2_with fail
      go_ret
      refine ⟨?_, rfl⟩
      have : x ++ ⟨#[34]⟩ = ⟨(escL s.data.toList).toArray⟩ := by
        refine mk_bytes _ ?_
        rw [ByteArray.data_append, Array.toList_append, HX.out, hall.out]; rfl
      rw [← this]; rfl

theorem cut_any (s : ByteArray) (w : World) (hs : s.size ≤ maxLen) :
    Calls Tryd.prog 11 #[.string s] w fun e w' => ∃ t : ByteArray, e = .returned (.string t) ∧ t.size ≤ 900 ∧ w = w' := by
  unfold maxLen at hs
  by_cases h : s.size ≤ 900
  · go_enter Tryd.func11, Tryd.ntmps11
    go_wp2_with fail
    go_ret
    exact ⟨_, rfl, by simp; omega, rfl⟩
  · go_enter Tryd.func11, Tryd.ntmps11
    go_wp2_with fail
    go_ret
    exact ⟨_, rfl, by simp; omega, rfl⟩
end Go.Proofs.YtekaplogeogbjaaDoor
