/- Walks: quoting and unquoting. -/
import Derived.Test.YtekaplogeogbjaaDoorLexCore
namespace Go.Proofs.YtekaplogeogbjaaDoor
open Go.RowKit

/-! ### a builder that holds bytes -/
def Holds (B b : Nat) (l : Bytes) (w : World) : Prop := Lib.IsBuilder 54 5 B b (Lib.byteCells l) w ∧ B ≤ w.heap.size

theorem byteCells_app (a b : Bytes) : Lib.byteCells (a ++ b) = Lib.byteCells a ++ Lib.byteCells b := by simp [Lib.byteCells]

theorem write_byte (B b : Nat) (l : Bytes) (n : Int) (c : UInt8) (w : World) (h : Holds B b l w) (hn : n = c.toNat) (hl : l.length ≤ 1099511627776) :
    Calls Tryd.prog 41 #[.pointer (some ⟨b, 0, none⟩), .int .u8 n] w fun e w' => e = .returned .nilIface ∧ Holds B b (l ++ [c]) w' ∧ Below B w w' := by
  subst hn
  refine (Tryd.Builder_WriteByte B b _ _ w h.1 (by simp [Lib.byteCells]; omega) h.2).mono ?_
  rintro e w' ⟨rfl, h1, h2⟩
  refine ⟨rfl, ⟨Or.inr ?_, Nat.le_trans h.2 h2.size⟩, h2⟩
  rw [byteCells_app]; exact h1

theorem build_string (B b : Nat) (l : Bytes) (w : World) (h : Holds B b l w) :
    Calls Tryd.prog 42 #[.pointer (some ⟨b, 0, none⟩)] w fun e w' => e = .returned (.string ⟨l.toArray⟩) ∧ Below B w w' := Tryd.Builder_String_any B b l w h.1 h.2

theorem holds_new (w : World) : Holds w.heap.size w.heap.size [] (w.alloc (.cells #[.pointer none, .slice none 0 0] 54)) := by
  refine ⟨Or.inl ⟨Nat.le_refl _, .slice none 0 0, by show (w.heap.push _)[w.heap.size]? = _; simp, World.ownsRow_nil _ _ _ _, by simp [Value.ownBlock]⟩, by simp⟩

theorem escBody_snoc (l : Bytes) (c : UInt8) : escBody (l ++ [c]) = escBody l ++ (if c = 34 ∨ c = 92 then [92, c] else [c]) := by simp [escBody]
theorem escBody_len (l : Bytes) : (escBody l).length ≤ 2 * l.length := by
  induction l with
  | nil => simp [escBody_nil]
  | cons c r ih => rw [escBody_cons]; split <;> simp <;> omega

theorem esc_len (s : ByteArray) (k : Nat) (hk : k ≤ s.size) (hs : s.size ≤ 137438953472) : (34 :: escBody (s.data.toList.take k)).length ≤ 1099511627776 - 10 := by
  have := escBody_len (s.data.toList.take k)
  simp only [List.length_take, bytes_len, List.length_cons] at this ⊢; omega

set_option maxHeartbeats 1000000 in
theorem escaped_any (s : ByteArray) (w : World) (hs : s.size ≤ 137438953472) :
    Calls Tryd.prog 27 #[.string s] w fun e w' => e = .returned (.string ⟨(escL s.data.toList).toArray⟩) ∧ Below w.heap.size w w' := by
  have h0 := holds_new w
  have H0 := Lib.hid h0; clear h0
  have b0 : Below w.heap.size w (w.alloc (.cells #[.pointer none, .slice none 0 0] 54)) := (Below.refl _ w).alloc (Nat.le_refl _) _
  go_enter Tryd.func27, Tryd.ntmps27
  go_wp2_with fail
  refine (write_byte _ _ _ _ 34 _ H0.out rfl (by simp)).mono ?_
  rintro e w1 ⟨rfl, h1, b1⟩
  have H1 := Lib.hid h1; clear h1 H0
  have B1 := b0.trans b1
  clear b0 b1
  go_wp2_with fail
  go_loopw [8] (fun i wr => ∃ k : Nat, k ≤ s.size ∧ i = .int .i64 k ∧ Hid (Holds w.heap.size w.heap.size (34 :: escBody (s.data.toList.take k)) wr) ∧ Below w.heap.size w wr) (fun i _ => s.size - (intOf i).toNat)
  case atStart => exact ⟨0, Nat.zero_le _, rfl, H1, B1⟩
  case round =>
    obtain ⟨k, hk, rfl, HH, HB⟩ := hrel
    have hlen := Lib.hid (esc_len s k hk hs)
    clear H1 B1
    by_cases hlt : k < s.size
    · have hsn : Hid (escBody (s.data.toList.take (k + 1)) = escBody (s.data.toList.take k) ++ (if s[k] = 34 ∨ s[k] = 92 then [92, s[k]] else [s[k]])) := by
        show _ = _
        rw [take_snoc s k hlt, escBody_snoc]
      by_cases hq : s[k] = 34 ∨ s[k] = 92
      · have hor : ((s[k].toNat : Int) == 34) = true ∨ (((s[k].toNat : Int) == 34) = false ∧ ((s[k].toNat : Int) == 92) = true) := by
          rcases hq with h | h
          · exact .inl ((u8_test _ 34).2 h)
          · right; rw [h]; exact ⟨by decide, by decide⟩
        have HQ := Lib.hid hq; clear hq
        rcases hor with e1 | ⟨e1, e2⟩
        all_goals
          go_wp2_with fail
          refine (write_byte _ _ _ _ 92 _ HH.out rfl (by have := hlen.out; omega)).mono ?_
          rintro e w2 ⟨rfl, h2, b2⟩
          have H2 := Lib.hid h2; clear h2
          go_wp2_with fail
          refine (write_byte _ _ _ _ s[k] _ H2.out rfl (by have := hlen.out; simp at this ⊢; omega)).mono ?_
          rintro e w3 ⟨rfl, h3, b3⟩
          have H3 : Hid (Holds w.heap.size w.heap.size (34 :: escBody (s.data.toList.take (k + 1))) w3) := by
            rw [hsn.out, if_pos HQ.out]; show Holds _ _ _ _; simpa using h3
          clear h3 H2
          go_wp2_with fail
          go_roundw
          case rel => exact ⟨k + 1, by omega, by go_num, H3, (HB.trans b2).trans b3⟩
          case measure => simp [intOf]; omega
      · have e1 : ((s[k].toNat : Int) == 34) = false := by
          have : ¬ ((s[k].toNat : Int) == 34) = true := fun e => hq (.inl ((u8_test s[k] 34).1 e))
          simpa using this
        have e2 : ((s[k].toNat : Int) == 92) = false := by
          have : ¬ ((s[k].toNat : Int) == 92) = true := fun e => hq (.inr ((u8_test s[k] 92).1 e))
          simpa using this
        have HQ := Lib.hid hq; clear hq
        go_wp2_with fail
        refine (write_byte _ _ _ _ s[k] _ HH.out rfl (by have := hlen.out; omega)).mono ?_
        rintro e w3 ⟨rfl, h3, b3⟩
        have H3 : Hid (Holds w.heap.size w.heap.size (34 :: escBody (s.data.toList.take (k + 1))) w3) := by
          rw [hsn.out, if_neg HQ.out]; show Holds _ _ _ _; simpa using h3
        clear h3
        go_wp2_with fail
        go_roundw
        case rel => exact ⟨k + 1, by omega, by go_num, H3, HB.trans b3⟩
        case measure => simp [intOf]; omega
    · have hall : Hid (s.data.toList.take k = s.data.toList) := List.take_of_length_le (by simp; omega)
      go_wp2_with fail
      refine (write_byte _ _ _ _ 34 _ HH.out rfl (by have := hlen.out; omega)).mono ?_
      rintro e w2 ⟨rfl, h2, b2⟩
      have H2 := Lib.hid h2; clear h2
      go_wp2_with fail
      refine (build_string _ _ _ _ H2.out).mono ?_
      rintro e w3 ⟨rfl, b3⟩
      go_wp2_with fail
      go_ret
      exact ⟨by rw [hall.out]; rfl, (HB.trans b2).trans b3⟩

theorem quote_none {l : Bytes} (h : quoteOk l = false) : ¬ (l.length ≤ 400 ∧ l.all isPlain = true) := by
  rintro ⟨h1, h2⟩; simp [quoteOk, h1, h2] at h

def quoteRes (l : Bytes) : Value := .tuple #[.string ⟨(if quoteOk l then escL l else []).toArray⟩, .bool (quoteOk l)]
theorem quoteRes_yes {l : Bytes} (h : quoteOk l = true) : quoteRes l = .tuple #[.string ⟨(escL l).toArray⟩, .bool true] := by simp [quoteRes, h]
theorem quoteRes_no {l : Bytes} (h : quoteOk l = false) : quoteRes l = .tuple #[.string ⟨#[]⟩, .bool false] := by simp [quoteRes, h]

set_option maxHeartbeats 1000000 in
theorem quote_any (s : ByteArray) (w : World) (hs : s.size ≤ 137438953472) :
    Calls Tryd.prog 19 #[.string s] w fun e w' => e = .returned (quoteRes s.data.toList) ∧ Below w.heap.size w w' := by
  have hm : s.size ≤ maxLen := by unfold maxLen; omega
  have HL : Hid (s.data.toList.length = s.size) := bytes_len s
  by_cases h4 : s.size ≤ 400
  · cases ha : s.data.toList.all isPlain with
    | true =>
      have HA := Lib.hid ha; clear ha
      have HQ : Hid (quoteOk s.data.toList = true) := by show _ = _; simp only [quoteOk, HL.out, HA.out]; simpa using h4
      go_enter Tryd.func19, Tryd.ntmps19
      go_wp2_with (first | (go_at_call 31; refine (span_full 34 isPlain plain_fn s _ hm HA.out).mono ?_; rintro e w' ⟨rfl, rfl⟩) | (go_at_call 27; refine (escaped_any s _ hs).mono ?_; rintro e w' ⟨rfl, hb⟩))
      go_ret2
      exact ⟨by rw [quoteRes_yes HQ.out]; rfl, hb⟩
    | false =>
      have HA := Lib.hid ha; clear ha
      have HQ : Hid (quoteOk s.data.toList = false) := by show _ = _; simp [quoteOk, HA.out]
      go_enter Tryd.func19, Tryd.ntmps19
      go_wp2_with (first | (go_at_call 31; refine (span_short 34 isPlain plain_fn s _ hm HA.out).mono ?_; rintro e w' ⟨g, rfl, hg, rfl⟩))
      go_ret2
      exact ⟨by rw [quoteRes_no HQ.out]; rfl, Below.refl _ _⟩
  · have HQ : Hid (quoteOk s.data.toList = false) := by show _ = _; simp only [quoteOk, HL.out]; simp; omega
    go_enter Tryd.func19, Tryd.ntmps19
    go_wp2_with fail
    go_ret2
    exact ⟨by rw [quoteRes_no HQ.out]; rfl, Below.refl _ _⟩
end Go.Proofs.YtekaplogeogbjaaDoor
