/- Walk: reading a quoted string. -/
import Derived.Test.YtekaplogeogbjaaDoorLexQuote
namespace Go.Proofs.YtekaplogeogbjaaDoor
open Go.RowKit

theorem elemU8 : ElemT Tryd.prog 52 5 (.int .u8 0) 1 1 := ⟨Tryd.underlying52, by kernel_rfl, rfl, by decide⟩
theorem one_int (k : IntKind) (n : Int) : ∀ u ∈ [Value.int k n], u.oneCell' = true := by intro u hu; simp at hu; subst hu; rfl

theorem strOfNums_bytes (l : Bytes) : strOfNums (l.map fun c => ((c.toNat : Nat) : Int)) = ⟨l.toArray⟩ := by
  apply bytes_eq
  rw [strOfNums_data]; simp [Function.comp_def]

/-- What a slice of the call's own holds, as a string. -/
theorem own_string {w : World} {B n : Nat} {v : Value} {l : Bytes} (h : w.ownsRow B 5 1 v n (Lib.byteCells l)) :
    (convert 52 9 v).run Tryd.prog w = .ok (.string ⟨l.toArray⟩) w := by
  have hl : n = l.length := by have := h.1; simp [Lib.byteCells] at this; omega
  rcases h.2 with ⟨rfl, h0⟩ | ⟨g, cap, cur, rfl, hg, hh, hn, hc, hs, ht⟩
  · have : l = [] := List.length_eq_zero_iff.1 (by omega)
    subst this
    exact run_convert_bytes_nil w _ _ Tryd.underlying52 Tryd.underlying5 _ _ _ Tryd.underlying9
  · rw [← strOfNums_bytes]
    refine run_convert_bytes_arg w _ _ Tryd.underlying52 Tryd.underlying5 g 0 n cap _ (by simp [hl]) ?_ _ Tryd.underlying9
    intro i hi
    have := h.cellAt (j := i) (by omega)
    rw [Nat.zero_add, this]
    simp [Lib.byteCells, List.getElem?_eq_getElem (show i < l.length by omega), List.getD]

def QAt (l : Bytes) (k : Nat) (done : Bytes) : Prop := 1 ≤ k ∧ unq (l.drop 1) = (unq (l.drop k)).map fun p => (done ++ p.1, p.2 + (k - 1))

theorem qat_start (l : Bytes) : QAt l 1 [] := ⟨Nat.le_refl _, by simp⟩
theorem qat_none {l : Bytes} {k : Nat} {done : Bytes} (h : QAt l k done) (hn : unq (l.drop k) = none) : quotedT l = none := by
  have h2 := h.2; rw [hn] at h2; unfold quotedT; rw [← List.drop_one, h2]; rfl
theorem unq_bad {c : UInt8} (r : Bytes) (h : isPlain c = false) : unq (c :: r) = none := by rw [unq_cons, if_pos h]
theorem unq_end (r : Bytes) : unq (34 :: r) = some ([], 1) := by rw [unq_cons]; simp [plain34]
theorem unq_esc_end : unq [92] = none := by decide
theorem unq_esc_bad {c : UInt8} (r : Bytes) (h : ¬ (c = 34 ∨ c = 92)) : unq (92 :: c :: r) = none := by rw [unq_cons]; simp [plain92, h]
theorem unq_esc_ok {c : UInt8} (r : Bytes) (h : c = 34 ∨ c = 92) : unq (92 :: c :: r) = (unq r).map fun p => (c :: p.1, p.2 + 2) := by rw [unq_cons]; simp [plain92, h]
theorem unq_plain {c : UInt8} (r : Bytes) (h : isPlain c = true) (h1 : c ≠ 34) (h2 : c ≠ 92) : unq (c :: r) = (unq r).map fun p => (c :: p.1, p.2 + 1) := by rw [unq_cons]; simp [h, h1, h2]
theorem qat_end {l : Bytes} {k : Nat} {done r : Bytes} (h : QAt l k done) (hd : l.drop k = 34 :: r) : quotedT l = if 400 < done.length then none else some (done, k + 1) := by
  have h2 := h.2; have h1 := h.1; rw [hd, unq_end] at h2
  unfold quotedT; rw [← List.drop_one, h2]; simp; rw [show 1 + (k - 1) + 1 = k + 1 from by omega]
theorem qat_plain {l : Bytes} {k : Nat} {done : Bytes} {c : UInt8} (h : QAt l k done) (hd : l.drop k = c :: l.drop (k + 1)) (hp : isPlain c = true) (h1 : c ≠ 34) (h2 : c ≠ 92) : QAt l (k + 1) (done ++ [c]) := by
  obtain ⟨a, b⟩ := h
  refine ⟨by omega, ?_⟩
  rw [b, hd, unq_plain _ hp h1 h2, Option.map_map]
  congr 1; funext p; simp; omega
theorem qat_esc {l : Bytes} {k : Nat} {done : Bytes} {c : UInt8} (h : QAt l k done) (hd : l.drop k = 92 :: l.drop (k + 1)) (hd2 : l.drop (k + 1) = c :: l.drop (k + 2)) (hc : c = 34 ∨ c = 92) : QAt l (k + 2) (done ++ [c]) := by
  obtain ⟨a, b⟩ := h
  refine ⟨by omega, ?_⟩
  rw [b, hd, hd2, unq_esc_ok _ hc, Option.map_map]
  congr 1; funext p; simp; omega

def quotedRes (l : Bytes) : Value := match quotedT l with
  | none => .tuple #[.string ⟨#[]⟩, .int .i64 0]
  | some p => .tuple #[.string ⟨p.1.toArray⟩, .int .i64 p.2]
theorem quotedRes_no {l : Bytes} (h : quotedT l = none) : quotedRes l = .tuple #[.string ⟨#[]⟩, .int .i64 0] := by simp [quotedRes, h]
theorem quotedRes_yes {l v : Bytes} {k : Nat} (h : quotedT l = some (v, k)) : quotedRes l = .tuple #[.string ⟨v.toArray⟩, .int .i64 k] := by simp [quotedRes, h]

theorem u8_beq {c d : UInt8} {n : Int} (hn : n = d.toNat) (h : c = d) : ((c.toNat : Int) == n) = true := by subst hn h; simp
theorem u8_bne {c d : UInt8} {n : Int} (hn : n = d.toNat) (h : c ≠ d) : ((c.toNat : Int) == n) = false := by
  subst hn
  have : ¬ ((c.toNat : Int) == (d.toNat : Int)) = true := fun e => h ((u8_test c d).1 e)
  simpa using this
theorem u8_neq {c d : UInt8} {n : Int} (hn : n = d.toNat) (h : c ≠ d) : ((c.toNat : Int) != n) = true := by rw [bne, u8_bne hn h]; rfl
theorem u8_nne {c d : UInt8} {n : Int} (hn : n = d.toNat) (h : c = d) : ((c.toNat : Int) != n) = false := by rw [bne, u8_beq hn h]; rfl

theorem own_push {w1 : World} {B n : Nat} {v' : Value} {done : Bytes} {c : UInt8} (ho : w1.ownsRow B 5 1 v' (n + 1) (Lib.byteCells done ++ [.int .u8 c.toNat])) (hn : n = done.length) :
    w1.ownsRow B 5 1 v' (done ++ [c]).length (Lib.byteCells (done ++ [c])) := by
  subst hn
  rw [byteCells_app]; simpa [Lib.byteCells] using ho

set_option maxHeartbeats 2000000 in
theorem quoted_any (s : ByteArray) (w : World) (hs : s.size ≤ 137438953472) (h0 : 0 < s.size) :
    Calls Tryd.prog 40 #[.string s] w fun e w' => e = .returned (quotedRes s.data.toList) ∧ Below w.heap.size w w' := by
  go_enter Tryd.func40, Tryd.ntmps40
  go_wp2_with fail
  go_step3
  go_wp2_with fail
  go_step3
  go_wp2_with fail
  go_loopw [4, 5] (fun v n wr => ∃ (k : Nat) (done : Bytes), k ≤ s.size ∧ done.length ≤ k ∧ n = .int .i64 k ∧ Hid (QAt s.data.toList k done) ∧ Hid (wr.ownsRow w.heap.size 5 1 v done.length (Lib.byteCells done)) ∧ Hid (Below w.heap.size w wr)) (fun _ n _ => s.size - (intOf n).toNat)
  case atStart => exact ⟨1, [], by omega, by simp, rfl, qat_start _, World.ownsRow_nil _ _ _ _, Below.refl _ _⟩
  case round =>
    obtain ⟨k, done, hk, hdk, rfl, HQ, HO, HB⟩ := hrel
    have hBs := HB.out.size
    have hk1 : 1 ≤ k := HQ.out.1
    by_cases hlt : k < s.size
    · have hd := Lib.hid (bytes_drop s k hlt)
      cases hp : isPlain s[k] with
      | false =>
        have HP := Lib.hid hp; clear hp
        go_wp2_with (go_at_call 34; refine (plain_calls _ _).mono ?_; rintro e w' ⟨rfl, rfl⟩; rw [HP.out])
        (try rw [Exit.noGoto_ret])
        go_ret2
        exact ⟨by rw [quotedRes_no (qat_none HQ.out (by rw [hd.out]; exact unq_bad _ HP.out))]; rfl, HB⟩
      | true =>
        have HP := Lib.hid hp; clear hp
        by_cases h34 : s[k] = 34
        · have e1 := u8_beq (n := 34) rfl h34
          have hfin := Lib.hid (qat_end HQ.out (r := s.data.toList.drop (k + 1)) (by rw [hd.out, h34]))
          have hcv := own_string HO.out
          clear h34
          obtain ⟨ao, cap, hv⟩ : ∃ ao cap, u4 = .slice ao done.length cap := by
            rcases HO.out.2 with ⟨rfl, h0⟩ | ⟨g, cap, cur, rfl, _⟩
            · exact ⟨none, 0, by rw [h0]⟩
            · exact ⟨_, _, rfl⟩
          subst hv
          by_cases h400 : done.length ≤ 400
          · have hyes : Hid (quotedRes s.data.toList = .tuple #[.string ⟨done.toArray⟩, .int .i64 (k + 1 : Nat)]) := quotedRes_yes (by rw [hfin.out, if_neg (by omega)])
            go_wp2_with (first | (go_at_call 34; refine (plain_calls _ _).mono ?_; rintro e w' ⟨rfl, rfl⟩; rw [HP.out]))
            (try rw [Exit.noGoto_ret])
            go_ret2
            exact ⟨by rw [hyes.out]; rfl, HB⟩
          · have hno : Hid (quotedRes s.data.toList = .tuple #[.string ⟨#[]⟩, .int .i64 0]) := quotedRes_no (by rw [hfin.out, if_pos (by omega)])
            clear hcv
            go_wp2_with (first | (go_at_call 34; refine (plain_calls _ _).mono ?_; rintro e w' ⟨rfl, rfl⟩; rw [HP.out]))
            (try rw [Exit.noGoto_ret])
            go_ret2
            exact ⟨by rw [hno.out]; rfl, HB⟩
        · have e1 := u8_bne (n := 34) rfl h34
          have H34 := Lib.hid h34; clear h34
          by_cases h92 : s[k] = 92
          · have e2 := u8_beq (n := 92) rfl h92
            have hd92 : Hid (s.data.toList.drop k = 92 :: s.data.toList.drop (k + 1)) := by show _ = _; rw [hd.out, h92]
            clear h92
            by_cases hlt2 : k + 1 < s.size
            · have hd2 := Lib.hid (bytes_drop s (k + 1) hlt2)
              by_cases hesc : s[k + 1] = 34 ∨ s[k + 1] = 92
              · have e3 : (((s[k + 1].toNat : Int) != 34) = false) ∨ (((s[k + 1].toNat : Int) != 34) = true ∧ ((s[k + 1].toNat : Int) != 92) = false) := by
                  rcases hesc with h | h
                  · exact .inl (u8_nne rfl h)
                  · right; rw [h]; exact ⟨by decide, by decide⟩
                have HE := Lib.hid hesc; clear hesc
                rcases e3 with e3 | ⟨e3, e4⟩
                all_goals
                  go_wp2_with (first | (go_at_call 34; refine (plain_calls _ _).mono ?_; rintro e w' ⟨rfl, rfl⟩; rw [HP.out]) | (at_builtin; refine wpList_push rfl (.tmp 46) (.tmp 50) elemU8 rfl wr w.heap.size _ _ _ rfl HO.out [.int .u8 s[k + 1].toNat] rfl rfl rfl rfl (one_int _ _) (by omega) (by omega) (by omega) ?_; intro v' w1 ho hg hb1))
                  go_roundw
                  case rel => exact ⟨k + 2, done ++ [s[k + 1]], by omega, by simp; omega, by go_num, qat_esc HQ.out hd92.out hd2.out HE.out, own_push ho rfl, HB.out.trans hb1⟩
                  case measure => simp [intOf]; omega
              · have e3 := u8_neq (n := 34) rfl (fun h => hesc (.inl h))
                have e4 := u8_neq (n := 92) rfl (fun h => hesc (.inr h))
                have HE := Lib.hid hesc; clear hesc
                go_wp2_with (first | (go_at_call 34; refine (plain_calls _ _).mono ?_; rintro e w' ⟨rfl, rfl⟩; rw [HP.out]))
                (try rw [Exit.noGoto_ret])
                go_ret2
                exact ⟨by rw [quotedRes_no (qat_none HQ.out (by rw [hd92.out, hd2.out]; exact unq_esc_bad _ HE.out))]; rfl, HB⟩
            · go_wp2_with (first | (go_at_call 34; refine (plain_calls _ _).mono ?_; rintro e w' ⟨rfl, rfl⟩; rw [HP.out]))
              (try rw [Exit.noGoto_ret])
              go_ret2
              exact ⟨by rw [quotedRes_no (qat_none HQ.out (by rw [hd92.out, bytes_end s (k + 1) (by omega)]; exact unq_esc_end))]; rfl, HB⟩
          · have e2 := u8_bne (n := 92) rfl h92
            have H92 := Lib.hid h92; clear h92
            go_wp2_with (first | (go_at_call 34; refine (plain_calls _ _).mono ?_; rintro e w' ⟨rfl, rfl⟩; rw [HP.out]) | (at_builtin; refine wpList_push rfl (.tmp 46) (.tmp 50) elemU8 rfl wr w.heap.size _ _ _ rfl HO.out [.int .u8 s[k].toNat] rfl rfl rfl rfl (one_int _ _) (by omega) (by omega) (by omega) ?_; intro v' w1 ho hg hb1))
            go_roundw
            case rel => exact ⟨k + 1, done ++ [s[k]], by omega, by simp; omega, by go_num, qat_plain HQ.out hd.out HP.out H34.out H92.out, own_push ho rfl, HB.out.trans hb1⟩
            case measure => simp [intOf]; omega
    · go_wp2_with fail
      (try rw [Exit.noGoto_ret])
      go_ret2
      exact ⟨by rw [quotedRes_no (qat_none HQ.out (by rw [bytes_end s k (by omega)]; rfl))]; rfl, HB⟩
end Go.Proofs.YtekaplogeogbjaaDoor
