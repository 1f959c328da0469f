/- The walk of LexerPlaces: whatever the string, it returns true. -/
import Derived.Test.YtekaplogeogbjaaDoorLawJoins
namespace Go.Proofs.YtekaplogeogbjaaDoor
open Go.RowKit

theorem placed_next {ts : List Tok} {k e : Nat} {T : Bytes} (h : placed e (ts.drop k) T) (hk : k < ts.length) :
    e ≤ ts[k].pos ∧ ts[k].pos + (tokText ts[k]).length ≤ T.length ∧ (ts[k].kind ≠ 1 → ts[k].n = 0) ∧ 1 ≤ (tokText ts[k]).length ∧ (T.drop ts[k].pos).take (tokText ts[k]).length = tokText ts[k] ∧ idleP ((T.drop e).take (ts[k].pos - e)) ∧ placed (ts[k].pos + (tokText ts[k]).length) (ts.drop (k + 1)) T := by
  rw [List.drop_eq_getElem_cons hk] at h
  obtain ⟨h1, h2, h3, h4, h5, _, h7, h8⟩ := h
  exact ⟨h1, h2, h3, h4, h5, h7, h8⟩

set_option maxHeartbeats 8000000 in
set_option maxRecDepth 100000 in
theorem places_walk (s : ByteArray) (w : World) (hs : s.size ≤ maxLen) (hsig : SignsIn w) :
    Calls Tryd.prog 4 #[.string s] w fun e w' => e = .returned (.bool true) ∧ Below w.heap.size w w' := by
  have HS := Lib.hid hsig; clear hsig
  go_enter Tryd.func4, Tryd.ntmps4
  go_wp2_with fail
  refine (sane_any _ HS.out).mono ?_
  rintro e w1 ⟨rfl, b1⟩
  have B1 := Lib.hid b1; clear b1
  go_wp2_with fail
  refine (cut_any s _ hs).mono ?_
  rintro e w1' ⟨T, rfl, hT, rfl⟩
  have HL : Hid (T.data.toList.length = T.size) := bytes_len T
  have hsT := Lib.hid (scanOut_small (l := T.data.toList) (by rw [HL.out]; omega))
  go_wp2_with fail
  cases hr : scanAll T.data.toList with
  | error q =>
    obtain ⟨p, x⟩ := q
    have hee := (err_facts hr).2.1
    have hpp := (err_facts hr).1
    rw [HL.out] at hpp
    have e1 : ((x : Int) != 0) = true := by rw [bne_iff_ne]; omega
    have HR := Lib.hid (hsT.out.trans hr); clear hr hee
    refine (scan_err' T _ (by omega) (HS.out.keep B1.out) HR.out p x rfl rfl).mono ?_
    rintro e' w2 ⟨a2, c2, rfl, b2⟩
    have B2 := Lib.hid (B1.out.trans (b2.mono B1.out.size)); clear b2 B1
    go_wp2_with fail
    go_ret
    exact ⟨rfl, B2.out⟩
  | ok ts =>
    have hc := count_le hr
    rw [HL.out] at hc
    have HPL := Lib.hid (place_facts hr)
    have HR := Lib.hid (hsT.out.trans hr); clear hr
    refine (scan_ok T _ (by omega) (HS.out.keep B1.out) HR.out).mono ?_
    rintro e' w2 ⟨v2, rfl, h2, b2⟩
    obtain ⟨a2, cap2, rfl⟩ := h2.shape
    have H2 := Lib.hid h2; clear h2
    have B2 := Lib.hid (B1.out.trans (b2.mono B1.out.size)); clear b2 B1
    go_wp2_with fail
    go_loopw [8, 9] (fun v i wr => ∃ k e : Nat, k ≤ ts.length ∧ e ≤ T.size ∧ i = .int .i64 k ∧ v = .int .i64 e ∧ Hid (placed e (ts.drop k) T.data.toList) ∧ Hid (Below w2.heap.size w2 wr)) (fun _ i _ => ts.length - (intOf i).toNat)
    case atStart => exact ⟨0, 0, Nat.zero_le _, Nat.zero_le _, rfl, rfl, HPL.out, Below.refl _ _⟩
    case round =>
      obtain ⟨k, e, hk, he, rfl, rfl, HP, HB⟩ := hrel
      by_cases hlt : k < ts.length
      · obtain ⟨b, off, rfl, hb, hcell⟩ := (H2.out.keep HB.out).tokAt hlt
        have hpn := placed_next HP.out hlt
        obtain ⟨t, ht⟩ : ∃ t, t = ts[k] := ⟨_, rfl⟩
        rw [← ht] at hcell hpn
        clear ht
        obtain ⟨p1, p2, p3, p4, p5, p6, p7⟩ := hpn
        rw [HL.out] at p2
        obtain ⟨c0, c1, c2, c3⟩ := hcell
        obtain ⟨X, hX⟩ : ∃ X : ByteArray, X = ⟨t.text.toArray⟩ := ⟨_, rfl⟩
        rw [← hX] at c1
        obtain ⟨S, hS⟩ : ∃ S : ByteArray, S = ⟨(tokText t).toArray⟩ := ⟨_, rfl⟩
        have hSd : S.data.toList = tokText t := by rw [hS]
        have hSz : (tokText t).length = S.size := by rw [← hSd, bytes_len]
        rw [hSz] at p2 p4 p5 p7
        have hfound : ((T.extract t.pos (t.pos + S.size)).toList == S.toList) = true := by
          rw [Lib.toList_data, Lib.toList_data, Lib.extract_data, hSd, show t.pos + S.size - t.pos = S.size from by omega, p5]; simp
        have hidl : idleP (T.extract e t.pos).data.toList := by rw [Lib.extract_data]; exact p6
        have HID := Lib.hid hidl; have P7 := Lib.hid p7; have HX := Lib.hid hX; have HSS := Lib.hid hS; have P3 := Lib.hid p3
        clear p3 p5 p6 p7 hSd hSz hX hS hidl
        by_cases hk2 : t.kind = 2
        · have e1 : ((t.kind : Int) == 2) = true := by rw [beq_iff_eq]; omega
          have e2 : ((t.kind : Int) != 1) = true := by rw [bne_iff_ne]; omega
          have e4 : ((t.kind : Int) != 2) = false := by rw [bne_eq_false_iff_eq]; omega
          have e3 : ((t.n : Int) != 0) = false := by rw [bne_eq_false_iff_eq]; have := P3.out (by omega); omega
          have hES : Hid ((⟨(escL X.data.toList).toArray⟩ : ByteArray) = S) := by show _ = _; rw [HSS.out, tokText, if_pos hk2, HX.out]
          have hXs : X.size ≤ 137438953472 := by
            have h1 := text_le t
            have h2 : (tokText t).length = S.size := by rw [HSS.out, ← bytes_len]
            have h3 : X.size = t.text.length := by rw [HX.out, ← bytes_len]
            omega
          clear hk2
          go_wp2_with fail
          refine (refEscaped_any X _ hXs).mono ?_
          rintro e' w' ⟨rfl, rfl⟩
          rw [hES.out]
          go_wp2_with fail
          refine (refEscaped_any X _ hXs).mono ?_
          rintro e' w' ⟨rfl, rfl⟩
          rw [hES.out]
          go_wp2_with fail
          refine (idle_true (T.extract e t.pos) _ (by unfold maxLen; simp; omega) HID.out).mono ?_
          rintro e' w' ⟨rfl, rfl⟩
          go_wp2_with fail
          go_roundw
          case rel => exact ⟨k + 1, t.pos + S.size, by omega, by omega, by go_num, by go_num, P7.out, HB.out.alloc HB.out.size _⟩
          case measure => simp [intOf]; omega
        · have hSX : S = X := by rw [HSS.out, tokText, if_neg hk2, HX.out]
          subst hSX
          have e1 : ((t.kind : Int) == 2) = false := by rw [beq_eq_false_iff_ne]; omega
          have e1' : ((t.kind : Int) != 2) = true := by rw [bne_iff_ne]; omega
          have e23 : ((t.kind : Int) != 1) = false ∨ (((t.kind : Int) != 1) = true ∧ ((t.n : Int) != 0) = false) := by
            by_cases h1 : t.kind = 1
            · left; rw [bne_eq_false_iff_eq]; omega
            · right; exact ⟨by rw [bne_iff_ne]; omega, by rw [bne_eq_false_iff_eq]; have := P3.out h1; omega⟩
          clear hk2
          rcases e23 with e2 | ⟨e2, e3⟩
          all_goals
            go_wp2_with fail
            refine (idle_true (T.extract e t.pos) _ (by unfold maxLen; simp; omega) HID.out).mono ?_
            rintro e' w' ⟨rfl, rfl⟩
            go_wp2_with fail
            go_roundw
            case rel => exact ⟨k + 1, t.pos + S.size, by omega, by omega, by go_num, by go_num, P7.out, HB.out.alloc HB.out.size _⟩
            case measure => simp [intOf]; omega
      · have hd : ts.drop k = [] := by rw [List.drop_eq_nil_iff]; omega
        have hfin := HP.out
        rw [hd] at hfin
        have HF : Hid (idleP (T.extract e T.size).data.toList) := by show idleP _; rw [ext_end]; exact hfin.1
        clear hfin hd
        go_wp2_with fail
        refine (idle_true (T.extract e T.size) _ (by unfold maxLen; simp; omega) HF.out).mono ?_
        rintro e' w' ⟨rfl, rfl⟩
        go_wp2_with fail
        go_ret
        exact ⟨rfl, B2.out.trans (HB.out.mono B2.out.size)⟩
end Go.Proofs.YtekaplogeogbjaaDoor
