/- The walk of LexerBack: whatever the string, it returns true. -/
import Derived.Test.YtekaplogeogbjaaDoorLexSane
namespace Go.Proofs.YtekaplogeogbjaaDoor
open Go.RowKit

theorem scanOut_small {l : Bytes} (h : l.length ≤ 4000) : scanOut l = scanAll l := by rw [scanOut, if_neg (by omega)]

set_option maxHeartbeats 4000000 in
theorem back_walk (s : ByteArray) (w : World) (hs : s.size ≤ maxLen) (hsig : SignsIn w) :
    Calls Tryd.prog 3 #[.string s] w fun e w' => e = .returned (.bool true) ∧ Below w.heap.size w w' := by
  have HS := Lib.hid hsig; clear hsig
  go_enter Tryd.func3, Tryd.ntmps3
  go_wp2_with fail
  refine (sane_any _ HS.out).mono ?_
  rintro e w1 ⟨rfl, b1⟩
  have B1 := Lib.hid b1; clear b1
  go_wp2_with fail
  refine (cut_any s _ hs).mono ?_
  rintro e w1' ⟨t, rfl, ht, rfl⟩
  have HL : Hid (t.data.toList.length = t.size) := bytes_len t
  have hso := Lib.hid (scanOut_small (l := t.data.toList) (by rw [HL.out]; omega))
  go_wp2_with fail
  cases hr : scanAll t.data.toList with
  | error x =>
    obtain ⟨p, x⟩ := x
    have he := (err_facts hr).2.1
    refine (scan_err' t _ (by omega) (HS.out.keep B1.out) (hso.out.trans hr) p x rfl rfl).mono ?_
    rintro e w2 ⟨a2, c2, rfl, b2⟩
    have e1 : ((x : Int) != 0) = true := by rw [bne_iff_ne]; omega
    have B2 := Lib.hid (B1.out.trans (b2.mono B1.out.size)); clear b2 hr he
    go_wp2_with fail
    go_ret
    exact ⟨rfl, B2.out⟩
  | ok ts =>
    obtain ⟨hpl, us, hus, hal, hpr⟩ := back_facts hr
    have hcnt := count_le hr
    rw [HL.out] at hpl hcnt
    have hcnt2 := count_le hus
    refine (scan_ok t _ (by omega) (HS.out.keep B1.out) (hso.out.trans hr)).mono ?_
    rintro e w2 ⟨v2, rfl, h2, b2⟩
    have H2 := Lib.hid h2; clear h2
    have B2 := Lib.hid (B1.out.trans (b2.mono B1.out.size)); clear b2
    have HUS := Lib.hid hus; have HAL := Lib.hid hal; have HPR := Lib.hid hpr
    clear hr hus hal hpr hso
    go_wp2_with fail
    refine (print_any _ ts _ H2.out (by omega) (fun u hu => by have h1 := text_le u; have h2 := tok_le_print ts u hu; omega) (by omega)).mono ?_
    rintro e w3 ⟨rfl, b3⟩
    have H3 := Lib.hid (H2.out.keep b3); clear H2
    have B3 := Lib.hid (B2.out.trans (b3.mono B2.out.size)); clear b3
    go_wp2_with fail
    have hpsz : (⟨(printL ts).toArray⟩ : ByteArray).size = (printL ts).length := by rw [← bytes_len]
    refine (scan_ok ⟨(printL ts).toArray⟩ _ (by rw [hpsz]; omega) (HS.out.keep B3.out) (ts := us) (by show scanOut (printL ts) = _; rw [scanOut_small (by omega), HUS.out])).mono ?_
    rintro e w4 ⟨v4, rfl, h4, b4⟩
    have H4 := Lib.hid h4; clear h4 hpsz
    have H3' := Lib.hid (H3.out.keep b4); clear H3
    have B4 := Lib.hid (B3.out.trans (b4.mono B3.out.size)); clear b4
    go_wp2_with fail
    refine (like_true _ _ ts us _ H3'.out H4.out HAL.out (by omega)).mono ?_
    rintro e w5 ⟨rfl, b5⟩
    have H5 := Lib.hid (H4.out.keep b5); clear H4
    have B5 := Lib.hid (B4.out.trans (b5.mono B4.out.size)); clear b5
    go_wp2_with fail
    refine (print_any _ us _ H5.out (by omega) (fun u hu => by have h1 := text_le u; have h2 := tok_le_print us u hu; rw [HPR.out] at h2; omega) (by rw [HPR.out]; omega)).mono ?_
    rintro e w6 ⟨rfl, b6⟩
    rw [HPR.out]
    have B6 := Lib.hid (B5.out.trans (b6.mono B5.out.size)); clear b6
    go_wp2_with fail
    go_ret
    exact ⟨rfl, B6.out⟩
end Go.Proofs.YtekaplogeogbjaaDoor
