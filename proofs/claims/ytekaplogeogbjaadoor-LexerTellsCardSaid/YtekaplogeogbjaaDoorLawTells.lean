/- The walk of LexerTells: whatever the string and the tokens, it returns true. -/
import Derived.Test.YtekaplogeogbjaaDoorLexRaw
import Derived.Test.YtekaplogeogbjaaDoorLawErrors
namespace Go.Proofs.YtekaplogeogbjaaDoor
open Go.RowKit

theorem quoteRes_form (l : Bytes) : ∃ (q : ByteArray) (b : Bool), quoteRes l = .tuple #[.string q, .bool b] := by
  cases h : quoteOk l with
  | true => exact ⟨_, _, quoteRes_yes h⟩
  | false => exact ⟨_, _, quoteRes_no h⟩

set_option maxHeartbeats 16000000 in
set_option maxRecDepth 100000 in
theorem tells_walk (s : ByteArray) (l : Value) (ts : List RTok) (w : World) (hs : s.size ≤ maxLen) (hin : RawIn w l ts) (hsig : SignsIn w) :
    Calls Tryd.prog 7 #[.string s, l] w fun e w' => e = .returned (.bool true) ∧ Below w.heap.size w w' := by
  obtain ⟨a0, cap0, rfl⟩ := hin.shape
  have HI0 := Lib.hid hin; clear hin
  have HS := Lib.hid hsig; clear hsig
  go_enter Tryd.func7, Tryd.ntmps7
  go_wp2_with fail
  refine (sane_any _ HS.out).mono ?_
  rintro e w1 ⟨rfl, b1⟩
  have B1 := Lib.hid b1; clear b1
  have HI := Lib.hid (HI0.out.keep B1.out)
  by_cases h100 : ts.length ≤ 100
  · go_wp2_with fail
    go_loop [6] (fun i => ∃ k : Nat, k ≤ ts.length ∧ i = .int .i64 k ∧ Hid (∀ j (h : j < ts.length), j < k → ts[j].text.size ≤ 100)) (fun i => ts.length - (intOf i).toNat)
    case atStart => exact ⟨0, Nat.zero_le _, rfl, fun j _ hj => by omega⟩
    case round =>
      obtain ⟨k, hk, rfl, HT⟩ := hrel
      by_cases hlt : k < ts.length
      · obtain ⟨b, off, rfl, hb, hcell⟩ := HI.out.at hlt
        obtain ⟨t, htk⟩ : ∃ t, t = ts[k] := ⟨_, rfl⟩
        rw [← htk] at hcell
        have c0 : w1.cell? ⟨b, off + k * 4, none⟩ = some (.int .i64 t.kind) := hcell 0 _ rfl
        have c1 : w1.cell? ⟨b, off + k * 4 + 1, none⟩ = some (.string t.text) := hcell 1 _ rfl
        have c2 : w1.cell? ⟨b, off + k * 4 + 2, none⟩ = some (.int .i64 t.n) := hcell 2 _ rfl
        have c3 : w1.cell? ⟨b, off + k * 4 + 3, none⟩ = some (.int .i64 t.pos) := hcell 3 _ rfl
        have HTK := Lib.hid htk; clear htk hcell
        by_cases ht : t.text.size ≤ 100
        · go_wp2_with fail
          go_round
          case rel => exact ⟨k + 1, by omega, by go_num, fun j h hj => by
            rcases Nat.lt_or_ge j k with h' | h'
            · exact HT.out j h h'
            · obtain rfl : j = k := by omega
              rw [← HTK.out]; exact ht⟩
          case measure => simp [intOf]; omega
        · go_wp2_with fail
          go_ret
          exact ⟨rfl, B1.out⟩
      · have HTS : Hid (∀ t ∈ ts, t.text.size ≤ 100) := by
          intro t ht
          obtain ⟨j, hj, rfl⟩ := List.getElem_of_mem ht
          exact HT.out j hj (by omega)
        clear HT
        have hpl := printR_le ts 100 HTS.out
        have HPL : Hid ((printR ts).length ≤ 137438953472) := by show _ ≤ _; omega
        clear hpl
        go_wp2_with fail
        refine (cut_any s _ hs).mono ?_
        rintro e w1' ⟨T, rfl, hT, rfl⟩
        have HL : Hid (T.data.toList.length = T.size) := bytes_len T
        have hso := Lib.hid (scanOut_small (l := T.data.toList) (by rw [HL.out]; omega))
        have hm : T.size ≤ maxLen := by unfold maxLen; omega
        obtain ⟨r, hr⟩ : ∃ r, scanAll T.data.toList = r := ⟨_, rfl⟩
        have HR := Lib.hid (hso.out.trans hr); clear hr
        obtain ⟨n, hn1⟩ : ∃ n, n = (toksOf r).length := ⟨_, rfl⟩
        obtain ⟨p, hp⟩ : ∃ p, p = posOf r := ⟨_, rfl⟩
        obtain ⟨x, hx⟩ : ∃ x, x = errOf r := ⟨_, rfl⟩
        have HN1 := Lib.hid hn1; have HP := Lib.hid hp; have HX := Lib.hid hx
        have hcnt : (toksOf r).length ≤ 1099511627776 := by
          cases hh : r with
          | error e => simp [toksOf]
          | ok us =>
            have := count_le (l := T.data.toList) (ts := us) (by rw [← hso.out, HR.out, hh])
            rw [HL.out] at this; simp only [toksOf]; omega
        have HCN := Lib.hid hcnt
        clear hn1 hp hx hcnt
        obtain ⟨m, bn, HM⟩ : ∃ (m : Nat) (b : Bool), Hid (numRes T.data.toList = .tuple #[.int .i64 m, .bool b]) := ⟨_, _, rfl⟩
        obtain ⟨q, bq, HQ⟩ := quoteRes_form T.data.toList
        have HQ := Lib.hid HQ
        obtain ⟨bm, HNm⟩ : ∃ b : Bool, Hid (nameOk T.data.toList = b) := ⟨_, rfl⟩
        go_wp2_with fail
        refine (scan_gen T _ (by omega) (HS.out.keep B1.out) HR.out HN1.out HP.out HX.out).mono ?_
        rintro e w2 ⟨a2, c2, rfl, h2, b2⟩
        have B2 := Lib.hid (B1.out.trans (b2.mono B1.out.size)); clear B1
        have HI2 := Lib.hid (HI.out.keep b2); clear HI b2
        have HA := Lib.hid h2; clear h2
        go_wp2_with fail
        refine (refScan_gen T _ (by omega) HR.out HN1.out HP.out HX.out).mono ?_
        rintro e w3 ⟨a3, c3, rfl, h3, b3⟩
        have B3 := Lib.hid (B2.out.trans (b3.mono B2.out.size)); clear B2
        have HI3 := Lib.hid (HI2.out.keep b3); clear HI2
        have HA3 := Lib.hid (HA.out.keep b3); clear HA b3
        have HC := Lib.hid h3; clear h3
        go_wp2_with (first | (go_at_call 17; refine (number_any T _ hm).mono ?_; rintro e w' ⟨rfl, rfl⟩; rw [HM.out]) | (go_at_call 18; refine (refNumber_any T _ hm).mono ?_; rintro e w' ⟨rfl, rfl⟩; rw [HM.out]))
        refine (quote_any T _ (by omega)).mono ?_
        rintro e w4 ⟨rfl, b4⟩
        rw [HQ.out]
        have B4 := Lib.hid (B3.out.trans (b4.mono B3.out.size)); clear B3
        have HI4 := Lib.hid (HI3.out.keep b4); clear HI3
        have HA4 := Lib.hid (HA3.out.keep b4); clear HA3
        have HC4 := Lib.hid (HC.out.keep b4); clear HC b4
        go_wp2_with (first | (go_at_call 20; refine (refQuote_any T _ (by omega)).mono ?_; rintro e w' ⟨rfl, rfl⟩; rw [HQ.out]))
        refine (same_true _ _ _ _ HA4.out HC4.out HCN.out).mono ?_
        rintro e w5 ⟨rfl, b5⟩
        have B5 := Lib.hid (B4.out.trans (b5.mono B4.out.size)); clear B4
        have HI5 := Lib.hid (HI4.out.keep b5); clear HI4 b5 HA4 HC4
        go_wp2_with (first | (go_at_call 22; refine (name_any T _ hm).mono ?_; rintro e w' ⟨rfl, rfl⟩; rw [HNm.out]) | (go_at_call 23; refine (refName_any T _ hm).mono ?_; rintro e w' ⟨rfl, rfl⟩; rw [HNm.out]))
        refine (printRaw_any _ ts _ HI5.out (by omega) (fun t ht => by have := HTS.out t ht; omega) HPL.out).mono ?_
        rintro e w6 ⟨rfl, b6⟩
        have B6 := Lib.hid (B5.out.trans (b6.mono B5.out.size)); clear B5
        have HI6 := Lib.hid (HI5.out.keep b6); clear HI5 b6
        go_wp2_with (go_at_call 24; refine (refPrint_any _ ts _ HI6.out h100 HTS.out).mono ?_; rintro e w' ⟨rfl, rfl⟩)
        go_ret
        exact ⟨rfl, B6.out⟩
  · go_wp2_with fail
    go_ret
    exact ⟨rfl, B1.out⟩
end Go.Proofs.YtekaplogeogbjaaDoor
