/- The walk of LexerJoins: whatever the two strings, it returns true. -/
import Derived.Test.YtekaplogeogbjaaDoorLawErrors
namespace Go.Proofs.YtekaplogeogbjaaDoor
open Go.RowKit

theorem shifted_ok {d : Nat} {us : List Tok} : shifted d (.ok us) = .ok (us.map fun t => t.at (t.pos + d)) := rfl

/-- A token that is read out of a slice. -/
structure TokAt (w : World) (b o : Nat) (t : Tok) : Prop where
  kind : w.cell? ⟨b, o, none⟩ = some (.int .i64 t.kind)
  text : w.cell? ⟨b, o + 1, none⟩ = some (.string ⟨t.text.toArray⟩)
  n : w.cell? ⟨b, o + 2, none⟩ = some (.int .i64 t.n)
  pos : w.cell? ⟨b, o + 3, none⟩ = some (.int .i64 t.pos)
theorem ToksIn.tokAt {w : World} {a : Option Addr} {n cap : Nat} {ts : List Tok} (h : ToksIn w (.slice a n cap) ts) {k : Nat} (hk : k < ts.length) :
    ∃ b off, a = some ⟨b, off, none⟩ ∧ b < w.heap.size ∧ TokAt w b (off + k * 4) ts[k] := by
  obtain ⟨b, off, ha, hb, hc⟩ := h.at hk
  exact ⟨b, off, ha, hb, ⟨hc 0 _ rfl, hc 1 _ rfl, hc 2 _ rfl, hc 3 _ rfl⟩⟩

theorem get_left {ts us : List Tok} {k : Nat} (h : k < ts.length) (h2 : k < (ts ++ us).length) : (ts ++ us)[k] = ts[k] := List.getElem_append_left h
theorem get_right {ts us : List Tok} {k : Nat} (h : ts.length ≤ k) (h2 : k < (ts ++ us).length) (h3 : k - ts.length < us.length) : (ts ++ us)[k] = us[k - ts.length] := List.getElem_append_right h

theorem placed_pos : ∀ (ts : List Tok) (e : Nat) (T : Bytes), placed e ts T → ∀ u ∈ ts, u.pos ≤ T.length
  | [], _, _, _, u, hu => by simp at hu
  | v :: r, e, T, h, u, hu => by
    obtain ⟨_, h2, _, _, _, _, _, h8⟩ := h
    rcases List.mem_cons.1 hu with rfl | hu
    · omega
    · exact placed_pos r _ T h8 u hu
theorem pos_le {l : Bytes} {ts : List Tok} (h : scanAll l = .ok ts) {u : Tok} (hu : u ∈ ts) : u.pos ≤ l.length := placed_pos ts 0 l (place_facts h) u hu

set_option maxHeartbeats 8000000 in
set_option maxRecDepth 100000 in
theorem joins_walk (s t : ByteArray) (w : World) (hs : s.size ≤ maxLen) (ht : t.size ≤ maxLen) (hsig : SignsIn w) :
    Calls Tryd.prog 5 #[.string s, .string t] w fun e w' => e = .returned (.bool true) ∧ Below w.heap.size w w' := by
  have HS := Lib.hid hsig; clear hsig
  go_enter Tryd.func5, Tryd.ntmps5
  go_wp2_with fail
  refine (sane_any _ HS.out).mono ?_
  rintro e w1 ⟨rfl, b1⟩
  have B1 := Lib.hid b1; clear b1
  go_wp2_with fail
  refine (cut_any s _ hs).mono ?_
  rintro e w1' ⟨x, rfl, hx, rfl⟩
  go_wp2_with fail
  refine (cut_any t _ ht).mono ?_
  rintro e w1' ⟨y, rfl, hy, rfl⟩
  have HLx : Hid (x.data.toList.length = x.size) := bytes_len x
  have HLy : Hid (y.data.toList.length = y.size) := bytes_len y
  have hsx := Lib.hid (scanOut_small (l := x.data.toList) (by rw [HLx.out]; omega))
  have hsy := Lib.hid (scanOut_small (l := y.data.toList) (by rw [HLy.out]; omega))
  have hjn := joined_bytes x y
  have hsj : Hid (scanOut ((x ++ ⟨#[10]⟩) ++ y).data.toList = scanAll (x.data.toList ++ 10 :: y.data.toList)) := by
    show _ = _
    rw [hjn]; exact scanOut_small (by simp only [List.length_append, List.length_cons, HLx.out, HLy.out]; omega)
  have hzj : Hid (((x ++ ⟨#[10]⟩) ++ y).size = x.size + 1 + y.size) := by
    show _ = _
    have h10 : (⟨#[10]⟩ : ByteArray).size = 1 := rfl
    simp [h10]
  clear hjn
  go_wp2_with fail
  cases hrx : scanAll x.data.toList with
  | error q =>
    obtain ⟨p, e⟩ := q
    have hee := (err_facts hrx).2.1
    have e1 : ((e : Int) != 0) = true := by rw [bne_iff_ne]; omega
    have hj := Lib.hid (hsj.out.trans (join_error (y := y.data.toList) hrx))
    have HRX := Lib.hid (hsx.out.trans hrx); clear hrx hee
    refine (scan_err' x _ (by omega) (HS.out.keep B1.out) HRX.out p e rfl rfl).mono ?_
    rintro e' w2 ⟨a2, c2, rfl, b2⟩
    have B2 := Lib.hid (B1.out.trans (b2.mono B1.out.size)); clear b2 B1
    go_wp2_with fail
    refine (scan_gen y _ (by omega) (HS.out.keep B2.out) rfl rfl rfl rfl).mono ?_
    rintro e' w3 ⟨a3, c3, rfl, h3, b3⟩
    have B3 := Lib.hid (B2.out.trans (b3.mono B2.out.size)); clear b3 h3 B2
    go_wp2_with fail
    refine (scan_err' _ _ (by rw [hzj.out]; omega) (HS.out.keep B3.out) hj.out p e rfl rfl).mono ?_
    rintro e' w4 ⟨a4, c4, rfl, b4⟩
    have B4 := Lib.hid (B3.out.trans (b4.mono B3.out.size)); clear b4 B3
    go_wp2_with fail
    go_ret
    exact ⟨rfl, B4.out⟩
  | ok ts =>
    have hcx := count_le hrx
    rw [HLx.out] at hcx
    have hj := join_ok (y := y.data.toList) hrx
    rw [HLx.out] at hj
    have HRX := Lib.hid (hsx.out.trans hrx); clear hrx
    refine (scan_ok x _ (by omega) (HS.out.keep B1.out) HRX.out).mono ?_
    rintro e' w2 ⟨v2, rfl, h2, b2⟩
    obtain ⟨a2, cap2, rfl⟩ := h2.shape
    have H2 := Lib.hid h2; clear h2
    have B2 := Lib.hid (B1.out.trans (b2.mono B1.out.size)); clear b2 B1
    go_wp2_with fail
    cases hry : scanAll y.data.toList with
    | error q =>
      obtain ⟨p, e⟩ := q
      have hee := (err_facts hry).2.1
      have hpp := (err_facts hry).1
      rw [HLy.out] at hpp
      have e1 : ((e : Int) != 0) = true := by rw [bne_iff_ne]; omega
      rw [hry] at hj
      have hj' : scanOut ((x ++ ⟨#[10]⟩) ++ y).data.toList = .error (p + (x.size + 1), e) := hsj.out.trans hj
      have HJ := Lib.hid hj'
      have HRY := Lib.hid (hsy.out.trans hry); clear hry hj hj' hee
      refine (scan_err' y _ (by omega) (HS.out.keep B2.out) HRY.out p e rfl rfl).mono ?_
      rintro e' w3 ⟨a3, c3, rfl, b3⟩
      have B3 := Lib.hid (B2.out.trans (b3.mono B2.out.size)); clear b3 B2
      go_wp2_with fail
      refine (scan_err' _ _ (by rw [hzj.out]; omega) (HS.out.keep B3.out) HJ.out ((x.size : Int) + 1 + (p : Int)) e (by omega) rfl).mono ?_
      rintro e' w4 ⟨a4, c4, rfl, b4⟩
      have B4 := Lib.hid (B3.out.trans (b4.mono B3.out.size)); clear b4 B3
      go_wp2_with fail
      go_ret
      exact ⟨rfl, B4.out⟩
    | ok us =>
      have hcy := count_le hry
      have hpy : ∀ u ∈ us, u.pos ≤ y.size := fun u hu => by rw [← HLy.out]; exact pos_le hry hu
      have HPY := Lib.hid hpy; clear hpy
      rw [HLy.out] at hcy
      rw [hry] at hj
      have HJ : Hid (scanOut ((x ++ ⟨#[10]⟩) ++ y).data.toList = .ok (ts ++ us.map fun t => t.at (t.pos + (x.size + 1)))) := hsj.out.trans hj
      have HRY := Lib.hid (hsy.out.trans hry); clear hry hj
      refine (scan_ok y _ (by omega) (HS.out.keep B2.out) HRY.out).mono ?_
      rintro e' w3 ⟨v3, rfl, h3, b3⟩
      obtain ⟨a3, cap3, rfl⟩ := h3.shape
      have H3 := Lib.hid h3; clear h3
      have H2' := Lib.hid (H2.out.keep b3); clear H2
      have B3 := Lib.hid (B2.out.trans (b3.mono B2.out.size)); clear b3 B2
      go_wp2_with fail
      refine (scan_ok _ _ (by rw [hzj.out]; omega) (HS.out.keep B3.out) HJ.out).mono ?_
      rintro e' w4 ⟨v4, rfl, h4, b4⟩
      obtain ⟨a4, cap4, rfl⟩ := h4.shape
      have H4 := Lib.hid h4; clear h4
      have H2 := Lib.hid (H2'.out.keep b4); clear H2'
      have H3' := Lib.hid (H3.out.keep b4); clear H3
      have B4 := Lib.hid (B3.out.trans (b4.mono B3.out.size)); clear b4 B3
      obtain ⟨m, hm⟩ : ∃ m, m = (ts ++ us.map fun t => t.at (t.pos + (x.size + 1))).length := ⟨_, rfl⟩
      have hmm : m = ts.length + us.length := by rw [hm]; simp
      rw [← hm]
      have HM := Lib.hid hm; clear hm
      have e2 : ((m : Int) != ((ts.length : Int) + (us.length : Int))) = false := by rw [bne_eq_false_iff_eq]; omega
      have HMM := Lib.hid hmm
      have hm1 : m ≤ ts.length + us.length := by omega
      clear hmm
      go_wp2_with fail
      go_loopw [17] (fun i wr => ∃ k : Nat, k ≤ m ∧ i = .int .i64 k ∧ Hid (Below w4.heap.size w4 wr)) (fun i _ => m - (intOf i).toNat)
      case atStart => exact ⟨0, Nat.zero_le _, rfl, Below.refl _ _⟩
      case round =>
        obtain ⟨k, hk, rfl, HB⟩ := hrel
        by_cases hlt : k < m
        · have hI : (k : Int) < (m : Int) := by omega
          have hkm : k < (ts ++ us.map fun t => t.at (t.pos + (x.size + 1))).length := by rw [← HM.out]; exact hlt
          obtain ⟨b, off, rfl, hb, hc⟩ := (H4.out.keep HB.out).tokAt hkm
          by_cases hleft : k < ts.length
          · rw [get_left hleft hkm] at hc
            obtain ⟨b2, off2, rfl, hb2, hc2⟩ := (H2.out.keep HB.out).tokAt hleft
            obtain ⟨u, hu⟩ : ∃ u, u = ts[k] := ⟨_, rfl⟩
            rw [← hu] at hc hc2
            clear hu hkm
            obtain ⟨c0, c1, c2, c3⟩ := hc
            obtain ⟨d0, d1, d2, d3⟩ := hc2
            go_wp2_with fail
            go_quiet (fail)
            go_wp2_with fail
            go_roundw
            case rel => exact ⟨k + 1, by omega, by go_num, below_drewN (HB.out.alloc HB.out.size _) _⟩
            case measure => simp [intOf]; omega
          · have hr : k - ts.length < us.length := by omega
            have hge : ts.length ≤ k := by omega
            rw [get_right hge hkm (by simpa using hr), List.getElem_map] at hc
            obtain ⟨b2, off2, rfl, hb2, hc2⟩ := (H3'.out.keep HB.out).tokAt hr
            obtain ⟨u, hu⟩ : ∃ u, u = us[k - ts.length] := ⟨_, rfl⟩
            rw [← hu] at hc hc2
            have hup : u.pos ≤ y.size := HPY.out u (by rw [hu]; exact List.getElem_mem _)
            clear hu hkm
            obtain ⟨c0, c1, c2, c3⟩ := hc
            obtain ⟨d0, d1, d2, d3⟩ := hc2
            have c3' : wr.cell? ⟨b, off + k * 4 + 3, none⟩ = some (.int .i64 ((u.pos : Int) + (x.size : Int) + 1)) := by rw [c3]; simp [Tok.at]; omega
            clear c3
            have c0' : wr.cell? ⟨b, off + k * 4, none⟩ = some (.int .i64 u.kind) := c0
            have c1' : wr.cell? ⟨b, off + k * 4 + 1, none⟩ = some (.string ⟨u.text.toArray⟩) := c1
            have c2' : wr.cell? ⟨b, off + k * 4 + 2, none⟩ = some (.int .i64 u.n) := c2
            clear c0 c1 c2
            go_wp2_with fail
            go_quiet (fail)
            go_wp2_with fail
            go_roundw
            case rel => exact ⟨k + 1, by omega, by go_num, below_drewN (HB.out.alloc HB.out.size _) _⟩
            case measure => simp [intOf]; omega
        · go_wp2_with fail
          go_ret
          exact ⟨rfl, B4.out.trans (HB.out.mono B4.out.size)⟩
end Go.Proofs.YtekaplogeogbjaaDoor
