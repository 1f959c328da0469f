/- Scale: recalls. -/
import Derived.Test.YtlcgckelamhnpaaGreatScaleC
set_option maxRecDepth 100000
set_option maxHeartbeats 4000000
namespace Go.Proofs.YtlcgckelamhnpaaGreat
open Go.RowKit
def recB (sc day : Int) (r : Rc) : Bool := (r.s == sc) && decide (r.t ≤ day)
def recalledB (rs : List Rc) (sc day : Int) : Bool := rs.any (recB sc day)
theorem rec_take (rs : List Rc) (sc day : Int) {k : Nat} (h : k < rs.length) (h0 : (rs.take k).any (recB sc day) = false) : (rs.take (k + 1)).any (recB sc day) = recB sc day rs[k] := by
 rw [List.take_succ_eq_append_getElem h, List.any_append, h0, List.any_cons, List.any_nil, Bool.or_false, Bool.false_or]
theorem rec_yes {rs : List Rc} {sc day : Int} {k : Nat} (h : k < rs.length) (h1 : recB sc day rs[k] = true) : recalledB rs sc day = true := by
 rw [recalledB, List.any_eq_true]; exact ⟨_, List.getElem_mem h, h1⟩
theorem lam_ok (x t sc day : Int) (b1 b2 : Bool) (h1 : (x == sc) = b1) (h2 : decide (t ≤ day) = b2) {A B : Nat} {w : World} {TA TB : TypeId} (hA : Bx w A TA #[.int .i64 sc]) (hB : Bx w B TB #[.int .i64 day]) :
 Calls Tryz.prog 108 #[.agg #[.int .i64 x, .int .i64 t], .pointer (some ⟨A, 0, none⟩), .pointer (some ⟨B, 0, none⟩)] w fun e w' => e = .returned (.bool (b1 && b2)) ∧ Below w.heap.size w w' := by
 have p1 : (w.alloc (.cells #[.int .i64 x, .int .i64 t] 125)).cell? ⟨A, 0, none⟩ = some (.int .i64 sc) := (hA.keep (below_alloc _ _)).at.1 0; have p2 : (w.alloc (.cells #[.int .i64 x, .int .i64 t] 125)).cell? ⟨B, 0, none⟩ = some (.int .i64 day) := (hB.keep (below_alloc _ _)).at.1 0; have HA := hI hA; have HB := hI hB; clear hA hB; go_enter Tryz.func108, Tryz.ntmps108
 cases b1
 · go_wp2_with fail
   go_ret
   exact ⟨rfl, by go_grown⟩
 · go_wp2_with fail
   go_ret
   exact ⟨rfl, by go_grown⟩
theorem idxRec_ok (v : Value) (rs : List Rc) (sc day : Int) {A B : Nat} {TA TB : TypeId} (w : World) (h : RcIn w v rs) (hn : rs.length ≤ 1099511627776) (hA : Bx w A TA #[.int .i64 sc]) (hB : Bx w B TB #[.int .i64 day]) :
 Calls Tryz.prog 125 #[v, .func (Fn.func 108) #[] #[.pointer (some ⟨A, 0, none⟩), .pointer (some ⟨B, 0, none⟩)]] w fun e w' => ∃ i, e = .returned (.int .i64 i) ∧ Hid (decide (0 ≤ i) = recalledB rs sc day) ∧ Below w.heap.size w w' := by
 obtain ⟨a1, cap1, rfl⟩ := h.shape; have H1 := hI h; clear h; have HA := hI hA; have HB := hI hB; clear hA hB; go_enter Tryz.func125, Tryz.ntmps125
 go_wp2_with fail
 go_loopw [8] (fun i wr => ∃ k : Nat, k ≤ rs.length ∧ i = .int .i64 k ∧ Hid ((rs.take k).any (recB sc day) = false) ∧ Hid (Below w.heap.size w wr)) (fun i _ => rs.length - (intOf i).toNat)
 case atStart => exact ⟨0, Nat.zero_le _, rfl, rfl, Below.refl _ _⟩
 case round =>
  obtain ⟨k, hk, rfl, HN, HW⟩ := hrel
  by_cases hlt : k < rs.length
  · have hIx : (k : Int) < (rs.length : Int) := by omega
    obtain ⟨b, off, rfl, hb, hcell⟩ := (H1.out.keep HW.out).at hlt; have HT := hI (rec_take rs sc day hlt HN.out); have HY := hI (rec_yes (rs := rs) (sc := sc) (day := day) hlt); obtain ⟨c, hc⟩ : ∃ c, c = rs[k] := ⟨_, rfl⟩; rw [← hc] at hcell HT HY; obtain ⟨s, t⟩ := c; have c0 : wr.cell? ⟨b, off + k * 2, none⟩ = some (.int .i64 s) := hcell 0 _ rfl; have c1 : wr.cell? ⟨b, off + k * 2 + 1, none⟩ = some (.int .i64 t) := hcell 1 _ rfl; clear hcell hc; go_wp2_with fail
    clear c0 c1; refine (lam_ok s t sc day _ _ rfl rfl (HA.out.keep HW.out) (HB.out.keep HW.out)).mono ?_; rintro e w1 ⟨rfl, hb1⟩; have HW1 := hI (below_call HW.out hb1); clear hb1; obtain ⟨bb, hbb⟩ : ∃ x, x = (s == sc && decide (t ≤ day)) := ⟨_, rfl⟩; have HBB : Hid (recB sc day ⟨s, t⟩ = bb) := by show _ = _; rw [hbb]; rfl
    rw [← hbb]; clear hbb
    cases bb
    · go_wp2_with fail
      go_roundw
      case rel => exact ⟨k + 1, by omega, by go_num, HT.out.trans HBB.out, HW1.out⟩
      case measure => simp [intOf]; omega
    · go_wp2_with fail
      go_ret
      exact ⟨k, rfl, by show _ = _; rw [HY.out HBB.out]; exact decide_eq_true (by omega), HW1.out⟩
  · have HF : Hid (recalledB rs sc day = false) := by
     show _ = _
     have := HN.out
     rwa [List.take_of_length_le (by omega)] at this
    go_wp2_with fail
    go_ret
    exact ⟨-1, rfl, by show _ = _; rw [HF.out]; rfl, HW.out⟩
theorem ctRec_ok (v : Value) (rs : List Rc) (sc day : Int) {A B : Nat} {TA TB : TypeId} (w : World) (h : RcIn w v rs) (hn : rs.length ≤ 1099511627776) (hA : Bx w A TA #[.int .i64 sc]) (hB : Bx w B TB #[.int .i64 day]) :
 Calls Tryz.prog 107 #[v, .func (Fn.func 108) #[] #[.pointer (some ⟨A, 0, none⟩), .pointer (some ⟨B, 0, none⟩)]] w fun e w' => e = .returned (.bool (recalledB rs sc day)) ∧ Below w.heap.size w w' := by
 have H1 := hI h; clear h; have HA := hI hA; have HB := hI hB; clear hA hB; go_enter Tryz.func107, Tryz.ntmps107
 go_wp2_with fail
 refine (idxRec_ok v rs sc day _ H1.out hn HA.out HB.out).mono ?_; rintro e w1 ⟨i, rfl, hi, hb⟩; have HW := hI hb; clear hb; have HI := hi; clear hi; go_wp2_with fail
 go_ret
 exact ⟨ret_bool HI.out, HW.out⟩
theorem scRecalled_ok (v : Value) (rs : List Rc) (sc day : Int) (w : World) (h : RcIn w v rs) (hn : rs.length ≤ 1099511627776) :
 Calls Tryz.prog 73 #[v, .int .i64 sc, .int .i64 day] w fun e w' => e = .returned (.bool (recalledB rs sc day)) ∧ Below w.heap.size w w' := by
 obtain ⟨a1, cap1, rfl⟩ := h.shape; have H1 := hI h; clear h; go_enter Tryz.func73, Tryz.ntmps73
 go_wp2_with fail
 refine (ctRec_ok _ rs sc day _ (H1.out.keep (by go_grown)) hn (bx2 w 3 3 #[.int .i64 sc] #[.int .i64 day]).1 (bx2 w 3 3 #[.int .i64 sc] #[.int .i64 day]).2).mono ?_; rintro e w1 ⟨rfl, hb⟩; have HW : Hid (Below w.heap.size w w1) := below_call (by go_grown) hb; clear hb; go_wp2_with fail
 go_ret
 exact ⟨rfl, HW.out⟩
theorem rcRecalled_ok (v : Value) (rs : List Rc) (sc day : Int) (w : World) (h : RcIn w v rs) (hn : rs.length ≤ 1099511627776) :
 Calls Tryz.prog 94 #[v, .int .i64 sc, .int .i64 day] w fun e w' => e = .returned (.bool (recalledB rs sc day)) ∧ Below w.heap.size w w' := by
 obtain ⟨a1, cap1, rfl⟩ := h.shape; have H1 := hI h; clear h; go_enter Tryz.func94, Tryz.ntmps94
 go_wp2_with fail
 go_loop [7] (fun i => ∃ k : Nat, k ≤ rs.length ∧ i = .int .i64 k ∧ Hid ((rs.take k).any (recB sc day) = false)) (fun i => rs.length - (intOf i).toNat)
 case atStart => exact ⟨0, Nat.zero_le _, rfl, rfl⟩
 case round =>
  obtain ⟨k, hk, rfl, HN⟩ := hrel
  by_cases hlt : k < rs.length
  · have hIx : (k : Int) < (rs.length : Int) := by omega
    obtain ⟨b, off, rfl, hb, hcell⟩ := H1.out.at hlt; have HT := hI (rec_take rs sc day hlt HN.out); have HY := hI (rec_yes (rs := rs) (sc := sc) (day := day) hlt); obtain ⟨c, hc⟩ : ∃ c, c = rs[k] := ⟨_, rfl⟩; rw [← hc] at hcell HT HY; obtain ⟨s, t⟩ := c; have c0 : w.cell? ⟨b, off + k * 2, none⟩ = some (.int .i64 s) := hcell 0 _ rfl; have c1 : w.cell? ⟨b, off + k * 2 + 1, none⟩ = some (.int .i64 t) := hcell 1 _ rfl; clear hcell hc; obtain ⟨b1, h1⟩ : ∃ x, x = (s == sc) := ⟨_, rfl⟩; obtain ⟨b2, h2⟩ : ∃ x, x = decide (t ≤ day) := ⟨_, rfl⟩; have HBB : Hid (recB sc day ⟨s, t⟩ = (b1 && b2)) := by show _ = _; rw [h1, h2]; rfl
    replace h1 := h1.symm; replace h2 := h2.symm
    cases b1
    · go_wp2_with fail
      go_round
      case rel => exact ⟨k + 1, by omega, by go_num, HT.out.trans HBB.out⟩
      case measure => simp [intOf]; omega
    · cases b2
      · go_wp2_with fail
        go_round
        case rel => exact ⟨k + 1, by omega, by go_num, HT.out.trans HBB.out⟩
        case measure => simp [intOf]; omega
      · go_wp2_with fail
        go_ret
        exact ⟨ret_bool (HY.out HBB.out).symm, Below.refl _ _⟩
  · have HF : Hid (recalledB rs sc day = false) := by
     show _ = _
     have := HN.out
     rwa [List.take_of_length_le (by omega)] at this
    go_wp2_with fail
    go_ret
    exact ⟨ret_bool HF.out.symm, Below.refl _ _⟩
end Go.Proofs.YtlcgckelamhnpaaGreat
