/- The reference's Right of big integers, whatever they are. -/
import Derived.Test.YtlcgckelamhnpaaGreatFd
import Derived.Deep.DeepCutAuto
set_option maxRecDepth 100000
set_option maxHeartbeats 4000000
namespace Go.Proofs.YtlcgckelamhnpaaGreat
open Go.RowKit
variable {G : Nat}
theorem rright_raw {s : Int} {v : Value} {l : List Int} {r : Bool} {w : World} (hv : RdZ w v l) (hn : l.length ≤ 1099511627776) (hr : rightB s l = r) :
 Calls Tryz.prog 62 #[.agg #[.int .i64 s, v]] w fun e w' => e = .returned (.bool r) ∧ Below w.heap.size w w' := by
 obtain ⟨a, c, rfl⟩ := hv.shape; have H1 := hI hv; have HR := hI hr; clear hv hr; go_enter Tryz.func62, Tryz.ntmps62
 go_wp2_with fail
 refine nmW (w.alloc (.cells #[.int .i64 s, .slice a l.length c] 34)) fun w0 hw0 => ?_; have K0 : Hid (Bx w0 w.heap.size 34 #[.int .i64 s, .slice a l.length c]) := by rw [hw0]; exact bx1 w _ _
 have HB : Hid (Below w.heap.size w w0) := by rw [hw0]; exact below_alloc _ _
 rw [← hw0]; clear hw0; have p0 : w0.cell? ⟨w.heap.size, 0, none⟩ = some (.int .i64 s) := K0.out.at.1 0; have p1 : w0.cell? ⟨w.heap.size, 1, none⟩ = some (.slice a l.length c) := K0.out.at.1 1; go_loopw [3] (fun i wr => ∃ k nd : Nat, k ≤ l.length ∧ i = .int .i64 k ∧ wr = w0.drewN nd ∧ Hid ((l.take k).all digitOk = true)) (fun i _ => l.length - (intOf i).toNat)
 case atStart => exact ⟨0, 0, Nat.zero_le _, rfl, rfl, rfl⟩
 case round =>
  obtain ⟨k, nd, hk, rfl, rfl, HA⟩ := hrel; have hBw : Hid (Below w.heap.size w (w0.drewN nd)) := below_drewN HB.out nd
  by_cases hlt : k < l.length
  · obtain ⟨b, off, rfl, hb, hcell⟩ := (H1.out.keep HB.out).at (k := k) hlt
    obtain ⟨d, hd⟩ : ∃ d, d = l[k]'hlt := ⟨_, rfl⟩; rw [← hd] at hcell; have hsn := all_ztake l k hlt; rw [← hd] at hsn; have HS := hI hsn; have hmem : d ∈ l := by rw [hd]; exact List.getElem_mem _
    have HM := hI hmem; have hki : (k : Int) < (l.length : Int) := by omega
    clear hd hsn hmem
    by_cases h1 : d < 0
    · have hno : Hid (rightB s l = false) := by
       show _ = _
       have : l.all digitOk = false := by
        rw [Bool.eq_false_iff]; intro hh; have := List.all_eq_true.1 hh _ HM.out; rw [digitOk_no (.inl (by omega))] at this; cases this
       rw [rightB, this]; rfl
      have e1 : decide (d < 0) = true := decide_eq_true h1; clear h1; go_wp2_with fail
      go_ret
      exact ⟨ret_bool (hno.out.symm.trans HR.out), hBw.out⟩
    · by_cases h2 : 1048576 ≤ d
      · have hno : Hid (rightB s l = false) := by
         show _ = _
         have : l.all digitOk = false := by
          rw [Bool.eq_false_iff]; intro hh; have := List.all_eq_true.1 hh _ HM.out; rw [digitOk_no (.inr (by omega))] at this; cases this
         rw [rightB, this]; rfl
        have e1 : decide (d < 0) = false := decide_eq_false h1; have e2 : decide (1048576 ≤ d) = true := decide_eq_true h2; clear h1 h2; go_wp2_with fail
        go_ret
        exact ⟨ret_bool (hno.out.symm.trans HR.out), hBw.out⟩
      · have HO := hI (digitOk_yes (d := d) (by omega) (by omega))
        have e1 : decide (d < 0) = false := decide_eq_false h1; have e2 : decide (1048576 ≤ d) = false := decide_eq_false h2; clear h1 h2; go_wp2_with fail
        go_roundw
        case rel => exact ⟨k + 1, nd, by omega, by go_num, rfl, by show _ = _; rw [HS.out, HA.out, HO.out]; rfl⟩
        case measure => simp [intOf]; omega
  · have hall : Hid (l.all digitOk = true) := by have := HA.out; rw [List.take_of_length_le (by omega)] at this; exact this
    by_cases t1 : s < -1
    · have hno : Hid (rightB s l = false) := by
       show _ = _
       rw [rightB, hall.out, Bool.true_and]; have x1 : (s == 0) = false := by rw [beq_eq_false_iff_ne]; omega
       have x2 : (s == 1) = false := by rw [beq_eq_false_iff_ne]; omega
       have x3 : (s == -1) = false := by rw [beq_eq_false_iff_ne]; omega
       rw [x1, x2, x3]; simp
      have e1 : decide (s < -1) = true := decide_eq_true t1; clear t1; go_wp2_with fail
      go_ret
      exact ⟨ret_bool (hno.out.symm.trans HR.out), hBw.out⟩
    · by_cases t2 : 1 < s
      · have hno : Hid (rightB s l = false) := by
         show _ = _
         rw [rightB, hall.out, Bool.true_and]; have x1 : (s == 0) = false := by rw [beq_eq_false_iff_ne]; omega
         have x2 : (s == 1) = false := by rw [beq_eq_false_iff_ne]; omega
         have x3 : (s == -1) = false := by rw [beq_eq_false_iff_ne]; omega
         rw [x1, x2, x3]; simp
        have e1 : decide (s < -1) = false := decide_eq_false t1; have e2 : decide (1 < s) = true := decide_eq_true t2; clear t1 t2; go_wp2_with fail
        go_ret
        exact ⟨ret_bool (hno.out.symm.trans HR.out), hBw.out⟩
      · have e1 : decide (s < -1) = false := decide_eq_false t1
        have e2 : decide (1 < s) = false := decide_eq_false t2
        by_cases h0 : l.length = 0
        · have s1 : ((l.length : Int) == 0) = true := by rw [beq_iff_eq]; omega
          have hl : Hid (rightB s l = (s == 0)) := by
           show _ = _
           rw [rightB, hall.out, if_pos (List.length_eq_zero_iff.1 h0)]; rfl
          clear h0 t1 t2
          cases s2 : (s == 0) with
          | true =>
           go_wp2_with fail
           go_ret
           exact ⟨ret_bool (by rw [← HR.out, hl.out, s2]), hBw.out⟩
          | false =>
           go_wp2_with fail
           go_ret
           exact ⟨ret_bool (by rw [← HR.out, hl.out, s2]), hBw.out⟩
        · have s1 : ((l.length : Int) == 0) = false := by rw [beq_eq_false_iff_ne]; omega
          obtain ⟨m, hm⟩ : ∃ m, m = l.length - 1 := ⟨_, rfl⟩; have hml : m < l.length := by omega
          have hmi : (l.length : Int) - 1 = (m : Int) := by omega
          have hmi2 : (m : Int) < (l.length : Int) := by omega
          obtain ⟨b, off, rfl, hb, hcell⟩ := (H1.out.keep HB.out).at (k := m) hml; obtain ⟨d, hd⟩ : ∃ d, d = l[m]'hml := ⟨_, rfl⟩; rw [← hd] at hcell
          have hl : Hid (rightB s l = (!(s == 0) && (d != 0))) := by
           show _ = _
           have hne : l ≠ [] := fun h => h0 (by rw [h]; rfl)
           rw [rightB, hall.out, if_neg hne, Bool.true_and, List.getLast?_eq_getElem?, ← hm, List.getElem?_eq_getElem hml, ← hd]
           have x : (s == 1 || s == -1) = !(s == 0) := by
            rcases (show s = 0 ∨ s = 1 ∨ s = -1 by omega) with h | h | h <;> subst h <;> rfl
           rw [x]
           by_cases hd0 : d = 0 <;> simp [hd0]
          clear h0 hm hd t1 t2
          cases s2 : (s == 0) with
          | true =>
           go_wp2_with fail
           go_ret
           exact ⟨ret_bool (by rw [← HR.out, hl.out, s2]; rfl), hBw.out⟩
          | false =>
           cases s3 : (d != 0) with
           | true =>
            go_wp2_with fail
            go_ret
            exact ⟨ret_bool (by rw [← HR.out, hl.out, s2, s3]; rfl), hBw.out⟩
           | false =>
            go_wp2_with fail
            go_ret
            exact ⟨ret_bool (by rw [← HR.out, hl.out, s2, s3]; rfl), hBw.out⟩
end Go.Proofs.YtlcgckelamhnpaaGreat
