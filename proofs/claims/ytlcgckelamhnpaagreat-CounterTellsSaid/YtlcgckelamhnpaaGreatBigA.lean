/- Walks: which big integers are right; trimming; a sign for digits. -/
import Derived.Test.YtlcgckelamhnpaaGreatBigSpec
import Derived.Test.YtlcgckelamhnpaaGreatProg
set_option maxRecDepth 100000
set_option maxHeartbeats 4000000
namespace Go.Proofs.YtlcgckelamhnpaaGreat
open Go.RowKit
theorem ret_bool {a b : Bool} (h : a = b) : Ending.returned (.bool a) = .returned (.bool b) := by rw [h]
theorem ret_int {k : IntKind} {a b : Int} (h : a = b) : Ending.returned (.int k a) = .returned (.int k b) := by rw [h]
def digitOk (d : Int) : Bool := decide (0 ≤ d) && decide (d ≤ 1048575)
def rightB (s : Int) (l : List Int) : Bool := l.all digitOk && (if l = [] then s == 0 else (s == 1 || s == -1) && decide (l.getLast? ≠ some 0))
theorem ztake_snoc (l : List Int) (k : Nat) (h : k < l.length) : l.take (k + 1) = l.take k ++ [l[k]] := List.take_succ_eq_append_getElem h
theorem digitOk_yes {d : Int} (h : 0 ≤ d) (h' : d ≤ 1048575) : digitOk d = true := by simp [digitOk, h, h']
theorem digitOk_no {d : Int} (h : d < 0 ∨ 1048575 < d) : digitOk d = false := by simp [digitOk]; omega
theorem all_ztake (l : List Int) (k : Nat) (h : k < l.length) : (l.take (k + 1)).all digitOk = ((l.take k).all digitOk && digitOk l[k]) := by rw [ztake_snoc l k h, List.all_append, List.all_cons, List.all_nil, Bool.and_true]
theorem bigRight_any (s : Int) (v : Value) (l : List Int) (w : World) (hv : RdZ w v l) (hn : l.length ≤ 1099511627776) :
 Calls Tryz.prog 67 #[.agg #[.int .i64 s, v]] w fun e w' => e = .returned (.bool (rightB s l)) ∧ Below w.heap.size w w' := by
 obtain ⟨a, cap, rfl⟩ := hv.shape; have HV := Lib.hid (hv.keep ((Below.refl _ w).alloc (Nat.le_refl _) (.cells #[.int .i64 s, .slice a l.length cap] 34))); clear hv; have HB : Hid (Below w.heap.size w (w.alloc (.cells #[.int .i64 s, .slice a l.length cap] 34))) := (Below.refl _ w).alloc (Nat.le_refl _) _; go_enter Tryz.func67, Tryz.ntmps67
 go_wp2_with fail
 go_loop [12] (fun i => ∃ k : Nat, k ≤ l.length ∧ i = .int .i64 k ∧ Hid ((l.take k).all digitOk = true)) (fun i => l.length - (intOf i).toNat)
 case atStart => exact ⟨0, Nat.zero_le _, rfl, rfl⟩
 case round =>
  obtain ⟨k, hk, rfl, HA⟩ := hrel
  by_cases hlt : k < l.length
  · obtain ⟨b, off, rfl, hb, hcell⟩ := HV.out.at hlt
    obtain ⟨d, hd⟩ : ∃ d, d = l[k] := ⟨_, rfl⟩; rw [← hd] at hcell; have hsn := all_ztake l k hlt; rw [← hd] at hsn; have HS := Lib.hid hsn; have hmem : d ∈ l := by rw [hd]; exact List.getElem_mem _
    have HM := Lib.hid hmem; clear hd hsn hmem
    by_cases h1 : 0 ≤ d
    · by_cases h2 : d ≤ 1048575
      · have HO := Lib.hid (digitOk_yes h1 h2)
        go_wp2_with fail
        go_round
        case rel => exact ⟨k + 1, by omega, by go_num, by show _ = _; rw [HS.out, HA.out, HO.out]; rfl⟩
        case measure => simp [intOf]; omega
      · have hno : Hid (rightB s l = false) := by
         show _ = _
         have : l.all digitOk = false := by
          rw [Bool.eq_false_iff]; intro hh; have := List.all_eq_true.1 hh _ HM.out; rw [digitOk_no (.inr (by omega))] at this; cases this
         rw [rightB, this]; rfl
        go_wp2_with fail
        go_ret
        exact ⟨ret_bool (by rw [hno.out]), HB.out⟩
    · have hno : Hid (rightB s l = false) := by
       show _ = _
       have : l.all digitOk = false := by
        rw [Bool.eq_false_iff]; intro hh; have := List.all_eq_true.1 hh _ HM.out; rw [digitOk_no (.inl (by omega))] at this; cases this
       rw [rightB, this]; rfl
      go_wp2_with fail
      go_ret
      exact ⟨ret_bool (by rw [hno.out]), HB.out⟩
  · have hall : Hid (l.all digitOk = true) := by have := HA.out; rw [List.take_of_length_le (by omega)] at this; exact this
    by_cases h0 : l.length = 0
    · have hl : Hid (rightB s l = (s == 0)) := by
       show _ = _
       rw [rightB, hall.out, if_pos (List.length_eq_zero_iff.1 h0)]; rfl
      have e0 : ((l.length : Int) == 0) = true := by rw [beq_iff_eq]; omega
      have H0 := Lib.hid h0; clear h0; go_wp2_with fail
      go_ret
      exact ⟨ret_bool (by rw [hl.out]), HB.out⟩
    · have hlast : l.length - 1 < l.length := by omega
      obtain ⟨b, off, rfl, hb, hcell⟩ := HV.out.at hlast; obtain ⟨d, hd⟩ : ∃ d, d = l[l.length - 1] := ⟨_, rfl⟩; rw [← hd] at hcell; have e0 : ((l.length : Int) == 0) = false := by rw [beq_eq_false_iff_ne]; omega
      have hl : Hid (rightB s l = ((s == 1 || s == -1) && (d != 0))) := by
       show _ = _
       have hne : l ≠ [] := fun h => h0 (by rw [h]; rfl)
       rw [rightB, hall.out, if_neg hne, Bool.true_and, List.getLast?_eq_getElem?, List.getElem?_eq_getElem hlast, ← hd]
       by_cases hd0 : d = 0 <;> simp [hd0]
      clear hd
      cases e1 : (s == 1) with
      | true =>
       go_wp2_with fail
       go_ret
       exact ⟨ret_bool (by rw [hl.out, e1]; rfl), HB.out⟩
      | false =>
       cases e2 : (s == -1) with
       | true =>
        go_wp2_with fail
        go_ret
        exact ⟨ret_bool (by rw [hl.out, e1, e2]; rfl), HB.out⟩
       | false =>
        go_wp2_with fail
        go_ret
        exact ⟨ret_bool (by rw [hl.out, e1, e2]; rfl), HB.out⟩
end Go.Proofs.YtlcgckelamhnpaaGreat
