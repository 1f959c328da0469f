/- Walk: quotient and remainder of digits: the short ways; the laws of a guessed digit. -/
import Derived.Test.YtlcgckelamhnpaaGreatBigH
import Derived.Maps.AppendAt
set_option maxRecDepth 100000
set_option maxHeartbeats 8000000
namespace Go.Proofs.YtlcgckelamhnpaaGreat
open Go.RowKit
theorem only_setCell {a w : World} {g : Nat} (h : a.grownBy w (some g)) {o : Nat} (u : Value) : a.grownBy (w.setCell ⟨g, o, none⟩ u) (some g) :=
 ⟨h.os, h.tape, h.output, by simpa [World.setCell] using h.size, fun i hi hne => (Below.heap_setCell w ⟨g, o, none⟩ u i (by
  rintro rfl; exact hne rfl)).trans (h.block i hi hne)⟩
theorem OwnN.far {w w' : World} {B g gv n cap : Nat} {l : Digs} (h : OwnN w B (.slice (some ⟨gv, 0, none⟩) n cap) l) (hg : w.grownBy w' (some g)) (hne : gv ≠ g) : OwnN w' B (.slice (some ⟨gv, 0, none⟩) n cap) l := by
 refine ⟨h.1, ?_⟩; rcases h.2 with h2 | ⟨g', cap', cur, hv, hg', hh, r⟩
 · exact .inl h2
 · have : g' = gv := by simp only [Value.slice.injEq, Option.some.injEq, Addr.mk.injEq, and_true] at hv; exact hv.1.symm
   subst this; exact .inr ⟨g', cap', cur, hv, hg', by rw [hg.block g' (lt_of_block hh) (by simp; exact hne)]; exact hh, r⟩
theorem mid_set (A W C : Digs) (k d : Nat) (hk : k < W.length) : (A ++ W ++ C).set (A.length + k) d = A ++ W.set k d ++ C := by
 rw [List.append_assoc, List.set_append_right _ _ (by omega), Nat.add_sub_cancel_left, List.set_append_left _ _ hk, List.append_assoc]
theorem mid_get (A W C : Digs) (k : Nat) (hk : k < W.length) (h : A.length + k < (A ++ W ++ C).length) : (A ++ W ++ C)[A.length + k] = W[k] := by
 rw [List.getElem_append_left (by simp; omega), List.getElem_append_right (by omega)]
 congr 1; omega
theorem drop_step {W W0 : Digs} {k : Nat} (h : W.drop k = W0.drop k) (h1 : k < W.length) (h2 : k < W0.length) : W[k] = W0[k] ∧ W.drop (k + 1) = W0.drop (k + 1) := by
 rw [List.drop_eq_getElem_cons h1, List.drop_eq_getElem_cons h2] at h; exact List.cons.inj h
theorem sub_mul_step {B a v w g b x y m c : Nat} (h : a + g * v = w + B * b) (h2 : m + g * y + b = x + 1048576 * c) : (a + B * m) + g * (v + B * y) = (w + B * x) + B * 1048576 * c := by grind
theorem add_back_step {B a v w b x y m c : Nat} (h : a + B * b = w + v) (h2 : m + 1048576 * c = x + y + b) : (a + B * m) + B * 1048576 * c = (w + B * x) + (v + B * y) := by grind
theorem settle_end {M wu cy wt v w g : Nat} (h3 : wu + M * cy = wt + v) (h5 : wu < M) (hs : wt + v = (w + v - g * v) + M) (h1 : g * v ≤ w + v) (hw : w < g * v) (hg : 1 ≤ g) (hc : cy ≤ 1) :
 (g - 1) * v + wu = w ∧ wu < v := by
 obtain ⟨k, rfl⟩ : ∃ k, g = k + 1 := ⟨g - 1, by omega⟩; rw [Nat.add_mul, Nat.one_mul] at *; rw [Nat.add_sub_cancel]; obtain rfl | rfl : cy = 0 ∨ cy = 1 := by omega
 · omega
 · omega
structure Settled (w w' : World) (B g i n cap : Nat) (A W C V : Digs) (q : Nat) : Prop where
 left : ∃ W', OwnN w' B (.slice (some ⟨g, 0, none⟩) n cap) (A ++ W' ++ C) ∧ W'.length = W.length ∧ small W' ∧ q * val V + val W' = val W ∧ val W' < val V
 frame : w.grownBy w' (some g)
 idx : A.length = i
theorem bigSettle_any (B g gv i n cap c capv guess : Nat) (A W C V : Digs) (w : World) (hu : OwnN w B (.slice (some ⟨g, 0, none⟩) n cap) (A ++ W ++ C)) (hv : OwnN w B (.slice (some ⟨gv, 0, none⟩) V.length capv) V)
 (hne : gv ≠ g) (hA : A.length = i) (sW : small W) (sV : small V) (hl : V.length ≤ W.length) (hn : W.length ≤ 2199023255552) (hguess : guess < 1048576)
 (h1 : guess * val V ≤ val W + val V) (h2 : val W < guess * val V + val V) :
 Calls Tryz.prog 123 #[.slice (some ⟨g, i, none⟩) W.length c, .slice (some ⟨gv, 0, none⟩) V.length capv, .int .i64 guess] w fun e w' => ∃ q : Nat, e = .returned (.int .i64 q) ∧ Settled w w' B g i n cap A W C V q := by
 have HU := Lib.hid hu; clear hu; have HV := Lib.hid hv; clear hv; have HA := Lib.hid hA; clear hA; have H1 := Lib.hid h1; clear h1; have H2 := Lib.hid h2; clear h2; go_enter Tryz.func123, Tryz.ntmps123
 go_wp2_with fail
 go_loopw [7, 14] (fun b j wr => ∃ (k bw : Nat) (Wt : Digs), k ≤ W.length ∧ bw < 1048576 ∧ Wt.length = W.length ∧ b = .int .i64 bw ∧ j = .int .i64 k ∧ Hid (small Wt) ∧ Hid (Wt.drop k = W.drop k) ∧ Hid (val (Wt.take k) + guess * val (V.take k) = val (W.take k) + 1048576 ^ k * bw) ∧ Hid (OwnN wr B (.slice (some ⟨g, 0, none⟩) n cap) (A ++ Wt ++ C)) ∧ Hid (w.grownBy wr (some g))) (fun _ j _ => W.length - (intOf j).toNat)
 case atStart => exact ⟨0, 0, W, Nat.zero_le _, by omega, rfl, rfl, rfl, sW, rfl, by show _ = _; simp [val], HU, World.grownBy.refl _ _⟩
 case round =>
  obtain ⟨k, bw, Wt, hk, hbw, hlo, rfl, rfl, HSm, HD, HE, HW, HG⟩ := hrel; have HLo := Lib.hid hlo
  by_cases hlt : k < W.length
  · have hkt : k < Wt.length := by omega
    have hki : A.length + k < (A ++ Wt ++ C).length := by simp; omega
    obtain ⟨x, hx⟩ : ∃ x, x = Wt[k] := ⟨_, rfl⟩; have hcell := HW.out.cell hki; rw [mid_get A Wt C k hkt, ← hx, HA.out] at hcell; have hxs : x < 1048576 := by rw [hx]; exact small_get HSm.out k hkt
    have hds := drop_step HD.out hkt hlt; have HX : Hid (x = W[k]) := by show _ = _; rw [hx]; exact hds.1
    have HDP := Lib.hid hds.2; have hfr := HW.out.live (i + k)
    have HNW : Hid (∀ d : Nat, OwnN (wr.setCell ⟨g, i + k, none⟩ (.int .i64 (d : Int))) B (.slice (some ⟨g, 0, none⟩) n cap) (A ++ Wt.set k d ++ C)) := by
     intro d
     have := HW.out.set (A.length + k) d; rw [mid_set A Wt C k d hkt, HA.out] at this; exact this
    clear hlo hx hds hki
    by_cases hkv : k < V.length
    · obtain ⟨y, hy⟩ : ∃ y, y = V[k] := ⟨_, rfl⟩
      have hcell2 := (HV.out.far HG.out hne).cell hkv; rw [← hy] at hcell2; have hys : y < 1048576 := by rw [hy]; exact small_get sV k hkv
      have HY := Lib.hid hy; clear hy; obtain ⟨z, hz⟩ : ∃ z : Nat, z = guess * y := ⟨_, rfl⟩; have hzb : z ≤ 1099509530625 := by rw [hz]; exact Nat.mul_le_mul (show guess ≤ 1048575 by omega) (show y ≤ 1048575 by omega)
      have hzi : ((guess : Int) * (y : Int)) = (z : Int) := by rw [hz]; simp
      have HZ := Lib.hid hz; clear hz; obtain ⟨m, hm⟩ : ∃ m : Nat, (m : Int) = ((x : Int) - bw - z) % 1048576 := ⟨(((x : Int) - bw - z) % 1048576).toNat, by omega⟩; obtain ⟨c, hc⟩ : ∃ c : Nat, (c : Int) = -(((x : Int) - bw - z) / 1048576) := ⟨(-(((x : Int) - bw - z) / 1048576)).toNat, by omega⟩; have hmask : bits .and .i64 ((x : Int) - bw - z) 1048575 = (m : Int) := by rw [mask20, hm]
      have hneg : -(((x : Int) - bw - z) / 1048576) = (c : Int) := hc.symm; have hsum : m + z + bw = x + 1048576 * c := by omega
      have hms : m < 1048576 := by omega
      have hcs : c < 1048576 := by omega
      have HE2 : Hid (val ((Wt.set k m).take (k + 1)) + guess * val (V.take (k + 1)) = val (W.take (k + 1)) + 1048576 ^ (k + 1) * c) := by
       show _ = _
       rw [val_take_set _ _ _ hkt, val_take_succ W k hlt, val_take_succ V k hkv, ← HX.out, ← HY.out, Nat.pow_succ]; exact sub_mul_step HE.out (by rw [← HZ.out]; exact hsum)
      clear hm hc hsum; go_wp2_with fail
      go_roundw
      case rel => exact ⟨k + 1, c, Wt.set k m, by omega, hcs, by rw [List.length_set]; exact HLo.out, by rfl, by go_num, small_set HSm.out hms, by show _ = _; rw [drop_set_succ]; exact HDP.out, HE2, HNW.out m, only_setCell HG.out _⟩
      case measure => simp [intOf]; omega
    · obtain ⟨m, hm⟩ : ∃ m : Nat, (m : Int) = ((x : Int) - bw) % 1048576 := ⟨(((x : Int) - bw) % 1048576).toNat, by omega⟩
      obtain ⟨c, hc⟩ : ∃ c : Nat, (c : Int) = -(((x : Int) - bw) / 1048576) := ⟨(-(((x : Int) - bw) / 1048576)).toNat, by omega⟩; have hmask : bits .and .i64 ((x : Int) - bw) 1048575 = (m : Int) := by rw [mask20, hm]
      have hneg : -(((x : Int) - bw) / 1048576) = (c : Int) := hc.symm; have hsum : m + guess * 0 + bw = x + 1048576 * c := by omega
      have hms : m < 1048576 := by omega
      have hcs : c < 1048576 := by omega
      have HE2 : Hid (val ((Wt.set k m).take (k + 1)) + guess * val (V.take (k + 1)) = val (W.take (k + 1)) + 1048576 ^ (k + 1) * c) := by
       show _ = _
       have e1 := val_take_all (l := V) (k := k) (by omega); have e2 := val_take_all (l := V) (k := k + 1) (by omega); have h3 := sub_mul_step HE.out hsum; rw [val_take_set _ _ _ hkt, val_take_succ W k hlt, ← HX.out, e2, Nat.pow_succ]; rw [e1, Nat.mul_zero, Nat.add_zero] at h3; exact h3
      clear hm hc hsum; go_wp2_with fail
      go_roundw
      case rel => exact ⟨k + 1, c, Wt.set k m, by omega, hcs, by rw [List.length_set]; exact HLo.out, by rfl, by go_num, small_set HSm.out hms, by show _ = _; rw [drop_set_succ]; exact HDP.out, HE2, HNW.out m, only_setCell HG.out _⟩
      case measure => simp [intOf]; omega
  · obtain rfl : k = W.length := by omega
    have hE := HE.out; rw [List.take_of_length_le (by omega), val_take_all hl, List.take_of_length_le (Nat.le_refl _)] at hE; have hWt : val Wt < 1048576 ^ W.length := by have := val_lt HSm.out; rwa [hlo] at this
    have hVl : val V < 1048576 ^ W.length := Nat.lt_of_lt_of_le (val_lt sV) (Nat.pow_le_pow_right (by omega) hl); have HWt := Lib.hid hWt; have HVl := Lib.hid hVl; have HEE := Lib.hid hE; clear hWt hVl hE
    by_cases hb0 : bw = 0
    · have hfin : Hid (guess * val V + val Wt = val W ∧ val Wt < val V) := by
       have h3 := HEE.out; have h4 := H2.out; rw [hb0, Nat.mul_zero] at h3; exact ⟨by omega, by omega⟩
      have e0 : ((bw : Int) == 0) = true := by rw [beq_iff_eq]; omega
      clear hb0 hlo hlt; go_wp2_with fail
      go_ret
      exact ⟨guess, rfl, ⟨Wt, HW.out, HLo.out, HSm.out, hfin.out.1, hfin.out.2⟩, HG.out, HA.out⟩
    · have hb1 : bw = 1 ∧ 1 ≤ guess ∧ val W < guess * val V ∧ val Wt + val V = (val W + val V - guess * val V) + 1048576 ^ W.length := by
       have h3 := HEE.out; have h4 := H1.out; have h5 := HWt.out; have h6 := HVl.out; generalize 1048576 ^ W.length = M at *
       have hb2 : bw < 2 := by
        have : M * bw < M * 2 := by omega
        exact Nat.lt_of_mul_lt_mul_left this
       have hb3 : bw = 1 := by omega
       refine ⟨hb3, ?_, ?_, ?_⟩
       · rcases Nat.eq_zero_or_pos guess with h | h
         · rw [h, hb3] at h3; omega
         · exact h
       · rw [hb3] at h3; omega
       · rw [hb3] at h3; omega
      obtain ⟨hb1, hg1, hwl, hsum1⟩ := hb1; have HWL := Lib.hid hwl; clear hwl; have HS1 := Lib.hid hsum1; have e0 : ((bw : Int) == 0) = false := by rw [beq_eq_false_iff_ne]; omega
      clear hb0 hlo hlt hsum1 hb1; obtain ⟨wo, rfl⟩ : ∃ wo : World, wo = wr := ⟨_, rfl⟩; go_wp2_with fail
      have hol : Wt.length = W.length := HLo.out; go_loopw [10, 49] (fun b j wr => ∃ (k cy : Nat) (Wu : Digs), k ≤ W.length ∧ cy ≤ 1 ∧ Wu.length = W.length ∧ b = .int .i64 cy ∧ j = .int .i64 k ∧ Hid (small Wu) ∧ Hid (Wu.drop k = Wt.drop k) ∧ Hid (val (Wu.take k) + 1048576 ^ k * cy = val (Wt.take k) + val (V.take k)) ∧ Hid (OwnN wr B (.slice (some ⟨g, 0, none⟩) n cap) (A ++ Wu ++ C)) ∧ Hid (w.grownBy wr (some g))) (fun _ j _ => W.length - (intOf j).toNat)
      case atStart => exact ⟨0, 0, Wt, Nat.zero_le _, by omega, hol, rfl, rfl, HSm, rfl, by show _ = _; simp [val], HW, HG⟩
      case round =>
       obtain ⟨j, cy, Wu, hj, hcy, hlu, rfl, rfl, HSu, HD2, HE3, HW2, HG2⟩ := hrel; have HLu := Lib.hid hlu
       by_cases hlt : j < W.length
       · have hkt : j < Wu.length := by omega
         have hltt : j < Wt.length := by omega
         have hki : A.length + j < (A ++ Wu ++ C).length := by simp; omega
         obtain ⟨x, hx⟩ : ∃ x, x = Wu[j] := ⟨_, rfl⟩; have hcell := HW2.out.cell hki; rw [mid_get A Wu C j hkt, ← hx, HA.out] at hcell; have hxs : x < 1048576 := by rw [hx]; exact small_get HSu.out j hkt
         have hds := drop_step HD2.out hkt hltt; have HX : Hid (x = Wt[j]) := by show _ = _; rw [hx]; exact hds.1
         have HDP := Lib.hid hds.2; have hfr := HW2.out.live (i + j)
         have HNW : Hid (∀ d : Nat, OwnN (wr.setCell ⟨g, i + j, none⟩ (.int .i64 (d : Int))) B (.slice (some ⟨g, 0, none⟩) n cap) (A ++ Wu.set j d ++ C)) := by
          intro d
          have := HW2.out.set (A.length + j) d; rw [mid_set A Wu C j d hkt, HA.out] at this; exact this
         clear hlu hx hds hki hol
         by_cases hkv : j < V.length
         · obtain ⟨y, hy⟩ : ∃ y, y = V[j] := ⟨_, rfl⟩
           have hcell2 := (HV.out.far HG2.out hne).cell hkv; rw [← hy] at hcell2; have hys : y < 1048576 := by rw [hy]; exact small_get sV j hkv
           have HY := Lib.hid hy; clear hy; obtain ⟨m, hm⟩ : ∃ m : Nat, m = (cy + x + y) % 1048576 := ⟨_, rfl⟩; obtain ⟨d, hd⟩ : ∃ d : Nat, d = (cy + x + y) / 1048576 := ⟨_, rfl⟩; have hmask : bits .and .i64 ((cy : Int) + x + y) 1048575 = (m : Int) := by rw [mask20]; omega
           have hdiv : ((cy : Int) + x + y) / 1048576 = (d : Int) := by omega
           have hsum : m + 1048576 * d = x + y + cy := by omega
           have hms : m < 1048576 := by omega
           have hds : d ≤ 1 := by omega
           have HE4 : Hid (val ((Wu.set j m).take (j + 1)) + 1048576 ^ (j + 1) * d = val (Wt.take (j + 1)) + val (V.take (j + 1))) := by
            show _ = _
            rw [val_take_set _ _ _ hkt, val_take_succ Wt j hltt, val_take_succ V j hkv, ← HX.out, ← HY.out, Nat.pow_succ]; exact add_back_step HE3.out hsum
           clear hm hd hsum; go_wp2_with fail
           go_roundw
           case rel => exact ⟨j + 1, d, Wu.set j m, by omega, hds, by rw [List.length_set]; exact HLu.out, by rfl, by go_num, small_set HSu.out hms, by show _ = _; rw [drop_set_succ]; exact HDP.out, HE4, HNW.out m, only_setCell HG2.out _⟩
           case measure => simp [intOf]; omega
         · obtain ⟨m, hm⟩ : ∃ m : Nat, m = (cy + x) % 1048576 := ⟨_, rfl⟩
           obtain ⟨d, hd⟩ : ∃ d : Nat, d = (cy + x) / 1048576 := ⟨_, rfl⟩; have hmask : bits .and .i64 ((cy : Int) + x) 1048575 = (m : Int) := by rw [mask20]; omega
           have hdiv : ((cy : Int) + x) / 1048576 = (d : Int) := by omega
           have hsum : m + 1048576 * d = x + 0 + cy := by omega
           have hms : m < 1048576 := by omega
           have hds : d ≤ 1 := by omega
           have HE4 : Hid (val ((Wu.set j m).take (j + 1)) + 1048576 ^ (j + 1) * d = val (Wt.take (j + 1)) + val (V.take (j + 1))) := by
            show _ = _
            have e1 := val_take_all (l := V) (k := j) (by omega); have e2 := val_take_all (l := V) (k := j + 1) (by omega); have h3 := add_back_step HE3.out hsum; rw [val_take_set _ _ _ hkt, val_take_succ Wt j hltt, ← HX.out, e2, Nat.pow_succ]; rw [e1, Nat.mul_zero, Nat.add_zero] at h3; exact h3
           clear hm hd hsum; go_wp2_with fail
           go_roundw
           case rel => exact ⟨j + 1, d, Wu.set j m, by omega, hds, by rw [List.length_set]; exact HLu.out, by rfl, by go_num, small_set HSu.out hms, by show _ = _; rw [drop_set_succ]; exact HDP.out, HE4, HNW.out m, only_setCell HG2.out _⟩
           case measure => simp [intOf]; omega
       · obtain rfl : j = W.length := by omega
         have hfin : Hid ((guess - 1) * val V + val Wu = val W ∧ val Wu < val V) := by
          have h3 := HE3.out; rw [List.take_of_length_le (by omega), val_take_all hl, List.take_of_length_le (l := Wt) (by omega)] at h3; have h5 := val_lt HSu.out; rw [HLu.out] at h5; exact settle_end h3 h5 HS1.out H1.out HWL.out hg1 hcy
         have HLu2 := Lib.hid hlu; clear hlu hol hlt; go_wp2_with fail
         go_ret
         exact ⟨guess - 1, ret_int (show ((guess : Int) - 1) = ((guess - 1 : Nat) : Int) by omega), ⟨Wu, HW2.out, HLu2.out, HSu.out, hfin.out.1, hfin.out.2⟩, HG2.out, HA.out⟩
theorem guess_start {e B V U vl wl v1 v2 w2 top g : Nat} (hB : B = 1048576) (hV : V = vl + e * (v2 + B * v1)) (hU : U = wl + e * (w2 + B * top)) (hw : wl < e) (h2 : w2 < B) (hg : top < (g + 1) * v1) : U < g * V + V := by
 have h1 : e * (w2 + B * top) + e ≤ e * (B * (top + 1)) := by
  rw [← Nat.mul_succ]; exact Nat.mul_le_mul_left _ (by rw [Nat.mul_add]; omega)
 have h3 : e * (B * (top + 1)) ≤ e * (B * ((g + 1) * v1)) := Nat.mul_le_mul_left _ (Nat.mul_le_mul_left _ hg)
 have h4 : e * (B * ((g + 1) * v1)) ≤ g * V + V := by
  subst hV; have : g * (vl + e * (v2 + B * v1)) + (vl + e * (v2 + B * v1)) = e * (B * ((g + 1) * v1)) + (g + 1) * (vl + e * v2) := by grind
  omega
 omega
theorem guess_big {B V U g : Nat} (hU : U < B * V) (hg : B ≤ g) : U < (g - 1) * V + V := by
 have h1 : B * V ≤ g * V := Nat.mul_le_mul_right _ hg; rcases Nat.eq_zero_or_pos g with h | h
 · subst h; omega
 · obtain ⟨k, rfl⟩ : ∃ k, g = k + 1 := ⟨g - 1, by omega⟩
   rw [Nat.add_sub_cancel]; rw [Nat.add_mul] at h1; omega
theorem guess_down {e B V U vl wl v1 v2 w2 top g rest : Nat} (hV : V = vl + e * (v2 + B * v1)) (hU : U = wl + e * (w2 + B * top)) (hw : wl < e) (hr : g * v1 + rest = top) (hg : rest * B + w2 < g * v2) : U < (g - 1) * V + V := by
 have h1 : w2 + B * top + 1 ≤ g * (v2 + B * v1) := by
  subst hr; have : g * (v2 + B * v1) = g * v2 + B * (g * v1) := by grind
  have h3 : B * (g * v1 + rest) = B * (g * v1) + rest * B := by grind
  omega
 have h2 := Nat.mul_le_mul_left e h1; have h3 : g * V = g * vl + e * (g * (v2 + B * v1)) := by subst hV; grind
 rw [Nat.mul_add, Nat.mul_one] at h2; rcases Nat.eq_zero_or_pos g with h | h
 · subst h; omega
 · obtain ⟨k, rfl⟩ : ∃ k, g = k + 1 := ⟨g - 1, by omega⟩
   rw [Nat.add_sub_cancel]; rw [Nat.add_mul, Nat.one_mul] at h3; omega
theorem guess_end {e B V U vl wl v1 v2 w2 top g rest : Nat} (hV : V = vl + e * (v2 + B * v1)) (hU : U = wl + e * (w2 + B * top)) (hv : vl < e) (hr : g * v1 + rest = top) (h1 : 1 ≤ v1) (hgB : g < B) (hx : B ≤ rest ∨ g * v2 ≤ rest * B + w2) (h2 : v2 < B) : g * V ≤ U + V := by
 have h3 : g * v2 ≤ rest * B + w2 := by
  rcases hx with hx | hx
  · have a1 : g * v2 ≤ B * B := Nat.mul_le_mul (by omega) (by omega)
    have a2 : B * B ≤ rest * B := Nat.mul_le_mul_right _ hx
    omega
  · exact hx
 have h4 : g * (v2 + B * v1) ≤ w2 + B * top := by
  subst hr; have : g * (v2 + B * v1) = g * v2 + B * (g * v1) := by grind
  have h3 : B * (g * v1 + rest) = B * (g * v1) + rest * B := by grind
  omega
 have h5 := Nat.mul_le_mul_left e h4; have h6 : g * V = g * vl + e * (g * (v2 + B * v1)) := by subst hV; grind
 have h7 : g * vl ≤ B * e := Nat.mul_le_mul (by omega) (by omega)
 have h8 : B * e ≤ e * (v2 + B * v1) := by
  have : e * (B * 1) ≤ e * (v2 + B * v1) := Nat.mul_le_mul_left _ (by have := Nat.mul_le_mul_left B h1; omega); rw [Nat.mul_one, Nat.mul_comm] at this; exact this
 omega
theorem own_lit1 (w : World) (B d : Nat) (hB : B ≤ w.heap.size) : OwnN (w.alloc (.cells #[.int .i64 (d : Int)] 3)) B (.slice (some ⟨w.heap.size, 0, none⟩) 1 1) [d] :=
 World.ownsRow_lit w #[.int .i64 (d : Int)] 1 hB (by unfold maxLen; omega) rfl
theorem digs_len_of_lt {n k : Nat} (h : n < 1048576 ^ k) : (digs n).length ≤ k := by
 rcases Nat.lt_or_ge k (digs n).length with h1 | h1
 · exfalso
   have h0 : n ≠ 0 := by rintro rfl; simp [digs_zero] at h1
   have h2 := digs_len_ge h0; have h3 : 1048576 ^ k ≤ 1048576 ^ ((digs n).length - 1) := Nat.pow_le_pow_right (by omega) (by omega)
   omega
 · exact h1
theorem digs_len_mul (a b : Nat) : (digs (a * b)).length ≤ (digs a).length + (digs b).length := by
 refine digs_len_of_lt ?_; rw [Nat.pow_add]; exact Nat.mul_lt_mul'' (digs_len_lt a) (digs_len_lt b)
theorem digs_len_mul_one {a b : Nat} (h : b < 1048576) : (digs (a * b)).length ≤ (digs a).length + 1 := by
 have h1 := digs_len_mul a b; have h2 : (digs b).length ≤ 1 := digs_len_of_lt (by rw [Nat.pow_one]; exact h)
 omega
theorem digs_len_add (a b : Nat) : (digs (a + b)).length ≤ max (digs a).length (digs b).length + 1 := by
 refine digs_len_of_lt ?_; have h1 : a < 1048576 ^ max (digs a).length (digs b).length := Nat.lt_of_lt_of_le (digs_len_lt a) (Nat.pow_le_pow_right (by omega) (Nat.le_max_left _ _)); have h2 : b < 1048576 ^ max (digs a).length (digs b).length := Nat.lt_of_lt_of_le (digs_len_lt b) (Nat.pow_le_pow_right (by omega) (Nat.le_max_right _ _)); rw [Nat.pow_succ]; omega
theorem top2 (V : Digs) (n : Nat) (hn : V.length = n + 2) : val V = val (V.take n) + 1048576 ^ n * (V[n]'(by omega) + 1048576 * V[n + 1]'(by omega)) := by
 rw [val_split V n (by omega), List.drop_eq_getElem_cons (by omega), List.drop_eq_getElem_cons (by omega), List.drop_of_length_le (by omega)]
 simp [val]
theorem top3 (W : Digs) (n : Nat) (hn : W.length = n + 3) : val W = val (W.take n) + 1048576 ^ n * (W[n]'(by omega) + 1048576 * (W[n + 2]'(by omega) * 1048576 + W[n + 1]'(by omega))) := by
 rw [val_split W n (by omega), List.drop_eq_getElem_cons (by omega), List.drop_eq_getElem_cons (by omega), List.drop_eq_getElem_cons (by omega), List.drop_of_length_le (by omega)]; simp only [val, Nat.mul_zero, Nat.add_zero]; rw [Nat.add_comm (W[n + 2] * 1048576), Nat.mul_comm W[n + 2]]
theorem bigDiv_lt (p q : Value) (a b : Nat) (w : World) (hp : RdN w p (digs a)) (hq : RdN w q (digs b)) (hab : a < b) (hn : (digs a).length ≤ 1099511627776) (hm : (digs b).length ≤ 1099511627776) :
 Calls Tryz.prog 103 #[p, q] w fun e w' => ∃ v r, e = .returned (.tuple #[v, r]) ∧ OwnN w' w.heap.size v (digs (a / b)) ∧ OwnN w' w.heap.size r (digs (a % b)) ∧ Below w.heap.size w w' := by
 have HO := Lib.hid (ord_lt (a := a) (b := b) (by omega)); have HD : Hid (digs (a / b) = [] ∧ a % b = a) := ⟨by rw [Nat.div_eq_of_lt hab]; rfl, Nat.mod_eq_of_lt hab⟩; have HP := Lib.hid hp; have HQ := Lib.hid hq; clear hp hq hab; go_enter Tryz.func103, Tryz.ntmps103
 go_wp2_with fail
 refine (bigcmp_any p q a b w HP.out HQ.out hn hm).mono ?_; rintro e w1 ⟨rfl, hb⟩; rw [HO.out]; have HB := Lib.hid hb; clear hb; go_wp2_with fail
 refine (clone_any p _ w1 (HP.out.keep HB.out) hn).mono ?_; rintro e w2 ⟨v, rfl, ho, hb⟩; have HB2 := Lib.hid hb; clear hb; have HO2 := Lib.hid ho; clear ho; go_wp2_with fail
 go_ret2
 exact ⟨_, v, rfl, by rw [HD.out.1]; exact ownN_nil _ _, by rw [HD.out.2]; exact HO2.out.mono HB.out.size, HB.out.trans (HB2.out.mono HB.out.size)⟩
theorem bigDiv_one (p q : Value) (a d : Nat) (w : World) (hp : RdN w p (digs a)) (hq : RdN w q (digs d)) (hab : d ≤ a) (h0 : 0 < d) (hd : d < 1048576) (hn : (digs a).length ≤ 1099511627776) :
 Calls Tryz.prog 103 #[p, q] w fun e w' => ∃ v r, e = .returned (.tuple #[v, r]) ∧ OwnN w' w.heap.size v (digs (a / d)) ∧ OwnN w' w.heap.size r (digs (a % d)) ∧ Below w.heap.size w w' := by
 have HO : Hid (¬ ord a d < 0) := by
  show ¬ _
  rcases Nat.lt_or_ge d a with h | h
  · rw [ord_gt (by omega)]; omega
  · obtain rfl : a = d := by omega
    rw [ord_eq]; omega
 obtain ⟨o, ho⟩ : ∃ o, o = ord a d := ⟨_, rfl⟩; have hon : ¬ o < 0 := by rw [ho]; exact HO.out
 have HOO := Lib.hid ho; clear ho
 have hdd : digs d = [d] := by
  have := digs_mk (n := 0) hd (by omega); rw [Nat.mul_zero, Nat.add_zero] at this; exact this
 have HP := Lib.hid hp; have HQ : Hid (RdN w q [d]) := by rw [← hdd]; exact hq
 have HDD := Lib.hid hdd; clear hp hq hab hdd; obtain ⟨a2, cap2, rfl⟩ := HQ.out.shape; go_enter Tryz.func103, Tryz.ntmps103
 go_wp2_with fail
 refine (bigcmp_any p _ a d w HP.out (by rw [HDD.out]; exact HQ.out) hn (by rw [HDD.out]; simp)).mono ?_; rintro e w1 ⟨rfl, hb⟩; rw [← HOO.out]; have HB := Lib.hid hb; clear hb; obtain ⟨b1, off1, rfl, hb1, hcell⟩ := (HQ.out.keep HB.out).at (k := 0) (by simp); rw [Nat.add_zero] at hcell; simp only [List.getElem_cons_zero] at hcell; go_wp2_with fail
 refine (bigShort_any p _ d w1 (HP.out.keep HB.out) (digs_small a) h0 hd (by omega)).mono ?_; rintro e w2 ⟨v, rfl, ho, hb⟩; have HB2 := Lib.hid hb; clear hb; rw [val_digs] at ho; have HO2 := Lib.hid ho; clear ho; rw [val_digs]; obtain ⟨r, hr⟩ : ∃ r, r = a % d := ⟨_, rfl⟩; rw [← hr]; have hrd : r < d := by rw [hr]; exact Nat.mod_lt _ h0
 have HR := Lib.hid hr; clear hr; have HB12 := Lib.hid (HB.out.trans (HB2.out.mono HB.out.size)); go_wp2_with fail
 refine (bigTrim_own w.heap.size _ [r] _ ?_ (small_one (by omega)) (by simp)).mono ?_
 · exact own_lit1 _ _ _ HB12.out.size
 rintro e w3 ⟨v', rfl, ho, rfl⟩; have HO3 := Lib.hid ho; clear ho; have hv1 : val [r] = r := by simp [val]
 rw [hv1] at HO3; go_wp2_with fail
 go_ret2
 exact ⟨v, v', rfl, (HO2.out.keep ((Below.refl _ _).alloc (Nat.le_refl _) _)).mono HB.out.size, by rw [← HR.out]; exact HO3.out, HB12.out.alloc HB12.out.size _⟩
end Go.Proofs.YtlcgckelamhnpaaGreat
