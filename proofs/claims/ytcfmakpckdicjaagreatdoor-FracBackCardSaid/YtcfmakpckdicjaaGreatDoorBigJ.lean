/- Walk: a multiple of digits taken away from a window of digits of the call's own. -/
import Derived.Test.YtcfmakpckdicjaaGreatDoorBigH
import Derived.Maps.AppendAt
namespace Go.Proofs.YtcfmakpckdicjaaGreatDoor
open Go.RowKit

theorem only_setCell {a w : World} {g : Nat} (h : a.grownBy w (some g)) {o : Nat} (u : Value) : a.grownBy (w.setCell ⟨g, o, none⟩ u) (some g) :=
  ⟨h.os, h.tape, h.output, by simpa [World.setCell] using h.size, fun i hi hne => (Below.heap_setCell w ⟨g, o, none⟩ u i (by
    rintro rfl; exact hne rfl)).trans (h.block i hi hne)⟩
theorem OwnN.far {w w' : World} {B g gv n cap : Nat} {l : Digs} (h : OwnN w B (.slice (some ⟨gv, 0, none⟩) n cap) l) (hg : w.grownBy w' (some g)) (hne : gv ≠ g) : OwnN w' B (.slice (some ⟨gv, 0, none⟩) n cap) l := by
  refine ⟨h.1, ?_⟩
  rcases h.2 with h2 | ⟨g', cap', cur, hv, hg', hh, r⟩
  · exact .inl h2
  · have : g' = gv := by simp only [Value.slice.injEq, Option.some.injEq, Addr.mk.injEq, and_true] at hv; exact hv.1.symm
    subst this
    exact .inr ⟨g', cap', cur, hv, hg', by rw [hg.block g' (lt_of_block hh) (by simp; exact hne)]; exact hh, r⟩

theorem mid_set (A W C : Digs) (k d : Nat) (hk : k < W.length) : (A ++ W ++ C).set (A.length + k) d = A ++ W.set k d ++ C := by
  rw [List.append_assoc, List.set_append_right _ _ (by omega), Nat.add_sub_cancel_left, List.set_append_left _ _ hk, List.append_assoc]
theorem mid_get (A W C : Digs) (k : Nat) (hk : k < W.length) (h : A.length + k < (A ++ W ++ C).length) : (A ++ W ++ C)[A.length + k] = W[k] := by
  rw [List.getElem_append_left (by simp; omega), List.getElem_append_right (by omega)]
  congr 1; omega
theorem drop_step {W W0 : Digs} {k : Nat} (h : W.drop k = W0.drop k) (h1 : k < W.length) (h2 : k < W0.length) : W[k] = W0[k] ∧ W.drop (k + 1) = W0.drop (k + 1) := by
  rw [List.drop_eq_getElem_cons h1, List.drop_eq_getElem_cons h2] at h
  exact List.cons.inj h

theorem sub_mul_step {B a v w g b x y m c : Nat} (h : a + g * v = w + B * b) (h2 : m + g * y + b = x + 1048576 * c) : (a + B * m) + g * (v + B * y) = (w + B * x) + B * 1048576 * c := by grind
theorem add_back_step {B a v w b x y m c : Nat} (h : a + B * b = w + v) (h2 : m + 1048576 * c = x + y + b) : (a + B * m) + B * 1048576 * c = (w + B * x) + (v + B * y) := by grind

theorem settle_end {M wu cy wt v w g : Nat} (h3 : wu + M * cy = wt + v) (h5 : wu < M) (hs : wt + v = (w + v - g * v) + M) (h1 : g * v ≤ w + v) (hw : w < g * v) (hg : 1 ≤ g) (hc : cy ≤ 1) :
    (g - 1) * v + wu = w ∧ wu < v := by
  obtain ⟨k, rfl⟩ : ∃ k, g = k + 1 := ⟨g - 1, by omega⟩
  rw [Nat.add_mul, Nat.one_mul] at *
  rw [Nat.add_sub_cancel]
  obtain rfl | rfl : cy = 0 ∨ cy = 1 := by omega
  · omega
  · omega

/-- What settling leaves. -/
structure Settled (w w' : World) (B g i n cap : Nat) (A W C V : Digs) (q : Nat) : Prop where
  left : ∃ W', OwnN w' B (.slice (some ⟨g, 0, none⟩) n cap) (A ++ W' ++ C) ∧ W'.length = W.length ∧ small W' ∧ q * val V + val W' = val W ∧ val W' < val V
  frame : w.grownBy w' (some g)
  idx : A.length = i

set_option maxHeartbeats 8000000 in
theorem bigSettle_any (B g gv i n cap c capv guess : Nat) (A W C V : Digs) (w : World) (hu : OwnN w B (.slice (some ⟨g, 0, none⟩) n cap) (A ++ W ++ C)) (hv : OwnN w B (.slice (some ⟨gv, 0, none⟩) V.length capv) V)
    (hne : gv ≠ g) (hA : A.length = i) (sW : small W) (sV : small V) (hl : V.length ≤ W.length) (hn : W.length ≤ 2199023255552) (hguess : guess < 1048576)
    (h1 : guess * val V ≤ val W + val V) (h2 : val W < guess * val V + val V) :
    Calls Tryz.prog 115 #[.slice (some ⟨g, i, none⟩) W.length c, .slice (some ⟨gv, 0, none⟩) V.length capv, .int .i64 guess] w fun e w' => ∃ q : Nat, e = .returned (.int .i64 q) ∧ Settled w w' B g i n cap A W C V q := by
  have HU := Lib.hid hu; clear hu
  have HV := Lib.hid hv; clear hv
  have HA := Lib.hid hA; clear hA
  have H1 := Lib.hid h1; clear h1
  have H2 := Lib.hid h2; clear h2
  go_enter Tryz.func115, Tryz.ntmps115
  go_wp2_with fail
  go_loopw [7, 14] (fun b j wr => ∃ (k bw : Nat) (Wt : Digs), k ≤ W.length ∧ bw < 1048576 ∧ Wt.length = W.length ∧ b = .int .i64 bw ∧ j = .int .i64 k ∧ Hid (small Wt) ∧ Hid (Wt.drop k = W.drop k) ∧ Hid (val (Wt.take k) + guess * val (V.take k) = val (W.take k) + 1048576 ^ k * bw) ∧ Hid (OwnN wr B (.slice (some ⟨g, 0, none⟩) n cap) (A ++ Wt ++ C)) ∧ Hid (w.grownBy wr (some g))) (fun _ j _ => W.length - (intOf j).toNat)
  case atStart => exact ⟨0, 0, W, Nat.zero_le _, by omega, rfl, rfl, rfl, sW, rfl, by show _ = _; simp [val], HU, World.grownBy.refl _ _⟩
  case round =>
    obtain ⟨k, bw, Wt, hk, hbw, hlo, rfl, rfl, HSm, HD, HE, HW, HG⟩ := hrel
    have HLo := Lib.hid hlo
    by_cases hlt : k < W.length
    · have hkt : k < Wt.length := by omega
      have hki : A.length + k < (A ++ Wt ++ C).length := by simp; omega
      obtain ⟨x, hx⟩ : ∃ x, x = Wt[k] := ⟨_, rfl⟩
      have hcell := HW.out.cell hki
      rw [mid_get A Wt C k hkt, ← hx, HA.out] at hcell
      have hxs : x < 1048576 := by rw [hx]; exact small_get HSm.out k hkt
      have hds := drop_step HD.out hkt hlt
      have HX : Hid (x = W[k]) := by show _ = _; rw [hx]; exact hds.1
      have HDP := Lib.hid hds.2
      have hfr := HW.out.live (i + k)
      have HNW : Hid (∀ d : Nat, OwnN (wr.setCell ⟨g, i + k, none⟩ (.int .i64 (d : Int))) B (.slice (some ⟨g, 0, none⟩) n cap) (A ++ Wt.set k d ++ C)) := by
        intro d
        have := HW.out.set (A.length + k) d
        rw [mid_set A Wt C k d hkt, HA.out] at this
        exact this
      clear hlo hx hds hki
      by_cases hkv : k < V.length
      · obtain ⟨y, hy⟩ : ∃ y, y = V[k] := ⟨_, rfl⟩
        have hcell2 := (HV.out.far HG.out hne).cell hkv
        rw [← hy] at hcell2
        have hys : y < 1048576 := by rw [hy]; exact small_get sV k hkv
        have HY := Lib.hid hy; clear hy
        obtain ⟨z, hz⟩ : ∃ z : Nat, z = guess * y := ⟨_, rfl⟩
        have hzb : z ≤ 1099509530625 := by rw [hz]; exact Nat.mul_le_mul (show guess ≤ 1048575 by omega) (show y ≤ 1048575 by omega)
        have hzi : ((guess : Int) * (y : Int)) = (z : Int) := by rw [hz]; simp
        have HZ := Lib.hid hz; clear hz
        obtain ⟨m, hm⟩ : ∃ m : Nat, (m : Int) = ((x : Int) - bw - z) % 1048576 := ⟨(((x : Int) - bw - z) % 1048576).toNat, by omega⟩
        obtain ⟨c, hc⟩ : ∃ c : Nat, (c : Int) = -(((x : Int) - bw - z) / 1048576) := ⟨(-(((x : Int) - bw - z) / 1048576)).toNat, by omega⟩
        have hmask : bits .and .i64 ((x : Int) - bw - z) 1048575 = (m : Int) := by rw [mask20, hm]
        have hneg : -(((x : Int) - bw - z) / 1048576) = (c : Int) := hc.symm
        have hsum : m + z + bw = x + 1048576 * c := by omega
        have hms : m < 1048576 := by omega
        have hcs : c < 1048576 := by omega
        have HE2 : Hid (val ((Wt.set k m).take (k + 1)) + guess * val (V.take (k + 1)) = val (W.take (k + 1)) + 1048576 ^ (k + 1) * c) := by
          show _ = _
          rw [val_take_set _ _ _ hkt, val_take_succ W k hlt, val_take_succ V k hkv, ← HX.out, ← HY.out, Nat.pow_succ]
          exact sub_mul_step HE.out (by rw [← HZ.out]; exact hsum)
        clear hm hc hsum
        go_wp2_with fail
        go_roundw
        case rel => exact ⟨k + 1, c, Wt.set k m, by omega, hcs, by rw [List.length_set]; exact HLo.out, by rfl, by go_num, small_set HSm.out hms, by show _ = _; rw [drop_set_succ]; exact HDP.out, HE2, HNW.out m, only_setCell HG.out _⟩
        case measure => simp [intOf]; omega
      · obtain ⟨m, hm⟩ : ∃ m : Nat, (m : Int) = ((x : Int) - bw) % 1048576 := ⟨(((x : Int) - bw) % 1048576).toNat, by omega⟩
        obtain ⟨c, hc⟩ : ∃ c : Nat, (c : Int) = -(((x : Int) - bw) / 1048576) := ⟨(-(((x : Int) - bw) / 1048576)).toNat, by omega⟩
        have hmask : bits .and .i64 ((x : Int) - bw) 1048575 = (m : Int) := by rw [mask20, hm]
        have hneg : -(((x : Int) - bw) / 1048576) = (c : Int) := hc.symm
        have hsum : m + guess * 0 + bw = x + 1048576 * c := by omega
        have hms : m < 1048576 := by omega
        have hcs : c < 1048576 := by omega
        have HE2 : Hid (val ((Wt.set k m).take (k + 1)) + guess * val (V.take (k + 1)) = val (W.take (k + 1)) + 1048576 ^ (k + 1) * c) := by
          show _ = _
          have e1 := val_take_all (l := V) (k := k) (by omega)
          have e2 := val_take_all (l := V) (k := k + 1) (by omega)
          have h3 := sub_mul_step HE.out hsum
          rw [val_take_set _ _ _ hkt, val_take_succ W k hlt, ← HX.out, e2, Nat.pow_succ]
          rw [e1, Nat.mul_zero, Nat.add_zero] at h3
          exact h3
        clear hm hc hsum
        go_wp2_with fail
        go_roundw
        case rel => exact ⟨k + 1, c, Wt.set k m, by omega, hcs, by rw [List.length_set]; exact HLo.out, by rfl, by go_num, small_set HSm.out hms, by show _ = _; rw [drop_set_succ]; exact HDP.out, HE2, HNW.out m, only_setCell HG.out _⟩
        case measure => simp [intOf]; omega
    · obtain rfl : k = W.length := by omega
      have hE := HE.out
      rw [List.take_of_length_le (by omega), val_take_all hl, List.take_of_length_le (Nat.le_refl _)] at hE
      have hWt : val Wt < 1048576 ^ W.length := by have := val_lt HSm.out; rwa [hlo] at this
      have hVl : val V < 1048576 ^ W.length := Nat.lt_of_lt_of_le (val_lt sV) (Nat.pow_le_pow_right (by omega) hl)
      have HWt := Lib.hid hWt
      have HVl := Lib.hid hVl
      have HEE := Lib.hid hE
      clear hWt hVl hE
      by_cases hb0 : bw = 0
      · have hfin : Hid (guess * val V + val Wt = val W ∧ val Wt < val V) := by
          have h3 := HEE.out
          have h4 := H2.out
          rw [hb0, Nat.mul_zero] at h3
          exact ⟨by omega, by omega⟩
        have e0 : ((bw : Int) == 0) = true := by rw [beq_iff_eq]; omega
        clear hb0 hlo hlt
        go_wp2_with fail
        go_ret
        exact ⟨guess, rfl, ⟨Wt, HW.out, HLo.out, HSm.out, hfin.out.1, hfin.out.2⟩, HG.out, HA.out⟩
      · have hb1 : bw = 1 ∧ 1 ≤ guess ∧ val W < guess * val V ∧ val Wt + val V = (val W + val V - guess * val V) + 1048576 ^ W.length := by
          have h3 := HEE.out
          have h4 := H1.out
          have h5 := HWt.out
          have h6 := HVl.out
          generalize 1048576 ^ W.length = M at *
          have hb2 : bw < 2 := by
            have : M * bw < M * 2 := by omega
            exact Nat.lt_of_mul_lt_mul_left this
          have hb3 : bw = 1 := by omega
          refine ⟨hb3, ?_, ?_, ?_⟩
          · rcases Nat.eq_zero_or_pos guess with h | h
            · rw [h, hb3] at h3; omega
            · exact h
          · rw [hb3] at h3; omega
          · rw [hb3] at h3; omega
        obtain ⟨hb1, hg1, hwl, hsum1⟩ := hb1
        have HWL := Lib.hid hwl; clear hwl
        have HS1 := Lib.hid hsum1
        have e0 : ((bw : Int) == 0) = false := by rw [beq_eq_false_iff_ne]; omega
        clear hb0 hlo hlt hsum1 hb1
        obtain ⟨wo, rfl⟩ : ∃ wo : World, wo = wr := ⟨_, rfl⟩
        go_wp2_with fail
        have hol : Wt.length = W.length := HLo.out
        go_loopw [10, 49] (fun b j wr => ∃ (k cy : Nat) (Wu : Digs), k ≤ W.length ∧ cy ≤ 1 ∧ Wu.length = W.length ∧ b = .int .i64 cy ∧ j = .int .i64 k ∧ Hid (small Wu) ∧ Hid (Wu.drop k = Wt.drop k) ∧ Hid (val (Wu.take k) + 1048576 ^ k * cy = val (Wt.take k) + val (V.take k)) ∧ Hid (OwnN wr B (.slice (some ⟨g, 0, none⟩) n cap) (A ++ Wu ++ C)) ∧ Hid (w.grownBy wr (some g))) (fun _ j _ => W.length - (intOf j).toNat)
        case atStart => exact ⟨0, 0, Wt, Nat.zero_le _, by omega, hol, rfl, rfl, HSm, rfl, by show _ = _; simp [val], HW, HG⟩
        case round =>
          obtain ⟨j, cy, Wu, hj, hcy, hlu, rfl, rfl, HSu, HD2, HE3, HW2, HG2⟩ := hrel
          have HLu := Lib.hid hlu
          by_cases hlt : j < W.length
          · have hkt : j < Wu.length := by omega
            have hltt : j < Wt.length := by omega
            have hki : A.length + j < (A ++ Wu ++ C).length := by simp; omega
            obtain ⟨x, hx⟩ : ∃ x, x = Wu[j] := ⟨_, rfl⟩
            have hcell := HW2.out.cell hki
            rw [mid_get A Wu C j hkt, ← hx, HA.out] at hcell
            have hxs : x < 1048576 := by rw [hx]; exact small_get HSu.out j hkt
            have hds := drop_step HD2.out hkt hltt
            have HX : Hid (x = Wt[j]) := by show _ = _; rw [hx]; exact hds.1
            have HDP := Lib.hid hds.2
            have hfr := HW2.out.live (i + j)
            have HNW : Hid (∀ d : Nat, OwnN (wr.setCell ⟨g, i + j, none⟩ (.int .i64 (d : Int))) B (.slice (some ⟨g, 0, none⟩) n cap) (A ++ Wu.set j d ++ C)) := by
              intro d
              have := HW2.out.set (A.length + j) d
              rw [mid_set A Wu C j d hkt, HA.out] at this
              exact this
            clear hlu hx hds hki hol
            by_cases hkv : j < V.length
            · obtain ⟨y, hy⟩ : ∃ y, y = V[j] := ⟨_, rfl⟩
              have hcell2 := (HV.out.far HG2.out hne).cell hkv
              rw [← hy] at hcell2
              have hys : y < 1048576 := by rw [hy]; exact small_get sV j hkv
              have HY := Lib.hid hy; clear hy
              obtain ⟨m, hm⟩ : ∃ m : Nat, m = (cy + x + y) % 1048576 := ⟨_, rfl⟩
              obtain ⟨d, hd⟩ : ∃ d : Nat, d = (cy + x + y) / 1048576 := ⟨_, rfl⟩
              have hmask : bits .and .i64 ((cy : Int) + x + y) 1048575 = (m : Int) := by rw [mask20]; omega
              have hdiv : ((cy : Int) + x + y) / 1048576 = (d : Int) := by omega
              have hsum : m + 1048576 * d = x + y + cy := by omega
              have hms : m < 1048576 := by omega
              have hds : d ≤ 1 := by omega
              have HE4 : Hid (val ((Wu.set j m).take (j + 1)) + 1048576 ^ (j + 1) * d = val (Wt.take (j + 1)) + val (V.take (j + 1))) := by
                show _ = _
                rw [val_take_set _ _ _ hkt, val_take_succ Wt j hltt, val_take_succ V j hkv, ← HX.out, ← HY.out, Nat.pow_succ]
                exact add_back_step HE3.out hsum
              clear hm hd hsum
              go_wp2_with fail
              go_roundw
              case rel => exact ⟨j + 1, d, Wu.set j m, by omega, hds, by rw [List.length_set]; exact HLu.out, by rfl, by go_num, small_set HSu.out hms, by show _ = _; rw [drop_set_succ]; exact HDP.out, HE4, HNW.out m, only_setCell HG2.out _⟩
              case measure => simp [intOf]; omega
            · obtain ⟨m, hm⟩ : ∃ m : Nat, m = (cy + x) % 1048576 := ⟨_, rfl⟩
              obtain ⟨d, hd⟩ : ∃ d : Nat, d = (cy + x) / 1048576 := ⟨_, rfl⟩
              have hmask : bits .and .i64 ((cy : Int) + x) 1048575 = (m : Int) := by rw [mask20]; omega
              have hdiv : ((cy : Int) + x) / 1048576 = (d : Int) := by omega
              have hsum : m + 1048576 * d = x + 0 + cy := by omega
              have hms : m < 1048576 := by omega
              have hds : d ≤ 1 := by omega
              have HE4 : Hid (val ((Wu.set j m).take (j + 1)) + 1048576 ^ (j + 1) * d = val (Wt.take (j + 1)) + val (V.take (j + 1))) := by
                show _ = _
                have e1 := val_take_all (l := V) (k := j) (by omega)
                have e2 := val_take_all (l := V) (k := j + 1) (by omega)
                have h3 := add_back_step HE3.out hsum
                rw [val_take_set _ _ _ hkt, val_take_succ Wt j hltt, ← HX.out, e2, Nat.pow_succ]
                rw [e1, Nat.mul_zero, Nat.add_zero] at h3
                exact h3
              clear hm hd hsum
              go_wp2_with fail
              go_roundw
              case rel => exact ⟨j + 1, d, Wu.set j m, by omega, hds, by rw [List.length_set]; exact HLu.out, by rfl, by go_num, small_set HSu.out hms, by show _ = _; rw [drop_set_succ]; exact HDP.out, HE4, HNW.out m, only_setCell HG2.out _⟩
              case measure => simp [intOf]; omega

          · obtain rfl : j = W.length := by omega
            have hfin : Hid ((guess - 1) * val V + val Wu = val W ∧ val Wu < val V) := by
              have h3 := HE3.out
              rw [List.take_of_length_le (by omega), val_take_all hl, List.take_of_length_le (l := Wt) (by omega)] at h3
              have h5 := val_lt HSu.out
              rw [HLu.out] at h5
              exact settle_end h3 h5 HS1.out H1.out HWL.out hg1 hcy
            have HLu2 := Lib.hid hlu
            clear hlu hol hlt
            go_wp2_with fail
            go_ret
            exact ⟨guess - 1, ret_int (show ((guess : Int) - 1) = ((guess - 1 : Nat) : Int) by omega), ⟨Wu, HW2.out, HLu2.out, HSu.out, hfin.out.1, hfin.out.2⟩, HG2.out, HA.out⟩
end Go.Proofs.YtcfmakpckdicjaaGreatDoor
