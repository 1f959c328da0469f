/- Walks of the verifier's reference: big integers. -/
import Derived.Test.YtpjpkcelajbfnaaRefE
namespace Go.Proofs.Ytpjpkcelajbfnaa
open Go.RowKit
variable {G : Nat}

theorem refTrim_is {a : Option Addr} {c : Nat} {l : Digs} {w : World} (h : RdN w (.slice a l.length c) l) (hs : small l) (hn : l.length ≤ 8796093022208) (hc : l.length ≤ c) {n : Nat} (hv : val l = n) :
    Calls Try.prog 82 #[.slice a l.length c] w fun e w' => ∃ b d, e = .returned (.slice b (lnN n) d) ∧ OwnN w' w.heap.size (.slice b (lnN n) d) (digs n) ∧ Below w.heap.size w w' :=
  (refTrim_ok a c l w h hs hn hc).mono fun e w' ⟨v, he, ho, hb⟩ => by
    rw [hv] at ho
    obtain ⟨b, d, rfl⟩ := ho.slice
    exact ⟨b, d, he, ho, hb⟩
theorem OwnN.le {w : World} {B : Nat} {a : Option Addr} {n c : Nat} (h : OwnN w B (.slice a (lnN n) c) (digs n)) : lnN n ≤ c := by
  rcases h.shape with ⟨h1, h2⟩ | ⟨g, cap, h1, -, -, h3⟩
  · rw [lnN, h2]; exact Nat.zero_le _
  · simp only [Value.slice.injEq] at h1
    rw [h1.2.2]; exact h3
theorem bd_of_own {w : World} {B : Nat} {a : Option Addr} {n c : Nat} {s z : Int} (h : OwnN w B (.slice a (lnN n) c) (digs n)) (hz : s * n = z) (hn : n ≠ 0) (hs : s = 1 ∨ s = -1) : sg z = s ∧ ln z = lnN n ∧ BD G w a c z := by
  obtain ⟨a', c', he, hb⟩ := bigIs_mk (G := G) (s := s) h.rd h.ty rfl h.le hn hs
  rw [hz] at he hb
  simp only [Value.agg.injEq, Array.mk.injEq, List.cons.injEq, Value.int.injEq, Value.slice.injEq, and_true, true_and] at he
  obtain ⟨h1, h2, h3, h4⟩ := he
  subst h2 h4
  exact ⟨h1.symm, h3.symm, hb⟩

set_option maxHeartbeats 4000000 in
theorem made_zero {s z : Int} {l : Digs} {a : Option Addr} {c n : Nat} {w : World} (h : RdN w (.slice a l.length c) l) (hs : small l) (hn : l.length ≤ 8796093022208) (hc : l.length ≤ c) (hv : val l = n) (h0 : n = 0) (hz : z = 0) :
    Calls Try.prog 61 #[.int .i64 s, .slice a l.length c] w fun e w' => ∃ a c, e = .returned (.agg #[.int .i64 (sg z), .slice a (ln z) c]) ∧ BD G w' a c z ∧ Below w.heap.size w w' := by
  have H1 := Lib.hid h
  have HS := Lib.hid hs
  have HN := Lib.hid hn
  have HV := Lib.hid hv
  have HZ := Lib.hid hz
  have e1 : ((lnN n : Int) == 0) = true := by rw [h0]; rfl
  clear h hs hn hv h0 hz

  go_enter Try.func61, Try.ntmps61
  go_wp2_with fail
  refine (refTrim_is (H1.out.keep (by go_grown)) HS.out HN.out hc HV.out).mono ?_
  rintro e w1 ⟨b2, d2, rfl, ho2, hb⟩
  have hbx := bx1 w 32 #[.int .i64 0, .slice none 0 0]
  have k0 := hbx; clear hbx
  have K0 := Lib.hid (k0.keep hb)
  clear k0
  have hb' : Below w.heap.size w w1 := below_call (by go_grown) hb
  have HB := Lib.hid hb'
  replace H1 := Lib.hid (H1.out.keep hb')
  clear hb hb'
  have Ho2 := Lib.hid ho2; clear ho2
  have p0_0 : w1.cell? ⟨w.heap.size, 0, none⟩ = some (.int .i64 0) := K0.out.at.1 0
  have q0_0 : w1.frozen? ⟨w.heap.size, 0, none⟩ = false := K0.out.at.2 0
  have p0_1 : w1.cell? ⟨w.heap.size, 1, none⟩ = some (.slice none 0 0) := K0.out.at.1 1
  have q0_1 : w1.frozen? ⟨w.heap.size, 1, none⟩ = false := K0.out.at.2 1
  have z0 : w.heap.size < w1.heap.size := K0.out.lt
  go_wp2_with fail
  refine bodyPost_ret (results_box1 rfl _ _ w.heap.size 32 _ _ _ rfl (K0.out.set2 _ _) Try.underlying32 rfl (by kernel_rfl)) rfl ⟨none, 0, by rw [HZ.out]; rfl, ?_, ?_⟩
  · rw [HZ.out]; exact bd_zero _ _ _
  · exact (HB.out.setCell (by simp) _).setCell (by simp) _

set_option maxHeartbeats 4000000 in
theorem made_some {s z : Int} {l : Digs} {a : Option Addr} {c n : Nat} {w : World} (h : RdN w (.slice a l.length c) l) (hs : small l) (hn : l.length ≤ 8796093022208) (hc : l.length ≤ c) (hv : val l = n) (h0 : n ≠ 0) (hz : s * n = z) (h1 : s = 1 ∨ s = -1) :
    Calls Try.prog 61 #[.int .i64 s, .slice a l.length c] w fun e w' => ∃ a c, e = .returned (.agg #[.int .i64 (sg z), .slice a (ln z) c]) ∧ BD G w' a c z ∧ Below w.heap.size w w' := by
  have H1 := Lib.hid h
  have HS := Lib.hid hs
  have HN := Lib.hid hn
  have HV := Lib.hid hv
  have HZ := Lib.hid hz
  have HN0 := Lib.hid h0
  have HS1 := Lib.hid h1
  have hp := lnN_pos h0
  have e1 : ((lnN n : Int) == 0) = false := by rw [beq_eq_false_iff_ne]; omega
  clear h hs hn hv h0 hz hp h1

  go_enter Try.func61, Try.ntmps61
  go_wp2_with fail
  refine (refTrim_is (H1.out.keep (by go_grown)) HS.out HN.out hc HV.out).mono ?_
  rintro e w1 ⟨b2, d2, rfl, ho2, hb⟩
  have hbx := bx1 w 32 #[.int .i64 0, .slice none 0 0]
  have k0 := hbx; clear hbx
  have K0 := Lib.hid (k0.keep hb)
  clear k0
  have hb' : Below w.heap.size w w1 := below_call (by go_grown) hb
  have HB := Lib.hid hb'
  replace H1 := Lib.hid (H1.out.keep hb')
  clear hb hb'
  have Ho2 := Lib.hid ho2; clear ho2
  have p0_0 : w1.cell? ⟨w.heap.size, 0, none⟩ = some (.int .i64 0) := K0.out.at.1 0
  have q0_0 : w1.frozen? ⟨w.heap.size, 0, none⟩ = false := K0.out.at.2 0
  have p0_1 : w1.cell? ⟨w.heap.size, 1, none⟩ = some (.slice none 0 0) := K0.out.at.1 1
  have q0_1 : w1.frozen? ⟨w.heap.size, 1, none⟩ = false := K0.out.at.2 1
  have z0 : w.heap.size < w1.heap.size := K0.out.lt
  go_wp2_with fail
  have HF := bd_of_own (G := G) Ho2.out HZ.out HN0.out HS1.out
  have HBD := Lib.hid HF.2.2
  rw [← HF.1, ← HF.2.1]
  clear HF
  clear p0_0 q0_0 p0_1 q0_1 z0
  refine bodyPost_ret (results_box1 rfl _ _ w.heap.size 32 _ _ _ rfl (K0.out.set2 _ _) Try.underlying32 rfl (by kernel_rfl)) rfl ?_
  refine ⟨b2, d2, rfl, ?_, ?_⟩
  · exact (HBD.out.far0 K0.out zb2 (only_setCell (only_setCell (World.grownBy.refl _ _) _) _))
  · exact (Below.setCell (Below.setCell HB.out (by simp; try omega) _) (by simp; try omega) _)

theorem made_ok {s z : Int} {l : Digs} {a : Option Addr} {c n : Nat} {w : World} (h : RdN w (.slice a l.length c) l) (hs : small l) (hn : l.length ≤ 8796093022208) (hc : l.length ≤ c) (hv : val l = n) (hz : s * n = z) (h1 : n ≠ 0 → s = 1 ∨ s = -1) :
    Calls Try.prog 61 #[.int .i64 s, .slice a l.length c] w fun e w' => ∃ a c, e = .returned (.agg #[.int .i64 (sg z), .slice a (ln z) c]) ∧ BD G w' a c z ∧ Below w.heap.size w w' := by
  by_cases h0 : n = 0
  · exact made_zero (G := G) h hs hn hc hv h0 (by rw [← hz, h0]; simp)
  · exact made_some (G := G) h hs hn hc hv h0 hz (h1 h0)
theorem made_own {s z : Int} {a : Option Addr} {c n B : Nat} {w : World} (h : OwnN w B (.slice a (lnN n) c) (digs n)) (hn : lnN n ≤ 8796093022208) (hz : s * n = z) (h1 : n ≠ 0 → s = 1 ∨ s = -1) :
    Calls Try.prog 61 #[.int .i64 s, .slice a (lnN n) c] w fun e w' => ∃ a c, e = .returned (.agg #[.int .i64 (sg z), .slice a (ln z) c]) ∧ BD G w' a c z ∧ Below w.heap.size w w' :=
  made_ok (G := G) (l := digs n) h.rd (digs_small n) hn h.le (val_digs n) hz h1
theorem made_bd {s x z : Int} {a : Option Addr} {c : Nat} {w : World} (h : BD G w a c x) (hn : Sz x 8796093022208) (hz : s * x.natAbs = z) (h1 : x.natAbs ≠ 0 → s = 1 ∨ s = -1) :
    Calls Try.prog 61 #[.int .i64 s, .slice a (ln x) c] w fun e w' => ∃ a c, e = .returned (.agg #[.int .i64 (sg z), .slice a (ln z) c]) ∧ BD G w' a c z ∧ Below w.heap.size w w' :=
  made_ok (G := G) (l := digs x.natAbs) h.rd (digs_small _) hn h.le (val_digs _) hz h1

set_option maxHeartbeats 4000000 in
theorem rright_ok {x : Int} {a1 : Option Addr} {c1 : Nat} {w : World} (h1 : BD G w a1 c1 x) (hx : Sz x 1099511627776) :
    Calls Try.prog 59 #[.agg #[.int .i64 (sg x), .slice a1 (ln x) c1]] w fun e w' => e = .returned (.bool true) ∧ Below w.heap.size w w' := by
  have H1 := Lib.hid h1
  have hlb : ln x ≤ 1099511627776 := hx
  clear h1 hx
  go_enter Try.func59, Try.ntmps59
  go_wp2_with fail
  obtain ⟨w0, hw0⟩ : ∃ w0, w0 = w.alloc (.cells #[.int .i64 (sg x), .slice a1 (ln x) c1] 32) := ⟨_, rfl⟩
  have K0 : Hid (Bx w0 w.heap.size 32 #[.int .i64 (sg x), .slice a1 (ln x) c1]) := by rw [hw0]; exact bx1 w _ _
  have HB : Hid (Below w.heap.size w w0) := by rw [hw0]; exact below_alloc _ _
  rw [← hw0]
  clear hw0
  have p0 : w0.cell? ⟨w.heap.size, 0, none⟩ = some (.int .i64 (sg x)) := K0.out.at.1 0
  have p1 : w0.cell? ⟨w.heap.size, 1, none⟩ = some (.slice a1 (ln x) c1) := K0.out.at.1 1
  go_loopw [3] (fun i wr => ∃ k nd : Nat, k ≤ ln x ∧ i = .int .i64 k ∧ wr = w0.drewN nd) (fun i _ => ln x - (intOf i).toNat)
  case atStart => exact ⟨0, 0, Nat.zero_le _, rfl, rfl⟩
  case round =>
    obtain ⟨k, nd, hk, rfl, rfl⟩ := hrel
    by_cases hlt : k < ln x
    · obtain ⟨b, off, rfl, hb, hcell⟩ := (H1.out.rd.keep HB.out).at (k := k) hlt
      obtain ⟨d, hd⟩ : ∃ d, d = (digs x.natAbs)[k]'hlt := ⟨_, rfl⟩
      rw [← hd] at hcell
      have hds : d < 1048576 := by rw [hd]; exact small_get (digs_small _) k hlt
      have e1 : decide ((d : Int) < 0) = false := by rw [decide_eq_false_iff_not]; omega
      have e2 : decide ((1048576 : Int) ≤ (d : Int)) = false := by rw [decide_eq_false_iff_not]; omega
      have e3 : decide (1048576 ≤ d) = false := by rw [decide_eq_false_iff_not]; omega
      have hki : (k : Int) < (ln x : Int) := by omega
      clear hd
      go_wp2_with fail
      go_roundw
      case rel => exact ⟨k + 1, nd, by omega, by go_num, rfl⟩
      case measure => simp [intOf]; omega
    · have t1 : decide (sg x < -1) = false := by rw [decide_eq_false_iff_not]; rcases sg_cases x with h | h | h <;> omega
      have t2 : decide (1 < sg x) = false := by rw [decide_eq_false_iff_not]; rcases sg_cases x with h | h | h <;> omega
      have hBw : Hid (Below w.heap.size w (w0.drewN nd)) := below_drewN HB.out nd
      by_cases h0 : x = 0
      · have s1 : ((ln x : Int) == 0) = true := by rw [h0]; rfl
        have s2 : (sg x == 0) = true := by rw [h0]; rfl
        have H0 := Lib.hid h0
        clear h0
        go_wp2_with fail
        go_ret
        exact ⟨rfl, hBw.out⟩
      · have s2 : (sg x == 0) = false := by rw [beq_eq_false_iff_ne]; rcases sg_ne h0 with h | h <;> omega
        have hlp : 0 < ln x := lnN_pos (n := x.natAbs) (by omega)
        have s1 : ((ln x : Int) == 0) = false := by rw [beq_eq_false_iff_ne]; omega
        obtain ⟨m, hm⟩ : ∃ m, m = ln x - 1 := ⟨_, rfl⟩
        have hml : m < (digs x.natAbs).length := by show m < ln x; omega
        have hmi : (ln x : Int) - 1 = (m : Int) := by omega
        have hmi2 : (m : Int) < (ln x : Int) := by omega
        obtain ⟨b, off, rfl, hb, hcell⟩ := (H1.out.rd.keep HB.out).at (k := m) hml
        obtain ⟨d, hd⟩ : ∃ d, d = (digs x.natAbs)[m] := ⟨_, rfl⟩
        rw [← hd] at hcell
        have hd0 : d ≠ 0 := by
          rw [hd]
          intro hh
          apply digs_last x.natAbs
          rw [List.getLast?_eq_getElem?, show (digs x.natAbs).length - 1 = m from hm.symm, List.getElem?_eq_getElem hml, hh]
        have s3 : ((d : Int) != 0) = true := by rw [bne_iff_ne]; omega
        have H0 := Lib.hid h0
        clear h0 hm hd
        go_wp2_with fail
        go_ret
        exact ⟨rfl, hBw.out⟩

def eqZ (x y : Int) : Bool := decide (x = y)
theorem eqZ_sign {x y : Int} (h : sg x ≠ sg y) : eqZ x y = false := by rw [eqZ, decide_eq_false_iff_not]; rintro rfl; exact h rfl
theorem eqZ_len {x y : Int} (h : ln x ≠ ln y) : eqZ x y = false := by rw [eqZ, decide_eq_false_iff_not]; rintro rfl; exact h rfl
theorem eqZ_digit {x y : Int} {k : Nat} (h : (digs x.natAbs)[k]? ≠ (digs y.natAbs)[k]?) : eqZ x y = false := by rw [eqZ, decide_eq_false_iff_not]; rintro rfl; exact h rfl
theorem eqZ_true {x y : Int} (h : sg x = sg y) (h2 : digs x.natAbs = digs y.natAbs) : eqZ x y = true := by
  rw [eqZ, decide_eq_true_eq]
  have h3 := digs_inj h2
  have h4 := abs_sg x
  have h5 := abs_sg y
  rw [h4, h5, h, h3]

set_option maxHeartbeats 8000000 in
theorem rsame_ok {x y : Int} {a1 a2 : Option Addr} {c1 c2 : Nat} {w : World} (h1 : BD G w a1 c1 x) (h2 : BD G w a2 c2 y) (hx : Sz x 1099511627776) (hy : Sz y 1099511627776) :
    Calls Try.prog 63 #[.agg #[.int .i64 (sg x), .slice a1 (ln x) c1], .agg #[.int .i64 (sg y), .slice a2 (ln y) c2]] w fun e w' => e = .returned (.bool (eqZ x y)) ∧ Below w.heap.size w w' := by
  have H1 := Lib.hid h1
  have H2 := Lib.hid h2
  have hlb : ln x ≤ 1099511627776 := hx
  have hlb2 : ln y ≤ 1099511627776 := hy
  clear h1 h2 hx hy
  go_enter Try.func63, Try.ntmps63
  by_cases hs : sg x = sg y
  · by_cases hl : ln x = ln y
    · have e1 : (sg x != sg y) = false := by rw [hs]; simp
      have e2 : ((ln x : Int) != (ln y : Int)) = false := by rw [hl]; simp
      have HS := Lib.hid hs
      have HL := Lib.hid hl
      clear hs hl
      go_wp2_with fail
      obtain ⟨w0, hw0⟩ : ∃ w0, w0 = (w.alloc (.cells #[.int .i64 (sg x), .slice a1 (ln x) c1] 32)).alloc (.cells #[.int .i64 (sg y), .slice a2 (ln y) c2] 32) := ⟨_, rfl⟩
      have hbx := bx2 w 32 32 #[.int .i64 (sg x), .slice a1 (ln x) c1] #[.int .i64 (sg y), .slice a2 (ln y) c2]
      have HB : Hid (Below w.heap.size w w0) := by show Below _ _ _; rw [hw0]; go_grown
      rw [← hw0] at hbx ⊢
      have K0 := Lib.hid hbx.1
      have K1 := Lib.hid hbx.2
      clear hw0 hbx
      have p1 : w0.cell? ⟨w.heap.size, 1, none⟩ = some (.slice a1 (ln x) c1) := K0.out.at.1 1
      have p2 : w0.cell? ⟨w.heap.size + 1, 1, none⟩ = some (.slice a2 (ln y) c2) := K1.out.at.1 1
      go_loopw [5] (fun i wr => ∃ k nd : Nat, k ≤ ln x ∧ i = .int .i64 k ∧ wr = w0.drewN nd ∧ Hid ((digs x.natAbs).take k = (digs y.natAbs).take k)) (fun i _ => ln x - (intOf i).toNat)
      case atStart => exact ⟨0, 0, Nat.zero_le _, rfl, rfl, rfl⟩
      case round =>
        obtain ⟨k, nd, hk, rfl, rfl, HT⟩ := hrel
        by_cases hlt : k < ln x
        · have hlt2 : k < ln y := by rw [← HL.out]; exact hlt
          obtain ⟨b, off, rfl, hb, hcell⟩ := (H1.out.rd.keep HB.out).at (k := k) hlt
          obtain ⟨b2, off2, rfl, hb2, hcell2⟩ := (H2.out.rd.keep HB.out).at (k := k) hlt2
          obtain ⟨d, hd⟩ : ∃ d, d = (digs x.natAbs)[k]'hlt := ⟨_, rfl⟩
          obtain ⟨d2, hd2⟩ : ∃ d, d = (digs y.natAbs)[k]'hlt2 := ⟨_, rfl⟩
          rw [← hd] at hcell
          rw [← hd2] at hcell2
          have hki : (k : Int) < (ln x : Int) := by omega
          have hki2 : (k : Int) < (ln y : Int) := by omega
          by_cases hdd : d = d2
          · have e3 : ((d : Int) != (d2 : Int)) = false := by rw [hdd]; simp
            have HT2 : Hid ((digs x.natAbs).take (k + 1) = (digs y.natAbs).take (k + 1)) := by
              show _ = _
              rw [List.take_succ_eq_append_getElem hlt, List.take_succ_eq_append_getElem hlt2, HT.out, ← hd, ← hd2, hdd]
            clear hd hd2 hdd
            go_wp2_with fail
            go_quiet (fail)
            go_wp2_with fail
            go_roundw
            case rel => exact ⟨k + 1, _, by omega, by go_num, rfl, HT2⟩
            case measure => simp [intOf]; omega
          · have e3 : ((d : Int) != (d2 : Int)) = true := by rw [bne_iff_ne]; omega
            have HO := Lib.hid (eqZ_digit (x := x) (y := y) (k := k) (by rw [List.getElem?_eq_getElem hlt, List.getElem?_eq_getElem hlt2, ← hd, ← hd2]; intro h; exact hdd (Option.some.inj h)))
            clear hd hd2 hdd
            go_wp2_with fail
            go_quiet (fail)
            go_wp2_with fail
            go_ret
            exact ⟨ret_bool HO.out.symm, by first | exact below_drewN HB.out _ | exact below_drewN (below_drewN HB.out _) _⟩
        · have HO := Lib.hid (eqZ_true HS.out (by
            have := HT.out
            rwa [List.take_of_length_le (by show ln x ≤ k; omega), List.take_of_length_le (by show ln y ≤ k; rw [← HL.out]; omega)] at this))
          go_wp2_with fail
          go_ret
          exact ⟨ret_bool HO.out.symm, below_drewN HB.out _⟩
    · have HO := Lib.hid (eqZ_len hl)
      have e1 : (sg x != sg y) = false := by rw [hs]; simp
      have e2 : ((ln x : Int) != (ln y : Int)) = true := by rw [bne_iff_ne]; omega
      clear hs hl
      go_wp2_with fail
      go_ret
      exact ⟨ret_bool HO.out.symm, by go_grown⟩
  · have HO := Lib.hid (eqZ_sign hs)
    have e1 : (sg x != sg y) = true := by rw [bne_iff_ne]; exact hs
    clear hs
    go_wp2_with fail
    go_ret
    exact ⟨ret_bool HO.out.symm, by go_grown⟩

end Go.Proofs.Ytpjpkcelajbfnaa
