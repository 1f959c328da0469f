/- Spans that are not right: refusals. -/
import Derived.Test.YtlpcblhkddmlnaaBase
import Derived.Test.YtlpcblhkddmlnaaBigSpec
import Derived.Test.YtlpcblhkddmlnaaBigA
import Derived.Test.YtlpcblhkddmlnaaBigB
import Derived.Test.YtlpcblhkddmlnaaBigC
import Derived.Test.YtlpcblhkddmlnaaBigD
import Derived.Test.YtlpcblhkddmlnaaBigQ
import Derived.Test.YtlpcblhkddmlnaaFd
import Derived.Test.YtlpcblhkddmlnaaHeld
import Derived.Test.YtlpcblhkddmlnaaAw
import Derived.Test.YtlpcblhkddmlnaaFracC
import Derived.Test.YtlpcblhkddmlnaaFz
import Derived.Test.YtlpcblhkddmlnaaFracT
import Derived.Test.YtlpcblhkddmlnaaFracR
import Derived.Test.YtlpcblhkddmlnaaRefG
import Derived.Test.YtlpcblhkddmlnaaRefK
import Derived.Test.YtlpcblhkddmlnaaRw
import Derived.Test.YtlpcblhkddmlnaaReA
import Derived.Test.YtlpcblhkddmlnaaRefN
import Derived.Test.YtlpcblhkddmlnaaRefO
import Derived.Test.YtlpcblhkddmlnaaRefR4
import Derived.Test.YtlpcblhkddmlnaaProg
import Derived.Test.YtlpcblhkddmlnaaShelf
import Derived.WalkKit
import Derived.WalkSpells
import Derived.WalkLawsBesides
import Derived.Handy
import Derived.Lib.Hide
import Derived.Lib.Strings
import Derived.Lib.Builder
import Derived.BigQuiet
import Derived.OwnWalk
import Derived.Laws.BitsLemmas
import Derived.WalkSmall
import Derived.Deep.QuietTactic
import Derived.StillTailTactics
import Derived.Maps.AppendAt
import Derived.IntWalk
import Derived.Deep.RegionHeld3
import Derived.Deep.DeepFit
import Derived.Deep.LoopGhost
import Derived.Deep.DeepCutAuto
import Derived.Lib.ItoaNum
import Derived.Lib.Repeat
import Derived.Lib.AppendIntMem
import Derived.Sort.OwnSorted
import Derived.Shelf.Strings.SlTrimAscii
import Derived.Lib.ConvBytes
import Derived.Lib.CutLaws
namespace Go.Proofs.Ytlpcblhkddmlnaa
open Go.RowKit Go.Lib
variable {G : Nat}

/-- The reference's Right is the program's, whatever the big integer. -/
theorem rright_len {s : Int} {a : Option Addr} {n c : Nat} {l : List Int} {b : Bool} {w : World} (h : RdZ w (.slice a n c) l) (hn : n ≤ 1099511627776) (hb : rightB s l = b) :
  Calls Try.prog 77 #[.agg #[.int .i64 s, .slice a n c]] w fun e w' => e = .returned (.bool b) ∧ Below w.heap.size w w' := by
 obtain ⟨a', c', hv, hc⟩ := h
 cases hv
 exact rright_raw ⟨_, _, rfl, hc⟩ hn hb
set_option maxRecDepth 100000 in
set_option maxHeartbeats 4000000 in
theorem rfRight_n1 {s t : Int} {l m : List Int} {a b : Option Addr} {c d : Nat} {w : World} (h1 : RdZ w (.slice a l.length c) l) (k1 : RdZ w (.slice b m.length d) m) (hl : l.length ≤ 1099511627776) (hm : m.length ≤ 1099511627776) (hrl : rightB s l = false) :
  Calls Try.prog 55 #[.agg #[.int .i64 s, .slice a l.length c, .int .i64 t, .slice b m.length d]] w fun e w' => e = .returned (.bool false) ∧ Below w.heap.size w w' := by
 have HL := Lib.hid hl; have HM := Lib.hid hm; have HRl := Lib.hid hrl; clear hl hm hrl
 have H1 : Hid (RdZ w (.slice a l.length c) l) := h1
 have K1 : Hid (RdZ w (.slice b m.length d) m) := k1
 clear h1 k1
 have M : Hid (Below w.heap.size w w) := Below.refl _ _
 go_enter Try.func55, Try.ntmps55
 go_upto_region 1 with fail
 refine nmW (w.alloc (.cells #[.int .i64 s, .slice a l.length c, .int .i64 t, .slice b m.length d] 27)) fun w1 hv => ?_
 rw [← hv]
 replace M := alM hv M
 clear hv
 refine cj8 (M.out.1).c4 fun p0_0 q0_0 p0_1 q0_1 p0_2 q0_2 p0_3 q0_3 => ?_
 go_wp2_with fail
 clear p0_0 q0_0 p0_1 q0_1 p0_2 q0_2 p0_3 q0_3
 refine (rright_len (s := s) (l := l) (b := false) (H1.out.keep (M.out.2)) HL.out HRl.out).mono ?_
 rintro e w2 ⟨rfl, hb⟩
 replace M := gnM hb M
 clear hb
 go_wp2_with fail
 go_ret
 exact ⟨rfl, (M.out.2)⟩
set_option maxRecDepth 100000 in
set_option maxHeartbeats 4000000 in
theorem rfRight_n2 {s t : Int} {l m : List Int} {a b : Option Addr} {c d : Nat} {w : World} (h1 : RdZ w (.slice a l.length c) l) (k1 : RdZ w (.slice b m.length d) m) (hl : l.length ≤ 1099511627776) (hm : m.length ≤ 1099511627776) (hrl : rightB s l = true) (hrm : rightB t m = false) :
  Calls Try.prog 55 #[.agg #[.int .i64 s, .slice a l.length c, .int .i64 t, .slice b m.length d]] w fun e w' => e = .returned (.bool false) ∧ Below w.heap.size w w' := by
 have HL := Lib.hid hl; have HM := Lib.hid hm; have HRl := Lib.hid hrl; have HRm := Lib.hid hrm; clear hl hm hrl hrm
 have H1 : Hid (RdZ w (.slice a l.length c) l) := h1
 have K1 : Hid (RdZ w (.slice b m.length d) m) := k1
 clear h1 k1
 have M : Hid (Below w.heap.size w w) := Below.refl _ _
 go_enter Try.func55, Try.ntmps55
 go_upto_region 1 with fail
 refine nmW (w.alloc (.cells #[.int .i64 s, .slice a l.length c, .int .i64 t, .slice b m.length d] 27)) fun w1 hv => ?_
 rw [← hv]
 replace M := alM hv M
 clear hv
 refine cj8 (M.out.1).c4 fun p0_0 q0_0 p0_1 q0_1 p0_2 q0_2 p0_3 q0_3 => ?_
 go_wp2_with fail
 clear p0_0 q0_0 p0_1 q0_1 p0_2 q0_2 p0_3 q0_3
 refine (rright_len (s := s) (l := l) (b := true) (H1.out.keep (M.out.2)) HL.out HRl.out).mono ?_
 rintro e w2 ⟨rfl, hb⟩
 replace M := gnM hb M
 clear hb
 refine cj8 (M.out.1).c4 fun p0_0 q0_0 p0_1 q0_1 p0_2 q0_2 p0_3 q0_3 => ?_
 go_wp2_with fail
 clear p0_0 q0_0 p0_1 q0_1 p0_2 q0_2 p0_3 q0_3
 refine (rright_len (s := t) (l := m) (b := false) (K1.out.keep (M.out.2)) HM.out HRm.out).mono ?_
 rintro e w3 ⟨rfl, hb⟩
 replace M := gnM hb M
 clear hb
 go_wp2_with fail
 go_ret
 exact ⟨rfl, (M.out.2)⟩
end Go.Proofs.Ytlpcblhkddmlnaa
namespace Go.Proofs.Ytlpcblhkddmlnaa
open Go.RowKit Go.Lib
variable {G : Nat}
theorem rqRight {u0 u1 u2 u3 : Value} {q : Rat} {w : World} (h1 : FQ G w u0 u1 u2 u3 q) (hx : Fz q 549755813888) :
  Calls Try.prog 55 #[.agg #[u0, u1, u2, u3]] w fun e w' => e = .returned (.bool true) ∧ Below w.heap.size w w' := by
 obtain ⟨a1, c1, b1, d1, rfl, rfl, rfl, rfl, k1⟩ := h1.ex
 exact rfright_ok (G := G) k1 hx
theorem rqCompare {u0 u1 u2 u3 v0 v1 v2 v3 : Value} {q r : Rat} {k : Int} {w : World} (h1 : FQ G w u0 u1 u2 u3 q) (h2 : FQ G w v0 v1 v2 v3 r) (hx : Fz q 137438953472) (hy : Fz r 137438953472) (hk : ordQ q r = k) :
  Calls Try.prog 75 #[.agg #[u0, u1, u2, u3], .agg #[v0, v1, v2, v3]] w fun e w' => e = .returned (.int .i64 k) ∧ Below w.heap.size w w' := by
 obtain ⟨a1, c1, b1, d1, rfl, rfl, rfl, rfl, k1⟩ := h1.ex
 obtain ⟨a2, c2, b2, d2, rfl, rfl, rfl, rfl, k2⟩ := h2.ex
 exact rfcompare_is2 (G := G) k1 k2 hx hy hk
theorem rqSub {u0 u1 u2 u3 v0 v1 v2 v3 : Value} {q r : Rat} {w : World} (h1 : FQ G w u0 u1 u2 u3 q) (h2 : FQ G w v0 v1 v2 v3 r) (hx : Fz q 137438953472) (hy : Fz r 137438953472) :
  Calls Try.prog 39 #[.agg #[u0, u1, u2, u3], .agg #[v0, v1, v2, v3]] w fun e w' => ∃ x0 x1 x2 x3, e = .returned (.tuple #[.agg #[x0, x1, x2, x3], .int .i64 0]) ∧ FQ G w' x0 x1 x2 x3 (q - r) ∧ Below w.heap.size w w' := by
 obtain ⟨a1, c1, b1, d1, rfl, rfl, rfl, rfl, k1⟩ := h1.ex
 obtain ⟨a2, c2, b2, d2, rfl, rfl, rfl, rfl, k2⟩ := h2.ex
 exact (rfsub_ok (G := G) k1 k2 hx hy).mono fun e w' ⟨a, c, b, d, he, hd, hb⟩ => ⟨_, _, _, _, he, FQ.of hd, hb⟩
end Go.Proofs.Ytlpcblhkddmlnaa
namespace Go.Proofs.Ytlpcblhkddmlnaa
open Go.RowKit Go.Lib
variable {G : Nat}

theorem rightP_lt {x y gv : Int} (h : ((Nat.gcd x.natAbs y.natAbs : Nat) : Int) = gv) : rightP x y = (!decide (sg y < 1) && (ord gv 1 == 0)) := by
  subst h
  unfold rightP
  rcases Int.lt_trichotomy y 0 with h | h | h
  · rw [sg_neg h, decide_eq_false (by omega)]; rfl
  · subst h; rfl
  · rw [sg_pos h, decide_eq_true h]
    show (true && _) = (true && _)
    rw [Bool.true_and, Bool.true_and, Bool.eq_iff_iff, decide_eq_true_eq, beq_iff_eq]
    constructor
    · intro e; rw [e]; exact ord_eq _
    · intro e
      rcases Int.lt_trichotomy ((Nat.gcd x.natAbs y.natAbs : Nat) : Int) 1 with h1 | h1 | h1
      · rw [ord_lt h1] at e; omega
      · omega
      · rw [ord_gt h1] at e; omega
theorem rcompare_k {x y k : Int} {a1 a2 : Option Addr} {c1 c2 : Nat} {w : World} (h1 : BD G w a1 c1 x) (h2 : BD G w a2 c2 y) (hx : Sz x 549755813888) (hy : Sz y 549755813888) (hk : ord x y = k) :
  Calls Try.prog 79 #[.agg #[.int .i64 (sg x), .slice a1 (ln x) c1], .agg #[.int .i64 (sg y), .slice a2 (ln y) c2]] w fun e w' => e = .returned (.int .i64 k) ∧ Below w.heap.size w w' := by
 subst hk; exact rcompare_ok h1 h2 hx hy
theorem rof_1 {x : Int} {w : World} (hx : -9223372036854775808 ≤ x ∧ x ≤ 9223372036854775807) :
  Calls Try.prog 80 #[.int .i64 x] w fun e w' => ∃ a c, e = .returned (.agg #[.int .i64 (sg x), .slice a (ln x) c]) ∧ BD G w' a c x ∧ Below w.heap.size w w' := rof_ok x w hx
set_option maxRecDepth 100000 in
set_option maxHeartbeats 4000000 in
theorem rfRight_bd {x y : Int} {b_ : Bool} {a1 b1 : Option Addr} {c1 d1 : Nat} {w : World} (_hG : G ≤ w.heap.size) (h1 : BD G w a1 c1 x) (k1 : BD G w b1 d1 y) (hx : Sz x 549755813888) (hy : Sz y 549755813888) (hb : rightP x y = b_)  :
  Calls Try.prog 55 #[.agg #[.int .i64 (sg x), .slice a1 (ln x) c1, .int .i64 (sg y), .slice b1 (ln y) d1]] w fun e w' => e = .returned (.bool b_) ∧ Below w.heap.size w w' := by
 obtain ⟨gv, hgv⟩ : ∃ g, ((Nat.gcd x.natAbs y.natAbs : Nat) : Int) = g := ⟨_, rfl⟩
 rw [rightP_lt hgv] at hb
 have HSG := Lib.hid (gcd_size hgv hx hy)
 obtain ⟨bs, hbs⟩ : ∃ b, decide (sg y < 1) = b := ⟨_, rfl⟩
 obtain ⟨k, hk⟩ : ∃ k, ord gv 1 = k := ⟨_, rfl⟩
 obtain ⟨bo, hbo⟩ : ∃ b, (k == 0) = b := ⟨_, rfl⟩
 have HBR : Hid ((!bs && bo) = b_) := by show _ = _; rw [← hb, ← hbs, hk, hbo]
 have HG := Lib.hid hgv; have HK := Lib.hid hk
 have HX := Lib.hid hx; have HY := Lib.hid hy
 clear hb hgv hk hx hy
 have H1 : Hid (BD G w a1 c1 x) := h1
 have K1 : Hid (BD G w b1 d1 y) := k1
 clear h1 k1
 have M : Hid (Below w.heap.size w w) := Below.refl _ _
 go_enter Try.func55, Try.ntmps55
 go_upto_region 1 with fail
 refine nmW (w.alloc (.cells #[.int .i64 (sg x), .slice a1 (ln x) c1, .int .i64 (sg y), .slice b1 (ln y) d1] 27)) fun w1 hv => ?_
 rw [← hv]
 replace M := alM hv M
 clear hv
 refine cj4 (M.out.1).d4 fun p0_0 p0_1 p0_2 p0_3 => ?_
 go_wp2_with fail
 clear p0_0 p0_1 p0_2 p0_3
 refine (rright_ok (G := G) (x := x) (H1.out.keep (M.out.2)) (Sz.mono HX.out (by omega))).mono ?_
 rintro e w2 ⟨rfl, hb⟩
 replace M := gnM hb M
 clear hb
 refine cj4 (M.out.1).d4 fun p0_0 p0_1 p0_2 p0_3 => ?_
 go_wp2_with fail
 clear p0_0 p0_1 p0_2 p0_3
 refine (rright_ok (G := G) (x := y) (K1.out.keep (M.out.2)) (Sz.mono HY.out (by omega))).mono ?_
 rintro e w3 ⟨rfl, hb⟩
 replace M := gnM hb M
 clear hb
 cases bs with
 | false =>
  refine cj4 (M.out.1).d4 fun p0_0 p0_1 p0_2 p0_3 => ?_
  go_wp2_with fail
  clear p0_0 p0_1 p0_2 p0_3
  refine (rgcd_is (G := G) (x := x) (y := y) (g := gv) (H1.out.keep (M.out.2)) (K1.out.keep (M.out.2)) HX.out HY.out HG.out).mono ?_
  rintro e w4 ⟨a_1, c_2, rfl, hd3, hb⟩
  replace M := adM hd3 hb M
  clear hb hd3
  go_wp2_with fail
  refine nmW (w4.alloc (.cells #[.int .i64 (sg gv), .slice a_1 (ln gv) c_2] 25)) fun w5 hv => ?_
  rw [← hv]
  have ow1_ : w.heap.size < w4.heap.size := ((M.out.2.1)).lt
  replace M := alM hv M
  clear hv
  refine nmW w5.drew fun w6 hv => ?_
  replace M := drM hv M
  refine wp_region_held_drew (S := (fun w' => w'.cell? ⟨w4.heap.size, 0, none⟩ = some (.int .i64 (sg gv)) ∧ w'.cell? ⟨w4.heap.size, 1, none⟩ = some (.slice a_1 (ln gv) c_2))) (by kernel_rfl) (by rw [← hv]; exact (M.out.1).d2) (fun hH7 => ?_)
  rw [← hv] at hH7 ⊢
  clear hv
  refine tk at0 ?_
  refine wpAnyH_ready (rs := [1]) (by kernel_rfl) (by simp) ?_
  refine AllReadyH.cons at1 (fun K hK => ?_) AllReadyH.nil
  go_simp
  refine (rof_1 (G := G) (x := 1) (by decide)).mono ?_
  rintro e w7 ⟨a_8, c_9, rfl, hd10, hb⟩
  replace M := adM hd10 hb M
  clear hb hd10
  (try go_wp2_with fail)
  refine hK.out _ _ ((M.out.2.1).d2) (fun hH11 => ?_)
  clear hK K hH7
  (try simp only [Act.put, List.setIfInBounds_toArray, List.set_cons_zero, List.set_cons_succ])
  refine wpAnyH_ready (rs := [2]) (by kernel_rfl) (by simp) ?_
  refine AllReadyH.cons at2 (fun K hK => ?_) AllReadyH.nil
  go_simp
  refine (rcompare_k (G := G) (x := gv) (y := 1) (k := k) (M.out.2.2.1) (M.out.1) HSG.out (Sz.mono (show Sz (1) 1 from by unfold Sz; decide) (by omega)) HK.out).mono ?_
  rintro e w8 ⟨rfl, hb⟩
  replace M := gnM hb M
  clear hb
  (try go_wp2_with fail)
  refine hK.out _ _ ((M.out.2.1).d2) (fun hH12 => ?_)
  clear hK K hH11
  (try simp only [Act.put, List.setIfInBounds_toArray, List.set_cons_zero, List.set_cons_succ])
  refine tk at3 ?_
  refine tk at4 ?_
  refine wpAnyH_done (by kernel_rfl) ?_ _
  clear hH12
  go_wp2_with fail
  go_ret
  exact ⟨by rw [← HBR.out]; rfl, (M.out.2.2.2.2)⟩
 | true =>
  refine cj4 (M.out.1).d4 fun p0_0 p0_1 p0_2 p0_3 => ?_
  go_wp2_with fail
  clear p0_0 p0_1 p0_2 p0_3
  go_ret
  exact ⟨by rw [← HBR.out]; rfl, (M.out.2)⟩
theorem rfRight_raw {s t : Int} {l m : List Int} {a b : Option Addr} {c d : Nat} {r : Bool} {w : World} (h : FR w a c b d l m) (hl : l.length ≤ 549755813888) (hm : m.length ≤ 549755813888) (hr : rightF s l t m = r) :
  Calls Try.prog 55 #[.agg #[.int .i64 s, .slice a l.length c, .int .i64 t, .slice b m.length d]] w fun e w' => e = .returned (.bool r) ∧ Below w.heap.size w w' := by
 subst hr
 unfold rightF
 cases h1 : rightB s l with
 | false => exact rfRight_n1 h.n1 h.d1 (by omega) (by omega) h1
 | true =>
  cases h2 : rightB t m with
  | false => exact rfRight_n2 h.n1 h.d1 (by omega) (by omega) h1 h2
  | true =>
   obtain ⟨ex, lx, bx⟩ := bd_of_right' h.n1 h.n2 h1
   obtain ⟨ey, ly, by_⟩ := bd_of_right' h.d1 h.d2 h2
   have := rfRight_bd (G := w.heap.size) (Nat.le_refl _) bx by_ (show Go.Proofs.Ytlpcblhkddmlnaa.ln _ ≤ _ by omega) (show Go.Proofs.Ytlpcblhkddmlnaa.ln _ ≤ _ by omega) rfl
   rw [← ex, ← lx, ← ey, ← ly] at this
   exact this
theorem fyRight_ok {u0 u1 u2 u3 : Value} {n m : Nat} {o : Option Rat} {b_ : Bool} {w : World} (h : FX w u0 u1 u2 u3 n m o) (hn : n ≤ 549755813888) (hm : m ≤ 549755813888) (hb : o.isSome = b_) :
    Calls Try.prog 55 #[.agg #[u0, u1, u2, u3]] w fun e w' => e = .returned (.bool b_) ∧ Below w.heap.size w w' := by
  obtain ⟨s, a, c, t, b, d, l, k, rfl, rfl, rfl, rfl, h4, h5, h6, h7⟩ := h
  subst h4 h5
  subst hb
  rcases h7 with ⟨rfl, hr⟩ | ⟨q, rfl, hr, -⟩
  · exact rfRight_raw h6 hn hm hr
  · exact rfRight_raw h6 hn hm hr
end Go.Proofs.Ytlpcblhkddmlnaa
namespace Go.Proofs.Ytlpcblhkddmlnaa
open Go.RowKit Go.Lib
variable {G : Nat}

set_option maxRecDepth 100000 in
set_option maxHeartbeats 4000000 in
theorem rsRight_q {u0 u1 u2 u3 u4 u5 u6 u7 : Value} {p q : Rat} {b_ : Bool} {w : World} (h1 : FQ G w u0 u1 u2 u3 p) (h2 : FQ G w u4 u5 u6 u7 q) (hx : Fz p 137438953472) (hy : Fz q 137438953472) (hb : decide (p ≤ q) = b_) :
  Calls Try.prog 52 #[.agg #[u0, u1, u2, u3, u4, u5, u6, u7]] w fun e w' => e = .returned (.bool b_) ∧ Below w.heap.size w w' := by
 have HX := Lib.hid hx; have HY := Lib.hid hy; clear hx hy
 obtain ⟨k1, hk1⟩ : ∃ k, ordQ p q = k := ⟨_, rfl⟩
 obtain ⟨b1, hb1⟩ : ∃ b, decide (p ≤ q) = b := ⟨_, rfl⟩
 have hd1 : decide (k1 ≤ 0) = b1 := by rw [← hb1, ← hk1]; exact ordQ_le0 p q
 have Hk1 := Lib.hid hk1; have HB1 := Lib.hid hb1; clear hk1 hb1
 rw [HB1.out] at hb; subst hb
 have H1 : Hid (FQ G w u0 u1 u2 u3 p) := h1
 have H2 : Hid (FQ G w u4 u5 u6 u7 q) := h2
 clear h1 h2
 have M : Hid (Below w.heap.size w w) := Below.refl _ _
 go_enter Try.func52, Try.ntmps52
 go_upto_region 1 with fail
 refine nmW (w.alloc (.cells #[u0, u1, u2, u3, u4, u5, u6, u7] 29)) fun w1 hv => ?_
 rw [← hv]
 replace M := alM hv M
 clear hv
 refine cj8 (M.out.1).d8 fun p0_0 p0_1 p0_2 p0_3 p0_4 p0_5 p0_6 p0_7 => ?_
 go_wp2_with fail
 clear p0_0 p0_1 p0_2 p0_3 p0_4 p0_5 p0_6 p0_7
 refine (rqRight (G := G) (q := p) (H1.out.keep (M.out.2)) (Fz.mono HX.out (by omega))).mono ?_
 rintro e w2 ⟨rfl, hb⟩
 replace M := gnM hb M
 clear hb
 refine cj8 (M.out.1).d8 fun p0_0 p0_1 p0_2 p0_3 p0_4 p0_5 p0_6 p0_7 => ?_
 go_wp2_with fail
 clear p0_0 p0_1 p0_2 p0_3 p0_4 p0_5 p0_6 p0_7
 refine (rqRight (G := G) (q := q) (H2.out.keep (M.out.2)) (Fz.mono HY.out (by omega))).mono ?_
 rintro e w3 ⟨rfl, hb⟩
 replace M := gnM hb M
 clear hb
 refine cj8 (M.out.1).d8 fun p0_0 p0_1 p0_2 p0_3 p0_4 p0_5 p0_6 p0_7 => ?_
 go_wp2_with fail
 clear p0_0 p0_1 p0_2 p0_3 p0_4 p0_5 p0_6 p0_7
 refine (rqCompare (G := G) (q := p) (r := q) (k := k1) (H1.out.keep (M.out.2)) (H2.out.keep (M.out.2)) HX.out HY.out Hk1.out).mono ?_
 rintro e w4 ⟨rfl, hb⟩
 replace M := gnM hb M
 clear hb
 go_wp2_with fail
 go_ret
 exact ⟨rfl, (M.out.2)⟩
end Go.Proofs.Ytlpcblhkddmlnaa
namespace Go.Proofs.Ytlpcblhkddmlnaa
open Go.RowKit Go.Lib
variable {G : Nat}

set_option maxRecDepth 100000 in
set_option maxHeartbeats 4000000 in
theorem rsrightx_1 {u0 u1 u2 u3 u4 u5 u6 u7 : Value} {n1 m1 n2 m2 : Nat} {o1 o2 : Option Rat} {w : World} (h1 : FX w u0 u1 u2 u3 n1 m1 o1) (h2 : FX w u4 u5 u6 u7 n2 m2 o2) (hz1 : fewF n1 m1 = true) (ho : o1.isSome = false) :
  Calls Try.prog 52 #[.agg #[u0, u1, u2, u3, u4, u5, u6, u7]] w fun e w' => e = .returned (.bool false) ∧ Below w.heap.size w w' := by
 have k1 := few_le hz1
 have HO := Lib.hid ho; clear ho hz1
 have H1 : Hid (FX w u0 u1 u2 u3 n1 m1 o1) := h1
 have H2 : Hid (FX w u4 u5 u6 u7 n2 m2 o2) := h2
 clear h1 h2
 have M : Hid (Below w.heap.size w w) := Below.refl _ _
 go_enter Try.func52, Try.ntmps52
 go_upto_region 1 with fail
 refine nmW (w.alloc (.cells #[u0, u1, u2, u3, u4, u5, u6, u7] 29)) fun w1 hv => ?_
 rw [← hv]
 replace M := alM hv M
 clear hv
 refine cj8 (M.out.1).d8 fun p0_0 p0_1 p0_2 p0_3 p0_4 p0_5 p0_6 p0_7 => ?_
 go_wp2_with fail
 clear p0_0 p0_1 p0_2 p0_3 p0_4 p0_5 p0_6 p0_7
 refine (fyRight_ok (o := o1) (b_ := false) (H1.out.keep (M.out.2)) (by omega) (by omega) HO.out).mono ?_
 rintro e w2 ⟨rfl, hb⟩
 replace M := gnM hb M
 clear hb
 go_wp2_with fail
 go_ret
 exact ⟨rfl, (M.out.2)⟩
set_option maxRecDepth 100000 in
set_option maxHeartbeats 4000000 in
theorem rsrightx_2 {u0 u1 u2 u3 u4 u5 u6 u7 : Value} {n1 m1 n2 m2 : Nat} {o1 o2 : Option Rat} {w : World} (h1 : FX w u0 u1 u2 u3 n1 m1 o1) (h2 : FX w u4 u5 u6 u7 n2 m2 o2) (hz1 : fewF n1 m1 = true) (hz2 : fewF n2 m2 = true) (ho : o1.isSome = true) (ho2 : o2.isSome = false) :
  Calls Try.prog 52 #[.agg #[u0, u1, u2, u3, u4, u5, u6, u7]] w fun e w' => e = .returned (.bool false) ∧ Below w.heap.size w w' := by
 have k1 := few_le hz1; have k2 := few_le hz2
 have HO := Lib.hid ho; have HO2 := Lib.hid ho2; clear ho ho2 hz1 hz2
 have H1 : Hid (FX w u0 u1 u2 u3 n1 m1 o1) := h1
 have H2 : Hid (FX w u4 u5 u6 u7 n2 m2 o2) := h2
 clear h1 h2
 have M : Hid (Below w.heap.size w w) := Below.refl _ _
 go_enter Try.func52, Try.ntmps52
 go_upto_region 1 with fail
 refine nmW (w.alloc (.cells #[u0, u1, u2, u3, u4, u5, u6, u7] 29)) fun w1 hv => ?_
 rw [← hv]
 replace M := alM hv M
 clear hv
 refine cj8 (M.out.1).d8 fun p0_0 p0_1 p0_2 p0_3 p0_4 p0_5 p0_6 p0_7 => ?_
 go_wp2_with fail
 clear p0_0 p0_1 p0_2 p0_3 p0_4 p0_5 p0_6 p0_7
 refine (fyRight_ok (o := o1) (b_ := true) (H1.out.keep (M.out.2)) (by omega) (by omega) HO.out).mono ?_
 rintro e w2 ⟨rfl, hb⟩
 replace M := gnM hb M
 clear hb
 refine cj8 (M.out.1).d8 fun p0_0 p0_1 p0_2 p0_3 p0_4 p0_5 p0_6 p0_7 => ?_
 go_wp2_with fail
 clear p0_0 p0_1 p0_2 p0_3 p0_4 p0_5 p0_6 p0_7
 refine (fyRight_ok (o := o2) (b_ := false) (H2.out.keep (M.out.2)) (by omega) (by omega) HO2.out).mono ?_
 rintro e w3 ⟨rfl, hb⟩
 replace M := gnM hb M
 clear hb
 go_wp2_with fail
 go_ret
 exact ⟨rfl, (M.out.2)⟩
theorem rsRight_x {u0 u1 u2 u3 u4 u5 u6 u7 : Value} {n1 m1 n2 m2 : Nat} {o1 o2 : Option Rat} {b_ : Bool} {w : World} (h1 : FX w u0 u1 u2 u3 n1 m1 o1) (h2 : FX w u4 u5 u6 u7 n2 m2 o2) (hz1 : fewF n1 m1 = true) (hz2 : fewF n2 m2 = true) (hb : rightX o1 o2 = b_) :
  Calls Try.prog 52 #[.agg #[u0, u1, u2, u3, u4, u5, u6, u7]] w fun e w' => e = .returned (.bool b_) ∧ Below w.heap.size w w' := by
 have k1 := few_le hz1
 have k2 := few_le hz2
 subst hb
 cases o1 with
 | none => exact rsrightx_1 h1 h2 hz1 rfl
 | some p =>
  cases o2 with
  | none => exact rsrightx_2 h1 h2 hz1 hz2 rfl rfl
  | some q => exact rsRight_q h1.fq h2.fq (h1.fz (by omega) (by omega)) (h2.fz (by omega) (by omega)) rfl
end Go.Proofs.Ytlpcblhkddmlnaa
