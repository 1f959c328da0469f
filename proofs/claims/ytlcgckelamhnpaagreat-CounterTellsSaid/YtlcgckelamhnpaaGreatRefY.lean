/- Which fractions are right, by the reference; raw arguments with a level. -/
import Derived.Test.YtlcgckelamhnpaaGreatRefX
set_option maxRecDepth 100000
set_option maxHeartbeats 4000000
namespace Go.Proofs.YtlcgckelamhnpaaGreat
open Go.RowKit Go.Lib
variable {G : Nat}
theorem rightP_lt {x y gv : Int} (h : ((Nat.gcd x.natAbs y.natAbs : Nat) : Int) = gv) : rightP x y = (!decide (sg y < 1) && (ord gv 1 == 0)) := by
 subst h; unfold rightP; rcases Int.lt_trichotomy y 0 with h | h | h
 · rw [sg_neg h, decide_eq_false (by omega)]; rfl
 · subst h; rfl
 · rw [sg_pos h, decide_eq_true h]
   show (true && _) = (true && _)
   rw [Bool.true_and, Bool.true_and, Bool.eq_iff_iff, decide_eq_true_eq, beq_iff_eq]
   constructor
   · intro e; rw [e]; exact ord_eq _
   · intro e
     rcases Int.lt_trichotomy ((Nat.gcd x.natAbs y.natAbs : Nat) : Int) 1 with h1 | h1 | h1
     · rw [ord_lt h1] at e; omega
     · omega
     · rw [ord_gt h1] at e; omega
theorem rcompare_k {x y k : Int} {a1 a2 : Option Addr} {c1 c2 : Nat} {w : World} (h1 : BD G w a1 c1 x) (h2 : BD G w a2 c2 y) (hx : Sz x 549755813888) (hy : Sz y 549755813888) (hk : ord x y = k) :
 Calls Tryz.prog 59 #[.agg #[.int .i64 (sg x), .slice a1 (ln x) c1], .agg #[.int .i64 (sg y), .slice a2 (ln y) c2]] w fun e w' => e = .returned (.int .i64 k) ∧ Below w.heap.size w w' := by
 subst hk; exact rcompare_ok h1 h2 hx hy
theorem rof_1 {x : Int} {w : World} (hx : -9223372036854775808 ≤ x ∧ x ≤ 9223372036854775807) :
 Calls Tryz.prog 64 #[.int .i64 x] w fun e w' => ∃ a c, e = .returned (.agg #[.int .i64 (sg x), .slice a (ln x) c]) ∧ BD G w' a c x ∧ Below w.heap.size w w' := rof_ok x w hx
theorem rfRight_bd {x y : Int} {b_ : Bool} {a1 b1 : Option Addr} {c1 d1 : Nat} {w : World} (_hG : G ≤ w.heap.size) (h1 : BD G w a1 c1 x) (k1 : BD G w b1 d1 y) (hx : Sz x 549755813888) (hy : Sz y 549755813888) (hb : rightP x y = b_)  :
 Calls Tryz.prog 34 #[.agg #[.int .i64 (sg x), .slice a1 (ln x) c1, .int .i64 (sg y), .slice b1 (ln y) d1]] w fun e w' => e = .returned (.bool b_) ∧ Below w.heap.size w w' := by
 obtain ⟨gv, hgv⟩ : ∃ g, ((Nat.gcd x.natAbs y.natAbs : Nat) : Int) = g := ⟨_, rfl⟩; rw [rightP_lt hgv] at hb; have HSG := hI (gcd_size hgv hx hy); obtain ⟨bs, hbs⟩ : ∃ b, decide (sg y < 1) = b := ⟨_, rfl⟩; obtain ⟨k, hk⟩ : ∃ k, ord gv 1 = k := ⟨_, rfl⟩; obtain ⟨bo, hbo⟩ : ∃ b, (k == 0) = b := ⟨_, rfl⟩; have HBR : Hid ((!bs && bo) = b_) := by show _ = _; rw [← hb, ← hbs, hk, hbo]
 have HG := hI hgv; have HK := hI hk; have HX := hI hx; have HY := hI hy; clear hb hgv hk hx hy; have H1 : Hid (BD G w a1 c1 x) := h1; have K1 : Hid (BD G w b1 d1 y) := k1; clear h1 k1; have M : Hid (Below w.heap.size w w) := Below.refl _ _; go_enter Tryz.func34, Tryz.ntmps34
 go_upto_region 1 with fail
 generalize hv : World.alloc w _ = w1; replace M := alM hv.symm M; clear hv; refine (Y0 M).D4 fun aa ab ac ad => ?_; go_wp2_with fail
 clear aa ab ac ad; refine (rright_ok (G := G) (x := x) (H1.out.keep (J1 M)) (Sz.mono HX.out (by omega))).mono ?_; rintro e w2 ⟨rfl, hb⟩; replace M := gnM hb M; clear hb; refine (Y0 M).D4 fun aa ab ac ad => ?_; go_wp2_with fail
 clear aa ab ac ad; refine (rright_ok (G := G) (x := y) (K1.out.keep (J1 M)) (Sz.mono HY.out (by omega))).mono ?_; rintro e w3 ⟨rfl, hb⟩; replace M := gnM hb M; clear hb
 cases bs with
 | false =>
  refine (Y0 M).D4 fun aa ab ac ad => ?_; go_wp2_with fail
  clear aa ab ac ad; refine (rgcd_is (G := G) (x := x) (y := y) (g := gv) (H1.out.keep (J1 M)) (K1.out.keep (J1 M)) HX.out HY.out HG.out).mono ?_; rintro e w4 ⟨a_1, c_2, rfl, hd3, hb⟩; replace M := adM hd3 hb M; clear hb hd3; go_wp2_with fail
  generalize hv : World.alloc w4 _ = w5; have ow1_ := ((Y1 M)).lt; replace M := alM hv.symm M; clear hv; refine nmW w5.drew fun w6 hv => ?_; replace M := drM hv M; refine rg2W hv (Y0 M) fun hH7 => ?_; clear hv; refine tk at0 ?_; refine roW at1 fun K hK => ?_; go_simp; refine (rof_1 (G := G) (x := 1) (by decide)).mono ?_; rintro e w7 ⟨a_8, c_9, rfl, hd10, hb⟩; replace M := adM hd10 hb M; clear hb hd10; (try go_wp2_with fail)
  refine hK.out _ _ ((Y1 M).d2) (fun hH11 => ?_); clear hK K hH7; (try simp only [Act.put, kq])
  refine roW at2 fun K hK => ?_; go_simp; refine (rcompare_k (G := G) (x := gv) (y := 1) (k := k) (Y2 M) (Y0 M) HSG.out (Sz.mono (show Sz (1) 1 from by unfold Sz; decide) (by omega)) HK.out).mono ?_; rintro e w8 ⟨rfl, hb⟩; replace M := gnM hb M; clear hb; (try go_wp2_with fail)
  refine hK.out _ _ ((Y1 M).d2) (fun hH12 => ?_); clear hK K hH11; (try simp only [Act.put, kq])
  refine tk2 at3 at4 ?_; refine dnW ?_; clear hH12; go_wp2_with fail
  go_ret
  exact ⟨by rw [← HBR.out]; rfl, (J4 M)⟩
 | true =>
  refine (Y0 M).D4 fun aa ab ac ad => ?_; go_wp2_with fail
  clear aa ab ac ad; go_ret
  exact ⟨by rw [← HBR.out]; rfl, (J1 M)⟩
theorem rfRight_raw {s t : Int} {l m : List Int} {a b : Option Addr} {c d : Nat} {r : Bool} {w : World} (h : FR w a c b d l m) (hl : l.length ≤ 549755813888) (hm : m.length ≤ 549755813888) (hr : rightF s l t m = r) :
 Calls Tryz.prog 34 #[.agg #[.int .i64 s, .slice a l.length c, .int .i64 t, .slice b m.length d]] w fun e w' => e = .returned (.bool r) ∧ Below w.heap.size w w' := by
 subst hr; unfold rightF
 cases h1 : rightB s l with
 | false => exact rfRight_n1 h.n1 h.d1 (by omega) (by omega) h1
 | true =>
  cases h2 : rightB t m with
  | false => exact rfRight_n2 h.n1 h.d1 (by omega) (by omega) h1 h2
  | true =>
   obtain ⟨ex, lx, bx⟩ := bd_of_right' h.n1 h.n2 h1; obtain ⟨ey, ly, by_⟩ := bd_of_right' h.d1 h.d2 h2; have := rfRight_bd (G := w.heap.size) (Nat.le_refl _) bx by_ (show Go.Proofs.YtlcgckelamhnpaaGreat.ln _ ≤ _ by omega) (show Go.Proofs.YtlcgckelamhnpaaGreat.ln _ ≤ _ by omega) rfl; rw [← ex, ← lx, ← ey, ← ly] at this; exact this
theorem fyRight_ok {u0 u1 u2 u3 : Value} {n m : Nat} {o : Option Rat} {b_ : Bool} {w : World} (h : FX w u0 u1 u2 u3 n m o) (hn : n ≤ 549755813888) (hm : m ≤ 549755813888) (hb : o.isSome = b_) :
 Calls Tryz.prog 34 #[.agg #[u0, u1, u2, u3]] w fun e w' => e = .returned (.bool b_) ∧ Below w.heap.size w w' := by
 obtain ⟨s, a, c, t, b, d, l, k, rfl, rfl, rfl, rfl, h4, h5, h6, h7⟩ := h; subst h4 h5; subst hb; rcases h7 with ⟨rfl, hr⟩ | ⟨q, rfl, hr, -⟩
 · exact rfRight_raw h6 hn hm hr
 · exact rfRight_raw h6 hn hm hr
end Go.Proofs.YtlcgckelamhnpaaGreat
