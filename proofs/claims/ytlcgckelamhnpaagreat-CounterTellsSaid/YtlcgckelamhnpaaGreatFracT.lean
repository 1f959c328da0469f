/- Walks: fractions as text. -/
import Derived.Test.YtlcgckelamhnpaaGreatFracD
import Derived.Lib.ItoaNum
import Derived.Lib.Repeat
import Derived.Lib.AppendIntMem
import Derived.Sort.OwnSorted
import Derived.Shelf.Strings.SlTrimAscii
import Derived.Lib.ConvBytes
import Derived.Lib.CutLaws
set_option maxRecDepth 100000
set_option maxHeartbeats 4000000
namespace Go.Proofs.YtlcgckelamhnpaaGreat
open Go.Lib
def padK (k b : Nat) : List UInt8 := List.replicate (k - (decDigits b).length) 48 ++ decDigits b
def parts : Nat → Nat → List (List UInt8)
 | 0, _ => []
 | f + 1, n => if n = 0 then [] else (if n / 100000 = 0 then decDigits (n % 100000) else padK 5 (n % 100000)) :: parts f (n / 100000)
end Go.Proofs.YtlcgckelamhnpaaGreat
namespace Go.Proofs.YtlcgckelamhnpaaGreat
open Go.RowKit Go.Lib
variable {G : Nat}
def rightP (p q : Int) : Bool := decide (0 < q) && decide (Nat.gcd p.natAbs q.natAbs = 1)
theorem rightP_parts {p q : Int} (h : rightP p q = true) : nu (Rat.divInt p q) = p ∧ de (Rat.divInt p q) = q := by
 unfold rightP at h; rw [Bool.and_eq_true] at h; have h1 := of_decide_eq_true h.1; have h2 := of_decide_eq_true h.2; obtain ⟨g, hg0, hg, e1, e2⟩ := new_parts (x := p) h1; have : g = 1 := by omega
 subst this; rw [Int.one_mul] at e1 e2; exact ⟨e1.symm, e2.symm⟩
theorem one_is {x : Int} {b_ : Bool} {a1 : Option Addr} {c1 : Nat} {w : World} (h1 : BD G w a1 c1 x) (hX : Sz x 1099511627776) (hb : oneB x = b_) :
 Calls Tryz.prog 69 #[.agg #[.int .i64 (sg x), .slice a1 (ln x) c1]] w fun e w' => e = .returned (.bool b_) ∧ Below w.heap.size w w' := by
 rw [← hb]; exact one_ok h1 hX
theorem rightP_sg {x y gv : Int} (h : ((Nat.gcd x.natAbs y.natAbs : Nat) : Int) = gv) : rightP x y = (sg y == 1 && oneB gv) := by
 unfold rightP oneB; have h1 : decide (Nat.gcd x.natAbs y.natAbs = 1) = decide (gv = 1) := by apply decide_eq_decide.2; omega
 rw [h1]; rcases Int.lt_trichotomy y 0 with h | h | h
 · rw [sg_neg h, decide_eq_false (by omega)]; rfl
 · subst h; rfl
 · rw [sg_pos h, decide_eq_true h]; rfl
theorem gcd_size {x y gv : Int} {n : Nat} (h : ((Nat.gcd x.natAbs y.natAbs : Nat) : Int) = gv) (hx : Sz x n) (hy : Sz y n) : Sz gv n := by
 rcases Nat.eq_zero_or_pos x.natAbs with h0 | h0
 · refine hy.le ?_
   rw [← h, h0]; simp
 · refine hx.le ?_
   have := Nat.gcd_le_left (m := x.natAbs) y.natAbs h0
   omega
theorem fracRight_bd {x y : Int} {b_ : Bool} {a1 b1 : Option Addr} {c1 d1 : Nat} {w : World} (h1 : BD G w a1 c1 x) (k1 : BD G w b1 d1 y) (hx : Sz x 549755813888) (hy : Sz y 549755813888) (hb : rightP x y = b_) :
 Calls Tryz.prog 37 #[.agg #[.int .i64 (sg x), .slice a1 (ln x) c1, .int .i64 (sg y), .slice b1 (ln y) d1]] w fun e w' => e = .returned (.bool b_) ∧ Below w.heap.size w w' := by
 obtain ⟨gv, hgv⟩ : ∃ g, ((Nat.gcd x.natAbs y.natAbs : Nat) : Int) = g := ⟨_, rfl⟩; rw [rightP_sg hgv] at hb; have HSG := hI (gcd_size hgv hx hy); obtain ⟨bs, hbs⟩ : ∃ b, (sg y != 1) = b := ⟨_, rfl⟩; obtain ⟨bo, hbo⟩ : ∃ b, oneB gv = b := ⟨_, rfl⟩; have HBR : Hid ((!bs && bo) = b_) := by show _ = _; rw [← hb, ← hbs, ← hbo]; show (!(!(sg y == 1)) && _) = _; rw [Bool.not_not]
 have HG := hI hgv; have HBO := hI hbo; have HX := hI hx; have HY := hI hy; clear hb hgv hbo hx hy; have H1 : Hid (BD G w a1 c1 x) := h1; have K1 : Hid (BD G w b1 d1 y) := k1; clear h1 k1; have M : Hid (Below w.heap.size w w) := Below.refl _ _; go_enter Tryz.func37, Tryz.ntmps37
 go_upto_region 1 with fail
 generalize hv : World.alloc w _ = w1; replace M := alM hv.symm M; clear hv; obtain ⟨aa, ab, ac, ad, ae, af, ag, ah⟩ := (Y0 M).c4; go_wp2_with fail
 clear aa ab ac ad ae af ag ah; refine (bigRight_ok (G := G) (z := x) (H1.out.keep (J1 M)) (Sz.mono HX.out (by omega))).mono ?_; rintro e w2 ⟨rfl, hb⟩; replace M := gnM hb M; clear hb; obtain ⟨aa, ab, ac, ad, ae, af, ag, ah⟩ := (Y0 M).c4; go_wp2_with fail
 clear aa ab ac ad ae af ag ah; refine (bigRight_ok (G := G) (z := y) (K1.out.keep (J1 M)) (Sz.mono HY.out (by omega))).mono ?_; rintro e w3 ⟨rfl, hb⟩; replace M := gnM hb M; clear hb
 cases bs with
 | false =>
  obtain ⟨aa, ab, ac, ad, ae, af, ag, ah⟩ := (Y0 M).c4; go_wp2_with fail
  clear aa ab ac ad ae af ag ah; refine (bigGcd_is' (G := G) (x := x) (y := y) (g := gv) (H1.out.keep (J1 M)) (K1.out.keep (J1 M)) HX.out HY.out HG.out).mono ?_; rintro e w4 ⟨a_1, c_2, rfl, hd3, hb⟩; replace M := adM hd3 hb M; clear hb hd3; go_upto_region 4 with fail
  generalize hv : World.alloc w4 _ = w5; have o1 := ((Y1 M)).lt; replace M := alM hv.symm M; clear hv; obtain ⟨ai, aj, ak, al⟩ := (Y0 M).c2; go_wp2_with fail
  clear ai aj ak al; refine (one_is (G := G) (x := gv) (b_ := bo) (Y1 M) (Sz.mono HSG.out (by omega)) HBO.out).mono ?_; rintro e w6 ⟨rfl, hb⟩; replace M := gnM hb M; clear hb; go_wp2_with fail
  go_ret
  exact ⟨by rw [← HBR.out]; rfl, (J3 M)⟩
 | true =>
  obtain ⟨aa, ab, ac, ad, ae, af, ag, ah⟩ := (Y0 M).c4; go_wp2_with fail
  clear aa ab ac ad ae af ag ah; go_ret
  exact ⟨by rw [← HBR.out]; rfl, (J1 M)⟩
end Go.Proofs.YtlcgckelamhnpaaGreat
