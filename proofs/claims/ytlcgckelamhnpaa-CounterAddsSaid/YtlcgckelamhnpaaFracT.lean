/- Walks: fractions as text. -/
import Derived.Test.YtlcgckelamhnpaaBase
import Derived.Test.YtlcgckelamhnpaaBigSpec
import Derived.Test.YtlcgckelamhnpaaBigB
import Derived.Test.YtlcgckelamhnpaaBigD
import Derived.Test.YtlcgckelamhnpaaBigL
import Derived.Test.YtlcgckelamhnpaaBigQ
import Derived.Test.YtlcgckelamhnpaaFd
import Derived.Test.YtlcgckelamhnpaaAw
import Derived.Test.YtlcgckelamhnpaaFracA
import Derived.Test.YtlcgckelamhnpaaFz
import Derived.Test.YtlcgckelamhnpaaFracD
import Derived.Test.YtlcgckelamhnpaaProg
import Derived.Test.YtlcgckelamhnpaaShelf
import Derived.WalkKit
import Derived.WalkSpells
import Derived.WalkLawsBesides
import Derived.Handy
import Derived.Lib.Hide
import Derived.Lib.Strings
import Derived.Lib.Builder
import Derived.BigQuiet
import Derived.OwnWalk
import Derived.Laws.BitsLemmas
import Derived.WalkSmall
import Derived.Deep.QuietTactic
import Derived.StillTailTactics
import Derived.Maps.AppendAt
import Derived.IntWalk
import Derived.Deep.RegionHeld3
import Derived.Deep.DeepFit
import Derived.Deep.LoopGhost
import Derived.Deep.DeepCutAuto
import Derived.Lib.ItoaNum
import Derived.Lib.Repeat
import Derived.Lib.AppendIntMem
import Derived.Sort.OwnSorted
import Derived.Shelf.Strings.SlTrimAscii
import Derived.Lib.ConvBytes
import Derived.Lib.CutLaws
namespace Go.Proofs.Ytlcgckelamhnpaa
open Go.RowKit Go.Lib
variable {G : Nat}

def rightP (p q : Int) : Bool := decide (0 < q) && decide (Nat.gcd p.natAbs q.natAbs = 1)
theorem one_is {x : Int} {b_ : Bool} {a1 : Option Addr} {c1 : Nat} {w : World} (h1 : BD G w a1 c1 x) (hX : Sz x 1099511627776) (hb : oneB x = b_) :
  Calls Try.prog 59 #[.agg #[.int .i64 (sg x), .slice a1 (ln x) c1]] w fun e w' => e = .returned (.bool b_) ∧ Below w.heap.size w w' := by
 rw [← hb]; exact one_ok h1 hX
theorem rightP_sg {x y gv : Int} (h : ((Nat.gcd x.natAbs y.natAbs : Nat) : Int) = gv) : rightP x y = (sg y == 1 && oneB gv) := by
  unfold rightP oneB
  have h1 : decide (Nat.gcd x.natAbs y.natAbs = 1) = decide (gv = 1) := by apply decide_eq_decide.2; omega
  rw [h1]
  rcases Int.lt_trichotomy y 0 with h | h | h
  · rw [sg_neg h, decide_eq_false (by omega)]; rfl
  · subst h; rfl
  · rw [sg_pos h, decide_eq_true h]; rfl
theorem gcd_size {x y gv : Int} {n : Nat} (h : ((Nat.gcd x.natAbs y.natAbs : Nat) : Int) = gv) (hx : Sz x n) (hy : Sz y n) : Sz gv n := by
  rcases Nat.eq_zero_or_pos x.natAbs with h0 | h0
  · refine hy.le ?_
    rw [← h, h0]; simp
  · refine hx.le ?_
    have := Nat.gcd_le_left (m := x.natAbs) y.natAbs h0
    omega
set_option maxRecDepth 100000 in
set_option maxHeartbeats 4000000 in
theorem fracRight_bd {x y : Int} {b_ : Bool} {a1 b1 : Option Addr} {c1 d1 : Nat} {w : World} (h1 : BD G w a1 c1 x) (k1 : BD G w b1 d1 y) (hx : Sz x 549755813888) (hy : Sz y 549755813888) (hb : rightP x y = b_) :
  Calls Try.prog 35 #[.agg #[.int .i64 (sg x), .slice a1 (ln x) c1, .int .i64 (sg y), .slice b1 (ln y) d1]] w fun e w' => e = .returned (.bool b_) ∧ Below w.heap.size w w' := by
 obtain ⟨gv, hgv⟩ : ∃ g, ((Nat.gcd x.natAbs y.natAbs : Nat) : Int) = g := ⟨_, rfl⟩
 rw [rightP_sg hgv] at hb
 have HSG := Lib.hid (gcd_size hgv hx hy)
 obtain ⟨bs, hbs⟩ : ∃ b, (sg y != 1) = b := ⟨_, rfl⟩
 obtain ⟨bo, hbo⟩ : ∃ b, oneB gv = b := ⟨_, rfl⟩
 have HBR : Hid ((!bs && bo) = b_) := by show _ = _; rw [← hb, ← hbs, ← hbo]; show (!(!(sg y == 1)) && _) = _; rw [Bool.not_not]
 have HG := Lib.hid hgv; have HBO := Lib.hid hbo
 have HX := Lib.hid hx; have HY := Lib.hid hy
 clear hb hgv hbo hx hy
 have H1 : Hid (BD G w a1 c1 x) := h1
 have K1 : Hid (BD G w b1 d1 y) := k1
 clear h1 k1
 have M : Hid (Below w.heap.size w w) := Below.refl _ _
 go_enter Try.func35, Try.ntmps35
 go_upto_region 1 with fail
 refine nmW (w.alloc (.cells #[.int .i64 (sg x), .slice a1 (ln x) c1, .int .i64 (sg y), .slice b1 (ln y) d1] 38)) fun w1 hv => ?_
 rw [← hv]
 replace M := alM hv M
 clear hv
 obtain ⟨aa, ab, ac, ad, ae, af, ag, ah⟩ := (M.out.1).c4
 go_wp2_with fail
 clear aa ab ac ad ae af ag ah
 refine (bigRight_ok (G := G) (z := x) (H1.out.keep (J1 M)) (Sz.mono HX.out (by omega))).mono ?_
 rintro e w2 ⟨rfl, hb⟩
 replace M := gnM hb M
 clear hb
 obtain ⟨aa, ab, ac, ad, ae, af, ag, ah⟩ := (M.out.1).c4
 go_wp2_with fail
 clear aa ab ac ad ae af ag ah
 refine (bigRight_ok (G := G) (z := y) (K1.out.keep (J1 M)) (Sz.mono HY.out (by omega))).mono ?_
 rintro e w3 ⟨rfl, hb⟩
 replace M := gnM hb M
 clear hb
 cases bs with
 | false =>
  obtain ⟨aa, ab, ac, ad, ae, af, ag, ah⟩ := (M.out.1).c4
  go_wp2_with fail
  clear aa ab ac ad ae af ag ah
  refine (bigGcd_is' (G := G) (x := x) (y := y) (g := gv) (H1.out.keep (J1 M)) (K1.out.keep (J1 M)) HX.out HY.out HG.out).mono ?_
  rintro e w4 ⟨a_1, c_2, rfl, hd3, hb⟩
  replace M := adM hd3 hb M
  clear hb hd3
  go_upto_region 4 with fail
  refine nmW (w4.alloc (.cells #[.int .i64 (sg gv), .slice a_1 (ln gv) c_2] 36)) fun w5 hv => ?_
  rw [← hv]
  have o1 : w.heap.size < w4.heap.size := ((J1 M).1).lt
  replace M := alM hv M
  clear hv
  obtain ⟨ai, aj, ak, al⟩ := (M.out.1).c2
  go_wp2_with fail
  clear ai aj ak al
  refine (one_is (G := G) (x := gv) (b_ := bo) (J1 M).1 (Sz.mono HSG.out (by omega)) HBO.out).mono ?_
  rintro e w6 ⟨rfl, hb⟩
  replace M := gnM hb M
  clear hb
  go_wp2_with fail
  go_ret
  exact ⟨by rw [← HBR.out]; rfl, (J3 M)⟩
 | true =>
  obtain ⟨aa, ab, ac, ad, ae, af, ag, ah⟩ := (M.out.1).c4
  go_wp2_with fail
  clear aa ab ac ad ae af ag ah
  go_ret
  exact ⟨by rw [← HBR.out]; rfl, (J1 M)⟩
end Go.Proofs.Ytlcgckelamhnpaa
