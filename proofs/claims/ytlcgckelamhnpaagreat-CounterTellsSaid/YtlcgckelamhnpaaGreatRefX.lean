/- The reference's fractions over opaque cells; what is right. -/
import Derived.Test.YtlcgckelamhnpaaGreatRw
import Derived.Test.YtlcgckelamhnpaaGreatScaleI
import Derived.Test.YtlcgckelamhnpaaGreatRefR4
set_option maxRecDepth 100000
set_option maxHeartbeats 4000000
namespace Go.Proofs.YtlcgckelamhnpaaGreat
open Go.RowKit
variable {G : Nat}
theorem rfcompare_is2 {q r : Rat} {k : Int} {a1 b1 a2 b2 : Option Addr} {c1 d1 c2 d2 : Nat} {w : World} (h1 : FD G w a1 c1 b1 d1 q) (h2 : FD G w a2 c2 b2 d2 r) (hx : Fz q 137438953472) (hy : Fz r 137438953472) (hk : ordQ q r = k) :
 Calls Tryz.prog 32 #[.agg #[.int .i64 (sg (nu q)), .slice a1 (ln (nu q)) c1, .int .i64 (sg (de q)), .slice b1 (ln (de q)) d1], .agg #[.int .i64 (sg (nu r)), .slice a2 (ln (nu r)) c2, .int .i64 (sg (de r)), .slice b2 (ln (de r)) d2]] w fun e w' => e = .returned (.int .i64 k) ∧ Below w.heap.size w w' := by
 rw [← hk]; exact rfcompare_ok h1 h2 hx hy
end Go.Proofs.YtlcgckelamhnpaaGreat
namespace Go.Proofs.YtlcgckelamhnpaaGreat
open Go.RowKit Go.Lib
variable {G : Nat}
theorem rright_len {s : Int} {a : Option Addr} {n c : Nat} {l : List Int} {b : Bool} {w : World} (h : RdZ w (.slice a n c) l) (hn : n ≤ 1099511627776) (hb : rightB s l = b) :
 Calls Tryz.prog 62 #[.agg #[.int .i64 s, .slice a n c]] w fun e w' => e = .returned (.bool b) ∧ Below w.heap.size w w' := by
 obtain ⟨a', c', hv, hc⟩ := h
 cases hv
 exact rright_raw ⟨_, _, rfl, hc⟩ hn hb
theorem rfRight_n1 {s t : Int} {l m : List Int} {a b : Option Addr} {c d : Nat} {w : World} (h1 : RdZ w (.slice a l.length c) l) (k1 : RdZ w (.slice b m.length d) m) (hl : l.length ≤ 1099511627776) (hm : m.length ≤ 1099511627776) (hrl : rightB s l = false) :
 Calls Tryz.prog 34 #[.agg #[.int .i64 s, .slice a l.length c, .int .i64 t, .slice b m.length d]] w fun e w' => e = .returned (.bool false) ∧ Below w.heap.size w w' := by
 have HL := hI hl; have HM := hI hm; have HRl := hI hrl; clear hl hm hrl; have H1 : Hid (RdZ w (.slice a l.length c) l) := h1; have K1 : Hid (RdZ w (.slice b m.length d) m) := k1; clear h1 k1; have M : Hid (Below w.heap.size w w) := Below.refl _ _; go_enter Tryz.func34, Tryz.ntmps34
 go_upto_region 1 with fail
 generalize hv : World.alloc w _ = w1; replace M := alM hv.symm M; clear hv; refine cj8 (Y0 M).c4 fun aa ab ac ad ae af ag ah => ?_; go_wp2_with fail
 clear aa ab ac ad ae af ag ah; refine (rright_len (s := s) (l := l) (b := false) (H1.out.keep (J1 M)) HL.out HRl.out).mono ?_; rintro e w2 ⟨rfl, hb⟩; replace M := gnM hb M; clear hb; go_wp2_with fail
 go_ret
 exact ⟨rfl, (J1 M)⟩
theorem rfRight_n2 {s t : Int} {l m : List Int} {a b : Option Addr} {c d : Nat} {w : World} (h1 : RdZ w (.slice a l.length c) l) (k1 : RdZ w (.slice b m.length d) m) (hl : l.length ≤ 1099511627776) (hm : m.length ≤ 1099511627776) (hrl : rightB s l = true) (hrm : rightB t m = false) :
 Calls Tryz.prog 34 #[.agg #[.int .i64 s, .slice a l.length c, .int .i64 t, .slice b m.length d]] w fun e w' => e = .returned (.bool false) ∧ Below w.heap.size w w' := by
 have HL := hI hl; have HM := hI hm; have HRl := hI hrl; have HRm := hI hrm; clear hl hm hrl hrm; have H1 : Hid (RdZ w (.slice a l.length c) l) := h1; have K1 : Hid (RdZ w (.slice b m.length d) m) := k1; clear h1 k1; have M : Hid (Below w.heap.size w w) := Below.refl _ _; go_enter Tryz.func34, Tryz.ntmps34
 go_upto_region 1 with fail
 generalize hv : World.alloc w _ = w1; replace M := alM hv.symm M; clear hv; refine cj8 (Y0 M).c4 fun aa ab ac ad ae af ag ah => ?_; go_wp2_with fail
 clear aa ab ac ad ae af ag ah; refine (rright_len (s := s) (l := l) (b := true) (H1.out.keep (J1 M)) HL.out HRl.out).mono ?_; rintro e w2 ⟨rfl, hb⟩; replace M := gnM hb M; clear hb; refine cj8 (Y0 M).c4 fun aa ab ac ad ae af ag ah => ?_; go_wp2_with fail
 clear aa ab ac ad ae af ag ah; refine (rright_len (s := t) (l := m) (b := false) (K1.out.keep (J1 M)) HM.out HRm.out).mono ?_; rintro e w3 ⟨rfl, hb⟩; replace M := gnM hb M; clear hb; go_wp2_with fail
 go_ret
 exact ⟨rfl, (J1 M)⟩
theorem rqRight {u0 u1 u2 u3 : Value} {q : Rat} {w : World} (h1 : FQ G w u0 u1 u2 u3 q) (hx : Fz q 549755813888) :
 Calls Tryz.prog 34 #[.agg #[u0, u1, u2, u3]] w fun e w' => e = .returned (.bool true) ∧ Below w.heap.size w w' := by
 obtain ⟨a1, c1, b1, d1, rfl, rfl, rfl, rfl, k1⟩ := h1.ex; exact rfright_ok (G := G) k1 hx
theorem rqCompare {u0 u1 u2 u3 v0 v1 v2 v3 : Value} {q r : Rat} {k : Int} {w : World} (h1 : FQ G w u0 u1 u2 u3 q) (h2 : FQ G w v0 v1 v2 v3 r) (hx : Fz q 137438953472) (hy : Fz r 137438953472) (hk : ordQ q r = k) :
 Calls Tryz.prog 32 #[.agg #[u0, u1, u2, u3], .agg #[v0, v1, v2, v3]] w fun e w' => e = .returned (.int .i64 k) ∧ Below w.heap.size w w' := by
 obtain ⟨a1, c1, b1, d1, rfl, rfl, rfl, rfl, k1⟩ := h1.ex; obtain ⟨a2, c2, b2, d2, rfl, rfl, rfl, rfl, k2⟩ := h2.ex; exact rfcompare_is2 (G := G) k1 k2 hx hy hk
theorem rqAdd {u0 u1 u2 u3 v0 v1 v2 v3 : Value} {q r : Rat} {w : World} (h1 : FQ G w u0 u1 u2 u3 q) (h2 : FQ G w v0 v1 v2 v3 r) (hx : Fz q 137438953472) (hy : Fz r 137438953472) :
 Calls Tryz.prog 26 #[.agg #[u0, u1, u2, u3], .agg #[v0, v1, v2, v3]] w fun e w' => ∃ x0 x1 x2 x3, e = .returned (.tuple #[.agg #[x0, x1, x2, x3], .int .i64 0]) ∧ FQ G w' x0 x1 x2 x3 (q + r) ∧ Below w.heap.size w w' := by
 obtain ⟨a1, c1, b1, d1, rfl, rfl, rfl, rfl, k1⟩ := h1.ex; obtain ⟨a2, c2, b2, d2, rfl, rfl, rfl, rfl, k2⟩ := h2.ex; exact (rfadd_ok (G := G) k1 k2 hx hy).mono fun e w' ⟨a, c, b, d, he, hd, hb⟩ => ⟨_, _, _, _, he, FQ.of hd, hb⟩
theorem rqSub {u0 u1 u2 u3 v0 v1 v2 v3 : Value} {q r : Rat} {w : World} (h1 : FQ G w u0 u1 u2 u3 q) (h2 : FQ G w v0 v1 v2 v3 r) (hx : Fz q 137438953472) (hy : Fz r 137438953472) :
 Calls Tryz.prog 48 #[.agg #[u0, u1, u2, u3], .agg #[v0, v1, v2, v3]] w fun e w' => ∃ x0 x1 x2 x3, e = .returned (.tuple #[.agg #[x0, x1, x2, x3], .int .i64 0]) ∧ FQ G w' x0 x1 x2 x3 (q - r) ∧ Below w.heap.size w w' := by
 obtain ⟨a1, c1, b1, d1, rfl, rfl, rfl, rfl, k1⟩ := h1.ex; obtain ⟨a2, c2, b2, d2, rfl, rfl, rfl, rfl, k2⟩ := h2.ex; exact (rfsub_ok (G := G) k1 k2 hx hy).mono fun e w' ⟨a, c, b, d, he, hd, hb⟩ => ⟨_, _, _, _, he, FQ.of hd, hb⟩
end Go.Proofs.YtlcgckelamhnpaaGreat
