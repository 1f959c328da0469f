/- Walks: fractions: making, products, quotients, opposites, the lesser one, the integral part. -/
import Derived.Test.YtlcgckelamhnpaaGreatAw
import Derived.Test.YtlcgckelamhnpaaGreatFz
import Derived.Test.YtlcgckelamhnpaaGreatRefS
set_option maxRecDepth 100000
set_option maxHeartbeats 4000000
namespace Go.Proofs.YtlcgckelamhnpaaGreat
open Go.RowKit
variable {G : Nat}
theorem bigRight_raw {s : Int} {a : Option Addr} {c : Nat} {l : List Int} {b : Bool} {w : World} (h : RdZ w (.slice a l.length c) l) (hn : l.length ≤ 1099511627776) (hb : rightB s l = b) :
 Calls Tryz.prog 67 #[.agg #[.int .i64 s, .slice a l.length c]] w fun e w' => e = .returned (.bool b) ∧ Below w.heap.size w w' := by
 rw [← hb]; exact bigRight_any s _ l w h hn
theorem eqZ_of {x y : Int} (h : x = y) : eqZ x y = true := by unfold eqZ; exact decide_eq_true h
theorem ints_toNat {l : List Int} (h : l.all digitOk = true) : ints (l.map Int.toNat) = l ∧ small (l.map Int.toNat) := by
 have hd : ∀ d ∈ l, 0 ≤ d ∧ d ≤ 1048575 := fun d hd => by
  have := List.all_eq_true.1 h d hd
  simpa [digitOk] using this
 constructor
 · unfold ints
   rw [List.map_map]
   conv => rhs; rw [← List.map_id l]
   exact List.map_congr_left fun d hm => by have := hd d hm; simp; omega
 · intro d hm
   obtain ⟨e, he, rfl⟩ := List.mem_map.1 hm; have := hd e he; omega
theorem right_parts {s : Int} {l : List Int} (hr : rightB s l = true) : ∃ z : Int, s = sg z ∧ l = ints (digs z.natAbs) := by
 unfold rightB at hr; rw [Bool.and_eq_true] at hr; obtain ⟨h1, h2⟩ := hr; obtain ⟨e1, e2⟩ := ints_toNat h1
 by_cases h0 : l = []
 · subst h0
   rw [if_pos rfl] at h2; exact ⟨0, by simpa [sg] using h2, rfl⟩
 · rw [if_neg h0, Bool.and_eq_true, Bool.or_eq_true] at h2
   obtain ⟨h3, h4⟩ := h2; have h4 := of_decide_eq_true h4; obtain ⟨P, hP⟩ : ∃ P, P = l.map Int.toNat := ⟨_, rfl⟩; rw [← hP] at e1 e2
   have hc : canon P := by
    refine ⟨e2, fun h => h4 ?_⟩; rw [← e1]; unfold ints; rw [List.getLast?_map, h]; rfl
   have hv : val P ≠ 0 := by
    intro h
    have : P = [] := by rw [← digs_val hc, h]; rfl
    rw [this] at e1; exact h0 e1.symm
   have hs : s = 1 ∨ s = -1 := by
    rcases h3 with h | h
    · exact .inl (by simpa using h)
    · exact .inr (by simpa using h)
   refine ⟨s * (val P : Int), ?_, ?_⟩
   · rcases hs with rfl | rfl
     · rw [Int.one_mul]; exact (Int.sign_eq_one_of_pos (by omega)).symm
     · unfold sg; rw [Int.sign_eq_neg_one_of_neg (by omega)]
   · have : (s * (val P : Int)).natAbs = val P := by rcases hs with rfl | rfl <;> omega
     rw [this, digs_val hc, e1]
theorem bigGcd_is' {x y g : Int} {a1 a2 : Option Addr} {c1 c2 : Nat} {w : World} (h1 : BD G w a1 c1 x) (h2 : BD G w a2 c2 y) (hx : Sz x 549755813888) (hy : Sz y 549755813888) (hg : ((Nat.gcd x.natAbs y.natAbs : Nat) : Int) = g) :
 Calls Tryz.prog 68 #[.agg #[.int .i64 (sg x), .slice a1 (ln x) c1], .agg #[.int .i64 (sg y), .slice a2 (ln y) c2]] w fun e w' => ∃ a c, e = .returned (.tuple #[.agg #[.int .i64 (sg g), .slice a (ln g) c], .int .i64 0]) ∧ BD G w' a c g ∧ Below w.heap.size w w' := by
 subst hg; exact bigGcd_ok h1 h2 hx hy
theorem fracSign_ok {q : Rat} {a1 b1 : Option Addr} {c1 d1 : Nat} {w : World} (_hG : G ≤ w.heap.size) (h1 : FD G w a1 c1 b1 d1 q) (hx : Fz q 137438953472)  :
 Calls Tryz.prog 60 #[.agg #[.int .i64 (sg (nu q)), .slice a1 (ln (nu q)) c1, .int .i64 (sg (de q)), .slice b1 (ln (de q)) d1]] w fun e w' => e = .returned (.int .i64 (sg (nu q))) ∧ Below w.heap.size w w' := by
 have HX := hI hx; clear hx; have H1 : Hid (FD G w a1 c1 b1 d1 q) := h1; clear h1; have M : Hid (Below w.heap.size w w) := Below.refl _ _; go_enter Tryz.func60, Tryz.ntmps60
 go_upto_region 1 with fail
 generalize hv : World.alloc w _ = w1; replace M := alM hv.symm M; clear hv; obtain ⟨aa, ab, ac, ad, ae, af, ag, ah⟩ := (Y0 M).c4; go_wp2_with fail
 clear aa ab ac ad ae af ag ah; refine (fracRight_ok (G := G) (q := q) (H1.out.keep (J1 M)) (Fz.mono HX.out (by omega))).mono ?_; rintro e w2 ⟨rfl, hb⟩; replace M := gnM hb M; clear hb; obtain ⟨aa, ab, ac, ad, ae, af, ag, ah⟩ := (Y0 M).c4; go_wp2_with fail
 clear aa ab ac ad ae af ag ah; go_ret
 exact ⟨rfl, (J1 M)⟩
theorem either_is {q r : Rat} {a1 b1 a2 b2 : Option Addr} {c1 d1 c2 d2 : Nat} {w : World} (h1 : FD G w a1 c1 b1 d1 q) (h2 : FD G w a2 c2 b2 d2 r) (hx : Fz q 137438953472) (hy : Fz r 137438953472) {s : Int} (hs : s = 1 ∨ s = -1) {m : Rat} (hm : pick q r s = m) :
 Calls Tryz.prog 77 #[.agg #[.int .i64 (sg (nu q)), .slice a1 (ln (nu q)) c1, .int .i64 (sg (de q)), .slice b1 (ln (de q)) d1], .agg #[.int .i64 (sg (nu r)), .slice a2 (ln (nu r)) c2, .int .i64 (sg (de r)), .slice b2 (ln (de r)) d2], .int .i64 s] w fun e w' => ∃ a c b d, e = .returned (.tuple #[.agg #[.int .i64 (sg (nu m)), .slice a (ln (nu m)) c, .int .i64 (sg (de m)), .slice b (ln (de m)) d], .int .i64 0]) ∧ FD G w' a c b d m ∧ Below w.heap.size w w' := by
 subst hm; exact either_ok h1 h2 hx hy hs
theorem fracMin_is {q r m : Rat} {a1 b1 a2 b2 : Option Addr} {c1 d1 c2 d2 : Nat} {w : World} (hG : G ≤ w.heap.size) (h1 : FD G w a1 c1 b1 d1 q) (h2 : FD G w a2 c2 b2 d2 r) (hx : Fz q 137438953472) (hy : Fz r 137438953472) (hm : pick q r (-1) = m) :
 Calls Tryz.prog 75 #[.agg #[.int .i64 (sg (nu q)), .slice a1 (ln (nu q)) c1, .int .i64 (sg (de q)), .slice b1 (ln (de q)) d1], .agg #[.int .i64 (sg (nu r)), .slice a2 (ln (nu r)) c2, .int .i64 (sg (de r)), .slice b2 (ln (de r)) d2]] w fun e w' => ∃ a c b d, e = .returned (.tuple #[.agg #[.int .i64 (sg (nu m)), .slice a (ln (nu m)) c, .int .i64 (sg (de m)), .slice b (ln (de m)) d], .int .i64 0]) ∧ FD G w' a c b d m ∧ Below w.heap.size w w' := by
 have HM := hI hm; clear hm; have HX := hI hx; have HY := hI hy; clear hx hy; have H1 : Hid (FD G w a1 c1 b1 d1 q) := h1; have H2 : Hid (FD G w a2 c2 b2 d2 r) := h2; clear h1 h2; have M : Hid (Below w.heap.size w w) := Below.refl _ _; go_enter Tryz.func75, Tryz.ntmps75
 go_upto_region 1 with fail
 generalize hv : World.alloc (World.alloc (World.alloc w _) _) _ = w1; replace M := al3W hv.symm M; clear hv; obtain ⟨aa, ab, ac, ad, ae, af, ag, ah⟩ := (Y2 M).c4; obtain ⟨ai, aj, ak, al, am, ao, ap, aq⟩ := (Y1 M).c4; go_wp2_with fail
 clear aa ab ac ad ae af ag ah ai aj ak al am ao ap aq; refine (either_is (G := G) (q := q) (r := r) (s := (-1)) (m := m) (H1.out.keep (J3 M)) (H2.out.keep (J3 M)) HX.out HY.out (by decide) HM.out).mono ?_; rintro e w2 ⟨a_1, c_2, b_3, d_4, rfl, hd5, hb⟩; replace M := adM hd5 hb M; clear hb hd5; obtain ⟨ar, au, av, aw, ax, ay, az, ba⟩ := (Y1 M).c4; go_wp2_with fail
 clear ar au av aw ax ay az ba; refine st4V (.int .i64 (sg (nu m))) (.slice a_1 (ln (nu m)) c_2) (.int .i64 (sg (de m))) (.slice b_3 (ln (de m)) d_4) (Y1 M) (J4 M) fun w3 hv og hk hbw => ?_; rw [← hv]; replace M := hI (aI ((Y0 M).f (Y1 M) og) (aI hk (aI ((Y2 M).o og) (aI ((Y3 M).o og) hbw)))); clear hk hbw og hv; refine bodyPost_ret (results_box2 rfl _ _ (w.heap.size + 1 + 1) 36 _ _ _ rfl (Y1 M) Tryz.underlying36 rfl (by kernel_rfl)) rfl ?_; exact ⟨a_1, c_2, b_3, d_4, rfl, (Y0 M), (J4 M)⟩
theorem fracMax_is {q r m : Rat} {a1 b1 a2 b2 : Option Addr} {c1 d1 c2 d2 : Nat} {w : World} (hG : G ≤ w.heap.size) (h1 : FD G w a1 c1 b1 d1 q) (h2 : FD G w a2 c2 b2 d2 r) (hx : Fz q 137438953472) (hy : Fz r 137438953472) (hm : pick q r 1 = m) :
 Calls Tryz.prog 44 #[.agg #[.int .i64 (sg (nu q)), .slice a1 (ln (nu q)) c1, .int .i64 (sg (de q)), .slice b1 (ln (de q)) d1], .agg #[.int .i64 (sg (nu r)), .slice a2 (ln (nu r)) c2, .int .i64 (sg (de r)), .slice b2 (ln (de r)) d2]] w fun e w' => ∃ a c b d, e = .returned (.tuple #[.agg #[.int .i64 (sg (nu m)), .slice a (ln (nu m)) c, .int .i64 (sg (de m)), .slice b (ln (de m)) d], .int .i64 0]) ∧ FD G w' a c b d m ∧ Below w.heap.size w w' := by
 have HM := hI hm; clear hm; have HX := hI hx; have HY := hI hy; clear hx hy; have H1 : Hid (FD G w a1 c1 b1 d1 q) := h1; have H2 : Hid (FD G w a2 c2 b2 d2 r) := h2; clear h1 h2; have M : Hid (Below w.heap.size w w) := Below.refl _ _; go_enter Tryz.func44, Tryz.ntmps44
 go_upto_region 1 with fail
 generalize hv : World.alloc (World.alloc (World.alloc w _) _) _ = w1; replace M := al3W hv.symm M; clear hv; obtain ⟨aa, ab, ac, ad, ae, af, ag, ah⟩ := (Y2 M).c4; obtain ⟨ai, aj, ak, al, am, ao, ap, aq⟩ := (Y1 M).c4; go_wp2_with fail
 clear aa ab ac ad ae af ag ah ai aj ak al am ao ap aq; refine (either_is (G := G) (q := q) (r := r) (s := 1) (m := m) (H1.out.keep (J3 M)) (H2.out.keep (J3 M)) HX.out HY.out (by decide) HM.out).mono ?_; rintro e w2 ⟨a_1, c_2, b_3, d_4, rfl, hd5, hb⟩; replace M := adM hd5 hb M; clear hb hd5; obtain ⟨ar, au, av, aw, ax, ay, az, ba⟩ := (Y1 M).c4; go_wp2_with fail
 clear ar au av aw ax ay az ba; refine st4V (.int .i64 (sg (nu m))) (.slice a_1 (ln (nu m)) c_2) (.int .i64 (sg (de m))) (.slice b_3 (ln (de m)) d_4) (Y1 M) (J4 M) fun w3 hv og hk hbw => ?_; rw [← hv]; replace M := hI (aI ((Y0 M).f (Y1 M) og) (aI hk (aI ((Y2 M).o og) (aI ((Y3 M).o og) hbw)))); clear hk hbw og hv; refine bodyPost_ret (results_box2 rfl _ _ (w.heap.size + 1 + 1) 36 _ _ _ rfl (Y1 M) Tryz.underlying36 rfl (by kernel_rfl)) rfl ?_; exact ⟨a_1, c_2, b_3, d_4, rfl, (Y0 M), (J4 M)⟩
theorem fracCompare_is {q r : Rat} {k : Int} {a1 b1 a2 b2 : Option Addr} {c1 d1 c2 d2 : Nat} {w : World} (h1 : FD G w a1 c1 b1 d1 q) (h2 : FD G w a2 c2 b2 d2 r) (hx : Fz q 137438953472) (hy : Fz r 137438953472) (hk : ordQ q r = k) :
 Calls Tryz.prog 36 #[.agg #[.int .i64 (sg (nu q)), .slice a1 (ln (nu q)) c1, .int .i64 (sg (de q)), .slice b1 (ln (de q)) d1], .agg #[.int .i64 (sg (nu r)), .slice a2 (ln (nu r)) c2, .int .i64 (sg (de r)), .slice b2 (ln (de r)) d2]] w fun e w' => e = .returned (.int .i64 k) ∧ Below w.heap.size w w' := by
 rw [← hk]; exact fracCompare_ok h1 h2 hx hy
theorem fracSign_is {q : Rat} {k : Int} {a1 b1 : Option Addr} {c1 d1 : Nat} {w : World} (hG : G ≤ w.heap.size) (h1 : FD G w a1 c1 b1 d1 q) (hx : Fz q 137438953472) (hk : sg (nu q) = k) :
 Calls Tryz.prog 60 #[.agg #[.int .i64 (sg (nu q)), .slice a1 (ln (nu q)) c1, .int .i64 (sg (de q)), .slice b1 (ln (de q)) d1]] w fun e w' => e = .returned (.int .i64 k) ∧ Below w.heap.size w w' := by
 rw [← hk]; exact fracSign_ok hG h1 hx
end Go.Proofs.YtlcgckelamhnpaaGreat
