/- Meters and readings: which are formed well. -/
import Derived.Test.YtlcgckelamhnpaaGreatCtA
set_option maxRecDepth 100000
set_option maxHeartbeats 4000000
namespace Go.Proofs.YtlcgckelamhnpaaGreat
open Go.RowKit Go.Lib
variable {G : Nat}
theorem Fz.minQ {q r : Rat} {n : Nat} (h : Fz q n) (h' : Fz r n) : Fz (minQ q r) n := by unfold Go.Proofs.YtlcgckelamhnpaaGreat.minQ; split <;> assumption
theorem Fz.maxQ {q r : Rat} {n : Nat} (h : Fz q n) (h' : Fz r n) : Fz (maxQ q r) n := by unfold Go.Proofs.YtlcgckelamhnpaaGreat.maxQ; split <;> assumption
theorem ordQ_le0 (q r : Rat) : decide (ordQ q r ≤ 0) = decide (q ≤ r) := by
 apply decide_eq_decide.2
 constructor
 · intro h
   rcases (show q ≤ r ∨ r < q by grind) with h' | h'
   · exact h'
   · rw [ordQ_ge h'] at h; omega
 · intro h; have := ordQ_up h; omega
theorem ordQ_lt0 (q r : Rat) : decide (ordQ q r < 0) = decide (q < r) := by
 apply decide_eq_decide.2
 constructor
 · intro h
   rcases (show q < r ∨ r ≤ q by grind) with h' | h'
   · exact h'
   · exfalso; have := ordQ_swap q r; have := ordQ_up h'; omega
 · intro h; have := ordQ_swap q r; have := ordQ_ge h; omega
theorem ordQ_gt0 (q r : Rat) : decide (0 < ordQ q r) = decide (r < q) := by
 rw [← ordQ_lt0 r q]; apply decide_eq_decide.2; have := ordQ_swap q r; omega
theorem clone_bd {z : Int} {a : Option Addr} {c : Nat} {w : World} (h : BD G w a c z) (hz : Sz z 549755813888) :
 Calls Tryz.prog 70 #[.slice a (ln z) c] w fun e w' => ∃ b d, e = .returned (.slice b (ln z) d) ∧ BD G w' b d z ∧ Below w.heap.size w w' :=
 (clone_is (n := z.natAbs) h.rd hz).mono fun _ _ ⟨b, d, he, ho, hb⟩ => ⟨b, d, he, ⟨ho.rd, ho.le, ho.ty⟩, hb⟩
theorem minQ_lt {q r : Rat} (h : r < q) : minQ q r = r := by unfold minQ; rw [if_pos h]
theorem minQ_ge {q r : Rat} (h : ¬ r < q) : minQ q r = q := by unfold minQ; rw [if_neg h]
theorem maxQ_ge {q r : Rat} (h : ¬ q < r) : maxQ q r = q := by unfold maxQ; rw [if_neg h]
theorem fresh_fd {q : Rat} {a1 b1 : Option Addr} {c1 d1 : Nat} {w : World} (_hG : G ≤ w.heap.size) (h1 : FD G w a1 c1 b1 d1 q) (hx : Fz q 137438953472) :
 Calls Tryz.prog 38 #[.agg #[.int .i64 (sg (nu q)), .slice a1 (ln (nu q)) c1, .int .i64 (sg (de q)), .slice b1 (ln (de q)) d1]] w fun e w' => ∃ a c b d, e = .returned (.agg #[.int .i64 (sg (nu q)), .slice a (ln (nu q)) c, .int .i64 (sg (de q)), .slice b (ln (de q)) d]) ∧ FD G w' a c b d q ∧ Below w.heap.size w w' := by
 have HX := hI hx; clear hx; have H1 : Hid (FD G w a1 c1 b1 d1 q) := h1; clear h1; have M : Hid (Below w.heap.size w w) := Below.refl _ _; go_enter Tryz.func38, Tryz.ntmps38
 go_wp2_with fail
 generalize hv : World.alloc (World.alloc w _) _ = w1; replace M := al2W hv.symm M; clear hv; refine nmW w1.drew fun w2 hv => ?_; replace M := drM hv M; refine wp_region_held_drew (S := (fun _ => True)) (by kernel_rfl) trivial (fun hH7 => ?_); rw [← hv]; clear hv; refine tk4 at0 at1 at4 at5 ?_; refine ryW [2, 6] ?_; refine AllReadyH.cons at2 (fun K hK => ?_) ?_
 ·
  refine (Y1 M).D4 fun aa ab ac ad => ?_; go_simp; clear aa ab ac ad; refine hK.out _ _ (trivial) (fun hH8 => ?_); clear hK K hH7; (try simp only [Act.put, kq])
  refine ryW [3, 6] ?_; refine AllReadyH.cons at3 (fun K hK => ?_) ?_
  ·
   go_simp; refine (clone_bd (G := G) (z := (nu q)) (H1.out.keep (J2 M)).n (Sz.mono HX.out.1 (by omega))).mono ?_; rintro e w3 ⟨b_9, d_10, rfl, hd11, hb⟩; replace M := adM hd11 hb M; clear hb hd11; (try go_wp2_with fail)
   refine hK.out _ _ (trivial) (fun hH12 => ?_); clear hK K hH8; (try simp only [Act.put, kq])
   refine roW at6 fun K hK => ?_; refine (Y2 M).D4 fun aa ab ac ad => ?_; go_simp; clear aa ab ac ad; refine hK.out _ _ (trivial) (fun hH13 => ?_); clear hK K hH12; (try simp only [Act.put, kq])
   refine tk2 at8 at9 ?_; refine roW at7 fun K hK => ?_; go_simp; refine (clone_bd (G := G) (z := (de q)) (H1.out.keep (J3 M)).d (Sz.mono HX.out.2 (by omega))).mono ?_; rintro e w4 ⟨b_14, d_15, rfl, hd16, hb⟩; replace M := adM hd16 hb M; clear hb hd16; (try go_wp2_with fail)
   refine hK.out _ _ (trivial) (fun hH17 => ?_); clear hK K hH13; (try simp only [Act.put, kq])
   refine roW at10 fun K hK => ?_; refine cj8 (Y3 M).c4 fun aa ae ab af ac ag ad ah => ?_; go_simp; clear aa ae ab af ac ag ad ah; generalize hv : World.setCell w4 _ _ = w5; have og : w4.grownBy w5 (some w.heap.size) := by rw [← hv]; exact (only_setCell gW _)
   have hz : w.heap.size ≤ w.heap.size := by exact Nat.le_refl _
   have hk : Bx w5 w.heap.size 36 #[.int .i64 (sg (nu q)), .slice b_9 (ln (nu q)) d_10, .int .i64 (sg (de q)), .slice b1 (ln (de q)) d1] := by rw [← hv]; exact ((Y3 M).set 1 _)
   have hbw : Below w.heap.size w w5 := by rw [← hv]; exact (Below.setCell (J4 M) (by omega) _)
   replace M := hI (aI ((Y0 M).f (Y3 M) og) (aI ((Y1 M).f (Y3 M) og) (aI ((Y2 M).o og) (aI hk hbw)))); clear hk hbw og hv hz; refine hK.out _ _ (trivial) (fun hH18 => ?_); clear hK K hH17; (try simp only [Act.put, kq])
   refine tk2 at11 at12 ?_; refine roW at13 fun K hK => ?_; refine cj8 (Y3 M).c4 fun aa ae ab af ac ag ad ah => ?_; go_simp; clear aa ae ab af ac ag ad ah; generalize hv : World.setCell w5 _ _ = w6; have og : w5.grownBy w6 (some w.heap.size) := by rw [← hv]; exact (only_setCell gW _)
   have hz : w.heap.size ≤ w.heap.size := by exact Nat.le_refl _
   have hk : Bx w6 w.heap.size 36 #[.int .i64 (sg (nu q)), .slice b_9 (ln (nu q)) d_10, .int .i64 (sg (de q)), .slice b_14 (ln (de q)) d_15] := by rw [← hv]; exact ((Y3 M).set 3 _)
   have hbw : Below w.heap.size w w6 := by rw [← hv]; exact (Below.setCell (J4 M) (by omega) _)
   replace M := hI (aI ((Y0 M).f (Y3 M) og) (aI ((Y1 M).f (Y3 M) og) (aI ((Y2 M).o og) (aI hk hbw)))); clear hk hbw og hv hz; refine hK.out _ _ (trivial) (fun hH19 => ?_); clear hK K hH18; (try simp only [Act.put, kq])
   refine dnW ?_; clear hH19; refine (Y3 M).D4 fun aa ab ac ad => ?_; refine cj8 (Y2 M).c4 fun ai aj ak al am ao ap aq => ?_; go_wp2_with fail
   clear aa ab ac ad ai aj ak al am ao ap aq; refine st4V (.int .i64 (sg (nu q))) (.slice b_9 (ln (nu q)) d_10) (.int .i64 (sg (de q))) (.slice b_14 (ln (de q)) d_15) (Y2 M) (J4 M) fun w7 hv og hk hbw => ?_; rw [← hv]; replace M := hI (aI ((Y0 M).f (Y2 M) og) (aI ((Y1 M).f (Y2 M) og) (aI hk (aI ((Y3 M).o og) hbw)))); clear hk hbw og hv; refine bodyPost_ret (results_box1 rfl _ _ (w.heap.size + 1) 36 _ _ _ rfl (Y2 M) Tryz.underlying36 rfl (by kernel_rfl)) rfl ?_; exact ⟨b_9, d_10, b_14, d_15, rfl, FD.mk (Y1 M) (Y0 M), (J4 M)⟩
  refine AllReadyH.cons at6 (fun K hK => ?_) AllReadyH.nil; refine (Y1 M).D4 fun aa ab ac ad => ?_; go_simp; clear aa ab ac ad; refine hK.out _ _ (trivial) (fun hH20 => ?_); clear hK K hH8; (try simp only [Act.put, kq])
  refine roW at3 fun K hK => ?_; go_simp; refine (clone_bd (G := G) (z := (nu q)) (H1.out.keep (J2 M)).n (Sz.mono HX.out.1 (by omega))).mono ?_; rintro e w3 ⟨b_21, d_22, rfl, hd23, hb⟩; replace M := adM hd23 hb M; clear hb hd23; (try go_wp2_with fail)
  refine hK.out _ _ (trivial) (fun hH24 => ?_); clear hK K hH20; (try simp only [Act.put, kq])
  refine tk2 at8 at9 ?_; refine roW at7 fun K hK => ?_; go_simp; refine (clone_bd (G := G) (z := (de q)) (H1.out.keep (J3 M)).d (Sz.mono HX.out.2 (by omega))).mono ?_; rintro e w4 ⟨b_25, d_26, rfl, hd27, hb⟩; replace M := adM hd27 hb M; clear hb hd27; (try go_wp2_with fail)
  refine hK.out _ _ (trivial) (fun hH28 => ?_); clear hK K hH24; (try simp only [Act.put, kq])
  refine roW at10 fun K hK => ?_; refine cj8 (Y3 M).c4 fun aa ae ab af ac ag ad ah => ?_; go_simp; clear aa ae ab af ac ag ad ah; generalize hv : World.setCell w4 _ _ = w5; have og : w4.grownBy w5 (some w.heap.size) := by rw [← hv]; exact (only_setCell gW _)
  have hz : w.heap.size ≤ w.heap.size := by exact Nat.le_refl _
  have hk : Bx w5 w.heap.size 36 #[.int .i64 (sg (nu q)), .slice b_21 (ln (nu q)) d_22, .int .i64 (sg (de q)), .slice b1 (ln (de q)) d1] := by rw [← hv]; exact ((Y3 M).set 1 _)
  have hbw : Below w.heap.size w w5 := by rw [← hv]; exact (Below.setCell (J4 M) (by omega) _)
  replace M := hI (aI ((Y0 M).f (Y3 M) og) (aI ((Y1 M).f (Y3 M) og) (aI ((Y2 M).o og) (aI hk hbw)))); clear hk hbw og hv hz; refine hK.out _ _ (trivial) (fun hH29 => ?_); clear hK K hH28; (try simp only [Act.put, kq])
  refine tk2 at11 at12 ?_; refine roW at13 fun K hK => ?_; refine cj8 (Y3 M).c4 fun aa ae ab af ac ag ad ah => ?_; go_simp; clear aa ae ab af ac ag ad ah; generalize hv : World.setCell w5 _ _ = w6; have og : w5.grownBy w6 (some w.heap.size) := by rw [← hv]; exact (only_setCell gW _)
  have hz : w.heap.size ≤ w.heap.size := by exact Nat.le_refl _
  have hk : Bx w6 w.heap.size 36 #[.int .i64 (sg (nu q)), .slice b_21 (ln (nu q)) d_22, .int .i64 (sg (de q)), .slice b_25 (ln (de q)) d_26] := by rw [← hv]; exact ((Y3 M).set 3 _)
  have hbw : Below w.heap.size w w6 := by rw [← hv]; exact (Below.setCell (J4 M) (by omega) _)
  replace M := hI (aI ((Y0 M).f (Y3 M) og) (aI ((Y1 M).f (Y3 M) og) (aI ((Y2 M).o og) (aI hk hbw)))); clear hk hbw og hv hz; refine hK.out _ _ (trivial) (fun hH30 => ?_); clear hK K hH29; (try simp only [Act.put, kq])
  refine dnW ?_; clear hH30; refine (Y3 M).D4 fun aa ab ac ad => ?_; refine cj8 (Y2 M).c4 fun ai aj ak al am ao ap aq => ?_; go_wp2_with fail
  clear aa ab ac ad ai aj ak al am ao ap aq; refine st4V (.int .i64 (sg (nu q))) (.slice b_21 (ln (nu q)) d_22) (.int .i64 (sg (de q))) (.slice b_25 (ln (de q)) d_26) (Y2 M) (J4 M) fun w7 hv og hk hbw => ?_; rw [← hv]; replace M := hI (aI ((Y0 M).f (Y2 M) og) (aI ((Y1 M).f (Y2 M) og) (aI hk (aI ((Y3 M).o og) hbw)))); clear hk hbw og hv; refine bodyPost_ret (results_box1 rfl _ _ (w.heap.size + 1) 36 _ _ _ rfl (Y2 M) Tryz.underlying36 rfl (by kernel_rfl)) rfl ?_; exact ⟨b_21, d_22, b_25, d_26, rfl, FD.mk (Y1 M) (Y0 M), (J4 M)⟩
 refine AllReadyH.cons at6 (fun K hK => ?_) AllReadyH.nil; refine (Y1 M).D4 fun aa ab ac ad => ?_; go_simp; clear aa ab ac ad; refine hK.out _ _ (trivial) (fun hH31 => ?_); clear hK K hH7; (try simp only [Act.put, kq])
 refine roW at2 fun K hK => ?_; refine (Y1 M).D4 fun aa ab ac ad => ?_; go_simp; clear aa ab ac ad; refine hK.out _ _ (trivial) (fun hH32 => ?_); clear hK K hH31; (try simp only [Act.put, kq])
 refine roW at3 fun K hK => ?_; go_simp; refine (clone_bd (G := G) (z := (nu q)) (H1.out.keep (J2 M)).n (Sz.mono HX.out.1 (by omega))).mono ?_; rintro e w3 ⟨b_33, d_34, rfl, hd35, hb⟩; replace M := adM hd35 hb M; clear hb hd35; (try go_wp2_with fail)
 refine hK.out _ _ (trivial) (fun hH36 => ?_); clear hK K hH32; (try simp only [Act.put, kq])
 refine tk2 at8 at9 ?_; refine roW at7 fun K hK => ?_; go_simp; refine (clone_bd (G := G) (z := (de q)) (H1.out.keep (J3 M)).d (Sz.mono HX.out.2 (by omega))).mono ?_; rintro e w4 ⟨b_37, d_38, rfl, hd39, hb⟩; replace M := adM hd39 hb M; clear hb hd39; (try go_wp2_with fail)
 refine hK.out _ _ (trivial) (fun hH40 => ?_); clear hK K hH36; (try simp only [Act.put, kq])
 refine roW at10 fun K hK => ?_; refine cj8 (Y3 M).c4 fun aa ae ab af ac ag ad ah => ?_; go_simp; clear aa ae ab af ac ag ad ah; generalize hv : World.setCell w4 _ _ = w5; have og : w4.grownBy w5 (some w.heap.size) := by rw [← hv]; exact (only_setCell gW _)
 have hz : w.heap.size ≤ w.heap.size := by exact Nat.le_refl _
 have hk : Bx w5 w.heap.size 36 #[.int .i64 (sg (nu q)), .slice b_33 (ln (nu q)) d_34, .int .i64 (sg (de q)), .slice b1 (ln (de q)) d1] := by rw [← hv]; exact ((Y3 M).set 1 _)
 have hbw : Below w.heap.size w w5 := by rw [← hv]; exact (Below.setCell (J4 M) (by omega) _)
 replace M := hI (aI ((Y0 M).f (Y3 M) og) (aI ((Y1 M).f (Y3 M) og) (aI ((Y2 M).o og) (aI hk hbw)))); clear hk hbw og hv hz; refine hK.out _ _ (trivial) (fun hH41 => ?_); clear hK K hH40; (try simp only [Act.put, kq])
 refine tk2 at11 at12 ?_; refine roW at13 fun K hK => ?_; refine cj8 (Y3 M).c4 fun aa ae ab af ac ag ad ah => ?_; go_simp; clear aa ae ab af ac ag ad ah; generalize hv : World.setCell w5 _ _ = w6; have og : w5.grownBy w6 (some w.heap.size) := by rw [← hv]; exact (only_setCell gW _)
 have hz : w.heap.size ≤ w.heap.size := by exact Nat.le_refl _
 have hk : Bx w6 w.heap.size 36 #[.int .i64 (sg (nu q)), .slice b_33 (ln (nu q)) d_34, .int .i64 (sg (de q)), .slice b_37 (ln (de q)) d_38] := by rw [← hv]; exact ((Y3 M).set 3 _)
 have hbw : Below w.heap.size w w6 := by rw [← hv]; exact (Below.setCell (J4 M) (by omega) _)
 replace M := hI (aI ((Y0 M).f (Y3 M) og) (aI ((Y1 M).f (Y3 M) og) (aI ((Y2 M).o og) (aI hk hbw)))); clear hk hbw og hv hz; refine hK.out _ _ (trivial) (fun hH42 => ?_); clear hK K hH41; (try simp only [Act.put, kq])
 refine dnW ?_; clear hH42; refine (Y3 M).D4 fun aa ab ac ad => ?_; refine cj8 (Y2 M).c4 fun ai aj ak al am ao ap aq => ?_; go_wp2_with fail
 clear aa ab ac ad ai aj ak al am ao ap aq; refine st4V (.int .i64 (sg (nu q))) (.slice b_33 (ln (nu q)) d_34) (.int .i64 (sg (de q))) (.slice b_37 (ln (de q)) d_38) (Y2 M) (J4 M) fun w7 hv og hk hbw => ?_; rw [← hv]; replace M := hI (aI ((Y0 M).f (Y2 M) og) (aI ((Y1 M).f (Y2 M) og) (aI hk (aI ((Y3 M).o og) hbw)))); clear hk hbw og hv; refine bodyPost_ret (results_box1 rfl _ _ (w.heap.size + 1) 36 _ _ _ rfl (Y2 M) Tryz.underlying36 rfl (by kernel_rfl)) rfl ?_; exact ⟨b_33, d_34, b_37, d_38, rfl, FD.mk (Y1 M) (Y0 M), (J4 M)⟩
theorem fresh_ok {u0 u1 u2 u3 : Value} {q : Rat} {w : World} (hG : G ≤ w.heap.size) (h1 : FQ G w u0 u1 u2 u3 q) (hx : Fz q 137438953472) :
 Calls Tryz.prog 38 #[.agg #[u0, u1, u2, u3]] w fun e w' => ∃ x0 x1 x2 x3, e = .returned (.agg #[x0, x1, x2, x3]) ∧ FQ G w' x0 x1 x2 x3 q ∧ Below w.heap.size w w' := by
 obtain ⟨a1, c1, b1, d1, rfl, rfl, rfl, rfl, k1⟩ := h1.ex; exact (fresh_fd hG k1 hx).mono fun e w' ⟨a, c, b, d, he, hd, hb⟩ => ⟨_, _, _, _, he, FQ.of hd, hb⟩
theorem spRight_q {u0 u1 u2 u3 u4 u5 u6 u7 : Value} {p q : Rat} {b_ : Bool} {w : World} (h1 : FQ G w u0 u1 u2 u3 p) (h2 : FQ G w u4 u5 u6 u7 q) (hx : Fz p 137438953472) (hy : Fz q 137438953472) (hb : decide (p ≤ q) = b_) :
 Calls Tryz.prog 45 #[.agg #[u0, u1, u2, u3, u4, u5, u6, u7]] w fun e w' => e = .returned (.bool b_) ∧ Below w.heap.size w w' := by
 have HX := hI hx; have HY := hI hy; clear hx hy; obtain ⟨k1, hk1⟩ : ∃ k, ordQ p q = k := ⟨_, rfl⟩; obtain ⟨b1, hb1⟩ : ∃ b, decide (p ≤ q) = b := ⟨_, rfl⟩; have hd1 : decide (k1 ≤ 0) = b1 := by rw [← hb1, ← hk1]; exact ordQ_le0 p q
 have Hk1 := hI hk1; have HB1 := hI hb1; clear hk1 hb1; rw [HB1.out] at hb; subst hb; have H1 : Hid (FQ G w u0 u1 u2 u3 p) := h1; have H2 : Hid (FQ G w u4 u5 u6 u7 q) := h2; clear h1 h2; have M : Hid (Below w.heap.size w w) := Below.refl _ _; go_enter Tryz.func45, Tryz.ntmps45
 go_upto_region 1 with fail
 generalize hv : World.alloc w _ = w1; replace M := alM hv.symm M; clear hv; refine (Y0 M).D8 fun aa ab ac ad ae af ag ah => ?_; go_wp2_with fail
 clear aa ab ac ad ae af ag ah; refine (fqRight (G := G) (q := p) (H1.out.keep (J1 M)) (Fz.mono HX.out (by omega))).mono ?_; rintro e w2 ⟨rfl, hb⟩; replace M := gnM hb M; clear hb; refine (Y0 M).D8 fun aa ab ac ad ae af ag ah => ?_; go_wp2_with fail
 clear aa ab ac ad ae af ag ah; refine (fqRight (G := G) (q := q) (H2.out.keep (J1 M)) (Fz.mono HY.out (by omega))).mono ?_; rintro e w3 ⟨rfl, hb⟩; replace M := gnM hb M; clear hb; refine (Y0 M).D8 fun aa ab ac ad ae af ag ah => ?_; go_wp2_with fail
 clear aa ab ac ad ae af ag ah; refine (fqCompare (G := G) (q := p) (r := q) (k := k1) (H1.out.keep (J1 M)) (H2.out.keep (J1 M)) HX.out HY.out Hk1.out).mono ?_; rintro e w4 ⟨rfl, hb⟩; replace M := gnM hb M; clear hb; go_wp2_with fail
 go_ret
 exact ⟨rfl, (J1 M)⟩
theorem spAdd_q {u0 u1 u2 u3 u4 u5 u6 u7 v0 v1 v2 v3 v4 v5 v6 v7 : Value} {p q r s : Rat} {w : World} (_hG : G ≤ w.heap.size) (h1 : FQ G w u0 u1 u2 u3 p) (h2 : FQ G w u4 u5 u6 u7 q) (h3 : FQ G w v0 v1 v2 v3 r) (h4 : FQ G w v4 v5 v6 v7 s) (hp : Fz p 34359738368) (hq : Fz q 34359738368) (hr : Fz r 34359738368) (hs : Fz s 34359738368) (ha : p ≤ q) (hb : r ≤ s)  :
 Calls Tryz.prog 21 #[.agg #[u0, u1, u2, u3, u4, u5, u6, u7], .agg #[v0, v1, v2, v3, v4, v5, v6, v7]] w fun e w' => ∃ x0 x1 x2 x3 x4 x5 x6 x7, e = .returned (.tuple #[.agg #[x0, x1, x2, x3, x4, x5, x6, x7], .int .i64 0]) ∧ FQ G w' x0 x1 x2 x3 (p + r) ∧ FQ G w' x4 x5 x6 x7 (q + s) ∧ Below w.heap.size w w' := by
 have HP := hI hp; have HQ := hI hq; have HR := hI hr; have HS := hI hs; have HA := hI (decide_eq_true ha); have HB := hI (decide_eq_true hb); have HAA := hI ha; have HBB := hI hb; clear hp hq hr hs ha hb; have H1 : Hid (FQ G w u0 u1 u2 u3 p) := h1; have H2 : Hid (FQ G w u4 u5 u6 u7 q) := h2; have H3 : Hid (FQ G w v0 v1 v2 v3 r) := h3; have H4 : Hid (FQ G w v4 v5 v6 v7 s) := h4; clear h1 h2 h3 h4; have M : Hid (Below w.heap.size w w) := Below.refl _ _; go_enter Tryz.func21, Tryz.ntmps21
 go_upto_region 1 with fail
 generalize hv : World.alloc (World.alloc (World.alloc w _) _) _ = w1; replace M := al3W hv.symm M; clear hv; refine (Y2 M).D8 fun aa ab ac ad ae af ag ah => ?_; go_wp2_with fail
 clear aa ab ac ad ae af ag ah; refine (spRight_q (G := G) (p := p) (q := q) (b_ := true) (H1.out.keep (J3 M)) (H2.out.keep (J3 M)) (Fz.mono HP.out (by omega)) (Fz.mono HQ.out (by omega)) HA.out).mono ?_; rintro e w2 ⟨rfl, hb⟩; replace M := gnM hb M; clear hb; refine (Y1 M).D8 fun ai aj ak al am ao ap aq => ?_; go_wp2_with fail
 clear ai aj ak al am ao ap aq; refine (spRight_q (G := G) (p := r) (q := s) (b_ := true) (H3.out.keep (J3 M)) (H4.out.keep (J3 M)) (Fz.mono HR.out (by omega)) (Fz.mono HS.out (by omega)) HB.out).mono ?_; rintro e w3 ⟨rfl, hb⟩; replace M := gnM hb M; clear hb; refine (Y2 M).D8 fun aa ab ac ad ae af ag ah => ?_; refine (Y1 M).D8 fun ai aj ak al am ao ap aq => ?_; go_wp2_with fail
 clear aa ab ac ad ae af ag ah ai aj ak al am ao ap aq; refine nmW (α := Rat) (p + r) fun q5 eq5 => ?_; refine (fqAdd (G := G) (q := p) (r := r) (H1.out.keep (J3 M)) (H3.out.keep (J3 M)) (Fz.mono HP.out (by omega)) (Fz.mono HR.out (by omega))).mono ?_; rintro e w4 ⟨x_1, x_2, x_3, x_4, rfl, hd6, hb⟩; rw [← eq5] at hd6; have Sq5 := szW eq5 (n := 68719476737) (Fz.add HP.out HR.out); have Eq5 := hI eq5; clear eq5; replace M := adM hd6 hb M; clear hb hd6; refine cj4 (TQ.st (Y0 M)) fun ar au av aw => ?_; go_upto_region 4 with fail
 clear ar au av aw; generalize hv : World.alloc w4 _ = w5; have ow3_ := ((Y1 M)).lt; replace M := alM hv.symm M; clear hv; refine (Y4 M).D8 fun aa ab ac ad ae af ag ah => ?_; refine (Y3 M).D8 fun ai aj ak al am ao ap aq => ?_; go_wp2_with fail
 clear aa ab ac ad ae af ag ah ai aj ak al am ao ap aq; refine nmW (α := Rat) (q + s) fun q11 eq11 => ?_; refine (fqAdd (G := G) (q := q) (r := s) (H2.out.keep (J5 M)) (H4.out.keep (J5 M)) (Fz.mono HQ.out (by omega)) (Fz.mono HS.out (by omega))).mono ?_; rintro e w6 ⟨x_7, x_8, x_9, x_10, rfl, hd12, hb⟩; rw [← eq11] at hd12; have Sq11 := szW eq11 (n := 68719476737) (Fz.add HQ.out HS.out); have Eq11 := hI eq11; clear eq11; replace M := adM hd12 hb M; clear hb hd12; refine cj4 (TQ.st (Y0 M)) fun ax ay az ba => ?_; go_upto_region 5 with fail
 clear ax ay az ba; generalize hv : World.alloc w6 _ = w7; have ow4_ := ((Y1 M)).lt; replace M := alM hv.symm M; clear hv; refine (Y2 M).D4 fun bb bc bd bf => ?_; refine (Y0 M).D4 fun bg bh bi bj => ?_; refine cj16 (Y4 M).c8 fun bk bl bm bn bo bp bq br bs bt bu bv bw bx bz ca => ?_; refine cj4 (TQ.st (Y3 M)) fun ar au av aw => ?_; refine cj4 (TQ.st (Y1 M)) fun ax ay az ba => ?_; go_wp2_with fail
 clear bb bc bd bf bg bh bi bj bk bl bm bn bo bp bq br bs bt bu bv bw bx bz ca ar au av aw ax ay az ba; refine st8V (x_1) (x_2) (x_3) (x_4) (x_7) (x_8) (x_9) (x_10) (Y4 M) (J7 M) fun w8 hv og hk hbw => ?_; rw [← hv]; replace M := hI (aI ((Y0 M).o og) (aI ((Y1 M).f (Y4 M) og) (aI ((Y2 M).o og) (aI ((Y3 M).f (Y4 M) og) (aI hk (aI ((Y5 M).o og) (aI ((Y6 M).o og) hbw))))))); clear hk hbw og hv; refine bodyPost_ret (results_box2 rfl _ _ (w.heap.size + 1 + 1) 38 _ _ _ rfl (Y4 M) Tryz.underlying38 rfl (by kernel_rfl)) rfl ?_; exact ⟨x_1, x_2, x_3, x_4, x_7, x_8, x_9, x_10, rfl, (by have h_ := (Y3 M); rw [Eq5.out] at h_; exact h_), (by have h_ := (Y1 M); rw [Eq11.out] at h_; exact h_), (J7 M)⟩
theorem spHas_q {u0 u1 u2 u3 u4 u5 u6 u7 v0 v1 v2 v3 : Value} {p q x : Rat} {b_ : Bool} {w : World} (_hG : G ≤ w.heap.size) (h1 : FQ G w u0 u1 u2 u3 p) (h2 : FQ G w u4 u5 u6 u7 q) (hp : Fz p 137438953472) (hq : Fz q 137438953472) (ha : p ≤ q) (h3 : FQ G w v0 v1 v2 v3 x) (hx : Fz x 137438953472) (hb : (decide (p ≤ x) && decide (x ≤ q)) = b_) :
 Calls Tryz.prog 61 #[.agg #[u0, u1, u2, u3, u4, u5, u6, u7], .agg #[v0, v1, v2, v3]] w fun e w' => e = .returned (.bool b_) ∧ Below w.heap.size w w' := by
 have HP := hI hp; have HQ := hI hq; have HA := hI (decide_eq_true ha); have HAA := hI ha; clear hp hq ha; have HX := hI hx; clear hx; obtain ⟨k1, hk1⟩ : ∃ k, ordQ p x = k := ⟨_, rfl⟩; obtain ⟨b1, hb1⟩ : ∃ b, decide (p ≤ x) = b := ⟨_, rfl⟩; have hd1 : decide (k1 ≤ 0) = b1 := by rw [← hb1, ← hk1]; exact ordQ_le0 p x
 have Hk1 := hI hk1; have HB1 := hI hb1; clear hk1 hb1; obtain ⟨k2, hk2⟩ : ∃ k, ordQ x q = k := ⟨_, rfl⟩; obtain ⟨b2, hb2⟩ : ∃ b, decide (x ≤ q) = b := ⟨_, rfl⟩; have hd2 : decide (k2 ≤ 0) = b2 := by rw [← hb2, ← hk2]; exact ordQ_le0 x q
 have Hk2 := hI hk2; have HB2 := hI hb2; clear hk2 hb2; rw [HB1.out, HB2.out] at hb; subst hb; have H1 : Hid (FQ G w u0 u1 u2 u3 p) := h1; have H2 : Hid (FQ G w u4 u5 u6 u7 q) := h2; have H3 : Hid (FQ G w v0 v1 v2 v3 x) := h3; clear h1 h2 h3; have M : Hid (Below w.heap.size w w) := Below.refl _ _; go_enter Tryz.func61, Tryz.ntmps61
 go_upto_region 1 with fail
 generalize hv : World.alloc (World.alloc w _) _ = w1; replace M := al2W hv.symm M; clear hv; refine (Y1 M).D8 fun aa ab ac ad ae af ag ah => ?_; go_wp2_with fail
 clear aa ab ac ad ae af ag ah; refine (spRight_q (G := G) (p := p) (q := q) (b_ := true) (H1.out.keep (J2 M)) (H2.out.keep (J2 M)) HP.out HQ.out HA.out).mono ?_; rintro e w2 ⟨rfl, hb⟩; replace M := gnM hb M; clear hb; refine (Y0 M).D4 fun ai aj ak al => ?_; go_wp2_with fail
 clear ai aj ak al; refine (fqRight (G := G) (q := x) (H3.out.keep (J2 M)) (Fz.mono HX.out (by omega))).mono ?_; rintro e w3 ⟨rfl, hb⟩; replace M := gnM hb M; clear hb; refine (Y1 M).D8 fun aa ab ac ad ae af ag ah => ?_; refine (Y0 M).D4 fun ai aj ak al => ?_; go_wp2_with fail
 clear aa ab ac ad ae af ag ah ai aj ak al; refine (fqCompare (G := G) (q := p) (r := x) (k := k1) (H1.out.keep (J2 M)) (H3.out.keep (J2 M)) HP.out HX.out Hk1.out).mono ?_; rintro e w4 ⟨rfl, hb⟩; replace M := gnM hb M; clear hb
 cases b1 with
 | false =>
  go_wp2_with fail
  go_ret
  exact ⟨rfl, (J2 M)⟩
 | true =>
  refine (Y0 M).D4 fun ai aj ak al => ?_; refine (Y1 M).D8 fun aa ab ac ad ae af ag ah => ?_; go_wp2_with fail
  clear ai aj ak al aa ab ac ad ae af ag ah; refine (fqCompare (G := G) (q := x) (r := q) (k := k2) (H3.out.keep (J2 M)) (H2.out.keep (J2 M)) HX.out HQ.out Hk2.out).mono ?_; rintro e w5 ⟨rfl, hb⟩; replace M := gnM hb M; clear hb; go_wp2_with fail
  go_ret
  exact ⟨rfl, (J2 M)⟩
theorem spPoint_q {u0 u1 u2 u3 : Value} {q : Rat} {w : World} (hG : G ≤ w.heap.size) (h1 : FQ G w u0 u1 u2 u3 q) (hx : Fz q 137438953472) :
 Calls Tryz.prog 17 #[.agg #[u0, u1, u2, u3]] w fun e w' => ∃ x0 x1 x2 x3 x4 x5 x6 x7, e = .returned (.agg #[x0, x1, x2, x3, x4, x5, x6, x7]) ∧ FQ G w' x0 x1 x2 x3 q ∧ FQ G w' x4 x5 x6 x7 q ∧ Below w.heap.size w w' := by
 have HX := hI hx; clear hx; have H1 : Hid (FQ G w u0 u1 u2 u3 q) := h1; clear h1; have M : Hid (Below w.heap.size w w) := Below.refl _ _; go_enter Tryz.func17, Tryz.ntmps17
 go_upto_region 1 with fail
 generalize hv : World.alloc (World.alloc w _) _ = w1; replace M := al2W hv.symm M; clear hv; refine (Y1 M).D4 fun aa ab ac ad => ?_; go_wp2_with fail
 clear aa ab ac ad; refine (fqRight (G := G) (q := q) (H1.out.keep (J2 M)) (Fz.mono HX.out (by omega))).mono ?_; rintro e w2 ⟨rfl, hb⟩; replace M := gnM hb M; clear hb; go_wp2_with fail
 refine nmW w2.drew fun w3 hv => ?_; replace M := drM hv M; refine rg4W hv ((Y1 M)) fun hH11 => ?_; clear hv; refine tk2 at0 at2 ?_; refine roW at1 fun K hK => ?_; go_simp; refine (fresh_ok (G := G) (q := q) (Nat.le_trans hG (J2 M).size) (H1.out.keep (J2 M)) HX.out).mono ?_; rintro e w4 ⟨x_12, x_13, x_14, x_15, rfl, hd16, hb⟩; replace M := adM hd16 hb M; clear hb hd16; (try go_wp2_with fail)
 refine hK.out _ _ ((Y2 M).d4) (fun hH17 => ?_); clear hK K hH11; (try simp only [Act.put, kq])
 refine roW at3 fun K hK => ?_; go_simp; refine (fresh_ok (G := G) (q := q) (Nat.le_trans hG (J3 M).size) (H1.out.keep (J3 M)) HX.out).mono ?_; rintro e w5 ⟨x_18, x_19, x_20, x_21, rfl, hd22, hb⟩; replace M := adM hd22 hb M; clear hb hd22; (try go_wp2_with fail)
 refine hK.out _ _ ((Y3 M).d4) (fun hH23 => ?_); clear hK K hH17; (try simp only [Act.put, kq])
 refine tk at4 ?_; refine roW at5 fun K hK => ?_; refine cj16 (Y2 M).c8 fun ae af ag ah ai aj ak al am ao ap aq ar au av aw => ?_; refine cj4 (TQ.st (Y1 M)) fun ax ay az ba => ?_; refine cj4 (TQ.st (Y0 M)) fun bb bc bd bf => ?_; go_simp; clear ae af ag ah ai aj ak al am ao ap aq ar au av aw ax ay az ba bb bc bd bf; refine st8V (x_12) (x_13) (x_14) (x_15) (x_18) (x_19) (x_20) (x_21) (Y2 M) (J4 M) fun w6 hv og hk hbw => ?_; rw [← hv]; replace M := hI (aI ((Y0 M).f (Y2 M) og) (aI ((Y1 M).f (Y2 M) og) (aI hk (aI ((Y3 M).o og) hbw)))); clear hk hbw og hv; refine hK.out _ _ ((Y3 M).d4) (fun hH24 => ?_); clear hK K hH23; (try simp only [Act.put, kq])
 refine dnW ?_; clear hH24; go_wp2_with fail
 refine bodyPost_ret (results_box1 rfl _ _ (w.heap.size + 1) 38 _ _ _ rfl (Y2 M) Tryz.underlying38 rfl (by kernel_rfl)) rfl ?_; exact ⟨x_12, x_13, x_14, x_15, x_18, x_19, x_20, x_21, rfl, (Y1 M), (Y0 M), (J4 M)⟩
theorem pick_min (q r : Rat) : pick q r (-1) = minQ q r := by
 rcases (show q ≤ r ∨ r < q by grind) with h | h
 · rw [fracMin_1 h, minQ_ge (by grind)]
 · rw [fracMin_2 h, minQ_lt h]
theorem pick_max (q r : Rat) : pick q r 1 = maxQ q r := by
 rcases (show q ≤ r ∨ r < q by grind) with h | h
 · rw [fracMax_3 h]; unfold maxQ; split <;> grind
 · rw [fracMax_2 h, maxQ_ge (by grind)]
theorem fz_leastF {day : Int} {N : Nat} : ∀ {l : List MkC} {q : Rat}, MkZ l N → Fz q N → Fz ((l.map MkC.mk').foldl (leastF day) q) N
 | [], q, _, h => h
 | x :: l, q, hz, h => by
  rw [List.map_cons, List.foldl_cons]; refine fz_leastF (fun y hy => hz y (by simp [hy])) ?_; unfold leastF
  split
  · exact Fz.maxQ h (hz x (by simp)).1
  · exact h
theorem least_fz {l : List MkC} {N : Nat} (hz : MkZ l N) (h1 : 4 ≤ N) (day : Int) : Fz (leastQ (l.map MkC.mk') day) N :=
 fz_leastF hz ((Fz.int64 (x := 0) (by decide)).mono (by omega))
theorem oz_mostF {day : Int} {N : Nat} : ∀ {l : List MkC} {o : Option Rat}, MkZ l N → Oz o N → Oz ((l.map MkC.mk').foldl (mostF day) o) N
 | [], o, _, h => h
 | x :: l, o, hz, h => by
  rw [List.map_cons, List.foldl_cons]; refine oz_mostF (fun y hy => hz y (by simp [hy])) ?_; unfold mostF
  split
  · exact h
  · have h2 := (hz x (by simp)).2
    cases o with
    | none => exact Oz.some_ h2
    | some q => exact Oz.some_ (Fz.minQ h h2)
theorem most_oz {l : List MkC} {N : Nat} (hz : MkZ l N) (day : Int) : Oz (mostO (l.map MkC.mk') day) N := oz_mostF hz Oz.none_
theorem take_all {α : Type} {l : List α} {k : Nat} (h : l.length ≤ k) : l.take k = l := List.take_of_length_le h
theorem ctLeast {day : Int} {q : Rat} {l : List MkC} {a : Option Addr} {n c : Nat} {w : World} (hG : G ≤ w.heap.size) (h : RdM G w a n c l) (_hn : n ≤ 1000000) (hz : MkZ l 60) (hq : leastQ (l.map MkC.mk') day = q) :
 Calls Tryz.prog 43 #[.slice a n c, .int .i64 day] w fun e w' => ∃ x0 x1 x2 x3, e = .returned (.agg #[x0, x1, x2, x3]) ∧ FQ G w' x0 x1 x2 x3 q ∧ Below w.heap.size w w' := by
 have HZ := hI hz; clear hz; have HQ_ := hI hq; clear hq; have HL : Hid (RdM G w a n c l) := h; clear h; have M : Hid (Below w.heap.size w w) := Below.refl _ _; go_enter Tryz.func43, Tryz.ntmps43
 go_upto_region 1 with fail
 generalize hv : World.alloc w _ = w1; replace M := alM hv.symm M; clear hv; go_wp2_with fail
 refine nmW (α := Rat) ((0 : Int) : Rat) fun q5 eq5 => ?_; refine (fqInt (G := G) (x := 0) (by decide)).mono ?_; rintro e w2 ⟨x_1, x_2, x_3, x_4, rfl, hd6, hb⟩; rw [← eq5] at hd6; have Sq5 := szW eq5 (n := 4) (Fz.int64 (by decide)); have Eq5 := hI eq5; clear eq5; replace M := adM hd6 hb M; clear hb hd6; refine cj4 (TQ.st (Y0 M)) fun aa ab ac ad => ?_; go_upto_region 2 with fail
 clear aa ab ac ad; generalize hv : World.alloc w2 _ = w3; have ow1_ := ((Y1 M)).lt; replace M := alM hv.symm M; clear hv; go_wp2_with fail
 go_loopw [11] (fun i11 wr => ∃ (k : Nat) (qs : Rat) (g0 : Value) (g1 : Value) (g2 : Value) (g3 : Value), i11 = .int .i64 (k : Int) ∧ Hid (k ≤ n) ∧ Hid (leastQ ((l.map MkC.mk').take k) day = qs) ∧ Hid (Fz qs 60) ∧ Hid (Bx wr w2.heap.size 36 #[g0, g1, g2, g3] ∧ FQ G wr g0 g1 g2 g3 qs ∧ Bx wr w.heap.size 36 #[.int .i64 0, .slice none 0 0, .int .i64 0, .slice none 0 0] ∧ Below w.heap.size w wr)) (fun i11 _ => n - (RowKit.intOf i11).toNat)
 case atStart =>
  exact ⟨0, q5, x_1, x_2, x_3, x_4, rfl, (by show _ ≤ _; omega), (hI (by rw [Eq5.out]; rfl)), (hI (Fz.mono Sq5.out (by omega))), hI (aI (Y0 M) (aI (Y1 M) (aI (Y2 M) (J3 M))))⟩
 case round =>
  obtain ⟨w4, rfl⟩ : ∃ x, x = wr := ⟨_, rfl⟩; clear M; obtain ⟨k, qs, g0, g1, g2, g3, rfl, hk, HV, HSq, M⟩ := hrel; have hk := hk.out
  by_cases hlt : k < n
  ·
   refine ltW (show k < n by omega) fun e1_0 e1_1 e1_i => ?_; obtain ⟨b, off, rfl, hb_⟩ := RdL.ptr HL.out (by omega : 0 < n); have hkl_ : k < l.length := by rw [HL.out.len]; exact hlt
   obtain ⟨x_, hx_⟩ : ∃ x, l[k]? = some x := ⟨l[k], List.getElem?_eq_getElem hkl_⟩; obtain ⟨xd, xu0, xu1, xu2, xu3, xlo, xv0, xv1, xv2, xv3, xhi⟩ := x_; have HRx : Hid (Row w b (off + k * 9) [.int .i64 xd, xu0, xu1, xu2, xu3, xv0, xv1, xv2, xv3]) := hb_.row hx_; have HQx : Hid (FQ G w xu0 xu1 xu2 xu3 xlo) := (hb_.ok hx_).1; have HSx : Hid (FQ G w xv0 xv1 xv2 xv3 xhi) := (hb_.ok hx_).2; have HEx := hI hx_; have hz_ := HZ.out _ (List.mem_of_getElem? hx_); have HZx1 : Hid (Fz xlo 60) := hz_.1; have HZx2 : Hid (Fz xhi 60) := hz_.2; have HMx : Hid ((l.map MkC.mk')[k]? = some ⟨xd, xlo, xhi⟩) := by show _ = _; rw [List.getElem?_map, hx_]; rfl
   clear hx_ hb_ hkl_ hz_; obtain ⟨t1, ht1_⟩ : ∃ b, decide (xd ≤ day) = b := ⟨_, rfl⟩; have Ht1 := hI ht1_; have HN := hI (least_next (day := day) HMx.out); refine cj4 (TQ.st (HQx.out.keep (J3 M))) fun ae af ag ah => ?_; refine cj4 (TQ.st (HSx.out.keep (J3 M))) fun ai aj ak al => ?_; refine cj9 (HRx.out.keep (J3 M)).c9 fun r0_0 r0_1 r0_2 r0_3 r0_4 r0_5 r0_6 r0_7 r0_8 => ?_; go_upto_region 5 with fail
   clear ae af ag ah ai aj ak al r0_0 r0_1 r0_2 r0_3 r0_4 r0_5 r0_6 r0_7 r0_8; generalize hv : World.alloc w4 _ = w5; have ow2_ := (Y0 M).lt; replace M := alM hv.symm M; clear hv
   cases t1 with
   | false =>
    refine (Y0 M).D9 fun am ao ap aq ar au av aw ax => ?_; go_wp2_with fail
    clear am ao ap aq ar au av aw ax; go_roundw
    case rel => exact ⟨(k + 1), qs, g0, g1, g2, g3, by go_num, (by show _ ≤ _; omega), (hI (by rw [HN.out, HV.out]; show (if _ then _ else _) = _; rw [if_neg (of_decide_eq_false Ht1.out)])), (hI (by have h_ := HSq.out; exact h_)), hI (aI (Y1 M) (aI (Y2 M) (aI (Y3 M) (J4 M))))⟩
    case measure => simp [RowKit.intOf] <;> omega
   | true =>
    refine (Y0 M).D9 fun am ao ap aq ar au av aw ax => ?_; refine (Y1 M).D4 fun ay az ba bb => ?_; go_wp2_with fail
    clear am ao ap aq ar au av aw ax ay az ba bb; refine (fqMax (G := G) (q := qs) (r := xlo) (m := (maxQ qs xlo)) (Nat.le_trans hG (J4 M).size) (Y2 M) (HQx.out.keep (J4 M)) (Fz.mono HSq.out (by omega)) (Fz.mono HZx1.out (by omega)) (pick_max _ _)).mono ?_; rintro e w6 ⟨x_7, x_8, x_9, x_10, rfl, hd11, hb⟩; replace M := adM hd11 hb M; clear hb hd11; refine cj8 (Y2 M).c4 fun ay bc az bd ba bf bb bg => ?_; refine cj4 (TQ.st (Y0 M)) fun bh bi bj bk => ?_; go_upto_region 7 with fail
    clear ay bc az bd ba bf bb bg bh bi bj bk; refine st4V (x_7) (x_8) (x_9) (x_10) (Y2 M) (J5 M) fun w7 hv og hk hbw => ?_; rw [← hv]; replace M := hI (aI ((Y0 M).f (Y2 M) og) (aI ((Y1 M).o og) (aI hk (aI ((Y3 M).f (Y2 M) og) (aI ((Y4 M).o og) hbw))))); clear hk hbw og hv; go_wp2_with fail
    go_roundw
    case rel => exact ⟨(k + 1), (maxQ qs xlo), x_7, x_8, x_9, x_10, by go_num, (by show _ ≤ _; omega), (hI (by rw [HN.out, HV.out]; show (if _ then _ else _) = _; rw [if_pos (of_decide_eq_true Ht1.out)] <;> rfl)), (hI (by have h_ := (Fz.maxQ HSq.out HZx1.out); exact h_)), hI (aI (Y2 M) (aI (Y0 M) (aI (Y4 M) (J5 M))))⟩
    case measure => simp [RowKit.intOf] <;> omega
  ·
   refine geW (show ¬ k < n by omega) fun e1_0 e1_1 e1_i => ?_; have HE : Hid (leastQ (l.map MkC.mk') day = qs) := by show _ = _; rw [← HV.out, take_all (by rw [List.length_map, HL.out.len]; omega)]
   refine (Y0 M).D4 fun ay az ba bb => ?_; refine cj8 (Y2 M).c4 fun bl bm bn bo bp bq br bs => ?_; refine cj4 (TQ.st (Y1 M)) fun bt bu bv bw => ?_; go_wp2_with fail
   clear ay az ba bb bl bm bn bo bp bq br bs bt bu bv bw; have hz : w.heap.size ≤ w.heap.size := by exact Nat.le_refl _
   refine st4W (g0) (g1) (g2) (g3) (Y2 M) (J3 M) hz fun w5 hv og hk hbw => ?_; rw [← hv]; replace M := hI (aI ((Y0 M).o og) (aI ((Y1 M).f (Y2 M) og) (aI hk hbw))); clear hk hbw og hv hz; have hqe_ := HE.out.symm.trans HQ_.out; subst hqe_; refine bodyPost_ret (results_box1 rfl _ _ w.heap.size 36 _ _ _ rfl (Y2 M) Tryz.underlying36 rfl (by kernel_rfl)) rfl ?_; exact ⟨g0, g1, g2, g3, rfl, (Y1 M), (J3 M)⟩
theorem ctMost {day : Int} {o : Option Rat} {b_ : Bool} {l : List MkC} {a : Option Addr} {n c : Nat} {w : World} (hG : G ≤ w.heap.size) (h : RdM G w a n c l) (_hn : n ≤ 1000000) (hz : MkZ l 60) (hq : mostO (l.map MkC.mk') day = o) (hb : o.isSome = b_) :
 Calls Tryz.prog 41 #[.slice a n c, .int .i64 day] w fun e w' => ∃ x0 x1 x2 x3, e = .returned (.tuple #[.agg #[x0, x1, x2, x3], .bool b_]) ∧ OQ G w' x0 x1 x2 x3 o ∧ Below w.heap.size w w' := by
 have HZ := hI hz; clear hz; have HQ_ := hI hq; clear hq; have HBB := hI hb; clear hb; have HL : Hid (RdM G w a n c l) := h; clear h; have M : Hid (Below w.heap.size w w) := Below.refl _ _; go_enter Tryz.func41, Tryz.ntmps41
 go_upto_region 1 with fail
 generalize hv : World.alloc w _ = w1; replace M := alM hv.symm M; clear hv; go_wp2_with fail
 go_loopw [5, 10] (fun i5 i10 wr => ∃ (k : Nat) (os : Option Rat) (bo : Bool) (g0 : Value) (g1 : Value) (g2 : Value) (g3 : Value), i5 = .bool bo ∧ i10 = .int .i64 (k : Int) ∧ Hid (k ≤ n) ∧ Hid (mostO ((l.map MkC.mk').take k) day = os) ∧ Hid (os.isSome = bo) ∧ Hid (Oz os 60) ∧ Hid (Bx wr w.heap.size 36 #[g0, g1, g2, g3] ∧ OQ G wr g0 g1 g2 g3 os ∧ Below w.heap.size w wr)) (fun i5 i10 _ => n - (RowKit.intOf i10).toNat)
 case atStart =>
  exact ⟨0, none, false, (.int .i64 0), (.slice none 0 0), (.int .i64 0), (.slice none 0 0), rfl, rfl, (by show _ ≤ _; omega), (hI rfl), (hI rfl), (hI Oz.none_), hI (aI (Y0 M) (aI (oq_none _ _ _ _ _) (J1 M)))⟩
 case round =>
  obtain ⟨w2, rfl⟩ : ∃ x, x = wr := ⟨_, rfl⟩; clear M; obtain ⟨k, os, bo, g0, g1, g2, g3, rfl, rfl, hk, HV, HB, HZo, M⟩ := hrel; have hk := hk.out
  by_cases hlt : k < n
  ·
   rcases os with _ | qs
   ·
    have hb_ := HB.out; subst hb_; refine ltW (show k < n by omega) fun e1_0 e1_1 e1_i => ?_; obtain ⟨b, off, rfl, hb_⟩ := RdL.ptr HL.out (by omega : 0 < n); have hkl_ : k < l.length := by rw [HL.out.len]; exact hlt
    obtain ⟨x_, hx_⟩ : ∃ x, l[k]? = some x := ⟨l[k], List.getElem?_eq_getElem hkl_⟩; obtain ⟨xd, xu0, xu1, xu2, xu3, xlo, xv0, xv1, xv2, xv3, xhi⟩ := x_; have HRx : Hid (Row w b (off + k * 9) [.int .i64 xd, xu0, xu1, xu2, xu3, xv0, xv1, xv2, xv3]) := hb_.row hx_; have HQx : Hid (FQ G w xu0 xu1 xu2 xu3 xlo) := (hb_.ok hx_).1; have HSx : Hid (FQ G w xv0 xv1 xv2 xv3 xhi) := (hb_.ok hx_).2; have HEx := hI hx_; have hz_ := HZ.out _ (List.mem_of_getElem? hx_); have HZx1 : Hid (Fz xlo 60) := hz_.1; have HZx2 : Hid (Fz xhi 60) := hz_.2; have HMx : Hid ((l.map MkC.mk')[k]? = some ⟨xd, xlo, xhi⟩) := by show _ = _; rw [List.getElem?_map, hx_]; rfl
    clear hx_ hb_ hkl_ hz_; obtain ⟨t1, ht1_⟩ : ∃ b, decide (xd < day) = b := ⟨_, rfl⟩; have Ht1 := hI ht1_; have HN := hI (most_next (day := day) HMx.out); refine cj4 (TQ.st (HQx.out.keep (J2 M))) fun aa ab ac ad => ?_; refine cj4 (TQ.st (HSx.out.keep (J2 M))) fun ae af ag ah => ?_; refine cj9 (HRx.out.keep (J2 M)).c9 fun r0_0 r0_1 r0_2 r0_3 r0_4 r0_5 r0_6 r0_7 r0_8 => ?_; go_upto_region 5 with fail
    clear aa ab ac ad ae af ag ah r0_0 r0_1 r0_2 r0_3 r0_4 r0_5 r0_6 r0_7 r0_8; generalize hv : World.alloc w2 _ = w3; have ow1_ := (Y0 M).lt; replace M := alM hv.symm M; clear hv
    cases t1 with
    | false =>
     refine (Y0 M).D9 fun ai aj ak al am ao ap aq ar => ?_; refine cj8 (Y1 M).c4 fun au av aw ax ay az ba bb => ?_; refine cj4 (TQ.st (HSx.out.keep (J3 M))) fun ae af ag ah => ?_; go_upto_region 8 with fail
     clear ai aj ak al am ao ap aq ar au av aw ax ay az ba bb ae af ag ah; have hz : w.heap.size ≤ w.heap.size := by exact Nat.le_refl _
     refine st4W (xv0) (xv1) (xv2) (xv3) (Y1 M) (J3 M) hz fun w4 hv og hk hbw => ?_; rw [← hv]; replace M := hI (aI ((Y0 M).o og) (aI hk (aI ((Y2 M).f (Y1 M) og) hbw))); clear hk hbw og hv hz; go_wp2_with fail
     go_roundw
     case rel => exact ⟨(k + 1), (some xhi), true, xv0, xv1, xv2, xv3, rfl, by go_num, (by show _ ≤ _; omega), (hI (by rw [HN.out, HV.out]; show (if _ then _ else _) = _; rw [if_neg (of_decide_eq_false Ht1.out)] <;> rfl)), (hI rfl), (hI (show Fz _ _ from HZx2.out)), hI (aI (Y1 M) (aI (HSx.out.keep (J3 M)) (J3 M)))⟩
     case measure => simp [RowKit.intOf] <;> omega
    | true =>
     refine (Y0 M).D9 fun ai aj ak al am ao ap aq ar => ?_; go_wp2_with fail
     clear ai aj ak al am ao ap aq ar; go_roundw
     case rel => exact ⟨(k + 1), none, false, g0, g1, g2, g3, rfl, by go_num, (by show _ ≤ _; omega), (hI (by rw [HN.out, HV.out]; show (if _ then _ else _) = _; rw [if_pos (of_decide_eq_true Ht1.out)])), (hI rfl), HZo, hI (aI (Y1 M) (aI (Y2 M) (J3 M)))⟩
     case measure => simp [RowKit.intOf] <;> omega
   ·
    have hb_ := HB.out; subst hb_; have HSq : Hid (Fz qs 60) := HZo.out; refine ltW (show k < n by omega) fun e1_0 e1_1 e1_i => ?_; obtain ⟨b, off, rfl, hb_⟩ := RdL.ptr HL.out (by omega : 0 < n); have hkl_ : k < l.length := by rw [HL.out.len]; exact hlt
    obtain ⟨x_, hx_⟩ : ∃ x, l[k]? = some x := ⟨l[k], List.getElem?_eq_getElem hkl_⟩; obtain ⟨xd, xu0, xu1, xu2, xu3, xlo, xv0, xv1, xv2, xv3, xhi⟩ := x_; have HRx : Hid (Row w b (off + k * 9) [.int .i64 xd, xu0, xu1, xu2, xu3, xv0, xv1, xv2, xv3]) := hb_.row hx_; have HQx : Hid (FQ G w xu0 xu1 xu2 xu3 xlo) := (hb_.ok hx_).1; have HSx : Hid (FQ G w xv0 xv1 xv2 xv3 xhi) := (hb_.ok hx_).2; have HEx := hI hx_; have hz_ := HZ.out _ (List.mem_of_getElem? hx_); have HZx1 : Hid (Fz xlo 60) := hz_.1; have HZx2 : Hid (Fz xhi 60) := hz_.2; have HMx : Hid ((l.map MkC.mk')[k]? = some ⟨xd, xlo, xhi⟩) := by show _ = _; rw [List.getElem?_map, hx_]; rfl
    clear hx_ hb_ hkl_ hz_; obtain ⟨t1, ht1_⟩ : ∃ b, decide (xd < day) = b := ⟨_, rfl⟩; have Ht1 := hI ht1_; have HN := hI (most_next (day := day) HMx.out); refine cj4 (TQ.st (HQx.out.keep (J2 M))) fun aa ab ac ad => ?_; refine cj4 (TQ.st (HSx.out.keep (J2 M))) fun ae af ag ah => ?_; refine cj9 (HRx.out.keep (J2 M)).c9 fun r0_0 r0_1 r0_2 r0_3 r0_4 r0_5 r0_6 r0_7 r0_8 => ?_; go_upto_region 5 with fail
    clear aa ab ac ad ae af ag ah r0_0 r0_1 r0_2 r0_3 r0_4 r0_5 r0_6 r0_7 r0_8; generalize hv : World.alloc w2 _ = w3; have ow1_ := (Y0 M).lt; replace M := alM hv.symm M; clear hv
    cases t1 with
    | false =>
     refine (Y0 M).D9 fun ai aj ak al am ao ap aq ar => ?_; refine (Y1 M).D4 fun au aw ay ba => ?_; go_wp2_with fail
     clear ai aj ak al am ao ap aq ar au aw ay ba; refine (fqMin (G := G) (q := qs) (r := xhi) (m := (minQ qs xhi)) (Nat.le_trans hG (J3 M).size) (Y2 M) (HSx.out.keep (J3 M)) (Fz.mono HSq.out (by omega)) (Fz.mono HZx2.out (by omega)) (pick_min _ _)).mono ?_; rintro e w4 ⟨x_1, x_2, x_3, x_4, rfl, hd5, hb⟩; replace M := adM hd5 hb M; clear hb hd5; refine cj8 (Y2 M).c4 fun au av aw ax ay az ba bb => ?_; refine cj4 (TQ.st (Y0 M)) fun bc bd bf bg => ?_; go_upto_region 8 with fail
     clear au av aw ax ay az ba bb bc bd bf bg; have hz : w.heap.size ≤ w.heap.size := by exact Nat.le_refl _
     refine st4W (x_1) (x_2) (x_3) (x_4) (Y2 M) (J4 M) hz fun w5 hv og hk hbw => ?_; rw [← hv]; replace M := hI (aI ((Y0 M).f (Y2 M) og) (aI ((Y1 M).o og) (aI hk (aI ((Y3 M).f (Y2 M) og) hbw)))); clear hk hbw og hv hz; go_wp2_with fail
     go_roundw
     case rel => exact ⟨(k + 1), (some (minQ qs xhi)), true, x_1, x_2, x_3, x_4, rfl, by go_num, (by show _ ≤ _; omega), (hI (by rw [HN.out, HV.out]; show (if _ then _ else _) = _; rw [if_neg (of_decide_eq_false Ht1.out)] <;> rfl)), (hI rfl), (hI (show Fz _ _ from (Fz.minQ HSq.out HZx2.out))), hI (aI (Y2 M) (aI (Y0 M) (J4 M)))⟩
     case measure => simp [RowKit.intOf] <;> omega
    | true =>
     refine (Y0 M).D9 fun ai aj ak al am ao ap aq ar => ?_; go_wp2_with fail
     clear ai aj ak al am ao ap aq ar; go_roundw
     case rel => exact ⟨(k + 1), (some qs), true, g0, g1, g2, g3, rfl, by go_num, (by show _ ≤ _; omega), (hI (by rw [HN.out, HV.out]; show (if _ then _ else _) = _; rw [if_pos (of_decide_eq_true Ht1.out)])), (hI rfl), HZo, hI (aI (Y1 M) (aI (Y2 M) (J3 M)))⟩
     case measure => simp [RowKit.intOf] <;> omega
  ·
   refine geW (show ¬ k < n by omega) fun e1_0 e1_1 e1_i => ?_; have HE : Hid (mostO (l.map MkC.mk') day = os) := by show _ = _; rw [← HV.out, take_all (by rw [List.length_map, HL.out.len]; omega)]
   refine cj8 (Y0 M).c4 fun au av aw ax ay az ba bb => ?_; refine cj4 (TQ.st (Y1 M)) fun bh bi bj bk => ?_; go_wp2_with fail
   clear au av aw ax ay az ba bb bh bi bj bk; have hz : w.heap.size ≤ w.heap.size := by exact Nat.le_refl _
   refine st4W (g0) (g1) (g2) (g3) (Y0 M) (J2 M) hz fun w3 hv og hk hbw => ?_; rw [← hv]; replace M := hI (aI hk (aI ((Y1 M).f (Y0 M) og) hbw)); clear hk hbw og hv hz; have hqe_ := HE.out.symm.trans HQ_.out; subst hqe_; have hbe_ := HB.out.symm.trans HBB.out; subst hbe_; refine bodyPost_ret (results_box2 rfl _ _ w.heap.size 36 _ _ _ rfl (Y0 M) Tryz.underlying36 rfl (by kernel_rfl)) rfl ?_; exact ⟨g0, g1, g2, g3, rfl, (Y1 M), (J2 M)⟩
theorem ctSub_no {u0 u1 u2 u3 v0 v1 v2 v3 : Value} {w : World} (h1 : OQ G w u0 u1 u2 u3 none) :
 Calls Tryz.prog 42 #[.agg #[u0, u1, u2, u3], .agg #[v0, v1, v2, v3]] w fun e w' => e = .returned (.tuple #[.agg #[.int .i64 0, .slice none 0 0, .int .i64 0, .slice none 0 0], .int .i64 1]) ∧ Below w.heap.size w w' := by
 have h0_ : True := trivial; have H1 : Hid (OQ G w u0 u1 u2 u3 none) := h1; clear h1; have M : Hid (Below w.heap.size w w) := Below.refl _ _; go_enter Tryz.func42, Tryz.ntmps42
 go_upto_region 1 with fail
 generalize hv : World.alloc (World.alloc (World.alloc w _) _) _ = w1; replace M := al3W hv.symm M; clear hv; refine (Y2 M).D4 fun aa ab ac ad => ?_; go_wp2_with fail
 clear aa ab ac ad; refine (fxRight_ok (o := none) (b_ := false) (oq_fx (H1.out.keep (J3 M))) (Nat.zero_le _) (Nat.zero_le _) rfl).mono ?_; rintro e w2 ⟨rfl, hb⟩; replace M := gnM hb M; clear hb; refine cj8 (Y0 M).c4 fun ae af ag ah ai aj ak al => ?_; go_wp2_with fail
 clear ae af ag ah ai aj ak al; refine st4V (.int .i64 0) (.slice none 0 0) (.int .i64 0) (.slice none 0 0) (Y0 M) (J3 M) fun w3 hv og hk hbw => ?_; rw [← hv]; replace M := hI (aI hk (aI ((Y1 M).o og) (aI ((Y2 M).o og) hbw))); clear hk hbw og hv; refine bodyPost_ret (results_box2 rfl _ _ (w.heap.size + 1 + 1) 36 _ _ _ rfl (Y0 M) Tryz.underlying36 rfl (by kernel_rfl)) rfl ?_; exact ⟨rfl, (J3 M)⟩
def subE (o : Option Rat) : Int := if o.isSome = true then 0 else 1
theorem ctSub_u {u0 u1 u2 u3 v0 v1 v2 v3 : Value} {o p : Option Rat} {r : Rat} {er : Int} {w : World} (h1 : OQ G w u0 u1 u2 u3 o) (h2 : FQ G w v0 v1 v2 v3 r) (hx : Oz o 137438953472) (hy : Fz r 137438953472) (ho : o.map (· - r) = p) (he : subE o = er) :
 Calls Tryz.prog 42 #[.agg #[u0, u1, u2, u3], .agg #[v0, v1, v2, v3]] w fun e w' => ∃ x0 x1 x2 x3, e = .returned (.tuple #[.agg #[x0, x1, x2, x3], .int .i64 er]) ∧ OQ G w' x0 x1 x2 x3 p ∧ Below w.heap.size w w' := by
 subst ho he
 cases o with
 | none => exact (ctSub_no h1).mono fun e w' ⟨he, hb⟩ => ⟨_, _, _, _, he, oq_none _ _ _ _ _, hb⟩
 | some q => exact (fqSub (q := q) h1 h2 hx hy).mono fun e w' ⟨_, _, _, _, he, hd, hb⟩ => ⟨_, _, _, _, he, hd, hb⟩
theorem ctCounted {da db : Int} {lo : Rat} {hi : Option Rat} {b_ : Bool} {l : List MkC} {a : Option Addr} {n c : Nat} {w : World} (hG : G ≤ w.heap.size) (h : RdM G w a n c l) (_hn : n ≤ 1000000) (hz : MkZ l 60) (hlo : cntLo (l.map MkC.mk') da db = lo) (hhi : cntHi (l.map MkC.mk') da db = hi) (hb : hi.isSome = b_) :
 Calls Tryz.prog 20 #[.slice a n c, .int .i64 da, .int .i64 db] w fun e w' => ∃ x0 x1 x2 x3 x4 x5 x6 x7, e = .returned (.tuple #[.agg #[x0, x1, x2, x3, x4, x5, x6, x7], .bool b_]) ∧ FQ G w' x0 x1 x2 x3 lo ∧ OQ G w' x4 x5 x6 x7 hi ∧ Below w.heap.size w w' := by
 have HZ := hI hz; clear hz; obtain ⟨o2, ho2_⟩ : ∃ o, mostO (l.map MkC.mk') db = o := ⟨_, rfl⟩; obtain ⟨qa, hqa_⟩ : ∃ q, leastQ (l.map MkC.mk') da = q := ⟨_, rfl⟩; obtain ⟨qb, hqb_⟩ : ∃ q, leastQ (l.map MkC.mk') db = q := ⟨_, rfl⟩; have HHI : Hid (o2.map (· - qa) = hi) := by show _ = _; rw [← hhi, ← ho2_, ← hqa_]; rfl
 have HB2 : Hid (o2.isSome = b_) := by show _ = _; rw [← hb, ← HHI.out]; cases o2 <;> rfl
 obtain ⟨er, her_⟩ : ∃ e, subE o2 = e := ⟨_, rfl⟩; have HO2 := hI ho2_; have HQA := hI hqa_; have HQB := hI hqb_; have HLO := hI hlo; have HER := hI her_; have HZ2 : Hid (Oz o2 60) := by show Oz _ _; rw [← ho2_]; exact most_oz HZ.out db
 have HZA : Hid (Fz qa 60) := by show Fz _ _; rw [← hqa_]; exact least_fz HZ.out (by omega) da
 have HZB : Hid (Fz qb 60) := by show Fz _ _; rw [← hqb_]; exact least_fz HZ.out (by omega) db
 clear ho2_ hqa_ hqb_ hlo hhi hb her_; have HL : Hid (RdM G w a n c l) := h; clear h; have M : Hid (Below w.heap.size w w) := Below.refl _ _; go_enter Tryz.func20, Tryz.ntmps20
 go_upto_region 1 with fail
 generalize hv : World.alloc w _ = w1; replace M := alM hv.symm M; clear hv; rcases ho1_ : mostO (l.map MkC.mk') da with _ | s1
 ·
  have HO1 := hI ho1_; clear ho1_; go_wp2_with fail
  refine nmW (α := Rat) ((0 : Int) : Rat) fun q5 eq5 => ?_; refine (fqInt (G := G) (x := 0) (by decide)).mono ?_; rintro e w2 ⟨x_1, x_2, x_3, x_4, rfl, hd6, hb⟩; rw [← eq5] at hd6; have Sq5 := szW eq5 (n := 4) (Fz.int64 (by decide)); have Eq5 := hI eq5; clear eq5; replace M := adM hd6 hb M; clear hb hd6; refine cj4 (TQ.st (Y0 M)) fun aa ab ac ad => ?_; go_upto_region 2 with fail
  clear aa ab ac ad; generalize hv : World.alloc w2 _ = w3; have ow1_ := ((Y1 M)).lt; replace M := alM hv.symm M; clear hv; go_wp2_with fail
  refine (ctMost (G := G) (day := da) (o := none) (b_ := false) (Nat.le_trans hG (J3 M).size) (HL.out.keep (J3 M)) (by omega) HZ.out HO1.out rfl).mono ?_; rintro e w4 ⟨x_7, x_8, x_9, x_10, rfl, hd11, hb⟩; replace M := adM hd11 hb M; clear hb hd11; refine cj4 (TQ.st (Y0 M)) fun ae af ag ah => ?_; go_upto_region 3 with fail
  clear ae af ag ah; generalize hv : World.alloc w4 _ = w5; have ow2_ := ((Y1 M)).lt; replace M := alM hv.symm M; clear hv; go_wp2_with fail
  refine (ctMost (G := G) (day := db) (o := o2) (b_ := b_) (Nat.le_trans hG (J5 M).size) (HL.out.keep (J5 M)) (by omega) HZ.out HO2.out HB2.out).mono ?_; rintro e w6 ⟨x_12, x_13, x_14, x_15, rfl, hd16, hb⟩; replace M := adM hd16 hb M; clear hb hd16; refine cj4 (TQ.st (Y0 M)) fun ai aj ak al => ?_; go_wp2_with fail
  clear ai aj ak al; generalize hv : World.alloc w6 _ = w7; have ow3_ := ((Y1 M)).lt; replace M := alM hv.symm M; clear hv; refine nmW w7.drew fun w8 hv => ?_; replace M := drM hv M; refine wp_region_held_drew (S := (fun _ => True)) (by kernel_rfl) trivial (fun hH27 => ?_); rw [← hv]; clear hv; refine tk2 at1 at2 ?_; refine ryW [0, 3] ?_; refine AllReadyH.cons at0 (fun K hK => ?_) ?_
  ·
   refine (Y0 M).D4 fun am ao ap aq => ?_; go_simp; clear am ao ap aq; refine hK.out _ _ (trivial) (fun hH28 => ?_); clear hK K hH27; (try simp only [Act.put, kq])
   refine roW at3 fun K hK => ?_; go_simp; refine (ctLeast (G := G) (day := da) (q := qa) (Nat.le_trans hG (J7 M).size) (HL.out.keep (J7 M)) (by omega) HZ.out HQA.out).mono ?_; rintro e w9 ⟨x_29, x_30, x_31, x_32, rfl, hd33, hb⟩; replace M := adM hd33 hb M; clear hb hd33; (try go_wp2_with fail)
   refine hK.out _ _ (trivial) (fun hH34 => ?_); clear hK K hH28; (try simp only [Act.put, kq])
   refine roW at4 fun K hK => ?_; go_simp; refine (ctSub_u (G := G) (o := o2) (p := hi) (r := qa) (er := er) (Y2 M) (Y0 M) (Oz.mono HZ2.out (by omega)) (Fz.mono HZA.out (by omega)) (by exact HHI.out) HER.out).mono ?_; rintro e w10 ⟨x_35, x_36, x_37, x_38, rfl, hd39, hb⟩; replace M := adM hd39 hb M; clear hb hd39; (try go_wp2_with fail)
   refine hK.out _ _ (trivial) (fun hH40 => ?_); clear hK K hH34; (try simp only [Act.put, kq])
   refine tk2 at5 at6 ?_; refine tk at7 ?_; refine roW at8 fun K hK => ?_; refine cj8 (Y2 M).c4 fun am ar ao au ap av aq aw => ?_; refine cj4 (TQ.st (Y0 M)) fun ax ay az ba => ?_; go_simp; clear am ar ao au ap av aq aw ax ay az ba; refine st4V (x_35) (x_36) (x_37) (x_38) (Y2 M) (J9 M) fun w11 hv og hk hbw => ?_; rw [← hv]; replace M := hI (aI ((Y0 M).f (Y2 M) og) (aI ((Y1 M).f (Y2 M) og) (aI hk (aI ((Y3 M).f (Y2 M) og) (aI ((Y4 M).o og) (aI ((Y5 M).f (Y2 M) og) (aI ((Y6 M).o og) (aI ((Y7 M).f (Y2 M) og) (aI ((Y8 M).o og) hbw))))))))); clear hk hbw og hv; refine hK.out _ _ (trivial) (fun hH41 => ?_); clear hK K hH40; (try simp only [Act.put, kq])
   refine dnW ?_; clear hH41; refine (Y6 M).D4 fun bb bc bd bf => ?_; refine (Y2 M).D4 fun am ao ap aq => ?_; refine cj16 (Y8 M).c8 fun bg bh bi bj bk bl bm bn bo bp bq br bs bt bu bv => ?_; refine cj4 (TQ.st (Y7 M)) fun aa ab ac ad => ?_; refine cj4 (TQ.st (Y0 M)) fun ax ay az ba => ?_; go_wp2_with fail
   clear bb bc bd bf am ao ap aq bg bh bi bj bk bl bm bn bo bp bq br bs bt bu bv aa ab ac ad ax ay az ba; have hz : w.heap.size ≤ w.heap.size := by exact Nat.le_refl _
   refine st8W (x_1) (x_2) (x_3) (x_4) (x_35) (x_36) (x_37) (x_38) (Y8 M) (J9 M) hz fun w12 hv og hk hbw => ?_; rw [← hv]; replace M := hI (aI ((Y0 M).f (Y8 M) og) (aI ((Y1 M).f (Y8 M) og) (aI ((Y2 M).o og) (aI ((Y3 M).f (Y8 M) og) (aI ((Y4 M).o og) (aI ((Y5 M).f (Y8 M) og) (aI ((Y6 M).o og) (aI ((Y7 M).f (Y8 M) og) (aI hk hbw))))))))); clear hk hbw og hv hz; refine bodyPost_ret (results_box2 rfl _ _ w.heap.size 38 _ _ _ rfl (Y8 M) Tryz.underlying38 rfl (by kernel_rfl)) rfl ?_; exact ⟨x_1, x_2, x_3, x_4, x_35, x_36, x_37, x_38, rfl, (by have h_ := (Y7 M); rw [show q5 = lo from by rw [Eq5.out, ← HLO.out]; unfold cntLo; rw [HO1.out]; rfl] at h_; exact h_), (Y0 M), (J9 M)⟩
  refine AllReadyH.cons at3 (fun K hK => ?_) AllReadyH.nil; go_simp; refine (ctLeast (G := G) (day := da) (q := qa) (Nat.le_trans hG (J7 M).size) (HL.out.keep (J7 M)) (by omega) HZ.out HQA.out).mono ?_; rintro e w9 ⟨x_42, x_43, x_44, x_45, rfl, hd46, hb⟩; replace M := adM hd46 hb M; clear hb hd46; (try go_wp2_with fail)
  refine hK.out _ _ (trivial) (fun hH47 => ?_); clear hK K hH27; (try simp only [Act.put, kq])
  refine roW at0 fun K hK => ?_; refine (Y1 M).D4 fun am ao ap aq => ?_; go_simp; clear am ao ap aq; refine hK.out _ _ (trivial) (fun hH48 => ?_); clear hK K hH47; (try simp only [Act.put, kq])
  refine roW at4 fun K hK => ?_; go_simp; refine (ctSub_u (G := G) (o := o2) (p := hi) (r := qa) (er := er) (Y2 M) (Y0 M) (Oz.mono HZ2.out (by omega)) (Fz.mono HZA.out (by omega)) (by exact HHI.out) HER.out).mono ?_; rintro e w10 ⟨x_49, x_50, x_51, x_52, rfl, hd53, hb⟩; replace M := adM hd53 hb M; clear hb hd53; (try go_wp2_with fail)
  refine hK.out _ _ (trivial) (fun hH54 => ?_); clear hK K hH48; (try simp only [Act.put, kq])
  refine tk2 at5 at6 ?_; refine tk at7 ?_; refine roW at8 fun K hK => ?_; refine cj8 (Y2 M).c4 fun am ar ao au ap av aq aw => ?_; refine cj4 (TQ.st (Y0 M)) fun bw bx bz ca => ?_; go_simp; clear am ar ao au ap av aq aw bw bx bz ca; refine st4V (x_49) (x_50) (x_51) (x_52) (Y2 M) (J9 M) fun w11 hv og hk hbw => ?_; rw [← hv]; replace M := hI (aI ((Y0 M).f (Y2 M) og) (aI ((Y1 M).f (Y2 M) og) (aI hk (aI ((Y3 M).f (Y2 M) og) (aI ((Y4 M).o og) (aI ((Y5 M).f (Y2 M) og) (aI ((Y6 M).o og) (aI ((Y7 M).f (Y2 M) og) (aI ((Y8 M).o og) hbw))))))))); clear hk hbw og hv; refine hK.out _ _ (trivial) (fun hH55 => ?_); clear hK K hH54; (try simp only [Act.put, kq])
  refine dnW ?_; clear hH55; refine (Y6 M).D4 fun bb bc bd bf => ?_; refine (Y2 M).D4 fun am ao ap aq => ?_; refine cj16 (Y8 M).c8 fun bg bh bi bj bk bl bm bn bo bp bq br bs bt bu bv => ?_; refine cj4 (TQ.st (Y7 M)) fun aa ab ac ad => ?_; refine cj4 (TQ.st (Y0 M)) fun bw bx bz ca => ?_; go_wp2_with fail
  clear bb bc bd bf am ao ap aq bg bh bi bj bk bl bm bn bo bp bq br bs bt bu bv aa ab ac ad bw bx bz ca; have hz : w.heap.size ≤ w.heap.size := by exact Nat.le_refl _
  refine st8W (x_1) (x_2) (x_3) (x_4) (x_49) (x_50) (x_51) (x_52) (Y8 M) (J9 M) hz fun w12 hv og hk hbw => ?_; rw [← hv]; replace M := hI (aI ((Y0 M).f (Y8 M) og) (aI ((Y1 M).f (Y8 M) og) (aI ((Y2 M).o og) (aI ((Y3 M).f (Y8 M) og) (aI ((Y4 M).o og) (aI ((Y5 M).f (Y8 M) og) (aI ((Y6 M).o og) (aI ((Y7 M).f (Y8 M) og) (aI hk hbw))))))))); clear hk hbw og hv hz; refine bodyPost_ret (results_box2 rfl _ _ w.heap.size 38 _ _ _ rfl (Y8 M) Tryz.underlying38 rfl (by kernel_rfl)) rfl ?_; exact ⟨x_1, x_2, x_3, x_4, x_49, x_50, x_51, x_52, rfl, (by have h_ := (Y7 M); rw [show q5 = lo from by rw [Eq5.out, ← HLO.out]; unfold cntLo; rw [HO1.out]; rfl] at h_; exact h_), (Y0 M), (J9 M)⟩
 ·
  have hz_ := most_oz HZ.out da; rw [ho1_] at hz_; have HZS : Hid (Fz s1 60) := hz_; have HO1 := hI ho1_; clear ho1_ hz_; go_wp2_with fail
  refine nmW (α := Rat) ((0 : Int) : Rat) fun q60 eq60 => ?_; refine (fqInt (G := G) (x := 0) (by decide)).mono ?_; rintro e w2 ⟨x_56, x_57, x_58, x_59, rfl, hd61, hb⟩; rw [← eq60] at hd61; have Sq60 := szW eq60 (n := 4) (Fz.int64 (by decide)); have Eq60 := hI eq60; clear eq60; replace M := adM hd61 hb M; clear hb hd61; refine cj4 (TQ.st (Y0 M)) fun cb cc cd ce => ?_; go_upto_region 2 with fail
  clear cb cc cd ce; generalize hv : World.alloc w2 _ = w3; have ow1_ := ((Y1 M)).lt; replace M := alM hv.symm M; clear hv; go_wp2_with fail
  refine (ctMost (G := G) (day := da) (o := (some s1)) (b_ := true) (Nat.le_trans hG (J3 M).size) (HL.out.keep (J3 M)) (by omega) HZ.out HO1.out rfl).mono ?_; rintro e w4 ⟨x_62, x_63, x_64, x_65, rfl, hd66, hb⟩; replace M := adM hd66 hb M; clear hb hd66; refine cj4 (TQ.st (Y0 M)) fun cf cg ch ci => ?_; go_upto_region 3 with fail
  clear cf cg ch ci; generalize hv : World.alloc w4 _ = w5; have ow2_ := ((Y1 M)).lt; replace M := alM hv.symm M; clear hv; go_wp2_with fail
  refine nmW w5.drew fun w6 hv => ?_; replace M := drM hv M; refine rg4W hv (Y0 M) fun hH78 => ?_; clear hv; refine tk2 at0 at1 ?_; refine tk at3 ?_; refine roW at2 fun K hK => ?_; go_simp; refine (ctLeast (G := G) (day := db) (q := qb) (Nat.le_trans hG (J5 M).size) (HL.out.keep (J5 M)) (by omega) HZ.out HQB.out).mono ?_; rintro e w7 ⟨x_79, x_80, x_81, x_82, rfl, hd83, hb⟩; replace M := adM hd83 hb M; clear hb hd83; (try go_wp2_with fail)
  refine hK.out _ _ ((Y1 M).d4) (fun hH84 => ?_); clear hK K hH78; (try simp only [Act.put, kq])
  refine roW at4 fun K hK => ?_; go_simp; refine nmW (α := Rat) (qb - s1) fun q89 eq89 => ?_; refine (fqSub (G := G) (q := qb) (r := s1) (Y0 M) (Y2 M) (Fz.mono HZB.out (by omega)) (Fz.mono HZS.out (by omega))).mono ?_; rintro e w8 ⟨x_85, x_86, x_87, x_88, rfl, hd90, hb⟩; rw [← eq89] at hd90; have Sq89 := szW eq89 (n := 121) (Fz.sub HZB.out HZS.out); have Eq89 := hI eq89; clear eq89; replace M := adM hd90 hb M; clear hb hd90; (try go_wp2_with fail)
  refine hK.out _ _ ((Y2 M).d4) (fun hH91 => ?_); clear hK K hH84; (try simp only [Act.put, kq])
  refine tk2 at5 at6 ?_; refine tk at7 ?_; refine roW at8 fun K hK => ?_; refine cj8 (Y4 M).c4 fun bb cj bc ck bd cl bf cm => ?_; refine cj4 (TQ.st (Y0 M)) fun cn co cp cq => ?_; go_simp; clear bb cj bc ck bd cl bf cm cn co cp cq; refine st4V (x_85) (x_86) (x_87) (x_88) (Y4 M) (J7 M) fun w9 hv og hk hbw => ?_; rw [← hv]; replace M := hI (aI ((Y0 M).f (Y4 M) og) (aI ((Y1 M).f (Y4 M) og) (aI ((Y2 M).o og) (aI ((Y3 M).f (Y4 M) og) (aI hk (aI ((Y5 M).f (Y4 M) og) (aI ((Y6 M).o og) hbw))))))); clear hk hbw og hv; refine hK.out _ _ ((Y2 M).d4) (fun hH92 => ?_); clear hK K hH91; (try simp only [Act.put, kq])
  refine dnW ?_; clear hH92; go_wp2_with fail
  refine nmW w9.drew fun w10 hv => ?_; replace M := drM hv M; refine wp_region_held_drew (S := (fun _ => True)) (by kernel_rfl) trivial (fun hH104 => ?_); rw [← hv]; clear hv; refine ryW [0, 1] ?_; refine AllReadyH.cons at0 (fun K hK => ?_) ?_
  ·
   refine (Y4 M).D4 fun bb bc bd bf => ?_; go_simp; clear bb bc bd bf; refine hK.out _ _ (trivial) (fun hH105 => ?_); clear hK K hH104; (try simp only [Act.put, kq])
   refine roW at1 fun K hK => ?_; go_simp; refine nmW (α := Rat) ((0 : Int) : Rat) fun q110 eq110 => ?_; refine (fqInt (G := G) (x := 0) (by decide)).mono ?_; rintro e w11 ⟨x_106, x_107, x_108, x_109, rfl, hd111, hb⟩; rw [← eq110] at hd111; have Sq110 := szW eq110 (n := 4) (Fz.int64 (by decide)); have Eq110 := hI eq110; clear eq110; replace M := adM hd111 hb M; clear hb hd111; (try go_wp2_with fail)
   refine hK.out _ _ (trivial) (fun hH112 => ?_); clear hK K hH105; (try simp only [Act.put, kq])
   refine roW at2 fun K hK => ?_; go_simp; refine (fqMax (G := G) (q := q89) (r := q110) (m := (maxQ q89 q110)) (Nat.le_trans hG (J8 M).size) (Y1 M) (Y0 M) (Fz.mono Sq89.out (by omega)) (Fz.mono Sq110.out (by omega)) (pick_max _ _)).mono ?_; rintro e w12 ⟨x_113, x_114, x_115, x_116, rfl, hd117, hb⟩; replace M := adM hd117 hb M; clear hb hd117; (try go_wp2_with fail)
   refine hK.out _ _ (trivial) (fun hH118 => ?_); clear hK K hH112; (try simp only [Act.put, kq])
   refine tk2 at3 at4 ?_; refine tk at5 ?_; refine roW at6 fun K hK => ?_; refine cj8 (Y6 M).c4 fun bb cj bc ck bd cl bf cm => ?_; refine cj4 (TQ.st (Y0 M)) fun cr cs ct cu => ?_; go_simp; clear bb cj bc ck bd cl bf cm cr cs ct cu; refine st4V (x_113) (x_114) (x_115) (x_116) (Y6 M) (J9 M) fun w13 hv og hk hbw => ?_; rw [← hv]; replace M := hI (aI ((Y0 M).f (Y6 M) og) (aI ((Y1 M).f (Y6 M) og) (aI ((Y2 M).f (Y6 M) og) (aI ((Y3 M).f (Y6 M) og) (aI ((Y4 M).o og) (aI ((Y5 M).f (Y6 M) og) (aI hk (aI ((Y7 M).f (Y6 M) og) (aI ((Y8 M).o og) hbw))))))))); clear hk hbw og hv; refine hK.out _ _ (trivial) (fun hH119 => ?_); clear hK K hH118; (try simp only [Act.put, kq])
   refine dnW ?_; clear hH119; go_wp2_with fail
   refine (ctMost (G := G) (day := db) (o := o2) (b_ := b_) (Nat.le_trans hG (J9 M).size) (HL.out.keep (J9 M)) (by omega) HZ.out HO2.out HB2.out).mono ?_; rintro e w14 ⟨x_120, x_121, x_122, x_123, rfl, hd124, hb⟩; replace M := adM hd124 hb M; clear hb hd124; refine cj4 (TQ.st (Y0 M)) fun cv cw cx cy => ?_; go_wp2_with fail
   clear cv cw cx cy; generalize hv : World.alloc w14 _ = w15; have ow3_ := ((Y5 M)).lt; replace M := alM hv.symm M; clear hv; refine nmW w15.drew fun w16 hv => ?_; replace M := drM hv M; refine wp_region_held_drew (S := (fun _ => True)) (by kernel_rfl) trivial (fun hH135 => ?_); rw [← hv]; clear hv; refine tk2 at1 at2 ?_; refine ryW [0, 3] ?_; refine AllReadyH.cons at0 (fun K hK => ?_) ?_
   ·
    refine (Y0 M).D4 fun am ao ap aq => ?_; go_simp; clear am ao ap aq; refine hK.out _ _ (trivial) (fun hH136 => ?_); clear hK K hH135; (try simp only [Act.put, kq])
    refine roW at3 fun K hK => ?_; go_simp; refine (ctLeast (G := G) (day := da) (q := qa) (Nat.le_trans hG (J11 M).size) (HL.out.keep (J11 M)) (by omega) HZ.out HQA.out).mono ?_; rintro e w17 ⟨x_137, x_138, x_139, x_140, rfl, hd141, hb⟩; replace M := adM hd141 hb M; clear hb hd141; (try go_wp2_with fail)
    refine hK.out _ _ (trivial) (fun hH142 => ?_); clear hK K hH136; (try simp only [Act.put, kq])
    refine roW at4 fun K hK => ?_; go_simp; refine (ctSub_u (G := G) (o := o2) (p := hi) (r := qa) (er := er) (Y2 M) (Y0 M) (Oz.mono HZ2.out (by omega)) (Fz.mono HZA.out (by omega)) (by exact HHI.out) HER.out).mono ?_; rintro e w18 ⟨x_143, x_144, x_145, x_146, rfl, hd147, hb⟩; replace M := adM hd147 hb M; clear hb hd147; (try go_wp2_with fail)
    refine hK.out _ _ (trivial) (fun hH148 => ?_); clear hK K hH142; (try simp only [Act.put, kq])
    refine tk2 at5 at6 ?_; refine tk at7 ?_; refine roW at8 fun K hK => ?_; refine cj8 (Y2 M).c4 fun am ar ao au ap av aq aw => ?_; refine cj4 (TQ.st (Y0 M)) fun cz dc dd de => ?_; go_simp; clear am ar ao au ap av aq aw cz dc dd de; refine st4V (x_143) (x_144) (x_145) (x_146) (Y2 M) (J13 M) fun w19 hv og hk hbw => ?_; rw [← hv]; replace M := hI (aI ((Y0 M).f (Y2 M) og) (aI ((Y1 M).f (Y2 M) og) (aI hk (aI ((Y3 M).f (Y2 M) og) (aI ((Y4 M).f (Y2 M) og) (aI ((Y5 M).f (Y2 M) og) (aI ((Y6 M).f (Y2 M) og) (aI ((Y7 M).f (Y2 M) og) (aI ((Y8 M).o og) (aI ((Y9 M).f (Y2 M) og) (aI ((Y10 M).o og) (aI ((Y11 M).f (Y2 M) og) (aI ((Y12 M).o og) hbw))))))))))))); clear hk hbw og hv; refine hK.out _ _ (trivial) (fun hH149 => ?_); clear hK K hH148; (try simp only [Act.put, kq])
    refine dnW ?_; clear hH149; refine (Y10 M).D4 fun bb bc bd bf => ?_; refine (Y2 M).D4 fun am ao ap aq => ?_; refine cj16 (Y12 M).c8 fun bg bh bi bj bk bl bm bn bo bp bq br bs bt bu bv => ?_; refine cj4 (TQ.st (Y4 M)) fun cr cs ct cu => ?_; refine cj4 (TQ.st (Y0 M)) fun cz dc dd de => ?_; go_wp2_with fail
    clear bb bc bd bf am ao ap aq bg bh bi bj bk bl bm bn bo bp bq br bs bt bu bv cr cs ct cu cz dc dd de; have hz : w.heap.size ≤ w.heap.size := by exact Nat.le_refl _
    refine st8W (x_113) (x_114) (x_115) (x_116) (x_143) (x_144) (x_145) (x_146) (Y12 M) (J13 M) hz fun w20 hv og hk hbw => ?_; rw [← hv]; replace M := hI (aI ((Y0 M).f (Y12 M) og) (aI ((Y1 M).f (Y12 M) og) (aI ((Y2 M).o og) (aI ((Y3 M).f (Y12 M) og) (aI ((Y4 M).f (Y12 M) og) (aI ((Y5 M).f (Y12 M) og) (aI ((Y6 M).f (Y12 M) og) (aI ((Y7 M).f (Y12 M) og) (aI ((Y8 M).o og) (aI ((Y9 M).f (Y12 M) og) (aI ((Y10 M).o og) (aI ((Y11 M).f (Y12 M) og) (aI hk hbw))))))))))))); clear hk hbw og hv hz; refine bodyPost_ret (results_box2 rfl _ _ w.heap.size 38 _ _ _ rfl (Y12 M) Tryz.underlying38 rfl (by kernel_rfl)) rfl ?_; exact ⟨x_113, x_114, x_115, x_116, x_143, x_144, x_145, x_146, rfl, (by have h_ := (Y4 M); rw [show (maxQ q89 q110) = lo from by rw [Eq110.out]; rw [Eq89.out]; rw [← HLO.out]; unfold cntLo; rw [HO1.out, HQB.out]; rfl] at h_; exact h_), (Y0 M), (J13 M)⟩
   refine AllReadyH.cons at3 (fun K hK => ?_) AllReadyH.nil; go_simp; refine (ctLeast (G := G) (day := da) (q := qa) (Nat.le_trans hG (J11 M).size) (HL.out.keep (J11 M)) (by omega) HZ.out HQA.out).mono ?_; rintro e w17 ⟨x_150, x_151, x_152, x_153, rfl, hd154, hb⟩; replace M := adM hd154 hb M; clear hb hd154; (try go_wp2_with fail)
   refine hK.out _ _ (trivial) (fun hH155 => ?_); clear hK K hH135; (try simp only [Act.put, kq])
   refine roW at0 fun K hK => ?_; refine (Y1 M).D4 fun am ao ap aq => ?_; go_simp; clear am ao ap aq; refine hK.out _ _ (trivial) (fun hH156 => ?_); clear hK K hH155; (try simp only [Act.put, kq])
   refine roW at4 fun K hK => ?_; go_simp; refine (ctSub_u (G := G) (o := o2) (p := hi) (r := qa) (er := er) (Y2 M) (Y0 M) (Oz.mono HZ2.out (by omega)) (Fz.mono HZA.out (by omega)) (by exact HHI.out) HER.out).mono ?_; rintro e w18 ⟨x_157, x_158, x_159, x_160, rfl, hd161, hb⟩; replace M := adM hd161 hb M; clear hb hd161; (try go_wp2_with fail)
   refine hK.out _ _ (trivial) (fun hH162 => ?_); clear hK K hH156; (try simp only [Act.put, kq])
   refine tk2 at5 at6 ?_; refine tk at7 ?_; refine roW at8 fun K hK => ?_; refine cj8 (Y2 M).c4 fun am ar ao au ap av aq aw => ?_; refine cj4 (TQ.st (Y0 M)) fun df dg dh di => ?_; go_simp; clear am ar ao au ap av aq aw df dg dh di; refine st4V (x_157) (x_158) (x_159) (x_160) (Y2 M) (J13 M) fun w19 hv og hk hbw => ?_; rw [← hv]; replace M := hI (aI ((Y0 M).f (Y2 M) og) (aI ((Y1 M).f (Y2 M) og) (aI hk (aI ((Y3 M).f (Y2 M) og) (aI ((Y4 M).f (Y2 M) og) (aI ((Y5 M).f (Y2 M) og) (aI ((Y6 M).f (Y2 M) og) (aI ((Y7 M).f (Y2 M) og) (aI ((Y8 M).o og) (aI ((Y9 M).f (Y2 M) og) (aI ((Y10 M).o og) (aI ((Y11 M).f (Y2 M) og) (aI ((Y12 M).o og) hbw))))))))))))); clear hk hbw og hv; refine hK.out _ _ (trivial) (fun hH163 => ?_); clear hK K hH162; (try simp only [Act.put, kq])
   refine dnW ?_; clear hH163; refine (Y10 M).D4 fun bb bc bd bf => ?_; refine (Y2 M).D4 fun am ao ap aq => ?_; refine cj16 (Y12 M).c8 fun bg bh bi bj bk bl bm bn bo bp bq br bs bt bu bv => ?_; refine cj4 (TQ.st (Y4 M)) fun cr cs ct cu => ?_; refine cj4 (TQ.st (Y0 M)) fun df dg dh di => ?_; go_wp2_with fail
   clear bb bc bd bf am ao ap aq bg bh bi bj bk bl bm bn bo bp bq br bs bt bu bv cr cs ct cu df dg dh di; have hz : w.heap.size ≤ w.heap.size := by exact Nat.le_refl _
   refine st8W (x_113) (x_114) (x_115) (x_116) (x_157) (x_158) (x_159) (x_160) (Y12 M) (J13 M) hz fun w20 hv og hk hbw => ?_; rw [← hv]; replace M := hI (aI ((Y0 M).f (Y12 M) og) (aI ((Y1 M).f (Y12 M) og) (aI ((Y2 M).o og) (aI ((Y3 M).f (Y12 M) og) (aI ((Y4 M).f (Y12 M) og) (aI ((Y5 M).f (Y12 M) og) (aI ((Y6 M).f (Y12 M) og) (aI ((Y7 M).f (Y12 M) og) (aI ((Y8 M).o og) (aI ((Y9 M).f (Y12 M) og) (aI ((Y10 M).o og) (aI ((Y11 M).f (Y12 M) og) (aI hk hbw))))))))))))); clear hk hbw og hv hz; refine bodyPost_ret (results_box2 rfl _ _ w.heap.size 38 _ _ _ rfl (Y12 M) Tryz.underlying38 rfl (by kernel_rfl)) rfl ?_; exact ⟨x_113, x_114, x_115, x_116, x_157, x_158, x_159, x_160, rfl, (by have h_ := (Y4 M); rw [show (maxQ q89 q110) = lo from by rw [Eq110.out]; rw [Eq89.out]; rw [← HLO.out]; unfold cntLo; rw [HO1.out, HQB.out]; rfl] at h_; exact h_), (Y0 M), (J13 M)⟩
  refine AllReadyH.cons at1 (fun K hK => ?_) AllReadyH.nil; go_simp; refine nmW (α := Rat) ((0 : Int) : Rat) fun q168 eq168 => ?_; refine (fqInt (G := G) (x := 0) (by decide)).mono ?_; rintro e w11 ⟨x_164, x_165, x_166, x_167, rfl, hd169, hb⟩; rw [← eq168] at hd169; have Sq168 := szW eq168 (n := 4) (Fz.int64 (by decide)); have Eq168 := hI eq168; clear eq168; replace M := adM hd169 hb M; clear hb hd169; (try go_wp2_with fail)
  refine hK.out _ _ (trivial) (fun hH170 => ?_); clear hK K hH104; (try simp only [Act.put, kq])
  refine roW at0 fun K hK => ?_; refine (Y5 M).D4 fun bb bc bd bf => ?_; go_simp; clear bb bc bd bf; refine hK.out _ _ (trivial) (fun hH171 => ?_); clear hK K hH170; (try simp only [Act.put, kq])
  refine roW at2 fun K hK => ?_; go_simp; refine (fqMax (G := G) (q := q89) (r := q168) (m := (maxQ q89 q168)) (Nat.le_trans hG (J8 M).size) (Y1 M) (Y0 M) (Fz.mono Sq89.out (by omega)) (Fz.mono Sq168.out (by omega)) (pick_max _ _)).mono ?_; rintro e w12 ⟨x_172, x_173, x_174, x_175, rfl, hd176, hb⟩; replace M := adM hd176 hb M; clear hb hd176; (try go_wp2_with fail)
  refine hK.out _ _ (trivial) (fun hH177 => ?_); clear hK K hH171; (try simp only [Act.put, kq])
  refine tk2 at3 at4 ?_; refine tk at5 ?_; refine roW at6 fun K hK => ?_; refine cj8 (Y6 M).c4 fun bb cj bc ck bd cl bf cm => ?_; refine cj4 (TQ.st (Y0 M)) fun dj dk dl dm => ?_; go_simp; clear bb cj bc ck bd cl bf cm dj dk dl dm; refine st4V (x_172) (x_173) (x_174) (x_175) (Y6 M) (J9 M) fun w13 hv og hk hbw => ?_; rw [← hv]; replace M := hI (aI ((Y0 M).f (Y6 M) og) (aI ((Y1 M).f (Y6 M) og) (aI ((Y2 M).f (Y6 M) og) (aI ((Y3 M).f (Y6 M) og) (aI ((Y4 M).o og) (aI ((Y5 M).f (Y6 M) og) (aI hk (aI ((Y7 M).f (Y6 M) og) (aI ((Y8 M).o og) hbw))))))))); clear hk hbw og hv; refine hK.out _ _ (trivial) (fun hH178 => ?_); clear hK K hH177; (try simp only [Act.put, kq])
  refine dnW ?_; clear hH178; go_wp2_with fail
  refine (ctMost (G := G) (day := db) (o := o2) (b_ := b_) (Nat.le_trans hG (J9 M).size) (HL.out.keep (J9 M)) (by omega) HZ.out HO2.out HB2.out).mono ?_; rintro e w14 ⟨x_179, x_180, x_181, x_182, rfl, hd183, hb⟩; replace M := adM hd183 hb M; clear hb hd183; refine cj4 (TQ.st (Y0 M)) fun dn dp dq dr => ?_; go_wp2_with fail
  clear dn dp dq dr; generalize hv : World.alloc w14 _ = w15; have ow3_ := ((Y5 M)).lt; replace M := alM hv.symm M; clear hv; refine nmW w15.drew fun w16 hv => ?_; replace M := drM hv M; refine wp_region_held_drew (S := (fun _ => True)) (by kernel_rfl) trivial (fun hH194 => ?_); rw [← hv]; clear hv; refine tk2 at1 at2 ?_; refine ryW [0, 3] ?_; refine AllReadyH.cons at0 (fun K hK => ?_) ?_
  ·
   refine (Y0 M).D4 fun am ao ap aq => ?_; go_simp; clear am ao ap aq; refine hK.out _ _ (trivial) (fun hH195 => ?_); clear hK K hH194; (try simp only [Act.put, kq])
   refine roW at3 fun K hK => ?_; go_simp; refine (ctLeast (G := G) (day := da) (q := qa) (Nat.le_trans hG (J11 M).size) (HL.out.keep (J11 M)) (by omega) HZ.out HQA.out).mono ?_; rintro e w17 ⟨x_196, x_197, x_198, x_199, rfl, hd200, hb⟩; replace M := adM hd200 hb M; clear hb hd200; (try go_wp2_with fail)
   refine hK.out _ _ (trivial) (fun hH201 => ?_); clear hK K hH195; (try simp only [Act.put, kq])
   refine roW at4 fun K hK => ?_; go_simp; refine (ctSub_u (G := G) (o := o2) (p := hi) (r := qa) (er := er) (Y2 M) (Y0 M) (Oz.mono HZ2.out (by omega)) (Fz.mono HZA.out (by omega)) (by exact HHI.out) HER.out).mono ?_; rintro e w18 ⟨x_202, x_203, x_204, x_205, rfl, hd206, hb⟩; replace M := adM hd206 hb M; clear hb hd206; (try go_wp2_with fail)
   refine hK.out _ _ (trivial) (fun hH207 => ?_); clear hK K hH201; (try simp only [Act.put, kq])
   refine tk2 at5 at6 ?_; refine tk at7 ?_; refine roW at8 fun K hK => ?_; refine cj8 (Y2 M).c4 fun am ar ao au ap av aq aw => ?_; refine cj4 (TQ.st (Y0 M)) fun ds dt du dv => ?_; go_simp; clear am ar ao au ap av aq aw ds dt du dv; refine st4V (x_202) (x_203) (x_204) (x_205) (Y2 M) (J13 M) fun w19 hv og hk hbw => ?_; rw [← hv]; replace M := hI (aI ((Y0 M).f (Y2 M) og) (aI ((Y1 M).f (Y2 M) og) (aI hk (aI ((Y3 M).f (Y2 M) og) (aI ((Y4 M).f (Y2 M) og) (aI ((Y5 M).f (Y2 M) og) (aI ((Y6 M).f (Y2 M) og) (aI ((Y7 M).f (Y2 M) og) (aI ((Y8 M).o og) (aI ((Y9 M).f (Y2 M) og) (aI ((Y10 M).o og) (aI ((Y11 M).f (Y2 M) og) (aI ((Y12 M).o og) hbw))))))))))))); clear hk hbw og hv; refine hK.out _ _ (trivial) (fun hH208 => ?_); clear hK K hH207; (try simp only [Act.put, kq])
   refine dnW ?_; clear hH208; refine (Y10 M).D4 fun bb bc bd bf => ?_; refine (Y2 M).D4 fun am ao ap aq => ?_; refine cj16 (Y12 M).c8 fun bg bh bi bj bk bl bm bn bo bp bq br bs bt bu bv => ?_; refine cj4 (TQ.st (Y4 M)) fun dj dk dl dm => ?_; refine cj4 (TQ.st (Y0 M)) fun ds dt du dv => ?_; go_wp2_with fail
   clear bb bc bd bf am ao ap aq bg bh bi bj bk bl bm bn bo bp bq br bs bt bu bv dj dk dl dm ds dt du dv; have hz : w.heap.size ≤ w.heap.size := by exact Nat.le_refl _
   refine st8W (x_172) (x_173) (x_174) (x_175) (x_202) (x_203) (x_204) (x_205) (Y12 M) (J13 M) hz fun w20 hv og hk hbw => ?_; rw [← hv]; replace M := hI (aI ((Y0 M).f (Y12 M) og) (aI ((Y1 M).f (Y12 M) og) (aI ((Y2 M).o og) (aI ((Y3 M).f (Y12 M) og) (aI ((Y4 M).f (Y12 M) og) (aI ((Y5 M).f (Y12 M) og) (aI ((Y6 M).f (Y12 M) og) (aI ((Y7 M).f (Y12 M) og) (aI ((Y8 M).o og) (aI ((Y9 M).f (Y12 M) og) (aI ((Y10 M).o og) (aI ((Y11 M).f (Y12 M) og) (aI hk hbw))))))))))))); clear hk hbw og hv hz; refine bodyPost_ret (results_box2 rfl _ _ w.heap.size 38 _ _ _ rfl (Y12 M) Tryz.underlying38 rfl (by kernel_rfl)) rfl ?_; exact ⟨x_172, x_173, x_174, x_175, x_202, x_203, x_204, x_205, rfl, (by have h_ := (Y4 M); rw [show (maxQ q89 q168) = lo from by rw [Eq168.out]; rw [Eq89.out]; rw [← HLO.out]; unfold cntLo; rw [HO1.out, HQB.out]; rfl] at h_; exact h_), (Y0 M), (J13 M)⟩
  refine AllReadyH.cons at3 (fun K hK => ?_) AllReadyH.nil; go_simp; refine (ctLeast (G := G) (day := da) (q := qa) (Nat.le_trans hG (J11 M).size) (HL.out.keep (J11 M)) (by omega) HZ.out HQA.out).mono ?_; rintro e w17 ⟨x_209, x_210, x_211, x_212, rfl, hd213, hb⟩; replace M := adM hd213 hb M; clear hb hd213; (try go_wp2_with fail)
  refine hK.out _ _ (trivial) (fun hH214 => ?_); clear hK K hH194; (try simp only [Act.put, kq])
  refine roW at0 fun K hK => ?_; refine (Y1 M).D4 fun am ao ap aq => ?_; go_simp; clear am ao ap aq; refine hK.out _ _ (trivial) (fun hH215 => ?_); clear hK K hH214; (try simp only [Act.put, kq])
  refine roW at4 fun K hK => ?_; go_simp; refine (ctSub_u (G := G) (o := o2) (p := hi) (r := qa) (er := er) (Y2 M) (Y0 M) (Oz.mono HZ2.out (by omega)) (Fz.mono HZA.out (by omega)) (by exact HHI.out) HER.out).mono ?_; rintro e w18 ⟨x_216, x_217, x_218, x_219, rfl, hd220, hb⟩; replace M := adM hd220 hb M; clear hb hd220; (try go_wp2_with fail)
  refine hK.out _ _ (trivial) (fun hH221 => ?_); clear hK K hH215; (try simp only [Act.put, kq])
  refine tk2 at5 at6 ?_; refine tk at7 ?_; refine roW at8 fun K hK => ?_; refine cj8 (Y2 M).c4 fun am ar ao au ap av aq aw => ?_; refine cj4 (TQ.st (Y0 M)) fun dw dx dy dz => ?_; go_simp; clear am ar ao au ap av aq aw dw dx dy dz; refine st4V (x_216) (x_217) (x_218) (x_219) (Y2 M) (J13 M) fun w19 hv og hk hbw => ?_; rw [← hv]; replace M := hI (aI ((Y0 M).f (Y2 M) og) (aI ((Y1 M).f (Y2 M) og) (aI hk (aI ((Y3 M).f (Y2 M) og) (aI ((Y4 M).f (Y2 M) og) (aI ((Y5 M).f (Y2 M) og) (aI ((Y6 M).f (Y2 M) og) (aI ((Y7 M).f (Y2 M) og) (aI ((Y8 M).o og) (aI ((Y9 M).f (Y2 M) og) (aI ((Y10 M).o og) (aI ((Y11 M).f (Y2 M) og) (aI ((Y12 M).o og) hbw))))))))))))); clear hk hbw og hv; refine hK.out _ _ (trivial) (fun hH222 => ?_); clear hK K hH221; (try simp only [Act.put, kq])
  refine dnW ?_; clear hH222; refine (Y10 M).D4 fun bb bc bd bf => ?_; refine (Y2 M).D4 fun am ao ap aq => ?_; refine cj16 (Y12 M).c8 fun bg bh bi bj bk bl bm bn bo bp bq br bs bt bu bv => ?_; refine cj4 (TQ.st (Y4 M)) fun dj dk dl dm => ?_; refine cj4 (TQ.st (Y0 M)) fun dw dx dy dz => ?_; go_wp2_with fail
  clear bb bc bd bf am ao ap aq bg bh bi bj bk bl bm bn bo bp bq br bs bt bu bv dj dk dl dm dw dx dy dz; have hz : w.heap.size ≤ w.heap.size := by exact Nat.le_refl _
  refine st8W (x_172) (x_173) (x_174) (x_175) (x_216) (x_217) (x_218) (x_219) (Y12 M) (J13 M) hz fun w20 hv og hk hbw => ?_; rw [← hv]; replace M := hI (aI ((Y0 M).f (Y12 M) og) (aI ((Y1 M).f (Y12 M) og) (aI ((Y2 M).o og) (aI ((Y3 M).f (Y12 M) og) (aI ((Y4 M).f (Y12 M) og) (aI ((Y5 M).f (Y12 M) og) (aI ((Y6 M).f (Y12 M) og) (aI ((Y7 M).f (Y12 M) og) (aI ((Y8 M).o og) (aI ((Y9 M).f (Y12 M) og) (aI ((Y10 M).o og) (aI ((Y11 M).f (Y12 M) og) (aI hk hbw))))))))))))); clear hk hbw og hv hz; refine bodyPost_ret (results_box2 rfl _ _ w.heap.size 38 _ _ _ rfl (Y12 M) Tryz.underlying38 rfl (by kernel_rfl)) rfl ?_; exact ⟨x_172, x_173, x_174, x_175, x_216, x_217, x_218, x_219, rfl, (by have h_ := (Y4 M); rw [show (maxQ q89 q168) = lo from by rw [Eq168.out]; rw [Eq89.out]; rw [← HLO.out]; unfold cntLo; rw [HO1.out, HQB.out]; rfl] at h_; exact h_), (Y0 M), (J13 M)⟩
theorem mErr_1 {l : List Mt} {k : Nat} {s f u : Int} (hx : l[k]? = some ⟨s, f, u⟩) (h : s < 0) : mErr l k = 1 := by
 unfold mErr; rw [hx]; show (if s < 0 then _ else _) = _; rw [if_pos h]
theorem mErr_18 {l : List Mt} {k : Nat} {s f u : Int} (hx : l[k]? = some ⟨s, f, u⟩) (h0 : ¬ s < 0) (h : f < 0 ∨ u ≤ f ∨ 100000 < u ∨ (0 < k ∧ (l.getD (k - 1) ⟨0, 0, 0⟩).u ≠ f)) : mErr l k = 18 := by
 unfold mErr; rw [hx]; show (if s < 0 then _ else (if _ then _ else _)) = _; rw [if_neg h0, if_pos]; simp only [Bool.or_eq_true, Bool.and_eq_true, decide_eq_true_eq, Bool.not_eq_true', decide_eq_false_iff_not]; rcases h with h | h | h | h
 · exact .inl (.inl (.inl h))
 · exact .inl (.inl (.inr h))
 · exact .inl (.inr h)
 · exact .inr h
theorem mErr_0 {l : List Mt} {k : Nat} {s f u : Int} (hx : l[k]? = some ⟨s, f, u⟩) (h0 : ¬ s < 0) (h1 : ¬ f < 0) (h2 : ¬ u ≤ f) (h3 : ¬ 100000 < u) (h4 : 0 < k → (l.getD (k - 1) ⟨0, 0, 0⟩).u = f) : mErr l k = 0 := by
 unfold mErr; rw [hx]; show (if s < 0 then _ else (if _ then _ else _)) = _; rw [if_neg h0, if_neg]; simp only [Bool.or_eq_true, Bool.and_eq_true, decide_eq_true_eq, Bool.not_eq_true', decide_eq_false_iff_not]; rintro (((h | h) | h) | ⟨h, h'⟩)
 · exact h1 h
 · exact h2 h
 · exact h3 h
 · exact h' (h4 h)
theorem getD_of {α : Type} {l : List α} {k : Nat} {x d : α} (h : l[k]? = some x) : l.getD k d = x := by rw [List.getD_eq_getElem?_getD, h]; rfl
theorem step_zero {f : Nat → Int} {k : Nat} (h : ∀ j, j < k → f j = 0) (h1 : f k = 0) : ∀ j, j < k + 1 → f j = 0 := fun j hj => by
 rcases Nat.lt_or_ge j k with h2 | h2
 · exact h j h2
 · rw [show j = k by omega]; exact h1
theorem ctAfter {xm xd xc ym yd yc : Int} {b_ : Bool} {w : World} (hb : afterB ⟨xm, xd, xc⟩ ⟨ym, yd, yc⟩ = b_) :
 Calls Tryz.prog 55 #[.agg #[.int .i64 xm, .int .i64 xd, .int .i64 xc], .agg #[.int .i64 ym, .int .i64 yd, .int .i64 yc]] w fun e w' => e = .returned (.bool b_) ∧ Below w.heap.size w w' := by
 unfold afterB at hb; simp only at hb; obtain ⟨t1, ht1⟩ : ∃ b, decide (ym < xm) = b := ⟨_, rfl⟩; obtain ⟨t2, ht2⟩ : ∃ b, decide (xm = ym) = b := ⟨_, rfl⟩; obtain ⟨t3, ht3⟩ : ∃ b, decide (yd < xd) = b := ⟨_, rfl⟩; rw [ht1, ht2, ht3] at hb; have ht4 : (xm == ym) = t2 := by rw [← ht2]; exact Bool.eq_iff_iff.2 ⟨fun h => decide_eq_true (beq_iff_eq.1 h), fun h => beq_iff_eq.2 (of_decide_eq_true h)⟩
 have HB := hI hb; clear hb; have M : Hid (Below w.heap.size w w) := Below.refl _ _; go_enter Tryz.func55, Tryz.ntmps55
 go_upto_region 1 with fail
 generalize hv : World.alloc (World.alloc w _) _ = w1; replace M := al2W hv.symm M; clear hv
 cases t1 with
 | false =>
  cases t2 with
  | false =>
   refine (Y1 M).D3 fun aa ab ac => ?_; refine (Y0 M).D3 fun ad ae af => ?_; go_wp2_with fail
   clear aa ab ac ad ae af; go_ret
   exact ⟨by rw [← HB.out]; first | rfl | (cases t3 <;> rfl), (J2 M)⟩
  | true =>
   refine (Y1 M).D3 fun aa ab ac => ?_; refine (Y0 M).D3 fun ad ae af => ?_; go_wp2_with fail
   clear aa ab ac ad ae af; go_ret
   exact ⟨by rw [← HB.out]; first | rfl | (cases t3 <;> rfl), (J2 M)⟩
 | true =>
  refine (Y1 M).D3 fun aa ab ac => ?_; refine (Y0 M).D3 fun ad ae af => ?_; go_wp2_with fail
  clear aa ab ac ad ae af; go_ret
  exact ⟨by rw [← HB.out]; first | rfl | (cases t3 <;> rfl), (J2 M)⟩
theorem ctMeters {l : List Mt} {a : Option Addr} {n c : Nat} {er : Int} {w : World} (h : RdMt G w a n c l) (_hn : n ≤ 1000) (he : firstE (mErr l) l.length = er) :
 Calls Tryz.prog 54 #[.slice a n c] w fun e w' => e = .returned (.int .i64 er) ∧ Below w.heap.size w w' := by
 have HE := hI he; clear he; have HL : Hid (RdMt G w a n c l) := h; clear h; have M : Hid (Below w.heap.size w w) := Below.refl _ _; go_enter Tryz.func54, Tryz.ntmps54
 go_wp2_with fail
 go_loopw [7] (fun i7 wr => ∃ (k : Nat), i7 = .int .i64 (k : Int) ∧ Hid (k ≤ n) ∧ Hid (∀ j, j < k → mErr l j = 0) ∧ Hid (Below w.heap.size w wr)) (fun i7 _ => n - (RowKit.intOf i7).toNat)
 case atStart =>
  exact ⟨0, rfl, (by show _ ≤ _; omega), (hI (fun j hj => absurd hj (by omega))), hI M.out⟩
 case round =>
  obtain ⟨w1, rfl⟩ : ∃ x, x = wr := ⟨_, rfl⟩; clear M; obtain ⟨k, rfl, hk, HZk, M⟩ := hrel; have hk := hk.out
  by_cases hlt : k < n
  ·
   refine ltW (show k < n by omega) fun e1_0 e1_1 e1_i => ?_; obtain ⟨b, off, rfl, hb_⟩ := RdL.ptr HL.out (by omega : 0 < n); have hbkb := hI hb_; have hkl_ : k < l.length := by rw [HL.out.len]; exact hlt
   obtain ⟨x_, hx_⟩ : ∃ x, l[k]? = some x := ⟨l[k], List.getElem?_eq_getElem hkl_⟩; obtain ⟨xs, xf, xu⟩ := x_; have HRx : Hid (Row w b (off + k * 3) [.int .i64 xs, .int .i64 xf, .int .i64 xu]) := hb_.row hx_; have HEx := hI hx_; have hlx := hkl_; clear hx_ hb_ hkl_
   by_cases c1_ : xs < 0
   ·
    refine dtW (show xs < 0 by omega) fun c1 c1i => ?_; have HMK : Hid (mErr l k = 1) := mErr_1 HEx.out c1i; refine cj3 (HRx.out.keep M.out).c3 fun r0_0 r0_1 r0_2 => ?_; go_upto_region 4 with fail
    clear r0_0 r0_1 r0_2; generalize hv : World.alloc w1 _ = w2; have ow0_ : w.heap.size ≤ w1.heap.size := (M.out).size; replace M := alM hv.symm M; clear hv; refine (Y0 M).D3 fun aa ab ac => ?_; go_wp2_with fail
    clear aa ab ac; go_ret
    exact ⟨by rw [← HE.out, firstE_at (by have := HL.out.len; omega) HZk.out (by rw [HMK.out]; decide), HMK.out] <;> rfl, (J1 M)⟩
   ·
    refine dfW (show ¬ xs < 0 by omega) fun c1 c1i => ?_
    by_cases c2_ : xf < 0
    ·
     refine dtW (show xf < 0 by omega) fun c2 c2i => ?_; have HMK : Hid (mErr l k = 18) := mErr_18 HEx.out c1i (.inl c2i); refine cj3 (HRx.out.keep M.out).c3 fun r0_0 r0_1 r0_2 => ?_; go_upto_region 4 with fail
     clear r0_0 r0_1 r0_2; generalize hv : World.alloc w1 _ = w2; have ow0_ : w.heap.size ≤ w1.heap.size := (M.out).size; replace M := alM hv.symm M; clear hv; refine (Y0 M).D3 fun aa ab ac => ?_; go_wp2_with fail
     clear aa ab ac; refine nmW w2.drew fun w3 hv => ?_; replace M := drM hv M; refine rg3W hv (Y0 M) fun hH1 => ?_; clear hv; refine tk4 at0 at1 at2 at3 ?_; refine tu4 at4 at5 at6 at7 ?_; refine tu at8 ?_; refine tk2 at9 at10 ?_; refine tu2 at11 at12 ?_; refine tu at13 ?_; refine tk2 at14 at15 ?_; refine tu8 at16 at17 at18 at19 at20 at21 at22 at23 ?_; refine tu4 at24 at25 at26 at27 ?_; refine tu at28 ?_; refine tk2 at29 at30 ?_; refine dnW ?_; clear hH1; go_wp2_with fail
     go_ret
     exact ⟨by rw [← HE.out, firstE_at (by have := HL.out.len; omega) HZk.out (by rw [HMK.out]; decide), HMK.out] <;> rfl, (J1 M)⟩
    ·
     refine dfW (show ¬ xf < 0 by omega) fun c2 c2i => ?_
     by_cases c3_ : xu ≤ xf
     ·
      refine dtW (show xu ≤ xf by omega) fun c3 c3i => ?_; have HMK : Hid (mErr l k = 18) := mErr_18 HEx.out c1i (.inr (.inl c3i)); refine cj3 (HRx.out.keep M.out).c3 fun r0_0 r0_1 r0_2 => ?_; go_upto_region 4 with fail
      clear r0_0 r0_1 r0_2; generalize hv : World.alloc w1 _ = w2; have ow0_ : w.heap.size ≤ w1.heap.size := (M.out).size; replace M := alM hv.symm M; clear hv; refine (Y0 M).D3 fun aa ab ac => ?_; go_wp2_with fail
      clear aa ab ac; refine nmW w2.drew fun w3 hv => ?_; replace M := drM hv M; refine rg3W hv (Y0 M) fun hH2 => ?_; clear hv; refine tk8 at0 at1 at2 at3 at4 at5 at6 at7 ?_; refine tk2 at8 at9 ?_; refine tk at10 ?_; refine tu2 at11 at12 ?_; refine tu at13 ?_; refine tk2 at14 at15 ?_; refine tu8 at16 at17 at18 at19 at20 at21 at22 at23 ?_; refine tu4 at24 at25 at26 at27 ?_; refine tu at28 ?_; refine tk2 at29 at30 ?_; refine dnW ?_; clear hH2; go_wp2_with fail
      go_ret
      exact ⟨by rw [← HE.out, firstE_at (by have := HL.out.len; omega) HZk.out (by rw [HMK.out]; decide), HMK.out] <;> rfl, (J1 M)⟩
     ·
      refine dfW (show ¬ xu ≤ xf by omega) fun c3 c3i => ?_
      by_cases c4_ : 100000 < xu
      ·
       refine dtW (show 100000 < xu by omega) fun c4 c4i => ?_; have HMK : Hid (mErr l k = 18) := mErr_18 HEx.out c1i (.inr (.inr (.inl c4i))); refine cj3 (HRx.out.keep M.out).c3 fun r0_0 r0_1 r0_2 => ?_; go_upto_region 4 with fail
       clear r0_0 r0_1 r0_2; generalize hv : World.alloc w1 _ = w2; have ow0_ : w.heap.size ≤ w1.heap.size := (M.out).size; replace M := alM hv.symm M; clear hv; refine (Y0 M).D3 fun aa ab ac => ?_; go_wp2_with fail
       clear aa ab ac; refine nmW w2.drew fun w3 hv => ?_; replace M := drM hv M; refine rg3W hv (Y0 M) fun hH3 => ?_; clear hv; refine tk8 at0 at1 at2 at3 at4 at5 at6 at7 ?_; refine tk8 at8 at9 at10 at11 at12 at13 at14 at15 ?_; refine tu8 at16 at17 at18 at19 at20 at21 at22 at23 ?_; refine tu4 at24 at25 at26 at27 ?_; refine tu at28 ?_; refine tk2 at29 at30 ?_; refine dnW ?_; clear hH3; go_wp2_with fail
       go_ret
       exact ⟨by rw [← HE.out, firstE_at (by have := HL.out.len; omega) HZk.out (by rw [HMK.out]; decide), HMK.out] <;> rfl, (J1 M)⟩
      ·
       refine dfW (show ¬ 100000 < xu by omega) fun c4 c4i => ?_
       by_cases hk0 : 0 < k
       ·
        have e2_0 : decide (0 < k) = true := decide_eq_true (by omega); have e2_1 : decide (0 < (k : Int)) = true := decide_eq_true (by omega); have e2_i : 0 < (k : Int) := by omega
        have hix0 : (0 : Int) ≤ (k : Int) - 1 := by omega
        have hix1 : (k : Int) - 1 < (n : Int) := by omega
        have hix2 : ((k : Int) - 1).toNat = k - 1 := by omega
        have hix3 : IntKind.i64.wrap ((k : Int) - 1) = (k : Int) - 1 := by rw [IntKind.wrap_i64]; omega
        have hix4 : (1 : Int) ≤ (k : Int) := by omega
        have hb_ := hbkb.out; have hkl_ : (k - 1) < l.length := by rw [HL.out.len]; omega
        obtain ⟨y_, hx_⟩ : ∃ x, l[(k - 1)]? = some x := ⟨l[(k - 1)], List.getElem?_eq_getElem hkl_⟩; obtain ⟨ys, yf, yu⟩ := y_; have HRy : Hid (Row w b (off + (k - 1) * 3) [.int .i64 ys, .int .i64 yf, .int .i64 yu]) := hb_.row hx_; have HEy := hI hx_; have hly := hkl_; clear hx_ hb_ hkl_
        by_cases c5_ : xf = yu
        ·
         have c5 : (xf != yu) = false := by simpa using c5_
         have HC5 := hI c5_; clear c5_; have HMK : Hid (mErr l k = 0) := mErr_0 HEx.out c1i c2i c3i c4i (fun _ => by rw [getD_of HEy.out]; exact HC5.out.symm); refine cj3 (HRx.out.keep M.out).c3 fun r0_0 r0_1 r0_2 => ?_; go_upto_region 4 with fail
         clear r0_0 r0_1 r0_2; generalize hv : World.alloc w1 _ = w2; have ow0_ : w.heap.size ≤ w1.heap.size := (M.out).size; replace M := alM hv.symm M; clear hv; refine (Y0 M).D3 fun aa ab ac => ?_; go_wp2_with fail
         clear aa ab ac; refine nmW w2.drew fun w3 hv => ?_; replace M := drM hv M; refine rgW (S := (fun w' => w'.cell? ⟨w1.heap.size, 0, none⟩ = some (.int .i64 xs) ∧ w'.cell? ⟨w1.heap.size, 1, none⟩ = some (.int .i64 xf) ∧ w'.cell? ⟨w1.heap.size, 2, none⟩ = some (.int .i64 xu) ∧ w'.cell? ⟨b, off + (k - 1) * 3, none⟩ = some (.int .i64 ys) ∧ w'.cell? ⟨b, off + (k - 1) * 3 + 1, none⟩ = some (.int .i64 yf) ∧ w'.cell? ⟨b, off + (k - 1) * 3 + 2, none⟩ = some (.int .i64 yu))) hv ((Y0 M).t3 ((HRy.out.keep (J1 M)).c3)) fun hH4 => ?_; clear hv; refine tk8 at0 at1 at2 at3 at4 at5 at6 at7 ?_; refine tk8 at8 at9 at10 at11 at12 at13 at14 at15 ?_; refine tk8 at16 at17 at18 at19 at20 at21 at22 at23 ?_; refine tk4 at24 at25 at26 at27 ?_; refine tk2 at28 at29 ?_; refine tk at30 ?_; refine dnW ?_; clear hH4; go_wp2_with fail
         go_roundw
         case rel => exact ⟨(k + 1), by go_num, (by show _ ≤ _; omega), (hI (step_zero HZk.out HMK.out)), hI (J1 M)⟩
         case measure => simp [RowKit.intOf] <;> omega
        ·
         have c5 : (xf != yu) = true := by simpa using c5_
         have HC5 := hI c5_; clear c5_; have HMK : Hid (mErr l k = 18) := mErr_18 HEx.out c1i (.inr (.inr (.inr ⟨by omega, by rw [getD_of HEy.out]; exact fun h => HC5.out h.symm⟩))); refine cj3 (HRx.out.keep M.out).c3 fun r0_0 r0_1 r0_2 => ?_; go_upto_region 4 with fail
         clear r0_0 r0_1 r0_2; generalize hv : World.alloc w1 _ = w2; have ow0_ : w.heap.size ≤ w1.heap.size := (M.out).size; replace M := alM hv.symm M; clear hv; refine (Y0 M).D3 fun aa ab ac => ?_; go_wp2_with fail
         clear aa ab ac; refine nmW w2.drew fun w3 hv => ?_; replace M := drM hv M; refine rgW (S := (fun w' => w'.cell? ⟨w1.heap.size, 0, none⟩ = some (.int .i64 xs) ∧ w'.cell? ⟨w1.heap.size, 1, none⟩ = some (.int .i64 xf) ∧ w'.cell? ⟨w1.heap.size, 2, none⟩ = some (.int .i64 xu) ∧ w'.cell? ⟨b, off + (k - 1) * 3, none⟩ = some (.int .i64 ys) ∧ w'.cell? ⟨b, off + (k - 1) * 3 + 1, none⟩ = some (.int .i64 yf) ∧ w'.cell? ⟨b, off + (k - 1) * 3 + 2, none⟩ = some (.int .i64 yu))) hv ((Y0 M).t3 ((HRy.out.keep (J1 M)).c3)) fun hH5 => ?_; clear hv; refine tk8 at0 at1 at2 at3 at4 at5 at6 at7 ?_; refine tk8 at8 at9 at10 at11 at12 at13 at14 at15 ?_; refine tk8 at16 at17 at18 at19 at20 at21 at22 at23 ?_; refine tk4 at24 at25 at26 at27 ?_; refine tk2 at28 at29 ?_; refine tk at30 ?_; refine dnW ?_; clear hH5; go_wp2_with fail
         go_ret
         exact ⟨by rw [← HE.out, firstE_at (by have := HL.out.len; omega) HZk.out (by rw [HMK.out]; decide), HMK.out] <;> rfl, (J1 M)⟩
       ·
        have e2_0 : decide (0 < k) = false := decide_eq_false (by omega); have e2_1 : decide (0 < (k : Int)) = false := decide_eq_false (by omega); have e2_i : ¬ 0 < (k : Int) := by omega
        have HMK : Hid (mErr l k = 0) := mErr_0 HEx.out c1i c2i c3i c4i (fun h => absurd h hk0); refine cj3 (HRx.out.keep M.out).c3 fun r0_0 r0_1 r0_2 => ?_; go_upto_region 4 with fail
        clear r0_0 r0_1 r0_2; generalize hv : World.alloc w1 _ = w2; have ow0_ : w.heap.size ≤ w1.heap.size := (M.out).size; replace M := alM hv.symm M; clear hv; refine (Y0 M).D3 fun aa ab ac => ?_; go_wp2_with fail
        clear aa ab ac; refine nmW w2.drew fun w3 hv => ?_; replace M := drM hv M; refine rg3W hv (Y0 M) fun hH6 => ?_; clear hv; refine tk8 at0 at1 at2 at3 at4 at5 at6 at7 ?_; refine tk8 at8 at9 at10 at11 at12 at13 at14 at15 ?_; refine tk2 at16 at17 ?_; refine tk at18 ?_; refine tu8 at19 at20 at21 at22 at23 at24 at25 at26 ?_; refine tu at27 ?_; refine tk2 at28 at29 ?_; refine tk at30 ?_; refine dnW ?_; clear hH6; go_wp2_with fail
        go_roundw
        case rel => exact ⟨(k + 1), by go_num, (by show _ ≤ _; omega), (hI (step_zero HZk.out HMK.out)), hI (J1 M)⟩
        case measure => simp [RowKit.intOf] <;> omega
  ·
   refine geW (show ¬ k < n by omega) fun e1_0 e1_1 e1_i => ?_; have HMZ : Hid (firstE (mErr l) l.length = 0) := firstE_zero.2 (fun j hj => HZk.out j (by have := HL.out.len; omega)); go_wp2_with fail
   go_ret
   exact ⟨by rw [← HE.out, HMZ.out] <;> rfl, M.out⟩
end Go.Proofs.YtlcgckelamhnpaaGreat
