/- Which fractions are right, by the reference; raw arguments with a level. -/
import Derived.Test.YtjbfngjlepafgaaGreatBase
import Derived.Test.YtjbfngjlepafgaaGreatBigSpec
import Derived.Test.YtjbfngjlepafgaaGreatBigA
import Derived.Test.YtjbfngjlepafgaaGreatBigB
import Derived.Test.YtjbfngjlepafgaaGreatBigC
import Derived.Test.YtjbfngjlepafgaaGreatBigD
import Derived.Test.YtjbfngjlepafgaaGreatBigK
import Derived.Test.YtjbfngjlepafgaaGreatBigL
import Derived.Test.YtjbfngjlepafgaaGreatBigQ
import Derived.Test.YtjbfngjlepafgaaGreatFracA
import Derived.Test.YtjbfngjlepafgaaGreatRefE
import Derived.Test.YtjbfngjlepafgaaGreatRefJ
import Derived.Test.YtjbfngjlepafgaaGreatRefN
import Derived.Test.YtjbfngjlepafgaaGreatFz
import Derived.Test.YtjbfngjlepafgaaGreatHeld
import Derived.Test.YtjbfngjlepafgaaGreatAw
import Derived.Test.YtjbfngjlepafgaaGreatRefO
import Derived.Test.YtjbfngjlepafgaaGreatFracN
import Derived.Test.YtjbfngjlepafgaaGreatFq
import Derived.Test.YtjbfngjlepafgaaGreatSpanPlain
import Derived.Test.YtjbfngjlepafgaaGreatProg
import Derived.Test.YtjbfngjlepafgaaGreatShelf
import Derived.WalkKit
import Derived.WalkSpells
import Derived.WalkLawsBesides
import Derived.Handy
import Derived.Lib.Hide
import Derived.Lib.Strings
import Derived.Lib.Builder
import Derived.BigQuiet
import Derived.OwnWalk
import Derived.Laws.BitsLemmas
import Derived.WalkSmall
import Derived.Deep.QuietTactic
import Derived.StillTailTactics
import Derived.Maps.AppendAt
import Derived.IntWalk
import Derived.Deep.RegionHeld3
import Derived.Deep.DeepFit
import Derived.Deep.LoopGhost
import Derived.Deep.DeepCutAuto
import Derived.Lib.ItoaNum
import Derived.Lib.Repeat
import Derived.Lib.AppendIntMem
import Derived.Sort.OwnSorted
import Derived.Shelf.Strings.SlTrimAscii
import Derived.Lib.ConvBytes
import Derived.Lib.CutLaws
namespace Go.Proofs.YtjbfngjlepafgaaGreat
open Go.RowKit Go.Lib
variable {G : Nat}

theorem Fz.minQ {q r : Rat} {n : Nat} (h : Fz q n) (h' : Fz r n) : Fz (minQ q r) n := by unfold Go.Proofs.YtjbfngjlepafgaaGreat.minQ; split <;> assumption
theorem Fz.maxQ {q r : Rat} {n : Nat} (h : Fz q n) (h' : Fz r n) : Fz (maxQ q r) n := by unfold Go.Proofs.YtjbfngjlepafgaaGreat.maxQ; split <;> assumption
theorem Fz.min4 {x y z u : Rat} {n : Nat} (h1 : Fz x n) (h2 : Fz y n) (h3 : Fz z n) (h4 : Fz u n) : Fz (min4 x y z u) n := by unfold Go.Proofs.YtjbfngjlepafgaaGreat.min4; exact Fz.minQ (Fz.minQ (Fz.minQ h1 h2) h3) h4
theorem Fz.max4 {x y z u : Rat} {n : Nat} (h1 : Fz x n) (h2 : Fz y n) (h3 : Fz z n) (h4 : Fz u n) : Fz (max4 x y z u) n := by unfold Go.Proofs.YtjbfngjlepafgaaGreat.max4; exact Fz.maxQ (Fz.maxQ (Fz.maxQ h1 h2) h3) h4
theorem ordQ_le0 (q r : Rat) : decide (ordQ q r ≤ 0) = decide (q ≤ r) := by
  apply decide_eq_decide.2
  constructor
  · intro h
    rcases (show q ≤ r ∨ r < q by grind) with h' | h'
    · exact h'
    · rw [ordQ_ge h'] at h; omega
  · intro h; have := ordQ_up h; omega
theorem ordQ_lt0 (q r : Rat) : decide (ordQ q r < 0) = decide (q < r) := by
  apply decide_eq_decide.2
  constructor
  · intro h
    rcases (show q < r ∨ r ≤ q by grind) with h' | h'
    · exact h'
    · exfalso; have := ordQ_swap q r; have := ordQ_up h'; omega
  · intro h; have := ordQ_swap q r; have := ordQ_ge h; omega
theorem ordQ_gt0 (q r : Rat) : decide (0 < ordQ q r) = decide (r < q) := by
 rw [← ordQ_lt0 r q]; apply decide_eq_decide.2; have := ordQ_swap q r; omega
theorem clone_bd {z : Int} {a : Option Addr} {c : Nat} {w : World} (h : BD G w a c z) (hz : Sz z 549755813888) :
  Calls Tryz.prog 77 #[.slice a (ln z) c] w fun e w' => ∃ b d, e = .returned (.slice b (ln z) d) ∧ BD G w' b d z ∧ Below w.heap.size w w' :=
 (clone_is (n := z.natAbs) h.rd hz).mono fun _ _ ⟨b, d, he, ho, hb⟩ => ⟨b, d, he, ⟨ho.rd, ho.le, ho.ty⟩, hb⟩
/-- A slice of fractions in memory, all right. -/
def Fs (G : Nat) (w : World) (b off : Nat) (l : List Rat) : Prop := ∀ k (h : k < l.length), ∃ u0 u1 u2 u3, Row w b (off + k * 4) [u0, u1, u2, u3] ∧ FQ G w u0 u1 u2 u3 l[k]
theorem Fs.keep {w w' : World} {b off : Nat} {l : List Rat} (h : Fs G w b off l) (hb : Below w.heap.size w w') : Fs G w' b off l := fun k hk => by
 obtain ⟨u0, u1, u2, u3, h1, h2⟩ := h k hk
 exact ⟨u0, u1, u2, u3, h1.keep hb, h2.keep hb⟩
instance {w w' : World} {b off : Nat} {l : List Rat} : Goes (Fs G w b off l) w w' (Fs G w' b off l) := ⟨fun h hb => h.keep hb⟩
theorem fs_four {w : World} {B : Nat} {T : TypeId} {u0 u1 u2 u3 v0 v1 v2 v3 x0 x1 x2 x3 y0 y1 y2 y3 : Value} {p q r s : Rat} (k : Bx w B T #[u0, u1, u2, u3, v0, v1, v2, v3, x0, x1, x2, x3, y0, y1, y2, y3])
  (h1 : FQ G w u0 u1 u2 u3 p) (h2 : FQ G w v0 v1 v2 v3 q) (h3 : FQ G w x0 x1 x2 x3 r) (h4 : FQ G w y0 y1 y2 y3 s) : Fs G w B 0 [p, q, r, s] := by
 have hr : ∀ (i : Nat) (c0 c1 c2 c3 : Value), #[u0, u1, u2, u3, v0, v1, v2, v3, x0, x1, x2, x3, y0, y1, y2, y3][i]? = some c0 → #[u0, u1, u2, u3, v0, v1, v2, v3, x0, x1, x2, x3, y0, y1, y2, y3][i + 1]? = some c1 →
   #[u0, u1, u2, u3, v0, v1, v2, v3, x0, x1, x2, x3, y0, y1, y2, y3][i + 2]? = some c2 → #[u0, u1, u2, u3, v0, v1, v2, v3, x0, x1, x2, x3, y0, y1, y2, y3][i + 3]? = some c3 → Row w B (0 + i) [c0, c1, c2, c3] := by
  intro i c0 c1 c2 c3 e0 e1 e2 e3
  refine ⟨k.lt, fun j u hj => ?_⟩
  rw [Nat.zero_add, k.at.1]
  match j, hj with
  | 0, hj => rw [← hj]; exact e0
  | 1, hj => rw [← hj]; exact e1
  | 2, hj => rw [← hj]; exact e2
  | 3, hj => rw [← hj]; exact e3
  | j + 4, hj => simp at hj
 intro i hi
 match i, hi with
 | 0, _ => exact ⟨u0, u1, u2, u3, hr 0 _ _ _ _ rfl rfl rfl rfl, h1⟩
 | 1, _ => exact ⟨v0, v1, v2, v3, hr 4 _ _ _ _ rfl rfl rfl rfl, h2⟩
 | 2, _ => exact ⟨x0, x1, x2, x3, hr 8 _ _ _ _ rfl rfl rfl rfl, h3⟩
 | 3, _ => exact ⟨y0, y1, y2, y3, hr 12 _ _ _ _ rfl rfl rfl rfl, h4⟩
 | i + 4, hi => exact absurd hi (by simp)
def minL : List Rat → Rat | [] => 0 | x :: r => r.foldl minQ x
def maxL : List Rat → Rat | [] => 0 | x :: r => r.foldl maxQ x
theorem minL_one {l : List Rat} (h : 0 < l.length) : minL (l.take 1) = l[0] := by cases l with | nil => simp at h | cons x r => rfl
theorem maxL_one {l : List Rat} (h : 0 < l.length) : maxL (l.take 1) = l[0] := by cases l with | nil => simp at h | cons x r => rfl
theorem minL_next {l : List Rat} {k : Nat} (h1 : 1 ≤ k) (h : k < l.length) : minL (l.take (k + 1)) = minQ (minL (l.take k)) l[k] := by
 rw [List.take_succ_eq_append_getElem h]
 cases l with
 | nil => simp at h
 | cons x r =>
  obtain ⟨j, rfl⟩ : ∃ j, k = j + 1 := ⟨k - 1, by omega⟩
  show List.foldl minQ x (r.take j ++ [r[j]'(by simp at h; omega)]) = _
  rw [List.foldl_append]; rfl
theorem maxL_next {l : List Rat} {k : Nat} (h1 : 1 ≤ k) (h : k < l.length) : maxL (l.take (k + 1)) = maxQ (maxL (l.take k)) l[k] := by
 rw [List.take_succ_eq_append_getElem h]
 cases l with
 | nil => simp at h
 | cons x r =>
  obtain ⟨j, rfl⟩ : ∃ j, k = j + 1 := ⟨k - 1, by omega⟩
  show List.foldl maxQ x (r.take j ++ [r[j]'(by simp at h; omega)]) = _
  rw [List.foldl_append]; rfl
theorem minQ_lt {q r : Rat} (h : r < q) : minQ q r = r := by unfold minQ; rw [if_pos h]
theorem minQ_ge {q r : Rat} (h : ¬ r < q) : minQ q r = q := by unfold minQ; rw [if_neg h]
theorem maxQ_lt {q r : Rat} (h : q < r) : maxQ q r = r := by unfold maxQ; rw [if_pos h]
theorem maxQ_ge {q r : Rat} (h : ¬ q < r) : maxQ q r = q := by unfold maxQ; rw [if_neg h]
theorem fz_zero {n : Nat} (h : 1 ≤ n) : Fz 0 n := Fz.int (x := 0) (by show Sz 0 n; exact Nat.zero_le _) h
set_option maxRecDepth 100000 in
set_option maxHeartbeats 4000000 in
theorem fresh_fd {q : Rat} {a1 b1 : Option Addr} {c1 d1 : Nat} {w : World} (_hG : G ≤ w.heap.size) (h1 : FD G w a1 c1 b1 d1 q) (hx : Fz q 137438953472) :
  Calls Tryz.prog 50 #[.agg #[.int .i64 (sg (nu q)), .slice a1 (ln (nu q)) c1, .int .i64 (sg (de q)), .slice b1 (ln (de q)) d1]] w fun e w' => ∃ a c b d, e = .returned (.agg #[.int .i64 (sg (nu q)), .slice a (ln (nu q)) c, .int .i64 (sg (de q)), .slice b (ln (de q)) d]) ∧ FD G w' a c b d q ∧ Below w.heap.size w w' := by
 have HX := Lib.hid hx; clear hx
 have H1 : Hid (FD G w a1 c1 b1 d1 q) := h1
 clear h1
 have M : Hid (Below w.heap.size w w) := Below.refl _ _
 go_enter Tryz.func50, Tryz.ntmps50
 go_wp2_with fail
 refine nmW ((w.alloc (.cells #[.int .i64 (sg (nu q)), .slice a1 (ln (nu q)) c1, .int .i64 (sg (de q)), .slice b1 (ln (de q)) d1] 26)).alloc (.cells #[.int .i64 0, .slice none 0 0, .int .i64 0, .slice none 0 0] 26)) fun w1 hv => ?_
 rw [← hv]
 replace M := al2W hv M
 clear hv
 refine nmW w1.drew fun w2 hv => ?_
 replace M := drM hv M
 refine wp_region_held_drew (S := (fun _ => True)) (by kernel_rfl) trivial (fun hH7 => ?_)
 rw [← hv]
 clear hv
 refine tk at0 ?_
 refine tk at1 ?_
 refine tk at4 ?_
 refine tk at5 ?_
 refine wpAnyH_ready (rs := [2, 6]) (by kernel_rfl) (by simp) ?_
 refine AllReadyH.cons at2 (fun K hK => ?_) ?_
 ·
  refine cj4 (J1 M).1.d4 fun aa ab ac ad => ?_
  go_simp
  clear aa ab ac ad
  refine hK.out _ _ (trivial) (fun hH8 => ?_)
  clear hK K hH7
  (try simp only [Act.put, List.setIfInBounds_toArray, List.set_cons_zero, List.set_cons_succ])
  refine wpAnyH_ready (rs := [3, 6]) (by kernel_rfl) (by simp) ?_
  refine AllReadyH.cons at3 (fun K hK => ?_) ?_
  ·
   go_simp
   refine (clone_bd (G := G) (z := (nu q)) (H1.out.keep (J2 M)).n (Sz.mono HX.out.1 (by omega))).mono ?_
   rintro e w3 ⟨b_9, d_10, rfl, hd11, hb⟩
   replace M := adM hd11 hb M
   clear hb hd11
   (try go_wp2_with fail)
   refine hK.out _ _ (trivial) (fun hH12 => ?_)
   clear hK K hH8
   (try simp only [Act.put, List.setIfInBounds_toArray, List.set_cons_zero, List.set_cons_succ])
   refine wpAnyH_ready (rs := [6]) (by kernel_rfl) (by simp) ?_
   refine AllReadyH.cons at6 (fun K hK => ?_) AllReadyH.nil
   refine cj4 (J2 M).1.d4 fun aa ab ac ad => ?_
   go_simp
   clear aa ab ac ad
   refine hK.out _ _ (trivial) (fun hH13 => ?_)
   clear hK K hH12
   (try simp only [Act.put, List.setIfInBounds_toArray, List.set_cons_zero, List.set_cons_succ])
   refine tk at8 ?_
   refine tk at9 ?_
   refine wpAnyH_ready (rs := [7]) (by kernel_rfl) (by simp) ?_
   refine AllReadyH.cons at7 (fun K hK => ?_) AllReadyH.nil
   go_simp
   refine (clone_bd (G := G) (z := (de q)) (H1.out.keep (J3 M)).d (Sz.mono HX.out.2 (by omega))).mono ?_
   rintro e w4 ⟨b_14, d_15, rfl, hd16, hb⟩
   replace M := adM hd16 hb M
   clear hb hd16
   (try go_wp2_with fail)
   refine hK.out _ _ (trivial) (fun hH17 => ?_)
   clear hK K hH13
   (try simp only [Act.put, List.setIfInBounds_toArray, List.set_cons_zero, List.set_cons_succ])
   refine wpAnyH_ready (rs := [10]) (by kernel_rfl) (by simp) ?_
   refine AllReadyH.cons at10 (fun K hK => ?_) AllReadyH.nil
   refine cj8 (J3 M).1.c4 fun aa ae ab af ac ag ad ah => ?_
   go_simp
   clear aa ae ab af ac ag ad ah
   refine nmW (w4.setCell ⟨w.heap.size, 1, none⟩ (.slice b_9 (ln (nu q)) d_10)) fun w5 hv => ?_
   rw [← hv]
   have og : w4.grownBy w5 (some w.heap.size) := by rw [hv]; exact (only_setCell (World.grownBy.refl _ _) _)
   have hz : w.heap.size ≤ w.heap.size := by exact Nat.le_refl _
   have hk : Bx w5 w.heap.size 26 #[.int .i64 (sg (nu q)), .slice b_9 (ln (nu q)) d_10, .int .i64 (sg (de q)), .slice b1 (ln (de q)) d1] := by rw [hv]; exact ((J3 M).1.set 1 _)
   have hbw : Below w.heap.size w w5 := by rw [hv]; exact (Below.setCell (J4 M) (by omega) _)
   replace M := Lib.hid (aI ((M.out.1).far (J3 M).1 (by rfl) (by omega) og) (aI ((J1 M).1.far (J3 M).1 (by rfl) (by omega) og) (aI ((J2 M).1.only og (by omega)) (aI hk hbw))))
   clear hk hbw og hv hz
   refine hK.out _ _ (trivial) (fun hH18 => ?_)
   clear hK K hH17
   (try simp only [Act.put, List.setIfInBounds_toArray, List.set_cons_zero, List.set_cons_succ])
   refine tk at11 ?_
   refine tk at12 ?_
   refine wpAnyH_ready (rs := [13]) (by kernel_rfl) (by simp) ?_
   refine AllReadyH.cons at13 (fun K hK => ?_) AllReadyH.nil
   refine cj8 (J3 M).1.c4 fun aa ae ab af ac ag ad ah => ?_
   go_simp
   clear aa ae ab af ac ag ad ah
   refine nmW (w5.setCell ⟨w.heap.size, 3, none⟩ (.slice b_14 (ln (de q)) d_15)) fun w6 hv => ?_
   rw [← hv]
   have og : w5.grownBy w6 (some w.heap.size) := by rw [hv]; exact (only_setCell (World.grownBy.refl _ _) _)
   have hz : w.heap.size ≤ w.heap.size := by exact Nat.le_refl _
   have hk : Bx w6 w.heap.size 26 #[.int .i64 (sg (nu q)), .slice b_9 (ln (nu q)) d_10, .int .i64 (sg (de q)), .slice b_14 (ln (de q)) d_15] := by rw [hv]; exact ((J3 M).1.set 3 _)
   have hbw : Below w.heap.size w w6 := by rw [hv]; exact (Below.setCell (J4 M) (by omega) _)
   replace M := Lib.hid (aI ((M.out.1).far (J3 M).1 (by rfl) (by omega) og) (aI ((J1 M).1.far (J3 M).1 (by rfl) (by omega) og) (aI ((J2 M).1.only og (by omega)) (aI hk hbw))))
   clear hk hbw og hv hz
   refine hK.out _ _ (trivial) (fun hH19 => ?_)
   clear hK K hH18
   (try simp only [Act.put, List.setIfInBounds_toArray, List.set_cons_zero, List.set_cons_succ])
   refine wpAnyH_done (by kernel_rfl) ?_ _
   clear hH19
   refine cj4 (J3 M).1.d4 fun aa ab ac ad => ?_
   refine cj8 (J2 M).1.c4 fun ai aj ak al am ao ap aq => ?_
   go_wp2_with fail
   clear aa ab ac ad ai aj ak al am ao ap aq
   have hz : w.heap.size ≤ w.heap.size + 1 := by omega
   refine st4W (.int .i64 (sg (nu q))) (.slice b_9 (ln (nu q)) d_10) (.int .i64 (sg (de q))) (.slice b_14 (ln (de q)) d_15) (J2 M).1 (J4 M) hz fun w7 hv og hk hbw => ?_
   rw [← hv]
   replace M := Lib.hid (aI ((M.out.1).far (J2 M).1 (by rfl) (by omega) og) (aI ((J1 M).1.far (J2 M).1 (by rfl) (by omega) og) (aI hk (aI ((J3 M).1.only og (by omega)) hbw))))
   clear hk hbw og hv hz
   refine bodyPost_ret (results_box1 rfl _ _ (w.heap.size + 1) 26 _ _ _ rfl (J2 M).1 Tryz.underlying26 rfl (by kernel_rfl)) rfl ?_
   exact ⟨b_9, d_10, b_14, d_15, rfl, FD.mk (J1 M).1 (M.out.1), (J4 M)⟩
  refine AllReadyH.cons at6 (fun K hK => ?_) AllReadyH.nil
  refine cj4 (J1 M).1.d4 fun aa ab ac ad => ?_
  go_simp
  clear aa ab ac ad
  refine hK.out _ _ (trivial) (fun hH20 => ?_)
  clear hK K hH8
  (try simp only [Act.put, List.setIfInBounds_toArray, List.set_cons_zero, List.set_cons_succ])
  refine wpAnyH_ready (rs := [3]) (by kernel_rfl) (by simp) ?_
  refine AllReadyH.cons at3 (fun K hK => ?_) AllReadyH.nil
  go_simp
  refine (clone_bd (G := G) (z := (nu q)) (H1.out.keep (J2 M)).n (Sz.mono HX.out.1 (by omega))).mono ?_
  rintro e w3 ⟨b_21, d_22, rfl, hd23, hb⟩
  replace M := adM hd23 hb M
  clear hb hd23
  (try go_wp2_with fail)
  refine hK.out _ _ (trivial) (fun hH24 => ?_)
  clear hK K hH20
  (try simp only [Act.put, List.setIfInBounds_toArray, List.set_cons_zero, List.set_cons_succ])
  refine tk at8 ?_
  refine tk at9 ?_
  refine wpAnyH_ready (rs := [7]) (by kernel_rfl) (by simp) ?_
  refine AllReadyH.cons at7 (fun K hK => ?_) AllReadyH.nil
  go_simp
  refine (clone_bd (G := G) (z := (de q)) (H1.out.keep (J3 M)).d (Sz.mono HX.out.2 (by omega))).mono ?_
  rintro e w4 ⟨b_25, d_26, rfl, hd27, hb⟩
  replace M := adM hd27 hb M
  clear hb hd27
  (try go_wp2_with fail)
  refine hK.out _ _ (trivial) (fun hH28 => ?_)
  clear hK K hH24
  (try simp only [Act.put, List.setIfInBounds_toArray, List.set_cons_zero, List.set_cons_succ])
  refine wpAnyH_ready (rs := [10]) (by kernel_rfl) (by simp) ?_
  refine AllReadyH.cons at10 (fun K hK => ?_) AllReadyH.nil
  refine cj8 (J3 M).1.c4 fun aa ae ab af ac ag ad ah => ?_
  go_simp
  clear aa ae ab af ac ag ad ah
  refine nmW (w4.setCell ⟨w.heap.size, 1, none⟩ (.slice b_21 (ln (nu q)) d_22)) fun w5 hv => ?_
  rw [← hv]
  have og : w4.grownBy w5 (some w.heap.size) := by rw [hv]; exact (only_setCell (World.grownBy.refl _ _) _)
  have hz : w.heap.size ≤ w.heap.size := by exact Nat.le_refl _
  have hk : Bx w5 w.heap.size 26 #[.int .i64 (sg (nu q)), .slice b_21 (ln (nu q)) d_22, .int .i64 (sg (de q)), .slice b1 (ln (de q)) d1] := by rw [hv]; exact ((J3 M).1.set 1 _)
  have hbw : Below w.heap.size w w5 := by rw [hv]; exact (Below.setCell (J4 M) (by omega) _)
  replace M := Lib.hid (aI ((M.out.1).far (J3 M).1 (by rfl) (by omega) og) (aI ((J1 M).1.far (J3 M).1 (by rfl) (by omega) og) (aI ((J2 M).1.only og (by omega)) (aI hk hbw))))
  clear hk hbw og hv hz
  refine hK.out _ _ (trivial) (fun hH29 => ?_)
  clear hK K hH28
  (try simp only [Act.put, List.setIfInBounds_toArray, List.set_cons_zero, List.set_cons_succ])
  refine tk at11 ?_
  refine tk at12 ?_
  refine wpAnyH_ready (rs := [13]) (by kernel_rfl) (by simp) ?_
  refine AllReadyH.cons at13 (fun K hK => ?_) AllReadyH.nil
  refine cj8 (J3 M).1.c4 fun aa ae ab af ac ag ad ah => ?_
  go_simp
  clear aa ae ab af ac ag ad ah
  refine nmW (w5.setCell ⟨w.heap.size, 3, none⟩ (.slice b_25 (ln (de q)) d_26)) fun w6 hv => ?_
  rw [← hv]
  have og : w5.grownBy w6 (some w.heap.size) := by rw [hv]; exact (only_setCell (World.grownBy.refl _ _) _)
  have hz : w.heap.size ≤ w.heap.size := by exact Nat.le_refl _
  have hk : Bx w6 w.heap.size 26 #[.int .i64 (sg (nu q)), .slice b_21 (ln (nu q)) d_22, .int .i64 (sg (de q)), .slice b_25 (ln (de q)) d_26] := by rw [hv]; exact ((J3 M).1.set 3 _)
  have hbw : Below w.heap.size w w6 := by rw [hv]; exact (Below.setCell (J4 M) (by omega) _)
  replace M := Lib.hid (aI ((M.out.1).far (J3 M).1 (by rfl) (by omega) og) (aI ((J1 M).1.far (J3 M).1 (by rfl) (by omega) og) (aI ((J2 M).1.only og (by omega)) (aI hk hbw))))
  clear hk hbw og hv hz
  refine hK.out _ _ (trivial) (fun hH30 => ?_)
  clear hK K hH29
  (try simp only [Act.put, List.setIfInBounds_toArray, List.set_cons_zero, List.set_cons_succ])
  refine wpAnyH_done (by kernel_rfl) ?_ _
  clear hH30
  refine cj4 (J3 M).1.d4 fun aa ab ac ad => ?_
  refine cj8 (J2 M).1.c4 fun ai aj ak al am ao ap aq => ?_
  go_wp2_with fail
  clear aa ab ac ad ai aj ak al am ao ap aq
  have hz : w.heap.size ≤ w.heap.size + 1 := by omega
  refine st4W (.int .i64 (sg (nu q))) (.slice b_21 (ln (nu q)) d_22) (.int .i64 (sg (de q))) (.slice b_25 (ln (de q)) d_26) (J2 M).1 (J4 M) hz fun w7 hv og hk hbw => ?_
  rw [← hv]
  replace M := Lib.hid (aI ((M.out.1).far (J2 M).1 (by rfl) (by omega) og) (aI ((J1 M).1.far (J2 M).1 (by rfl) (by omega) og) (aI hk (aI ((J3 M).1.only og (by omega)) hbw))))
  clear hk hbw og hv hz
  refine bodyPost_ret (results_box1 rfl _ _ (w.heap.size + 1) 26 _ _ _ rfl (J2 M).1 Tryz.underlying26 rfl (by kernel_rfl)) rfl ?_
  exact ⟨b_21, d_22, b_25, d_26, rfl, FD.mk (J1 M).1 (M.out.1), (J4 M)⟩
 refine AllReadyH.cons at6 (fun K hK => ?_) AllReadyH.nil
 refine cj4 (J1 M).1.d4 fun aa ab ac ad => ?_
 go_simp
 clear aa ab ac ad
 refine hK.out _ _ (trivial) (fun hH31 => ?_)
 clear hK K hH7
 (try simp only [Act.put, List.setIfInBounds_toArray, List.set_cons_zero, List.set_cons_succ])
 refine wpAnyH_ready (rs := [2]) (by kernel_rfl) (by simp) ?_
 refine AllReadyH.cons at2 (fun K hK => ?_) AllReadyH.nil
 refine cj4 (J1 M).1.d4 fun aa ab ac ad => ?_
 go_simp
 clear aa ab ac ad
 refine hK.out _ _ (trivial) (fun hH32 => ?_)
 clear hK K hH31
 (try simp only [Act.put, List.setIfInBounds_toArray, List.set_cons_zero, List.set_cons_succ])
 refine wpAnyH_ready (rs := [3]) (by kernel_rfl) (by simp) ?_
 refine AllReadyH.cons at3 (fun K hK => ?_) AllReadyH.nil
 go_simp
 refine (clone_bd (G := G) (z := (nu q)) (H1.out.keep (J2 M)).n (Sz.mono HX.out.1 (by omega))).mono ?_
 rintro e w3 ⟨b_33, d_34, rfl, hd35, hb⟩
 replace M := adM hd35 hb M
 clear hb hd35
 (try go_wp2_with fail)
 refine hK.out _ _ (trivial) (fun hH36 => ?_)
 clear hK K hH32
 (try simp only [Act.put, List.setIfInBounds_toArray, List.set_cons_zero, List.set_cons_succ])
 refine tk at8 ?_
 refine tk at9 ?_
 refine wpAnyH_ready (rs := [7]) (by kernel_rfl) (by simp) ?_
 refine AllReadyH.cons at7 (fun K hK => ?_) AllReadyH.nil
 go_simp
 refine (clone_bd (G := G) (z := (de q)) (H1.out.keep (J3 M)).d (Sz.mono HX.out.2 (by omega))).mono ?_
 rintro e w4 ⟨b_37, d_38, rfl, hd39, hb⟩
 replace M := adM hd39 hb M
 clear hb hd39
 (try go_wp2_with fail)
 refine hK.out _ _ (trivial) (fun hH40 => ?_)
 clear hK K hH36
 (try simp only [Act.put, List.setIfInBounds_toArray, List.set_cons_zero, List.set_cons_succ])
 refine wpAnyH_ready (rs := [10]) (by kernel_rfl) (by simp) ?_
 refine AllReadyH.cons at10 (fun K hK => ?_) AllReadyH.nil
 refine cj8 (J3 M).1.c4 fun aa ae ab af ac ag ad ah => ?_
 go_simp
 clear aa ae ab af ac ag ad ah
 refine nmW (w4.setCell ⟨w.heap.size, 1, none⟩ (.slice b_33 (ln (nu q)) d_34)) fun w5 hv => ?_
 rw [← hv]
 have og : w4.grownBy w5 (some w.heap.size) := by rw [hv]; exact (only_setCell (World.grownBy.refl _ _) _)
 have hz : w.heap.size ≤ w.heap.size := by exact Nat.le_refl _
 have hk : Bx w5 w.heap.size 26 #[.int .i64 (sg (nu q)), .slice b_33 (ln (nu q)) d_34, .int .i64 (sg (de q)), .slice b1 (ln (de q)) d1] := by rw [hv]; exact ((J3 M).1.set 1 _)
 have hbw : Below w.heap.size w w5 := by rw [hv]; exact (Below.setCell (J4 M) (by omega) _)
 replace M := Lib.hid (aI ((M.out.1).far (J3 M).1 (by rfl) (by omega) og) (aI ((J1 M).1.far (J3 M).1 (by rfl) (by omega) og) (aI ((J2 M).1.only og (by omega)) (aI hk hbw))))
 clear hk hbw og hv hz
 refine hK.out _ _ (trivial) (fun hH41 => ?_)
 clear hK K hH40
 (try simp only [Act.put, List.setIfInBounds_toArray, List.set_cons_zero, List.set_cons_succ])
 refine tk at11 ?_
 refine tk at12 ?_
 refine wpAnyH_ready (rs := [13]) (by kernel_rfl) (by simp) ?_
 refine AllReadyH.cons at13 (fun K hK => ?_) AllReadyH.nil
 refine cj8 (J3 M).1.c4 fun aa ae ab af ac ag ad ah => ?_
 go_simp
 clear aa ae ab af ac ag ad ah
 refine nmW (w5.setCell ⟨w.heap.size, 3, none⟩ (.slice b_37 (ln (de q)) d_38)) fun w6 hv => ?_
 rw [← hv]
 have og : w5.grownBy w6 (some w.heap.size) := by rw [hv]; exact (only_setCell (World.grownBy.refl _ _) _)
 have hz : w.heap.size ≤ w.heap.size := by exact Nat.le_refl _
 have hk : Bx w6 w.heap.size 26 #[.int .i64 (sg (nu q)), .slice b_33 (ln (nu q)) d_34, .int .i64 (sg (de q)), .slice b_37 (ln (de q)) d_38] := by rw [hv]; exact ((J3 M).1.set 3 _)
 have hbw : Below w.heap.size w w6 := by rw [hv]; exact (Below.setCell (J4 M) (by omega) _)
 replace M := Lib.hid (aI ((M.out.1).far (J3 M).1 (by rfl) (by omega) og) (aI ((J1 M).1.far (J3 M).1 (by rfl) (by omega) og) (aI ((J2 M).1.only og (by omega)) (aI hk hbw))))
 clear hk hbw og hv hz
 refine hK.out _ _ (trivial) (fun hH42 => ?_)
 clear hK K hH41
 (try simp only [Act.put, List.setIfInBounds_toArray, List.set_cons_zero, List.set_cons_succ])
 refine wpAnyH_done (by kernel_rfl) ?_ _
 clear hH42
 refine cj4 (J3 M).1.d4 fun aa ab ac ad => ?_
 refine cj8 (J2 M).1.c4 fun ai aj ak al am ao ap aq => ?_
 go_wp2_with fail
 clear aa ab ac ad ai aj ak al am ao ap aq
 have hz : w.heap.size ≤ w.heap.size + 1 := by omega
 refine st4W (.int .i64 (sg (nu q))) (.slice b_33 (ln (nu q)) d_34) (.int .i64 (sg (de q))) (.slice b_37 (ln (de q)) d_38) (J2 M).1 (J4 M) hz fun w7 hv og hk hbw => ?_
 rw [← hv]
 replace M := Lib.hid (aI ((M.out.1).far (J2 M).1 (by rfl) (by omega) og) (aI ((J1 M).1.far (J2 M).1 (by rfl) (by omega) og) (aI hk (aI ((J3 M).1.only og (by omega)) hbw))))
 clear hk hbw og hv hz
 refine bodyPost_ret (results_box1 rfl _ _ (w.heap.size + 1) 26 _ _ _ rfl (J2 M).1 Tryz.underlying26 rfl (by kernel_rfl)) rfl ?_
 exact ⟨b_33, d_34, b_37, d_38, rfl, FD.mk (J1 M).1 (M.out.1), (J4 M)⟩
theorem fresh_ok {u0 u1 u2 u3 : Value} {q : Rat} {w : World} (hG : G ≤ w.heap.size) (h1 : FQ G w u0 u1 u2 u3 q) (hx : Fz q 137438953472) :
  Calls Tryz.prog 50 #[.agg #[u0, u1, u2, u3]] w fun e w' => ∃ x0 x1 x2 x3, e = .returned (.agg #[x0, x1, x2, x3]) ∧ FQ G w' x0 x1 x2 x3 q ∧ Below w.heap.size w w' := by
 obtain ⟨a1, c1, b1, d1, rfl, rfl, rfl, rfl, k1⟩ := h1.ex
 exact (fresh_fd hG k1 hx).mono fun e w' ⟨a, c, b, d, he, hd, hb⟩ => ⟨_, _, _, _, he, FQ.of hd, hb⟩
set_option maxRecDepth 100000 in
set_option maxHeartbeats 4000000 in
theorem spRight_q {u0 u1 u2 u3 u4 u5 u6 u7 : Value} {p q : Rat} {b_ : Bool} {w : World} (h1 : FQ G w u0 u1 u2 u3 p) (h2 : FQ G w u4 u5 u6 u7 q) (hx : Fz p 137438953472) (hy : Fz q 137438953472) (hb : decide (p ≤ q) = b_) :
  Calls Tryz.prog 14 #[.agg #[u0, u1, u2, u3, u4, u5, u6, u7]] w fun e w' => e = .returned (.bool b_) ∧ Below w.heap.size w w' := by
 have HX := Lib.hid hx; have HY := Lib.hid hy; clear hx hy
 obtain ⟨k1, hk1⟩ : ∃ k, ordQ p q = k := ⟨_, rfl⟩
 obtain ⟨b1, hb1⟩ : ∃ b, decide (p ≤ q) = b := ⟨_, rfl⟩
 have hd1 : decide (k1 ≤ 0) = b1 := by rw [← hb1, ← hk1]; exact ordQ_le0 p q
 have Hk1 := Lib.hid hk1; have HB1 := Lib.hid hb1; clear hk1 hb1
 rw [HB1.out] at hb; subst hb
 have H1 : Hid (FQ G w u0 u1 u2 u3 p) := h1
 have H2 : Hid (FQ G w u4 u5 u6 u7 q) := h2
 clear h1 h2
 have M : Hid (Below w.heap.size w w) := Below.refl _ _
 go_enter Tryz.func14, Tryz.ntmps14
 go_upto_region 1 with fail
 refine nmW (w.alloc (.cells #[u0, u1, u2, u3, u4, u5, u6, u7] 28)) fun w1 hv => ?_
 rw [← hv]
 replace M := alM hv M
 clear hv
 refine cj8 (M.out.1).d8 fun aa ab ac ad ae af ag ah => ?_
 go_wp2_with fail
 clear aa ab ac ad ae af ag ah
 refine (fqRight (G := G) (q := p) (H1.out.keep (J1 M)) (Fz.mono HX.out (by omega))).mono ?_
 rintro e w2 ⟨rfl, hb⟩
 replace M := gnM hb M
 clear hb
 refine cj8 (M.out.1).d8 fun aa ab ac ad ae af ag ah => ?_
 go_wp2_with fail
 clear aa ab ac ad ae af ag ah
 refine (fqRight (G := G) (q := q) (H2.out.keep (J1 M)) (Fz.mono HY.out (by omega))).mono ?_
 rintro e w3 ⟨rfl, hb⟩
 replace M := gnM hb M
 clear hb
 refine cj8 (M.out.1).d8 fun aa ab ac ad ae af ag ah => ?_
 go_wp2_with fail
 clear aa ab ac ad ae af ag ah
 refine (fqCompare (G := G) (q := p) (r := q) (k := k1) (H1.out.keep (J1 M)) (H2.out.keep (J1 M)) HX.out HY.out Hk1.out).mono ?_
 rintro e w4 ⟨rfl, hb⟩
 replace M := gnM hb M
 clear hb
 go_wp2_with fail
 go_ret
 exact ⟨rfl, (J1 M)⟩
set_option maxRecDepth 100000 in
set_option maxHeartbeats 4000000 in
theorem minf_ok1 {l : List Rat} {b off c : Nat} {w : World} (_hG : G ≤ w.heap.size) (h1 : Fs G w b off l) (hl : 0 < l.length) (_hn : l.length ≤ 1099511627776) (hs : ∀ q ∈ l, Fz q 137438953472) :
  Calls Tryz.prog 65 #[.slice (some ⟨b, off, none⟩) l.length c, .func (Fn.func 43) #[] #[]] w fun e w' => ∃ x0 x1 x2 x3, e = .returned (.agg #[x0, x1, x2, x3]) ∧ FQ G w' x0 x1 x2 x3 (minL l) ∧ Below w.heap.size w w' := by
 have HL := Lib.hid h1; have HS := Lib.hid hs; clear h1 hs
 have hI0 : ¬ (l.length : Int) < 1 := by omega
 obtain ⟨z0, z1, z2, z3, HR0_, HQ0_⟩ := HL.out 0 hl
 have HR0 : Hid (Row w b off [z0, z1, z2, z3]) := by rw [Nat.zero_mul, Nat.add_zero] at HR0_; exact HR0_
 have HQ0 : Hid (FQ G w z0 z1 z2 z3 l[0]) := HQ0_
 have HS0 := Lib.hid (HS.out _ (List.getElem_mem hl))
 clear HR0_ HQ0_
 have HR0 : Hid (Row w b off [z0, z1, z2, z3]) := HR0.out
 have HQ0 : Hid (FQ G w z0 z1 z2 z3 l[0]) := HQ0.out
 have M : Hid (Below w.heap.size w w) := Below.refl _ _
 go_enter Tryz.func65, Tryz.ntmps65
 go_upto_region 1 with fail
 refine nmW (w.alloc (.cells #[.int .i64 0, .slice none 0 0, .int .i64 0, .slice none 0 0] 26)) fun w1 hv => ?_
 rw [← hv]
 replace M := alM hv M
 clear hv
 refine cj4 (TQ.st (HQ0.out.keep (J1 M))) fun aa ab ac ad => ?_
 refine cj4 (HR0.out.keep (J1 M)).c4 fun r0_0 r0_1 r0_2 r0_3 => ?_
 go_upto_region 4 with fail
 clear aa ab ac ad r0_0 r0_1 r0_2 r0_3
 refine nmW (w1.alloc (.cells #[z0, z1, z2, z3] 26)) fun w2 hv => ?_
 rw [← hv]
 have ow1_ : w.heap.size < w1.heap.size := ((M.out.1)).lt
 replace M := alM hv M
 clear hv
 go_wp2_with fail
 go_loopw [6] (fun i6 wr => ∃ (k : Nat) (m : Rat) (g0 : Value) (g1 : Value) (g2 : Value) (g3 : Value), i6 = .int .i64 (k : Int) ∧ Hid (k ≤ l.length) ∧ Hid (1 ≤ k) ∧ Hid (minL (l.take k) = m) ∧ Hid (Fz m 137438953472) ∧ Hid (Bx wr w1.heap.size 26 #[g0, g1, g2, g3] ∧ FQ G wr g0 g1 g2 g3 m ∧ Bx wr w.heap.size 26 #[.int .i64 0, .slice none 0 0, .int .i64 0, .slice none 0 0] ∧ Below w.heap.size w wr)) (fun i6 _ => l.length - (RowKit.intOf i6).toNat)
 case atStart =>
  exact ⟨1, l[0], z0, z1, z2, z3, rfl, (by show _ ≤ _; omega), (by show _ ≤ _; omega), (minL_one hl), HS0.out, Lib.hid (aI (M.out.1) (aI (HQ0.out.keep (J2 M)) (aI (J1 M).1 (J2 M))))⟩
 case round =>
  obtain ⟨w3, rfl⟩ : ∃ x, x = wr := ⟨_, rfl⟩
  clear M
  obtain ⟨k, m, g0, g1, g2, g3, rfl, hk, hk0, HM, HSm, M⟩ := hrel
  replace hk := hk.out; replace hk0 := hk0.out
  by_cases hlt : k < l.length
  ·
   have hI : (k : Int) < (l.length : Int) := by omega
   obtain ⟨x0, x1, x2, x3, HR_, HQ_⟩ := HL.out k hlt
   have HR : Hid (Row w b (off + k * 4) [x0, x1, x2, x3]) := HR_
   have HQ : Hid (FQ G w x0 x1 x2 x3 l[k]) := HQ_
   clear HR_ HQ_
   obtain ⟨qk, hqk⟩ : ∃ q, q = l[k] := ⟨_, rfl⟩
   rw [← hqk] at HQ
   have HSk : Hid (Fz qk 137438953472) := by show Fz _ _; rw [hqk]; exact HS.out _ (List.getElem_mem hlt)
   obtain ⟨k1, hk1⟩ : ∃ k, ordQ qk m = k := ⟨_, rfl⟩
   have HK1 := Lib.hid hk1
   obtain ⟨b1, hb1⟩ : ∃ b, decide (qk < m) = b := ⟨_, rfl⟩
   have hd1 : decide (k1 < 0) = b1 := by rw [← hb1, ← hk1]; exact ordQ_lt0 qk m
   have HN : Hid (minL (l.take (k + 1)) = minQ m qk) := by show _ = _; rw [minL_next hk0 hlt, HM.out, hqk]
   have HB1 := Lib.hid hb1
   clear hb1 hqk hk1
   go_wp2_with fail
   refine nmW w3.drew fun w4 hv => ?_
   replace M := drM hv M
   refine wp_region_held_drew (S := (fun w' => w'.cell? ⟨w1.heap.size, 0, none⟩ = some (g0) ∧ w'.cell? ⟨w1.heap.size, 1, none⟩ = some (g1) ∧ w'.cell? ⟨w1.heap.size, 2, none⟩ = some (g2) ∧ w'.cell? ⟨w1.heap.size, 3, none⟩ = some (g3) ∧ w'.cell? ⟨b, off + k * 4, none⟩ = some (x0) ∧ w'.cell? ⟨b, off + k * 4 + 1, none⟩ = some (x1) ∧ w'.cell? ⟨b, off + k * 4 + 2, none⟩ = some (x2) ∧ w'.cell? ⟨b, off + k * 4 + 3, none⟩ = some (x3))) (by kernel_rfl) (by rw [← hv]; exact ((M.out.1).t4 ((HR.out.keep (J3 M)).c4))) (fun hH1 => ?_)
   rw [← hv] at hH1 ⊢
   clear hv
   refine tk at0 ?_
   refine tk at1 ?_
   refine tk at2 ?_
   refine tk at3 ?_
   refine tk at4 ?_
   refine tk at5 ?_
   refine wpAnyH_ready (rs := [6]) (by kernel_rfl) (by simp) ?_
   refine AllReadyH.cons at6 (fun K hK => ?_) AllReadyH.nil
   go_simp
   refine (fqCompare (G := G) (q := qk) (r := m) (k := k1) (HQ.out.keep (J3 M)) (J1 M).1 HSk.out HSm.out HK1.out).mono ?_
   rintro e w5 ⟨rfl, hb⟩
   replace M := gnM hb M
   clear hb
   (try go_wp2_with fail)
   refine hK.out _ _ (((M.out.1).t4 ((HR.out.keep (J3 M)).c4))) (fun hH2 => ?_)
   clear hK K hH1
   (try simp only [Act.put, List.setIfInBounds_toArray, List.set_cons_zero, List.set_cons_succ])
   refine tk at7 ?_
   refine wpAnyH_done (by kernel_rfl) ?_ _
   clear hH2
   cases b1 with
   | false =>
    go_wp2_with fail
    go_roundw
    case rel => exact ⟨(k + 1), m, g0, g1, g2, g3, by go_num, (by show _ ≤ _; omega), (by show _ ≤ _; omega), (HN.out.trans (minQ_ge (of_decide_eq_false HB1.out))), HSm.out, Lib.hid (aI (M.out.1) (aI (J1 M).1 (aI (J2 M).1 (J3 M))))⟩
    case measure => simp [RowKit.intOf] <;> omega
   | true =>
    refine cj8 (M.out.1).c4 fun ae af ag ah ai aj ak al => ?_
    refine cj4 (TQ.st (HQ.out.keep (J3 M))) fun am ao ap aq => ?_
    refine cj4 (HR.out.keep (J3 M)).c4 fun r1_0 r1_1 r1_2 r1_3 => ?_
    go_upto_region 6 with fail
    clear ae af ag ah ai aj ak al am ao ap aq r1_0 r1_1 r1_2 r1_3
    have hz : w.heap.size ≤ w1.heap.size := by omega
    refine st4W (x0) (x1) (x2) (x3) (M.out.1) (J3 M) hz fun w6 hv og hk hbw => ?_
    rw [← hv]
    replace M := Lib.hid (aI hk (aI ((J1 M).1.far (M.out.1) (by rfl) (by omega) og) (aI ((J2 M).1.only og (by omega)) hbw)))
    clear hk hbw og hv hz
    go_wp2_with fail
    go_roundw
    case rel => exact ⟨(k + 1), qk, x0, x1, x2, x3, by go_num, (by show _ ≤ _; omega), (by show _ ≤ _; omega), (HN.out.trans (minQ_lt (of_decide_eq_true HB1.out))), HSk.out, Lib.hid (aI (M.out.1) (aI (HQ.out.keep (J3 M)) (aI (J2 M).1 (J3 M))))⟩
    case measure => simp [RowKit.intOf] <;> omega
  ·
   have hI : ¬ (k : Int) < (l.length : Int) := by omega
   have HE : Hid (minL l = m) := by show _ = _; rw [← HM.out, List.take_of_length_le (by omega)]
   refine cj4 (M.out.1).d4 fun ae ag ai ak => ?_
   refine cj8 (J2 M).1.c4 fun ar au av aw ax ay az ba => ?_
   refine cj4 (TQ.st (J1 M).1) fun bb bc bd bf => ?_
   go_wp2_with fail
   clear ae ag ai ak ar au av aw ax ay az ba bb bc bd bf
   have hz : w.heap.size ≤ w.heap.size := by exact Nat.le_refl _
   refine st4W (g0) (g1) (g2) (g3) (J2 M).1 (J3 M) hz fun w4 hv og hk hbw => ?_
   rw [← hv]
   replace M := Lib.hid (aI ((M.out.1).only og (by omega)) (aI ((J1 M).1.far (J2 M).1 (by rfl) (by omega) og) (aI hk hbw)))
   clear hk hbw og hv hz
   refine bodyPost_ret (results_box1 rfl _ _ w.heap.size 26 _ _ _ rfl (J2 M).1 Tryz.underlying26 rfl (by kernel_rfl)) rfl ?_
   exact ⟨g0, g1, g2, g3, rfl, (by have h_ := (J1 M).1; rw [← HE.out] at h_; exact h_), (J3 M)⟩
set_option maxRecDepth 100000 in
set_option maxHeartbeats 4000000 in
theorem maxf_ok1 {l : List Rat} {b off c : Nat} {w : World} (_hG : G ≤ w.heap.size) (h1 : Fs G w b off l) (hl : 0 < l.length) (_hn : l.length ≤ 1099511627776) (hs : ∀ q ∈ l, Fz q 137438953472) :
  Calls Tryz.prog 66 #[.slice (some ⟨b, off, none⟩) l.length c, .func (Fn.func 43) #[] #[]] w fun e w' => ∃ x0 x1 x2 x3, e = .returned (.agg #[x0, x1, x2, x3]) ∧ FQ G w' x0 x1 x2 x3 (maxL l) ∧ Below w.heap.size w w' := by
 have HL := Lib.hid h1; have HS := Lib.hid hs; clear h1 hs
 have hI0 : ¬ (l.length : Int) < 1 := by omega
 obtain ⟨z0, z1, z2, z3, HR0_, HQ0_⟩ := HL.out 0 hl
 have HR0 : Hid (Row w b off [z0, z1, z2, z3]) := by rw [Nat.zero_mul, Nat.add_zero] at HR0_; exact HR0_
 have HQ0 : Hid (FQ G w z0 z1 z2 z3 l[0]) := HQ0_
 have HS0 := Lib.hid (HS.out _ (List.getElem_mem hl))
 clear HR0_ HQ0_
 have HR0 : Hid (Row w b off [z0, z1, z2, z3]) := HR0.out
 have HQ0 : Hid (FQ G w z0 z1 z2 z3 l[0]) := HQ0.out
 have M : Hid (Below w.heap.size w w) := Below.refl _ _
 go_enter Tryz.func66, Tryz.ntmps66
 go_upto_region 1 with fail
 refine nmW (w.alloc (.cells #[.int .i64 0, .slice none 0 0, .int .i64 0, .slice none 0 0] 26)) fun w1 hv => ?_
 rw [← hv]
 replace M := alM hv M
 clear hv
 refine cj4 (TQ.st (HQ0.out.keep (J1 M))) fun aa ab ac ad => ?_
 refine cj4 (HR0.out.keep (J1 M)).c4 fun r0_0 r0_1 r0_2 r0_3 => ?_
 go_upto_region 4 with fail
 clear aa ab ac ad r0_0 r0_1 r0_2 r0_3
 refine nmW (w1.alloc (.cells #[z0, z1, z2, z3] 26)) fun w2 hv => ?_
 rw [← hv]
 have ow1_ : w.heap.size < w1.heap.size := ((M.out.1)).lt
 replace M := alM hv M
 clear hv
 go_wp2_with fail
 go_loopw [6] (fun i6 wr => ∃ (k : Nat) (m : Rat) (g0 : Value) (g1 : Value) (g2 : Value) (g3 : Value), i6 = .int .i64 (k : Int) ∧ Hid (k ≤ l.length) ∧ Hid (1 ≤ k) ∧ Hid (maxL (l.take k) = m) ∧ Hid (Fz m 137438953472) ∧ Hid (Bx wr w1.heap.size 26 #[g0, g1, g2, g3] ∧ FQ G wr g0 g1 g2 g3 m ∧ Bx wr w.heap.size 26 #[.int .i64 0, .slice none 0 0, .int .i64 0, .slice none 0 0] ∧ Below w.heap.size w wr)) (fun i6 _ => l.length - (RowKit.intOf i6).toNat)
 case atStart =>
  exact ⟨1, l[0], z0, z1, z2, z3, rfl, (by show _ ≤ _; omega), (by show _ ≤ _; omega), (maxL_one hl), HS0.out, Lib.hid (aI (M.out.1) (aI (HQ0.out.keep (J2 M)) (aI (J1 M).1 (J2 M))))⟩
 case round =>
  obtain ⟨w3, rfl⟩ : ∃ x, x = wr := ⟨_, rfl⟩
  clear M
  obtain ⟨k, m, g0, g1, g2, g3, rfl, hk, hk0, HM, HSm, M⟩ := hrel
  replace hk := hk.out; replace hk0 := hk0.out
  by_cases hlt : k < l.length
  ·
   have hI : (k : Int) < (l.length : Int) := by omega
   obtain ⟨x0, x1, x2, x3, HR_, HQ_⟩ := HL.out k hlt
   have HR : Hid (Row w b (off + k * 4) [x0, x1, x2, x3]) := HR_
   have HQ : Hid (FQ G w x0 x1 x2 x3 l[k]) := HQ_
   clear HR_ HQ_
   obtain ⟨qk, hqk⟩ : ∃ q, q = l[k] := ⟨_, rfl⟩
   rw [← hqk] at HQ
   have HSk : Hid (Fz qk 137438953472) := by show Fz _ _; rw [hqk]; exact HS.out _ (List.getElem_mem hlt)
   obtain ⟨k1, hk1⟩ : ∃ k, ordQ qk m = k := ⟨_, rfl⟩
   have HK1 := Lib.hid hk1
   obtain ⟨b1, hb1⟩ : ∃ b, decide (m < qk) = b := ⟨_, rfl⟩
   have hd1 : decide (0 < k1) = b1 := by rw [← hb1, ← hk1]; exact ordQ_gt0 qk m
   have HN : Hid (maxL (l.take (k + 1)) = maxQ m qk) := by show _ = _; rw [maxL_next hk0 hlt, HM.out, hqk]
   have HB1 := Lib.hid hb1
   clear hb1 hqk hk1
   go_wp2_with fail
   refine nmW w3.drew fun w4 hv => ?_
   replace M := drM hv M
   refine wp_region_held_drew (S := (fun w' => w'.cell? ⟨w1.heap.size, 0, none⟩ = some (g0) ∧ w'.cell? ⟨w1.heap.size, 1, none⟩ = some (g1) ∧ w'.cell? ⟨w1.heap.size, 2, none⟩ = some (g2) ∧ w'.cell? ⟨w1.heap.size, 3, none⟩ = some (g3) ∧ w'.cell? ⟨b, off + k * 4, none⟩ = some (x0) ∧ w'.cell? ⟨b, off + k * 4 + 1, none⟩ = some (x1) ∧ w'.cell? ⟨b, off + k * 4 + 2, none⟩ = some (x2) ∧ w'.cell? ⟨b, off + k * 4 + 3, none⟩ = some (x3))) (by kernel_rfl) (by rw [← hv]; exact ((M.out.1).t4 ((HR.out.keep (J3 M)).c4))) (fun hH1 => ?_)
   rw [← hv] at hH1 ⊢
   clear hv
   refine tk at0 ?_
   refine tk at1 ?_
   refine tk at2 ?_
   refine tk at3 ?_
   refine tk at4 ?_
   refine tk at5 ?_
   refine wpAnyH_ready (rs := [6]) (by kernel_rfl) (by simp) ?_
   refine AllReadyH.cons at6 (fun K hK => ?_) AllReadyH.nil
   go_simp
   refine (fqCompare (G := G) (q := qk) (r := m) (k := k1) (HQ.out.keep (J3 M)) (J1 M).1 HSk.out HSm.out HK1.out).mono ?_
   rintro e w5 ⟨rfl, hb⟩
   replace M := gnM hb M
   clear hb
   (try go_wp2_with fail)
   refine hK.out _ _ (((M.out.1).t4 ((HR.out.keep (J3 M)).c4))) (fun hH2 => ?_)
   clear hK K hH1
   (try simp only [Act.put, List.setIfInBounds_toArray, List.set_cons_zero, List.set_cons_succ])
   refine tk at7 ?_
   refine wpAnyH_done (by kernel_rfl) ?_ _
   clear hH2
   cases b1 with
   | false =>
    go_wp2_with fail
    go_roundw
    case rel => exact ⟨(k + 1), m, g0, g1, g2, g3, by go_num, (by show _ ≤ _; omega), (by show _ ≤ _; omega), (HN.out.trans (maxQ_ge (of_decide_eq_false HB1.out))), HSm.out, Lib.hid (aI (M.out.1) (aI (J1 M).1 (aI (J2 M).1 (J3 M))))⟩
    case measure => simp [RowKit.intOf] <;> omega
   | true =>
    refine cj8 (M.out.1).c4 fun ae af ag ah ai aj ak al => ?_
    refine cj4 (TQ.st (HQ.out.keep (J3 M))) fun am ao ap aq => ?_
    refine cj4 (HR.out.keep (J3 M)).c4 fun r1_0 r1_1 r1_2 r1_3 => ?_
    go_upto_region 6 with fail
    clear ae af ag ah ai aj ak al am ao ap aq r1_0 r1_1 r1_2 r1_3
    have hz : w.heap.size ≤ w1.heap.size := by omega
    refine st4W (x0) (x1) (x2) (x3) (M.out.1) (J3 M) hz fun w6 hv og hk hbw => ?_
    rw [← hv]
    replace M := Lib.hid (aI hk (aI ((J1 M).1.far (M.out.1) (by rfl) (by omega) og) (aI ((J2 M).1.only og (by omega)) hbw)))
    clear hk hbw og hv hz
    go_wp2_with fail
    go_roundw
    case rel => exact ⟨(k + 1), qk, x0, x1, x2, x3, by go_num, (by show _ ≤ _; omega), (by show _ ≤ _; omega), (HN.out.trans (maxQ_lt (of_decide_eq_true HB1.out))), HSk.out, Lib.hid (aI (M.out.1) (aI (HQ.out.keep (J3 M)) (aI (J2 M).1 (J3 M))))⟩
    case measure => simp [RowKit.intOf] <;> omega
  ·
   have hI : ¬ (k : Int) < (l.length : Int) := by omega
   have HE : Hid (maxL l = m) := by show _ = _; rw [← HM.out, List.take_of_length_le (by omega)]
   refine cj4 (M.out.1).d4 fun ae ag ai ak => ?_
   refine cj8 (J2 M).1.c4 fun ar au av aw ax ay az ba => ?_
   refine cj4 (TQ.st (J1 M).1) fun bb bc bd bf => ?_
   go_wp2_with fail
   clear ae ag ai ak ar au av aw ax ay az ba bb bc bd bf
   have hz : w.heap.size ≤ w.heap.size := by exact Nat.le_refl _
   refine st4W (g0) (g1) (g2) (g3) (J2 M).1 (J3 M) hz fun w4 hv og hk hbw => ?_
   rw [← hv]
   replace M := Lib.hid (aI ((M.out.1).only og (by omega)) (aI ((J1 M).1.far (J2 M).1 (by rfl) (by omega) og) (aI hk hbw)))
   clear hk hbw og hv hz
   refine bodyPost_ret (results_box1 rfl _ _ w.heap.size 26 _ _ _ rfl (J2 M).1 Tryz.underlying26 rfl (by kernel_rfl)) rfl ?_
   exact ⟨g0, g1, g2, g3, rfl, (by have h_ := (J1 M).1; rw [← HE.out] at h_; exact h_), (J3 M)⟩
def Fa (G : Nat) (w : World) (a : Option Addr) (l : List Rat) : Prop := ∃ b off, a = some ⟨b, off, none⟩ ∧ Fs G w b off l
theorem Fa.keep {w w' : World} {a : Option Addr} {l : List Rat} (h : Fa G w a l) (hb : Below w.heap.size w w') : Fa G w' a l := by
 obtain ⟨b, off, h1, h2⟩ := h; exact ⟨b, off, h1, h2.keep hb⟩
instance {w w' : World} {a : Option Addr} {l : List Rat} : Goes (Fa G w a l) w w' (Fa G w' a l) := ⟨fun h hb => h.keep hb⟩
theorem minf_four {p q r s m : Rat} {a : Option Addr} {c : Nat} {f : Value} {w : World} (hG : G ≤ w.heap.size) (h : Fa G w a [p, q, r, s]) (h1 : Fz p 137438953472) (h2 : Fz q 137438953472) (h3 : Fz r 137438953472) (h4 : Fz s 137438953472) (hf : f = .func (Fn.func 43) #[] #[]) (hm : min4 p q r s = m) :
  Calls Tryz.prog 65 #[.slice a 4 c, f] w fun e w' => ∃ x0 x1 x2 x3, e = .returned (.agg #[x0, x1, x2, x3]) ∧ FQ G w' x0 x1 x2 x3 m ∧ Below w.heap.size w w' := by
 obtain ⟨b, off, rfl, hs⟩ := h
 subst hf hm
 exact minf_ok1 (l := [p, q, r, s]) hG hs (by simp) (by simp) (fun x hx => by simp at hx; rcases hx with rfl | rfl | rfl | rfl <;> assumption)
theorem maxf_four {p q r s m : Rat} {a : Option Addr} {c : Nat} {f : Value} {w : World} (hG : G ≤ w.heap.size) (h : Fa G w a [p, q, r, s]) (h1 : Fz p 137438953472) (h2 : Fz q 137438953472) (h3 : Fz r 137438953472) (h4 : Fz s 137438953472) (hf : f = .func (Fn.func 43) #[] #[]) (hm : max4 p q r s = m) :
  Calls Tryz.prog 66 #[.slice a 4 c, f] w fun e w' => ∃ x0 x1 x2 x3, e = .returned (.agg #[x0, x1, x2, x3]) ∧ FQ G w' x0 x1 x2 x3 m ∧ Below w.heap.size w w' := by
 obtain ⟨b, off, rfl, hs⟩ := h
 subst hf hm
 exact maxf_ok1 (l := [p, q, r, s]) hG hs (by simp) (by simp) (fun x hx => by simp at hx; rcases hx with rfl | rfl | rfl | rfl <;> assumption)
set_option maxRecDepth 100000 in
set_option maxHeartbeats 4000000 in
theorem around_four {p q r s lo hi : Rat} {a : Option Addr} {c : Nat} {w : World} (hG : G ≤ w.heap.size) (h : Fa G w a [p, q, r, s]) (h1 : Fz p 137438953472) (h2 : Fz q 137438953472) (h3 : Fz r 137438953472) (h4 : Fz s 137438953472) (hl : min4 p q r s = lo) (hh : max4 p q r s = hi) :
  Calls Tryz.prog 41 #[.slice a 4 c] w fun e w' => ∃ x0 x1 x2 x3 x4 x5 x6 x7, e = .returned (.agg #[x0, x1, x2, x3, x4, x5, x6, x7]) ∧ FQ G w' x0 x1 x2 x3 lo ∧ FQ G w' x4 x5 x6 x7 hi ∧ Below w.heap.size w w' := by
 have HA := Lib.hid h; have HLO := Lib.hid hl; have HHI := Lib.hid hh
 have HLS : Hid (Fz lo 137438953472) := by show Fz _ _; rw [← hl]; exact Fz.min4 h1 h2 h3 h4
 have HHS : Hid (Fz hi 137438953472) := by show Fz _ _; rw [← hh]; exact Fz.max4 h1 h2 h3 h4
 have H1 := Lib.hid h1; have H2 := Lib.hid h2; have H3 := Lib.hid h3; have H4 := Lib.hid h4; clear h h1 h2 h3 h4 hl hh
 have M : Hid (Below w.heap.size w w) := Below.refl _ _
 go_enter Tryz.func41, Tryz.ntmps41
 go_upto_region 1 with fail
 refine nmW (w.alloc (.cells #[.int .i64 0, .slice none 0 0, .int .i64 0, .slice none 0 0, .int .i64 0, .slice none 0 0, .int .i64 0, .slice none 0 0] 28)) fun w1 hv => ?_
 rw [← hv]
 replace M := alM hv M
 clear hv
 go_wp2_with fail
 refine (minf_four (G := G) (p := p) (q := q) (r := r) (s := s) (m := lo) (Nat.le_trans hG (J1 M).size) (HA.out.keep (J1 M)) H1.out H2.out H3.out H4.out rfl HLO.out).mono ?_
 rintro e w2 ⟨x_1, x_2, x_3, x_4, rfl, hd5, hb⟩
 replace M := adM hd5 hb M
 clear hb hd5
 go_wp2_with fail
 refine (fresh_ok (G := G) (q := lo) (Nat.le_trans hG (J2 M).size) (M.out.1) HLS.out).mono ?_
 rintro e w3 ⟨x_6, x_7, x_8, x_9, rfl, hd10, hb⟩
 replace M := adM hd10 hb M
 clear hb hd10
 go_wp2_with fail
 refine (maxf_four (G := G) (p := p) (q := q) (r := r) (s := s) (m := hi) (Nat.le_trans hG (J3 M).size) (HA.out.keep (J3 M)) H1.out H2.out H3.out H4.out rfl HHI.out).mono ?_
 rintro e w4 ⟨x_11, x_12, x_13, x_14, rfl, hd15, hb⟩
 replace M := adM hd15 hb M
 clear hb hd15
 go_wp2_with fail
 refine (fresh_ok (G := G) (q := hi) (Nat.le_trans hG (J4 M).size) (M.out.1) HHS.out).mono ?_
 rintro e w5 ⟨x_16, x_17, x_18, x_19, rfl, hd20, hb⟩
 replace M := adM hd20 hb M
 clear hb hd20
 refine cj16 (J4 M).1.c8 fun aa ab ac ad ae af ag ah ai aj ak al am ao ap aq => ?_
 refine cj4 (TQ.st (J2 M).1) fun ar au av aw => ?_
 refine cj4 (TQ.st (M.out.1)) fun ax ay az ba => ?_
 go_wp2_with fail
 clear aa ab ac ad ae af ag ah ai aj ak al am ao ap aq ar au av aw ax ay az ba
 have hz : w.heap.size ≤ w.heap.size := by exact Nat.le_refl _
 refine st8W (x_6) (x_7) (x_8) (x_9) (x_16) (x_17) (x_18) (x_19) (J4 M).1 (J5 M) hz fun w6 hv og hk hbw => ?_
 rw [← hv]
 replace M := Lib.hid (aI ((M.out.1).far (J4 M).1 (by rfl) (by omega) og) (aI ((J1 M).1.far (J4 M).1 (by rfl) (by omega) og) (aI ((J2 M).1.far (J4 M).1 (by rfl) (by omega) og) (aI ((J3 M).1.far (J4 M).1 (by rfl) (by omega) og) (aI hk hbw)))))
 clear hk hbw og hv hz
 refine bodyPost_ret (results_box1 rfl _ _ w.heap.size 28 _ _ _ rfl (J4 M).1 Tryz.underlying28 rfl (by kernel_rfl)) rfl ?_
 exact ⟨x_6, x_7, x_8, x_9, x_16, x_17, x_18, x_19, rfl, (J2 M).1, (M.out.1), (J5 M)⟩
set_option maxRecDepth 100000 in
set_option maxHeartbeats 4000000 in
theorem product_ok {u0 u1 u2 u3 v0 v1 v2 v3 : Value} {q r : Rat} {w : World} (hG : G ≤ w.heap.size) (h1 : FQ G w u0 u1 u2 u3 q) (h2 : FQ G w v0 v1 v2 v3 r) (hx : Fz q 137438953472) (hy : Fz r 137438953472)  :
  Calls Tryz.prog 57 #[.agg #[u0, u1, u2, u3], .agg #[v0, v1, v2, v3]] w fun e w' => ∃ x0 x1 x2 x3, e = .returned (.agg #[x0, x1, x2, x3]) ∧ FQ G w' x0 x1 x2 x3 (q * r) ∧ Below w.heap.size w w' := by
 have HX := Lib.hid hx; have HY := Lib.hid hy; clear hx hy
 have H1 : Hid (FQ G w u0 u1 u2 u3 q) := h1
 have H2 : Hid (FQ G w v0 v1 v2 v3 r) := h2
 clear h1 h2
 have M : Hid (Below w.heap.size w w) := Below.refl _ _
 go_enter Tryz.func57, Tryz.ntmps57
 go_upto_region 1 with fail
 refine nmW (((w.alloc (.cells #[u0, u1, u2, u3] 26)).alloc (.cells #[v0, v1, v2, v3] 26)).alloc (.cells #[.int .i64 0, .slice none 0 0, .int .i64 0, .slice none 0 0] 26)) fun w1 hv => ?_
 rw [← hv]
 replace M := al3W hv M
 clear hv
 refine cj4 (J2 M).1.d4 fun aa ab ac ad => ?_
 refine cj4 (J1 M).1.d4 fun ae af ag ah => ?_
 go_wp2_with fail
 clear aa ab ac ad ae af ag ah
 refine nmW (α := Rat) (q * r) fun q5 eq5 => ?_
 refine (fqMul (G := G) (q := q) (r := r) (Nat.le_trans hG (J3 M).size) (H1.out.keep (J3 M)) (H2.out.keep (J3 M)) HX.out HY.out).mono ?_
 rintro e w2 ⟨x_1, x_2, x_3, x_4, rfl, hd6, hb⟩
 rw [← eq5] at hd6
 have Sq5 : Hid (Fz q5 274877906944) := by show Fz q5 274877906944; rw [eq5]; exact (Fz.mul HX.out HY.out)
 have Eq5 := Lib.hid eq5; clear eq5
 replace M := adM hd6 hb M
 clear hb hd6
 refine cj4 (TQ.st (M.out.1)) fun ai aj ak al => ?_
 go_upto_region 2 with fail
 clear ai aj ak al
 refine nmW (w2.alloc (.cells #[x_1, x_2, x_3, x_4] 26)) fun w3 hv => ?_
 rw [← hv]
 have ow3_ : w.heap.size + 1 + 1 < w2.heap.size := ((J1 M).1).lt
 replace M := alM hv M
 clear hv
 refine cj4 (M.out.1).d4 fun am ao ap aq => ?_
 refine cj8 (J2 M).1.c4 fun ar au av aw ax ay az ba => ?_
 refine cj4 (TQ.st (J1 M).1) fun ai aj ak al => ?_
 go_wp2_with fail
 clear am ao ap aq ar au av aw ax ay az ba ai aj ak al
 have hz : w.heap.size ≤ w.heap.size + 1 + 1 := by omega
 refine st4W (x_1) (x_2) (x_3) (x_4) (J2 M).1 (J5 M) hz fun w4 hv og hk hbw => ?_
 rw [← hv]
 replace M := Lib.hid (aI ((M.out.1).only og (by omega)) (aI ((J1 M).1.far (J2 M).1 (by rfl) (by omega) og) (aI hk (aI ((J3 M).1.only og (by omega)) (aI ((J4 M).1.only og (by omega)) hbw)))))
 clear hk hbw og hv hz
 refine bodyPost_ret (results_box1 rfl _ _ (w.heap.size + 1 + 1) 26 _ _ _ rfl (J2 M).1 Tryz.underlying26 rfl (by kernel_rfl)) rfl ?_
 exact ⟨x_1, x_2, x_3, x_4, rfl, (by have h_ := (J1 M).1; rw [Eq5.out] at h_; exact h_), (J5 M)⟩
set_option maxRecDepth 100000 in
set_option maxHeartbeats 4000000 in
theorem ends_le {u0 u1 u2 u3 v0 v1 v2 v3 : Value} {q r : Rat} {w : World} (hG : G ≤ w.heap.size) (h1 : FQ G w u0 u1 u2 u3 q) (h2 : FQ G w v0 v1 v2 v3 r) (hx : Fz q 137438953472) (hy : Fz r 137438953472) (hc : q ≤ r) :
  Calls Tryz.prog 42 #[.agg #[u0, u1, u2, u3], .agg #[v0, v1, v2, v3]] w fun e w' => ∃ x0 x1 x2 x3 x4 x5 x6 x7, e = .returned (.tuple #[.agg #[x0, x1, x2, x3], .agg #[x4, x5, x6, x7]]) ∧ FQ G w' x0 x1 x2 x3 q ∧ FQ G w' x4 x5 x6 x7 r ∧ Below w.heap.size w w' := by
 have HX := Lib.hid hx; have HY := Lib.hid hy; clear hx hy
 obtain ⟨k1, hk1⟩ : ∃ k, ordQ q r = k := ⟨_, rfl⟩
 have hd1 : decide (k1 ≤ 0) = true := by rw [← hk1, ordQ_le0]; exact decide_eq_true hc
 have HK1 := Lib.hid hk1; clear hk1 hc
 have H1 : Hid (FQ G w u0 u1 u2 u3 q) := h1
 have H2 : Hid (FQ G w v0 v1 v2 v3 r) := h2
 clear h1 h2
 have M : Hid (Below w.heap.size w w) := Below.refl _ _
 go_enter Tryz.func42, Tryz.ntmps42
 go_upto_region 1 with fail
 refine nmW ((((w.alloc (.cells #[u0, u1, u2, u3] 26)).alloc (.cells #[v0, v1, v2, v3] 26)).alloc (.cells #[.int .i64 0, .slice none 0 0, .int .i64 0, .slice none 0 0] 26)).alloc (.cells #[.int .i64 0, .slice none 0 0, .int .i64 0, .slice none 0 0] 26)) fun w1 hv => ?_
 rw [← hv]
 replace M := al4W hv M
 clear hv
 refine cj4 (J3 M).1.d4 fun aa ab ac ad => ?_
 refine cj4 (J2 M).1.d4 fun ae af ag ah => ?_
 go_wp2_with fail
 clear aa ab ac ad ae af ag ah
 refine (fqCompare (G := G) (q := q) (r := r) (k := k1) (H1.out.keep (J4 M)) (H2.out.keep (J4 M)) HX.out HY.out HK1.out).mono ?_
 rintro e w2 ⟨rfl, hb⟩
 replace M := gnM hb M
 clear hb
 go_wp2_with fail
 refine nmW w2.drew fun w3 hv => ?_
 replace M := drM hv M
 refine wp_region_held_drew (S := (fun w' => w'.cell? ⟨w.heap.size, 0, none⟩ = some (u0) ∧ w'.cell? ⟨w.heap.size, 1, none⟩ = some (u1) ∧ w'.cell? ⟨w.heap.size, 2, none⟩ = some (u2) ∧ w'.cell? ⟨w.heap.size, 3, none⟩ = some (u3) ∧ w'.cell? ⟨w.heap.size + 1, 0, none⟩ = some (v0) ∧ w'.cell? ⟨w.heap.size + 1, 1, none⟩ = some (v1) ∧ w'.cell? ⟨w.heap.size + 1, 2, none⟩ = some (v2) ∧ w'.cell? ⟨w.heap.size + 1, 3, none⟩ = some (v3))) (by kernel_rfl) (by rw [← hv]; exact ((J3 M).1.t4 ((J2 M).1.d4))) (fun hH11 => ?_)
 rw [← hv] at hH11 ⊢
 clear hv
 refine tk at0 ?_
 refine tk at2 ?_
 refine wpAnyH_ready (rs := [1]) (by kernel_rfl) (by simp) ?_
 refine AllReadyH.cons at1 (fun K hK => ?_) AllReadyH.nil
 go_simp
 refine (fresh_ok (G := G) (q := q) (Nat.le_trans hG (J4 M).size) (H1.out.keep (J4 M)) HX.out).mono ?_
 rintro e w4 ⟨x_12, x_13, x_14, x_15, rfl, hd16, hb⟩
 replace M := adM hd16 hb M
 clear hb hd16
 (try go_wp2_with fail)
 refine hK.out _ _ (((J4 M).1.t4 ((J3 M).1.d4))) (fun hH17 => ?_)
 clear hK K hH11
 (try simp only [Act.put, List.setIfInBounds_toArray, List.set_cons_zero, List.set_cons_succ])
 refine wpAnyH_ready (rs := [3]) (by kernel_rfl) (by simp) ?_
 refine AllReadyH.cons at3 (fun K hK => ?_) AllReadyH.nil
 go_simp
 refine (fresh_ok (G := G) (q := r) (Nat.le_trans hG (J5 M).size) (H2.out.keep (J5 M)) HY.out).mono ?_
 rintro e w5 ⟨x_18, x_19, x_20, x_21, rfl, hd22, hb⟩
 replace M := adM hd22 hb M
 clear hb hd22
 (try go_wp2_with fail)
 refine hK.out _ _ (((J5 M).1.t4 ((J4 M).1.d4))) (fun hH23 => ?_)
 clear hK K hH17
 (try simp only [Act.put, List.setIfInBounds_toArray, List.set_cons_zero, List.set_cons_succ])
 refine wpAnyH_ready (rs := [4]) (by kernel_rfl) (by simp) ?_
 refine AllReadyH.cons at4 (fun K hK => ?_) AllReadyH.nil
 refine cj8 (J3 M).1.c4 fun ai aj ak al am ao ap aq => ?_
 refine cj4 (TQ.st (J1 M).1) fun ar au av aw => ?_
 go_simp
 clear ai aj ak al am ao ap aq ar au av aw
 have hz : w.heap.size ≤ w.heap.size + 1 + 1 := by omega
 refine st4W (x_12) (x_13) (x_14) (x_15) (J3 M).1 (J6 M) hz fun w6 hv og hk hbw => ?_
 rw [← hv]
 replace M := Lib.hid (aI ((M.out.1).far (J3 M).1 (by rfl) (by omega) og) (aI ((J1 M).1.far (J3 M).1 (by rfl) (by omega) og) (aI ((J2 M).1.only og (by omega)) (aI hk (aI ((J4 M).1.only og (by omega)) (aI ((J5 M).1.only og (by omega)) hbw))))))
 clear hk hbw og hv hz
 refine hK.out _ _ (((J5 M).1.t4 ((J4 M).1.d4))) (fun hH24 => ?_)
 clear hK K hH23
 (try simp only [Act.put, List.setIfInBounds_toArray, List.set_cons_zero, List.set_cons_succ])
 refine wpAnyH_ready (rs := [5]) (by kernel_rfl) (by simp) ?_
 refine AllReadyH.cons at5 (fun K hK => ?_) AllReadyH.nil
 refine cj8 (J2 M).1.c4 fun ax ay az ba bb bc bd bf => ?_
 refine cj4 (TQ.st (M.out.1)) fun bg bh bi bj => ?_
 go_simp
 clear ax ay az ba bb bc bd bf bg bh bi bj
 have hz : w.heap.size ≤ w.heap.size + 1 + 1 + 1 := by omega
 refine st4W (x_18) (x_19) (x_20) (x_21) (J2 M).1 (J6 M) hz fun w7 hv og hk hbw => ?_
 rw [← hv]
 replace M := Lib.hid (aI ((M.out.1).far (J2 M).1 (by rfl) (by omega) og) (aI ((J1 M).1.far (J2 M).1 (by rfl) (by omega) og) (aI hk (aI ((J3 M).1.only og (by omega)) (aI ((J4 M).1.only og (by omega)) (aI ((J5 M).1.only og (by omega)) hbw))))))
 clear hk hbw og hv hz
 refine hK.out _ _ (((J5 M).1.t4 ((J4 M).1.d4))) (fun hH25 => ?_)
 clear hK K hH24
 (try simp only [Act.put, List.setIfInBounds_toArray, List.set_cons_zero, List.set_cons_succ])
 refine wpAnyH_done (by kernel_rfl) ?_ _
 clear hH25
 go_wp2_with fail
 refine bodyPost_ret (results_cc rfl _ _ (w.heap.size + 1 + 1) (w.heap.size + 1 + 1 + 1) 26 26 _ _ _ _ _ _ rfl (J3 M).1 Tryz.underlying26 rfl (by kernel_rfl) rfl (J2 M).1 Tryz.underlying26 rfl (by kernel_rfl)) rfl ?_
 exact ⟨x_12, x_13, x_14, x_15, x_18, x_19, x_20, x_21, rfl, (J1 M).1, (M.out.1), (J6 M)⟩
set_option maxRecDepth 100000 in
set_option maxHeartbeats 4000000 in
theorem ends_gt {u0 u1 u2 u3 v0 v1 v2 v3 : Value} {q r : Rat} {w : World} (hG : G ≤ w.heap.size) (h1 : FQ G w u0 u1 u2 u3 q) (h2 : FQ G w v0 v1 v2 v3 r) (hx : Fz q 137438953472) (hy : Fz r 137438953472) (hc : r < q) :
  Calls Tryz.prog 42 #[.agg #[u0, u1, u2, u3], .agg #[v0, v1, v2, v3]] w fun e w' => ∃ x0 x1 x2 x3 x4 x5 x6 x7, e = .returned (.tuple #[.agg #[x0, x1, x2, x3], .agg #[x4, x5, x6, x7]]) ∧ FQ G w' x0 x1 x2 x3 r ∧ FQ G w' x4 x5 x6 x7 q ∧ Below w.heap.size w w' := by
 have HX := Lib.hid hx; have HY := Lib.hid hy; clear hx hy
 obtain ⟨k1, hk1⟩ : ∃ k, ordQ q r = k := ⟨_, rfl⟩
 have hd1 : decide (k1 ≤ 0) = false := by rw [← hk1, ordQ_le0]; exact decide_eq_false (Rat.not_le.2 hc)
 have HK1 := Lib.hid hk1; clear hk1 hc
 have H1 : Hid (FQ G w u0 u1 u2 u3 q) := h1
 have H2 : Hid (FQ G w v0 v1 v2 v3 r) := h2
 clear h1 h2
 have M : Hid (Below w.heap.size w w) := Below.refl _ _
 go_enter Tryz.func42, Tryz.ntmps42
 go_upto_region 1 with fail
 refine nmW ((((w.alloc (.cells #[u0, u1, u2, u3] 26)).alloc (.cells #[v0, v1, v2, v3] 26)).alloc (.cells #[.int .i64 0, .slice none 0 0, .int .i64 0, .slice none 0 0] 26)).alloc (.cells #[.int .i64 0, .slice none 0 0, .int .i64 0, .slice none 0 0] 26)) fun w1 hv => ?_
 rw [← hv]
 replace M := al4W hv M
 clear hv
 refine cj4 (J3 M).1.d4 fun aa ab ac ad => ?_
 refine cj4 (J2 M).1.d4 fun ae af ag ah => ?_
 go_wp2_with fail
 clear aa ab ac ad ae af ag ah
 refine (fqCompare (G := G) (q := q) (r := r) (k := k1) (H1.out.keep (J4 M)) (H2.out.keep (J4 M)) HX.out HY.out HK1.out).mono ?_
 rintro e w2 ⟨rfl, hb⟩
 replace M := gnM hb M
 clear hb
 go_wp2_with fail
 refine nmW w2.drew fun w3 hv => ?_
 replace M := drM hv M
 refine wp_region_held_drew (S := (fun w' => w'.cell? ⟨w.heap.size, 0, none⟩ = some (u0) ∧ w'.cell? ⟨w.heap.size, 1, none⟩ = some (u1) ∧ w'.cell? ⟨w.heap.size, 2, none⟩ = some (u2) ∧ w'.cell? ⟨w.heap.size, 3, none⟩ = some (u3) ∧ w'.cell? ⟨w.heap.size + 1, 0, none⟩ = some (v0) ∧ w'.cell? ⟨w.heap.size + 1, 1, none⟩ = some (v1) ∧ w'.cell? ⟨w.heap.size + 1, 2, none⟩ = some (v2) ∧ w'.cell? ⟨w.heap.size + 1, 3, none⟩ = some (v3))) (by kernel_rfl) (by rw [← hv]; exact ((J3 M).1.t4 ((J2 M).1.d4))) (fun hH11 => ?_)
 rw [← hv] at hH11 ⊢
 clear hv
 refine tk at0 ?_
 refine tk at2 ?_
 refine wpAnyH_ready (rs := [1]) (by kernel_rfl) (by simp) ?_
 refine AllReadyH.cons at1 (fun K hK => ?_) AllReadyH.nil
 go_simp
 refine (fresh_ok (G := G) (q := r) (Nat.le_trans hG (J4 M).size) (H2.out.keep (J4 M)) HY.out).mono ?_
 rintro e w4 ⟨x_12, x_13, x_14, x_15, rfl, hd16, hb⟩
 replace M := adM hd16 hb M
 clear hb hd16
 (try go_wp2_with fail)
 refine hK.out _ _ (((J4 M).1.t4 ((J3 M).1.d4))) (fun hH17 => ?_)
 clear hK K hH11
 (try simp only [Act.put, List.setIfInBounds_toArray, List.set_cons_zero, List.set_cons_succ])
 refine wpAnyH_ready (rs := [3]) (by kernel_rfl) (by simp) ?_
 refine AllReadyH.cons at3 (fun K hK => ?_) AllReadyH.nil
 go_simp
 refine (fresh_ok (G := G) (q := q) (Nat.le_trans hG (J5 M).size) (H1.out.keep (J5 M)) HX.out).mono ?_
 rintro e w5 ⟨x_18, x_19, x_20, x_21, rfl, hd22, hb⟩
 replace M := adM hd22 hb M
 clear hb hd22
 (try go_wp2_with fail)
 refine hK.out _ _ (((J5 M).1.t4 ((J4 M).1.d4))) (fun hH23 => ?_)
 clear hK K hH17
 (try simp only [Act.put, List.setIfInBounds_toArray, List.set_cons_zero, List.set_cons_succ])
 refine wpAnyH_ready (rs := [4]) (by kernel_rfl) (by simp) ?_
 refine AllReadyH.cons at4 (fun K hK => ?_) AllReadyH.nil
 refine cj8 (J3 M).1.c4 fun ai aj ak al am ao ap aq => ?_
 refine cj4 (TQ.st (J1 M).1) fun ar au av aw => ?_
 go_simp
 clear ai aj ak al am ao ap aq ar au av aw
 have hz : w.heap.size ≤ w.heap.size + 1 + 1 := by omega
 refine st4W (x_12) (x_13) (x_14) (x_15) (J3 M).1 (J6 M) hz fun w6 hv og hk hbw => ?_
 rw [← hv]
 replace M := Lib.hid (aI ((M.out.1).far (J3 M).1 (by rfl) (by omega) og) (aI ((J1 M).1.far (J3 M).1 (by rfl) (by omega) og) (aI ((J2 M).1.only og (by omega)) (aI hk (aI ((J4 M).1.only og (by omega)) (aI ((J5 M).1.only og (by omega)) hbw))))))
 clear hk hbw og hv hz
 refine hK.out _ _ (((J5 M).1.t4 ((J4 M).1.d4))) (fun hH24 => ?_)
 clear hK K hH23
 (try simp only [Act.put, List.setIfInBounds_toArray, List.set_cons_zero, List.set_cons_succ])
 refine wpAnyH_ready (rs := [5]) (by kernel_rfl) (by simp) ?_
 refine AllReadyH.cons at5 (fun K hK => ?_) AllReadyH.nil
 refine cj8 (J2 M).1.c4 fun ax ay az ba bb bc bd bf => ?_
 refine cj4 (TQ.st (M.out.1)) fun bg bh bi bj => ?_
 go_simp
 clear ax ay az ba bb bc bd bf bg bh bi bj
 have hz : w.heap.size ≤ w.heap.size + 1 + 1 + 1 := by omega
 refine st4W (x_18) (x_19) (x_20) (x_21) (J2 M).1 (J6 M) hz fun w7 hv og hk hbw => ?_
 rw [← hv]
 replace M := Lib.hid (aI ((M.out.1).far (J2 M).1 (by rfl) (by omega) og) (aI ((J1 M).1.far (J2 M).1 (by rfl) (by omega) og) (aI hk (aI ((J3 M).1.only og (by omega)) (aI ((J4 M).1.only og (by omega)) (aI ((J5 M).1.only og (by omega)) hbw))))))
 clear hk hbw og hv hz
 refine hK.out _ _ (((J5 M).1.t4 ((J4 M).1.d4))) (fun hH25 => ?_)
 clear hK K hH24
 (try simp only [Act.put, List.setIfInBounds_toArray, List.set_cons_zero, List.set_cons_succ])
 refine wpAnyH_done (by kernel_rfl) ?_ _
 clear hH25
 go_wp2_with fail
 refine bodyPost_ret (results_cc rfl _ _ (w.heap.size + 1 + 1) (w.heap.size + 1 + 1 + 1) 26 26 _ _ _ _ _ _ rfl (J3 M).1 Tryz.underlying26 rfl (by kernel_rfl) rfl (J2 M).1 Tryz.underlying26 rfl (by kernel_rfl)) rfl ?_
 exact ⟨x_12, x_13, x_14, x_15, x_18, x_19, x_20, x_21, rfl, (J1 M).1, (M.out.1), (J6 M)⟩
theorem ends_ok {u0 u1 u2 u3 v0 v1 v2 v3 : Value} {q r lo hi : Rat} {w : World} (hG : G ≤ w.heap.size) (h1 : FQ G w u0 u1 u2 u3 q) (h2 : FQ G w v0 v1 v2 v3 r) (hx : Fz q 137438953472) (hy : Fz r 137438953472) (hl : minQ q r = lo) (hh : maxQ q r = hi) :
    Calls Tryz.prog 42 #[.agg #[u0, u1, u2, u3], .agg #[v0, v1, v2, v3]] w fun e w' => ∃ x0 x1 x2 x3 x4 x5 x6 x7, e = .returned (.tuple #[.agg #[x0, x1, x2, x3], .agg #[x4, x5, x6, x7]]) ∧ FQ G w' x0 x1 x2 x3 lo ∧ FQ G w' x4 x5 x6 x7 hi ∧ Below w.heap.size w w' := by
  subst hl hh
  rcases (show q ≤ r ∨ r < q by grind) with h | h
  · have e1 : minQ q r = q := minQ_ge (by grind)
    have e2 : maxQ q r = r := by unfold maxQ; split <;> grind
    rw [e1, e2]; exact ends_le hG h1 h2 hx hy h
  · rw [minQ_lt h, maxQ_ge (by grind)]; exact ends_gt hG h1 h2 hx hy h
end Go.Proofs.YtjbfngjlepafgaaGreat
namespace Go.Proofs.YtjbfngjlepafgaaGreat
open Go.RowKit Go.Lib
variable {G : Nat}
theorem rqRight {u0 u1 u2 u3 : Value} {q : Rat} {w : World} (h1 : FQ G w u0 u1 u2 u3 q) (hx : Fz q 549755813888) :
  Calls Tryz.prog 48 #[.agg #[u0, u1, u2, u3]] w fun e w' => e = .returned (.bool true) ∧ Below w.heap.size w w' := by
 obtain ⟨a1, c1, b1, d1, rfl, rfl, rfl, rfl, k1⟩ := h1.ex
 exact rfright_ok (G := G) k1 hx
theorem rqCompare {u0 u1 u2 u3 v0 v1 v2 v3 : Value} {q r : Rat} {k : Int} {w : World} (h1 : FQ G w u0 u1 u2 u3 q) (h2 : FQ G w v0 v1 v2 v3 r) (hx : Fz q 137438953472) (hy : Fz r 137438953472) (hk : ordQ q r = k) :
  Calls Tryz.prog 46 #[.agg #[u0, u1, u2, u3], .agg #[v0, v1, v2, v3]] w fun e w' => e = .returned (.int .i64 k) ∧ Below w.heap.size w w' := by
 obtain ⟨a1, c1, b1, d1, rfl, rfl, rfl, rfl, k1⟩ := h1.ex
 obtain ⟨a2, c2, b2, d2, rfl, rfl, rfl, rfl, k2⟩ := h2.ex
 exact rfcompare_is2 (G := G) k1 k2 hx hy hk
theorem rqAdd {u0 u1 u2 u3 v0 v1 v2 v3 : Value} {q r : Rat} {w : World} (h1 : FQ G w u0 u1 u2 u3 q) (h2 : FQ G w v0 v1 v2 v3 r) (hx : Fz q 137438953472) (hy : Fz r 137438953472) :
  Calls Tryz.prog 62 #[.agg #[u0, u1, u2, u3], .agg #[v0, v1, v2, v3]] w fun e w' => ∃ x0 x1 x2 x3, e = .returned (.tuple #[.agg #[x0, x1, x2, x3], .int .i64 0]) ∧ FQ G w' x0 x1 x2 x3 (q + r) ∧ Below w.heap.size w w' := by
 obtain ⟨a1, c1, b1, d1, rfl, rfl, rfl, rfl, k1⟩ := h1.ex
 obtain ⟨a2, c2, b2, d2, rfl, rfl, rfl, rfl, k2⟩ := h2.ex
 exact (rfadd_ok (G := G) k1 k2 hx hy).mono fun e w' ⟨a, c, b, d, he, hd, hb⟩ => ⟨_, _, _, _, he, FQ.of hd, hb⟩
theorem rqSub {u0 u1 u2 u3 v0 v1 v2 v3 : Value} {q r : Rat} {w : World} (h1 : FQ G w u0 u1 u2 u3 q) (h2 : FQ G w v0 v1 v2 v3 r) (hx : Fz q 137438953472) (hy : Fz r 137438953472) :
  Calls Tryz.prog 53 #[.agg #[u0, u1, u2, u3], .agg #[v0, v1, v2, v3]] w fun e w' => ∃ x0 x1 x2 x3, e = .returned (.tuple #[.agg #[x0, x1, x2, x3], .int .i64 0]) ∧ FQ G w' x0 x1 x2 x3 (q - r) ∧ Below w.heap.size w w' := by
 obtain ⟨a1, c1, b1, d1, rfl, rfl, rfl, rfl, k1⟩ := h1.ex
 obtain ⟨a2, c2, b2, d2, rfl, rfl, rfl, rfl, k2⟩ := h2.ex
 exact (rfsub_ok (G := G) k1 k2 hx hy).mono fun e w' ⟨a, c, b, d, he, hd, hb⟩ => ⟨_, _, _, _, he, FQ.of hd, hb⟩
theorem rqMul {u0 u1 u2 u3 v0 v1 v2 v3 : Value} {q r : Rat} {w : World} (hG : G ≤ w.heap.size) (h1 : FQ G w u0 u1 u2 u3 q) (h2 : FQ G w v0 v1 v2 v3 r) (hx : Fz q 137438953472) (hy : Fz r 137438953472) :
  Calls Tryz.prog 63 #[.agg #[u0, u1, u2, u3], .agg #[v0, v1, v2, v3]] w fun e w' => ∃ x0 x1 x2 x3, e = .returned (.tuple #[.agg #[x0, x1, x2, x3], .int .i64 0]) ∧ FQ G w' x0 x1 x2 x3 (q * r) ∧ Below w.heap.size w w' := by
 obtain ⟨a1, c1, b1, d1, rfl, rfl, rfl, rfl, k1⟩ := h1.ex
 obtain ⟨a2, c2, b2, d2, rfl, rfl, rfl, rfl, k2⟩ := h2.ex
 exact (rfmul_ok (G := G) hG k1 k2 hx hy).mono fun e w' ⟨a, c, b, d, he, hd, hb⟩ => ⟨_, _, _, _, he, FQ.of hd, hb⟩
theorem rqDiv {u0 u1 u2 u3 v0 v1 v2 v3 : Value} {q r : Rat} {w : World} (hG : G ≤ w.heap.size) (h1 : FQ G w u0 u1 u2 u3 q) (h2 : FQ G w v0 v1 v2 v3 r) (hx : Fz q 137438953472) (hy : Fz r 137438953472) (h0 : r ≠ 0) :
  Calls Tryz.prog 64 #[.agg #[u0, u1, u2, u3], .agg #[v0, v1, v2, v3]] w fun e w' => ∃ x0 x1 x2 x3, e = .returned (.tuple #[.agg #[x0, x1, x2, x3], .int .i64 0]) ∧ FQ G w' x0 x1 x2 x3 (q / r) ∧ Below w.heap.size w w' := by
 obtain ⟨a1, c1, b1, d1, rfl, rfl, rfl, rfl, k1⟩ := h1.ex
 obtain ⟨a2, c2, b2, d2, rfl, rfl, rfl, rfl, k2⟩ := h2.ex
 exact (rfdiv_ok (G := G) hG k1 k2 hx hy h0).mono fun e w' ⟨a, c, b, d, he, hd, hb⟩ => ⟨_, _, _, _, he, FQ.of hd, hb⟩
theorem rqNeg {u0 u1 u2 u3 : Value} {q : Rat} {w : World} (hG : G ≤ w.heap.size) (h1 : FQ G w u0 u1 u2 u3 q) (hx : Fz q 137438953472) :
  Calls Tryz.prog 55 #[.agg #[u0, u1, u2, u3]] w fun e w' => ∃ x0 x1 x2 x3, e = .returned (.agg #[x0, x1, x2, x3]) ∧ FQ G w' x0 x1 x2 x3 (-q) ∧ Below w.heap.size w w' := by
 obtain ⟨a1, c1, b1, d1, rfl, rfl, rfl, rfl, k1⟩ := h1.ex
 exact (rfneg_ok (G := G) hG k1 hx).mono fun e w' ⟨a, c, b, d, he, hd, hb⟩ => ⟨_, _, _, _, he, FQ.of hd, hb⟩
theorem rqMin1 {u0 u1 u2 u3 v0 v1 v2 v3 : Value} {q r : Rat} {w : World} (hG : G ≤ w.heap.size) (h1 : FQ G w u0 u1 u2 u3 q) (h2 : FQ G w v0 v1 v2 v3 r) (hx : Fz q 137438953472) (hy : Fz r 137438953472) (h : q ≤ r) :
  Calls Tryz.prog 45 #[.agg #[u0, u1, u2, u3], .agg #[v0, v1, v2, v3]] w fun e w' => ∃ x0 x1 x2 x3, e = .returned (.tuple #[.agg #[x0, x1, x2, x3], .int .i64 0]) ∧ FQ G w' x0 x1 x2 x3 q ∧ Below w.heap.size w w' := by
 obtain ⟨a1, c1, b1, d1, rfl, rfl, rfl, rfl, k1⟩ := h1.ex
 obtain ⟨a2, c2, b2, d2, rfl, rfl, rfl, rfl, k2⟩ := h2.ex
 exact (rfmin_1 (G := G) hG k1 k2 hx hy h).mono fun e w' ⟨a, c, b, d, he, hd, hb⟩ => ⟨_, _, _, _, he, FQ.of hd, hb⟩
theorem rqMin2 {u0 u1 u2 u3 v0 v1 v2 v3 : Value} {q r : Rat} {w : World} (hG : G ≤ w.heap.size) (h1 : FQ G w u0 u1 u2 u3 q) (h2 : FQ G w v0 v1 v2 v3 r) (hx : Fz q 137438953472) (hy : Fz r 137438953472) (h : r < q) :
  Calls Tryz.prog 45 #[.agg #[u0, u1, u2, u3], .agg #[v0, v1, v2, v3]] w fun e w' => ∃ x0 x1 x2 x3, e = .returned (.tuple #[.agg #[x0, x1, x2, x3], .int .i64 0]) ∧ FQ G w' x0 x1 x2 x3 r ∧ Below w.heap.size w w' := by
 obtain ⟨a1, c1, b1, d1, rfl, rfl, rfl, rfl, k1⟩ := h1.ex
 obtain ⟨a2, c2, b2, d2, rfl, rfl, rfl, rfl, k2⟩ := h2.ex
 exact (rfmin_2 (G := G) hG k1 k2 hx hy h).mono fun e w' ⟨a, c, b, d, he, hd, hb⟩ => ⟨_, _, _, _, he, FQ.of hd, hb⟩
theorem rqMax1 {u0 u1 u2 u3 v0 v1 v2 v3 : Value} {q r : Rat} {w : World} (hG : G ≤ w.heap.size) (h1 : FQ G w u0 u1 u2 u3 q) (h2 : FQ G w v0 v1 v2 v3 r) (hx : Fz q 137438953472) (hy : Fz r 137438953472) (h : r ≤ q) :
  Calls Tryz.prog 44 #[.agg #[u0, u1, u2, u3], .agg #[v0, v1, v2, v3]] w fun e w' => ∃ x0 x1 x2 x3, e = .returned (.tuple #[.agg #[x0, x1, x2, x3], .int .i64 0]) ∧ FQ G w' x0 x1 x2 x3 q ∧ Below w.heap.size w w' := by
 obtain ⟨a1, c1, b1, d1, rfl, rfl, rfl, rfl, k1⟩ := h1.ex
 obtain ⟨a2, c2, b2, d2, rfl, rfl, rfl, rfl, k2⟩ := h2.ex
 exact (rfmax_1 (G := G) hG k1 k2 hx hy h).mono fun e w' ⟨a, c, b, d, he, hd, hb⟩ => ⟨_, _, _, _, he, FQ.of hd, hb⟩
theorem rqMax2 {u0 u1 u2 u3 v0 v1 v2 v3 : Value} {q r : Rat} {w : World} (hG : G ≤ w.heap.size) (h1 : FQ G w u0 u1 u2 u3 q) (h2 : FQ G w v0 v1 v2 v3 r) (hx : Fz q 137438953472) (hy : Fz r 137438953472) (h : q < r) :
  Calls Tryz.prog 44 #[.agg #[u0, u1, u2, u3], .agg #[v0, v1, v2, v3]] w fun e w' => ∃ x0 x1 x2 x3, e = .returned (.tuple #[.agg #[x0, x1, x2, x3], .int .i64 0]) ∧ FQ G w' x0 x1 x2 x3 r ∧ Below w.heap.size w w' := by
 obtain ⟨a1, c1, b1, d1, rfl, rfl, rfl, rfl, k1⟩ := h1.ex
 obtain ⟨a2, c2, b2, d2, rfl, rfl, rfl, rfl, k2⟩ := h2.ex
 exact (rfmax_2 (G := G) hG k1 k2 hx hy h).mono fun e w' ⟨a, c, b, d, he, hd, hb⟩ => ⟨_, _, _, _, he, FQ.of hd, hb⟩
theorem rqMin {u0 u1 u2 u3 v0 v1 v2 v3 : Value} {q r m : Rat} {w : World} (hG : G ≤ w.heap.size) (h1 : FQ G w u0 u1 u2 u3 q) (h2 : FQ G w v0 v1 v2 v3 r) (hx : Fz q 137438953472) (hy : Fz r 137438953472) (hm : minQ q r = m) :
    Calls Tryz.prog 45 #[.agg #[u0, u1, u2, u3], .agg #[v0, v1, v2, v3]] w fun e w' => ∃ x0 x1 x2 x3, e = .returned (.tuple #[.agg #[x0, x1, x2, x3], .int .i64 0]) ∧ FQ G w' x0 x1 x2 x3 m ∧ Below w.heap.size w w' := by
  subst hm
  rcases (show q ≤ r ∨ r < q by grind) with h | h
  · rw [minQ_ge (show ¬ r < q by grind)]; exact rqMin1 hG h1 h2 hx hy h
  · rw [minQ_lt h]; exact rqMin2 hG h1 h2 hx hy h
theorem rqMax {u0 u1 u2 u3 v0 v1 v2 v3 : Value} {q r m : Rat} {w : World} (hG : G ≤ w.heap.size) (h1 : FQ G w u0 u1 u2 u3 q) (h2 : FQ G w v0 v1 v2 v3 r) (hx : Fz q 137438953472) (hy : Fz r 137438953472) (hm : maxQ q r = m) :
    Calls Tryz.prog 44 #[.agg #[u0, u1, u2, u3], .agg #[v0, v1, v2, v3]] w fun e w' => ∃ x0 x1 x2 x3, e = .returned (.tuple #[.agg #[x0, x1, x2, x3], .int .i64 0]) ∧ FQ G w' x0 x1 x2 x3 m ∧ Below w.heap.size w w' := by
  subst hm
  rcases (show q ≤ r ∨ r < q by grind) with h | h
  · rw [show maxQ q r = r by unfold maxQ; split <;> grind]; rcases (show q = r ∨ q < r by grind) with h' | h'
    · subst h'; exact rqMax1 hG h1 h2 hx hy Rat.le_refl
    · exact rqMax2 hG h1 h2 hx hy h'
  · rw [maxQ_ge (by grind)]; exact rqMax1 hG h1 h2 hx hy (Rat.le_of_lt h)
end Go.Proofs.YtjbfngjlepafgaaGreat
namespace Go.Proofs.YtjbfngjlepafgaaGreat
open Go.RowKit Go.Lib
variable {G : Nat}

theorem rightP_lt {x y gv : Int} (h : ((Nat.gcd x.natAbs y.natAbs : Nat) : Int) = gv) : rightP x y = (!decide (sg y < 1) && (ord gv 1 == 0)) := by
  subst h
  unfold rightP
  rcases Int.lt_trichotomy y 0 with h | h | h
  · rw [sg_neg h, decide_eq_false (by omega)]; rfl
  · subst h; rfl
  · rw [sg_pos h, decide_eq_true h]
    show (true && _) = (true && _)
    rw [Bool.true_and, Bool.true_and, Bool.eq_iff_iff, decide_eq_true_eq, beq_iff_eq]
    constructor
    · intro e; rw [e]; exact ord_eq _
    · intro e
      rcases Int.lt_trichotomy ((Nat.gcd x.natAbs y.natAbs : Nat) : Int) 1 with h1 | h1 | h1
      · rw [ord_lt h1] at e; omega
      · omega
      · rw [ord_gt h1] at e; omega
theorem rcompare_k {x y k : Int} {a1 a2 : Option Addr} {c1 c2 : Nat} {w : World} (h1 : BD G w a1 c1 x) (h2 : BD G w a2 c2 y) (hx : Sz x 549755813888) (hy : Sz y 549755813888) (hk : ord x y = k) :
  Calls Tryz.prog 70 #[.agg #[.int .i64 (sg x), .slice a1 (ln x) c1], .agg #[.int .i64 (sg y), .slice a2 (ln y) c2]] w fun e w' => e = .returned (.int .i64 k) ∧ Below w.heap.size w w' := by
 subst hk; exact rcompare_ok h1 h2 hx hy
theorem rof_1 {x : Int} {w : World} (hx : -9223372036854775808 ≤ x ∧ x ≤ 9223372036854775807) :
  Calls Tryz.prog 61 #[.int .i64 x] w fun e w' => ∃ a c, e = .returned (.agg #[.int .i64 (sg x), .slice a (ln x) c]) ∧ BD G w' a c x ∧ Below w.heap.size w w' := rof_ok x w hx
set_option maxRecDepth 100000 in
set_option maxHeartbeats 4000000 in
theorem rfRight_bd {x y : Int} {b_ : Bool} {a1 b1 : Option Addr} {c1 d1 : Nat} {w : World} (_hG : G ≤ w.heap.size) (h1 : BD G w a1 c1 x) (k1 : BD G w b1 d1 y) (hx : Sz x 549755813888) (hy : Sz y 549755813888) (hb : rightP x y = b_)  :
  Calls Tryz.prog 48 #[.agg #[.int .i64 (sg x), .slice a1 (ln x) c1, .int .i64 (sg y), .slice b1 (ln y) d1]] w fun e w' => e = .returned (.bool b_) ∧ Below w.heap.size w w' := by
 obtain ⟨gv, hgv⟩ : ∃ g, ((Nat.gcd x.natAbs y.natAbs : Nat) : Int) = g := ⟨_, rfl⟩
 rw [rightP_lt hgv] at hb
 have HSG := Lib.hid (gcd_size hgv hx hy)
 obtain ⟨bs, hbs⟩ : ∃ b, decide (sg y < 1) = b := ⟨_, rfl⟩
 obtain ⟨k, hk⟩ : ∃ k, ord gv 1 = k := ⟨_, rfl⟩
 obtain ⟨bo, hbo⟩ : ∃ b, (k == 0) = b := ⟨_, rfl⟩
 have HBR : Hid ((!bs && bo) = b_) := by show _ = _; rw [← hb, ← hbs, hk, hbo]
 have HG := Lib.hid hgv; have HK := Lib.hid hk
 have HX := Lib.hid hx; have HY := Lib.hid hy
 clear hb hgv hk hx hy
 have H1 : Hid (BD G w a1 c1 x) := h1
 have K1 : Hid (BD G w b1 d1 y) := k1
 clear h1 k1
 have M : Hid (Below w.heap.size w w) := Below.refl _ _
 go_enter Tryz.func48, Tryz.ntmps48
 go_upto_region 1 with fail
 refine nmW (w.alloc (.cells #[.int .i64 (sg x), .slice a1 (ln x) c1, .int .i64 (sg y), .slice b1 (ln y) d1] 26)) fun w1 hv => ?_
 rw [← hv]
 replace M := alM hv M
 clear hv
 refine cj4 (M.out.1).d4 fun aa ab ac ad => ?_
 go_wp2_with fail
 clear aa ab ac ad
 refine (rright_ok (G := G) (x := x) (H1.out.keep (J1 M)) (Sz.mono HX.out (by omega))).mono ?_
 rintro e w2 ⟨rfl, hb⟩
 replace M := gnM hb M
 clear hb
 refine cj4 (M.out.1).d4 fun aa ab ac ad => ?_
 go_wp2_with fail
 clear aa ab ac ad
 refine (rright_ok (G := G) (x := y) (K1.out.keep (J1 M)) (Sz.mono HY.out (by omega))).mono ?_
 rintro e w3 ⟨rfl, hb⟩
 replace M := gnM hb M
 clear hb
 cases bs with
 | false =>
  refine cj4 (M.out.1).d4 fun aa ab ac ad => ?_
  go_wp2_with fail
  clear aa ab ac ad
  refine (rgcd_is (G := G) (x := x) (y := y) (g := gv) (H1.out.keep (J1 M)) (K1.out.keep (J1 M)) HX.out HY.out HG.out).mono ?_
  rintro e w4 ⟨a_1, c_2, rfl, hd3, hb⟩
  replace M := adM hd3 hb M
  clear hb hd3
  go_wp2_with fail
  refine nmW (w4.alloc (.cells #[.int .i64 (sg gv), .slice a_1 (ln gv) c_2] 24)) fun w5 hv => ?_
  rw [← hv]
  have ow1_ : w.heap.size < w4.heap.size := ((J1 M).1).lt
  replace M := alM hv M
  clear hv
  refine nmW w5.drew fun w6 hv => ?_
  replace M := drM hv M
  refine wp_region_held_drew (S := (fun w' => w'.cell? ⟨w4.heap.size, 0, none⟩ = some (.int .i64 (sg gv)) ∧ w'.cell? ⟨w4.heap.size, 1, none⟩ = some (.slice a_1 (ln gv) c_2))) (by kernel_rfl) (by rw [← hv]; exact (M.out.1).d2) (fun hH7 => ?_)
  rw [← hv] at hH7 ⊢
  clear hv
  refine tk at0 ?_
  refine wpAnyH_ready (rs := [1]) (by kernel_rfl) (by simp) ?_
  refine AllReadyH.cons at1 (fun K hK => ?_) AllReadyH.nil
  go_simp
  refine (rof_1 (G := G) (x := 1) (by decide)).mono ?_
  rintro e w7 ⟨a_8, c_9, rfl, hd10, hb⟩
  replace M := adM hd10 hb M
  clear hb hd10
  (try go_wp2_with fail)
  refine hK.out _ _ ((J1 M).1.d2) (fun hH11 => ?_)
  clear hK K hH7
  (try simp only [Act.put, List.setIfInBounds_toArray, List.set_cons_zero, List.set_cons_succ])
  refine wpAnyH_ready (rs := [2]) (by kernel_rfl) (by simp) ?_
  refine AllReadyH.cons at2 (fun K hK => ?_) AllReadyH.nil
  go_simp
  refine (rcompare_k (G := G) (x := gv) (y := 1) (k := k) (J2 M).1 (M.out.1) HSG.out (Sz.mono (show Sz (1) 1 from by unfold Sz; decide) (by omega)) HK.out).mono ?_
  rintro e w8 ⟨rfl, hb⟩
  replace M := gnM hb M
  clear hb
  (try go_wp2_with fail)
  refine hK.out _ _ ((J1 M).1.d2) (fun hH12 => ?_)
  clear hK K hH11
  (try simp only [Act.put, List.setIfInBounds_toArray, List.set_cons_zero, List.set_cons_succ])
  refine tk at3 ?_
  refine tk at4 ?_
  refine wpAnyH_done (by kernel_rfl) ?_ _
  clear hH12
  go_wp2_with fail
  go_ret
  exact ⟨by rw [← HBR.out]; rfl, (J4 M)⟩
 | true =>
  refine cj4 (M.out.1).d4 fun aa ab ac ad => ?_
  go_wp2_with fail
  clear aa ab ac ad
  go_ret
  exact ⟨by rw [← HBR.out]; rfl, (J1 M)⟩
theorem rfRight_raw {s t : Int} {l m : List Int} {a b : Option Addr} {c d : Nat} {r : Bool} {w : World} (h : FR w a c b d l m) (hl : l.length ≤ 549755813888) (hm : m.length ≤ 549755813888) (hr : rightF s l t m = r) :
  Calls Tryz.prog 48 #[.agg #[.int .i64 s, .slice a l.length c, .int .i64 t, .slice b m.length d]] w fun e w' => e = .returned (.bool r) ∧ Below w.heap.size w w' := by
 subst hr
 unfold rightF
 cases h1 : rightB s l with
 | false => exact rfRight_n1 h.n1 h.d1 (by omega) (by omega) h1
 | true =>
  cases h2 : rightB t m with
  | false => exact rfRight_n2 h.n1 h.d1 (by omega) (by omega) h1 h2
  | true =>
   obtain ⟨ex, lx, bx⟩ := bd_of_right' h.n1 h.n2 h1
   obtain ⟨ey, ly, by_⟩ := bd_of_right' h.d1 h.d2 h2
   have := rfRight_bd (G := w.heap.size) (Nat.le_refl _) bx by_ (show Go.Proofs.YtjbfngjlepafgaaGreat.ln _ ≤ _ by omega) (show Go.Proofs.YtjbfngjlepafgaaGreat.ln _ ≤ _ by omega) rfl
   rw [← ex, ← lx, ← ey, ← ly] at this
   exact this
theorem fyRight_ok {u0 u1 u2 u3 : Value} {n m : Nat} {o : Option Rat} {b_ : Bool} {w : World} (h : FX w u0 u1 u2 u3 n m o) (hn : n ≤ 549755813888) (hm : m ≤ 549755813888) (hb : o.isSome = b_) :
    Calls Tryz.prog 48 #[.agg #[u0, u1, u2, u3]] w fun e w' => e = .returned (.bool b_) ∧ Below w.heap.size w w' := by
  obtain ⟨s, a, c, t, b, d, l, k, rfl, rfl, rfl, rfl, h4, h5, h6, h7⟩ := h
  subst h4 h5
  subst hb
  rcases h7 with ⟨rfl, hr⟩ | ⟨q, rfl, hr, -⟩
  · exact rfRight_raw h6 hn hm hr
  · exact rfRight_raw h6 hn hm hr
end Go.Proofs.YtjbfngjlepafgaaGreat
