/- Walks: sums, minima and maxima of right spans. -/
import Derived.Test.YtjbfngjlepafgaaBase
import Derived.Test.YtjbfngjlepafgaaBigSpec
import Derived.Test.YtjbfngjlepafgaaBigB
import Derived.Test.YtjbfngjlepafgaaBigC
import Derived.Test.YtjbfngjlepafgaaBigD
import Derived.Test.YtjbfngjlepafgaaBigK
import Derived.Test.YtjbfngjlepafgaaBigL
import Derived.Test.YtjbfngjlepafgaaBigQ
import Derived.Test.YtjbfngjlepafgaaFracA
import Derived.Test.YtjbfngjlepafgaaFracC
import Derived.Test.YtjbfngjlepafgaaFz
import Derived.Test.YtjbfngjlepafgaaHeld
import Derived.Test.YtjbfngjlepafgaaAw
import Derived.Test.YtjbfngjlepafgaaFracR
import Derived.Test.YtjbfngjlepafgaaRefJ
import Derived.Test.YtjbfngjlepafgaaFq
import Derived.Test.YtjbfngjlepafgaaSpanPlain
import Derived.Test.YtjbfngjlepafgaaProg
import Derived.WalkKit
import Derived.WalkSpells
import Derived.WalkLawsBesides
import Derived.Handy
import Derived.Lib.Hide
import Derived.Lib.Strings
import Derived.Lib.Builder
import Derived.BigQuiet
import Derived.OwnWalk
import Derived.Laws.BitsLemmas
import Derived.WalkSmall
import Derived.Deep.QuietTactic
import Derived.StillTailTactics
import Derived.Maps.AppendAt
import Derived.IntWalk
import Derived.Deep.RegionHeld3
import Derived.Deep.DeepFit
import Derived.Deep.LoopGhost
import Derived.Deep.DeepCutAuto
import Derived.Lib.ItoaNum
import Derived.Lib.Repeat
import Derived.Lib.AppendIntMem
import Derived.Sort.OwnSorted
import Derived.Shelf.Strings.SlTrimAscii
import Derived.Lib.ConvBytes
import Derived.Lib.CutLaws
namespace Go.Proofs.Ytjbfngjlepafgaa
open Go.RowKit Go.Lib
variable {G : Nat}

theorem Fz.minQ {q r : Rat} {n : Nat} (h : Fz q n) (h' : Fz r n) : Fz (minQ q r) n := by unfold Go.Proofs.Ytjbfngjlepafgaa.minQ; split <;> assumption
theorem Fz.maxQ {q r : Rat} {n : Nat} (h : Fz q n) (h' : Fz r n) : Fz (maxQ q r) n := by unfold Go.Proofs.Ytjbfngjlepafgaa.maxQ; split <;> assumption
theorem Fz.min4 {x y z u : Rat} {n : Nat} (h1 : Fz x n) (h2 : Fz y n) (h3 : Fz z n) (h4 : Fz u n) : Fz (min4 x y z u) n := by unfold Go.Proofs.Ytjbfngjlepafgaa.min4; exact Fz.minQ (Fz.minQ (Fz.minQ h1 h2) h3) h4
theorem Fz.max4 {x y z u : Rat} {n : Nat} (h1 : Fz x n) (h2 : Fz y n) (h3 : Fz z n) (h4 : Fz u n) : Fz (max4 x y z u) n := by unfold Go.Proofs.Ytjbfngjlepafgaa.max4; exact Fz.maxQ (Fz.maxQ (Fz.maxQ h1 h2) h3) h4
theorem ordQ_le0 (q r : Rat) : decide (ordQ q r ≤ 0) = decide (q ≤ r) := by
  apply decide_eq_decide.2
  constructor
  · intro h
    rcases (show q ≤ r ∨ r < q by grind) with h' | h'
    · exact h'
    · rw [ordQ_ge h'] at h; omega
  · intro h; have := ordQ_up h; omega
theorem ordQ_lt0 (q r : Rat) : decide (ordQ q r < 0) = decide (q < r) := by
  apply decide_eq_decide.2
  constructor
  · intro h
    rcases (show q < r ∨ r ≤ q by grind) with h' | h'
    · exact h'
    · exfalso; have := ordQ_swap q r; have := ordQ_up h'; omega
  · intro h; have := ordQ_swap q r; have := ordQ_ge h; omega
theorem ordQ_gt0 (q r : Rat) : decide (0 < ordQ q r) = decide (r < q) := by
  rw [← ordQ_lt0 r q]; apply decide_eq_decide.2; have := ordQ_swap q r; omega
theorem clone_bd {z : Int} {a : Option Addr} {c : Nat} {w : World} (h : BD G w a c z) (hz : Sz z 549755813888) :
    Calls Try.prog 79 #[.slice a (ln z) c] w fun e w' => ∃ b d, e = .returned (.slice b (ln z) d) ∧ BD G w' b d z ∧ Below w.heap.size w w' :=
  (clone_is (n := z.natAbs) h.rd hz).mono fun _ _ ⟨b, d, he, ho, hb⟩ => ⟨b, d, he, ⟨ho.rd, ho.le, ho.ty⟩, hb⟩
/-- A slice of fractions in memory, all right. -/
def Fs (G : Nat) (w : World) (b off : Nat) (l : List Rat) : Prop := ∀ k (h : k < l.length), ∃ u0 u1 u2 u3, Row w b (off + k * 4) [u0, u1, u2, u3] ∧ FQ G w u0 u1 u2 u3 l[k]
theorem Fs.keep {w w' : World} {b off : Nat} {l : List Rat} (h : Fs G w b off l) (hb : Below w.heap.size w w') : Fs G w' b off l := fun k hk => by
  obtain ⟨u0, u1, u2, u3, h1, h2⟩ := h k hk
  exact ⟨u0, u1, u2, u3, h1.keep hb, h2.keep hb⟩
instance {w w' : World} {b off : Nat} {l : List Rat} : Goes (Fs G w b off l) w w' (Fs G w' b off l) := ⟨fun h hb => h.keep hb⟩
theorem fs_four {w : World} {B : Nat} {T : TypeId} {u0 u1 u2 u3 v0 v1 v2 v3 x0 x1 x2 x3 y0 y1 y2 y3 : Value} {p q r s : Rat} (k : Bx w B T #[u0, u1, u2, u3, v0, v1, v2, v3, x0, x1, x2, x3, y0, y1, y2, y3])
    (h1 : FQ G w u0 u1 u2 u3 p) (h2 : FQ G w v0 v1 v2 v3 q) (h3 : FQ G w x0 x1 x2 x3 r) (h4 : FQ G w y0 y1 y2 y3 s) : Fs G w B 0 [p, q, r, s] := by
  have hr : ∀ (i : Nat) (c0 c1 c2 c3 : Value), #[u0, u1, u2, u3, v0, v1, v2, v3, x0, x1, x2, x3, y0, y1, y2, y3][i]? = some c0 → #[u0, u1, u2, u3, v0, v1, v2, v3, x0, x1, x2, x3, y0, y1, y2, y3][i + 1]? = some c1 →
      #[u0, u1, u2, u3, v0, v1, v2, v3, x0, x1, x2, x3, y0, y1, y2, y3][i + 2]? = some c2 → #[u0, u1, u2, u3, v0, v1, v2, v3, x0, x1, x2, x3, y0, y1, y2, y3][i + 3]? = some c3 → Row w B (0 + i) [c0, c1, c2, c3] := by
    intro i c0 c1 c2 c3 e0 e1 e2 e3
    refine ⟨k.lt, fun j u hj => ?_⟩
    rw [Nat.zero_add, k.at.1]
    match j, hj with
    | 0, hj => rw [← hj]; exact e0
    | 1, hj => rw [← hj]; exact e1
    | 2, hj => rw [← hj]; exact e2
    | 3, hj => rw [← hj]; exact e3
    | j + 4, hj => simp at hj
  intro i hi
  match i, hi with
  | 0, _ => exact ⟨u0, u1, u2, u3, hr 0 _ _ _ _ rfl rfl rfl rfl, h1⟩
  | 1, _ => exact ⟨v0, v1, v2, v3, hr 4 _ _ _ _ rfl rfl rfl rfl, h2⟩
  | 2, _ => exact ⟨x0, x1, x2, x3, hr 8 _ _ _ _ rfl rfl rfl rfl, h3⟩
  | 3, _ => exact ⟨y0, y1, y2, y3, hr 12 _ _ _ _ rfl rfl rfl rfl, h4⟩
  | i + 4, hi => exact absurd hi (by simp)
def minL : List Rat → Rat | [] => 0 | x :: r => r.foldl minQ x
def maxL : List Rat → Rat | [] => 0 | x :: r => r.foldl maxQ x
theorem minL_one {l : List Rat} (h : 0 < l.length) : minL (l.take 1) = l[0] := by cases l with | nil => simp at h | cons x r => rfl
theorem maxL_one {l : List Rat} (h : 0 < l.length) : maxL (l.take 1) = l[0] := by cases l with | nil => simp at h | cons x r => rfl
theorem minL_next {l : List Rat} {k : Nat} (h1 : 1 ≤ k) (h : k < l.length) : minL (l.take (k + 1)) = minQ (minL (l.take k)) l[k] := by
  rw [List.take_succ_eq_append_getElem h]
  cases l with
  | nil => simp at h
  | cons x r =>
    obtain ⟨j, rfl⟩ : ∃ j, k = j + 1 := ⟨k - 1, by omega⟩
    show List.foldl minQ x (r.take j ++ [r[j]'(by simp at h; omega)]) = _
    rw [List.foldl_append]; rfl
theorem maxL_next {l : List Rat} {k : Nat} (h1 : 1 ≤ k) (h : k < l.length) : maxL (l.take (k + 1)) = maxQ (maxL (l.take k)) l[k] := by
  rw [List.take_succ_eq_append_getElem h]
  cases l with
  | nil => simp at h
  | cons x r =>
    obtain ⟨j, rfl⟩ : ∃ j, k = j + 1 := ⟨k - 1, by omega⟩
    show List.foldl maxQ x (r.take j ++ [r[j]'(by simp at h; omega)]) = _
    rw [List.foldl_append]; rfl
theorem minQ_lt {q r : Rat} (h : r < q) : minQ q r = r := by unfold minQ; rw [if_pos h]
theorem minQ_ge {q r : Rat} (h : ¬ r < q) : minQ q r = q := by unfold minQ; rw [if_neg h]
theorem maxQ_lt {q r : Rat} (h : q < r) : maxQ q r = r := by unfold maxQ; rw [if_pos h]
theorem maxQ_ge {q r : Rat} (h : ¬ q < r) : maxQ q r = q := by unfold maxQ; rw [if_neg h]
theorem fz_zero {n : Nat} (h : 1 ≤ n) : Fz 0 n := Fz.int (x := 0) (by show Sz 0 n; exact Nat.zero_le _) h
set_option maxRecDepth 100000 in
set_option maxHeartbeats 4000000 in
theorem fresh_fd {q : Rat} {a1 b1 : Option Addr} {c1 d1 : Nat} {w : World} (_hG : G ≤ w.heap.size) (h1 : FD G w a1 c1 b1 d1 q) (hx : Fz q 137438953472) :
    Calls Try.prog 55 #[.agg #[.int .i64 (sg (nu q)), .slice a1 (ln (nu q)) c1, .int .i64 (sg (de q)), .slice b1 (ln (de q)) d1]] w fun e w' => ∃ a c b d, e = .returned (.agg #[.int .i64 (sg (nu q)), .slice a (ln (nu q)) c, .int .i64 (sg (de q)), .slice b (ln (de q)) d]) ∧ FD G w' a c b d q ∧ Below w.heap.size w w' := by
  have HX := Lib.hid hx; clear hx
  have H1 : Hid (FD G w a1 c1 b1 d1 q) := h1
  clear h1
  have M : Hid (Below w.heap.size w w) := Below.refl _ _
  go_enter Try.func55, Try.ntmps55
  go_wp2_with fail
  obtain ⟨w1, hv⟩ : ∃ w_ : World, w_ = ((w.alloc (.cells #[.int .i64 (sg (nu q)), .slice a1 (ln (nu q)) c1, .int .i64 (sg (de q)), .slice b1 (ln (de q)) d1] 26)).alloc (.cells #[.int .i64 0, .slice none 0 0, .int .i64 0, .slice none 0 0] 26)) := ⟨_, rfl⟩
  rw [← hv]
  have hbx := bx2 w 26 26 #[.int .i64 (sg (nu q)), .slice a1 (ln (nu q)) c1, .int .i64 (sg (de q)), .slice b1 (ln (de q)) d1] #[.int .i64 0, .slice none 0 0, .int .i64 0, .slice none 0 0]
  rw [← hv] at hbx
  have hbn : Below w.heap.size w w1 := by rw [hv]; exact (Below.alloc (Below.alloc (Below.refl _ _) (by simp <;> omega) _) (by simp <;> omega) _)
  replace M := Lib.hid (And.intro hbx.2 (And.intro hbx.1 (Goes.go M.out hbn)))
  clear hbx hbn
  clear hv
  obtain ⟨w2, hv⟩ : ∃ w_ : World, w_ = w1.drew := ⟨_, rfl⟩
  replace M := Lib.hid (Goes.go M.out (hv ▸ below_drew _ : Below w1.heap.size w1 w2))
  refine wp_region_held_drew (S := (fun _ => True)) (by kernel_rfl) trivial (fun hH7 => ?_)
  rw [← hv]
  clear hv
  refine tk at0 ?_
  refine tk at1 ?_
  refine tk at4 ?_
  refine tk at5 ?_
  refine wpAnyH_ready (rs := [2, 6]) (by kernel_rfl) (by simp) ?_
  refine AllReadyH.cons at2 (fun K hK => ?_) ?_
  ·
    have y0 := (M.out.2.1).d4; have p0_0 := y0.1; have p0_1 := y0.2.1; have p0_2 := y0.2.2.1; have p0_3 := y0.2.2.2; clear y0
    go_simp
    clear p0_0 p0_1 p0_2 p0_3
    refine hK.out _ _ (trivial) (fun hH8 => ?_)
    clear hK K hH7
    (try simp only [Act.put, List.setIfInBounds_toArray, List.set_cons_zero, List.set_cons_succ])
    refine wpAnyH_ready (rs := [3, 6]) (by kernel_rfl) (by simp) ?_
    refine AllReadyH.cons at3 (fun K hK => ?_) ?_
    ·
      go_simp
      refine (clone_bd (G := G) (z := (nu q)) (H1.out.keep (M.out.2.2)).n (Sz.mono HX.out.1 (by omega))).mono ?_
      rintro e w3 ⟨b_9, d_10, rfl, hd11, hb⟩
      replace M := Lib.hid (And.intro hd11 (Goes.go M.out hb))
      clear hb hd11
      (try go_wp2_with fail)
      refine hK.out _ _ (trivial) (fun hH12 => ?_)
      clear hK K hH8
      (try simp only [Act.put, List.setIfInBounds_toArray, List.set_cons_zero, List.set_cons_succ])
      refine wpAnyH_ready (rs := [6]) (by kernel_rfl) (by simp) ?_
      refine AllReadyH.cons at6 (fun K hK => ?_) AllReadyH.nil
      have y0 := (M.out.2.2.1).d4; have p0_0 := y0.1; have p0_1 := y0.2.1; have p0_2 := y0.2.2.1; have p0_3 := y0.2.2.2; clear y0
      go_simp
      clear p0_0 p0_1 p0_2 p0_3
      refine hK.out _ _ (trivial) (fun hH13 => ?_)
      clear hK K hH12
      (try simp only [Act.put, List.setIfInBounds_toArray, List.set_cons_zero, List.set_cons_succ])
      refine tk at8 ?_
      refine tk at9 ?_
      refine wpAnyH_ready (rs := [7]) (by kernel_rfl) (by simp) ?_
      refine AllReadyH.cons at7 (fun K hK => ?_) AllReadyH.nil
      go_simp
      refine (clone_bd (G := G) (z := (de q)) (H1.out.keep (M.out.2.2.2)).d (Sz.mono HX.out.2 (by omega))).mono ?_
      rintro e w4 ⟨b_14, d_15, rfl, hd16, hb⟩
      replace M := Lib.hid (And.intro hd16 (Goes.go M.out hb))
      clear hb hd16
      (try go_wp2_with fail)
      refine hK.out _ _ (trivial) (fun hH17 => ?_)
      clear hK K hH13
      (try simp only [Act.put, List.setIfInBounds_toArray, List.set_cons_zero, List.set_cons_succ])
      refine wpAnyH_ready (rs := [10]) (by kernel_rfl) (by simp) ?_
      refine AllReadyH.cons at10 (fun K hK => ?_) AllReadyH.nil
      have y0 := (M.out.2.2.2.1).c4; have p0_0 := y0.1; have q0_0 := y0.2.1; have p0_1 := y0.2.2.1; have q0_1 := y0.2.2.2.1; have p0_2 := y0.2.2.2.2.1; have q0_2 := y0.2.2.2.2.2.1; have p0_3 := y0.2.2.2.2.2.2.1; have q0_3 := y0.2.2.2.2.2.2.2; clear y0
      go_simp
      clear p0_0 q0_0 p0_1 q0_1 p0_2 q0_2 p0_3 q0_3
      obtain ⟨w5, hv⟩ : ∃ w_ : World, w_ = (w4.setCell ⟨w.heap.size, 1, none⟩ (.slice b_9 (ln (nu q)) d_10)) := ⟨_, rfl⟩
      rw [← hv]
      have og : w4.grownBy w5 (some w.heap.size) := by rw [hv]; exact (only_setCell (World.grownBy.refl _ _) _)
      have hz : w.heap.size ≤ w.heap.size := by exact Nat.le_refl _
      have hk : Bx w5 w.heap.size 26 #[.int .i64 (sg (nu q)), .slice b_9 (ln (nu q)) d_10, .int .i64 (sg (de q)), .slice b1 (ln (de q)) d1] := by rw [hv]; exact ((M.out.2.2.2.1).set 1 _)
      have hbw : Below w.heap.size w w5 := by rw [hv]; exact (Below.setCell (M.out.2.2.2.2) (by omega) _)
      replace M := Lib.hid (And.intro ((M.out.1).far (M.out.2.2.2.1) (by rfl) (by omega) og) (And.intro ((M.out.2.1).far (M.out.2.2.2.1) (by rfl) (by omega) og) (And.intro ((M.out.2.2.1).only og (by omega)) (And.intro hk hbw))))
      clear hk hbw og hv hz
      refine hK.out _ _ (trivial) (fun hH18 => ?_)
      clear hK K hH17
      (try simp only [Act.put, List.setIfInBounds_toArray, List.set_cons_zero, List.set_cons_succ])
      refine tk at11 ?_
      refine tk at12 ?_
      refine wpAnyH_ready (rs := [13]) (by kernel_rfl) (by simp) ?_
      refine AllReadyH.cons at13 (fun K hK => ?_) AllReadyH.nil
      have y0 := (M.out.2.2.2.1).c4; have p0_0 := y0.1; have q0_0 := y0.2.1; have p0_1 := y0.2.2.1; have q0_1 := y0.2.2.2.1; have p0_2 := y0.2.2.2.2.1; have q0_2 := y0.2.2.2.2.2.1; have p0_3 := y0.2.2.2.2.2.2.1; have q0_3 := y0.2.2.2.2.2.2.2; clear y0
      go_simp
      clear p0_0 q0_0 p0_1 q0_1 p0_2 q0_2 p0_3 q0_3
      obtain ⟨w6, hv⟩ : ∃ w_ : World, w_ = (w5.setCell ⟨w.heap.size, 3, none⟩ (.slice b_14 (ln (de q)) d_15)) := ⟨_, rfl⟩
      rw [← hv]
      have og : w5.grownBy w6 (some w.heap.size) := by rw [hv]; exact (only_setCell (World.grownBy.refl _ _) _)
      have hz : w.heap.size ≤ w.heap.size := by exact Nat.le_refl _
      have hk : Bx w6 w.heap.size 26 #[.int .i64 (sg (nu q)), .slice b_9 (ln (nu q)) d_10, .int .i64 (sg (de q)), .slice b_14 (ln (de q)) d_15] := by rw [hv]; exact ((M.out.2.2.2.1).set 3 _)
      have hbw : Below w.heap.size w w6 := by rw [hv]; exact (Below.setCell (M.out.2.2.2.2) (by omega) _)
      replace M := Lib.hid (And.intro ((M.out.1).far (M.out.2.2.2.1) (by rfl) (by omega) og) (And.intro ((M.out.2.1).far (M.out.2.2.2.1) (by rfl) (by omega) og) (And.intro ((M.out.2.2.1).only og (by omega)) (And.intro hk hbw))))
      clear hk hbw og hv hz
      refine hK.out _ _ (trivial) (fun hH19 => ?_)
      clear hK K hH18
      (try simp only [Act.put, List.setIfInBounds_toArray, List.set_cons_zero, List.set_cons_succ])
      refine wpAnyH_done (by kernel_rfl) ?_ _
      clear hH19
      have y0 := (M.out.2.2.2.1).d4; have p0_0 := y0.1; have p0_1 := y0.2.1; have p0_2 := y0.2.2.1; have p0_3 := y0.2.2.2; clear y0
      have y1 := (M.out.2.2.1).c4; have p1_0 := y1.1; have q1_0 := y1.2.1; have p1_1 := y1.2.2.1; have q1_1 := y1.2.2.2.1; have p1_2 := y1.2.2.2.2.1; have q1_2 := y1.2.2.2.2.2.1; have p1_3 := y1.2.2.2.2.2.2.1; have q1_3 := y1.2.2.2.2.2.2.2; clear y1
      go_wp2_with fail
      clear p0_0 p0_1 p0_2 p0_3 p1_0 q1_0 p1_1 q1_1 p1_2 q1_2 p1_3 q1_3
      obtain ⟨w7, hv⟩ : ∃ w_ : World, w_ = ((((w6.setCell ⟨w.heap.size + 1, 0, none⟩ (.int .i64 (sg (nu q)))).setCell ⟨w.heap.size + 1, 1, none⟩ (.slice b_9 (ln (nu q)) d_10)).setCell ⟨w.heap.size + 1, 2, none⟩ (.int .i64 (sg (de q)))).setCell ⟨w.heap.size + 1, 3, none⟩ (.slice b_14 (ln (de q)) d_15)) := ⟨_, rfl⟩
      rw [← hv]
      have og : w6.grownBy w7 (some (w.heap.size + 1)) := by rw [hv]; exact (only_setCell (only_setCell (only_setCell (only_setCell (World.grownBy.refl _ _) _) _) _) _)
      have hz : w.heap.size ≤ w.heap.size + 1 := by omega
      have hk : Bx w7 (w.heap.size + 1) 26 #[.int .i64 (sg (nu q)), .slice b_9 (ln (nu q)) d_10, .int .i64 (sg (de q)), .slice b_14 (ln (de q)) d_15] := by rw [hv]; exact (((((M.out.2.2.1).set 0 _).set 1 _).set 2 _).set 3 _)
      have hbw : Below w.heap.size w w7 := by rw [hv]; exact (Below.setCell (Below.setCell (Below.setCell (Below.setCell (M.out.2.2.2.2) (by omega) _) (by omega) _) (by omega) _) (by omega) _)
      replace M := Lib.hid (And.intro ((M.out.1).far (M.out.2.2.1) (by rfl) (by omega) og) (And.intro ((M.out.2.1).far (M.out.2.2.1) (by rfl) (by omega) og) (And.intro hk (And.intro ((M.out.2.2.2.1).only og (by omega)) hbw))))
      clear hk hbw og hv hz
      refine bodyPost_ret (results_box1 rfl _ _ (w.heap.size + 1) 26 _ _ _ rfl (M.out.2.2.1) Try.underlying26 rfl (by kernel_rfl)) rfl ?_
      exact ⟨b_9, d_10, b_14, d_15, rfl, FD.mk (M.out.2.1) (M.out.1), (M.out.2.2.2.2)⟩
    refine AllReadyH.cons at6 (fun K hK => ?_) AllReadyH.nil
    have y0 := (M.out.2.1).d4; have p0_0 := y0.1; have p0_1 := y0.2.1; have p0_2 := y0.2.2.1; have p0_3 := y0.2.2.2; clear y0
    go_simp
    clear p0_0 p0_1 p0_2 p0_3
    refine hK.out _ _ (trivial) (fun hH20 => ?_)
    clear hK K hH8
    (try simp only [Act.put, List.setIfInBounds_toArray, List.set_cons_zero, List.set_cons_succ])
    refine wpAnyH_ready (rs := [3]) (by kernel_rfl) (by simp) ?_
    refine AllReadyH.cons at3 (fun K hK => ?_) AllReadyH.nil
    go_simp
    refine (clone_bd (G := G) (z := (nu q)) (H1.out.keep (M.out.2.2)).n (Sz.mono HX.out.1 (by omega))).mono ?_
    rintro e w3 ⟨b_21, d_22, rfl, hd23, hb⟩
    replace M := Lib.hid (And.intro hd23 (Goes.go M.out hb))
    clear hb hd23
    (try go_wp2_with fail)
    refine hK.out _ _ (trivial) (fun hH24 => ?_)
    clear hK K hH20
    (try simp only [Act.put, List.setIfInBounds_toArray, List.set_cons_zero, List.set_cons_succ])
    refine tk at8 ?_
    refine tk at9 ?_
    refine wpAnyH_ready (rs := [7]) (by kernel_rfl) (by simp) ?_
    refine AllReadyH.cons at7 (fun K hK => ?_) AllReadyH.nil
    go_simp
    refine (clone_bd (G := G) (z := (de q)) (H1.out.keep (M.out.2.2.2)).d (Sz.mono HX.out.2 (by omega))).mono ?_
    rintro e w4 ⟨b_25, d_26, rfl, hd27, hb⟩
    replace M := Lib.hid (And.intro hd27 (Goes.go M.out hb))
    clear hb hd27
    (try go_wp2_with fail)
    refine hK.out _ _ (trivial) (fun hH28 => ?_)
    clear hK K hH24
    (try simp only [Act.put, List.setIfInBounds_toArray, List.set_cons_zero, List.set_cons_succ])
    refine wpAnyH_ready (rs := [10]) (by kernel_rfl) (by simp) ?_
    refine AllReadyH.cons at10 (fun K hK => ?_) AllReadyH.nil
    have y0 := (M.out.2.2.2.1).c4; have p0_0 := y0.1; have q0_0 := y0.2.1; have p0_1 := y0.2.2.1; have q0_1 := y0.2.2.2.1; have p0_2 := y0.2.2.2.2.1; have q0_2 := y0.2.2.2.2.2.1; have p0_3 := y0.2.2.2.2.2.2.1; have q0_3 := y0.2.2.2.2.2.2.2; clear y0
    go_simp
    clear p0_0 q0_0 p0_1 q0_1 p0_2 q0_2 p0_3 q0_3
    obtain ⟨w5, hv⟩ : ∃ w_ : World, w_ = (w4.setCell ⟨w.heap.size, 1, none⟩ (.slice b_21 (ln (nu q)) d_22)) := ⟨_, rfl⟩
    rw [← hv]
    have og : w4.grownBy w5 (some w.heap.size) := by rw [hv]; exact (only_setCell (World.grownBy.refl _ _) _)
    have hz : w.heap.size ≤ w.heap.size := by exact Nat.le_refl _
    have hk : Bx w5 w.heap.size 26 #[.int .i64 (sg (nu q)), .slice b_21 (ln (nu q)) d_22, .int .i64 (sg (de q)), .slice b1 (ln (de q)) d1] := by rw [hv]; exact ((M.out.2.2.2.1).set 1 _)
    have hbw : Below w.heap.size w w5 := by rw [hv]; exact (Below.setCell (M.out.2.2.2.2) (by omega) _)
    replace M := Lib.hid (And.intro ((M.out.1).far (M.out.2.2.2.1) (by rfl) (by omega) og) (And.intro ((M.out.2.1).far (M.out.2.2.2.1) (by rfl) (by omega) og) (And.intro ((M.out.2.2.1).only og (by omega)) (And.intro hk hbw))))
    clear hk hbw og hv hz
    refine hK.out _ _ (trivial) (fun hH29 => ?_)
    clear hK K hH28
    (try simp only [Act.put, List.setIfInBounds_toArray, List.set_cons_zero, List.set_cons_succ])
    refine tk at11 ?_
    refine tk at12 ?_
    refine wpAnyH_ready (rs := [13]) (by kernel_rfl) (by simp) ?_
    refine AllReadyH.cons at13 (fun K hK => ?_) AllReadyH.nil
    have y0 := (M.out.2.2.2.1).c4; have p0_0 := y0.1; have q0_0 := y0.2.1; have p0_1 := y0.2.2.1; have q0_1 := y0.2.2.2.1; have p0_2 := y0.2.2.2.2.1; have q0_2 := y0.2.2.2.2.2.1; have p0_3 := y0.2.2.2.2.2.2.1; have q0_3 := y0.2.2.2.2.2.2.2; clear y0
    go_simp
    clear p0_0 q0_0 p0_1 q0_1 p0_2 q0_2 p0_3 q0_3
    obtain ⟨w6, hv⟩ : ∃ w_ : World, w_ = (w5.setCell ⟨w.heap.size, 3, none⟩ (.slice b_25 (ln (de q)) d_26)) := ⟨_, rfl⟩
    rw [← hv]
    have og : w5.grownBy w6 (some w.heap.size) := by rw [hv]; exact (only_setCell (World.grownBy.refl _ _) _)
    have hz : w.heap.size ≤ w.heap.size := by exact Nat.le_refl _
    have hk : Bx w6 w.heap.size 26 #[.int .i64 (sg (nu q)), .slice b_21 (ln (nu q)) d_22, .int .i64 (sg (de q)), .slice b_25 (ln (de q)) d_26] := by rw [hv]; exact ((M.out.2.2.2.1).set 3 _)
    have hbw : Below w.heap.size w w6 := by rw [hv]; exact (Below.setCell (M.out.2.2.2.2) (by omega) _)
    replace M := Lib.hid (And.intro ((M.out.1).far (M.out.2.2.2.1) (by rfl) (by omega) og) (And.intro ((M.out.2.1).far (M.out.2.2.2.1) (by rfl) (by omega) og) (And.intro ((M.out.2.2.1).only og (by omega)) (And.intro hk hbw))))
    clear hk hbw og hv hz
    refine hK.out _ _ (trivial) (fun hH30 => ?_)
    clear hK K hH29
    (try simp only [Act.put, List.setIfInBounds_toArray, List.set_cons_zero, List.set_cons_succ])
    refine wpAnyH_done (by kernel_rfl) ?_ _
    clear hH30
    have y0 := (M.out.2.2.2.1).d4; have p0_0 := y0.1; have p0_1 := y0.2.1; have p0_2 := y0.2.2.1; have p0_3 := y0.2.2.2; clear y0
    have y1 := (M.out.2.2.1).c4; have p1_0 := y1.1; have q1_0 := y1.2.1; have p1_1 := y1.2.2.1; have q1_1 := y1.2.2.2.1; have p1_2 := y1.2.2.2.2.1; have q1_2 := y1.2.2.2.2.2.1; have p1_3 := y1.2.2.2.2.2.2.1; have q1_3 := y1.2.2.2.2.2.2.2; clear y1
    go_wp2_with fail
    clear p0_0 p0_1 p0_2 p0_3 p1_0 q1_0 p1_1 q1_1 p1_2 q1_2 p1_3 q1_3
    obtain ⟨w7, hv⟩ : ∃ w_ : World, w_ = ((((w6.setCell ⟨w.heap.size + 1, 0, none⟩ (.int .i64 (sg (nu q)))).setCell ⟨w.heap.size + 1, 1, none⟩ (.slice b_21 (ln (nu q)) d_22)).setCell ⟨w.heap.size + 1, 2, none⟩ (.int .i64 (sg (de q)))).setCell ⟨w.heap.size + 1, 3, none⟩ (.slice b_25 (ln (de q)) d_26)) := ⟨_, rfl⟩
    rw [← hv]
    have og : w6.grownBy w7 (some (w.heap.size + 1)) := by rw [hv]; exact (only_setCell (only_setCell (only_setCell (only_setCell (World.grownBy.refl _ _) _) _) _) _)
    have hz : w.heap.size ≤ w.heap.size + 1 := by omega
    have hk : Bx w7 (w.heap.size + 1) 26 #[.int .i64 (sg (nu q)), .slice b_21 (ln (nu q)) d_22, .int .i64 (sg (de q)), .slice b_25 (ln (de q)) d_26] := by rw [hv]; exact (((((M.out.2.2.1).set 0 _).set 1 _).set 2 _).set 3 _)
    have hbw : Below w.heap.size w w7 := by rw [hv]; exact (Below.setCell (Below.setCell (Below.setCell (Below.setCell (M.out.2.2.2.2) (by omega) _) (by omega) _) (by omega) _) (by omega) _)
    replace M := Lib.hid (And.intro ((M.out.1).far (M.out.2.2.1) (by rfl) (by omega) og) (And.intro ((M.out.2.1).far (M.out.2.2.1) (by rfl) (by omega) og) (And.intro hk (And.intro ((M.out.2.2.2.1).only og (by omega)) hbw))))
    clear hk hbw og hv hz
    refine bodyPost_ret (results_box1 rfl _ _ (w.heap.size + 1) 26 _ _ _ rfl (M.out.2.2.1) Try.underlying26 rfl (by kernel_rfl)) rfl ?_
    exact ⟨b_21, d_22, b_25, d_26, rfl, FD.mk (M.out.2.1) (M.out.1), (M.out.2.2.2.2)⟩
  refine AllReadyH.cons at6 (fun K hK => ?_) AllReadyH.nil
  have y0 := (M.out.2.1).d4; have p0_0 := y0.1; have p0_1 := y0.2.1; have p0_2 := y0.2.2.1; have p0_3 := y0.2.2.2; clear y0
  go_simp
  clear p0_0 p0_1 p0_2 p0_3
  refine hK.out _ _ (trivial) (fun hH31 => ?_)
  clear hK K hH7
  (try simp only [Act.put, List.setIfInBounds_toArray, List.set_cons_zero, List.set_cons_succ])
  refine wpAnyH_ready (rs := [2]) (by kernel_rfl) (by simp) ?_
  refine AllReadyH.cons at2 (fun K hK => ?_) AllReadyH.nil
  have y0 := (M.out.2.1).d4; have p0_0 := y0.1; have p0_1 := y0.2.1; have p0_2 := y0.2.2.1; have p0_3 := y0.2.2.2; clear y0
  go_simp
  clear p0_0 p0_1 p0_2 p0_3
  refine hK.out _ _ (trivial) (fun hH32 => ?_)
  clear hK K hH31
  (try simp only [Act.put, List.setIfInBounds_toArray, List.set_cons_zero, List.set_cons_succ])
  refine wpAnyH_ready (rs := [3]) (by kernel_rfl) (by simp) ?_
  refine AllReadyH.cons at3 (fun K hK => ?_) AllReadyH.nil
  go_simp
  refine (clone_bd (G := G) (z := (nu q)) (H1.out.keep (M.out.2.2)).n (Sz.mono HX.out.1 (by omega))).mono ?_
  rintro e w3 ⟨b_33, d_34, rfl, hd35, hb⟩
  replace M := Lib.hid (And.intro hd35 (Goes.go M.out hb))
  clear hb hd35
  (try go_wp2_with fail)
  refine hK.out _ _ (trivial) (fun hH36 => ?_)
  clear hK K hH32
  (try simp only [Act.put, List.setIfInBounds_toArray, List.set_cons_zero, List.set_cons_succ])
  refine tk at8 ?_
  refine tk at9 ?_
  refine wpAnyH_ready (rs := [7]) (by kernel_rfl) (by simp) ?_
  refine AllReadyH.cons at7 (fun K hK => ?_) AllReadyH.nil
  go_simp
  refine (clone_bd (G := G) (z := (de q)) (H1.out.keep (M.out.2.2.2)).d (Sz.mono HX.out.2 (by omega))).mono ?_
  rintro e w4 ⟨b_37, d_38, rfl, hd39, hb⟩
  replace M := Lib.hid (And.intro hd39 (Goes.go M.out hb))
  clear hb hd39
  (try go_wp2_with fail)
  refine hK.out _ _ (trivial) (fun hH40 => ?_)
  clear hK K hH36
  (try simp only [Act.put, List.setIfInBounds_toArray, List.set_cons_zero, List.set_cons_succ])
  refine wpAnyH_ready (rs := [10]) (by kernel_rfl) (by simp) ?_
  refine AllReadyH.cons at10 (fun K hK => ?_) AllReadyH.nil
  have y0 := (M.out.2.2.2.1).c4; have p0_0 := y0.1; have q0_0 := y0.2.1; have p0_1 := y0.2.2.1; have q0_1 := y0.2.2.2.1; have p0_2 := y0.2.2.2.2.1; have q0_2 := y0.2.2.2.2.2.1; have p0_3 := y0.2.2.2.2.2.2.1; have q0_3 := y0.2.2.2.2.2.2.2; clear y0
  go_simp
  clear p0_0 q0_0 p0_1 q0_1 p0_2 q0_2 p0_3 q0_3
  obtain ⟨w5, hv⟩ : ∃ w_ : World, w_ = (w4.setCell ⟨w.heap.size, 1, none⟩ (.slice b_33 (ln (nu q)) d_34)) := ⟨_, rfl⟩
  rw [← hv]
  have og : w4.grownBy w5 (some w.heap.size) := by rw [hv]; exact (only_setCell (World.grownBy.refl _ _) _)
  have hz : w.heap.size ≤ w.heap.size := by exact Nat.le_refl _
  have hk : Bx w5 w.heap.size 26 #[.int .i64 (sg (nu q)), .slice b_33 (ln (nu q)) d_34, .int .i64 (sg (de q)), .slice b1 (ln (de q)) d1] := by rw [hv]; exact ((M.out.2.2.2.1).set 1 _)
  have hbw : Below w.heap.size w w5 := by rw [hv]; exact (Below.setCell (M.out.2.2.2.2) (by omega) _)
  replace M := Lib.hid (And.intro ((M.out.1).far (M.out.2.2.2.1) (by rfl) (by omega) og) (And.intro ((M.out.2.1).far (M.out.2.2.2.1) (by rfl) (by omega) og) (And.intro ((M.out.2.2.1).only og (by omega)) (And.intro hk hbw))))
  clear hk hbw og hv hz
  refine hK.out _ _ (trivial) (fun hH41 => ?_)
  clear hK K hH40
  (try simp only [Act.put, List.setIfInBounds_toArray, List.set_cons_zero, List.set_cons_succ])
  refine tk at11 ?_
  refine tk at12 ?_
  refine wpAnyH_ready (rs := [13]) (by kernel_rfl) (by simp) ?_
  refine AllReadyH.cons at13 (fun K hK => ?_) AllReadyH.nil
  have y0 := (M.out.2.2.2.1).c4; have p0_0 := y0.1; have q0_0 := y0.2.1; have p0_1 := y0.2.2.1; have q0_1 := y0.2.2.2.1; have p0_2 := y0.2.2.2.2.1; have q0_2 := y0.2.2.2.2.2.1; have p0_3 := y0.2.2.2.2.2.2.1; have q0_3 := y0.2.2.2.2.2.2.2; clear y0
  go_simp
  clear p0_0 q0_0 p0_1 q0_1 p0_2 q0_2 p0_3 q0_3
  obtain ⟨w6, hv⟩ : ∃ w_ : World, w_ = (w5.setCell ⟨w.heap.size, 3, none⟩ (.slice b_37 (ln (de q)) d_38)) := ⟨_, rfl⟩
  rw [← hv]
  have og : w5.grownBy w6 (some w.heap.size) := by rw [hv]; exact (only_setCell (World.grownBy.refl _ _) _)
  have hz : w.heap.size ≤ w.heap.size := by exact Nat.le_refl _
  have hk : Bx w6 w.heap.size 26 #[.int .i64 (sg (nu q)), .slice b_33 (ln (nu q)) d_34, .int .i64 (sg (de q)), .slice b_37 (ln (de q)) d_38] := by rw [hv]; exact ((M.out.2.2.2.1).set 3 _)
  have hbw : Below w.heap.size w w6 := by rw [hv]; exact (Below.setCell (M.out.2.2.2.2) (by omega) _)
  replace M := Lib.hid (And.intro ((M.out.1).far (M.out.2.2.2.1) (by rfl) (by omega) og) (And.intro ((M.out.2.1).far (M.out.2.2.2.1) (by rfl) (by omega) og) (And.intro ((M.out.2.2.1).only og (by omega)) (And.intro hk hbw))))
  clear hk hbw og hv hz
  refine hK.out _ _ (trivial) (fun hH42 => ?_)
  clear hK K hH41
  (try simp only [Act.put, List.setIfInBounds_toArray, List.set_cons_zero, List.set_cons_succ])
  refine wpAnyH_done (by kernel_rfl) ?_ _
  clear hH42
  have y0 := (M.out.2.2.2.1).d4; have p0_0 := y0.1; have p0_1 := y0.2.1; have p0_2 := y0.2.2.1; have p0_3 := y0.2.2.2; clear y0
  have y1 := (M.out.2.2.1).c4; have p1_0 := y1.1; have q1_0 := y1.2.1; have p1_1 := y1.2.2.1; have q1_1 := y1.2.2.2.1; have p1_2 := y1.2.2.2.2.1; have q1_2 := y1.2.2.2.2.2.1; have p1_3 := y1.2.2.2.2.2.2.1; have q1_3 := y1.2.2.2.2.2.2.2; clear y1
  go_wp2_with fail
  clear p0_0 p0_1 p0_2 p0_3 p1_0 q1_0 p1_1 q1_1 p1_2 q1_2 p1_3 q1_3
  obtain ⟨w7, hv⟩ : ∃ w_ : World, w_ = ((((w6.setCell ⟨w.heap.size + 1, 0, none⟩ (.int .i64 (sg (nu q)))).setCell ⟨w.heap.size + 1, 1, none⟩ (.slice b_33 (ln (nu q)) d_34)).setCell ⟨w.heap.size + 1, 2, none⟩ (.int .i64 (sg (de q)))).setCell ⟨w.heap.size + 1, 3, none⟩ (.slice b_37 (ln (de q)) d_38)) := ⟨_, rfl⟩
  rw [← hv]
  have og : w6.grownBy w7 (some (w.heap.size + 1)) := by rw [hv]; exact (only_setCell (only_setCell (only_setCell (only_setCell (World.grownBy.refl _ _) _) _) _) _)
  have hz : w.heap.size ≤ w.heap.size + 1 := by omega
  have hk : Bx w7 (w.heap.size + 1) 26 #[.int .i64 (sg (nu q)), .slice b_33 (ln (nu q)) d_34, .int .i64 (sg (de q)), .slice b_37 (ln (de q)) d_38] := by rw [hv]; exact (((((M.out.2.2.1).set 0 _).set 1 _).set 2 _).set 3 _)
  have hbw : Below w.heap.size w w7 := by rw [hv]; exact (Below.setCell (Below.setCell (Below.setCell (Below.setCell (M.out.2.2.2.2) (by omega) _) (by omega) _) (by omega) _) (by omega) _)
  replace M := Lib.hid (And.intro ((M.out.1).far (M.out.2.2.1) (by rfl) (by omega) og) (And.intro ((M.out.2.1).far (M.out.2.2.1) (by rfl) (by omega) og) (And.intro hk (And.intro ((M.out.2.2.2.1).only og (by omega)) hbw))))
  clear hk hbw og hv hz
  refine bodyPost_ret (results_box1 rfl _ _ (w.heap.size + 1) 26 _ _ _ rfl (M.out.2.2.1) Try.underlying26 rfl (by kernel_rfl)) rfl ?_
  exact ⟨b_33, d_34, b_37, d_38, rfl, FD.mk (M.out.2.1) (M.out.1), (M.out.2.2.2.2)⟩
theorem fresh_ok {u0 u1 u2 u3 : Value} {q : Rat} {w : World} (hG : G ≤ w.heap.size) (h1 : FQ G w u0 u1 u2 u3 q) (hx : Fz q 137438953472) :
    Calls Try.prog 55 #[.agg #[u0, u1, u2, u3]] w fun e w' => ∃ x0 x1 x2 x3, e = .returned (.agg #[x0, x1, x2, x3]) ∧ FQ G w' x0 x1 x2 x3 q ∧ Below w.heap.size w w' := by
  obtain ⟨a1, c1, b1, d1, rfl, rfl, rfl, rfl, k1⟩ := h1.ex
  exact (fresh_fd hG k1 hx).mono fun e w' ⟨a, c, b, d, he, hd, hb⟩ => ⟨_, _, _, _, he, FQ.of hd, hb⟩
set_option maxRecDepth 100000 in
set_option maxHeartbeats 4000000 in
theorem spRight_q {u0 u1 u2 u3 u4 u5 u6 u7 : Value} {p q : Rat} {b_ : Bool} {w : World} (h1 : FQ G w u0 u1 u2 u3 p) (h2 : FQ G w u4 u5 u6 u7 q) (hx : Fz p 137438953472) (hy : Fz q 137438953472) (hb : decide (p ≤ q) = b_) :
    Calls Try.prog 16 #[.agg #[u0, u1, u2, u3, u4, u5, u6, u7]] w fun e w' => e = .returned (.bool b_) ∧ Below w.heap.size w w' := by
  have HX := Lib.hid hx; have HY := Lib.hid hy; clear hx hy
  obtain ⟨k1, hk1⟩ : ∃ k, ordQ p q = k := ⟨_, rfl⟩
  obtain ⟨b1, hb1⟩ : ∃ b, decide (p ≤ q) = b := ⟨_, rfl⟩
  have hd1 : decide (k1 ≤ 0) = b1 := by rw [← hb1, ← hk1]; exact ordQ_le0 p q
  have Hk1 := Lib.hid hk1; have HB1 := Lib.hid hb1; clear hk1 hb1
  rw [HB1.out] at hb; subst hb
  have H1 : Hid (FQ G w u0 u1 u2 u3 p) := h1
  have H2 : Hid (FQ G w u4 u5 u6 u7 q) := h2
  clear h1 h2
  have M : Hid (Below w.heap.size w w) := Below.refl _ _
  go_enter Try.func16, Try.ntmps16
  go_upto_region 1 with fail
  obtain ⟨w1, hv⟩ : ∃ w_ : World, w_ = (w.alloc (.cells #[u0, u1, u2, u3, u4, u5, u6, u7] 28)) := ⟨_, rfl⟩
  rw [← hv]
  replace M := Lib.hid (And.intro (hv ▸ bx1 w 28 #[u0, u1, u2, u3, u4, u5, u6, u7]) (Goes.go M.out (hv ▸ below_alloc _ _ : Below w.heap.size w w1)))
  clear hv
  have y0 := (M.out.1).d8; have p0_0 := y0.1; have p0_1 := y0.2.1; have p0_2 := y0.2.2.1; have p0_3 := y0.2.2.2.1; have p0_4 := y0.2.2.2.2.1; have p0_5 := y0.2.2.2.2.2.1; have p0_6 := y0.2.2.2.2.2.2.1; have p0_7 := y0.2.2.2.2.2.2.2; clear y0
  go_wp2_with fail
  clear p0_0 p0_1 p0_2 p0_3 p0_4 p0_5 p0_6 p0_7
  refine (fqRight (G := G) (q := p) (H1.out.keep (M.out.2)) (Fz.mono HX.out (by omega))).mono ?_
  rintro e w2 ⟨rfl, hb⟩
  replace M := Lib.hid (Goes.go M.out hb)
  clear hb
  have y0 := (M.out.1).d8; have p0_0 := y0.1; have p0_1 := y0.2.1; have p0_2 := y0.2.2.1; have p0_3 := y0.2.2.2.1; have p0_4 := y0.2.2.2.2.1; have p0_5 := y0.2.2.2.2.2.1; have p0_6 := y0.2.2.2.2.2.2.1; have p0_7 := y0.2.2.2.2.2.2.2; clear y0
  go_wp2_with fail
  clear p0_0 p0_1 p0_2 p0_3 p0_4 p0_5 p0_6 p0_7
  refine (fqRight (G := G) (q := q) (H2.out.keep (M.out.2)) (Fz.mono HY.out (by omega))).mono ?_
  rintro e w3 ⟨rfl, hb⟩
  replace M := Lib.hid (Goes.go M.out hb)
  clear hb
  have y0 := (M.out.1).d8; have p0_0 := y0.1; have p0_1 := y0.2.1; have p0_2 := y0.2.2.1; have p0_3 := y0.2.2.2.1; have p0_4 := y0.2.2.2.2.1; have p0_5 := y0.2.2.2.2.2.1; have p0_6 := y0.2.2.2.2.2.2.1; have p0_7 := y0.2.2.2.2.2.2.2; clear y0
  go_wp2_with fail
  clear p0_0 p0_1 p0_2 p0_3 p0_4 p0_5 p0_6 p0_7
  refine (fqCompare (G := G) (q := p) (r := q) (k := k1) (H1.out.keep (M.out.2)) (H2.out.keep (M.out.2)) HX.out HY.out Hk1.out).mono ?_
  rintro e w4 ⟨rfl, hb⟩
  replace M := Lib.hid (Goes.go M.out hb)
  clear hb
  go_wp2_with fail
  go_ret
  exact ⟨rfl, (M.out.2)⟩
set_option maxRecDepth 100000 in
set_option maxHeartbeats 4000000 in
theorem minf_ok1 {l : List Rat} {b off c : Nat} {w : World} (_hG : G ≤ w.heap.size) (h1 : Fs G w b off l) (hl : 0 < l.length) (_hn : l.length ≤ 1099511627776) (hs : ∀ q ∈ l, Fz q 137438953472) :
    Calls Try.prog 57 #[.slice (some ⟨b, off, none⟩) l.length c, .func (Fn.func 37) #[] #[]] w fun e w' => ∃ x0 x1 x2 x3, e = .returned (.agg #[x0, x1, x2, x3]) ∧ FQ G w' x0 x1 x2 x3 (minL l) ∧ Below w.heap.size w w' := by
  have HL := Lib.hid h1; have HS := Lib.hid hs; clear h1 hs
  have hI0 : ¬ (l.length : Int) < 1 := by omega
  obtain ⟨z0, z1, z2, z3, HR0_, HQ0_⟩ := HL.out 0 hl
  have HR0 : Hid (Row w b off [z0, z1, z2, z3]) := by rw [Nat.zero_mul, Nat.add_zero] at HR0_; exact HR0_
  have HQ0 : Hid (FQ G w z0 z1 z2 z3 l[0]) := HQ0_
  have HS0 := Lib.hid (HS.out _ (List.getElem_mem hl))
  clear HR0_ HQ0_
  have HR0 : Hid (Row w b off [z0, z1, z2, z3]) := HR0.out
  have HQ0 : Hid (FQ G w z0 z1 z2 z3 l[0]) := HQ0.out
  have M : Hid (Below w.heap.size w w) := Below.refl _ _
  go_enter Try.func57, Try.ntmps57
  go_upto_region 1 with fail
  obtain ⟨w1, hv⟩ : ∃ w_ : World, w_ = (w.alloc (.cells #[.int .i64 0, .slice none 0 0, .int .i64 0, .slice none 0 0] 26)) := ⟨_, rfl⟩
  rw [← hv]
  replace M := Lib.hid (And.intro (hv ▸ bx1 w 26 #[.int .i64 0, .slice none 0 0, .int .i64 0, .slice none 0 0]) (Goes.go M.out (hv ▸ below_alloc _ _ : Below w.heap.size w w1)))
  clear hv
  have ys_z0 := TQ.st (HQ0.out.keep (M.out.2)); have st_z0 := ys_z0.1; have st_z1 := ys_z0.2.1; have st_z2 := ys_z0.2.2.1; have st_z3 := ys_z0.2.2.2; clear ys_z0
  have yr0 := (HR0.out.keep (M.out.2)).c4; have r0_0 := yr0.1; have r0_1 := yr0.2.1; have r0_2 := yr0.2.2.1; have r0_3 := yr0.2.2.2; clear yr0
  go_upto_region 4 with fail
  clear st_z0 st_z1 st_z2 st_z3 r0_0 r0_1 r0_2 r0_3
  obtain ⟨w2, hv⟩ : ∃ w_ : World, w_ = (w1.alloc (.cells #[z0, z1, z2, z3] 26)) := ⟨_, rfl⟩
  rw [← hv]
  have ow1_ : w.heap.size < w1.heap.size := ((M.out.1)).lt
  replace M := Lib.hid (And.intro (hv ▸ bx1 w1 26 #[z0, z1, z2, z3]) (Goes.go M.out (hv ▸ below_alloc _ _ : Below w1.heap.size w1 w2)))
  clear hv
  go_wp2_with fail
  go_loopw [6] (fun i6 wr => ∃ (k : Nat) (m : Rat) (g0 : Value) (g1 : Value) (g2 : Value) (g3 : Value), i6 = .int .i64 (k : Int) ∧ Hid (k ≤ l.length) ∧ Hid (1 ≤ k) ∧ Hid (minL (l.take k) = m) ∧ Hid (Fz m 137438953472) ∧ Hid (Bx wr w1.heap.size 26 #[g0, g1, g2, g3] ∧ FQ G wr g0 g1 g2 g3 m ∧ Bx wr w.heap.size 26 #[.int .i64 0, .slice none 0 0, .int .i64 0, .slice none 0 0] ∧ Below w.heap.size w wr)) (fun i6 _ => l.length - (RowKit.intOf i6).toNat)
  case atStart =>
    exact ⟨1, l[0], z0, z1, z2, z3, rfl, (by show _ ≤ _; omega), (by show _ ≤ _; omega), (minL_one hl), HS0.out, Lib.hid (And.intro (M.out.1) (And.intro (HQ0.out.keep (M.out.2.2)) (And.intro (M.out.2.1) (M.out.2.2))))⟩
  case round =>
    obtain ⟨w3, rfl⟩ : ∃ x, x = wr := ⟨_, rfl⟩
    clear M
    obtain ⟨k, m, g0, g1, g2, g3, rfl, hk, hk0, HM, HSm, M⟩ := hrel
    replace hk := hk.out; replace hk0 := hk0.out
    by_cases hlt : k < l.length
    ·
      have hI : (k : Int) < (l.length : Int) := by omega
      obtain ⟨x0, x1, x2, x3, HR_, HQ_⟩ := HL.out k hlt
      have HR : Hid (Row w b (off + k * 4) [x0, x1, x2, x3]) := HR_
      have HQ : Hid (FQ G w x0 x1 x2 x3 l[k]) := HQ_
      clear HR_ HQ_
      obtain ⟨qk, hqk⟩ : ∃ q, q = l[k] := ⟨_, rfl⟩
      rw [← hqk] at HQ
      have HSk : Hid (Fz qk 137438953472) := by show Fz _ _; rw [hqk]; exact HS.out _ (List.getElem_mem hlt)
      obtain ⟨k1, hk1⟩ : ∃ k, ordQ qk m = k := ⟨_, rfl⟩
      have HK1 := Lib.hid hk1
      obtain ⟨b1, hb1⟩ : ∃ b, decide (qk < m) = b := ⟨_, rfl⟩
      have hd1 : decide (k1 < 0) = b1 := by rw [← hb1, ← hk1]; exact ordQ_lt0 qk m
      have HN : Hid (minL (l.take (k + 1)) = minQ m qk) := by show _ = _; rw [minL_next hk0 hlt, HM.out, hqk]
      have HB1 := Lib.hid hb1
      clear hb1 hqk hk1
      go_wp2_with fail
      obtain ⟨w4, hv⟩ : ∃ w_ : World, w_ = w3.drew := ⟨_, rfl⟩
      replace M := Lib.hid (Goes.go M.out (hv ▸ below_drew _ : Below w3.heap.size w3 w4))
      refine wp_region_held_drew (S := (fun w' => w'.cell? ⟨w1.heap.size, 0, none⟩ = some (g0) ∧ w'.cell? ⟨w1.heap.size, 1, none⟩ = some (g1) ∧ w'.cell? ⟨w1.heap.size, 2, none⟩ = some (g2) ∧ w'.cell? ⟨w1.heap.size, 3, none⟩ = some (g3) ∧ w'.cell? ⟨b, off + k * 4, none⟩ = some (x0) ∧ w'.cell? ⟨b, off + k * 4 + 1, none⟩ = some (x1) ∧ w'.cell? ⟨b, off + k * 4 + 2, none⟩ = some (x2) ∧ w'.cell? ⟨b, off + k * 4 + 3, none⟩ = some (x3))) (by kernel_rfl) (by rw [← hv]; exact ⟨(M.out.1).at.1 0, (M.out.1).at.1 1, (M.out.1).at.1 2, (M.out.1).at.1 3, (HR.out.keep (M.out.2.2.2)).2 0 _ rfl, (HR.out.keep (M.out.2.2.2)).2 1 _ rfl, (HR.out.keep (M.out.2.2.2)).2 2 _ rfl, (HR.out.keep (M.out.2.2.2)).2 3 _ rfl⟩) (fun hH1 => ?_)
      rw [← hv] at hH1 ⊢
      clear hv
      refine tk at0 ?_
      refine tk at1 ?_
      refine tk at2 ?_
      refine tk at3 ?_
      refine tk at4 ?_
      refine tk at5 ?_
      refine wpAnyH_ready (rs := [6]) (by kernel_rfl) (by simp) ?_
      refine AllReadyH.cons at6 (fun K hK => ?_) AllReadyH.nil
      go_simp
      refine (fqCompare (G := G) (q := qk) (r := m) (k := k1) (HQ.out.keep (M.out.2.2.2)) (M.out.2.1) HSk.out HSm.out HK1.out).mono ?_
      rintro e w5 ⟨rfl, hb⟩
      replace M := Lib.hid (Goes.go M.out hb)
      clear hb
      (try go_wp2_with fail)
      refine hK.out _ _ (⟨(M.out.1).at.1 0, (M.out.1).at.1 1, (M.out.1).at.1 2, (M.out.1).at.1 3, (HR.out.keep (M.out.2.2.2)).2 0 _ rfl, (HR.out.keep (M.out.2.2.2)).2 1 _ rfl, (HR.out.keep (M.out.2.2.2)).2 2 _ rfl, (HR.out.keep (M.out.2.2.2)).2 3 _ rfl⟩) (fun hH2 => ?_)
      clear hK K hH1
      (try simp only [Act.put, List.setIfInBounds_toArray, List.set_cons_zero, List.set_cons_succ])
      refine tk at7 ?_
      refine wpAnyH_done (by kernel_rfl) ?_ _
      clear hH2
      cases b1 with
      | false =>
        go_wp2_with fail
        go_roundw
        case rel => exact ⟨(k + 1), m, g0, g1, g2, g3, by go_num, (by show _ ≤ _; omega), (by show _ ≤ _; omega), (HN.out.trans (minQ_ge (of_decide_eq_false HB1.out))), HSm.out, Lib.hid (And.intro (M.out.1) (And.intro (M.out.2.1) (And.intro (M.out.2.2.1) (M.out.2.2.2))))⟩
        case measure => simp [RowKit.intOf] <;> omega
      | true =>
        have y1 := (M.out.1).c4; have p1_0 := y1.1; have q1_0 := y1.2.1; have p1_1 := y1.2.2.1; have q1_1 := y1.2.2.2.1; have p1_2 := y1.2.2.2.2.1; have q1_2 := y1.2.2.2.2.2.1; have p1_3 := y1.2.2.2.2.2.2.1; have q1_3 := y1.2.2.2.2.2.2.2; clear y1
        have ys_x0 := TQ.st (HQ.out.keep (M.out.2.2.2)); have st_x0 := ys_x0.1; have st_x1 := ys_x0.2.1; have st_x2 := ys_x0.2.2.1; have st_x3 := ys_x0.2.2.2; clear ys_x0
        have yr1 := (HR.out.keep (M.out.2.2.2)).c4; have r1_0 := yr1.1; have r1_1 := yr1.2.1; have r1_2 := yr1.2.2.1; have r1_3 := yr1.2.2.2; clear yr1
        go_upto_region 6 with fail
        clear p1_0 q1_0 p1_1 q1_1 p1_2 q1_2 p1_3 q1_3 st_x0 st_x1 st_x2 st_x3 r1_0 r1_1 r1_2 r1_3
        obtain ⟨w6, hv⟩ : ∃ w_ : World, w_ = ((((w5.setCell ⟨w1.heap.size, 0, none⟩ (x0)).setCell ⟨w1.heap.size, 1, none⟩ (x1)).setCell ⟨w1.heap.size, 2, none⟩ (x2)).setCell ⟨w1.heap.size, 3, none⟩ (x3)) := ⟨_, rfl⟩
        rw [← hv]
        have og : w5.grownBy w6 (some w1.heap.size) := by rw [hv]; exact (only_setCell (only_setCell (only_setCell (only_setCell (World.grownBy.refl _ _) _) _) _) _)
        have hz : w.heap.size ≤ w1.heap.size := by omega
        have hk : Bx w6 w1.heap.size 26 #[x0, x1, x2, x3] := by rw [hv]; exact (((((M.out.1).set 0 _).set 1 _).set 2 _).set 3 _)
        have hbw : Below w.heap.size w w6 := by rw [hv]; exact (Below.setCell (Below.setCell (Below.setCell (Below.setCell (M.out.2.2.2) (by omega) _) (by omega) _) (by omega) _) (by omega) _)
        replace M := Lib.hid (And.intro hk (And.intro ((M.out.2.1).far (M.out.1) (by rfl) (by omega) og) (And.intro ((M.out.2.2.1).only og (by omega)) hbw)))
        clear hk hbw og hv hz
        go_wp2_with fail
        go_roundw
        case rel => exact ⟨(k + 1), qk, x0, x1, x2, x3, by go_num, (by show _ ≤ _; omega), (by show _ ≤ _; omega), (HN.out.trans (minQ_lt (of_decide_eq_true HB1.out))), HSk.out, Lib.hid (And.intro (M.out.1) (And.intro (HQ.out.keep (M.out.2.2.2)) (And.intro (M.out.2.2.1) (M.out.2.2.2))))⟩
        case measure => simp [RowKit.intOf] <;> omega
    ·
      have hI : ¬ (k : Int) < (l.length : Int) := by omega
      have HE : Hid (minL l = m) := by show _ = _; rw [← HM.out, List.take_of_length_le (by omega)]
      have y1 := (M.out.1).d4; have p1_0 := y1.1; have p1_1 := y1.2.1; have p1_2 := y1.2.2.1; have p1_3 := y1.2.2.2; clear y1
      have y0 := (M.out.2.2.1).c4; have p0_0 := y0.1; have q0_0 := y0.2.1; have p0_1 := y0.2.2.1; have q0_1 := y0.2.2.2.1; have p0_2 := y0.2.2.2.2.1; have q0_2 := y0.2.2.2.2.2.1; have p0_3 := y0.2.2.2.2.2.2.1; have q0_3 := y0.2.2.2.2.2.2.2; clear y0
      have ys_g0 := TQ.st (M.out.2.1); have st_g0 := ys_g0.1; have st_g1 := ys_g0.2.1; have st_g2 := ys_g0.2.2.1; have st_g3 := ys_g0.2.2.2; clear ys_g0
      go_wp2_with fail
      clear p1_0 p1_1 p1_2 p1_3 p0_0 q0_0 p0_1 q0_1 p0_2 q0_2 p0_3 q0_3 st_g0 st_g1 st_g2 st_g3
      obtain ⟨w4, hv⟩ : ∃ w_ : World, w_ = ((((w3.setCell ⟨w.heap.size, 0, none⟩ (g0)).setCell ⟨w.heap.size, 1, none⟩ (g1)).setCell ⟨w.heap.size, 2, none⟩ (g2)).setCell ⟨w.heap.size, 3, none⟩ (g3)) := ⟨_, rfl⟩
      rw [← hv]
      have og : w3.grownBy w4 (some w.heap.size) := by rw [hv]; exact (only_setCell (only_setCell (only_setCell (only_setCell (World.grownBy.refl _ _) _) _) _) _)
      have hz : w.heap.size ≤ w.heap.size := by exact Nat.le_refl _
      have hk : Bx w4 w.heap.size 26 #[g0, g1, g2, g3] := by rw [hv]; exact (((((M.out.2.2.1).set 0 _).set 1 _).set 2 _).set 3 _)
      have hbw : Below w.heap.size w w4 := by rw [hv]; exact (Below.setCell (Below.setCell (Below.setCell (Below.setCell (M.out.2.2.2) (by omega) _) (by omega) _) (by omega) _) (by omega) _)
      replace M := Lib.hid (And.intro ((M.out.1).only og (by omega)) (And.intro ((M.out.2.1).far (M.out.2.2.1) (by rfl) (by omega) og) (And.intro hk hbw)))
      clear hk hbw og hv hz
      refine bodyPost_ret (results_box1 rfl _ _ w.heap.size 26 _ _ _ rfl (M.out.2.2.1) Try.underlying26 rfl (by kernel_rfl)) rfl ?_
      exact ⟨g0, g1, g2, g3, rfl, (by have h_ := (M.out.2.1); rw [← HE.out] at h_; exact h_), (M.out.2.2.2)⟩
set_option maxRecDepth 100000 in
set_option maxHeartbeats 4000000 in
theorem maxf_ok1 {l : List Rat} {b off c : Nat} {w : World} (_hG : G ≤ w.heap.size) (h1 : Fs G w b off l) (hl : 0 < l.length) (_hn : l.length ≤ 1099511627776) (hs : ∀ q ∈ l, Fz q 137438953472) :
    Calls Try.prog 58 #[.slice (some ⟨b, off, none⟩) l.length c, .func (Fn.func 37) #[] #[]] w fun e w' => ∃ x0 x1 x2 x3, e = .returned (.agg #[x0, x1, x2, x3]) ∧ FQ G w' x0 x1 x2 x3 (maxL l) ∧ Below w.heap.size w w' := by
  have HL := Lib.hid h1; have HS := Lib.hid hs; clear h1 hs
  have hI0 : ¬ (l.length : Int) < 1 := by omega
  obtain ⟨z0, z1, z2, z3, HR0_, HQ0_⟩ := HL.out 0 hl
  have HR0 : Hid (Row w b off [z0, z1, z2, z3]) := by rw [Nat.zero_mul, Nat.add_zero] at HR0_; exact HR0_
  have HQ0 : Hid (FQ G w z0 z1 z2 z3 l[0]) := HQ0_
  have HS0 := Lib.hid (HS.out _ (List.getElem_mem hl))
  clear HR0_ HQ0_
  have HR0 : Hid (Row w b off [z0, z1, z2, z3]) := HR0.out
  have HQ0 : Hid (FQ G w z0 z1 z2 z3 l[0]) := HQ0.out
  have M : Hid (Below w.heap.size w w) := Below.refl _ _
  go_enter Try.func58, Try.ntmps58
  go_upto_region 1 with fail
  obtain ⟨w1, hv⟩ : ∃ w_ : World, w_ = (w.alloc (.cells #[.int .i64 0, .slice none 0 0, .int .i64 0, .slice none 0 0] 26)) := ⟨_, rfl⟩
  rw [← hv]
  replace M := Lib.hid (And.intro (hv ▸ bx1 w 26 #[.int .i64 0, .slice none 0 0, .int .i64 0, .slice none 0 0]) (Goes.go M.out (hv ▸ below_alloc _ _ : Below w.heap.size w w1)))
  clear hv
  have ys_z0 := TQ.st (HQ0.out.keep (M.out.2)); have st_z0 := ys_z0.1; have st_z1 := ys_z0.2.1; have st_z2 := ys_z0.2.2.1; have st_z3 := ys_z0.2.2.2; clear ys_z0
  have yr0 := (HR0.out.keep (M.out.2)).c4; have r0_0 := yr0.1; have r0_1 := yr0.2.1; have r0_2 := yr0.2.2.1; have r0_3 := yr0.2.2.2; clear yr0
  go_upto_region 4 with fail
  clear st_z0 st_z1 st_z2 st_z3 r0_0 r0_1 r0_2 r0_3
  obtain ⟨w2, hv⟩ : ∃ w_ : World, w_ = (w1.alloc (.cells #[z0, z1, z2, z3] 26)) := ⟨_, rfl⟩
  rw [← hv]
  have ow1_ : w.heap.size < w1.heap.size := ((M.out.1)).lt
  replace M := Lib.hid (And.intro (hv ▸ bx1 w1 26 #[z0, z1, z2, z3]) (Goes.go M.out (hv ▸ below_alloc _ _ : Below w1.heap.size w1 w2)))
  clear hv
  go_wp2_with fail
  go_loopw [6] (fun i6 wr => ∃ (k : Nat) (m : Rat) (g0 : Value) (g1 : Value) (g2 : Value) (g3 : Value), i6 = .int .i64 (k : Int) ∧ Hid (k ≤ l.length) ∧ Hid (1 ≤ k) ∧ Hid (maxL (l.take k) = m) ∧ Hid (Fz m 137438953472) ∧ Hid (Bx wr w1.heap.size 26 #[g0, g1, g2, g3] ∧ FQ G wr g0 g1 g2 g3 m ∧ Bx wr w.heap.size 26 #[.int .i64 0, .slice none 0 0, .int .i64 0, .slice none 0 0] ∧ Below w.heap.size w wr)) (fun i6 _ => l.length - (RowKit.intOf i6).toNat)
  case atStart =>
    exact ⟨1, l[0], z0, z1, z2, z3, rfl, (by show _ ≤ _; omega), (by show _ ≤ _; omega), (maxL_one hl), HS0.out, Lib.hid (And.intro (M.out.1) (And.intro (HQ0.out.keep (M.out.2.2)) (And.intro (M.out.2.1) (M.out.2.2))))⟩
  case round =>
    obtain ⟨w3, rfl⟩ : ∃ x, x = wr := ⟨_, rfl⟩
    clear M
    obtain ⟨k, m, g0, g1, g2, g3, rfl, hk, hk0, HM, HSm, M⟩ := hrel
    replace hk := hk.out; replace hk0 := hk0.out
    by_cases hlt : k < l.length
    ·
      have hI : (k : Int) < (l.length : Int) := by omega
      obtain ⟨x0, x1, x2, x3, HR_, HQ_⟩ := HL.out k hlt
      have HR : Hid (Row w b (off + k * 4) [x0, x1, x2, x3]) := HR_
      have HQ : Hid (FQ G w x0 x1 x2 x3 l[k]) := HQ_
      clear HR_ HQ_
      obtain ⟨qk, hqk⟩ : ∃ q, q = l[k] := ⟨_, rfl⟩
      rw [← hqk] at HQ
      have HSk : Hid (Fz qk 137438953472) := by show Fz _ _; rw [hqk]; exact HS.out _ (List.getElem_mem hlt)
      obtain ⟨k1, hk1⟩ : ∃ k, ordQ qk m = k := ⟨_, rfl⟩
      have HK1 := Lib.hid hk1
      obtain ⟨b1, hb1⟩ : ∃ b, decide (m < qk) = b := ⟨_, rfl⟩
      have hd1 : decide (0 < k1) = b1 := by rw [← hb1, ← hk1]; exact ordQ_gt0 qk m
      have HN : Hid (maxL (l.take (k + 1)) = maxQ m qk) := by show _ = _; rw [maxL_next hk0 hlt, HM.out, hqk]
      have HB1 := Lib.hid hb1
      clear hb1 hqk hk1
      go_wp2_with fail
      obtain ⟨w4, hv⟩ : ∃ w_ : World, w_ = w3.drew := ⟨_, rfl⟩
      replace M := Lib.hid (Goes.go M.out (hv ▸ below_drew _ : Below w3.heap.size w3 w4))
      refine wp_region_held_drew (S := (fun w' => w'.cell? ⟨w1.heap.size, 0, none⟩ = some (g0) ∧ w'.cell? ⟨w1.heap.size, 1, none⟩ = some (g1) ∧ w'.cell? ⟨w1.heap.size, 2, none⟩ = some (g2) ∧ w'.cell? ⟨w1.heap.size, 3, none⟩ = some (g3) ∧ w'.cell? ⟨b, off + k * 4, none⟩ = some (x0) ∧ w'.cell? ⟨b, off + k * 4 + 1, none⟩ = some (x1) ∧ w'.cell? ⟨b, off + k * 4 + 2, none⟩ = some (x2) ∧ w'.cell? ⟨b, off + k * 4 + 3, none⟩ = some (x3))) (by kernel_rfl) (by rw [← hv]; exact ⟨(M.out.1).at.1 0, (M.out.1).at.1 1, (M.out.1).at.1 2, (M.out.1).at.1 3, (HR.out.keep (M.out.2.2.2)).2 0 _ rfl, (HR.out.keep (M.out.2.2.2)).2 1 _ rfl, (HR.out.keep (M.out.2.2.2)).2 2 _ rfl, (HR.out.keep (M.out.2.2.2)).2 3 _ rfl⟩) (fun hH1 => ?_)
      rw [← hv] at hH1 ⊢
      clear hv
      refine tk at0 ?_
      refine tk at1 ?_
      refine tk at2 ?_
      refine tk at3 ?_
      refine tk at4 ?_
      refine tk at5 ?_
      refine wpAnyH_ready (rs := [6]) (by kernel_rfl) (by simp) ?_
      refine AllReadyH.cons at6 (fun K hK => ?_) AllReadyH.nil
      go_simp
      refine (fqCompare (G := G) (q := qk) (r := m) (k := k1) (HQ.out.keep (M.out.2.2.2)) (M.out.2.1) HSk.out HSm.out HK1.out).mono ?_
      rintro e w5 ⟨rfl, hb⟩
      replace M := Lib.hid (Goes.go M.out hb)
      clear hb
      (try go_wp2_with fail)
      refine hK.out _ _ (⟨(M.out.1).at.1 0, (M.out.1).at.1 1, (M.out.1).at.1 2, (M.out.1).at.1 3, (HR.out.keep (M.out.2.2.2)).2 0 _ rfl, (HR.out.keep (M.out.2.2.2)).2 1 _ rfl, (HR.out.keep (M.out.2.2.2)).2 2 _ rfl, (HR.out.keep (M.out.2.2.2)).2 3 _ rfl⟩) (fun hH2 => ?_)
      clear hK K hH1
      (try simp only [Act.put, List.setIfInBounds_toArray, List.set_cons_zero, List.set_cons_succ])
      refine tk at7 ?_
      refine wpAnyH_done (by kernel_rfl) ?_ _
      clear hH2
      cases b1 with
      | false =>
        go_wp2_with fail
        go_roundw
        case rel => exact ⟨(k + 1), m, g0, g1, g2, g3, by go_num, (by show _ ≤ _; omega), (by show _ ≤ _; omega), (HN.out.trans (maxQ_ge (of_decide_eq_false HB1.out))), HSm.out, Lib.hid (And.intro (M.out.1) (And.intro (M.out.2.1) (And.intro (M.out.2.2.1) (M.out.2.2.2))))⟩
        case measure => simp [RowKit.intOf] <;> omega
      | true =>
        have y1 := (M.out.1).c4; have p1_0 := y1.1; have q1_0 := y1.2.1; have p1_1 := y1.2.2.1; have q1_1 := y1.2.2.2.1; have p1_2 := y1.2.2.2.2.1; have q1_2 := y1.2.2.2.2.2.1; have p1_3 := y1.2.2.2.2.2.2.1; have q1_3 := y1.2.2.2.2.2.2.2; clear y1
        have ys_x0 := TQ.st (HQ.out.keep (M.out.2.2.2)); have st_x0 := ys_x0.1; have st_x1 := ys_x0.2.1; have st_x2 := ys_x0.2.2.1; have st_x3 := ys_x0.2.2.2; clear ys_x0
        have yr1 := (HR.out.keep (M.out.2.2.2)).c4; have r1_0 := yr1.1; have r1_1 := yr1.2.1; have r1_2 := yr1.2.2.1; have r1_3 := yr1.2.2.2; clear yr1
        go_upto_region 6 with fail
        clear p1_0 q1_0 p1_1 q1_1 p1_2 q1_2 p1_3 q1_3 st_x0 st_x1 st_x2 st_x3 r1_0 r1_1 r1_2 r1_3
        obtain ⟨w6, hv⟩ : ∃ w_ : World, w_ = ((((w5.setCell ⟨w1.heap.size, 0, none⟩ (x0)).setCell ⟨w1.heap.size, 1, none⟩ (x1)).setCell ⟨w1.heap.size, 2, none⟩ (x2)).setCell ⟨w1.heap.size, 3, none⟩ (x3)) := ⟨_, rfl⟩
        rw [← hv]
        have og : w5.grownBy w6 (some w1.heap.size) := by rw [hv]; exact (only_setCell (only_setCell (only_setCell (only_setCell (World.grownBy.refl _ _) _) _) _) _)
        have hz : w.heap.size ≤ w1.heap.size := by omega
        have hk : Bx w6 w1.heap.size 26 #[x0, x1, x2, x3] := by rw [hv]; exact (((((M.out.1).set 0 _).set 1 _).set 2 _).set 3 _)
        have hbw : Below w.heap.size w w6 := by rw [hv]; exact (Below.setCell (Below.setCell (Below.setCell (Below.setCell (M.out.2.2.2) (by omega) _) (by omega) _) (by omega) _) (by omega) _)
        replace M := Lib.hid (And.intro hk (And.intro ((M.out.2.1).far (M.out.1) (by rfl) (by omega) og) (And.intro ((M.out.2.2.1).only og (by omega)) hbw)))
        clear hk hbw og hv hz
        go_wp2_with fail
        go_roundw
        case rel => exact ⟨(k + 1), qk, x0, x1, x2, x3, by go_num, (by show _ ≤ _; omega), (by show _ ≤ _; omega), (HN.out.trans (maxQ_lt (of_decide_eq_true HB1.out))), HSk.out, Lib.hid (And.intro (M.out.1) (And.intro (HQ.out.keep (M.out.2.2.2)) (And.intro (M.out.2.2.1) (M.out.2.2.2))))⟩
        case measure => simp [RowKit.intOf] <;> omega
    ·
      have hI : ¬ (k : Int) < (l.length : Int) := by omega
      have HE : Hid (maxL l = m) := by show _ = _; rw [← HM.out, List.take_of_length_le (by omega)]
      have y1 := (M.out.1).d4; have p1_0 := y1.1; have p1_1 := y1.2.1; have p1_2 := y1.2.2.1; have p1_3 := y1.2.2.2; clear y1
      have y0 := (M.out.2.2.1).c4; have p0_0 := y0.1; have q0_0 := y0.2.1; have p0_1 := y0.2.2.1; have q0_1 := y0.2.2.2.1; have p0_2 := y0.2.2.2.2.1; have q0_2 := y0.2.2.2.2.2.1; have p0_3 := y0.2.2.2.2.2.2.1; have q0_3 := y0.2.2.2.2.2.2.2; clear y0
      have ys_g0 := TQ.st (M.out.2.1); have st_g0 := ys_g0.1; have st_g1 := ys_g0.2.1; have st_g2 := ys_g0.2.2.1; have st_g3 := ys_g0.2.2.2; clear ys_g0
      go_wp2_with fail
      clear p1_0 p1_1 p1_2 p1_3 p0_0 q0_0 p0_1 q0_1 p0_2 q0_2 p0_3 q0_3 st_g0 st_g1 st_g2 st_g3
      obtain ⟨w4, hv⟩ : ∃ w_ : World, w_ = ((((w3.setCell ⟨w.heap.size, 0, none⟩ (g0)).setCell ⟨w.heap.size, 1, none⟩ (g1)).setCell ⟨w.heap.size, 2, none⟩ (g2)).setCell ⟨w.heap.size, 3, none⟩ (g3)) := ⟨_, rfl⟩
      rw [← hv]
      have og : w3.grownBy w4 (some w.heap.size) := by rw [hv]; exact (only_setCell (only_setCell (only_setCell (only_setCell (World.grownBy.refl _ _) _) _) _) _)
      have hz : w.heap.size ≤ w.heap.size := by exact Nat.le_refl _
      have hk : Bx w4 w.heap.size 26 #[g0, g1, g2, g3] := by rw [hv]; exact (((((M.out.2.2.1).set 0 _).set 1 _).set 2 _).set 3 _)
      have hbw : Below w.heap.size w w4 := by rw [hv]; exact (Below.setCell (Below.setCell (Below.setCell (Below.setCell (M.out.2.2.2) (by omega) _) (by omega) _) (by omega) _) (by omega) _)
      replace M := Lib.hid (And.intro ((M.out.1).only og (by omega)) (And.intro ((M.out.2.1).far (M.out.2.2.1) (by rfl) (by omega) og) (And.intro hk hbw)))
      clear hk hbw og hv hz
      refine bodyPost_ret (results_box1 rfl _ _ w.heap.size 26 _ _ _ rfl (M.out.2.2.1) Try.underlying26 rfl (by kernel_rfl)) rfl ?_
      exact ⟨g0, g1, g2, g3, rfl, (by have h_ := (M.out.2.1); rw [← HE.out] at h_; exact h_), (M.out.2.2.2)⟩
def Fa (G : Nat) (w : World) (a : Option Addr) (l : List Rat) : Prop := ∃ b off, a = some ⟨b, off, none⟩ ∧ Fs G w b off l
theorem Fa.keep {w w' : World} {a : Option Addr} {l : List Rat} (h : Fa G w a l) (hb : Below w.heap.size w w') : Fa G w' a l := by
  obtain ⟨b, off, h1, h2⟩ := h; exact ⟨b, off, h1, h2.keep hb⟩
instance {w w' : World} {a : Option Addr} {l : List Rat} : Goes (Fa G w a l) w w' (Fa G w' a l) := ⟨fun h hb => h.keep hb⟩
theorem minf_four {p q r s m : Rat} {a : Option Addr} {c : Nat} {f : Value} {w : World} (hG : G ≤ w.heap.size) (h : Fa G w a [p, q, r, s]) (h1 : Fz p 137438953472) (h2 : Fz q 137438953472) (h3 : Fz r 137438953472) (h4 : Fz s 137438953472) (hf : f = .func (Fn.func 37) #[] #[]) (hm : min4 p q r s = m) :
    Calls Try.prog 57 #[.slice a 4 c, f] w fun e w' => ∃ x0 x1 x2 x3, e = .returned (.agg #[x0, x1, x2, x3]) ∧ FQ G w' x0 x1 x2 x3 m ∧ Below w.heap.size w w' := by
  obtain ⟨b, off, rfl, hs⟩ := h
  subst hf hm
  exact minf_ok1 (l := [p, q, r, s]) hG hs (by simp) (by simp) (fun x hx => by simp at hx; rcases hx with rfl | rfl | rfl | rfl <;> assumption)
theorem maxf_four {p q r s m : Rat} {a : Option Addr} {c : Nat} {f : Value} {w : World} (hG : G ≤ w.heap.size) (h : Fa G w a [p, q, r, s]) (h1 : Fz p 137438953472) (h2 : Fz q 137438953472) (h3 : Fz r 137438953472) (h4 : Fz s 137438953472) (hf : f = .func (Fn.func 37) #[] #[]) (hm : max4 p q r s = m) :
    Calls Try.prog 58 #[.slice a 4 c, f] w fun e w' => ∃ x0 x1 x2 x3, e = .returned (.agg #[x0, x1, x2, x3]) ∧ FQ G w' x0 x1 x2 x3 m ∧ Below w.heap.size w w' := by
  obtain ⟨b, off, rfl, hs⟩ := h
  subst hf hm
  exact maxf_ok1 (l := [p, q, r, s]) hG hs (by simp) (by simp) (fun x hx => by simp at hx; rcases hx with rfl | rfl | rfl | rfl <;> assumption)
set_option maxRecDepth 100000 in
set_option maxHeartbeats 4000000 in
theorem around_four {p q r s lo hi : Rat} {a : Option Addr} {c : Nat} {w : World} (hG : G ≤ w.heap.size) (h : Fa G w a [p, q, r, s]) (h1 : Fz p 137438953472) (h2 : Fz q 137438953472) (h3 : Fz r 137438953472) (h4 : Fz s 137438953472) (hl : min4 p q r s = lo) (hh : max4 p q r s = hi) :
    Calls Try.prog 38 #[.slice a 4 c] w fun e w' => ∃ x0 x1 x2 x3 x4 x5 x6 x7, e = .returned (.agg #[x0, x1, x2, x3, x4, x5, x6, x7]) ∧ FQ G w' x0 x1 x2 x3 lo ∧ FQ G w' x4 x5 x6 x7 hi ∧ Below w.heap.size w w' := by
  have HA := Lib.hid h; have HLO := Lib.hid hl; have HHI := Lib.hid hh
  have HLS : Hid (Fz lo 137438953472) := by show Fz _ _; rw [← hl]; exact Fz.min4 h1 h2 h3 h4
  have HHS : Hid (Fz hi 137438953472) := by show Fz _ _; rw [← hh]; exact Fz.max4 h1 h2 h3 h4
  have H1 := Lib.hid h1; have H2 := Lib.hid h2; have H3 := Lib.hid h3; have H4 := Lib.hid h4; clear h h1 h2 h3 h4 hl hh
  have M : Hid (Below w.heap.size w w) := Below.refl _ _
  go_enter Try.func38, Try.ntmps38
  go_upto_region 1 with fail
  obtain ⟨w1, hv⟩ : ∃ w_ : World, w_ = (w.alloc (.cells #[.int .i64 0, .slice none 0 0, .int .i64 0, .slice none 0 0, .int .i64 0, .slice none 0 0, .int .i64 0, .slice none 0 0] 28)) := ⟨_, rfl⟩
  rw [← hv]
  replace M := Lib.hid (And.intro (hv ▸ bx1 w 28 #[.int .i64 0, .slice none 0 0, .int .i64 0, .slice none 0 0, .int .i64 0, .slice none 0 0, .int .i64 0, .slice none 0 0]) (Goes.go M.out (hv ▸ below_alloc _ _ : Below w.heap.size w w1)))
  clear hv
  go_wp2_with fail
  refine (minf_four (G := G) (p := p) (q := q) (r := r) (s := s) (m := lo) (Nat.le_trans hG (M.out.2).size) (HA.out.keep (M.out.2)) H1.out H2.out H3.out H4.out rfl HLO.out).mono ?_
  rintro e w2 ⟨x_1, x_2, x_3, x_4, rfl, hd5, hb⟩
  replace M := Lib.hid (And.intro hd5 (Goes.go M.out hb))
  clear hb hd5
  go_wp2_with fail
  refine (fresh_ok (G := G) (q := lo) (Nat.le_trans hG (M.out.2.2).size) (M.out.1) HLS.out).mono ?_
  rintro e w3 ⟨x_6, x_7, x_8, x_9, rfl, hd10, hb⟩
  replace M := Lib.hid (And.intro hd10 (Goes.go M.out hb))
  clear hb hd10
  go_wp2_with fail
  refine (maxf_four (G := G) (p := p) (q := q) (r := r) (s := s) (m := hi) (Nat.le_trans hG (M.out.2.2.2).size) (HA.out.keep (M.out.2.2.2)) H1.out H2.out H3.out H4.out rfl HHI.out).mono ?_
  rintro e w4 ⟨x_11, x_12, x_13, x_14, rfl, hd15, hb⟩
  replace M := Lib.hid (And.intro hd15 (Goes.go M.out hb))
  clear hb hd15
  go_wp2_with fail
  refine (fresh_ok (G := G) (q := hi) (Nat.le_trans hG (M.out.2.2.2.2).size) (M.out.1) HHS.out).mono ?_
  rintro e w5 ⟨x_16, x_17, x_18, x_19, rfl, hd20, hb⟩
  replace M := Lib.hid (And.intro hd20 (Goes.go M.out hb))
  clear hb hd20
  have y0 := (M.out.2.2.2.2.1).c8; have p0_0 := y0.1; have q0_0 := y0.2.1; have p0_1 := y0.2.2.1; have q0_1 := y0.2.2.2.1; have p0_2 := y0.2.2.2.2.1; have q0_2 := y0.2.2.2.2.2.1; have p0_3 := y0.2.2.2.2.2.2.1; have q0_3 := y0.2.2.2.2.2.2.2.1; have p0_4 := y0.2.2.2.2.2.2.2.2.1; have q0_4 := y0.2.2.2.2.2.2.2.2.2.1; have p0_5 := y0.2.2.2.2.2.2.2.2.2.2.1; have q0_5 := y0.2.2.2.2.2.2.2.2.2.2.2.1; have p0_6 := y0.2.2.2.2.2.2.2.2.2.2.2.2.1; have q0_6 := y0.2.2.2.2.2.2.2.2.2.2.2.2.2.1; have p0_7 := y0.2.2.2.2.2.2.2.2.2.2.2.2.2.2.1; have q0_7 := y0.2.2.2.2.2.2.2.2.2.2.2.2.2.2.2; clear y0
  have ys_x_6 := TQ.st (M.out.2.2.1); have st_x_6 := ys_x_6.1; have st_x_7 := ys_x_6.2.1; have st_x_8 := ys_x_6.2.2.1; have st_x_9 := ys_x_6.2.2.2; clear ys_x_6
  have ys_x_16 := TQ.st (M.out.1); have st_x_16 := ys_x_16.1; have st_x_17 := ys_x_16.2.1; have st_x_18 := ys_x_16.2.2.1; have st_x_19 := ys_x_16.2.2.2; clear ys_x_16
  go_wp2_with fail
  clear p0_0 q0_0 p0_1 q0_1 p0_2 q0_2 p0_3 q0_3 p0_4 q0_4 p0_5 q0_5 p0_6 q0_6 p0_7 q0_7 st_x_6 st_x_7 st_x_8 st_x_9 st_x_16 st_x_17 st_x_18 st_x_19
  obtain ⟨w6, hv⟩ : ∃ w_ : World, w_ = ((((((((w5.setCell ⟨w.heap.size, 0, none⟩ (x_6)).setCell ⟨w.heap.size, 1, none⟩ (x_7)).setCell ⟨w.heap.size, 2, none⟩ (x_8)).setCell ⟨w.heap.size, 3, none⟩ (x_9)).setCell ⟨w.heap.size, 4, none⟩ (x_16)).setCell ⟨w.heap.size, 5, none⟩ (x_17)).setCell ⟨w.heap.size, 6, none⟩ (x_18)).setCell ⟨w.heap.size, 7, none⟩ (x_19)) := ⟨_, rfl⟩
  rw [← hv]
  have og : w5.grownBy w6 (some w.heap.size) := by rw [hv]; exact (only_setCell (only_setCell (only_setCell (only_setCell (only_setCell (only_setCell (only_setCell (only_setCell (World.grownBy.refl _ _) _) _) _) _) _) _) _) _)
  have hz : w.heap.size ≤ w.heap.size := by exact Nat.le_refl _
  have hk : Bx w6 w.heap.size 28 #[x_6, x_7, x_8, x_9, x_16, x_17, x_18, x_19] := by rw [hv]; exact (((((((((M.out.2.2.2.2.1).set 0 _).set 1 _).set 2 _).set 3 _).set 4 _).set 5 _).set 6 _).set 7 _)
  have hbw : Below w.heap.size w w6 := by rw [hv]; exact (Below.setCell (Below.setCell (Below.setCell (Below.setCell (Below.setCell (Below.setCell (Below.setCell (Below.setCell (M.out.2.2.2.2.2) (by omega) _) (by omega) _) (by omega) _) (by omega) _) (by omega) _) (by omega) _) (by omega) _) (by omega) _)
  replace M := Lib.hid (And.intro ((M.out.1).far (M.out.2.2.2.2.1) (by rfl) (by omega) og) (And.intro ((M.out.2.1).far (M.out.2.2.2.2.1) (by rfl) (by omega) og) (And.intro ((M.out.2.2.1).far (M.out.2.2.2.2.1) (by rfl) (by omega) og) (And.intro ((M.out.2.2.2.1).far (M.out.2.2.2.2.1) (by rfl) (by omega) og) (And.intro hk hbw)))))
  clear hk hbw og hv hz
  refine bodyPost_ret (results_box1 rfl _ _ w.heap.size 28 _ _ _ rfl (M.out.2.2.2.2.1) Try.underlying28 rfl (by kernel_rfl)) rfl ?_
  exact ⟨x_6, x_7, x_8, x_9, x_16, x_17, x_18, x_19, rfl, (M.out.2.2.1), (M.out.1), (M.out.2.2.2.2.2)⟩
set_option maxRecDepth 100000 in
set_option maxHeartbeats 4000000 in
theorem product_ok {u0 u1 u2 u3 v0 v1 v2 v3 : Value} {q r : Rat} {w : World} (hG : G ≤ w.heap.size) (h1 : FQ G w u0 u1 u2 u3 q) (h2 : FQ G w v0 v1 v2 v3 r) (hx : Fz q 137438953472) (hy : Fz r 137438953472)  :
    Calls Try.prog 42 #[.agg #[u0, u1, u2, u3], .agg #[v0, v1, v2, v3]] w fun e w' => ∃ x0 x1 x2 x3, e = .returned (.agg #[x0, x1, x2, x3]) ∧ FQ G w' x0 x1 x2 x3 (q * r) ∧ Below w.heap.size w w' := by
  have HX := Lib.hid hx; have HY := Lib.hid hy; clear hx hy
  have H1 : Hid (FQ G w u0 u1 u2 u3 q) := h1
  have H2 : Hid (FQ G w v0 v1 v2 v3 r) := h2
  clear h1 h2
  have M : Hid (Below w.heap.size w w) := Below.refl _ _
  go_enter Try.func42, Try.ntmps42
  go_upto_region 1 with fail
  obtain ⟨w1, hv⟩ : ∃ w_ : World, w_ = (((w.alloc (.cells #[u0, u1, u2, u3] 26)).alloc (.cells #[v0, v1, v2, v3] 26)).alloc (.cells #[.int .i64 0, .slice none 0 0, .int .i64 0, .slice none 0 0] 26)) := ⟨_, rfl⟩
  rw [← hv]
  have hbx := bx3 w 26 26 26 #[u0, u1, u2, u3] #[v0, v1, v2, v3] #[.int .i64 0, .slice none 0 0, .int .i64 0, .slice none 0 0]
  rw [← hv] at hbx
  have hbn : Below w.heap.size w w1 := by rw [hv]; exact (Below.alloc (Below.alloc (Below.alloc (Below.refl _ _) (by simp <;> omega) _) (by simp <;> omega) _) (by simp <;> omega) _)
  replace M := Lib.hid (And.intro hbx.2.2 (And.intro hbx.2.1 (And.intro hbx.1 (Goes.go M.out hbn))))
  clear hbx hbn
  clear hv
  have y0 := (M.out.2.2.1).d4; have p0_0 := y0.1; have p0_1 := y0.2.1; have p0_2 := y0.2.2.1; have p0_3 := y0.2.2.2; clear y0
  have y1 := (M.out.2.1).d4; have p1_0 := y1.1; have p1_1 := y1.2.1; have p1_2 := y1.2.2.1; have p1_3 := y1.2.2.2; clear y1
  go_wp2_with fail
  clear p0_0 p0_1 p0_2 p0_3 p1_0 p1_1 p1_2 p1_3
  obtain ⟨q5, eq5⟩ : ∃ v_ : Rat, v_ = (q * r) := ⟨_, rfl⟩
  refine (fqMul (G := G) (q := q) (r := r) (Nat.le_trans hG (M.out.2.2.2).size) (H1.out.keep (M.out.2.2.2)) (H2.out.keep (M.out.2.2.2)) HX.out HY.out).mono ?_
  rintro e w2 ⟨x_1, x_2, x_3, x_4, rfl, hd6, hb⟩
  rw [← eq5] at hd6
  have Sq5 : Hid (Fz q5 274877906944) := by show Fz q5 274877906944; rw [eq5]; exact (Fz.mul HX.out HY.out)
  have Eq5 := Lib.hid eq5; clear eq5
  replace M := Lib.hid (And.intro hd6 (Goes.go M.out hb))
  clear hb hd6
  have ys_x_1 := TQ.st (M.out.1); have st_x_1 := ys_x_1.1; have st_x_2 := ys_x_1.2.1; have st_x_3 := ys_x_1.2.2.1; have st_x_4 := ys_x_1.2.2.2; clear ys_x_1
  go_upto_region 2 with fail
  clear st_x_1 st_x_2 st_x_3 st_x_4
  obtain ⟨w3, hv⟩ : ∃ w_ : World, w_ = (w2.alloc (.cells #[x_1, x_2, x_3, x_4] 26)) := ⟨_, rfl⟩
  rw [← hv]
  have ow3_ : w.heap.size + 1 + 1 < w2.heap.size := ((M.out.2.1)).lt
  replace M := Lib.hid (And.intro (hv ▸ bx1 w2 26 #[x_1, x_2, x_3, x_4]) (Goes.go M.out (hv ▸ below_alloc _ _ : Below w2.heap.size w2 w3)))
  clear hv
  have y3 := (M.out.1).d4; have p3_0 := y3.1; have p3_1 := y3.2.1; have p3_2 := y3.2.2.1; have p3_3 := y3.2.2.2; clear y3
  have y2 := (M.out.2.2.1).c4; have p2_0 := y2.1; have q2_0 := y2.2.1; have p2_1 := y2.2.2.1; have q2_1 := y2.2.2.2.1; have p2_2 := y2.2.2.2.2.1; have q2_2 := y2.2.2.2.2.2.1; have p2_3 := y2.2.2.2.2.2.2.1; have q2_3 := y2.2.2.2.2.2.2.2; clear y2
  have ys_x_1 := TQ.st (M.out.2.1); have st_x_1 := ys_x_1.1; have st_x_2 := ys_x_1.2.1; have st_x_3 := ys_x_1.2.2.1; have st_x_4 := ys_x_1.2.2.2; clear ys_x_1
  go_wp2_with fail
  clear p3_0 p3_1 p3_2 p3_3 p2_0 q2_0 p2_1 q2_1 p2_2 q2_2 p2_3 q2_3 st_x_1 st_x_2 st_x_3 st_x_4
  obtain ⟨w4, hv⟩ : ∃ w_ : World, w_ = ((((w3.setCell ⟨w.heap.size + 1 + 1, 0, none⟩ (x_1)).setCell ⟨w.heap.size + 1 + 1, 1, none⟩ (x_2)).setCell ⟨w.heap.size + 1 + 1, 2, none⟩ (x_3)).setCell ⟨w.heap.size + 1 + 1, 3, none⟩ (x_4)) := ⟨_, rfl⟩
  rw [← hv]
  have og : w3.grownBy w4 (some (w.heap.size + 1 + 1)) := by rw [hv]; exact (only_setCell (only_setCell (only_setCell (only_setCell (World.grownBy.refl _ _) _) _) _) _)
  have hz : w.heap.size ≤ w.heap.size + 1 + 1 := by omega
  have hk : Bx w4 (w.heap.size + 1 + 1) 26 #[x_1, x_2, x_3, x_4] := by rw [hv]; exact (((((M.out.2.2.1).set 0 _).set 1 _).set 2 _).set 3 _)
  have hbw : Below w.heap.size w w4 := by rw [hv]; exact (Below.setCell (Below.setCell (Below.setCell (Below.setCell (M.out.2.2.2.2.2) (by omega) _) (by omega) _) (by omega) _) (by omega) _)
  replace M := Lib.hid (And.intro ((M.out.1).only og (by omega)) (And.intro ((M.out.2.1).far (M.out.2.2.1) (by rfl) (by omega) og) (And.intro hk (And.intro ((M.out.2.2.2.1).only og (by omega)) (And.intro ((M.out.2.2.2.2.1).only og (by omega)) hbw)))))
  clear hk hbw og hv hz
  refine bodyPost_ret (results_box1 rfl _ _ (w.heap.size + 1 + 1) 26 _ _ _ rfl (M.out.2.2.1) Try.underlying26 rfl (by kernel_rfl)) rfl ?_
  exact ⟨x_1, x_2, x_3, x_4, rfl, (by have h_ := (M.out.2.1); rw [Eq5.out] at h_; exact h_), (M.out.2.2.2.2.2)⟩
set_option maxRecDepth 100000 in
set_option maxHeartbeats 4000000 in
theorem ends_le {u0 u1 u2 u3 v0 v1 v2 v3 : Value} {q r : Rat} {w : World} (hG : G ≤ w.heap.size) (h1 : FQ G w u0 u1 u2 u3 q) (h2 : FQ G w v0 v1 v2 v3 r) (hx : Fz q 137438953472) (hy : Fz r 137438953472) (hc : q ≤ r) :
    Calls Try.prog 39 #[.agg #[u0, u1, u2, u3], .agg #[v0, v1, v2, v3]] w fun e w' => ∃ x0 x1 x2 x3 x4 x5 x6 x7, e = .returned (.tuple #[.agg #[x0, x1, x2, x3], .agg #[x4, x5, x6, x7]]) ∧ FQ G w' x0 x1 x2 x3 q ∧ FQ G w' x4 x5 x6 x7 r ∧ Below w.heap.size w w' := by
  have HX := Lib.hid hx; have HY := Lib.hid hy; clear hx hy
  obtain ⟨k1, hk1⟩ : ∃ k, ordQ q r = k := ⟨_, rfl⟩
  have hd1 : decide (k1 ≤ 0) = true := by rw [← hk1, ordQ_le0]; exact decide_eq_true hc
  have HK1 := Lib.hid hk1; clear hk1 hc
  have H1 : Hid (FQ G w u0 u1 u2 u3 q) := h1
  have H2 : Hid (FQ G w v0 v1 v2 v3 r) := h2
  clear h1 h2
  have M : Hid (Below w.heap.size w w) := Below.refl _ _
  go_enter Try.func39, Try.ntmps39
  go_upto_region 1 with fail
  obtain ⟨w1, hv⟩ : ∃ w_ : World, w_ = ((((w.alloc (.cells #[u0, u1, u2, u3] 26)).alloc (.cells #[v0, v1, v2, v3] 26)).alloc (.cells #[.int .i64 0, .slice none 0 0, .int .i64 0, .slice none 0 0] 26)).alloc (.cells #[.int .i64 0, .slice none 0 0, .int .i64 0, .slice none 0 0] 26)) := ⟨_, rfl⟩
  rw [← hv]
  have hbx := bx4 w 26 26 26 26 #[u0, u1, u2, u3] #[v0, v1, v2, v3] #[.int .i64 0, .slice none 0 0, .int .i64 0, .slice none 0 0] #[.int .i64 0, .slice none 0 0, .int .i64 0, .slice none 0 0]
  rw [← hv] at hbx
  have hbn : Below w.heap.size w w1 := by rw [hv]; exact (Below.alloc (Below.alloc (Below.alloc (Below.alloc (Below.refl _ _) (by simp <;> omega) _) (by simp <;> omega) _) (by simp <;> omega) _) (by simp <;> omega) _)
  replace M := Lib.hid (And.intro hbx.2.2.2 (And.intro hbx.2.2.1 (And.intro hbx.2.1 (And.intro hbx.1 (Goes.go M.out hbn)))))
  clear hbx hbn
  clear hv
  have y0 := (M.out.2.2.2.1).d4; have p0_0 := y0.1; have p0_1 := y0.2.1; have p0_2 := y0.2.2.1; have p0_3 := y0.2.2.2; clear y0
  have y1 := (M.out.2.2.1).d4; have p1_0 := y1.1; have p1_1 := y1.2.1; have p1_2 := y1.2.2.1; have p1_3 := y1.2.2.2; clear y1
  go_wp2_with fail
  clear p0_0 p0_1 p0_2 p0_3 p1_0 p1_1 p1_2 p1_3
  refine (fqCompare (G := G) (q := q) (r := r) (k := k1) (H1.out.keep (M.out.2.2.2.2)) (H2.out.keep (M.out.2.2.2.2)) HX.out HY.out HK1.out).mono ?_
  rintro e w2 ⟨rfl, hb⟩
  replace M := Lib.hid (Goes.go M.out hb)
  clear hb
  go_wp2_with fail
  obtain ⟨w3, hv⟩ : ∃ w_ : World, w_ = w2.drew := ⟨_, rfl⟩
  replace M := Lib.hid (Goes.go M.out (hv ▸ below_drew _ : Below w2.heap.size w2 w3))
  refine wp_region_held_drew (S := (fun w' => w'.cell? ⟨w.heap.size, 0, none⟩ = some (u0) ∧ w'.cell? ⟨w.heap.size, 1, none⟩ = some (u1) ∧ w'.cell? ⟨w.heap.size, 2, none⟩ = some (u2) ∧ w'.cell? ⟨w.heap.size, 3, none⟩ = some (u3) ∧ w'.cell? ⟨w.heap.size + 1, 0, none⟩ = some (v0) ∧ w'.cell? ⟨w.heap.size + 1, 1, none⟩ = some (v1) ∧ w'.cell? ⟨w.heap.size + 1, 2, none⟩ = some (v2) ∧ w'.cell? ⟨w.heap.size + 1, 3, none⟩ = some (v3))) (by kernel_rfl) (by rw [← hv]; exact ⟨(M.out.2.2.2.1).at.1 0, (M.out.2.2.2.1).at.1 1, (M.out.2.2.2.1).at.1 2, (M.out.2.2.2.1).at.1 3, (M.out.2.2.1).at.1 0, (M.out.2.2.1).at.1 1, (M.out.2.2.1).at.1 2, (M.out.2.2.1).at.1 3⟩) (fun hH11 => ?_)
  rw [← hv] at hH11 ⊢
  clear hv
  refine tk at0 ?_
  refine tk at2 ?_
  refine wpAnyH_ready (rs := [1]) (by kernel_rfl) (by simp) ?_
  refine AllReadyH.cons at1 (fun K hK => ?_) AllReadyH.nil
  go_simp
  refine (fresh_ok (G := G) (q := q) (Nat.le_trans hG (M.out.2.2.2.2).size) (H1.out.keep (M.out.2.2.2.2)) HX.out).mono ?_
  rintro e w4 ⟨x_12, x_13, x_14, x_15, rfl, hd16, hb⟩
  replace M := Lib.hid (And.intro hd16 (Goes.go M.out hb))
  clear hb hd16
  (try go_wp2_with fail)
  refine hK.out _ _ (⟨(M.out.2.2.2.2.1).at.1 0, (M.out.2.2.2.2.1).at.1 1, (M.out.2.2.2.2.1).at.1 2, (M.out.2.2.2.2.1).at.1 3, (M.out.2.2.2.1).at.1 0, (M.out.2.2.2.1).at.1 1, (M.out.2.2.2.1).at.1 2, (M.out.2.2.2.1).at.1 3⟩) (fun hH17 => ?_)
  clear hK K hH11
  (try simp only [Act.put, List.setIfInBounds_toArray, List.set_cons_zero, List.set_cons_succ])
  refine wpAnyH_ready (rs := [3]) (by kernel_rfl) (by simp) ?_
  refine AllReadyH.cons at3 (fun K hK => ?_) AllReadyH.nil
  go_simp
  refine (fresh_ok (G := G) (q := r) (Nat.le_trans hG (M.out.2.2.2.2.2).size) (H2.out.keep (M.out.2.2.2.2.2)) HY.out).mono ?_
  rintro e w5 ⟨x_18, x_19, x_20, x_21, rfl, hd22, hb⟩
  replace M := Lib.hid (And.intro hd22 (Goes.go M.out hb))
  clear hb hd22
  (try go_wp2_with fail)
  refine hK.out _ _ (⟨(M.out.2.2.2.2.2.1).at.1 0, (M.out.2.2.2.2.2.1).at.1 1, (M.out.2.2.2.2.2.1).at.1 2, (M.out.2.2.2.2.2.1).at.1 3, (M.out.2.2.2.2.1).at.1 0, (M.out.2.2.2.2.1).at.1 1, (M.out.2.2.2.2.1).at.1 2, (M.out.2.2.2.2.1).at.1 3⟩) (fun hH23 => ?_)
  clear hK K hH17
  (try simp only [Act.put, List.setIfInBounds_toArray, List.set_cons_zero, List.set_cons_succ])
  refine wpAnyH_ready (rs := [4]) (by kernel_rfl) (by simp) ?_
  refine AllReadyH.cons at4 (fun K hK => ?_) AllReadyH.nil
  have y2 := (M.out.2.2.2.1).c4; have p2_0 := y2.1; have q2_0 := y2.2.1; have p2_1 := y2.2.2.1; have q2_1 := y2.2.2.2.1; have p2_2 := y2.2.2.2.2.1; have q2_2 := y2.2.2.2.2.2.1; have p2_3 := y2.2.2.2.2.2.2.1; have q2_3 := y2.2.2.2.2.2.2.2; clear y2
  have ys_x_12 := TQ.st (M.out.2.1); have st_x_12 := ys_x_12.1; have st_x_13 := ys_x_12.2.1; have st_x_14 := ys_x_12.2.2.1; have st_x_15 := ys_x_12.2.2.2; clear ys_x_12
  go_simp
  clear p2_0 q2_0 p2_1 q2_1 p2_2 q2_2 p2_3 q2_3 st_x_12 st_x_13 st_x_14 st_x_15
  obtain ⟨w6, hv⟩ : ∃ w_ : World, w_ = ((((w5.setCell ⟨w.heap.size + 1 + 1, 0, none⟩ (x_12)).setCell ⟨w.heap.size + 1 + 1, 1, none⟩ (x_13)).setCell ⟨w.heap.size + 1 + 1, 2, none⟩ (x_14)).setCell ⟨w.heap.size + 1 + 1, 3, none⟩ (x_15)) := ⟨_, rfl⟩
  rw [← hv]
  have og : w5.grownBy w6 (some (w.heap.size + 1 + 1)) := by rw [hv]; exact (only_setCell (only_setCell (only_setCell (only_setCell (World.grownBy.refl _ _) _) _) _) _)
  have hz : w.heap.size ≤ w.heap.size + 1 + 1 := by omega
  have hk : Bx w6 (w.heap.size + 1 + 1) 26 #[x_12, x_13, x_14, x_15] := by rw [hv]; exact (((((M.out.2.2.2.1).set 0 _).set 1 _).set 2 _).set 3 _)
  have hbw : Below w.heap.size w w6 := by rw [hv]; exact (Below.setCell (Below.setCell (Below.setCell (Below.setCell (M.out.2.2.2.2.2.2) (by omega) _) (by omega) _) (by omega) _) (by omega) _)
  replace M := Lib.hid (And.intro ((M.out.1).far (M.out.2.2.2.1) (by rfl) (by omega) og) (And.intro ((M.out.2.1).far (M.out.2.2.2.1) (by rfl) (by omega) og) (And.intro ((M.out.2.2.1).only og (by omega)) (And.intro hk (And.intro ((M.out.2.2.2.2.1).only og (by omega)) (And.intro ((M.out.2.2.2.2.2.1).only og (by omega)) hbw))))))
  clear hk hbw og hv hz
  refine hK.out _ _ (⟨(M.out.2.2.2.2.2.1).at.1 0, (M.out.2.2.2.2.2.1).at.1 1, (M.out.2.2.2.2.2.1).at.1 2, (M.out.2.2.2.2.2.1).at.1 3, (M.out.2.2.2.2.1).at.1 0, (M.out.2.2.2.2.1).at.1 1, (M.out.2.2.2.2.1).at.1 2, (M.out.2.2.2.2.1).at.1 3⟩) (fun hH24 => ?_)
  clear hK K hH23
  (try simp only [Act.put, List.setIfInBounds_toArray, List.set_cons_zero, List.set_cons_succ])
  refine wpAnyH_ready (rs := [5]) (by kernel_rfl) (by simp) ?_
  refine AllReadyH.cons at5 (fun K hK => ?_) AllReadyH.nil
  have y3 := (M.out.2.2.1).c4; have p3_0 := y3.1; have q3_0 := y3.2.1; have p3_1 := y3.2.2.1; have q3_1 := y3.2.2.2.1; have p3_2 := y3.2.2.2.2.1; have q3_2 := y3.2.2.2.2.2.1; have p3_3 := y3.2.2.2.2.2.2.1; have q3_3 := y3.2.2.2.2.2.2.2; clear y3
  have ys_x_18 := TQ.st (M.out.1); have st_x_18 := ys_x_18.1; have st_x_19 := ys_x_18.2.1; have st_x_20 := ys_x_18.2.2.1; have st_x_21 := ys_x_18.2.2.2; clear ys_x_18
  go_simp
  clear p3_0 q3_0 p3_1 q3_1 p3_2 q3_2 p3_3 q3_3 st_x_18 st_x_19 st_x_20 st_x_21
  obtain ⟨w7, hv⟩ : ∃ w_ : World, w_ = ((((w6.setCell ⟨w.heap.size + 1 + 1 + 1, 0, none⟩ (x_18)).setCell ⟨w.heap.size + 1 + 1 + 1, 1, none⟩ (x_19)).setCell ⟨w.heap.size + 1 + 1 + 1, 2, none⟩ (x_20)).setCell ⟨w.heap.size + 1 + 1 + 1, 3, none⟩ (x_21)) := ⟨_, rfl⟩
  rw [← hv]
  have og : w6.grownBy w7 (some (w.heap.size + 1 + 1 + 1)) := by rw [hv]; exact (only_setCell (only_setCell (only_setCell (only_setCell (World.grownBy.refl _ _) _) _) _) _)
  have hz : w.heap.size ≤ w.heap.size + 1 + 1 + 1 := by omega
  have hk : Bx w7 (w.heap.size + 1 + 1 + 1) 26 #[x_18, x_19, x_20, x_21] := by rw [hv]; exact (((((M.out.2.2.1).set 0 _).set 1 _).set 2 _).set 3 _)
  have hbw : Below w.heap.size w w7 := by rw [hv]; exact (Below.setCell (Below.setCell (Below.setCell (Below.setCell (M.out.2.2.2.2.2.2) (by omega) _) (by omega) _) (by omega) _) (by omega) _)
  replace M := Lib.hid (And.intro ((M.out.1).far (M.out.2.2.1) (by rfl) (by omega) og) (And.intro ((M.out.2.1).far (M.out.2.2.1) (by rfl) (by omega) og) (And.intro hk (And.intro ((M.out.2.2.2.1).only og (by omega)) (And.intro ((M.out.2.2.2.2.1).only og (by omega)) (And.intro ((M.out.2.2.2.2.2.1).only og (by omega)) hbw))))))
  clear hk hbw og hv hz
  refine hK.out _ _ (⟨(M.out.2.2.2.2.2.1).at.1 0, (M.out.2.2.2.2.2.1).at.1 1, (M.out.2.2.2.2.2.1).at.1 2, (M.out.2.2.2.2.2.1).at.1 3, (M.out.2.2.2.2.1).at.1 0, (M.out.2.2.2.2.1).at.1 1, (M.out.2.2.2.2.1).at.1 2, (M.out.2.2.2.2.1).at.1 3⟩) (fun hH25 => ?_)
  clear hK K hH24
  (try simp only [Act.put, List.setIfInBounds_toArray, List.set_cons_zero, List.set_cons_succ])
  refine wpAnyH_done (by kernel_rfl) ?_ _
  clear hH25
  go_wp2_with fail
  refine bodyPost_ret (results_cc rfl _ _ (w.heap.size + 1 + 1) (w.heap.size + 1 + 1 + 1) 26 26 _ _ _ _ _ _ rfl (M.out.2.2.2.1) Try.underlying26 rfl (by kernel_rfl) rfl (M.out.2.2.1) Try.underlying26 rfl (by kernel_rfl)) rfl ?_
  exact ⟨x_12, x_13, x_14, x_15, x_18, x_19, x_20, x_21, rfl, (M.out.2.1), (M.out.1), (M.out.2.2.2.2.2.2)⟩
set_option maxRecDepth 100000 in
set_option maxHeartbeats 4000000 in
theorem ends_gt {u0 u1 u2 u3 v0 v1 v2 v3 : Value} {q r : Rat} {w : World} (hG : G ≤ w.heap.size) (h1 : FQ G w u0 u1 u2 u3 q) (h2 : FQ G w v0 v1 v2 v3 r) (hx : Fz q 137438953472) (hy : Fz r 137438953472) (hc : r < q) :
    Calls Try.prog 39 #[.agg #[u0, u1, u2, u3], .agg #[v0, v1, v2, v3]] w fun e w' => ∃ x0 x1 x2 x3 x4 x5 x6 x7, e = .returned (.tuple #[.agg #[x0, x1, x2, x3], .agg #[x4, x5, x6, x7]]) ∧ FQ G w' x0 x1 x2 x3 r ∧ FQ G w' x4 x5 x6 x7 q ∧ Below w.heap.size w w' := by
  have HX := Lib.hid hx; have HY := Lib.hid hy; clear hx hy
  obtain ⟨k1, hk1⟩ : ∃ k, ordQ q r = k := ⟨_, rfl⟩
  have hd1 : decide (k1 ≤ 0) = false := by rw [← hk1, ordQ_le0]; exact decide_eq_false (Rat.not_le.2 hc)
  have HK1 := Lib.hid hk1; clear hk1 hc
  have H1 : Hid (FQ G w u0 u1 u2 u3 q) := h1
  have H2 : Hid (FQ G w v0 v1 v2 v3 r) := h2
  clear h1 h2
  have M : Hid (Below w.heap.size w w) := Below.refl _ _
  go_enter Try.func39, Try.ntmps39
  go_upto_region 1 with fail
  obtain ⟨w1, hv⟩ : ∃ w_ : World, w_ = ((((w.alloc (.cells #[u0, u1, u2, u3] 26)).alloc (.cells #[v0, v1, v2, v3] 26)).alloc (.cells #[.int .i64 0, .slice none 0 0, .int .i64 0, .slice none 0 0] 26)).alloc (.cells #[.int .i64 0, .slice none 0 0, .int .i64 0, .slice none 0 0] 26)) := ⟨_, rfl⟩
  rw [← hv]
  have hbx := bx4 w 26 26 26 26 #[u0, u1, u2, u3] #[v0, v1, v2, v3] #[.int .i64 0, .slice none 0 0, .int .i64 0, .slice none 0 0] #[.int .i64 0, .slice none 0 0, .int .i64 0, .slice none 0 0]
  rw [← hv] at hbx
  have hbn : Below w.heap.size w w1 := by rw [hv]; exact (Below.alloc (Below.alloc (Below.alloc (Below.alloc (Below.refl _ _) (by simp <;> omega) _) (by simp <;> omega) _) (by simp <;> omega) _) (by simp <;> omega) _)
  replace M := Lib.hid (And.intro hbx.2.2.2 (And.intro hbx.2.2.1 (And.intro hbx.2.1 (And.intro hbx.1 (Goes.go M.out hbn)))))
  clear hbx hbn
  clear hv
  have y0 := (M.out.2.2.2.1).d4; have p0_0 := y0.1; have p0_1 := y0.2.1; have p0_2 := y0.2.2.1; have p0_3 := y0.2.2.2; clear y0
  have y1 := (M.out.2.2.1).d4; have p1_0 := y1.1; have p1_1 := y1.2.1; have p1_2 := y1.2.2.1; have p1_3 := y1.2.2.2; clear y1
  go_wp2_with fail
  clear p0_0 p0_1 p0_2 p0_3 p1_0 p1_1 p1_2 p1_3
  refine (fqCompare (G := G) (q := q) (r := r) (k := k1) (H1.out.keep (M.out.2.2.2.2)) (H2.out.keep (M.out.2.2.2.2)) HX.out HY.out HK1.out).mono ?_
  rintro e w2 ⟨rfl, hb⟩
  replace M := Lib.hid (Goes.go M.out hb)
  clear hb
  go_wp2_with fail
  obtain ⟨w3, hv⟩ : ∃ w_ : World, w_ = w2.drew := ⟨_, rfl⟩
  replace M := Lib.hid (Goes.go M.out (hv ▸ below_drew _ : Below w2.heap.size w2 w3))
  refine wp_region_held_drew (S := (fun w' => w'.cell? ⟨w.heap.size, 0, none⟩ = some (u0) ∧ w'.cell? ⟨w.heap.size, 1, none⟩ = some (u1) ∧ w'.cell? ⟨w.heap.size, 2, none⟩ = some (u2) ∧ w'.cell? ⟨w.heap.size, 3, none⟩ = some (u3) ∧ w'.cell? ⟨w.heap.size + 1, 0, none⟩ = some (v0) ∧ w'.cell? ⟨w.heap.size + 1, 1, none⟩ = some (v1) ∧ w'.cell? ⟨w.heap.size + 1, 2, none⟩ = some (v2) ∧ w'.cell? ⟨w.heap.size + 1, 3, none⟩ = some (v3))) (by kernel_rfl) (by rw [← hv]; exact ⟨(M.out.2.2.2.1).at.1 0, (M.out.2.2.2.1).at.1 1, (M.out.2.2.2.1).at.1 2, (M.out.2.2.2.1).at.1 3, (M.out.2.2.1).at.1 0, (M.out.2.2.1).at.1 1, (M.out.2.2.1).at.1 2, (M.out.2.2.1).at.1 3⟩) (fun hH11 => ?_)
  rw [← hv] at hH11 ⊢
  clear hv
  refine tk at0 ?_
  refine tk at2 ?_
  refine wpAnyH_ready (rs := [1]) (by kernel_rfl) (by simp) ?_
  refine AllReadyH.cons at1 (fun K hK => ?_) AllReadyH.nil
  go_simp
  refine (fresh_ok (G := G) (q := r) (Nat.le_trans hG (M.out.2.2.2.2).size) (H2.out.keep (M.out.2.2.2.2)) HY.out).mono ?_
  rintro e w4 ⟨x_12, x_13, x_14, x_15, rfl, hd16, hb⟩
  replace M := Lib.hid (And.intro hd16 (Goes.go M.out hb))
  clear hb hd16
  (try go_wp2_with fail)
  refine hK.out _ _ (⟨(M.out.2.2.2.2.1).at.1 0, (M.out.2.2.2.2.1).at.1 1, (M.out.2.2.2.2.1).at.1 2, (M.out.2.2.2.2.1).at.1 3, (M.out.2.2.2.1).at.1 0, (M.out.2.2.2.1).at.1 1, (M.out.2.2.2.1).at.1 2, (M.out.2.2.2.1).at.1 3⟩) (fun hH17 => ?_)
  clear hK K hH11
  (try simp only [Act.put, List.setIfInBounds_toArray, List.set_cons_zero, List.set_cons_succ])
  refine wpAnyH_ready (rs := [3]) (by kernel_rfl) (by simp) ?_
  refine AllReadyH.cons at3 (fun K hK => ?_) AllReadyH.nil
  go_simp
  refine (fresh_ok (G := G) (q := q) (Nat.le_trans hG (M.out.2.2.2.2.2).size) (H1.out.keep (M.out.2.2.2.2.2)) HX.out).mono ?_
  rintro e w5 ⟨x_18, x_19, x_20, x_21, rfl, hd22, hb⟩
  replace M := Lib.hid (And.intro hd22 (Goes.go M.out hb))
  clear hb hd22
  (try go_wp2_with fail)
  refine hK.out _ _ (⟨(M.out.2.2.2.2.2.1).at.1 0, (M.out.2.2.2.2.2.1).at.1 1, (M.out.2.2.2.2.2.1).at.1 2, (M.out.2.2.2.2.2.1).at.1 3, (M.out.2.2.2.2.1).at.1 0, (M.out.2.2.2.2.1).at.1 1, (M.out.2.2.2.2.1).at.1 2, (M.out.2.2.2.2.1).at.1 3⟩) (fun hH23 => ?_)
  clear hK K hH17
  (try simp only [Act.put, List.setIfInBounds_toArray, List.set_cons_zero, List.set_cons_succ])
  refine wpAnyH_ready (rs := [4]) (by kernel_rfl) (by simp) ?_
  refine AllReadyH.cons at4 (fun K hK => ?_) AllReadyH.nil
  have y2 := (M.out.2.2.2.1).c4; have p2_0 := y2.1; have q2_0 := y2.2.1; have p2_1 := y2.2.2.1; have q2_1 := y2.2.2.2.1; have p2_2 := y2.2.2.2.2.1; have q2_2 := y2.2.2.2.2.2.1; have p2_3 := y2.2.2.2.2.2.2.1; have q2_3 := y2.2.2.2.2.2.2.2; clear y2
  have ys_x_12 := TQ.st (M.out.2.1); have st_x_12 := ys_x_12.1; have st_x_13 := ys_x_12.2.1; have st_x_14 := ys_x_12.2.2.1; have st_x_15 := ys_x_12.2.2.2; clear ys_x_12
  go_simp
  clear p2_0 q2_0 p2_1 q2_1 p2_2 q2_2 p2_3 q2_3 st_x_12 st_x_13 st_x_14 st_x_15
  obtain ⟨w6, hv⟩ : ∃ w_ : World, w_ = ((((w5.setCell ⟨w.heap.size + 1 + 1, 0, none⟩ (x_12)).setCell ⟨w.heap.size + 1 + 1, 1, none⟩ (x_13)).setCell ⟨w.heap.size + 1 + 1, 2, none⟩ (x_14)).setCell ⟨w.heap.size + 1 + 1, 3, none⟩ (x_15)) := ⟨_, rfl⟩
  rw [← hv]
  have og : w5.grownBy w6 (some (w.heap.size + 1 + 1)) := by rw [hv]; exact (only_setCell (only_setCell (only_setCell (only_setCell (World.grownBy.refl _ _) _) _) _) _)
  have hz : w.heap.size ≤ w.heap.size + 1 + 1 := by omega
  have hk : Bx w6 (w.heap.size + 1 + 1) 26 #[x_12, x_13, x_14, x_15] := by rw [hv]; exact (((((M.out.2.2.2.1).set 0 _).set 1 _).set 2 _).set 3 _)
  have hbw : Below w.heap.size w w6 := by rw [hv]; exact (Below.setCell (Below.setCell (Below.setCell (Below.setCell (M.out.2.2.2.2.2.2) (by omega) _) (by omega) _) (by omega) _) (by omega) _)
  replace M := Lib.hid (And.intro ((M.out.1).far (M.out.2.2.2.1) (by rfl) (by omega) og) (And.intro ((M.out.2.1).far (M.out.2.2.2.1) (by rfl) (by omega) og) (And.intro ((M.out.2.2.1).only og (by omega)) (And.intro hk (And.intro ((M.out.2.2.2.2.1).only og (by omega)) (And.intro ((M.out.2.2.2.2.2.1).only og (by omega)) hbw))))))
  clear hk hbw og hv hz
  refine hK.out _ _ (⟨(M.out.2.2.2.2.2.1).at.1 0, (M.out.2.2.2.2.2.1).at.1 1, (M.out.2.2.2.2.2.1).at.1 2, (M.out.2.2.2.2.2.1).at.1 3, (M.out.2.2.2.2.1).at.1 0, (M.out.2.2.2.2.1).at.1 1, (M.out.2.2.2.2.1).at.1 2, (M.out.2.2.2.2.1).at.1 3⟩) (fun hH24 => ?_)
  clear hK K hH23
  (try simp only [Act.put, List.setIfInBounds_toArray, List.set_cons_zero, List.set_cons_succ])
  refine wpAnyH_ready (rs := [5]) (by kernel_rfl) (by simp) ?_
  refine AllReadyH.cons at5 (fun K hK => ?_) AllReadyH.nil
  have y3 := (M.out.2.2.1).c4; have p3_0 := y3.1; have q3_0 := y3.2.1; have p3_1 := y3.2.2.1; have q3_1 := y3.2.2.2.1; have p3_2 := y3.2.2.2.2.1; have q3_2 := y3.2.2.2.2.2.1; have p3_3 := y3.2.2.2.2.2.2.1; have q3_3 := y3.2.2.2.2.2.2.2; clear y3
  have ys_x_18 := TQ.st (M.out.1); have st_x_18 := ys_x_18.1; have st_x_19 := ys_x_18.2.1; have st_x_20 := ys_x_18.2.2.1; have st_x_21 := ys_x_18.2.2.2; clear ys_x_18
  go_simp
  clear p3_0 q3_0 p3_1 q3_1 p3_2 q3_2 p3_3 q3_3 st_x_18 st_x_19 st_x_20 st_x_21
  obtain ⟨w7, hv⟩ : ∃ w_ : World, w_ = ((((w6.setCell ⟨w.heap.size + 1 + 1 + 1, 0, none⟩ (x_18)).setCell ⟨w.heap.size + 1 + 1 + 1, 1, none⟩ (x_19)).setCell ⟨w.heap.size + 1 + 1 + 1, 2, none⟩ (x_20)).setCell ⟨w.heap.size + 1 + 1 + 1, 3, none⟩ (x_21)) := ⟨_, rfl⟩
  rw [← hv]
  have og : w6.grownBy w7 (some (w.heap.size + 1 + 1 + 1)) := by rw [hv]; exact (only_setCell (only_setCell (only_setCell (only_setCell (World.grownBy.refl _ _) _) _) _) _)
  have hz : w.heap.size ≤ w.heap.size + 1 + 1 + 1 := by omega
  have hk : Bx w7 (w.heap.size + 1 + 1 + 1) 26 #[x_18, x_19, x_20, x_21] := by rw [hv]; exact (((((M.out.2.2.1).set 0 _).set 1 _).set 2 _).set 3 _)
  have hbw : Below w.heap.size w w7 := by rw [hv]; exact (Below.setCell (Below.setCell (Below.setCell (Below.setCell (M.out.2.2.2.2.2.2) (by omega) _) (by omega) _) (by omega) _) (by omega) _)
  replace M := Lib.hid (And.intro ((M.out.1).far (M.out.2.2.1) (by rfl) (by omega) og) (And.intro ((M.out.2.1).far (M.out.2.2.1) (by rfl) (by omega) og) (And.intro hk (And.intro ((M.out.2.2.2.1).only og (by omega)) (And.intro ((M.out.2.2.2.2.1).only og (by omega)) (And.intro ((M.out.2.2.2.2.2.1).only og (by omega)) hbw))))))
  clear hk hbw og hv hz
  refine hK.out _ _ (⟨(M.out.2.2.2.2.2.1).at.1 0, (M.out.2.2.2.2.2.1).at.1 1, (M.out.2.2.2.2.2.1).at.1 2, (M.out.2.2.2.2.2.1).at.1 3, (M.out.2.2.2.2.1).at.1 0, (M.out.2.2.2.2.1).at.1 1, (M.out.2.2.2.2.1).at.1 2, (M.out.2.2.2.2.1).at.1 3⟩) (fun hH25 => ?_)
  clear hK K hH24
  (try simp only [Act.put, List.setIfInBounds_toArray, List.set_cons_zero, List.set_cons_succ])
  refine wpAnyH_done (by kernel_rfl) ?_ _
  clear hH25
  go_wp2_with fail
  refine bodyPost_ret (results_cc rfl _ _ (w.heap.size + 1 + 1) (w.heap.size + 1 + 1 + 1) 26 26 _ _ _ _ _ _ rfl (M.out.2.2.2.1) Try.underlying26 rfl (by kernel_rfl) rfl (M.out.2.2.1) Try.underlying26 rfl (by kernel_rfl)) rfl ?_
  exact ⟨x_12, x_13, x_14, x_15, x_18, x_19, x_20, x_21, rfl, (M.out.2.1), (M.out.1), (M.out.2.2.2.2.2.2)⟩
theorem ends_ok {u0 u1 u2 u3 v0 v1 v2 v3 : Value} {q r lo hi : Rat} {w : World} (hG : G ≤ w.heap.size) (h1 : FQ G w u0 u1 u2 u3 q) (h2 : FQ G w v0 v1 v2 v3 r) (hx : Fz q 137438953472) (hy : Fz r 137438953472) (hl : minQ q r = lo) (hh : maxQ q r = hi) :
    Calls Try.prog 39 #[.agg #[u0, u1, u2, u3], .agg #[v0, v1, v2, v3]] w fun e w' => ∃ x0 x1 x2 x3 x4 x5 x6 x7, e = .returned (.tuple #[.agg #[x0, x1, x2, x3], .agg #[x4, x5, x6, x7]]) ∧ FQ G w' x0 x1 x2 x3 lo ∧ FQ G w' x4 x5 x6 x7 hi ∧ Below w.heap.size w w' := by
  subst hl hh
  rcases (show q ≤ r ∨ r < q by grind) with h | h
  · have e1 : minQ q r = q := minQ_ge (by grind)
    have e2 : maxQ q r = r := by unfold maxQ; split <;> grind
    rw [e1, e2]; exact ends_le hG h1 h2 hx hy h
  · rw [minQ_lt h, maxQ_ge (by grind)]; exact ends_gt hG h1 h2 hx hy h
end Go.Proofs.Ytjbfngjlepafgaa
namespace Go.Proofs.Ytjbfngjlepafgaa
open Go.RowKit Go.Lib
variable {G : Nat}

set_option maxRecDepth 100000 in
set_option maxHeartbeats 4000000 in
theorem spAdd_q {u0 u1 u2 u3 u4 u5 u6 u7 v0 v1 v2 v3 v4 v5 v6 v7 : Value} {p q r s : Rat} {w : World} (_hG : G ≤ w.heap.size) (h1 : FQ G w u0 u1 u2 u3 p) (h2 : FQ G w u4 u5 u6 u7 q) (h3 : FQ G w v0 v1 v2 v3 r) (h4 : FQ G w v4 v5 v6 v7 s) (hp : Fz p 34359738368) (hq : Fz q 34359738368) (hr : Fz r 34359738368) (hs : Fz s 34359738368) (ha : p ≤ q) (hb : r ≤ s)  :
    Calls Try.prog 19 #[.agg #[u0, u1, u2, u3, u4, u5, u6, u7], .agg #[v0, v1, v2, v3, v4, v5, v6, v7]] w fun e w' => ∃ x0 x1 x2 x3 x4 x5 x6 x7, e = .returned (.tuple #[.agg #[x0, x1, x2, x3, x4, x5, x6, x7], .int .i64 0]) ∧ FQ G w' x0 x1 x2 x3 (p + r) ∧ FQ G w' x4 x5 x6 x7 (q + s) ∧ Below w.heap.size w w' := by
  have HP := Lib.hid hp; have HQ := Lib.hid hq; have HR := Lib.hid hr; have HS := Lib.hid hs; have HA := Lib.hid (decide_eq_true ha); have HB := Lib.hid (decide_eq_true hb); have HAA := Lib.hid ha; have HBB := Lib.hid hb; clear hp hq hr hs ha hb
  have H1 : Hid (FQ G w u0 u1 u2 u3 p) := h1
  have H2 : Hid (FQ G w u4 u5 u6 u7 q) := h2
  have H3 : Hid (FQ G w v0 v1 v2 v3 r) := h3
  have H4 : Hid (FQ G w v4 v5 v6 v7 s) := h4
  clear h1 h2 h3 h4
  have M : Hid (Below w.heap.size w w) := Below.refl _ _
  go_enter Try.func19, Try.ntmps19
  go_upto_region 1 with fail
  obtain ⟨w1, hv⟩ : ∃ w_ : World, w_ = (((w.alloc (.cells #[u0, u1, u2, u3, u4, u5, u6, u7] 28)).alloc (.cells #[v0, v1, v2, v3, v4, v5, v6, v7] 28)).alloc (.cells #[.int .i64 0, .slice none 0 0, .int .i64 0, .slice none 0 0, .int .i64 0, .slice none 0 0, .int .i64 0, .slice none 0 0] 28)) := ⟨_, rfl⟩
  rw [← hv]
  have hbx := bx3 w 28 28 28 #[u0, u1, u2, u3, u4, u5, u6, u7] #[v0, v1, v2, v3, v4, v5, v6, v7] #[.int .i64 0, .slice none 0 0, .int .i64 0, .slice none 0 0, .int .i64 0, .slice none 0 0, .int .i64 0, .slice none 0 0]
  rw [← hv] at hbx
  have hbn : Below w.heap.size w w1 := by rw [hv]; exact (Below.alloc (Below.alloc (Below.alloc (Below.refl _ _) (by simp <;> omega) _) (by simp <;> omega) _) (by simp <;> omega) _)
  replace M := Lib.hid (And.intro hbx.2.2 (And.intro hbx.2.1 (And.intro hbx.1 (Goes.go M.out hbn))))
  clear hbx hbn
  clear hv
  have y0 := (M.out.2.2.1).d8; have p0_0 := y0.1; have p0_1 := y0.2.1; have p0_2 := y0.2.2.1; have p0_3 := y0.2.2.2.1; have p0_4 := y0.2.2.2.2.1; have p0_5 := y0.2.2.2.2.2.1; have p0_6 := y0.2.2.2.2.2.2.1; have p0_7 := y0.2.2.2.2.2.2.2; clear y0
  go_wp2_with fail
  clear p0_0 p0_1 p0_2 p0_3 p0_4 p0_5 p0_6 p0_7
  refine (spRight_q (G := G) (p := p) (q := q) (b_ := true) (H1.out.keep (M.out.2.2.2)) (H2.out.keep (M.out.2.2.2)) (Fz.mono HP.out (by omega)) (Fz.mono HQ.out (by omega)) HA.out).mono ?_
  rintro e w2 ⟨rfl, hb⟩
  replace M := Lib.hid (Goes.go M.out hb)
  clear hb
  have y1 := (M.out.2.1).d8; have p1_0 := y1.1; have p1_1 := y1.2.1; have p1_2 := y1.2.2.1; have p1_3 := y1.2.2.2.1; have p1_4 := y1.2.2.2.2.1; have p1_5 := y1.2.2.2.2.2.1; have p1_6 := y1.2.2.2.2.2.2.1; have p1_7 := y1.2.2.2.2.2.2.2; clear y1
  go_wp2_with fail
  clear p1_0 p1_1 p1_2 p1_3 p1_4 p1_5 p1_6 p1_7
  refine (spRight_q (G := G) (p := r) (q := s) (b_ := true) (H3.out.keep (M.out.2.2.2)) (H4.out.keep (M.out.2.2.2)) (Fz.mono HR.out (by omega)) (Fz.mono HS.out (by omega)) HB.out).mono ?_
  rintro e w3 ⟨rfl, hb⟩
  replace M := Lib.hid (Goes.go M.out hb)
  clear hb
  have y0 := (M.out.2.2.1).d8; have p0_0 := y0.1; have p0_1 := y0.2.1; have p0_2 := y0.2.2.1; have p0_3 := y0.2.2.2.1; have p0_4 := y0.2.2.2.2.1; have p0_5 := y0.2.2.2.2.2.1; have p0_6 := y0.2.2.2.2.2.2.1; have p0_7 := y0.2.2.2.2.2.2.2; clear y0
  have y1 := (M.out.2.1).d8; have p1_0 := y1.1; have p1_1 := y1.2.1; have p1_2 := y1.2.2.1; have p1_3 := y1.2.2.2.1; have p1_4 := y1.2.2.2.2.1; have p1_5 := y1.2.2.2.2.2.1; have p1_6 := y1.2.2.2.2.2.2.1; have p1_7 := y1.2.2.2.2.2.2.2; clear y1
  go_wp2_with fail
  clear p0_0 p0_1 p0_2 p0_3 p0_4 p0_5 p0_6 p0_7 p1_0 p1_1 p1_2 p1_3 p1_4 p1_5 p1_6 p1_7
  obtain ⟨q5, eq5⟩ : ∃ v_ : Rat, v_ = (p + r) := ⟨_, rfl⟩
  refine (fqAdd (G := G) (q := p) (r := r) (H1.out.keep (M.out.2.2.2)) (H3.out.keep (M.out.2.2.2)) (Fz.mono HP.out (by omega)) (Fz.mono HR.out (by omega))).mono ?_
  rintro e w4 ⟨x_1, x_2, x_3, x_4, rfl, hd6, hb⟩
  rw [← eq5] at hd6
  have Sq5 : Hid (Fz q5 68719476737) := by show Fz q5 68719476737; rw [eq5]; exact (Fz.add HP.out HR.out)
  have Eq5 := Lib.hid eq5; clear eq5
  replace M := Lib.hid (And.intro hd6 (Goes.go M.out hb))
  clear hb hd6
  have ys_x_1 := TQ.st (M.out.1); have st_x_1 := ys_x_1.1; have st_x_2 := ys_x_1.2.1; have st_x_3 := ys_x_1.2.2.1; have st_x_4 := ys_x_1.2.2.2; clear ys_x_1
  go_upto_region 4 with fail
  clear st_x_1 st_x_2 st_x_3 st_x_4
  obtain ⟨w5, hv⟩ : ∃ w_ : World, w_ = (w4.alloc (.cells #[x_1, x_2, x_3, x_4] 26)) := ⟨_, rfl⟩
  rw [← hv]
  have ow3_ : w.heap.size + 1 + 1 < w4.heap.size := ((M.out.2.1)).lt
  replace M := Lib.hid (And.intro (hv ▸ bx1 w4 26 #[x_1, x_2, x_3, x_4]) (Goes.go M.out (hv ▸ below_alloc _ _ : Below w4.heap.size w4 w5)))
  clear hv
  have y0 := (M.out.2.2.2.2.1).d8; have p0_0 := y0.1; have p0_1 := y0.2.1; have p0_2 := y0.2.2.1; have p0_3 := y0.2.2.2.1; have p0_4 := y0.2.2.2.2.1; have p0_5 := y0.2.2.2.2.2.1; have p0_6 := y0.2.2.2.2.2.2.1; have p0_7 := y0.2.2.2.2.2.2.2; clear y0
  have y1 := (M.out.2.2.2.1).d8; have p1_0 := y1.1; have p1_1 := y1.2.1; have p1_2 := y1.2.2.1; have p1_3 := y1.2.2.2.1; have p1_4 := y1.2.2.2.2.1; have p1_5 := y1.2.2.2.2.2.1; have p1_6 := y1.2.2.2.2.2.2.1; have p1_7 := y1.2.2.2.2.2.2.2; clear y1
  go_wp2_with fail
  clear p0_0 p0_1 p0_2 p0_3 p0_4 p0_5 p0_6 p0_7 p1_0 p1_1 p1_2 p1_3 p1_4 p1_5 p1_6 p1_7
  obtain ⟨q11, eq11⟩ : ∃ v_ : Rat, v_ = (q + s) := ⟨_, rfl⟩
  refine (fqAdd (G := G) (q := q) (r := s) (H2.out.keep (M.out.2.2.2.2.2)) (H4.out.keep (M.out.2.2.2.2.2)) (Fz.mono HQ.out (by omega)) (Fz.mono HS.out (by omega))).mono ?_
  rintro e w6 ⟨x_7, x_8, x_9, x_10, rfl, hd12, hb⟩
  rw [← eq11] at hd12
  have Sq11 : Hid (Fz q11 68719476737) := by show Fz q11 68719476737; rw [eq11]; exact (Fz.add HQ.out HS.out)
  have Eq11 := Lib.hid eq11; clear eq11
  replace M := Lib.hid (And.intro hd12 (Goes.go M.out hb))
  clear hb hd12
  have ys_x_7 := TQ.st (M.out.1); have st_x_7 := ys_x_7.1; have st_x_8 := ys_x_7.2.1; have st_x_9 := ys_x_7.2.2.1; have st_x_10 := ys_x_7.2.2.2; clear ys_x_7
  go_upto_region 5 with fail
  clear st_x_7 st_x_8 st_x_9 st_x_10
  obtain ⟨w7, hv⟩ : ∃ w_ : World, w_ = (w6.alloc (.cells #[x_7, x_8, x_9, x_10] 26)) := ⟨_, rfl⟩
  rw [← hv]
  have ow4_ : w4.heap.size < w6.heap.size := ((M.out.2.1)).lt
  replace M := Lib.hid (And.intro (hv ▸ bx1 w6 26 #[x_7, x_8, x_9, x_10]) (Goes.go M.out (hv ▸ below_alloc _ _ : Below w6.heap.size w6 w7)))
  clear hv
  have y3 := (M.out.2.2.1).d4; have p3_0 := y3.1; have p3_1 := y3.2.1; have p3_2 := y3.2.2.1; have p3_3 := y3.2.2.2; clear y3
  have y4 := (M.out.1).d4; have p4_0 := y4.1; have p4_1 := y4.2.1; have p4_2 := y4.2.2.1; have p4_3 := y4.2.2.2; clear y4
  have y2 := (M.out.2.2.2.2.1).c8; have p2_0 := y2.1; have q2_0 := y2.2.1; have p2_1 := y2.2.2.1; have q2_1 := y2.2.2.2.1; have p2_2 := y2.2.2.2.2.1; have q2_2 := y2.2.2.2.2.2.1; have p2_3 := y2.2.2.2.2.2.2.1; have q2_3 := y2.2.2.2.2.2.2.2.1; have p2_4 := y2.2.2.2.2.2.2.2.2.1; have q2_4 := y2.2.2.2.2.2.2.2.2.2.1; have p2_5 := y2.2.2.2.2.2.2.2.2.2.2.1; have q2_5 := y2.2.2.2.2.2.2.2.2.2.2.2.1; have p2_6 := y2.2.2.2.2.2.2.2.2.2.2.2.2.1; have q2_6 := y2.2.2.2.2.2.2.2.2.2.2.2.2.2.1; have p2_7 := y2.2.2.2.2.2.2.2.2.2.2.2.2.2.2.1; have q2_7 := y2.2.2.2.2.2.2.2.2.2.2.2.2.2.2.2; clear y2
  have ys_x_1 := TQ.st (M.out.2.2.2.1); have st_x_1 := ys_x_1.1; have st_x_2 := ys_x_1.2.1; have st_x_3 := ys_x_1.2.2.1; have st_x_4 := ys_x_1.2.2.2; clear ys_x_1
  have ys_x_7 := TQ.st (M.out.2.1); have st_x_7 := ys_x_7.1; have st_x_8 := ys_x_7.2.1; have st_x_9 := ys_x_7.2.2.1; have st_x_10 := ys_x_7.2.2.2; clear ys_x_7
  go_wp2_with fail
  clear p3_0 p3_1 p3_2 p3_3 p4_0 p4_1 p4_2 p4_3 p2_0 q2_0 p2_1 q2_1 p2_2 q2_2 p2_3 q2_3 p2_4 q2_4 p2_5 q2_5 p2_6 q2_6 p2_7 q2_7 st_x_1 st_x_2 st_x_3 st_x_4 st_x_7 st_x_8 st_x_9 st_x_10
  obtain ⟨w8, hv⟩ : ∃ w_ : World, w_ = ((((((((w7.setCell ⟨w.heap.size + 1 + 1, 0, none⟩ (x_1)).setCell ⟨w.heap.size + 1 + 1, 1, none⟩ (x_2)).setCell ⟨w.heap.size + 1 + 1, 2, none⟩ (x_3)).setCell ⟨w.heap.size + 1 + 1, 3, none⟩ (x_4)).setCell ⟨w.heap.size + 1 + 1, 4, none⟩ (x_7)).setCell ⟨w.heap.size + 1 + 1, 5, none⟩ (x_8)).setCell ⟨w.heap.size + 1 + 1, 6, none⟩ (x_9)).setCell ⟨w.heap.size + 1 + 1, 7, none⟩ (x_10)) := ⟨_, rfl⟩
  rw [← hv]
  have og : w7.grownBy w8 (some (w.heap.size + 1 + 1)) := by rw [hv]; exact (only_setCell (only_setCell (only_setCell (only_setCell (only_setCell (only_setCell (only_setCell (only_setCell (World.grownBy.refl _ _) _) _) _) _) _) _) _) _)
  have hz : w.heap.size ≤ w.heap.size + 1 + 1 := by omega
  have hk : Bx w8 (w.heap.size + 1 + 1) 28 #[x_1, x_2, x_3, x_4, x_7, x_8, x_9, x_10] := by rw [hv]; exact (((((((((M.out.2.2.2.2.1).set 0 _).set 1 _).set 2 _).set 3 _).set 4 _).set 5 _).set 6 _).set 7 _)
  have hbw : Below w.heap.size w w8 := by rw [hv]; exact (Below.setCell (Below.setCell (Below.setCell (Below.setCell (Below.setCell (Below.setCell (Below.setCell (Below.setCell (M.out.2.2.2.2.2.2.2) (by omega) _) (by omega) _) (by omega) _) (by omega) _) (by omega) _) (by omega) _) (by omega) _) (by omega) _)
  replace M := Lib.hid (And.intro ((M.out.1).only og (by omega)) (And.intro ((M.out.2.1).far (M.out.2.2.2.2.1) (by rfl) (by omega) og) (And.intro ((M.out.2.2.1).only og (by omega)) (And.intro ((M.out.2.2.2.1).far (M.out.2.2.2.2.1) (by rfl) (by omega) og) (And.intro hk (And.intro ((M.out.2.2.2.2.2.1).only og (by omega)) (And.intro ((M.out.2.2.2.2.2.2.1).only og (by omega)) hbw)))))))
  clear hk hbw og hv hz
  refine bodyPost_ret (results_box2 rfl _ _ (w.heap.size + 1 + 1) 28 _ _ _ rfl (M.out.2.2.2.2.1) Try.underlying28 rfl (by kernel_rfl)) rfl ?_
  exact ⟨x_1, x_2, x_3, x_4, x_7, x_8, x_9, x_10, rfl, (by have h_ := (M.out.2.2.2.1); rw [Eq5.out] at h_; exact h_), (by have h_ := (M.out.2.1); rw [Eq11.out] at h_; exact h_), (M.out.2.2.2.2.2.2.2)⟩
set_option maxRecDepth 100000 in
set_option maxHeartbeats 4000000 in
theorem spMin_q {u0 u1 u2 u3 u4 u5 u6 u7 v0 v1 v2 v3 v4 v5 v6 v7 : Value} {p q r s : Rat} {w : World} (hG : G ≤ w.heap.size) (h1 : FQ G w u0 u1 u2 u3 p) (h2 : FQ G w u4 u5 u6 u7 q) (h3 : FQ G w v0 v1 v2 v3 r) (h4 : FQ G w v4 v5 v6 v7 s) (hp : Fz p 34359738368) (hq : Fz q 34359738368) (hr : Fz r 34359738368) (hs : Fz s 34359738368) (ha : p ≤ q) (hb : r ≤ s)  :
    Calls Try.prog 32 #[.agg #[u0, u1, u2, u3, u4, u5, u6, u7], .agg #[v0, v1, v2, v3, v4, v5, v6, v7]] w fun e w' => ∃ x0 x1 x2 x3 x4 x5 x6 x7, e = .returned (.tuple #[.agg #[x0, x1, x2, x3, x4, x5, x6, x7], .int .i64 0]) ∧ FQ G w' x0 x1 x2 x3 (minQ p r) ∧ FQ G w' x4 x5 x6 x7 (minQ q s) ∧ Below w.heap.size w w' := by
  have HP := Lib.hid hp; have HQ := Lib.hid hq; have HR := Lib.hid hr; have HS := Lib.hid hs; have HA := Lib.hid (decide_eq_true ha); have HB := Lib.hid (decide_eq_true hb); have HAA := Lib.hid ha; have HBB := Lib.hid hb; clear hp hq hr hs ha hb
  have H1 : Hid (FQ G w u0 u1 u2 u3 p) := h1
  have H2 : Hid (FQ G w u4 u5 u6 u7 q) := h2
  have H3 : Hid (FQ G w v0 v1 v2 v3 r) := h3
  have H4 : Hid (FQ G w v4 v5 v6 v7 s) := h4
  clear h1 h2 h3 h4
  have M : Hid (Below w.heap.size w w) := Below.refl _ _
  go_enter Try.func32, Try.ntmps32
  go_upto_region 1 with fail
  obtain ⟨w1, hv⟩ : ∃ w_ : World, w_ = (((w.alloc (.cells #[u0, u1, u2, u3, u4, u5, u6, u7] 28)).alloc (.cells #[v0, v1, v2, v3, v4, v5, v6, v7] 28)).alloc (.cells #[.int .i64 0, .slice none 0 0, .int .i64 0, .slice none 0 0, .int .i64 0, .slice none 0 0, .int .i64 0, .slice none 0 0] 28)) := ⟨_, rfl⟩
  rw [← hv]
  have hbx := bx3 w 28 28 28 #[u0, u1, u2, u3, u4, u5, u6, u7] #[v0, v1, v2, v3, v4, v5, v6, v7] #[.int .i64 0, .slice none 0 0, .int .i64 0, .slice none 0 0, .int .i64 0, .slice none 0 0, .int .i64 0, .slice none 0 0]
  rw [← hv] at hbx
  have hbn : Below w.heap.size w w1 := by rw [hv]; exact (Below.alloc (Below.alloc (Below.alloc (Below.refl _ _) (by simp <;> omega) _) (by simp <;> omega) _) (by simp <;> omega) _)
  replace M := Lib.hid (And.intro hbx.2.2 (And.intro hbx.2.1 (And.intro hbx.1 (Goes.go M.out hbn))))
  clear hbx hbn
  clear hv
  have y0 := (M.out.2.2.1).d8; have p0_0 := y0.1; have p0_1 := y0.2.1; have p0_2 := y0.2.2.1; have p0_3 := y0.2.2.2.1; have p0_4 := y0.2.2.2.2.1; have p0_5 := y0.2.2.2.2.2.1; have p0_6 := y0.2.2.2.2.2.2.1; have p0_7 := y0.2.2.2.2.2.2.2; clear y0
  go_wp2_with fail
  clear p0_0 p0_1 p0_2 p0_3 p0_4 p0_5 p0_6 p0_7
  refine (spRight_q (G := G) (p := p) (q := q) (b_ := true) (H1.out.keep (M.out.2.2.2)) (H2.out.keep (M.out.2.2.2)) (Fz.mono HP.out (by omega)) (Fz.mono HQ.out (by omega)) HA.out).mono ?_
  rintro e w2 ⟨rfl, hb⟩
  replace M := Lib.hid (Goes.go M.out hb)
  clear hb
  have y1 := (M.out.2.1).d8; have p1_0 := y1.1; have p1_1 := y1.2.1; have p1_2 := y1.2.2.1; have p1_3 := y1.2.2.2.1; have p1_4 := y1.2.2.2.2.1; have p1_5 := y1.2.2.2.2.2.1; have p1_6 := y1.2.2.2.2.2.2.1; have p1_7 := y1.2.2.2.2.2.2.2; clear y1
  go_wp2_with fail
  clear p1_0 p1_1 p1_2 p1_3 p1_4 p1_5 p1_6 p1_7
  refine (spRight_q (G := G) (p := r) (q := s) (b_ := true) (H3.out.keep (M.out.2.2.2)) (H4.out.keep (M.out.2.2.2)) (Fz.mono HR.out (by omega)) (Fz.mono HS.out (by omega)) HB.out).mono ?_
  rintro e w3 ⟨rfl, hb⟩
  replace M := Lib.hid (Goes.go M.out hb)
  clear hb
  have y0 := (M.out.2.2.1).d8; have p0_0 := y0.1; have p0_1 := y0.2.1; have p0_2 := y0.2.2.1; have p0_3 := y0.2.2.2.1; have p0_4 := y0.2.2.2.2.1; have p0_5 := y0.2.2.2.2.2.1; have p0_6 := y0.2.2.2.2.2.2.1; have p0_7 := y0.2.2.2.2.2.2.2; clear y0
  have y1 := (M.out.2.1).d8; have p1_0 := y1.1; have p1_1 := y1.2.1; have p1_2 := y1.2.2.1; have p1_3 := y1.2.2.2.1; have p1_4 := y1.2.2.2.2.1; have p1_5 := y1.2.2.2.2.2.1; have p1_6 := y1.2.2.2.2.2.2.1; have p1_7 := y1.2.2.2.2.2.2.2; clear y1
  go_wp2_with fail
  clear p0_0 p0_1 p0_2 p0_3 p0_4 p0_5 p0_6 p0_7 p1_0 p1_1 p1_2 p1_3 p1_4 p1_5 p1_6 p1_7
  refine (ends_ok (G := G) (q := p) (r := r) (lo := (minQ p r)) (hi := (maxQ p r)) (Nat.le_trans hG (M.out.2.2.2).size) (H1.out.keep (M.out.2.2.2)) (H3.out.keep (M.out.2.2.2)) (Fz.mono HP.out (by omega)) (Fz.mono HR.out (by omega)) rfl rfl).mono ?_
  rintro e w4 ⟨x_1, x_2, x_3, x_4, x_5, x_6, x_7, x_8, rfl, hd9, hd10, hb⟩
  replace M := Lib.hid (And.intro hd9 (And.intro hd10 (Goes.go M.out hb)))
  clear hb hd9 hd10
  have ys_x_1 := TQ.st (M.out.1); have st_x_1 := ys_x_1.1; have st_x_2 := ys_x_1.2.1; have st_x_3 := ys_x_1.2.2.1; have st_x_4 := ys_x_1.2.2.2; clear ys_x_1
  have ys_x_5 := TQ.st (M.out.2.1); have st_x_5 := ys_x_5.1; have st_x_6 := ys_x_5.2.1; have st_x_7 := ys_x_5.2.2.1; have st_x_8 := ys_x_5.2.2.2; clear ys_x_5
  go_upto_region 4 with fail
  clear st_x_1 st_x_2 st_x_3 st_x_4 st_x_5 st_x_6 st_x_7 st_x_8
  obtain ⟨w5, hv⟩ : ∃ w_ : World, w_ = ((w4.alloc (.cells #[x_1, x_2, x_3, x_4] 26)).alloc (.cells #[x_5, x_6, x_7, x_8] 26)) := ⟨_, rfl⟩
  rw [← hv]
  have ow3_ : w.heap.size + 1 + 1 < w4.heap.size := ((M.out.2.2.1)).lt
  have hbx := bx2 w4 26 26 #[x_1, x_2, x_3, x_4] #[x_5, x_6, x_7, x_8]
  rw [← hv] at hbx
  have hbn : Below w4.heap.size w4 w5 := by rw [hv]; exact (Below.alloc (Below.alloc (Below.refl _ _) (by simp <;> omega) _) (by simp <;> omega) _)
  replace M := Lib.hid (And.intro hbx.2 (And.intro hbx.1 (Goes.go M.out hbn)))
  clear hbx hbn
  clear hv
  have y0 := (M.out.2.2.2.2.2.2.1).d8; have p0_0 := y0.1; have p0_1 := y0.2.1; have p0_2 := y0.2.2.1; have p0_3 := y0.2.2.2.1; have p0_4 := y0.2.2.2.2.1; have p0_5 := y0.2.2.2.2.2.1; have p0_6 := y0.2.2.2.2.2.2.1; have p0_7 := y0.2.2.2.2.2.2.2; clear y0
  have y1 := (M.out.2.2.2.2.2.1).d8; have p1_0 := y1.1; have p1_1 := y1.2.1; have p1_2 := y1.2.2.1; have p1_3 := y1.2.2.2.1; have p1_4 := y1.2.2.2.2.1; have p1_5 := y1.2.2.2.2.2.1; have p1_6 := y1.2.2.2.2.2.2.1; have p1_7 := y1.2.2.2.2.2.2.2; clear y1
  go_wp2_with fail
  clear p0_0 p0_1 p0_2 p0_3 p0_4 p0_5 p0_6 p0_7 p1_0 p1_1 p1_2 p1_3 p1_4 p1_5 p1_6 p1_7
  refine (ends_ok (G := G) (q := q) (r := s) (lo := (minQ q s)) (hi := (maxQ q s)) (Nat.le_trans hG (M.out.2.2.2.2.2.2.2).size) (H2.out.keep (M.out.2.2.2.2.2.2.2)) (H4.out.keep (M.out.2.2.2.2.2.2.2)) (Fz.mono HQ.out (by omega)) (Fz.mono HS.out (by omega)) rfl rfl).mono ?_
  rintro e w6 ⟨x_11, x_12, x_13, x_14, x_15, x_16, x_17, x_18, rfl, hd19, hd20, hb⟩
  replace M := Lib.hid (And.intro hd19 (And.intro hd20 (Goes.go M.out hb)))
  clear hb hd19 hd20
  have ys_x_11 := TQ.st (M.out.1); have st_x_11 := ys_x_11.1; have st_x_12 := ys_x_11.2.1; have st_x_13 := ys_x_11.2.2.1; have st_x_14 := ys_x_11.2.2.2; clear ys_x_11
  have ys_x_15 := TQ.st (M.out.2.1); have st_x_15 := ys_x_15.1; have st_x_16 := ys_x_15.2.1; have st_x_17 := ys_x_15.2.2.1; have st_x_18 := ys_x_15.2.2.2; clear ys_x_15
  go_upto_region 5 with fail
  clear st_x_11 st_x_12 st_x_13 st_x_14 st_x_15 st_x_16 st_x_17 st_x_18
  obtain ⟨w7, hv⟩ : ∃ w_ : World, w_ = ((w6.alloc (.cells #[x_11, x_12, x_13, x_14] 26)).alloc (.cells #[x_15, x_16, x_17, x_18] 26)) := ⟨_, rfl⟩
  rw [← hv]
  have ow5_ : w4.heap.size + 1 < w6.heap.size := ((M.out.2.2.1)).lt
  have hbx := bx2 w6 26 26 #[x_11, x_12, x_13, x_14] #[x_15, x_16, x_17, x_18]
  rw [← hv] at hbx
  have hbn : Below w6.heap.size w6 w7 := by rw [hv]; exact (Below.alloc (Below.alloc (Below.refl _ _) (by simp <;> omega) _) (by simp <;> omega) _)
  replace M := Lib.hid (And.intro hbx.2 (And.intro hbx.1 (Goes.go M.out hbn)))
  clear hbx hbn
  clear hv
  have y3 := (M.out.2.2.2.2.2.1).d4; have p3_0 := y3.1; have p3_1 := y3.2.1; have p3_2 := y3.2.2.1; have p3_3 := y3.2.2.2; clear y3
  have y5 := (M.out.2.1).d4; have p5_0 := y5.1; have p5_1 := y5.2.1; have p5_2 := y5.2.2.1; have p5_3 := y5.2.2.2; clear y5
  have y2 := (M.out.2.2.2.2.2.2.2.2.1).c8; have p2_0 := y2.1; have q2_0 := y2.2.1; have p2_1 := y2.2.2.1; have q2_1 := y2.2.2.2.1; have p2_2 := y2.2.2.2.2.1; have q2_2 := y2.2.2.2.2.2.1; have p2_3 := y2.2.2.2.2.2.2.1; have q2_3 := y2.2.2.2.2.2.2.2.1; have p2_4 := y2.2.2.2.2.2.2.2.2.1; have q2_4 := y2.2.2.2.2.2.2.2.2.2.1; have p2_5 := y2.2.2.2.2.2.2.2.2.2.2.1; have q2_5 := y2.2.2.2.2.2.2.2.2.2.2.2.1; have p2_6 := y2.2.2.2.2.2.2.2.2.2.2.2.2.1; have q2_6 := y2.2.2.2.2.2.2.2.2.2.2.2.2.2.1; have p2_7 := y2.2.2.2.2.2.2.2.2.2.2.2.2.2.2.1; have q2_7 := y2.2.2.2.2.2.2.2.2.2.2.2.2.2.2.2; clear y2
  have ys_x_1 := TQ.st (M.out.2.2.2.2.2.2.1); have st_x_1 := ys_x_1.1; have st_x_2 := ys_x_1.2.1; have st_x_3 := ys_x_1.2.2.1; have st_x_4 := ys_x_1.2.2.2; clear ys_x_1
  have ys_x_11 := TQ.st (M.out.2.2.1); have st_x_11 := ys_x_11.1; have st_x_12 := ys_x_11.2.1; have st_x_13 := ys_x_11.2.2.1; have st_x_14 := ys_x_11.2.2.2; clear ys_x_11
  go_wp2_with fail
  clear p3_0 p3_1 p3_2 p3_3 p5_0 p5_1 p5_2 p5_3 p2_0 q2_0 p2_1 q2_1 p2_2 q2_2 p2_3 q2_3 p2_4 q2_4 p2_5 q2_5 p2_6 q2_6 p2_7 q2_7 st_x_1 st_x_2 st_x_3 st_x_4 st_x_11 st_x_12 st_x_13 st_x_14
  obtain ⟨w8, hv⟩ : ∃ w_ : World, w_ = ((((((((w7.setCell ⟨w.heap.size + 1 + 1, 0, none⟩ (x_1)).setCell ⟨w.heap.size + 1 + 1, 1, none⟩ (x_2)).setCell ⟨w.heap.size + 1 + 1, 2, none⟩ (x_3)).setCell ⟨w.heap.size + 1 + 1, 3, none⟩ (x_4)).setCell ⟨w.heap.size + 1 + 1, 4, none⟩ (x_11)).setCell ⟨w.heap.size + 1 + 1, 5, none⟩ (x_12)).setCell ⟨w.heap.size + 1 + 1, 6, none⟩ (x_13)).setCell ⟨w.heap.size + 1 + 1, 7, none⟩ (x_14)) := ⟨_, rfl⟩
  rw [← hv]
  have og : w7.grownBy w8 (some (w.heap.size + 1 + 1)) := by rw [hv]; exact (only_setCell (only_setCell (only_setCell (only_setCell (only_setCell (only_setCell (only_setCell (only_setCell (World.grownBy.refl _ _) _) _) _) _) _) _) _) _)
  have hz : w.heap.size ≤ w.heap.size + 1 + 1 := by omega
  have hk : Bx w8 (w.heap.size + 1 + 1) 28 #[x_1, x_2, x_3, x_4, x_11, x_12, x_13, x_14] := by rw [hv]; exact (((((((((M.out.2.2.2.2.2.2.2.2.1).set 0 _).set 1 _).set 2 _).set 3 _).set 4 _).set 5 _).set 6 _).set 7 _)
  have hbw : Below w.heap.size w w8 := by rw [hv]; exact (Below.setCell (Below.setCell (Below.setCell (Below.setCell (Below.setCell (Below.setCell (Below.setCell (Below.setCell (M.out.2.2.2.2.2.2.2.2.2.2.2) (by omega) _) (by omega) _) (by omega) _) (by omega) _) (by omega) _) (by omega) _) (by omega) _) (by omega) _)
  replace M := Lib.hid (And.intro ((M.out.1).only og (by omega)) (And.intro ((M.out.2.1).only og (by omega)) (And.intro ((M.out.2.2.1).far (M.out.2.2.2.2.2.2.2.2.1) (by rfl) (by omega) og) (And.intro ((M.out.2.2.2.1).far (M.out.2.2.2.2.2.2.2.2.1) (by rfl) (by omega) og) (And.intro ((M.out.2.2.2.2.1).only og (by omega)) (And.intro ((M.out.2.2.2.2.2.1).only og (by omega)) (And.intro ((M.out.2.2.2.2.2.2.1).far (M.out.2.2.2.2.2.2.2.2.1) (by rfl) (by omega) og) (And.intro ((M.out.2.2.2.2.2.2.2.1).far (M.out.2.2.2.2.2.2.2.2.1) (by rfl) (by omega) og) (And.intro hk (And.intro ((M.out.2.2.2.2.2.2.2.2.2.1).only og (by omega)) (And.intro ((M.out.2.2.2.2.2.2.2.2.2.2.1).only og (by omega)) hbw)))))))))))
  clear hk hbw og hv hz
  refine bodyPost_ret (results_box2 rfl _ _ (w.heap.size + 1 + 1) 28 _ _ _ rfl (M.out.2.2.2.2.2.2.2.2.1) Try.underlying28 rfl (by kernel_rfl)) rfl ?_
  exact ⟨x_1, x_2, x_3, x_4, x_11, x_12, x_13, x_14, rfl, (M.out.2.2.2.2.2.2.1), (M.out.2.2.1), (M.out.2.2.2.2.2.2.2.2.2.2.2)⟩
set_option maxRecDepth 100000 in
set_option maxHeartbeats 4000000 in
theorem spMax_q {u0 u1 u2 u3 u4 u5 u6 u7 v0 v1 v2 v3 v4 v5 v6 v7 : Value} {p q r s : Rat} {w : World} (hG : G ≤ w.heap.size) (h1 : FQ G w u0 u1 u2 u3 p) (h2 : FQ G w u4 u5 u6 u7 q) (h3 : FQ G w v0 v1 v2 v3 r) (h4 : FQ G w v4 v5 v6 v7 s) (hp : Fz p 34359738368) (hq : Fz q 34359738368) (hr : Fz r 34359738368) (hs : Fz s 34359738368) (ha : p ≤ q) (hb : r ≤ s)  :
    Calls Try.prog 33 #[.agg #[u0, u1, u2, u3, u4, u5, u6, u7], .agg #[v0, v1, v2, v3, v4, v5, v6, v7]] w fun e w' => ∃ x0 x1 x2 x3 x4 x5 x6 x7, e = .returned (.tuple #[.agg #[x0, x1, x2, x3, x4, x5, x6, x7], .int .i64 0]) ∧ FQ G w' x0 x1 x2 x3 (maxQ p r) ∧ FQ G w' x4 x5 x6 x7 (maxQ q s) ∧ Below w.heap.size w w' := by
  have HP := Lib.hid hp; have HQ := Lib.hid hq; have HR := Lib.hid hr; have HS := Lib.hid hs; have HA := Lib.hid (decide_eq_true ha); have HB := Lib.hid (decide_eq_true hb); have HAA := Lib.hid ha; have HBB := Lib.hid hb; clear hp hq hr hs ha hb
  have H1 : Hid (FQ G w u0 u1 u2 u3 p) := h1
  have H2 : Hid (FQ G w u4 u5 u6 u7 q) := h2
  have H3 : Hid (FQ G w v0 v1 v2 v3 r) := h3
  have H4 : Hid (FQ G w v4 v5 v6 v7 s) := h4
  clear h1 h2 h3 h4
  have M : Hid (Below w.heap.size w w) := Below.refl _ _
  go_enter Try.func33, Try.ntmps33
  go_upto_region 1 with fail
  obtain ⟨w1, hv⟩ : ∃ w_ : World, w_ = (((w.alloc (.cells #[u0, u1, u2, u3, u4, u5, u6, u7] 28)).alloc (.cells #[v0, v1, v2, v3, v4, v5, v6, v7] 28)).alloc (.cells #[.int .i64 0, .slice none 0 0, .int .i64 0, .slice none 0 0, .int .i64 0, .slice none 0 0, .int .i64 0, .slice none 0 0] 28)) := ⟨_, rfl⟩
  rw [← hv]
  have hbx := bx3 w 28 28 28 #[u0, u1, u2, u3, u4, u5, u6, u7] #[v0, v1, v2, v3, v4, v5, v6, v7] #[.int .i64 0, .slice none 0 0, .int .i64 0, .slice none 0 0, .int .i64 0, .slice none 0 0, .int .i64 0, .slice none 0 0]
  rw [← hv] at hbx
  have hbn : Below w.heap.size w w1 := by rw [hv]; exact (Below.alloc (Below.alloc (Below.alloc (Below.refl _ _) (by simp <;> omega) _) (by simp <;> omega) _) (by simp <;> omega) _)
  replace M := Lib.hid (And.intro hbx.2.2 (And.intro hbx.2.1 (And.intro hbx.1 (Goes.go M.out hbn))))
  clear hbx hbn
  clear hv
  have y0 := (M.out.2.2.1).d8; have p0_0 := y0.1; have p0_1 := y0.2.1; have p0_2 := y0.2.2.1; have p0_3 := y0.2.2.2.1; have p0_4 := y0.2.2.2.2.1; have p0_5 := y0.2.2.2.2.2.1; have p0_6 := y0.2.2.2.2.2.2.1; have p0_7 := y0.2.2.2.2.2.2.2; clear y0
  go_wp2_with fail
  clear p0_0 p0_1 p0_2 p0_3 p0_4 p0_5 p0_6 p0_7
  refine (spRight_q (G := G) (p := p) (q := q) (b_ := true) (H1.out.keep (M.out.2.2.2)) (H2.out.keep (M.out.2.2.2)) (Fz.mono HP.out (by omega)) (Fz.mono HQ.out (by omega)) HA.out).mono ?_
  rintro e w2 ⟨rfl, hb⟩
  replace M := Lib.hid (Goes.go M.out hb)
  clear hb
  have y1 := (M.out.2.1).d8; have p1_0 := y1.1; have p1_1 := y1.2.1; have p1_2 := y1.2.2.1; have p1_3 := y1.2.2.2.1; have p1_4 := y1.2.2.2.2.1; have p1_5 := y1.2.2.2.2.2.1; have p1_6 := y1.2.2.2.2.2.2.1; have p1_7 := y1.2.2.2.2.2.2.2; clear y1
  go_wp2_with fail
  clear p1_0 p1_1 p1_2 p1_3 p1_4 p1_5 p1_6 p1_7
  refine (spRight_q (G := G) (p := r) (q := s) (b_ := true) (H3.out.keep (M.out.2.2.2)) (H4.out.keep (M.out.2.2.2)) (Fz.mono HR.out (by omega)) (Fz.mono HS.out (by omega)) HB.out).mono ?_
  rintro e w3 ⟨rfl, hb⟩
  replace M := Lib.hid (Goes.go M.out hb)
  clear hb
  have y0 := (M.out.2.2.1).d8; have p0_0 := y0.1; have p0_1 := y0.2.1; have p0_2 := y0.2.2.1; have p0_3 := y0.2.2.2.1; have p0_4 := y0.2.2.2.2.1; have p0_5 := y0.2.2.2.2.2.1; have p0_6 := y0.2.2.2.2.2.2.1; have p0_7 := y0.2.2.2.2.2.2.2; clear y0
  have y1 := (M.out.2.1).d8; have p1_0 := y1.1; have p1_1 := y1.2.1; have p1_2 := y1.2.2.1; have p1_3 := y1.2.2.2.1; have p1_4 := y1.2.2.2.2.1; have p1_5 := y1.2.2.2.2.2.1; have p1_6 := y1.2.2.2.2.2.2.1; have p1_7 := y1.2.2.2.2.2.2.2; clear y1
  go_wp2_with fail
  clear p0_0 p0_1 p0_2 p0_3 p0_4 p0_5 p0_6 p0_7 p1_0 p1_1 p1_2 p1_3 p1_4 p1_5 p1_6 p1_7
  refine (ends_ok (G := G) (q := p) (r := r) (lo := (minQ p r)) (hi := (maxQ p r)) (Nat.le_trans hG (M.out.2.2.2).size) (H1.out.keep (M.out.2.2.2)) (H3.out.keep (M.out.2.2.2)) (Fz.mono HP.out (by omega)) (Fz.mono HR.out (by omega)) rfl rfl).mono ?_
  rintro e w4 ⟨x_1, x_2, x_3, x_4, x_5, x_6, x_7, x_8, rfl, hd9, hd10, hb⟩
  replace M := Lib.hid (And.intro hd9 (And.intro hd10 (Goes.go M.out hb)))
  clear hb hd9 hd10
  have ys_x_1 := TQ.st (M.out.1); have st_x_1 := ys_x_1.1; have st_x_2 := ys_x_1.2.1; have st_x_3 := ys_x_1.2.2.1; have st_x_4 := ys_x_1.2.2.2; clear ys_x_1
  have ys_x_5 := TQ.st (M.out.2.1); have st_x_5 := ys_x_5.1; have st_x_6 := ys_x_5.2.1; have st_x_7 := ys_x_5.2.2.1; have st_x_8 := ys_x_5.2.2.2; clear ys_x_5
  go_upto_region 4 with fail
  clear st_x_1 st_x_2 st_x_3 st_x_4 st_x_5 st_x_6 st_x_7 st_x_8
  obtain ⟨w5, hv⟩ : ∃ w_ : World, w_ = ((w4.alloc (.cells #[x_1, x_2, x_3, x_4] 26)).alloc (.cells #[x_5, x_6, x_7, x_8] 26)) := ⟨_, rfl⟩
  rw [← hv]
  have ow3_ : w.heap.size + 1 + 1 < w4.heap.size := ((M.out.2.2.1)).lt
  have hbx := bx2 w4 26 26 #[x_1, x_2, x_3, x_4] #[x_5, x_6, x_7, x_8]
  rw [← hv] at hbx
  have hbn : Below w4.heap.size w4 w5 := by rw [hv]; exact (Below.alloc (Below.alloc (Below.refl _ _) (by simp <;> omega) _) (by simp <;> omega) _)
  replace M := Lib.hid (And.intro hbx.2 (And.intro hbx.1 (Goes.go M.out hbn)))
  clear hbx hbn
  clear hv
  have y0 := (M.out.2.2.2.2.2.2.1).d8; have p0_0 := y0.1; have p0_1 := y0.2.1; have p0_2 := y0.2.2.1; have p0_3 := y0.2.2.2.1; have p0_4 := y0.2.2.2.2.1; have p0_5 := y0.2.2.2.2.2.1; have p0_6 := y0.2.2.2.2.2.2.1; have p0_7 := y0.2.2.2.2.2.2.2; clear y0
  have y1 := (M.out.2.2.2.2.2.1).d8; have p1_0 := y1.1; have p1_1 := y1.2.1; have p1_2 := y1.2.2.1; have p1_3 := y1.2.2.2.1; have p1_4 := y1.2.2.2.2.1; have p1_5 := y1.2.2.2.2.2.1; have p1_6 := y1.2.2.2.2.2.2.1; have p1_7 := y1.2.2.2.2.2.2.2; clear y1
  go_wp2_with fail
  clear p0_0 p0_1 p0_2 p0_3 p0_4 p0_5 p0_6 p0_7 p1_0 p1_1 p1_2 p1_3 p1_4 p1_5 p1_6 p1_7
  refine (ends_ok (G := G) (q := q) (r := s) (lo := (minQ q s)) (hi := (maxQ q s)) (Nat.le_trans hG (M.out.2.2.2.2.2.2.2).size) (H2.out.keep (M.out.2.2.2.2.2.2.2)) (H4.out.keep (M.out.2.2.2.2.2.2.2)) (Fz.mono HQ.out (by omega)) (Fz.mono HS.out (by omega)) rfl rfl).mono ?_
  rintro e w6 ⟨x_11, x_12, x_13, x_14, x_15, x_16, x_17, x_18, rfl, hd19, hd20, hb⟩
  replace M := Lib.hid (And.intro hd19 (And.intro hd20 (Goes.go M.out hb)))
  clear hb hd19 hd20
  have ys_x_11 := TQ.st (M.out.1); have st_x_11 := ys_x_11.1; have st_x_12 := ys_x_11.2.1; have st_x_13 := ys_x_11.2.2.1; have st_x_14 := ys_x_11.2.2.2; clear ys_x_11
  have ys_x_15 := TQ.st (M.out.2.1); have st_x_15 := ys_x_15.1; have st_x_16 := ys_x_15.2.1; have st_x_17 := ys_x_15.2.2.1; have st_x_18 := ys_x_15.2.2.2; clear ys_x_15
  go_upto_region 5 with fail
  clear st_x_11 st_x_12 st_x_13 st_x_14 st_x_15 st_x_16 st_x_17 st_x_18
  obtain ⟨w7, hv⟩ : ∃ w_ : World, w_ = ((w6.alloc (.cells #[x_11, x_12, x_13, x_14] 26)).alloc (.cells #[x_15, x_16, x_17, x_18] 26)) := ⟨_, rfl⟩
  rw [← hv]
  have ow5_ : w4.heap.size + 1 < w6.heap.size := ((M.out.2.2.1)).lt
  have hbx := bx2 w6 26 26 #[x_11, x_12, x_13, x_14] #[x_15, x_16, x_17, x_18]
  rw [← hv] at hbx
  have hbn : Below w6.heap.size w6 w7 := by rw [hv]; exact (Below.alloc (Below.alloc (Below.refl _ _) (by simp <;> omega) _) (by simp <;> omega) _)
  replace M := Lib.hid (And.intro hbx.2 (And.intro hbx.1 (Goes.go M.out hbn)))
  clear hbx hbn
  clear hv
  have y4 := (M.out.2.2.2.2.1).d4; have p4_0 := y4.1; have p4_1 := y4.2.1; have p4_2 := y4.2.2.1; have p4_3 := y4.2.2.2; clear y4
  have y6 := (M.out.1).d4; have p6_0 := y6.1; have p6_1 := y6.2.1; have p6_2 := y6.2.2.1; have p6_3 := y6.2.2.2; clear y6
  have y2 := (M.out.2.2.2.2.2.2.2.2.1).c8; have p2_0 := y2.1; have q2_0 := y2.2.1; have p2_1 := y2.2.2.1; have q2_1 := y2.2.2.2.1; have p2_2 := y2.2.2.2.2.1; have q2_2 := y2.2.2.2.2.2.1; have p2_3 := y2.2.2.2.2.2.2.1; have q2_3 := y2.2.2.2.2.2.2.2.1; have p2_4 := y2.2.2.2.2.2.2.2.2.1; have q2_4 := y2.2.2.2.2.2.2.2.2.2.1; have p2_5 := y2.2.2.2.2.2.2.2.2.2.2.1; have q2_5 := y2.2.2.2.2.2.2.2.2.2.2.2.1; have p2_6 := y2.2.2.2.2.2.2.2.2.2.2.2.2.1; have q2_6 := y2.2.2.2.2.2.2.2.2.2.2.2.2.2.1; have p2_7 := y2.2.2.2.2.2.2.2.2.2.2.2.2.2.2.1; have q2_7 := y2.2.2.2.2.2.2.2.2.2.2.2.2.2.2.2; clear y2
  have ys_x_5 := TQ.st (M.out.2.2.2.2.2.2.2.1); have st_x_5 := ys_x_5.1; have st_x_6 := ys_x_5.2.1; have st_x_7 := ys_x_5.2.2.1; have st_x_8 := ys_x_5.2.2.2; clear ys_x_5
  have ys_x_15 := TQ.st (M.out.2.2.2.1); have st_x_15 := ys_x_15.1; have st_x_16 := ys_x_15.2.1; have st_x_17 := ys_x_15.2.2.1; have st_x_18 := ys_x_15.2.2.2; clear ys_x_15
  go_wp2_with fail
  clear p4_0 p4_1 p4_2 p4_3 p6_0 p6_1 p6_2 p6_3 p2_0 q2_0 p2_1 q2_1 p2_2 q2_2 p2_3 q2_3 p2_4 q2_4 p2_5 q2_5 p2_6 q2_6 p2_7 q2_7 st_x_5 st_x_6 st_x_7 st_x_8 st_x_15 st_x_16 st_x_17 st_x_18
  obtain ⟨w8, hv⟩ : ∃ w_ : World, w_ = ((((((((w7.setCell ⟨w.heap.size + 1 + 1, 0, none⟩ (x_5)).setCell ⟨w.heap.size + 1 + 1, 1, none⟩ (x_6)).setCell ⟨w.heap.size + 1 + 1, 2, none⟩ (x_7)).setCell ⟨w.heap.size + 1 + 1, 3, none⟩ (x_8)).setCell ⟨w.heap.size + 1 + 1, 4, none⟩ (x_15)).setCell ⟨w.heap.size + 1 + 1, 5, none⟩ (x_16)).setCell ⟨w.heap.size + 1 + 1, 6, none⟩ (x_17)).setCell ⟨w.heap.size + 1 + 1, 7, none⟩ (x_18)) := ⟨_, rfl⟩
  rw [← hv]
  have og : w7.grownBy w8 (some (w.heap.size + 1 + 1)) := by rw [hv]; exact (only_setCell (only_setCell (only_setCell (only_setCell (only_setCell (only_setCell (only_setCell (only_setCell (World.grownBy.refl _ _) _) _) _) _) _) _) _) _)
  have hz : w.heap.size ≤ w.heap.size + 1 + 1 := by omega
  have hk : Bx w8 (w.heap.size + 1 + 1) 28 #[x_5, x_6, x_7, x_8, x_15, x_16, x_17, x_18] := by rw [hv]; exact (((((((((M.out.2.2.2.2.2.2.2.2.1).set 0 _).set 1 _).set 2 _).set 3 _).set 4 _).set 5 _).set 6 _).set 7 _)
  have hbw : Below w.heap.size w w8 := by rw [hv]; exact (Below.setCell (Below.setCell (Below.setCell (Below.setCell (Below.setCell (Below.setCell (Below.setCell (Below.setCell (M.out.2.2.2.2.2.2.2.2.2.2.2) (by omega) _) (by omega) _) (by omega) _) (by omega) _) (by omega) _) (by omega) _) (by omega) _) (by omega) _)
  replace M := Lib.hid (And.intro ((M.out.1).only og (by omega)) (And.intro ((M.out.2.1).only og (by omega)) (And.intro ((M.out.2.2.1).far (M.out.2.2.2.2.2.2.2.2.1) (by rfl) (by omega) og) (And.intro ((M.out.2.2.2.1).far (M.out.2.2.2.2.2.2.2.2.1) (by rfl) (by omega) og) (And.intro ((M.out.2.2.2.2.1).only og (by omega)) (And.intro ((M.out.2.2.2.2.2.1).only og (by omega)) (And.intro ((M.out.2.2.2.2.2.2.1).far (M.out.2.2.2.2.2.2.2.2.1) (by rfl) (by omega) og) (And.intro ((M.out.2.2.2.2.2.2.2.1).far (M.out.2.2.2.2.2.2.2.2.1) (by rfl) (by omega) og) (And.intro hk (And.intro ((M.out.2.2.2.2.2.2.2.2.2.1).only og (by omega)) (And.intro ((M.out.2.2.2.2.2.2.2.2.2.2.1).only og (by omega)) hbw)))))))))))
  clear hk hbw og hv hz
  refine bodyPost_ret (results_box2 rfl _ _ (w.heap.size + 1 + 1) 28 _ _ _ rfl (M.out.2.2.2.2.2.2.2.2.1) Try.underlying28 rfl (by kernel_rfl)) rfl ?_
  exact ⟨x_5, x_6, x_7, x_8, x_15, x_16, x_17, x_18, rfl, (M.out.2.2.2.2.2.2.2.1), (M.out.2.2.2.1), (M.out.2.2.2.2.2.2.2.2.2.2.2)⟩
end Go.Proofs.Ytjbfngjlepafgaa
