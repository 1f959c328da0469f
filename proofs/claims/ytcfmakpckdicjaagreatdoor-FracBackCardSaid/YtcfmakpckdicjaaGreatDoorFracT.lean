/- Walks: fractions as text. -/
import Derived.Test.YtcfmakpckdicjaaGreatDoorFracD
import Derived.Test.YtcfmakpckdicjaaGreatDoorBigRead3
import Derived.Lib.CutLaws
namespace Go.Proofs.YtcfmakpckdicjaaGreatDoor
open Go.RowKit Go.Lib
variable {G : Nat}

def textF (q : Rat) : List UInt8 := textZ (nu q) ++ 47 :: textZ (de q)
/-- What stands before the first stroke, and behind it. -/
def cutS : List UInt8 → List UInt8 × List UInt8
  | [] => ([], [])
  | c :: r => if c = 47 then ([], r) else (c :: (cutS r).1, (cutS r).2)
theorem cut_slash (l : List UInt8) : (Lib.cut l [47]).1 = (cutS l).1 ∧ (Lib.cut l [47]).2.1 = (cutS l).2 := by
  induction l with
  | nil => exact ⟨rfl, rfl⟩
  | cons c r ih =>
    unfold Lib.cut at ih ⊢
    rw [Lib.index]
    by_cases hc : c = 47
    · subst hc
      have : ([47] : List UInt8).isPrefixOf (47 :: r) = true := by simp [List.isPrefixOf]
      rw [if_pos this]
      simp [cutS]
    · have : ([47] : List UInt8).isPrefixOf (c :: r) = false := by simp [List.isPrefixOf]; intro h; exact hc h.symm
      rw [this, cutS, if_neg hc]
      have hge := Lib.index_ge r [47]
      by_cases h1 : Lib.index r [47] = -1
      · rw [h1] at ih ⊢
        simp at ih ⊢
        rw [← ih.1, ← ih.2]; exact ⟨rfl, rfl⟩
      · have h2 : (Lib.index r [47] == -1) = false := by rw [beq_eq_false_iff_ne]; exact h1
        rw [h2]
        rw [if_pos (by omega)] at ih
        simp only [Bool.false_eq_true, if_false]
        rw [if_pos (by omega)]
        have h3 : (Lib.index r [47] + 1).toNat = (Lib.index r [47]).toNat + 1 := by omega
        rw [h3]
        simp at ih ⊢
        exact ih
theorem cutS_mk {a b : List UInt8} (h : ∀ c ∈ a, c ≠ 47) : cutS (a ++ 47 :: b) = (a, b) := by
  induction a with
  | nil => simp [cutS]
  | cons c r ih =>
    rw [List.cons_append, cutS, if_neg (h c (by simp)), ih (fun d hd => h d (by simp [hd]))]
theorem cutS_len (l : List UInt8) : (cutS l).1.length ≤ l.length ∧ (cutS l).2.length ≤ l.length := by
  induction l with
  | nil => simp [cutS]
  | cons c r ih =>
    rw [cutS]
    split
    · simp
    · simp; omega
def rightP (p q : Int) : Bool := decide (0 < q) && decide (Nat.gcd p.natAbs q.natAbs = 1)
/-- The fraction that a text is. -/
def readF (l : List UInt8) : Option Rat :=
  match readO (cutS l).1, readO (cutS l).2 with
  | some p, some q => if (rightP p q && (textZ p ++ 47 :: textZ q == l)) = true then some (Rat.divInt p q) else none
  | _, _ => none
def rfE (l : List UInt8) : Int := if (readF l).isSome = true then 0 else 2
theorem rightP_parts {p q : Int} (h : rightP p q = true) : nu (Rat.divInt p q) = p ∧ de (Rat.divInt p q) = q := by
  unfold rightP at h
  rw [Bool.and_eq_true] at h
  have h1 := of_decide_eq_true h.1
  have h2 := of_decide_eq_true h.2
  obtain ⟨g, hg0, hg, e1, e2⟩ := new_parts (x := p) h1
  have : g = 1 := by omega
  subst this
  rw [Int.one_mul] at e1 e2
  exact ⟨e1.symm, e2.symm⟩
theorem rightP_rat (q : Rat) : rightP (nu q) (de q) = true := by
  unfold rightP
  rw [Bool.and_eq_true]
  exact ⟨decide_eq_true (de_pos q), decide_eq_true (gcd_parts q)⟩
theorem text_noslash (x : Int) : ∀ c ∈ textZ x, c ≠ 47 := by
  have hd : ∀ c ∈ decDigits x.natAbs, c ≠ 47 := by
    intro c hc h
    have := dec_digits x.natAbs c hc
    rw [h] at this; revert this; decide
  unfold textZ
  split
  · intro c hc
    rcases List.mem_cons.1 hc with rfl | hc
    · decide
    · exact hd c hc
  · exact hd
theorem readF_text (q : Rat) : readF (textF q) = some q := by
  unfold readF textF
  rw [cutS_mk (text_noslash _)]
  simp only [readO_text]
  rw [rightP_rat, Bool.true_and, if_pos (by simp), divInt_parts]
theorem readF_is {l : List UInt8} {q : Rat} (h : readF l = some q) : textF q = l := by
  unfold readF at h
  split at h
  · split at h
    · rename_i hc
      rw [Bool.and_eq_true] at hc
      have hp := rightP_parts hc.1
      rw [← Option.some.inj h]
      unfold textF
      rw [hp.1, hp.2]
      simpa using hc.2
    · cases h
  · cases h
theorem textF_inj {q r : Rat} (h : textF q = textF r) : q = r := by
  have := readF_text q
  rw [h, readF_text] at this
  exact (Option.some.inj this).symm
theorem textZ_len {x : Int} {n : Nat} (h : Sz x n) (hn : 0 < n) : (textZ x).length ≤ 10 * n + 1 := by
  have := dec_len h hn
  unfold textZ
  split
  · simp; omega
  · omega
theorem str_eta (S : ByteArray) : S = ⟨S.data.toList.toArray⟩ := by cases S; simp
theorem rd_size {l : List UInt8} {n : Nat} (h : l.length ≤ n) : Sz (rdZ l) n := by
  unfold rdZ
  cases ho : readO l with
  | none => exact (show (digs 0).length ≤ n from Nat.zero_le _)
  | some z =>
    show Sz z n
    have ht : textZ z = l := by
      have := text_read (l := l) (by unfold rdE; rw [ho]; rfl)
      unfold rdZ at this; rw [ho] at this; exact this
    have h1 : decVal (decDigits z.natAbs) < 10 ^ (decDigits z.natAbs).length := decVal_lt _ (all_dec _)
    rw [decVal_dec] at h1
    have h2 : (decDigits z.natAbs).length ≤ n := by
      have : (textZ z).length ≤ n := by rw [ht]; exact h
      unfold textZ at this
      split at this
      · simp at this; omega
      · exact this
    refine digs_len_of_lt (Nat.lt_of_lt_of_le h1 ?_)
    exact Nat.le_trans (Nat.pow_le_pow_right (by decide) h2) (Nat.pow_le_pow_left (by decide) n)
theorem bigText_lit {x : Int} {s : ByteArray} {a1 : Option Addr} {c1 : Nat} {w : World} (h1 : BD G w a1 c1 x) (hX : Sz x 1073741824) (ht : Tab w) (hs : (⟨(textZ x).toArray⟩ : ByteArray) = s) :
    Calls Tryz.prog 73 #[.agg #[.int .i64 (sg x), .slice a1 (ln x) c1]] w fun e w' => e = .returned (.string s) ∧ Below w.heap.size w w' := by
  subst hs; exact bigText_ok h1 hX ht
/-- The search's own variable holds some int. -/
def Mx (w : World) : Prop := ∃ m, w.cell? ⟨0, 0, none⟩ = some (.int .i64 m)
theorem Mx.keep {w w' : World} (h : Mx w) (hb : Below w.heap.size w w') : Mx w' := by
  obtain ⟨m, hm⟩ := h
  refine ⟨m, ?_⟩
  rcases Nat.lt_or_ge 0 w.heap.size with h' | h'
  · exact (hb.cell (p := ⟨0, 0, none⟩) h').trans hm
  · simp [World.cell?, Array.getElem?_eq_none h'] at hm
instance {w w' : World} : Goes (Mx w) w w' (Mx w') := ⟨fun h hb => h.keep hb⟩
theorem cut_is {S A B : ByteArray} {l : List UInt8} {w : World} (hm : Mx w) (hS : S = ⟨l.toArray⟩) (hn : l.length ≤ 1000000) (hA : (⟨(cutS l).1.toArray⟩ : ByteArray) = A) (hB : (⟨(cutS l).2.toArray⟩ : ByteArray) = B) :
    Calls Tryz.prog 57 #[.string S, .string {data := #[47]}] w fun e w' => ∃ b, e = .returned (.tuple #[.string A, .string B, .bool b]) ∧ Below w.heap.size w w' := by
  subst hS hA hB
  obtain ⟨m, hm⟩ := hm
  refine (Tryz.strings_Cut _ _ m w (by simp [ByteArray.size]; omega) hm).mono ?_
  rintro e w' ⟨rfl, n, rfl⟩
  have h := cut_slash l
  refine ⟨(Lib.cut l [47]).2.2, ?_, below_drewN (Below.refl _ _) n⟩
  rw [← h.1, ← h.2]

set_option maxRecDepth 100000 in
set_option maxHeartbeats 4000000 in
theorem fracText_lit {q : Rat} {s : ByteArray} {a1 b1 : Option Addr} {c1 d1 : Nat} {w : World} (h1 : FD G w a1 c1 b1 d1 q) (hx : Fz q 1000) (ht : Tab w) (hs : (⟨(textF q).toArray⟩ : ByteArray) = s)  :
    Calls Tryz.prog 40 #[.agg #[.int .i64 (sg (nu q)), .slice a1 (ln (nu q)) c1, .int .i64 (sg (de q)), .slice b1 (ln (de q)) d1]] w fun e w' => e = .returned (.string s) ∧ Below w.heap.size w w' := by
  obtain ⟨S1, hS1⟩ : ∃ s : ByteArray, (⟨(textZ (nu q)).toArray⟩ : ByteArray) = s := ⟨_, rfl⟩
  obtain ⟨S2, hS2⟩ : ∃ s : ByteArray, (⟨(textZ (de q)).toArray⟩ : ByteArray) = s := ⟨_, rfl⟩
  obtain ⟨S3, hS3⟩ : ∃ s : ByteArray, S1 ++ {data := #[47]} = s := ⟨_, rfl⟩
  have hl1 := textZ_len hx.1 (by omega)
  have hl2 := textZ_len hx.2 (by omega)
  have hz1 : S1.size = (textZ (nu q)).length := by rw [← hS1]; simp [ByteArray.size]
  have hz2 : S2.size = (textZ (de q)).length := by rw [← hS2]; simp [ByteArray.size]
  have hS3' : S3 = ⟨(textZ (nu q) ++ [47]).toArray⟩ := by rw [← hS3, ← hS1]; exact ba_app _ [47]
  have hz3 : S3.size = (textZ (nu q)).length + 1 := by rw [hS3']; simp [ByteArray.size]
  have hcat1 : ¬ 9223372036854775807 < S1.size + 1 := by omega
  have hcat2 : ¬ 9223372036854775807 < S3.size + S2.size := by omega
  have hs4 : S3 ++ S2 = s := by
    rw [← hs, hS3', ← hS2]; unfold textF
    rw [ba_app, List.append_assoc]; rfl
  have HS1 := Lib.hid hS1; have HS2 := Lib.hid hS2
  have HX := Lib.hid hx
  clear hS1 hS2 hl1 hl2 hz1 hz2 hz3 hS3' hx hs
  have H1 : Hid (FD G w a1 c1 b1 d1 q) := h1
  have HT : Hid (Tab w) := ht
  clear h1 ht
  have M : Hid (Below w.heap.size w w) := Below.refl _ _
  go_enter Tryz.func40, Tryz.ntmps40
  go_upto_region 1 with fail
  obtain ⟨w1, hv⟩ : ∃ w_ : World, w_ = (w.alloc (.cells #[.int .i64 (sg (nu q)), .slice a1 (ln (nu q)) c1, .int .i64 (sg (de q)), .slice b1 (ln (de q)) d1] 26)) := ⟨_, rfl⟩
  rw [← hv]
  replace M := Lib.hid (And.intro (hv ▸ bx1 w 26 #[.int .i64 (sg (nu q)), .slice a1 (ln (nu q)) c1, .int .i64 (sg (de q)), .slice b1 (ln (de q)) d1]) (Goes.go M.out (hv ▸ below_alloc _ _ : Below w.heap.size w w1)))
  clear hv
  obtain ⟨p0_0, q0_0, p0_1, q0_1, p0_2, q0_2, p0_3, q0_3⟩ := (M.out.1).c4
  go_wp2_with fail
  clear p0_0 q0_0 p0_1 q0_1 p0_2 q0_2 p0_3 q0_3
  refine (fracRight_ok (G := G) (q := q) (H1.out.keep (M.out.2)) (Fz.mono HX.out (by omega))).mono ?_
  rintro e w2 ⟨rfl, hb⟩
  replace M := Lib.hid (Goes.go M.out hb)
  clear hb
  go_wp2_with fail
  obtain ⟨w3, hv⟩ : ∃ w_ : World, w_ = w2.drew := ⟨_, rfl⟩
  replace M := Lib.hid (Goes.go M.out (hv ▸ below_drew _ : Below w2.heap.size w2 w3))
  refine wp_region_held_drew (S := (fun w' => w'.cell? ⟨w.heap.size, 0, none⟩ = some (.int .i64 (sg (nu q))) ∧ w'.cell? ⟨w.heap.size, 1, none⟩ = some (.slice a1 (ln (nu q)) c1) ∧ w'.cell? ⟨w.heap.size, 2, none⟩ = some (.int .i64 (sg (de q))) ∧ w'.cell? ⟨w.heap.size, 3, none⟩ = some (.slice b1 (ln (de q)) d1))) (by kernel_rfl) (by rw [← hv]; exact ⟨(M.out.1).at.1 0, (M.out.1).at.1 1, (M.out.1).at.1 2, (M.out.1).at.1 3⟩) (fun hH1 => ?_)
  rw [← hv] at hH1 ⊢
  clear hv
  refine tk at0 ?_
  refine tk at1 ?_
  refine tk at4 ?_
  refine tk at5 ?_
  refine wpAnyH_ready (rs := [2]) (by kernel_rfl) (by simp) ?_
  refine AllReadyH.cons at2 (fun K hK => ?_) AllReadyH.nil
  go_simp
  refine (bigText_lit (G := G) (x := (nu q)) (s := S1) (H1.out.keep (M.out.2)).n (Sz.mono HX.out.1 (by omega)) (HT.out.keep (M.out.2)) HS1.out).mono ?_
  rintro e w4 ⟨rfl, hb⟩
  replace M := Lib.hid (Goes.go M.out hb)
  clear hb
  (try go_wp2_with fail)
  refine hK.out _ _ (⟨(M.out.1).at.1 0, (M.out.1).at.1 1, (M.out.1).at.1 2, (M.out.1).at.1 3⟩) (fun hH2 => ?_)
  clear hK K hH1
  (try simp only [Act.put, List.setIfInBounds_toArray, List.set_cons_zero, List.set_cons_succ])
  refine tk at3 ?_
  refine wpAnyH_ready (rs := [6]) (by kernel_rfl) (by simp) ?_
  refine AllReadyH.cons at6 (fun K hK => ?_) AllReadyH.nil
  go_simp
  refine (bigText_lit (G := G) (x := (de q)) (s := S2) (H1.out.keep (M.out.2)).d (Sz.mono HX.out.2 (by omega)) (HT.out.keep (M.out.2)) HS2.out).mono ?_
  rintro e w5 ⟨rfl, hb⟩
  replace M := Lib.hid (Goes.go M.out hb)
  clear hb
  (try go_wp2_with fail)
  refine hK.out _ _ (⟨(M.out.1).at.1 0, (M.out.1).at.1 1, (M.out.1).at.1 2, (M.out.1).at.1 3⟩) (fun hH3 => ?_)
  clear hK K hH2
  (try simp only [Act.put, List.setIfInBounds_toArray, List.set_cons_zero, List.set_cons_succ])
  refine tk at7 ?_
  refine tk at8 ?_
  refine wpAnyH_done (by kernel_rfl) ?_ _
  clear hH3
  go_wp2_with fail
  go_ret
  exact ⟨rfl, (M.out.2)⟩

theorem one_is {x : Int} {b_ : Bool} {a1 : Option Addr} {c1 : Nat} {w : World} (h1 : BD G w a1 c1 x) (hX : Sz x 1099511627776) (hb : oneB x = b_) :
    Calls Tryz.prog 67 #[.agg #[.int .i64 (sg x), .slice a1 (ln x) c1]] w fun e w' => e = .returned (.bool b_) ∧ Below w.heap.size w w' := by
  rw [← hb]; exact one_ok h1 hX
theorem rightP_sg {x y gv : Int} (h : ((Nat.gcd x.natAbs y.natAbs : Nat) : Int) = gv) : rightP x y = (sg y == 1 && oneB gv) := by
  unfold rightP oneB
  have h1 : decide (Nat.gcd x.natAbs y.natAbs = 1) = decide (gv = 1) := by apply decide_eq_decide.2; omega
  rw [h1]
  rcases Int.lt_trichotomy y 0 with h | h | h
  · rw [sg_neg h, decide_eq_false (by omega)]; rfl
  · subst h; rfl
  · rw [sg_pos h, decide_eq_true h]; rfl
theorem gcd_size {x y gv : Int} {n : Nat} (h : ((Nat.gcd x.natAbs y.natAbs : Nat) : Int) = gv) (hx : Sz x n) (hy : Sz y n) : Sz gv n := by
  rcases Nat.eq_zero_or_pos x.natAbs with h0 | h0
  · refine hy.le ?_
    rw [← h, h0]; simp
  · refine hx.le ?_
    have := Nat.gcd_le_left (m := x.natAbs) y.natAbs h0
    omega

set_option maxRecDepth 100000 in
set_option maxHeartbeats 4000000 in
theorem fracRight_bd {x y : Int} {b_ : Bool} {a1 b1 : Option Addr} {c1 d1 : Nat} {w : World} (h1 : BD G w a1 c1 x) (k1 : BD G w b1 d1 y) (hx : Sz x 549755813888) (hy : Sz y 549755813888) (hb : rightP x y = b_) :
    Calls Tryz.prog 25 #[.agg #[.int .i64 (sg x), .slice a1 (ln x) c1, .int .i64 (sg y), .slice b1 (ln y) d1]] w fun e w' => e = .returned (.bool b_) ∧ Below w.heap.size w w' := by
  obtain ⟨gv, hgv⟩ : ∃ g, ((Nat.gcd x.natAbs y.natAbs : Nat) : Int) = g := ⟨_, rfl⟩
  rw [rightP_sg hgv] at hb
  have HSG := Lib.hid (gcd_size hgv hx hy)
  obtain ⟨bs, hbs⟩ : ∃ b, (sg y != 1) = b := ⟨_, rfl⟩
  obtain ⟨bo, hbo⟩ : ∃ b, oneB gv = b := ⟨_, rfl⟩
  have HBR : Hid ((!bs && bo) = b_) := by show _ = _; rw [← hb, ← hbs, ← hbo]; show (!(!(sg y == 1)) && _) = _; rw [Bool.not_not]
  have HG := Lib.hid hgv; have HBO := Lib.hid hbo
  have HX := Lib.hid hx; have HY := Lib.hid hy
  clear hb hgv hbo hx hy
  have H1 : Hid (BD G w a1 c1 x) := h1
  have K1 : Hid (BD G w b1 d1 y) := k1
  clear h1 k1
  have M : Hid (Below w.heap.size w w) := Below.refl _ _
  go_enter Tryz.func25, Tryz.ntmps25
  go_upto_region 1 with fail
  obtain ⟨w1, hv⟩ : ∃ w_ : World, w_ = (w.alloc (.cells #[.int .i64 (sg x), .slice a1 (ln x) c1, .int .i64 (sg y), .slice b1 (ln y) d1] 26)) := ⟨_, rfl⟩
  rw [← hv]
  replace M := Lib.hid (And.intro (hv ▸ bx1 w 26 #[.int .i64 (sg x), .slice a1 (ln x) c1, .int .i64 (sg y), .slice b1 (ln y) d1]) (Goes.go M.out (hv ▸ below_alloc _ _ : Below w.heap.size w w1)))
  clear hv
  obtain ⟨p0_0, q0_0, p0_1, q0_1, p0_2, q0_2, p0_3, q0_3⟩ := (M.out.1).c4
  go_wp2_with fail
  clear p0_0 q0_0 p0_1 q0_1 p0_2 q0_2 p0_3 q0_3
  refine (bigRight_ok (G := G) (z := x) (H1.out.keep (M.out.2)) (Sz.mono HX.out (by omega))).mono ?_
  rintro e w2 ⟨rfl, hb⟩
  replace M := Lib.hid (Goes.go M.out hb)
  clear hb
  obtain ⟨p0_0, q0_0, p0_1, q0_1, p0_2, q0_2, p0_3, q0_3⟩ := (M.out.1).c4
  go_wp2_with fail
  clear p0_0 q0_0 p0_1 q0_1 p0_2 q0_2 p0_3 q0_3
  refine (bigRight_ok (G := G) (z := y) (K1.out.keep (M.out.2)) (Sz.mono HY.out (by omega))).mono ?_
  rintro e w3 ⟨rfl, hb⟩
  replace M := Lib.hid (Goes.go M.out hb)
  clear hb
  cases bs with
  | false =>
    obtain ⟨p0_0, q0_0, p0_1, q0_1, p0_2, q0_2, p0_3, q0_3⟩ := (M.out.1).c4
    go_wp2_with fail
    clear p0_0 q0_0 p0_1 q0_1 p0_2 q0_2 p0_3 q0_3
    refine (bigGcd_is' (G := G) (x := x) (y := y) (g := gv) (H1.out.keep (M.out.2)) (K1.out.keep (M.out.2)) HX.out HY.out HG.out).mono ?_
    rintro e w4 ⟨a_1, c_2, rfl, hd3, hb⟩
    replace M := Lib.hid (And.intro hd3 (Goes.go M.out hb))
    clear hb hd3
    go_upto_region 4 with fail
    obtain ⟨w5, hv⟩ : ∃ w_ : World, w_ = (w4.alloc (.cells #[.int .i64 (sg gv), .slice a_1 (ln gv) c_2] 24)) := ⟨_, rfl⟩
    rw [← hv]
    have o1 : w.heap.size < w4.heap.size := ((M.out.2.1)).lt
    replace M := Lib.hid (And.intro (hv ▸ bx1 w4 24 #[.int .i64 (sg gv), .slice a_1 (ln gv) c_2]) (Goes.go M.out (hv ▸ below_alloc _ _ : Below w4.heap.size w4 w5)))
    clear hv
    obtain ⟨p1_0, q1_0, p1_1, q1_1⟩ := (M.out.1).c2
    go_wp2_with fail
    clear p1_0 q1_0 p1_1 q1_1
    refine (one_is (G := G) (x := gv) (b_ := bo) (M.out.2.1) (Sz.mono HSG.out (by omega)) HBO.out).mono ?_
    rintro e w6 ⟨rfl, hb⟩
    replace M := Lib.hid (Goes.go M.out hb)
    clear hb
    go_wp2_with fail
    go_ret
    exact ⟨by rw [← HBR.out]; rfl, (M.out.2.2.2)⟩
  | true =>
    obtain ⟨p0_0, q0_0, p0_1, q0_1, p0_2, q0_2, p0_3, q0_3⟩ := (M.out.1).c4
    go_wp2_with fail
    clear p0_0 q0_0 p0_1 q0_1 p0_2 q0_2 p0_3 q0_3
    go_ret
    exact ⟨by rw [← HBR.out]; rfl, (M.out.2)⟩

theorem fracText_bd {x y : Int} {s : ByteArray} {a1 b1 : Option Addr} {c1 d1 : Nat} {w : World} (h1 : BD G w a1 c1 x) (k1 : BD G w b1 d1 y) (hx : Sz x 1000) (hy : Sz y 1000) (ht : Tab w) (hr : rightP x y = true) (hs : (⟨(textZ x ++ 47 :: textZ y).toArray⟩ : ByteArray) = s) :
    Calls Tryz.prog 40 #[.agg #[.int .i64 (sg x), .slice a1 (ln x) c1, .int .i64 (sg y), .slice b1 (ln y) d1]] w fun e w' => e = .returned (.string s) ∧ Below w.heap.size w w' := by
  obtain ⟨e1, e2⟩ := rightP_parts hr
  have := fracText_lit (G := G) (q := Rat.divInt x y) (s := s) (a1 := a1) (b1 := b1) (c1 := c1) (d1 := d1) (w := w) ⟨by rw [e1]; exact h1, by rw [e2]; exact k1⟩ ⟨by rw [e1]; exact hx, by rw [e2]; exact hy⟩ ht (by unfold textF; rw [e1, e2]; exact hs)
  rw [e1, e2] at this; exact this
theorem readF_parts {l : List UInt8} {p q er1 er2 : Int} {b1 b2 b3 b4 : Bool} {o : Option Rat} (hp : rdZ (cutS l).1 = p) (hq : rdZ (cutS l).2 = q) (h1 : rdE (cutS l).1 = er1) (h2 : rdE (cutS l).2 = er2) (k1 : (er1 == 0) = b1) (k2 : (er2 == 0) = b2) (k3 : rightP p q = b3) (k4 : ((textZ p ++ 47 :: textZ q) == l) = b4)
    (ho : readF l = o) : ((b1 && b2 && b3 && b4) = true → o = some (Rat.divInt p q) ∧ oN o = p ∧ oD o = q) ∧ ((b1 && b2 && b3 && b4) = false → o = none) := by
  subst hp hq h1 h2 k1 k2 k3 k4 ho
  unfold rdE rdZ readF
  cases c1 : readO (cutS l).1 with
  | none => simp
  | some x =>
    cases c2 : readO (cutS l).2 with
    | none => simp
    | some y =>
      simp only [Option.isSome_some, if_true, Option.getD_some]
      constructor
      · intro h
        have h' : (rightP x y && (textZ x ++ 47 :: textZ y == l)) = true := by simpa using h
        have hp := rightP_parts (Bool.and_eq_true _ _ ▸ h' : _ ∧ _).1
        simp only [if_pos h']
        exact ⟨trivial, hp.1, hp.2⟩
      · intro h
        have h' : ¬ (rightP x y && (textZ x ++ 47 :: textZ y == l)) = true := by simpa using h
        rw [if_neg h']

set_option maxRecDepth 100000 in
set_option maxHeartbeats 4000000 in
theorem fracRead_v {S : ByteArray} {l : List UInt8} {o : Option Rat} {er : Int} {w : World} (hG : G ≤ w.heap.size) (ht : Tab w) (hm : Mx w) (hS : S = ⟨l.toArray⟩) (hn : l.length ≤ 1000) (ho : readF l = o) (he : rfE l = er) :
    Calls Tryz.prog 21 #[.string S] w fun e w' => ∃ a c b d, e = .returned (.tuple #[.agg #[.int .i64 (sg (oN o)), .slice a (ln (oN o)) c, .int .i64 (sg (oD o)), .slice b (ln (oD o)) d], .int .i64 er]) ∧ BD G w' a c (oN o) ∧ BD G w' b d (oD o) ∧ Below w.heap.size w w' := by
  obtain ⟨A, hA⟩ : ∃ s : ByteArray, (⟨(cutS l).1.toArray⟩ : ByteArray) = s := ⟨_, rfl⟩
  obtain ⟨B, hB⟩ : ∃ s : ByteArray, (⟨(cutS l).2.toArray⟩ : ByteArray) = s := ⟨_, rfl⟩
  obtain ⟨p, hp⟩ : ∃ z, rdZ (cutS l).1 = z := ⟨_, rfl⟩
  obtain ⟨q, hq⟩ : ∃ z, rdZ (cutS l).2 = z := ⟨_, rfl⟩
  obtain ⟨er1, h1⟩ : ∃ z, rdE (cutS l).1 = z := ⟨_, rfl⟩
  obtain ⟨er2, h2⟩ : ∃ z, rdE (cutS l).2 = z := ⟨_, rfl⟩
  obtain ⟨b1, k1⟩ : ∃ b, (er1 == 0) = b := ⟨_, rfl⟩
  obtain ⟨b2, k2⟩ : ∃ b, (er2 == 0) = b := ⟨_, rfl⟩
  obtain ⟨b3, k3⟩ : ∃ b, rightP p q = b := ⟨_, rfl⟩
  obtain ⟨b4, k4⟩ : ∃ b, ((textZ p ++ 47 :: textZ q) == l) = b := ⟨_, rfl⟩
  obtain ⟨T, hT⟩ : ∃ s : ByteArray, (⟨(textZ p ++ 47 :: textZ q).toArray⟩ : ByteArray) = s := ⟨_, rfl⟩
  have kT : (T.toList == S.toList) = b4 := by rw [← k4, ← hT, hS, Lib.toList_data, Lib.toList_data]
  have HRF := Lib.hid (readF_parts hp hq h1 h2 k1 k2 k3 k4 ho)
  have HER : Hid ((o.isSome = true → er = 0) ∧ (o = none → er = 2)) := by
    show _ ∧ _
    rw [← he]; unfold rfE; rw [ho]
    exact ⟨fun h => by rw [if_pos h], fun h => by rw [h]; rfl⟩
  have hl := cutS_len l
  have HL1 : Hid ((cutS l).1.length ≤ 1000000) := by show _ ≤ _; omega
  have HL2 : Hid ((cutS l).2.length ≤ 1000000) := by show _ ≤ _; omega
  have HLN : Hid (l.length ≤ 1000000) := by show _ ≤ _; omega
  have HZP : Hid (Sz p 1000) := by show Sz _ _; rw [← hp]; exact rd_size (by omega)
  have HZQ : Hid (Sz q 1000) := by show Sz _ _; rw [← hq]; exact rd_size (by omega)
  have HS := Lib.hid hS; have HA := Lib.hid hA; have HB := Lib.hid hB; have HP := Lib.hid hp; have HQ := Lib.hid hq; have HE1 := Lib.hid h1; have HE2 := Lib.hid h2; have HR := Lib.hid k3; have HTX := Lib.hid hT
  clear hA hB hp hq h1 h2 k3 k4 hT hS hn ho he hl
  have HT : Hid (Tab w) := ht
  have HM : Hid (Mx w) := hm
  clear ht hm
  have M : Hid (Below w.heap.size w w) := Below.refl _ _
  go_enter Tryz.func21, Tryz.ntmps21
  go_upto_region 1 with fail
  obtain ⟨w1, hv⟩ : ∃ w_ : World, w_ = (w.alloc (.cells #[.int .i64 0, .slice none 0 0, .int .i64 0, .slice none 0 0] 26)) := ⟨_, rfl⟩
  rw [← hv]
  replace M := Lib.hid (And.intro (hv ▸ bx1 w 26 #[.int .i64 0, .slice none 0 0, .int .i64 0, .slice none 0 0]) (Goes.go M.out (hv ▸ below_alloc _ _ : Below w.heap.size w w1)))
  clear hv
  go_wp2_with fail
  refine (cut_is (S := S) (A := A) (B := B) (HM.out.keep (M.out.2)) HS.out HLN.out HA.out HB.out).mono ?_
  rintro e w2 ⟨b_1, rfl, hb⟩
  replace M := Lib.hid (Goes.go M.out hb)
  clear hb
  go_wp2_with fail
  refine (bigRead_v (G := G) (S := A) (z := p) (er := er1) HA.out.symm HL1.out HP.out HE1.out).mono ?_
  rintro e w3 ⟨a_2, c_3, rfl, hd4, hb⟩
  replace M := Lib.hid (And.intro hd4 (Goes.go M.out hb))
  clear hb hd4
  go_upto_region 3 with fail
  obtain ⟨w4, hv⟩ : ∃ w_ : World, w_ = (w3.alloc (.cells #[.int .i64 (sg p), .slice a_2 (ln p) c_3] 24)) := ⟨_, rfl⟩
  rw [← hv]
  have o1 : w.heap.size < w3.heap.size := ((M.out.2.1)).lt
  replace M := Lib.hid (And.intro (hv ▸ bx1 w3 24 #[.int .i64 (sg p), .slice a_2 (ln p) c_3]) (Goes.go M.out (hv ▸ below_alloc _ _ : Below w3.heap.size w3 w4)))
  clear hv
  go_wp2_with fail
  refine (bigRead_v (G := G) (S := B) (z := q) (er := er2) HB.out.symm HL2.out HQ.out HE2.out).mono ?_
  rintro e w5 ⟨a_5, c_6, rfl, hd7, hb⟩
  replace M := Lib.hid (And.intro hd7 (Goes.go M.out hb))
  clear hb hd7
  go_upto_region 4 with fail
  obtain ⟨w6, hv⟩ : ∃ w_ : World, w_ = (w5.alloc (.cells #[.int .i64 (sg q), .slice a_5 (ln q) c_6] 24)) := ⟨_, rfl⟩
  rw [← hv]
  have o2 : w3.heap.size < w5.heap.size := ((M.out.2.1)).lt
  replace M := Lib.hid (And.intro (hv ▸ bx1 w5 24 #[.int .i64 (sg q), .slice a_5 (ln q) c_6]) (Goes.go M.out (hv ▸ below_alloc _ _ : Below w5.heap.size w5 w6)))
  clear hv
  obtain ⟨p1_0, q1_0, p1_1, q1_1⟩ := (M.out.2.2.1).c2
  have z1 : w3.heap.size < w6.heap.size := (M.out.2.2.1).lt
  obtain ⟨p2_0, q2_0, p2_1, q2_1⟩ := (M.out.1).c2
  have z2 : w5.heap.size < w6.heap.size := (M.out.1).lt
  go_upto_region 5 with fail
  clear p1_0 q1_0 p1_1 q1_1 z1 p2_0 q2_0 p2_1 q2_1 z2
  obtain ⟨w7, hv⟩ : ∃ w_ : World, w_ = (w6.alloc (.cells #[.int .i64 (sg p), .slice a_2 (ln p) c_3, .int .i64 (sg q), .slice a_5 (ln q) c_6] 26)) := ⟨_, rfl⟩
  rw [← hv]
  have o3 : w5.heap.size < w6.heap.size := ((M.out.1)).lt
  replace M := Lib.hid (And.intro (hv ▸ bx1 w6 26 #[.int .i64 (sg p), .slice a_2 (ln p) c_3, .int .i64 (sg q), .slice a_5 (ln q) c_6]) (Goes.go M.out (hv ▸ below_alloc _ _ : Below w6.heap.size w6 w7)))
  clear hv
  cases b1 with
  | false =>
    obtain ⟨p0_0, q0_0, p0_1, q0_1, p0_2, q0_2, p0_3, q0_3⟩ := (M.out.2.2.2.2.2.1).c4
    go_wp2_with fail
    clear p0_0 q0_0 p0_1 q0_1 p0_2 q0_2 p0_3 q0_3
    obtain ⟨w8, hv⟩ : ∃ w_ : World, w_ = ((((w7.setCell ⟨w.heap.size, 0, none⟩ (.int .i64 0)).setCell ⟨w.heap.size, 1, none⟩ (.slice none 0 0)).setCell ⟨w.heap.size, 2, none⟩ (.int .i64 0)).setCell ⟨w.heap.size, 3, none⟩ (.slice none 0 0)) := ⟨_, rfl⟩
    rw [← hv]
    have og : w7.grownBy w8 (some w.heap.size) := by rw [hv]; exact (only_setCell (only_setCell (only_setCell (only_setCell (World.grownBy.refl _ _) _) _) _) _)
    have hz : w.heap.size ≤ w.heap.size := by exact Nat.le_refl _
    have hk : Bx w8 w.heap.size 26 #[.int .i64 0, .slice none 0 0, .int .i64 0, .slice none 0 0] := by rw [hv]; exact (((((M.out.2.2.2.2.2.1).set 0 _).set 1 _).set 2 _).set 3 _)
    have hbw : Below w.heap.size w w8 := by rw [hv]; exact (Below.setCell (Below.setCell (Below.setCell (Below.setCell (M.out.2.2.2.2.2.2) (by omega) _) (by omega) _) (by omega) _) (by omega) _)
    replace M := Lib.hid (And.intro ((M.out.1).only og (by omega)) (And.intro ((M.out.2.1).only og (by omega)) (And.intro ((M.out.2.2.1).far (M.out.2.2.2.2.2.1) (by rfl) (by omega) og) (And.intro ((M.out.2.2.2.1).only og (by omega)) (And.intro ((M.out.2.2.2.2.1).far (M.out.2.2.2.2.2.1) (by rfl) (by omega) og) (And.intro hk hbw))))))
    clear hk hbw og hv hz
    have HO := HRF.out.2 (by rfl)
    have HE := HER.out.2 HO
    rw [HO, HE]
    refine bodyPost_ret (results_box2 rfl _ _ w.heap.size 26 _ _ _ rfl (M.out.2.2.2.2.2.1) Tryz.underlying26 rfl (by kernel_rfl)) rfl ?_
    exact ⟨_, _, _, _, rfl, (bd_zero _ _ _), (bd_zero _ _ _), (M.out.2.2.2.2.2.2)⟩
  | true =>
    cases b2 with
    | false =>
      obtain ⟨p0_0, q0_0, p0_1, q0_1, p0_2, q0_2, p0_3, q0_3⟩ := (M.out.2.2.2.2.2.1).c4
      go_wp2_with fail
      clear p0_0 q0_0 p0_1 q0_1 p0_2 q0_2 p0_3 q0_3
      obtain ⟨w8, hv⟩ : ∃ w_ : World, w_ = ((((w7.setCell ⟨w.heap.size, 0, none⟩ (.int .i64 0)).setCell ⟨w.heap.size, 1, none⟩ (.slice none 0 0)).setCell ⟨w.heap.size, 2, none⟩ (.int .i64 0)).setCell ⟨w.heap.size, 3, none⟩ (.slice none 0 0)) := ⟨_, rfl⟩
      rw [← hv]
      have og : w7.grownBy w8 (some w.heap.size) := by rw [hv]; exact (only_setCell (only_setCell (only_setCell (only_setCell (World.grownBy.refl _ _) _) _) _) _)
      have hz : w.heap.size ≤ w.heap.size := by exact Nat.le_refl _
      have hk : Bx w8 w.heap.size 26 #[.int .i64 0, .slice none 0 0, .int .i64 0, .slice none 0 0] := by rw [hv]; exact (((((M.out.2.2.2.2.2.1).set 0 _).set 1 _).set 2 _).set 3 _)
      have hbw : Below w.heap.size w w8 := by rw [hv]; exact (Below.setCell (Below.setCell (Below.setCell (Below.setCell (M.out.2.2.2.2.2.2) (by omega) _) (by omega) _) (by omega) _) (by omega) _)
      replace M := Lib.hid (And.intro ((M.out.1).only og (by omega)) (And.intro ((M.out.2.1).only og (by omega)) (And.intro ((M.out.2.2.1).far (M.out.2.2.2.2.2.1) (by rfl) (by omega) og) (And.intro ((M.out.2.2.2.1).only og (by omega)) (And.intro ((M.out.2.2.2.2.1).far (M.out.2.2.2.2.2.1) (by rfl) (by omega) og) (And.intro hk hbw))))))
      clear hk hbw og hv hz
      have HO := HRF.out.2 (by rfl)
      have HE := HER.out.2 HO
      rw [HO, HE]
      refine bodyPost_ret (results_box2 rfl _ _ w.heap.size 26 _ _ _ rfl (M.out.2.2.2.2.2.1) Tryz.underlying26 rfl (by kernel_rfl)) rfl ?_
      exact ⟨_, _, _, _, rfl, (bd_zero _ _ _), (bd_zero _ _ _), (M.out.2.2.2.2.2.2)⟩
    | true =>
      obtain ⟨p3_0, q3_0, p3_1, q3_1, p3_2, q3_2, p3_3, q3_3⟩ := (M.out.1).c4
      go_wp2_with fail
      clear p3_0 q3_0 p3_1 q3_1 p3_2 q3_2 p3_3 q3_3
      refine (fracRight_bd (G := G) (x := p) (y := q) (b_ := b3) (M.out.2.2.2.2.1) (M.out.2.2.1) (Sz.mono HZP.out (by omega)) (Sz.mono HZQ.out (by omega)) HR.out).mono ?_
      rintro e w8 ⟨rfl, hb⟩
      replace M := Lib.hid (Goes.go M.out hb)
      clear hb
      cases b3 with
      | false =>
        obtain ⟨p0_0, q0_0, p0_1, q0_1, p0_2, q0_2, p0_3, q0_3⟩ := (M.out.2.2.2.2.2.1).c4
        go_wp2_with fail
        clear p0_0 q0_0 p0_1 q0_1 p0_2 q0_2 p0_3 q0_3
        obtain ⟨w9, hv⟩ : ∃ w_ : World, w_ = ((((w8.setCell ⟨w.heap.size, 0, none⟩ (.int .i64 0)).setCell ⟨w.heap.size, 1, none⟩ (.slice none 0 0)).setCell ⟨w.heap.size, 2, none⟩ (.int .i64 0)).setCell ⟨w.heap.size, 3, none⟩ (.slice none 0 0)) := ⟨_, rfl⟩
        rw [← hv]
        have og : w8.grownBy w9 (some w.heap.size) := by rw [hv]; exact (only_setCell (only_setCell (only_setCell (only_setCell (World.grownBy.refl _ _) _) _) _) _)
        have hz : w.heap.size ≤ w.heap.size := by exact Nat.le_refl _
        have hk : Bx w9 w.heap.size 26 #[.int .i64 0, .slice none 0 0, .int .i64 0, .slice none 0 0] := by rw [hv]; exact (((((M.out.2.2.2.2.2.1).set 0 _).set 1 _).set 2 _).set 3 _)
        have hbw : Below w.heap.size w w9 := by rw [hv]; exact (Below.setCell (Below.setCell (Below.setCell (Below.setCell (M.out.2.2.2.2.2.2) (by omega) _) (by omega) _) (by omega) _) (by omega) _)
        replace M := Lib.hid (And.intro ((M.out.1).only og (by omega)) (And.intro ((M.out.2.1).only og (by omega)) (And.intro ((M.out.2.2.1).far (M.out.2.2.2.2.2.1) (by rfl) (by omega) og) (And.intro ((M.out.2.2.2.1).only og (by omega)) (And.intro ((M.out.2.2.2.2.1).far (M.out.2.2.2.2.2.1) (by rfl) (by omega) og) (And.intro hk hbw))))))
        clear hk hbw og hv hz
        have HO := HRF.out.2 (by rfl)
        have HE := HER.out.2 HO
        rw [HO, HE]
        refine bodyPost_ret (results_box2 rfl _ _ w.heap.size 26 _ _ _ rfl (M.out.2.2.2.2.2.1) Tryz.underlying26 rfl (by kernel_rfl)) rfl ?_
        exact ⟨_, _, _, _, rfl, (bd_zero _ _ _), (bd_zero _ _ _), (M.out.2.2.2.2.2.2)⟩
      | true =>
        obtain ⟨p3_0, q3_0, p3_1, q3_1, p3_2, q3_2, p3_3, q3_3⟩ := (M.out.1).c4
        go_wp2_with fail
        clear p3_0 q3_0 p3_1 q3_1 p3_2 q3_2 p3_3 q3_3
        refine (fracText_bd (G := G) (x := p) (y := q) (s := T) (M.out.2.2.2.2.1) (M.out.2.2.1) HZP.out HZQ.out (HT.out.keep (M.out.2.2.2.2.2.2)) (HR.out.trans (by rfl)) HTX.out).mono ?_
        rintro e w9 ⟨rfl, hb⟩
        replace M := Lib.hid (Goes.go M.out hb)
        clear hb
        cases b4 with
        | false =>
          obtain ⟨p0_0, q0_0, p0_1, q0_1, p0_2, q0_2, p0_3, q0_3⟩ := (M.out.2.2.2.2.2.1).c4
          go_wp2_with fail
          clear p0_0 q0_0 p0_1 q0_1 p0_2 q0_2 p0_3 q0_3
          obtain ⟨w10, hv⟩ : ∃ w_ : World, w_ = ((((w9.setCell ⟨w.heap.size, 0, none⟩ (.int .i64 0)).setCell ⟨w.heap.size, 1, none⟩ (.slice none 0 0)).setCell ⟨w.heap.size, 2, none⟩ (.int .i64 0)).setCell ⟨w.heap.size, 3, none⟩ (.slice none 0 0)) := ⟨_, rfl⟩
          rw [← hv]
          have og : w9.grownBy w10 (some w.heap.size) := by rw [hv]; exact (only_setCell (only_setCell (only_setCell (only_setCell (World.grownBy.refl _ _) _) _) _) _)
          have hz : w.heap.size ≤ w.heap.size := by exact Nat.le_refl _
          have hk : Bx w10 w.heap.size 26 #[.int .i64 0, .slice none 0 0, .int .i64 0, .slice none 0 0] := by rw [hv]; exact (((((M.out.2.2.2.2.2.1).set 0 _).set 1 _).set 2 _).set 3 _)
          have hbw : Below w.heap.size w w10 := by rw [hv]; exact (Below.setCell (Below.setCell (Below.setCell (Below.setCell (M.out.2.2.2.2.2.2) (by omega) _) (by omega) _) (by omega) _) (by omega) _)
          replace M := Lib.hid (And.intro ((M.out.1).only og (by omega)) (And.intro ((M.out.2.1).only og (by omega)) (And.intro ((M.out.2.2.1).far (M.out.2.2.2.2.2.1) (by rfl) (by omega) og) (And.intro ((M.out.2.2.2.1).only og (by omega)) (And.intro ((M.out.2.2.2.2.1).far (M.out.2.2.2.2.2.1) (by rfl) (by omega) og) (And.intro hk hbw))))))
          clear hk hbw og hv hz
          have HO := HRF.out.2 (by rfl)
          have HE := HER.out.2 HO
          rw [HO, HE]
          refine bodyPost_ret (results_box2 rfl _ _ w.heap.size 26 _ _ _ rfl (M.out.2.2.2.2.2.1) Tryz.underlying26 rfl (by kernel_rfl)) rfl ?_
          exact ⟨_, _, _, _, rfl, (bd_zero _ _ _), (bd_zero _ _ _), (M.out.2.2.2.2.2.2)⟩
        | true =>
          obtain ⟨p3_0, q3_0, p3_1, q3_1, p3_2, q3_2, p3_3, q3_3⟩ := (M.out.1).c4
          obtain ⟨p0_0, q0_0, p0_1, q0_1, p0_2, q0_2, p0_3, q0_3⟩ := (M.out.2.2.2.2.2.1).c4
          go_wp2_with fail
          clear p3_0 q3_0 p3_1 q3_1 p3_2 q3_2 p3_3 q3_3 p0_0 q0_0 p0_1 q0_1 p0_2 q0_2 p0_3 q0_3
          obtain ⟨w10, hv⟩ : ∃ w_ : World, w_ = ((((w9.setCell ⟨w.heap.size, 0, none⟩ (.int .i64 (sg p))).setCell ⟨w.heap.size, 1, none⟩ (.slice a_2 (ln p) c_3)).setCell ⟨w.heap.size, 2, none⟩ (.int .i64 (sg q))).setCell ⟨w.heap.size, 3, none⟩ (.slice a_5 (ln q) c_6)) := ⟨_, rfl⟩
          rw [← hv]
          have og : w9.grownBy w10 (some w.heap.size) := by rw [hv]; exact (only_setCell (only_setCell (only_setCell (only_setCell (World.grownBy.refl _ _) _) _) _) _)
          have hz : w.heap.size ≤ w.heap.size := by exact Nat.le_refl _
          have hk : Bx w10 w.heap.size 26 #[.int .i64 (sg p), .slice a_2 (ln p) c_3, .int .i64 (sg q), .slice a_5 (ln q) c_6] := by rw [hv]; exact (((((M.out.2.2.2.2.2.1).set 0 _).set 1 _).set 2 _).set 3 _)
          have hbw : Below w.heap.size w w10 := by rw [hv]; exact (Below.setCell (Below.setCell (Below.setCell (Below.setCell (M.out.2.2.2.2.2.2) (by omega) _) (by omega) _) (by omega) _) (by omega) _)
          replace M := Lib.hid (And.intro ((M.out.1).only og (by omega)) (And.intro ((M.out.2.1).only og (by omega)) (And.intro ((M.out.2.2.1).far (M.out.2.2.2.2.2.1) (by rfl) (by omega) og) (And.intro ((M.out.2.2.2.1).only og (by omega)) (And.intro ((M.out.2.2.2.2.1).far (M.out.2.2.2.2.2.1) (by rfl) (by omega) og) (And.intro hk hbw))))))
          clear hk hbw og hv hz
          have HO := HRF.out.1 (by rfl)
          have HE := HER.out.1 (by rw [HO.1]; rfl)
          rw [HO.2.1, HO.2.2, HE]
          refine bodyPost_ret (results_box2 rfl _ _ w.heap.size 26 _ _ _ rfl (M.out.2.2.2.2.2.1) Tryz.underlying26 rfl (by kernel_rfl)) rfl ?_
          exact ⟨a_2, c_3, a_5, c_6, rfl, (M.out.2.2.2.2.1), (M.out.2.2.1), (M.out.2.2.2.2.2.2)⟩

end Go.Proofs.YtcfmakpckdicjaaGreatDoor
