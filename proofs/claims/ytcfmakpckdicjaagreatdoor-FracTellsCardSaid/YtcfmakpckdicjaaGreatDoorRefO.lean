/- Walks of the verifier's reference: fractions: making, products, quotients, opposites, the lesser one, the integral part. -/
import Derived.Test.YtcfmakpckdicjaaGreatDoorBase
import Derived.Test.YtcfmakpckdicjaaGreatDoorBigSpec
import Derived.Test.YtcfmakpckdicjaaGreatDoorBigA
import Derived.Test.YtcfmakpckdicjaaGreatDoorBigB
import Derived.Test.YtcfmakpckdicjaaGreatDoorBigC
import Derived.Test.YtcfmakpckdicjaaGreatDoorBigD
import Derived.Test.YtcfmakpckdicjaaGreatDoorBigK
import Derived.Test.YtcfmakpckdicjaaGreatDoorBigL
import Derived.Test.YtcfmakpckdicjaaGreatDoorBigQ
import Derived.Test.YtcfmakpckdicjaaGreatDoorFracA
import Derived.Test.YtcfmakpckdicjaaGreatDoorRefE
import Derived.Test.YtcfmakpckdicjaaGreatDoorRefJ
import Derived.Test.YtcfmakpckdicjaaGreatDoorRefN
import Derived.Test.YtcfmakpckdicjaaGreatDoorFz
import Derived.Test.YtcfmakpckdicjaaGreatDoorHeld
import Derived.Test.YtcfmakpckdicjaaGreatDoorAw
import Derived.Test.YtcfmakpckdicjaaGreatDoorFracD
import Derived.Test.YtcfmakpckdicjaaGreatDoorBigDec
import Derived.Test.YtcfmakpckdicjaaGreatDoorBigRead
import Derived.Test.YtcfmakpckdicjaaGreatDoorBigRead3
import Derived.Test.YtcfmakpckdicjaaGreatDoorProg
import Derived.Test.YtcfmakpckdicjaaGreatDoorShelf
import Derived.WalkKit
import Derived.WalkSpells
import Derived.WalkLawsBesides
import Derived.Handy
import Derived.Lib.Hide
import Derived.Lib.Strings
import Derived.Lib.Builder
import Derived.BigQuiet
import Derived.OwnWalk
import Derived.Laws.BitsLemmas
import Derived.WalkSmall
import Derived.Deep.QuietTactic
import Derived.StillTailTactics
import Derived.Maps.AppendAt
import Derived.IntWalk
import Derived.Deep.RegionHeld3
import Derived.Deep.DeepFit
import Derived.Deep.LoopGhost
import Derived.Deep.DeepCutAuto
import Derived.Lib.ItoaNum
import Derived.Lib.Repeat
import Derived.Lib.AppendIntMem
import Derived.Sort.OwnSorted
import Derived.Shelf.Strings.SlTrimAscii
import Derived.Lib.ConvBytes
import Derived.Lib.CutLaws
namespace Go.Proofs.YtcfmakpckdicjaaGreatDoor
open Go.RowKit Go.Lib
variable {G : Nat}

def textF (q : Rat) : List UInt8 := textZ (nu q) ++ 47 :: textZ (de q)
/-- What stands before the first stroke, and behind it. -/
def cutS : List UInt8 → List UInt8 × List UInt8
 | [] => ([], [])
 | c :: r => if c = 47 then ([], r) else (c :: (cutS r).1, (cutS r).2)
theorem cut_slash (l : List UInt8) : (Lib.cut l [47]).1 = (cutS l).1 ∧ (Lib.cut l [47]).2.1 = (cutS l).2 := by
  induction l with
  | nil => exact ⟨rfl, rfl⟩
  | cons c r ih =>
    unfold Lib.cut at ih ⊢
    rw [Lib.index]
    by_cases hc : c = 47
    · subst hc
      have : ([47] : List UInt8).isPrefixOf (47 :: r) = true := by simp [List.isPrefixOf]
      rw [if_pos this]
      simp [cutS]
    · have : ([47] : List UInt8).isPrefixOf (c :: r) = false := by simp [List.isPrefixOf]; intro h; exact hc h.symm
      rw [this, cutS, if_neg hc]
      have hge := Lib.index_ge r [47]
      by_cases h1 : Lib.index r [47] = -1
      · rw [h1] at ih ⊢
        simp at ih ⊢
        rw [← ih.1, ← ih.2]; exact ⟨rfl, rfl⟩
      · have h2 : (Lib.index r [47] == -1) = false := by rw [beq_eq_false_iff_ne]; exact h1
        rw [h2]
        rw [if_pos (by omega)] at ih
        simp only [Bool.false_eq_true, if_false]
        rw [if_pos (by omega)]
        have h3 : (Lib.index r [47] + 1).toNat = (Lib.index r [47]).toNat + 1 := by omega
        rw [h3]
        simp at ih ⊢
        exact ih
theorem cutS_mk {a b : List UInt8} (h : ∀ c ∈ a, c ≠ 47) : cutS (a ++ 47 :: b) = (a, b) := by
 induction a with
 | nil => simp [cutS]
 | cons c r ih =>
  rw [List.cons_append, cutS, if_neg (h c (by simp)), ih (fun d hd => h d (by simp [hd]))]
theorem cutS_len (l : List UInt8) : (cutS l).1.length ≤ l.length ∧ (cutS l).2.length ≤ l.length := by
  induction l with
  | nil => simp [cutS]
  | cons c r ih =>
    rw [cutS]
    split
    · simp
    · simp; omega
def rightP (p q : Int) : Bool := decide (0 < q) && decide (Nat.gcd p.natAbs q.natAbs = 1)
/-- The fraction that a text is. -/
def readF (l : List UInt8) : Option Rat :=
 match readO (cutS l).1, readO (cutS l).2 with
 | some p, some q => if (rightP p q && (textZ p ++ 47 :: textZ q == l)) = true then some (Rat.divInt p q) else none
 | _, _ => none
def rfE (l : List UInt8) : Int := if (readF l).isSome = true then 0 else 2
theorem rightP_parts {p q : Int} (h : rightP p q = true) : nu (Rat.divInt p q) = p ∧ de (Rat.divInt p q) = q := by
 unfold rightP at h
 rw [Bool.and_eq_true] at h
 have h1 := of_decide_eq_true h.1
 have h2 := of_decide_eq_true h.2
 obtain ⟨g, hg0, hg, e1, e2⟩ := new_parts (x := p) h1
 have : g = 1 := by omega
 subst this
 rw [Int.one_mul] at e1 e2
 exact ⟨e1.symm, e2.symm⟩
theorem rightP_rat (q : Rat) : rightP (nu q) (de q) = true := by
 unfold rightP
 rw [Bool.and_eq_true]
 exact ⟨decide_eq_true (de_pos q), decide_eq_true (gcd_parts q)⟩
theorem text_noslash (x : Int) : ∀ c ∈ textZ x, c ≠ 47 := by
  have hd : ∀ c ∈ decDigits x.natAbs, c ≠ 47 := by
    intro c hc h
    have := dec_digits x.natAbs c hc
    rw [h] at this; revert this; decide
  unfold textZ
  split
  · intro c hc
    rcases List.mem_cons.1 hc with rfl | hc
    · decide
    · exact hd c hc
  · exact hd
theorem readF_text (q : Rat) : readF (textF q) = some q := by
 unfold readF textF
 rw [cutS_mk (text_noslash _)]
 simp only [readO_text]
 rw [rightP_rat, Bool.true_and, if_pos (by simp), divInt_parts]
theorem textZ_len {x : Int} {n : Nat} (h : Sz x n) (hn : 0 < n) : (textZ x).length ≤ 10 * n + 1 := by
  have := dec_len h hn
  unfold textZ
  split
  · simp; omega
  · omega
theorem str_eta (S : ByteArray) : S = ⟨S.data.toList.toArray⟩ := by cases S; simp
theorem rd_size {l : List UInt8} {n : Nat} (h : l.length ≤ n) : Sz (rdZ l) n := by
  unfold rdZ
  cases ho : readO l with
  | none => exact (show (digs 0).length ≤ n from Nat.zero_le _)
  | some z =>
    show Sz z n
    have ht : textZ z = l := by
      have := text_read (l := l) (by unfold rdE; rw [ho]; rfl)
      unfold rdZ at this; rw [ho] at this; exact this
    have h1 : decVal (decDigits z.natAbs) < 10 ^ (decDigits z.natAbs).length := decVal_lt _ (all_dec _)
    rw [decVal_dec] at h1
    have h2 : (decDigits z.natAbs).length ≤ n := by
      have : (textZ z).length ≤ n := by rw [ht]; exact h
      unfold textZ at this
      split at this
      · simp at this; omega
      · exact this
    refine digs_len_of_lt (Nat.lt_of_lt_of_le h1 ?_)
    exact Nat.le_trans (Nat.pow_le_pow_right (by decide) h2) (Nat.pow_le_pow_left (by decide) n)
theorem bigText_lit {x : Int} {s : ByteArray} {a1 : Option Addr} {c1 : Nat} {w : World} (h1 : BD G w a1 c1 x) (hX : Sz x 1073741824) (ht : Tab w) (hs : (⟨(textZ x).toArray⟩ : ByteArray) = s) :
  Calls Tryz.prog 73 #[.agg #[.int .i64 (sg x), .slice a1 (ln x) c1]] w fun e w' => e = .returned (.string s) ∧ Below w.heap.size w w' := by
 subst hs; exact bigText_ok h1 hX ht
/-- The search's own variable holds some int. -/
def Mx (w : World) : Prop := ∃ m, w.cell? ⟨0, 0, none⟩ = some (.int .i64 m)
theorem Mx.keep {w w' : World} (h : Mx w) (hb : Below w.heap.size w w') : Mx w' := by
  obtain ⟨m, hm⟩ := h
  refine ⟨m, ?_⟩
  rcases Nat.lt_or_ge 0 w.heap.size with h' | h'
  · exact (hb.cell (p := ⟨0, 0, none⟩) h').trans hm
  · simp [World.cell?, Array.getElem?_eq_none h'] at hm
instance {w w' : World} : Goes (Mx w) w w' (Mx w') := ⟨fun h hb => h.keep hb⟩
theorem cut_is {S A B : ByteArray} {l : List UInt8} {w : World} (hm : Mx w) (hS : S = ⟨l.toArray⟩) (hn : l.length ≤ 1000000) (hA : (⟨(cutS l).1.toArray⟩ : ByteArray) = A) (hB : (⟨(cutS l).2.toArray⟩ : ByteArray) = B) :
    Calls Tryz.prog 57 #[.string S, .string {data := #[47]}] w fun e w' => ∃ b, e = .returned (.tuple #[.string A, .string B, .bool b]) ∧ Below w.heap.size w w' := by
  subst hS hA hB
  obtain ⟨m, hm⟩ := hm
  refine (Tryz.strings_Cut _ _ m w (by simp [ByteArray.size]; omega) hm).mono ?_
  rintro e w' ⟨rfl, n, rfl⟩
  have h := cut_slash l
  refine ⟨(Lib.cut l [47]).2.2, ?_, below_drewN (Below.refl _ _) n⟩
  rw [← h.1, ← h.2]
set_option maxRecDepth 100000 in
set_option maxHeartbeats 4000000 in
theorem fracText_lit {q : Rat} {s : ByteArray} {a1 b1 : Option Addr} {c1 d1 : Nat} {w : World} (h1 : FD G w a1 c1 b1 d1 q) (hx : Fz q 1000) (ht : Tab w) (hs : (⟨(textF q).toArray⟩ : ByteArray) = s)  :
    Calls Tryz.prog 40 #[.agg #[.int .i64 (sg (nu q)), .slice a1 (ln (nu q)) c1, .int .i64 (sg (de q)), .slice b1 (ln (de q)) d1]] w fun e w' => e = .returned (.string s) ∧ Below w.heap.size w w' := by
  obtain ⟨S1, hS1⟩ : ∃ s : ByteArray, (⟨(textZ (nu q)).toArray⟩ : ByteArray) = s := ⟨_, rfl⟩
  obtain ⟨S2, hS2⟩ : ∃ s : ByteArray, (⟨(textZ (de q)).toArray⟩ : ByteArray) = s := ⟨_, rfl⟩
  obtain ⟨S3, hS3⟩ : ∃ s : ByteArray, S1 ++ {data := #[47]} = s := ⟨_, rfl⟩
  have hl1 := textZ_len hx.1 (by omega)
  have hl2 := textZ_len hx.2 (by omega)
  have hz1 : S1.size = (textZ (nu q)).length := by rw [← hS1]; simp [ByteArray.size]
  have hz2 : S2.size = (textZ (de q)).length := by rw [← hS2]; simp [ByteArray.size]
  have hS3' : S3 = ⟨(textZ (nu q) ++ [47]).toArray⟩ := by rw [← hS3, ← hS1]; exact ba_app _ [47]
  have hz3 : S3.size = (textZ (nu q)).length + 1 := by rw [hS3']; simp [ByteArray.size]
  have hcat1 : ¬ 9223372036854775807 < S1.size + 1 := by omega
  have hcat2 : ¬ 9223372036854775807 < S3.size + S2.size := by omega
  have hs4 : S3 ++ S2 = s := by
    rw [← hs, hS3', ← hS2]; unfold textF
    rw [ba_app, List.append_assoc]; rfl
  have HS1 := Lib.hid hS1; have HS2 := Lib.hid hS2
  have HX := Lib.hid hx
  clear hS1 hS2 hl1 hl2 hz1 hz2 hz3 hS3' hx hs
  have H1 : Hid (FD G w a1 c1 b1 d1 q) := h1
  have HT : Hid (Tab w) := ht
  clear h1 ht
  have M : Hid (Below w.heap.size w w) := Below.refl _ _
  go_enter Tryz.func40, Tryz.ntmps40
  go_upto_region 1 with fail
  refine nmW (w.alloc (.cells #[.int .i64 (sg (nu q)), .slice a1 (ln (nu q)) c1, .int .i64 (sg (de q)), .slice b1 (ln (de q)) d1] 26)) fun w1 hv => ?_
  rw [← hv]
  replace M := alM hv M
  clear hv
  obtain ⟨aa, ab, ac, ad, ae, af, ag, ah⟩ := (M.out.1).c4
  go_wp2_with fail
  clear aa ab ac ad ae af ag ah
  refine (fracRight_ok (G := G) (q := q) (H1.out.keep (J1 M)) (Fz.mono HX.out (by omega))).mono ?_
  rintro e w2 ⟨rfl, hb⟩
  replace M := gnM hb M
  clear hb
  go_wp2_with fail
  refine nmW w2.drew fun w3 hv => ?_
  replace M := drM hv M
  refine wp_region_held_drew (S := (fun w' => w'.cell? ⟨w.heap.size, 0, none⟩ = some (.int .i64 (sg (nu q))) ∧ w'.cell? ⟨w.heap.size, 1, none⟩ = some (.slice a1 (ln (nu q)) c1) ∧ w'.cell? ⟨w.heap.size, 2, none⟩ = some (.int .i64 (sg (de q))) ∧ w'.cell? ⟨w.heap.size, 3, none⟩ = some (.slice b1 (ln (de q)) d1))) (by kernel_rfl) (by rw [← hv]; exact (M.out.1).d4) (fun hH1 => ?_)
  rw [← hv] at hH1 ⊢
  clear hv
  refine tk at0 ?_
  refine tk at1 ?_
  refine tk at4 ?_
  refine tk at5 ?_
  refine wpAnyH_ready (rs := [2]) (by kernel_rfl) (by simp) ?_
  refine AllReadyH.cons at2 (fun K hK => ?_) AllReadyH.nil
  go_simp
  refine (bigText_lit (G := G) (x := (nu q)) (s := S1) (H1.out.keep (J1 M)).n (Sz.mono HX.out.1 (by omega)) (HT.out.keep (J1 M)) HS1.out).mono ?_
  rintro e w4 ⟨rfl, hb⟩
  replace M := gnM hb M
  clear hb
  (try go_wp2_with fail)
  refine hK.out _ _ ((M.out.1).d4) (fun hH2 => ?_)
  clear hK K hH1
  (try simp only [Act.put, List.setIfInBounds_toArray, List.set_cons_zero, List.set_cons_succ])
  refine tk at3 ?_
  refine wpAnyH_ready (rs := [6]) (by kernel_rfl) (by simp) ?_
  refine AllReadyH.cons at6 (fun K hK => ?_) AllReadyH.nil
  go_simp
  refine (bigText_lit (G := G) (x := (de q)) (s := S2) (H1.out.keep (J1 M)).d (Sz.mono HX.out.2 (by omega)) (HT.out.keep (J1 M)) HS2.out).mono ?_
  rintro e w5 ⟨rfl, hb⟩
  replace M := gnM hb M
  clear hb
  (try go_wp2_with fail)
  refine hK.out _ _ ((M.out.1).d4) (fun hH3 => ?_)
  clear hK K hH2
  (try simp only [Act.put, List.setIfInBounds_toArray, List.set_cons_zero, List.set_cons_succ])
  refine tk at7 ?_
  refine tk at8 ?_
  refine wpAnyH_done (by kernel_rfl) ?_ _
  clear hH3
  go_wp2_with fail
  go_ret
  exact ⟨rfl, (J1 M)⟩
theorem one_is {x : Int} {b_ : Bool} {a1 : Option Addr} {c1 : Nat} {w : World} (h1 : BD G w a1 c1 x) (hX : Sz x 1099511627776) (hb : oneB x = b_) :
  Calls Tryz.prog 67 #[.agg #[.int .i64 (sg x), .slice a1 (ln x) c1]] w fun e w' => e = .returned (.bool b_) ∧ Below w.heap.size w w' := by
 rw [← hb]; exact one_ok h1 hX
theorem rightP_sg {x y gv : Int} (h : ((Nat.gcd x.natAbs y.natAbs : Nat) : Int) = gv) : rightP x y = (sg y == 1 && oneB gv) := by
  unfold rightP oneB
  have h1 : decide (Nat.gcd x.natAbs y.natAbs = 1) = decide (gv = 1) := by apply decide_eq_decide.2; omega
  rw [h1]
  rcases Int.lt_trichotomy y 0 with h | h | h
  · rw [sg_neg h, decide_eq_false (by omega)]; rfl
  · subst h; rfl
  · rw [sg_pos h, decide_eq_true h]; rfl
theorem gcd_size {x y gv : Int} {n : Nat} (h : ((Nat.gcd x.natAbs y.natAbs : Nat) : Int) = gv) (hx : Sz x n) (hy : Sz y n) : Sz gv n := by
  rcases Nat.eq_zero_or_pos x.natAbs with h0 | h0
  · refine hy.le ?_
    rw [← h, h0]; simp
  · refine hx.le ?_
    have := Nat.gcd_le_left (m := x.natAbs) y.natAbs h0
    omega
set_option maxRecDepth 100000 in
set_option maxHeartbeats 4000000 in
theorem fracRight_bd {x y : Int} {b_ : Bool} {a1 b1 : Option Addr} {c1 d1 : Nat} {w : World} (h1 : BD G w a1 c1 x) (k1 : BD G w b1 d1 y) (hx : Sz x 549755813888) (hy : Sz y 549755813888) (hb : rightP x y = b_) :
  Calls Tryz.prog 25 #[.agg #[.int .i64 (sg x), .slice a1 (ln x) c1, .int .i64 (sg y), .slice b1 (ln y) d1]] w fun e w' => e = .returned (.bool b_) ∧ Below w.heap.size w w' := by
 obtain ⟨gv, hgv⟩ : ∃ g, ((Nat.gcd x.natAbs y.natAbs : Nat) : Int) = g := ⟨_, rfl⟩
 rw [rightP_sg hgv] at hb
 have HSG := Lib.hid (gcd_size hgv hx hy)
 obtain ⟨bs, hbs⟩ : ∃ b, (sg y != 1) = b := ⟨_, rfl⟩
 obtain ⟨bo, hbo⟩ : ∃ b, oneB gv = b := ⟨_, rfl⟩
 have HBR : Hid ((!bs && bo) = b_) := by show _ = _; rw [← hb, ← hbs, ← hbo]; show (!(!(sg y == 1)) && _) = _; rw [Bool.not_not]
 have HG := Lib.hid hgv; have HBO := Lib.hid hbo
 have HX := Lib.hid hx; have HY := Lib.hid hy
 clear hb hgv hbo hx hy
 have H1 : Hid (BD G w a1 c1 x) := h1
 have K1 : Hid (BD G w b1 d1 y) := k1
 clear h1 k1
 have M : Hid (Below w.heap.size w w) := Below.refl _ _
 go_enter Tryz.func25, Tryz.ntmps25
 go_upto_region 1 with fail
 refine nmW (w.alloc (.cells #[.int .i64 (sg x), .slice a1 (ln x) c1, .int .i64 (sg y), .slice b1 (ln y) d1] 26)) fun w1 hv => ?_
 rw [← hv]
 replace M := alM hv M
 clear hv
 obtain ⟨aa, ab, ac, ad, ae, af, ag, ah⟩ := (M.out.1).c4
 go_wp2_with fail
 clear aa ab ac ad ae af ag ah
 refine (bigRight_ok (G := G) (z := x) (H1.out.keep (J1 M)) (Sz.mono HX.out (by omega))).mono ?_
 rintro e w2 ⟨rfl, hb⟩
 replace M := gnM hb M
 clear hb
 obtain ⟨aa, ab, ac, ad, ae, af, ag, ah⟩ := (M.out.1).c4
 go_wp2_with fail
 clear aa ab ac ad ae af ag ah
 refine (bigRight_ok (G := G) (z := y) (K1.out.keep (J1 M)) (Sz.mono HY.out (by omega))).mono ?_
 rintro e w3 ⟨rfl, hb⟩
 replace M := gnM hb M
 clear hb
 cases bs with
 | false =>
  obtain ⟨aa, ab, ac, ad, ae, af, ag, ah⟩ := (M.out.1).c4
  go_wp2_with fail
  clear aa ab ac ad ae af ag ah
  refine (bigGcd_is' (G := G) (x := x) (y := y) (g := gv) (H1.out.keep (J1 M)) (K1.out.keep (J1 M)) HX.out HY.out HG.out).mono ?_
  rintro e w4 ⟨a_1, c_2, rfl, hd3, hb⟩
  replace M := adM hd3 hb M
  clear hb hd3
  go_upto_region 4 with fail
  refine nmW (w4.alloc (.cells #[.int .i64 (sg gv), .slice a_1 (ln gv) c_2] 24)) fun w5 hv => ?_
  rw [← hv]
  have o1 : w.heap.size < w4.heap.size := ((J1 M).1).lt
  replace M := alM hv M
  clear hv
  obtain ⟨ai, aj, ak, al⟩ := (M.out.1).c2
  go_wp2_with fail
  clear ai aj ak al
  refine (one_is (G := G) (x := gv) (b_ := bo) (J1 M).1 (Sz.mono HSG.out (by omega)) HBO.out).mono ?_
  rintro e w6 ⟨rfl, hb⟩
  replace M := gnM hb M
  clear hb
  go_wp2_with fail
  go_ret
  exact ⟨by rw [← HBR.out]; rfl, (J3 M)⟩
 | true =>
  obtain ⟨aa, ab, ac, ad, ae, af, ag, ah⟩ := (M.out.1).c4
  go_wp2_with fail
  clear aa ab ac ad ae af ag ah
  go_ret
  exact ⟨by rw [← HBR.out]; rfl, (J1 M)⟩
theorem fracText_bd {x y : Int} {s : ByteArray} {a1 b1 : Option Addr} {c1 d1 : Nat} {w : World} (h1 : BD G w a1 c1 x) (k1 : BD G w b1 d1 y) (hx : Sz x 1000) (hy : Sz y 1000) (ht : Tab w) (hr : rightP x y = true) (hs : (⟨(textZ x ++ 47 :: textZ y).toArray⟩ : ByteArray) = s) :
  Calls Tryz.prog 40 #[.agg #[.int .i64 (sg x), .slice a1 (ln x) c1, .int .i64 (sg y), .slice b1 (ln y) d1]] w fun e w' => e = .returned (.string s) ∧ Below w.heap.size w w' := by
 obtain ⟨e1, e2⟩ := rightP_parts hr
 have := fracText_lit (G := G) (q := Rat.divInt x y) (s := s) (a1 := a1) (b1 := b1) (c1 := c1) (d1 := d1) (w := w) ⟨by rw [e1]; exact h1, by rw [e2]; exact k1⟩ ⟨by rw [e1]; exact hx, by rw [e2]; exact hy⟩ ht (by unfold textF; rw [e1, e2]; exact hs)
 rw [e1, e2] at this; exact this
theorem readF_parts {l : List UInt8} {p q er1 er2 : Int} {b1 b2 b3 b4 : Bool} {o : Option Rat} (hp : rdZ (cutS l).1 = p) (hq : rdZ (cutS l).2 = q) (h1 : rdE (cutS l).1 = er1) (h2 : rdE (cutS l).2 = er2) (k1 : (er1 == 0) = b1) (k2 : (er2 == 0) = b2) (k3 : rightP p q = b3) (k4 : ((textZ p ++ 47 :: textZ q) == l) = b4)
    (ho : readF l = o) : ((b1 && b2 && b3 && b4) = true → o = some (Rat.divInt p q) ∧ oN o = p ∧ oD o = q) ∧ ((b1 && b2 && b3 && b4) = false → o = none) := by
  subst hp hq h1 h2 k1 k2 k3 k4 ho
  unfold rdE rdZ readF
  cases c1 : readO (cutS l).1 with
  | none => simp
  | some x =>
    cases c2 : readO (cutS l).2 with
    | none => simp
    | some y =>
      simp only [Option.isSome_some, if_true, Option.getD_some]
      constructor
      · intro h
        have h' : (rightP x y && (textZ x ++ 47 :: textZ y == l)) = true := by simpa using h
        have hp := rightP_parts (Bool.and_eq_true _ _ ▸ h' : _ ∧ _).1
        simp only [if_pos h']
        exact ⟨trivial, hp.1, hp.2⟩
      · intro h
        have h' : ¬ (rightP x y && (textZ x ++ 47 :: textZ y == l)) = true := by simpa using h
        rw [if_neg h']
set_option maxRecDepth 100000 in
set_option maxHeartbeats 4000000 in
theorem fracRead_v {S : ByteArray} {l : List UInt8} {o : Option Rat} {er : Int} {w : World} (hG : G ≤ w.heap.size) (ht : Tab w) (hm : Mx w) (hS : S = ⟨l.toArray⟩) (hn : l.length ≤ 1000) (ho : readF l = o) (he : rfE l = er) :
  Calls Tryz.prog 21 #[.string S] w fun e w' => ∃ a c b d, e = .returned (.tuple #[.agg #[.int .i64 (sg (oN o)), .slice a (ln (oN o)) c, .int .i64 (sg (oD o)), .slice b (ln (oD o)) d], .int .i64 er]) ∧ BD G w' a c (oN o) ∧ BD G w' b d (oD o) ∧ Below w.heap.size w w' := by
 obtain ⟨A, hA⟩ : ∃ s : ByteArray, (⟨(cutS l).1.toArray⟩ : ByteArray) = s := ⟨_, rfl⟩
 obtain ⟨B, hB⟩ : ∃ s : ByteArray, (⟨(cutS l).2.toArray⟩ : ByteArray) = s := ⟨_, rfl⟩
 obtain ⟨p, hp⟩ : ∃ z, rdZ (cutS l).1 = z := ⟨_, rfl⟩
 obtain ⟨q, hq⟩ : ∃ z, rdZ (cutS l).2 = z := ⟨_, rfl⟩
 obtain ⟨er1, h1⟩ : ∃ z, rdE (cutS l).1 = z := ⟨_, rfl⟩
 obtain ⟨er2, h2⟩ : ∃ z, rdE (cutS l).2 = z := ⟨_, rfl⟩
 obtain ⟨b1, k1⟩ : ∃ b, (er1 == 0) = b := ⟨_, rfl⟩
 obtain ⟨b2, k2⟩ : ∃ b, (er2 == 0) = b := ⟨_, rfl⟩
 obtain ⟨b3, k3⟩ : ∃ b, rightP p q = b := ⟨_, rfl⟩
 obtain ⟨b4, k4⟩ : ∃ b, ((textZ p ++ 47 :: textZ q) == l) = b := ⟨_, rfl⟩
 obtain ⟨T, hT⟩ : ∃ s : ByteArray, (⟨(textZ p ++ 47 :: textZ q).toArray⟩ : ByteArray) = s := ⟨_, rfl⟩
 have kT : (T.toList == S.toList) = b4 := by rw [← k4, ← hT, hS, Lib.toList_data, Lib.toList_data]
 have HRF := Lib.hid (readF_parts hp hq h1 h2 k1 k2 k3 k4 ho)
 have HER : Hid ((o.isSome = true → er = 0) ∧ (o = none → er = 2)) := by
  show _ ∧ _
  rw [← he]; unfold rfE; rw [ho]
  exact ⟨fun h => by rw [if_pos h], fun h => by rw [h]; rfl⟩
 have hl := cutS_len l
 have HL1 : Hid ((cutS l).1.length ≤ 1000000) := by show _ ≤ _; omega
 have HL2 : Hid ((cutS l).2.length ≤ 1000000) := by show _ ≤ _; omega
 have HLN : Hid (l.length ≤ 1000000) := by show _ ≤ _; omega
 have HZP : Hid (Sz p 1000) := by show Sz _ _; rw [← hp]; exact rd_size (by omega)
 have HZQ : Hid (Sz q 1000) := by show Sz _ _; rw [← hq]; exact rd_size (by omega)
 have HS := Lib.hid hS; have HA := Lib.hid hA; have HB := Lib.hid hB; have HP := Lib.hid hp; have HQ := Lib.hid hq; have HE1 := Lib.hid h1; have HE2 := Lib.hid h2; have HR := Lib.hid k3; have HTX := Lib.hid hT
 clear hA hB hp hq h1 h2 k3 k4 hT hS hn ho he hl
 have HT : Hid (Tab w) := ht
 have HM : Hid (Mx w) := hm
 clear ht hm
 have M : Hid (Below w.heap.size w w) := Below.refl _ _
 go_enter Tryz.func21, Tryz.ntmps21
 go_upto_region 1 with fail
 refine nmW (w.alloc (.cells #[.int .i64 0, .slice none 0 0, .int .i64 0, .slice none 0 0] 26)) fun w1 hv => ?_
 rw [← hv]
 replace M := alM hv M
 clear hv
 go_wp2_with fail
 refine (cut_is (S := S) (A := A) (B := B) (HM.out.keep (J1 M)) HS.out HLN.out HA.out HB.out).mono ?_
 rintro e w2 ⟨b_1, rfl, hb⟩
 replace M := gnM hb M
 clear hb
 go_wp2_with fail
 refine (bigRead_v (G := G) (S := A) (z := p) (er := er1) HA.out.symm HL1.out HP.out HE1.out).mono ?_
 rintro e w3 ⟨a_2, c_3, rfl, hd4, hb⟩
 replace M := adM hd4 hb M
 clear hb hd4
 go_upto_region 3 with fail
 refine nmW (w3.alloc (.cells #[.int .i64 (sg p), .slice a_2 (ln p) c_3] 24)) fun w4 hv => ?_
 rw [← hv]
 have o1 : w.heap.size < w3.heap.size := ((J1 M).1).lt
 replace M := alM hv M
 clear hv
 go_wp2_with fail
 refine (bigRead_v (G := G) (S := B) (z := q) (er := er2) HB.out.symm HL2.out HQ.out HE2.out).mono ?_
 rintro e w5 ⟨a_5, c_6, rfl, hd7, hb⟩
 replace M := adM hd7 hb M
 clear hb hd7
 go_upto_region 4 with fail
 refine nmW (w5.alloc (.cells #[.int .i64 (sg q), .slice a_5 (ln q) c_6] 24)) fun w6 hv => ?_
 rw [← hv]
 have o2 : w3.heap.size < w5.heap.size := ((J1 M).1).lt
 replace M := alM hv M
 clear hv
 obtain ⟨aa, ab, ac, ad⟩ := (J2 M).1.c2
 have z1 : w3.heap.size < w6.heap.size := (J2 M).1.lt
 obtain ⟨ae, af, ag, ah⟩ := (M.out.1).c2
 have z2 : w5.heap.size < w6.heap.size := (M.out.1).lt
 go_upto_region 5 with fail
 clear aa ab ac ad z1 ae af ag ah z2
 refine nmW (w6.alloc (.cells #[.int .i64 (sg p), .slice a_2 (ln p) c_3, .int .i64 (sg q), .slice a_5 (ln q) c_6] 26)) fun w7 hv => ?_
 rw [← hv]
 have o3 : w5.heap.size < w6.heap.size := ((M.out.1)).lt
 replace M := alM hv M
 clear hv
 cases b1 with
 | false =>
  obtain ⟨ai, aj, ak, al, am, ao, ap, aq⟩ := (J5 M).1.c4
  go_wp2_with fail
  clear ai aj ak al am ao ap aq
  have hz : w.heap.size ≤ w.heap.size := by exact Nat.le_refl _
  refine st4W (.int .i64 0) (.slice none 0 0) (.int .i64 0) (.slice none 0 0) (J5 M).1 (J6 M) hz fun w8 hv og hk hbw => ?_
  rw [← hv]
  replace M := Lib.hid (aI ((M.out.1).only og (by omega)) (aI ((J1 M).1.only og (by omega)) (aI ((J2 M).1.far (J5 M).1 (by rfl) (by omega) og) (aI ((J3 M).1.only og (by omega)) (aI ((J4 M).1.far (J5 M).1 (by rfl) (by omega) og) (aI hk hbw))))))
  clear hk hbw og hv hz
  have HO := HRF.out.2 (by rfl)
  have HE := HER.out.2 HO
  rw [HO, HE]
  refine bodyPost_ret (results_box2 rfl _ _ w.heap.size 26 _ _ _ rfl (J5 M).1 Tryz.underlying26 rfl (by kernel_rfl)) rfl ?_
  exact ⟨_, _, _, _, rfl, (bd_zero _ _ _), (bd_zero _ _ _), (J6 M)⟩
 | true =>
  cases b2 with
  | false =>
   obtain ⟨ai, aj, ak, al, am, ao, ap, aq⟩ := (J5 M).1.c4
   go_wp2_with fail
   clear ai aj ak al am ao ap aq
   have hz : w.heap.size ≤ w.heap.size := by exact Nat.le_refl _
   refine st4W (.int .i64 0) (.slice none 0 0) (.int .i64 0) (.slice none 0 0) (J5 M).1 (J6 M) hz fun w8 hv og hk hbw => ?_
   rw [← hv]
   replace M := Lib.hid (aI ((M.out.1).only og (by omega)) (aI ((J1 M).1.only og (by omega)) (aI ((J2 M).1.far (J5 M).1 (by rfl) (by omega) og) (aI ((J3 M).1.only og (by omega)) (aI ((J4 M).1.far (J5 M).1 (by rfl) (by omega) og) (aI hk hbw))))))
   clear hk hbw og hv hz
   have HO := HRF.out.2 (by rfl)
   have HE := HER.out.2 HO
   rw [HO, HE]
   refine bodyPost_ret (results_box2 rfl _ _ w.heap.size 26 _ _ _ rfl (J5 M).1 Tryz.underlying26 rfl (by kernel_rfl)) rfl ?_
   exact ⟨_, _, _, _, rfl, (bd_zero _ _ _), (bd_zero _ _ _), (J6 M)⟩
  | true =>
   obtain ⟨ar, au, av, aw, ax, ay, az, ba⟩ := (M.out.1).c4
   go_wp2_with fail
   clear ar au av aw ax ay az ba
   refine (fracRight_bd (G := G) (x := p) (y := q) (b_ := b3) (J4 M).1 (J2 M).1 (Sz.mono HZP.out (by omega)) (Sz.mono HZQ.out (by omega)) HR.out).mono ?_
   rintro e w8 ⟨rfl, hb⟩
   replace M := gnM hb M
   clear hb
   cases b3 with
   | false =>
    obtain ⟨ai, aj, ak, al, am, ao, ap, aq⟩ := (J5 M).1.c4
    go_wp2_with fail
    clear ai aj ak al am ao ap aq
    have hz : w.heap.size ≤ w.heap.size := by exact Nat.le_refl _
    refine st4W (.int .i64 0) (.slice none 0 0) (.int .i64 0) (.slice none 0 0) (J5 M).1 (J6 M) hz fun w9 hv og hk hbw => ?_
    rw [← hv]
    replace M := Lib.hid (aI ((M.out.1).only og (by omega)) (aI ((J1 M).1.only og (by omega)) (aI ((J2 M).1.far (J5 M).1 (by rfl) (by omega) og) (aI ((J3 M).1.only og (by omega)) (aI ((J4 M).1.far (J5 M).1 (by rfl) (by omega) og) (aI hk hbw))))))
    clear hk hbw og hv hz
    have HO := HRF.out.2 (by rfl)
    have HE := HER.out.2 HO
    rw [HO, HE]
    refine bodyPost_ret (results_box2 rfl _ _ w.heap.size 26 _ _ _ rfl (J5 M).1 Tryz.underlying26 rfl (by kernel_rfl)) rfl ?_
    exact ⟨_, _, _, _, rfl, (bd_zero _ _ _), (bd_zero _ _ _), (J6 M)⟩
   | true =>
    obtain ⟨ar, au, av, aw, ax, ay, az, ba⟩ := (M.out.1).c4
    go_wp2_with fail
    clear ar au av aw ax ay az ba
    refine (fracText_bd (G := G) (x := p) (y := q) (s := T) (J4 M).1 (J2 M).1 HZP.out HZQ.out (HT.out.keep (J6 M)) (HR.out.trans (by rfl)) HTX.out).mono ?_
    rintro e w9 ⟨rfl, hb⟩
    replace M := gnM hb M
    clear hb
    cases b4 with
    | false =>
     obtain ⟨ai, aj, ak, al, am, ao, ap, aq⟩ := (J5 M).1.c4
     go_wp2_with fail
     clear ai aj ak al am ao ap aq
     have hz : w.heap.size ≤ w.heap.size := by exact Nat.le_refl _
     refine st4W (.int .i64 0) (.slice none 0 0) (.int .i64 0) (.slice none 0 0) (J5 M).1 (J6 M) hz fun w10 hv og hk hbw => ?_
     rw [← hv]
     replace M := Lib.hid (aI ((M.out.1).only og (by omega)) (aI ((J1 M).1.only og (by omega)) (aI ((J2 M).1.far (J5 M).1 (by rfl) (by omega) og) (aI ((J3 M).1.only og (by omega)) (aI ((J4 M).1.far (J5 M).1 (by rfl) (by omega) og) (aI hk hbw))))))
     clear hk hbw og hv hz
     have HO := HRF.out.2 (by rfl)
     have HE := HER.out.2 HO
     rw [HO, HE]
     refine bodyPost_ret (results_box2 rfl _ _ w.heap.size 26 _ _ _ rfl (J5 M).1 Tryz.underlying26 rfl (by kernel_rfl)) rfl ?_
     exact ⟨_, _, _, _, rfl, (bd_zero _ _ _), (bd_zero _ _ _), (J6 M)⟩
    | true =>
     obtain ⟨ar, au, av, aw, ax, ay, az, ba⟩ := (M.out.1).c4
     obtain ⟨ai, aj, ak, al, am, ao, ap, aq⟩ := (J5 M).1.c4
     go_wp2_with fail
     clear ar au av aw ax ay az ba ai aj ak al am ao ap aq
     have hz : w.heap.size ≤ w.heap.size := by exact Nat.le_refl _
     refine st4W (.int .i64 (sg p)) (.slice a_2 (ln p) c_3) (.int .i64 (sg q)) (.slice a_5 (ln q) c_6) (J5 M).1 (J6 M) hz fun w10 hv og hk hbw => ?_
     rw [← hv]
     replace M := Lib.hid (aI ((M.out.1).only og (by omega)) (aI ((J1 M).1.only og (by omega)) (aI ((J2 M).1.far (J5 M).1 (by rfl) (by omega) og) (aI ((J3 M).1.only og (by omega)) (aI ((J4 M).1.far (J5 M).1 (by rfl) (by omega) og) (aI hk hbw))))))
     clear hk hbw og hv hz
     have HO := HRF.out.1 (by rfl)
     have HE := HER.out.1 (by rw [HO.1]; rfl)
     rw [HO.2.1, HO.2.2, HE]
     refine bodyPost_ret (results_box2 rfl _ _ w.heap.size 26 _ _ _ rfl (J5 M).1 Tryz.underlying26 rfl (by kernel_rfl)) rfl ?_
     exact ⟨a_2, c_3, a_5, c_6, rfl, (J4 M).1, (J2 M).1, (J6 M)⟩
end Go.Proofs.YtcfmakpckdicjaaGreatDoor
namespace Go.Proofs.YtcfmakpckdicjaaGreatDoor
open Go.RowKit Go.Lib
variable {G : Nat}

theorem textF_lit {q : Rat} {l1 l2 : List UInt8} (h1 : rdE l1 = 0) (h2 : rdE l2 = 0) (e1 : nu q = rdZ l1) (e2 : de q = rdZ l2) : textF q = l1 ++ 47 :: l2 := by
 unfold textF; rw [e1, e2, text_read h1, text_read h2]
theorem readF_lit {q : Rat} {l1 l2 : List UInt8} (h1 : rdE l1 = 0) (h2 : rdE l2 = 0) (e1 : nu q = rdZ l1) (e2 : de q = rdZ l2) : readF (l1 ++ 47 :: l2) = some q := by
 rw [← textF_lit h1 h2 e1 e2]; exact readF_text q
theorem fracMin_1 {q r : Rat} (h : q ≤ r) : pick q r (-1) = q := by
  unfold pick ordQ; rw [if_neg]; split
  · decide
  · split
    · exfalso; grind
    · decide
theorem fracMin_2 {q r : Rat} (h : r < q) : pick q r (-1) = r := by
 unfold pick ordQ; rw [if_pos]; rw [if_neg (by grind), if_pos h]; decide
theorem fracMax_1 {q r : Rat} (h : q ≤ r) : pick q r 1 = if q = r then q else r := by
  unfold pick ordQ
  by_cases h1 : q = r
  · subst h1; rw [if_pos rfl, if_neg]; rw [if_neg (by grind), if_neg (by grind)]; decide
  · rw [if_neg h1, if_pos]; rw [if_pos (by grind)]; decide
theorem fracMax_2 {q r : Rat} (h : r < q) : pick q r 1 = q := by
 unfold pick ordQ; rw [if_neg]; rw [if_neg (by grind), if_pos h]; decide
theorem fracMax_3 {q r : Rat} (h : q ≤ r) : pick q r 1 = r := by
  rw [fracMax_1 h]; split
  · assumption
  · rfl
set_option maxRecDepth 100000 in
set_option maxHeartbeats 4000000 in
theorem rfFew_ok {s t m : Int} {n k : Nat} {a b : Option Addr} {c d : Nat} {r : Bool} {w : World} (hr : (decide ((n : Int) ≤ m) && decide ((k : Int) ≤ m)) = r) :
  Calls Tryz.prog 9 #[.agg #[.int .i64 s, .slice a n c, .int .i64 t, .slice b k d], .int .i64 m] w fun e w' => e = .returned (.bool r) ∧ Below w.heap.size w w' := by
 obtain ⟨r1, h1⟩ : ∃ b, decide ((n : Int) ≤ m) = b := ⟨_, rfl⟩
 obtain ⟨r2, h2⟩ : ∃ b, decide ((k : Int) ≤ m) = b := ⟨_, rfl⟩
 rw [h1, h2] at hr
 have HR := Lib.hid hr; clear hr
 have M : Hid (Below w.heap.size w w) := Below.refl _ _
 go_enter Tryz.func9, Tryz.ntmps9
 go_upto_region 1 with fail
 refine nmW (w.alloc (.cells #[.int .i64 s, .slice a n c, .int .i64 t, .slice b k d] 26)) fun w1 hv => ?_
 rw [← hv]
 replace M := alM hv M
 clear hv
 cases r1 with
 | false =>
  refine cj8 (M.out.1).c4 fun aa ab ac ad ae af ag ah => ?_
  go_wp2_with fail
  clear aa ab ac ad ae af ag ah
  go_ret
  exact ⟨by rw [← HR.out]; rfl, (J1 M)⟩
 | true =>
  refine cj8 (M.out.1).c4 fun aa ab ac ad ae af ag ah => ?_
  go_wp2_with fail
  clear aa ab ac ad ae af ag ah
  go_ret
  exact ⟨by rw [← HR.out]; rfl, (J1 M)⟩
/-- Right or not. -/
def zOf (s : Int) (l : List Int) : Int := s * (val (l.map Int.toNat) : Int)
def rightF (s : Int) (l : List Int) (t : Int) (m : List Int) : Bool := rightB s l && rightB t m && rightP (zOf s l) (zOf t m)
theorem zOf_right {s : Int} {l : List Int} {z : Int} (h : s = sg z) (hl : l = ints (digs z.natAbs)) : zOf s l = z := by
 subst h hl
 unfold zOf
 have : (ints (digs z.natAbs)).map Int.toNat = digs z.natAbs := by
  unfold ints; rw [List.map_map]
  conv => rhs; rw [← List.map_id (digs z.natAbs)]
  exact List.map_congr_left fun d _ => by simp
 rw [this, val_digs]; exact (abs_sg z).symm
theorem bigRight_len {s : Int} {a : Option Addr} {n c : Nat} {l : List Int} {b : Bool} {w : World} (h : RdZ w (.slice a n c) l) (hn : n ≤ 1099511627776) (hb : rightB s l = b) :
  Calls Tryz.prog 60 #[.agg #[.int .i64 s, .slice a n c]] w fun e w' => e = .returned (.bool b) ∧ Below w.heap.size w w' := by
 obtain ⟨a', c', hv, hc⟩ := h
 cases hv
 exact bigRight_raw ⟨_, _, rfl, hc⟩ hn hb
set_option maxRecDepth 100000 in
set_option maxHeartbeats 4000000 in
theorem fracRight_n1 {s t : Int} {l m : List Int} {a b : Option Addr} {c d : Nat} {w : World} (h1 : RdZ w (.slice a l.length c) l) (k1 : RdZ w (.slice b m.length d) m) (hl : l.length ≤ 1099511627776) (hm : m.length ≤ 1099511627776) (hrl : rightB s l = false) :
  Calls Tryz.prog 25 #[.agg #[.int .i64 s, .slice a l.length c, .int .i64 t, .slice b m.length d]] w fun e w' => e = .returned (.bool false) ∧ Below w.heap.size w w' := by
 have HL := Lib.hid hl; have HM := Lib.hid hm; have HRl := Lib.hid hrl; clear hl hm hrl
 have H1 : Hid (RdZ w (.slice a l.length c) l) := h1
 have K1 : Hid (RdZ w (.slice b m.length d) m) := k1
 clear h1 k1
 have M : Hid (Below w.heap.size w w) := Below.refl _ _
 go_enter Tryz.func25, Tryz.ntmps25
 go_upto_region 1 with fail
 refine nmW (w.alloc (.cells #[.int .i64 s, .slice a l.length c, .int .i64 t, .slice b m.length d] 26)) fun w1 hv => ?_
 rw [← hv]
 replace M := alM hv M
 clear hv
 refine cj8 (M.out.1).c4 fun aa ab ac ad ae af ag ah => ?_
 go_wp2_with fail
 clear aa ab ac ad ae af ag ah
 refine (bigRight_len (s := s) (l := l) (b := false) (H1.out.keep (J1 M)) HL.out HRl.out).mono ?_
 rintro e w2 ⟨rfl, hb⟩
 replace M := gnM hb M
 clear hb
 go_wp2_with fail
 go_ret
 exact ⟨rfl, (J1 M)⟩
set_option maxRecDepth 100000 in
set_option maxHeartbeats 4000000 in
theorem fracRight_n2 {s t : Int} {l m : List Int} {a b : Option Addr} {c d : Nat} {w : World} (h1 : RdZ w (.slice a l.length c) l) (k1 : RdZ w (.slice b m.length d) m) (hl : l.length ≤ 1099511627776) (hm : m.length ≤ 1099511627776) (hrl : rightB s l = true) (hrm : rightB t m = false) :
  Calls Tryz.prog 25 #[.agg #[.int .i64 s, .slice a l.length c, .int .i64 t, .slice b m.length d]] w fun e w' => e = .returned (.bool false) ∧ Below w.heap.size w w' := by
 have HL := Lib.hid hl; have HM := Lib.hid hm; have HRl := Lib.hid hrl; have HRm := Lib.hid hrm; clear hl hm hrl hrm
 have H1 : Hid (RdZ w (.slice a l.length c) l) := h1
 have K1 : Hid (RdZ w (.slice b m.length d) m) := k1
 clear h1 k1
 have M : Hid (Below w.heap.size w w) := Below.refl _ _
 go_enter Tryz.func25, Tryz.ntmps25
 go_upto_region 1 with fail
 refine nmW (w.alloc (.cells #[.int .i64 s, .slice a l.length c, .int .i64 t, .slice b m.length d] 26)) fun w1 hv => ?_
 rw [← hv]
 replace M := alM hv M
 clear hv
 refine cj8 (M.out.1).c4 fun aa ab ac ad ae af ag ah => ?_
 go_wp2_with fail
 clear aa ab ac ad ae af ag ah
 refine (bigRight_len (s := s) (l := l) (b := true) (H1.out.keep (J1 M)) HL.out HRl.out).mono ?_
 rintro e w2 ⟨rfl, hb⟩
 replace M := gnM hb M
 clear hb
 refine cj8 (M.out.1).c4 fun aa ab ac ad ae af ag ah => ?_
 go_wp2_with fail
 clear aa ab ac ad ae af ag ah
 refine (bigRight_len (s := t) (l := m) (b := false) (K1.out.keep (J1 M)) HM.out HRm.out).mono ?_
 rintro e w3 ⟨rfl, hb⟩
 replace M := gnM hb M
 clear hb
 go_wp2_with fail
 go_ret
 exact ⟨rfl, (J1 M)⟩
/-- A fraction's parts in memory, whatever they are. -/
structure FR (w : World) (a : Option Addr) (c : Nat) (b : Option Addr) (d : Nat) (l m : List Int) : Prop where
 n1 : RdZ w (.slice a l.length c) l
 d1 : RdZ w (.slice b m.length d) m
 n2 : l.length ≤ c
 d2 : m.length ≤ d
theorem FR.keep {w w' : World} {a b : Option Addr} {c d : Nat} {l m : List Int} (h : FR w a c b d l m) (hb : Below w.heap.size w w') : FR w' a c b d l m := ⟨h.n1.keep hb, h.d1.keep hb, h.n2, h.d2⟩
instance {w w' : World} {a b : Option Addr} {c d : Nat} {l m : List Int} : Goes (FR w a c b d l m) w w' (FR w' a c b d l m) := ⟨fun h hb => h.keep hb⟩
theorem bd_of_right' {s : Int} {a : Option Addr} {c : Nat} {l : List Int} {w : World} (h : RdZ w (.slice a l.length c) l) (hc : l.length ≤ c) (hr : rightB s l = true) : s = sg (zOf s l) ∧ l.length = Go.Proofs.YtcfmakpckdicjaaGreatDoor.ln (zOf s l) ∧ BD w.heap.size w a c (zOf s l) := by
  obtain ⟨z, h1, h2⟩ := right_parts hr
  have hz := zOf_right h1 h2
  have hl : l.length = Go.Proofs.YtcfmakpckdicjaaGreatDoor.ln z := by rw [h2, ints_len]; rfl
  rw [hz]
  refine ⟨h1, hl, ?_, by omega, ?_⟩
  · rw [← hl]; unfold RdN; rw [← h2]; exact h
  · rcases Nat.eq_zero_or_pos (Go.Proofs.YtcfmakpckdicjaaGreatDoor.ln z) with h0 | h0
    · exact .inl h0
    · refine .inr fun b off hb => .inl ?_
      obtain ⟨b', off', he, hlt, -⟩ := h.at (k := 0) (by omega)
      rw [he] at hb; cases hb; exact hlt
theorem fracRight_raw {s t : Int} {l m : List Int} {a b : Option Addr} {c d : Nat} {r : Bool} {w : World} (h : FR w a c b d l m) (hl : l.length ≤ 549755813888) (hm : m.length ≤ 549755813888) (hr : rightF s l t m = r) :
  Calls Tryz.prog 25 #[.agg #[.int .i64 s, .slice a l.length c, .int .i64 t, .slice b m.length d]] w fun e w' => e = .returned (.bool r) ∧ Below w.heap.size w w' := by
 subst hr
 unfold rightF
 cases h1 : rightB s l with
 | false => exact fracRight_n1 h.n1 h.d1 (by omega) (by omega) h1
 | true =>
  cases h2 : rightB t m with
  | false => exact fracRight_n2 h.n1 h.d1 (by omega) (by omega) h1 h2
  | true =>
   obtain ⟨ex, lx, bx⟩ := bd_of_right' h.n1 h.n2 h1
   obtain ⟨ey, ly, by_⟩ := bd_of_right' h.d1 h.d2 h2
   have := fracRight_bd bx by_ (show Go.Proofs.YtcfmakpckdicjaaGreatDoor.ln _ ≤ _ by omega) (show Go.Proofs.YtcfmakpckdicjaaGreatDoor.ln _ ≤ _ by omega) rfl
   rw [← ex, ← lx, ← ey, ← ly] at this
   exact this
/-- A right fraction is a rational number. -/
theorem fd_of_right {s t : Int} {l m : List Int} {a b : Option Addr} {c d : Nat} {w : World} (h : FR w a c b d l m) (hr : rightF s l t m = true) :
  ∃ q : Rat, s = sg (nu q) ∧ l.length = Go.Proofs.YtcfmakpckdicjaaGreatDoor.ln (nu q) ∧ t = sg (de q) ∧ m.length = Go.Proofs.YtcfmakpckdicjaaGreatDoor.ln (de q) ∧ FD w.heap.size w a c b d q := by
 unfold rightF at hr
 rw [Bool.and_eq_true, Bool.and_eq_true] at hr
 obtain ⟨⟨h1, h2⟩, h3⟩ := hr
 obtain ⟨ex, lx, bx⟩ := bd_of_right' h.n1 h.n2 h1
 obtain ⟨ey, ly, by_⟩ := bd_of_right' h.d1 h.d2 h2
 obtain ⟨e1, e2⟩ := rightP_parts h3
 exact ⟨Rat.divInt (zOf s l) (zOf t m), by rw [e1]; exact ex, by rw [e1]; exact lx, by rw [e2]; exact ey, by rw [e2]; exact ly, ⟨by rw [e1]; exact bx, by rw [e2]; exact by_⟩⟩
theorem fracRight_len {s t : Int} {l m : List Int} {n k : Nat} {a b : Option Addr} {c d : Nat} {r : Bool} {w : World} (h : FR w a c b d l m) (hn : l.length = n) (hk : m.length = k) (hl : n ≤ 549755813888) (hm : k ≤ 549755813888) (hr : rightF s l t m = r) :
  Calls Tryz.prog 25 #[.agg #[.int .i64 s, .slice a n c, .int .i64 t, .slice b k d]] w fun e w' => e = .returned (.bool r) ∧ Below w.heap.size w w' := by
 subst hn hk
 exact fracRight_raw h hl hm hr
theorem fracOf_is {x y : Int} {q : Rat} {w : World} (hG : G ≤ w.heap.size) (hx : -9223372036854775808 ≤ x ∧ x ≤ 9223372036854775807) (hy : -9223372036854775808 ≤ y ∧ y ≤ 9223372036854775807) (hs : y ≠ 0) (hq : Rat.divInt x y = q) :
  Calls Tryz.prog 19 #[.int .i64 x, .int .i64 y] w fun e w' => ∃ a c b d, e = .returned (.tuple #[.agg #[.int .i64 (sg (nu q)), .slice a (ln (nu q)) c, .int .i64 (sg (de q)), .slice b (ln (de q)) d], .int .i64 0]) ∧ FD G w' a c b d q ∧ Below w.heap.size w w' := by
 subst hq; exact fracOf_ok hG hx hy hs
theorem fz_lit {q : Rat} {x y : Int} (h : q = Rat.divInt x y) (hx : Sz x 10) (hy : Sz y 10) (h0 : y ≠ 0) : Fz q 10 := by subst h; exact new_size_any hx hy h0
theorem ordQ_swap (q r : Rat) : ordQ r q = -ordQ q r := by
  unfold ordQ
  by_cases h : q < r
  · rw [if_pos h, if_neg (by grind), if_pos h]; rfl
  · by_cases h' : r < q
    · rw [if_pos h', if_neg h, if_pos h']
    · rw [if_neg h, if_neg h', if_neg h', if_neg h]; rfl
theorem flo_size {q : Rat} {n : Nat} (h : Fz q n) : Sz (flo q) n := by
 refine h.1.le ?_
 unfold flo dv nu de
 have hd := q.den_pos
 rw [Int.fdiv_eq_ediv_of_nonneg _ (by omega)]
 exact Int.natAbs_ediv_le_natAbs _ _
theorem ordQ_ge {q r : Rat} (h : r < q) : ordQ q r = 1 := by unfold ordQ; rw [if_neg (by grind), if_pos h]
theorem ordQ_up {q r : Rat} (h : q ≤ r) : ¬ 0 < ordQ q r := by
  unfold ordQ; split
  · decide
  · rw [if_neg (by grind)]; decide
def divO (q r : Rat) : Option Rat := if r = 0 then none else some (q / r)
def divE (r : Rat) : Int := if r = 0 then 15 else 0
theorem fracDiv_any {q r : Rat} {o : Option Rat} {er : Int} {a1 b1 a2 b2 : Option Addr} {c1 d1 c2 d2 : Nat} {w : World} (hG : G ≤ w.heap.size) (h1 : FD G w a1 c1 b1 d1 q) (h2 : FD G w a2 c2 b2 d2 r) (hx : Fz q 137438953472) (hy : Fz r 137438953472) (ho : divO q r = o) (he : divE r = er) :
    Calls Tryz.prog 17 #[.agg #[.int .i64 (sg (nu q)), .slice a1 (ln (nu q)) c1, .int .i64 (sg (de q)), .slice b1 (ln (de q)) d1], .agg #[.int .i64 (sg (nu r)), .slice a2 (ln (nu r)) c2, .int .i64 (sg (de r)), .slice b2 (ln (de r)) d2]] w fun e w' => ∃ a c b d, e = .returned (.tuple #[.agg #[.int .i64 (sg (oN o)), .slice a (ln (oN o)) c, .int .i64 (sg (oD o)), .slice b (ln (oD o)) d], .int .i64 er]) ∧ BD G w' a c (oN o) ∧ BD G w' b d (oD o) ∧ Below w.heap.size w w' := by
  subst ho he
  unfold divO divE
  by_cases h : r = 0
  · rw [if_pos h, if_pos h]
    refine (fracDiv_zero hG h1 h2 hx hy h).mono ?_
    rintro e w' ⟨rfl, hb⟩
    exact ⟨none, 0, none, 0, rfl, bd_zero _ _ _, bd_zero _ _ _, hb⟩
  · rw [if_neg h, if_neg h]
    refine (fracDiv_ok hG h1 h2 hx hy h).mono ?_
    rintro e w' ⟨a, c, b, d, rfl, hf, hb⟩
    exact ⟨a, c, b, d, rfl, hf.n, hf.d, hb⟩
end Go.Proofs.YtcfmakpckdicjaaGreatDoor
namespace Go.Proofs.YtcfmakpckdicjaaGreatDoor
open Go.RowKit
variable {G : Nat}

set_option maxRecDepth 100000 in
set_option maxHeartbeats 4000000 in
theorem rnew_neg {x y : Int} {a1 a2 : Option Addr} {c1 c2 : Nat} {w : World} (hG : G ≤ w.heap.size) (h1 : BD G w a1 c1 x) (h2 : BD G w a2 c2 y) (hx : Sz x 549755813888) (hy : Sz y 549755813888) (hs : y < 0) :
  Calls Tryz.prog 24 #[.agg #[.int .i64 (sg x), .slice a1 (ln x) c1], .agg #[.int .i64 (sg y), .slice a2 (ln y) c2]] w fun e w' => ∃ a c b d, e = .returned (.tuple #[.agg #[.int .i64 (sg (nu (Rat.divInt x y))), .slice a (ln (nu (Rat.divInt x y))) c, .int .i64 (sg (de (Rat.divInt x y))), .slice b (ln (de (Rat.divInt x y))) d], .int .i64 0]) ∧ FD G w' a c b d (Rat.divInt x y) ∧ Below w.heap.size w w' := by
 have e1 : (sg y == 0) = false := by rw [sg_neg hs]; rfl
 have e2 : decide (sg y < 0) = true := by rw [sg_neg hs]; rfl
 obtain ⟨g, hg0, hg, he1, he2⟩ := new_parts (x := -x) (y := -y) (by omega)
 rw [neg_divInt_neg_] at he1 he2
 obtain ⟨r, hr⟩ : ∃ r, r = Rat.divInt x y := ⟨_, rfl⟩
 rw [← hr] at he1 he2 ⊢
 have HG : Hid (((Nat.gcd (-x).natAbs (-y).natAbs : Nat) : Int) = g) := hg
 have HG0 := Lib.hid hg0
 have HE1 := Lib.hid he1
 have HE2 := Lib.hid he2
 have HGS : Hid (Sz g 549755813888) := hy.le (by rw [← hg]; have := Nat.gcd_le_right (m := (-x).natAbs) (n := (-y).natAbs) (by omega); omega)
 have HX := Lib.hid hx; have HY := Lib.hid hy
 clear hx hy hg hg0 he1 he2 hr hs
 have H1 : Hid (BD G w a1 c1 x) := h1
 have H2 : Hid (BD G w a2 c2 y) := h2
 clear h1 h2
 have M : Hid (Below w.heap.size w w) := Below.refl _ _
 go_enter Tryz.func24, Tryz.ntmps24
 go_upto_region 1 with fail
 refine nmW (((w.alloc (.cells #[.int .i64 (sg x), .slice a1 (ln x) c1] 24)).alloc (.cells #[.int .i64 (sg y), .slice a2 (ln y) c2] 24)).alloc (.cells #[.int .i64 0, .slice none 0 0, .int .i64 0, .slice none 0 0] 26)) fun w1 hv => ?_
 rw [← hv]
 replace M := al3W hv M
 clear hv
 refine cj4 (J2 M).1.c2 fun aa ab ac ad => ?_
 go_wp2_with fail
 clear aa ab ac ad
 refine (rright_ok (G := G) (x := x) (H1.out.keep (J3 M)) (Sz.mono HX.out (by omega))).mono ?_
 rintro e w2 ⟨rfl, hb⟩
 replace M := gnM hb M
 clear hb
 refine cj4 (J1 M).1.c2 fun ae af ag ah => ?_
 go_wp2_with fail
 clear ae af ag ah
 refine (rright_ok (G := G) (x := y) (H2.out.keep (J3 M)) (Sz.mono HY.out (by omega))).mono ?_
 rintro e w3 ⟨rfl, hb⟩
 replace M := gnM hb M
 clear hb
 refine cj4 (J1 M).1.c2 fun ae af ag ah => ?_
 refine cj4 (J2 M).1.c2 fun aa ab ac ad => ?_
 go_wp2_with fail
 clear ae af ag ah aa ab ac ad
 obtain ⟨z3, ez3⟩ : ∃ v_ : Int, v_ = (-x) := ⟨_, rfl⟩
 refine (rneg_ok (G := G) (x := x) (H1.out.keep (J3 M)) HX.out).mono ?_
 rintro e w4 ⟨a_1, c_2, rfl, hd4, hb⟩
 rw [← ez3] at hd4 ⊢
 have Sz3 : Hid (Sz z3 549755813888) := by show Sz z3 549755813888; rw [ez3]; exact (Sz.neg HX.out)
 have Ez3 := Lib.hid ez3; clear ez3
 replace M := adM hd4 hb M
 clear hb hd4
 refine cj4 (J3 M).1.c2 fun aa ab ac ad => ?_
 go_upto_region 7 with fail
 clear aa ab ac ad
 have hz : w.heap.size ≤ w.heap.size := by exact Nat.le_refl _
 refine st2W (.int .i64 (sg z3)) (.slice a_1 (ln z3) c_2) (J3 M).1 (J4 M) hz fun w5 hv og hk hbw => ?_
 rw [← hv]
 replace M := Lib.hid (aI ((M.out.1).far (J3 M).1 (by rfl) (by omega) og) (aI ((J1 M).1.only og (by omega)) (aI ((J2 M).1.only og (by omega)) (aI hk hbw))))
 clear hk hbw og hv hz
 refine cj4 (J2 M).1.c2 fun ae af ag ah => ?_
 go_wp2_with fail
 clear ae af ag ah
 obtain ⟨z7, ez7⟩ : ∃ v_ : Int, v_ = (-y) := ⟨_, rfl⟩
 refine (rneg_ok (G := G) (x := y) (H2.out.keep (J4 M)) HY.out).mono ?_
 rintro e w6 ⟨a_5, c_6, rfl, hd8, hb⟩
 rw [← ez7] at hd8 ⊢
 have Sz7 : Hid (Sz z7 549755813888) := by show Sz z7 549755813888; rw [ez7]; exact (Sz.neg HY.out)
 have Ez7 := Lib.hid ez7; clear ez7
 replace M := adM hd8 hb M
 clear hb hd8
 refine cj4 (J3 M).1.c2 fun ae af ag ah => ?_
 go_upto_region 8 with fail
 clear ae af ag ah
 have hz : w.heap.size ≤ w.heap.size + 1 := by omega
 refine st2W (.int .i64 (sg z7)) (.slice a_5 (ln z7) c_6) (J3 M).1 (J5 M) hz fun w7 hv og hk hbw => ?_
 rw [← hv]
 replace M := Lib.hid (aI ((M.out.1).far (J3 M).1 (by rfl) (by omega) og) (aI ((J1 M).1.far (J3 M).1 (by rfl) (by omega) og) (aI ((J2 M).1.only og (by omega)) (aI hk (aI ((J4 M).1.only og (by omega)) hbw)))))
 clear hk hbw og hv hz
 refine cj4 (J4 M).1.c2 fun aa ab ac ad => ?_
 refine cj4 (J3 M).1.c2 fun ae af ag ah => ?_
 go_wp2_with fail
 clear aa ab ac ad ae af ag ah
 refine (rgcd_is (G := G) (x := z3) (y := z7) (g := g) (J1 M).1 (M.out.1) Sz3.out Sz7.out (by rw [Ez3.out, Ez7.out]; exact HG.out)).mono ?_
 rintro e w8 ⟨a_9, c_10, rfl, hd11, hb⟩
 replace M := adM hd11 hb M
 clear hb hd11
 go_upto_region 9 with fail
 refine nmW (w8.alloc (.cells #[.int .i64 (sg g), .slice a_9 (ln g) c_10] 24)) fun w9 hv => ?_
 rw [← hv]
 have o3 : w.heap.size + 1 + 1 < w8.heap.size := ((J3 M).1).lt
 replace M := alM hv M
 clear hv
 refine cj4 (J6 M).1.c2 fun aa ab ac ad => ?_
 refine cj4 (M.out.1).c2 fun ai aj ak al => ?_
 go_wp2_with fail
 clear aa ab ac ad ai aj ak al
 refine (rdiv_exact (G := G) (x := z3) (y := g) (q := (nu r)) (J3 M).1 (J1 M).1 Sz3.out HGS.out HG0.out (by rw [Ez3.out]; exact HE1.out)).mono ?_
 rintro e w10 ⟨a_12, c_13, b_14, d_15, rfl, hd16, hd17, hb⟩
 replace M := ad2M hd16 hd17 hb M
 clear hb hd16 hd17
 go_upto_region 10 with fail
 refine nmW ((w10.alloc (.cells #[.int .i64 (sg (nu r)), .slice a_12 (ln (nu r)) c_13] 24)).alloc (.cells #[.int .i64 (sg 0), .slice b_14 (ln 0) d_15] 24)) fun w11 hv => ?_
 rw [← hv]
 have o4 : w8.heap.size < w10.heap.size := ((J2 M).1).lt
 replace M := al2W hv M
 clear hv
 refine cj4 (J9 M).1.c2 fun ae af ag ah => ?_
 refine cj4 (J4 M).1.c2 fun ai aj ak al => ?_
 go_wp2_with fail
 clear ae af ag ah ai aj ak al
 refine (rdiv_exact (G := G) (x := z7) (y := g) (q := (de r)) (J6 M).1 (J5 M).1 Sz7.out HGS.out HG0.out (by rw [Ez7.out]; exact HE2.out)).mono ?_
 rintro e w12 ⟨a_18, c_19, b_20, d_21, rfl, hd22, hd23, hb⟩
 replace M := ad2M hd22 hd23 hb M
 clear hb hd22 hd23
 go_upto_region 11 with fail
 refine nmW ((w12.alloc (.cells #[.int .i64 (sg (de r)), .slice a_18 (ln (de r)) c_19] 24)).alloc (.cells #[.int .i64 (sg 0), .slice b_20 (ln 0) d_21] 24)) fun w13 hv => ?_
 rw [← hv]
 have o6 : w10.heap.size + 1 < w12.heap.size := ((J2 M).1).lt
 replace M := al2W hv M
 clear hv
 refine cj4 (J5 M).1.c2 fun am ao ap aq => ?_
 refine cj4 (J1 M).1.c2 fun ar au av aw => ?_
 refine cj8 (J12 M).1.c4 fun ax ay az ba bb bc bd bf => ?_
 go_wp2_with fail
 clear am ao ap aq ar au av aw ax ay az ba bb bc bd bf
 have hz : w.heap.size ≤ w.heap.size + 1 + 1 := by omega
 refine st4W (.int .i64 (sg (nu r))) (.slice a_12 (ln (nu r)) c_13) (.int .i64 (sg (de r))) (.slice a_18 (ln (de r)) c_19) (J12 M).1 (J15 M) hz fun w14 hv og hk hbw => ?_
 rw [← hv]
 replace M := Lib.hid (aI ((M.out.1).only og (by omega)) (aI ((J1 M).1.only og (by omega)) (aI ((J2 M).1.far (J12 M).1 (by rfl) (by omega) og) (aI ((J3 M).1.far (J12 M).1 (by rfl) (by omega) og) (aI ((J4 M).1.only og (by omega)) (aI ((J5 M).1.only og (by omega)) (aI ((J6 M).1.far (J12 M).1 (by rfl) (by omega) og) (aI ((J7 M).1.far (J12 M).1 (by rfl) (by omega) og) (aI ((J8 M).1.only og (by omega)) (aI ((J9 M).1.far (J12 M).1 (by rfl) (by omega) og) (aI ((J10 M).1.far (J12 M).1 (by rfl) (by omega) og) (aI ((J11 M).1.far (J12 M).1 (by rfl) (by omega) og) (aI hk (aI ((J13 M).1.only og (by omega)) (aI ((J14 M).1.only og (by omega)) hbw)))))))))))))))
 clear hk hbw og hv hz
 refine bodyPost_ret (results_box2 rfl _ _ (w.heap.size + 1 + 1) 26 _ _ _ rfl (J12 M).1 Tryz.underlying26 rfl (by kernel_rfl)) rfl ?_
 exact ⟨a_12, c_13, a_18, c_19, rfl, FD.mk (J6 M).1 (J2 M).1, (J15 M)⟩
theorem rnew_ok {x y : Int} {a1 a2 : Option Addr} {c1 c2 : Nat} {w : World} (hG : G ≤ w.heap.size) (h1 : BD G w a1 c1 x) (h2 : BD G w a2 c2 y) (hx : Sz x 549755813888) (hy : Sz y 549755813888) (hs : y ≠ 0) :
    Calls Tryz.prog 24 #[.agg #[.int .i64 (sg x), .slice a1 (ln x) c1], .agg #[.int .i64 (sg y), .slice a2 (ln y) c2]] w fun e w' => ∃ a c b d, e = .returned (.tuple #[.agg #[.int .i64 (sg (nu (Rat.divInt x y))), .slice a (ln (nu (Rat.divInt x y))) c, .int .i64 (sg (de (Rat.divInt x y))), .slice b (ln (de (Rat.divInt x y))) d], .int .i64 0]) ∧ FD G w' a c b d (Rat.divInt x y) ∧ Below w.heap.size w w' := by
  rcases Int.lt_or_gt_of_ne hs with h | h
  · exact rnew_neg hG h1 h2 hx hy h
  · exact rnew_pos h1 h2 hx hy h
set_option maxRecDepth 100000 in
set_option maxHeartbeats 4000000 in
theorem rnew_zero {x y : Int} {a1 a2 : Option Addr} {c1 c2 : Nat} {w : World} (_hG : G ≤ w.heap.size) (h1 : BD G w a1 c1 x) (h2 : BD G w a2 c2 y) (hx : Sz x 549755813888) (hy : Sz y 549755813888) (hs : y = 0) :
  Calls Tryz.prog 24 #[.agg #[.int .i64 (sg x), .slice a1 (ln x) c1], .agg #[.int .i64 (sg y), .slice a2 (ln y) c2]] w fun e w' => e = .returned (.tuple #[.agg #[.int .i64 0, .slice none 0 0, .int .i64 0, .slice none 0 0], .int .i64 15]) ∧ Below w.heap.size w w' := by
 have e1 : (sg y == 0) = true := by rw [hs]; rfl
 have HX := Lib.hid hx; have HY := Lib.hid hy
 clear hx hy hs
 have H1 : Hid (BD G w a1 c1 x) := h1
 have H2 : Hid (BD G w a2 c2 y) := h2
 clear h1 h2
 have M : Hid (Below w.heap.size w w) := Below.refl _ _
 go_enter Tryz.func24, Tryz.ntmps24
 go_upto_region 1 with fail
 refine nmW (((w.alloc (.cells #[.int .i64 (sg x), .slice a1 (ln x) c1] 24)).alloc (.cells #[.int .i64 (sg y), .slice a2 (ln y) c2] 24)).alloc (.cells #[.int .i64 0, .slice none 0 0, .int .i64 0, .slice none 0 0] 26)) fun w1 hv => ?_
 rw [← hv]
 replace M := al3W hv M
 clear hv
 refine cj4 (J2 M).1.c2 fun aa ab ac ad => ?_
 go_wp2_with fail
 clear aa ab ac ad
 refine (rright_ok (G := G) (x := x) (H1.out.keep (J3 M)) (Sz.mono HX.out (by omega))).mono ?_
 rintro e w2 ⟨rfl, hb⟩
 replace M := gnM hb M
 clear hb
 refine cj4 (J1 M).1.c2 fun ae af ag ah => ?_
 go_wp2_with fail
 clear ae af ag ah
 refine (rright_ok (G := G) (x := y) (H2.out.keep (J3 M)) (Sz.mono HY.out (by omega))).mono ?_
 rintro e w3 ⟨rfl, hb⟩
 replace M := gnM hb M
 clear hb
 refine cj4 (J1 M).1.c2 fun ae af ag ah => ?_
 refine cj8 (M.out.1).c4 fun ai aj ak al am ao ap aq => ?_
 go_wp2_with fail
 clear ae af ag ah ai aj ak al am ao ap aq
 have hz : w.heap.size ≤ w.heap.size + 1 + 1 := by omega
 refine st4W (.int .i64 0) (.slice none 0 0) (.int .i64 0) (.slice none 0 0) (M.out.1) (J3 M) hz fun w4 hv og hk hbw => ?_
 rw [← hv]
 replace M := Lib.hid (aI hk (aI ((J1 M).1.only og (by omega)) (aI ((J2 M).1.only og (by omega)) hbw)))
 clear hk hbw og hv hz
 refine bodyPost_ret (results_box2 rfl _ _ (w.heap.size + 1 + 1) 26 _ _ _ rfl (M.out.1) Tryz.underlying26 rfl (by kernel_rfl)) rfl ?_
 exact ⟨rfl, (J3 M)⟩
set_option maxRecDepth 100000 in
set_option maxHeartbeats 4000000 in
theorem rfof_ok {x y : Int} {w : World} (hG : G ≤ w.heap.size) (hx : -9223372036854775808 ≤ x ∧ x ≤ 9223372036854775807) (hy : -9223372036854775808 ≤ y ∧ y ≤ 9223372036854775807) (hs : y ≠ 0) :
  Calls Tryz.prog 20 #[.int .i64 x, .int .i64 y] w fun e w' => ∃ a c b d, e = .returned (.tuple #[.agg #[.int .i64 (sg (nu (Rat.divInt x y))), .slice a (ln (nu (Rat.divInt x y))) c, .int .i64 (sg (de (Rat.divInt x y))), .slice b (ln (de (Rat.divInt x y))) d], .int .i64 0]) ∧ FD G w' a c b d (Rat.divInt x y) ∧ Below w.heap.size w w' := by
 have HX := Lib.hid hx; have HY := Lib.hid hy; have HS := Lib.hid hs; clear hx hy hs
 have M : Hid (Below w.heap.size w w) := Below.refl _ _
 go_enter Tryz.func20, Tryz.ntmps20
 go_upto_region 1 with fail
 refine nmW (w.alloc (.cells #[.int .i64 0, .slice none 0 0, .int .i64 0, .slice none 0 0] 26)) fun w1 hv => ?_
 rw [← hv]
 replace M := alM hv M
 clear hv
 go_wp2_with fail
 refine (rof_ok (G := G) x _ HX.out).mono ?_
 rintro e w2 ⟨a_1, c_2, rfl, hd3, hb⟩
 replace M := adM hd3 hb M
 clear hb hd3
 go_wp2_with fail
 refine (rof_ok (G := G) y _ HY.out).mono ?_
 rintro e w3 ⟨a_4, c_5, rfl, hd6, hb⟩
 replace M := adM hd6 hb M
 clear hb hd6
 go_wp2_with fail
 refine nmW (α := Rat) (Rat.divInt x y) fun q11 eq11 => ?_
 refine (rnew_ok (G := G) (x := x) (y := y) (Nat.le_trans hG (J3 M).size) (J1 M).1 (M.out.1) (Sz.mono (sz_int (n := 0) HX.out) (by omega)) (Sz.mono (sz_int (n := 0) HY.out) (by omega)) HS.out).mono ?_
 rintro e w4 ⟨a_7, c_8, b_9, d_10, rfl, hd12, hb⟩
 rw [← eq11] at hd12 ⊢
 have Eq11 := Lib.hid eq11; clear eq11
 replace M := adM hd12 hb M
 clear hb hd12
 refine cj8 (J3 M).1.c4 fun aa ab ac ad ae af ag ah => ?_
 go_wp2_with fail
 clear aa ab ac ad ae af ag ah
 have hz : w.heap.size ≤ w.heap.size := by exact Nat.le_refl _
 refine st4W (.int .i64 (sg (nu q11))) (.slice a_7 (ln (nu q11)) c_8) (.int .i64 (sg (de q11))) (.slice b_9 (ln (de q11)) d_10) (J3 M).1 (J4 M) hz fun w5 hv og hk hbw => ?_
 rw [← hv]
 replace M := Lib.hid (aI ((M.out.1).far (J3 M).1 (by rfl) (by omega) og) (aI ((J1 M).1.far (J3 M).1 (by rfl) (by omega) og) (aI ((J2 M).1.far (J3 M).1 (by rfl) (by omega) og) (aI hk hbw))))
 clear hk hbw og hv hz
 rw [← Eq11.out]
 refine bodyPost_ret (results_box2 rfl _ _ w.heap.size 26 _ _ _ rfl (J3 M).1 Tryz.underlying26 rfl (by kernel_rfl)) rfl ?_
 exact ⟨a_7, c_8, b_9, d_10, rfl, (M.out.1), (J4 M)⟩
set_option maxRecDepth 100000 in
set_option maxHeartbeats 4000000 in
theorem rfof_zero {x y : Int} {w : World} (hG : G ≤ w.heap.size) (hx : -9223372036854775808 ≤ x ∧ x ≤ 9223372036854775807) (hy : -9223372036854775808 ≤ y ∧ y ≤ 9223372036854775807) (hs : y = 0) :
  Calls Tryz.prog 20 #[.int .i64 x, .int .i64 y] w fun e w' => e = .returned (.tuple #[.agg #[.int .i64 0, .slice none 0 0, .int .i64 0, .slice none 0 0], .int .i64 15]) ∧ Below w.heap.size w w' := by
 have HX := Lib.hid hx; have HY := Lib.hid hy; have HS := Lib.hid hs; clear hx hy hs
 have M : Hid (Below w.heap.size w w) := Below.refl _ _
 go_enter Tryz.func20, Tryz.ntmps20
 go_upto_region 1 with fail
 refine nmW (w.alloc (.cells #[.int .i64 0, .slice none 0 0, .int .i64 0, .slice none 0 0] 26)) fun w1 hv => ?_
 rw [← hv]
 replace M := alM hv M
 clear hv
 go_wp2_with fail
 refine (rof_ok (G := G) x _ HX.out).mono ?_
 rintro e w2 ⟨a_1, c_2, rfl, hd3, hb⟩
 replace M := adM hd3 hb M
 clear hb hd3
 go_wp2_with fail
 refine (rof_ok (G := G) y _ HY.out).mono ?_
 rintro e w3 ⟨a_4, c_5, rfl, hd6, hb⟩
 replace M := adM hd6 hb M
 clear hb hd6
 go_wp2_with fail
 refine (rnew_zero (G := G) (x := x) (y := y) (Nat.le_trans hG (J3 M).size) (J1 M).1 (M.out.1) (Sz.mono (sz_int (n := 0) HX.out) (by omega)) (Sz.mono (sz_int (n := 0) HY.out) (by omega)) HS.out).mono ?_
 rintro e w4 ⟨rfl, hb⟩
 replace M := gnM hb M
 clear hb
 refine cj8 (J2 M).1.c4 fun aa ab ac ad ae af ag ah => ?_
 go_wp2_with fail
 clear aa ab ac ad ae af ag ah
 have hz : w.heap.size ≤ w.heap.size := by exact Nat.le_refl _
 refine st4W (.int .i64 0) (.slice none 0 0) (.int .i64 0) (.slice none 0 0) (J2 M).1 (J3 M) hz fun w5 hv og hk hbw => ?_
 rw [← hv]
 replace M := Lib.hid (aI ((M.out.1).far (J2 M).1 (by rfl) (by omega) og) (aI ((J1 M).1.far (J2 M).1 (by rfl) (by omega) og) (aI hk hbw)))
 clear hk hbw og hv hz
 refine bodyPost_ret (results_box2 rfl _ _ w.heap.size 26 _ _ _ rfl (J2 M).1 Tryz.underlying26 rfl (by kernel_rfl)) rfl ?_
 exact ⟨rfl, (J3 M)⟩
set_option maxRecDepth 100000 in
set_option maxHeartbeats 4000000 in
theorem rfmul_ok {q r : Rat} {a1 b1 a2 b2 : Option Addr} {c1 d1 c2 d2 : Nat} {w : World} (hG : G ≤ w.heap.size) (h1 : FD G w a1 c1 b1 d1 q) (h2 : FD G w a2 c2 b2 d2 r) (hx : Fz q 137438953472) (hy : Fz r 137438953472)  :
  Calls Tryz.prog 16 #[.agg #[.int .i64 (sg (nu q)), .slice a1 (ln (nu q)) c1, .int .i64 (sg (de q)), .slice b1 (ln (de q)) d1], .agg #[.int .i64 (sg (nu r)), .slice a2 (ln (nu r)) c2, .int .i64 (sg (de r)), .slice b2 (ln (de r)) d2]] w fun e w' => ∃ a c b d, e = .returned (.tuple #[.agg #[.int .i64 (sg (nu (q * r))), .slice a (ln (nu (q * r))) c, .int .i64 (sg (de (q * r))), .slice b (ln (de (q * r))) d], .int .i64 0]) ∧ FD G w' a c b d (q * r) ∧ Below w.heap.size w w' := by
 have HX := Lib.hid hx; have HY := Lib.hid hy; clear hx hy
 have H1 : Hid (FD G w a1 c1 b1 d1 q) := h1
 have H2 : Hid (FD G w a2 c2 b2 d2 r) := h2
 clear h1 h2
 have M : Hid (Below w.heap.size w w) := Below.refl _ _
 go_enter Tryz.func16, Tryz.ntmps16
 go_upto_region 1 with fail
 refine nmW (((w.alloc (.cells #[.int .i64 (sg (nu q)), .slice a1 (ln (nu q)) c1, .int .i64 (sg (de q)), .slice b1 (ln (de q)) d1] 26)).alloc (.cells #[.int .i64 (sg (nu r)), .slice a2 (ln (nu r)) c2, .int .i64 (sg (de r)), .slice b2 (ln (de r)) d2] 26)).alloc (.cells #[.int .i64 0, .slice none 0 0, .int .i64 0, .slice none 0 0] 26)) fun w1 hv => ?_
 rw [← hv]
 replace M := al3W hv M
 clear hv
 refine cj8 (J2 M).1.c4 fun aa ab ac ad ae af ag ah => ?_
 go_wp2_with fail
 clear aa ab ac ad ae af ag ah
 refine (rfright_ok (G := G) (q := q) (H1.out.keep (J3 M)) (Fz.mono HX.out (by omega))).mono ?_
 rintro e w2 ⟨rfl, hb⟩
 replace M := gnM hb M
 clear hb
 refine cj8 (J1 M).1.c4 fun ai aj ak al am ao ap aq => ?_
 go_wp2_with fail
 clear ai aj ak al am ao ap aq
 refine (rfright_ok (G := G) (q := r) (H2.out.keep (J3 M)) (Fz.mono HY.out (by omega))).mono ?_
 rintro e w3 ⟨rfl, hb⟩
 replace M := gnM hb M
 clear hb
 refine cj8 (J2 M).1.c4 fun aa ab ac ad ae af ag ah => ?_
 refine cj8 (J1 M).1.c4 fun ai aj ak al am ao ap aq => ?_
 go_wp2_with fail
 clear aa ab ac ad ae af ag ah ai aj ak al am ao ap aq
 obtain ⟨z3, ez3⟩ : ∃ v_ : Int, v_ = ((nu q) * (nu r)) := ⟨_, rfl⟩
 refine (rmul_ok (G := G) (x := (nu q)) (y := (nu r)) (H1.out.keep (J3 M)).n (H2.out.keep (J3 M)).n (Sz.mono HX.out.1 (by omega)) (Sz.mono HY.out.1 (by omega))).mono ?_
 rintro e w4 ⟨a_1, c_2, rfl, hd4, hb⟩
 rw [← ez3] at hd4 ⊢
 have Sz3 : Hid (Sz z3 274877906944) := by show Sz z3 274877906944; rw [ez3]; exact (Sz.mul HX.out.1 HY.out.1)
 have Ez3 := Lib.hid ez3; clear ez3
 replace M := adM hd4 hb M
 clear hb hd4
 go_upto_region 4 with fail
 refine nmW (w4.alloc (.cells #[.int .i64 (sg z3), .slice a_1 (ln z3) c_2] 24)) fun w5 hv => ?_
 rw [← hv]
 have o3 : w.heap.size + 1 + 1 < w4.heap.size := ((J1 M).1).lt
 replace M := alM hv M
 clear hv
 refine cj8 (J4 M).1.c4 fun aa ab ac ad ae af ag ah => ?_
 refine cj8 (J3 M).1.c4 fun ai aj ak al am ao ap aq => ?_
 go_wp2_with fail
 clear aa ab ac ad ae af ag ah ai aj ak al am ao ap aq
 obtain ⟨z7, ez7⟩ : ∃ v_ : Int, v_ = ((de q) * (de r)) := ⟨_, rfl⟩
 refine (rmul_ok (G := G) (x := (de q)) (y := (de r)) (H1.out.keep (J5 M)).d (H2.out.keep (J5 M)).d (Sz.mono HX.out.2 (by omega)) (Sz.mono HY.out.2 (by omega))).mono ?_
 rintro e w6 ⟨a_5, c_6, rfl, hd8, hb⟩
 rw [← ez7] at hd8 ⊢
 have Sz7 : Hid (Sz z7 274877906944) := by show Sz z7 274877906944; rw [ez7]; exact (Sz.mul HX.out.2 HY.out.2)
 have Ez7 := Lib.hid ez7; clear ez7
 replace M := adM hd8 hb M
 clear hb hd8
 go_upto_region 5 with fail
 refine nmW (w6.alloc (.cells #[.int .i64 (sg z7), .slice a_5 (ln z7) c_6] 24)) fun w7 hv => ?_
 rw [← hv]
 have o4 : w4.heap.size < w6.heap.size := ((J1 M).1).lt
 replace M := alM hv M
 clear hv
 refine cj4 (J2 M).1.c2 fun ar au av aw => ?_
 refine cj4 (M.out.1).c2 fun ax ay az ba => ?_
 go_wp2_with fail
 clear ar au av aw ax ay az ba
 refine nmW (α := Rat) (Rat.divInt z3 z7) fun q13 eq13 => ?_
 refine (rnew_pos (G := G) (x := z3) (y := z7) (J3 M).1 (J1 M).1 (Sz.mono Sz3.out (by omega)) (Sz.mono Sz7.out (by omega)) (by rw [Ez7.out]; exact Int.mul_pos (de_pos _) (de_pos _))).mono ?_
 rintro e w8 ⟨a_9, c_10, b_11, d_12, rfl, hd14, hb⟩
 rw [← eq13] at hd14 ⊢
 have Eq13 := Lib.hid eq13; clear eq13
 replace M := adM hd14 hb M
 clear hb hd14
 refine cj8 (J5 M).1.c4 fun bb bc bd bf bg bh bi bj => ?_
 go_wp2_with fail
 clear bb bc bd bf bg bh bi bj
 have hz : w.heap.size ≤ w.heap.size + 1 + 1 := by omega
 refine st4W (.int .i64 (sg (nu q13))) (.slice a_9 (ln (nu q13)) c_10) (.int .i64 (sg (de q13))) (.slice b_11 (ln (de q13)) d_12) (J5 M).1 (J8 M) hz fun w9 hv og hk hbw => ?_
 rw [← hv]
 replace M := Lib.hid (aI ((M.out.1).far (J5 M).1 (by rfl) (by omega) og) (aI ((J1 M).1.only og (by omega)) (aI ((J2 M).1.far (J5 M).1 (by rfl) (by omega) og) (aI ((J3 M).1.only og (by omega)) (aI ((J4 M).1.far (J5 M).1 (by rfl) (by omega) og) (aI hk (aI ((J6 M).1.only og (by omega)) (aI ((J7 M).1.only og (by omega)) hbw))))))))
 clear hk hbw og hv hz
 have HR : q * r = q13 := by rw [Eq13.out, Ez3.out, Ez7.out]; exact (mul_parts q r).symm
 rw [HR]
 refine bodyPost_ret (results_box2 rfl _ _ (w.heap.size + 1 + 1) 26 _ _ _ rfl (J5 M).1 Tryz.underlying26 rfl (by kernel_rfl)) rfl ?_
 exact ⟨a_9, c_10, b_11, d_12, rfl, (M.out.1), (J8 M)⟩
set_option maxRecDepth 100000 in
set_option maxHeartbeats 4000000 in
theorem rfdiv_ok {q r : Rat} {a1 b1 a2 b2 : Option Addr} {c1 d1 c2 d2 : Nat} {w : World} (hG : G ≤ w.heap.size) (h1 : FD G w a1 c1 b1 d1 q) (h2 : FD G w a2 c2 b2 d2 r) (hx : Fz q 137438953472) (hy : Fz r 137438953472) (h0 : r ≠ 0) :
    Calls Tryz.prog 18 #[.agg #[.int .i64 (sg (nu q)), .slice a1 (ln (nu q)) c1, .int .i64 (sg (de q)), .slice b1 (ln (de q)) d1], .agg #[.int .i64 (sg (nu r)), .slice a2 (ln (nu r)) c2, .int .i64 (sg (de r)), .slice b2 (ln (de r)) d2]] w fun e w' => ∃ a c b d, e = .returned (.tuple #[.agg #[.int .i64 (sg (nu (q / r))), .slice a (ln (nu (q / r))) c, .int .i64 (sg (de (q / r))), .slice b (ln (de (q / r))) d], .int .i64 0]) ∧ FD G w' a c b d (q / r) ∧ Below w.heap.size w w' := by
  have hn0 : nu r ≠ 0 := mt nu_zero.1 h0
  have e1 : (sg (nu r) == 0) = false := by rw [sg_zero_iff]; exact decide_eq_false hn0
  have HNZ : Hid (de q * nu r ≠ 0) := by
    show _ ≠ _
    intro h; have := de_pos q
    rcases Int.mul_eq_zero.1 h with h | h
    · omega
    · exact hn0 h
  clear hn0 h0
  have HX := Lib.hid hx; have HY := Lib.hid hy; clear hx hy
  have H1 : Hid (FD G w a1 c1 b1 d1 q) := h1
  have H2 : Hid (FD G w a2 c2 b2 d2 r) := h2
  clear h1 h2
  have M : Hid (Below w.heap.size w w) := Below.refl _ _
  go_enter Tryz.func18, Tryz.ntmps18
  go_upto_region 1 with fail
  refine nmW (((w.alloc (.cells #[.int .i64 (sg (nu q)), .slice a1 (ln (nu q)) c1, .int .i64 (sg (de q)), .slice b1 (ln (de q)) d1] 26)).alloc (.cells #[.int .i64 (sg (nu r)), .slice a2 (ln (nu r)) c2, .int .i64 (sg (de r)), .slice b2 (ln (de r)) d2] 26)).alloc (.cells #[.int .i64 0, .slice none 0 0, .int .i64 0, .slice none 0 0] 26)) fun w1 hv => ?_
  rw [← hv]
  replace M := al3W hv M
  clear hv
  refine cj8 (J2 M).1.c4 fun aa ab ac ad ae af ag ah => ?_
  go_wp2_with fail
  clear aa ab ac ad ae af ag ah
  refine (rfright_ok (G := G) (q := q) (H1.out.keep (J3 M)) (Fz.mono HX.out (by omega))).mono ?_
  rintro e w2 ⟨rfl, hb⟩
  replace M := gnM hb M
  clear hb
  refine cj8 (J1 M).1.c4 fun ai aj ak al am ao ap aq => ?_
  go_wp2_with fail
  clear ai aj ak al am ao ap aq
  refine (rfright_ok (G := G) (q := r) (H2.out.keep (J3 M)) (Fz.mono HY.out (by omega))).mono ?_
  rintro e w3 ⟨rfl, hb⟩
  replace M := gnM hb M
  clear hb
  refine cj8 (J1 M).1.c4 fun ai aj ak al am ao ap aq => ?_
  refine cj8 (J2 M).1.c4 fun aa ab ac ad ae af ag ah => ?_
  go_wp2_with fail
  clear ai aj ak al am ao ap aq aa ab ac ad ae af ag ah
  obtain ⟨z3, ez3⟩ : ∃ v_ : Int, v_ = ((nu q) * (de r)) := ⟨_, rfl⟩
  refine (rmul_ok (G := G) (x := (nu q)) (y := (de r)) (H1.out.keep (J3 M)).n (H2.out.keep (J3 M)).d (Sz.mono HX.out.1 (by omega)) (Sz.mono HY.out.2 (by omega))).mono ?_
  rintro e w4 ⟨a_1, c_2, rfl, hd4, hb⟩
  rw [← ez3] at hd4 ⊢
  have Sz3 : Hid (Sz z3 274877906944) := by show Sz z3 274877906944; rw [ez3]; exact (Sz.mul HX.out.1 HY.out.2)
  have Ez3 := Lib.hid ez3; clear ez3
  replace M := adM hd4 hb M
  clear hb hd4
  go_upto_region 6 with fail
  refine nmW (w4.alloc (.cells #[.int .i64 (sg z3), .slice a_1 (ln z3) c_2] 24)) fun w5 hv => ?_
  rw [← hv]
  have o3 : w.heap.size + 1 + 1 < w4.heap.size := ((J1 M).1).lt
  replace M := alM hv M
  clear hv
  refine cj8 (J4 M).1.c4 fun aa ab ac ad ae af ag ah => ?_
  refine cj8 (J3 M).1.c4 fun ai aj ak al am ao ap aq => ?_
  go_wp2_with fail
  clear aa ab ac ad ae af ag ah ai aj ak al am ao ap aq
  obtain ⟨z7, ez7⟩ : ∃ v_ : Int, v_ = ((de q) * (nu r)) := ⟨_, rfl⟩
  refine (rmul_ok (G := G) (x := (de q)) (y := (nu r)) (H1.out.keep (J5 M)).d (H2.out.keep (J5 M)).n (Sz.mono HX.out.2 (by omega)) (Sz.mono HY.out.1 (by omega))).mono ?_
  rintro e w6 ⟨a_5, c_6, rfl, hd8, hb⟩
  rw [← ez7] at hd8 ⊢
  have Sz7 : Hid (Sz z7 274877906944) := by show Sz z7 274877906944; rw [ez7]; exact (Sz.mul HX.out.2 HY.out.1)
  have Ez7 := Lib.hid ez7; clear ez7
  replace M := adM hd8 hb M
  clear hb hd8
  go_upto_region 7 with fail
  refine nmW (w6.alloc (.cells #[.int .i64 (sg z7), .slice a_5 (ln z7) c_6] 24)) fun w7 hv => ?_
  rw [← hv]
  have o4 : w4.heap.size < w6.heap.size := ((J1 M).1).lt
  replace M := alM hv M
  clear hv
  refine cj4 (J2 M).1.c2 fun ar au av aw => ?_
  refine cj4 (M.out.1).c2 fun ax ay az ba => ?_
  go_wp2_with fail
  clear ar au av aw ax ay az ba
  refine nmW (α := Rat) (Rat.divInt z3 z7) fun q13 eq13 => ?_
  refine (rnew_ok (G := G) (x := z3) (y := z7) (Nat.le_trans hG (J7 M).size) (J3 M).1 (J1 M).1 (Sz.mono Sz3.out (by omega)) (Sz.mono Sz7.out (by omega)) (by rw [Ez7.out]; exact HNZ.out)).mono ?_
  rintro e w8 ⟨a_9, c_10, b_11, d_12, rfl, hd14, hb⟩
  rw [← eq13] at hd14 ⊢
  have Eq13 := Lib.hid eq13; clear eq13
  replace M := adM hd14 hb M
  clear hb hd14
  refine cj8 (J5 M).1.c4 fun bb bc bd bf bg bh bi bj => ?_
  go_wp2_with fail
  clear bb bc bd bf bg bh bi bj
  have hz : w.heap.size ≤ w.heap.size + 1 + 1 := by omega
  refine st4W (.int .i64 (sg (nu q13))) (.slice a_9 (ln (nu q13)) c_10) (.int .i64 (sg (de q13))) (.slice b_11 (ln (de q13)) d_12) (J5 M).1 (J8 M) hz fun w9 hv og hk hbw => ?_
  rw [← hv]
  replace M := Lib.hid (aI ((M.out.1).far (J5 M).1 (by rfl) (by omega) og) (aI ((J1 M).1.only og (by omega)) (aI ((J2 M).1.far (J5 M).1 (by rfl) (by omega) og) (aI ((J3 M).1.only og (by omega)) (aI ((J4 M).1.far (J5 M).1 (by rfl) (by omega) og) (aI hk (aI ((J6 M).1.only og (by omega)) (aI ((J7 M).1.only og (by omega)) hbw))))))))
  clear hk hbw og hv hz
  have HR : q / r = q13 := by rw [Eq13.out, Ez3.out, Ez7.out]; exact div_parts.symm
  rw [HR]
  refine bodyPost_ret (results_box2 rfl _ _ (w.heap.size + 1 + 1) 26 _ _ _ rfl (J5 M).1 Tryz.underlying26 rfl (by kernel_rfl)) rfl ?_
  exact ⟨a_9, c_10, b_11, d_12, rfl, (M.out.1), (J8 M)⟩
set_option maxRecDepth 100000 in
set_option maxHeartbeats 4000000 in
theorem rfdiv_zero {q r : Rat} {a1 b1 a2 b2 : Option Addr} {c1 d1 c2 d2 : Nat} {w : World} (_hG : G ≤ w.heap.size) (h1 : FD G w a1 c1 b1 d1 q) (h2 : FD G w a2 c2 b2 d2 r) (hx : Fz q 137438953472) (hy : Fz r 137438953472) (h0 : r = 0) :
  Calls Tryz.prog 18 #[.agg #[.int .i64 (sg (nu q)), .slice a1 (ln (nu q)) c1, .int .i64 (sg (de q)), .slice b1 (ln (de q)) d1], .agg #[.int .i64 (sg (nu r)), .slice a2 (ln (nu r)) c2, .int .i64 (sg (de r)), .slice b2 (ln (de r)) d2]] w fun e w' => e = .returned (.tuple #[.agg #[.int .i64 0, .slice none 0 0, .int .i64 0, .slice none 0 0], .int .i64 15]) ∧ Below w.heap.size w w' := by
 have e1 : (sg (nu r) == 0) = true := by rw [h0]; rfl
 clear h0
 have HX := Lib.hid hx; have HY := Lib.hid hy; clear hx hy
 have H1 : Hid (FD G w a1 c1 b1 d1 q) := h1
 have H2 : Hid (FD G w a2 c2 b2 d2 r) := h2
 clear h1 h2
 have M : Hid (Below w.heap.size w w) := Below.refl _ _
 go_enter Tryz.func18, Tryz.ntmps18
 go_upto_region 1 with fail
 refine nmW (((w.alloc (.cells #[.int .i64 (sg (nu q)), .slice a1 (ln (nu q)) c1, .int .i64 (sg (de q)), .slice b1 (ln (de q)) d1] 26)).alloc (.cells #[.int .i64 (sg (nu r)), .slice a2 (ln (nu r)) c2, .int .i64 (sg (de r)), .slice b2 (ln (de r)) d2] 26)).alloc (.cells #[.int .i64 0, .slice none 0 0, .int .i64 0, .slice none 0 0] 26)) fun w1 hv => ?_
 rw [← hv]
 replace M := al3W hv M
 clear hv
 refine cj8 (J2 M).1.c4 fun aa ab ac ad ae af ag ah => ?_
 go_wp2_with fail
 clear aa ab ac ad ae af ag ah
 refine (rfright_ok (G := G) (q := q) (H1.out.keep (J3 M)) (Fz.mono HX.out (by omega))).mono ?_
 rintro e w2 ⟨rfl, hb⟩
 replace M := gnM hb M
 clear hb
 refine cj8 (J1 M).1.c4 fun ai aj ak al am ao ap aq => ?_
 go_wp2_with fail
 clear ai aj ak al am ao ap aq
 refine (rfright_ok (G := G) (q := r) (H2.out.keep (J3 M)) (Fz.mono HY.out (by omega))).mono ?_
 rintro e w3 ⟨rfl, hb⟩
 replace M := gnM hb M
 clear hb
 refine cj8 (J1 M).1.c4 fun ai aj ak al am ao ap aq => ?_
 refine cj8 (M.out.1).c4 fun ar au av aw ax ay az ba => ?_
 go_wp2_with fail
 clear ai aj ak al am ao ap aq ar au av aw ax ay az ba
 have hz : w.heap.size ≤ w.heap.size + 1 + 1 := by omega
 refine st4W (.int .i64 0) (.slice none 0 0) (.int .i64 0) (.slice none 0 0) (M.out.1) (J3 M) hz fun w4 hv og hk hbw => ?_
 rw [← hv]
 replace M := Lib.hid (aI hk (aI ((J1 M).1.only og (by omega)) (aI ((J2 M).1.only og (by omega)) hbw)))
 clear hk hbw og hv hz
 refine bodyPost_ret (results_box2 rfl _ _ (w.heap.size + 1 + 1) 26 _ _ _ rfl (M.out.1) Tryz.underlying26 rfl (by kernel_rfl)) rfl ?_
 exact ⟨rfl, (J3 M)⟩
set_option maxRecDepth 100000 in
set_option maxHeartbeats 4000000 in
theorem rfneg_ok {q : Rat} {a1 b1 : Option Addr} {c1 d1 : Nat} {w : World} (hG : G ≤ w.heap.size) (h1 : FD G w a1 c1 b1 d1 q) (hx : Fz q 137438953472)  :
  Calls Tryz.prog 35 #[.agg #[.int .i64 (sg (nu q)), .slice a1 (ln (nu q)) c1, .int .i64 (sg (de q)), .slice b1 (ln (de q)) d1]] w fun e w' => ∃ a c b d, e = .returned (.agg #[.int .i64 (sg (nu (-q))), .slice a (ln (nu (-q))) c, .int .i64 (sg (de (-q))), .slice b (ln (de (-q))) d]) ∧ FD G w' a c b d (-q) ∧ Below w.heap.size w w' := by
 have HX := Lib.hid hx; clear hx
 have H1 : Hid (FD G w a1 c1 b1 d1 q) := h1
 clear h1
 have M : Hid (Below w.heap.size w w) := Below.refl _ _
 go_enter Tryz.func35, Tryz.ntmps35
 go_upto_region 1 with fail
 refine nmW ((w.alloc (.cells #[.int .i64 (sg (nu q)), .slice a1 (ln (nu q)) c1, .int .i64 (sg (de q)), .slice b1 (ln (de q)) d1] 26)).alloc (.cells #[.int .i64 0, .slice none 0 0, .int .i64 0, .slice none 0 0] 26)) fun w1 hv => ?_
 rw [← hv]
 replace M := al2W hv M
 clear hv
 refine cj8 (J1 M).1.c4 fun aa ab ac ad ae af ag ah => ?_
 go_wp2_with fail
 clear aa ab ac ad ae af ag ah
 refine (rfright_ok (G := G) (q := q) (H1.out.keep (J2 M)) (Fz.mono HX.out (by omega))).mono ?_
 rintro e w2 ⟨rfl, hb⟩
 replace M := gnM hb M
 clear hb
 go_wp2_with fail
 refine nmW w2.drew fun w3 hv => ?_
 replace M := drM hv M
 refine wp_region_held_drew (S := (fun w' => w'.cell? ⟨w.heap.size, 0, none⟩ = some (.int .i64 (sg (nu q))) ∧ w'.cell? ⟨w.heap.size, 1, none⟩ = some (.slice a1 (ln (nu q)) c1) ∧ w'.cell? ⟨w.heap.size, 2, none⟩ = some (.int .i64 (sg (de q))) ∧ w'.cell? ⟨w.heap.size, 3, none⟩ = some (.slice b1 (ln (de q)) d1))) (by kernel_rfl) (by rw [← hv]; exact (J1 M).1.d4) (fun hH5 => ?_)
 rw [← hv] at hH5 ⊢
 clear hv
 refine tk at0 ?_
 refine tk at1 ?_
 refine tk at3 ?_
 refine tk at4 ?_
 refine wpAnyH_ready (rs := [2]) (by kernel_rfl) (by simp) ?_
 refine AllReadyH.cons at2 (fun K hK => ?_) AllReadyH.nil
 go_simp
 obtain ⟨z8, ez8⟩ : ∃ v_ : Int, v_ = (-(nu q)) := ⟨_, rfl⟩
 refine (rneg_ok (G := G) (x := (nu q)) (H1.out.keep (J2 M)).n (Sz.mono HX.out.1 (by omega))).mono ?_
 rintro e w4 ⟨a_6, c_7, rfl, hd9, hb⟩
 rw [← ez8] at hd9 ⊢
 have Sz8 : Hid (Sz z8 137438953472) := by show Sz z8 137438953472; rw [ez8]; exact (Sz.neg HX.out.1)
 have Ez8 := Lib.hid ez8; clear ez8
 replace M := adM hd9 hb M
 clear hb hd9
 (try go_wp2_with fail)
 refine hK.out _ _ ((J2 M).1.d4) (fun hH10 => ?_)
 clear hK K hH5
 (try simp only [Act.put, List.setIfInBounds_toArray, List.set_cons_zero, List.set_cons_succ])
 refine tk at5 ?_
 refine wpAnyH_ready (rs := [6]) (by kernel_rfl) (by simp) ?_
 refine AllReadyH.cons at6 (fun K hK => ?_) AllReadyH.nil
 refine cj8 (J1 M).1.c4 fun ai aj ak al am ao ap aq => ?_
 go_simp
 clear ai aj ak al am ao ap aq
 have hz : w.heap.size ≤ w.heap.size + 1 := by omega
 refine st4W (.int .i64 (sg z8)) (.slice a_6 (ln z8) c_7) (.int .i64 (sg (de q))) (.slice b1 (ln (de q)) d1) (J1 M).1 (J3 M) hz fun w5 hv og hk hbw => ?_
 rw [← hv]
 replace M := Lib.hid (aI ((M.out.1).far (J1 M).1 (by rfl) (by omega) og) (aI hk (aI ((J2 M).1.only og (by omega)) hbw)))
 clear hk hbw og hv hz
 refine hK.out _ _ ((J2 M).1.d4) (fun hH11 => ?_)
 clear hK K hH10
 (try simp only [Act.put, List.setIfInBounds_toArray, List.set_cons_zero, List.set_cons_succ])
 refine wpAnyH_done (by kernel_rfl) ?_ _
 clear hH11
 go_wp2_with fail
 have HN : nu (-q) = z8 := by rw [Ez8.out, nu_neg]
 have HD : de (-q) = de q := de_neg q
 rw [HN, HD]
 refine bodyPost_ret (results_box1 rfl _ _ (w.heap.size + 1) 26 _ _ _ rfl (J1 M).1 Tryz.underlying26 rfl (by kernel_rfl)) rfl ?_
 exact ⟨a_6, c_7, b1, d1, rfl, FD.mk (by rw [HN]; exact (M.out.1)) (by rw [HD]; exact (H1.out.keep (J3 M)).d), (J3 M)⟩
set_option maxRecDepth 100000 in
set_option maxHeartbeats 4000000 in
theorem rffloor_ok {q : Rat} {a1 b1 : Option Addr} {c1 d1 : Nat} {w : World} (hG : G ≤ w.heap.size) (h1 : FD G w a1 c1 b1 d1 q) (hx : Fz q 137438953472)  :
  Calls Tryz.prog 44 #[.agg #[.int .i64 (sg (nu q)), .slice a1 (ln (nu q)) c1, .int .i64 (sg (de q)), .slice b1 (ln (de q)) d1]] w fun e w' => ∃ a c, e = .returned (.agg #[.int .i64 (sg (flo q)), .slice a (ln (flo q)) c]) ∧ BD G w' a c (flo q) ∧ Below w.heap.size w w' := by
 have HX := Lib.hid hx; clear hx
 have H1 : Hid (FD G w a1 c1 b1 d1 q) := h1
 clear h1
 have M : Hid (Below w.heap.size w w) := Below.refl _ _
 go_enter Tryz.func44, Tryz.ntmps44
 go_upto_region 1 with fail
 refine nmW ((w.alloc (.cells #[.int .i64 (sg (nu q)), .slice a1 (ln (nu q)) c1, .int .i64 (sg (de q)), .slice b1 (ln (de q)) d1] 26)).alloc (.cells #[.int .i64 0, .slice none 0 0] 24)) fun w1 hv => ?_
 rw [← hv]
 replace M := al2W hv M
 clear hv
 refine cj8 (J1 M).1.c4 fun aa ab ac ad ae af ag ah => ?_
 go_wp2_with fail
 clear aa ab ac ad ae af ag ah
 refine (rfright_ok (G := G) (q := q) (H1.out.keep (J2 M)) (Fz.mono HX.out (by omega))).mono ?_
 rintro e w2 ⟨rfl, hb⟩
 replace M := gnM hb M
 clear hb
 refine cj8 (J1 M).1.c4 fun aa ab ac ad ae af ag ah => ?_
 go_wp2_with fail
 clear aa ab ac ad ae af ag ah
 obtain ⟨z5, ez5⟩ : ∃ v_ : Int, v_ = (dv (nu q) (de q)) := ⟨_, rfl⟩
 obtain ⟨z6, ez6⟩ : ∃ v_ : Int, v_ = (md (nu q) (de q)) := ⟨_, rfl⟩
 refine (rdiv_ok (G := G) (x := (nu q)) (y := (de q)) (H1.out.keep (J2 M)).n (H1.out.keep (J2 M)).d (Sz.mono HX.out.1 (by omega)) (Sz.mono HX.out.2 (by omega)) (Int.ne_of_gt (de_pos _))).mono ?_
 rintro e w3 ⟨a_1, c_2, b_3, d_4, rfl, hd7, hd8, hb⟩
 rw [← ez5] at hd7 ⊢
 have Ez5 := Lib.hid ez5; clear ez5
 rw [← ez6] at hd8 ⊢
 have Ez6 := Lib.hid ez6; clear ez6
 replace M := ad2M hd7 hd8 hb M
 clear hb hd7 hd8
 go_upto_region 4 with fail
 refine nmW ((w3.alloc (.cells #[.int .i64 (sg z5), .slice a_1 (ln z5) c_2] 24)).alloc (.cells #[.int .i64 (sg z6), .slice b_3 (ln z6) d_4] 24)) fun w4 hv => ?_
 rw [← hv]
 have o2 : w.heap.size + 1 < w3.heap.size := ((J2 M).1).lt
 replace M := al2W hv M
 clear hv
 refine cj4 (J1 M).1.c2 fun ai aj ak al => ?_
 refine cj4 (J4 M).1.c2 fun am ao ap aq => ?_
 go_wp2_with fail
 clear ai aj ak al am ao ap aq
 have hz : w.heap.size ≤ w.heap.size + 1 := by omega
 refine st2W (.int .i64 (sg z5)) (.slice a_1 (ln z5) c_2) (J4 M).1 (J6 M) hz fun w5 hv og hk hbw => ?_
 rw [← hv]
 replace M := Lib.hid (aI ((M.out.1).only og (by omega)) (aI ((J1 M).1.only og (by omega)) (aI ((J2 M).1.far (J4 M).1 (by rfl) (by omega) og) (aI ((J3 M).1.far (J4 M).1 (by rfl) (by omega) og) (aI hk (aI ((J5 M).1.only og (by omega)) hbw))))))
 clear hk hbw og hv hz
 have HR : flo q = z5 := by rw [Ez5.out]; rfl
 rw [HR]
 refine bodyPost_ret (results_box1 rfl _ _ (w.heap.size + 1) 24 _ _ _ rfl (J4 M).1 Tryz.underlying24 rfl (by kernel_rfl)) rfl ?_
 exact ⟨a_1, c_2, rfl, (J2 M).1, (J6 M)⟩
theorem rfcompare_is2 {q r : Rat} {k : Int} {a1 b1 a2 b2 : Option Addr} {c1 d1 c2 d2 : Nat} {w : World} (h1 : FD G w a1 c1 b1 d1 q) (h2 : FD G w a2 c2 b2 d2 r) (hx : Fz q 137438953472) (hy : Fz r 137438953472) (hk : ordQ q r = k) :
  Calls Tryz.prog 28 #[.agg #[.int .i64 (sg (nu q)), .slice a1 (ln (nu q)) c1, .int .i64 (sg (de q)), .slice b1 (ln (de q)) d1], .agg #[.int .i64 (sg (nu r)), .slice a2 (ln (nu r)) c2, .int .i64 (sg (de r)), .slice b2 (ln (de r)) d2]] w fun e w' => e = .returned (.int .i64 k) ∧ Below w.heap.size w w' := by
 rw [← hk]; exact rfcompare_ok h1 h2 hx hy
set_option maxRecDepth 100000 in
set_option maxHeartbeats 4000000 in
theorem rfmin_1 {q r : Rat} {a1 b1 a2 b2 : Option Addr} {c1 d1 c2 d2 : Nat} {w : World} (_hG : G ≤ w.heap.size) (h1 : FD G w a1 c1 b1 d1 q) (h2 : FD G w a2 c2 b2 d2 r) (hx : Fz q 137438953472) (hy : Fz r 137438953472) (h : q ≤ r) :
  Calls Tryz.prog 31 #[.agg #[.int .i64 (sg (nu q)), .slice a1 (ln (nu q)) c1, .int .i64 (sg (de q)), .slice b1 (ln (de q)) d1], .agg #[.int .i64 (sg (nu r)), .slice a2 (ln (nu r)) c2, .int .i64 (sg (de r)), .slice b2 (ln (de r)) d2]] w fun e w' => ∃ a c b d, e = .returned (.tuple #[.agg #[.int .i64 (sg (nu q)), .slice a (ln (nu q)) c, .int .i64 (sg (de q)), .slice b (ln (de q)) d], .int .i64 0]) ∧ FD G w' a c b d q ∧ Below w.heap.size w w' := by
 obtain ⟨k, hk⟩ : ∃ k, ordQ q r = k := ⟨_, rfl⟩
 have n1 : decide (k ≤ 0) = true := by rw [← hk]; exact decide_eq_true (by have := ordQ_up h; omega)
 have HK := Lib.hid hk; clear hk h
 have HX := Lib.hid hx; have HY := Lib.hid hy; clear hx hy
 have H1 : Hid (FD G w a1 c1 b1 d1 q) := h1
 have H2 : Hid (FD G w a2 c2 b2 d2 r) := h2
 clear h1 h2
 have M : Hid (Below w.heap.size w w) := Below.refl _ _
 go_enter Tryz.func31, Tryz.ntmps31
 go_upto_region 1 with fail
 refine nmW (((w.alloc (.cells #[.int .i64 (sg (nu q)), .slice a1 (ln (nu q)) c1, .int .i64 (sg (de q)), .slice b1 (ln (de q)) d1] 26)).alloc (.cells #[.int .i64 (sg (nu r)), .slice a2 (ln (nu r)) c2, .int .i64 (sg (de r)), .slice b2 (ln (de r)) d2] 26)).alloc (.cells #[.int .i64 0, .slice none 0 0, .int .i64 0, .slice none 0 0] 26)) fun w1 hv => ?_
 rw [← hv]
 replace M := al3W hv M
 clear hv
 refine cj8 (J2 M).1.c4 fun aa ab ac ad ae af ag ah => ?_
 go_wp2_with fail
 clear aa ab ac ad ae af ag ah
 refine (rfright_ok (G := G) (q := q) (H1.out.keep (J3 M)) (Fz.mono HX.out (by omega))).mono ?_
 rintro e w2 ⟨rfl, hb⟩
 replace M := gnM hb M
 clear hb
 refine cj8 (J1 M).1.c4 fun ai aj ak al am ao ap aq => ?_
 go_wp2_with fail
 clear ai aj ak al am ao ap aq
 refine (rfright_ok (G := G) (q := r) (H2.out.keep (J3 M)) (Fz.mono HY.out (by omega))).mono ?_
 rintro e w3 ⟨rfl, hb⟩
 replace M := gnM hb M
 clear hb
 refine cj8 (J2 M).1.c4 fun aa ab ac ad ae af ag ah => ?_
 refine cj8 (J1 M).1.c4 fun ai aj ak al am ao ap aq => ?_
 go_wp2_with fail
 clear aa ab ac ad ae af ag ah ai aj ak al am ao ap aq
 refine (rfcompare_is2 (G := G) (q := q) (r := r) (k := k) (H1.out.keep (J3 M)) (H2.out.keep (J3 M)) HX.out HY.out HK.out).mono ?_
 rintro e w4 ⟨rfl, hb⟩
 replace M := gnM hb M
 clear hb
 refine cj8 (J2 M).1.c4 fun aa ab ac ad ae af ag ah => ?_
 refine cj8 (M.out.1).c4 fun ar au av aw ax ay az ba => ?_
 go_wp2_with fail
 clear aa ab ac ad ae af ag ah ar au av aw ax ay az ba
 have hz : w.heap.size ≤ w.heap.size + 1 + 1 := by omega
 refine st4W (.int .i64 (sg (nu q))) (.slice a1 (ln (nu q)) c1) (.int .i64 (sg (de q))) (.slice b1 (ln (de q)) d1) (M.out.1) (J3 M) hz fun w5 hv og hk hbw => ?_
 rw [← hv]
 replace M := Lib.hid (aI hk (aI ((J1 M).1.only og (by omega)) (aI ((J2 M).1.only og (by omega)) hbw)))
 clear hk hbw og hv hz
 refine bodyPost_ret (results_box2 rfl _ _ (w.heap.size + 1 + 1) 26 _ _ _ rfl (M.out.1) Tryz.underlying26 rfl (by kernel_rfl)) rfl ?_
 exact ⟨a1, c1, b1, d1, rfl, (H1.out.keep (J3 M)), (J3 M)⟩
set_option maxRecDepth 100000 in
set_option maxHeartbeats 4000000 in
theorem rfmin_2 {q r : Rat} {a1 b1 a2 b2 : Option Addr} {c1 d1 c2 d2 : Nat} {w : World} (_hG : G ≤ w.heap.size) (h1 : FD G w a1 c1 b1 d1 q) (h2 : FD G w a2 c2 b2 d2 r) (hx : Fz q 137438953472) (hy : Fz r 137438953472) (h : r < q) :
  Calls Tryz.prog 31 #[.agg #[.int .i64 (sg (nu q)), .slice a1 (ln (nu q)) c1, .int .i64 (sg (de q)), .slice b1 (ln (de q)) d1], .agg #[.int .i64 (sg (nu r)), .slice a2 (ln (nu r)) c2, .int .i64 (sg (de r)), .slice b2 (ln (de r)) d2]] w fun e w' => ∃ a c b d, e = .returned (.tuple #[.agg #[.int .i64 (sg (nu r)), .slice a (ln (nu r)) c, .int .i64 (sg (de r)), .slice b (ln (de r)) d], .int .i64 0]) ∧ FD G w' a c b d r ∧ Below w.heap.size w w' := by
 obtain ⟨k, hk⟩ : ∃ k, ordQ q r = k := ⟨_, rfl⟩
 have n1 : decide (k ≤ 0) = false := by rw [← hk]; exact decide_eq_false (by have := ordQ_ge h; omega)
 have HK := Lib.hid hk; clear hk h
 have HX := Lib.hid hx; have HY := Lib.hid hy; clear hx hy
 have H1 : Hid (FD G w a1 c1 b1 d1 q) := h1
 have H2 : Hid (FD G w a2 c2 b2 d2 r) := h2
 clear h1 h2
 have M : Hid (Below w.heap.size w w) := Below.refl _ _
 go_enter Tryz.func31, Tryz.ntmps31
 go_upto_region 1 with fail
 refine nmW (((w.alloc (.cells #[.int .i64 (sg (nu q)), .slice a1 (ln (nu q)) c1, .int .i64 (sg (de q)), .slice b1 (ln (de q)) d1] 26)).alloc (.cells #[.int .i64 (sg (nu r)), .slice a2 (ln (nu r)) c2, .int .i64 (sg (de r)), .slice b2 (ln (de r)) d2] 26)).alloc (.cells #[.int .i64 0, .slice none 0 0, .int .i64 0, .slice none 0 0] 26)) fun w1 hv => ?_
 rw [← hv]
 replace M := al3W hv M
 clear hv
 refine cj8 (J2 M).1.c4 fun aa ab ac ad ae af ag ah => ?_
 go_wp2_with fail
 clear aa ab ac ad ae af ag ah
 refine (rfright_ok (G := G) (q := q) (H1.out.keep (J3 M)) (Fz.mono HX.out (by omega))).mono ?_
 rintro e w2 ⟨rfl, hb⟩
 replace M := gnM hb M
 clear hb
 refine cj8 (J1 M).1.c4 fun ai aj ak al am ao ap aq => ?_
 go_wp2_with fail
 clear ai aj ak al am ao ap aq
 refine (rfright_ok (G := G) (q := r) (H2.out.keep (J3 M)) (Fz.mono HY.out (by omega))).mono ?_
 rintro e w3 ⟨rfl, hb⟩
 replace M := gnM hb M
 clear hb
 refine cj8 (J2 M).1.c4 fun aa ab ac ad ae af ag ah => ?_
 refine cj8 (J1 M).1.c4 fun ai aj ak al am ao ap aq => ?_
 go_wp2_with fail
 clear aa ab ac ad ae af ag ah ai aj ak al am ao ap aq
 refine (rfcompare_is2 (G := G) (q := q) (r := r) (k := k) (H1.out.keep (J3 M)) (H2.out.keep (J3 M)) HX.out HY.out HK.out).mono ?_
 rintro e w4 ⟨rfl, hb⟩
 replace M := gnM hb M
 clear hb
 refine cj8 (J1 M).1.c4 fun ai aj ak al am ao ap aq => ?_
 refine cj8 (M.out.1).c4 fun ar au av aw ax ay az ba => ?_
 go_wp2_with fail
 clear ai aj ak al am ao ap aq ar au av aw ax ay az ba
 have hz : w.heap.size ≤ w.heap.size + 1 + 1 := by omega
 refine st4W (.int .i64 (sg (nu r))) (.slice a2 (ln (nu r)) c2) (.int .i64 (sg (de r))) (.slice b2 (ln (de r)) d2) (M.out.1) (J3 M) hz fun w5 hv og hk hbw => ?_
 rw [← hv]
 replace M := Lib.hid (aI hk (aI ((J1 M).1.only og (by omega)) (aI ((J2 M).1.only og (by omega)) hbw)))
 clear hk hbw og hv hz
 refine bodyPost_ret (results_box2 rfl _ _ (w.heap.size + 1 + 1) 26 _ _ _ rfl (M.out.1) Tryz.underlying26 rfl (by kernel_rfl)) rfl ?_
 exact ⟨a2, c2, b2, d2, rfl, (H2.out.keep (J3 M)), (J3 M)⟩
set_option maxRecDepth 100000 in
set_option maxHeartbeats 4000000 in
theorem rfmax_1 {q r : Rat} {a1 b1 a2 b2 : Option Addr} {c1 d1 c2 d2 : Nat} {w : World} (_hG : G ≤ w.heap.size) (h1 : FD G w a1 c1 b1 d1 q) (h2 : FD G w a2 c2 b2 d2 r) (hx : Fz q 137438953472) (hy : Fz r 137438953472) (h : r ≤ q) :
  Calls Tryz.prog 33 #[.agg #[.int .i64 (sg (nu q)), .slice a1 (ln (nu q)) c1, .int .i64 (sg (de q)), .slice b1 (ln (de q)) d1], .agg #[.int .i64 (sg (nu r)), .slice a2 (ln (nu r)) c2, .int .i64 (sg (de r)), .slice b2 (ln (de r)) d2]] w fun e w' => ∃ a c b d, e = .returned (.tuple #[.agg #[.int .i64 (sg (nu q)), .slice a (ln (nu q)) c, .int .i64 (sg (de q)), .slice b (ln (de q)) d], .int .i64 0]) ∧ FD G w' a c b d q ∧ Below w.heap.size w w' := by
 obtain ⟨k, hk⟩ : ∃ k, ordQ q r = k := ⟨_, rfl⟩
 have n1 : decide (0 ≤ k) = true := by rw [← hk]; exact decide_eq_true (by have h2 := ordQ_up h; rw [ordQ_swap] at h2; omega)
 have HK := Lib.hid hk; clear hk h
 have HX := Lib.hid hx; have HY := Lib.hid hy; clear hx hy
 have H1 : Hid (FD G w a1 c1 b1 d1 q) := h1
 have H2 : Hid (FD G w a2 c2 b2 d2 r) := h2
 clear h1 h2
 have M : Hid (Below w.heap.size w w) := Below.refl _ _
 go_enter Tryz.func33, Tryz.ntmps33
 go_upto_region 1 with fail
 refine nmW (((w.alloc (.cells #[.int .i64 (sg (nu q)), .slice a1 (ln (nu q)) c1, .int .i64 (sg (de q)), .slice b1 (ln (de q)) d1] 26)).alloc (.cells #[.int .i64 (sg (nu r)), .slice a2 (ln (nu r)) c2, .int .i64 (sg (de r)), .slice b2 (ln (de r)) d2] 26)).alloc (.cells #[.int .i64 0, .slice none 0 0, .int .i64 0, .slice none 0 0] 26)) fun w1 hv => ?_
 rw [← hv]
 replace M := al3W hv M
 clear hv
 refine cj8 (J2 M).1.c4 fun aa ab ac ad ae af ag ah => ?_
 go_wp2_with fail
 clear aa ab ac ad ae af ag ah
 refine (rfright_ok (G := G) (q := q) (H1.out.keep (J3 M)) (Fz.mono HX.out (by omega))).mono ?_
 rintro e w2 ⟨rfl, hb⟩
 replace M := gnM hb M
 clear hb
 refine cj8 (J1 M).1.c4 fun ai aj ak al am ao ap aq => ?_
 go_wp2_with fail
 clear ai aj ak al am ao ap aq
 refine (rfright_ok (G := G) (q := r) (H2.out.keep (J3 M)) (Fz.mono HY.out (by omega))).mono ?_
 rintro e w3 ⟨rfl, hb⟩
 replace M := gnM hb M
 clear hb
 refine cj8 (J2 M).1.c4 fun aa ab ac ad ae af ag ah => ?_
 refine cj8 (J1 M).1.c4 fun ai aj ak al am ao ap aq => ?_
 go_wp2_with fail
 clear aa ab ac ad ae af ag ah ai aj ak al am ao ap aq
 refine (rfcompare_is2 (G := G) (q := q) (r := r) (k := k) (H1.out.keep (J3 M)) (H2.out.keep (J3 M)) HX.out HY.out HK.out).mono ?_
 rintro e w4 ⟨rfl, hb⟩
 replace M := gnM hb M
 clear hb
 refine cj8 (J2 M).1.c4 fun aa ab ac ad ae af ag ah => ?_
 refine cj8 (M.out.1).c4 fun ar au av aw ax ay az ba => ?_
 go_wp2_with fail
 clear aa ab ac ad ae af ag ah ar au av aw ax ay az ba
 have hz : w.heap.size ≤ w.heap.size + 1 + 1 := by omega
 refine st4W (.int .i64 (sg (nu q))) (.slice a1 (ln (nu q)) c1) (.int .i64 (sg (de q))) (.slice b1 (ln (de q)) d1) (M.out.1) (J3 M) hz fun w5 hv og hk hbw => ?_
 rw [← hv]
 replace M := Lib.hid (aI hk (aI ((J1 M).1.only og (by omega)) (aI ((J2 M).1.only og (by omega)) hbw)))
 clear hk hbw og hv hz
 refine bodyPost_ret (results_box2 rfl _ _ (w.heap.size + 1 + 1) 26 _ _ _ rfl (M.out.1) Tryz.underlying26 rfl (by kernel_rfl)) rfl ?_
 exact ⟨a1, c1, b1, d1, rfl, (H1.out.keep (J3 M)), (J3 M)⟩
set_option maxRecDepth 100000 in
set_option maxHeartbeats 4000000 in
theorem rfmax_2 {q r : Rat} {a1 b1 a2 b2 : Option Addr} {c1 d1 c2 d2 : Nat} {w : World} (_hG : G ≤ w.heap.size) (h1 : FD G w a1 c1 b1 d1 q) (h2 : FD G w a2 c2 b2 d2 r) (hx : Fz q 137438953472) (hy : Fz r 137438953472) (h : q < r) :
  Calls Tryz.prog 33 #[.agg #[.int .i64 (sg (nu q)), .slice a1 (ln (nu q)) c1, .int .i64 (sg (de q)), .slice b1 (ln (de q)) d1], .agg #[.int .i64 (sg (nu r)), .slice a2 (ln (nu r)) c2, .int .i64 (sg (de r)), .slice b2 (ln (de r)) d2]] w fun e w' => ∃ a c b d, e = .returned (.tuple #[.agg #[.int .i64 (sg (nu r)), .slice a (ln (nu r)) c, .int .i64 (sg (de r)), .slice b (ln (de r)) d], .int .i64 0]) ∧ FD G w' a c b d r ∧ Below w.heap.size w w' := by
 obtain ⟨k, hk⟩ : ∃ k, ordQ q r = k := ⟨_, rfl⟩
 have n1 : decide (0 ≤ k) = false := by rw [← hk]; exact decide_eq_false (by have h2 := ordQ_ge h; rw [ordQ_swap] at h2; omega)
 have HK := Lib.hid hk; clear hk h
 have HX := Lib.hid hx; have HY := Lib.hid hy; clear hx hy
 have H1 : Hid (FD G w a1 c1 b1 d1 q) := h1
 have H2 : Hid (FD G w a2 c2 b2 d2 r) := h2
 clear h1 h2
 have M : Hid (Below w.heap.size w w) := Below.refl _ _
 go_enter Tryz.func33, Tryz.ntmps33
 go_upto_region 1 with fail
 refine nmW (((w.alloc (.cells #[.int .i64 (sg (nu q)), .slice a1 (ln (nu q)) c1, .int .i64 (sg (de q)), .slice b1 (ln (de q)) d1] 26)).alloc (.cells #[.int .i64 (sg (nu r)), .slice a2 (ln (nu r)) c2, .int .i64 (sg (de r)), .slice b2 (ln (de r)) d2] 26)).alloc (.cells #[.int .i64 0, .slice none 0 0, .int .i64 0, .slice none 0 0] 26)) fun w1 hv => ?_
 rw [← hv]
 replace M := al3W hv M
 clear hv
 refine cj8 (J2 M).1.c4 fun aa ab ac ad ae af ag ah => ?_
 go_wp2_with fail
 clear aa ab ac ad ae af ag ah
 refine (rfright_ok (G := G) (q := q) (H1.out.keep (J3 M)) (Fz.mono HX.out (by omega))).mono ?_
 rintro e w2 ⟨rfl, hb⟩
 replace M := gnM hb M
 clear hb
 refine cj8 (J1 M).1.c4 fun ai aj ak al am ao ap aq => ?_
 go_wp2_with fail
 clear ai aj ak al am ao ap aq
 refine (rfright_ok (G := G) (q := r) (H2.out.keep (J3 M)) (Fz.mono HY.out (by omega))).mono ?_
 rintro e w3 ⟨rfl, hb⟩
 replace M := gnM hb M
 clear hb
 refine cj8 (J2 M).1.c4 fun aa ab ac ad ae af ag ah => ?_
 refine cj8 (J1 M).1.c4 fun ai aj ak al am ao ap aq => ?_
 go_wp2_with fail
 clear aa ab ac ad ae af ag ah ai aj ak al am ao ap aq
 refine (rfcompare_is2 (G := G) (q := q) (r := r) (k := k) (H1.out.keep (J3 M)) (H2.out.keep (J3 M)) HX.out HY.out HK.out).mono ?_
 rintro e w4 ⟨rfl, hb⟩
 replace M := gnM hb M
 clear hb
 refine cj8 (J1 M).1.c4 fun ai aj ak al am ao ap aq => ?_
 refine cj8 (M.out.1).c4 fun ar au av aw ax ay az ba => ?_
 go_wp2_with fail
 clear ai aj ak al am ao ap aq ar au av aw ax ay az ba
 have hz : w.heap.size ≤ w.heap.size + 1 + 1 := by omega
 refine st4W (.int .i64 (sg (nu r))) (.slice a2 (ln (nu r)) c2) (.int .i64 (sg (de r))) (.slice b2 (ln (de r)) d2) (M.out.1) (J3 M) hz fun w5 hv og hk hbw => ?_
 rw [← hv]
 replace M := Lib.hid (aI hk (aI ((J1 M).1.only og (by omega)) (aI ((J2 M).1.only og (by omega)) hbw)))
 clear hk hbw og hv hz
 refine bodyPost_ret (results_box2 rfl _ _ (w.heap.size + 1 + 1) 26 _ _ _ rfl (M.out.1) Tryz.underlying26 rfl (by kernel_rfl)) rfl ?_
 exact ⟨a2, c2, b2, d2, rfl, (H2.out.keep (J3 M)), (J3 M)⟩
end Go.Proofs.YtcfmakpckdicjaaGreatDoor
