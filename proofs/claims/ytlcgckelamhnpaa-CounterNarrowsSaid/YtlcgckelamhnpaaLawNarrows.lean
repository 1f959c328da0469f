/- CounterNarrows: whatever the arguments, it returns true. -/
import Derived.Test.YtlcgckelamhnpaaBase
import Derived.Test.YtlcgckelamhnpaaBigSpec
import Derived.Test.YtlcgckelamhnpaaBigB
import Derived.Test.YtlcgckelamhnpaaBigC
import Derived.Test.YtlcgckelamhnpaaBigD
import Derived.Test.YtlcgckelamhnpaaBigK
import Derived.Test.YtlcgckelamhnpaaBigQ
import Derived.Test.YtlcgckelamhnpaaFd
import Derived.Test.YtlcgckelamhnpaaHeld
import Derived.Test.YtlcgckelamhnpaaAw
import Derived.Test.YtlcgckelamhnpaaFz
import Derived.Test.YtlcgckelamhnpaaFracR
import Derived.Test.YtlcgckelamhnpaaRw
import Derived.Test.YtlcgckelamhnpaaScaleE
import Derived.Test.YtlcgckelamhnpaaCtLaws
import Derived.Test.YtlcgckelamhnpaaCtA
import Derived.Test.YtlcgckelamhnpaaCtC
import Derived.Test.YtlcgckelamhnpaaLexSpec
import Derived.Test.YtlcgckelamhnpaaCtE
import Derived.Test.YtlcgckelamhnpaaScaleP
import Derived.Test.YtlcgckelamhnpaaCtL
import Derived.Test.YtlcgckelamhnpaaProg
import Derived.Test.YtlcgckelamhnpaaShelf
import Derived.WalkKit
import Derived.WalkSpells
import Derived.WalkLawsBesides
import Derived.Handy
import Derived.Lib.Hide
import Derived.Lib.Strings
import Derived.Lib.Builder
import Derived.BigQuiet
import Derived.OwnWalk
import Derived.Laws.BitsLemmas
import Derived.WalkSmall
import Derived.Deep.QuietTactic
import Derived.StillTailTactics
import Derived.Maps.AppendAt
import Derived.IntWalk
import Derived.Deep.RegionHeld3
import Derived.Deep.DeepFit
import Derived.Deep.LoopGhost
import Derived.Deep.DeepCutAuto
import Derived.Lib.ItoaNum
import Derived.Lib.Repeat
import Derived.Lib.AppendIntMem
import Derived.Sort.OwnSorted
import Derived.Shelf.Strings.SlTrimAscii
import Derived.Lib.ConvBytes
import Derived.Lib.CutLaws
import Derived.Shelf.Strings.Builder1
import Derived.ArgAppend
namespace Go.Proofs.Ytlcgckelamhnpaa
open Go.RowKit Go.Lib
variable {G : Nat}

theorem betw_ord {iv : Iv} (hv : IvOk iv) {nb big : Bool} {ms : List Mt} {rs : List Rg} {a b : Int} {x : Rat × Rat} (h : betw iv nb big ms rs a b = (0, some x)) : 0 ≤ x.1 ∧ x.1 ≤ x.2 := by
 obtain ⟨hc, hd, x', hx, e⟩ := betw_zero (show (betw iv nb big ms rs a b).1 = 0 by rw [h])
 rw [h] at e; cases e
 exact btw_nn (fun i hi y k => piece_nn ((possA_iff hv).1 (check_zero.1 hc).2 i hi) (marks_ok hv ms rs i) k) hx
theorem betw_cases (iv : Iv) (nb big : Bool) (ms : List Mt) (rs : List Rg) (a b : Int) : (∃ x y, betw iv nb big ms rs a b = (0, some (x, y))) ∨ ∃ e, betw iv nb big ms rs a b = (e, none) ∧ ¬ e = 0 := by
  by_cases h : (betw iv nb big ms rs a b).1 = 0
  · obtain ⟨-, -, x, -, e⟩ := betw_zero h
    exact .inl ⟨x.1, x.2, e⟩
  · refine .inr ⟨_, ?_, h⟩
    unfold betw at *
    by_cases hc : checkE iv nb big ms rs = 0
    · rw [if_pos hc] at h ⊢
      by_cases hab : b < a
      · rw [if_pos hab]
      · rw [if_neg hab] at h ⊢
        by_cases hn : ms.length = 0 ∨ a < (ms.getD 0 ⟨0, 0, 0⟩).f ∨ (ms.getD (ms.length - 1) ⟨0, 0, 0⟩).u < b
        · rw [if_pos hn]
        · rw [if_neg hn] at h ⊢
          cases e : btw (pieceM iv ms rs a b) ms.length with
          | none => rfl
          | some x => rw [e] at h; exact absurd rfl h
    · rw [if_neg hc]
theorem betw_free {iv : Iv} {nb big : Bool} {ms : List Mt} {rs : List Rg} {a b : Int} (h : (betw iv nb big ms rs a b).1 = 17) (_hc : checkE iv nb big ms rs = 0) : betw iv nb big ms rs a b = (17, none) := by
  rcases betw_cases iv nb big ms rs a b with ⟨x, y, e⟩ | ⟨e, he, -⟩
  · rw [e] at h; cases h
  · rw [he] at h ⊢; cases h; rfl
theorem b_some {X : Int × Option (Rat × Rat)} {er : Int} {o : Option (Rat × Rat)} {ol oh : Option Rat} {x y : Rat} (he : X = (er, o)) (hl : o.map Prod.fst = ol) (hh : o.map Prod.snd = oh) (h : X = (0, some (x, y))) : er = 0 ∧ ol = some x ∧ oh = some y := by
 rw [he] at h; cases h; exact ⟨rfl, hl.symm, hh.symm⟩
theorem b_none {X : Int × Option (Rat × Rat)} {er e : Int} {o : Option (Rat × Rat)} {ol oh : Option Rat} (he : X = (er, o)) (hl : o.map Prod.fst = ol) (hh : o.map Prod.snd = oh) (h : X = (e, none)) : er = e ∧ ol = none ∧ oh = none := by
 rw [he] at h; cases h; exact ⟨rfl, hl.symm, hh.symm⟩
end Go.Proofs.Ytlcgckelamhnpaa
namespace Go.Proofs.Ytlcgckelamhnpaa
open Go.RowKit Go.Lib
variable {G : Nat}

theorem bigB_rs {ms : List Mt} {rs : List Rg} {x : Rg} {nc nr : Nat} (h : rs.length ≤ 10) : bigB ms (rs ++ [x]) nc nr = bigB ms rs nc nr := by
 unfold bigB
 rw [List.length_append, List.length_singleton, decide_eq_false (show ¬ 400 < rs.length by omega), decide_eq_false (show ¬ 400 < rs.length + 1 by omega)]
theorem bigB_rr {ms : List Mt} {rs : List Rg} {nc nr : Nat} (h : nr ≤ 8) : bigB ms rs nc (nr + 1) = bigB ms rs nc nr := by
 unfold bigB
 rw [decide_eq_false (show ¬ 30 < nr by omega), decide_eq_false (show ¬ 30 < nr + 1 by omega)]
/-- The ways that a reading more, or a recall more, can go. -/
theorem narrow_ways {cs : List Ct} {rr : List Rc} {y : Rc} {x : Rg} {nb big : Bool} {ms : List Mt} {rs : List Rg} {a b : Int} :
    (∃ s s' t t' u u', betw (ivOf cs rr) nb big ms rs a b = (0, some (s, s')) ∧ betw (ivOf cs rr) nb big ms (rs ++ [x]) a b = (0, some (t, t')) ∧ betw (ivOf cs (rr ++ [y])) nb big ms rs a b = (0, some (u, u')) ∧
      checkE (ivOf cs rr) nb big ms rs = 0 ∧ checkE (ivOf cs (rr ++ [y])) nb big ms rs = 0 ∧ s ≤ s' ∧ t ≤ t' ∧ u ≤ u' ∧ s ≤ t ∧ t' ≤ s' ∧ u ≤ s ∧ s' ≤ u') ∨
    (∃ s s' t t', betw (ivOf cs rr) nb big ms rs a b = (0, some (s, s')) ∧ betw (ivOf cs rr) nb big ms (rs ++ [x]) a b = (0, some (t, t')) ∧ betw (ivOf cs (rr ++ [y])) nb big ms rs a b = (17, none) ∧
      checkE (ivOf cs rr) nb big ms rs = 0 ∧ checkE (ivOf cs (rr ++ [y])) nb big ms rs = 0 ∧ s ≤ s' ∧ t ≤ t' ∧ s ≤ t ∧ t' ≤ s') ∨
    (∃ s s' f u u', betw (ivOf cs rr) nb big ms rs a b = (0, some (s, s')) ∧ betw (ivOf cs rr) nb big ms (rs ++ [x]) a b = (f, none) ∧ ¬ f = 0 ∧ betw (ivOf cs (rr ++ [y])) nb big ms rs a b = (0, some (u, u')) ∧
      checkE (ivOf cs rr) nb big ms rs = 0 ∧ checkE (ivOf cs (rr ++ [y])) nb big ms rs = 0 ∧ s ≤ s' ∧ u ≤ u' ∧ u ≤ s ∧ s' ≤ u') ∨
    (∃ s s' f, betw (ivOf cs rr) nb big ms rs a b = (0, some (s, s')) ∧ betw (ivOf cs rr) nb big ms (rs ++ [x]) a b = (f, none) ∧ ¬ f = 0 ∧ betw (ivOf cs (rr ++ [y])) nb big ms rs a b = (17, none) ∧
      checkE (ivOf cs rr) nb big ms rs = 0 ∧ checkE (ivOf cs (rr ++ [y])) nb big ms rs = 0) ∨
    (∃ t t', betw (ivOf cs rr) nb big ms rs a b = (17, none) ∧ betw (ivOf cs rr) nb big ms (rs ++ [x]) a b = (0, some (t, t')) ∧ checkE (ivOf cs rr) nb big ms rs = 0 ∧ checkE (ivOf cs (rr ++ [y])) nb big ms rs = 0) ∨
    (∃ e f, betw (ivOf cs rr) nb big ms rs a b = (e, none) ∧ ¬ e = 0 ∧ betw (ivOf cs rr) nb big ms (rs ++ [x]) a b = (f, none) ∧ ¬ f = 0 ∧ checkE (ivOf cs rr) nb big ms rs = 0 ∧ checkE (ivOf cs (rr ++ [y])) nb big ms rs = 0) ∨
    (∃ e f k, betw (ivOf cs rr) nb big ms rs a b = (e, none) ∧ ¬ e = 0 ∧ betw (ivOf cs rr) nb big ms (rs ++ [x]) a b = (f, none) ∧ ¬ f = 0 ∧ checkE (ivOf cs rr) nb big ms rs = k ∧ ¬ k = 0) := by
  have hv := ivOk cs rr
  have hv' := ivOk cs (rr ++ [y])
  have hl := ivLe_more cs rr y
  have recall : ∀ {s s' : Rat}, betw (ivOf cs rr) nb big ms rs a b = (0, some (s, s')) → betw (ivOf cs (rr ++ [y])) nb big ms rs a b = (17, none) ∨ ∃ u u', betw (ivOf cs (rr ++ [y])) nb big ms rs a b = (0, some (u, u')) ∧ u ≤ s ∧ s' ≤ u' := fun {s s'} h => by
    have hc3 : checkE (ivOf cs (rr ++ [y])) nb big ms rs = 0 := check_fewer hv hv' hl rfl (betw_zero (show (betw (ivOf cs rr) nb big ms rs a b).1 = 0 by rw [h])).1
    rcases narrows_recall hv hv' hl (big' := big) rfl h with h1 | ⟨u, h1, h2, h3⟩
    · exact .inl (betw_free h1 hc3)
    · exact .inr ⟨u.1, u.2, h1, h2, h3⟩
  have chk : ∀ {s : Rat × Rat}, betw (ivOf cs rr) nb big ms rs a b = (0, some s) → checkE (ivOf cs rr) nb big ms rs = 0 ∧ checkE (ivOf cs (rr ++ [y])) nb big ms rs = 0 := fun {s} h => by
    have h1 := (betw_zero (show (betw (ivOf cs rr) nb big ms rs a b).1 = 0 by rw [h])).1
    exact ⟨h1, check_fewer hv hv' hl rfl h1⟩
  rcases betw_cases (ivOf cs rr) nb big ms (rs ++ [x]) a b with ⟨t, t', ht⟩ | ⟨f, hf, f0⟩
  · rcases narrows_reading hv (big := big) (fun h => h) ht with h1 | ⟨s, h1, h2, h3⟩
    · have hc := check_more hv (big := big) (fun h => h) (betw_zero (show (betw (ivOf cs rr) nb big ms (rs ++ [x]) a b).1 = 0 by rw [ht])).1
      exact .inr (.inr (.inr (.inr (.inl ⟨t, t', betw_free h1 hc, ht, hc, check_fewer hv hv' hl rfl hc⟩))))
    · obtain ⟨s, s'⟩ := s
      rcases recall h1 with h4 | ⟨u, u', h4, h5, h6⟩
      · exact .inr (.inl ⟨s, s', t, t', h1, ht, h4, (chk h1).1, (chk h1).2, (betw_ord hv h1).2, (betw_ord hv ht).2, h2, h3⟩)
      · exact .inl ⟨s, s', t, t', u, u', h1, ht, h4, (chk h1).1, (chk h1).2, (betw_ord hv h1).2, (betw_ord hv ht).2, (betw_ord hv' h4).2, h2, h3, h5, h6⟩
  · rcases betw_cases (ivOf cs rr) nb big ms rs a b with ⟨s, s', h1⟩ | ⟨e, he, e0⟩
    · rcases recall h1 with h4 | ⟨u, u', h4, h5, h6⟩
      · exact .inr (.inr (.inr (.inl ⟨s, s', f, h1, hf, f0, h4, (chk h1).1, (chk h1).2⟩)))
      · exact .inr (.inr (.inl ⟨s, s', f, u, u', h1, hf, f0, h4, (chk h1).1, (chk h1).2, (betw_ord hv h1).2, (betw_ord hv' h4).2, h5, h6⟩))
    · by_cases hc : checkE (ivOf cs rr) nb big ms rs = 0
      · exact .inr (.inr (.inr (.inr (.inr (.inl ⟨e, f, he, e0, hf, f0, hc, check_fewer hv hv' hl rfl hc⟩)))))
      · exact .inr (.inr (.inr (.inr (.inr (.inr ⟨e, f, _, he, e0, hf, f0, rfl, hc⟩)))))
set_option maxRecDepth 100000 in
set_option maxHeartbeats 4000000 in
theorem ctNarrows {nm : ByteArray} {am ar ac aq : Option Addr} {nn cm nr cr kc cc kq cq : Nat} {ms : List Mt} {rs : List Rg} {cs : List Ct} {rr : List Rc} {xm xd xc rs_ rd_ da db : Int} {w : World} (hG : G ≤ w.heap.size) (hm : RdMt G w am nn cm ms) (hr : RdRg G w ar nr cr rs) (hc : CtS w ac kc cc cs) (hq : RdRc G w aq kq cq rr)  :
  Calls Try.prog 3 #[.agg #[.string nm, .slice am nn cm, .slice ar nr cr], .slice ac kc cc, .slice aq kq cq, .agg #[.int .i64 xm, .int .i64 xd, .int .i64 xc], .agg #[.int .i64 rs_, .int .i64 rd_], .int .i64 da, .int .i64 db] w fun e w' => e = .returned (.bool true) ∧ Below w.heap.size w w' := by
 obtain ⟨rs2, hr2_⟩ : ∃ l, l = rs ++ [(⟨xm, xd, xc⟩ : Rg)] := ⟨_, rfl⟩
 obtain ⟨rr2, hq2_⟩ : ∃ l, l = rr ++ [(⟨rs_, rd_⟩ : Rc)] := ⟨_, rfl⟩
 have HR2 := Lib.hid hr2_; have HQ2 := Lib.hid hq2_; clear hr2_ hq2_
 obtain ⟨c1, hc1_⟩ : ∃ k, checkE (ivOf cs rr) (nameOk nm.data.toList) (bigB ms rs cs.length rr.length) ms rs = k := ⟨_, rfl⟩
 obtain ⟨c3, hc3_⟩ : ∃ k, checkE (ivOf cs rr2) (nameOk nm.data.toList) (bigB ms rs cs.length rr.length) ms rs = k := ⟨_, rfl⟩
 have HC1 := Lib.hid hc1_; have HC3 := Lib.hid hc3_; clear hc1_ hc3_
 obtain ⟨⟨e1, o1⟩, hb1_⟩ : ∃ p, betw (ivOf cs rr) (nameOk nm.data.toList) (bigB ms rs cs.length rr.length) ms rs da db = p := ⟨_, rfl⟩
 obtain ⟨l1, hl1_⟩ : ∃ q, o1.map Prod.fst = q := ⟨_, rfl⟩
 obtain ⟨g1, hg1_⟩ : ∃ q, o1.map Prod.snd = q := ⟨_, rfl⟩
 have HE1 := Lib.hid hb1_; have HL1 := Lib.hid hl1_; have HG1 := Lib.hid hg1_; clear hb1_ hl1_ hg1_
 obtain ⟨⟨e2, o2⟩, hb2_⟩ : ∃ p, betw (ivOf cs rr) (nameOk nm.data.toList) (bigB ms rs cs.length rr.length) ms rs2 da db = p := ⟨_, rfl⟩
 obtain ⟨l2, hl2_⟩ : ∃ q, o2.map Prod.fst = q := ⟨_, rfl⟩
 obtain ⟨g2, hg2_⟩ : ∃ q, o2.map Prod.snd = q := ⟨_, rfl⟩
 have HE2 := Lib.hid hb2_; have HL2 := Lib.hid hl2_; have HG2 := Lib.hid hg2_; clear hb2_ hl2_ hg2_
 obtain ⟨⟨e3, o3⟩, hb3_⟩ : ∃ p, betw (ivOf cs rr2) (nameOk nm.data.toList) (bigB ms rs cs.length rr.length) ms rs da db = p := ⟨_, rfl⟩
 obtain ⟨l3, hl3_⟩ : ∃ q, o3.map Prod.fst = q := ⟨_, rfl⟩
 obtain ⟨g3, hg3_⟩ : ∃ q, o3.map Prod.snd = q := ⟨_, rfl⟩
 have HE3 := Lib.hid hb3_; have HL3 := Lib.hid hl3_; have HG3 := Lib.hid hg3_; clear hb3_ hl3_ hg3_
 have HM : Hid (RdMt G w am nn cm ms) := hm
 have HRG : Hid (RdRg G w ar nr cr rs) := hr
 have HCS : Hid (CtS w ac kc cc cs) := hc
 have HRQ : Hid (RdRc G w aq kq cq rr) := hq
 have HRS : Hid (RcS w aq kq cq rr) := (RcS.of hq)
 clear hm hr hc hq
 have M : Hid (Below w.heap.size w w) := Below.refl _ _
 go_enter Try.func3, Try.ntmps3
 go_upto_region 1 with fail
 refine nmW (((w.alloc (.cells #[.string nm, .slice am nn cm, .slice ar nr cr] 25)).alloc (.cells #[.int .i64 xm, .int .i64 xd, .int .i64 xc] 29)).alloc (.cells #[.int .i64 rs_, .int .i64 rd_] 31)) fun w1 hv => ?_
 rw [← hv]
 replace M := al3W hv M
 clear hv
 go_wp2_with fail
 refine (ctSane (G := G) (Nat.le_trans hG (J3 M).size)).mono ?_
 rintro e w2 ⟨rfl, hb⟩
 replace M := gnM hb M
 clear hb
 go_upto_region 2 with fail
 rcases Bool.eq_false_or_eq_true (fewCt nn nr nm.size kc kq) with hfw_ | hfw_
 ·
  have HFW : Hid (fewCt nn nr nm.size kc kq = true) := hfw_
  have hln_ := fewCt_len hfw_
  have hnn := hln_.1; have hnr := hln_.2.1; have hsz := hln_.2.2.1; have hkc := hln_.2.2.2.1; have hkq := hln_.2.2.2.2; clear hln_
  have hlr_ := HRG.out.len; have hlq_ := HRQ.out.len
  have HB2 : Hid (bigB ms rs2 cs.length rr.length = (bigB ms rs cs.length rr.length)) := by show _ = _; rw [HR2.out]; exact bigB_rs (by omega)
  have HB3 : Hid (bigB ms rs cs.length rr2.length = (bigB ms rs cs.length rr.length)) := by show _ = _; rw [HQ2.out, List.length_append, List.length_singleton]; exact bigB_rr (by omega)
  refine cj3 (J2 M).1.d3 fun aa ab ad => ?_
  go_wp2_with fail
  clear aa ab ad
  refine (ctFew (nm := nm) (b_ := true) HFW.out).mono ?_
  rintro e w3 ⟨rfl, hb⟩
  replace M := gnM hb M
  clear hb
  refine cj3 (J2 M).1.d3 fun aa ab ad => ?_
  have z0 : w.heap.size < w3.heap.size := (J2 M).1.lt
  go_upto_region 5 with fail
  clear aa ab ad z0
  refine nmW (w3.alloc (.cells #[.string nm, .slice am nn cm, .slice ar nr cr] 25)) fun w4 hv => ?_
  rw [← hv]
  have ow3_ : w.heap.size + 1 + 1 < w3.heap.size := ((M.out.1)).lt
  replace M := alM hv M
  clear hv
  go_cut [] (fun wx => ∃ (dg5_ : Nat), ∃ (dc5_ : Nat), Hid (RdRg G wx (some ⟨dg5_, 0, none⟩) (nr + 1) dc5_ rs2 ∧ Bx wx w.heap.size 25 #[.string nm, .slice am nn cm, .slice ar nr cr] ∧ Bx wx (w.heap.size + 1) 29 #[.int .i64 xm, .int .i64 xd, .int .i64 xc] ∧ Bx wx (w.heap.size + 1 + 1) 31 #[.int .i64 rs_, .int .i64 rd_] ∧ Bx wx w3.heap.size 25 #[.string nm, .slice am nn cm, .slice (some ⟨dg5_, 0, none⟩) (nr + 1) dc5_] ∧ Below w.heap.size w wx))
  case first =>
   refine nmW w4.drew fun w5 hv => ?_
   replace M := drM hv M
   refine wp_region_held_drew (S := (fun w' => w'.cell? ⟨w.heap.size, 0, none⟩ = some (.string nm) ∧ w'.cell? ⟨w.heap.size, 1, none⟩ = some (.slice am nn cm) ∧ w'.cell? ⟨w.heap.size, 2, none⟩ = some (.slice ar nr cr) ∧ w'.cell? ⟨w.heap.size + 1, 0, none⟩ = some (.int .i64 xm) ∧ w'.cell? ⟨w.heap.size + 1, 1, none⟩ = some (.int .i64 xd) ∧ w'.cell? ⟨w.heap.size + 1, 2, none⟩ = some (.int .i64 xc))) (by kernel_rfl) (by rw [← hv]; exact ((J3 M).1.t3 ((J2 M).1.d3))) (fun hH1 => ?_)
   rw [← hv] at hH1 ⊢
   clear hv
   refine tk at1 ?_
   refine tk at2 ?_
   refine tk at4 ?_
   refine wpAnyH_ready (rs := [0, 5]) (by kernel_rfl) (by simp) ?_
   refine AllReadyH.cons at0 (fun K hK => ?_) ?_
   ·
    go_simp
    refine nmW (w5.alloc (.cells #[] 29)) fun w6 hv => ?_
    rw [← hv]
    have ow4_ : w3.heap.size < w5.heap.size := ((M.out.1)).lt
    replace M := alM hv M
    clear hv
    refine hK.out _ _ (((J4 M).1.t3 ((J3 M).1.d3))) (fun hH2 => ?_)
    clear hK K hH1
    (try simp only [Act.put, List.setIfInBounds_toArray, List.set_cons_zero, List.set_cons_succ])
    refine wpAnyH_ready (rs := [3, 5]) (by kernel_rfl) (by simp) ?_
    refine AllReadyH.cons at3 (fun K hK => ?_) ?_
    ·
     have hlt_ := (M.out.1).lt
     rw [if_pos (by rfl)]
     refine wp_copyEC elemReading (M.out.1) (by omega) (Nat.le_refl _) (HRG.out.keep (J5 M)) (by rfl) (by omega) (by omega) rfl rfl rfl (fun v_3 w7 ho_ hg_ => ?_)
     have hlv_3 := Nat.lt_of_lt_of_le hlt_ hg_.size
     replace M := Lib.hid (aI ho_ (aI ((J1 M).1.only hg_ (by omega)) (aI ((J2 M).1.only hg_ (by omega)) (aI ((J3 M).1.only hg_ (by omega)) (aI ((J4 M).1.only hg_ (by omega)) (Below.grown (J5 M) hg_ (J5 M).size (fun k_ hk_ => by cases hk_; omega)))))))
     clear ho_ hg_ hlt_
     refine hK.out _ _ (((J4 M).1.t3 ((J3 M).1.d3))) (fun hH4 => ?_)
     clear hK K hH2
     (try simp only [Act.put, List.setIfInBounds_toArray, List.set_cons_zero, List.set_cons_succ])
     refine wpAnyH_ready (rs := [5]) (by kernel_rfl) (by simp) ?_
     refine AllReadyH.cons at5 (fun K hK => ?_) AllReadyH.nil
     go_simp
     refine nmW (w7.alloc (.cells #[.int .i64 xm, .int .i64 xd, .int .i64 xc] 29)) fun w8 hv => ?_
     rw [← hv]
     have ow5_ : w3.heap.size < w7.heap.size := ((J1 M).1).lt
     replace M := alM hv M
     clear hv
     refine hK.out _ _ (((J5 M).1.t3 ((J4 M).1.d3))) (fun hH5 => ?_)
     clear hK K hH4
     (try simp only [Act.put, List.setIfInBounds_toArray, List.set_cons_zero, List.set_cons_succ])
     refine wpAnyH_ready (rs := [6]) (by kernel_rfl) (by simp) ?_
     refine AllReadyH.cons at6 (fun K hK => ?_) AllReadyH.nil
     rw [if_pos (by rfl)]
     refine wp_push1 (J1 M).1 (HRG.out.len) elemReading ⟨xm, xd, xc⟩ (M.out.1) rfl trivial (by rfl) (by omega) (by omega) (by have hb_ := (M.out.1).lt; omega) rfl rfl rfl (fun g_6 d_7 w9 ho_ hd_ hg_ => ?_)
     have hr_ : RdRg G w9 (some ⟨g_6, 0, none⟩) (nr + 1) d_7 rs2 := by rw [HR2.out]; exact RdL.of ho_.rd (by rw [List.length_append, (HRG.out.len)]; rfl) hd_
     replace M := Lib.hid (aI hr_ (aI ((J2 M).1.grownG (J1 M).1 (by omega) hg_) (aI ((J3 M).1.grownG (J1 M).1 (by omega) hg_) (aI ((J4 M).1.grownG (J1 M).1 (by omega) hg_) (aI ((J5 M).1.grownG (J1 M).1 (by omega) hg_) (below_grown (J6 M) (J1 M).1.own (by omega) (by have hb_ := (M.out.1).lt; omega) hg_))))))
     clear ho_ hg_ hd_ hr_
     refine hK.out _ _ (((J4 M).1.t3 ((J3 M).1.d3))) (fun hH8 => ?_)
     clear hK K hH5
     (try simp only [Act.put, List.setIfInBounds_toArray, List.set_cons_zero, List.set_cons_succ])
     refine tk at7 ?_
     refine wpAnyH_ready (rs := [8]) (by kernel_rfl) (by simp) ?_
     refine AllReadyH.cons at8 (fun K hK => ?_) AllReadyH.nil
     refine cj6 (J1 M).1.c3 fun ae af ag ah ai aj => ?_
     go_simp
     clear ae af ag ah ai aj
     refine nmW (w9.setCell ⟨w3.heap.size, 2, none⟩ (.slice (some ⟨g_6, 0, none⟩) (nr + 1) d_7)) fun w10 hv => ?_
     rw [← hv]
     have og : w9.grownBy w10 (some w3.heap.size) := by rw [hv]; exact (only_setCell (World.grownBy.refl _ _) _)
     have hz : w.heap.size ≤ w3.heap.size := by omega
     have hk : Bx w10 w3.heap.size 25 #[.string nm, .slice am nn cm, .slice (some ⟨g_6, 0, none⟩) (nr + 1) d_7] := by rw [hv]; exact ((J1 M).1.set 2 _)
     have hbw : Below w.heap.size w w10 := by rw [hv]; exact (Below.setCell (J5 M) (by omega) _)
     replace M := Lib.hid (aI ((M.out.1).far (J1 M).1 (by rfl) (by omega) og) (aI hk (aI ((J2 M).1.only og (by omega)) (aI ((J3 M).1.only og (by omega)) (aI ((J4 M).1.only og (by omega)) hbw)))))
     clear hk hbw og hv hz
     refine hK.out _ _ (((J4 M).1.t3 ((J3 M).1.d3))) (fun hH9 => ?_)
     clear hK K hH8
     (try simp only [Act.put, List.setIfInBounds_toArray, List.set_cons_zero, List.set_cons_succ])
     refine wpAnyH_done (by kernel_rfl) ?_ _
     clear hH9
     go_wp2_with fail
     go_meet
     exact ⟨g_6, d_7, (M.out.1), (J4 M).1, (J3 M).1, (J2 M).1, (J1 M).1, (J5 M)⟩
    refine AllReadyH.cons at5 (fun K hK => ?_) AllReadyH.nil
    go_simp
    refine nmW (w6.alloc (.cells #[.int .i64 xm, .int .i64 xd, .int .i64 xc] 29)) fun w7 hv => ?_
    rw [← hv]
    have ow5_ : w5.heap.size < w6.heap.size := ((M.out.1)).lt
    replace M := alM hv M
    clear hv
    refine hK.out _ _ (((J5 M).1.t3 ((J4 M).1.d3))) (fun hH10 => ?_)
    clear hK K hH2
    (try simp only [Act.put, List.setIfInBounds_toArray, List.set_cons_zero, List.set_cons_succ])
    refine wpAnyH_ready (rs := [3]) (by kernel_rfl) (by simp) ?_
    refine AllReadyH.cons at3 (fun K hK => ?_) AllReadyH.nil
    have hlt_ := (J1 M).1.lt
    rw [if_pos (by rfl)]
    refine wp_copyEC elemReading (J1 M).1 (by omega) (Nat.le_refl _) (HRG.out.keep (J6 M)) (by rfl) (by omega) (by omega) rfl rfl rfl (fun v_11 w8 ho_ hg_ => ?_)
    have hlv_11 := Nat.lt_of_lt_of_le hlt_ hg_.size
    replace M := Lib.hid (aI ho_ (aI ((M.out.1).only hg_ (by omega)) (aI ((J2 M).1.only hg_ (by omega)) (aI ((J3 M).1.only hg_ (by omega)) (aI ((J4 M).1.only hg_ (by omega)) (aI ((J5 M).1.only hg_ (by omega)) (Below.grown (J6 M) hg_ (J6 M).size (fun k_ hk_ => by cases hk_; omega))))))))
    clear ho_ hg_ hlt_
    refine hK.out _ _ (((J5 M).1.t3 ((J4 M).1.d3))) (fun hH12 => ?_)
    clear hK K hH10
    (try simp only [Act.put, List.setIfInBounds_toArray, List.set_cons_zero, List.set_cons_succ])
    refine wpAnyH_ready (rs := [6]) (by kernel_rfl) (by simp) ?_
    refine AllReadyH.cons at6 (fun K hK => ?_) AllReadyH.nil
    rw [if_pos (by rfl)]
    refine wp_push1 (M.out.1) (HRG.out.len) elemReading ⟨xm, xd, xc⟩ (J1 M).1 rfl trivial (by rfl) (by omega) (by omega) (by have hb_ := (J1 M).1.lt; omega) rfl rfl rfl (fun g_13 d_14 w9 ho_ hd_ hg_ => ?_)
    have hr_ : RdRg G w9 (some ⟨g_13, 0, none⟩) (nr + 1) d_14 rs2 := by rw [HR2.out]; exact RdL.of ho_.rd (by rw [List.length_append, (HRG.out.len)]; rfl) hd_
    replace M := Lib.hid (aI hr_ (aI ((J2 M).1.grownG (M.out.1) (by omega) hg_) (aI ((J3 M).1.grownG (M.out.1) (by omega) hg_) (aI ((J4 M).1.grownG (M.out.1) (by omega) hg_) (aI ((J5 M).1.grownG (M.out.1) (by omega) hg_) (below_grown (J6 M) (M.out.1).own (by omega) (by have hb_ := (J1 M).1.lt; omega) hg_))))))
    clear ho_ hg_ hd_ hr_
    refine hK.out _ _ (((J4 M).1.t3 ((J3 M).1.d3))) (fun hH15 => ?_)
    clear hK K hH12
    (try simp only [Act.put, List.setIfInBounds_toArray, List.set_cons_zero, List.set_cons_succ])
    refine tk at7 ?_
    refine wpAnyH_ready (rs := [8]) (by kernel_rfl) (by simp) ?_
    refine AllReadyH.cons at8 (fun K hK => ?_) AllReadyH.nil
    refine cj6 (J1 M).1.c3 fun ae af ag ah ai aj => ?_
    go_simp
    clear ae af ag ah ai aj
    refine nmW (w9.setCell ⟨w3.heap.size, 2, none⟩ (.slice (some ⟨g_13, 0, none⟩) (nr + 1) d_14)) fun w10 hv => ?_
    rw [← hv]
    have og : w9.grownBy w10 (some w3.heap.size) := by rw [hv]; exact (only_setCell (World.grownBy.refl _ _) _)
    have hz : w.heap.size ≤ w3.heap.size := by omega
    have hk : Bx w10 w3.heap.size 25 #[.string nm, .slice am nn cm, .slice (some ⟨g_13, 0, none⟩) (nr + 1) d_14] := by rw [hv]; exact ((J1 M).1.set 2 _)
    have hbw : Below w.heap.size w w10 := by rw [hv]; exact (Below.setCell (J5 M) (by omega) _)
    replace M := Lib.hid (aI ((M.out.1).far (J1 M).1 (by rfl) (by omega) og) (aI hk (aI ((J2 M).1.only og (by omega)) (aI ((J3 M).1.only og (by omega)) (aI ((J4 M).1.only og (by omega)) hbw)))))
    clear hk hbw og hv hz
    refine hK.out _ _ (((J4 M).1.t3 ((J3 M).1.d3))) (fun hH16 => ?_)
    clear hK K hH15
    (try simp only [Act.put, List.setIfInBounds_toArray, List.set_cons_zero, List.set_cons_succ])
    refine wpAnyH_done (by kernel_rfl) ?_ _
    clear hH16
    go_wp2_with fail
    go_meet
    exact ⟨g_13, d_14, (M.out.1), (J4 M).1, (J3 M).1, (J2 M).1, (J1 M).1, (J5 M)⟩
   refine AllReadyH.cons at5 (fun K hK => ?_) AllReadyH.nil
   go_simp
   refine nmW (w5.alloc (.cells #[.int .i64 xm, .int .i64 xd, .int .i64 xc] 29)) fun w6 hv => ?_
   rw [← hv]
   have ow4_ : w3.heap.size < w5.heap.size := ((M.out.1)).lt
   replace M := alM hv M
   clear hv
   refine hK.out _ _ (((J4 M).1.t3 ((J3 M).1.d3))) (fun hH17 => ?_)
   clear hK K hH1
   (try simp only [Act.put, List.setIfInBounds_toArray, List.set_cons_zero, List.set_cons_succ])
   refine wpAnyH_ready (rs := [0]) (by kernel_rfl) (by simp) ?_
   refine AllReadyH.cons at0 (fun K hK => ?_) AllReadyH.nil
   go_simp
   refine nmW (w6.alloc (.cells #[] 29)) fun w7 hv => ?_
   rw [← hv]
   have ow5_ : w5.heap.size < w6.heap.size := ((M.out.1)).lt
   replace M := alM hv M
   clear hv
   refine hK.out _ _ (((J5 M).1.t3 ((J4 M).1.d3))) (fun hH18 => ?_)
   clear hK K hH17
   (try simp only [Act.put, List.setIfInBounds_toArray, List.set_cons_zero, List.set_cons_succ])
   refine wpAnyH_ready (rs := [3]) (by kernel_rfl) (by simp) ?_
   refine AllReadyH.cons at3 (fun K hK => ?_) AllReadyH.nil
   have hlt_ := (M.out.1).lt
   rw [if_pos (by rfl)]
   refine wp_copyEC elemReading (M.out.1) (by omega) (Nat.le_refl _) (HRG.out.keep (J6 M)) (by rfl) (by omega) (by omega) rfl rfl rfl (fun v_19 w8 ho_ hg_ => ?_)
   have hlv_19 := Nat.lt_of_lt_of_le hlt_ hg_.size
   replace M := Lib.hid (aI ho_ (aI ((J1 M).1.only hg_ (by omega)) (aI ((J2 M).1.only hg_ (by omega)) (aI ((J3 M).1.only hg_ (by omega)) (aI ((J4 M).1.only hg_ (by omega)) (aI ((J5 M).1.only hg_ (by omega)) (Below.grown (J6 M) hg_ (J6 M).size (fun k_ hk_ => by cases hk_; omega))))))))
   clear ho_ hg_ hlt_
   refine hK.out _ _ (((J5 M).1.t3 ((J4 M).1.d3))) (fun hH20 => ?_)
   clear hK K hH18
   (try simp only [Act.put, List.setIfInBounds_toArray, List.set_cons_zero, List.set_cons_succ])
   refine wpAnyH_ready (rs := [6]) (by kernel_rfl) (by simp) ?_
   refine AllReadyH.cons at6 (fun K hK => ?_) AllReadyH.nil
   rw [if_pos (by rfl)]
   refine wp_push1 (M.out.1) (HRG.out.len) elemReading ⟨xm, xd, xc⟩ (J1 M).1 rfl trivial (by rfl) (by omega) (by omega) (by have hb_ := (J1 M).1.lt; omega) rfl rfl rfl (fun g_21 d_22 w9 ho_ hd_ hg_ => ?_)
   have hr_ : RdRg G w9 (some ⟨g_21, 0, none⟩) (nr + 1) d_22 rs2 := by rw [HR2.out]; exact RdL.of ho_.rd (by rw [List.length_append, (HRG.out.len)]; rfl) hd_
   replace M := Lib.hid (aI hr_ (aI ((J2 M).1.grownG (M.out.1) (by omega) hg_) (aI ((J3 M).1.grownG (M.out.1) (by omega) hg_) (aI ((J4 M).1.grownG (M.out.1) (by omega) hg_) (aI ((J5 M).1.grownG (M.out.1) (by omega) hg_) (below_grown (J6 M) (M.out.1).own (by omega) (by have hb_ := (J1 M).1.lt; omega) hg_))))))
   clear ho_ hg_ hd_ hr_
   refine hK.out _ _ (((J4 M).1.t3 ((J3 M).1.d3))) (fun hH23 => ?_)
   clear hK K hH20
   (try simp only [Act.put, List.setIfInBounds_toArray, List.set_cons_zero, List.set_cons_succ])
   refine tk at7 ?_
   refine wpAnyH_ready (rs := [8]) (by kernel_rfl) (by simp) ?_
   refine AllReadyH.cons at8 (fun K hK => ?_) AllReadyH.nil
   refine cj6 (J1 M).1.c3 fun ae af ag ah ai aj => ?_
   go_simp
   clear ae af ag ah ai aj
   refine nmW (w9.setCell ⟨w3.heap.size, 2, none⟩ (.slice (some ⟨g_21, 0, none⟩) (nr + 1) d_22)) fun w10 hv => ?_
   rw [← hv]
   have og : w9.grownBy w10 (some w3.heap.size) := by rw [hv]; exact (only_setCell (World.grownBy.refl _ _) _)
   have hz : w.heap.size ≤ w3.heap.size := by omega
   have hk : Bx w10 w3.heap.size 25 #[.string nm, .slice am nn cm, .slice (some ⟨g_21, 0, none⟩) (nr + 1) d_22] := by rw [hv]; exact ((J1 M).1.set 2 _)
   have hbw : Below w.heap.size w w10 := by rw [hv]; exact (Below.setCell (J5 M) (by omega) _)
   replace M := Lib.hid (aI ((M.out.1).far (J1 M).1 (by rfl) (by omega) og) (aI hk (aI ((J2 M).1.only og (by omega)) (aI ((J3 M).1.only og (by omega)) (aI ((J4 M).1.only og (by omega)) hbw)))))
   clear hk hbw og hv hz
   refine hK.out _ _ (((J4 M).1.t3 ((J3 M).1.d3))) (fun hH24 => ?_)
   clear hK K hH23
   (try simp only [Act.put, List.setIfInBounds_toArray, List.set_cons_zero, List.set_cons_succ])
   refine wpAnyH_done (by kernel_rfl) ?_ _
   clear hH24
   go_wp2_with fail
   go_meet
   exact ⟨g_21, d_22, (M.out.1), (J4 M).1, (J3 M).1, (J2 M).1, (J1 M).1, (J5 M)⟩
  case rest =>
   obtain ⟨dg5_, dc5_, M⟩ := hcut
   obtain ⟨w5, rfl⟩ : ∃ w_ : World, w_ = wc := ⟨_, rfl⟩
   go_upto_region 6 with fail
   replace M := Lib.hid (aI (M.out.1) (aI (J1 M).1 (aI (J3 M).1 (aI (J4 M).1 (J5 M)))))
   go_cut [17] (fun s17 wx => ∃ (dg7_ : Nat), ∃ (dc7_ : Nat), s17 = .slice (some ⟨dg7_, 0, none⟩) (kq + 1) dc7_ ∧ Hid (RdRc G wx (some ⟨dg7_, 0, none⟩) (kq + 1) dc7_ rr2 ∧ RcS wx (some ⟨dg7_, 0, none⟩) (kq + 1) dc7_ rr2 ∧ RdRg G wx (some ⟨dg5_, 0, none⟩) (nr + 1) dc5_ rs2 ∧ Bx wx w.heap.size 25 #[.string nm, .slice am nn cm, .slice ar nr cr] ∧ Bx wx (w.heap.size + 1 + 1) 31 #[.int .i64 rs_, .int .i64 rd_] ∧ Bx wx w3.heap.size 25 #[.string nm, .slice am nn cm, .slice (some ⟨dg5_, 0, none⟩) (nr + 1) dc5_] ∧ Below w.heap.size w wx))
   case first =>
    refine nmW w5.drew fun w6 hv => ?_
    replace M := drM hv M
    refine wp_region_held_drew (S := (fun w' => w'.cell? ⟨w.heap.size + 1 + 1, 0, none⟩ = some (.int .i64 rs_) ∧ w'.cell? ⟨w.heap.size + 1 + 1, 1, none⟩ = some (.int .i64 rd_))) (by kernel_rfl) (by rw [← hv]; exact (J2 M).1.d2) (fun hH25 => ?_)
    rw [← hv] at hH25 ⊢
    clear hv
    refine tk at1 ?_
    refine tk at3 ?_
    refine wpAnyH_ready (rs := [0, 4]) (by kernel_rfl) (by simp) ?_
    refine AllReadyH.cons at0 (fun K hK => ?_) ?_
    ·
     go_simp
     refine nmW (w6.alloc (.cells #[] 31)) fun w7 hv => ?_
     rw [← hv]
     have ow6_ : w3.heap.size < w6.heap.size := ((J3 M).1).lt
     replace M := alM hv M
     clear hv
     refine hK.out _ _ ((J3 M).1.d2) (fun hH26 => ?_)
     clear hK K hH25
     (try simp only [Act.put, List.setIfInBounds_toArray, List.set_cons_zero, List.set_cons_succ])
     refine wpAnyH_ready (rs := [2, 4]) (by kernel_rfl) (by simp) ?_
     refine AllReadyH.cons at2 (fun K hK => ?_) ?_
     ·
      have hlt_ := (M.out.1).lt
      rw [if_pos (by rfl)]
      refine wp_copyEC elemRecall (M.out.1) (by omega) (Nat.le_refl _) (HRQ.out.keep (J5 M)) (by rfl) (by omega) (by omega) rfl rfl rfl (fun v_27 w8 ho_ hg_ => ?_)
      have hlv_27 := Nat.lt_of_lt_of_le hlt_ hg_.size
      replace M := Lib.hid (aI ho_ (aI ((J1 M).1.far (M.out.1) (by rfl) (by omega) hg_) (aI ((J2 M).1.only hg_ (by omega)) (aI ((J3 M).1.only hg_ (by omega)) (aI ((J4 M).1.only hg_ (by omega)) (Below.grown (J5 M) hg_ (J5 M).size (fun k_ hk_ => by cases hk_; omega)))))))
      clear ho_ hg_ hlt_
      refine hK.out _ _ ((J3 M).1.d2) (fun hH28 => ?_)
      clear hK K hH26
      (try simp only [Act.put, List.setIfInBounds_toArray, List.set_cons_zero, List.set_cons_succ])
      refine wpAnyH_ready (rs := [4]) (by kernel_rfl) (by simp) ?_
      refine AllReadyH.cons at4 (fun K hK => ?_) AllReadyH.nil
      go_simp
      refine nmW (w8.alloc (.cells #[.int .i64 rs_, .int .i64 rd_] 31)) fun w9 hv => ?_
      rw [← hv]
      have ow7_ : w3.heap.size < w8.heap.size := ((J4 M).1).lt
      replace M := alM hv M
      clear hv
      refine hK.out _ _ ((J4 M).1.d2) (fun hH29 => ?_)
      clear hK K hH28
      (try simp only [Act.put, List.setIfInBounds_toArray, List.set_cons_zero, List.set_cons_succ])
      refine wpAnyH_ready (rs := [5]) (by kernel_rfl) (by simp) ?_
      refine AllReadyH.cons at5 (fun K hK => ?_) AllReadyH.nil
      rw [if_pos (by rfl)]
      refine wp_push1 (J1 M).1 (HRQ.out.len) elemRecall ⟨rs_, rd_⟩ (M.out.1) rfl trivial (by rfl) (by omega) (by omega) (by have hb_ := (M.out.1).lt; omega) rfl rfl rfl (fun g_30 d_31 w10 ho_ hd_ hg_ => ?_)
      have hr_ : RdRc G w10 (some ⟨g_30, 0, none⟩) (kq + 1) d_31 rr2 := by rw [HQ2.out]; exact RdL.of ho_.rd (by rw [List.length_append, (HRQ.out.len)]; rfl) hd_
      replace M := Lib.hid (aI hr_ (aI (RcS.of hr_) (aI (RdL.grown (J2 M).1 (J1 M).1.own (by rfl) (J1 M).1.leG hg_) (aI ((J3 M).1.grownG (J1 M).1 (by omega) hg_) (aI ((J4 M).1.grownG (J1 M).1 (by omega) hg_) (aI ((J5 M).1.grownG (J1 M).1 (by omega) hg_) (below_grown (J6 M) (J1 M).1.own (by omega) (by have hb_ := (M.out.1).lt; omega) hg_)))))))
      clear ho_ hg_ hd_ hr_
      refine hK.out _ _ ((J4 M).1.d2) (fun hH32 => ?_)
      clear hK K hH29
      (try simp only [Act.put, List.setIfInBounds_toArray, List.set_cons_zero, List.set_cons_succ])
      refine tk at6 ?_
      refine wpAnyH_done (by kernel_rfl) ?_ _
      clear hH32
      go_wp2_with fail
      go_meet
      exact ⟨g_30, d_31, rfl, (M.out.1), (J1 M).1, (J2 M).1, (J3 M).1, (J4 M).1, (J5 M).1, (J6 M)⟩
     refine AllReadyH.cons at4 (fun K hK => ?_) AllReadyH.nil
     go_simp
     refine nmW (w7.alloc (.cells #[.int .i64 rs_, .int .i64 rd_] 31)) fun w8 hv => ?_
     rw [← hv]
     have ow7_ : w6.heap.size < w7.heap.size := ((M.out.1)).lt
     replace M := alM hv M
     clear hv
     refine hK.out _ _ ((J4 M).1.d2) (fun hH33 => ?_)
     clear hK K hH26
     (try simp only [Act.put, List.setIfInBounds_toArray, List.set_cons_zero, List.set_cons_succ])
     refine wpAnyH_ready (rs := [2]) (by kernel_rfl) (by simp) ?_
     refine AllReadyH.cons at2 (fun K hK => ?_) AllReadyH.nil
     have hlt_ := (J1 M).1.lt
     rw [if_pos (by rfl)]
     refine wp_copyEC elemRecall (J1 M).1 (by omega) (Nat.le_refl _) (HRQ.out.keep (J6 M)) (by rfl) (by omega) (by omega) rfl rfl rfl (fun v_34 w9 ho_ hg_ => ?_)
     have hlv_34 := Nat.lt_of_lt_of_le hlt_ hg_.size
     replace M := Lib.hid (aI ho_ (aI ((M.out.1).only hg_ (by omega)) (aI ((J2 M).1.far (J1 M).1 (by rfl) (by omega) hg_) (aI ((J3 M).1.only hg_ (by omega)) (aI ((J4 M).1.only hg_ (by omega)) (aI ((J5 M).1.only hg_ (by omega)) (Below.grown (J6 M) hg_ (J6 M).size (fun k_ hk_ => by cases hk_; omega))))))))
     clear ho_ hg_ hlt_
     refine hK.out _ _ ((J4 M).1.d2) (fun hH35 => ?_)
     clear hK K hH33
     (try simp only [Act.put, List.setIfInBounds_toArray, List.set_cons_zero, List.set_cons_succ])
     refine wpAnyH_ready (rs := [5]) (by kernel_rfl) (by simp) ?_
     refine AllReadyH.cons at5 (fun K hK => ?_) AllReadyH.nil
     rw [if_pos (by rfl)]
     refine wp_push1 (M.out.1) (HRQ.out.len) elemRecall ⟨rs_, rd_⟩ (J1 M).1 rfl trivial (by rfl) (by omega) (by omega) (by have hb_ := (J1 M).1.lt; omega) rfl rfl rfl (fun g_36 d_37 w10 ho_ hd_ hg_ => ?_)
     have hr_ : RdRc G w10 (some ⟨g_36, 0, none⟩) (kq + 1) d_37 rr2 := by rw [HQ2.out]; exact RdL.of ho_.rd (by rw [List.length_append, (HRQ.out.len)]; rfl) hd_
     replace M := Lib.hid (aI hr_ (aI (RcS.of hr_) (aI (RdL.grown (J2 M).1 (M.out.1).own (by rfl) (M.out.1).leG hg_) (aI ((J3 M).1.grownG (M.out.1) (by omega) hg_) (aI ((J4 M).1.grownG (M.out.1) (by omega) hg_) (aI ((J5 M).1.grownG (M.out.1) (by omega) hg_) (below_grown (J6 M) (M.out.1).own (by omega) (by have hb_ := (J1 M).1.lt; omega) hg_)))))))
     clear ho_ hg_ hd_ hr_
     refine hK.out _ _ ((J4 M).1.d2) (fun hH38 => ?_)
     clear hK K hH35
     (try simp only [Act.put, List.setIfInBounds_toArray, List.set_cons_zero, List.set_cons_succ])
     refine tk at6 ?_
     refine wpAnyH_done (by kernel_rfl) ?_ _
     clear hH38
     go_wp2_with fail
     go_meet
     exact ⟨g_36, d_37, rfl, (M.out.1), (J1 M).1, (J2 M).1, (J3 M).1, (J4 M).1, (J5 M).1, (J6 M)⟩
    refine AllReadyH.cons at4 (fun K hK => ?_) AllReadyH.nil
    go_simp
    refine nmW (w6.alloc (.cells #[.int .i64 rs_, .int .i64 rd_] 31)) fun w7 hv => ?_
    rw [← hv]
    have ow6_ : w3.heap.size < w6.heap.size := ((J3 M).1).lt
    replace M := alM hv M
    clear hv
    refine hK.out _ _ ((J3 M).1.d2) (fun hH39 => ?_)
    clear hK K hH25
    (try simp only [Act.put, List.setIfInBounds_toArray, List.set_cons_zero, List.set_cons_succ])
    refine wpAnyH_ready (rs := [0]) (by kernel_rfl) (by simp) ?_
    refine AllReadyH.cons at0 (fun K hK => ?_) AllReadyH.nil
    go_simp
    refine nmW (w7.alloc (.cells #[] 31)) fun w8 hv => ?_
    rw [← hv]
    have ow7_ : w6.heap.size < w7.heap.size := ((M.out.1)).lt
    replace M := alM hv M
    clear hv
    refine hK.out _ _ ((J4 M).1.d2) (fun hH40 => ?_)
    clear hK K hH39
    (try simp only [Act.put, List.setIfInBounds_toArray, List.set_cons_zero, List.set_cons_succ])
    refine wpAnyH_ready (rs := [2]) (by kernel_rfl) (by simp) ?_
    refine AllReadyH.cons at2 (fun K hK => ?_) AllReadyH.nil
    have hlt_ := (M.out.1).lt
    rw [if_pos (by rfl)]
    refine wp_copyEC elemRecall (M.out.1) (by omega) (Nat.le_refl _) (HRQ.out.keep (J6 M)) (by rfl) (by omega) (by omega) rfl rfl rfl (fun v_41 w9 ho_ hg_ => ?_)
    have hlv_41 := Nat.lt_of_lt_of_le hlt_ hg_.size
    replace M := Lib.hid (aI ho_ (aI ((J1 M).1.only hg_ (by omega)) (aI ((J2 M).1.far (M.out.1) (by rfl) (by omega) hg_) (aI ((J3 M).1.only hg_ (by omega)) (aI ((J4 M).1.only hg_ (by omega)) (aI ((J5 M).1.only hg_ (by omega)) (Below.grown (J6 M) hg_ (J6 M).size (fun k_ hk_ => by cases hk_; omega))))))))
    clear ho_ hg_ hlt_
    refine hK.out _ _ ((J4 M).1.d2) (fun hH42 => ?_)
    clear hK K hH40
    (try simp only [Act.put, List.setIfInBounds_toArray, List.set_cons_zero, List.set_cons_succ])
    refine wpAnyH_ready (rs := [5]) (by kernel_rfl) (by simp) ?_
    refine AllReadyH.cons at5 (fun K hK => ?_) AllReadyH.nil
    rw [if_pos (by rfl)]
    refine wp_push1 (M.out.1) (HRQ.out.len) elemRecall ⟨rs_, rd_⟩ (J1 M).1 rfl trivial (by rfl) (by omega) (by omega) (by have hb_ := (J1 M).1.lt; omega) rfl rfl rfl (fun g_43 d_44 w10 ho_ hd_ hg_ => ?_)
    have hr_ : RdRc G w10 (some ⟨g_43, 0, none⟩) (kq + 1) d_44 rr2 := by rw [HQ2.out]; exact RdL.of ho_.rd (by rw [List.length_append, (HRQ.out.len)]; rfl) hd_
    replace M := Lib.hid (aI hr_ (aI (RcS.of hr_) (aI (RdL.grown (J2 M).1 (M.out.1).own (by rfl) (M.out.1).leG hg_) (aI ((J3 M).1.grownG (M.out.1) (by omega) hg_) (aI ((J4 M).1.grownG (M.out.1) (by omega) hg_) (aI ((J5 M).1.grownG (M.out.1) (by omega) hg_) (below_grown (J6 M) (M.out.1).own (by omega) (by have hb_ := (J1 M).1.lt; omega) hg_)))))))
    clear ho_ hg_ hd_ hr_
    refine hK.out _ _ ((J4 M).1.d2) (fun hH45 => ?_)
    clear hK K hH42
    (try simp only [Act.put, List.setIfInBounds_toArray, List.set_cons_zero, List.set_cons_succ])
    refine tk at6 ?_
    refine wpAnyH_done (by kernel_rfl) ?_ _
    clear hH45
    go_wp2_with fail
    go_meet
    exact ⟨g_43, d_44, rfl, (M.out.1), (J1 M).1, (J2 M).1, (J3 M).1, (J4 M).1, (J5 M).1, (J6 M)⟩
   case rest =>
    obtain ⟨dg7_, dc7_, rfl, M⟩ := hcut
    obtain ⟨w6, rfl⟩ : ∃ w_ : World, w_ = wc := ⟨_, rfl⟩
    refine cj3 (J3 M).1.d3 fun aa ab ad => ?_
    go_wp2_with fail
    clear aa ab ad
    refine (ctBetween_l (G := G) (nm := nm) (nb := (nameOk nm.data.toList)) (big := (bigB ms rs cs.length rr.length)) (da := da) (db := db) (er := e1) (ol := l1) (oh := g1) (Nat.le_trans hG (J6 M).size) (HM.out.keep (J6 M)) (HRG.out.keep (J6 M)) (HCS.out.keep (J6 M)) (HRS.out.keep (J6 M)) (by omega) (by omega) (by omega) (by omega) (by omega) rfl rfl HE1.out HL1.out HG1.out).mono ?_
    rintro e w7 ⟨x_46, x_47, x_48, x_49, x_50, x_51, x_52, x_53, rfl, hd54, hd55, hu56, hu57, hb⟩
    replace M := ad2M hd54 hd55 hb M
    clear hb hd54 hd55
    replace hu56 := Lib.hid hu56
    replace hu57 := Lib.hid hu57
    refine cj4 (TQ.st (M.out.1)) fun ak al ao ap => ?_
    refine cj4 (TQ.st (J1 M).1) fun au av aw ax => ?_
    go_upto_region 8 with fail
    clear ak al ao ap au av aw ax
    refine nmW (w7.alloc (.cells #[x_46, x_47, x_48, x_49, x_50, x_51, x_52, x_53] 40)) fun w8 hv => ?_
    rw [← hv]
    have ow8_ : w3.heap.size < w7.heap.size := ((J7 M).1).lt
    replace M := alM hv M
    clear hv
    refine cj3 (J8 M).1.d3 fun ae ag ai => ?_
    go_wp2_with fail
    clear ae ag ai
    refine (ctBetween_l (G := G) (nm := nm) (nb := (nameOk nm.data.toList)) (big := (bigB ms rs cs.length rr.length)) (da := da) (db := db) (er := e2) (ol := l2) (oh := g2) (Nat.le_trans hG (J9 M).size) (HM.out.keep (J9 M)) (J5 M).1 (HCS.out.keep (J9 M)) (HRS.out.keep (J9 M)) (by omega) (by omega) (by omega) (by omega) (by omega) rfl HB2.out HE2.out HL2.out HG2.out).mono ?_
    rintro e w9 ⟨x_58, x_59, x_60, x_61, x_62, x_63, x_64, x_65, rfl, hd66, hd67, hu68, hu69, hb⟩
    replace M := ad2M hd66 hd67 hb M
    clear hb hd66 hd67
    replace hu68 := Lib.hid hu68
    replace hu69 := Lib.hid hu69
    refine cj4 (TQ.st (M.out.1)) fun ay az ba bb => ?_
    refine cj4 (TQ.st (J1 M).1) fun bc bd bf bg => ?_
    go_upto_region 9 with fail
    clear ay az ba bb bc bd bf bg
    refine nmW (w9.alloc (.cells #[x_58, x_59, x_60, x_61, x_62, x_63, x_64, x_65] 40)) fun w10 hv => ?_
    rw [← hv]
    have ow9_ : w7.heap.size < w9.heap.size := ((J2 M).1).lt
    replace M := alM hv M
    clear hv
    refine cj3 (J9 M).1.d3 fun aa ab ad => ?_
    go_wp2_with fail
    clear aa ab ad
    refine (ctBetween_l (G := G) (nm := nm) (nb := (nameOk nm.data.toList)) (big := (bigB ms rs cs.length rr.length)) (da := da) (db := db) (er := e3) (ol := l3) (oh := g3) (Nat.le_trans hG (J12 M).size) (HM.out.keep (J12 M)) (HRG.out.keep (J12 M)) (HCS.out.keep (J12 M)) (J7 M).1 (by omega) (by omega) (by omega) (by omega) (by omega) rfl HB3.out HE3.out HL3.out HG3.out).mono ?_
    rintro e w11 ⟨x_70, x_71, x_72, x_73, x_74, x_75, x_76, x_77, rfl, hd78, hd79, hu80, hu81, hb⟩
    replace M := ad2M hd78 hd79 hb M
    clear hb hd78 hd79
    replace hu80 := Lib.hid hu80
    replace hu81 := Lib.hid hu81
    refine cj4 (TQ.st (M.out.1)) fun bh bi bj bk => ?_
    refine cj4 (TQ.st (J1 M).1) fun bl bm bn bo => ?_
    go_upto_region 10 with fail
    clear bh bi bj bk bl bm bn bo
    refine nmW (w11.alloc (.cells #[x_70, x_71, x_72, x_73, x_74, x_75, x_76, x_77] 40)) fun w12 hv => ?_
    rw [← hv]
    have ow10_ : w9.heap.size < w11.heap.size := ((J2 M).1).lt
    replace M := alM hv M
    clear hv
    have hw_ := narrow_ways (cs := cs) (rr := rr) (y := ⟨rs_, rd_⟩) (x := ⟨xm, xd, xc⟩) (nb := (nameOk nm.data.toList)) (big := (bigB ms rs cs.length rr.length)) (ms := ms) (rs := rs) (a := da) (b := db)
    rw [← HR2.out, ← HQ2.out] at hw_
    rcases hw_ with ⟨x1, y1, x2, y2, x3, y3, k1, k2, k3, k4, k5, k6, k7, k8, k9, k10, k11, k12⟩ | ⟨x1, y1, x2, y2, k1, k2, k3, k4, k5, k6, k7, k9, k10⟩ | ⟨x1, y1, f, x3, y3, k1, k2, k2n, k3, k4, k5, k6, k8, k11, k12⟩ | ⟨x1, y1, f, k1, k2, k2n, k3, k4, k5⟩ | ⟨x2, y2, k1, k2, k4, k5⟩ | ⟨v1, v2, k1, k1n, k2, k2n, k4, k5⟩ | ⟨v1, v2, kk, k1, k1n, k2, k2n, k4, k4n⟩
    ·
     obtain ⟨rfl, rfl, rfl⟩ := b_some HE1.out HL1.out HG1.out k1
     obtain ⟨rfl, rfl, rfl⟩ := b_some HE2.out HL2.out HG2.out k2
     obtain ⟨rfl, rfl, rfl⟩ := b_some HE3.out HL3.out HG3.out k3
     obtain rfl := HC1.out.symm.trans k4
     obtain rfl := HC3.out.symm.trans k5
     have H6 := Lib.hid k6; have H7 := Lib.hid k7; have H8 := Lib.hid k8; have H9 := Lib.hid k9; have H10 := Lib.hid k10; have H11 := Lib.hid k11; have H12 := Lib.hid k12; clear k6 k7 k8 k9 k10 k11 k12
     clear k1 k2 k3 k4 k5
     refine cj3 (J12 M).1.d3 fun aa ab ad => ?_
     go_wp2_with fail
     clear aa ab ad
     refine (ctCheck_l (G := G) (nm := nm) (nb := (nameOk nm.data.toList)) (big := (bigB ms rs cs.length rr.length)) (er := 0) (Nat.le_trans hG (J15 M).size) (HM.out.keep (J15 M)) (HRG.out.keep (J15 M)) (HCS.out.keep (J15 M)) (HRS.out.keep (J15 M)) (by omega) (by omega) (by omega) (by omega) (by omega) rfl rfl HC1.out).mono ?_
     rintro e w13 ⟨rfl, hb⟩
     replace M := gnM hb M
     clear hb
     refine cj3 (J12 M).1.d3 fun aa ab ad => ?_
     go_wp2_with fail
     clear aa ab ad
     refine (ctCheck_l (G := G) (nm := nm) (nb := (nameOk nm.data.toList)) (big := (bigB ms rs cs.length rr.length)) (er := 0) (Nat.le_trans hG (J15 M).size) (HM.out.keep (J15 M)) (HRG.out.keep (J15 M)) (HCS.out.keep (J15 M)) (J10 M).1 (by omega) (by omega) (by omega) (by omega) (by omega) rfl HB3.out HC3.out).mono ?_
     rintro e w14 ⟨rfl, hb⟩
     replace M := gnM hb M
     clear hb
     refine cj8 (J3 M).1.d8 fun bp bq br bs bt bu bv bw => ?_
     refine cj8 (J6 M).1.d8 fun bx bz ca cb cd ce cf cg => ?_
     go_wp2_with fail
     clear bp bq br bs bt bu bv bw bx bz ca cb cd ce cf cg
     replace M := Lib.hid (aI (M.out.1) (aI (J1 M).1 (aI (J2 M).1 (aI (J4 M).1 (aI (J5 M).1 (aI (J6 M).1 (aI (J7 M).1 (aI (J8 M).1 (aI (J9 M).1 (aI (J10 M).1 (aI (J11 M).1 (J15 M))))))))))))
     refine (spInside_q (G := G) (p := x2) (q := y2) (r := x1) (s := y1) (b_ := true) (Nat.le_trans hG (J11 M).size) (J3 M).1 (J4 M).1 (J6 M).1 (J7 M).1 (Fz.mono (show Fz x2 200000 from hu68.out) (by omega)) (Fz.mono (show Fz y2 200000 from hu69.out) (by omega)) (Fz.mono (show Fz x1 200000 from hu56.out) (by omega)) (Fz.mono (show Fz y1 200000 from hu57.out) (by omega)) H7.out H6.out (by rw [Bool.and_eq_true]; exact ⟨decide_eq_true H9.out, decide_eq_true H10.out⟩)).mono ?_
     rintro e w15 ⟨rfl, hb⟩
     replace M := gnM hb M
     clear hb
     refine cj8 (J5 M).1.d8 fun bx bz ca cb cd ce cf cg => ?_
     refine cj8 (M.out.1).d8 fun ch ci cj ck cl cn co cp => ?_
     go_wp2_with fail
     clear bx bz ca cb cd ce cf cg ch ci cj ck cl cn co cp
     replace M := Lib.hid (aI (J1 M).1 (aI (J2 M).1 (aI (J6 M).1 (aI (J7 M).1 (aI (J8 M).1 (aI (J9 M).1 (aI (J10 M).1 (J11 M))))))))
     refine (spInside_q (G := G) (p := x1) (q := y1) (r := x3) (s := y3) (b_ := true) (Nat.le_trans hG (J7 M).size) (J2 M).1 (J3 M).1 (M.out.1) (J1 M).1 (Fz.mono (show Fz x1 200000 from hu56.out) (by omega)) (Fz.mono (show Fz y1 200000 from hu57.out) (by omega)) (Fz.mono (show Fz x3 200000 from hu80.out) (by omega)) (Fz.mono (show Fz y3 200000 from hu81.out) (by omega)) H6.out H8.out (by rw [Bool.and_eq_true]; exact ⟨decide_eq_true H11.out, decide_eq_true H12.out⟩)).mono ?_
     rintro e w16 ⟨rfl, hb⟩
     replace M := gnM hb M
     clear hb
     go_wp2_with fail
     go_ret
     exact ⟨by rfl, (J7 M)⟩
    ·
     obtain ⟨rfl, rfl, rfl⟩ := b_some HE1.out HL1.out HG1.out k1
     obtain ⟨rfl, rfl, rfl⟩ := b_some HE2.out HL2.out HG2.out k2
     obtain ⟨rfl, rfl, rfl⟩ := b_none HE3.out HL3.out HG3.out k3
     obtain rfl := HC1.out.symm.trans k4
     obtain rfl := HC3.out.symm.trans k5
     have H6 := Lib.hid k6; have H7 := Lib.hid k7; have H9 := Lib.hid k9; have H10 := Lib.hid k10; clear k6 k7 k9 k10
     clear k1 k2 k3 k4 k5
     refine cj3 (J12 M).1.d3 fun aa ab ad => ?_
     go_wp2_with fail
     clear aa ab ad
     refine (ctCheck_l (G := G) (nm := nm) (nb := (nameOk nm.data.toList)) (big := (bigB ms rs cs.length rr.length)) (er := 0) (Nat.le_trans hG (J15 M).size) (HM.out.keep (J15 M)) (HRG.out.keep (J15 M)) (HCS.out.keep (J15 M)) (HRS.out.keep (J15 M)) (by omega) (by omega) (by omega) (by omega) (by omega) rfl rfl HC1.out).mono ?_
     rintro e w13 ⟨rfl, hb⟩
     replace M := gnM hb M
     clear hb
     refine cj3 (J12 M).1.d3 fun aa ab ad => ?_
     go_wp2_with fail
     clear aa ab ad
     refine (ctCheck_l (G := G) (nm := nm) (nb := (nameOk nm.data.toList)) (big := (bigB ms rs cs.length rr.length)) (er := 0) (Nat.le_trans hG (J15 M).size) (HM.out.keep (J15 M)) (HRG.out.keep (J15 M)) (HCS.out.keep (J15 M)) (J10 M).1 (by omega) (by omega) (by omega) (by omega) (by omega) rfl HB3.out HC3.out).mono ?_
     rintro e w14 ⟨rfl, hb⟩
     replace M := gnM hb M
     clear hb
     refine cj8 (J3 M).1.d8 fun bp bq br bs bt bu bv bw => ?_
     refine cj8 (J6 M).1.d8 fun bx bz ca cb cd ce cf cg => ?_
     go_wp2_with fail
     clear bp bq br bs bt bu bv bw bx bz ca cb cd ce cf cg
     replace M := Lib.hid (aI (M.out.1) (aI (J1 M).1 (aI (J2 M).1 (aI (J4 M).1 (aI (J5 M).1 (aI (J6 M).1 (aI (J7 M).1 (aI (J8 M).1 (aI (J9 M).1 (aI (J10 M).1 (aI (J11 M).1 (J15 M))))))))))))
     refine (spInside_q (G := G) (p := x2) (q := y2) (r := x1) (s := y1) (b_ := true) (Nat.le_trans hG (J11 M).size) (J3 M).1 (J4 M).1 (J6 M).1 (J7 M).1 (Fz.mono (show Fz x2 200000 from hu68.out) (by omega)) (Fz.mono (show Fz y2 200000 from hu69.out) (by omega)) (Fz.mono (show Fz x1 200000 from hu56.out) (by omega)) (Fz.mono (show Fz y1 200000 from hu57.out) (by omega)) H7.out H6.out (by rw [Bool.and_eq_true]; exact ⟨decide_eq_true H9.out, decide_eq_true H10.out⟩)).mono ?_
     rintro e w15 ⟨rfl, hb⟩
     replace M := gnM hb M
     clear hb
     go_wp2_with fail
     go_ret
     exact ⟨by rfl, (J11 M)⟩
    ·
     obtain ⟨rfl, rfl, rfl⟩ := b_some HE1.out HL1.out HG1.out k1
     obtain ⟨rfl, rfl, rfl⟩ := b_none HE2.out HL2.out HG2.out k2
     obtain ⟨rfl, rfl, rfl⟩ := b_some HE3.out HL3.out HG3.out k3
     obtain rfl := HC1.out.symm.trans k4
     obtain rfl := HC3.out.symm.trans k5
     have n0e2_ : (e2 == 0) = false := beq_false_of_ne k2n
     have n1e2_ : (e2 != 0) = true := bne_iff_ne.2 k2n
     have H6 := Lib.hid k6; have H8 := Lib.hid k8; have H11 := Lib.hid k11; have H12 := Lib.hid k12; clear k6 k8 k11 k12
     clear k1 k2 k3 k4 k5
     refine cj3 (J12 M).1.d3 fun aa ab ad => ?_
     go_wp2_with fail
     clear aa ab ad
     refine (ctCheck_l (G := G) (nm := nm) (nb := (nameOk nm.data.toList)) (big := (bigB ms rs cs.length rr.length)) (er := 0) (Nat.le_trans hG (J15 M).size) (HM.out.keep (J15 M)) (HRG.out.keep (J15 M)) (HCS.out.keep (J15 M)) (HRS.out.keep (J15 M)) (by omega) (by omega) (by omega) (by omega) (by omega) rfl rfl HC1.out).mono ?_
     rintro e w13 ⟨rfl, hb⟩
     replace M := gnM hb M
     clear hb
     refine cj3 (J12 M).1.d3 fun aa ab ad => ?_
     go_wp2_with fail
     clear aa ab ad
     refine (ctCheck_l (G := G) (nm := nm) (nb := (nameOk nm.data.toList)) (big := (bigB ms rs cs.length rr.length)) (er := 0) (Nat.le_trans hG (J15 M).size) (HM.out.keep (J15 M)) (HRG.out.keep (J15 M)) (HCS.out.keep (J15 M)) (J10 M).1 (by omega) (by omega) (by omega) (by omega) (by omega) rfl HB3.out HC3.out).mono ?_
     rintro e w14 ⟨rfl, hb⟩
     replace M := gnM hb M
     clear hb
     refine cj8 (J6 M).1.d8 fun bx bz ca cb cd ce cf cg => ?_
     refine cj8 (M.out.1).d8 fun ch ci cj ck cl cn co cp => ?_
     go_wp2_with fail
     clear bx bz ca cb cd ce cf cg ch ci cj ck cl cn co cp
     replace M := Lib.hid (aI (J1 M).1 (aI (J2 M).1 (aI (J7 M).1 (aI (J8 M).1 (aI (J9 M).1 (aI (J10 M).1 (aI (J11 M).1 (J15 M))))))))
     refine (spInside_q (G := G) (p := x1) (q := y1) (r := x3) (s := y3) (b_ := true) (Nat.le_trans hG (J7 M).size) (J2 M).1 (J3 M).1 (M.out.1) (J1 M).1 (Fz.mono (show Fz x1 200000 from hu56.out) (by omega)) (Fz.mono (show Fz y1 200000 from hu57.out) (by omega)) (Fz.mono (show Fz x3 200000 from hu80.out) (by omega)) (Fz.mono (show Fz y3 200000 from hu81.out) (by omega)) H6.out H8.out (by rw [Bool.and_eq_true]; exact ⟨decide_eq_true H11.out, decide_eq_true H12.out⟩)).mono ?_
     rintro e w15 ⟨rfl, hb⟩
     replace M := gnM hb M
     clear hb
     go_wp2_with fail
     go_ret
     exact ⟨by rfl, (J7 M)⟩
    ·
     obtain ⟨rfl, rfl, rfl⟩ := b_some HE1.out HL1.out HG1.out k1
     obtain ⟨rfl, rfl, rfl⟩ := b_none HE2.out HL2.out HG2.out k2
     obtain ⟨rfl, rfl, rfl⟩ := b_none HE3.out HL3.out HG3.out k3
     obtain rfl := HC1.out.symm.trans k4
     obtain rfl := HC3.out.symm.trans k5
     have n0e2_ : (e2 == 0) = false := beq_false_of_ne k2n
     have n1e2_ : (e2 != 0) = true := bne_iff_ne.2 k2n
     clear k1 k2 k3 k4 k5
     refine cj3 (J12 M).1.d3 fun aa ab ad => ?_
     go_wp2_with fail
     clear aa ab ad
     refine (ctCheck_l (G := G) (nm := nm) (nb := (nameOk nm.data.toList)) (big := (bigB ms rs cs.length rr.length)) (er := 0) (Nat.le_trans hG (J15 M).size) (HM.out.keep (J15 M)) (HRG.out.keep (J15 M)) (HCS.out.keep (J15 M)) (HRS.out.keep (J15 M)) (by omega) (by omega) (by omega) (by omega) (by omega) rfl rfl HC1.out).mono ?_
     rintro e w13 ⟨rfl, hb⟩
     replace M := gnM hb M
     clear hb
     refine cj3 (J12 M).1.d3 fun aa ab ad => ?_
     go_wp2_with fail
     clear aa ab ad
     refine (ctCheck_l (G := G) (nm := nm) (nb := (nameOk nm.data.toList)) (big := (bigB ms rs cs.length rr.length)) (er := 0) (Nat.le_trans hG (J15 M).size) (HM.out.keep (J15 M)) (HRG.out.keep (J15 M)) (HCS.out.keep (J15 M)) (J10 M).1 (by omega) (by omega) (by omega) (by omega) (by omega) rfl HB3.out HC3.out).mono ?_
     rintro e w14 ⟨rfl, hb⟩
     replace M := gnM hb M
     clear hb
     go_wp2_with fail
     go_ret
     exact ⟨by rfl, (J15 M)⟩
    ·
     obtain ⟨rfl, rfl, rfl⟩ := b_none HE1.out HL1.out HG1.out k1
     obtain ⟨rfl, rfl, rfl⟩ := b_some HE2.out HL2.out HG2.out k2
     obtain rfl := HC1.out.symm.trans k4
     obtain rfl := HC3.out.symm.trans k5
     clear k1 k2 k4 k5
     refine cj3 (J12 M).1.d3 fun aa ab ad => ?_
     go_wp2_with fail
     clear aa ab ad
     refine (ctCheck_l (G := G) (nm := nm) (nb := (nameOk nm.data.toList)) (big := (bigB ms rs cs.length rr.length)) (er := 0) (Nat.le_trans hG (J15 M).size) (HM.out.keep (J15 M)) (HRG.out.keep (J15 M)) (HCS.out.keep (J15 M)) (HRS.out.keep (J15 M)) (by omega) (by omega) (by omega) (by omega) (by omega) rfl rfl HC1.out).mono ?_
     rintro e w13 ⟨rfl, hb⟩
     replace M := gnM hb M
     clear hb
     refine cj3 (J12 M).1.d3 fun aa ab ad => ?_
     go_wp2_with fail
     clear aa ab ad
     refine (ctCheck_l (G := G) (nm := nm) (nb := (nameOk nm.data.toList)) (big := (bigB ms rs cs.length rr.length)) (er := 0) (Nat.le_trans hG (J15 M).size) (HM.out.keep (J15 M)) (HRG.out.keep (J15 M)) (HCS.out.keep (J15 M)) (J10 M).1 (by omega) (by omega) (by omega) (by omega) (by omega) rfl HB3.out HC3.out).mono ?_
     rintro e w14 ⟨rfl, hb⟩
     replace M := gnM hb M
     clear hb
     go_wp2_with fail
     go_ret
     exact ⟨by rfl, (J15 M)⟩
    ·
     obtain ⟨rfl, rfl, rfl⟩ := b_none HE1.out HL1.out HG1.out k1
     obtain ⟨rfl, rfl, rfl⟩ := b_none HE2.out HL2.out HG2.out k2
     obtain rfl := HC1.out.symm.trans k4
     obtain rfl := HC3.out.symm.trans k5
     have n0e1_ : (e1 == 0) = false := beq_false_of_ne k1n
     have n1e1_ : (e1 != 0) = true := bne_iff_ne.2 k1n
     have n0e2_ : (e2 == 0) = false := beq_false_of_ne k2n
     have n1e2_ : (e2 != 0) = true := bne_iff_ne.2 k2n
     clear k1 k2 k4 k5
     refine cj3 (J12 M).1.d3 fun aa ab ad => ?_
     go_wp2_with fail
     clear aa ab ad
     refine (ctCheck_l (G := G) (nm := nm) (nb := (nameOk nm.data.toList)) (big := (bigB ms rs cs.length rr.length)) (er := 0) (Nat.le_trans hG (J15 M).size) (HM.out.keep (J15 M)) (HRG.out.keep (J15 M)) (HCS.out.keep (J15 M)) (HRS.out.keep (J15 M)) (by omega) (by omega) (by omega) (by omega) (by omega) rfl rfl HC1.out).mono ?_
     rintro e w13 ⟨rfl, hb⟩
     replace M := gnM hb M
     clear hb
     refine cj3 (J12 M).1.d3 fun aa ab ad => ?_
     go_wp2_with fail
     clear aa ab ad
     refine (ctCheck_l (G := G) (nm := nm) (nb := (nameOk nm.data.toList)) (big := (bigB ms rs cs.length rr.length)) (er := 0) (Nat.le_trans hG (J15 M).size) (HM.out.keep (J15 M)) (HRG.out.keep (J15 M)) (HCS.out.keep (J15 M)) (J10 M).1 (by omega) (by omega) (by omega) (by omega) (by omega) rfl HB3.out HC3.out).mono ?_
     rintro e w14 ⟨rfl, hb⟩
     replace M := gnM hb M
     clear hb
     go_wp2_with fail
     go_ret
     exact ⟨by rfl, (J15 M)⟩
    ·
     obtain ⟨rfl, rfl, rfl⟩ := b_none HE1.out HL1.out HG1.out k1
     obtain ⟨rfl, rfl, rfl⟩ := b_none HE2.out HL2.out HG2.out k2
     obtain rfl := HC1.out.symm.trans k4
     have n0e1_ : (e1 == 0) = false := beq_false_of_ne k1n
     have n1e1_ : (e1 != 0) = true := bne_iff_ne.2 k1n
     have n0e2_ : (e2 == 0) = false := beq_false_of_ne k2n
     have n1e2_ : (e2 != 0) = true := bne_iff_ne.2 k2n
     have n0c1_ : (c1 == 0) = false := beq_false_of_ne k4n
     have n1c1_ : (c1 != 0) = true := bne_iff_ne.2 k4n
     clear k1 k2 k4
     refine cj3 (J12 M).1.d3 fun aa ab ad => ?_
     go_wp2_with fail
     clear aa ab ad
     refine (ctCheck_l (G := G) (nm := nm) (nb := (nameOk nm.data.toList)) (big := (bigB ms rs cs.length rr.length)) (er := c1) (Nat.le_trans hG (J15 M).size) (HM.out.keep (J15 M)) (HRG.out.keep (J15 M)) (HCS.out.keep (J15 M)) (HRS.out.keep (J15 M)) (by omega) (by omega) (by omega) (by omega) (by omega) rfl rfl HC1.out).mono ?_
     rintro e w13 ⟨rfl, hb⟩
     replace M := gnM hb M
     clear hb
     go_wp2_with fail
     go_ret
     exact ⟨by rfl, (J15 M)⟩
 ·
  have HFW : Hid (fewCt nn nr nm.size kc kq = false) := hfw_
  refine cj3 (J2 M).1.d3 fun aa ab ad => ?_
  go_wp2_with fail
  clear aa ab ad
  refine (ctFew (nm := nm) (b_ := false) HFW.out).mono ?_
  rintro e w3 ⟨rfl, hb⟩
  replace M := gnM hb M
  clear hb
  go_wp2_with fail
  go_ret
  exact ⟨by rfl, (J3 M)⟩
end Go.Proofs.Ytlcgckelamhnpaa
