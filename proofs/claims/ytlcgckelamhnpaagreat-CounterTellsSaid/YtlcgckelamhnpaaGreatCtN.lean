/- Histories in memory: lists of fractions, right or not, for each meter. -/
import Derived.Test.YtlcgckelamhnpaaGreatCtI
set_option maxRecDepth 100000
set_option maxHeartbeats 4000000
namespace Go.Proofs.YtlcgckelamhnpaaGreat
open Go.RowKit Go.Lib
variable {G : Nat}
abbrev CtS (w : World) (a : Option Addr) (n c : Nat) (cs : List Ct) : Prop := CtIn w (.slice a n c) cs
abbrev RcS (w : World) (a : Option Addr) (n c : Nat) (rr : List Rc) : Prop := RcIn w (.slice a n c) rr
theorem CtS.len {w : World} {a : Option Addr} {n c : Nat} {cs : List Ct} (h : CtS w a n c cs) : n = cs.length := by
 obtain ⟨a', c', h1⟩ := CtIn.shape h; cases h1; rfl
theorem RcS.len {w : World} {a : Option Addr} {n c : Nat} {rr : List Rc} (h : RcS w a n c rr) : n = rr.length := by
 obtain ⟨a', c', h1, -⟩ := h; cases h1; rfl
instance : El Ct where
 cells x := cCells x
 sz := 6
 T := 76
 deep := []
 ok _ _ _ := True
 len := fun _ => rfl
 one := by
  rintro G w x - u hu
  simp [cCells] at hu; rcases hu with rfl | rfl | rfl | rfl | rfl | rfl <;> rfl
 keep := fun _ _ => trivial
 far := fun _ _ _ _ _ => trivial
abbrev RdCt (G : Nat) (w : World) (a : Option Addr) (n c : Nat) (l : List Ct) : Prop := RdL G w a n c l
theorem CtS.of {w : World} {a : Option Addr} {n c : Nat} {l : List Ct} (h : RdCt G w a n c l) : CtS w a n c l := by
 refine ⟨a, c, by rw [h.len], fun k hk => ?_⟩; obtain ⟨b, off, rfl, hb⟩ := RdL.ptr h (by have := h.len; omega); have hx : l[k]? = some l[k] := List.getElem?_eq_getElem hk; have h2 := hb.row hx; refine ⟨b, off, rfl, h2.1, fun j u hu => ?_⟩; simp only [hx, Option.map_some, Option.getD_some] at hu; exact h2.2 j u hu
theorem ctCheck_l {nm : ByteArray} {am ar ac aq : Option Addr} {nn cm nr cr kc cc kq cq : Nat} {ms : List Mt} {rs : List Rg} {cs : List Ct} {rr : List Rc} {nb big : Bool} {er : Int} {w : World} (hG : G ≤ w.heap.size) (hm : RdMt G w am nn cm ms) (hr : RdRg G w ar nr cr rs) (hc : CtS w ac kc cc cs) (hq : RcS w aq kq cq rr) (hsz : nm.size ≤ 1000) (hnn : nn ≤ 1000) (hnr : nr ≤ 1000) (hcl : kc ≤ 1000) (hrl : kq ≤ 1000) (hnb : nameOk nm.data.toList = nb) (hbg : bigB ms rs cs.length rr.length = big) (he : checkE (ivOf cs rr) nb big ms rs = er) :
 Calls Tryz.prog 10 #[.agg #[.string nm, .slice am nn cm, .slice ar nr cr], .slice ac kc cc, .slice aq kq cq] w fun e w' => e = .returned (.int .i64 er) ∧ Below w.heap.size w w' := by
 have h1 := hc.len; have h2 := hq.len; subst h1 h2; exact ctCheck hG hm hr hc hq hsz hnn hnr hcl hrl hnb hbg he
theorem ctBetween_l {nm : ByteArray} {am ar ac aq : Option Addr} {nn cm nr cr kc cc kq cq : Nat} {ms : List Mt} {rs : List Rg} {cs : List Ct} {rr : List Rc} {nb big : Bool} {da db er : Int} {o : Option (Rat × Rat)} {ol oh : Option Rat} {w : World} (hG : G ≤ w.heap.size) (hm : RdMt G w am nn cm ms) (hr : RdRg G w ar nr cr rs) (hc : CtS w ac kc cc cs) (hq : RcS w aq kq cq rr) (hsz : nm.size ≤ 1000) (hnn : nn ≤ 1000) (hnr : nr ≤ 1000) (hcl : kc ≤ 1000) (hrl : kq ≤ 1000) (hnb : nameOk nm.data.toList = nb) (hbg : bigB ms rs cs.length rr.length = big) (he : betw (ivOf cs rr) nb big ms rs da db = (er, o)) (hl : o.map Prod.fst = ol) (hh : o.map Prod.snd = oh) :
 Calls Tryz.prog 7 #[.agg #[.string nm, .slice am nn cm, .slice ar nr cr], .slice ac kc cc, .slice aq kq cq, .int .i64 da, .int .i64 db] w fun e w' => ∃ x0 x1 x2 x3 x4 x5 x6 x7, e = .returned (.tuple #[.agg #[x0, x1, x2, x3, x4, x5, x6, x7], .int .i64 er]) ∧ OQ G w' x0 x1 x2 x3 ol ∧ OQ G w' x4 x5 x6 x7 oh ∧ Oz ol 200000 ∧ Oz oh 200000 ∧ Below w.heap.size w w' := by
 have h1 := hc.len; have h2 := hq.len; subst h1 h2; exact ctBetween hG hm hr hc hq hsz hnn hnr hcl hrl hnb hbg he hl hh
def exNm : ByteArray := ⟨#[109, 97, 105, 110]⟩
theorem rdct_one {w : World} {A : Nat} {s f u n p d : Int} (h : Bx w A 76 #[.int .i64 s, .int .i64 f, .int .i64 u, .int .i64 n, .int .i64 p, .int .i64 d]) (hG : G ≤ A) : RdCt G w (some ⟨A, 0, none⟩) 1 1 [⟨s, f, u, n, p, d⟩] :=
 RdL.of (OwB.new (α := Ct) (B := A) h rfl hG (Nat.le_refl _) (fun _ _ => trivial)).rd rfl (by omega)
def exM : List Mt := [⟨0, 0, 10⟩]
def exR (c : Int) : List Rg := [⟨0, 2, 100⟩, ⟨0, 8, c⟩]
def exC : List Ct := [⟨0, 0, 20, 2, 0, 0⟩]
def exM2 : List Mt := [⟨0, 0, 10⟩, ⟨1, 10, 20⟩]
def exR2 : List Rg := [⟨0, 2, 100⟩, ⟨0, 8, 130⟩, ⟨1, 12, 7⟩]
theorem exNb : nameOk exNm.data.toList = true := by decide +kernel
theorem exBg : bigB exM (exR 130) exC.length ([] : List Rc).length = false := by decide +kernel
theorem exBg95 : bigB exM (exR 95) exC.length ([] : List Rc).length = false := by decide +kernel
theorem exBg2 : bigB exM2 exR2 exC.length ([] : List Rc).length = false := by decide +kernel
theorem exB28 : betw (ivOf exC []) true false exM (exR 130) 2 8 = (0, some (26, 34)) := by decide +kernel
theorem exB02 : betw (ivOf exC []) true false exM (exR 130) 0 2 = (0, some (0, 102)) := by decide +kernel
theorem exB35 : betw (ivOf exC []) true false exM (exR 130) 3 5 = (0, some (0, 34)) := by decide +kernel
theorem exB29 : betw (ivOf exC []) true false exM (exR 130) 2 9 = (17, none) := by decide +kernel
theorem exB811 : betw (ivOf exC []) true false exM (exR 130) 8 11 = (4, none) := by decide +kernel
theorem exB212 : betw (ivOf exC []) true false exM2 exR2 2 12 = (17, none) := by decide +kernel
theorem exK : checkE (ivOf exC []) true false exM (exR 130) = 0 := by decide +kernel
theorem exK95 : checkE (ivOf exC []) true false exM (exR 95) = 16 := by decide +kernel
theorem exK2 : checkE (ivOf exC []) true false exM2 exR2 = 0 := by decide +kernel
theorem ctExample {x : Int} {w : World} (hG : G ≤ w.heap.size) :
 Calls Tryz.prog 14 #[.int .i64 x] w fun e w' => ∃ a1 a2 a3, e = .returned (.tuple #[.agg #[.string exNm, .slice a1 1 1, .slice a2 2 2], .slice a3 1 1]) ∧ RdMt G w' a1 1 1 exM ∧ RdRg G w' a2 2 2 (exR x) ∧ RdCt G w' a3 1 1 exC ∧ Below w.heap.size w w' := by
 have h0_ : True := trivial; have M : Hid (Below w.heap.size w w) := Below.refl _ _; go_enter Tryz.func14, Tryz.ntmps14
 go_upto_region 1 with fail
 generalize hv : World.alloc w _ = w1; replace M := alM hv.symm M; clear hv; go_upto_region 2 with fail
 generalize hv : World.alloc (World.alloc (World.alloc w1 _) _) _ = w2; have ow1_ := (Y0 M).lt; replace M := al3W hv.symm M; clear hv; refine (Y0 M).D3 fun aa ab ac => ?_; have z3 := (Y0 M).lt; refine cj6 (Y3 M).c3 fun ad ae af ag ah ai => ?_; have z0 : w.heap.size < w2.heap.size := (Y3 M).lt; go_wp2_with fail
 clear aa ab ac z3 ad ae af ag ah ai z0; have zp0_ := ((Y3 M)).lt; rw [← World.setCell_alloc_past, ← World.setCell_alloc_past, ← World.setCell_alloc_past]
 rotate_left
 · first | omega | (simp <;> omega)
 · first | omega | (simp <;> omega)
 · first | omega | (simp <;> omega)
 generalize hv : World.alloc w2 _ = w3; have ow4_ := (Y0 M).lt; replace M := alM hv.symm M; clear hv; have hz : w.heap.size ≤ w.heap.size := by exact Nat.le_refl _
 refine st3W (.string ({data := #[109, 97, 105, 110]})) (.slice (some ⟨w1.heap.size, 0, none⟩) 1 1) (.slice (some ⟨w1.heap.size + 1, 0, none⟩) 2 2) (Y4 M) (J5 M) hz fun w4 hv og hk hbw => ?_; rw [← hv]; replace M := hI (aI ((Y0 M).o og) (aI ((Y1 M).o og) (aI ((Y2 M).o og) (aI ((Y3 M).o og) (aI hk hbw))))); clear hk hbw og hv hz; refine bodyPost_ret (results_box2 rfl _ _ w.heap.size 25 _ _ _ rfl (Y4 M) Tryz.underlying25 rfl (by kernel_rfl)) rfl ?_; exact ⟨_, _, _, rfl, (show RdMt G w4 (some ⟨w1.heap.size, 0, none⟩) 1 1 exM from RdL.of (OwB.new (α := Mt) (Y3 M) rfl hG (show w.heap.size ≤ _ by omega) (fun _ _ => trivial)).rd rfl (by omega)), (show RdRg G w4 (some ⟨w1.heap.size + 1, 0, none⟩) 2 2 (exR x) from RdL.of (OwB.new (α := Rg) (Y2 M) rfl hG (show w.heap.size ≤ _ by omega) (fun _ _ => trivial)).rd rfl (by omega)), (rdct_one (Y0 M) (by omega)), (J5 M)⟩
theorem ctIs {da db lo hi : Int} {w : World} (hG : G ≤ w.heap.size) (hb : betw (ivOf exC []) true false exM (exR 130) da db = (0, some ((lo : Rat), (hi : Rat)))) (hl : -9223372036854775808 ≤ lo ∧ lo ≤ 9223372036854775807) (hh : -9223372036854775808 ≤ hi ∧ hi ≤ 9223372036854775807) :
 Calls Tryz.prog 15 #[.int .i64 da, .int .i64 db, .int .i64 lo, .int .i64 hi] w fun e w' => e = .returned (.bool true) ∧ Below w.heap.size w w' := by
 have HB := hI hb; have HIL := hI hl; have HIH := hI hh; clear hb hl hh; have M : Hid (Below w.heap.size w w) := Below.refl _ _; go_enter Tryz.func15, Tryz.ntmps15
 go_wp2_with fail
 refine (ctExample (G := G) (x := 130) (Nat.le_trans hG M.out.size)).mono ?_; rintro e w1 ⟨a_1, a_2, a_3, rfl, hd4, hd5, hd6, hb⟩; replace M := hI (aI hd4 (aI hd5 (aI hd6 (Goes.go M.out hb)))); clear hb hd4 hd5 hd6; go_upto_region 2 with fail
 generalize hv : World.alloc w1 _ = w2; have ow0_ : w.heap.size ≤ w1.heap.size := ((J3 M)).size; replace M := alM hv.symm M; clear hv; refine (Y0 M).D3 fun aa ab ac => ?_; go_wp2_with fail
 clear aa ab ac; refine (ctBetween_l (G := G) (nm := exNm) (nb := true) (big := false) (da := da) (db := db) (er := 0) (ol := (some (lo : Rat))) (oh := (some (hi : Rat))) (Nat.le_trans hG (J4 M).size) (Y1 M) (Y2 M) (CtS.of (Y3 M)) (rcin_nil _ _ _) (by decide) (by decide) (by decide) (by decide) (by decide) exNb exBg HB.out rfl rfl).mono ?_; rintro e w3 ⟨x_7, x_8, x_9, x_10, x_11, x_12, x_13, x_14, rfl, hd15, hd16, hu17, hu18, hb⟩; replace M := ad2M hd15 hd16 hb M; clear hb hd15 hd16; replace hu17 := hI hu17; replace hu18 := hI hu18; refine cj4 (TQ.st (Y0 M)) fun ad ae af ag => ?_; refine cj4 (TQ.st (Y1 M)) fun ah ai aj ak => ?_; go_wp2_with fail
 clear ad ae af ag ah ai aj ak; generalize hv : World.alloc w3 _ = w4; have ow1_ := ((Y2 M)).lt; replace M := alM hv.symm M; clear hv; refine nmW w4.drew fun w5 hv => ?_; replace M := drM hv M; refine rg8W hv (Y0 M) fun hH31 => ?_; clear hv; refine tk4 at0 at1 at2 at3 ?_; refine tk2 at4 at5 ?_; refine roW at6 fun K hK => ?_; go_simp; refine nmW (α := Rat) (lo : Rat) fun q36 eq36 => ?_; refine (fqInt (G := G) (x := lo) HIL.out).mono ?_; rintro e w6 ⟨x_32, x_33, x_34, x_35, rfl, hd37, hb⟩; rw [← eq36] at hd37; have Sq36 := szW eq36 (n := 4) (Fz.int64 HIL.out); have Eq36 := hI eq36; clear eq36; replace M := adM hd37 hb M; clear hb hd37; (try go_wp2_with fail)
 refine hK.out _ _ ((Y1 M).d8) (fun hH38 => ?_); clear hK K hH31; (try simp only [Act.put, kq])
 refine roW at7 fun K hK => ?_; go_simp; refine (fqCompare (G := G) (q := (lo : Rat)) (r := q36) (k := 0) (Y2 M) (Y0 M) (Fz.mono (Fz.int64 HIL.out) (by omega)) (Fz.mono Sq36.out (by omega)) (by rw [Eq36.out]; unfold ordQ; rw [if_neg Rat.lt_irrefl, if_neg Rat.lt_irrefl])).mono ?_; rintro e w7 ⟨rfl, hb⟩; replace M := gnM hb M; clear hb; (try go_wp2_with fail)
 refine hK.out _ _ ((Y1 M).d8) (fun hH39 => ?_); clear hK K hH38; (try simp only [Act.put, kq])
 refine tk4 at8 at9 at10 at11 ?_; refine tk2 at12 at13 ?_; refine roW at14 fun K hK => ?_; go_simp; refine nmW (α := Rat) (hi : Rat) fun q44 eq44 => ?_; refine (fqInt (G := G) (x := hi) HIH.out).mono ?_; rintro e w8 ⟨x_40, x_41, x_42, x_43, rfl, hd45, hb⟩; rw [← eq44] at hd45; have Sq44 := szW eq44 (n := 4) (Fz.int64 HIH.out); have Eq44 := hI eq44; clear eq44; replace M := adM hd45 hb M; clear hb hd45; (try go_wp2_with fail)
 refine hK.out _ _ ((Y2 M).d8) (fun hH46 => ?_); clear hK K hH39; (try simp only [Act.put, kq])
 refine roW at15 fun K hK => ?_; go_simp; refine (fqCompare (G := G) (q := (hi : Rat)) (r := q44) (k := 0) (Y4 M) (Y0 M) (Fz.mono (Fz.int64 HIH.out) (by omega)) (Fz.mono Sq44.out (by omega)) (by rw [Eq44.out]; unfold ordQ; rw [if_neg Rat.lt_irrefl, if_neg Rat.lt_irrefl])).mono ?_; rintro e w9 ⟨rfl, hb⟩; replace M := gnM hb M; clear hb; (try go_wp2_with fail)
 refine hK.out _ _ ((Y2 M).d8) (fun hH47 => ?_); clear hK K hH46; (try simp only [Act.put, kq])
 refine tk4 at16 at17 at18 at19 ?_; refine tk at20 ?_; refine roW at21 fun K hK => ?_; go_simp; refine (fqRight (G := G) (q := (hi : Rat)) (Y4 M) (Fz.mono (Fz.int64 HIH.out) (by omega))).mono ?_; rintro e w10 ⟨rfl, hb⟩; replace M := gnM hb M; clear hb; (try go_wp2_with fail)
 refine hK.out _ _ ((Y2 M).d8) (fun hH48 => ?_); clear hK K hH47; (try simp only [Act.put, kq])
 refine tk2 at22 at23 ?_; refine dnW ?_; clear hH48; go_wp2_with fail
 go_ret
 exact ⟨by rfl, (J9 M)⟩
theorem ctSane {w : World} (hG : G ≤ w.heap.size) :
 Calls Tryz.prog 4 #[] w fun e w' => e = .returned (.bool true) ∧ Below w.heap.size w w' := by
 have h0_ : True := trivial; have M : Hid (Below w.heap.size w w) := Below.refl _ _; go_enter Tryz.func4, Tryz.ntmps4
 go_wp2_with fail
 refine (ctExample (G := G) (x := 130) (Nat.le_trans hG M.out.size)).mono ?_; rintro e w1 ⟨a_1, a_2, a_3, rfl, hd4, hd5, hd6, hb⟩; replace M := hI (aI hd4 (aI hd5 (aI hd6 (Goes.go M.out hb)))); clear hb hd4 hd5 hd6; go_upto_region 2 with fail
 generalize hv : World.alloc w1 _ = w2; have ow0_ : w.heap.size ≤ w1.heap.size := ((J3 M)).size; replace M := alM hv.symm M; clear hv; go_wp2_with fail
 refine (ctExample (G := G) (x := 95) (Nat.le_trans hG (J4 M).size)).mono ?_; rintro e w3 ⟨a_7, a_8, a_9, rfl, hd10, hd11, hd12, hb⟩; replace M := hI (aI hd10 (aI hd11 (aI hd12 (Goes.go M.out hb)))); clear hb hd10 hd11 hd12; go_upto_region 3 with fail
 generalize hv : World.alloc w3 _ = w4; have ow1_ := ((Y3 M)).lt; replace M := alM hv.symm M; clear hv; refine (Y4 M).D3 fun aa ab ac => ?_; go_wp2_with fail
 clear aa ab ac; refine (ctBetween_l (G := G) (nm := exNm) (nb := true) (big := false) (da := 2) (db := 9) (er := 17) (ol := none) (oh := none) (Nat.le_trans hG (J8 M).size) (Y5 M) (Y6 M) (CtS.of (Y7 M)) (rcin_nil _ _ _) (by decide) (by decide) (by decide) (by decide) (by decide) exNb exBg exB29 rfl rfl).mono ?_; rintro e w5 ⟨x_13, x_14, x_15, x_16, x_17, x_18, x_19, x_20, rfl, hd21, hd22, hu23, hu24, hb⟩; replace M := ad2M hd21 hd22 hb M; clear hb hd21 hd22; replace hu23 := hI hu23; replace hu24 := hI hu24; refine cj4 (TQ.st (Y0 M)) fun ad ae af ag => ?_; refine cj4 (TQ.st (Y1 M)) fun ah ai aj ak => ?_; go_upto_region 4 with fail
 clear ad ae af ag ah ai aj ak; generalize hv : World.alloc w5 _ = w6; have ow2_ := ((Y2 M)).lt; replace M := alM hv.symm M; clear hv; refine (Y7 M).D3 fun aa ab ac => ?_; go_wp2_with fail
 clear aa ab ac; refine (ctBetween_l (G := G) (nm := exNm) (nb := true) (big := false) (da := 8) (db := 11) (er := 4) (ol := none) (oh := none) (Nat.le_trans hG (J11 M).size) (Y8 M) (Y9 M) (CtS.of (Y10 M)) (rcin_nil _ _ _) (by decide) (by decide) (by decide) (by decide) (by decide) exNb exBg exB811 rfl rfl).mono ?_; rintro e w7 ⟨x_25, x_26, x_27, x_28, x_29, x_30, x_31, x_32, rfl, hd33, hd34, hu35, hu36, hb⟩; replace M := ad2M hd33 hd34 hb M; clear hb hd33 hd34; replace hu35 := hI hu35; replace hu36 := hI hu36; refine cj4 (TQ.st (Y0 M)) fun al am ao ap => ?_; refine cj4 (TQ.st (Y1 M)) fun aq ar au av => ?_; go_upto_region 5 with fail
 clear al am ao ap aq ar au av; generalize hv : World.alloc w7 _ = w8; have ow3_ := ((Y2 M)).lt; replace M := alM hv.symm M; clear hv; refine (Y10 M).D3 fun aa ab ac => ?_; have z0 : w1.heap.size < w8.heap.size := (Y10 M).lt; go_upto_region 6 with fail
 clear aa ab ac z0; generalize hv : World.alloc w8 _ = w9; have ow4_ := (Y0 M).lt; replace M := alM hv.symm M; clear hv; refine cj6 (Y0 M).c3 fun aw ax ay az ba bb => ?_; have z4 := (Y0 M).lt; go_upto_region 7 with fail
 clear aw ax ay az ba bb z4; have zp4_ := (Y0 M).lt; rw [← World.setCell_alloc_past]
 rotate_left
 · first | omega | (simp <;> omega)
 generalize hv : World.alloc w9 _ = w10; have ow5_ := ((Y1 M)).lt; replace M := alM hv.symm M; clear hv; generalize hv : World.setCell w10 _ _ = w11; have og : w10.grownBy w11 (some w8.heap.size) := by rw [← hv]; exact (only_setCell gW _)
 have hz : w.heap.size ≤ w8.heap.size := by omega
 have hk : Bx w11 w8.heap.size 25 #[.string exNm, .slice (some ⟨w9.heap.size, 0, none⟩) 2 2, .slice a_2 2 2] := by rw [← hv]; exact ((Y1 M).set 1 _)
 have hbw : Below w.heap.size w w11 := by rw [← hv]; exact (Below.setCell (J16 M) (by omega) _)
 replace M := hI (aI ((Y0 M).o og) (aI hk (aI ((Y2 M).o og) (aI ((Y3 M).f (Y1 M) og) (aI ((Y4 M).f (Y1 M) og) (aI ((Y5 M).o og) (aI ((Y6 M).f (Y1 M) og) (aI ((Y7 M).f (Y1 M) og) (aI ((Y8 M).o og) (aI ((Y9 M).f (Y1 M) og) (aI ((Y10 M).f (Y1 M) og) (aI ((Y11 M).f (Y1 M) og) (aI ((Y12 M).o og) (aI ((Y13 M).f (Y1 M) og) (aI ((Y14 M).f (Y1 M) og) (aI ((Y15 M).f (Y1 M) og) hbw)))))))))))))))); clear hk hbw og hv hz; refine cj6 (Y1 M).c3 fun aw ax ay az ba bb => ?_; have z4 : w8.heap.size < w11.heap.size := (Y1 M).lt; go_upto_region 8 with fail
 clear aw ax ay az ba bb z4; have zp4_ := ((Y1 M)).lt; rw [← World.setCell_alloc_past]
 rotate_left
 · first | omega | (simp <;> omega)
 generalize hv : World.alloc w11 _ = w12; have ow6_ := (Y0 M).lt; replace M := alM hv.symm M; clear hv; generalize hv : World.setCell w12 _ _ = w13; have og : w12.grownBy w13 (some w8.heap.size) := by rw [← hv]; exact (only_setCell gW _)
 have hz : w.heap.size ≤ w8.heap.size := by omega
 have hk : Bx w13 w8.heap.size 25 #[.string exNm, .slice (some ⟨w9.heap.size, 0, none⟩) 2 2, .slice (some ⟨w11.heap.size, 0, none⟩) 3 3] := by rw [← hv]; exact ((Y2 M).set 2 _)
 have hbw : Below w.heap.size w w13 := by rw [← hv]; exact (Below.setCell (J17 M) (by omega) _)
 replace M := hI (aI ((Y0 M).o og) (aI ((Y1 M).o og) (aI hk (aI ((Y3 M).o og) (aI ((Y4 M).f (Y2 M) og) (aI ((Y5 M).f (Y2 M) og) (aI ((Y6 M).o og) (aI ((Y7 M).f (Y2 M) og) (aI ((Y8 M).f (Y2 M) og) (aI ((Y9 M).o og) (aI ((Y10 M).f (Y2 M) og) (aI ((Y11 M).f (Y2 M) og) (aI ((Y12 M).f (Y2 M) og) (aI ((Y13 M).o og) (aI ((Y14 M).f (Y2 M) og) (aI ((Y15 M).f (Y2 M) og) (aI ((Y16 M).f (Y2 M) og) hbw))))))))))))))))); clear hk hbw og hv hz; refine (Y2 M).D3 fun aw ay ba => ?_; go_wp2_with fail
 clear aw ay ba; replace M := hI (aI (Y0 M) (aI (Y1 M) (aI (Y2 M) (aI (Y9 M) (aI (Y10 M) (aI (Y11 M) (aI (Y12 M) (aI (Y13 M) (aI (Y14 M) (aI (Y15 M) (aI (Y16 M) (J17 M)))))))))))); refine (ctBetween_l (G := G) (nm := exNm) (nb := true) (big := false) (da := 2) (db := 12) (er := 17) (ol := none) (oh := none) (Nat.le_trans hG (J11 M).size) (show RdMt G w13 (some ⟨w9.heap.size, 0, none⟩) 2 2 exM2 from RdL.of (OwB.new (α := Mt) (Y1 M) rfl hG (show w.heap.size ≤ _ by omega) (fun _ _ => trivial)).rd rfl (by omega)) (show RdRg G w13 (some ⟨w11.heap.size, 0, none⟩) 3 3 exR2 from RdL.of (OwB.new (α := Rg) (Y0 M) rfl hG (show w.heap.size ≤ _ by omega) (fun _ _ => trivial)).rd rfl (by omega)) (CtS.of (Y10 M)) (rcin_nil _ _ _) (by decide) (by decide) (by decide) (by decide) (by decide) exNb exBg2 exB212 rfl rfl).mono ?_; rintro e w14 ⟨x_37, x_38, x_39, x_40, x_41, x_42, x_43, x_44, rfl, hd45, hd46, hu47, hu48, hb⟩; replace M := ad2M hd45 hd46 hb M; clear hb hd45 hd46; replace hu47 := hI hu47; replace hu48 := hI hu48; refine cj4 (TQ.st (Y0 M)) fun bc bd bf bg => ?_; refine cj4 (TQ.st (Y1 M)) fun bh bi bj bk => ?_; go_upto_region 9 with fail
 clear bc bd bf bg bh bi bj bk; generalize hv : World.alloc w14 _ = w15; have ow7_ := ((Y2 M)).lt; replace M := alM hv.symm M; clear hv; refine (Y10 M).D3 fun aa ab ac => ?_; go_wp2_with fail
 clear aa ab ac; replace M := hI (aI (Y3 M) (aI (Y4 M) (aI (Y5 M) (aI (Y6 M) (aI (Y7 M) (aI (Y8 M) (aI (Y9 M) (aI (Y11 M) (aI (Y12 M) (aI (Y13 M) (J14 M))))))))))); refine (ctCheck_l (G := G) (nm := exNm) (nb := true) (big := false) (er := 0) (Nat.le_trans hG (J10 M).size) (Y7 M) (Y8 M) (CtS.of (Y9 M)) (rcin_nil _ _ _) (by decide) (by decide) (by decide) (by decide) (by decide) exNb exBg exK).mono ?_; rintro e w16 ⟨rfl, hb⟩; replace M := gnM hb M; clear hb; refine (Y3 M).D3 fun bl bm bn => ?_; go_wp2_with fail
 clear bl bm bn; refine (ctCheck_l (G := G) (nm := exNm) (nb := true) (big := false) (er := 16) (Nat.le_trans hG (J10 M).size) (Y4 M) (Y5 M) (CtS.of (Y9 M)) (rcin_nil _ _ _) (by decide) (by decide) (by decide) (by decide) (by decide) exNb exBg95 exK95).mono ?_; rintro e w17 ⟨rfl, hb⟩; replace M := gnM hb M; clear hb; refine (Y2 M).D3 fun aw ay ba => ?_; go_wp2_with fail
 clear aw ay ba; refine (ctCheck_l (G := G) (nm := exNm) (nb := true) (big := false) (er := 0) (Nat.le_trans hG (J10 M).size) (show RdMt G w17 (some ⟨w9.heap.size, 0, none⟩) 2 2 exM2 from RdL.of (OwB.new (α := Mt) (Y1 M) rfl hG (show w.heap.size ≤ _ by omega) (fun _ _ => trivial)).rd rfl (by omega)) (show RdRg G w17 (some ⟨w11.heap.size, 0, none⟩) 3 3 exR2 from RdL.of (OwB.new (α := Rg) (Y0 M) rfl hG (show w.heap.size ≤ _ by omega) (fun _ _ => trivial)).rd rfl (by omega)) (CtS.of (Y9 M)) (rcin_nil _ _ _) (by decide) (by decide) (by decide) (by decide) (by decide) exNb exBg2 exK2).mono ?_; rintro e w18 ⟨rfl, hb⟩; replace M := gnM hb M; clear hb; go_wp2_with fail
 replace M := hI (aI (Y4 M) (aI (Y5 M) (aI (Y6 M) (aI (Y7 M) (aI (Y8 M) (aI (Y9 M) (J10 M))))))); refine (ctIs (G := G) (da := 2) (db := 8) (lo := 26) (hi := 34) (Nat.le_trans hG (J6 M).size) exB28 (by decide) (by decide)).mono ?_; rintro e w19 ⟨rfl, hb⟩; replace M := gnM hb M; clear hb; go_wp2_with fail
 refine (ctIs (G := G) (da := 0) (db := 2) (lo := 0) (hi := 102) (Nat.le_trans hG (J6 M).size) exB02 (by decide) (by decide)).mono ?_; rintro e w20 ⟨rfl, hb⟩; replace M := gnM hb M; clear hb; go_wp2_with fail
 refine (ctIs (G := G) (da := 3) (db := 5) (lo := 0) (hi := 34) (Nat.le_trans hG (J6 M).size) exB35 (by decide) (by decide)).mono ?_; rintro e w21 ⟨rfl, hb⟩; replace M := gnM hb M; clear hb; go_wp2_with fail
 go_ret
 exact ⟨by rfl, (J6 M)⟩
def fewCt (nn nr sz kc kq : Nat) : Bool := ((((decide (nn ≤ 4) || (decide (20 < nn) && decide (nn ≤ 25))) && decide (nr ≤ 10)) && decide (sz ≤ 30)) && decide (kc ≤ 8)) && decide (kq ≤ 8)
theorem fewCt_len {nn nr sz kc kq : Nat} (h : fewCt nn nr sz kc kq = true) : nn ≤ 25 ∧ nr ≤ 10 ∧ sz ≤ 30 ∧ kc ≤ 8 ∧ kq ≤ 8 := by
 unfold fewCt at h; simp only [Bool.and_eq_true, Bool.or_eq_true, decide_eq_true_eq] at h
 omega
theorem ctFew {nm : ByteArray} {am ar ac aq : Option Addr} {nn cm nr cr kc cc kq cq : Nat} {b_ : Bool} {w : World} (hb : fewCt nn nr nm.size kc kq = b_) :
 Calls Tryz.prog 5 #[.agg #[.string nm, .slice am nn cm, .slice ar nr cr], .slice ac kc cc, .slice aq kq cq] w fun e w' => e = .returned (.bool b_) ∧ Below w.heap.size w w' := by
 unfold fewCt at hb; obtain ⟨t1, ht1⟩ : ∃ b, decide (nn ≤ 4) = b := ⟨_, rfl⟩; have ht1i : decide ((nn : Int) ≤ 4) = t1 := by rw [← ht1]; exact decide_eq_decide.2 (by omega)
 obtain ⟨t2, ht2⟩ : ∃ b, decide (20 < nn) = b := ⟨_, rfl⟩; have ht2i : decide (20 < (nn : Int)) = t2 := by rw [← ht2]; exact decide_eq_decide.2 (by omega)
 obtain ⟨t3, ht3⟩ : ∃ b, decide (nn ≤ 25) = b := ⟨_, rfl⟩; have ht3i : decide ((nn : Int) ≤ 25) = t3 := by rw [← ht3]; exact decide_eq_decide.2 (by omega)
 obtain ⟨t4, ht4⟩ : ∃ b, decide (nr ≤ 10) = b := ⟨_, rfl⟩; have ht4i : decide ((nr : Int) ≤ 10) = t4 := by rw [← ht4]; exact decide_eq_decide.2 (by omega)
 obtain ⟨t5, ht5⟩ : ∃ b, decide (nm.size ≤ 30) = b := ⟨_, rfl⟩; have ht5i : decide ((nm.size : Int) ≤ 30) = t5 := by rw [← ht5]; exact decide_eq_decide.2 (by omega)
 obtain ⟨t6, ht6⟩ : ∃ b, decide (kc ≤ 8) = b := ⟨_, rfl⟩; have ht6i : decide ((kc : Int) ≤ 8) = t6 := by rw [← ht6]; exact decide_eq_decide.2 (by omega)
 obtain ⟨t7, ht7⟩ : ∃ b, decide (kq ≤ 8) = b := ⟨_, rfl⟩; have ht7i : decide ((kq : Int) ≤ 8) = t7 := by rw [← ht7]; exact decide_eq_decide.2 (by omega)
 rw [ht1, ht2, ht3, ht4, ht5, ht6, ht7] at hb; have HB := hI hb; clear hb; have M : Hid (Below w.heap.size w w) := Below.refl _ _; go_enter Tryz.func5, Tryz.ntmps5
 go_upto_region 1 with fail
 generalize hv : World.alloc w _ = w1; replace M := alM hv.symm M; clear hv
 cases t1 with
 | false =>
  cases t2 with
  | false =>
   refine (Y0 M).D3 fun aa ab ad => ?_; go_wp2_with fail
   clear aa ab ad; go_ret
   exact ⟨by rw [← HB.out] <;> rfl, (J1 M)⟩
  | true =>
   cases t3 with
   | false =>
    refine (Y0 M).D3 fun aa ab ad => ?_; go_wp2_with fail
    clear aa ab ad; go_ret
    exact ⟨by rw [← HB.out] <;> rfl, (J1 M)⟩
   | true =>
    cases t4 with
    | false =>
     refine (Y0 M).D3 fun aa ab ad => ?_; go_wp2_with fail
     clear aa ab ad; go_ret
     exact ⟨by rw [← HB.out] <;> rfl, (J1 M)⟩
    | true =>
     cases t5 with
     | false =>
      refine (Y0 M).D3 fun aa ab ad => ?_; go_wp2_with fail
      clear aa ab ad; go_ret
      exact ⟨by rw [← HB.out] <;> rfl, (J1 M)⟩
     | true =>
      cases t6 with
      | false =>
       refine (Y0 M).D3 fun aa ab ad => ?_; go_wp2_with fail
       clear aa ab ad; go_ret
       exact ⟨by rw [← HB.out] <;> rfl, (J1 M)⟩
      | true =>
       refine (Y0 M).D3 fun aa ab ad => ?_; go_wp2_with fail
       clear aa ab ad; go_ret
       exact ⟨by rw [← HB.out] <;> rfl, (J1 M)⟩
 | true =>
  cases t4 with
  | false =>
   refine (Y0 M).D3 fun aa ab ad => ?_; go_wp2_with fail
   clear aa ab ad; go_ret
   exact ⟨by rw [← HB.out] <;> rfl, (J1 M)⟩
  | true =>
   cases t5 with
   | false =>
    refine (Y0 M).D3 fun aa ab ad => ?_; go_wp2_with fail
    clear aa ab ad; go_ret
    exact ⟨by rw [← HB.out] <;> rfl, (J1 M)⟩
   | true =>
    cases t6 with
    | false =>
     refine (Y0 M).D3 fun aa ab ad => ?_; go_wp2_with fail
     clear aa ab ad; go_ret
     exact ⟨by rw [← HB.out] <;> rfl, (J1 M)⟩
    | true =>
     refine (Y0 M).D3 fun aa ab ad => ?_; go_wp2_with fail
     clear aa ab ad; go_ret
     exact ⟨by rw [← HB.out] <;> rfl, (J1 M)⟩
theorem ctSame_o {u0 u1 u2 u3 u4 u5 u6 u7 v0 v1 v2 v3 v4 v5 v6 v7 : Value} {o1 o2 o3 o4 : Option Rat} {b_ : Bool} {w : World} (h1 : OQ G w u0 u1 u2 u3 o1) (h2 : OQ G w u4 u5 u6 u7 o2) (h3 : OQ G w v0 v1 v2 v3 o3) (h4 : OQ G w v4 v5 v6 v7 o4) (hz1 : Oz o1 1099511627776) (hz2 : Oz o2 1099511627776) (hz3 : Oz o3 1099511627776) (hz4 : Oz o4 1099511627776) (hb : (decide (o1 = o3) && decide (o2 = o4)) = b_) :
 Calls Tryz.prog 9 #[.agg #[u0, u1, u2, u3, u4, u5, u6, u7], .agg #[v0, v1, v2, v3, v4, v5, v6, v7]] w fun e w' => e = .returned (.bool b_) ∧ Below w.heap.size w w' := by
 have HZ1 := hI hz1; have HZ2 := hI hz2; have HZ3 := hI hz3; have HZ4 := hI hz4; clear hz1 hz2 hz3 hz4; obtain ⟨b1, hb1⟩ : ∃ b, decide (o1 = o3) = b := ⟨_, rfl⟩; obtain ⟨b2, hb2⟩ : ∃ b, decide (o2 = o4) = b := ⟨_, rfl⟩; rw [hb1, hb2] at hb; subst hb; have HB1 := hI hb1; have HB2 := hI hb2; clear hb1 hb2; have H1 : Hid (OQ G w u0 u1 u2 u3 o1) := h1; have H2 : Hid (OQ G w u4 u5 u6 u7 o2) := h2; have H3 : Hid (OQ G w v0 v1 v2 v3 o3) := h3; have H4 : Hid (OQ G w v4 v5 v6 v7 o4) := h4; clear h1 h2 h3 h4; have M : Hid (Below w.heap.size w w) := Below.refl _ _; go_enter Tryz.func9, Tryz.ntmps9
 go_upto_region 1 with fail
 generalize hv : World.alloc (World.alloc w _) _ = w1; replace M := al2W hv.symm M; clear hv; refine (Y1 M).D8 fun aa ab ac ad ae af ag ah => ?_; refine (Y0 M).D8 fun ai aj ak al am ao ap aq => ?_; go_wp2_with fail
 clear aa ab ac ad ae af ag ah ai aj ak al am ao ap aq; refine (rfsame_o (G := G) (o := o1) (p := o3) (b_ := b1) (H1.out.keep (J2 M)) (H3.out.keep (J2 M)) (Oz.mono HZ1.out (by omega)) (Oz.mono HZ3.out (by omega)) HB1.out).mono ?_; rintro e w2 ⟨rfl, hb⟩; replace M := gnM hb M; clear hb
 cases b1 with
 | false =>
  go_wp2_with fail
  go_ret
  exact ⟨by rfl, (J2 M)⟩
 | true =>
  refine (Y1 M).D8 fun aa ab ac ad ae af ag ah => ?_; refine (Y0 M).D8 fun ai aj ak al am ao ap aq => ?_; go_wp2_with fail
  clear aa ab ac ad ae af ag ah ai aj ak al am ao ap aq; refine (rfsame_o (G := G) (o := o2) (p := o4) (b_ := b2) (H2.out.keep (J2 M)) (H4.out.keep (J2 M)) (Oz.mono HZ2.out (by omega)) (Oz.mono HZ4.out (by omega)) HB2.out).mono ?_; rintro e w3 ⟨rfl, hb⟩; replace M := gnM hb M; clear hb; go_wp2_with fail
  go_ret
  exact ⟨by rfl, (J2 M)⟩
instance : El Rc where
 cells x := rcCells x
 sz := 2
 T := 125
 deep := []
 ok _ _ _ := True
 len := fun _ => rfl
 one := by
  rintro G w x - u hu
  simp [rcCells] at hu; rcases hu with rfl | rfl <;> rfl
 keep := fun _ _ => trivial
 far := fun _ _ _ _ _ => trivial
abbrev RdRc (G : Nat) (w : World) (a : Option Addr) (n c : Nat) (l : List Rc) : Prop := RdL G w a n c l
theorem RcS.of {w : World} {a : Option Addr} {n c : Nat} {l : List Rc} (h : RdRc G w a n c l) : RcS w a n c l := by
 refine ⟨a, c, by rw [h.len], fun k hk => ?_⟩; obtain ⟨b, off, rfl, hb⟩ := RdL.ptr h (by have := h.len; omega); have hx : l[k]? = some l[k] := List.getElem?_eq_getElem hk; have h2 := hb.row hx; refine ⟨b, off, rfl, h2.1, fun j u hu => ?_⟩; simp only [hx, Option.map_some, Option.getD_some] at hu; exact h2.2 j u hu
theorem past_keepC {w0 w w' : World} (h : Below w0.heap.size w0 w) (hb : Below w.heap.size w w') : Below w0.heap.size w0 w' := below_call h hb
theorem past_farC {w0 w w' : World} {g : Nat} (h0 : w0.heap.size ≤ G) (h : Below w0.heap.size w0 w) (hG : G ≤ g) (hg : w.grownBy w' (some g)) : Below w0.heap.size w0 w' :=
 h.grown hg h.size fun k hk => by cases hk; omega
structure XC where
 u0 : Value
 u1 : Value
 u2 : Value
 u3 : Value
 n : Nat
 m : Nat
 o : Option Rat
def XOk (G : Nat) (w : World) (u0 u1 u2 u3 : Value) (n m : Nat) : Option Rat → Prop
 | some q => FQ G w u0 u1 u2 u3 q ∧ n = ln (nu q) ∧ m = ln (de q)
 | none => ∃ w0 : World, w0.heap.size ≤ G ∧ FX w0 u0 u1 u2 u3 n m none ∧ Below w0.heap.size w0 w
theorem FX.oneC {w : World} {u0 u1 u2 u3 : Value} {n m : Nat} {o : Option Rat} (h : FX w u0 u1 u2 u3 n m o) : u0.oneCell' = true ∧ u1.oneCell' = true ∧ u2.oneCell' = true ∧ u3.oneCell' = true := by
 obtain ⟨s, a, c, t, b, d, l, k, rfl, rfl, rfl, rfl, -⟩ := h; exact ⟨rfl, rfl, rfl, rfl⟩
theorem XOk.one {w : World} {u0 u1 u2 u3 : Value} {n m : Nat} {o : Option Rat} (h : XOk G w u0 u1 u2 u3 n m o) : u0.oneCell' = true ∧ u1.oneCell' = true ∧ u2.oneCell' = true ∧ u3.oneCell' = true := by
 cases o with
 | some q => exact FQ.one h.1
 | none => obtain ⟨w0, -, h, -⟩ := h; exact h.oneC
theorem XOk.keep {w w' : World} {u0 u1 u2 u3 : Value} {n m : Nat} {o : Option Rat} (h : XOk G w u0 u1 u2 u3 n m o) (hb : Below w.heap.size w w') : XOk G w' u0 u1 u2 u3 n m o := by
 cases o with
 | some q => exact ⟨FQ.keep h.1 hb, h.2⟩
 | none => obtain ⟨w0, h0, h, h1⟩ := h; exact ⟨w0, h0, h, past_keepC h1 hb⟩
theorem XOk.far {w w' : World} {g : Nat} {T : TypeId} {cs : Array Value} {u0 u1 u2 u3 : Value} {n m : Nat} {o : Option Rat} (h : XOk G w u0 u1 u2 u3 n m o) (k : Bx w g T cs) (hT : (T == 3) = false) (hG : G ≤ g) (hg : w.grownBy w' (some g)) : XOk G w' u0 u1 u2 u3 n m o := by
 cases o with
 | some q => exact ⟨FQ.far h.1 k hT hG hg, h.2⟩
 | none => obtain ⟨w0, h0, h, h1⟩ := h; exact ⟨w0, h0, h, past_farC h0 h1 hG hg⟩
theorem XOk.fx {w : World} {u0 u1 u2 u3 : Value} {n m : Nat} (h : XOk G w u0 u1 u2 u3 n m none) : FX w u0 u1 u2 u3 n m none := by
 obtain ⟨w0, -, h, h1⟩ := h; exact h.keep h1
theorem XOk.of {w : World} {u0 u1 u2 u3 : Value} {n m : Nat} {o : Option Rat} (h : FX w u0 u1 u2 u3 n m o) : XOk w.heap.size w u0 u1 u2 u3 n m o := by
 cases o with
 | some q => exact ⟨h.fq, h.isz⟩
 | none => exact ⟨w, Nat.le_refl _, h, Below.refl _ _⟩
instance : El XC where
 cells x := [x.u0, x.u1, x.u2, x.u3]
 sz := 4
 T := 36
 deep := [3]
 ok G w x := XOk G w x.u0 x.u1 x.u2 x.u3 x.n x.m x.o
 len := fun _ => rfl
 one := by
  rintro G w x h u hu
  have h := XOk.one h
  simp at hu; rcases hu with rfl | rfl | rfl | rfl
  · exact h.1
  · exact h.2.1
  · exact h.2.2.1
  · exact h.2.2.2
 keep := fun h hb => XOk.keep h hb
 far := fun h k hT hG hg => XOk.far h k (tnot hT) hG hg
abbrev RdX (G : Nat) (w : World) (a : Option Addr) (n c : Nat) (l : List XC) : Prop := RdL G w a n c l
structure HdX where
 a : Option Addr
 n : Nat
 c : Nat
 l : List XC
instance : El HdX where
 cells x := [.slice x.a x.n x.c]
 sz := 1
 T := 53
 deep := [36, 3]
 ok G w x := RdX G w x.a x.n x.c x.l
 len := fun _ => rfl
 one := by
  rintro G w x - u hu
  simp at hu; subst hu; rfl
 keep := fun h hb => RdL.keep h hb
 far := fun h k hT hG hg => RdL.far h k hT hG hg
abbrev RdHX (G : Nat) (w : World) (a : Option Addr) (n c : Nat) (l : List HdX) : Prop := RdL G w a n c l
def XZ (l : List XC) (N : Nat) : Prop := ∀ x ∈ l, x.n ≤ N ∧ x.m ≤ N ∧ ∀ q, x.o = some q → Fz q N
def XZL (l : List HdX) (N : Nat) : Prop := ∀ x ∈ l, XZ x.l N
def HdX.vs (x : HdX) : List (Option Rat) := x.l.map XC.o
theorem valB_none {vs : List (Option Rat)} {i : Nat} (h : vs[i]? = some none) : valB vs i = false := by unfold valB; rw [h]
theorem valB_zero {vs : List (Option Rat)} {i : Nat} {q : Rat} (h : vs[i]? = some (some q)) (h0 : i = 0) {t : Bool} (ht : decide (q < 0) = t) : valB vs i = !t := by
 unfold valB; rw [h]
 show (decide (0 ≤ q) && (decide (i = 0) || _)) = _
 rw [decide_eq_true h0, Bool.true_or, Bool.and_true, ← ht]; rw [← decide_not]; exact decide_eq_decide.2 Rat.not_lt.symm
theorem valB_next {vs : List (Option Rat)} {i : Nat} {p q : Rat} (h : vs[i]? = some (some q)) (h0 : 0 < i) (hp : vs[i - 1]? = some (some p)) {t u : Bool} (ht : decide (q < 0) = t) (hu : decide (q < p) = u) : valB vs i = (!t && !u) := by
 unfold valB; rw [h]
 show (decide (0 ≤ q) && (decide (i = 0) || (match vs[i - 1]? with | some (some p) => decide (p ≤ q) | _ => true))) = _
 rw [hp, decide_eq_false (show ¬ i = 0 by omega), Bool.false_or, ← ht, ← hu]
 show (decide (0 ≤ q) && decide (p ≤ q)) = (!decide (q < 0) && !decide (q < p))
 rw [← decide_not, ← decide_not, decide_eq_decide.2 (Rat.not_lt (a := q) (b := 0)), decide_eq_decide.2 (Rat.not_lt (a := q) (b := p))]
theorem range_next {p : Nat → Bool} {k : Nat} (h : (List.range k).all p = true) (h1 : p k = true) : (List.range (k + 1)).all p = true := by
 rw [List.range_succ, List.all_append, h]; simp [h1]
theorem range_no {p : Nat → Bool} {k n : Nat} (hk : k < n) (h1 : p k = false) : (List.range n).all p = false := by
 rw [List.all_eq_false]; exact ⟨k, List.mem_range.2 hk, by rw [h1]; simp⟩
theorem range_prev {p : Nat → Bool} {k j : Nat} (h : (List.range k).all p = true) (hj : j < k) : p j = true := List.all_eq_true.1 h j (List.mem_range.2 hj)
theorem val_some {vs : List (Option Rat)} {k j : Nat} (h : (List.range k).all (valB vs) = true) (hj : j < k) : ∃ q, vs[j]? = some (some q) := by
 obtain ⟨q, hq, -⟩ := valB_some (range_prev h hj); exact ⟨q, hq⟩
theorem x_at {l : List XC} {k : Nat} {x : XC} (h : l[k]? = some x) : (l.map XC.o)[k]? = some x.o := by rw [List.getElem?_map, h]; rfl
theorem fits_len {m : Mt} {l : List Mk} {vs : List (Option Rat)} (h : ¬ (vs.length : Int) = m.u - m.f + 1) : fitsB m l vs = false := by unfold fitsB; rw [decide_eq_false h]; rfl
theorem fits_val {m : Mt} {l : List Mk} {vs : List (Option Rat)} {k : Nat} (hk : k < vs.length) (h : valB vs k = false) : fitsB m l vs = false := by unfold fitsB; rw [range_no hk h]; simp
theorem fits_in {m : Mt} {l : List Mk} {vs : List (Option Rat)} (h : l.all (inB m vs) = false) : fitsB m l vs = false := by unfold fitsB; rw [h]; simp
theorem fits_yes {m : Mt} {l : List Mk} {vs : List (Option Rat)} (h0 : (vs.length : Int) = m.u - m.f + 1) (h1 : (List.range vs.length).all (valB vs) = true) (h2 : l.all (inB m vs) = true) : fitsB m l vs = true := by unfold fitsB; rw [decide_eq_true h0, h1, h2]; rfl
theorem inB_is {m : Mt} {vs : List (Option Rat)} {x : Mk} {j : Nat} {q : Rat} (hj : x.d = m.f + (j : Int)) (h : vs[j]? = some (some q)) {t : Bool} (ht : (decide (x.lo ≤ q) && decide (q ≤ x.hi)) = t) : inB m vs x = t := by
 unfold inB; rw [show (x.d - m.f).toNat = j by omega, h]; exact ht
theorem hv_at {H : List HdX} {k : Nat} {y : HdX} (h : H[k]? = some y) : (H.map HdX.vs).getD k [] = y.l.map XC.o := by
 rw [List.getD_eq_getElem?_getD, List.getElem?_map, h]; rfl
def fitK (iv : Iv) (ms : List Mt) (rs : List Rg) (vs : List (List (Option Rat))) (i : Nat) : Bool := fitsB (ms.getD i ⟨0, 0, 0⟩) (marksL iv ms rs (i : Nat)) (vs.getD i [])
theorem allow_fe {iv : Iv} {nb big : Bool} {ms : List Mt} {rs : List Rg} {vs : List (List (Option Rat))} {fe : Int} (h : formedE nb big ms rs = fe) (h0 : ¬ fe = 0) : allowB iv nb big ms rs vs = false := by
 unfold allowB; rw [h, decide_eq_false h0]; rfl
theorem allow_len {iv : Iv} {nb big : Bool} {ms : List Mt} {rs : List Rg} {vs : List (List (Option Rat))} (h : ¬ vs.length = ms.length) : allowB iv nb big ms rs vs = false := by
 unfold allowB; rw [decide_eq_false h]; simp
theorem allow_no {iv : Iv} {nb big : Bool} {ms : List Mt} {rs : List Rg} {vs : List (List (Option Rat))} {k : Nat} (hk : k < ms.length) (h : fitK iv ms rs vs k = false) : allowB iv nb big ms rs vs = false := by
 unfold allowB; rw [range_no (p := fun i => fitsB (ms.getD i ⟨0, 0, 0⟩) (marksL iv ms rs (i : Nat)) (vs.getD i [])) hk h]; simp
theorem allow_yes {iv : Iv} {nb big : Bool} {ms : List Mt} {rs : List Rg} {vs : List (List (Option Rat))} (h0 : formedE nb big ms rs = 0) (h1 : vs.length = ms.length) (h2 : (List.range ms.length).all (fitK iv ms rs vs) = true) : allowB iv nb big ms rs vs = true := by
 unfold allowB; rw [decide_eq_true h0, decide_eq_true h1]; exact h2
def LenX (H : List HdX) (n : Nat) : Prop := ∀ x ∈ H, x.l.length ≤ n
theorem XZ.nil {N : Nat} : XZ [] N := fun x hx => by cases hx
def MkP (l : List Mk) (N : Nat) : Prop := ∀ x ∈ l, Fz x.lo N ∧ Fz x.hi N
theorem leastP_fz {day : Int} {N : Nat} : ∀ {l : List Mk} {q : Rat}, MkP l N → Fz q N → Fz (l.foldl (leastF day) q) N
 | [], q, _, h => h
 | x :: l, q, hz, h => by
  rw [List.foldl_cons]; refine leastP_fz (fun y hy => hz y (by simp [hy])) ?_; unfold leastF
  split
  · exact Fz.maxQ h (hz x (by simp)).1
  · exact h
theorem mostP_oz {day : Int} {N : Nat} : ∀ {l : List Mk} {o : Option Rat}, MkP l N → Oz o N → Oz (l.foldl (mostF day) o) N
 | [], o, _, h => h
 | x :: l, o, hz, h => by
  rw [List.foldl_cons]; refine mostP_oz (fun y hy => hz y (by simp [hy])) ?_; unfold mostF
  split
  · exact h
  · have h2 := (hz x (by simp)).2
    cases o with
    | none => exact Oz.some_ h2
    | some q => exact Oz.some_ (Fz.minQ h h2)
theorem marks_p (cs : List Ct) (rr : List Rc) (ms : List Mt) (rs : List Rg) (m : Int) : MkP (marksL (ivOf cs rr) ms rs m) 60 := fun x hx => by
 obtain ⟨r, -, -, p, hp, rfl⟩ := mem_marks.1 hx; have h := ivl_size (show ivl cs rr (mtAt ms m).s r.c r.d = some (p.1, p.2) from hp); exact ⟨h.1.mono (by omega), h.2.mono (by omega)⟩
theorem lowZ (cs : List Ct) (rr : List Rc) (ms : List Mt) (rs : List Rg) (m day : Int) : Fz (leastQ (marksL (ivOf cs rr) ms rs m) day) 60 := leastP_fz (marks_p cs rr ms rs m) ((Fz.int64 (x := 0) (by decide)).mono (by omega))
theorem highZ (cs : List Ct) (rr : List Rc) (ms : List Mt) (rs : List Rg) (m day : Int) : Oz (mostO (marksL (ivOf cs rr) ms rs m) day) 60 := mostP_oz (marks_p cs rr ms rs m) Oz.none_
theorem XOk.f {w v : World} {g : Nat} {T : TypeId} {cs : Array Value} {u0 u1 u2 u3 : Value} {n m : Nat} {o : Option Rat} (h : XOk G w u0 u1 u2 u3 n m o) (k : Bx w g T cs) (hg : w.grownBy v (some g)) (hT : (T == 3) = false := by rfl) (hG : G ≤ g := by omega) : XOk G v u0 u1 u2 u3 n m o := h.far k hT hG hg
end Go.Proofs.YtlcgckelamhnpaaGreat
