/- Lists of figures: the same. -/
import Derived.Test.YtlpcblhkddmlnaaBase
import Derived.Test.YtlpcblhkddmlnaaBigSpec
import Derived.Test.YtlpcblhkddmlnaaBigB
import Derived.Test.YtlpcblhkddmlnaaBigC
import Derived.Test.YtlpcblhkddmlnaaBigD
import Derived.Test.YtlpcblhkddmlnaaBigK
import Derived.Test.YtlpcblhkddmlnaaBigL
import Derived.Test.YtlpcblhkddmlnaaBigQ
import Derived.Test.YtlpcblhkddmlnaaFd
import Derived.Test.YtlpcblhkddmlnaaHeld
import Derived.Test.YtlpcblhkddmlnaaAw
import Derived.Test.YtlpcblhkddmlnaaFz
import Derived.Test.YtlpcblhkddmlnaaFracR
import Derived.Test.YtlpcblhkddmlnaaRefG
import Derived.Test.YtlpcblhkddmlnaaRw
import Derived.Test.YtlpcblhkddmlnaaReA
import Derived.Test.YtlpcblhkddmlnaaReB
import Derived.Test.YtlpcblhkddmlnaaReD
import Derived.Test.YtlpcblhkddmlnaaProg
import Derived.Test.YtlpcblhkddmlnaaShelf
import Derived.WalkKit
import Derived.WalkSpells
import Derived.WalkLawsBesides
import Derived.Handy
import Derived.Lib.Hide
import Derived.Lib.Strings
import Derived.Lib.Builder
import Derived.BigQuiet
import Derived.OwnWalk
import Derived.Laws.BitsLemmas
import Derived.WalkSmall
import Derived.Deep.QuietTactic
import Derived.StillTailTactics
import Derived.Maps.AppendAt
import Derived.IntWalk
import Derived.Deep.RegionHeld3
import Derived.Deep.DeepFit
import Derived.Deep.LoopGhost
import Derived.Deep.DeepCutAuto
import Derived.Lib.ItoaNum
import Derived.Lib.Repeat
import Derived.Lib.AppendIntMem
import Derived.Sort.OwnSorted
import Derived.Shelf.Strings.SlTrimAscii
import Derived.Lib.ConvBytes
import Derived.Lib.CutLaws
import Derived.Maps.Own
import Derived.Maps.Views
import Derived.Maps.OwnOps
namespace Go.Proofs.Ytlpcblhkddmlnaa
open Go.RowKit Go.Lib
variable {G : Nat}

/-- A figure as it is compared: its ends are fractions, or nothing. -/
structure So where
 key : ByteArray
 note : Int
 o : Option Rat
 p : Option Rat
instance : DecidableEq So := fun x y => if h : x.key = y.key ∧ x.note = y.note ∧ x.o = y.o ∧ x.p = y.p then isTrue (by cases x; cases y; simp_all) else isFalse (by rintro rfl; exact h ⟨rfl, rfl, rfl, rfl⟩)
structure SQ where
 key : ByteArray
 note : Int
 u0 : Value
 u1 : Value
 u2 : Value
 u3 : Value
 o : Option Rat
 v0 : Value
 v1 : Value
 v2 : Value
 v3 : Value
 p : Option Rat
def SQ.so (x : SQ) : So := ⟨x.key, x.note, x.o, x.p⟩
theorem TQ.one {w : World} {u0 u1 u2 u3 : Value} {x y : Int} (h : TQ G w u0 u1 u2 u3 x y) : u0.oneCell' = true ∧ u1.oneCell' = true ∧ u2.oneCell' = true ∧ u3.oneCell' = true := by
 obtain ⟨a, c, b, d, rfl, rfl, rfl, rfl, -⟩ := h
 exact ⟨rfl, rfl, rfl, rfl⟩
instance : El SQ where
  cells x := [.string x.key, .int .i64 x.note, x.u0, x.u1, x.u2, x.u3, x.v0, x.v1, x.v2, x.v3]
  sz := 10
  T := 37
  deep := [3]
  ok G w x := OQ G w x.u0 x.u1 x.u2 x.u3 x.o ∧ OQ G w x.v0 x.v1 x.v2 x.v3 x.p
  len := fun _ => rfl
  one := by
    rintro G w x ⟨h, k⟩ u hu
    have h := TQ.one h
    have k := TQ.one k
    simp at hu; rcases hu with rfl | rfl | rfl | rfl | rfl | rfl | rfl | rfl | rfl | rfl
    · rfl
    · rfl
    · exact h.1
    · exact h.2.1
    · exact h.2.2.1
    · exact h.2.2.2
    · exact k.1
    · exact k.2.1
    · exact k.2.2.1
    · exact k.2.2.2
  keep := fun h hb => ⟨OQ.keep h.1 hb, OQ.keep h.2 hb⟩
  far := fun h k hT hG hg => ⟨OQ.far h.1 k (tnot hT) hG hg, OQ.far h.2 k (tnot hT) hG hg⟩
abbrev RdO (G : Nat) (w : World) (a : Option Addr) (n c : Nat) (l : List SQ) : Prop := RdL G w a n c l
def OzL (l : List SQ) (N : Nat) : Prop := ∀ x ∈ l, Oz x.o N ∧ Oz x.p N
theorem so_len {l m : List SQ} (h : l.map SQ.so = m.map SQ.so) : l.length = m.length := by have := congrArg List.length h; simpa using this
theorem so_next {l m : List SQ} {k : Nat} {x y : SQ} (hx : l[k]? = some x) (hy : m[k]? = some y) (h : (l.take k).map SQ.so = (m.take k).map SQ.so) (h1 : x.so = y.so) : (l.take (k + 1)).map SQ.so = (m.take (k + 1)).map SQ.so := by
 rw [List.take_add_one, List.take_add_one, hx, hy, List.map_append, List.map_append, h]
 simp [h1]
theorem so_ne {l m : List SQ} {k : Nat} {x y : SQ} (hx : l[k]? = some x) (hy : m[k]? = some y) (h : x.so ≠ y.so) : decide (l.map SQ.so = m.map SQ.so) = false := by
 refine decide_eq_false fun he => ?_
 have h1 : (l.map SQ.so)[k]? = (m.map SQ.so)[k]? := by rw [he]
 rw [List.getElem?_map, List.getElem?_map, hx, hy] at h1
 exact h (Option.some.inj h1)
set_option maxRecDepth 100000 in
set_option maxHeartbeats 4000000 in
theorem reSame_o {l m : List SQ} {a1 a2 : Option Addr} {n1 n2 c1 c2 : Nat} {b_ : Bool} {w : World} (h1 : RdO G w a1 n1 c1 l) (h2 : RdO G w a2 n2 c2 m) (_hn1 : n1 ≤ 1000000) (_hn2 : n2 ≤ 1000000) (hz1 : OzL l 1099511627776) (hz2 : OzL m 1099511627776) (hb : decide (l.map SQ.so = m.map SQ.so) = b_) :
  Calls Try.prog 20 #[.slice a1 n1 c1, .slice a2 n2 c2] w fun e w' => e = .returned (.bool b_) ∧ Below w.heap.size w w' := by
 have HZl := Lib.hid hz1; have HZm := Lib.hid hz2; have HB := Lib.hid hb; clear hz1 hz2 hb
 have HL1 : Hid (RdO G w a1 n1 c1 l) := h1
 have HL2 : Hid (RdO G w a2 n2 c2 m) := h2
 clear h1 h2
 have M : Hid (Below w.heap.size w w) := Below.refl _ _
 go_enter Try.func20, Try.ntmps20
 go_upto_region 1 with fail
 by_cases hnn : n1 = n2
 ·
  obtain ⟨n, rfl⟩ : ∃ n, n = n1 := ⟨_, rfl⟩
  subst hnn
  go_wp2_with fail
  go_loopw [5] (fun i5 wr => ∃ (k : Nat), i5 = .int .i64 (k : Int) ∧ Hid (k ≤ n) ∧ Hid ((l.take k).map SQ.so = (m.take k).map SQ.so) ∧ Hid (Below w.heap.size w wr)) (fun i5 _ => n - (RowKit.intOf i5).toNat)
  case atStart =>
   exact ⟨0, rfl, (by show _ ≤ _; omega), (show List.map SQ.so [] = _ from rfl), Lib.hid M.out⟩
  case round =>
   obtain ⟨w1, rfl⟩ : ∃ x, x = wr := ⟨_, rfl⟩
   clear M
   obtain ⟨k, rfl, hk, HT, M⟩ := hrel
   have hk := hk.out
   by_cases hlt : k < n
   ·
    have e1_0 : decide (k < n) = true := decide_eq_true (by omega)
    have e1_1 : decide ((k : Int) < (n : Int)) = true := decide_eq_true (by omega)
    have e1_i : (k : Int) < (n : Int) := by omega
    obtain ⟨b, off, rfl, hb_⟩ := RdL.ptr HL1.out (by omega : 0 < n)
    have hkl_ : k < l.length := by rw [HL1.out.len]; exact hlt
    obtain ⟨x_, hx_⟩ : ∃ x, l[k]? = some x := ⟨l[k], List.getElem?_eq_getElem hkl_⟩
    obtain ⟨xk, xn, xu0, xu1, xu2, xu3, xo, xv0, xv1, xv2, xv3, xp⟩ := x_
    have HRx : Hid (Row w b (off + k * 10) [.string xk, .int .i64 xn, xu0, xu1, xu2, xu3, xv0, xv1, xv2, xv3]) := hb_.row hx_
    have HQx : Hid (OQ G w xu0 xu1 xu2 xu3 xo) := (hb_.ok hx_).1
    have HSx : Hid (OQ G w xv0 xv1 xv2 xv3 xp) := (hb_.ok hx_).2
    have HEx := Lib.hid hx_; clear hx_ hkl_ hb_
    have hz_ := HZl.out _ (List.mem_of_getElem? HEx.out)
    have HZx1 : Hid (Oz xo 1099511627776) := hz_.1
    have HZx2 : Hid (Oz xp 1099511627776) := hz_.2
    clear hz_
    obtain ⟨d, off2, rfl, hb_⟩ := RdL.ptr HL2.out (by omega : 0 < n)
    have hkl_ : k < m.length := by rw [HL2.out.len]; exact hlt
    obtain ⟨y_, hx_⟩ : ∃ x, m[k]? = some x := ⟨m[k], List.getElem?_eq_getElem hkl_⟩
    obtain ⟨yk, yn, yu0, yu1, yu2, yu3, yo, yv0, yv1, yv2, yv3, yp⟩ := y_
    have HRy : Hid (Row w d (off2 + k * 10) [.string yk, .int .i64 yn, yu0, yu1, yu2, yu3, yv0, yv1, yv2, yv3]) := hb_.row hx_
    have HQy : Hid (OQ G w yu0 yu1 yu2 yu3 yo) := (hb_.ok hx_).1
    have HSy : Hid (OQ G w yv0 yv1 yv2 yv3 yp) := (hb_.ok hx_).2
    have HEy := Lib.hid hx_; clear hx_ hkl_ hb_
    have hz_ := HZm.out _ (List.mem_of_getElem? HEy.out)
    have HZy1 : Hid (Oz yo 1099511627776) := hz_.1
    have HZy2 : Hid (Oz yp 1099511627776) := hz_.2
    clear hz_
    have hw : xk ≠ yk ∨ (xk = yk ∧ xn ≠ yn) ∨ (xk = yk ∧ xn = yn ∧ ¬ (xo = yo ∧ xp = yp)) ∨ (xk = yk ∧ xn = yn ∧ (xo = yo ∧ xp = yp)) := by grind
    rcases hw with hw | hw | hw | hw
    ·
     have HZZ := Lib.hid (so_ne HEx.out HEy.out (fun h_ => hw (congrArg So.key h_)))
     have hkt : (xk.toList == yk.toList) = false := by rw [tl_eq]; exact decide_eq_false hw
     have hkt2 : (xk.toList != yk.toList) = true := by rw [bne, hkt]; rfl
     go_wp2_with fail
     refine nmW w1.drew fun w2 hv => ?_
     replace M := drM hv M
     refine wp_region_held_drew (S := (fun w' => w'.cell? ⟨b, off + k * 10, none⟩ = some (.string xk) ∧ w'.cell? ⟨b, off + k * 10 + 1, none⟩ = some (.int .i64 xn) ∧ w'.cell? ⟨b, off + k * 10 + 2, none⟩ = some (xu0) ∧ w'.cell? ⟨b, off + k * 10 + 3, none⟩ = some (xu1) ∧ w'.cell? ⟨b, off + k * 10 + 4, none⟩ = some (xu2) ∧ w'.cell? ⟨b, off + k * 10 + 5, none⟩ = some (xu3) ∧ w'.cell? ⟨b, off + k * 10 + 6, none⟩ = some (xv0) ∧ w'.cell? ⟨b, off + k * 10 + 7, none⟩ = some (xv1) ∧ w'.cell? ⟨b, off + k * 10 + 8, none⟩ = some (xv2) ∧ w'.cell? ⟨b, off + k * 10 + 9, none⟩ = some (xv3) ∧ w'.cell? ⟨d, off2 + k * 10, none⟩ = some (.string yk) ∧ w'.cell? ⟨d, off2 + k * 10 + 1, none⟩ = some (.int .i64 yn) ∧ w'.cell? ⟨d, off2 + k * 10 + 2, none⟩ = some (yu0) ∧ w'.cell? ⟨d, off2 + k * 10 + 3, none⟩ = some (yu1) ∧ w'.cell? ⟨d, off2 + k * 10 + 4, none⟩ = some (yu2) ∧ w'.cell? ⟨d, off2 + k * 10 + 5, none⟩ = some (yu3) ∧ w'.cell? ⟨d, off2 + k * 10 + 6, none⟩ = some (yv0) ∧ w'.cell? ⟨d, off2 + k * 10 + 7, none⟩ = some (yv1) ∧ w'.cell? ⟨d, off2 + k * 10 + 8, none⟩ = some (yv2) ∧ w'.cell? ⟨d, off2 + k * 10 + 9, none⟩ = some (yv3))) (by kernel_rfl) (by rw [← hv]; exact ((HRx.out.keep M.out).t10 ((HRy.out.keep M.out).c10))) (fun hH1 => ?_)
     rw [← hv] at hH1 ⊢
     clear hv
     refine tk at0 ?_
     refine tk at1 ?_
     refine tk at2 ?_
     refine tk at3 ?_
     refine tk at4 ?_
     refine tk at5 ?_
     refine tk at6 ?_
     refine tk at7 ?_
     refine tk at8 ?_
     refine tk at9 ?_
     refine tk at10 ?_
     refine tk at11 ?_
     refine tu at12 ?_
     refine tu at13 ?_
     refine tu at14 ?_
     refine tu at15 ?_
     refine tu at16 ?_
     refine tu at17 ?_
     refine tu at18 ?_
     refine tu at19 ?_
     refine tu at20 ?_
     refine tu at21 ?_
     refine tu at22 ?_
     refine tk at23 ?_
     refine tk at24 ?_
     refine tu at25 ?_
     refine tu at26 ?_
     refine tu at27 ?_
     refine tu at28 ?_
     refine tu at29 ?_
     refine tu at30 ?_
     refine tu at31 ?_
     refine tu at32 ?_
     refine tu at33 ?_
     refine tu at34 ?_
     refine wpAnyH_ready (rs := [35]) (by kernel_rfl) (by simp) ?_
     refine AllReadyH.cons at35 (fun K hK => ?_) AllReadyH.nil
     rw [if_neg]
     rotate_left
     focus (intro h; exact Bool.noConfusion h)
     refine hK.out _ _ hH1 (fun _ => ?_)
     clear hK K
     (try simp only [Act.put, List.setIfInBounds_toArray, List.set_cons_zero, List.set_cons_succ])
     refine tu at36 ?_
     refine tk at37 ?_
     refine wpAnyH_done (by kernel_rfl) ?_ _
     clear hH1
     go_wp2_with fail
     obtain rfl := HZZ.out.symm.trans HB.out
     go_ret
     exact ⟨rfl, M.out⟩
    ·
     obtain ⟨hw0, hw⟩ := hw
     subst hw0
     have hkt : (xk.toList == xk.toList) = true := by rw [tl_eq]; exact decide_eq_true rfl
     have hkt2 : (xk.toList != xk.toList) = false := by rw [bne, hkt]; rfl
     have HZZ := Lib.hid (so_ne HEx.out HEy.out (fun h_ => hw (congrArg So.note h_)))
     have en1 : (xn == yn) = false := beq_false_of_ne (by omega)
     have en2 : (xn != yn) = true := bne_iff_ne.2 (by omega)
     have en3 : ¬ xn = yn := by omega
     go_wp2_with fail
     refine nmW w1.drew fun w2 hv => ?_
     replace M := drM hv M
     refine wp_region_held_drew (S := (fun w' => w'.cell? ⟨b, off + k * 10, none⟩ = some (.string xk) ∧ w'.cell? ⟨b, off + k * 10 + 1, none⟩ = some (.int .i64 xn) ∧ w'.cell? ⟨b, off + k * 10 + 2, none⟩ = some (xu0) ∧ w'.cell? ⟨b, off + k * 10 + 3, none⟩ = some (xu1) ∧ w'.cell? ⟨b, off + k * 10 + 4, none⟩ = some (xu2) ∧ w'.cell? ⟨b, off + k * 10 + 5, none⟩ = some (xu3) ∧ w'.cell? ⟨b, off + k * 10 + 6, none⟩ = some (xv0) ∧ w'.cell? ⟨b, off + k * 10 + 7, none⟩ = some (xv1) ∧ w'.cell? ⟨b, off + k * 10 + 8, none⟩ = some (xv2) ∧ w'.cell? ⟨b, off + k * 10 + 9, none⟩ = some (xv3) ∧ w'.cell? ⟨d, off2 + k * 10, none⟩ = some (.string xk) ∧ w'.cell? ⟨d, off2 + k * 10 + 1, none⟩ = some (.int .i64 yn) ∧ w'.cell? ⟨d, off2 + k * 10 + 2, none⟩ = some (yu0) ∧ w'.cell? ⟨d, off2 + k * 10 + 3, none⟩ = some (yu1) ∧ w'.cell? ⟨d, off2 + k * 10 + 4, none⟩ = some (yu2) ∧ w'.cell? ⟨d, off2 + k * 10 + 5, none⟩ = some (yu3) ∧ w'.cell? ⟨d, off2 + k * 10 + 6, none⟩ = some (yv0) ∧ w'.cell? ⟨d, off2 + k * 10 + 7, none⟩ = some (yv1) ∧ w'.cell? ⟨d, off2 + k * 10 + 8, none⟩ = some (yv2) ∧ w'.cell? ⟨d, off2 + k * 10 + 9, none⟩ = some (yv3))) (by kernel_rfl) (by rw [← hv]; exact ((HRx.out.keep M.out).t10 ((HRy.out.keep M.out).c10))) (fun hH2 => ?_)
     rw [← hv] at hH2 ⊢
     clear hv
     refine tk at0 ?_
     refine tk at1 ?_
     refine tk at2 ?_
     refine tk at3 ?_
     refine tk at4 ?_
     refine tk at5 ?_
     refine tk at6 ?_
     refine tk at7 ?_
     refine tk at8 ?_
     refine tk at9 ?_
     refine tk at10 ?_
     refine tk at11 ?_
     refine tk at12 ?_
     refine tk at13 ?_
     refine tk at14 ?_
     refine tk at15 ?_
     refine tk at16 ?_
     refine tk at17 ?_
     refine tk at18 ?_
     refine tk at19 ?_
     refine tk at20 ?_
     refine tk at21 ?_
     refine tk at22 ?_
     refine tk at23 ?_
     refine tk at24 ?_
     refine tu at25 ?_
     refine tu at26 ?_
     refine tu at27 ?_
     refine tu at28 ?_
     refine tu at29 ?_
     refine tu at30 ?_
     refine tu at31 ?_
     refine tu at32 ?_
     refine tu at33 ?_
     refine tu at34 ?_
     refine wpAnyH_ready (rs := [35]) (by kernel_rfl) (by simp) ?_
     refine AllReadyH.cons at35 (fun K hK => ?_) AllReadyH.nil
     rw [if_neg]
     rotate_left
     focus (intro h; exact Bool.noConfusion h)
     refine hK.out _ _ hH2 (fun _ => ?_)
     clear hK K
     (try simp only [Act.put, List.setIfInBounds_toArray, List.set_cons_zero, List.set_cons_succ])
     refine tu at36 ?_
     refine tk at37 ?_
     refine wpAnyH_done (by kernel_rfl) ?_ _
     clear hH2
     go_wp2_with fail
     obtain rfl := HZZ.out.symm.trans HB.out
     go_ret
     exact ⟨rfl, M.out⟩
    ·
     obtain ⟨hw0, hw⟩ := hw
     subst hw0
     have hkt : (xk.toList == xk.toList) = true := by rw [tl_eq]; exact decide_eq_true rfl
     have hkt2 : (xk.toList != xk.toList) = false := by rw [bne, hkt]; rfl
     obtain ⟨hw1, hw⟩ := hw
     subst hw1
     have HZZ := Lib.hid (so_ne HEx.out HEy.out (fun h_ => hw ⟨congrArg So.o h_, congrArg So.p h_⟩))
     have HDD : Hid ((decide (xo = yo) && decide (xp = yp)) = false) := by show _ = _; rw [Bool.and_eq_false_iff]; by_cases h_ : xo = yo; exact .inr (decide_eq_false fun h2_ => hw ⟨h_, h2_⟩); exact .inl (decide_eq_false h_)
     go_wp2_with fail
     refine nmW w1.drew fun w2 hv => ?_
     replace M := drM hv M
     refine wp_region_held_drew (S := (fun w' => w'.cell? ⟨b, off + k * 10, none⟩ = some (.string xk) ∧ w'.cell? ⟨b, off + k * 10 + 1, none⟩ = some (.int .i64 xn) ∧ w'.cell? ⟨b, off + k * 10 + 2, none⟩ = some (xu0) ∧ w'.cell? ⟨b, off + k * 10 + 3, none⟩ = some (xu1) ∧ w'.cell? ⟨b, off + k * 10 + 4, none⟩ = some (xu2) ∧ w'.cell? ⟨b, off + k * 10 + 5, none⟩ = some (xu3) ∧ w'.cell? ⟨b, off + k * 10 + 6, none⟩ = some (xv0) ∧ w'.cell? ⟨b, off + k * 10 + 7, none⟩ = some (xv1) ∧ w'.cell? ⟨b, off + k * 10 + 8, none⟩ = some (xv2) ∧ w'.cell? ⟨b, off + k * 10 + 9, none⟩ = some (xv3) ∧ w'.cell? ⟨d, off2 + k * 10, none⟩ = some (.string xk) ∧ w'.cell? ⟨d, off2 + k * 10 + 1, none⟩ = some (.int .i64 xn) ∧ w'.cell? ⟨d, off2 + k * 10 + 2, none⟩ = some (yu0) ∧ w'.cell? ⟨d, off2 + k * 10 + 3, none⟩ = some (yu1) ∧ w'.cell? ⟨d, off2 + k * 10 + 4, none⟩ = some (yu2) ∧ w'.cell? ⟨d, off2 + k * 10 + 5, none⟩ = some (yu3) ∧ w'.cell? ⟨d, off2 + k * 10 + 6, none⟩ = some (yv0) ∧ w'.cell? ⟨d, off2 + k * 10 + 7, none⟩ = some (yv1) ∧ w'.cell? ⟨d, off2 + k * 10 + 8, none⟩ = some (yv2) ∧ w'.cell? ⟨d, off2 + k * 10 + 9, none⟩ = some (yv3))) (by kernel_rfl) (by rw [← hv]; exact ((HRx.out.keep M.out).t10 ((HRy.out.keep M.out).c10))) (fun hH3 => ?_)
     rw [← hv] at hH3 ⊢
     clear hv
     refine tk at0 ?_
     refine tk at1 ?_
     refine tk at2 ?_
     refine tk at3 ?_
     refine tk at4 ?_
     refine tk at5 ?_
     refine tk at6 ?_
     refine tk at7 ?_
     refine tk at8 ?_
     refine tk at9 ?_
     refine tk at10 ?_
     refine tk at11 ?_
     refine tk at12 ?_
     refine tk at13 ?_
     refine tk at14 ?_
     refine tk at15 ?_
     refine tk at16 ?_
     refine tk at17 ?_
     refine tk at18 ?_
     refine tk at19 ?_
     refine tk at20 ?_
     refine tk at21 ?_
     refine tk at22 ?_
     refine tk at23 ?_
     refine tk at24 ?_
     refine tk at25 ?_
     refine tk at26 ?_
     refine tk at27 ?_
     refine tk at28 ?_
     refine tk at29 ?_
     refine tk at30 ?_
     refine tk at31 ?_
     refine tk at32 ?_
     refine tk at33 ?_
     refine tk at34 ?_
     refine wpAnyH_ready (rs := [35]) (by kernel_rfl) (by simp) ?_
     refine AllReadyH.cons at35 (fun K hK => ?_) AllReadyH.nil
     go_simp
     refine (reSameSpan_o (G := G) (o1 := xo) (o2 := xp) (o3 := yo) (o4 := yp) (b_ := false) (HQx.out.keep M.out) (HSx.out.keep M.out) (HQy.out.keep M.out) (HSy.out.keep M.out) (Oz.mono HZx1.out (by omega)) (Oz.mono HZx2.out (by omega)) (Oz.mono HZy1.out (by omega)) (Oz.mono HZy2.out (by omega)) HDD.out).mono ?_
     rintro e w3 ⟨rfl, hb⟩
     replace M := gnM hb M
     clear hb
     (try go_wp2_with fail)
     refine hK.out _ _ (((HRx.out.keep M.out).t10 ((HRy.out.keep M.out).c10))) (fun hH4 => ?_)
     clear hK K hH3
     (try simp only [Act.put, List.setIfInBounds_toArray, List.set_cons_zero, List.set_cons_succ])
     refine tk at36 ?_
     refine tk at37 ?_
     refine wpAnyH_done (by kernel_rfl) ?_ _
     clear hH4
     go_wp2_with fail
     obtain rfl := HZZ.out.symm.trans HB.out
     go_ret
     exact ⟨rfl, M.out⟩
    ·
     obtain ⟨hw0, hw⟩ := hw
     subst hw0
     have hkt : (xk.toList == xk.toList) = true := by rw [tl_eq]; exact decide_eq_true rfl
     have hkt2 : (xk.toList != xk.toList) = false := by rw [bne, hkt]; rfl
     obtain ⟨hw1, hw⟩ := hw
     subst hw1
     have HNX := Lib.hid (so_next HEx.out HEy.out HT.out (by show (⟨_, _, _, _⟩ : So) = ⟨_, _, _, _⟩; rw [hw.1, hw.2]))
     have HDD : Hid ((decide (xo = yo) && decide (xp = yp)) = true) := by show _ = _; rw [decide_eq_true hw.1, decide_eq_true hw.2]; rfl
     go_wp2_with fail
     refine nmW w1.drew fun w2 hv => ?_
     replace M := drM hv M
     refine wp_region_held_drew (S := (fun w' => w'.cell? ⟨b, off + k * 10, none⟩ = some (.string xk) ∧ w'.cell? ⟨b, off + k * 10 + 1, none⟩ = some (.int .i64 xn) ∧ w'.cell? ⟨b, off + k * 10 + 2, none⟩ = some (xu0) ∧ w'.cell? ⟨b, off + k * 10 + 3, none⟩ = some (xu1) ∧ w'.cell? ⟨b, off + k * 10 + 4, none⟩ = some (xu2) ∧ w'.cell? ⟨b, off + k * 10 + 5, none⟩ = some (xu3) ∧ w'.cell? ⟨b, off + k * 10 + 6, none⟩ = some (xv0) ∧ w'.cell? ⟨b, off + k * 10 + 7, none⟩ = some (xv1) ∧ w'.cell? ⟨b, off + k * 10 + 8, none⟩ = some (xv2) ∧ w'.cell? ⟨b, off + k * 10 + 9, none⟩ = some (xv3) ∧ w'.cell? ⟨d, off2 + k * 10, none⟩ = some (.string xk) ∧ w'.cell? ⟨d, off2 + k * 10 + 1, none⟩ = some (.int .i64 xn) ∧ w'.cell? ⟨d, off2 + k * 10 + 2, none⟩ = some (yu0) ∧ w'.cell? ⟨d, off2 + k * 10 + 3, none⟩ = some (yu1) ∧ w'.cell? ⟨d, off2 + k * 10 + 4, none⟩ = some (yu2) ∧ w'.cell? ⟨d, off2 + k * 10 + 5, none⟩ = some (yu3) ∧ w'.cell? ⟨d, off2 + k * 10 + 6, none⟩ = some (yv0) ∧ w'.cell? ⟨d, off2 + k * 10 + 7, none⟩ = some (yv1) ∧ w'.cell? ⟨d, off2 + k * 10 + 8, none⟩ = some (yv2) ∧ w'.cell? ⟨d, off2 + k * 10 + 9, none⟩ = some (yv3))) (by kernel_rfl) (by rw [← hv]; exact ((HRx.out.keep M.out).t10 ((HRy.out.keep M.out).c10))) (fun hH5 => ?_)
     rw [← hv] at hH5 ⊢
     clear hv
     refine tk at0 ?_
     refine tk at1 ?_
     refine tk at2 ?_
     refine tk at3 ?_
     refine tk at4 ?_
     refine tk at5 ?_
     refine tk at6 ?_
     refine tk at7 ?_
     refine tk at8 ?_
     refine tk at9 ?_
     refine tk at10 ?_
     refine tk at11 ?_
     refine tk at12 ?_
     refine tk at13 ?_
     refine tk at14 ?_
     refine tk at15 ?_
     refine tk at16 ?_
     refine tk at17 ?_
     refine tk at18 ?_
     refine tk at19 ?_
     refine tk at20 ?_
     refine tk at21 ?_
     refine tk at22 ?_
     refine tk at23 ?_
     refine tk at24 ?_
     refine tk at25 ?_
     refine tk at26 ?_
     refine tk at27 ?_
     refine tk at28 ?_
     refine tk at29 ?_
     refine tk at30 ?_
     refine tk at31 ?_
     refine tk at32 ?_
     refine tk at33 ?_
     refine tk at34 ?_
     refine wpAnyH_ready (rs := [35]) (by kernel_rfl) (by simp) ?_
     refine AllReadyH.cons at35 (fun K hK => ?_) AllReadyH.nil
     go_simp
     refine (reSameSpan_o (G := G) (o1 := xo) (o2 := xp) (o3 := yo) (o4 := yp) (b_ := true) (HQx.out.keep M.out) (HSx.out.keep M.out) (HQy.out.keep M.out) (HSy.out.keep M.out) (Oz.mono HZx1.out (by omega)) (Oz.mono HZx2.out (by omega)) (Oz.mono HZy1.out (by omega)) (Oz.mono HZy2.out (by omega)) HDD.out).mono ?_
     rintro e w3 ⟨rfl, hb⟩
     replace M := gnM hb M
     clear hb
     (try go_wp2_with fail)
     refine hK.out _ _ (((HRx.out.keep M.out).t10 ((HRy.out.keep M.out).c10))) (fun hH6 => ?_)
     clear hK K hH5
     (try simp only [Act.put, List.setIfInBounds_toArray, List.set_cons_zero, List.set_cons_succ])
     refine tk at36 ?_
     refine tk at37 ?_
     refine wpAnyH_done (by kernel_rfl) ?_ _
     clear hH6
     go_wp2_with fail
     go_roundw
     case rel => exact ⟨(k + 1), by go_num, (by show _ ≤ _; omega), HNX, Lib.hid M.out⟩
     case measure => simp [RowKit.intOf] <;> omega
   ·
    have e1_0 : decide (k < n) = false := decide_eq_false (by omega)
    have e1_1 : decide ((k : Int) < (n : Int)) = false := decide_eq_false (by omega)
    have e1_i : ¬ (k : Int) < (n : Int) := by omega
    have HZZ : Hid (decide (l.map SQ.so = m.map SQ.so) = true) := by
     show _ = _
     have h_ := HT.out
     rw [List.take_of_length_le (by rw [HL1.out.len]; omega), List.take_of_length_le (by rw [HL2.out.len]; omega)] at h_
     exact decide_eq_true h_
    go_wp2_with fail
    obtain rfl := HZZ.out.symm.trans HB.out
    go_ret
    exact ⟨rfl, M.out⟩
 ·
  have HZZ : Hid (decide (l.map SQ.so = m.map SQ.so) = false) := by
   show _ = _
   refine decide_eq_false fun he => hnn ?_
   have h_ := so_len he
   rw [HL1.out.len, HL2.out.len] at h_; exact h_
  have en1 : ((n1 : Int) == (n2 : Int)) = false := beq_false_of_ne (by omega)
  have en2 : ((n1 : Int) != (n2 : Int)) = true := bne_iff_ne.2 (by omega)
  have en3 : ¬ (n1 : Int) = (n2 : Int) := by omega
  have en4 : (n1 == n2) = false := beq_false_of_ne (by omega)
  have en5 : (n1 != n2) = true := bne_iff_ne.2 (by omega)
  have en6 : ¬ n1 = n2 := by omega
  go_wp2_with fail
  obtain rfl := HZZ.out.symm.trans HB.out
  go_ret
  exact ⟨rfl, M.out⟩
def SC.sq (x : SC) : SQ := ⟨x.key, x.note, x.u0, x.u1, x.u2, x.u3, some x.q, x.v0, x.v1, x.v2, x.v3, some x.r⟩
theorem RdL.sq {w : World} {a : Option Addr} {n c : Nat} {l : List SC} (h : RdC G w a n c l) : RdO G w a n c (l.map SC.sq) := by
  refine RdL.conv h rfl rfl (by simp) fun k y hk => ?_
  rw [List.getElem?_map] at hk
  cases hx : l[k]? with
  | none => rw [hx] at hk; cases hk
  | some x =>
    rw [hx] at hk
    cases hk
    rcases h.cases with ⟨-, rfl⟩ | ⟨b, off, -, -, -, -, hb⟩
    · simp at hx
    · exact ⟨x, rfl, rfl, (hb.ok hx).1, (hb.ok hx).2⟩
theorem FzL.oz {l : List SC} {N : Nat} (h : FzL l N) : OzL (l.map SC.sq) N := fun y hy => by
 obtain ⟨x, hx, rfl⟩ := List.mem_map.1 hy
 exact h x hx
def Sh.so (x : Sh) : So := ⟨x.key, x.note, some x.lo, some x.hi⟩
theorem so_inj {x y : Sh} (h : x.so = y.so) : x = y := by
 cases x; cases y
 simp only [Sh.so, So.mk.injEq, Option.some.injEq] at h
 simp [h]
theorem sq_same {l m : List SC} : decide ((l.map SC.sq).map SQ.so = (m.map SC.sq).map SQ.so) = decide (l.map SC.sh = m.map SC.sh) := by
 have h1 : ∀ k : List SC, (k.map SC.sq).map SQ.so = (k.map SC.sh).map Sh.so := fun k => by rw [List.map_map, List.map_map]; rfl
 rw [h1, h1]
 apply decide_eq_decide.2
 exact ⟨fun h => (List.map_inj_right (fun x y => so_inj)).1 h, fun h => by rw [h]⟩
theorem reSame {l m : List SC} {a1 a2 : Option Addr} {n1 n2 c1 c2 : Nat} {b_ : Bool} {w : World} (h1 : RdC G w a1 n1 c1 l) (h2 : RdC G w a2 n2 c2 m) (hn1 : n1 ≤ 1000000) (hn2 : n2 ≤ 1000000) (hz1 : FzL l 1099511627776) (hz2 : FzL m 1099511627776) (hb : decide (l.map SC.sh = m.map SC.sh) = b_) :
  Calls Try.prog 20 #[.slice a1 n1 c1, .slice a2 n2 c2] w fun e w' => e = .returned (.bool b_) ∧ Below w.heap.size w w' :=
 reSame_o h1.sq h2.sq hn1 hn2 hz1.oz hz2.oz (by rw [sq_same]; exact hb)
/-! ### Lists of fractions -/
def FzQ (l : List QC) (N : Nat) : Prop := ∀ x ∈ l, Fz x.q N
theorem q_len {l m : List QC} (h : l.map QC.q = m.map QC.q) : l.length = m.length := by have := congrArg List.length h; simpa using this
theorem q_next {l m : List QC} {k : Nat} {x y : QC} (hx : l[k]? = some x) (hy : m[k]? = some y) (h : (l.take k).map QC.q = (m.take k).map QC.q) (h1 : x.q = y.q) : (l.take (k + 1)).map QC.q = (m.take (k + 1)).map QC.q := by
 rw [List.take_add_one, List.take_add_one, hx, hy, List.map_append, List.map_append, h]
 simp [h1]
theorem q_ne {l m : List QC} {k : Nat} {x y : QC} (hx : l[k]? = some x) (hy : m[k]? = some y) (h : x.q ≠ y.q) : decide (l.map QC.q = m.map QC.q) = false := by
 refine decide_eq_false fun he => ?_
 have h1 : (l.map QC.q)[k]? = (m.map QC.q)[k]? := by rw [he]
 rw [List.getElem?_map, List.getElem?_map, hx, hy] at h1
 exact h (Option.some.inj h1)
set_option maxRecDepth 100000 in
set_option maxHeartbeats 4000000 in
theorem reSamePt {l m : List QC} {a1 a2 : Option Addr} {n1 n2 c1 c2 : Nat} {b_ : Bool} {w : World} (h1 : RdQ G w a1 n1 c1 l) (h2 : RdQ G w a2 n2 c2 m) (_hn1 : n1 ≤ 1000000) (_hn2 : n2 ≤ 1000000) (hz1 : FzQ l 100000000000) (hz2 : FzQ m 100000000000) (hb : decide (l.map QC.q = m.map QC.q) = b_) :
  Calls Try.prog 23 #[.slice a1 n1 c1, .slice a2 n2 c2] w fun e w' => e = .returned (.bool b_) ∧ Below w.heap.size w w' := by
 have HZl := Lib.hid hz1; have HZm := Lib.hid hz2; have HB := Lib.hid hb; clear hz1 hz2 hb
 have HL1 : Hid (RdQ G w a1 n1 c1 l) := h1
 have HL2 : Hid (RdQ G w a2 n2 c2 m) := h2
 clear h1 h2
 have M : Hid (Below w.heap.size w w) := Below.refl _ _
 go_enter Try.func23, Try.ntmps23
 go_upto_region 1 with fail
 by_cases hnn : n1 = n2
 ·
  obtain ⟨n, rfl⟩ : ∃ n, n = n1 := ⟨_, rfl⟩
  subst hnn
  go_wp2_with fail
  go_loopw [5] (fun i5 wr => ∃ (k : Nat), i5 = .int .i64 (k : Int) ∧ Hid (k ≤ n) ∧ Hid ((l.take k).map QC.q = (m.take k).map QC.q) ∧ Hid (Below w.heap.size w wr)) (fun i5 _ => n - (RowKit.intOf i5).toNat)
  case atStart =>
   exact ⟨0, rfl, (by show _ ≤ _; omega), (show List.map QC.q [] = _ from rfl), Lib.hid M.out⟩
  case round =>
   obtain ⟨w1, rfl⟩ : ∃ x, x = wr := ⟨_, rfl⟩
   clear M
   obtain ⟨k, rfl, hk, HT, M⟩ := hrel
   have hk := hk.out
   by_cases hlt : k < n
   ·
    have e1_0 : decide (k < n) = true := decide_eq_true (by omega)
    have e1_1 : decide ((k : Int) < (n : Int)) = true := decide_eq_true (by omega)
    have e1_i : (k : Int) < (n : Int) := by omega
    obtain ⟨b, off, rfl, hb_⟩ := RdL.ptr HL1.out (by omega : 0 < n)
    have hkl_ : k < l.length := by rw [HL1.out.len]; exact hlt
    obtain ⟨x_, hx_⟩ : ∃ x, l[k]? = some x := ⟨l[k], List.getElem?_eq_getElem hkl_⟩
    obtain ⟨xu0, xu1, xu2, xu3, xq⟩ := x_
    have HRx : Hid (Row w b (off + k * 4) [xu0, xu1, xu2, xu3]) := hb_.row hx_
    have HQx : Hid (FQ G w xu0 xu1 xu2 xu3 xq) := hb_.ok hx_
    have HEx := Lib.hid hx_; clear hx_ hkl_ hb_
    have HZx : Hid (Fz xq 100000000000) := HZl.out _ (List.mem_of_getElem? HEx.out)
    obtain ⟨d, off2, rfl, hb_⟩ := RdL.ptr HL2.out (by omega : 0 < n)
    have hkl_ : k < m.length := by rw [HL2.out.len]; exact hlt
    obtain ⟨y_, hx_⟩ : ∃ x, m[k]? = some x := ⟨m[k], List.getElem?_eq_getElem hkl_⟩
    obtain ⟨yu0, yu1, yu2, yu3, yq⟩ := y_
    have HRy : Hid (Row w d (off2 + k * 4) [yu0, yu1, yu2, yu3]) := hb_.row hx_
    have HQy : Hid (FQ G w yu0 yu1 yu2 yu3 yq) := hb_.ok hx_
    have HEy := Lib.hid hx_; clear hx_ hkl_ hb_
    have HZy : Hid (Fz yq 100000000000) := HZm.out _ (List.mem_of_getElem? HEy.out)
    have hw : xq ≠ yq ∨ xq = yq := by grind
    rcases hw with hw | hw
    ·
     have HZZ := Lib.hid (q_ne HEx.out HEy.out hw)
     have HDD := Lib.hid (decide_eq_false (show ¬ (some xq = some yq) from fun h_ => hw (Option.some.inj h_)))
     go_wp2_with fail
     refine nmW w1.drew fun w2 hv => ?_
     replace M := drM hv M
     refine wp_region_held_drew (S := (fun w' => w'.cell? ⟨b, off + k * 4, none⟩ = some (xu0) ∧ w'.cell? ⟨b, off + k * 4 + 1, none⟩ = some (xu1) ∧ w'.cell? ⟨b, off + k * 4 + 2, none⟩ = some (xu2) ∧ w'.cell? ⟨b, off + k * 4 + 3, none⟩ = some (xu3) ∧ w'.cell? ⟨d, off2 + k * 4, none⟩ = some (yu0) ∧ w'.cell? ⟨d, off2 + k * 4 + 1, none⟩ = some (yu1) ∧ w'.cell? ⟨d, off2 + k * 4 + 2, none⟩ = some (yu2) ∧ w'.cell? ⟨d, off2 + k * 4 + 3, none⟩ = some (yu3))) (by kernel_rfl) (by rw [← hv]; exact ((HRx.out.keep M.out).t4 ((HRy.out.keep M.out).c4))) (fun hH1 => ?_)
     rw [← hv] at hH1 ⊢
     clear hv
     refine tk at0 ?_
     refine tk at1 ?_
     refine tk at2 ?_
     refine tk at3 ?_
     refine tk at4 ?_
     refine tk at5 ?_
     refine tk at6 ?_
     refine tk at7 ?_
     refine wpAnyH_ready (rs := [8]) (by kernel_rfl) (by simp) ?_
     refine AllReadyH.cons at8 (fun K hK => ?_) AllReadyH.nil
     go_simp
     refine (rfsame_o (G := G) (o := (some xq)) (p := (some yq)) (b_ := false) (HQx.out.keep M.out) (HQy.out.keep M.out) (Oz.mono (Oz.some_ HZx.out) (by omega)) (Oz.mono (Oz.some_ HZy.out) (by omega)) HDD.out).mono ?_
     rintro e w3 ⟨rfl, hb⟩
     replace M := gnM hb M
     clear hb
     (try go_wp2_with fail)
     refine hK.out _ _ (((HRx.out.keep M.out).t4 ((HRy.out.keep M.out).c4))) (fun hH2 => ?_)
     clear hK K hH1
     (try simp only [Act.put, List.setIfInBounds_toArray, List.set_cons_zero, List.set_cons_succ])
     refine tk at9 ?_
     refine wpAnyH_done (by kernel_rfl) ?_ _
     clear hH2
     go_wp2_with fail
     obtain rfl := HZZ.out.symm.trans HB.out
     go_ret
     exact ⟨rfl, M.out⟩
    ·
     have HNX := Lib.hid (q_next HEx.out HEy.out HT.out hw)
     have HDD := Lib.hid (decide_eq_true (show some xq = some yq by rw [hw]))
     go_wp2_with fail
     refine nmW w1.drew fun w2 hv => ?_
     replace M := drM hv M
     refine wp_region_held_drew (S := (fun w' => w'.cell? ⟨b, off + k * 4, none⟩ = some (xu0) ∧ w'.cell? ⟨b, off + k * 4 + 1, none⟩ = some (xu1) ∧ w'.cell? ⟨b, off + k * 4 + 2, none⟩ = some (xu2) ∧ w'.cell? ⟨b, off + k * 4 + 3, none⟩ = some (xu3) ∧ w'.cell? ⟨d, off2 + k * 4, none⟩ = some (yu0) ∧ w'.cell? ⟨d, off2 + k * 4 + 1, none⟩ = some (yu1) ∧ w'.cell? ⟨d, off2 + k * 4 + 2, none⟩ = some (yu2) ∧ w'.cell? ⟨d, off2 + k * 4 + 3, none⟩ = some (yu3))) (by kernel_rfl) (by rw [← hv]; exact ((HRx.out.keep M.out).t4 ((HRy.out.keep M.out).c4))) (fun hH3 => ?_)
     rw [← hv] at hH3 ⊢
     clear hv
     refine tk at0 ?_
     refine tk at1 ?_
     refine tk at2 ?_
     refine tk at3 ?_
     refine tk at4 ?_
     refine tk at5 ?_
     refine tk at6 ?_
     refine tk at7 ?_
     refine wpAnyH_ready (rs := [8]) (by kernel_rfl) (by simp) ?_
     refine AllReadyH.cons at8 (fun K hK => ?_) AllReadyH.nil
     go_simp
     refine (rfsame_o (G := G) (o := (some xq)) (p := (some yq)) (b_ := true) (HQx.out.keep M.out) (HQy.out.keep M.out) (Oz.mono (Oz.some_ HZx.out) (by omega)) (Oz.mono (Oz.some_ HZy.out) (by omega)) HDD.out).mono ?_
     rintro e w3 ⟨rfl, hb⟩
     replace M := gnM hb M
     clear hb
     (try go_wp2_with fail)
     refine hK.out _ _ (((HRx.out.keep M.out).t4 ((HRy.out.keep M.out).c4))) (fun hH4 => ?_)
     clear hK K hH3
     (try simp only [Act.put, List.setIfInBounds_toArray, List.set_cons_zero, List.set_cons_succ])
     refine tk at9 ?_
     refine wpAnyH_done (by kernel_rfl) ?_ _
     clear hH4
     go_wp2_with fail
     go_roundw
     case rel => exact ⟨(k + 1), by go_num, (by show _ ≤ _; omega), HNX, Lib.hid M.out⟩
     case measure => simp [RowKit.intOf] <;> omega
   ·
    have e1_0 : decide (k < n) = false := decide_eq_false (by omega)
    have e1_1 : decide ((k : Int) < (n : Int)) = false := decide_eq_false (by omega)
    have e1_i : ¬ (k : Int) < (n : Int) := by omega
    have HZZ : Hid (decide (l.map QC.q = m.map QC.q) = true) := by
     show _ = _
     have h_ := HT.out
     rw [List.take_of_length_le (by rw [HL1.out.len]; omega), List.take_of_length_le (by rw [HL2.out.len]; omega)] at h_
     exact decide_eq_true h_
    go_wp2_with fail
    obtain rfl := HZZ.out.symm.trans HB.out
    go_ret
    exact ⟨rfl, M.out⟩
 ·
  have HZZ : Hid (decide (l.map QC.q = m.map QC.q) = false) := by
   show _ = _
   refine decide_eq_false fun he => hnn ?_
   have h_ := q_len he
   rw [HL1.out.len, HL2.out.len] at h_; exact h_
  have en1 : ((n1 : Int) == (n2 : Int)) = false := beq_false_of_ne (by omega)
  have en2 : ((n1 : Int) != (n2 : Int)) = true := bne_iff_ne.2 (by omega)
  have en3 : ¬ (n1 : Int) = (n2 : Int) := by omega
  have en4 : (n1 == n2) = false := beq_false_of_ne (by omega)
  have en5 : (n1 != n2) = true := bne_iff_ne.2 (by omega)
  have en6 : ¬ n1 = n2 := by omega
  go_wp2_with fail
  obtain rfl := HZZ.out.symm.trans HB.out
  go_ret
  exact ⟨rfl, M.out⟩
end Go.Proofs.Ytlpcblhkddmlnaa
