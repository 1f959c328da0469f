/- The figures with a key. -/
import Derived.Test.YtlpcblhkddmlnaaBase
import Derived.Test.YtlpcblhkddmlnaaBigSpec
import Derived.Test.YtlpcblhkddmlnaaBigB
import Derived.Test.YtlpcblhkddmlnaaBigC
import Derived.Test.YtlpcblhkddmlnaaBigD
import Derived.Test.YtlpcblhkddmlnaaBigK
import Derived.Test.YtlpcblhkddmlnaaBigQ
import Derived.Test.YtlpcblhkddmlnaaFd
import Derived.Test.YtlpcblhkddmlnaaHeld
import Derived.Test.YtlpcblhkddmlnaaAw
import Derived.Test.YtlpcblhkddmlnaaFz
import Derived.Test.YtlpcblhkddmlnaaFracR
import Derived.Test.YtlpcblhkddmlnaaRw
import Derived.Test.YtlpcblhkddmlnaaReA
import Derived.Test.YtlpcblhkddmlnaaReB
import Derived.Test.YtlpcblhkddmlnaaProg
import Derived.Test.YtlpcblhkddmlnaaShelf
import Derived.WalkKit
import Derived.WalkSpells
import Derived.WalkLawsBesides
import Derived.Handy
import Derived.Lib.Hide
import Derived.Lib.Strings
import Derived.Lib.Builder
import Derived.BigQuiet
import Derived.OwnWalk
import Derived.Laws.BitsLemmas
import Derived.WalkSmall
import Derived.Deep.QuietTactic
import Derived.StillTailTactics
import Derived.Maps.AppendAt
import Derived.IntWalk
import Derived.Deep.RegionHeld3
import Derived.Deep.DeepFit
import Derived.Deep.LoopGhost
import Derived.Deep.DeepCutAuto
import Derived.Lib.ItoaNum
import Derived.Lib.Repeat
import Derived.Lib.AppendIntMem
import Derived.Sort.OwnSorted
import Derived.Shelf.Strings.SlTrimAscii
import Derived.Lib.ConvBytes
import Derived.Lib.CutLaws
import Derived.Maps.Own
import Derived.Maps.Views
import Derived.Maps.OwnOps
namespace Go.Proofs.Ytlpcblhkddmlnaa
open Go.RowKit Go.Lib
variable {G : Nat}

/-- The last element with a key. -/
def lastE {α : Type} (key : α → ByteArray) : List α → ByteArray → Option α
 | [], _ => none
 | x :: r, k => match lastE key r k with
  | some y => some y
  | none => if key x = k then some x else none
theorem lastE_snoc {α : Type} (key : α → ByteArray) (l : List α) (x : α) (k : ByteArray) : lastE key (l ++ [x]) k = if key x = k then some x else lastE key l k := by
  induction l with
  | nil => simp [lastE]
  | cons y r ih =>
    rw [List.cons_append, lastE, ih, lastE]
    split <;> rename_i h
    · split at h <;> simp_all
    · split at h <;> simp_all
theorem lastE_mem {α : Type} {key : α → ByteArray} {l : List α} {k : ByteArray} {y : α} (h : lastE key l k = some y) : y ∈ l ∧ key y = k := by
  induction l with
  | nil => cases h
  | cons x r ih =>
    rw [lastE] at h
    split at h
    · rename_i z hz
      cases h
      have := ih hz
      exact ⟨by simp [this.1], this.2⟩
    · split at h
      · cases h; rename_i h1; exact ⟨by simp, h1⟩
      · cases h
theorem lastK_map {α : Type} {key : α → ByteArray} (sh : α → Sh) (hs : ∀ x, (sh x).key = key x) (l : List α) (k : ByteArray) : lastK (l.map sh) k = (lastE key l k).map sh := by
 induction l with
 | nil => rfl
 | cons x r ih =>
  rw [List.map_cons, lastK, ih, lastE, hs]
  cases lastE key r k with
  | none =>
   show (if key x = k then some (sh x) else none) = (if key x = k then some x else none).map sh
   split <;> rfl
  | some y => rfl
def mapE {α : Type} [El α] (key : α → ByteArray) (l : List α) : ByteArray → Option Value := fun k => (lastE key l k).map (fun x => .agg (El.cells x).toArray)
theorem mapE_next {α : Type} [El α] {key : α → ByteArray} {l : List α} {k : Nat} {x : α} (hx : l[k]? = some x) (kk : ByteArray) : (if key x = kk then some (Value.agg (El.cells x).toArray) else mapE key (l.take k) kk) = mapE key (l.take (k + 1)) kk := by
 unfold mapE
 rw [List.take_add_one, hx]
 show _ = (lastE key (l.take k ++ [x]) kk).map _
 rw [lastE_snoc]
 split <;> rfl
theorem mapE_none {α : Type} [El α] {key : α → ByteArray} {l : List α} {k : ByteArray} (h : lastE key l k = none) : mapE key l k = none := by unfold mapE; rw [h]; rfl
theorem mapE_some {α : Type} [El α] {key : α → ByteArray} {l : List α} {k : ByteArray} {y : α} (h : lastE key l k = some y) : mapE key l k = some (.agg (El.cells y).toArray) := by unfold mapE; rw [h]; rfl
theorem drop_at {α : Type} {l : List α} {k : Nat} {x : α} (hx : l[k]? = some x) : l.drop k = x :: l.drop (k + 1) := by
 obtain ⟨h, rfl⟩ := List.getElem?_eq_some_iff.1 hx
 exact List.drop_eq_getElem_cons h
theorem take_next {α β : Type} {f : α → β} {l : List α} {k : Nat} {x : α} (hx : l[k]? = some x) : (l.take (k + 1)).map f = (l.take k).map f ++ [f x] := by
 rw [List.take_add_one, hx, List.map_append]; rfl
theorem right_no1 {K : ByteArray → Bool} {l : List SR} {k : Nat} {x : SR} {p : List Sh} {b : Bool} (hx : l[k]? = some x) (h : rightSh K p (l.drop k) = b) (h1 : shR K x = false) : b = false := by
 rw [← h, drop_at hx, rightSh, h1]; rfl
theorem right_no2 {K : ByteArray → Bool} {l : List SR} {k : Nat} {x : SR} {p : List Sh} {b : Bool} (hx : l[k]? = some x) (h : rightSh K p (l.drop k) = b) (h1 : okAt p x.sh = false) : b = false := by
 rw [← h, drop_at hx, rightSh, h1]; simp
theorem right_go {K : ByteArray → Bool} {l : List SR} {k : Nat} {x : SR} {p : List Sh} {b : Bool} (hx : l[k]? = some x) (h : rightSh K p (l.drop k) = b) (h1 : shR K x = true) (h2 : okAt p x.sh = true) : rightSh K (p ++ [x.sh]) (l.drop (k + 1)) = b := by
 rw [← h, drop_at hx, rightSh, h1, h2]; simp
theorem okAt_low {p : List Sh} {x : Sh} (h : x.note < noteOf p) : okAt p x = false := by
 unfold okAt; rw [decide_eq_false (by omega)]; rfl
theorem okAt_none {p : List Sh} {x : Sh} (h : noteOf p ≤ x.note) (h1 : lastK p x.key = none) : okAt p x = true := by
 unfold okAt; rw [decide_eq_true h, h1]; rfl
theorem okAt_some {p : List Sh} {x y : Sh} {b : Bool} (h : noteOf p ≤ x.note) (h1 : lastK p x.key = some y) (hb : clash y x = b) : okAt p x = !b := by
 unfold okAt; rw [decide_eq_true h, h1]; simp [hb]
theorem Bx.onlyM {w w' : World} {g b n : Nat} {T : TypeId} {cs : Array Value} {f : ByteArray → Option Value} (h : Bx w g T cs) (hm : Mp w b n f) (hg : w.grownBy w' (some b)) : Bx w' g T cs := by
 refine h.only hg ?_
 rintro rfl
 obtain ⟨D, ⟨es, clock, h1, -⟩, -⟩ := hm
 unfold Bx at h
 rw [h1] at h
 cases h
theorem RdL.oks {α : Type} [El α] {w : World} {a : Option Addr} {n c : Nat} {l : List α} (h : RdL G w a n c l) : ∀ x ∈ l, El.ok G w x := by
  intro x hx
  rcases h.cases with ⟨rfl, rfl⟩ | ⟨b, off, rfl, h0, hl, hc, hb⟩
  · cases hx
  · exact hb.oks x hx
theorem shown_true {k : ByteArray} {n : Int} {q r : Rat} (h : okSh keyOk ⟨k, n, q, r⟩) : (keyOk k && (decide (0 ≤ n) && (decide (n ≤ 1099511627776) && true))) = true := by
 obtain ⟨h1, h2, h3, -⟩ := h
 rw [h1, decide_eq_true h2, decide_eq_true h3]; rfl
set_option maxRecDepth 100000 in
set_option maxHeartbeats 4000000 in
theorem reRight_x {l : List SR} {a : Option Addr} {n c : Nat} {b_ : Bool} {w : World} (h : RdR w.heap.size w a n c l) (hn : n ≤ 2000) (hs : ∀ x ∈ l, fewR x = true) (hb_ : rightL keyOk l = b_) :
  Calls Try.prog 18 #[.slice a n c] w fun e w' => e = .returned (.bool b_) ∧ Below w.heap.size w w' := by
 obtain ⟨b1, hb1⟩ : ∃ b1, rightSh keyOk [] l = b1 := ⟨_, rfl⟩
 unfold rightL at hb_
 rw [hb1, decide_eq_true (show l.length ≤ 2000 by rw [h.len]; exact hn), Bool.true_and] at hb_
 have HBB := Lib.hid hb_; have H1 : Hid (rightSh keyOk ((l.take 0).map SR.sh) (l.drop 0) = b1) := hb1; have HS := Lib.hid hs; clear hb_ hb1 hs
 have HL : Hid (RdR w.heap.size w a n c l) := h; clear h
 obtain ⟨G, hG0⟩ : ∃ G : Nat, G = w.heap.size := ⟨_, rfl⟩
 have hG : G ≤ w.heap.size := by omega
 have e0_0 : decide (2000 < n) = false := decide_eq_false (by omega)
 have e0_1 : decide ((2000 : Int) < (n : Int)) = false := decide_eq_false (by omega)
 have e0_i : ¬ (2000 : Int) < (n : Int) := by omega
 have M : Hid (Below w.heap.size w w) := Below.refl _ _
 go_enter Try.func18, Try.ntmps18
 go_upto_region 4 with fail
 have hmm := @run_makeMap Try.prog
 go_upto_region 5 with fail
 clear hmm
 refine nmW (w.alloc (.map #[] 0)) fun w1 hv => ?_
 rw [← hv]
 replace M := Lib.hid (And.intro (hv ▸ Mp.new w) (Goes.go M.out (hv ▸ below_alloc _ _ : Below w.heap.size w w1)))
 clear hv
 go_wp2_with fail
 go_loopw [3, 15] (fun i3 i15 wr => ∃ (k : Nat) (nt : Int), i3 = .int .i64 nt ∧ i15 = .int .i64 (k : Int) ∧ Hid (k ≤ n) ∧ Hid (noteOf ((l.take k).map SR.sh) = nt) ∧ Hid (rightSh keyOk ((l.take k).map SR.sh) (l.drop k) = b1) ∧ Hid (∀ x ∈ l.take k, ∃ q r, x.o = some q ∧ x.p = some r) ∧ Hid (Mp wr w.heap.size k (mapE SR.key (l.take k)) ∧ Below w.heap.size w wr)) (fun i3 i15 _ => n - (RowKit.intOf i15).toNat)
 case atStart =>
  exact ⟨0, 0, rfl, rfl, (by show _ ≤ _; omega), (show noteOf [] = _ from rfl), H1, (Lib.hid (fun x_ hx_ => by simp at hx_)), Lib.hid (And.intro (Mp.congr (M.out.1) (fun _ => rfl)) (M.out.2))⟩
 case round =>
  obtain ⟨w2, rfl⟩ : ∃ x, x = wr := ⟨_, rfl⟩
  clear M
  obtain ⟨k, nt, rfl, rfl, hk, HTN, HB, HALL, M⟩ := hrel
  have hk := hk.out
  by_cases hlt : k < n
  ·
   have e1_0 : decide (k < n) = true := decide_eq_true (by omega)
   have e1_1 : decide ((k : Int) < (n : Int)) = true := decide_eq_true (by omega)
   have e1_i : (k : Int) < (n : Int) := by omega
   obtain ⟨b, off, rfl, hb_⟩ := RdL.ptr HL.out (by omega : 0 < n)
   have hkl_ : k < l.length := by rw [HL.out.len]; exact hlt
   obtain ⟨x_, hx_⟩ : ∃ x, l[k]? = some x := ⟨l[k], List.getElem?_eq_getElem hkl_⟩
   obtain ⟨xk, xn, xu0, xu1, xu2, xu3, xa, xb, xo, xv0, xv1, xv2, xv3, xc, xd, xp⟩ := x_
   have HRx : Hid (Row w b (off + k * 10) [.string xk, .int .i64 xn, xu0, xu1, xu2, xu3, xv0, xv1, xv2, xv3]) := hb_.row hx_
   have HXx : Hid (FX w xu0 xu1 xu2 xu3 xa xb xo) := SR.fx (hb_.ok hx_)
   have HYx : Hid (FX w xv0 xv1 xv2 xv3 xc xd xp) := SR.fx2 (hb_.ok hx_)
   have HEx := Lib.hid hx_; clear hx_ hkl_ hb_
   have HFx := Lib.hid (fewR_le (HS.out _ (List.mem_of_getElem? HEx.out)))
   obtain ⟨s1, hs1⟩ : ∃ b, shR keyOk ⟨xk, xn, xu0, xu1, xu2, xu3, xa, xb, xo, xv0, xv1, xv2, xv3, xc, xd, xp⟩ = b := ⟨_, rfl⟩
   have HS1 := Lib.hid hs1; clear hs1
   obtain ⟨n1, hn1⟩ : ∃ b, decide (xn < nt) = b := ⟨_, rfl⟩
   have hxk : xk.size ≤ 9223372036854775807 := by have h_ := HFx.out.1; dsimp only at h_; omega
   refine cj4 (FX.st (HXx.out.keep (M.out.2))) fun st_xu0 st_xu1 st_xu2 st_xu3 => ?_
   refine cj4 (FX.st (HYx.out.keep (M.out.2))) fun st_xv0 st_xv1 st_xv2 st_xv3 => ?_
   refine cj10 (HRx.out.keep (M.out.2)).c10 fun r0_0 r0_1 r0_2 r0_3 r0_4 r0_5 r0_6 r0_7 r0_8 r0_9 => ?_
   go_upto_region 8 with fail
   clear st_xu0 st_xu1 st_xu2 st_xu3 st_xv0 st_xv1 st_xv2 st_xv3 r0_0 r0_1 r0_2 r0_3 r0_4 r0_5 r0_6 r0_7 r0_8 r0_9
   refine nmW (w2.alloc (.cells #[.string xk, .int .i64 xn, xu0, xu1, xu2, xu3, xv0, xv1, xv2, xv3] 37)) fun w3 hv => ?_
   rw [← hv]
   have ow0_ : w.heap.size ≤ w2.heap.size := ((M.out.2)).size
   replace M := alM hv M
   clear hv
   refine cj10 (M.out.1).d10 fun p0_0 p0_1 p0_2 p0_3 p0_4 p0_5 p0_6 p0_7 p0_8 p0_9 => ?_
   go_wp2_with fail
   clear p0_0 p0_1 p0_2 p0_3 p0_4 p0_5 p0_6 p0_7 p0_8 p0_9
   refine (reShown_x (key := xk) (note := xn) (o1 := xo) (o2 := xp) (t6 := (rightX xo xp)) (b_ := s1) (HXx.out.keep (M.out.2.2)) (HYx.out.keep (M.out.2.2)) HFx.out.2.1 HFx.out.2.2.1 rfl HS1.out).mono ?_
   rintro e w4 ⟨rfl, hb⟩
   replace M := gnM hb M
   clear hb
   cases s1 with
   | false =>
    go_wp2_with fail
    have HZZ : Hid (b1 = false) := right_no1 HEx.out HB.out HS1.out
    obtain rfl := HZZ.out.symm.trans HBB.out
    go_ret
    exact ⟨rfl, (M.out.2.2)⟩
   | true =>
    obtain ⟨⟨xq, xr, hxo_, hxp_⟩, hok_⟩ := shR_ok HS1.out
    dsimp only at hxo_ hxp_
    subst hxo_ hxp_
    have HOK1 : Hid (okSh keyOk ⟨xk, xn, xq, xr⟩) := hok_
    clear hok_
    have HQx : Hid (FQ G w xu0 xu1 xu2 xu3 xq) := by show FQ _ _ _ _ _ _ _; rw [hG0]; exact HXx.out.fq
    have HSx : Hid (FQ G w xv0 xv1 xv2 xv3 xr) := by show FQ _ _ _ _ _ _ _; rw [hG0]; exact HYx.out.fq
    have HZx1 : Hid (Fz xq 3) := HXx.out.fz HFx.out.2.2.2.1 HFx.out.2.2.2.2.1
    have HZx2 : Hid (Fz xr 3) := HYx.out.fz HFx.out.2.2.2.2.2.1 HFx.out.2.2.2.2.2.2
    cases n1 with
    | false =>
     have HNT : Hid (noteOf ((l.take k).map SR.sh) ≤ xn) := by show _ ≤ _; rw [HTN.out]; have h_ := of_decide_eq_false hn1; omega
     refine cj10 (M.out.1).d10 fun p0_0 p0_1 p0_2 p0_3 p0_4 p0_5 p0_6 p0_7 p0_8 p0_9 => ?_
     go_upto_region 10 with fail
     clear p0_0 p0_1 p0_2 p0_3 p0_4 p0_5 p0_6 p0_7 p0_8 p0_9
     rcases hll_ : lastE SR.key (l.take k) xk with _ | ⟨yk, yn, yu0, yu1, yu2, yu3, ya, yb, yo, yv0, yv1, yv2, yv3, yc, yd, yp⟩
     ·
      have HLL := Lib.hid hll_; clear hll_
      have HLK : Hid (lastK ((l.take k).map SR.sh) xk = none) := by show _ = _; rw [lastK_map (key := SR.key) SR.sh (fun _ => rfl), HLL.out]; rfl
      have HOA : Hid (okAt ((l.take k).map SR.sh) ⟨xk, xn, xq, xr⟩ = true) := okAt_none HNT.out HLK.out
      refine cj10 (M.out.1).d10 fun p0_0 p0_1 p0_2 p0_3 p0_4 p0_5 p0_6 p0_7 p0_8 p0_9 => ?_
      have z0 : w2.heap.size < w4.heap.size := (M.out.1).lt
      go_upto_region 11 with (at_lookup; go_must (refine wpList_look_none rfl rfl _ _ _ _ rfl Try.underlying66 (Try.zeroValue37 _) rfl (M.out.2.1) hxk rfl (mapE_none HLL.out) ?_))
      clear p0_0 p0_1 p0_2 p0_3 p0_4 p0_5 p0_6 p0_7 p0_8 p0_9 z0
      refine nmW (w4.alloc (.cells #[.string (⟨#[]⟩), .int .i64 0, .int .i64 0, .slice none 0 0, .int .i64 0, .slice none 0 0, .int .i64 0, .slice none 0 0, .int .i64 0, .slice none 0 0] 37)) fun w5 hv => ?_
      rw [← hv]
      have ow1_ : w2.heap.size < w4.heap.size := ((M.out.1)).lt
      replace M := alM hv M
      clear hv
      go_wp2_with fail
      refine nmW w5.drew fun w6 hv => ?_
      replace M := drM hv M
      refine wp_region_held_drew (S := (fun w' => w'.cell? ⟨w2.heap.size, 0, none⟩ = some (.string xk) ∧ w'.cell? ⟨w2.heap.size, 1, none⟩ = some (.int .i64 xn) ∧ w'.cell? ⟨w2.heap.size, 2, none⟩ = some (xu0) ∧ w'.cell? ⟨w2.heap.size, 3, none⟩ = some (xu1) ∧ w'.cell? ⟨w2.heap.size, 4, none⟩ = some (xu2) ∧ w'.cell? ⟨w2.heap.size, 5, none⟩ = some (xu3) ∧ w'.cell? ⟨w2.heap.size, 6, none⟩ = some (xv0) ∧ w'.cell? ⟨w2.heap.size, 7, none⟩ = some (xv1) ∧ w'.cell? ⟨w2.heap.size, 8, none⟩ = some (xv2) ∧ w'.cell? ⟨w2.heap.size, 9, none⟩ = some (xv3))) (by kernel_rfl) (by rw [← hv]; exact (M.out.2.1).d10) (fun hH1 => ?_)
      rw [← hv] at hH1 ⊢
      clear hv
      refine tk at0 ?_
      refine tk at1 ?_
      refine tk at2 ?_
      refine tk at3 ?_
      refine tk at4 ?_
      refine tk at5 ?_
      refine tk at6 ?_
      refine wpAnyH_ready (rs := [7]) (by kernel_rfl) (by simp) ?_
      refine AllReadyH.cons at7 (fun K hK => ?_) AllReadyH.nil
      refine wp_putM (M.out.2.2.1) Try.underlying66 (by omega) hxk rfl rfl rfl rfl (fun w7 hm_ hg_ => ?_)
      replace M := Lib.hid (And.intro hm_ (And.intro ((M.out.1).onlyM (M.out.2.2.1) hg_) (And.intro ((M.out.2.1).onlyM (M.out.2.2.1) hg_) (Below.grown (M.out.2.2.2) hg_ (M.out.2.2.2).size (fun k_ hk_ => by cases hk_; omega)))))
      clear hm_ hg_
      refine hK.out _ _ ((M.out.2.2.1).d10) (fun hH2 => ?_)
      clear hK K hH1
      (try simp only [Act.put])
      refine wpAnyH_done (by kernel_rfl) ?_ _
      clear hH2
      go_wp2_with fail
      go_roundw
      case rel => exact ⟨(k + 1), xn, by go_num, by go_num, (by show _ ≤ _; omega), (Lib.hid (by rw [take_next HEx.out, noteOf_snoc]; rfl)), (Lib.hid (by rw [take_next HEx.out]; exact right_go HEx.out HB.out HS1.out (HOA.out.trans rfl))), (Lib.hid (fun x_ hx_ => by rw [List.take_add_one, HEx.out] at hx_; rcases List.mem_append.1 hx_ with h_ | h_; exact HALL.out _ h_; simp at h_; subst h_; exact ⟨_, _, rfl, rfl⟩)), Lib.hid (And.intro (Mp.congr (M.out.1) (fun kk_ => mapE_next (key := SR.key) HEx.out kk_)) (M.out.2.2.2))⟩
      case measure => simp [RowKit.intOf] <;> omega
     ·
      have HLL := Lib.hid hll_
      have hm_ := (lastE_mem hll_).1
      have hk_ : yk = xk := (lastE_mem hll_).2
      subst hk_
      clear hll_
      have hml_ := List.mem_of_mem_take hm_
      obtain ⟨yq, yr, rfl, rfl⟩ : ∃ q r, yo = some q ∧ yp = some r := HALL.out _ hm_
      have hf_ := fewR_le (HS.out _ hml_)
      have hy1_ := SR.fx (HL.out.oks _ hml_)
      have hy2_ := SR.fx2 (HL.out.oks _ hml_)
      have HQy : Hid (FQ G w yu0 yu1 yu2 yu3 yq) := by show FQ _ _ _ _ _ _ _; rw [hG0]; exact hy1_.fq
      have HSy : Hid (FQ G w yv0 yv1 yv2 yv3 yr) := by show FQ _ _ _ _ _ _ _; rw [hG0]; exact hy2_.fq
      have HZy1 : Hid (Fz yq 3) := hy1_.fz hf_.2.2.2.1 hf_.2.2.2.2.1
      have HZy2 : Hid (Fz yr 3) := hy2_.fz hf_.2.2.2.2.2.1 hf_.2.2.2.2.2.2
      clear hf_ hy1_ hy2_
      clear hm_ hml_
      have HLK : Hid (lastK ((l.take k).map SR.sh) yk = some ⟨yk, yn, yq, yr⟩) := by show _ = _; rw [lastK_map (key := SR.key) SR.sh (fun _ => rfl), HLL.out]; rfl
      obtain ⟨n2, hn2⟩ : ∃ b, decide (yn = xn) = b := ⟨_, rfl⟩
      obtain ⟨n3, hn3⟩ : ∃ b, (decide (yq = xq) && decide (yr = xr)) = b := ⟨_, rfl⟩
      have HOA : Hid (okAt ((l.take k).map SR.sh) ⟨yk, xn, xq, xr⟩ = !(n2 || n3)) := okAt_some HNT.out HLK.out (by show (decide (yn = xn) || _) = _; rw [hn2, hn3])
      have HN3 := Lib.hid hn3; clear hn3
      have hn2b : (yn == xn) = n2 := by rw [← hn2]; exact bqd yn xn
      refine cj10 (M.out.1).d10 fun p0_0 p0_1 p0_2 p0_3 p0_4 p0_5 p0_6 p0_7 p0_8 p0_9 => ?_
      have z0 : w2.heap.size < w4.heap.size := (M.out.1).lt
      refine cj4 (TQ.st (HQy.out.keep (M.out.2.2))) fun st_yu0 st_yu1 st_yu2 st_yu3 => ?_
      refine cj4 (TQ.st (HSy.out.keep (M.out.2.2))) fun st_yv0 st_yv1 st_yv2 st_yv3 => ?_
      go_upto_region 11 with (at_lookup; go_must (refine wpList_look_some rfl rfl _ _ _ _ rfl Try.underlying66 (Try.zeroValue37 _) rfl (M.out.2.1) hxk rfl (v := .agg #[.string yk, .int .i64 yn, yu0, yu1, yu2, yu3, yv0, yv1, yv2, yv3]) (mapE_some HLL.out) ?_))
      clear p0_0 p0_1 p0_2 p0_3 p0_4 p0_5 p0_6 p0_7 p0_8 p0_9 z0 st_yu0 st_yu1 st_yu2 st_yu3 st_yv0 st_yv1 st_yv2 st_yv3
      refine nmW (w4.alloc (.cells #[.string yk, .int .i64 yn, yu0, yu1, yu2, yu3, yv0, yv1, yv2, yv3] 37)) fun w5 hv => ?_
      rw [← hv]
      have ow1_ : w2.heap.size < w4.heap.size := ((M.out.1)).lt
      replace M := alM hv M
      clear hv
      cases n2 with
      | false =>
       refine cj10 (M.out.1).d10 fun p1_0 p1_1 p1_2 p1_3 p1_4 p1_5 p1_6 p1_7 p1_8 p1_9 => ?_
       refine cj10 (M.out.2.1).d10 fun p0_0 p0_1 p0_2 p0_3 p0_4 p0_5 p0_6 p0_7 p0_8 p0_9 => ?_
       go_wp2_with fail
       clear p1_0 p1_1 p1_2 p1_3 p1_4 p1_5 p1_6 p1_7 p1_8 p1_9 p0_0 p0_1 p0_2 p0_3 p0_4 p0_5 p0_6 p0_7 p0_8 p0_9
       refine (spanSame_b (G := G) (p := yq) (q := yr) (r := xq) (s := xr) (b_ := n3) (HQy.out.keep (M.out.2.2.2)) (HSy.out.keep (M.out.2.2.2)) (HQx.out.keep (M.out.2.2.2)) (HSx.out.keep (M.out.2.2.2)) (Fz.mono HZy1.out (by omega)) (Fz.mono HZy2.out (by omega)) (Fz.mono HZx1.out (by omega)) (Fz.mono HZx2.out (by omega)) HN3.out).mono ?_
       rintro e w6 ⟨rfl, hb⟩
       replace M := gnM hb M
       clear hb
       cases n3 with
       | false =>
        go_wp2_with fail
        refine nmW w6.drew fun w7 hv => ?_
        replace M := drM hv M
        refine wp_region_held_drew (S := (fun w' => w'.cell? ⟨w2.heap.size, 0, none⟩ = some (.string yk) ∧ w'.cell? ⟨w2.heap.size, 1, none⟩ = some (.int .i64 xn) ∧ w'.cell? ⟨w2.heap.size, 2, none⟩ = some (xu0) ∧ w'.cell? ⟨w2.heap.size, 3, none⟩ = some (xu1) ∧ w'.cell? ⟨w2.heap.size, 4, none⟩ = some (xu2) ∧ w'.cell? ⟨w2.heap.size, 5, none⟩ = some (xu3) ∧ w'.cell? ⟨w2.heap.size, 6, none⟩ = some (xv0) ∧ w'.cell? ⟨w2.heap.size, 7, none⟩ = some (xv1) ∧ w'.cell? ⟨w2.heap.size, 8, none⟩ = some (xv2) ∧ w'.cell? ⟨w2.heap.size, 9, none⟩ = some (xv3))) (by kernel_rfl) (by rw [← hv]; exact (M.out.2.1).d10) (fun hH3 => ?_)
        rw [← hv] at hH3 ⊢
        clear hv
        refine tk at0 ?_
        refine tk at1 ?_
        refine tk at2 ?_
        refine tk at3 ?_
        refine tk at4 ?_
        refine tk at5 ?_
        refine tk at6 ?_
        refine wpAnyH_ready (rs := [7]) (by kernel_rfl) (by simp) ?_
        refine AllReadyH.cons at7 (fun K hK => ?_) AllReadyH.nil
        refine wp_putM (M.out.2.2.1) Try.underlying66 (by omega) hxk rfl rfl rfl rfl (fun w8 hm_ hg_ => ?_)
        replace M := Lib.hid (And.intro hm_ (And.intro ((M.out.1).onlyM (M.out.2.2.1) hg_) (And.intro ((M.out.2.1).onlyM (M.out.2.2.1) hg_) (Below.grown (M.out.2.2.2) hg_ (M.out.2.2.2).size (fun k_ hk_ => by cases hk_; omega)))))
        clear hm_ hg_
        refine hK.out _ _ ((M.out.2.2.1).d10) (fun hH4 => ?_)
        clear hK K hH3
        (try simp only [Act.put])
        refine wpAnyH_done (by kernel_rfl) ?_ _
        clear hH4
        go_wp2_with fail
        go_roundw
        case rel => exact ⟨(k + 1), xn, by go_num, by go_num, (by show _ ≤ _; omega), (Lib.hid (by rw [take_next HEx.out, noteOf_snoc]; rfl)), (Lib.hid (by rw [take_next HEx.out]; exact right_go HEx.out HB.out HS1.out (HOA.out.trans rfl))), (Lib.hid (fun x_ hx_ => by rw [List.take_add_one, HEx.out] at hx_; rcases List.mem_append.1 hx_ with h_ | h_; exact HALL.out _ h_; simp at h_; subst h_; exact ⟨_, _, rfl, rfl⟩)), Lib.hid (And.intro (Mp.congr (M.out.1) (fun kk_ => mapE_next (key := SR.key) HEx.out kk_)) (M.out.2.2.2))⟩
        case measure => simp [RowKit.intOf] <;> omega
       | true =>
        go_wp2_with fail
        have HZZ : Hid (b1 = false) := right_no2 HEx.out HB.out (HOA.out.trans (by rfl))
        obtain rfl := HZZ.out.symm.trans HBB.out
        go_ret
        exact ⟨rfl, (M.out.2.2.2)⟩
      | true =>
       refine cj10 (M.out.1).d10 fun p1_0 p1_1 p1_2 p1_3 p1_4 p1_5 p1_6 p1_7 p1_8 p1_9 => ?_
       refine cj10 (M.out.2.1).d10 fun p0_0 p0_1 p0_2 p0_3 p0_4 p0_5 p0_6 p0_7 p0_8 p0_9 => ?_
       go_wp2_with fail
       clear p1_0 p1_1 p1_2 p1_3 p1_4 p1_5 p1_6 p1_7 p1_8 p1_9 p0_0 p0_1 p0_2 p0_3 p0_4 p0_5 p0_6 p0_7 p0_8 p0_9
       have HZZ : Hid (b1 = false) := right_no2 HEx.out HB.out (HOA.out.trans (by rfl))
       obtain rfl := HZZ.out.symm.trans HBB.out
       go_ret
       exact ⟨rfl, (M.out.2.2.2)⟩
    | true =>
     refine cj10 (M.out.1).d10 fun p0_0 p0_1 p0_2 p0_3 p0_4 p0_5 p0_6 p0_7 p0_8 p0_9 => ?_
     go_wp2_with fail
     clear p0_0 p0_1 p0_2 p0_3 p0_4 p0_5 p0_6 p0_7 p0_8 p0_9
     have HZZ : Hid (b1 = false) := right_no2 HEx.out HB.out (okAt_low (by show xn < noteOf _; rw [HTN.out]; exact of_decide_eq_true hn1))
     obtain rfl := HZZ.out.symm.trans HBB.out
     go_ret
     exact ⟨rfl, (M.out.2.2)⟩
  ·
   have e1_0 : decide (k < n) = false := decide_eq_false (by omega)
   have e1_1 : decide ((k : Int) < (n : Int)) = false := decide_eq_false (by omega)
   have e1_i : ¬ (k : Int) < (n : Int) := by omega
   have HZZ : Hid (b1 = true) := by show _ = _; rw [← HB.out, List.drop_eq_nil_of_le (by rw [HL.out.len]; omega)]; rfl
   go_wp2_with fail
   obtain rfl := HZZ.out.symm.trans HBB.out
   go_ret
   exact ⟨rfl, (M.out.2)⟩
set_option maxRecDepth 100000 in
set_option maxHeartbeats 4000000 in
theorem reRight_c {l : List SC} {a : Option Addr} {n c : Nat} {w : World} (_hG : G ≤ w.heap.size) (h : RdC G w a n c l) (ok : OkL keyOk (l.map SC.sh)) (hz : FzL l 100000000) :
  Calls Try.prog 18 #[.slice a n c] w fun e w' => e = .returned (.bool true) ∧ Below w.heap.size w w' := by
 have hn : n ≤ 2000 := by rw [← h.len]; have h_ := ok.len; rw [List.length_map] at h_; exact h_
 have HOK := Lib.hid ok; have HZ := Lib.hid hz; clear ok hz
 have HL : Hid (RdC G w a n c l) := h; clear h
 have e0_0 : decide (2000 < n) = false := decide_eq_false (by omega)
 have e0_1 : decide ((2000 : Int) < (n : Int)) = false := decide_eq_false (by omega)
 have e0_i : ¬ (2000 : Int) < (n : Int) := by omega
 have M : Hid (Below w.heap.size w w) := Below.refl _ _
 go_enter Try.func18, Try.ntmps18
 go_upto_region 4 with fail
 have hmm := @run_makeMap Try.prog
 go_upto_region 5 with fail
 clear hmm
 refine nmW (w.alloc (.map #[] 0)) fun w1 hv => ?_
 rw [← hv]
 replace M := Lib.hid (And.intro (hv ▸ Mp.new w) (Goes.go M.out (hv ▸ below_alloc _ _ : Below w.heap.size w w1)))
 clear hv
 go_wp2_with fail
 go_loopw [3, 15] (fun i3 i15 wr => ∃ (k : Nat) (nt : Int), i3 = .int .i64 nt ∧ i15 = .int .i64 (k : Int) ∧ Hid (k ≤ n) ∧ Hid (noteOf ((l.take k).map SC.sh) = nt) ∧ Hid (Mp wr w.heap.size k (mapE SC.key (l.take k)) ∧ Below w.heap.size w wr)) (fun i3 i15 _ => n - (RowKit.intOf i15).toNat)
 case atStart =>
  exact ⟨0, 0, rfl, rfl, (by show _ ≤ _; omega), (show noteOf [] = _ from rfl), Lib.hid (And.intro (Mp.congr (M.out.1) (fun _ => rfl)) (M.out.2))⟩
 case round =>
  obtain ⟨w2, rfl⟩ : ∃ x, x = wr := ⟨_, rfl⟩
  clear M
  obtain ⟨k, nt, rfl, rfl, hk, HTN, M⟩ := hrel
  have hk := hk.out
  by_cases hlt : k < n
  ·
   have e1_0 : decide (k < n) = true := decide_eq_true (by omega)
   have e1_1 : decide ((k : Int) < (n : Int)) = true := decide_eq_true (by omega)
   have e1_i : (k : Int) < (n : Int) := by omega
   obtain ⟨b, off, rfl, hb_⟩ := RdL.ptr HL.out (by omega : 0 < n)
   have hkl_ : k < l.length := by rw [HL.out.len]; exact hlt
   obtain ⟨x_, hx_⟩ : ∃ x, l[k]? = some x := ⟨l[k], List.getElem?_eq_getElem hkl_⟩
   obtain ⟨xk, xn, xu0, xu1, xu2, xu3, xq, xv0, xv1, xv2, xv3, xr⟩ := x_
   have HRx : Hid (Row w b (off + k * 10) [.string xk, .int .i64 xn, xu0, xu1, xu2, xu3, xv0, xv1, xv2, xv3]) := hb_.row hx_
   have HQx : Hid (FQ G w xu0 xu1 xu2 xu3 xq) := (hb_.ok hx_).1
   have HSx : Hid (FQ G w xv0 xv1 xv2 xv3 xr) := (hb_.ok hx_).2
   have HEx := Lib.hid hx_; clear hx_ hkl_ hb_
   have hok_ : okSh keyOk ⟨xk, xn, xq, xr⟩ := HOK.out.ok _ (List.mem_map.2 ⟨_, List.mem_of_getElem? HEx.out, rfl⟩)
   have HOK1 := Lib.hid hok_
   have hz_ := HZ.out _ (List.mem_of_getElem? HEx.out)
   have HZx1 : Hid (Fz xq 100000000) := hz_.1
   have HZx2 : Hid (Fz xr 100000000) := hz_.2
   have hxk : xk.size ≤ 9223372036854775807 := by have h_ := hok_.1; simp only [keyOk, Bool.and_eq_true, decide_eq_true_eq] at h_; omega
   clear hok_ hz_
   have hat_ := HOK.out.at_ k ⟨xk, xn, xq, xr⟩ (by rw [List.getElem?_map, HEx.out]; rfl)
   rw [← List.map_take] at hat_
   have HNT : Hid (noteOf ((l.take k).map SC.sh) ≤ xn) := by simp only [okAt, Bool.and_eq_true, decide_eq_true_eq] at hat_; exact hat_.1
   clear hat_
   have hnt_ : nt ≤ xn := by have h_ := HNT.out; rw [HTN.out] at h_; exact h_
   have e7 : decide (xn < nt) = false := decide_eq_false (by omega)
   have e7i : ¬ xn < nt := by omega
   refine cj4 (TQ.st (HQx.out.keep (M.out.2))) fun st_xu0 st_xu1 st_xu2 st_xu3 => ?_
   refine cj4 (TQ.st (HSx.out.keep (M.out.2))) fun st_xv0 st_xv1 st_xv2 st_xv3 => ?_
   refine cj10 (HRx.out.keep (M.out.2)).c10 fun r0_0 r0_1 r0_2 r0_3 r0_4 r0_5 r0_6 r0_7 r0_8 r0_9 => ?_
   go_upto_region 8 with fail
   clear st_xu0 st_xu1 st_xu2 st_xu3 st_xv0 st_xv1 st_xv2 st_xv3 r0_0 r0_1 r0_2 r0_3 r0_4 r0_5 r0_6 r0_7 r0_8 r0_9
   refine nmW (w2.alloc (.cells #[.string xk, .int .i64 xn, xu0, xu1, xu2, xu3, xv0, xv1, xv2, xv3] 37)) fun w3 hv => ?_
   rw [← hv]
   have ow0_ : w.heap.size ≤ w2.heap.size := ((M.out.2)).size
   replace M := alM hv M
   clear hv
   refine cj10 (M.out.1).d10 fun p0_0 p0_1 p0_2 p0_3 p0_4 p0_5 p0_6 p0_7 p0_8 p0_9 => ?_
   go_wp2_with fail
   clear p0_0 p0_1 p0_2 p0_3 p0_4 p0_5 p0_6 p0_7 p0_8 p0_9
   refine (reShown_q (G := G) (key := xk) (note := xn) (q := xq) (r := xr) (t6 := true) (b_ := true) (HQx.out.keep (M.out.2.2)) (HSx.out.keep (M.out.2.2)) (Fz.mono HZx1.out (by omega)) (Fz.mono HZx2.out (by omega)) (decide_eq_true HOK1.out.2.2.2) (shown_true HOK1.out)).mono ?_
   rintro e w4 ⟨rfl, hb⟩
   replace M := gnM hb M
   clear hb
   refine cj10 (M.out.1).d10 fun p0_0 p0_1 p0_2 p0_3 p0_4 p0_5 p0_6 p0_7 p0_8 p0_9 => ?_
   go_upto_region 10 with fail
   clear p0_0 p0_1 p0_2 p0_3 p0_4 p0_5 p0_6 p0_7 p0_8 p0_9
   rcases hll_ : lastE SC.key (l.take k) xk with _ | ⟨yk, yn, yu0, yu1, yu2, yu3, yq, yv0, yv1, yv2, yv3, yr⟩
   ·
    have HLL := Lib.hid hll_; clear hll_
    have HLK : Hid (lastK ((l.take k).map SC.sh) xk = none) := by show _ = _; rw [lastK_map (key := SC.key) SC.sh (fun _ => rfl), HLL.out]; rfl
    have HOA : Hid (okAt ((l.take k).map SC.sh) ⟨xk, xn, xq, xr⟩ = true) := okAt_none HNT.out HLK.out
    refine cj10 (M.out.1).d10 fun p0_0 p0_1 p0_2 p0_3 p0_4 p0_5 p0_6 p0_7 p0_8 p0_9 => ?_
    have z0 : w2.heap.size < w4.heap.size := (M.out.1).lt
    go_upto_region 11 with (at_lookup; go_must (refine wpList_look_none rfl rfl _ _ _ _ rfl Try.underlying66 (Try.zeroValue37 _) rfl (M.out.2.1) hxk rfl (mapE_none HLL.out) ?_))
    clear p0_0 p0_1 p0_2 p0_3 p0_4 p0_5 p0_6 p0_7 p0_8 p0_9 z0
    refine nmW (w4.alloc (.cells #[.string (⟨#[]⟩), .int .i64 0, .int .i64 0, .slice none 0 0, .int .i64 0, .slice none 0 0, .int .i64 0, .slice none 0 0, .int .i64 0, .slice none 0 0] 37)) fun w5 hv => ?_
    rw [← hv]
    have ow1_ : w2.heap.size < w4.heap.size := ((M.out.1)).lt
    replace M := alM hv M
    clear hv
    go_wp2_with fail
    refine nmW w5.drew fun w6 hv => ?_
    replace M := drM hv M
    refine wp_region_held_drew (S := (fun w' => w'.cell? ⟨w2.heap.size, 0, none⟩ = some (.string xk) ∧ w'.cell? ⟨w2.heap.size, 1, none⟩ = some (.int .i64 xn) ∧ w'.cell? ⟨w2.heap.size, 2, none⟩ = some (xu0) ∧ w'.cell? ⟨w2.heap.size, 3, none⟩ = some (xu1) ∧ w'.cell? ⟨w2.heap.size, 4, none⟩ = some (xu2) ∧ w'.cell? ⟨w2.heap.size, 5, none⟩ = some (xu3) ∧ w'.cell? ⟨w2.heap.size, 6, none⟩ = some (xv0) ∧ w'.cell? ⟨w2.heap.size, 7, none⟩ = some (xv1) ∧ w'.cell? ⟨w2.heap.size, 8, none⟩ = some (xv2) ∧ w'.cell? ⟨w2.heap.size, 9, none⟩ = some (xv3))) (by kernel_rfl) (by rw [← hv]; exact (M.out.2.1).d10) (fun hH1 => ?_)
    rw [← hv] at hH1 ⊢
    clear hv
    refine tk at0 ?_
    refine tk at1 ?_
    refine tk at2 ?_
    refine tk at3 ?_
    refine tk at4 ?_
    refine tk at5 ?_
    refine tk at6 ?_
    refine wpAnyH_ready (rs := [7]) (by kernel_rfl) (by simp) ?_
    refine AllReadyH.cons at7 (fun K hK => ?_) AllReadyH.nil
    refine wp_putM (M.out.2.2.1) Try.underlying66 (by omega) hxk rfl rfl rfl rfl (fun w7 hm_ hg_ => ?_)
    replace M := Lib.hid (And.intro hm_ (And.intro ((M.out.1).onlyM (M.out.2.2.1) hg_) (And.intro ((M.out.2.1).onlyM (M.out.2.2.1) hg_) (Below.grown (M.out.2.2.2) hg_ (M.out.2.2.2).size (fun k_ hk_ => by cases hk_; omega)))))
    clear hm_ hg_
    refine hK.out _ _ ((M.out.2.2.1).d10) (fun hH2 => ?_)
    clear hK K hH1
    (try simp only [Act.put])
    refine wpAnyH_done (by kernel_rfl) ?_ _
    clear hH2
    go_wp2_with fail
    go_roundw
    case rel => exact ⟨(k + 1), xn, by go_num, by go_num, (by show _ ≤ _; omega), (Lib.hid (by rw [take_next HEx.out, noteOf_snoc]; rfl)), Lib.hid (And.intro (Mp.congr (M.out.1) (fun kk_ => mapE_next (key := SC.key) HEx.out kk_)) (M.out.2.2.2))⟩
    case measure => simp [RowKit.intOf] <;> omega
   ·
    have HLL := Lib.hid hll_
    have hm_ := (lastE_mem hll_).1
    have hk_ : yk = xk := (lastE_mem hll_).2
    subst hk_
    clear hll_
    have hml_ := List.mem_of_mem_take hm_
    have hy_ := HL.out.oks _ hml_
    have HQy : Hid (FQ G w yu0 yu1 yu2 yu3 yq) := hy_.1
    have HSy : Hid (FQ G w yv0 yv1 yv2 yv3 yr) := hy_.2
    have hz_ := HZ.out _ hml_
    have HZy1 : Hid (Fz yq 100000000) := hz_.1
    have HZy2 : Hid (Fz yr 100000000) := hz_.2
    clear hy_ hz_
    clear hm_ hml_
    have HLK : Hid (lastK ((l.take k).map SC.sh) yk = some ⟨yk, yn, yq, yr⟩) := by show _ = _; rw [lastK_map (key := SC.key) SC.sh (fun _ => rfl), HLL.out]; rfl
    have hat_ := HOK.out.at_ k ⟨yk, xn, xq, xr⟩ (by rw [List.getElem?_map, HEx.out]; rfl)
    rw [← List.map_take, okAt_some HNT.out HLK.out rfl] at hat_
    have hcl_ : clash ⟨yk, yn, yq, yr⟩ ⟨yk, xn, xq, xr⟩ = false := by simpa using hat_
    clear hat_
    simp only [clash, Bool.or_eq_false_iff] at hcl_
    have hn2 := hcl_.1
    have HN3 := Lib.hid hcl_.2
    clear hcl_
    have hn2b : (yn == xn) = false := by rw [← hn2]; exact bqd yn xn
    have hn2c : ¬ yn = xn := of_decide_eq_false hn2
    refine cj10 (M.out.1).d10 fun p0_0 p0_1 p0_2 p0_3 p0_4 p0_5 p0_6 p0_7 p0_8 p0_9 => ?_
    have z0 : w2.heap.size < w4.heap.size := (M.out.1).lt
    refine cj4 (TQ.st (HQy.out.keep (M.out.2.2))) fun st_yu0 st_yu1 st_yu2 st_yu3 => ?_
    refine cj4 (TQ.st (HSy.out.keep (M.out.2.2))) fun st_yv0 st_yv1 st_yv2 st_yv3 => ?_
    go_upto_region 11 with (at_lookup; go_must (refine wpList_look_some rfl rfl _ _ _ _ rfl Try.underlying66 (Try.zeroValue37 _) rfl (M.out.2.1) hxk rfl (v := .agg #[.string yk, .int .i64 yn, yu0, yu1, yu2, yu3, yv0, yv1, yv2, yv3]) (mapE_some HLL.out) ?_))
    clear p0_0 p0_1 p0_2 p0_3 p0_4 p0_5 p0_6 p0_7 p0_8 p0_9 z0 st_yu0 st_yu1 st_yu2 st_yu3 st_yv0 st_yv1 st_yv2 st_yv3
    refine nmW (w4.alloc (.cells #[.string yk, .int .i64 yn, yu0, yu1, yu2, yu3, yv0, yv1, yv2, yv3] 37)) fun w5 hv => ?_
    rw [← hv]
    have ow1_ : w2.heap.size < w4.heap.size := ((M.out.1)).lt
    replace M := alM hv M
    clear hv
    refine cj10 (M.out.1).d10 fun p1_0 p1_1 p1_2 p1_3 p1_4 p1_5 p1_6 p1_7 p1_8 p1_9 => ?_
    refine cj10 (M.out.2.1).d10 fun p0_0 p0_1 p0_2 p0_3 p0_4 p0_5 p0_6 p0_7 p0_8 p0_9 => ?_
    go_wp2_with fail
    clear p1_0 p1_1 p1_2 p1_3 p1_4 p1_5 p1_6 p1_7 p1_8 p1_9 p0_0 p0_1 p0_2 p0_3 p0_4 p0_5 p0_6 p0_7 p0_8 p0_9
    refine (spanSame_b (G := G) (p := yq) (q := yr) (r := xq) (s := xr) (b_ := false) (HQy.out.keep (M.out.2.2.2)) (HSy.out.keep (M.out.2.2.2)) (HQx.out.keep (M.out.2.2.2)) (HSx.out.keep (M.out.2.2.2)) (Fz.mono HZy1.out (by omega)) (Fz.mono HZy2.out (by omega)) (Fz.mono HZx1.out (by omega)) (Fz.mono HZx2.out (by omega)) HN3.out).mono ?_
    rintro e w6 ⟨rfl, hb⟩
    replace M := gnM hb M
    clear hb
    go_wp2_with fail
    refine nmW w6.drew fun w7 hv => ?_
    replace M := drM hv M
    refine wp_region_held_drew (S := (fun w' => w'.cell? ⟨w2.heap.size, 0, none⟩ = some (.string yk) ∧ w'.cell? ⟨w2.heap.size, 1, none⟩ = some (.int .i64 xn) ∧ w'.cell? ⟨w2.heap.size, 2, none⟩ = some (xu0) ∧ w'.cell? ⟨w2.heap.size, 3, none⟩ = some (xu1) ∧ w'.cell? ⟨w2.heap.size, 4, none⟩ = some (xu2) ∧ w'.cell? ⟨w2.heap.size, 5, none⟩ = some (xu3) ∧ w'.cell? ⟨w2.heap.size, 6, none⟩ = some (xv0) ∧ w'.cell? ⟨w2.heap.size, 7, none⟩ = some (xv1) ∧ w'.cell? ⟨w2.heap.size, 8, none⟩ = some (xv2) ∧ w'.cell? ⟨w2.heap.size, 9, none⟩ = some (xv3))) (by kernel_rfl) (by rw [← hv]; exact (M.out.2.1).d10) (fun hH3 => ?_)
    rw [← hv] at hH3 ⊢
    clear hv
    refine tk at0 ?_
    refine tk at1 ?_
    refine tk at2 ?_
    refine tk at3 ?_
    refine tk at4 ?_
    refine tk at5 ?_
    refine tk at6 ?_
    refine wpAnyH_ready (rs := [7]) (by kernel_rfl) (by simp) ?_
    refine AllReadyH.cons at7 (fun K hK => ?_) AllReadyH.nil
    refine wp_putM (M.out.2.2.1) Try.underlying66 (by omega) hxk rfl rfl rfl rfl (fun w8 hm_ hg_ => ?_)
    replace M := Lib.hid (And.intro hm_ (And.intro ((M.out.1).onlyM (M.out.2.2.1) hg_) (And.intro ((M.out.2.1).onlyM (M.out.2.2.1) hg_) (Below.grown (M.out.2.2.2) hg_ (M.out.2.2.2).size (fun k_ hk_ => by cases hk_; omega)))))
    clear hm_ hg_
    refine hK.out _ _ ((M.out.2.2.1).d10) (fun hH4 => ?_)
    clear hK K hH3
    (try simp only [Act.put])
    refine wpAnyH_done (by kernel_rfl) ?_ _
    clear hH4
    go_wp2_with fail
    go_roundw
    case rel => exact ⟨(k + 1), xn, by go_num, by go_num, (by show _ ≤ _; omega), (Lib.hid (by rw [take_next HEx.out, noteOf_snoc]; rfl)), Lib.hid (And.intro (Mp.congr (M.out.1) (fun kk_ => mapE_next (key := SC.key) HEx.out kk_)) (M.out.2.2.2))⟩
    case measure => simp [RowKit.intOf] <;> omega
  ·
   have e1_0 : decide (k < n) = false := decide_eq_false (by omega)
   have e1_1 : decide ((k : Int) < (n : Int)) = false := decide_eq_false (by omega)
   have e1_i : ¬ (k : Int) < (n : Int) := by omega
   go_wp2_with fail
   go_ret
   exact ⟨rfl, (M.out.2)⟩
end Go.Proofs.Ytlpcblhkddmlnaa
namespace Go.Proofs.Ytlpcblhkddmlnaa
open Go.RowKit Go.Lib
variable {G : Nat}

theorem elemSh : ElemT Try.prog 22 37 (.agg #[.string ⟨#[]⟩, .int .i64 0, .int .i64 0, .slice none 0 0, .int .i64 0, .slice none 0 0, .int .i64 0, .slice none 0 0, .int .i64 0, .slice none 0 0]) 10 152 := ⟨Try.underlying22, by kernel_rfl, rfl, by decide⟩
theorem OwV.no {α : Type} [El α] {w : World} {B : Nat} {v : Value} {l : List α} (h : OwV G B w v l) : v.ownBlock ≠ some w.heap.size := by
  rcases own_block h.own with h2 | ⟨g', cur, h2, -, h3⟩
  · rw [h2]; simp
  · rw [h2]; have := h3.lt; simp; omega
theorem OwV.far_no {α : Type} [El α] {w w' : World} {B g : Nat} {v : Value} {l : List α} {T' : TypeId} {ys : Array Value} (h : OwV G B w v l) (k : Bx w g T' ys) (hn : v.ownBlock ≠ some g) (hT : (El.deep α).contains T' = false) (hG : G ≤ g) (hg : w.grownBy w' (some g)) : OwV G B w' v l := by
  refine ⟨h.leG, h.own.kept hg ?_, fun x hx => El.far (h.oks x hx) k hT hG hg⟩
  rcases own_block h.own with h2 | ⟨g', cur, h2, -, h3⟩
  · exact .inl h2
  · exact .inr hn
theorem tl_eq (x y : ByteArray) : (x.toList == y.toList) = decide (x = y) := by
  rw [Lib.toList_data, Lib.toList_data]
  by_cases h : x = y
  · subst h; simp
  · rw [decide_eq_false h]
    refine beq_false_of_ne fun he => h ?_
    exact ByteArray.ext (Array.toList_inj.1 he)
def allF (l : List Sh) (key : ByteArray) : List Sh := l.filter (fun x => decide (x.key = key))
theorem all_next {l : List SC} {k : Nat} {x : SC} {key : ByteArray} (hx : l[k]? = some x) : allF ((l.take (k + 1)).map SC.sh) key = allF ((l.take k).map SC.sh) key ++ (if x.key = key then [x.sh] else []) := by
  unfold allF
  rw [take_next hx, List.filter_append]
  congr 1
  rw [List.filter_cons]
  show (if decide (x.key = key) = true then _ else _) = _
  by_cases h : x.key = key
  · rw [decide_eq_true h, if_pos rfl, if_pos h]; rfl
  · rw [decide_eq_false h, if_neg (by simp), if_neg h]; rfl
theorem FzL.of_map {l m : List SC} {N : Nat} (h : FzL l N) (hm : ∀ y ∈ m.map SC.sh, y ∈ l.map SC.sh) : FzL m N := fun y hy => by
 obtain ⟨x, hx, he⟩ := List.mem_map.1 (hm _ (List.mem_map.2 ⟨y, hy, rfl⟩))
 have h1 : x.q = y.q := congrArg Sh.lo he
 have h2 : x.r = y.r := congrArg Sh.hi he
 have := h x hx
 rw [h1, h2] at this
 exact this
theorem FzL.all {l m : List SC} {N : Nat} {key : ByteArray} (h : FzL l N) (hm : m.map SC.sh = allF (l.map SC.sh) key) : FzL m N := h.of_map fun y hy => by
 rw [hm] at hy; exact (List.mem_filter.1 hy).1
set_option maxRecDepth 100000 in
set_option maxHeartbeats 4000000 in
theorem reAll {key : ByteArray} {l : List SC} {a : Option Addr} {n c : Nat} {w : World} (hG : G ≤ w.heap.size) (h : RdC G w a n c l) (ok : OkL keyOk (l.map SC.sh)) (hz : FzL l 100000000) :
  Calls Try.prog 21 #[.slice a n c, .string key] w fun e w' => ∃ a2 n2 c2 l2, e = .returned (.slice a2 n2 c2) ∧ RdC G w' a2 n2 c2 l2 ∧ l2.map SC.sh = allF (l.map SC.sh) key ∧ Below w.heap.size w w' := by
 have hn : n ≤ 2000 := by rw [← h.len]; have h_ := ok.len; rw [List.length_map] at h_; exact h_
 have HOK := Lib.hid ok; have HZ := Lib.hid hz; clear ok hz
 have HL : Hid (RdC G w a n c l) := h
 clear h
 have M : Hid (Below w.heap.size w w) := Below.refl _ _
 go_enter Try.func21, Try.ntmps21
 go_wp2_with fail
 refine (reRight_c (G := G) (l := l) (Nat.le_trans hG M.out.size) (HL.out.keep M.out) HOK.out HZ.out).mono ?_
 rintro e w1 ⟨rfl, hb⟩
 replace M := gnM hb M
 clear hb
 go_wp2_with fail
 go_loopw [5, 13] (fun i5 i13 wr => ∃ (k : Nat) (gl : List SC) (m : Nat) (vg : Value), vg = i5 ∧ i13 = .int .i64 (k : Int) ∧ Hid (k ≤ n ∧ m ≤ k) ∧ Hid (gl.length = m) ∧ Hid (gl.map SC.sh = allF ((l.take k).map SC.sh) key) ∧ Hid (OwVC G w.heap.size wr vg gl ∧ Below w.heap.size w wr)) (fun i5 i13 _ => n - (RowKit.intOf i13).toNat)
 case atStart =>
  exact ⟨0, [], 0, (.slice none 0 0), rfl, rfl, (by show _ ∧ _; omega), (Lib.hid rfl), (Lib.hid rfl), Lib.hid (And.intro (OwV.nil _ hG) M.out)⟩
 case round =>
  obtain ⟨w2, rfl⟩ : ∃ x, x = wr := ⟨_, rfl⟩
  clear M
  obtain ⟨k, gl, m, vg, rfl, rfl, hk, HGL, HGE, M⟩ := hrel
  have hk := hk.out
  by_cases hlt : k < n
  ·
   have e1_0 : decide (k < n) = true := decide_eq_true (by omega)
   have e1_1 : decide ((k : Int) < (n : Int)) = true := decide_eq_true (by omega)
   have e1_i : (k : Int) < (n : Int) := by omega
   obtain ⟨b, off, rfl, hb_⟩ := RdL.ptr HL.out (by omega : 0 < n)
   have hkl_ : k < l.length := by rw [HL.out.len]; exact hlt
   obtain ⟨x_, hx_⟩ : ∃ x, l[k]? = some x := ⟨l[k], List.getElem?_eq_getElem hkl_⟩
   obtain ⟨xk, xn, xu0, xu1, xu2, xu3, xq, xv0, xv1, xv2, xv3, xr⟩ := x_
   have HRx : Hid (Row w b (off + k * 10) [.string xk, .int .i64 xn, xu0, xu1, xu2, xu3, xv0, xv1, xv2, xv3]) := hb_.row hx_
   have HQx : Hid (FQ G w xu0 xu1 xu2 xu3 xq) := (hb_.ok hx_).1
   have HSx : Hid (FQ G w xv0 xv1 xv2 xv3 xr) := (hb_.ok hx_).2
   have HEx := Lib.hid hx_; clear hx_ hkl_ hb_
   have hok_ : okSh keyOk ⟨xk, xn, xq, xr⟩ := HOK.out.ok _ (List.mem_map.2 ⟨_, List.mem_of_getElem? HEx.out, rfl⟩)
   have HOx := Lib.hid hok_
   have hz_ := HZ.out _ (List.mem_of_getElem? HEx.out)
   have HZx1 : Hid (Fz xq 100000000) := hz_.1
   have HZx2 : Hid (Fz xr 100000000) := hz_.2
   clear hok_ hz_
   obtain ⟨b1, hb1⟩ : ∃ b, decide (xk = key) = b := ⟨_, rfl⟩
   have hkt : (xk.toList == key.toList) = b1 := by rw [tl_eq, hb1]
   have HB1 := Lib.hid hb1; clear hb1
   refine cj4 (TQ.st (HQx.out.keep (M.out.2))) fun st_xu0 st_xu1 st_xu2 st_xu3 => ?_
   refine cj4 (TQ.st (HSx.out.keep (M.out.2))) fun st_xv0 st_xv1 st_xv2 st_xv3 => ?_
   refine cj10 (HRx.out.keep (M.out.2)).c10 fun r0_0 r0_1 r0_2 r0_3 r0_4 r0_5 r0_6 r0_7 r0_8 r0_9 => ?_
   go_upto_region 7 with fail
   clear st_xu0 st_xu1 st_xu2 st_xu3 st_xv0 st_xv1 st_xv2 st_xv3 r0_0 r0_1 r0_2 r0_3 r0_4 r0_5 r0_6 r0_7 r0_8 r0_9
   refine nmW (w2.alloc (.cells #[.string xk, .int .i64 xn, xu0, xu1, xu2, xu3, xv0, xv1, xv2, xv3] 37)) fun w3 hv => ?_
   rw [← hv]
   have ow0_ : w.heap.size ≤ w2.heap.size := ((M.out.2)).size
   have no_b0_vg := OwV.no (M.out.1)
   replace M := alM hv M
   clear hv
   cases b1 with
   | false =>
    refine cj10 (M.out.1).d10 fun p0_0 p0_1 p0_2 p0_3 p0_4 p0_5 p0_6 p0_7 p0_8 p0_9 => ?_
    go_wp2_with fail
    clear p0_0 p0_1 p0_2 p0_3 p0_4 p0_5 p0_6 p0_7 p0_8 p0_9
    go_roundw
    case rel => exact ⟨(k + 1), gl, m, vg, rfl, by go_num, (by show _ ∧ _; omega), HGL, (Lib.hid (by rw [all_next HEx.out, if_neg (of_decide_eq_false HB1.out), List.append_nil]; exact HGE.out)), Lib.hid (And.intro (M.out.2.1) (M.out.2.2))⟩
    case measure => simp [RowKit.intOf] <;> omega
   | true =>
    refine cj10 (M.out.1).d10 fun p0_0 p0_1 p0_2 p0_3 p0_4 p0_5 p0_6 p0_7 p0_8 p0_9 => ?_
    go_wp2_with fail
    clear p0_0 p0_1 p0_2 p0_3 p0_4 p0_5 p0_6 p0_7 p0_8 p0_9
    refine (reOwn (G := G) (key := xk) (note := xn) (q := xq) (r := xr) (Nat.le_trans hG (M.out.2.2).size) (HQx.out.keep (M.out.2.2)) (HSx.out.keep (M.out.2.2)) (Fz.mono HZx1.out (by omega)) (Fz.mono HZx2.out (by omega)) HOx.out.2.2.2).mono ?_
    rintro e w4 ⟨x_1, x_2, x_3, x_4, x_5, x_6, x_7, x_8, rfl, hd9, hd10, hb⟩
    replace M := ad2M hd9 hd10 hb M
    clear hb hd9 hd10
    go_upto_region 9 with (at_builtin; go_must (refine wpList_pushV rfl _ _ elemSh rfl w4 (M.out.2.2.2.1) HGL.out (⟨xk, xn, x_1, x_2, x_3, x_4, xq, x_5, x_6, x_7, x_8, xr⟩ : SC) ⟨(M.out.1), (M.out.2.1)⟩ rfl rfl rfl rfl (by rfl) (by omega) (by omega) (M.out.2.2.2.2).size ?_; intro vv_11 w5 ho_ hg_))
    replace M := Lib.hid (And.intro ho_ (And.intro ((M.out.1).grown (M.out.2.2.2.1).own (by rfl) (M.out.2.2.2.1).leG hg_) (And.intro ((M.out.2.1).grown (M.out.2.2.2.1).own (by rfl) (M.out.2.2.2.1).leG hg_) (below_grown (M.out.2.2.2.2) (M.out.2.2.2.1).own (Nat.le_refl _) (M.out.2.2.2.2).size hg_))))
    clear ho_ hg_
    go_wp2_with fail
    go_roundw
    case rel => exact ⟨(k + 1), (gl ++ [(⟨xk, xn, x_1, x_2, x_3, x_4, xq, x_5, x_6, x_7, x_8, xr⟩ : SC)]), (m + 1), vv_11, rfl, by go_num, (by show _ ∧ _; omega), (Lib.hid (by rw [List.length_append, HGL.out]; rfl)), (Lib.hid (by rw [all_next HEx.out, if_pos (of_decide_eq_true HB1.out), List.map_append, HGE.out]; rfl)), Lib.hid (And.intro (M.out.1) (M.out.2.2.2))⟩
    case measure => simp [RowKit.intOf] <;> omega
  ·
   have e1_0 : decide (k < n) = false := decide_eq_false (by omega)
   have e1_1 : decide ((k : Int) < (n : Int)) = false := decide_eq_false (by omega)
   have e1_i : ¬ (k : Int) < (n : Int) := by omega
   have HALL : Hid (gl.map SC.sh = allF (l.map SC.sh) key) := by show _ = _; rw [HGE.out, List.take_of_length_le (by rw [HL.out.len]; omega)]
   obtain ⟨ag, cg, hvg_, hrd_⟩ := OwV.rdl (M.out.1) HGL.out
   subst hvg_
   replace M := Lib.hid (And.intro hrd_ (M.out.2))
   clear hrd_
   go_wp2_with fail
   go_ret
   exact ⟨_, _, _, rfl, gl, (M.out.1), HALL.out, (M.out.2)⟩
set_option maxRecDepth 100000 in
set_option maxHeartbeats 4000000 in
theorem reAll_no {key : ByteArray} {l : List SR} {a : Option Addr} {n c : Nat} {w : World} (h : RdR w.heap.size w a n c l) (_hn : n ≤ 2000) (hs : ∀ x ∈ l, fewR x = true) (hr : rightL keyOk l = false) :
  Calls Try.prog 21 #[.slice a n c, .string key] w fun e w' => e = .returned (.slice none 0 0) ∧ Below w.heap.size w w' := by
 have HS := Lib.hid hs; have HR := Lib.hid hr; clear hs hr
 have HL : Hid (RdR w.heap.size w a n c l) := h
 clear h
 have M : Hid (Below w.heap.size w w) := Below.refl _ _
 go_enter Try.func21, Try.ntmps21
 go_wp2_with fail
 refine (reRight_x (l := l) (b_ := false) (HL.out.keep M.out) (by omega) HS.out HR.out).mono ?_
 rintro e w1 ⟨rfl, hb⟩
 replace M := gnM hb M
 clear hb
 go_wp2_with fail
 go_ret
 exact ⟨rfl, M.out⟩
end Go.Proofs.Ytlpcblhkddmlnaa
