/- RestateStays: whatever the arguments, it returns true. -/
import Derived.Test.YtlpcblhkddmlnaaBase
import Derived.Test.YtlpcblhkddmlnaaBigSpec
import Derived.Test.YtlpcblhkddmlnaaBigB
import Derived.Test.YtlpcblhkddmlnaaBigC
import Derived.Test.YtlpcblhkddmlnaaBigD
import Derived.Test.YtlpcblhkddmlnaaBigL
import Derived.Test.YtlpcblhkddmlnaaBigQ
import Derived.Test.YtlpcblhkddmlnaaFd
import Derived.Test.YtlpcblhkddmlnaaHeld
import Derived.Test.YtlpcblhkddmlnaaBxD
import Derived.Test.YtlpcblhkddmlnaaFz
import Derived.Test.YtlpcblhkddmlnaaBigRead2
import Derived.Test.YtlpcblhkddmlnaaFracR
import Derived.Test.YtlpcblhkddmlnaaRefF
import Derived.Test.YtlpcblhkddmlnaaRw
import Derived.Test.YtlpcblhkddmlnaaReA
import Derived.Test.YtlpcblhkddmlnaaReB
import Derived.Test.YtlpcblhkddmlnaaReD
import Derived.Test.YtlpcblhkddmlnaaReP
import Derived.Test.YtlpcblhkddmlnaaReS
import Derived.Test.YtlpcblhkddmlnaaReQ
import Derived.Test.YtlpcblhkddmlnaaProg
import Derived.Test.YtlpcblhkddmlnaaShelf
import Derived.WalkKit
import Derived.WalkSpells
import Derived.WalkLawsBesides
import Derived.Handy
import Derived.Lib.Hide
import Derived.Lib.Strings
import Derived.Lib.Builder
import Derived.BigQuiet
import Derived.OwnWalk
import Derived.Laws.BitsLemmas
import Derived.WalkSmall
import Derived.Deep.QuietTactic
import Derived.StillTailTactics
import Derived.Maps.AppendAt
import Derived.IntWalk
import Derived.Deep.RegionHeld3
import Derived.Deep.DeepFit
import Derived.Deep.LoopGhost
import Derived.Deep.DeepCutAuto
import Derived.Lib.ItoaNum
import Derived.Lib.Repeat
import Derived.Lib.AppendIntMem
import Derived.Sort.OwnSorted
import Derived.Shelf.Strings.SlTrimAscii
import Derived.Lib.ConvBytes
import Derived.Lib.CutLaws
import Derived.Maps.Own
import Derived.Maps.Views
import Derived.Maps.OwnOps
import Derived.RangeFuncNested
import Derived.RangeFuncBound
import Derived.RangeFuncCalls
import Derived.RangeFuncLeaves
import Derived.Shelf.Abstract
import Derived.Shelf.RegionOpen
import Derived.OwnWalkIn
import Derived.TacticsInMore
import Derived.LoopNIn
import Derived.LoopIn
namespace Go.Proofs.Ytlpcblhkddmlnaa
open Go.RowKit Go.Lib
variable {G : Nat}
theorem allF_take {l l2 l3 l4 : List SC} {k : ByteArray} (hg : Grows (l.map SC.sh) (l2.map SC.sh)) (h3 : l3.map SC.sh = allF (l.map SC.sh) k) (h4 : l4.map SC.sh = allF (l2.map SC.sh) k) : (l4.take l3.length).map SC.sh = l3.map SC.sh ∧ l3.length ≤ l4.length := by
  obtain ⟨k1, k2⟩ := hg.all k
  rw [← h3, ← h4] at k1 k2
  rw [List.length_map] at k1 k2
  rw [List.length_map] at k2
  exact ⟨by rw [List.map_take]; exact k1, k2⟩

theorem grow_take {l l2 : List SC} {n : Nat} (hg : Grows (l.map SC.sh) (l2.map SC.sh)) (hn : l.length = n) : (l2.take n).map SC.sh = l.map SC.sh := by
  have h := hg.take
  rw [List.length_map, hn] at h
  rw [List.map_take]; exact h
theorem FzL.take {l : List SC} {N : Nat} (h : FzL l N) (n : Nat) : FzL (l.take n) N := fun x hx => h x (List.mem_of_mem_take hx)
def zeroL : List SQ := [⟨⟨#[]⟩, 0, .int .i64 0, .slice none 0 0, .int .i64 0, .slice none 0 0, none, .int .i64 0, .slice none 0 0, .int .i64 0, .slice none 0 0, none⟩]
theorem zeroL_ok {w : World} : ∀ x ∈ zeroL, El.ok G w x := fun x hx => by
  rw [List.mem_singleton.1 hx]; exact ⟨oq_none _ _ _ _ _, oq_none _ _ _ _ _⟩
theorem zeroL_oz {N : Nat} : OzL zeroL N := fun x hx => by
  rw [List.mem_singleton.1 hx]; exact ⟨Oz.none_, Oz.none_⟩
theorem at_ways (l : List Sh) (key : ByteArray) (nt : Int) : atF (allF l key) nt = none ∨ ∃ yk yn yq yr, atF (allF l key) nt = some ⟨yk, yn, yq, yr⟩ := by
  cases h : atF (allF l key) nt with
  | none => exact .inl rfl
  | some y => exact .inr ⟨y.key, y.note, y.lo, y.hi, rfl⟩
theorem at_fz {l : List SC} {N : Nat} {key yk : ByteArray} {nt yn : Int} {yq yr : Rat} (h : FzL l N) (hy : atF (allF (l.map SC.sh) key) nt = some ⟨yk, yn, yq, yr⟩) : Fz yq N ∧ Fz yr N := h.fzs.all _ (atF_mem hy)
set_option maxRecDepth 100000 in
set_option maxHeartbeats 40000000 in
theorem stays_walk {ls : List SR} {a : Option Addr} {n c : Nat} {w : World} (h : RdR w.heap.size w a n c ls) (_hn0 : n ≤ 9223372036854775807) {ls2 : List SR} {a2 : Option Addr} {n2 c2 : Nat} (h2 : RdR w.heap.size w a2 n2 c2 ls2) (_hn02 : n2 ≤ 9223372036854775807) {key : ByteArray} {note : Int}  :
    Calls Try.prog 4 #[.slice a n c, .slice a2 n2 c2, .string key, .int .i64 note] w fun e w' => e = .returned (.bool true) ∧ Below w.heap.size w w' := by
  obtain ⟨G, hG0⟩ : ∃ G : Nat, G = w.heap.size := ⟨_, rfl⟩
  have hG : G ≤ w.heap.size := by omega
  have HL0 : Hid (RdR w.heap.size w a n c ls) := h
  have HL02 : Hid (RdR w.heap.size w a2 n2 c2 ls2) := h2
  obtain ⟨b1, hb1_⟩ : ∃ b, fewL 20 ls = b := ⟨_, rfl⟩
  have Hb1 := Lib.hid hb1_; clear hb1_
  obtain ⟨b12, hb12_⟩ : ∃ b, fewL 10 ls2 = b := ⟨_, rfl⟩
  have Hb12 := Lib.hid hb12_; clear hb12_
  obtain ⟨k1, hk1_⟩ : ∃ b, decide (70 < key.size) = b := ⟨_, rfl⟩
  have hk1i : decide ((70 : Int) < (key.size : Int)) = k1 := by rw [← hk1_]; exact decide_eq_decide.2 (by omega)
  obtain ⟨rt, hrt_⟩ : ∃ b, rightL keyOk ls = b := ⟨_, rfl⟩
  have Hrt := Lib.hid hrt_; clear hrt_
  obtain ⟨z0, hz0_⟩ : ∃ b, decide (n = 0) = b := ⟨_, rfl⟩
  have hz0a : ((n : Int) == 0) = z0 := by rw [← hz0_]; show decide ((n : Int) = 0) = _; exact decide_eq_decide.2 (by omega)
  have hz0b : (n == 0) = z0 := by rw [← hz0_]; rfl
  have Hz0 := Lib.hid hz0_; clear hz0_
  have HR0 : Hid (RdR G w a n c ls) := (by show RdR _ _ _ _ _ _; rw [hG0]; exact HL0.out)
  have HR2 : Hid (RdR G w a2 n2 c2 ls2) := (by show RdR _ _ _ _ _ _; rw [hG0]; exact HL02.out)
  clear h h2
  have M : Hid (Below w.heap.size w w) := Below.refl _ _
  go_enter Try.func4, Try.ntmps4
  go_wp2_with fail
  refine (reSmall (G := G) (Nat.le_trans hG M.out.size)).mono ?_
  rintro e w1 ⟨rfl, hb⟩
  replace M := Lib.hid (Goes.go M.out hb)
  clear hb
  go_wp2_with fail
  refine (reFew20 (G := G) (l := ls) (b_ := b1) (HR0.out.keep M.out) (by omega) Hb1.out).mono ?_
  rintro e w2 ⟨rfl, hb⟩
  replace M := Lib.hid (Goes.go M.out hb)
  clear hb
  cases b1 with
  | false =>
    go_wp2_with fail
    go_ret
    exact ⟨rfl, M.out⟩
  | true =>
    have hs_ := few_all Hb1.out
    have HSM := Lib.hid hs_.1
    have hn1 : n ≤ 20 := by have h_ := HL0.out.len; have h2_ := hs_.2; omega
    clear hs_
    go_wp2_with fail
    refine (reFew10 (G := G) (l := ls2) (b_ := b12) (HR2.out.keep M.out) (by omega) Hb12.out).mono ?_
    rintro e w3 ⟨rfl, hb⟩
    replace M := Lib.hid (Goes.go M.out hb)
    clear hb
    cases b12 with
    | false =>
      go_wp2_with fail
      go_ret
      exact ⟨rfl, M.out⟩
    | true =>
      have hs2_ := few_all Hb12.out
      have HSM2 := Lib.hid hs2_.1
      have hn12 : n2 ≤ 10 := by have h_ := HL02.out.len; have h2_ := hs2_.2; omega
      clear hs2_
      cases k1 with
      | false =>
        go_wp2_with fail
        refine (reRight_g (G := G) (l := ls) (b_ := rt) (Nat.le_trans hG M.out.size) (HR0.out.keep M.out) (by omega) HSM.out Hrt.out).mono ?_
        rintro e w4 ⟨rfl, hb⟩
        replace M := Lib.hid (Goes.go M.out hb)
        clear hb
        cases rt with
        | false =>
          go_wp2_with fail
          go_ret
          exact ⟨rfl, M.out⟩
        | true =>
          cases z0 with
          | false =>
            go_upto_region 4 with fail
            have hr_ := rightL_ok Hrt.out
            obtain ⟨l, hl⟩ : ∃ l, l = ls.map toC := ⟨_, rfl⟩
            have HC0 : Hid (RdC G w a n c l) := by show RdC _ _ _ _ _ _; rw [hG0, hl]; exact HL0.out.toC hr_.1
            have HOK : Hid (OkL keyOk (l.map SC.sh)) := by show OkL _ _; rw [hl, List.map_map]; exact hr_.2
            have HZ3 : Hid (FzL l 3) := by show FzL _ _; rw [hl]; exact fz_toC HL0.out hr_.1 HSM.out
            clear hr_ hl
            have hnp : 0 < n := by have h_ := Hz0.out; simp at h_; omega
            have hn20 : n ≤ 20 := by omega
            obtain ⟨b, off, rfl, hb_⟩ := RdL.ptr HC0.out (by omega : 0 < n)
            have hkl_ : n - 1 < l.length := by rw [HC0.out.len]; omega
            obtain ⟨z_, hx_⟩ : ∃ x, l[(n - 1)]? = some x := ⟨l[(n - 1)], List.getElem?_eq_getElem hkl_⟩
            obtain ⟨zk, zn, zu0, zu1, zu2, zu3, zq, zv0, zv1, zv2, zv3, zr⟩ := z_
            have HRz : Hid (Row w b (off + (n - 1) * 10) [.string zk, .int .i64 zn, zu0, zu1, zu2, zu3, zv0, zv1, zv2, zv3]) := hb_.row hx_
            have HQz : Hid (FQ G w zu0 zu1 zu2 zu3 zq) := (hb_.ok hx_).1
            have HSz : Hid (FQ G w zv0 zv1 zv2 zv3 zr) := (hb_.ok hx_).2
            have HEz := Lib.hid hx_; clear hx_ hkl_ hb_
            have HNO : Hid (noteOf (l.map SC.sh) = zn) := note_last HEz.out (by rw [HC0.out.len]; omega)
            have hix0 : (0 : Int) ≤ (n : Int) - 1 := by omega
            have hix1 : (n : Int) - 1 < (n : Int) := by omega
            have hix2 : ((n : Int) - 1).toNat = n - 1 := by omega
            have hzn0 : 0 ≤ zn := by have h_ := noteOf_ge HOK.out; rw [HNO.out] at h_; exact h_
            have hzn1 : zn ≤ 1099511627776 := (HOK.out.ok _ (List.mem_map.2 ⟨_, List.mem_of_getElem? HEz.out, rfl⟩)).2.2.1
            go_wp2_with fail
            go_loopw [10, 11] (fun i10 i11 wr => ∃ (k : Nat) (an : Option Addr) (nn : Nat) (cn : Nat) (l2 : List SC), i10 = .slice an nn cn ∧ i11 = .int .i64 (k : Int) ∧ Hid (k ≤ n2 ∧ nn ≤ n + k) ∧ Hid (OkL keyOk (l2.map SC.sh)) ∧ Hid (FzL l2 3) ∧ Hid (Grows (l.map SC.sh) (l2.map SC.sh)) ∧ Hid (RdC G wr an nn cn l2 ∧ Below w.heap.size w wr)) (fun i10 i11 _ => n2 - (RowKit.intOf i11).toNat)
            case atStart =>
              exact ⟨0, _, n, _, l, rfl, rfl, (by show _ ∧ _; omega), HOK, HZ3, (Lib.hid (Grows.refl _)), Lib.hid (And.intro ((HC0.out.keep M.out)) M.out)⟩
            case round =>
              obtain ⟨w5, rfl⟩ : ∃ x, x = wr := ⟨_, rfl⟩
              clear M
              obtain ⟨k, an, nn, cn, l2, rfl, rfl, hk, HK, HZ2, HGR, M⟩ := hrel
              have hk := hk.out
              have hnn_ : n ≤ nn := by have h_ := HGR.out.len; rw [List.length_map, List.length_map, HC0.out.len, (M.out.1).len] at h_; exact h_
              by_cases hlt : k < n2
              ·
                have e1_0 : decide (k < n2) = true := decide_eq_true (by omega)
                have e1_1 : decide ((k : Int) < (n2 : Int)) = true := decide_eq_true (by omega)
                have e1_i : (k : Int) < (n2 : Int) := by omega
                obtain ⟨bm, offm, rfl, hb_⟩ := RdL.ptr HL02.out (by omega : 0 < n2)
                have hkl_ : k < ls2.length := by rw [HL02.out.len]; exact hlt
                obtain ⟨x_, hx_⟩ : ∃ x, ls2[k]? = some x := ⟨ls2[k], List.getElem?_eq_getElem hkl_⟩
                obtain ⟨xk, xn, xu0, xu1, xu2, xu3, xa, xb, xo, xv0, xv1, xv2, xv3, xc, xd, xp⟩ := x_
                have HRx : Hid (Row w bm (offm + k * 10) [.string xk, .int .i64 xn, xu0, xu1, xu2, xu3, xv0, xv1, xv2, xv3]) := hb_.row hx_
                have HXx : Hid (FX w xu0 xu1 xu2 xu3 xa xb xo) := SR.fx (hb_.ok hx_)
                have HYx : Hid (FX w xv0 xv1 xv2 xv3 xc xd xp) := SR.fx2 (hb_.ok hx_)
                have hfw_ := fewR_le (HSM2.out _ (List.mem_of_getElem? hx_))
                have HF1 := Lib.hid hfw_.2.1; have HF2 := Lib.hid hfw_.2.2.1
                have HQ1 : Hid (∀ q, xo = some q → FQ G w xu0 xu1 xu2 xu3 q ∧ Fz q 3) := by rw [hG0]; exact fx_q HXx.out ⟨hfw_.2.2.2.1, hfw_.2.2.2.2.1⟩
                have HQ2 : Hid (∀ q, xp = some q → FQ G w xv0 xv1 xv2 xv3 q ∧ Fz q 3) := by rw [hG0]; exact fx_q HYx.out ⟨hfw_.2.2.2.2.2.1, hfw_.2.2.2.2.2.2⟩
                clear hfw_ hx_ hkl_ hb_
                rcases x_ways (l2.map SC.sh) xk xn xo xp with hbad | ⟨q, r, rs, ho1_, ho2_, hos, hsh⟩
                ·
                  have HBAD := Lib.hid hbad
                  go_wp2_with fail
                  obtain ⟨w6, hv⟩ : ∃ w_ : World, w_ = w5.drew := ⟨_, rfl⟩
                  replace M := Lib.hid (Goes.go M.out (hv ▸ below_drew _ : Below w5.heap.size w5 w6))
                  refine wp_region_held_drew (S := (fun w' => w'.cell? ⟨bm, offm + k * 10, none⟩ = some (.string xk) ∧ w'.cell? ⟨bm, offm + k * 10 + 1, none⟩ = some (.int .i64 xn) ∧ w'.cell? ⟨bm, offm + k * 10 + 2, none⟩ = some (xu0) ∧ w'.cell? ⟨bm, offm + k * 10 + 3, none⟩ = some (xu1) ∧ w'.cell? ⟨bm, offm + k * 10 + 4, none⟩ = some (xu2) ∧ w'.cell? ⟨bm, offm + k * 10 + 5, none⟩ = some (xu3) ∧ w'.cell? ⟨bm, offm + k * 10 + 6, none⟩ = some (xv0) ∧ w'.cell? ⟨bm, offm + k * 10 + 7, none⟩ = some (xv1) ∧ w'.cell? ⟨bm, offm + k * 10 + 8, none⟩ = some (xv2) ∧ w'.cell? ⟨bm, offm + k * 10 + 9, none⟩ = some (xv3))) (by kernel_rfl) (by rw [← hv]; exact ⟨(HRx.out.keep (M.out.2)).2 0 _ rfl, (HRx.out.keep (M.out.2)).2 1 _ rfl, (HRx.out.keep (M.out.2)).2 2 _ rfl, (HRx.out.keep (M.out.2)).2 3 _ rfl, (HRx.out.keep (M.out.2)).2 4 _ rfl, (HRx.out.keep (M.out.2)).2 5 _ rfl, (HRx.out.keep (M.out.2)).2 6 _ rfl, (HRx.out.keep (M.out.2)).2 7 _ rfl, (HRx.out.keep (M.out.2)).2 8 _ rfl, (HRx.out.keep (M.out.2)).2 9 _ rfl⟩) (fun hH5 => ?_)
                  rw [← hv] at hH5 ⊢
                  clear hv
                  refine tk at0 ?_
                  refine tk at1 ?_
                  refine tk at2 ?_
                  refine tk at3 ?_
                  refine tk at4 ?_
                  refine tk at5 ?_
                  refine tk at6 ?_
                  refine tk at7 ?_
                  refine tk at8 ?_
                  refine tk at9 ?_
                  refine tk at10 ?_
                  refine tk at11 ?_
                  refine tk at12 ?_
                  refine tk at13 ?_
                  refine tk at14 ?_
                  refine tk at15 ?_
                  refine wpAnyH_ready (rs := [16]) (by kernel_rfl) (by simp) ?_
                  refine AllReadyH.cons at16 (fun K hK => ?_) AllReadyH.nil
                  go_simp
                  refine (reShow_err (G := G) (key := xk) (note := xn) (o1 := xo) (o2 := xp) (l := l2) (Nat.le_trans hG (M.out.2).size) (M.out.1) HK.out (fun x_ hx_ => ⟨(HZ2.out x_ hx_).1.mono (by omega), (HZ2.out x_ hx_).2.mono (by omega)⟩) (HXx.out.keep (M.out.2)) (HYx.out.keep (M.out.2)) HF1.out HF2.out (fun q_ h_ => ⟨(HQ1.out q_ h_).1.keep (M.out.2), (HQ1.out q_ h_).2.mono (by omega)⟩) (fun q_ h_ => ⟨(HQ2.out q_ h_).1.keep (M.out.2), (HQ2.out q_ h_).2.mono (by omega)⟩) HBAD.out).mono ?_
                  rintro e w7 ⟨a_6, c_7, er_8, rfl, hu9, hb⟩
                  replace M := Lib.hid (Goes.go M.out hb)
                  clear hb
                  replace hu9 := Lib.hid hu9
                  have en1_er_8 : (er_8 == 0) = false := beq_false_of_ne hu9.out
                  have en2_er_8 : (er_8 != 0) = true := bne_iff_ne.2 hu9.out
                  have en3_er_8 : ¬ er_8 = 0 := hu9.out
                  have hcn_ : nn ≤ cn := ((M.out.1)).le
                  have e2_0 : decide (nn < n) = false := decide_eq_false (by omega)
                  have e2_1 : decide ((nn : Int) < (n : Int)) = false := decide_eq_false (by omega)
                  have e2_i : ¬ (nn : Int) < (n : Int) := by omega
                  have emn_ : min (n : Int) (nn : Int) = (n : Int) := by omega
                  have esl_ : (n : Int) ≤ (cn : Int) := by omega
                  (try go_wp2_with fail)
                  refine hK.out _ _ (⟨(HRx.out.keep (M.out.2)).2 0 _ rfl, (HRx.out.keep (M.out.2)).2 1 _ rfl, (HRx.out.keep (M.out.2)).2 2 _ rfl, (HRx.out.keep (M.out.2)).2 3 _ rfl, (HRx.out.keep (M.out.2)).2 4 _ rfl, (HRx.out.keep (M.out.2)).2 5 _ rfl, (HRx.out.keep (M.out.2)).2 6 _ rfl, (HRx.out.keep (M.out.2)).2 7 _ rfl, (HRx.out.keep (M.out.2)).2 8 _ rfl, (HRx.out.keep (M.out.2)).2 9 _ rfl⟩) (fun hH10 => ?_)
                  clear hK K hH5
                  (try simp only [Act.put, List.setIfInBounds_toArray, List.set_cons_zero, List.set_cons_succ])
                  refine tk at17 ?_
                  refine tk at18 ?_
                  refine tk at19 ?_
                  refine tk at20 ?_
                  refine tk at21 ?_
                  refine wpAnyH_done (by kernel_rfl) ?_ _
                  clear hH10
                  go_wp2_with fail
                  refine (reRight_c (G := G) (l := l2) (Nat.le_trans hG (M.out.2).size) (M.out.1) HK.out (fun x_ hx_ => ⟨(HZ2.out x_ hx_).1.mono (by omega), (HZ2.out x_ hx_).2.mono (by omega)⟩)).mono ?_
                  rintro e w8 ⟨rfl, hb⟩
                  replace M := Lib.hid (Goes.go M.out hb)
                  clear hb
                  go_wp2_with fail
                  refine (reSame (G := G) (l := (l2.take n)) (m := l) (b_ := true) (RdL.take_ (M.out.1) (by omega)) (HC0.out.keep (M.out.2)) (by omega) (by omega) (FzL.take (fun x_ hx_ => ⟨(HZ2.out x_ hx_).1.mono (by omega), (HZ2.out x_ hx_).2.mono (by omega)⟩) _) (fun x_ hx_ => ⟨(HZ3.out x_ hx_).1.mono (by omega), (HZ3.out x_ hx_).2.mono (by omega)⟩) (decide_eq_true (grow_take HGR.out HC0.out.len))).mono ?_
                  rintro e w9 ⟨rfl, hb⟩
                  replace M := Lib.hid (Goes.go M.out hb)
                  clear hb
                  go_wp2_with fail
                  go_roundw
                  case rel => exact ⟨(k + 1), an, nn, cn, l2, rfl, by go_num, (by show _ ∧ _; omega), HK, HZ2, HGR, Lib.hid (And.intro (M.out.1) (M.out.2))⟩
                  case measure => simp [RowKit.intOf] <;> omega
                ·
                  subst ho1_ ho2_
                  have HQq : Hid (FQ G w xu0 xu1 xu2 xu3 q) := (HQ1.out q rfl).1
                  have HQr : Hid (FQ G w xv0 xv1 xv2 xv3 r) := (HQ2.out r rfl).1
                  have HZq : Hid (Fz q 3) := (HQ1.out q rfl).2
                  have HZr : Hid (Fz r 3) := (HQ2.out r rfl).2
                  have HOS := Lib.hid hos
                  have HSH := Lib.hid hsh
                  have hs_ := show_ok HK.out hos hsh
                  have HS1 := Lib.hid hs_.1; have HS2 := Lib.hid hs_.2.1; have HS3 : Hid (Grows (l.map SC.sh) rs) := HGR.out.show_ HOK.out HK.out hos hsh; clear hs_ hos hsh
                  go_wp2_with fail
                  obtain ⟨w6, hv⟩ : ∃ w_ : World, w_ = w5.drew := ⟨_, rfl⟩
                  replace M := Lib.hid (Goes.go M.out (hv ▸ below_drew _ : Below w5.heap.size w5 w6))
                  refine wp_region_held_drew (S := (fun w' => w'.cell? ⟨bm, offm + k * 10, none⟩ = some (.string xk) ∧ w'.cell? ⟨bm, offm + k * 10 + 1, none⟩ = some (.int .i64 xn) ∧ w'.cell? ⟨bm, offm + k * 10 + 2, none⟩ = some (xu0) ∧ w'.cell? ⟨bm, offm + k * 10 + 3, none⟩ = some (xu1) ∧ w'.cell? ⟨bm, offm + k * 10 + 4, none⟩ = some (xu2) ∧ w'.cell? ⟨bm, offm + k * 10 + 5, none⟩ = some (xu3) ∧ w'.cell? ⟨bm, offm + k * 10 + 6, none⟩ = some (xv0) ∧ w'.cell? ⟨bm, offm + k * 10 + 7, none⟩ = some (xv1) ∧ w'.cell? ⟨bm, offm + k * 10 + 8, none⟩ = some (xv2) ∧ w'.cell? ⟨bm, offm + k * 10 + 9, none⟩ = some (xv3))) (by kernel_rfl) (by rw [← hv]; exact ⟨(HRx.out.keep (M.out.2)).2 0 _ rfl, (HRx.out.keep (M.out.2)).2 1 _ rfl, (HRx.out.keep (M.out.2)).2 2 _ rfl, (HRx.out.keep (M.out.2)).2 3 _ rfl, (HRx.out.keep (M.out.2)).2 4 _ rfl, (HRx.out.keep (M.out.2)).2 5 _ rfl, (HRx.out.keep (M.out.2)).2 6 _ rfl, (HRx.out.keep (M.out.2)).2 7 _ rfl, (HRx.out.keep (M.out.2)).2 8 _ rfl, (HRx.out.keep (M.out.2)).2 9 _ rfl⟩) (fun hH17 => ?_)
                  rw [← hv] at hH17 ⊢
                  clear hv
                  refine tk at0 ?_
                  refine tk at1 ?_
                  refine tk at2 ?_
                  refine tk at3 ?_
                  refine tk at4 ?_
                  refine tk at5 ?_
                  refine tk at6 ?_
                  refine tk at7 ?_
                  refine tk at8 ?_
                  refine tk at9 ?_
                  refine tk at10 ?_
                  refine tk at11 ?_
                  refine tk at12 ?_
                  refine tk at13 ?_
                  refine tk at14 ?_
                  refine tk at15 ?_
                  refine wpAnyH_ready (rs := [16]) (by kernel_rfl) (by simp) ?_
                  refine AllReadyH.cons at16 (fun K hK => ?_) AllReadyH.nil
                  go_simp
                  refine (reShow_c (G := G) (key := xk) (note := xn) (q := q) (r := r) (er := 0) (rs := rs) (l := l2) (Nat.le_trans hG (M.out.2).size) (M.out.1) HK.out (fun x_ hx_ => ⟨(HZ2.out x_ hx_).1.mono (by omega), (HZ2.out x_ hx_).2.mono (by omega)⟩) (HQq.out.keep (M.out.2)) (HQr.out.keep (M.out.2)) (Fz.mono HZq.out (by omega)) (Fz.mono HZr.out (by omega)) HOS.out HSH.out).mono ?_
                  rintro e w7 ⟨a_18, n_19, c_20, l_21, rfl, hd22, hu23, hb⟩
                  replace M := Lib.hid (And.intro hd22 (Goes.go M.out hb))
                  clear hb hd22
                  replace hu23 := Lib.hid hu23
                  have HKn : Hid (OkL keyOk (l_21.map SC.sh)) := by show OkL _ _; rw [hu23.out]; exact HS1.out
                  have HZn : Hid (FzL l_21 3) := (show_fz HS2.out HZ2.out.fzs HZq.out HZr.out).fzl hu23.out
                  have HGn : Hid (Grows (l.map SC.sh) (l_21.map SC.sh)) := by show Grows _ _; rw [hu23.out]; exact HS3.out
                  have hnw_ : n ≤ n_19 := by have h_ := HGn.out.len; rw [List.length_map, List.length_map, HC0.out.len, ((M.out.1)).len] at h_; exact h_
                  have hnv_ : n_19 ≤ nn + 1 := by have h_ := (show_len HS2.out).2; rw [← hu23.out, List.length_map, List.length_map, ((M.out.1)).len, ((M.out.2.1)).len] at h_; exact h_
                  have hcn_ : n_19 ≤ c_20 := ((M.out.1)).le
                  have e2_0 : decide (n_19 < n) = false := decide_eq_false (by omega)
                  have e2_1 : decide ((n_19 : Int) < (n : Int)) = false := decide_eq_false (by omega)
                  have e2_i : ¬ (n_19 : Int) < (n : Int) := by omega
                  have emn_ : min (n : Int) (n_19 : Int) = (n : Int) := by omega
                  have esl_ : (n : Int) ≤ (c_20 : Int) := by omega
                  (try go_wp2_with fail)
                  refine hK.out _ _ (⟨(HRx.out.keep (M.out.2.2)).2 0 _ rfl, (HRx.out.keep (M.out.2.2)).2 1 _ rfl, (HRx.out.keep (M.out.2.2)).2 2 _ rfl, (HRx.out.keep (M.out.2.2)).2 3 _ rfl, (HRx.out.keep (M.out.2.2)).2 4 _ rfl, (HRx.out.keep (M.out.2.2)).2 5 _ rfl, (HRx.out.keep (M.out.2.2)).2 6 _ rfl, (HRx.out.keep (M.out.2.2)).2 7 _ rfl, (HRx.out.keep (M.out.2.2)).2 8 _ rfl, (HRx.out.keep (M.out.2.2)).2 9 _ rfl⟩) (fun hH24 => ?_)
                  clear hK K hH17
                  (try simp only [Act.put, List.setIfInBounds_toArray, List.set_cons_zero, List.set_cons_succ])
                  refine tk at17 ?_
                  refine tk at18 ?_
                  refine tk at19 ?_
                  refine tk at20 ?_
                  refine tk at21 ?_
                  refine wpAnyH_done (by kernel_rfl) ?_ _
                  clear hH24
                  go_wp2_with fail
                  refine (reRight_c (G := G) (l := l_21) (Nat.le_trans hG (M.out.2.2).size) (M.out.1) HKn.out (fun x_ hx_ => ⟨(HZn.out x_ hx_).1.mono (by omega), (HZn.out x_ hx_).2.mono (by omega)⟩)).mono ?_
                  rintro e w8 ⟨rfl, hb⟩
                  replace M := Lib.hid (Goes.go M.out hb)
                  clear hb
                  go_wp2_with fail
                  refine (reSame (G := G) (l := (l_21.take n)) (m := l) (b_ := true) (RdL.take_ (M.out.1) (by omega)) (HC0.out.keep (M.out.2.2)) (by omega) (by omega) (FzL.take (fun x_ hx_ => ⟨(HZn.out x_ hx_).1.mono (by omega), (HZn.out x_ hx_).2.mono (by omega)⟩) _) (fun x_ hx_ => ⟨(HZ3.out x_ hx_).1.mono (by omega), (HZ3.out x_ hx_).2.mono (by omega)⟩) (decide_eq_true (grow_take HGn.out HC0.out.len))).mono ?_
                  rintro e w9 ⟨rfl, hb⟩
                  replace M := Lib.hid (Goes.go M.out hb)
                  clear hb
                  go_wp2_with fail
                  go_roundw
                  case rel => exact ⟨(k + 1), a_18, n_19, c_20, l_21, rfl, by go_num, (by show _ ∧ _; omega), HKn, HZn, HGn, Lib.hid (And.intro (M.out.1) (M.out.2.2))⟩
                  case measure => simp [RowKit.intOf] <;> omega
              ·
                have e1_0 : decide (k < n2) = false := decide_eq_false (by omega)
                have e1_1 : decide ((k : Int) < (n2 : Int)) = false := decide_eq_false (by omega)
                have e1_i : ¬ (k : Int) < (n2 : Int) := by omega
                have hwn : zn ≤ note ∨ note < zn := by omega
                rcases hwn with hwn | hwn
                ·
                  have e5 : decide (zn ≤ note) = true := decide_eq_true (by omega)
                  have e5i : zn ≤ note := by omega
                  have hat_ : atF (allF (l2.map SC.sh) key) (zn - 1) = atF (allF (l.map SC.sh) key) (zn - 1) := HGR.out.at_ key (by rw [HNO.out]; omega)
                  have HAT := Lib.hid hat_; clear hat_
                  rcases at_ways (l.map SC.sh) key (zn - 1) with ha1 | ⟨yk, yn, yq, yr, ha1⟩
                  ·
                    have HA1 := Lib.hid ha1
                    have HA2 := Lib.hid (HAT.out.trans ha1); clear ha1
                    go_wp2_with fail
                    refine (reAll (G := G) (key := key) (l := l) (Nat.le_trans hG (M.out.2).size) (HC0.out.keep (M.out.2)) HOK.out (fun x_ hx_ => ⟨(HZ3.out x_ hx_).1.mono (by omega), (HZ3.out x_ hx_).2.mono (by omega)⟩)).mono ?_
                    rintro e w6 ⟨a_25, n_26, c_27, l_28, rfl, hd29, hu30, hb⟩
                    replace M := Lib.hid (And.intro hd29 (Goes.go M.out hb))
                    clear hb hd29
                    replace hu30 := Lib.hid hu30
                    go_wp2_with fail
                    refine (reAll (G := G) (key := key) (l := l2) (Nat.le_trans hG (M.out.2.2).size) (M.out.2.1) HK.out (fun x_ hx_ => ⟨(HZ2.out x_ hx_).1.mono (by omega), (HZ2.out x_ hx_).2.mono (by omega)⟩)).mono ?_
                    rintro e w7 ⟨a_31, n_32, c_33, l_34, rfl, hd35, hu36, hb⟩
                    replace M := Lib.hid (And.intro hd35 (Goes.go M.out hb))
                    clear hb hd35
                    replace hu36 := Lib.hid hu36
                    have ht_ := allF_take HGR.out hu30.out hu36.out
                    have hln_ : n_26 ≤ n_32 := by have h_ := ht_.2; rw [((M.out.2.1)).len, ((M.out.1)).len] at h_; exact h_
                    have HTK : Hid ((l_34.take n_26).map SC.sh = l_28.map SC.sh) := by have h_ := ht_.1; rw [((M.out.2.1)).len] at h_; exact h_
                    clear ht_
                    have HZ_3 : Hid (FzL l_28 3) := (HZ3.out.fzs.all).fzl hu30.out
                    have HZ_4 : Hid (FzL l_34 3) := (HZ2.out.fzs.all).fzl hu36.out
                    have hn4_ : n_32 ≤ 1000000 := by have h_ := all_len hu36.out; rw [((M.out.1)).len, ((M.out.2.2.1)).len] at h_; omega
                    have hc4_ : n_32 ≤ c_33 := ((M.out.1)).le
                    have e3_0 : decide (n_32 < n_26) = false := decide_eq_false (by omega)
                    have e3_1 : decide ((n_32 : Int) < (n_26 : Int)) = false := decide_eq_false (by omega)
                    have e3_i : ¬ (n_32 : Int) < (n_26 : Int) := by omega
                    have emn_ : min (n_26 : Int) (n_32 : Int) = (n_26 : Int) := by omega
                    have esl_ : (n_26 : Int) ≤ (c_33 : Int) := by omega
                    go_wp2_with fail
                    refine (reSame (G := G) (l := (l_34.take n_26)) (m := l_28) (b_ := true) (RdL.take_ (M.out.1) (by omega)) (M.out.2.1) (by omega) (by omega) (FzL.take (fun x_ hx_ => ⟨(HZ_4.out x_ hx_).1.mono (by omega), (HZ_4.out x_ hx_).2.mono (by omega)⟩) _) (fun x_ hx_ => ⟨(HZ_3.out x_ hx_).1.mono (by omega), (HZ_3.out x_ hx_).2.mono (by omega)⟩) (decide_eq_true HTK.out)).mono ?_
                    rintro e w8 ⟨rfl, hb⟩
                    replace M := Lib.hid (Goes.go M.out hb)
                    clear hb
                    have yr0 := (HRz.out.keep (M.out.2.2.2)).c10; have r0_0 := yr0.1; have r0_1 := yr0.2.1; have r0_2 := yr0.2.2.1; have r0_3 := yr0.2.2.2.1; have r0_4 := yr0.2.2.2.2.1; have r0_5 := yr0.2.2.2.2.2.1; have r0_6 := yr0.2.2.2.2.2.2.1; have r0_7 := yr0.2.2.2.2.2.2.2.1; have r0_8 := yr0.2.2.2.2.2.2.2.2.1; have r0_9 := yr0.2.2.2.2.2.2.2.2.2; clear yr0
                    go_wp2_with fail
                    clear r0_0 r0_1 r0_2 r0_3 r0_4 r0_5 r0_6 r0_7 r0_8 r0_9
                    refine (reAt_none (G := G) (key := key) (nt := (zn - 1)) (l := l) (Nat.le_trans hG (M.out.2.2.2).size) (HC0.out.keep (M.out.2.2.2)) HOK.out (fun x_ hx_ => ⟨(HZ3.out x_ hx_).1.mono (by omega), (HZ3.out x_ hx_).2.mono (by omega)⟩) HA1.out).mono ?_
                    rintro e w9 ⟨rfl, hb⟩
                    replace M := Lib.hid (Goes.go M.out hb)
                    clear hb
                    go_upto_region 20 with fail
                    obtain ⟨w10, hv⟩ : ∃ w_ : World, w_ = (w9.alloc (.cells #[.string (⟨#[]⟩), .int .i64 0, .int .i64 0, .slice none 0 0, .int .i64 0, .slice none 0 0, .int .i64 0, .slice none 0 0, .int .i64 0, .slice none 0 0] 37)) := ⟨_, rfl⟩
                    rw [← hv]
                    have ow0_ : w.heap.size ≤ w9.heap.size := ((M.out.2.2.2)).size
                    replace M := Lib.hid (And.intro (hv ▸ bx1 w9 37 #[.string (⟨#[]⟩), .int .i64 0, .int .i64 0, .slice none 0 0, .int .i64 0, .slice none 0 0, .int .i64 0, .slice none 0 0, .int .i64 0, .slice none 0 0]) (Goes.go M.out (hv ▸ below_alloc _ _ : Below w9.heap.size w9 w10)))
                    clear hv
                    go_wp2_with fail
                    refine (reAt_none (G := G) (key := key) (nt := (zn - 1)) (l := l2) (Nat.le_trans hG (M.out.2.2.2.2).size) (M.out.2.2.2.1) HK.out (fun x_ hx_ => ⟨(HZ2.out x_ hx_).1.mono (by omega), (HZ2.out x_ hx_).2.mono (by omega)⟩) HA2.out).mono ?_
                    rintro e w11 ⟨rfl, hb⟩
                    replace M := Lib.hid (Goes.go M.out hb)
                    clear hb
                    go_upto_region 21 with fail
                    obtain ⟨w12, hv⟩ : ∃ w_ : World, w_ = (w11.alloc (.cells #[.string (⟨#[]⟩), .int .i64 0, .int .i64 0, .slice none 0 0, .int .i64 0, .slice none 0 0, .int .i64 0, .slice none 0 0, .int .i64 0, .slice none 0 0] 37)) := ⟨_, rfl⟩
                    rw [← hv]
                    have ow1_ : w9.heap.size < w11.heap.size := ((M.out.1)).lt
                    replace M := Lib.hid (And.intro (hv ▸ bx1 w11 37 #[.string (⟨#[]⟩), .int .i64 0, .int .i64 0, .slice none 0 0, .int .i64 0, .slice none 0 0, .int .i64 0, .slice none 0 0, .int .i64 0, .slice none 0 0]) (Goes.go M.out (hv ▸ below_alloc _ _ : Below w11.heap.size w11 w12)))
                    clear hv
                    have y0 := (M.out.2.1).d10; have p0_0 := y0.1; have p0_1 := y0.2.1; have p0_2 := y0.2.2.1; have p0_3 := y0.2.2.2.1; have p0_4 := y0.2.2.2.2.1; have p0_5 := y0.2.2.2.2.2.1; have p0_6 := y0.2.2.2.2.2.2.1; have p0_7 := y0.2.2.2.2.2.2.2.1; have p0_8 := y0.2.2.2.2.2.2.2.2.1; have p0_9 := y0.2.2.2.2.2.2.2.2.2; clear y0
                    have z0 : w9.heap.size < w12.heap.size := (M.out.2.1).lt
                    have y1 := (M.out.1).d10; have p1_0 := y1.1; have p1_1 := y1.2.1; have p1_2 := y1.2.2.1; have p1_3 := y1.2.2.2.1; have p1_4 := y1.2.2.2.2.1; have p1_5 := y1.2.2.2.2.2.1; have p1_6 := y1.2.2.2.2.2.2.1; have p1_7 := y1.2.2.2.2.2.2.2.1; have p1_8 := y1.2.2.2.2.2.2.2.2.1; have p1_9 := y1.2.2.2.2.2.2.2.2.2; clear y1
                    have z1 : w11.heap.size < w12.heap.size := (M.out.1).lt
                    go_wp2_with fail
                    clear p0_0 p0_1 p0_2 p0_3 p0_4 p0_5 p0_6 p0_7 p0_8 p0_9 z0 p1_0 p1_1 p1_2 p1_3 p1_4 p1_5 p1_6 p1_7 p1_8 p1_9 z1
                    obtain ⟨w13, hv⟩ : ∃ w_ : World, w_ = ((w12.alloc (.cells #[.string (⟨#[]⟩), .int .i64 0, .int .i64 0, .slice none 0 0, .int .i64 0, .slice none 0 0, .int .i64 0, .slice none 0 0, .int .i64 0, .slice none 0 0] 37)).alloc (.cells #[.string (⟨#[]⟩), .int .i64 0, .int .i64 0, .slice none 0 0, .int .i64 0, .slice none 0 0, .int .i64 0, .slice none 0 0, .int .i64 0, .slice none 0 0] 37)) := ⟨_, rfl⟩
                    rw [← hv]
                    have ow2_ : w11.heap.size < w12.heap.size := ((M.out.1)).lt
                    have hbx := bx2 w12 37 37 #[.string (⟨#[]⟩), .int .i64 0, .int .i64 0, .slice none 0 0, .int .i64 0, .slice none 0 0, .int .i64 0, .slice none 0 0, .int .i64 0, .slice none 0 0] #[.string (⟨#[]⟩), .int .i64 0, .int .i64 0, .slice none 0 0, .int .i64 0, .slice none 0 0, .int .i64 0, .slice none 0 0, .int .i64 0, .slice none 0 0]
                    rw [← hv] at hbx
                    have hbn : Below w12.heap.size w12 w13 := by rw [hv]; exact (Below.alloc (Below.alloc (Below.refl _ _) (by simp <;> omega) _) (by simp <;> omega) _)
                    replace M := Lib.hid (And.intro hbx.2 (And.intro hbx.1 (Goes.go M.out hbn)))
                    clear hbx hbn
                    clear hv
                    refine (reSame_o (G := G) (l := zeroL) (m := zeroL) (b_ := true) (RdL.of (OwB.new (α := SQ) (M.out.2.1) rfl hG (show w.heap.size ≤ _ by omega) zeroL_ok).rd (show zeroL.length = 1 from rfl) (Nat.le_refl 1)) (RdL.of (OwB.new (α := SQ) (M.out.1) rfl hG (show w.heap.size ≤ _ by omega) zeroL_ok).rd (show zeroL.length = 1 from rfl) (Nat.le_refl 1)) (by decide) (by decide) zeroL_oz zeroL_oz (decide_eq_true rfl)).mono ?_
                    rintro e w14 ⟨rfl, hb⟩
                    replace M := Lib.hid (Goes.go M.out hb)
                    clear hb
                    go_wp2_with fail
                    go_ret
                    exact ⟨rfl, (M.out.2.2.2.2.2.2.2)⟩
                  ·
                    have HA1 := Lib.hid ha1
                    have HA2 := Lib.hid (HAT.out.trans ha1)
                    have hz_ := at_fz HZ3.out ha1
                    have HZy1 := Lib.hid hz_.1; have HZy2 := Lib.hid hz_.2; clear hz_ ha1
                    go_wp2_with fail
                    refine (reAll (G := G) (key := key) (l := l) (Nat.le_trans hG (M.out.2).size) (HC0.out.keep (M.out.2)) HOK.out (fun x_ hx_ => ⟨(HZ3.out x_ hx_).1.mono (by omega), (HZ3.out x_ hx_).2.mono (by omega)⟩)).mono ?_
                    rintro e w6 ⟨a_37, n_38, c_39, l_40, rfl, hd41, hu42, hb⟩
                    replace M := Lib.hid (And.intro hd41 (Goes.go M.out hb))
                    clear hb hd41
                    replace hu42 := Lib.hid hu42
                    go_wp2_with fail
                    refine (reAll (G := G) (key := key) (l := l2) (Nat.le_trans hG (M.out.2.2).size) (M.out.2.1) HK.out (fun x_ hx_ => ⟨(HZ2.out x_ hx_).1.mono (by omega), (HZ2.out x_ hx_).2.mono (by omega)⟩)).mono ?_
                    rintro e w7 ⟨a_43, n_44, c_45, l_46, rfl, hd47, hu48, hb⟩
                    replace M := Lib.hid (And.intro hd47 (Goes.go M.out hb))
                    clear hb hd47
                    replace hu48 := Lib.hid hu48
                    have ht_ := allF_take HGR.out hu42.out hu48.out
                    have hln_ : n_38 ≤ n_44 := by have h_ := ht_.2; rw [((M.out.2.1)).len, ((M.out.1)).len] at h_; exact h_
                    have HTK : Hid ((l_46.take n_38).map SC.sh = l_40.map SC.sh) := by have h_ := ht_.1; rw [((M.out.2.1)).len] at h_; exact h_
                    clear ht_
                    have HZ_3 : Hid (FzL l_40 3) := (HZ3.out.fzs.all).fzl hu42.out
                    have HZ_4 : Hid (FzL l_46 3) := (HZ2.out.fzs.all).fzl hu48.out
                    have hn4_ : n_44 ≤ 1000000 := by have h_ := all_len hu48.out; rw [((M.out.1)).len, ((M.out.2.2.1)).len] at h_; omega
                    have hc4_ : n_44 ≤ c_45 := ((M.out.1)).le
                    have e3_0 : decide (n_44 < n_38) = false := decide_eq_false (by omega)
                    have e3_1 : decide ((n_44 : Int) < (n_38 : Int)) = false := decide_eq_false (by omega)
                    have e3_i : ¬ (n_44 : Int) < (n_38 : Int) := by omega
                    have emn_ : min (n_38 : Int) (n_44 : Int) = (n_38 : Int) := by omega
                    have esl_ : (n_38 : Int) ≤ (c_45 : Int) := by omega
                    go_wp2_with fail
                    refine (reSame (G := G) (l := (l_46.take n_38)) (m := l_40) (b_ := true) (RdL.take_ (M.out.1) (by omega)) (M.out.2.1) (by omega) (by omega) (FzL.take (fun x_ hx_ => ⟨(HZ_4.out x_ hx_).1.mono (by omega), (HZ_4.out x_ hx_).2.mono (by omega)⟩) _) (fun x_ hx_ => ⟨(HZ_3.out x_ hx_).1.mono (by omega), (HZ_3.out x_ hx_).2.mono (by omega)⟩) (decide_eq_true HTK.out)).mono ?_
                    rintro e w8 ⟨rfl, hb⟩
                    replace M := Lib.hid (Goes.go M.out hb)
                    clear hb
                    have yr0 := (HRz.out.keep (M.out.2.2.2)).c10; have r0_0 := yr0.1; have r0_1 := yr0.2.1; have r0_2 := yr0.2.2.1; have r0_3 := yr0.2.2.2.1; have r0_4 := yr0.2.2.2.2.1; have r0_5 := yr0.2.2.2.2.2.1; have r0_6 := yr0.2.2.2.2.2.2.1; have r0_7 := yr0.2.2.2.2.2.2.2.1; have r0_8 := yr0.2.2.2.2.2.2.2.2.1; have r0_9 := yr0.2.2.2.2.2.2.2.2.2; clear yr0
                    go_wp2_with fail
                    clear r0_0 r0_1 r0_2 r0_3 r0_4 r0_5 r0_6 r0_7 r0_8 r0_9
                    refine (reAt_some (G := G) (key := key) (yk := yk) (nt := (zn - 1)) (yn := yn) (yq := yq) (yr := yr) (l := l) (Nat.le_trans hG (M.out.2.2.2).size) (HC0.out.keep (M.out.2.2.2)) HOK.out (fun x_ hx_ => ⟨(HZ3.out x_ hx_).1.mono (by omega), (HZ3.out x_ hx_).2.mono (by omega)⟩) HA1.out).mono ?_
                    rintro e w9 ⟨x_49, x_50, x_51, x_52, x_53, x_54, x_55, x_56, rfl, hd57, hd58, hb⟩
                    replace M := Lib.hid (And.intro hd57 (And.intro hd58 (Goes.go M.out hb)))
                    clear hb hd57 hd58
                    have ys_x_49 := TQ.st (M.out.1); have st_x_49 := ys_x_49.1; have st_x_50 := ys_x_49.2.1; have st_x_51 := ys_x_49.2.2.1; have st_x_52 := ys_x_49.2.2.2; clear ys_x_49
                    have ys_x_53 := TQ.st (M.out.2.1); have st_x_53 := ys_x_53.1; have st_x_54 := ys_x_53.2.1; have st_x_55 := ys_x_53.2.2.1; have st_x_56 := ys_x_53.2.2.2; clear ys_x_53
                    go_upto_region 20 with fail
                    clear st_x_49 st_x_50 st_x_51 st_x_52 st_x_53 st_x_54 st_x_55 st_x_56
                    obtain ⟨w10, hv⟩ : ∃ w_ : World, w_ = (w9.alloc (.cells #[.string yk, .int .i64 yn, x_49, x_50, x_51, x_52, x_53, x_54, x_55, x_56] 37)) := ⟨_, rfl⟩
                    rw [← hv]
                    have ow0_ : w.heap.size ≤ w9.heap.size := ((M.out.2.2.2.2.2)).size
                    replace M := Lib.hid (And.intro (hv ▸ bx1 w9 37 #[.string yk, .int .i64 yn, x_49, x_50, x_51, x_52, x_53, x_54, x_55, x_56]) (Goes.go M.out (hv ▸ below_alloc _ _ : Below w9.heap.size w9 w10)))
                    clear hv
                    go_wp2_with fail
                    refine (reAt_some (G := G) (key := key) (yk := yk) (nt := (zn - 1)) (yn := yn) (yq := yq) (yr := yr) (l := l2) (Nat.le_trans hG (M.out.2.2.2.2.2.2).size) (M.out.2.2.2.2.2.1) HK.out (fun x_ hx_ => ⟨(HZ2.out x_ hx_).1.mono (by omega), (HZ2.out x_ hx_).2.mono (by omega)⟩) HA2.out).mono ?_
                    rintro e w11 ⟨x_59, x_60, x_61, x_62, x_63, x_64, x_65, x_66, rfl, hd67, hd68, hb⟩
                    replace M := Lib.hid (And.intro hd67 (And.intro hd68 (Goes.go M.out hb)))
                    clear hb hd67 hd68
                    have ys_x_59 := TQ.st (M.out.1); have st_x_59 := ys_x_59.1; have st_x_60 := ys_x_59.2.1; have st_x_61 := ys_x_59.2.2.1; have st_x_62 := ys_x_59.2.2.2; clear ys_x_59
                    have ys_x_63 := TQ.st (M.out.2.1); have st_x_63 := ys_x_63.1; have st_x_64 := ys_x_63.2.1; have st_x_65 := ys_x_63.2.2.1; have st_x_66 := ys_x_63.2.2.2; clear ys_x_63
                    go_upto_region 21 with fail
                    clear st_x_59 st_x_60 st_x_61 st_x_62 st_x_63 st_x_64 st_x_65 st_x_66
                    obtain ⟨w12, hv⟩ : ∃ w_ : World, w_ = (w11.alloc (.cells #[.string yk, .int .i64 yn, x_59, x_60, x_61, x_62, x_63, x_64, x_65, x_66] 37)) := ⟨_, rfl⟩
                    rw [← hv]
                    have ow1_ : w9.heap.size < w11.heap.size := ((M.out.2.2.1)).lt
                    replace M := Lib.hid (And.intro (hv ▸ bx1 w11 37 #[.string yk, .int .i64 yn, x_59, x_60, x_61, x_62, x_63, x_64, x_65, x_66]) (Goes.go M.out (hv ▸ below_alloc _ _ : Below w11.heap.size w11 w12)))
                    clear hv
                    have y0 := (M.out.2.2.2.1).d10; have p0_0 := y0.1; have p0_1 := y0.2.1; have p0_2 := y0.2.2.1; have p0_3 := y0.2.2.2.1; have p0_4 := y0.2.2.2.2.1; have p0_5 := y0.2.2.2.2.2.1; have p0_6 := y0.2.2.2.2.2.2.1; have p0_7 := y0.2.2.2.2.2.2.2.1; have p0_8 := y0.2.2.2.2.2.2.2.2.1; have p0_9 := y0.2.2.2.2.2.2.2.2.2; clear y0
                    have z0 : w9.heap.size < w12.heap.size := (M.out.2.2.2.1).lt
                    have y1 := (M.out.1).d10; have p1_0 := y1.1; have p1_1 := y1.2.1; have p1_2 := y1.2.2.1; have p1_3 := y1.2.2.2.1; have p1_4 := y1.2.2.2.2.1; have p1_5 := y1.2.2.2.2.2.1; have p1_6 := y1.2.2.2.2.2.2.1; have p1_7 := y1.2.2.2.2.2.2.2.1; have p1_8 := y1.2.2.2.2.2.2.2.2.1; have p1_9 := y1.2.2.2.2.2.2.2.2.2; clear y1
                    have z1 : w11.heap.size < w12.heap.size := (M.out.1).lt
                    go_wp2_with fail
                    clear p0_0 p0_1 p0_2 p0_3 p0_4 p0_5 p0_6 p0_7 p0_8 p0_9 z0 p1_0 p1_1 p1_2 p1_3 p1_4 p1_5 p1_6 p1_7 p1_8 p1_9 z1
                    obtain ⟨w13, hv⟩ : ∃ w_ : World, w_ = ((w12.alloc (.cells #[.string yk, .int .i64 yn, x_49, x_50, x_51, x_52, x_53, x_54, x_55, x_56] 37)).alloc (.cells #[.string yk, .int .i64 yn, x_59, x_60, x_61, x_62, x_63, x_64, x_65, x_66] 37)) := ⟨_, rfl⟩
                    rw [← hv]
                    have ow2_ : w11.heap.size < w12.heap.size := ((M.out.1)).lt
                    have hbx := bx2 w12 37 37 #[.string yk, .int .i64 yn, x_49, x_50, x_51, x_52, x_53, x_54, x_55, x_56] #[.string yk, .int .i64 yn, x_59, x_60, x_61, x_62, x_63, x_64, x_65, x_66]
                    rw [← hv] at hbx
                    have hbn : Below w12.heap.size w12 w13 := by rw [hv]; exact (Below.alloc (Below.alloc (Below.refl _ _) (by simp <;> omega) _) (by simp <;> omega) _)
                    replace M := Lib.hid (And.intro hbx.2 (And.intro hbx.1 (Goes.go M.out hbn)))
                    clear hbx hbn
                    clear hv
                    obtain ⟨ll69, h_⟩ : ∃ l_ : List SC, l_ = [⟨yk, yn, x_49, x_50, x_51, x_52, yq, x_53, x_54, x_55, x_56, yr⟩] := ⟨_, rfl⟩
                    have Ell69 := Lib.hid h_; clear h_
                    obtain ⟨ll70, h_⟩ : ∃ l_ : List SC, l_ = [⟨yk, yn, x_59, x_60, x_61, x_62, yq, x_63, x_64, x_65, x_66, yr⟩] := ⟨_, rfl⟩
                    have Ell70 := Lib.hid h_; clear h_
                    refine (reSame (G := G) (l := ll69) (m := ll70) (b_ := true) (by rw [Ell69.out]; exact RdL.of (OwB.new (α := SC) (M.out.2.1) rfl hG (show w.heap.size ≤ _ by omega) (oks_cons (M.out.2.2.2.2.2.2.1) (M.out.2.2.2.2.2.2.2.1) (fun y_ hy_ => by simp at hy_))).rd rfl (by omega)) (by rw [Ell70.out]; exact RdL.of (OwB.new (α := SC) (M.out.1) rfl hG (show w.heap.size ≤ _ by omega) (oks_cons (M.out.2.2.2.1) (M.out.2.2.2.2.1) (fun y_ hy_ => by simp at hy_))).rd rfl (by omega)) (by decide) (by decide) (by rw [Ell69.out]; exact fun y_ hy_ => by simp at hy_; subst hy_; exact ⟨HZy1.out.mono (by omega), HZy2.out.mono (by omega)⟩) (by rw [Ell70.out]; exact fun y_ hy_ => by simp at hy_; subst hy_; exact ⟨HZy1.out.mono (by omega), HZy2.out.mono (by omega)⟩) (decide_eq_true (by rw [Ell69.out, Ell70.out]; rfl))).mono ?_
                    rintro e w14 ⟨rfl, hb⟩
                    replace M := Lib.hid (Goes.go M.out hb)
                    clear hb
                    go_wp2_with fail
                    go_ret
                    exact ⟨rfl, (M.out.2.2.2.2.2.2.2.2.2.2.2)⟩
                ·
                  have e5 : decide (zn ≤ note) = false := decide_eq_false (by omega)
                  have e5i : ¬ zn ≤ note := by omega
                  have hat_ : atF (allF (l2.map SC.sh) key) note = atF (allF (l.map SC.sh) key) note := HGR.out.at_ key (by rw [HNO.out]; omega)
                  have HAT := Lib.hid hat_; clear hat_
                  rcases at_ways (l.map SC.sh) key note with ha1 | ⟨yk, yn, yq, yr, ha1⟩
                  ·
                    have HA1 := Lib.hid ha1
                    have HA2 := Lib.hid (HAT.out.trans ha1); clear ha1
                    go_wp2_with fail
                    refine (reAll (G := G) (key := key) (l := l) (Nat.le_trans hG (M.out.2).size) (HC0.out.keep (M.out.2)) HOK.out (fun x_ hx_ => ⟨(HZ3.out x_ hx_).1.mono (by omega), (HZ3.out x_ hx_).2.mono (by omega)⟩)).mono ?_
                    rintro e w6 ⟨a_71, n_72, c_73, l_74, rfl, hd75, hu76, hb⟩
                    replace M := Lib.hid (And.intro hd75 (Goes.go M.out hb))
                    clear hb hd75
                    replace hu76 := Lib.hid hu76
                    go_wp2_with fail
                    refine (reAll (G := G) (key := key) (l := l2) (Nat.le_trans hG (M.out.2.2).size) (M.out.2.1) HK.out (fun x_ hx_ => ⟨(HZ2.out x_ hx_).1.mono (by omega), (HZ2.out x_ hx_).2.mono (by omega)⟩)).mono ?_
                    rintro e w7 ⟨a_77, n_78, c_79, l_80, rfl, hd81, hu82, hb⟩
                    replace M := Lib.hid (And.intro hd81 (Goes.go M.out hb))
                    clear hb hd81
                    replace hu82 := Lib.hid hu82
                    have ht_ := allF_take HGR.out hu76.out hu82.out
                    have hln_ : n_72 ≤ n_78 := by have h_ := ht_.2; rw [((M.out.2.1)).len, ((M.out.1)).len] at h_; exact h_
                    have HTK : Hid ((l_80.take n_72).map SC.sh = l_74.map SC.sh) := by have h_ := ht_.1; rw [((M.out.2.1)).len] at h_; exact h_
                    clear ht_
                    have HZ_3 : Hid (FzL l_74 3) := (HZ3.out.fzs.all).fzl hu76.out
                    have HZ_4 : Hid (FzL l_80 3) := (HZ2.out.fzs.all).fzl hu82.out
                    have hn4_ : n_78 ≤ 1000000 := by have h_ := all_len hu82.out; rw [((M.out.1)).len, ((M.out.2.2.1)).len] at h_; omega
                    have hc4_ : n_78 ≤ c_79 := ((M.out.1)).le
                    have e3_0 : decide (n_78 < n_72) = false := decide_eq_false (by omega)
                    have e3_1 : decide ((n_78 : Int) < (n_72 : Int)) = false := decide_eq_false (by omega)
                    have e3_i : ¬ (n_78 : Int) < (n_72 : Int) := by omega
                    have emn_ : min (n_72 : Int) (n_78 : Int) = (n_72 : Int) := by omega
                    have esl_ : (n_72 : Int) ≤ (c_79 : Int) := by omega
                    go_wp2_with fail
                    refine (reSame (G := G) (l := (l_80.take n_72)) (m := l_74) (b_ := true) (RdL.take_ (M.out.1) (by omega)) (M.out.2.1) (by omega) (by omega) (FzL.take (fun x_ hx_ => ⟨(HZ_4.out x_ hx_).1.mono (by omega), (HZ_4.out x_ hx_).2.mono (by omega)⟩) _) (fun x_ hx_ => ⟨(HZ_3.out x_ hx_).1.mono (by omega), (HZ_3.out x_ hx_).2.mono (by omega)⟩) (decide_eq_true HTK.out)).mono ?_
                    rintro e w8 ⟨rfl, hb⟩
                    replace M := Lib.hid (Goes.go M.out hb)
                    clear hb
                    have yr0 := (HRz.out.keep (M.out.2.2.2)).c10; have r0_0 := yr0.1; have r0_1 := yr0.2.1; have r0_2 := yr0.2.2.1; have r0_3 := yr0.2.2.2.1; have r0_4 := yr0.2.2.2.2.1; have r0_5 := yr0.2.2.2.2.2.1; have r0_6 := yr0.2.2.2.2.2.2.1; have r0_7 := yr0.2.2.2.2.2.2.2.1; have r0_8 := yr0.2.2.2.2.2.2.2.2.1; have r0_9 := yr0.2.2.2.2.2.2.2.2.2; clear yr0
                    go_wp2_with fail
                    clear r0_0 r0_1 r0_2 r0_3 r0_4 r0_5 r0_6 r0_7 r0_8 r0_9
                    refine (reAt_none (G := G) (key := key) (nt := note) (l := l) (Nat.le_trans hG (M.out.2.2.2).size) (HC0.out.keep (M.out.2.2.2)) HOK.out (fun x_ hx_ => ⟨(HZ3.out x_ hx_).1.mono (by omega), (HZ3.out x_ hx_).2.mono (by omega)⟩) HA1.out).mono ?_
                    rintro e w9 ⟨rfl, hb⟩
                    replace M := Lib.hid (Goes.go M.out hb)
                    clear hb
                    go_upto_region 20 with fail
                    obtain ⟨w10, hv⟩ : ∃ w_ : World, w_ = (w9.alloc (.cells #[.string (⟨#[]⟩), .int .i64 0, .int .i64 0, .slice none 0 0, .int .i64 0, .slice none 0 0, .int .i64 0, .slice none 0 0, .int .i64 0, .slice none 0 0] 37)) := ⟨_, rfl⟩
                    rw [← hv]
                    have ow0_ : w.heap.size ≤ w9.heap.size := ((M.out.2.2.2)).size
                    replace M := Lib.hid (And.intro (hv ▸ bx1 w9 37 #[.string (⟨#[]⟩), .int .i64 0, .int .i64 0, .slice none 0 0, .int .i64 0, .slice none 0 0, .int .i64 0, .slice none 0 0, .int .i64 0, .slice none 0 0]) (Goes.go M.out (hv ▸ below_alloc _ _ : Below w9.heap.size w9 w10)))
                    clear hv
                    go_wp2_with fail
                    refine (reAt_none (G := G) (key := key) (nt := note) (l := l2) (Nat.le_trans hG (M.out.2.2.2.2).size) (M.out.2.2.2.1) HK.out (fun x_ hx_ => ⟨(HZ2.out x_ hx_).1.mono (by omega), (HZ2.out x_ hx_).2.mono (by omega)⟩) HA2.out).mono ?_
                    rintro e w11 ⟨rfl, hb⟩
                    replace M := Lib.hid (Goes.go M.out hb)
                    clear hb
                    go_upto_region 21 with fail
                    obtain ⟨w12, hv⟩ : ∃ w_ : World, w_ = (w11.alloc (.cells #[.string (⟨#[]⟩), .int .i64 0, .int .i64 0, .slice none 0 0, .int .i64 0, .slice none 0 0, .int .i64 0, .slice none 0 0, .int .i64 0, .slice none 0 0] 37)) := ⟨_, rfl⟩
                    rw [← hv]
                    have ow1_ : w9.heap.size < w11.heap.size := ((M.out.1)).lt
                    replace M := Lib.hid (And.intro (hv ▸ bx1 w11 37 #[.string (⟨#[]⟩), .int .i64 0, .int .i64 0, .slice none 0 0, .int .i64 0, .slice none 0 0, .int .i64 0, .slice none 0 0, .int .i64 0, .slice none 0 0]) (Goes.go M.out (hv ▸ below_alloc _ _ : Below w11.heap.size w11 w12)))
                    clear hv
                    have y0 := (M.out.2.1).d10; have p0_0 := y0.1; have p0_1 := y0.2.1; have p0_2 := y0.2.2.1; have p0_3 := y0.2.2.2.1; have p0_4 := y0.2.2.2.2.1; have p0_5 := y0.2.2.2.2.2.1; have p0_6 := y0.2.2.2.2.2.2.1; have p0_7 := y0.2.2.2.2.2.2.2.1; have p0_8 := y0.2.2.2.2.2.2.2.2.1; have p0_9 := y0.2.2.2.2.2.2.2.2.2; clear y0
                    have z0 : w9.heap.size < w12.heap.size := (M.out.2.1).lt
                    have y1 := (M.out.1).d10; have p1_0 := y1.1; have p1_1 := y1.2.1; have p1_2 := y1.2.2.1; have p1_3 := y1.2.2.2.1; have p1_4 := y1.2.2.2.2.1; have p1_5 := y1.2.2.2.2.2.1; have p1_6 := y1.2.2.2.2.2.2.1; have p1_7 := y1.2.2.2.2.2.2.2.1; have p1_8 := y1.2.2.2.2.2.2.2.2.1; have p1_9 := y1.2.2.2.2.2.2.2.2.2; clear y1
                    have z1 : w11.heap.size < w12.heap.size := (M.out.1).lt
                    go_wp2_with fail
                    clear p0_0 p0_1 p0_2 p0_3 p0_4 p0_5 p0_6 p0_7 p0_8 p0_9 z0 p1_0 p1_1 p1_2 p1_3 p1_4 p1_5 p1_6 p1_7 p1_8 p1_9 z1
                    obtain ⟨w13, hv⟩ : ∃ w_ : World, w_ = ((w12.alloc (.cells #[.string (⟨#[]⟩), .int .i64 0, .int .i64 0, .slice none 0 0, .int .i64 0, .slice none 0 0, .int .i64 0, .slice none 0 0, .int .i64 0, .slice none 0 0] 37)).alloc (.cells #[.string (⟨#[]⟩), .int .i64 0, .int .i64 0, .slice none 0 0, .int .i64 0, .slice none 0 0, .int .i64 0, .slice none 0 0, .int .i64 0, .slice none 0 0] 37)) := ⟨_, rfl⟩
                    rw [← hv]
                    have ow2_ : w11.heap.size < w12.heap.size := ((M.out.1)).lt
                    have hbx := bx2 w12 37 37 #[.string (⟨#[]⟩), .int .i64 0, .int .i64 0, .slice none 0 0, .int .i64 0, .slice none 0 0, .int .i64 0, .slice none 0 0, .int .i64 0, .slice none 0 0] #[.string (⟨#[]⟩), .int .i64 0, .int .i64 0, .slice none 0 0, .int .i64 0, .slice none 0 0, .int .i64 0, .slice none 0 0, .int .i64 0, .slice none 0 0]
                    rw [← hv] at hbx
                    have hbn : Below w12.heap.size w12 w13 := by rw [hv]; exact (Below.alloc (Below.alloc (Below.refl _ _) (by simp <;> omega) _) (by simp <;> omega) _)
                    replace M := Lib.hid (And.intro hbx.2 (And.intro hbx.1 (Goes.go M.out hbn)))
                    clear hbx hbn
                    clear hv
                    refine (reSame_o (G := G) (l := zeroL) (m := zeroL) (b_ := true) (RdL.of (OwB.new (α := SQ) (M.out.2.1) rfl hG (show w.heap.size ≤ _ by omega) zeroL_ok).rd (show zeroL.length = 1 from rfl) (Nat.le_refl 1)) (RdL.of (OwB.new (α := SQ) (M.out.1) rfl hG (show w.heap.size ≤ _ by omega) zeroL_ok).rd (show zeroL.length = 1 from rfl) (Nat.le_refl 1)) (by decide) (by decide) zeroL_oz zeroL_oz (decide_eq_true rfl)).mono ?_
                    rintro e w14 ⟨rfl, hb⟩
                    replace M := Lib.hid (Goes.go M.out hb)
                    clear hb
                    go_wp2_with fail
                    go_ret
                    exact ⟨rfl, (M.out.2.2.2.2.2.2.2)⟩
                  ·
                    have HA1 := Lib.hid ha1
                    have HA2 := Lib.hid (HAT.out.trans ha1)
                    have hz_ := at_fz HZ3.out ha1
                    have HZy1 := Lib.hid hz_.1; have HZy2 := Lib.hid hz_.2; clear hz_ ha1
                    go_wp2_with fail
                    refine (reAll (G := G) (key := key) (l := l) (Nat.le_trans hG (M.out.2).size) (HC0.out.keep (M.out.2)) HOK.out (fun x_ hx_ => ⟨(HZ3.out x_ hx_).1.mono (by omega), (HZ3.out x_ hx_).2.mono (by omega)⟩)).mono ?_
                    rintro e w6 ⟨a_83, n_84, c_85, l_86, rfl, hd87, hu88, hb⟩
                    replace M := Lib.hid (And.intro hd87 (Goes.go M.out hb))
                    clear hb hd87
                    replace hu88 := Lib.hid hu88
                    go_wp2_with fail
                    refine (reAll (G := G) (key := key) (l := l2) (Nat.le_trans hG (M.out.2.2).size) (M.out.2.1) HK.out (fun x_ hx_ => ⟨(HZ2.out x_ hx_).1.mono (by omega), (HZ2.out x_ hx_).2.mono (by omega)⟩)).mono ?_
                    rintro e w7 ⟨a_89, n_90, c_91, l_92, rfl, hd93, hu94, hb⟩
                    replace M := Lib.hid (And.intro hd93 (Goes.go M.out hb))
                    clear hb hd93
                    replace hu94 := Lib.hid hu94
                    have ht_ := allF_take HGR.out hu88.out hu94.out
                    have hln_ : n_84 ≤ n_90 := by have h_ := ht_.2; rw [((M.out.2.1)).len, ((M.out.1)).len] at h_; exact h_
                    have HTK : Hid ((l_92.take n_84).map SC.sh = l_86.map SC.sh) := by have h_ := ht_.1; rw [((M.out.2.1)).len] at h_; exact h_
                    clear ht_
                    have HZ_3 : Hid (FzL l_86 3) := (HZ3.out.fzs.all).fzl hu88.out
                    have HZ_4 : Hid (FzL l_92 3) := (HZ2.out.fzs.all).fzl hu94.out
                    have hn4_ : n_90 ≤ 1000000 := by have h_ := all_len hu94.out; rw [((M.out.1)).len, ((M.out.2.2.1)).len] at h_; omega
                    have hc4_ : n_90 ≤ c_91 := ((M.out.1)).le
                    have e3_0 : decide (n_90 < n_84) = false := decide_eq_false (by omega)
                    have e3_1 : decide ((n_90 : Int) < (n_84 : Int)) = false := decide_eq_false (by omega)
                    have e3_i : ¬ (n_90 : Int) < (n_84 : Int) := by omega
                    have emn_ : min (n_84 : Int) (n_90 : Int) = (n_84 : Int) := by omega
                    have esl_ : (n_84 : Int) ≤ (c_91 : Int) := by omega
                    go_wp2_with fail
                    refine (reSame (G := G) (l := (l_92.take n_84)) (m := l_86) (b_ := true) (RdL.take_ (M.out.1) (by omega)) (M.out.2.1) (by omega) (by omega) (FzL.take (fun x_ hx_ => ⟨(HZ_4.out x_ hx_).1.mono (by omega), (HZ_4.out x_ hx_).2.mono (by omega)⟩) _) (fun x_ hx_ => ⟨(HZ_3.out x_ hx_).1.mono (by omega), (HZ_3.out x_ hx_).2.mono (by omega)⟩) (decide_eq_true HTK.out)).mono ?_
                    rintro e w8 ⟨rfl, hb⟩
                    replace M := Lib.hid (Goes.go M.out hb)
                    clear hb
                    have yr0 := (HRz.out.keep (M.out.2.2.2)).c10; have r0_0 := yr0.1; have r0_1 := yr0.2.1; have r0_2 := yr0.2.2.1; have r0_3 := yr0.2.2.2.1; have r0_4 := yr0.2.2.2.2.1; have r0_5 := yr0.2.2.2.2.2.1; have r0_6 := yr0.2.2.2.2.2.2.1; have r0_7 := yr0.2.2.2.2.2.2.2.1; have r0_8 := yr0.2.2.2.2.2.2.2.2.1; have r0_9 := yr0.2.2.2.2.2.2.2.2.2; clear yr0
                    go_wp2_with fail
                    clear r0_0 r0_1 r0_2 r0_3 r0_4 r0_5 r0_6 r0_7 r0_8 r0_9
                    refine (reAt_some (G := G) (key := key) (yk := yk) (nt := note) (yn := yn) (yq := yq) (yr := yr) (l := l) (Nat.le_trans hG (M.out.2.2.2).size) (HC0.out.keep (M.out.2.2.2)) HOK.out (fun x_ hx_ => ⟨(HZ3.out x_ hx_).1.mono (by omega), (HZ3.out x_ hx_).2.mono (by omega)⟩) HA1.out).mono ?_
                    rintro e w9 ⟨x_95, x_96, x_97, x_98, x_99, x_100, x_101, x_102, rfl, hd103, hd104, hb⟩
                    replace M := Lib.hid (And.intro hd103 (And.intro hd104 (Goes.go M.out hb)))
                    clear hb hd103 hd104
                    have ys_x_95 := TQ.st (M.out.1); have st_x_95 := ys_x_95.1; have st_x_96 := ys_x_95.2.1; have st_x_97 := ys_x_95.2.2.1; have st_x_98 := ys_x_95.2.2.2; clear ys_x_95
                    have ys_x_99 := TQ.st (M.out.2.1); have st_x_99 := ys_x_99.1; have st_x_100 := ys_x_99.2.1; have st_x_101 := ys_x_99.2.2.1; have st_x_102 := ys_x_99.2.2.2; clear ys_x_99
                    go_upto_region 20 with fail
                    clear st_x_95 st_x_96 st_x_97 st_x_98 st_x_99 st_x_100 st_x_101 st_x_102
                    obtain ⟨w10, hv⟩ : ∃ w_ : World, w_ = (w9.alloc (.cells #[.string yk, .int .i64 yn, x_95, x_96, x_97, x_98, x_99, x_100, x_101, x_102] 37)) := ⟨_, rfl⟩
                    rw [← hv]
                    have ow0_ : w.heap.size ≤ w9.heap.size := ((M.out.2.2.2.2.2)).size
                    replace M := Lib.hid (And.intro (hv ▸ bx1 w9 37 #[.string yk, .int .i64 yn, x_95, x_96, x_97, x_98, x_99, x_100, x_101, x_102]) (Goes.go M.out (hv ▸ below_alloc _ _ : Below w9.heap.size w9 w10)))
                    clear hv
                    go_wp2_with fail
                    refine (reAt_some (G := G) (key := key) (yk := yk) (nt := note) (yn := yn) (yq := yq) (yr := yr) (l := l2) (Nat.le_trans hG (M.out.2.2.2.2.2.2).size) (M.out.2.2.2.2.2.1) HK.out (fun x_ hx_ => ⟨(HZ2.out x_ hx_).1.mono (by omega), (HZ2.out x_ hx_).2.mono (by omega)⟩) HA2.out).mono ?_
                    rintro e w11 ⟨x_105, x_106, x_107, x_108, x_109, x_110, x_111, x_112, rfl, hd113, hd114, hb⟩
                    replace M := Lib.hid (And.intro hd113 (And.intro hd114 (Goes.go M.out hb)))
                    clear hb hd113 hd114
                    have ys_x_105 := TQ.st (M.out.1); have st_x_105 := ys_x_105.1; have st_x_106 := ys_x_105.2.1; have st_x_107 := ys_x_105.2.2.1; have st_x_108 := ys_x_105.2.2.2; clear ys_x_105
                    have ys_x_109 := TQ.st (M.out.2.1); have st_x_109 := ys_x_109.1; have st_x_110 := ys_x_109.2.1; have st_x_111 := ys_x_109.2.2.1; have st_x_112 := ys_x_109.2.2.2; clear ys_x_109
                    go_upto_region 21 with fail
                    clear st_x_105 st_x_106 st_x_107 st_x_108 st_x_109 st_x_110 st_x_111 st_x_112
                    obtain ⟨w12, hv⟩ : ∃ w_ : World, w_ = (w11.alloc (.cells #[.string yk, .int .i64 yn, x_105, x_106, x_107, x_108, x_109, x_110, x_111, x_112] 37)) := ⟨_, rfl⟩
                    rw [← hv]
                    have ow1_ : w9.heap.size < w11.heap.size := ((M.out.2.2.1)).lt
                    replace M := Lib.hid (And.intro (hv ▸ bx1 w11 37 #[.string yk, .int .i64 yn, x_105, x_106, x_107, x_108, x_109, x_110, x_111, x_112]) (Goes.go M.out (hv ▸ below_alloc _ _ : Below w11.heap.size w11 w12)))
                    clear hv
                    have y0 := (M.out.2.2.2.1).d10; have p0_0 := y0.1; have p0_1 := y0.2.1; have p0_2 := y0.2.2.1; have p0_3 := y0.2.2.2.1; have p0_4 := y0.2.2.2.2.1; have p0_5 := y0.2.2.2.2.2.1; have p0_6 := y0.2.2.2.2.2.2.1; have p0_7 := y0.2.2.2.2.2.2.2.1; have p0_8 := y0.2.2.2.2.2.2.2.2.1; have p0_9 := y0.2.2.2.2.2.2.2.2.2; clear y0
                    have z0 : w9.heap.size < w12.heap.size := (M.out.2.2.2.1).lt
                    have y1 := (M.out.1).d10; have p1_0 := y1.1; have p1_1 := y1.2.1; have p1_2 := y1.2.2.1; have p1_3 := y1.2.2.2.1; have p1_4 := y1.2.2.2.2.1; have p1_5 := y1.2.2.2.2.2.1; have p1_6 := y1.2.2.2.2.2.2.1; have p1_7 := y1.2.2.2.2.2.2.2.1; have p1_8 := y1.2.2.2.2.2.2.2.2.1; have p1_9 := y1.2.2.2.2.2.2.2.2.2; clear y1
                    have z1 : w11.heap.size < w12.heap.size := (M.out.1).lt
                    go_wp2_with fail
                    clear p0_0 p0_1 p0_2 p0_3 p0_4 p0_5 p0_6 p0_7 p0_8 p0_9 z0 p1_0 p1_1 p1_2 p1_3 p1_4 p1_5 p1_6 p1_7 p1_8 p1_9 z1
                    obtain ⟨w13, hv⟩ : ∃ w_ : World, w_ = ((w12.alloc (.cells #[.string yk, .int .i64 yn, x_95, x_96, x_97, x_98, x_99, x_100, x_101, x_102] 37)).alloc (.cells #[.string yk, .int .i64 yn, x_105, x_106, x_107, x_108, x_109, x_110, x_111, x_112] 37)) := ⟨_, rfl⟩
                    rw [← hv]
                    have ow2_ : w11.heap.size < w12.heap.size := ((M.out.1)).lt
                    have hbx := bx2 w12 37 37 #[.string yk, .int .i64 yn, x_95, x_96, x_97, x_98, x_99, x_100, x_101, x_102] #[.string yk, .int .i64 yn, x_105, x_106, x_107, x_108, x_109, x_110, x_111, x_112]
                    rw [← hv] at hbx
                    have hbn : Below w12.heap.size w12 w13 := by rw [hv]; exact (Below.alloc (Below.alloc (Below.refl _ _) (by simp <;> omega) _) (by simp <;> omega) _)
                    replace M := Lib.hid (And.intro hbx.2 (And.intro hbx.1 (Goes.go M.out hbn)))
                    clear hbx hbn
                    clear hv
                    obtain ⟨ll115, h_⟩ : ∃ l_ : List SC, l_ = [⟨yk, yn, x_95, x_96, x_97, x_98, yq, x_99, x_100, x_101, x_102, yr⟩] := ⟨_, rfl⟩
                    have Ell115 := Lib.hid h_; clear h_
                    obtain ⟨ll116, h_⟩ : ∃ l_ : List SC, l_ = [⟨yk, yn, x_105, x_106, x_107, x_108, yq, x_109, x_110, x_111, x_112, yr⟩] := ⟨_, rfl⟩
                    have Ell116 := Lib.hid h_; clear h_
                    refine (reSame (G := G) (l := ll115) (m := ll116) (b_ := true) (by rw [Ell115.out]; exact RdL.of (OwB.new (α := SC) (M.out.2.1) rfl hG (show w.heap.size ≤ _ by omega) (oks_cons (M.out.2.2.2.2.2.2.1) (M.out.2.2.2.2.2.2.2.1) (fun y_ hy_ => by simp at hy_))).rd rfl (by omega)) (by rw [Ell116.out]; exact RdL.of (OwB.new (α := SC) (M.out.1) rfl hG (show w.heap.size ≤ _ by omega) (oks_cons (M.out.2.2.2.1) (M.out.2.2.2.2.1) (fun y_ hy_ => by simp at hy_))).rd rfl (by omega)) (by decide) (by decide) (by rw [Ell115.out]; exact fun y_ hy_ => by simp at hy_; subst hy_; exact ⟨HZy1.out.mono (by omega), HZy2.out.mono (by omega)⟩) (by rw [Ell116.out]; exact fun y_ hy_ => by simp at hy_; subst hy_; exact ⟨HZy1.out.mono (by omega), HZy2.out.mono (by omega)⟩) (decide_eq_true (by rw [Ell115.out, Ell116.out]; rfl))).mono ?_
                    rintro e w14 ⟨rfl, hb⟩
                    replace M := Lib.hid (Goes.go M.out hb)
                    clear hb
                    go_wp2_with fail
                    go_ret
                    exact ⟨rfl, (M.out.2.2.2.2.2.2.2.2.2.2.2)⟩
          | true =>
            go_wp2_with fail
            go_ret
            exact ⟨rfl, M.out⟩
      | true =>
        go_wp2_with fail
        go_ret
        exact ⟨rfl, M.out⟩
end Go.Proofs.Ytlpcblhkddmlnaa
