/- The reference: refusals of Show and Deltas. -/
import Derived.Test.YtlpcblhkddmlnaaBase
import Derived.Test.YtlpcblhkddmlnaaBigSpec
import Derived.Test.YtlpcblhkddmlnaaBigB
import Derived.Test.YtlpcblhkddmlnaaBigC
import Derived.Test.YtlpcblhkddmlnaaBigD
import Derived.Test.YtlpcblhkddmlnaaBigK
import Derived.Test.YtlpcblhkddmlnaaBigL
import Derived.Test.YtlpcblhkddmlnaaBigQ
import Derived.Test.YtlpcblhkddmlnaaFd
import Derived.Test.YtlpcblhkddmlnaaHeld
import Derived.Test.YtlpcblhkddmlnaaAw
import Derived.Test.YtlpcblhkddmlnaaFz
import Derived.Test.YtlpcblhkddmlnaaFracR
import Derived.Test.YtlpcblhkddmlnaaRefG
import Derived.Test.YtlpcblhkddmlnaaRw
import Derived.Test.YtlpcblhkddmlnaaReA
import Derived.Test.YtlpcblhkddmlnaaReB
import Derived.Test.YtlpcblhkddmlnaaReD
import Derived.Test.YtlpcblhkddmlnaaReP
import Derived.Test.YtlpcblhkddmlnaaReS
import Derived.Test.YtlpcblhkddmlnaaReQ
import Derived.Test.YtlpcblhkddmlnaaSpanN
import Derived.Test.YtlpcblhkddmlnaaReW
import Derived.Test.YtlpcblhkddmlnaaProg
import Derived.Test.YtlpcblhkddmlnaaShelf
import Derived.WalkKit
import Derived.WalkSpells
import Derived.WalkLawsBesides
import Derived.Handy
import Derived.Lib.Hide
import Derived.Lib.Strings
import Derived.Lib.Builder
import Derived.BigQuiet
import Derived.OwnWalk
import Derived.Laws.BitsLemmas
import Derived.WalkSmall
import Derived.Deep.QuietTactic
import Derived.StillTailTactics
import Derived.Maps.AppendAt
import Derived.IntWalk
import Derived.Deep.RegionHeld3
import Derived.Deep.DeepFit
import Derived.Deep.LoopGhost
import Derived.Deep.DeepCutAuto
import Derived.Lib.ItoaNum
import Derived.Lib.Repeat
import Derived.Lib.AppendIntMem
import Derived.Sort.OwnSorted
import Derived.Shelf.Strings.SlTrimAscii
import Derived.Lib.ConvBytes
import Derived.Lib.CutLaws
import Derived.Maps.Own
import Derived.Maps.Views
import Derived.Maps.OwnOps
import Derived.RangeFuncNested
import Derived.RangeFuncBound
import Derived.RangeFuncCalls
import Derived.RangeFuncLeaves
import Derived.Shelf.Abstract
import Derived.Shelf.RegionOpen
import Derived.OwnWalkIn
import Derived.TacticsInMore
import Derived.LoopNIn
import Derived.LoopIn
import Derived.Laws.RangeAny
namespace Go.Proofs.Ytlpcblhkddmlnaa
open Go.RowKit Go.Lib
variable {G : Nat}

theorem key_map {l : List SC} {ls : List SR} (h : l.map SC.sh = ls.map SR.sh) : ls.map SR.key = l.map SC.key := by
 have h1 := congrArg (List.map Sh.key) h
 rw [List.map_map, List.map_map] at h1
 exact h1.symm
theorem lastC {l : List SC} {ls : List SR} {key : ByteArray} {n : Nat} (h : l.map SC.sh = ls.map SR.sh) (hn : l.length = n) : lastK (l.map SC.sh) key = (lastN (ls.map SR.key) n key).bind (fun i => (l.map SC.sh)[i]?) := by
 have h1 := lastN_lastK (l := l.map SC.sh) (k := key) n (by rw [List.length_map, hn]; exact Nat.le_refl _)
 rw [List.take_of_length_le (by rw [List.length_map, hn]; exact Nat.le_refl _)] at h1
 rw [h1, List.map_map, key_map h]; rfl
theorem lastC_none {l : List SC} {ls : List SR} {key : ByteArray} {n : Nat} (h : l.map SC.sh = ls.map SR.sh) (hn : l.length = n) (hl : lastN (ls.map SR.key) n key = none) : lastK (l.map SC.sh) key = none := by rw [lastC h hn, hl]; rfl
theorem lastC_some {l : List SC} {ls : List SR} {key : ByteArray} {n j : Nat} {y : SC} (h : l.map SC.sh = ls.map SR.sh) (hn : l.length = n) (hl : lastN (ls.map SR.key) n key = some j) (hy : l[j]? = some y) : lastK (l.map SC.sh) key = some y.sh := by
 rw [lastC h hn, hl]; show (l.map SC.sh)[j]? = _; rw [List.getElem?_map, hy]; rfl
theorem shown_true2 {k : ByteArray} {n : Int} {q r : Rat} (h : okSh keyOk ⟨k, n, q, r⟩) : (keyOk k && (decide (0 ≤ n) && (decide (n ≤ 1099511627776) && rightX (some q) (some r)))) = true := by
 obtain ⟨h1, h2, h3, h4⟩ := h
 rw [h1, decide_eq_true h2, decide_eq_true h3]
 show rightX (some q) (some r) = true
 unfold rightX
 exact decide_eq_true h4
set_option maxRecDepth 100000 in
set_option maxHeartbeats 40000000 in
theorem rShow_c {key : ByteArray} {note : Int} {u0 u1 u2 u3 v0 v1 v2 v3 : Value} {q r : Rat} {er : Int} {rs : List Sh} {l : List SC} {ls : List SR} {a : Option Addr} {n c : Nat} {w : World} (hG : G ≤ w.heap.size) (h : RdC G w a n c l) (h0 : RdR G w a n c ls) (hs : ∀ x ∈ ls, fewR x = true) (hr : rightL keyOk ls = true) (ok : OkL keyOk (l.map SC.sh)) (hz : FzL l 100000000) (hll : l.map SC.sh = ls.map SR.sh) {n1 m1 n2 m2 : Nat} (h1 : FX w u0 u1 u2 u3 n1 m1 (some q)) (h2 : FX w v0 v1 v2 v3 n2 m2 (some r)) (hf1 : fewF n1 m1 = true) (hf2 : fewF n2 m2 = true) (h3 : FQ G w u0 u1 u2 u3 q) (h4 : FQ G w v0 v1 v2 v3 r) (hz1 : Fz q 100000000) (hz2 : Fz r 100000000) (_hks : key.size ≤ 9223372036854775807) (hos : okSh keyOk ⟨key, note, q, r⟩) (hsh : showR (l.map SC.sh) ⟨key, note, q, r⟩ = (er, rs)) :
  Calls Try.prog 11 #[.slice a n c, .string key, .int .i64 note, .agg #[u0, u1, u2, u3, v0, v1, v2, v3]] w fun e w' => ∃ a2 n2 c2 l2, e = .returned (.tuple #[.slice a2 n2 c2, .int .i64 er]) ∧ RdC G w' a2 n2 c2 l2 ∧ l2.map SC.sh = rs ∧ Below w.heap.size w w' := by
 have hn : n ≤ 2000 := by rw [← h.len]; have h_ := ok.len; rw [List.length_map] at h_; exact h_
 have HOK := Lib.hid ok; have HZ := Lib.hid hz; have HS := Lib.hid hs; have HR := Lib.hid hr; have HLL := Lib.hid hll; have HF1 := Lib.hid hf1; have HF2 := Lib.hid hf2; have HZq := Lib.hid hz1; have HZr := Lib.hid hz2; have HSH := Lib.hid hsh; have hnt0 : 0 ≤ note := hos.2.1
 have HOS := Lib.hid hos; clear ok hz hs hr hll hf1 hf2 hz1 hz2 hos hsh
 have HL : Hid (RdC G w a n c l) := h
 have HL0 : Hid (RdR G w a n c ls) := h0
 have H1 : Hid (FX w u0 u1 u2 u3 n1 m1 (some q)) := h1
 have H2 : Hid (FX w v0 v1 v2 v3 n2 m2 (some r)) := h2
 have H3 : Hid (FQ G w u0 u1 u2 u3 q) := h3
 have H4 : Hid (FQ G w v0 v1 v2 v3 r) := h4
 clear h h0 h1 h2 h3 h4
 have M : Hid (Below w.heap.size w w) := Below.refl _ _
 go_enter Try.func11, Try.ntmps11
 go_upto_region 1 with fail
 refine nmW (w.alloc (.cells #[u0, u1, u2, u3, v0, v1, v2, v3] 29)) fun w1 hv => ?_
 rw [← hv]
 replace M := alM hv M
 clear hv
 refine cj8 (M.out.1).d8 fun p0_0 p0_1 p0_2 p0_3 p0_4 p0_5 p0_6 p0_7 => ?_
 have z0 : w.heap.size < w1.heap.size := (M.out.1).lt
 refine cj4 (FX.st (H1.out.keep (M.out.2))) fun st_u0 st_u1 st_u2 st_u3 => ?_
 refine cj4 (FX.st (H2.out.keep (M.out.2))) fun st_v0 st_v1 st_v2 st_v3 => ?_
 go_upto_region 2 with fail
 clear p0_0 p0_1 p0_2 p0_3 p0_4 p0_5 p0_6 p0_7 z0 st_u0 st_u1 st_u2 st_u3 st_v0 st_v1 st_v2 st_v3
 refine nmW (w1.alloc (.cells #[.string key, .int .i64 note, u0, u1, u2, u3, v0, v1, v2, v3] 37)) fun w2 hv => ?_
 rw [← hv]
 have ow1_ : w.heap.size < w1.heap.size := ((M.out.1)).lt
 replace M := alM hv M
 clear hv
 go_wp2_with fail
 refine (rRight_g (G := G) (l := ls) (b_ := true) (Nat.le_trans hG (M.out.2.2).size) (HL0.out.keep (M.out.2.2)) (by omega) HS.out HR.out).mono ?_
 rintro e w3 ⟨rfl, hb⟩
 replace M := gnM hb M
 clear hb
 refine cj10 (M.out.1).d10 fun p1_0 p1_1 p1_2 p1_3 p1_4 p1_5 p1_6 p1_7 p1_8 p1_9 => ?_
 go_wp2_with fail
 clear p1_0 p1_1 p1_2 p1_3 p1_4 p1_5 p1_6 p1_7 p1_8 p1_9
 refine (rOne_x (key := key) (note := note) (o1 := (some q)) (o2 := (some r)) (t6 := (rightX (some q) (some r))) (b_ := true) (by omega) (H1.out.keep (M.out.2.2)) (H2.out.keep (M.out.2.2)) HF1.out HF2.out rfl (shown_true2 HOS.out)).mono ?_
 rintro e w4 ⟨rfl, hb⟩
 replace M := gnM hb M
 clear hb
 go_upto_region 4 with fail
 have hw : n = 0 ∨ (0 < n ∧ note < noteOf (l.map SC.sh)) ∨ (0 < n ∧ ¬ note < noteOf (l.map SC.sh)) := by by_cases h_ : note < noteOf (l.map SC.sh) <;> omega
 rcases hw with hn0 | ⟨hnp, hday⟩ | ⟨hnp, hday⟩
 ·
  have hnz0 : n ≤ 0 := by omega
  clear hn0
  have e5_0 : decide (0 < n) = false := decide_eq_false (by omega)
  have e5_1 : decide (0 < (n : Int)) = false := decide_eq_false (by omega)
  have e5_i : ¬ 0 < (n : Int) := by omega
  have HND : Hid (noteOf (l.map SC.sh) ≤ note) := by show _ ≤ _; rw [show l = [] from List.length_eq_zero_iff.1 (by rw [HL.out.len]; omega)]; show 0 ≤ note; omega
  go_upto_region 6 with fail
  have hw : (lastN (ls.map SR.key) n key = none ∧ n = 2000) ∨ (lastN (ls.map SR.key) n key = none ∧ n ≠ 2000) ∨ ∃ j, lastN (ls.map SR.key) n key = some j := by cases h_ : lastN (ls.map SR.key) n key with | none => by_cases h2_ : n = 2000 <;> simp [h2_] | some j => exact .inr (.inr ⟨j, rfl⟩)
  rcases hw with ⟨hln, hf⟩ | ⟨hln, hf⟩ | ⟨j, hln⟩
  ·
   have HLN := Lib.hid hln
   have HLK : Hid (lastK (l.map SC.sh) key = none) := lastC_none HLL.out HL.out.len HLN.out
   clear hln
   have HRS : Hid (showR (l.map SC.sh) ⟨key, note, q, r⟩ = (6, [])) := by show _ = _; rw [sh_none (Int.not_lt.2 HND.out) HLK.out, if_pos (by rw [List.length_map, HL.out.len]; omega)]
   have ef_0 : decide (2000 ≤ n) = true := decide_eq_true (by omega)
   have ef_1 : decide (2000 ≤ (n : Int)) = true := decide_eq_true (by omega)
   have ef_i : 2000 ≤ (n : Int) := by omega
   clear hf
   go_wp2_with fail
   refine (rLastI_none (G := G) (key := key) (l := ls) (HL0.out.keep (M.out.2.2)) (by omega) (by omega) HLN.out).mono ?_
   rintro e w5 ⟨rfl, hb⟩
   replace M := gnM hb M
   clear hb
   go_wp2_with fail
   have HEQ := Lib.hid (HRS.out.symm.trans HSH.out)
   obtain ⟨rfl, rfl⟩ := Prod.mk.inj HEQ.out.symm
   go_ret2
   exact ⟨none, 0, 0, [], rfl, RdL.nil _ _ _, rfl, (M.out.2.2)⟩
  ·
   have HLN := Lib.hid hln
   have HLK : Hid (lastK (l.map SC.sh) key = none) := lastC_none HLL.out HL.out.len HLN.out
   clear hln
   have HRS : Hid (showR (l.map SC.sh) ⟨key, note, q, r⟩ = (0, l.map SC.sh ++ [⟨key, note, q, r⟩])) := by show _ = _; rw [sh_none (Int.not_lt.2 HND.out) HLK.out, if_neg (by rw [List.length_map, HL.out.len]; omega)]
   have ef_0 : decide (2000 ≤ n) = false := decide_eq_false (by omega)
   have ef_1 : decide (2000 ≤ (n : Int)) = false := decide_eq_false (by omega)
   have ef_i : ¬ 2000 ≤ (n : Int) := by omega
   clear hf
   go_wp2_with fail
   refine (rLastI_none (G := G) (key := key) (l := ls) (HL0.out.keep (M.out.2.2)) (by omega) (by omega) HLN.out).mono ?_
   rintro e w5 ⟨rfl, hb⟩
   replace M := gnM hb M
   clear hb
   go_upto_region 14 with fail
   have hB0_ : w.heap.size ≤ w5.heap.size := ((M.out.2.2)).size
   have hGB_ : G ≤ w5.heap.size := Nat.le_trans hG hB0_
   have hlt0_ : w1.heap.size < w5.heap.size := ((M.out.1)).lt
   have hlt1_ : w.heap.size < w5.heap.size := ((M.out.2.1)).lt
   replace M := Lib.hid (And.intro (Below.refl w5.heap.size w5) M.out)
   go_wp2_with fail
   refine nmW w5.drew fun w6 hv => ?_
   replace M := drM hv M
   refine wp_region_held_drew (S := (fun w' => w'.cell? ⟨w1.heap.size, 0, none⟩ = some (.string key) ∧ w'.cell? ⟨w1.heap.size, 1, none⟩ = some (.int .i64 note) ∧ w'.cell? ⟨w1.heap.size, 2, none⟩ = some (u0) ∧ w'.cell? ⟨w1.heap.size, 3, none⟩ = some (u1) ∧ w'.cell? ⟨w1.heap.size, 4, none⟩ = some (u2) ∧ w'.cell? ⟨w1.heap.size, 5, none⟩ = some (u3) ∧ w'.cell? ⟨w1.heap.size, 6, none⟩ = some (v0) ∧ w'.cell? ⟨w1.heap.size, 7, none⟩ = some (v1) ∧ w'.cell? ⟨w1.heap.size, 8, none⟩ = some (v2) ∧ w'.cell? ⟨w1.heap.size, 9, none⟩ = some (v3))) (by kernel_rfl) (by rw [← hv]; exact (M.out.2.1).d10) (fun hH1 => ?_)
   rw [← hv] at hH1 ⊢
   clear hv
   refine tk at1 ?_
   refine tk at3 ?_
   refine wpAnyH_ready (rs := [0, 4]) (by kernel_rfl) (by simp) ?_
   refine AllReadyH.cons at0 (fun K hK => ?_) ?_
   ·
    go_simp
    refine nmW (w6.alloc (.cells #[] 37)) fun w7 hv => ?_
    rw [← hv]
    have ow2_ : w1.heap.size < w6.heap.size := ((M.out.2.1)).lt
    have ob2_ : w5.heap.size ≤ w6.heap.size := ((M.out.1)).size
    replace M := alM hv M
    clear hv
    refine hK.out _ _ ((M.out.2.2.1).d10) (fun hH2 => ?_)
    clear hK K hH1
    (try simp only [Act.put, List.setIfInBounds_toArray, List.set_cons_zero, List.set_cons_succ])
    refine wpAnyH_ready (rs := [2, 4]) (by kernel_rfl) (by simp) ?_
    refine AllReadyH.cons at2 (fun K hK => ?_) ?_
    ·
     rw [if_pos (by rfl)]
     refine wp_copyE elemSh (M.out.1) hGB_ (by omega) (HL.out.keep (M.out.2.2.2.2)) (by rfl) (by omega) (by omega) rfl rfl rfl (fun vv_3 w8 ho_ hg_ => ?_)
     replace M := Lib.hid (And.intro ho_ (And.intro (Below.grown (M.out.2.1) hg_ (M.out.2.1).size (fun k_ hk_ => by cases hk_; omega)) (And.intro ((M.out.2.2.1).only hg_ (by omega)) (And.intro ((M.out.2.2.2.1).only hg_ (by omega)) (Below.grown (M.out.2.2.2.2) hg_ (M.out.2.2.2.2).size (fun k_ hk_ => by cases hk_; omega))))))
     clear ho_ hg_
     refine hK.out _ _ ((M.out.2.2.1).d10) (fun hH4 => ?_)
     clear hK K hH2
     (try simp only [Act.put, List.setIfInBounds_toArray, List.set_cons_zero, List.set_cons_succ])
     refine wpAnyH_ready (rs := [4]) (by kernel_rfl) (by simp) ?_
     refine AllReadyH.cons at4 (fun K hK => ?_) AllReadyH.nil
     go_simp
     refine nmW (w8.alloc (.cells #[.string key, .int .i64 note, u0, u1, u2, u3, v0, v1, v2, v3] 37)) fun w9 hv => ?_
     rw [← hv]
     have ow3_ : w1.heap.size < w8.heap.size := ((M.out.2.2.1)).lt
     have ob3_ : w5.heap.size ≤ w8.heap.size := ((M.out.2.1)).size
     have no_b3_vv_3 := OwV.no (M.out.1)
     replace M := alM hv M
     clear hv
     refine hK.out _ _ ((M.out.2.2.2.1).d10) (fun hH5 => ?_)
     clear hK K hH4
     (try simp only [Act.put, List.setIfInBounds_toArray, List.set_cons_zero, List.set_cons_succ])
     refine wpAnyH_ready (rs := [5]) (by kernel_rfl) (by simp) ?_
     refine AllReadyH.cons at5 (fun K hK => ?_) AllReadyH.nil
     rw [if_pos (by rfl)]
     refine wp_push1 (M.out.2.1) HL.out.len elemSh (⟨key, note, u0, u1, u2, u3, q, v0, v1, v2, v3, r⟩ : SC) (M.out.1) rfl ⟨(H3.out.keep (M.out.2.2.2.2.2)), (H4.out.keep (M.out.2.2.2.2.2))⟩ (by rfl) (by omega) (by omega) (M.out.2.2.1).size rfl rfl rfl (fun g_6 d_7 w10 ho_ hd_ hg_ => ?_)
     replace M := Lib.hid (And.intro ho_ (And.intro (below_grown (M.out.2.2.1) (M.out.2.1).own (Nat.le_refl _) (M.out.2.2.1).size hg_) (And.intro ((M.out.2.2.2.1).grownB (M.out.2.1).own (by omega) hg_) (And.intro ((M.out.2.2.2.2.1).grownB (M.out.2.1).own (by omega) hg_) (below_grown (M.out.2.2.2.2.2) (M.out.2.1).own hB0_ (M.out.2.2.2.2.2).size hg_)))))
     have hcap_ : n + 1 ≤ d_7 := hd_
     clear ho_ hg_ hd_
     refine hK.out _ _ ((M.out.2.2.1).d10) (fun hH8 => ?_)
     clear hK K hH5
     (try simp only [Act.put, List.setIfInBounds_toArray, List.set_cons_zero, List.set_cons_succ])
     refine tk at6 ?_
     refine tk at7 ?_
     refine wpAnyH_done (by kernel_rfl) ?_ _
     clear hH8
     go_wp2_with fail
     have HEQ := Lib.hid (HRS.out.symm.trans HSH.out)
     obtain ⟨rfl, rfl⟩ := Prod.mk.inj HEQ.out.symm
     go_ret2
     exact ⟨_, _, _, l ++ [(⟨key, note, u0, u1, u2, u3, q, v0, v1, v2, v3, r⟩ : SC)], rfl, RdL.of (M.out.1).rd (by rw [List.length_append, HL.out.len]; rfl) hcap_, (by rw [List.map_append]; rfl), (M.out.2.2.2.2)⟩
    refine AllReadyH.cons at4 (fun K hK => ?_) AllReadyH.nil
    go_simp
    refine nmW (w7.alloc (.cells #[.string key, .int .i64 note, u0, u1, u2, u3, v0, v1, v2, v3] 37)) fun w8 hv => ?_
    rw [← hv]
    have ow3_ : w6.heap.size < w7.heap.size := ((M.out.1)).lt
    have ob3_ : w5.heap.size ≤ w7.heap.size := ((M.out.2.1)).size
    replace M := alM hv M
    clear hv
    refine hK.out _ _ ((M.out.2.2.2.1).d10) (fun hH9 => ?_)
    clear hK K hH2
    (try simp only [Act.put, List.setIfInBounds_toArray, List.set_cons_zero, List.set_cons_succ])
    refine wpAnyH_ready (rs := [2]) (by kernel_rfl) (by simp) ?_
    refine AllReadyH.cons at2 (fun K hK => ?_) AllReadyH.nil
    rw [if_pos (by rfl)]
    refine wp_copyE elemSh (M.out.2.1) hGB_ (by omega) (HL.out.keep (M.out.2.2.2.2.2)) (by rfl) (by omega) (by omega) rfl rfl rfl (fun vv_10 w9 ho_ hg_ => ?_)
    replace M := Lib.hid (And.intro ho_ (And.intro ((M.out.1).only hg_ (by omega)) (And.intro (Below.grown (M.out.2.2.1) hg_ (M.out.2.2.1).size (fun k_ hk_ => by cases hk_; omega)) (And.intro ((M.out.2.2.2.1).only hg_ (by omega)) (And.intro ((M.out.2.2.2.2.1).only hg_ (by omega)) (Below.grown (M.out.2.2.2.2.2) hg_ (M.out.2.2.2.2.2).size (fun k_ hk_ => by cases hk_; omega)))))))
    clear ho_ hg_
    refine hK.out _ _ ((M.out.2.2.2.1).d10) (fun hH11 => ?_)
    clear hK K hH9
    (try simp only [Act.put, List.setIfInBounds_toArray, List.set_cons_zero, List.set_cons_succ])
    refine wpAnyH_ready (rs := [5]) (by kernel_rfl) (by simp) ?_
    refine AllReadyH.cons at5 (fun K hK => ?_) AllReadyH.nil
    rw [if_pos (by rfl)]
    refine wp_push1 (M.out.1) HL.out.len elemSh (⟨key, note, u0, u1, u2, u3, q, v0, v1, v2, v3, r⟩ : SC) (M.out.2.1) rfl ⟨(H3.out.keep (M.out.2.2.2.2.2)), (H4.out.keep (M.out.2.2.2.2.2))⟩ (by rfl) (by omega) (by omega) (M.out.2.2.1).size rfl rfl rfl (fun g_12 d_13 w10 ho_ hd_ hg_ => ?_)
    replace M := Lib.hid (And.intro ho_ (And.intro (below_grown (M.out.2.2.1) (M.out.1).own (Nat.le_refl _) (M.out.2.2.1).size hg_) (And.intro ((M.out.2.2.2.1).grownB (M.out.1).own (by omega) hg_) (And.intro ((M.out.2.2.2.2.1).grownB (M.out.1).own (by omega) hg_) (below_grown (M.out.2.2.2.2.2) (M.out.1).own hB0_ (M.out.2.2.2.2.2).size hg_)))))
    have hcap_ : n + 1 ≤ d_13 := hd_
    clear ho_ hg_ hd_
    refine hK.out _ _ ((M.out.2.2.1).d10) (fun hH14 => ?_)
    clear hK K hH11
    (try simp only [Act.put, List.setIfInBounds_toArray, List.set_cons_zero, List.set_cons_succ])
    refine tk at6 ?_
    refine tk at7 ?_
    refine wpAnyH_done (by kernel_rfl) ?_ _
    clear hH14
    go_wp2_with fail
    have HEQ := Lib.hid (HRS.out.symm.trans HSH.out)
    obtain ⟨rfl, rfl⟩ := Prod.mk.inj HEQ.out.symm
    go_ret2
    exact ⟨_, _, _, l ++ [(⟨key, note, u0, u1, u2, u3, q, v0, v1, v2, v3, r⟩ : SC)], rfl, RdL.of (M.out.1).rd (by rw [List.length_append, HL.out.len]; rfl) hcap_, (by rw [List.map_append]; rfl), (M.out.2.2.2.2)⟩
   refine AllReadyH.cons at4 (fun K hK => ?_) AllReadyH.nil
   go_simp
   refine nmW (w6.alloc (.cells #[.string key, .int .i64 note, u0, u1, u2, u3, v0, v1, v2, v3] 37)) fun w7 hv => ?_
   rw [← hv]
   have ow2_ : w1.heap.size < w6.heap.size := ((M.out.2.1)).lt
   have ob2_ : w5.heap.size ≤ w6.heap.size := ((M.out.1)).size
   replace M := alM hv M
   clear hv
   refine hK.out _ _ ((M.out.2.2.1).d10) (fun hH15 => ?_)
   clear hK K hH1
   (try simp only [Act.put, List.setIfInBounds_toArray, List.set_cons_zero, List.set_cons_succ])
   refine wpAnyH_ready (rs := [0]) (by kernel_rfl) (by simp) ?_
   refine AllReadyH.cons at0 (fun K hK => ?_) AllReadyH.nil
   go_simp
   refine nmW (w7.alloc (.cells #[] 37)) fun w8 hv => ?_
   rw [← hv]
   have ow3_ : w6.heap.size < w7.heap.size := ((M.out.1)).lt
   have ob3_ : w5.heap.size ≤ w7.heap.size := ((M.out.2.1)).size
   replace M := alM hv M
   clear hv
   refine hK.out _ _ ((M.out.2.2.2.1).d10) (fun hH16 => ?_)
   clear hK K hH15
   (try simp only [Act.put, List.setIfInBounds_toArray, List.set_cons_zero, List.set_cons_succ])
   refine wpAnyH_ready (rs := [2]) (by kernel_rfl) (by simp) ?_
   refine AllReadyH.cons at2 (fun K hK => ?_) AllReadyH.nil
   rw [if_pos (by rfl)]
   refine wp_copyE elemSh (M.out.1) hGB_ (by omega) (HL.out.keep (M.out.2.2.2.2.2)) (by rfl) (by omega) (by omega) rfl rfl rfl (fun vv_17 w9 ho_ hg_ => ?_)
   replace M := Lib.hid (And.intro ho_ (And.intro ((M.out.2.1).only hg_ (by omega)) (And.intro (Below.grown (M.out.2.2.1) hg_ (M.out.2.2.1).size (fun k_ hk_ => by cases hk_; omega)) (And.intro ((M.out.2.2.2.1).only hg_ (by omega)) (And.intro ((M.out.2.2.2.2.1).only hg_ (by omega)) (Below.grown (M.out.2.2.2.2.2) hg_ (M.out.2.2.2.2.2).size (fun k_ hk_ => by cases hk_; omega)))))))
   clear ho_ hg_
   refine hK.out _ _ ((M.out.2.2.2.1).d10) (fun hH18 => ?_)
   clear hK K hH16
   (try simp only [Act.put, List.setIfInBounds_toArray, List.set_cons_zero, List.set_cons_succ])
   refine wpAnyH_ready (rs := [5]) (by kernel_rfl) (by simp) ?_
   refine AllReadyH.cons at5 (fun K hK => ?_) AllReadyH.nil
   rw [if_pos (by rfl)]
   refine wp_push1 (M.out.1) HL.out.len elemSh (⟨key, note, u0, u1, u2, u3, q, v0, v1, v2, v3, r⟩ : SC) (M.out.2.1) rfl ⟨(H3.out.keep (M.out.2.2.2.2.2)), (H4.out.keep (M.out.2.2.2.2.2))⟩ (by rfl) (by omega) (by omega) (M.out.2.2.1).size rfl rfl rfl (fun g_19 d_20 w10 ho_ hd_ hg_ => ?_)
   replace M := Lib.hid (And.intro ho_ (And.intro (below_grown (M.out.2.2.1) (M.out.1).own (Nat.le_refl _) (M.out.2.2.1).size hg_) (And.intro ((M.out.2.2.2.1).grownB (M.out.1).own (by omega) hg_) (And.intro ((M.out.2.2.2.2.1).grownB (M.out.1).own (by omega) hg_) (below_grown (M.out.2.2.2.2.2) (M.out.1).own hB0_ (M.out.2.2.2.2.2).size hg_)))))
   have hcap_ : n + 1 ≤ d_20 := hd_
   clear ho_ hg_ hd_
   refine hK.out _ _ ((M.out.2.2.1).d10) (fun hH21 => ?_)
   clear hK K hH18
   (try simp only [Act.put, List.setIfInBounds_toArray, List.set_cons_zero, List.set_cons_succ])
   refine tk at6 ?_
   refine tk at7 ?_
   refine wpAnyH_done (by kernel_rfl) ?_ _
   clear hH21
   go_wp2_with fail
   have HEQ := Lib.hid (HRS.out.symm.trans HSH.out)
   obtain ⟨rfl, rfl⟩ := Prod.mk.inj HEQ.out.symm
   go_ret2
   exact ⟨_, _, _, l ++ [(⟨key, note, u0, u1, u2, u3, q, v0, v1, v2, v3, r⟩ : SC)], rfl, RdL.of (M.out.1).rd (by rw [List.length_append, HL.out.len]; rfl) hcap_, (by rw [List.map_append]; rfl), (M.out.2.2.2.2)⟩
  ·
   exfalso
   have h_ := (lastN_lt hln).1
   omega
 ·
  have e5_0 : decide (0 < n) = true := decide_eq_true (by omega)
  have e5_1 : decide (0 < (n : Int)) = true := decide_eq_true (by omega)
  have e5_i : 0 < (n : Int) := by omega
  obtain ⟨b, off, rfl, hb_⟩ := RdL.ptr HL.out (by omega : 0 < n)
  have HLB := Lib.hid hb_
  have hkl_ : n - 1 < l.length := by rw [HL.out.len]; omega
  obtain ⟨z_, hx_⟩ : ∃ x, l[(n - 1)]? = some x := ⟨l[(n - 1)], List.getElem?_eq_getElem hkl_⟩
  obtain ⟨zk, zn, zu0, zu1, zu2, zu3, zq, zv0, zv1, zv2, zv3, zr⟩ := z_
  have HRz : Hid (Row w b (off + (n - 1) * 10) [.string zk, .int .i64 zn, zu0, zu1, zu2, zu3, zv0, zv1, zv2, zv3]) := hb_.row hx_
  have HQz : Hid (FQ G w zu0 zu1 zu2 zu3 zq) := (hb_.ok hx_).1
  have HSz : Hid (FQ G w zv0 zv1 zv2 zv3 zr) := (hb_.ok hx_).2
  have HEz := Lib.hid hx_; clear hx_ hkl_ hb_
  have HNO : Hid (noteOf (l.map SC.sh) = zn) := note_last HEz.out (by rw [HL.out.len]; omega)
  have hmx_ : max ((n : Int) - 1) (0 : Int) = (n : Int) - 1 := by omega
  have hix0 : (0 : Int) ≤ (n : Int) - 1 := by omega
  have hix1 : (n : Int) - 1 < (n : Int) := by omega
  have hix2 : ((n : Int) - 1).toNat = n - 1 := by omega
  have hix3 : (1 : Int) ≤ (n : Int) := by omega
  have hnz : note < zn := by rw [HNO.out] at hday; exact hday
  have e6 : decide (note < zn) = true := decide_eq_true (by omega)
  have e6i : note < zn := by omega
  have HRS : Hid (showR (l.map SC.sh) ⟨key, note, q, r⟩ = (18, [])) := sh_day hday
  clear hday
  refine cj10 (HRz.out.keep (M.out.2.2)).c10 fun r0_0 r0_1 r0_2 r0_3 r0_4 r0_5 r0_6 r0_7 r0_8 r0_9 => ?_
  go_wp2_with fail
  clear r0_0 r0_1 r0_2 r0_3 r0_4 r0_5 r0_6 r0_7 r0_8 r0_9
  have HEQ := Lib.hid (HRS.out.symm.trans HSH.out)
  obtain ⟨rfl, rfl⟩ := Prod.mk.inj HEQ.out.symm
  go_ret2
  exact ⟨none, 0, 0, [], rfl, RdL.nil _ _ _, rfl, (M.out.2.2)⟩
 ·
  have e5_0 : decide (0 < n) = true := decide_eq_true (by omega)
  have e5_1 : decide (0 < (n : Int)) = true := decide_eq_true (by omega)
  have e5_i : 0 < (n : Int) := by omega
  obtain ⟨b, off, rfl, hb_⟩ := RdL.ptr HL.out (by omega : 0 < n)
  have HLB := Lib.hid hb_
  have hkl_ : n - 1 < l.length := by rw [HL.out.len]; omega
  obtain ⟨z_, hx_⟩ : ∃ x, l[(n - 1)]? = some x := ⟨l[(n - 1)], List.getElem?_eq_getElem hkl_⟩
  obtain ⟨zk, zn, zu0, zu1, zu2, zu3, zq, zv0, zv1, zv2, zv3, zr⟩ := z_
  have HRz : Hid (Row w b (off + (n - 1) * 10) [.string zk, .int .i64 zn, zu0, zu1, zu2, zu3, zv0, zv1, zv2, zv3]) := hb_.row hx_
  have HQz : Hid (FQ G w zu0 zu1 zu2 zu3 zq) := (hb_.ok hx_).1
  have HSz : Hid (FQ G w zv0 zv1 zv2 zv3 zr) := (hb_.ok hx_).2
  have HEz := Lib.hid hx_; clear hx_ hkl_ hb_
  have HNO : Hid (noteOf (l.map SC.sh) = zn) := note_last HEz.out (by rw [HL.out.len]; omega)
  have hmx_ : max ((n : Int) - 1) (0 : Int) = (n : Int) - 1 := by omega
  have hix0 : (0 : Int) ≤ (n : Int) - 1 := by omega
  have hix1 : (n : Int) - 1 < (n : Int) := by omega
  have hix2 : ((n : Int) - 1).toNat = n - 1 := by omega
  have hix3 : (1 : Int) ≤ (n : Int) := by omega
  have hnz : ¬ note < zn := by rw [HNO.out] at hday; exact hday
  have HND : Hid (noteOf (l.map SC.sh) ≤ note) := by show _ ≤ _; omega
  clear hday
  have e6 : decide (note < zn) = false := decide_eq_false (by omega)
  have e6i : ¬ note < zn := by omega
  refine cj10 (HRz.out.keep (M.out.2.2)).c10 fun r0_0 r0_1 r0_2 r0_3 r0_4 r0_5 r0_6 r0_7 r0_8 r0_9 => ?_
  go_upto_region 6 with fail
  clear r0_0 r0_1 r0_2 r0_3 r0_4 r0_5 r0_6 r0_7 r0_8 r0_9
  have hw : (lastN (ls.map SR.key) n key = none ∧ n = 2000) ∨ (lastN (ls.map SR.key) n key = none ∧ n ≠ 2000) ∨ ∃ j, lastN (ls.map SR.key) n key = some j := by cases h_ : lastN (ls.map SR.key) n key with | none => by_cases h2_ : n = 2000 <;> simp [h2_] | some j => exact .inr (.inr ⟨j, rfl⟩)
  rcases hw with ⟨hln, hf⟩ | ⟨hln, hf⟩ | ⟨j, hln⟩
  ·
   have HLN := Lib.hid hln
   have HLK : Hid (lastK (l.map SC.sh) key = none) := lastC_none HLL.out HL.out.len HLN.out
   clear hln
   have HRS : Hid (showR (l.map SC.sh) ⟨key, note, q, r⟩ = (6, [])) := by show _ = _; rw [sh_none (Int.not_lt.2 HND.out) HLK.out, if_pos (by rw [List.length_map, HL.out.len]; omega)]
   have ef_0 : decide (2000 ≤ n) = true := decide_eq_true (by omega)
   have ef_1 : decide (2000 ≤ (n : Int)) = true := decide_eq_true (by omega)
   have ef_i : 2000 ≤ (n : Int) := by omega
   clear hf
   go_wp2_with fail
   refine (rLastI_none (G := G) (key := key) (l := ls) (HL0.out.keep (M.out.2.2)) (by omega) (by omega) HLN.out).mono ?_
   rintro e w5 ⟨rfl, hb⟩
   replace M := gnM hb M
   clear hb
   go_wp2_with fail
   have HEQ := Lib.hid (HRS.out.symm.trans HSH.out)
   obtain ⟨rfl, rfl⟩ := Prod.mk.inj HEQ.out.symm
   go_ret2
   exact ⟨none, 0, 0, [], rfl, RdL.nil _ _ _, rfl, (M.out.2.2)⟩
  ·
   have HLN := Lib.hid hln
   have HLK : Hid (lastK (l.map SC.sh) key = none) := lastC_none HLL.out HL.out.len HLN.out
   clear hln
   have HRS : Hid (showR (l.map SC.sh) ⟨key, note, q, r⟩ = (0, l.map SC.sh ++ [⟨key, note, q, r⟩])) := by show _ = _; rw [sh_none (Int.not_lt.2 HND.out) HLK.out, if_neg (by rw [List.length_map, HL.out.len]; omega)]
   have ef_0 : decide (2000 ≤ n) = false := decide_eq_false (by omega)
   have ef_1 : decide (2000 ≤ (n : Int)) = false := decide_eq_false (by omega)
   have ef_i : ¬ 2000 ≤ (n : Int) := by omega
   clear hf
   go_wp2_with fail
   refine (rLastI_none (G := G) (key := key) (l := ls) (HL0.out.keep (M.out.2.2)) (by omega) (by omega) HLN.out).mono ?_
   rintro e w5 ⟨rfl, hb⟩
   replace M := gnM hb M
   clear hb
   go_upto_region 14 with fail
   have hB0_ : w.heap.size ≤ w5.heap.size := ((M.out.2.2)).size
   have hGB_ : G ≤ w5.heap.size := Nat.le_trans hG hB0_
   have hlt0_ : w1.heap.size < w5.heap.size := ((M.out.1)).lt
   have hlt1_ : w.heap.size < w5.heap.size := ((M.out.2.1)).lt
   replace M := Lib.hid (And.intro (Below.refl w5.heap.size w5) M.out)
   go_wp2_with fail
   refine nmW w5.drew fun w6 hv => ?_
   replace M := drM hv M
   refine wp_region_held_drew (S := (fun w' => w'.cell? ⟨w1.heap.size, 0, none⟩ = some (.string key) ∧ w'.cell? ⟨w1.heap.size, 1, none⟩ = some (.int .i64 note) ∧ w'.cell? ⟨w1.heap.size, 2, none⟩ = some (u0) ∧ w'.cell? ⟨w1.heap.size, 3, none⟩ = some (u1) ∧ w'.cell? ⟨w1.heap.size, 4, none⟩ = some (u2) ∧ w'.cell? ⟨w1.heap.size, 5, none⟩ = some (u3) ∧ w'.cell? ⟨w1.heap.size, 6, none⟩ = some (v0) ∧ w'.cell? ⟨w1.heap.size, 7, none⟩ = some (v1) ∧ w'.cell? ⟨w1.heap.size, 8, none⟩ = some (v2) ∧ w'.cell? ⟨w1.heap.size, 9, none⟩ = some (v3))) (by kernel_rfl) (by rw [← hv]; exact (M.out.2.1).d10) (fun hH22 => ?_)
   rw [← hv] at hH22 ⊢
   clear hv
   refine tk at1 ?_
   refine tk at3 ?_
   refine wpAnyH_ready (rs := [0, 4]) (by kernel_rfl) (by simp) ?_
   refine AllReadyH.cons at0 (fun K hK => ?_) ?_
   ·
    go_simp
    refine nmW (w6.alloc (.cells #[] 37)) fun w7 hv => ?_
    rw [← hv]
    have ow2_ : w1.heap.size < w6.heap.size := ((M.out.2.1)).lt
    have ob2_ : w5.heap.size ≤ w6.heap.size := ((M.out.1)).size
    replace M := alM hv M
    clear hv
    refine hK.out _ _ ((M.out.2.2.1).d10) (fun hH23 => ?_)
    clear hK K hH22
    (try simp only [Act.put, List.setIfInBounds_toArray, List.set_cons_zero, List.set_cons_succ])
    refine wpAnyH_ready (rs := [2, 4]) (by kernel_rfl) (by simp) ?_
    refine AllReadyH.cons at2 (fun K hK => ?_) ?_
    ·
     rw [if_pos (by rfl)]
     refine wp_copyE elemSh (M.out.1) hGB_ (by omega) (HL.out.keep (M.out.2.2.2.2)) (by rfl) (by omega) (by omega) rfl rfl rfl (fun vv_24 w8 ho_ hg_ => ?_)
     replace M := Lib.hid (And.intro ho_ (And.intro (Below.grown (M.out.2.1) hg_ (M.out.2.1).size (fun k_ hk_ => by cases hk_; omega)) (And.intro ((M.out.2.2.1).only hg_ (by omega)) (And.intro ((M.out.2.2.2.1).only hg_ (by omega)) (Below.grown (M.out.2.2.2.2) hg_ (M.out.2.2.2.2).size (fun k_ hk_ => by cases hk_; omega))))))
     clear ho_ hg_
     refine hK.out _ _ ((M.out.2.2.1).d10) (fun hH25 => ?_)
     clear hK K hH23
     (try simp only [Act.put, List.setIfInBounds_toArray, List.set_cons_zero, List.set_cons_succ])
     refine wpAnyH_ready (rs := [4]) (by kernel_rfl) (by simp) ?_
     refine AllReadyH.cons at4 (fun K hK => ?_) AllReadyH.nil
     go_simp
     refine nmW (w8.alloc (.cells #[.string key, .int .i64 note, u0, u1, u2, u3, v0, v1, v2, v3] 37)) fun w9 hv => ?_
     rw [← hv]
     have ow3_ : w1.heap.size < w8.heap.size := ((M.out.2.2.1)).lt
     have ob3_ : w5.heap.size ≤ w8.heap.size := ((M.out.2.1)).size
     have no_b3_vv_24 := OwV.no (M.out.1)
     replace M := alM hv M
     clear hv
     refine hK.out _ _ ((M.out.2.2.2.1).d10) (fun hH26 => ?_)
     clear hK K hH25
     (try simp only [Act.put, List.setIfInBounds_toArray, List.set_cons_zero, List.set_cons_succ])
     refine wpAnyH_ready (rs := [5]) (by kernel_rfl) (by simp) ?_
     refine AllReadyH.cons at5 (fun K hK => ?_) AllReadyH.nil
     rw [if_pos (by rfl)]
     refine wp_push1 (M.out.2.1) HL.out.len elemSh (⟨key, note, u0, u1, u2, u3, q, v0, v1, v2, v3, r⟩ : SC) (M.out.1) rfl ⟨(H3.out.keep (M.out.2.2.2.2.2)), (H4.out.keep (M.out.2.2.2.2.2))⟩ (by rfl) (by omega) (by omega) (M.out.2.2.1).size rfl rfl rfl (fun g_27 d_28 w10 ho_ hd_ hg_ => ?_)
     replace M := Lib.hid (And.intro ho_ (And.intro (below_grown (M.out.2.2.1) (M.out.2.1).own (Nat.le_refl _) (M.out.2.2.1).size hg_) (And.intro ((M.out.2.2.2.1).grownB (M.out.2.1).own (by omega) hg_) (And.intro ((M.out.2.2.2.2.1).grownB (M.out.2.1).own (by omega) hg_) (below_grown (M.out.2.2.2.2.2) (M.out.2.1).own hB0_ (M.out.2.2.2.2.2).size hg_)))))
     have hcap_ : n + 1 ≤ d_28 := hd_
     clear ho_ hg_ hd_
     refine hK.out _ _ ((M.out.2.2.1).d10) (fun hH29 => ?_)
     clear hK K hH26
     (try simp only [Act.put, List.setIfInBounds_toArray, List.set_cons_zero, List.set_cons_succ])
     refine tk at6 ?_
     refine tk at7 ?_
     refine wpAnyH_done (by kernel_rfl) ?_ _
     clear hH29
     go_wp2_with fail
     have HEQ := Lib.hid (HRS.out.symm.trans HSH.out)
     obtain ⟨rfl, rfl⟩ := Prod.mk.inj HEQ.out.symm
     go_ret2
     exact ⟨_, _, _, l ++ [(⟨key, note, u0, u1, u2, u3, q, v0, v1, v2, v3, r⟩ : SC)], rfl, RdL.of (M.out.1).rd (by rw [List.length_append, HL.out.len]; rfl) hcap_, (by rw [List.map_append]; rfl), (M.out.2.2.2.2)⟩
    refine AllReadyH.cons at4 (fun K hK => ?_) AllReadyH.nil
    go_simp
    refine nmW (w7.alloc (.cells #[.string key, .int .i64 note, u0, u1, u2, u3, v0, v1, v2, v3] 37)) fun w8 hv => ?_
    rw [← hv]
    have ow3_ : w6.heap.size < w7.heap.size := ((M.out.1)).lt
    have ob3_ : w5.heap.size ≤ w7.heap.size := ((M.out.2.1)).size
    replace M := alM hv M
    clear hv
    refine hK.out _ _ ((M.out.2.2.2.1).d10) (fun hH30 => ?_)
    clear hK K hH23
    (try simp only [Act.put, List.setIfInBounds_toArray, List.set_cons_zero, List.set_cons_succ])
    refine wpAnyH_ready (rs := [2]) (by kernel_rfl) (by simp) ?_
    refine AllReadyH.cons at2 (fun K hK => ?_) AllReadyH.nil
    rw [if_pos (by rfl)]
    refine wp_copyE elemSh (M.out.2.1) hGB_ (by omega) (HL.out.keep (M.out.2.2.2.2.2)) (by rfl) (by omega) (by omega) rfl rfl rfl (fun vv_31 w9 ho_ hg_ => ?_)
    replace M := Lib.hid (And.intro ho_ (And.intro ((M.out.1).only hg_ (by omega)) (And.intro (Below.grown (M.out.2.2.1) hg_ (M.out.2.2.1).size (fun k_ hk_ => by cases hk_; omega)) (And.intro ((M.out.2.2.2.1).only hg_ (by omega)) (And.intro ((M.out.2.2.2.2.1).only hg_ (by omega)) (Below.grown (M.out.2.2.2.2.2) hg_ (M.out.2.2.2.2.2).size (fun k_ hk_ => by cases hk_; omega)))))))
    clear ho_ hg_
    refine hK.out _ _ ((M.out.2.2.2.1).d10) (fun hH32 => ?_)
    clear hK K hH30
    (try simp only [Act.put, List.setIfInBounds_toArray, List.set_cons_zero, List.set_cons_succ])
    refine wpAnyH_ready (rs := [5]) (by kernel_rfl) (by simp) ?_
    refine AllReadyH.cons at5 (fun K hK => ?_) AllReadyH.nil
    rw [if_pos (by rfl)]
    refine wp_push1 (M.out.1) HL.out.len elemSh (⟨key, note, u0, u1, u2, u3, q, v0, v1, v2, v3, r⟩ : SC) (M.out.2.1) rfl ⟨(H3.out.keep (M.out.2.2.2.2.2)), (H4.out.keep (M.out.2.2.2.2.2))⟩ (by rfl) (by omega) (by omega) (M.out.2.2.1).size rfl rfl rfl (fun g_33 d_34 w10 ho_ hd_ hg_ => ?_)
    replace M := Lib.hid (And.intro ho_ (And.intro (below_grown (M.out.2.2.1) (M.out.1).own (Nat.le_refl _) (M.out.2.2.1).size hg_) (And.intro ((M.out.2.2.2.1).grownB (M.out.1).own (by omega) hg_) (And.intro ((M.out.2.2.2.2.1).grownB (M.out.1).own (by omega) hg_) (below_grown (M.out.2.2.2.2.2) (M.out.1).own hB0_ (M.out.2.2.2.2.2).size hg_)))))
    have hcap_ : n + 1 ≤ d_34 := hd_
    clear ho_ hg_ hd_
    refine hK.out _ _ ((M.out.2.2.1).d10) (fun hH35 => ?_)
    clear hK K hH32
    (try simp only [Act.put, List.setIfInBounds_toArray, List.set_cons_zero, List.set_cons_succ])
    refine tk at6 ?_
    refine tk at7 ?_
    refine wpAnyH_done (by kernel_rfl) ?_ _
    clear hH35
    go_wp2_with fail
    have HEQ := Lib.hid (HRS.out.symm.trans HSH.out)
    obtain ⟨rfl, rfl⟩ := Prod.mk.inj HEQ.out.symm
    go_ret2
    exact ⟨_, _, _, l ++ [(⟨key, note, u0, u1, u2, u3, q, v0, v1, v2, v3, r⟩ : SC)], rfl, RdL.of (M.out.1).rd (by rw [List.length_append, HL.out.len]; rfl) hcap_, (by rw [List.map_append]; rfl), (M.out.2.2.2.2)⟩
   refine AllReadyH.cons at4 (fun K hK => ?_) AllReadyH.nil
   go_simp
   refine nmW (w6.alloc (.cells #[.string key, .int .i64 note, u0, u1, u2, u3, v0, v1, v2, v3] 37)) fun w7 hv => ?_
   rw [← hv]
   have ow2_ : w1.heap.size < w6.heap.size := ((M.out.2.1)).lt
   have ob2_ : w5.heap.size ≤ w6.heap.size := ((M.out.1)).size
   replace M := alM hv M
   clear hv
   refine hK.out _ _ ((M.out.2.2.1).d10) (fun hH36 => ?_)
   clear hK K hH22
   (try simp only [Act.put, List.setIfInBounds_toArray, List.set_cons_zero, List.set_cons_succ])
   refine wpAnyH_ready (rs := [0]) (by kernel_rfl) (by simp) ?_
   refine AllReadyH.cons at0 (fun K hK => ?_) AllReadyH.nil
   go_simp
   refine nmW (w7.alloc (.cells #[] 37)) fun w8 hv => ?_
   rw [← hv]
   have ow3_ : w6.heap.size < w7.heap.size := ((M.out.1)).lt
   have ob3_ : w5.heap.size ≤ w7.heap.size := ((M.out.2.1)).size
   replace M := alM hv M
   clear hv
   refine hK.out _ _ ((M.out.2.2.2.1).d10) (fun hH37 => ?_)
   clear hK K hH36
   (try simp only [Act.put, List.setIfInBounds_toArray, List.set_cons_zero, List.set_cons_succ])
   refine wpAnyH_ready (rs := [2]) (by kernel_rfl) (by simp) ?_
   refine AllReadyH.cons at2 (fun K hK => ?_) AllReadyH.nil
   rw [if_pos (by rfl)]
   refine wp_copyE elemSh (M.out.1) hGB_ (by omega) (HL.out.keep (M.out.2.2.2.2.2)) (by rfl) (by omega) (by omega) rfl rfl rfl (fun vv_38 w9 ho_ hg_ => ?_)
   replace M := Lib.hid (And.intro ho_ (And.intro ((M.out.2.1).only hg_ (by omega)) (And.intro (Below.grown (M.out.2.2.1) hg_ (M.out.2.2.1).size (fun k_ hk_ => by cases hk_; omega)) (And.intro ((M.out.2.2.2.1).only hg_ (by omega)) (And.intro ((M.out.2.2.2.2.1).only hg_ (by omega)) (Below.grown (M.out.2.2.2.2.2) hg_ (M.out.2.2.2.2.2).size (fun k_ hk_ => by cases hk_; omega)))))))
   clear ho_ hg_
   refine hK.out _ _ ((M.out.2.2.2.1).d10) (fun hH39 => ?_)
   clear hK K hH37
   (try simp only [Act.put, List.setIfInBounds_toArray, List.set_cons_zero, List.set_cons_succ])
   refine wpAnyH_ready (rs := [5]) (by kernel_rfl) (by simp) ?_
   refine AllReadyH.cons at5 (fun K hK => ?_) AllReadyH.nil
   rw [if_pos (by rfl)]
   refine wp_push1 (M.out.1) HL.out.len elemSh (⟨key, note, u0, u1, u2, u3, q, v0, v1, v2, v3, r⟩ : SC) (M.out.2.1) rfl ⟨(H3.out.keep (M.out.2.2.2.2.2)), (H4.out.keep (M.out.2.2.2.2.2))⟩ (by rfl) (by omega) (by omega) (M.out.2.2.1).size rfl rfl rfl (fun g_40 d_41 w10 ho_ hd_ hg_ => ?_)
   replace M := Lib.hid (And.intro ho_ (And.intro (below_grown (M.out.2.2.1) (M.out.1).own (Nat.le_refl _) (M.out.2.2.1).size hg_) (And.intro ((M.out.2.2.2.1).grownB (M.out.1).own (by omega) hg_) (And.intro ((M.out.2.2.2.2.1).grownB (M.out.1).own (by omega) hg_) (below_grown (M.out.2.2.2.2.2) (M.out.1).own hB0_ (M.out.2.2.2.2.2).size hg_)))))
   have hcap_ : n + 1 ≤ d_41 := hd_
   clear ho_ hg_ hd_
   refine hK.out _ _ ((M.out.2.2.1).d10) (fun hH42 => ?_)
   clear hK K hH39
   (try simp only [Act.put, List.setIfInBounds_toArray, List.set_cons_zero, List.set_cons_succ])
   refine tk at6 ?_
   refine tk at7 ?_
   refine wpAnyH_done (by kernel_rfl) ?_ _
   clear hH42
   go_wp2_with fail
   have HEQ := Lib.hid (HRS.out.symm.trans HSH.out)
   obtain ⟨rfl, rfl⟩ := Prod.mk.inj HEQ.out.symm
   go_ret2
   exact ⟨_, _, _, l ++ [(⟨key, note, u0, u1, u2, u3, q, v0, v1, v2, v3, r⟩ : SC)], rfl, RdL.of (M.out.1).rd (by rw [List.length_append, HL.out.len]; rfl) hcap_, (by rw [List.map_append]; rfl), (M.out.2.2.2.2)⟩
  ·
   have HLN := Lib.hid hln
   have hjn_ := (lastN_lt hln).1
   have hkl_ : j < l.length := by rw [HL.out.len]; omega
   have hb_ := HLB.out
   obtain ⟨y_, hx_⟩ : ∃ x, l[j]? = some x := ⟨l[j], List.getElem?_eq_getElem hkl_⟩
   obtain ⟨yk, yn, yu0, yu1, yu2, yu3, yq, yv0, yv1, yv2, yv3, yr⟩ := y_
   have HRy : Hid (Row w b (off + j * 10) [.string yk, .int .i64 yn, yu0, yu1, yu2, yu3, yv0, yv1, yv2, yv3]) := hb_.row hx_
   have HQy : Hid (FQ G w yu0 yu1 yu2 yu3 yq) := (hb_.ok hx_).1
   have HSy : Hid (FQ G w yv0 yv1 yv2 yv3 yr) := (hb_.ok hx_).2
   have HEy := Lib.hid hx_; clear hx_ hkl_ hb_
   have hok_ : okSh keyOk ⟨yk, yn, yq, yr⟩ := HOK.out.ok _ (List.mem_map.2 ⟨_, List.mem_of_getElem? HEy.out, rfl⟩)
   have HOy := Lib.hid hok_
   have hz_ := HZ.out _ (List.mem_of_getElem? HEy.out)
   have HZy1 : Hid (Fz yq 100000000) := hz_.1
   have HZy2 : Hid (Fz yr 100000000) := hz_.2
   clear hok_ hz_
   have HLK : Hid (lastK (l.map SC.sh) key = some ⟨yk, yn, yq, yr⟩) := lastC_some HLL.out HL.out.len HLN.out HEy.out
   have e8_ : decide ((0 : Int) ≤ (j : Int)) = true := decide_eq_true (by omega)
   have hj1_ : (j : Int) < (n : Int) := by omega
   clear hln hjn_
   have hwy : (yq = q ∧ yr = r) ∨ (¬ (yq = q ∧ yr = r) ∧ yn = note) ∨ (¬ (yq = q ∧ yr = r) ∧ ¬ yn = note ∧ n = 2000) ∨ (¬ (yq = q ∧ yr = r) ∧ ¬ yn = note ∧ n ≠ 2000) := by by_cases h1_ : yq = q ∧ yr = r; exact .inl h1_; by_cases h2_ : yn = note; exact .inr (.inl ⟨h1_, h2_⟩); by_cases h3_ : n = 2000; exact .inr (.inr (.inl ⟨h1_, h2_, h3_⟩)); exact .inr (.inr (.inr ⟨h1_, h2_, h3_⟩))
   rcases hwy with hsm | ⟨hsm, hyn⟩ | ⟨hsm, hyn, hf⟩ | ⟨hsm, hyn, hf⟩
   ·
    have HBB := Lib.hid (eq_both hsm)
    have HRS : Hid (showR (l.map SC.sh) ⟨key, note, q, r⟩ = (0, l.map SC.sh)) := sh_same (Int.not_lt.2 HND.out) HLK.out hsm
    clear hsm
    go_wp2_with fail
    refine (rLastI_some (G := G) (key := key) (l := ls) (HL0.out.keep (M.out.2.2)) (by omega) (by omega) HLN.out).mono ?_
    rintro e w5 ⟨rfl, hb⟩
    replace M := gnM hb M
    clear hb
    go_wp2_with fail
    refine nmW w5.drew fun w6 hv => ?_
    replace M := drM hv M
    refine wp_region_held_drew (S := (fun w' => w'.cell? ⟨w.heap.size, 0, none⟩ = some (u0) ∧ w'.cell? ⟨w.heap.size, 1, none⟩ = some (u1) ∧ w'.cell? ⟨w.heap.size, 2, none⟩ = some (u2) ∧ w'.cell? ⟨w.heap.size, 3, none⟩ = some (u3) ∧ w'.cell? ⟨w.heap.size, 4, none⟩ = some (v0) ∧ w'.cell? ⟨w.heap.size, 5, none⟩ = some (v1) ∧ w'.cell? ⟨w.heap.size, 6, none⟩ = some (v2) ∧ w'.cell? ⟨w.heap.size, 7, none⟩ = some (v3) ∧ w'.cell? ⟨b, off + j * 10, none⟩ = some (.string yk) ∧ w'.cell? ⟨b, off + j * 10 + 1, none⟩ = some (.int .i64 yn) ∧ w'.cell? ⟨b, off + j * 10 + 2, none⟩ = some (yu0) ∧ w'.cell? ⟨b, off + j * 10 + 3, none⟩ = some (yu1) ∧ w'.cell? ⟨b, off + j * 10 + 4, none⟩ = some (yu2) ∧ w'.cell? ⟨b, off + j * 10 + 5, none⟩ = some (yu3) ∧ w'.cell? ⟨b, off + j * 10 + 6, none⟩ = some (yv0) ∧ w'.cell? ⟨b, off + j * 10 + 7, none⟩ = some (yv1) ∧ w'.cell? ⟨b, off + j * 10 + 8, none⟩ = some (yv2) ∧ w'.cell? ⟨b, off + j * 10 + 9, none⟩ = some (yv3))) (by kernel_rfl) (by rw [← hv]; exact ((M.out.2.1).t8 ((HRy.out.keep (M.out.2.2)).c10))) (fun hH43 => ?_)
    rw [← hv] at hH43 ⊢
    clear hv
    refine tk at0 ?_
    refine tk at1 ?_
    refine tk at2 ?_
    refine tk at3 ?_
    refine tk at4 ?_
    refine tk at5 ?_
    refine wpAnyH_ready (rs := [6]) (by kernel_rfl) (by simp) ?_
    refine AllReadyH.cons at6 (fun K hK => ?_) AllReadyH.nil
    go_simp
    refine (reSameSpan_b (G := G) (p := yq) (q := yr) (r := q) (s := r) (b_ := true) (HQy.out.keep (M.out.2.2)) (HSy.out.keep (M.out.2.2)) (H3.out.keep (M.out.2.2)) (H4.out.keep (M.out.2.2)) (Fz.mono HZy1.out (by omega)) (Fz.mono HZy2.out (by omega)) (Fz.mono HZq.out (by omega)) (Fz.mono HZr.out (by omega)) HBB.out).mono ?_
    rintro e w7 ⟨rfl, hb⟩
    replace M := gnM hb M
    clear hb
    (try go_wp2_with fail)
    refine hK.out _ _ (((M.out.2.1).t8 ((HRy.out.keep (M.out.2.2)).c10))) (fun hH44 => ?_)
    clear hK K hH43
    (try simp only [Act.put, List.setIfInBounds_toArray, List.set_cons_zero, List.set_cons_succ])
    refine wpAnyH_done (by kernel_rfl) ?_ _
    clear hH44
    go_wp2_with (at_builtin; go_must (refine wpList_copyE rfl _ _ elemSh rfl (Bx.new w7 37 #[]) hG (M.out.2.2).size (((HL.out.keep (M.out.2.2))).keep (below_alloc _ _)) (by rfl) (by omega) (by omega) rfl rfl ?_; intro vv_45 w8 ho_ hg_))
    replace M := Lib.hid (And.intro ho_ (Below.grown (below_call (M.out.2.2) (below_alloc w7 (.cells #[] 37))) hg_ (by simp; exact Nat.le_succ_of_le (M.out.2.2).size) (fun k_ hk_ => by cases hk_; exact (M.out.2.2).size)))
    clear ho_ hg_
    have HEQ := Lib.hid (HRS.out.symm.trans HSH.out)
    obtain ⟨rfl, rfl⟩ := Prod.mk.inj HEQ.out.symm
    obtain ⟨ag, cg, hvg_, hrd_⟩ := OwV.rdl (M.out.1) HL.out.len
    subst hvg_
    replace M := Lib.hid (And.intro hrd_ (M.out.2))
    clear hrd_
    go_ret2
    exact ⟨_, _, _, _, rfl, (M.out.1), rfl, (M.out.2)⟩
   ·
    have HBB := Lib.hid (ne_both hsm)
    have HRS : Hid (showR (l.map SC.sh) ⟨key, note, q, r⟩ = (5, [])) := sh_twice (Int.not_lt.2 HND.out) HLK.out hsm hyn
    have en1 : (yn == note) = true := beq_iff_eq.2 hyn
    clear hsm hyn
    go_wp2_with fail
    refine (rLastI_some (G := G) (key := key) (l := ls) (HL0.out.keep (M.out.2.2)) (by omega) (by omega) HLN.out).mono ?_
    rintro e w5 ⟨rfl, hb⟩
    replace M := gnM hb M
    clear hb
    go_wp2_with fail
    refine nmW w5.drew fun w6 hv => ?_
    replace M := drM hv M
    refine wp_region_held_drew (S := (fun w' => w'.cell? ⟨w.heap.size, 0, none⟩ = some (u0) ∧ w'.cell? ⟨w.heap.size, 1, none⟩ = some (u1) ∧ w'.cell? ⟨w.heap.size, 2, none⟩ = some (u2) ∧ w'.cell? ⟨w.heap.size, 3, none⟩ = some (u3) ∧ w'.cell? ⟨w.heap.size, 4, none⟩ = some (v0) ∧ w'.cell? ⟨w.heap.size, 5, none⟩ = some (v1) ∧ w'.cell? ⟨w.heap.size, 6, none⟩ = some (v2) ∧ w'.cell? ⟨w.heap.size, 7, none⟩ = some (v3) ∧ w'.cell? ⟨b, off + j * 10, none⟩ = some (.string yk) ∧ w'.cell? ⟨b, off + j * 10 + 1, none⟩ = some (.int .i64 yn) ∧ w'.cell? ⟨b, off + j * 10 + 2, none⟩ = some (yu0) ∧ w'.cell? ⟨b, off + j * 10 + 3, none⟩ = some (yu1) ∧ w'.cell? ⟨b, off + j * 10 + 4, none⟩ = some (yu2) ∧ w'.cell? ⟨b, off + j * 10 + 5, none⟩ = some (yu3) ∧ w'.cell? ⟨b, off + j * 10 + 6, none⟩ = some (yv0) ∧ w'.cell? ⟨b, off + j * 10 + 7, none⟩ = some (yv1) ∧ w'.cell? ⟨b, off + j * 10 + 8, none⟩ = some (yv2) ∧ w'.cell? ⟨b, off + j * 10 + 9, none⟩ = some (yv3))) (by kernel_rfl) (by rw [← hv]; exact ((M.out.2.1).t8 ((HRy.out.keep (M.out.2.2)).c10))) (fun hH46 => ?_)
    rw [← hv] at hH46 ⊢
    clear hv
    refine tk at0 ?_
    refine tk at1 ?_
    refine tk at2 ?_
    refine tk at3 ?_
    refine tk at4 ?_
    refine tk at5 ?_
    refine wpAnyH_ready (rs := [6]) (by kernel_rfl) (by simp) ?_
    refine AllReadyH.cons at6 (fun K hK => ?_) AllReadyH.nil
    go_simp
    refine (reSameSpan_b (G := G) (p := yq) (q := yr) (r := q) (s := r) (b_ := false) (HQy.out.keep (M.out.2.2)) (HSy.out.keep (M.out.2.2)) (H3.out.keep (M.out.2.2)) (H4.out.keep (M.out.2.2)) (Fz.mono HZy1.out (by omega)) (Fz.mono HZy2.out (by omega)) (Fz.mono HZq.out (by omega)) (Fz.mono HZr.out (by omega)) HBB.out).mono ?_
    rintro e w7 ⟨rfl, hb⟩
    replace M := gnM hb M
    clear hb
    (try go_wp2_with fail)
    refine hK.out _ _ (((M.out.2.1).t8 ((HRy.out.keep (M.out.2.2)).c10))) (fun hH47 => ?_)
    clear hK K hH46
    (try simp only [Act.put, List.setIfInBounds_toArray, List.set_cons_zero, List.set_cons_succ])
    refine wpAnyH_done (by kernel_rfl) ?_ _
    clear hH47
    refine cj10 (HRy.out.keep (M.out.2.2)).c10 fun r1_0 r1_1 r1_2 r1_3 r1_4 r1_5 r1_6 r1_7 r1_8 r1_9 => ?_
    go_wp2_with fail
    clear r1_0 r1_1 r1_2 r1_3 r1_4 r1_5 r1_6 r1_7 r1_8 r1_9
    have HEQ := Lib.hid (HRS.out.symm.trans HSH.out)
    obtain ⟨rfl, rfl⟩ := Prod.mk.inj HEQ.out.symm
    go_ret2
    exact ⟨none, 0, 0, [], rfl, RdL.nil _ _ _, rfl, (M.out.2.2)⟩
   ·
    have HBB := Lib.hid (ne_both hsm)
    have HRS : Hid (showR (l.map SC.sh) ⟨key, note, q, r⟩ = (6, [])) := by show _ = _; rw [sh_next (Int.not_lt.2 HND.out) HLK.out hsm hyn, if_pos (by rw [List.length_map, HL.out.len]; omega)]
    have en1 : (yn == note) = false := beq_false_of_ne hyn
    clear hsm
    have ef_0 : decide (2000 ≤ n) = true := decide_eq_true (by omega)
    have ef_1 : decide (2000 ≤ (n : Int)) = true := decide_eq_true (by omega)
    have ef_i : 2000 ≤ (n : Int) := by omega
    clear hf
    go_wp2_with fail
    refine (rLastI_some (G := G) (key := key) (l := ls) (HL0.out.keep (M.out.2.2)) (by omega) (by omega) HLN.out).mono ?_
    rintro e w5 ⟨rfl, hb⟩
    replace M := gnM hb M
    clear hb
    go_wp2_with fail
    refine nmW w5.drew fun w6 hv => ?_
    replace M := drM hv M
    refine wp_region_held_drew (S := (fun w' => w'.cell? ⟨w.heap.size, 0, none⟩ = some (u0) ∧ w'.cell? ⟨w.heap.size, 1, none⟩ = some (u1) ∧ w'.cell? ⟨w.heap.size, 2, none⟩ = some (u2) ∧ w'.cell? ⟨w.heap.size, 3, none⟩ = some (u3) ∧ w'.cell? ⟨w.heap.size, 4, none⟩ = some (v0) ∧ w'.cell? ⟨w.heap.size, 5, none⟩ = some (v1) ∧ w'.cell? ⟨w.heap.size, 6, none⟩ = some (v2) ∧ w'.cell? ⟨w.heap.size, 7, none⟩ = some (v3) ∧ w'.cell? ⟨b, off + j * 10, none⟩ = some (.string yk) ∧ w'.cell? ⟨b, off + j * 10 + 1, none⟩ = some (.int .i64 yn) ∧ w'.cell? ⟨b, off + j * 10 + 2, none⟩ = some (yu0) ∧ w'.cell? ⟨b, off + j * 10 + 3, none⟩ = some (yu1) ∧ w'.cell? ⟨b, off + j * 10 + 4, none⟩ = some (yu2) ∧ w'.cell? ⟨b, off + j * 10 + 5, none⟩ = some (yu3) ∧ w'.cell? ⟨b, off + j * 10 + 6, none⟩ = some (yv0) ∧ w'.cell? ⟨b, off + j * 10 + 7, none⟩ = some (yv1) ∧ w'.cell? ⟨b, off + j * 10 + 8, none⟩ = some (yv2) ∧ w'.cell? ⟨b, off + j * 10 + 9, none⟩ = some (yv3))) (by kernel_rfl) (by rw [← hv]; exact ((M.out.2.1).t8 ((HRy.out.keep (M.out.2.2)).c10))) (fun hH48 => ?_)
    rw [← hv] at hH48 ⊢
    clear hv
    refine tk at0 ?_
    refine tk at1 ?_
    refine tk at2 ?_
    refine tk at3 ?_
    refine tk at4 ?_
    refine tk at5 ?_
    refine wpAnyH_ready (rs := [6]) (by kernel_rfl) (by simp) ?_
    refine AllReadyH.cons at6 (fun K hK => ?_) AllReadyH.nil
    go_simp
    refine (reSameSpan_b (G := G) (p := yq) (q := yr) (r := q) (s := r) (b_ := false) (HQy.out.keep (M.out.2.2)) (HSy.out.keep (M.out.2.2)) (H3.out.keep (M.out.2.2)) (H4.out.keep (M.out.2.2)) (Fz.mono HZy1.out (by omega)) (Fz.mono HZy2.out (by omega)) (Fz.mono HZq.out (by omega)) (Fz.mono HZr.out (by omega)) HBB.out).mono ?_
    rintro e w7 ⟨rfl, hb⟩
    replace M := gnM hb M
    clear hb
    (try go_wp2_with fail)
    refine hK.out _ _ (((M.out.2.1).t8 ((HRy.out.keep (M.out.2.2)).c10))) (fun hH49 => ?_)
    clear hK K hH48
    (try simp only [Act.put, List.setIfInBounds_toArray, List.set_cons_zero, List.set_cons_succ])
    refine wpAnyH_done (by kernel_rfl) ?_ _
    clear hH49
    refine cj10 (HRy.out.keep (M.out.2.2)).c10 fun r1_0 r1_1 r1_2 r1_3 r1_4 r1_5 r1_6 r1_7 r1_8 r1_9 => ?_
    go_wp2_with fail
    clear r1_0 r1_1 r1_2 r1_3 r1_4 r1_5 r1_6 r1_7 r1_8 r1_9
    have HEQ := Lib.hid (HRS.out.symm.trans HSH.out)
    obtain ⟨rfl, rfl⟩ := Prod.mk.inj HEQ.out.symm
    go_ret2
    exact ⟨none, 0, 0, [], rfl, RdL.nil _ _ _, rfl, (M.out.2.2)⟩
   ·
    have HBB := Lib.hid (ne_both hsm)
    have HRS : Hid (showR (l.map SC.sh) ⟨key, note, q, r⟩ = (0, l.map SC.sh ++ [⟨key, note, q, r⟩])) := by show _ = _; rw [sh_next (Int.not_lt.2 HND.out) HLK.out hsm hyn, if_neg (by rw [List.length_map, HL.out.len]; omega)]
    have en1 : (yn == note) = false := beq_false_of_ne hyn
    clear hsm
    have ef_0 : decide (2000 ≤ n) = false := decide_eq_false (by omega)
    have ef_1 : decide (2000 ≤ (n : Int)) = false := decide_eq_false (by omega)
    have ef_i : ¬ 2000 ≤ (n : Int) := by omega
    clear hf
    go_wp2_with fail
    refine (rLastI_some (G := G) (key := key) (l := ls) (HL0.out.keep (M.out.2.2)) (by omega) (by omega) HLN.out).mono ?_
    rintro e w5 ⟨rfl, hb⟩
    replace M := gnM hb M
    clear hb
    go_wp2_with fail
    refine nmW w5.drew fun w6 hv => ?_
    replace M := drM hv M
    refine wp_region_held_drew (S := (fun w' => w'.cell? ⟨w.heap.size, 0, none⟩ = some (u0) ∧ w'.cell? ⟨w.heap.size, 1, none⟩ = some (u1) ∧ w'.cell? ⟨w.heap.size, 2, none⟩ = some (u2) ∧ w'.cell? ⟨w.heap.size, 3, none⟩ = some (u3) ∧ w'.cell? ⟨w.heap.size, 4, none⟩ = some (v0) ∧ w'.cell? ⟨w.heap.size, 5, none⟩ = some (v1) ∧ w'.cell? ⟨w.heap.size, 6, none⟩ = some (v2) ∧ w'.cell? ⟨w.heap.size, 7, none⟩ = some (v3) ∧ w'.cell? ⟨b, off + j * 10, none⟩ = some (.string yk) ∧ w'.cell? ⟨b, off + j * 10 + 1, none⟩ = some (.int .i64 yn) ∧ w'.cell? ⟨b, off + j * 10 + 2, none⟩ = some (yu0) ∧ w'.cell? ⟨b, off + j * 10 + 3, none⟩ = some (yu1) ∧ w'.cell? ⟨b, off + j * 10 + 4, none⟩ = some (yu2) ∧ w'.cell? ⟨b, off + j * 10 + 5, none⟩ = some (yu3) ∧ w'.cell? ⟨b, off + j * 10 + 6, none⟩ = some (yv0) ∧ w'.cell? ⟨b, off + j * 10 + 7, none⟩ = some (yv1) ∧ w'.cell? ⟨b, off + j * 10 + 8, none⟩ = some (yv2) ∧ w'.cell? ⟨b, off + j * 10 + 9, none⟩ = some (yv3))) (by kernel_rfl) (by rw [← hv]; exact ((M.out.2.1).t8 ((HRy.out.keep (M.out.2.2)).c10))) (fun hH50 => ?_)
    rw [← hv] at hH50 ⊢
    clear hv
    refine tk at0 ?_
    refine tk at1 ?_
    refine tk at2 ?_
    refine tk at3 ?_
    refine tk at4 ?_
    refine tk at5 ?_
    refine wpAnyH_ready (rs := [6]) (by kernel_rfl) (by simp) ?_
    refine AllReadyH.cons at6 (fun K hK => ?_) AllReadyH.nil
    go_simp
    refine (reSameSpan_b (G := G) (p := yq) (q := yr) (r := q) (s := r) (b_ := false) (HQy.out.keep (M.out.2.2)) (HSy.out.keep (M.out.2.2)) (H3.out.keep (M.out.2.2)) (H4.out.keep (M.out.2.2)) (Fz.mono HZy1.out (by omega)) (Fz.mono HZy2.out (by omega)) (Fz.mono HZq.out (by omega)) (Fz.mono HZr.out (by omega)) HBB.out).mono ?_
    rintro e w7 ⟨rfl, hb⟩
    replace M := gnM hb M
    clear hb
    (try go_wp2_with fail)
    refine hK.out _ _ (((M.out.2.1).t8 ((HRy.out.keep (M.out.2.2)).c10))) (fun hH51 => ?_)
    clear hK K hH50
    (try simp only [Act.put, List.setIfInBounds_toArray, List.set_cons_zero, List.set_cons_succ])
    refine wpAnyH_done (by kernel_rfl) ?_ _
    clear hH51
    refine cj10 (HRy.out.keep (M.out.2.2)).c10 fun r1_0 r1_1 r1_2 r1_3 r1_4 r1_5 r1_6 r1_7 r1_8 r1_9 => ?_
    go_upto_region 14 with fail
    clear r1_0 r1_1 r1_2 r1_3 r1_4 r1_5 r1_6 r1_7 r1_8 r1_9
    have hB0_ : w.heap.size ≤ w7.heap.size := ((M.out.2.2)).size
    have hGB_ : G ≤ w7.heap.size := Nat.le_trans hG hB0_
    have hlt0_ : w1.heap.size < w7.heap.size := ((M.out.1)).lt
    have hlt1_ : w.heap.size < w7.heap.size := ((M.out.2.1)).lt
    replace M := Lib.hid (And.intro (Below.refl w7.heap.size w7) M.out)
    go_wp2_with fail
    refine nmW w7.drew fun w8 hv => ?_
    replace M := drM hv M
    refine wp_region_held_drew (S := (fun w' => w'.cell? ⟨w1.heap.size, 0, none⟩ = some (.string key) ∧ w'.cell? ⟨w1.heap.size, 1, none⟩ = some (.int .i64 note) ∧ w'.cell? ⟨w1.heap.size, 2, none⟩ = some (u0) ∧ w'.cell? ⟨w1.heap.size, 3, none⟩ = some (u1) ∧ w'.cell? ⟨w1.heap.size, 4, none⟩ = some (u2) ∧ w'.cell? ⟨w1.heap.size, 5, none⟩ = some (u3) ∧ w'.cell? ⟨w1.heap.size, 6, none⟩ = some (v0) ∧ w'.cell? ⟨w1.heap.size, 7, none⟩ = some (v1) ∧ w'.cell? ⟨w1.heap.size, 8, none⟩ = some (v2) ∧ w'.cell? ⟨w1.heap.size, 9, none⟩ = some (v3))) (by kernel_rfl) (by rw [← hv]; exact (M.out.2.1).d10) (fun hH52 => ?_)
    rw [← hv] at hH52 ⊢
    clear hv
    refine tk at1 ?_
    refine tk at3 ?_
    refine wpAnyH_ready (rs := [0, 4]) (by kernel_rfl) (by simp) ?_
    refine AllReadyH.cons at0 (fun K hK => ?_) ?_
    ·
     go_simp
     refine nmW (w8.alloc (.cells #[] 37)) fun w9 hv => ?_
     rw [← hv]
     have ow2_ : w1.heap.size < w8.heap.size := ((M.out.2.1)).lt
     have ob2_ : w7.heap.size ≤ w8.heap.size := ((M.out.1)).size
     replace M := alM hv M
     clear hv
     refine hK.out _ _ ((M.out.2.2.1).d10) (fun hH53 => ?_)
     clear hK K hH52
     (try simp only [Act.put, List.setIfInBounds_toArray, List.set_cons_zero, List.set_cons_succ])
     refine wpAnyH_ready (rs := [2, 4]) (by kernel_rfl) (by simp) ?_
     refine AllReadyH.cons at2 (fun K hK => ?_) ?_
     ·
      rw [if_pos (by rfl)]
      refine wp_copyE elemSh (M.out.1) hGB_ (by omega) (HL.out.keep (M.out.2.2.2.2)) (by rfl) (by omega) (by omega) rfl rfl rfl (fun vv_54 w10 ho_ hg_ => ?_)
      replace M := Lib.hid (And.intro ho_ (And.intro (Below.grown (M.out.2.1) hg_ (M.out.2.1).size (fun k_ hk_ => by cases hk_; omega)) (And.intro ((M.out.2.2.1).only hg_ (by omega)) (And.intro ((M.out.2.2.2.1).only hg_ (by omega)) (Below.grown (M.out.2.2.2.2) hg_ (M.out.2.2.2.2).size (fun k_ hk_ => by cases hk_; omega))))))
      clear ho_ hg_
      refine hK.out _ _ ((M.out.2.2.1).d10) (fun hH55 => ?_)
      clear hK K hH53
      (try simp only [Act.put, List.setIfInBounds_toArray, List.set_cons_zero, List.set_cons_succ])
      refine wpAnyH_ready (rs := [4]) (by kernel_rfl) (by simp) ?_
      refine AllReadyH.cons at4 (fun K hK => ?_) AllReadyH.nil
      go_simp
      refine nmW (w10.alloc (.cells #[.string key, .int .i64 note, u0, u1, u2, u3, v0, v1, v2, v3] 37)) fun w11 hv => ?_
      rw [← hv]
      have ow3_ : w1.heap.size < w10.heap.size := ((M.out.2.2.1)).lt
      have ob3_ : w7.heap.size ≤ w10.heap.size := ((M.out.2.1)).size
      have no_b3_vv_54 := OwV.no (M.out.1)
      replace M := alM hv M
      clear hv
      refine hK.out _ _ ((M.out.2.2.2.1).d10) (fun hH56 => ?_)
      clear hK K hH55
      (try simp only [Act.put, List.setIfInBounds_toArray, List.set_cons_zero, List.set_cons_succ])
      refine wpAnyH_ready (rs := [5]) (by kernel_rfl) (by simp) ?_
      refine AllReadyH.cons at5 (fun K hK => ?_) AllReadyH.nil
      rw [if_pos (by rfl)]
      refine wp_push1 (M.out.2.1) HL.out.len elemSh (⟨key, note, u0, u1, u2, u3, q, v0, v1, v2, v3, r⟩ : SC) (M.out.1) rfl ⟨(H3.out.keep (M.out.2.2.2.2.2)), (H4.out.keep (M.out.2.2.2.2.2))⟩ (by rfl) (by omega) (by omega) (M.out.2.2.1).size rfl rfl rfl (fun g_57 d_58 w12 ho_ hd_ hg_ => ?_)
      replace M := Lib.hid (And.intro ho_ (And.intro (below_grown (M.out.2.2.1) (M.out.2.1).own (Nat.le_refl _) (M.out.2.2.1).size hg_) (And.intro ((M.out.2.2.2.1).grownB (M.out.2.1).own (by omega) hg_) (And.intro ((M.out.2.2.2.2.1).grownB (M.out.2.1).own (by omega) hg_) (below_grown (M.out.2.2.2.2.2) (M.out.2.1).own hB0_ (M.out.2.2.2.2.2).size hg_)))))
      have hcap_ : n + 1 ≤ d_58 := hd_
      clear ho_ hg_ hd_
      refine hK.out _ _ ((M.out.2.2.1).d10) (fun hH59 => ?_)
      clear hK K hH56
      (try simp only [Act.put, List.setIfInBounds_toArray, List.set_cons_zero, List.set_cons_succ])
      refine tk at6 ?_
      refine tk at7 ?_
      refine wpAnyH_done (by kernel_rfl) ?_ _
      clear hH59
      go_wp2_with fail
      have HEQ := Lib.hid (HRS.out.symm.trans HSH.out)
      obtain ⟨rfl, rfl⟩ := Prod.mk.inj HEQ.out.symm
      go_ret2
      exact ⟨_, _, _, l ++ [(⟨key, note, u0, u1, u2, u3, q, v0, v1, v2, v3, r⟩ : SC)], rfl, RdL.of (M.out.1).rd (by rw [List.length_append, HL.out.len]; rfl) hcap_, (by rw [List.map_append]; rfl), (M.out.2.2.2.2)⟩
     refine AllReadyH.cons at4 (fun K hK => ?_) AllReadyH.nil
     go_simp
     refine nmW (w9.alloc (.cells #[.string key, .int .i64 note, u0, u1, u2, u3, v0, v1, v2, v3] 37)) fun w10 hv => ?_
     rw [← hv]
     have ow3_ : w8.heap.size < w9.heap.size := ((M.out.1)).lt
     have ob3_ : w7.heap.size ≤ w9.heap.size := ((M.out.2.1)).size
     replace M := alM hv M
     clear hv
     refine hK.out _ _ ((M.out.2.2.2.1).d10) (fun hH60 => ?_)
     clear hK K hH53
     (try simp only [Act.put, List.setIfInBounds_toArray, List.set_cons_zero, List.set_cons_succ])
     refine wpAnyH_ready (rs := [2]) (by kernel_rfl) (by simp) ?_
     refine AllReadyH.cons at2 (fun K hK => ?_) AllReadyH.nil
     rw [if_pos (by rfl)]
     refine wp_copyE elemSh (M.out.2.1) hGB_ (by omega) (HL.out.keep (M.out.2.2.2.2.2)) (by rfl) (by omega) (by omega) rfl rfl rfl (fun vv_61 w11 ho_ hg_ => ?_)
     replace M := Lib.hid (And.intro ho_ (And.intro ((M.out.1).only hg_ (by omega)) (And.intro (Below.grown (M.out.2.2.1) hg_ (M.out.2.2.1).size (fun k_ hk_ => by cases hk_; omega)) (And.intro ((M.out.2.2.2.1).only hg_ (by omega)) (And.intro ((M.out.2.2.2.2.1).only hg_ (by omega)) (Below.grown (M.out.2.2.2.2.2) hg_ (M.out.2.2.2.2.2).size (fun k_ hk_ => by cases hk_; omega)))))))
     clear ho_ hg_
     refine hK.out _ _ ((M.out.2.2.2.1).d10) (fun hH62 => ?_)
     clear hK K hH60
     (try simp only [Act.put, List.setIfInBounds_toArray, List.set_cons_zero, List.set_cons_succ])
     refine wpAnyH_ready (rs := [5]) (by kernel_rfl) (by simp) ?_
     refine AllReadyH.cons at5 (fun K hK => ?_) AllReadyH.nil
     rw [if_pos (by rfl)]
     refine wp_push1 (M.out.1) HL.out.len elemSh (⟨key, note, u0, u1, u2, u3, q, v0, v1, v2, v3, r⟩ : SC) (M.out.2.1) rfl ⟨(H3.out.keep (M.out.2.2.2.2.2)), (H4.out.keep (M.out.2.2.2.2.2))⟩ (by rfl) (by omega) (by omega) (M.out.2.2.1).size rfl rfl rfl (fun g_63 d_64 w12 ho_ hd_ hg_ => ?_)
     replace M := Lib.hid (And.intro ho_ (And.intro (below_grown (M.out.2.2.1) (M.out.1).own (Nat.le_refl _) (M.out.2.2.1).size hg_) (And.intro ((M.out.2.2.2.1).grownB (M.out.1).own (by omega) hg_) (And.intro ((M.out.2.2.2.2.1).grownB (M.out.1).own (by omega) hg_) (below_grown (M.out.2.2.2.2.2) (M.out.1).own hB0_ (M.out.2.2.2.2.2).size hg_)))))
     have hcap_ : n + 1 ≤ d_64 := hd_
     clear ho_ hg_ hd_
     refine hK.out _ _ ((M.out.2.2.1).d10) (fun hH65 => ?_)
     clear hK K hH62
     (try simp only [Act.put, List.setIfInBounds_toArray, List.set_cons_zero, List.set_cons_succ])
     refine tk at6 ?_
     refine tk at7 ?_
     refine wpAnyH_done (by kernel_rfl) ?_ _
     clear hH65
     go_wp2_with fail
     have HEQ := Lib.hid (HRS.out.symm.trans HSH.out)
     obtain ⟨rfl, rfl⟩ := Prod.mk.inj HEQ.out.symm
     go_ret2
     exact ⟨_, _, _, l ++ [(⟨key, note, u0, u1, u2, u3, q, v0, v1, v2, v3, r⟩ : SC)], rfl, RdL.of (M.out.1).rd (by rw [List.length_append, HL.out.len]; rfl) hcap_, (by rw [List.map_append]; rfl), (M.out.2.2.2.2)⟩
    refine AllReadyH.cons at4 (fun K hK => ?_) AllReadyH.nil
    go_simp
    refine nmW (w8.alloc (.cells #[.string key, .int .i64 note, u0, u1, u2, u3, v0, v1, v2, v3] 37)) fun w9 hv => ?_
    rw [← hv]
    have ow2_ : w1.heap.size < w8.heap.size := ((M.out.2.1)).lt
    have ob2_ : w7.heap.size ≤ w8.heap.size := ((M.out.1)).size
    replace M := alM hv M
    clear hv
    refine hK.out _ _ ((M.out.2.2.1).d10) (fun hH66 => ?_)
    clear hK K hH52
    (try simp only [Act.put, List.setIfInBounds_toArray, List.set_cons_zero, List.set_cons_succ])
    refine wpAnyH_ready (rs := [0]) (by kernel_rfl) (by simp) ?_
    refine AllReadyH.cons at0 (fun K hK => ?_) AllReadyH.nil
    go_simp
    refine nmW (w9.alloc (.cells #[] 37)) fun w10 hv => ?_
    rw [← hv]
    have ow3_ : w8.heap.size < w9.heap.size := ((M.out.1)).lt
    have ob3_ : w7.heap.size ≤ w9.heap.size := ((M.out.2.1)).size
    replace M := alM hv M
    clear hv
    refine hK.out _ _ ((M.out.2.2.2.1).d10) (fun hH67 => ?_)
    clear hK K hH66
    (try simp only [Act.put, List.setIfInBounds_toArray, List.set_cons_zero, List.set_cons_succ])
    refine wpAnyH_ready (rs := [2]) (by kernel_rfl) (by simp) ?_
    refine AllReadyH.cons at2 (fun K hK => ?_) AllReadyH.nil
    rw [if_pos (by rfl)]
    refine wp_copyE elemSh (M.out.1) hGB_ (by omega) (HL.out.keep (M.out.2.2.2.2.2)) (by rfl) (by omega) (by omega) rfl rfl rfl (fun vv_68 w11 ho_ hg_ => ?_)
    replace M := Lib.hid (And.intro ho_ (And.intro ((M.out.2.1).only hg_ (by omega)) (And.intro (Below.grown (M.out.2.2.1) hg_ (M.out.2.2.1).size (fun k_ hk_ => by cases hk_; omega)) (And.intro ((M.out.2.2.2.1).only hg_ (by omega)) (And.intro ((M.out.2.2.2.2.1).only hg_ (by omega)) (Below.grown (M.out.2.2.2.2.2) hg_ (M.out.2.2.2.2.2).size (fun k_ hk_ => by cases hk_; omega)))))))
    clear ho_ hg_
    refine hK.out _ _ ((M.out.2.2.2.1).d10) (fun hH69 => ?_)
    clear hK K hH67
    (try simp only [Act.put, List.setIfInBounds_toArray, List.set_cons_zero, List.set_cons_succ])
    refine wpAnyH_ready (rs := [5]) (by kernel_rfl) (by simp) ?_
    refine AllReadyH.cons at5 (fun K hK => ?_) AllReadyH.nil
    rw [if_pos (by rfl)]
    refine wp_push1 (M.out.1) HL.out.len elemSh (⟨key, note, u0, u1, u2, u3, q, v0, v1, v2, v3, r⟩ : SC) (M.out.2.1) rfl ⟨(H3.out.keep (M.out.2.2.2.2.2)), (H4.out.keep (M.out.2.2.2.2.2))⟩ (by rfl) (by omega) (by omega) (M.out.2.2.1).size rfl rfl rfl (fun g_70 d_71 w12 ho_ hd_ hg_ => ?_)
    replace M := Lib.hid (And.intro ho_ (And.intro (below_grown (M.out.2.2.1) (M.out.1).own (Nat.le_refl _) (M.out.2.2.1).size hg_) (And.intro ((M.out.2.2.2.1).grownB (M.out.1).own (by omega) hg_) (And.intro ((M.out.2.2.2.2.1).grownB (M.out.1).own (by omega) hg_) (below_grown (M.out.2.2.2.2.2) (M.out.1).own hB0_ (M.out.2.2.2.2.2).size hg_)))))
    have hcap_ : n + 1 ≤ d_71 := hd_
    clear ho_ hg_ hd_
    refine hK.out _ _ ((M.out.2.2.1).d10) (fun hH72 => ?_)
    clear hK K hH69
    (try simp only [Act.put, List.setIfInBounds_toArray, List.set_cons_zero, List.set_cons_succ])
    refine tk at6 ?_
    refine tk at7 ?_
    refine wpAnyH_done (by kernel_rfl) ?_ _
    clear hH72
    go_wp2_with fail
    have HEQ := Lib.hid (HRS.out.symm.trans HSH.out)
    obtain ⟨rfl, rfl⟩ := Prod.mk.inj HEQ.out.symm
    go_ret2
    exact ⟨_, _, _, l ++ [(⟨key, note, u0, u1, u2, u3, q, v0, v1, v2, v3, r⟩ : SC)], rfl, RdL.of (M.out.1).rd (by rw [List.length_append, HL.out.len]; rfl) hcap_, (by rw [List.map_append]; rfl), (M.out.2.2.2.2)⟩
end Go.Proofs.Ytlpcblhkddmlnaa
namespace Go.Proofs.Ytlpcblhkddmlnaa
open Go.RowKit Go.Lib
variable {G : Nat}

theorem wpList_of_wp {P : Program} {ops : Array Oper} {rest : List Oper} {o : Oper} {a : Act} {Q : Exit → Act → World → Prop} {w : World} (hgd : o.guard = none)
  (h : ∀ K : Act → World → Prop, (∀ a' w', wpList P ops Q rest a' w' → K a' w') → o.wp P a w K Q) : wpList P ops Q (o :: rest) a w :=
 wpList_plain hgd fun K hK => h K hK
set_option maxRecDepth 100000 in
set_option maxHeartbeats 4000000 in
theorem rDeltas_g {key : ByteArray} {lf : List Sh} {a : Option Addr} {n c : Nat} {w : World} (hG : G ≤ w.heap.size) (_hlf : lf.length ≤ 1000000) (hz : FzS lf 100000000) (hA : ∀ W, Below w.heap.size w W → Calls Try.prog 22 #[.slice a n c, .string key] W fun e w' => ∃ a2 n2 c2 l2, e = .returned (.slice a2 n2 c2) ∧ RdC G w' a2 n2 c2 l2 ∧ l2.map SC.sh = lf ∧ Below W.heap.size W w') :
  Calls Try.prog 17 #[.slice a n c, .string key] w fun e w' => ∃ a2 n2 c2 l2 a3 n3 c3 l3, e = .returned (.tuple #[.slice a2 n2 c2, .slice a3 n3 c3]) ∧ RdQ G w' a2 n2 c2 l2 ∧ RdQ G w' a3 n3 c3 l3 ∧ l2.map QC.q = dif Sh.lo lf ∧ l3.map QC.q = dif Sh.hi lf ∧ Below w.heap.size w w' := by
 have HZ := Lib.hid hz; have HA := Lib.hid hA; clear hz hA
 have M : Hid (Below w.heap.size w w) := Below.refl _ _
 go_enter Try.func17, Try.ntmps17
 go_wp2_with fail
 refine (HA.out _ M.out).mono ?_
 rintro e w1 ⟨a2, n2, c2, l2, rfl, hd1, hu1, hb⟩
 replace M := adM hd1 hb M
 clear hb hd1
 replace hu1 := Lib.hid hu1
 have HZ2 := Lib.hid (HZ.out.fzl hu1.out)
 have hlen_ : n2 ≤ 1000000 := by have h_ := congrArg List.length hu1.out; rw [List.length_map, (M.out.1).len] at h_; omega
 go_wp2_with fail
 go_loopw [6, 7, 9] (fun i6 i7 i9 wr => ∃ (k : Nat) (gl : List QC) (hl : List QC) (vg : Value) (vh : Value), vg = i6 ∧ vh = i7 ∧ i9 = .int .i64 ((k : Int) + 1) ∧ Hid (k + 1 ≤ n2 ∨ k = 0) ∧ Hid (gl.length = k) ∧ Hid (hl.length = k) ∧ Hid (gl.map QC.q = dif Sh.lo ((l2.take (k + 1)).map SC.sh)) ∧ Hid (hl.map QC.q = dif Sh.hi ((l2.take (k + 1)).map SC.sh)) ∧ Hid (Ow2 G w.heap.size wr vg vh gl hl ∧ RdC G wr a2 n2 c2 l2 ∧ Below w.heap.size w wr)) (fun i6 i7 i9 _ => n2 - (RowKit.intOf i9).toNat)
 case atStart =>
  exact ⟨0, [], [], (.slice none 0 0), (.slice none 0 0), rfl, rfl, rfl, (by show _ ∨ _; omega), (Lib.hid rfl), (Lib.hid rfl), (Lib.hid (by rw [dif_one]; rfl)), (Lib.hid (by rw [dif_one]; rfl)), Lib.hid (And.intro (Ow2.nil _ hG) (And.intro (M.out.1) (M.out.2)))⟩
 case round =>
  obtain ⟨w2, rfl⟩ : ∃ x, x = wr := ⟨_, rfl⟩
  clear M
  obtain ⟨k, gl, hl, vg, vh, rfl, rfl, rfl, hk, HG1, HG2, HD1, HD2, M⟩ := hrel
  have hk := hk.out
  have hkn_ : k ≤ 1000000 := by omega
  by_cases hlt : k + 1 < n2
  ·
   have e1_0 : decide (k + 1 < n2) = true := decide_eq_true (by omega)
   have e1_1 : decide ((k : Int) + 1 < (n2 : Int)) = true := decide_eq_true (by omega)
   have e1_i : (k : Int) + 1 < (n2 : Int) := by omega
   have hi0_ : (0 : Int) ≤ (k : Int) + 1 := by omega
   have hi2_ : (k : Int) < (n2 : Int) := by omega
   have hwk_ : IntKind.i64.wrap ((k : Int) + 1 - 1) = (k : Int) := by rw [show (k : Int) + 1 - 1 = (k : Int) by omega]; exact IntWalk.i64_in _ (by omega)
   have hwl_ : IntKind.i64.wrap (k : Int) = (k : Int) := IntWalk.i64_in _ (by omega)
   obtain ⟨bx, offx, rfl, -⟩ := RdL.ptr (M.out.2.1) (by omega : 0 < n2)
   have hkl_ : k < l2.length := by rw [(M.out.2.1).len]; omega
   obtain ⟨x_, hx_⟩ : ∃ x, l2[k]? = some x := ⟨l2[k], List.getElem?_eq_getElem hkl_⟩
   obtain ⟨xk, xn, xu0, xu1, xu2, xu3, xq, xv0, xv1, xv2, xv3, xr⟩ := x_
   have HEx := Lib.hid hx_
   clear hx_ hkl_
   have hkl_ : (k + 1) < l2.length := by rw [(M.out.2.1).len]; omega
   obtain ⟨y_, hx_⟩ : ∃ x, l2[(k + 1)]? = some x := ⟨l2[(k + 1)], List.getElem?_eq_getElem hkl_⟩
   obtain ⟨yk, yn, yu0, yu1, yu2, yu3, yq, yv0, yv1, yv2, yv3, yr⟩ := y_
   have HEy := Lib.hid hx_
   clear hx_ hkl_
   have hz_ := HZ2.out _ (List.mem_of_getElem? HEx.out)
   have HZx1 : Hid (Fz xq 100000000) := hz_.1
   have HZx2 : Hid (Fz xr 100000000) := hz_.2
   clear hz_
   have hz_ := HZ2.out _ (List.mem_of_getElem? HEy.out)
   have HZy1 : Hid (Fz yq 100000000) := hz_.1
   have HZy2 : Hid (Fz yr 100000000) := hz_.2
   clear hz_
   go_wp2_with fail
   refine nmW w2.drew fun w3 hv => ?_
   replace M := drM hv M
   refine wp_region_held_drew (S := (fun w' => w'.cell? ⟨bx, offx + (k + 1) * 10, none⟩ = some (.string yk) ∧ w'.cell? ⟨bx, offx + (k + 1) * 10 + 1, none⟩ = some (.int .i64 yn) ∧ w'.cell? ⟨bx, offx + (k + 1) * 10 + 2, none⟩ = some (yu0) ∧ w'.cell? ⟨bx, offx + (k + 1) * 10 + 3, none⟩ = some (yu1) ∧ w'.cell? ⟨bx, offx + (k + 1) * 10 + 4, none⟩ = some (yu2) ∧ w'.cell? ⟨bx, offx + (k + 1) * 10 + 5, none⟩ = some (yu3) ∧ w'.cell? ⟨bx, offx + (k + 1) * 10 + 6, none⟩ = some (yv0) ∧ w'.cell? ⟨bx, offx + (k + 1) * 10 + 7, none⟩ = some (yv1) ∧ w'.cell? ⟨bx, offx + (k + 1) * 10 + 8, none⟩ = some (yv2) ∧ w'.cell? ⟨bx, offx + (k + 1) * 10 + 9, none⟩ = some (yv3) ∧ w'.cell? ⟨bx, offx + k * 10, none⟩ = some (.string xk) ∧ w'.cell? ⟨bx, offx + k * 10 + 1, none⟩ = some (.int .i64 xn) ∧ w'.cell? ⟨bx, offx + k * 10 + 2, none⟩ = some (xu0) ∧ w'.cell? ⟨bx, offx + k * 10 + 3, none⟩ = some (xu1) ∧ w'.cell? ⟨bx, offx + k * 10 + 4, none⟩ = some (xu2) ∧ w'.cell? ⟨bx, offx + k * 10 + 5, none⟩ = some (xu3) ∧ w'.cell? ⟨bx, offx + k * 10 + 6, none⟩ = some (xv0) ∧ w'.cell? ⟨bx, offx + k * 10 + 7, none⟩ = some (xv1) ∧ w'.cell? ⟨bx, offx + k * 10 + 8, none⟩ = some (xv2) ∧ w'.cell? ⟨bx, offx + k * 10 + 9, none⟩ = some (xv3))) (by kernel_rfl) (by rw [← hv]; exact ((show Row w3 bx (offx + (k + 1) * 10) [.string yk, .int .i64 yn, yu0, yu1, yu2, yu3, yv0, yv1, yv2, yv3] from (RdL.row_ (M.out.2.1) HEy.out)).t10 ((show Row w3 bx (offx + k * 10) [.string xk, .int .i64 xn, xu0, xu1, xu2, xu3, xv0, xv1, xv2, xv3] from (RdL.row_ (M.out.2.1) HEx.out)).c10))) (fun hH7 => ?_)
   rw [← hv] at hH7 ⊢
   clear hv
   refine tk at0 ?_
   refine tk at1 ?_
   refine tk at2 ?_
   refine tk at3 ?_
   refine tk at4 ?_
   refine tk at5 ?_
   refine tk at6 ?_
   refine tk at7 ?_
   refine tk at8 ?_
   refine tk at9 ?_
   refine tk at10 ?_
   refine tk at11 ?_
   refine tk at12 ?_
   refine wpAnyH_ready (rs := [13, 17]) (by kernel_rfl) (by simp) ?_
   refine AllReadyH.cons at13 (fun K hK => ?_) ?_
   ·
    go_simp
    refine nmW (α := Rat) (yq - xq) fun q12 eq12 => ?_
    refine (rqSub (G := G) (q := yq) (r := xq) (show FQ G w3 yu0 yu1 yu2 yu3 yq from (RdL.oks (M.out.2.1) _ (List.mem_of_getElem? HEy.out)).1) (show FQ G w3 xu0 xu1 xu2 xu3 xq from (RdL.oks (M.out.2.1) _ (List.mem_of_getElem? HEx.out)).1) (Fz.mono HZy1.out (by omega)) (Fz.mono HZx1.out (by omega))).mono ?_
    rintro e w4 ⟨x_8, x_9, x_10, x_11, rfl, hd13, hb⟩
    rw [← eq12] at hd13
    have Sq12 : Hid (Fz q12 200000001) := by show Fz q12 200000001; rw [eq12]; exact (Fz.sub HZy1.out HZx1.out)
    have Eq12 := Lib.hid eq12; clear eq12
    replace M := adM hd13 hb M
    clear hb hd13
    (try go_wp2_with fail)
    refine hK.out _ _ (((show Row w4 bx (offx + (k + 1) * 10) [.string yk, .int .i64 yn, yu0, yu1, yu2, yu3, yv0, yv1, yv2, yv3] from (RdL.row_ (M.out.2.2.1) HEy.out)).t10 ((show Row w4 bx (offx + k * 10) [.string xk, .int .i64 xn, xu0, xu1, xu2, xu3, xv0, xv1, xv2, xv3] from (RdL.row_ (M.out.2.2.1) HEx.out)).c10))) (fun hH14 => ?_)
    clear hK K hH7
    (try simp only [Act.put, List.setIfInBounds_toArray, List.set_cons_zero, List.set_cons_succ])
    refine tk at14 ?_
    refine tk at15 ?_
    refine tk at16 ?_
    refine wpAnyH_ready (rs := [17]) (by kernel_rfl) (by simp) ?_
    refine AllReadyH.cons at17 (fun K hK => ?_) AllReadyH.nil
    go_simp
    refine nmW (w4.alloc (.cells #[.int .i64 0, .slice none 0 0, .int .i64 0, .slice none 0 0] 27)) fun w5 hv => ?_
    rw [← hv]
    have ow0_ : w.heap.size ≤ w4.heap.size := ((M.out.2.2.2)).size
    have no2_0_vg : Value.ownBlock vg ≠ some w4.heap.size := OwV.no (M.out.2.1).a
    have no2_0_vh : Value.ownBlock vh ≠ some w4.heap.size := OwV.no (M.out.2.1).b
    replace M := alM hv M
    clear hv
    refine hK.out _ _ (((show Row w5 bx (offx + (k + 1) * 10) [.string yk, .int .i64 yn, yu0, yu1, yu2, yu3, yv0, yv1, yv2, yv3] from (RdL.row_ (M.out.2.2.2.1) HEy.out)).t10 ((show Row w5 bx (offx + k * 10) [.string xk, .int .i64 xn, xu0, xu1, xu2, xu3, xv0, xv1, xv2, xv3] from (RdL.row_ (M.out.2.2.2.1) HEx.out)).c10))) (fun hH15 => ?_)
    clear hK K hH14
    (try simp only [Act.put, List.setIfInBounds_toArray, List.set_cons_zero, List.set_cons_succ])
    refine wpAnyH_ready (rs := [18]) (by kernel_rfl) (by simp) ?_
    refine AllReadyH.cons at18 (fun K hK => ?_) AllReadyH.nil
    refine cj8 (M.out.1).c4 fun p0_0 q0_0 p0_1 q0_1 p0_2 q0_2 p0_3 q0_3 => ?_
    refine cj4 (TQ.st (M.out.2.1)) fun st_x_8 st_x_9 st_x_10 st_x_11 => ?_
    go_simp
    clear p0_0 q0_0 p0_1 q0_1 p0_2 q0_2 p0_3 q0_3 st_x_8 st_x_9 st_x_10 st_x_11
    refine nmW ((((w5.setCell ⟨w4.heap.size, 0, none⟩ (x_8)).setCell ⟨w4.heap.size, 1, none⟩ (x_9)).setCell ⟨w4.heap.size, 2, none⟩ (x_10)).setCell ⟨w4.heap.size, 3, none⟩ (x_11)) fun w6 hv => ?_
    rw [← hv]
    have og : w5.grownBy w6 (some w4.heap.size) := by rw [hv]; exact (only_setCell (only_setCell (only_setCell (only_setCell (World.grownBy.refl _ _) _) _) _) _)
    have hz : w.heap.size ≤ w4.heap.size := by omega
    have hk : Bx w6 w4.heap.size 27 #[x_8, x_9, x_10, x_11] := by rw [hv]; exact (((((M.out.1).set 0 _).set 1 _).set 2 _).set 3 _)
    have hbw : Below w.heap.size w w6 := by rw [hv]; exact (Below.setCell (Below.setCell (Below.setCell (Below.setCell (M.out.2.2.2.2) (by omega) _) (by omega) _) (by omega) _) (by omega) _)
    replace M := Lib.hid (And.intro hk (And.intro ((M.out.2.1).far (M.out.1) (by rfl) (by omega) og) (And.intro ((M.out.2.2.1).far_no (M.out.1) no2_0_vg no2_0_vh (by rfl) (by omega) og) (And.intro ((M.out.2.2.2.1).far (M.out.1) (by rfl) (by omega) og) hbw))))
    clear hk hbw og hv hz
    refine hK.out _ _ (((show Row w6 bx (offx + (k + 1) * 10) [.string yk, .int .i64 yn, yu0, yu1, yu2, yu3, yv0, yv1, yv2, yv3] from (RdL.row_ (M.out.2.2.2.1) HEy.out)).t10 ((show Row w6 bx (offx + k * 10) [.string xk, .int .i64 xn, xu0, xu1, xu2, xu3, xv0, xv1, xv2, xv3] from (RdL.row_ (M.out.2.2.2.1) HEx.out)).c10))) (fun hH16 => ?_)
    clear hK K hH15
    (try simp only [Act.put, List.setIfInBounds_toArray, List.set_cons_zero, List.set_cons_succ])
    refine tk at19 ?_
    refine wpAnyH_done (by kernel_rfl) ?_ _
    clear hH16
    go_wp2_with fail
    refine nmW w6.drew fun w7 hv => ?_
    replace M := drM hv M
    refine wp_region_held_drew (S := (fun w' => w'.cell? ⟨bx, offx + (k + 1) * 10, none⟩ = some (.string yk) ∧ w'.cell? ⟨bx, offx + (k + 1) * 10 + 1, none⟩ = some (.int .i64 yn) ∧ w'.cell? ⟨bx, offx + (k + 1) * 10 + 2, none⟩ = some (yu0) ∧ w'.cell? ⟨bx, offx + (k + 1) * 10 + 3, none⟩ = some (yu1) ∧ w'.cell? ⟨bx, offx + (k + 1) * 10 + 4, none⟩ = some (yu2) ∧ w'.cell? ⟨bx, offx + (k + 1) * 10 + 5, none⟩ = some (yu3) ∧ w'.cell? ⟨bx, offx + (k + 1) * 10 + 6, none⟩ = some (yv0) ∧ w'.cell? ⟨bx, offx + (k + 1) * 10 + 7, none⟩ = some (yv1) ∧ w'.cell? ⟨bx, offx + (k + 1) * 10 + 8, none⟩ = some (yv2) ∧ w'.cell? ⟨bx, offx + (k + 1) * 10 + 9, none⟩ = some (yv3) ∧ w'.cell? ⟨bx, offx + k * 10, none⟩ = some (.string xk) ∧ w'.cell? ⟨bx, offx + k * 10 + 1, none⟩ = some (.int .i64 xn) ∧ w'.cell? ⟨bx, offx + k * 10 + 2, none⟩ = some (xu0) ∧ w'.cell? ⟨bx, offx + k * 10 + 3, none⟩ = some (xu1) ∧ w'.cell? ⟨bx, offx + k * 10 + 4, none⟩ = some (xu2) ∧ w'.cell? ⟨bx, offx + k * 10 + 5, none⟩ = some (xu3) ∧ w'.cell? ⟨bx, offx + k * 10 + 6, none⟩ = some (xv0) ∧ w'.cell? ⟨bx, offx + k * 10 + 7, none⟩ = some (xv1) ∧ w'.cell? ⟨bx, offx + k * 10 + 8, none⟩ = some (xv2) ∧ w'.cell? ⟨bx, offx + k * 10 + 9, none⟩ = some (xv3))) (by kernel_rfl) (by rw [← hv]; exact ((show Row w7 bx (offx + (k + 1) * 10) [.string yk, .int .i64 yn, yu0, yu1, yu2, yu3, yv0, yv1, yv2, yv3] from (RdL.row_ (M.out.2.2.2.1) HEy.out)).t10 ((show Row w7 bx (offx + k * 10) [.string xk, .int .i64 xn, xu0, xu1, xu2, xu3, xv0, xv1, xv2, xv3] from (RdL.row_ (M.out.2.2.2.1) HEx.out)).c10))) (fun hH23 => ?_)
    rw [← hv] at hH23 ⊢
    clear hv
    refine tk at0 ?_
    refine tk at1 ?_
    refine tk at2 ?_
    refine tk at3 ?_
    refine tk at4 ?_
    refine tk at5 ?_
    refine tk at6 ?_
    refine tk at7 ?_
    refine tk at8 ?_
    refine tk at9 ?_
    refine tk at10 ?_
    refine tk at11 ?_
    refine tk at12 ?_
    refine wpAnyH_ready (rs := [13, 17]) (by kernel_rfl) (by simp) ?_
    refine AllReadyH.cons at13 (fun K hK => ?_) ?_
    ·
     go_simp
     refine nmW (α := Rat) (yr - xr) fun q28 eq28 => ?_
     refine (rqSub (G := G) (q := yr) (r := xr) (show FQ G w7 yv0 yv1 yv2 yv3 yr from (RdL.oks (M.out.2.2.2.1) _ (List.mem_of_getElem? HEy.out)).2) (show FQ G w7 xv0 xv1 xv2 xv3 xr from (RdL.oks (M.out.2.2.2.1) _ (List.mem_of_getElem? HEx.out)).2) (Fz.mono HZy2.out (by omega)) (Fz.mono HZx2.out (by omega))).mono ?_
     rintro e w8 ⟨x_24, x_25, x_26, x_27, rfl, hd29, hb⟩
     rw [← eq28] at hd29
     have Sq28 : Hid (Fz q28 200000001) := by show Fz q28 200000001; rw [eq28]; exact (Fz.sub HZy2.out HZx2.out)
     have Eq28 := Lib.hid eq28; clear eq28
     replace M := adM hd29 hb M
     clear hb hd29
     (try go_wp2_with fail)
     refine hK.out _ _ (((show Row w8 bx (offx + (k + 1) * 10) [.string yk, .int .i64 yn, yu0, yu1, yu2, yu3, yv0, yv1, yv2, yv3] from (RdL.row_ (M.out.2.2.2.2.1) HEy.out)).t10 ((show Row w8 bx (offx + k * 10) [.string xk, .int .i64 xn, xu0, xu1, xu2, xu3, xv0, xv1, xv2, xv3] from (RdL.row_ (M.out.2.2.2.2.1) HEx.out)).c10))) (fun hH30 => ?_)
     clear hK K hH23
     (try simp only [Act.put, List.setIfInBounds_toArray, List.set_cons_zero, List.set_cons_succ])
     refine tk at14 ?_
     refine tk at15 ?_
     refine tk at16 ?_
     refine wpAnyH_ready (rs := [17]) (by kernel_rfl) (by simp) ?_
     refine AllReadyH.cons at17 (fun K hK => ?_) AllReadyH.nil
     go_simp
     refine nmW (w8.alloc (.cells #[.int .i64 0, .slice none 0 0, .int .i64 0, .slice none 0 0] 27)) fun w9 hv => ?_
     rw [← hv]
     have ow1_ : w4.heap.size < w8.heap.size := ((M.out.2.1)).lt
     have no2_1_vg : Value.ownBlock vg ≠ some w8.heap.size := OwV.no (M.out.2.2.2.1).a
     have no2_1_vh : Value.ownBlock vh ≠ some w8.heap.size := OwV.no (M.out.2.2.2.1).b
     replace M := alM hv M
     clear hv
     refine hK.out _ _ (((show Row w9 bx (offx + (k + 1) * 10) [.string yk, .int .i64 yn, yu0, yu1, yu2, yu3, yv0, yv1, yv2, yv3] from (RdL.row_ (M.out.2.2.2.2.2.1) HEy.out)).t10 ((show Row w9 bx (offx + k * 10) [.string xk, .int .i64 xn, xu0, xu1, xu2, xu3, xv0, xv1, xv2, xv3] from (RdL.row_ (M.out.2.2.2.2.2.1) HEx.out)).c10))) (fun hH31 => ?_)
     clear hK K hH30
     (try simp only [Act.put, List.setIfInBounds_toArray, List.set_cons_zero, List.set_cons_succ])
     refine wpAnyH_ready (rs := [18]) (by kernel_rfl) (by simp) ?_
     refine AllReadyH.cons at18 (fun K hK => ?_) AllReadyH.nil
     refine cj8 (M.out.1).c4 fun p1_0 q1_0 p1_1 q1_1 p1_2 q1_2 p1_3 q1_3 => ?_
     refine cj4 (TQ.st (M.out.2.1)) fun st_x_24 st_x_25 st_x_26 st_x_27 => ?_
     go_simp
     clear p1_0 q1_0 p1_1 q1_1 p1_2 q1_2 p1_3 q1_3 st_x_24 st_x_25 st_x_26 st_x_27
     refine nmW ((((w9.setCell ⟨w8.heap.size, 0, none⟩ (x_24)).setCell ⟨w8.heap.size, 1, none⟩ (x_25)).setCell ⟨w8.heap.size, 2, none⟩ (x_26)).setCell ⟨w8.heap.size, 3, none⟩ (x_27)) fun w10 hv => ?_
     rw [← hv]
     have og : w9.grownBy w10 (some w8.heap.size) := by rw [hv]; exact (only_setCell (only_setCell (only_setCell (only_setCell (World.grownBy.refl _ _) _) _) _) _)
     have hz : w.heap.size ≤ w8.heap.size := by omega
     have hk : Bx w10 w8.heap.size 27 #[x_24, x_25, x_26, x_27] := by rw [hv]; exact (((((M.out.1).set 0 _).set 1 _).set 2 _).set 3 _)
     have hbw : Below w.heap.size w w10 := by rw [hv]; exact (Below.setCell (Below.setCell (Below.setCell (Below.setCell (M.out.2.2.2.2.2.2) (by omega) _) (by omega) _) (by omega) _) (by omega) _)
     replace M := Lib.hid (And.intro hk (And.intro ((M.out.2.1).far (M.out.1) (by rfl) (by omega) og) (And.intro ((M.out.2.2.1).only og (by omega)) (And.intro ((M.out.2.2.2.1).far (M.out.1) (by rfl) (by omega) og) (And.intro ((M.out.2.2.2.2.1).far_no (M.out.1) no2_1_vg no2_1_vh (by rfl) (by omega) og) (And.intro ((M.out.2.2.2.2.2.1).far (M.out.1) (by rfl) (by omega) og) hbw))))))
     clear hk hbw og hv hz
     refine hK.out _ _ (((show Row w10 bx (offx + (k + 1) * 10) [.string yk, .int .i64 yn, yu0, yu1, yu2, yu3, yv0, yv1, yv2, yv3] from (RdL.row_ (M.out.2.2.2.2.2.1) HEy.out)).t10 ((show Row w10 bx (offx + k * 10) [.string xk, .int .i64 xn, xu0, xu1, xu2, xu3, xv0, xv1, xv2, xv3] from (RdL.row_ (M.out.2.2.2.2.2.1) HEx.out)).c10))) (fun hH32 => ?_)
     clear hK K hH31
     (try simp only [Act.put, List.setIfInBounds_toArray, List.set_cons_zero, List.set_cons_succ])
     refine tk at19 ?_
     refine wpAnyH_done (by kernel_rfl) ?_ _
     clear hH32
     go_upto_region 9 with fail
     clear hwk_ hwl_
     refine cj4 (M.out.2.2.1).d4 fun p0_0 p0_1 p0_2 p0_3 => ?_
     have z0 : w4.heap.size < w10.heap.size := (M.out.2.2.1).lt
     go_upto_region 10 with (at_builtin; go_must (refine wpList_of_wp rfl fun K_ hK_ => wp_pushP1 (((M.out.2.2.2.2.1)).keep (below_alloc _ _)) HG1.out elemFr (⟨x_8, x_9, x_10, x_11, q12⟩ : QC) (Bx.new w10 27 #[x_8, x_9, x_10, x_11]) rfl (((M.out.2.2.2.1)).keep (below_alloc _ _)) (by omega) (by omega) (Nat.le_trans (M.out.2.2.2.2.2.2).size (by simp)) rfl rfl rfl (fun vv_33 w11 ho_ hg_ => hK_ _ _ ?_)))
     clear p0_0 p0_1 p0_2 p0_3 z0
     have MA_ := (Goes.go M.out (below_alloc w10 (.cells #[x_8, x_9, x_10, x_11] 27) : Below w10.heap.size w10 (w10.alloc (.cells #[x_8, x_9, x_10, x_11] 27))))
     replace M := Lib.hid (And.intro ho_ (And.intro (MA_.1.grownN no2_1_vg hg_) (And.intro (MA_.2.1.grown MA_.2.2.2.2.1.a.own (by rfl) MA_.2.2.2.2.1.a.leG hg_) (And.intro (MA_.2.2.1.grownN no2_0_vg hg_) (And.intro (MA_.2.2.2.1.grown MA_.2.2.2.2.1.a.own (by rfl) MA_.2.2.2.2.1.a.leG hg_) (And.intro (MA_.2.2.2.2.2.1.grown MA_.2.2.2.2.1.a.own (by rfl) MA_.2.2.2.2.1.a.leG hg_) (below_grown MA_.2.2.2.2.2.2 MA_.2.2.2.2.1.a.own (Nat.le_refl _) MA_.2.2.2.2.2.2.size hg_)))))))
     clear ho_ hg_ MA_
     refine cj4 (M.out.2.1).d4 fun p1_0 p1_1 p1_2 p1_3 => ?_
     have z1 : w8.heap.size < w11.heap.size := (M.out.2.1).lt
     go_upto_region 6 with (at_builtin; go_must (refine wpList_of_wp rfl fun K_ hK_ => wp_pushP2 (((M.out.1)).keep (below_alloc _ _)) HG2.out elemFr (⟨x_24, x_25, x_26, x_27, q28⟩ : QC) (Bx.new w11 27 #[x_24, x_25, x_26, x_27]) rfl (((M.out.2.2.1)).keep (below_alloc _ _)) (by omega) (by omega) (Nat.le_trans (M.out.2.2.2.2.2.2).size (by simp)) rfl rfl rfl (fun vv_34 w12 ho_ hg_ => hK_ _ _ ?_)))
     clear p1_0 p1_1 p1_2 p1_3 z1
     have MA_ := (Goes.go M.out (below_alloc w11 (.cells #[x_24, x_25, x_26, x_27] 27) : Below w11.heap.size w11 (w11.alloc (.cells #[x_24, x_25, x_26, x_27] 27))))
     replace M := Lib.hid (And.intro ho_ (And.intro (MA_.2.1.grownN no2_1_vh hg_) (And.intro (MA_.2.2.1.grown MA_.1.b.own (by rfl) MA_.1.a.leG hg_) (And.intro (MA_.2.2.2.1.grownN no2_0_vh hg_) (And.intro (MA_.2.2.2.2.1.grown MA_.1.b.own (by rfl) MA_.1.a.leG hg_) (And.intro (MA_.2.2.2.2.2.1.grown MA_.1.b.own (by rfl) MA_.1.a.leG hg_) (below_grown MA_.2.2.2.2.2.2 MA_.1.b.own (Nat.le_refl _) MA_.2.2.2.2.2.2.size hg_)))))))
     clear ho_ hg_ MA_
     go_wp2_with fail
     go_roundw
     case rel => exact ⟨(k + 1), (gl ++ [(⟨x_8, x_9, x_10, x_11, q12⟩ : QC)]), (hl ++ [(⟨x_24, x_25, x_26, x_27, q28⟩ : QC)]), vv_33, vv_34, rfl, rfl, by go_num, (by show _ ∨ _; omega), (Lib.hid (by rw [List.length_append, HG1.out]; rfl)), (Lib.hid (by rw [List.length_append, HG2.out]; rfl)), (Lib.hid (by rw [dif_next HEx.out HEy.out, List.map_append, HD1.out]; show _ ++ [q12] = _ ++ [_ - _]; rw [Eq12.out]; rfl)), (Lib.hid (by rw [dif_next HEx.out HEy.out, List.map_append, HD2.out]; show _ ++ [q28] = _ ++ [_ - _]; rw [Eq28.out]; rfl)), Lib.hid (And.intro (M.out.1) (And.intro (M.out.2.2.2.2.2.1) (M.out.2.2.2.2.2.2)))⟩
     case measure => simp [RowKit.intOf] <;> omega
    refine AllReadyH.cons at17 (fun K hK => ?_) AllReadyH.nil
    go_simp
    refine nmW (w7.alloc (.cells #[.int .i64 0, .slice none 0 0, .int .i64 0, .slice none 0 0] 27)) fun w8 hv => ?_
    rw [← hv]
    have ow1_ : w4.heap.size < w7.heap.size := ((M.out.1)).lt
    have no2_1_vg : Value.ownBlock vg ≠ some w7.heap.size := OwV.no (M.out.2.2.1).a
    have no2_1_vh : Value.ownBlock vh ≠ some w7.heap.size := OwV.no (M.out.2.2.1).b
    replace M := alM hv M
    clear hv
    refine hK.out _ _ (((show Row w8 bx (offx + (k + 1) * 10) [.string yk, .int .i64 yn, yu0, yu1, yu2, yu3, yv0, yv1, yv2, yv3] from (RdL.row_ (M.out.2.2.2.2.1) HEy.out)).t10 ((show Row w8 bx (offx + k * 10) [.string xk, .int .i64 xn, xu0, xu1, xu2, xu3, xv0, xv1, xv2, xv3] from (RdL.row_ (M.out.2.2.2.2.1) HEx.out)).c10))) (fun hH35 => ?_)
    clear hK K hH23
    (try simp only [Act.put, List.setIfInBounds_toArray, List.set_cons_zero, List.set_cons_succ])
    refine wpAnyH_ready (rs := [13]) (by kernel_rfl) (by simp) ?_
    refine AllReadyH.cons at13 (fun K hK => ?_) AllReadyH.nil
    go_simp
    refine nmW (α := Rat) (yr - xr) fun q40 eq40 => ?_
    refine (rqSub (G := G) (q := yr) (r := xr) (show FQ G w8 yv0 yv1 yv2 yv3 yr from (RdL.oks (M.out.2.2.2.2.1) _ (List.mem_of_getElem? HEy.out)).2) (show FQ G w8 xv0 xv1 xv2 xv3 xr from (RdL.oks (M.out.2.2.2.2.1) _ (List.mem_of_getElem? HEx.out)).2) (Fz.mono HZy2.out (by omega)) (Fz.mono HZx2.out (by omega))).mono ?_
    rintro e w9 ⟨x_36, x_37, x_38, x_39, rfl, hd41, hb⟩
    rw [← eq40] at hd41
    have Sq40 : Hid (Fz q40 200000001) := by show Fz q40 200000001; rw [eq40]; exact (Fz.sub HZy2.out HZx2.out)
    have Eq40 := Lib.hid eq40; clear eq40
    replace M := adM hd41 hb M
    clear hb hd41
    (try go_wp2_with fail)
    refine hK.out _ _ (((show Row w9 bx (offx + (k + 1) * 10) [.string yk, .int .i64 yn, yu0, yu1, yu2, yu3, yv0, yv1, yv2, yv3] from (RdL.row_ (M.out.2.2.2.2.2.1) HEy.out)).t10 ((show Row w9 bx (offx + k * 10) [.string xk, .int .i64 xn, xu0, xu1, xu2, xu3, xv0, xv1, xv2, xv3] from (RdL.row_ (M.out.2.2.2.2.2.1) HEx.out)).c10))) (fun hH42 => ?_)
    clear hK K hH35
    (try simp only [Act.put, List.setIfInBounds_toArray, List.set_cons_zero, List.set_cons_succ])
    refine tk at14 ?_
    refine tk at15 ?_
    refine tk at16 ?_
    refine wpAnyH_ready (rs := [18]) (by kernel_rfl) (by simp) ?_
    refine AllReadyH.cons at18 (fun K hK => ?_) AllReadyH.nil
    refine cj8 (M.out.2.1).c4 fun p1_0 q1_0 p1_1 q1_1 p1_2 q1_2 p1_3 q1_3 => ?_
    refine cj4 (TQ.st (M.out.1)) fun st_x_36 st_x_37 st_x_38 st_x_39 => ?_
    go_simp
    clear p1_0 q1_0 p1_1 q1_1 p1_2 q1_2 p1_3 q1_3 st_x_36 st_x_37 st_x_38 st_x_39
    refine nmW ((((w9.setCell ⟨w7.heap.size, 0, none⟩ (x_36)).setCell ⟨w7.heap.size, 1, none⟩ (x_37)).setCell ⟨w7.heap.size, 2, none⟩ (x_38)).setCell ⟨w7.heap.size, 3, none⟩ (x_39)) fun w10 hv => ?_
    rw [← hv]
    have og : w9.grownBy w10 (some w7.heap.size) := by rw [hv]; exact (only_setCell (only_setCell (only_setCell (only_setCell (World.grownBy.refl _ _) _) _) _) _)
    have hz : w.heap.size ≤ w7.heap.size := by omega
    have hk : Bx w10 w7.heap.size 27 #[x_36, x_37, x_38, x_39] := by rw [hv]; exact (((((M.out.2.1).set 0 _).set 1 _).set 2 _).set 3 _)
    have hbw : Below w.heap.size w w10 := by rw [hv]; exact (Below.setCell (Below.setCell (Below.setCell (Below.setCell (M.out.2.2.2.2.2.2) (by omega) _) (by omega) _) (by omega) _) (by omega) _)
    replace M := Lib.hid (And.intro ((M.out.1).far (M.out.2.1) (by rfl) (by omega) og) (And.intro hk (And.intro ((M.out.2.2.1).only og (by omega)) (And.intro ((M.out.2.2.2.1).far (M.out.2.1) (by rfl) (by omega) og) (And.intro ((M.out.2.2.2.2.1).far_no (M.out.2.1) no2_1_vg no2_1_vh (by rfl) (by omega) og) (And.intro ((M.out.2.2.2.2.2.1).far (M.out.2.1) (by rfl) (by omega) og) hbw))))))
    clear hk hbw og hv hz
    refine hK.out _ _ (((show Row w10 bx (offx + (k + 1) * 10) [.string yk, .int .i64 yn, yu0, yu1, yu2, yu3, yv0, yv1, yv2, yv3] from (RdL.row_ (M.out.2.2.2.2.2.1) HEy.out)).t10 ((show Row w10 bx (offx + k * 10) [.string xk, .int .i64 xn, xu0, xu1, xu2, xu3, xv0, xv1, xv2, xv3] from (RdL.row_ (M.out.2.2.2.2.2.1) HEx.out)).c10))) (fun hH43 => ?_)
    clear hK K hH42
    (try simp only [Act.put, List.setIfInBounds_toArray, List.set_cons_zero, List.set_cons_succ])
    refine tk at19 ?_
    refine wpAnyH_done (by kernel_rfl) ?_ _
    clear hH43
    go_upto_region 9 with fail
    clear hwk_ hwl_
    refine cj4 (M.out.2.2.1).d4 fun p0_0 p0_1 p0_2 p0_3 => ?_
    have z0 : w4.heap.size < w10.heap.size := (M.out.2.2.1).lt
    go_upto_region 10 with (at_builtin; go_must (refine wpList_of_wp rfl fun K_ hK_ => wp_pushP1 (((M.out.2.2.2.2.1)).keep (below_alloc _ _)) HG1.out elemFr (⟨x_8, x_9, x_10, x_11, q12⟩ : QC) (Bx.new w10 27 #[x_8, x_9, x_10, x_11]) rfl (((M.out.2.2.2.1)).keep (below_alloc _ _)) (by omega) (by omega) (Nat.le_trans (M.out.2.2.2.2.2.2).size (by simp)) rfl rfl rfl (fun vv_44 w11 ho_ hg_ => hK_ _ _ ?_)))
    clear p0_0 p0_1 p0_2 p0_3 z0
    have MA_ := (Goes.go M.out (below_alloc w10 (.cells #[x_8, x_9, x_10, x_11] 27) : Below w10.heap.size w10 (w10.alloc (.cells #[x_8, x_9, x_10, x_11] 27))))
    replace M := Lib.hid (And.intro ho_ (And.intro (MA_.1.grown MA_.2.2.2.2.1.a.own (by rfl) MA_.2.2.2.2.1.a.leG hg_) (And.intro (MA_.2.1.grownN no2_1_vg hg_) (And.intro (MA_.2.2.1.grownN no2_0_vg hg_) (And.intro (MA_.2.2.2.1.grown MA_.2.2.2.2.1.a.own (by rfl) MA_.2.2.2.2.1.a.leG hg_) (And.intro (MA_.2.2.2.2.2.1.grown MA_.2.2.2.2.1.a.own (by rfl) MA_.2.2.2.2.1.a.leG hg_) (below_grown MA_.2.2.2.2.2.2 MA_.2.2.2.2.1.a.own (Nat.le_refl _) MA_.2.2.2.2.2.2.size hg_)))))))
    clear ho_ hg_ MA_
    refine cj4 (M.out.2.2.1).d4 fun p1_0 p1_1 p1_2 p1_3 => ?_
    have z1 : w7.heap.size < w11.heap.size := (M.out.2.2.1).lt
    go_upto_region 6 with (at_builtin; go_must (refine wpList_of_wp rfl fun K_ hK_ => wp_pushP2 (((M.out.1)).keep (below_alloc _ _)) HG2.out elemFr (⟨x_36, x_37, x_38, x_39, q40⟩ : QC) (Bx.new w11 27 #[x_36, x_37, x_38, x_39]) rfl (((M.out.2.1)).keep (below_alloc _ _)) (by omega) (by omega) (Nat.le_trans (M.out.2.2.2.2.2.2).size (by simp)) rfl rfl rfl (fun vv_45 w12 ho_ hg_ => hK_ _ _ ?_)))
    clear p1_0 p1_1 p1_2 p1_3 z1
    have MA_ := (Goes.go M.out (below_alloc w11 (.cells #[x_36, x_37, x_38, x_39] 27) : Below w11.heap.size w11 (w11.alloc (.cells #[x_36, x_37, x_38, x_39] 27))))
    replace M := Lib.hid (And.intro ho_ (And.intro (MA_.2.1.grown MA_.1.b.own (by rfl) MA_.1.a.leG hg_) (And.intro (MA_.2.2.1.grownN no2_1_vh hg_) (And.intro (MA_.2.2.2.1.grownN no2_0_vh hg_) (And.intro (MA_.2.2.2.2.1.grown MA_.1.b.own (by rfl) MA_.1.a.leG hg_) (And.intro (MA_.2.2.2.2.2.1.grown MA_.1.b.own (by rfl) MA_.1.a.leG hg_) (below_grown MA_.2.2.2.2.2.2 MA_.1.b.own (Nat.le_refl _) MA_.2.2.2.2.2.2.size hg_)))))))
    clear ho_ hg_ MA_
    go_wp2_with fail
    go_roundw
    case rel => exact ⟨(k + 1), (gl ++ [(⟨x_8, x_9, x_10, x_11, q12⟩ : QC)]), (hl ++ [(⟨x_36, x_37, x_38, x_39, q40⟩ : QC)]), vv_44, vv_45, rfl, rfl, by go_num, (by show _ ∨ _; omega), (Lib.hid (by rw [List.length_append, HG1.out]; rfl)), (Lib.hid (by rw [List.length_append, HG2.out]; rfl)), (Lib.hid (by rw [dif_next HEx.out HEy.out, List.map_append, HD1.out]; show _ ++ [q12] = _ ++ [_ - _]; rw [Eq12.out]; rfl)), (Lib.hid (by rw [dif_next HEx.out HEy.out, List.map_append, HD2.out]; show _ ++ [q40] = _ ++ [_ - _]; rw [Eq40.out]; rfl)), Lib.hid (And.intro (M.out.1) (And.intro (M.out.2.2.2.2.2.1) (M.out.2.2.2.2.2.2)))⟩
    case measure => simp [RowKit.intOf] <;> omega
   refine AllReadyH.cons at17 (fun K hK => ?_) AllReadyH.nil
   go_simp
   refine nmW (w3.alloc (.cells #[.int .i64 0, .slice none 0 0, .int .i64 0, .slice none 0 0] 27)) fun w4 hv => ?_
   rw [← hv]
   have ow0_ : w.heap.size ≤ w3.heap.size := ((M.out.2.2)).size
   have no2_0_vg : Value.ownBlock vg ≠ some w3.heap.size := OwV.no (M.out.1).a
   have no2_0_vh : Value.ownBlock vh ≠ some w3.heap.size := OwV.no (M.out.1).b
   replace M := alM hv M
   clear hv
   refine hK.out _ _ (((show Row w4 bx (offx + (k + 1) * 10) [.string yk, .int .i64 yn, yu0, yu1, yu2, yu3, yv0, yv1, yv2, yv3] from (RdL.row_ (M.out.2.2.1) HEy.out)).t10 ((show Row w4 bx (offx + k * 10) [.string xk, .int .i64 xn, xu0, xu1, xu2, xu3, xv0, xv1, xv2, xv3] from (RdL.row_ (M.out.2.2.1) HEx.out)).c10))) (fun hH46 => ?_)
   clear hK K hH7
   (try simp only [Act.put, List.setIfInBounds_toArray, List.set_cons_zero, List.set_cons_succ])
   refine wpAnyH_ready (rs := [13]) (by kernel_rfl) (by simp) ?_
   refine AllReadyH.cons at13 (fun K hK => ?_) AllReadyH.nil
   go_simp
   refine nmW (α := Rat) (yq - xq) fun q51 eq51 => ?_
   refine (rqSub (G := G) (q := yq) (r := xq) (show FQ G w4 yu0 yu1 yu2 yu3 yq from (RdL.oks (M.out.2.2.1) _ (List.mem_of_getElem? HEy.out)).1) (show FQ G w4 xu0 xu1 xu2 xu3 xq from (RdL.oks (M.out.2.2.1) _ (List.mem_of_getElem? HEx.out)).1) (Fz.mono HZy1.out (by omega)) (Fz.mono HZx1.out (by omega))).mono ?_
   rintro e w5 ⟨x_47, x_48, x_49, x_50, rfl, hd52, hb⟩
   rw [← eq51] at hd52
   have Sq51 : Hid (Fz q51 200000001) := by show Fz q51 200000001; rw [eq51]; exact (Fz.sub HZy1.out HZx1.out)
   have Eq51 := Lib.hid eq51; clear eq51
   replace M := adM hd52 hb M
   clear hb hd52
   (try go_wp2_with fail)
   refine hK.out _ _ (((show Row w5 bx (offx + (k + 1) * 10) [.string yk, .int .i64 yn, yu0, yu1, yu2, yu3, yv0, yv1, yv2, yv3] from (RdL.row_ (M.out.2.2.2.1) HEy.out)).t10 ((show Row w5 bx (offx + k * 10) [.string xk, .int .i64 xn, xu0, xu1, xu2, xu3, xv0, xv1, xv2, xv3] from (RdL.row_ (M.out.2.2.2.1) HEx.out)).c10))) (fun hH53 => ?_)
   clear hK K hH46
   (try simp only [Act.put, List.setIfInBounds_toArray, List.set_cons_zero, List.set_cons_succ])
   refine tk at14 ?_
   refine tk at15 ?_
   refine tk at16 ?_
   refine wpAnyH_ready (rs := [18]) (by kernel_rfl) (by simp) ?_
   refine AllReadyH.cons at18 (fun K hK => ?_) AllReadyH.nil
   refine cj8 (M.out.2.1).c4 fun p0_0 q0_0 p0_1 q0_1 p0_2 q0_2 p0_3 q0_3 => ?_
   refine cj4 (TQ.st (M.out.1)) fun st_x_47 st_x_48 st_x_49 st_x_50 => ?_
   go_simp
   clear p0_0 q0_0 p0_1 q0_1 p0_2 q0_2 p0_3 q0_3 st_x_47 st_x_48 st_x_49 st_x_50
   refine nmW ((((w5.setCell ⟨w3.heap.size, 0, none⟩ (x_47)).setCell ⟨w3.heap.size, 1, none⟩ (x_48)).setCell ⟨w3.heap.size, 2, none⟩ (x_49)).setCell ⟨w3.heap.size, 3, none⟩ (x_50)) fun w6 hv => ?_
   rw [← hv]
   have og : w5.grownBy w6 (some w3.heap.size) := by rw [hv]; exact (only_setCell (only_setCell (only_setCell (only_setCell (World.grownBy.refl _ _) _) _) _) _)
   have hz : w.heap.size ≤ w3.heap.size := by omega
   have hk : Bx w6 w3.heap.size 27 #[x_47, x_48, x_49, x_50] := by rw [hv]; exact (((((M.out.2.1).set 0 _).set 1 _).set 2 _).set 3 _)
   have hbw : Below w.heap.size w w6 := by rw [hv]; exact (Below.setCell (Below.setCell (Below.setCell (Below.setCell (M.out.2.2.2.2) (by omega) _) (by omega) _) (by omega) _) (by omega) _)
   replace M := Lib.hid (And.intro ((M.out.1).far (M.out.2.1) (by rfl) (by omega) og) (And.intro hk (And.intro ((M.out.2.2.1).far_no (M.out.2.1) no2_0_vg no2_0_vh (by rfl) (by omega) og) (And.intro ((M.out.2.2.2.1).far (M.out.2.1) (by rfl) (by omega) og) hbw))))
   clear hk hbw og hv hz
   refine hK.out _ _ (((show Row w6 bx (offx + (k + 1) * 10) [.string yk, .int .i64 yn, yu0, yu1, yu2, yu3, yv0, yv1, yv2, yv3] from (RdL.row_ (M.out.2.2.2.1) HEy.out)).t10 ((show Row w6 bx (offx + k * 10) [.string xk, .int .i64 xn, xu0, xu1, xu2, xu3, xv0, xv1, xv2, xv3] from (RdL.row_ (M.out.2.2.2.1) HEx.out)).c10))) (fun hH54 => ?_)
   clear hK K hH53
   (try simp only [Act.put, List.setIfInBounds_toArray, List.set_cons_zero, List.set_cons_succ])
   refine tk at19 ?_
   refine wpAnyH_done (by kernel_rfl) ?_ _
   clear hH54
   go_wp2_with fail
   refine nmW w6.drew fun w7 hv => ?_
   replace M := drM hv M
   refine wp_region_held_drew (S := (fun w' => w'.cell? ⟨bx, offx + (k + 1) * 10, none⟩ = some (.string yk) ∧ w'.cell? ⟨bx, offx + (k + 1) * 10 + 1, none⟩ = some (.int .i64 yn) ∧ w'.cell? ⟨bx, offx + (k + 1) * 10 + 2, none⟩ = some (yu0) ∧ w'.cell? ⟨bx, offx + (k + 1) * 10 + 3, none⟩ = some (yu1) ∧ w'.cell? ⟨bx, offx + (k + 1) * 10 + 4, none⟩ = some (yu2) ∧ w'.cell? ⟨bx, offx + (k + 1) * 10 + 5, none⟩ = some (yu3) ∧ w'.cell? ⟨bx, offx + (k + 1) * 10 + 6, none⟩ = some (yv0) ∧ w'.cell? ⟨bx, offx + (k + 1) * 10 + 7, none⟩ = some (yv1) ∧ w'.cell? ⟨bx, offx + (k + 1) * 10 + 8, none⟩ = some (yv2) ∧ w'.cell? ⟨bx, offx + (k + 1) * 10 + 9, none⟩ = some (yv3) ∧ w'.cell? ⟨bx, offx + k * 10, none⟩ = some (.string xk) ∧ w'.cell? ⟨bx, offx + k * 10 + 1, none⟩ = some (.int .i64 xn) ∧ w'.cell? ⟨bx, offx + k * 10 + 2, none⟩ = some (xu0) ∧ w'.cell? ⟨bx, offx + k * 10 + 3, none⟩ = some (xu1) ∧ w'.cell? ⟨bx, offx + k * 10 + 4, none⟩ = some (xu2) ∧ w'.cell? ⟨bx, offx + k * 10 + 5, none⟩ = some (xu3) ∧ w'.cell? ⟨bx, offx + k * 10 + 6, none⟩ = some (xv0) ∧ w'.cell? ⟨bx, offx + k * 10 + 7, none⟩ = some (xv1) ∧ w'.cell? ⟨bx, offx + k * 10 + 8, none⟩ = some (xv2) ∧ w'.cell? ⟨bx, offx + k * 10 + 9, none⟩ = some (xv3))) (by kernel_rfl) (by rw [← hv]; exact ((show Row w7 bx (offx + (k + 1) * 10) [.string yk, .int .i64 yn, yu0, yu1, yu2, yu3, yv0, yv1, yv2, yv3] from (RdL.row_ (M.out.2.2.2.1) HEy.out)).t10 ((show Row w7 bx (offx + k * 10) [.string xk, .int .i64 xn, xu0, xu1, xu2, xu3, xv0, xv1, xv2, xv3] from (RdL.row_ (M.out.2.2.2.1) HEx.out)).c10))) (fun hH61 => ?_)
   rw [← hv] at hH61 ⊢
   clear hv
   refine tk at0 ?_
   refine tk at1 ?_
   refine tk at2 ?_
   refine tk at3 ?_
   refine tk at4 ?_
   refine tk at5 ?_
   refine tk at6 ?_
   refine tk at7 ?_
   refine tk at8 ?_
   refine tk at9 ?_
   refine tk at10 ?_
   refine tk at11 ?_
   refine tk at12 ?_
   refine wpAnyH_ready (rs := [13, 17]) (by kernel_rfl) (by simp) ?_
   refine AllReadyH.cons at13 (fun K hK => ?_) ?_
   ·
    go_simp
    refine nmW (α := Rat) (yr - xr) fun q66 eq66 => ?_
    refine (rqSub (G := G) (q := yr) (r := xr) (show FQ G w7 yv0 yv1 yv2 yv3 yr from (RdL.oks (M.out.2.2.2.1) _ (List.mem_of_getElem? HEy.out)).2) (show FQ G w7 xv0 xv1 xv2 xv3 xr from (RdL.oks (M.out.2.2.2.1) _ (List.mem_of_getElem? HEx.out)).2) (Fz.mono HZy2.out (by omega)) (Fz.mono HZx2.out (by omega))).mono ?_
    rintro e w8 ⟨x_62, x_63, x_64, x_65, rfl, hd67, hb⟩
    rw [← eq66] at hd67
    have Sq66 : Hid (Fz q66 200000001) := by show Fz q66 200000001; rw [eq66]; exact (Fz.sub HZy2.out HZx2.out)
    have Eq66 := Lib.hid eq66; clear eq66
    replace M := adM hd67 hb M
    clear hb hd67
    (try go_wp2_with fail)
    refine hK.out _ _ (((show Row w8 bx (offx + (k + 1) * 10) [.string yk, .int .i64 yn, yu0, yu1, yu2, yu3, yv0, yv1, yv2, yv3] from (RdL.row_ (M.out.2.2.2.2.1) HEy.out)).t10 ((show Row w8 bx (offx + k * 10) [.string xk, .int .i64 xn, xu0, xu1, xu2, xu3, xv0, xv1, xv2, xv3] from (RdL.row_ (M.out.2.2.2.2.1) HEx.out)).c10))) (fun hH68 => ?_)
    clear hK K hH61
    (try simp only [Act.put, List.setIfInBounds_toArray, List.set_cons_zero, List.set_cons_succ])
    refine tk at14 ?_
    refine tk at15 ?_
    refine tk at16 ?_
    refine wpAnyH_ready (rs := [17]) (by kernel_rfl) (by simp) ?_
    refine AllReadyH.cons at17 (fun K hK => ?_) AllReadyH.nil
    go_simp
    refine nmW (w8.alloc (.cells #[.int .i64 0, .slice none 0 0, .int .i64 0, .slice none 0 0] 27)) fun w9 hv => ?_
    rw [← hv]
    have ow1_ : w3.heap.size < w8.heap.size := ((M.out.2.2.1)).lt
    have no2_1_vg : Value.ownBlock vg ≠ some w8.heap.size := OwV.no (M.out.2.2.2.1).a
    have no2_1_vh : Value.ownBlock vh ≠ some w8.heap.size := OwV.no (M.out.2.2.2.1).b
    replace M := alM hv M
    clear hv
    refine hK.out _ _ (((show Row w9 bx (offx + (k + 1) * 10) [.string yk, .int .i64 yn, yu0, yu1, yu2, yu3, yv0, yv1, yv2, yv3] from (RdL.row_ (M.out.2.2.2.2.2.1) HEy.out)).t10 ((show Row w9 bx (offx + k * 10) [.string xk, .int .i64 xn, xu0, xu1, xu2, xu3, xv0, xv1, xv2, xv3] from (RdL.row_ (M.out.2.2.2.2.2.1) HEx.out)).c10))) (fun hH69 => ?_)
    clear hK K hH68
    (try simp only [Act.put, List.setIfInBounds_toArray, List.set_cons_zero, List.set_cons_succ])
    refine wpAnyH_ready (rs := [18]) (by kernel_rfl) (by simp) ?_
    refine AllReadyH.cons at18 (fun K hK => ?_) AllReadyH.nil
    refine cj8 (M.out.1).c4 fun p1_0 q1_0 p1_1 q1_1 p1_2 q1_2 p1_3 q1_3 => ?_
    refine cj4 (TQ.st (M.out.2.1)) fun st_x_62 st_x_63 st_x_64 st_x_65 => ?_
    go_simp
    clear p1_0 q1_0 p1_1 q1_1 p1_2 q1_2 p1_3 q1_3 st_x_62 st_x_63 st_x_64 st_x_65
    refine nmW ((((w9.setCell ⟨w8.heap.size, 0, none⟩ (x_62)).setCell ⟨w8.heap.size, 1, none⟩ (x_63)).setCell ⟨w8.heap.size, 2, none⟩ (x_64)).setCell ⟨w8.heap.size, 3, none⟩ (x_65)) fun w10 hv => ?_
    rw [← hv]
    have og : w9.grownBy w10 (some w8.heap.size) := by rw [hv]; exact (only_setCell (only_setCell (only_setCell (only_setCell (World.grownBy.refl _ _) _) _) _) _)
    have hz : w.heap.size ≤ w8.heap.size := by omega
    have hk : Bx w10 w8.heap.size 27 #[x_62, x_63, x_64, x_65] := by rw [hv]; exact (((((M.out.1).set 0 _).set 1 _).set 2 _).set 3 _)
    have hbw : Below w.heap.size w w10 := by rw [hv]; exact (Below.setCell (Below.setCell (Below.setCell (Below.setCell (M.out.2.2.2.2.2.2) (by omega) _) (by omega) _) (by omega) _) (by omega) _)
    replace M := Lib.hid (And.intro hk (And.intro ((M.out.2.1).far (M.out.1) (by rfl) (by omega) og) (And.intro ((M.out.2.2.1).far (M.out.1) (by rfl) (by omega) og) (And.intro ((M.out.2.2.2.1).only og (by omega)) (And.intro ((M.out.2.2.2.2.1).far_no (M.out.1) no2_1_vg no2_1_vh (by rfl) (by omega) og) (And.intro ((M.out.2.2.2.2.2.1).far (M.out.1) (by rfl) (by omega) og) hbw))))))
    clear hk hbw og hv hz
    refine hK.out _ _ (((show Row w10 bx (offx + (k + 1) * 10) [.string yk, .int .i64 yn, yu0, yu1, yu2, yu3, yv0, yv1, yv2, yv3] from (RdL.row_ (M.out.2.2.2.2.2.1) HEy.out)).t10 ((show Row w10 bx (offx + k * 10) [.string xk, .int .i64 xn, xu0, xu1, xu2, xu3, xv0, xv1, xv2, xv3] from (RdL.row_ (M.out.2.2.2.2.2.1) HEx.out)).c10))) (fun hH70 => ?_)
    clear hK K hH69
    (try simp only [Act.put, List.setIfInBounds_toArray, List.set_cons_zero, List.set_cons_succ])
    refine tk at19 ?_
    refine wpAnyH_done (by kernel_rfl) ?_ _
    clear hH70
    go_upto_region 9 with fail
    clear hwk_ hwl_
    refine cj4 (M.out.2.2.2.1).d4 fun p0_0 p0_1 p0_2 p0_3 => ?_
    have z0 : w3.heap.size < w10.heap.size := (M.out.2.2.2.1).lt
    go_upto_region 10 with (at_builtin; go_must (refine wpList_of_wp rfl fun K_ hK_ => wp_pushP1 (((M.out.2.2.2.2.1)).keep (below_alloc _ _)) HG1.out elemFr (⟨x_47, x_48, x_49, x_50, q51⟩ : QC) (Bx.new w10 27 #[x_47, x_48, x_49, x_50]) rfl (((M.out.2.2.1)).keep (below_alloc _ _)) (by omega) (by omega) (Nat.le_trans (M.out.2.2.2.2.2.2).size (by simp)) rfl rfl rfl (fun vv_71 w11 ho_ hg_ => hK_ _ _ ?_)))
    clear p0_0 p0_1 p0_2 p0_3 z0
    have MA_ := (Goes.go M.out (below_alloc w10 (.cells #[x_47, x_48, x_49, x_50] 27) : Below w10.heap.size w10 (w10.alloc (.cells #[x_47, x_48, x_49, x_50] 27))))
    replace M := Lib.hid (And.intro ho_ (And.intro (MA_.1.grownN no2_1_vg hg_) (And.intro (MA_.2.1.grown MA_.2.2.2.2.1.a.own (by rfl) MA_.2.2.2.2.1.a.leG hg_) (And.intro (MA_.2.2.1.grown MA_.2.2.2.2.1.a.own (by rfl) MA_.2.2.2.2.1.a.leG hg_) (And.intro (MA_.2.2.2.1.grownN no2_0_vg hg_) (And.intro (MA_.2.2.2.2.2.1.grown MA_.2.2.2.2.1.a.own (by rfl) MA_.2.2.2.2.1.a.leG hg_) (below_grown MA_.2.2.2.2.2.2 MA_.2.2.2.2.1.a.own (Nat.le_refl _) MA_.2.2.2.2.2.2.size hg_)))))))
    clear ho_ hg_ MA_
    refine cj4 (M.out.2.1).d4 fun p1_0 p1_1 p1_2 p1_3 => ?_
    have z1 : w8.heap.size < w11.heap.size := (M.out.2.1).lt
    go_upto_region 6 with (at_builtin; go_must (refine wpList_of_wp rfl fun K_ hK_ => wp_pushP2 (((M.out.1)).keep (below_alloc _ _)) HG2.out elemFr (⟨x_62, x_63, x_64, x_65, q66⟩ : QC) (Bx.new w11 27 #[x_62, x_63, x_64, x_65]) rfl (((M.out.2.2.1)).keep (below_alloc _ _)) (by omega) (by omega) (Nat.le_trans (M.out.2.2.2.2.2.2).size (by simp)) rfl rfl rfl (fun vv_72 w12 ho_ hg_ => hK_ _ _ ?_)))
    clear p1_0 p1_1 p1_2 p1_3 z1
    have MA_ := (Goes.go M.out (below_alloc w11 (.cells #[x_62, x_63, x_64, x_65] 27) : Below w11.heap.size w11 (w11.alloc (.cells #[x_62, x_63, x_64, x_65] 27))))
    replace M := Lib.hid (And.intro ho_ (And.intro (MA_.2.1.grownN no2_1_vh hg_) (And.intro (MA_.2.2.1.grown MA_.1.b.own (by rfl) MA_.1.a.leG hg_) (And.intro (MA_.2.2.2.1.grown MA_.1.b.own (by rfl) MA_.1.a.leG hg_) (And.intro (MA_.2.2.2.2.1.grownN no2_0_vh hg_) (And.intro (MA_.2.2.2.2.2.1.grown MA_.1.b.own (by rfl) MA_.1.a.leG hg_) (below_grown MA_.2.2.2.2.2.2 MA_.1.b.own (Nat.le_refl _) MA_.2.2.2.2.2.2.size hg_)))))))
    clear ho_ hg_ MA_
    go_wp2_with fail
    go_roundw
    case rel => exact ⟨(k + 1), (gl ++ [(⟨x_47, x_48, x_49, x_50, q51⟩ : QC)]), (hl ++ [(⟨x_62, x_63, x_64, x_65, q66⟩ : QC)]), vv_71, vv_72, rfl, rfl, by go_num, (by show _ ∨ _; omega), (Lib.hid (by rw [List.length_append, HG1.out]; rfl)), (Lib.hid (by rw [List.length_append, HG2.out]; rfl)), (Lib.hid (by rw [dif_next HEx.out HEy.out, List.map_append, HD1.out]; show _ ++ [q51] = _ ++ [_ - _]; rw [Eq51.out]; rfl)), (Lib.hid (by rw [dif_next HEx.out HEy.out, List.map_append, HD2.out]; show _ ++ [q66] = _ ++ [_ - _]; rw [Eq66.out]; rfl)), Lib.hid (And.intro (M.out.1) (And.intro (M.out.2.2.2.2.2.1) (M.out.2.2.2.2.2.2)))⟩
    case measure => simp [RowKit.intOf] <;> omega
   refine AllReadyH.cons at17 (fun K hK => ?_) AllReadyH.nil
   go_simp
   refine nmW (w7.alloc (.cells #[.int .i64 0, .slice none 0 0, .int .i64 0, .slice none 0 0] 27)) fun w8 hv => ?_
   rw [← hv]
   have ow1_ : w3.heap.size < w7.heap.size := ((M.out.2.1)).lt
   have no2_1_vg : Value.ownBlock vg ≠ some w7.heap.size := OwV.no (M.out.2.2.1).a
   have no2_1_vh : Value.ownBlock vh ≠ some w7.heap.size := OwV.no (M.out.2.2.1).b
   replace M := alM hv M
   clear hv
   refine hK.out _ _ (((show Row w8 bx (offx + (k + 1) * 10) [.string yk, .int .i64 yn, yu0, yu1, yu2, yu3, yv0, yv1, yv2, yv3] from (RdL.row_ (M.out.2.2.2.2.1) HEy.out)).t10 ((show Row w8 bx (offx + k * 10) [.string xk, .int .i64 xn, xu0, xu1, xu2, xu3, xv0, xv1, xv2, xv3] from (RdL.row_ (M.out.2.2.2.2.1) HEx.out)).c10))) (fun hH73 => ?_)
   clear hK K hH61
   (try simp only [Act.put, List.setIfInBounds_toArray, List.set_cons_zero, List.set_cons_succ])
   refine wpAnyH_ready (rs := [13]) (by kernel_rfl) (by simp) ?_
   refine AllReadyH.cons at13 (fun K hK => ?_) AllReadyH.nil
   go_simp
   refine nmW (α := Rat) (yr - xr) fun q78 eq78 => ?_
   refine (rqSub (G := G) (q := yr) (r := xr) (show FQ G w8 yv0 yv1 yv2 yv3 yr from (RdL.oks (M.out.2.2.2.2.1) _ (List.mem_of_getElem? HEy.out)).2) (show FQ G w8 xv0 xv1 xv2 xv3 xr from (RdL.oks (M.out.2.2.2.2.1) _ (List.mem_of_getElem? HEx.out)).2) (Fz.mono HZy2.out (by omega)) (Fz.mono HZx2.out (by omega))).mono ?_
   rintro e w9 ⟨x_74, x_75, x_76, x_77, rfl, hd79, hb⟩
   rw [← eq78] at hd79
   have Sq78 : Hid (Fz q78 200000001) := by show Fz q78 200000001; rw [eq78]; exact (Fz.sub HZy2.out HZx2.out)
   have Eq78 := Lib.hid eq78; clear eq78
   replace M := adM hd79 hb M
   clear hb hd79
   (try go_wp2_with fail)
   refine hK.out _ _ (((show Row w9 bx (offx + (k + 1) * 10) [.string yk, .int .i64 yn, yu0, yu1, yu2, yu3, yv0, yv1, yv2, yv3] from (RdL.row_ (M.out.2.2.2.2.2.1) HEy.out)).t10 ((show Row w9 bx (offx + k * 10) [.string xk, .int .i64 xn, xu0, xu1, xu2, xu3, xv0, xv1, xv2, xv3] from (RdL.row_ (M.out.2.2.2.2.2.1) HEx.out)).c10))) (fun hH80 => ?_)
   clear hK K hH73
   (try simp only [Act.put, List.setIfInBounds_toArray, List.set_cons_zero, List.set_cons_succ])
   refine tk at14 ?_
   refine tk at15 ?_
   refine tk at16 ?_
   refine wpAnyH_ready (rs := [18]) (by kernel_rfl) (by simp) ?_
   refine AllReadyH.cons at18 (fun K hK => ?_) AllReadyH.nil
   refine cj8 (M.out.2.1).c4 fun p1_0 q1_0 p1_1 q1_1 p1_2 q1_2 p1_3 q1_3 => ?_
   refine cj4 (TQ.st (M.out.1)) fun st_x_74 st_x_75 st_x_76 st_x_77 => ?_
   go_simp
   clear p1_0 q1_0 p1_1 q1_1 p1_2 q1_2 p1_3 q1_3 st_x_74 st_x_75 st_x_76 st_x_77
   refine nmW ((((w9.setCell ⟨w7.heap.size, 0, none⟩ (x_74)).setCell ⟨w7.heap.size, 1, none⟩ (x_75)).setCell ⟨w7.heap.size, 2, none⟩ (x_76)).setCell ⟨w7.heap.size, 3, none⟩ (x_77)) fun w10 hv => ?_
   rw [← hv]
   have og : w9.grownBy w10 (some w7.heap.size) := by rw [hv]; exact (only_setCell (only_setCell (only_setCell (only_setCell (World.grownBy.refl _ _) _) _) _) _)
   have hz : w.heap.size ≤ w7.heap.size := by omega
   have hk : Bx w10 w7.heap.size 27 #[x_74, x_75, x_76, x_77] := by rw [hv]; exact (((((M.out.2.1).set 0 _).set 1 _).set 2 _).set 3 _)
   have hbw : Below w.heap.size w w10 := by rw [hv]; exact (Below.setCell (Below.setCell (Below.setCell (Below.setCell (M.out.2.2.2.2.2.2) (by omega) _) (by omega) _) (by omega) _) (by omega) _)
   replace M := Lib.hid (And.intro ((M.out.1).far (M.out.2.1) (by rfl) (by omega) og) (And.intro hk (And.intro ((M.out.2.2.1).far (M.out.2.1) (by rfl) (by omega) og) (And.intro ((M.out.2.2.2.1).only og (by omega)) (And.intro ((M.out.2.2.2.2.1).far_no (M.out.2.1) no2_1_vg no2_1_vh (by rfl) (by omega) og) (And.intro ((M.out.2.2.2.2.2.1).far (M.out.2.1) (by rfl) (by omega) og) hbw))))))
   clear hk hbw og hv hz
   refine hK.out _ _ (((show Row w10 bx (offx + (k + 1) * 10) [.string yk, .int .i64 yn, yu0, yu1, yu2, yu3, yv0, yv1, yv2, yv3] from (RdL.row_ (M.out.2.2.2.2.2.1) HEy.out)).t10 ((show Row w10 bx (offx + k * 10) [.string xk, .int .i64 xn, xu0, xu1, xu2, xu3, xv0, xv1, xv2, xv3] from (RdL.row_ (M.out.2.2.2.2.2.1) HEx.out)).c10))) (fun hH81 => ?_)
   clear hK K hH80
   (try simp only [Act.put, List.setIfInBounds_toArray, List.set_cons_zero, List.set_cons_succ])
   refine tk at19 ?_
   refine wpAnyH_done (by kernel_rfl) ?_ _
   clear hH81
   go_upto_region 9 with fail
   clear hwk_ hwl_
   refine cj4 (M.out.2.2.2.1).d4 fun p0_0 p0_1 p0_2 p0_3 => ?_
   have z0 : w3.heap.size < w10.heap.size := (M.out.2.2.2.1).lt
   go_upto_region 10 with (at_builtin; go_must (refine wpList_of_wp rfl fun K_ hK_ => wp_pushP1 (((M.out.2.2.2.2.1)).keep (below_alloc _ _)) HG1.out elemFr (⟨x_47, x_48, x_49, x_50, q51⟩ : QC) (Bx.new w10 27 #[x_47, x_48, x_49, x_50]) rfl (((M.out.2.2.1)).keep (below_alloc _ _)) (by omega) (by omega) (Nat.le_trans (M.out.2.2.2.2.2.2).size (by simp)) rfl rfl rfl (fun vv_82 w11 ho_ hg_ => hK_ _ _ ?_)))
   clear p0_0 p0_1 p0_2 p0_3 z0
   have MA_ := (Goes.go M.out (below_alloc w10 (.cells #[x_47, x_48, x_49, x_50] 27) : Below w10.heap.size w10 (w10.alloc (.cells #[x_47, x_48, x_49, x_50] 27))))
   replace M := Lib.hid (And.intro ho_ (And.intro (MA_.1.grown MA_.2.2.2.2.1.a.own (by rfl) MA_.2.2.2.2.1.a.leG hg_) (And.intro (MA_.2.1.grownN no2_1_vg hg_) (And.intro (MA_.2.2.1.grown MA_.2.2.2.2.1.a.own (by rfl) MA_.2.2.2.2.1.a.leG hg_) (And.intro (MA_.2.2.2.1.grownN no2_0_vg hg_) (And.intro (MA_.2.2.2.2.2.1.grown MA_.2.2.2.2.1.a.own (by rfl) MA_.2.2.2.2.1.a.leG hg_) (below_grown MA_.2.2.2.2.2.2 MA_.2.2.2.2.1.a.own (Nat.le_refl _) MA_.2.2.2.2.2.2.size hg_)))))))
   clear ho_ hg_ MA_
   refine cj4 (M.out.2.2.1).d4 fun p1_0 p1_1 p1_2 p1_3 => ?_
   have z1 : w7.heap.size < w11.heap.size := (M.out.2.2.1).lt
   go_upto_region 6 with (at_builtin; go_must (refine wpList_of_wp rfl fun K_ hK_ => wp_pushP2 (((M.out.1)).keep (below_alloc _ _)) HG2.out elemFr (⟨x_74, x_75, x_76, x_77, q78⟩ : QC) (Bx.new w11 27 #[x_74, x_75, x_76, x_77]) rfl (((M.out.2.1)).keep (below_alloc _ _)) (by omega) (by omega) (Nat.le_trans (M.out.2.2.2.2.2.2).size (by simp)) rfl rfl rfl (fun vv_83 w12 ho_ hg_ => hK_ _ _ ?_)))
   clear p1_0 p1_1 p1_2 p1_3 z1
   have MA_ := (Goes.go M.out (below_alloc w11 (.cells #[x_74, x_75, x_76, x_77] 27) : Below w11.heap.size w11 (w11.alloc (.cells #[x_74, x_75, x_76, x_77] 27))))
   replace M := Lib.hid (And.intro ho_ (And.intro (MA_.2.1.grown MA_.1.b.own (by rfl) MA_.1.a.leG hg_) (And.intro (MA_.2.2.1.grownN no2_1_vh hg_) (And.intro (MA_.2.2.2.1.grown MA_.1.b.own (by rfl) MA_.1.a.leG hg_) (And.intro (MA_.2.2.2.2.1.grownN no2_0_vh hg_) (And.intro (MA_.2.2.2.2.2.1.grown MA_.1.b.own (by rfl) MA_.1.a.leG hg_) (below_grown MA_.2.2.2.2.2.2 MA_.1.b.own (Nat.le_refl _) MA_.2.2.2.2.2.2.size hg_)))))))
   clear ho_ hg_ MA_
   go_wp2_with fail
   go_roundw
   case rel => exact ⟨(k + 1), (gl ++ [(⟨x_47, x_48, x_49, x_50, q51⟩ : QC)]), (hl ++ [(⟨x_74, x_75, x_76, x_77, q78⟩ : QC)]), vv_82, vv_83, rfl, rfl, by go_num, (by show _ ∨ _; omega), (Lib.hid (by rw [List.length_append, HG1.out]; rfl)), (Lib.hid (by rw [List.length_append, HG2.out]; rfl)), (Lib.hid (by rw [dif_next HEx.out HEy.out, List.map_append, HD1.out]; show _ ++ [q51] = _ ++ [_ - _]; rw [Eq51.out]; rfl)), (Lib.hid (by rw [dif_next HEx.out HEy.out, List.map_append, HD2.out]; show _ ++ [q78] = _ ++ [_ - _]; rw [Eq78.out]; rfl)), Lib.hid (And.intro (M.out.1) (And.intro (M.out.2.2.2.2.2.1) (M.out.2.2.2.2.2.2)))⟩
   case measure => simp [RowKit.intOf] <;> omega
  ·
   have e1_0 : decide (k + 1 < n2) = false := decide_eq_false (by omega)
   have e1_1 : decide ((k : Int) + 1 < (n2 : Int)) = false := decide_eq_false (by omega)
   have e1_i : ¬ (k : Int) + 1 < (n2 : Int) := by omega
   have HT_ : Hid (l2.take (k + 1) = l2) := by show _ = _; exact List.take_of_length_le (by rw [((M.out.2.1)).len]; omega)
   go_wp2_with fail
   obtain ⟨ag, cg, hv1_, hr1_⟩ := (M.out.1).a.rdl HG1.out
   obtain ⟨ah, ch, hv2_, hr2_⟩ := (M.out.1).b.rdl HG2.out
   subst hv1_ hv2_
   go_ret2
   exact ⟨_, _, _, gl, _, _, _, rfl, hr1_, hl, hr2_, (by rw [HD1.out, HT_.out, hu1.out]), (by rw [HD2.out, HT_.out, hu1.out]), (M.out.2.2)⟩
end Go.Proofs.Ytlpcblhkddmlnaa
namespace Go.Proofs.Ytlpcblhkddmlnaa
open Go.RowKit Go.Lib
variable {G : Nat}

set_option maxRecDepth 100000 in
set_option maxHeartbeats 4000000 in
theorem rShow_no {key : ByteArray} {note : Int} {u0 u1 u2 u3 v0 v1 v2 v3 : Value} {n1 m1 n2 m2 : Nat} {o1 o2 : Option Rat} {ls : List SR} {a : Option Addr} {n c : Nat} {w : World} (hG : G ≤ w.heap.size) (h : RdR G w a n c ls) (_hn : n ≤ 2000) (hs : ∀ x ∈ ls, fewR x = true) (hr : rightL keyOk ls = false) (h1 : FX w u0 u1 u2 u3 n1 m1 o1) (h2 : FX w v0 v1 v2 v3 n2 m2 o2) (hf1 : fewF n1 m1 = true) (hf2 : fewF n2 m2 = true) (_hks : key.size ≤ 9223372036854775807)  :
  Calls Try.prog 11 #[.slice a n c, .string key, .int .i64 note, .agg #[u0, u1, u2, u3, v0, v1, v2, v3]] w fun e w' => e = .returned (.tuple #[.slice none 0 0, .int .i64 1]) ∧ Below w.heap.size w w' := by
 have HS := Lib.hid hs; have HR := Lib.hid hr; have HF1 := Lib.hid hf1; have HF2 := Lib.hid hf2; clear hs hr hf1 hf2
 have HL : Hid (RdR G w a n c ls) := h
 have H1 : Hid (FX w u0 u1 u2 u3 n1 m1 o1) := h1
 have H2 : Hid (FX w v0 v1 v2 v3 n2 m2 o2) := h2
 clear h h1 h2
 have M : Hid (Below w.heap.size w w) := Below.refl _ _
 go_enter Try.func11, Try.ntmps11
 go_upto_region 1 with fail
 refine nmW (w.alloc (.cells #[u0, u1, u2, u3, v0, v1, v2, v3] 29)) fun w1 hv => ?_
 rw [← hv]
 replace M := alM hv M
 clear hv
 refine cj8 (M.out.1).d8 fun p0_0 p0_1 p0_2 p0_3 p0_4 p0_5 p0_6 p0_7 => ?_
 have z0 : w.heap.size < w1.heap.size := (M.out.1).lt
 refine cj4 (FX.st (H1.out.keep (M.out.2))) fun st_u0 st_u1 st_u2 st_u3 => ?_
 refine cj4 (FX.st (H2.out.keep (M.out.2))) fun st_v0 st_v1 st_v2 st_v3 => ?_
 go_upto_region 2 with fail
 clear p0_0 p0_1 p0_2 p0_3 p0_4 p0_5 p0_6 p0_7 z0 st_u0 st_u1 st_u2 st_u3 st_v0 st_v1 st_v2 st_v3
 refine nmW (w1.alloc (.cells #[.string key, .int .i64 note, u0, u1, u2, u3, v0, v1, v2, v3] 37)) fun w2 hv => ?_
 rw [← hv]
 have ow1_ : w.heap.size < w1.heap.size := ((M.out.1)).lt
 replace M := alM hv M
 clear hv
 go_wp2_with fail
 refine (rRight_g (G := G) (l := ls) (b_ := false) (Nat.le_trans hG (M.out.2.2).size) (HL.out.keep (M.out.2.2)) (by omega) HS.out HR.out).mono ?_
 rintro e w3 ⟨rfl, hb⟩
 replace M := gnM hb M
 clear hb
 go_wp2_with fail
 go_ret2
 exact ⟨rfl, (M.out.2.2)⟩
set_option maxRecDepth 100000 in
set_option maxHeartbeats 4000000 in
theorem rShow_x {key : ByteArray} {note : Int} {u0 u1 u2 u3 v0 v1 v2 v3 : Value} {n1 m1 n2 m2 : Nat} {o1 o2 : Option Rat} {ls : List SR} {a : Option Addr} {n c : Nat} {w : World} (hG : G ≤ w.heap.size) (h : RdR G w a n c ls) (_hn : n ≤ 2000) (hs : ∀ x ∈ ls, fewR x = true) (hr : rightL keyOk ls = true) (h1 : FX w u0 u1 u2 u3 n1 m1 o1) (h2 : FX w v0 v1 v2 v3 n2 m2 o2) (hf1 : fewF n1 m1 = true) (hf2 : fewF n2 m2 = true) (_hks : key.size ≤ 9223372036854775807) (hb : (keyOk key && (decide (0 ≤ note) && (decide (note ≤ 1099511627776) && rightX o1 o2))) = false) :
  Calls Try.prog 11 #[.slice a n c, .string key, .int .i64 note, .agg #[u0, u1, u2, u3, v0, v1, v2, v3]] w fun e w' => e = .returned (.tuple #[.slice none 0 0, .int .i64 1]) ∧ Below w.heap.size w w' := by
 have HS := Lib.hid hs; have HR := Lib.hid hr; have HF1 := Lib.hid hf1; have HF2 := Lib.hid hf2; clear hs hr hf1 hf2
 have HB := Lib.hid hb; clear hb
 have HL : Hid (RdR G w a n c ls) := h
 have H1 : Hid (FX w u0 u1 u2 u3 n1 m1 o1) := h1
 have H2 : Hid (FX w v0 v1 v2 v3 n2 m2 o2) := h2
 clear h h1 h2
 have M : Hid (Below w.heap.size w w) := Below.refl _ _
 go_enter Try.func11, Try.ntmps11
 go_upto_region 1 with fail
 refine nmW (w.alloc (.cells #[u0, u1, u2, u3, v0, v1, v2, v3] 29)) fun w1 hv => ?_
 rw [← hv]
 replace M := alM hv M
 clear hv
 refine cj8 (M.out.1).d8 fun p0_0 p0_1 p0_2 p0_3 p0_4 p0_5 p0_6 p0_7 => ?_
 have z0 : w.heap.size < w1.heap.size := (M.out.1).lt
 refine cj4 (FX.st (H1.out.keep (M.out.2))) fun st_u0 st_u1 st_u2 st_u3 => ?_
 refine cj4 (FX.st (H2.out.keep (M.out.2))) fun st_v0 st_v1 st_v2 st_v3 => ?_
 go_upto_region 2 with fail
 clear p0_0 p0_1 p0_2 p0_3 p0_4 p0_5 p0_6 p0_7 z0 st_u0 st_u1 st_u2 st_u3 st_v0 st_v1 st_v2 st_v3
 refine nmW (w1.alloc (.cells #[.string key, .int .i64 note, u0, u1, u2, u3, v0, v1, v2, v3] 37)) fun w2 hv => ?_
 rw [← hv]
 have ow1_ : w.heap.size < w1.heap.size := ((M.out.1)).lt
 replace M := alM hv M
 clear hv
 go_wp2_with fail
 refine (rRight_g (G := G) (l := ls) (b_ := true) (Nat.le_trans hG (M.out.2.2).size) (HL.out.keep (M.out.2.2)) (by omega) HS.out HR.out).mono ?_
 rintro e w3 ⟨rfl, hb⟩
 replace M := gnM hb M
 clear hb
 refine cj10 (M.out.1).d10 fun p1_0 p1_1 p1_2 p1_3 p1_4 p1_5 p1_6 p1_7 p1_8 p1_9 => ?_
 go_wp2_with fail
 clear p1_0 p1_1 p1_2 p1_3 p1_4 p1_5 p1_6 p1_7 p1_8 p1_9
 refine (rOne_x (key := key) (note := note) (o1 := o1) (o2 := o2) (t6 := (rightX o1 o2)) (b_ := false) (by omega) (H1.out.keep (M.out.2.2)) (H2.out.keep (M.out.2.2)) HF1.out HF2.out rfl HB.out).mono ?_
 rintro e w4 ⟨rfl, hb⟩
 replace M := gnM hb M
 clear hb
 go_wp2_with fail
 go_ret2
 exact ⟨rfl, (M.out.2.2)⟩
theorem rDeltas_c {key : ByteArray} {l : List SC} {ls : List SR} {a : Option Addr} {n c : Nat} {w : World} (hG : G ≤ w.heap.size) (h : RdC G w a n c l) (h0 : RdR G w a n c ls) (hs : ∀ x ∈ ls, fewR x = true) (hr : rightL keyOk ls = true) (ok : OkL keyOk (l.map SC.sh)) (hz : FzL l 100000000) :
  Calls Try.prog 17 #[.slice a n c, .string key] w fun e w' => ∃ a2 n2 c2 l2 a3 n3 c3 l3, e = .returned (.tuple #[.slice a2 n2 c2, .slice a3 n3 c3]) ∧ RdQ G w' a2 n2 c2 l2 ∧ RdQ G w' a3 n3 c3 l3 ∧ l2.map QC.q = dif Sh.lo (allF (l.map SC.sh) key) ∧ l3.map QC.q = dif Sh.hi (allF (l.map SC.sh) key) ∧ Below w.heap.size w w' := by
 refine rDeltas_g hG ?_ hz.fzs.all fun W hW => rAll (Nat.le_trans hG hW.size) (h.keep hW) (h0.keep hW) hs hr ok hz
 have h2 : (allF (l.map SC.sh) key).length ≤ (l.map SC.sh).length := List.length_filter_le _ _
 have h3 := ok.len
 omega
theorem rDeltas_no {key : ByteArray} {l : List SR} {a : Option Addr} {n c : Nat} {w : World} (hG : G ≤ w.heap.size) (h : RdR G w a n c l) (hn : n ≤ 2000) (hs : ∀ x ∈ l, fewR x = true) (hr : rightL keyOk l = false) :
  Calls Try.prog 17 #[.slice a n c, .string key] w fun e w' => ∃ a2 c2 a3 c3, e = .returned (.tuple #[.slice a2 0 c2, .slice a3 0 c3]) ∧ Below w.heap.size w w' :=
 (rDeltas_g (lf := []) hG (by simp) (fun x hx => by cases hx) fun W hW => (rAll_no (Nat.le_trans hG hW.size) (h.keep hW) hn hs hr).mono fun e w' ⟨h1, h2⟩ => ⟨none, 0, 0, [], h1, RdL.nil _ _ _, rfl, h2⟩).mono
  fun e w' ⟨a2, n2, c2, l2, a3, n3, c3, l3, h1, h2, h3, h4, h5, h6⟩ => by
   have k2 : l2 = [] := List.map_eq_nil_iff.1 h4
   have k3 : l3 = [] := List.map_eq_nil_iff.1 h5
   have e2 := h2.len; have e3 := h3.len
   rw [k2] at e2; rw [k3] at e3
   subst e2 e3
   exact ⟨a2, c2, a3, c3, h1, h6⟩
end Go.Proofs.Ytlpcblhkddmlnaa
