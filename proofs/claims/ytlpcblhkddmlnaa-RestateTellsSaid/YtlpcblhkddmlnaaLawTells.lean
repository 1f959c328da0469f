/- RestateTells: whatever the arguments, it returns true. -/
import Derived.Test.YtlpcblhkddmlnaaBase
import Derived.Test.YtlpcblhkddmlnaaBigSpec
import Derived.Test.YtlpcblhkddmlnaaBigB
import Derived.Test.YtlpcblhkddmlnaaBigD
import Derived.Test.YtlpcblhkddmlnaaBigQ
import Derived.Test.YtlpcblhkddmlnaaFd
import Derived.Test.YtlpcblhkddmlnaaAw
import Derived.Test.YtlpcblhkddmlnaaFz
import Derived.Test.YtlpcblhkddmlnaaFracR
import Derived.Test.YtlpcblhkddmlnaaRw
import Derived.Test.YtlpcblhkddmlnaaReA
import Derived.Test.YtlpcblhkddmlnaaReB
import Derived.Test.YtlpcblhkddmlnaaReD
import Derived.Test.YtlpcblhkddmlnaaReP
import Derived.Test.YtlpcblhkddmlnaaReS
import Derived.Test.YtlpcblhkddmlnaaReQ
import Derived.Test.YtlpcblhkddmlnaaReW
import Derived.Test.YtlpcblhkddmlnaaReN
import Derived.Test.YtlpcblhkddmlnaaProg
import Derived.Test.YtlpcblhkddmlnaaShelf
import Derived.WalkKit
import Derived.WalkSpells
import Derived.WalkLawsBesides
import Derived.Handy
import Derived.Lib.Hide
import Derived.Lib.Strings
import Derived.Lib.Builder
import Derived.BigQuiet
import Derived.OwnWalk
import Derived.Laws.BitsLemmas
import Derived.WalkSmall
import Derived.Deep.QuietTactic
import Derived.StillTailTactics
import Derived.Maps.AppendAt
import Derived.IntWalk
import Derived.Deep.RegionHeld3
import Derived.Deep.DeepFit
import Derived.Deep.LoopGhost
import Derived.Deep.DeepCutAuto
import Derived.Lib.ItoaNum
import Derived.Lib.Repeat
import Derived.Lib.AppendIntMem
import Derived.Sort.OwnSorted
import Derived.Shelf.Strings.SlTrimAscii
import Derived.Lib.ConvBytes
import Derived.Lib.CutLaws
import Derived.Maps.Own
import Derived.Maps.Views
import Derived.Maps.OwnOps
import Derived.RangeFuncNested
import Derived.RangeFuncBound
import Derived.RangeFuncCalls
import Derived.RangeFuncLeaves
import Derived.Shelf.Abstract
import Derived.Shelf.RegionOpen
import Derived.OwnWalkIn
import Derived.TacticsInMore
import Derived.LoopNIn
import Derived.LoopIn
import Derived.Laws.RangeAny
namespace Go.Proofs.Ytlpcblhkddmlnaa
open Go.RowKit Go.Lib
variable {G : Nat}

theorem show_all {l rs : List Sh} {x : Sh} {er : Int} {N : Nat} (ok : OkL keyOk l) (ho : okSh keyOk x) (h : showR l x = (er, rs)) (hl : FzS l N) (h1 : Fz x.lo N) (h2 : Fz x.hi N) : FzS rs N ∧ rs.length ≤ l.length + 1 := by
  by_cases he : er = 0
  · subst he
    have h3 := (show_ok ok ho h).2.1
    exact ⟨show_fz h3 hl h1 h2, (show_len h3).2⟩
  · have h3 : rs = [] := by
      have h4 := showR_err (l := l) (x := x) (by rw [h]; exact he)
      rw [h] at h4; exact h4
    subst h3
    exact ⟨(fun y hy => by cases hy), by simp⟩
theorem t_ways (l : List Sh) (key : ByteArray) (note : Int) (o1 o2 : Option Rat) : okX key note o1 o2 = false ∨ ∃ q r er rs, o1 = some q ∧ o2 = some r ∧ okSh keyOk ⟨key, note, q, r⟩ ∧ showR l ⟨key, note, q, r⟩ = (er, rs) := by
  rcases x_ways l key note o1 o2 with (h | ⟨q, r, h1, h2, h3, h4⟩) | ⟨q, r, rs, h1, h2, h3, h4⟩
  · exact .inl h
  · exact .inr ⟨q, r, _, _, h1, h2, h3, rfl⟩
  · exact .inr ⟨q, r, 0, rs, h1, h2, h3, h4⟩
theorem none_at {l : List Sh} {k : ByteArray} (nt : Int) (h : lastK l k = none) : atF (allF l k) nt = none := by
 cases h2 : atF (allF l k) nt with
 | none => rfl
 | some y =>
  have h3 := List.mem_filter.1 (atF_mem h2)
  exact absurd (by simpa using h3.2) (lastK_none h y h3.1)
theorem find_ways (l : List Sh) (key : ByteArray) (nt : Int) : (atF (allF l key) nt = none ∧ lastK l key = none) ∨ (atF (allF l key) nt = none ∧ ∃ zk zn zq zr, lastK l key = some ⟨zk, zn, zq, zr⟩) ∨ ∃ yk yn yq yr zk zn zq zr, atF (allF l key) nt = some ⟨yk, yn, yq, yr⟩ ∧ lastK l key = some ⟨zk, zn, zq, zr⟩ := by
 cases h2 : lastK l key with
 | none => exact .inl ⟨none_at nt h2, rfl⟩
 | some z =>
  cases h1 : atF (allF l key) nt with
  | none => exact .inr (.inl ⟨rfl, z.key, z.note, z.lo, z.hi, rfl⟩)
  | some y => exact .inr (.inr ⟨y.key, y.note, y.lo, y.hi, z.key, z.note, z.lo, z.hi, rfl, rfl⟩)
def zeroE : SQ := ⟨⟨#[]⟩, 0, .int .i64 0, .slice none 0 0, .int .i64 0, .slice none 0 0, none, .int .i64 0, .slice none 0 0, .int .i64 0, .slice none 0 0, none⟩
theorem zeroE_ok {w : World} : El.ok G w zeroE := ⟨oq_none _ _ _ _ _, oq_none _ _ _ _ _⟩
abbrev nilSC : List SC := []
abbrev nilQC : List QC := []
theorem oq_pair {w : World} {x y : SQ} (hx : El.ok G w x) (hy : El.ok G w y) : ∀ z ∈ [x, y], El.ok G w z := fun z hz => by
  simp at hz
  rcases hz with rfl | rfl
  · exact hx
  · exact hy
theorem oz_pair {x y : SQ} {N : Nat} (hx : Oz x.o N ∧ Oz x.p N) (hy : Oz y.o N ∧ Oz y.p N) : OzL [x, y] N := fun z hz => by
  simp at hz
  rcases hz with rfl | rfl
  · exact hx
  · exact hy
set_option maxRecDepth 100000 in
set_option maxHeartbeats 40000000 in
theorem tells_walk {ls : List SR} {a : Option Addr} {n c : Nat} {w : World} (h : RdR w.heap.size w a n c ls) (_hn0 : n ≤ 9223372036854775807) {key : ByteArray} {note : Int} {u0 u1 u2 u3 v0 v1 v2 v3 : Value} {n1 m1 n2 m2 : Nat} {o1 o2 : Option Rat} (h1 : FX w u0 u1 u2 u3 n1 m1 o1) (h2 : FX w v0 v1 v2 v3 n2 m2 o2)  :
  Calls Try.prog 3 #[.slice a n c, .string key, .int .i64 note, .agg #[u0, u1, u2, u3, v0, v1, v2, v3]] w fun e w' => e = .returned (.bool true) ∧ Below w.heap.size w w' := by
 obtain ⟨G, hG0⟩ : ∃ G : Nat, G = w.heap.size := ⟨_, rfl⟩
 have hG : G ≤ w.heap.size := by omega
 have HL0 : Hid (RdR w.heap.size w a n c ls) := h
 obtain ⟨b1, hb1_⟩ : ∃ b, fewL 30 ls = b := ⟨_, rfl⟩
 have Hb1 := Lib.hid hb1_; clear hb1_
 obtain ⟨k1, hk1_⟩ : ∃ b, decide (70 < key.size) = b := ⟨_, rfl⟩
 have hk1i : decide ((70 : Int) < (key.size : Int)) = k1 := by rw [← hk1_]; exact decide_eq_decide.2 (by omega)
 obtain ⟨fs, hfs_⟩ : ∃ b, (decide (n1 ≤ 3) && decide (m1 ≤ 3) && (decide (n2 ≤ 3) && decide (m2 ≤ 3))) = b := ⟨_, rfl⟩
 have Hfs := Lib.hid hfs_; clear hfs_
 have HR0 : Hid (RdR G w a n c ls) := (by show RdR _ _ _ _ _ _; rw [hG0]; exact HL0.out)
 have H1 : Hid (FX w u0 u1 u2 u3 n1 m1 o1) := h1
 have H2 : Hid (FX w v0 v1 v2 v3 n2 m2 o2) := h2
 clear h h1 h2
 have M : Hid (Below w.heap.size w w) := Below.refl _ _
 go_enter Try.func3, Try.ntmps3
 go_upto_region 1 with fail
 refine nmW (w.alloc (.cells #[u0, u1, u2, u3, v0, v1, v2, v3] 29)) fun w1 hv => ?_
 rw [← hv]
 replace M := alM hv M
 clear hv
 go_wp2_with fail
 refine (reSmall (G := G) (Nat.le_trans hG (M.out.2).size)).mono ?_
 rintro e w2 ⟨rfl, hb⟩
 replace M := gnM hb M
 clear hb
 go_wp2_with fail
 refine (reFew30 (G := G) (l := ls) (b_ := b1) (HR0.out.keep (M.out.2)) (by omega) Hb1.out).mono ?_
 rintro e w3 ⟨rfl, hb⟩
 replace M := gnM hb M
 clear hb
 cases b1 with
 | false =>
  go_wp2_with fail
  go_ret
  exact ⟨rfl, (M.out.2)⟩
 | true =>
  have hs_ := few_all Hb1.out
  have HSM := Lib.hid hs_.1
  have hn1 : n ≤ 30 := by have h_ := HL0.out.len; have h2_ := hs_.2; omega
  clear hs_
  cases k1 with
  | false =>
   refine cj8 (M.out.1).d8 fun p0_0 p0_1 p0_2 p0_3 p0_4 p0_5 p0_6 p0_7 => ?_
   go_wp2_with fail
   clear p0_0 p0_1 p0_2 p0_3 p0_4 p0_5 p0_6 p0_7
   refine (reFewSpan (o1 := o1) (o2 := o2) (f1 := (decide (n1 ≤ 3) && decide (m1 ≤ 3))) (f2 := (decide (n2 ≤ 3) && decide (m2 ≤ 3))) (b_ := fs) (H1.out.keep (M.out.2)) (H2.out.keep (M.out.2)) rfl rfl Hfs.out).mono ?_
   rintro e w4 ⟨rfl, hb⟩
   replace M := gnM hb M
   clear hb
   cases fs with
   | false =>
    go_wp2_with fail
    go_ret
    exact ⟨rfl, (M.out.2)⟩
   | true =>
    go_upto_region 4 with fail
    have hf_ := fx_few Hfs.out
    have HF1 := Lib.hid (few_of hf_.1); have HF2 := Lib.hid (few_of hf_.2)
    have HQ1 : Hid (∀ q, o1 = some q → FQ G w u0 u1 u2 u3 q ∧ Fz q 3) := by rw [hG0]; exact fx_q H1.out hf_.1
    have HQ2 : Hid (∀ q, o2 = some q → FQ G w v0 v1 v2 v3 q ∧ Fz q 3) := by rw [hG0]; exact fx_q H2.out hf_.2
    clear hf_
    have hks_ : key.size ≤ 9223372036854775807 := by have h_ := of_decide_eq_false hk1_; omega
    have hwr : rightL keyOk ls = false ∨ rightL keyOk ls = true := by cases rightL keyOk ls <;> simp
    rcases hwr with hrt | hrt
    ·
     have Hrt := Lib.hid hrt; clear hrt
     refine cj8 (M.out.1).d8 fun p0_0 p0_1 p0_2 p0_3 p0_4 p0_5 p0_6 p0_7 => ?_
     go_wp2_with fail
     clear p0_0 p0_1 p0_2 p0_3 p0_4 p0_5 p0_6 p0_7
     refine (reShow_no (G := G) (key := key) (note := note) (o1 := o1) (o2 := o2) (l := ls) (Nat.le_trans hG (M.out.2).size) (HR0.out.keep (M.out.2)) (by omega) HSM.out Hrt.out (H1.out.keep (M.out.2)) (H2.out.keep (M.out.2))).mono ?_
     rintro e w5 ⟨rfl, hb⟩
     replace M := gnM hb M
     clear hb
     refine cj8 (M.out.1).d8 fun p0_0 p0_1 p0_2 p0_3 p0_4 p0_5 p0_6 p0_7 => ?_
     go_wp2_with fail
     clear p0_0 p0_1 p0_2 p0_3 p0_4 p0_5 p0_6 p0_7
     refine (rShow_no (G := G) (key := key) (note := note) (o1 := o1) (o2 := o2) (ls := ls) (Nat.le_trans hG (M.out.2).size) (HR0.out.keep (M.out.2)) (by omega) HSM.out Hrt.out (H1.out.keep (M.out.2)) (H2.out.keep (M.out.2)) HF1.out HF2.out (by omega)).mono ?_
     rintro e w6 ⟨rfl, hb⟩
     replace M := gnM hb M
     clear hb
     go_wp2_with fail
     refine (reAt_no (G := G) (key := key) (nt := note) (l := ls) (Nat.le_trans hG (M.out.2).size) (HR0.out.keep (M.out.2)) (by omega) HSM.out Hrt.out).mono ?_
     rintro e w7 ⟨rfl, hb⟩
     replace M := gnM hb M
     clear hb
     go_upto_region 7 with fail
     refine nmW (w7.alloc (.cells #[.string (⟨#[]⟩), .int .i64 0, .int .i64 0, .slice none 0 0, .int .i64 0, .slice none 0 0, .int .i64 0, .slice none 0 0, .int .i64 0, .slice none 0 0] 37)) fun w8 hv => ?_
     rw [← hv]
     have ow1_ : w.heap.size < w7.heap.size := ((M.out.1)).lt
     replace M := alM hv M
     clear hv
     go_wp2_with fail
     refine (rAt_no (G := G) (key := key) (nt := note) (l := ls) (Nat.le_trans hG (M.out.2.2).size) (HR0.out.keep (M.out.2.2)) (by omega) HSM.out Hrt.out).mono ?_
     rintro e w9 ⟨rfl, hb⟩
     replace M := gnM hb M
     clear hb
     go_upto_region 8 with fail
     refine nmW (w9.alloc (.cells #[.string (⟨#[]⟩), .int .i64 0, .int .i64 0, .slice none 0 0, .int .i64 0, .slice none 0 0, .int .i64 0, .slice none 0 0, .int .i64 0, .slice none 0 0] 37)) fun w10 hv => ?_
     rw [← hv]
     have ow2_ : w7.heap.size < w9.heap.size := ((M.out.1)).lt
     replace M := alM hv M
     clear hv
     go_wp2_with fail
     refine (reLast_no (G := G) (key := key) (l := ls) (Nat.le_trans hG (M.out.2.2.2).size) (HR0.out.keep (M.out.2.2.2)) (by omega) HSM.out Hrt.out).mono ?_
     rintro e w11 ⟨rfl, hb⟩
     replace M := gnM hb M
     clear hb
     go_upto_region 9 with fail
     refine nmW (w11.alloc (.cells #[.string (⟨#[]⟩), .int .i64 0, .int .i64 0, .slice none 0 0, .int .i64 0, .slice none 0 0, .int .i64 0, .slice none 0 0, .int .i64 0, .slice none 0 0] 37)) fun w12 hv => ?_
     rw [← hv]
     have ow3_ : w9.heap.size < w11.heap.size := ((M.out.1)).lt
     replace M := alM hv M
     clear hv
     go_wp2_with fail
     refine (rLast_no (G := G) (key := key) (l := ls) (Nat.le_trans hG (M.out.2.2.2.2).size) (HR0.out.keep (M.out.2.2.2.2)) (by omega) HSM.out Hrt.out).mono ?_
     rintro e w13 ⟨rfl, hb⟩
     replace M := gnM hb M
     clear hb
     go_upto_region 10 with fail
     refine nmW (w13.alloc (.cells #[.string (⟨#[]⟩), .int .i64 0, .int .i64 0, .slice none 0 0, .int .i64 0, .slice none 0 0, .int .i64 0, .slice none 0 0, .int .i64 0, .slice none 0 0] 37)) fun w14 hv => ?_
     rw [← hv]
     have ow4_ : w11.heap.size < w13.heap.size := ((M.out.1)).lt
     replace M := alM hv M
     clear hv
     go_wp2_with fail
     refine (reDeltas_no (G := G) (key := key) (l := ls) (Nat.le_trans hG (M.out.2.2.2.2.2).size) (HR0.out.keep (M.out.2.2.2.2.2)) (by omega) HSM.out Hrt.out).mono ?_
     rintro e w15 ⟨a_1, c_2, a_3, c_4, rfl, hb⟩
     replace M := gnM hb M
     clear hb
     go_wp2_with fail
     refine (rDeltas_no (G := G) (key := key) (l := ls) (Nat.le_trans hG (M.out.2.2.2.2.2).size) (HR0.out.keep (M.out.2.2.2.2.2)) (by omega) HSM.out Hrt.out).mono ?_
     rintro e w16 ⟨a_5, c_6, a_7, c_8, rfl, hb⟩
     replace M := gnM hb M
     clear hb
     go_wp2_with fail
     refine (reRight_g (G := G) (l := ls) (b_ := false) (Nat.le_trans hG (M.out.2.2.2.2.2).size) (HR0.out.keep (M.out.2.2.2.2.2)) (by omega) HSM.out Hrt.out).mono ?_
     rintro e w17 ⟨rfl, hb⟩
     replace M := gnM hb M
     clear hb
     go_wp2_with fail
     refine (rRight_g (G := G) (l := ls) (b_ := false) (Nat.le_trans hG (M.out.2.2.2.2.2).size) (HR0.out.keep (M.out.2.2.2.2.2)) (by omega) HSM.out Hrt.out).mono ?_
     rintro e w18 ⟨rfl, hb⟩
     replace M := gnM hb M
     clear hb
     go_wp2_with fail
     refine (reSame (G := G) (l := nilSC) (m := nilSC) (b_ := true) (RdL.nil _ _ _) (RdL.nil _ _ _) (by decide) (by decide) (fun x_ hx_ => by cases hx_) (fun x_ hx_ => by cases hx_) (decide_eq_true rfl)).mono ?_
     rintro e w19 ⟨rfl, hb⟩
     replace M := gnM hb M
     clear hb
     go_wp2_with fail
     refine (reAll_g (G := G) (key := key) (l := ls) (Nat.le_trans hG (M.out.2.2.2.2.2).size) (HR0.out.keep (M.out.2.2.2.2.2)) (by omega) HSM.out Hrt.out).mono ?_
     rintro e w20 ⟨rfl, hb⟩
     replace M := gnM hb M
     clear hb
     go_wp2_with fail
     refine (rAll_no (G := G) (key := key) (l := ls) (Nat.le_trans hG (M.out.2.2.2.2.2).size) (HR0.out.keep (M.out.2.2.2.2.2)) (by omega) HSM.out Hrt.out).mono ?_
     rintro e w21 ⟨rfl, hb⟩
     replace M := gnM hb M
     clear hb
     go_wp2_with fail
     refine (reSame (G := G) (l := nilSC) (m := nilSC) (b_ := true) (RdL.nil _ _ _) (RdL.nil _ _ _) (by decide) (by decide) (fun x_ hx_ => by cases hx_) (fun x_ hx_ => by cases hx_) (decide_eq_true rfl)).mono ?_
     rintro e w22 ⟨rfl, hb⟩
     replace M := gnM hb M
     clear hb
     refine cj10 (M.out.2.2.2.1).d10 fun p1_0 p1_1 p1_2 p1_3 p1_4 p1_5 p1_6 p1_7 p1_8 p1_9 => ?_
     have z1 : w7.heap.size < w22.heap.size := (M.out.2.2.2.1).lt
     refine cj10 (M.out.2.1).d10 fun p3_0 p3_1 p3_2 p3_3 p3_4 p3_5 p3_6 p3_7 p3_8 p3_9 => ?_
     have z3 : w11.heap.size < w22.heap.size := (M.out.2.1).lt
     refine cj10 (M.out.2.2.1).d10 fun p2_0 p2_1 p2_2 p2_3 p2_4 p2_5 p2_6 p2_7 p2_8 p2_9 => ?_
     have z2 : w9.heap.size < w22.heap.size := (M.out.2.2.1).lt
     refine cj10 (M.out.1).d10 fun p4_0 p4_1 p4_2 p4_3 p4_4 p4_5 p4_6 p4_7 p4_8 p4_9 => ?_
     have z4 : w13.heap.size < w22.heap.size := (M.out.1).lt
     go_wp2_with fail
     clear p1_0 p1_1 p1_2 p1_3 p1_4 p1_5 p1_6 p1_7 p1_8 p1_9 z1 p3_0 p3_1 p3_2 p3_3 p3_4 p3_5 p3_6 p3_7 p3_8 p3_9 z3 p2_0 p2_1 p2_2 p2_3 p2_4 p2_5 p2_6 p2_7 p2_8 p2_9 z2 p4_0 p4_1 p4_2 p4_3 p4_4 p4_5 p4_6 p4_7 p4_8 p4_9 z4
     refine nmW ((w22.alloc (.cells #[.string (⟨#[]⟩), .int .i64 0, .int .i64 0, .slice none 0 0, .int .i64 0, .slice none 0 0, .int .i64 0, .slice none 0 0, .int .i64 0, .slice none 0 0, .string (⟨#[]⟩), .int .i64 0, .int .i64 0, .slice none 0 0, .int .i64 0, .slice none 0 0, .int .i64 0, .slice none 0 0, .int .i64 0, .slice none 0 0] 37)).alloc (.cells #[.string (⟨#[]⟩), .int .i64 0, .int .i64 0, .slice none 0 0, .int .i64 0, .slice none 0 0, .int .i64 0, .slice none 0 0, .int .i64 0, .slice none 0 0, .string (⟨#[]⟩), .int .i64 0, .int .i64 0, .slice none 0 0, .int .i64 0, .slice none 0 0, .int .i64 0, .slice none 0 0, .int .i64 0, .slice none 0 0] 37)) fun w23 hv => ?_
     rw [← hv]
     have ow5_ : w13.heap.size < w22.heap.size := ((M.out.1)).lt
     have hbx := bx2 w22 37 37 #[.string (⟨#[]⟩), .int .i64 0, .int .i64 0, .slice none 0 0, .int .i64 0, .slice none 0 0, .int .i64 0, .slice none 0 0, .int .i64 0, .slice none 0 0, .string (⟨#[]⟩), .int .i64 0, .int .i64 0, .slice none 0 0, .int .i64 0, .slice none 0 0, .int .i64 0, .slice none 0 0, .int .i64 0, .slice none 0 0] #[.string (⟨#[]⟩), .int .i64 0, .int .i64 0, .slice none 0 0, .int .i64 0, .slice none 0 0, .int .i64 0, .slice none 0 0, .int .i64 0, .slice none 0 0, .string (⟨#[]⟩), .int .i64 0, .int .i64 0, .slice none 0 0, .int .i64 0, .slice none 0 0, .int .i64 0, .slice none 0 0, .int .i64 0, .slice none 0 0]
     rw [← hv] at hbx
     have hbn : Below w22.heap.size w22 w23 := by rw [hv]; exact (Below.alloc (Below.alloc (Below.refl _ _) (by simp <;> omega) _) (by simp <;> omega) _)
     replace M := Lib.hid (And.intro hbx.2 (And.intro hbx.1 (Goes.go M.out hbn)))
     clear hbx hbn
     clear hv
     replace M := Lib.hid (And.intro (M.out.1) (And.intro (M.out.2.1) (M.out.2.2.2.2.2.2.2)))
     obtain ⟨ll9, h_⟩ : ∃ l_ : List SQ, l_ = [zeroE, zeroE] := ⟨_, rfl⟩
     have Ell9 := Lib.hid h_; clear h_
     obtain ⟨ll10, h_⟩ : ∃ l_ : List SQ, l_ = [zeroE, zeroE] := ⟨_, rfl⟩
     have Ell10 := Lib.hid h_; clear h_
     refine (reSame_o (G := G) (l := ll9) (m := ll10) (b_ := true) (by rw [Ell9.out]; exact RdL.of (OwB.new (α := SQ) (M.out.2.1) rfl hG (show w.heap.size ≤ _ by omega) (oq_pair (x := zeroE) (y := zeroE) zeroE_ok zeroE_ok)).rd rfl (by omega)) (by rw [Ell10.out]; exact RdL.of (OwB.new (α := SQ) (M.out.1) rfl hG (show w.heap.size ≤ _ by omega) (oq_pair (x := zeroE) (y := zeroE) zeroE_ok zeroE_ok)).rd rfl (by omega)) (by decide) (by decide) (by rw [Ell9.out]; exact oz_pair ⟨Oz.none_, Oz.none_⟩ ⟨Oz.none_, Oz.none_⟩) (by rw [Ell10.out]; exact oz_pair ⟨Oz.none_, Oz.none_⟩ ⟨Oz.none_, Oz.none_⟩) (decide_eq_true (by rw [Ell9.out, Ell10.out] <;> rfl))).mono ?_
     rintro e w24 ⟨rfl, hb⟩
     replace M := gnM hb M
     clear hb
     go_wp2_with fail
     refine (reSamePt (G := G) (l := nilQC) (m := nilQC) (b_ := true) (RdL.nil _ _ _) (RdL.nil _ _ _) (by decide) (by decide) (fun x_ hx_ => by cases hx_) (fun x_ hx_ => by cases hx_) (decide_eq_true rfl)).mono ?_
     rintro e w25 ⟨rfl, hb⟩
     replace M := gnM hb M
     clear hb
     go_wp2_with fail
     refine (reSamePt (G := G) (l := nilQC) (m := nilQC) (b_ := true) (RdL.nil _ _ _) (RdL.nil _ _ _) (by decide) (by decide) (fun x_ hx_ => by cases hx_) (fun x_ hx_ => by cases hx_) (decide_eq_true rfl)).mono ?_
     rintro e w26 ⟨rfl, hb⟩
     replace M := gnM hb M
     clear hb
     go_wp2_with fail
     go_ret
     exact ⟨rfl, (M.out.2.2)⟩
    ·
     have Hrt := Lib.hid hrt; clear hrt
     have hr_ := rightL_ok Hrt.out
     obtain ⟨l, hl⟩ : ∃ l, l = ls.map toC := ⟨_, rfl⟩
     have HC0 : Hid (RdC G w a n c l) := by show RdC _ _ _ _ _ _; rw [hG0, hl]; exact HL0.out.toC hr_.1
     have HOK : Hid (OkL keyOk (l.map SC.sh)) := by show OkL _ _; rw [hl, List.map_map]; exact hr_.2
     have HZ3 : Hid (FzL l 3) := by show FzL _ _; rw [hl]; exact fz_toC HL0.out hr_.1 HSM.out
     have HLL : Hid (l.map SC.sh = ls.map SR.sh) := by show _ = _; rw [hl, List.map_map]; rfl
     clear hr_ hl
     rcases t_ways (l.map SC.sh) key note o1 o2 with hbad | ⟨q, r, er, rs, ho1_, ho2_, hos, hsh⟩
     ·
      have HB := Lib.hid hbad; clear hbad
      rcases find_ways (l.map SC.sh) key note with ⟨ha1, ha2⟩ | ⟨ha1, zk, zn, zq, zr, ha2⟩ | ⟨yk, yn, yq, yr, zk, zn, zq, zr, ha1, ha2⟩
      ·
       have HA1 := Lib.hid ha1; have HA2 := Lib.hid ha2; clear ha1 ha2
       refine cj8 (M.out.1).d8 fun p0_0 p0_1 p0_2 p0_3 p0_4 p0_5 p0_6 p0_7 => ?_
       go_wp2_with fail
       clear p0_0 p0_1 p0_2 p0_3 p0_4 p0_5 p0_6 p0_7
       refine (reShow_x (G := G) (key := key) (note := note) (o1 := o1) (o2 := o2) (l := l) (Nat.le_trans hG (M.out.2).size) (HC0.out.keep (M.out.2)) HOK.out (fun x_ hx_ => ⟨(HZ3.out x_ hx_).1.mono (by omega), (HZ3.out x_ hx_).2.mono (by omega)⟩) (H1.out.keep (M.out.2)) (H2.out.keep (M.out.2)) HF1.out HF2.out HB.out).mono ?_
       rintro e w5 ⟨rfl, hb⟩
       replace M := gnM hb M
       clear hb
       refine cj8 (M.out.1).d8 fun p0_0 p0_1 p0_2 p0_3 p0_4 p0_5 p0_6 p0_7 => ?_
       go_wp2_with fail
       clear p0_0 p0_1 p0_2 p0_3 p0_4 p0_5 p0_6 p0_7
       refine (rShow_x (G := G) (key := key) (note := note) (o1 := o1) (o2 := o2) (ls := ls) (Nat.le_trans hG (M.out.2).size) (HR0.out.keep (M.out.2)) (by omega) HSM.out Hrt.out (H1.out.keep (M.out.2)) (H2.out.keep (M.out.2)) HF1.out HF2.out (by omega) HB.out).mono ?_
       rintro e w6 ⟨rfl, hb⟩
       replace M := gnM hb M
       clear hb
       go_wp2_with fail
       refine (reAt_none (G := G) (key := key) (nt := note) (l := l) (Nat.le_trans hG (M.out.2).size) (HC0.out.keep (M.out.2)) HOK.out (fun x_ hx_ => ⟨(HZ3.out x_ hx_).1.mono (by omega), (HZ3.out x_ hx_).2.mono (by omega)⟩) HA1.out).mono ?_
       rintro e w7 ⟨rfl, hb⟩
       replace M := gnM hb M
       clear hb
       go_upto_region 7 with fail
       refine nmW (w7.alloc (.cells #[.string (⟨#[]⟩), .int .i64 0, .int .i64 0, .slice none 0 0, .int .i64 0, .slice none 0 0, .int .i64 0, .slice none 0 0, .int .i64 0, .slice none 0 0] 37)) fun w8 hv => ?_
       rw [← hv]
       have ow1_ : w.heap.size < w7.heap.size := ((M.out.1)).lt
       replace M := alM hv M
       clear hv
       go_wp2_with fail
       refine (rAt_none (G := G) (key := key) (nt := note) (l := l) (ls := ls) (Nat.le_trans hG (M.out.2.2).size) (HC0.out.keep (M.out.2.2)) (HR0.out.keep (M.out.2.2)) HSM.out Hrt.out HOK.out (fun x_ hx_ => ⟨(HZ3.out x_ hx_).1.mono (by omega), (HZ3.out x_ hx_).2.mono (by omega)⟩) HA1.out).mono ?_
       rintro e w9 ⟨rfl, hb⟩
       replace M := gnM hb M
       clear hb
       go_upto_region 8 with fail
       refine nmW (w9.alloc (.cells #[.string (⟨#[]⟩), .int .i64 0, .int .i64 0, .slice none 0 0, .int .i64 0, .slice none 0 0, .int .i64 0, .slice none 0 0, .int .i64 0, .slice none 0 0] 37)) fun w10 hv => ?_
       rw [← hv]
       have ow2_ : w7.heap.size < w9.heap.size := ((M.out.1)).lt
       replace M := alM hv M
       clear hv
       go_wp2_with fail
       refine (reLast_none (G := G) (key := key) (l := l) (Nat.le_trans hG (M.out.2.2.2).size) (HC0.out.keep (M.out.2.2.2)) HOK.out (fun x_ hx_ => ⟨(HZ3.out x_ hx_).1.mono (by omega), (HZ3.out x_ hx_).2.mono (by omega)⟩) HA2.out).mono ?_
       rintro e w11 ⟨rfl, hb⟩
       replace M := gnM hb M
       clear hb
       go_upto_region 9 with fail
       refine nmW (w11.alloc (.cells #[.string (⟨#[]⟩), .int .i64 0, .int .i64 0, .slice none 0 0, .int .i64 0, .slice none 0 0, .int .i64 0, .slice none 0 0, .int .i64 0, .slice none 0 0] 37)) fun w12 hv => ?_
       rw [← hv]
       have ow3_ : w9.heap.size < w11.heap.size := ((M.out.1)).lt
       replace M := alM hv M
       clear hv
       go_wp2_with fail
       refine (rLast_none (G := G) (key := key) (l := l) (ls := ls) (Nat.le_trans hG (M.out.2.2.2.2).size) (HC0.out.keep (M.out.2.2.2.2)) (HR0.out.keep (M.out.2.2.2.2)) HSM.out Hrt.out HOK.out (fun x_ hx_ => ⟨(HZ3.out x_ hx_).1.mono (by omega), (HZ3.out x_ hx_).2.mono (by omega)⟩) HA2.out).mono ?_
       rintro e w13 ⟨rfl, hb⟩
       replace M := gnM hb M
       clear hb
       go_upto_region 10 with fail
       refine nmW (w13.alloc (.cells #[.string (⟨#[]⟩), .int .i64 0, .int .i64 0, .slice none 0 0, .int .i64 0, .slice none 0 0, .int .i64 0, .slice none 0 0, .int .i64 0, .slice none 0 0] 37)) fun w14 hv => ?_
       rw [← hv]
       have ow4_ : w11.heap.size < w13.heap.size := ((M.out.1)).lt
       replace M := alM hv M
       clear hv
       go_wp2_with fail
       refine (reDeltas_c (G := G) (key := key) (l := l) (Nat.le_trans hG (M.out.2.2.2.2.2).size) (HC0.out.keep (M.out.2.2.2.2.2)) HOK.out (fun x_ hx_ => ⟨(HZ3.out x_ hx_).1.mono (by omega), (HZ3.out x_ hx_).2.mono (by omega)⟩)).mono ?_
       rintro e w15 ⟨a_11, n_12, c_13, l_14, a_15, n_16, c_17, l_18, rfl, hd19, hd20, hu21, hu22, hb⟩
       replace M := ad2M hd19 hd20 hb M
       clear hb hd19 hd20
       replace hu21 := Lib.hid hu21
       replace hu22 := Lib.hid hu22
       have HZl_14 : Hid (FzQ l_14 201) := FzQ.of_map hu21.out (fun q_ hq_ => ((HZ3.out.fzs.all.dif_lo q_ hq_).mono (by omega)))
       have hn_l_14 : n_12 ≤ 1000000 := by have h_ := congrArg List.length hu21.out; rw [List.length_map, dif_len, ((M.out.1)).len] at h_; have h2_ : (allF (l.map SC.sh) key).length ≤ (l.map SC.sh).length := List.length_filter_le _ _; rw [List.length_map, HC0.out.len] at h2_; omega
       have HZl_18 : Hid (FzQ l_18 201) := FzQ.of_map hu22.out (fun q_ hq_ => ((HZ3.out.fzs.all.dif_hi q_ hq_).mono (by omega)))
       have hn_l_18 : n_16 ≤ 1000000 := by have h_ := congrArg List.length hu22.out; rw [List.length_map, dif_len, ((M.out.2.1)).len] at h_; have h2_ : (allF (l.map SC.sh) key).length ≤ (l.map SC.sh).length := List.length_filter_le _ _; rw [List.length_map, HC0.out.len] at h2_; omega
       go_wp2_with fail
       refine (rDeltas_c (G := G) (key := key) (l := l) (ls := ls) (Nat.le_trans hG (M.out.2.2.2.2.2.2.2).size) (HC0.out.keep (M.out.2.2.2.2.2.2.2)) (HR0.out.keep (M.out.2.2.2.2.2.2.2)) HSM.out Hrt.out HOK.out (fun x_ hx_ => ⟨(HZ3.out x_ hx_).1.mono (by omega), (HZ3.out x_ hx_).2.mono (by omega)⟩)).mono ?_
       rintro e w16 ⟨a_23, n_24, c_25, l_26, a_27, n_28, c_29, l_30, rfl, hd31, hd32, hu33, hu34, hb⟩
       replace M := ad2M hd31 hd32 hb M
       clear hb hd31 hd32
       replace hu33 := Lib.hid hu33
       replace hu34 := Lib.hid hu34
       have HZl_26 : Hid (FzQ l_26 201) := FzQ.of_map hu33.out (fun q_ hq_ => ((HZ3.out.fzs.all.dif_lo q_ hq_).mono (by omega)))
       have hn_l_26 : n_24 ≤ 1000000 := by have h_ := congrArg List.length hu33.out; rw [List.length_map, dif_len, ((M.out.1)).len] at h_; have h2_ : (allF (l.map SC.sh) key).length ≤ (l.map SC.sh).length := List.length_filter_le _ _; rw [List.length_map, HC0.out.len] at h2_; omega
       have HZl_30 : Hid (FzQ l_30 201) := FzQ.of_map hu34.out (fun q_ hq_ => ((HZ3.out.fzs.all.dif_hi q_ hq_).mono (by omega)))
       have hn_l_30 : n_28 ≤ 1000000 := by have h_ := congrArg List.length hu34.out; rw [List.length_map, dif_len, ((M.out.2.1)).len] at h_; have h2_ : (allF (l.map SC.sh) key).length ≤ (l.map SC.sh).length := List.length_filter_le _ _; rw [List.length_map, HC0.out.len] at h2_; omega
       go_wp2_with fail
       refine (reRight_g (G := G) (l := ls) (b_ := true) (Nat.le_trans hG (M.out.2.2.2.2.2.2.2.2.2).size) (HR0.out.keep (M.out.2.2.2.2.2.2.2.2.2)) (by omega) HSM.out Hrt.out).mono ?_
       rintro e w17 ⟨rfl, hb⟩
       replace M := gnM hb M
       clear hb
       go_wp2_with fail
       refine (rRight_g (G := G) (l := ls) (b_ := true) (Nat.le_trans hG (M.out.2.2.2.2.2.2.2.2.2).size) (HR0.out.keep (M.out.2.2.2.2.2.2.2.2.2)) (by omega) HSM.out Hrt.out).mono ?_
       rintro e w18 ⟨rfl, hb⟩
       replace M := gnM hb M
       clear hb
       go_wp2_with fail
       refine (reSame (G := G) (l := nilSC) (m := nilSC) (b_ := true) (RdL.nil _ _ _) (RdL.nil _ _ _) (by decide) (by decide) (fun x_ hx_ => by cases hx_) (fun x_ hx_ => by cases hx_) (decide_eq_true rfl)).mono ?_
       rintro e w19 ⟨rfl, hb⟩
       replace M := gnM hb M
       clear hb
       go_wp2_with fail
       refine (reAll (G := G) (key := key) (l := l) (Nat.le_trans hG (M.out.2.2.2.2.2.2.2.2.2).size) (HC0.out.keep (M.out.2.2.2.2.2.2.2.2.2)) HOK.out (fun x_ hx_ => ⟨(HZ3.out x_ hx_).1.mono (by omega), (HZ3.out x_ hx_).2.mono (by omega)⟩)).mono ?_
       rintro e w20 ⟨a_35, n_36, c_37, l_38, rfl, hd39, hu40, hb⟩
       replace M := adM hd39 hb M
       clear hb hd39
       replace hu40 := Lib.hid hu40
       have HZl_38 : Hid (FzL l_38 3) := (HZ3.out.fzs.all).fzl hu40.out
       have hn_l_38 : n_36 ≤ 1000000 := by have h_ := all_len hu40.out; rw [((M.out.1)).len, HC0.out.len] at h_; omega
       go_wp2_with fail
       refine (rAll (G := G) (key := key) (l := l) (ls := ls) (Nat.le_trans hG (M.out.2.2.2.2.2.2.2.2.2.2).size) (HC0.out.keep (M.out.2.2.2.2.2.2.2.2.2.2)) (HR0.out.keep (M.out.2.2.2.2.2.2.2.2.2.2)) HSM.out Hrt.out HOK.out (fun x_ hx_ => ⟨(HZ3.out x_ hx_).1.mono (by omega), (HZ3.out x_ hx_).2.mono (by omega)⟩)).mono ?_
       rintro e w21 ⟨a_41, n_42, c_43, l_44, rfl, hd45, hu46, hb⟩
       replace M := adM hd45 hb M
       clear hb hd45
       replace hu46 := Lib.hid hu46
       have HZl_44 : Hid (FzL l_44 3) := (HZ3.out.fzs.all).fzl hu46.out
       have hn_l_44 : n_42 ≤ 1000000 := by have h_ := all_len hu46.out; rw [((M.out.1)).len, HC0.out.len] at h_; omega
       go_wp2_with fail
       refine (reSame (G := G) (l := l_38) (m := l_44) (b_ := true) (M.out.2.1) (M.out.1) (by omega) (by omega) (fun x_ hx_ => ⟨(HZl_38.out x_ hx_).1.mono (by omega), (HZl_38.out x_ hx_).2.mono (by omega)⟩) (fun x_ hx_ => ⟨(HZl_44.out x_ hx_).1.mono (by omega), (HZl_44.out x_ hx_).2.mono (by omega)⟩) (decide_eq_true (by rw [hu40.out, hu46.out]))).mono ?_
       rintro e w22 ⟨rfl, hb⟩
       replace M := gnM hb M
       clear hb
       refine cj10 (M.out.2.2.2.2.2.2.2.2.2.1).d10 fun p1_0 p1_1 p1_2 p1_3 p1_4 p1_5 p1_6 p1_7 p1_8 p1_9 => ?_
       have z1 : w7.heap.size < w22.heap.size := (M.out.2.2.2.2.2.2.2.2.2.1).lt
       refine cj10 (M.out.2.2.2.2.2.2.2.1).d10 fun p3_0 p3_1 p3_2 p3_3 p3_4 p3_5 p3_6 p3_7 p3_8 p3_9 => ?_
       have z3 : w11.heap.size < w22.heap.size := (M.out.2.2.2.2.2.2.2.1).lt
       refine cj10 (M.out.2.2.2.2.2.2.2.2.1).d10 fun p2_0 p2_1 p2_2 p2_3 p2_4 p2_5 p2_6 p2_7 p2_8 p2_9 => ?_
       have z2 : w9.heap.size < w22.heap.size := (M.out.2.2.2.2.2.2.2.2.1).lt
       refine cj10 (M.out.2.2.2.2.2.2.1).d10 fun p4_0 p4_1 p4_2 p4_3 p4_4 p4_5 p4_6 p4_7 p4_8 p4_9 => ?_
       have z4 : w13.heap.size < w22.heap.size := (M.out.2.2.2.2.2.2.1).lt
       go_wp2_with fail
       clear p1_0 p1_1 p1_2 p1_3 p1_4 p1_5 p1_6 p1_7 p1_8 p1_9 z1 p3_0 p3_1 p3_2 p3_3 p3_4 p3_5 p3_6 p3_7 p3_8 p3_9 z3 p2_0 p2_1 p2_2 p2_3 p2_4 p2_5 p2_6 p2_7 p2_8 p2_9 z2 p4_0 p4_1 p4_2 p4_3 p4_4 p4_5 p4_6 p4_7 p4_8 p4_9 z4
       refine nmW ((w22.alloc (.cells #[.string (⟨#[]⟩), .int .i64 0, .int .i64 0, .slice none 0 0, .int .i64 0, .slice none 0 0, .int .i64 0, .slice none 0 0, .int .i64 0, .slice none 0 0, .string (⟨#[]⟩), .int .i64 0, .int .i64 0, .slice none 0 0, .int .i64 0, .slice none 0 0, .int .i64 0, .slice none 0 0, .int .i64 0, .slice none 0 0] 37)).alloc (.cells #[.string (⟨#[]⟩), .int .i64 0, .int .i64 0, .slice none 0 0, .int .i64 0, .slice none 0 0, .int .i64 0, .slice none 0 0, .int .i64 0, .slice none 0 0, .string (⟨#[]⟩), .int .i64 0, .int .i64 0, .slice none 0 0, .int .i64 0, .slice none 0 0, .int .i64 0, .slice none 0 0, .int .i64 0, .slice none 0 0] 37)) fun w23 hv => ?_
       rw [← hv]
       have ow5_ : w13.heap.size < w22.heap.size := ((M.out.2.2.2.2.2.2.1)).lt
       have hbx := bx2 w22 37 37 #[.string (⟨#[]⟩), .int .i64 0, .int .i64 0, .slice none 0 0, .int .i64 0, .slice none 0 0, .int .i64 0, .slice none 0 0, .int .i64 0, .slice none 0 0, .string (⟨#[]⟩), .int .i64 0, .int .i64 0, .slice none 0 0, .int .i64 0, .slice none 0 0, .int .i64 0, .slice none 0 0, .int .i64 0, .slice none 0 0] #[.string (⟨#[]⟩), .int .i64 0, .int .i64 0, .slice none 0 0, .int .i64 0, .slice none 0 0, .int .i64 0, .slice none 0 0, .int .i64 0, .slice none 0 0, .string (⟨#[]⟩), .int .i64 0, .int .i64 0, .slice none 0 0, .int .i64 0, .slice none 0 0, .int .i64 0, .slice none 0 0, .int .i64 0, .slice none 0 0]
       rw [← hv] at hbx
       have hbn : Below w22.heap.size w22 w23 := by rw [hv]; exact (Below.alloc (Below.alloc (Below.refl _ _) (by simp <;> omega) _) (by simp <;> omega) _)
       replace M := Lib.hid (And.intro hbx.2 (And.intro hbx.1 (Goes.go M.out hbn)))
       clear hbx hbn
       clear hv
       replace M := Lib.hid (And.intro (M.out.1) (And.intro (M.out.2.1) (And.intro (M.out.2.2.1) (And.intro (M.out.2.2.2.1) (And.intro (M.out.2.2.2.2.1) (And.intro (M.out.2.2.2.2.2.1) (And.intro (M.out.2.2.2.2.2.2.1) (And.intro (M.out.2.2.2.2.2.2.2.1) (M.out.2.2.2.2.2.2.2.2.2.2.2.2.2)))))))))
       obtain ⟨ll47, h_⟩ : ∃ l_ : List SQ, l_ = [zeroE, zeroE] := ⟨_, rfl⟩
       have Ell47 := Lib.hid h_; clear h_
       obtain ⟨ll48, h_⟩ : ∃ l_ : List SQ, l_ = [zeroE, zeroE] := ⟨_, rfl⟩
       have Ell48 := Lib.hid h_; clear h_
       refine (reSame_o (G := G) (l := ll47) (m := ll48) (b_ := true) (by rw [Ell47.out]; exact RdL.of (OwB.new (α := SQ) (M.out.2.1) rfl hG (show w.heap.size ≤ _ by omega) (oq_pair (x := zeroE) (y := zeroE) zeroE_ok zeroE_ok)).rd rfl (by omega)) (by rw [Ell48.out]; exact RdL.of (OwB.new (α := SQ) (M.out.1) rfl hG (show w.heap.size ≤ _ by omega) (oq_pair (x := zeroE) (y := zeroE) zeroE_ok zeroE_ok)).rd rfl (by omega)) (by decide) (by decide) (by rw [Ell47.out]; exact oz_pair ⟨Oz.none_, Oz.none_⟩ ⟨Oz.none_, Oz.none_⟩) (by rw [Ell48.out]; exact oz_pair ⟨Oz.none_, Oz.none_⟩ ⟨Oz.none_, Oz.none_⟩) (decide_eq_true (by rw [Ell47.out, Ell48.out] <;> rfl))).mono ?_
       rintro e w24 ⟨rfl, hb⟩
       replace M := gnM hb M
       clear hb
       go_wp2_with fail
       refine (reSamePt (G := G) (l := l_14) (m := l_26) (b_ := true) (M.out.2.2.2.2.2.2.1) (M.out.2.2.2.2.1) (by omega) (by omega) (fun x_ hx_ => (HZl_14.out x_ hx_).mono (by omega)) (fun x_ hx_ => (HZl_26.out x_ hx_).mono (by omega)) (decide_eq_true (by rw [hu21.out, hu33.out]))).mono ?_
       rintro e w25 ⟨rfl, hb⟩
       replace M := gnM hb M
       clear hb
       go_wp2_with fail
       refine (reSamePt (G := G) (l := l_18) (m := l_30) (b_ := true) (M.out.2.2.2.2.2.2.2.1) (M.out.2.2.2.2.2.1) (by omega) (by omega) (fun x_ hx_ => (HZl_18.out x_ hx_).mono (by omega)) (fun x_ hx_ => (HZl_30.out x_ hx_).mono (by omega)) (decide_eq_true (by rw [hu22.out, hu34.out]))).mono ?_
       rintro e w26 ⟨rfl, hb⟩
       replace M := gnM hb M
       clear hb
       go_wp2_with fail
       go_ret
       exact ⟨rfl, (M.out.2.2.2.2.2.2.2.2)⟩
      ·
       have HA1 := Lib.hid ha1; have HA2 := Lib.hid ha2
       have hz_ := HZ3.out.fzs _ (lastK_mem ha2).1
       have HZz1 : Hid (Fz zq 3) := hz_.1; have HZz2 : Hid (Fz zr 3) := hz_.2; clear hz_
       clear ha1 ha2
       refine cj8 (M.out.1).d8 fun p0_0 p0_1 p0_2 p0_3 p0_4 p0_5 p0_6 p0_7 => ?_
       go_wp2_with fail
       clear p0_0 p0_1 p0_2 p0_3 p0_4 p0_5 p0_6 p0_7
       refine (reShow_x (G := G) (key := key) (note := note) (o1 := o1) (o2 := o2) (l := l) (Nat.le_trans hG (M.out.2).size) (HC0.out.keep (M.out.2)) HOK.out (fun x_ hx_ => ⟨(HZ3.out x_ hx_).1.mono (by omega), (HZ3.out x_ hx_).2.mono (by omega)⟩) (H1.out.keep (M.out.2)) (H2.out.keep (M.out.2)) HF1.out HF2.out HB.out).mono ?_
       rintro e w5 ⟨rfl, hb⟩
       replace M := gnM hb M
       clear hb
       refine cj8 (M.out.1).d8 fun p0_0 p0_1 p0_2 p0_3 p0_4 p0_5 p0_6 p0_7 => ?_
       go_wp2_with fail
       clear p0_0 p0_1 p0_2 p0_3 p0_4 p0_5 p0_6 p0_7
       refine (rShow_x (G := G) (key := key) (note := note) (o1 := o1) (o2 := o2) (ls := ls) (Nat.le_trans hG (M.out.2).size) (HR0.out.keep (M.out.2)) (by omega) HSM.out Hrt.out (H1.out.keep (M.out.2)) (H2.out.keep (M.out.2)) HF1.out HF2.out (by omega) HB.out).mono ?_
       rintro e w6 ⟨rfl, hb⟩
       replace M := gnM hb M
       clear hb
       go_wp2_with fail
       refine (reAt_none (G := G) (key := key) (nt := note) (l := l) (Nat.le_trans hG (M.out.2).size) (HC0.out.keep (M.out.2)) HOK.out (fun x_ hx_ => ⟨(HZ3.out x_ hx_).1.mono (by omega), (HZ3.out x_ hx_).2.mono (by omega)⟩) HA1.out).mono ?_
       rintro e w7 ⟨rfl, hb⟩
       replace M := gnM hb M
       clear hb
       go_upto_region 7 with fail
       refine nmW (w7.alloc (.cells #[.string (⟨#[]⟩), .int .i64 0, .int .i64 0, .slice none 0 0, .int .i64 0, .slice none 0 0, .int .i64 0, .slice none 0 0, .int .i64 0, .slice none 0 0] 37)) fun w8 hv => ?_
       rw [← hv]
       have ow1_ : w.heap.size < w7.heap.size := ((M.out.1)).lt
       replace M := alM hv M
       clear hv
       go_wp2_with fail
       refine (rAt_none (G := G) (key := key) (nt := note) (l := l) (ls := ls) (Nat.le_trans hG (M.out.2.2).size) (HC0.out.keep (M.out.2.2)) (HR0.out.keep (M.out.2.2)) HSM.out Hrt.out HOK.out (fun x_ hx_ => ⟨(HZ3.out x_ hx_).1.mono (by omega), (HZ3.out x_ hx_).2.mono (by omega)⟩) HA1.out).mono ?_
       rintro e w9 ⟨rfl, hb⟩
       replace M := gnM hb M
       clear hb
       go_upto_region 8 with fail
       refine nmW (w9.alloc (.cells #[.string (⟨#[]⟩), .int .i64 0, .int .i64 0, .slice none 0 0, .int .i64 0, .slice none 0 0, .int .i64 0, .slice none 0 0, .int .i64 0, .slice none 0 0] 37)) fun w10 hv => ?_
       rw [← hv]
       have ow2_ : w7.heap.size < w9.heap.size := ((M.out.1)).lt
       replace M := alM hv M
       clear hv
       go_wp2_with fail
       refine (reLast_some (G := G) (key := key) (yk := zk) (yn := zn) (yq := zq) (yr := zr) (l := l) (Nat.le_trans hG (M.out.2.2.2).size) (HC0.out.keep (M.out.2.2.2)) HOK.out (fun x_ hx_ => ⟨(HZ3.out x_ hx_).1.mono (by omega), (HZ3.out x_ hx_).2.mono (by omega)⟩) HA2.out).mono ?_
       rintro e w11 ⟨x_49, x_50, x_51, x_52, x_53, x_54, x_55, x_56, rfl, hd57, hd58, hb⟩
       replace M := ad2M hd57 hd58 hb M
       clear hb hd57 hd58
       refine cj4 (TQ.st (M.out.1)) fun st_x_49 st_x_50 st_x_51 st_x_52 => ?_
       refine cj4 (TQ.st (M.out.2.1)) fun st_x_53 st_x_54 st_x_55 st_x_56 => ?_
       go_upto_region 9 with fail
       clear st_x_49 st_x_50 st_x_51 st_x_52 st_x_53 st_x_54 st_x_55 st_x_56
       refine nmW (w11.alloc (.cells #[.string zk, .int .i64 zn, x_49, x_50, x_51, x_52, x_53, x_54, x_55, x_56] 37)) fun w12 hv => ?_
       rw [← hv]
       have ow3_ : w9.heap.size < w11.heap.size := ((M.out.2.2.1)).lt
       replace M := alM hv M
       clear hv
       go_wp2_with fail
       refine (rLast_some (G := G) (key := key) (yk := zk) (yn := zn) (yq := zq) (yr := zr) (l := l) (ls := ls) (Nat.le_trans hG (M.out.2.2.2.2.2.2).size) (HC0.out.keep (M.out.2.2.2.2.2.2)) (HR0.out.keep (M.out.2.2.2.2.2.2)) HSM.out Hrt.out HOK.out (fun x_ hx_ => ⟨(HZ3.out x_ hx_).1.mono (by omega), (HZ3.out x_ hx_).2.mono (by omega)⟩) HA2.out).mono ?_
       rintro e w13 ⟨x_59, x_60, x_61, x_62, x_63, x_64, x_65, x_66, rfl, hd67, hd68, hb⟩
       replace M := ad2M hd67 hd68 hb M
       clear hb hd67 hd68
       refine cj4 (TQ.st (M.out.1)) fun st_x_59 st_x_60 st_x_61 st_x_62 => ?_
       refine cj4 (TQ.st (M.out.2.1)) fun st_x_63 st_x_64 st_x_65 st_x_66 => ?_
       go_upto_region 10 with fail
       clear st_x_59 st_x_60 st_x_61 st_x_62 st_x_63 st_x_64 st_x_65 st_x_66
       refine nmW (w13.alloc (.cells #[.string zk, .int .i64 zn, x_59, x_60, x_61, x_62, x_63, x_64, x_65, x_66] 37)) fun w14 hv => ?_
       rw [← hv]
       have ow4_ : w11.heap.size < w13.heap.size := ((M.out.2.2.1)).lt
       replace M := alM hv M
       clear hv
       go_wp2_with fail
       refine (reDeltas_c (G := G) (key := key) (l := l) (Nat.le_trans hG (M.out.2.2.2.2.2.2.2.2.2).size) (HC0.out.keep (M.out.2.2.2.2.2.2.2.2.2)) HOK.out (fun x_ hx_ => ⟨(HZ3.out x_ hx_).1.mono (by omega), (HZ3.out x_ hx_).2.mono (by omega)⟩)).mono ?_
       rintro e w15 ⟨a_69, n_70, c_71, l_72, a_73, n_74, c_75, l_76, rfl, hd77, hd78, hu79, hu80, hb⟩
       replace M := ad2M hd77 hd78 hb M
       clear hb hd77 hd78
       replace hu79 := Lib.hid hu79
       replace hu80 := Lib.hid hu80
       have HZl_72 : Hid (FzQ l_72 201) := FzQ.of_map hu79.out (fun q_ hq_ => ((HZ3.out.fzs.all.dif_lo q_ hq_).mono (by omega)))
       have hn_l_72 : n_70 ≤ 1000000 := by have h_ := congrArg List.length hu79.out; rw [List.length_map, dif_len, ((M.out.1)).len] at h_; have h2_ : (allF (l.map SC.sh) key).length ≤ (l.map SC.sh).length := List.length_filter_le _ _; rw [List.length_map, HC0.out.len] at h2_; omega
       have HZl_76 : Hid (FzQ l_76 201) := FzQ.of_map hu80.out (fun q_ hq_ => ((HZ3.out.fzs.all.dif_hi q_ hq_).mono (by omega)))
       have hn_l_76 : n_74 ≤ 1000000 := by have h_ := congrArg List.length hu80.out; rw [List.length_map, dif_len, ((M.out.2.1)).len] at h_; have h2_ : (allF (l.map SC.sh) key).length ≤ (l.map SC.sh).length := List.length_filter_le _ _; rw [List.length_map, HC0.out.len] at h2_; omega
       go_wp2_with fail
       refine (rDeltas_c (G := G) (key := key) (l := l) (ls := ls) (Nat.le_trans hG (M.out.2.2.2.2.2.2.2.2.2.2.2).size) (HC0.out.keep (M.out.2.2.2.2.2.2.2.2.2.2.2)) (HR0.out.keep (M.out.2.2.2.2.2.2.2.2.2.2.2)) HSM.out Hrt.out HOK.out (fun x_ hx_ => ⟨(HZ3.out x_ hx_).1.mono (by omega), (HZ3.out x_ hx_).2.mono (by omega)⟩)).mono ?_
       rintro e w16 ⟨a_81, n_82, c_83, l_84, a_85, n_86, c_87, l_88, rfl, hd89, hd90, hu91, hu92, hb⟩
       replace M := ad2M hd89 hd90 hb M
       clear hb hd89 hd90
       replace hu91 := Lib.hid hu91
       replace hu92 := Lib.hid hu92
       have HZl_84 : Hid (FzQ l_84 201) := FzQ.of_map hu91.out (fun q_ hq_ => ((HZ3.out.fzs.all.dif_lo q_ hq_).mono (by omega)))
       have hn_l_84 : n_82 ≤ 1000000 := by have h_ := congrArg List.length hu91.out; rw [List.length_map, dif_len, ((M.out.1)).len] at h_; have h2_ : (allF (l.map SC.sh) key).length ≤ (l.map SC.sh).length := List.length_filter_le _ _; rw [List.length_map, HC0.out.len] at h2_; omega
       have HZl_88 : Hid (FzQ l_88 201) := FzQ.of_map hu92.out (fun q_ hq_ => ((HZ3.out.fzs.all.dif_hi q_ hq_).mono (by omega)))
       have hn_l_88 : n_86 ≤ 1000000 := by have h_ := congrArg List.length hu92.out; rw [List.length_map, dif_len, ((M.out.2.1)).len] at h_; have h2_ : (allF (l.map SC.sh) key).length ≤ (l.map SC.sh).length := List.length_filter_le _ _; rw [List.length_map, HC0.out.len] at h2_; omega
       go_wp2_with fail
       refine (reRight_g (G := G) (l := ls) (b_ := true) (Nat.le_trans hG (M.out.2.2.2.2.2.2.2.2.2.2.2.2.2).size) (HR0.out.keep (M.out.2.2.2.2.2.2.2.2.2.2.2.2.2)) (by omega) HSM.out Hrt.out).mono ?_
       rintro e w17 ⟨rfl, hb⟩
       replace M := gnM hb M
       clear hb
       go_wp2_with fail
       refine (rRight_g (G := G) (l := ls) (b_ := true) (Nat.le_trans hG (M.out.2.2.2.2.2.2.2.2.2.2.2.2.2).size) (HR0.out.keep (M.out.2.2.2.2.2.2.2.2.2.2.2.2.2)) (by omega) HSM.out Hrt.out).mono ?_
       rintro e w18 ⟨rfl, hb⟩
       replace M := gnM hb M
       clear hb
       go_wp2_with fail
       refine (reSame (G := G) (l := nilSC) (m := nilSC) (b_ := true) (RdL.nil _ _ _) (RdL.nil _ _ _) (by decide) (by decide) (fun x_ hx_ => by cases hx_) (fun x_ hx_ => by cases hx_) (decide_eq_true rfl)).mono ?_
       rintro e w19 ⟨rfl, hb⟩
       replace M := gnM hb M
       clear hb
       go_wp2_with fail
       refine (reAll (G := G) (key := key) (l := l) (Nat.le_trans hG (M.out.2.2.2.2.2.2.2.2.2.2.2.2.2).size) (HC0.out.keep (M.out.2.2.2.2.2.2.2.2.2.2.2.2.2)) HOK.out (fun x_ hx_ => ⟨(HZ3.out x_ hx_).1.mono (by omega), (HZ3.out x_ hx_).2.mono (by omega)⟩)).mono ?_
       rintro e w20 ⟨a_93, n_94, c_95, l_96, rfl, hd97, hu98, hb⟩
       replace M := adM hd97 hb M
       clear hb hd97
       replace hu98 := Lib.hid hu98
       have HZl_96 : Hid (FzL l_96 3) := (HZ3.out.fzs.all).fzl hu98.out
       have hn_l_96 : n_94 ≤ 1000000 := by have h_ := all_len hu98.out; rw [((M.out.1)).len, HC0.out.len] at h_; omega
       go_wp2_with fail
       refine (rAll (G := G) (key := key) (l := l) (ls := ls) (Nat.le_trans hG (M.out.2.2.2.2.2.2.2.2.2.2.2.2.2.2).size) (HC0.out.keep (M.out.2.2.2.2.2.2.2.2.2.2.2.2.2.2)) (HR0.out.keep (M.out.2.2.2.2.2.2.2.2.2.2.2.2.2.2)) HSM.out Hrt.out HOK.out (fun x_ hx_ => ⟨(HZ3.out x_ hx_).1.mono (by omega), (HZ3.out x_ hx_).2.mono (by omega)⟩)).mono ?_
       rintro e w21 ⟨a_99, n_100, c_101, l_102, rfl, hd103, hu104, hb⟩
       replace M := adM hd103 hb M
       clear hb hd103
       replace hu104 := Lib.hid hu104
       have HZl_102 : Hid (FzL l_102 3) := (HZ3.out.fzs.all).fzl hu104.out
       have hn_l_102 : n_100 ≤ 1000000 := by have h_ := all_len hu104.out; rw [((M.out.1)).len, HC0.out.len] at h_; omega
       go_wp2_with fail
       refine (reSame (G := G) (l := l_96) (m := l_102) (b_ := true) (M.out.2.1) (M.out.1) (by omega) (by omega) (fun x_ hx_ => ⟨(HZl_96.out x_ hx_).1.mono (by omega), (HZl_96.out x_ hx_).2.mono (by omega)⟩) (fun x_ hx_ => ⟨(HZl_102.out x_ hx_).1.mono (by omega), (HZl_102.out x_ hx_).2.mono (by omega)⟩) (decide_eq_true (by rw [hu98.out, hu104.out]))).mono ?_
       rintro e w22 ⟨rfl, hb⟩
       replace M := gnM hb M
       clear hb
       refine cj10 (M.out.2.2.2.2.2.2.2.2.2.2.2.2.2.1).d10 fun p1_0 p1_1 p1_2 p1_3 p1_4 p1_5 p1_6 p1_7 p1_8 p1_9 => ?_
       have z1 : w7.heap.size < w22.heap.size := (M.out.2.2.2.2.2.2.2.2.2.2.2.2.2.1).lt
       refine cj10 (M.out.2.2.2.2.2.2.2.2.2.1).d10 fun p3_0 p3_1 p3_2 p3_3 p3_4 p3_5 p3_6 p3_7 p3_8 p3_9 => ?_
       have z3 : w11.heap.size < w22.heap.size := (M.out.2.2.2.2.2.2.2.2.2.1).lt
       refine cj10 (M.out.2.2.2.2.2.2.2.2.2.2.2.2.1).d10 fun p2_0 p2_1 p2_2 p2_3 p2_4 p2_5 p2_6 p2_7 p2_8 p2_9 => ?_
       have z2 : w9.heap.size < w22.heap.size := (M.out.2.2.2.2.2.2.2.2.2.2.2.2.1).lt
       refine cj10 (M.out.2.2.2.2.2.2.1).d10 fun p4_0 p4_1 p4_2 p4_3 p4_4 p4_5 p4_6 p4_7 p4_8 p4_9 => ?_
       have z4 : w13.heap.size < w22.heap.size := (M.out.2.2.2.2.2.2.1).lt
       go_wp2_with fail
       clear p1_0 p1_1 p1_2 p1_3 p1_4 p1_5 p1_6 p1_7 p1_8 p1_9 z1 p3_0 p3_1 p3_2 p3_3 p3_4 p3_5 p3_6 p3_7 p3_8 p3_9 z3 p2_0 p2_1 p2_2 p2_3 p2_4 p2_5 p2_6 p2_7 p2_8 p2_9 z2 p4_0 p4_1 p4_2 p4_3 p4_4 p4_5 p4_6 p4_7 p4_8 p4_9 z4
       refine nmW ((w22.alloc (.cells #[.string (⟨#[]⟩), .int .i64 0, .int .i64 0, .slice none 0 0, .int .i64 0, .slice none 0 0, .int .i64 0, .slice none 0 0, .int .i64 0, .slice none 0 0, .string zk, .int .i64 zn, x_49, x_50, x_51, x_52, x_53, x_54, x_55, x_56] 37)).alloc (.cells #[.string (⟨#[]⟩), .int .i64 0, .int .i64 0, .slice none 0 0, .int .i64 0, .slice none 0 0, .int .i64 0, .slice none 0 0, .int .i64 0, .slice none 0 0, .string zk, .int .i64 zn, x_59, x_60, x_61, x_62, x_63, x_64, x_65, x_66] 37)) fun w23 hv => ?_
       rw [← hv]
       have ow5_ : w13.heap.size < w22.heap.size := ((M.out.2.2.2.2.2.2.1)).lt
       have hbx := bx2 w22 37 37 #[.string (⟨#[]⟩), .int .i64 0, .int .i64 0, .slice none 0 0, .int .i64 0, .slice none 0 0, .int .i64 0, .slice none 0 0, .int .i64 0, .slice none 0 0, .string zk, .int .i64 zn, x_49, x_50, x_51, x_52, x_53, x_54, x_55, x_56] #[.string (⟨#[]⟩), .int .i64 0, .int .i64 0, .slice none 0 0, .int .i64 0, .slice none 0 0, .int .i64 0, .slice none 0 0, .int .i64 0, .slice none 0 0, .string zk, .int .i64 zn, x_59, x_60, x_61, x_62, x_63, x_64, x_65, x_66]
       rw [← hv] at hbx
       have hbn : Below w22.heap.size w22 w23 := by rw [hv]; exact (Below.alloc (Below.alloc (Below.refl _ _) (by simp <;> omega) _) (by simp <;> omega) _)
       replace M := Lib.hid (And.intro hbx.2 (And.intro hbx.1 (Goes.go M.out hbn)))
       clear hbx hbn
       clear hv
       replace M := Lib.hid (And.intro (M.out.1) (And.intro (M.out.2.1) (And.intro (M.out.2.2.1) (And.intro (M.out.2.2.2.1) (And.intro (M.out.2.2.2.2.1) (And.intro (M.out.2.2.2.2.2.1) (And.intro (M.out.2.2.2.2.2.2.1) (And.intro (M.out.2.2.2.2.2.2.2.1) (And.intro (M.out.2.2.2.2.2.2.2.2.2.1) (And.intro (M.out.2.2.2.2.2.2.2.2.2.2.1) (And.intro (M.out.2.2.2.2.2.2.2.2.2.2.2.2.1) (And.intro (M.out.2.2.2.2.2.2.2.2.2.2.2.2.2.1) (M.out.2.2.2.2.2.2.2.2.2.2.2.2.2.2.2.2.2)))))))))))))
       obtain ⟨ll105, h_⟩ : ∃ l_ : List SQ, l_ = [zeroE, ⟨zk, zn, x_49, x_50, x_51, x_52, some zq, x_53, x_54, x_55, x_56, some zr⟩] := ⟨_, rfl⟩
       have Ell105 := Lib.hid h_; clear h_
       obtain ⟨ll106, h_⟩ : ∃ l_ : List SQ, l_ = [zeroE, ⟨zk, zn, x_59, x_60, x_61, x_62, some zq, x_63, x_64, x_65, x_66, some zr⟩] := ⟨_, rfl⟩
       have Ell106 := Lib.hid h_; clear h_
       refine (reSame_o (G := G) (l := ll105) (m := ll106) (b_ := true) (by rw [Ell105.out]; exact RdL.of (OwB.new (α := SQ) (M.out.2.1) rfl hG (show w.heap.size ≤ _ by omega) (oq_pair (x := zeroE) (y := ⟨zk, zn, x_49, x_50, x_51, x_52, some zq, x_53, x_54, x_55, x_56, some zr⟩) zeroE_ok ⟨(M.out.2.2.2.2.2.2.2.2.2.2.1), (M.out.2.2.2.2.2.2.2.2.2.2.2.1)⟩)).rd rfl (by omega)) (by rw [Ell106.out]; exact RdL.of (OwB.new (α := SQ) (M.out.1) rfl hG (show w.heap.size ≤ _ by omega) (oq_pair (x := zeroE) (y := ⟨zk, zn, x_59, x_60, x_61, x_62, some zq, x_63, x_64, x_65, x_66, some zr⟩) zeroE_ok ⟨(M.out.2.2.2.2.2.2.2.2.1), (M.out.2.2.2.2.2.2.2.2.2.1)⟩)).rd rfl (by omega)) (by decide) (by decide) (by rw [Ell105.out]; exact oz_pair ⟨Oz.none_, Oz.none_⟩ ⟨(Oz.some_ HZz1.out).mono (by omega), (Oz.some_ HZz2.out).mono (by omega)⟩) (by rw [Ell106.out]; exact oz_pair ⟨Oz.none_, Oz.none_⟩ ⟨(Oz.some_ HZz1.out).mono (by omega), (Oz.some_ HZz2.out).mono (by omega)⟩) (decide_eq_true (by rw [Ell105.out, Ell106.out] <;> rfl))).mono ?_
       rintro e w24 ⟨rfl, hb⟩
       replace M := gnM hb M
       clear hb
       go_wp2_with fail
       replace M := Lib.hid (And.intro (M.out.2.2.1) (And.intro (M.out.2.2.2.1) (And.intro (M.out.2.2.2.2.1) (And.intro (M.out.2.2.2.2.2.1) (And.intro (M.out.2.2.2.2.2.2.1) (And.intro (M.out.2.2.2.2.2.2.2.1) (M.out.2.2.2.2.2.2.2.2.2.2.2.2)))))))
       refine (reSamePt (G := G) (l := l_72) (m := l_84) (b_ := true) (M.out.2.2.2.2.1) (M.out.2.2.1) (by omega) (by omega) (fun x_ hx_ => (HZl_72.out x_ hx_).mono (by omega)) (fun x_ hx_ => (HZl_84.out x_ hx_).mono (by omega)) (decide_eq_true (by rw [hu79.out, hu91.out]))).mono ?_
       rintro e w25 ⟨rfl, hb⟩
       replace M := gnM hb M
       clear hb
       go_wp2_with fail
       refine (reSamePt (G := G) (l := l_76) (m := l_88) (b_ := true) (M.out.2.2.2.2.2.1) (M.out.2.2.2.1) (by omega) (by omega) (fun x_ hx_ => (HZl_76.out x_ hx_).mono (by omega)) (fun x_ hx_ => (HZl_88.out x_ hx_).mono (by omega)) (decide_eq_true (by rw [hu80.out, hu92.out]))).mono ?_
       rintro e w26 ⟨rfl, hb⟩
       replace M := gnM hb M
       clear hb
       go_wp2_with fail
       go_ret
       exact ⟨rfl, (M.out.2.2.2.2.2.2)⟩
      ·
       have HA1 := Lib.hid ha1; have HA2 := Lib.hid ha2
       have hz_ := HZ3.out.fzs _ (lastK_mem ha2).1
       have HZz1 : Hid (Fz zq 3) := hz_.1; have HZz2 : Hid (Fz zr 3) := hz_.2; clear hz_
       have hz_ := HZ3.out.fzs.all _ (atF_mem ha1)
       have HZy1 : Hid (Fz yq 3) := hz_.1; have HZy2 : Hid (Fz yr 3) := hz_.2; clear hz_ ha1 ha2
       refine cj8 (M.out.1).d8 fun p0_0 p0_1 p0_2 p0_3 p0_4 p0_5 p0_6 p0_7 => ?_
       go_wp2_with fail
       clear p0_0 p0_1 p0_2 p0_3 p0_4 p0_5 p0_6 p0_7
       refine (reShow_x (G := G) (key := key) (note := note) (o1 := o1) (o2 := o2) (l := l) (Nat.le_trans hG (M.out.2).size) (HC0.out.keep (M.out.2)) HOK.out (fun x_ hx_ => ⟨(HZ3.out x_ hx_).1.mono (by omega), (HZ3.out x_ hx_).2.mono (by omega)⟩) (H1.out.keep (M.out.2)) (H2.out.keep (M.out.2)) HF1.out HF2.out HB.out).mono ?_
       rintro e w5 ⟨rfl, hb⟩
       replace M := gnM hb M
       clear hb
       refine cj8 (M.out.1).d8 fun p0_0 p0_1 p0_2 p0_3 p0_4 p0_5 p0_6 p0_7 => ?_
       go_wp2_with fail
       clear p0_0 p0_1 p0_2 p0_3 p0_4 p0_5 p0_6 p0_7
       refine (rShow_x (G := G) (key := key) (note := note) (o1 := o1) (o2 := o2) (ls := ls) (Nat.le_trans hG (M.out.2).size) (HR0.out.keep (M.out.2)) (by omega) HSM.out Hrt.out (H1.out.keep (M.out.2)) (H2.out.keep (M.out.2)) HF1.out HF2.out (by omega) HB.out).mono ?_
       rintro e w6 ⟨rfl, hb⟩
       replace M := gnM hb M
       clear hb
       go_wp2_with fail
       refine (reAt_some (G := G) (key := key) (yk := yk) (nt := note) (yn := yn) (yq := yq) (yr := yr) (l := l) (Nat.le_trans hG (M.out.2).size) (HC0.out.keep (M.out.2)) HOK.out (fun x_ hx_ => ⟨(HZ3.out x_ hx_).1.mono (by omega), (HZ3.out x_ hx_).2.mono (by omega)⟩) HA1.out).mono ?_
       rintro e w7 ⟨x_107, x_108, x_109, x_110, x_111, x_112, x_113, x_114, rfl, hd115, hd116, hb⟩
       replace M := ad2M hd115 hd116 hb M
       clear hb hd115 hd116
       refine cj4 (TQ.st (M.out.1)) fun st_x_107 st_x_108 st_x_109 st_x_110 => ?_
       refine cj4 (TQ.st (M.out.2.1)) fun st_x_111 st_x_112 st_x_113 st_x_114 => ?_
       go_upto_region 7 with fail
       clear st_x_107 st_x_108 st_x_109 st_x_110 st_x_111 st_x_112 st_x_113 st_x_114
       refine nmW (w7.alloc (.cells #[.string yk, .int .i64 yn, x_107, x_108, x_109, x_110, x_111, x_112, x_113, x_114] 37)) fun w8 hv => ?_
       rw [← hv]
       have ow1_ : w.heap.size < w7.heap.size := ((M.out.2.2.1)).lt
       replace M := alM hv M
       clear hv
       go_wp2_with fail
       refine (rAt_some (G := G) (key := key) (yk := yk) (nt := note) (yn := yn) (yq := yq) (yr := yr) (l := l) (ls := ls) (Nat.le_trans hG (M.out.2.2.2.2).size) (HC0.out.keep (M.out.2.2.2.2)) (HR0.out.keep (M.out.2.2.2.2)) HSM.out Hrt.out HOK.out (fun x_ hx_ => ⟨(HZ3.out x_ hx_).1.mono (by omega), (HZ3.out x_ hx_).2.mono (by omega)⟩) HA1.out).mono ?_
       rintro e w9 ⟨x_117, x_118, x_119, x_120, x_121, x_122, x_123, x_124, rfl, hd125, hd126, hb⟩
       replace M := ad2M hd125 hd126 hb M
       clear hb hd125 hd126
       refine cj4 (TQ.st (M.out.1)) fun st_x_117 st_x_118 st_x_119 st_x_120 => ?_
       refine cj4 (TQ.st (M.out.2.1)) fun st_x_121 st_x_122 st_x_123 st_x_124 => ?_
       go_upto_region 8 with fail
       clear st_x_117 st_x_118 st_x_119 st_x_120 st_x_121 st_x_122 st_x_123 st_x_124
       refine nmW (w9.alloc (.cells #[.string yk, .int .i64 yn, x_117, x_118, x_119, x_120, x_121, x_122, x_123, x_124] 37)) fun w10 hv => ?_
       rw [← hv]
       have ow2_ : w7.heap.size < w9.heap.size := ((M.out.2.2.1)).lt
       replace M := alM hv M
       clear hv
       go_wp2_with fail
       refine (reLast_some (G := G) (key := key) (yk := zk) (yn := zn) (yq := zq) (yr := zr) (l := l) (Nat.le_trans hG (M.out.2.2.2.2.2.2.2).size) (HC0.out.keep (M.out.2.2.2.2.2.2.2)) HOK.out (fun x_ hx_ => ⟨(HZ3.out x_ hx_).1.mono (by omega), (HZ3.out x_ hx_).2.mono (by omega)⟩) HA2.out).mono ?_
       rintro e w11 ⟨x_127, x_128, x_129, x_130, x_131, x_132, x_133, x_134, rfl, hd135, hd136, hb⟩
       replace M := ad2M hd135 hd136 hb M
       clear hb hd135 hd136
       refine cj4 (TQ.st (M.out.1)) fun st_x_127 st_x_128 st_x_129 st_x_130 => ?_
       refine cj4 (TQ.st (M.out.2.1)) fun st_x_131 st_x_132 st_x_133 st_x_134 => ?_
       go_upto_region 9 with fail
       clear st_x_127 st_x_128 st_x_129 st_x_130 st_x_131 st_x_132 st_x_133 st_x_134
       refine nmW (w11.alloc (.cells #[.string zk, .int .i64 zn, x_127, x_128, x_129, x_130, x_131, x_132, x_133, x_134] 37)) fun w12 hv => ?_
       rw [← hv]
       have ow3_ : w9.heap.size < w11.heap.size := ((M.out.2.2.1)).lt
       replace M := alM hv M
       clear hv
       go_wp2_with fail
       refine (rLast_some (G := G) (key := key) (yk := zk) (yn := zn) (yq := zq) (yr := zr) (l := l) (ls := ls) (Nat.le_trans hG (M.out.2.2.2.2.2.2.2.2.2.2).size) (HC0.out.keep (M.out.2.2.2.2.2.2.2.2.2.2)) (HR0.out.keep (M.out.2.2.2.2.2.2.2.2.2.2)) HSM.out Hrt.out HOK.out (fun x_ hx_ => ⟨(HZ3.out x_ hx_).1.mono (by omega), (HZ3.out x_ hx_).2.mono (by omega)⟩) HA2.out).mono ?_
       rintro e w13 ⟨x_137, x_138, x_139, x_140, x_141, x_142, x_143, x_144, rfl, hd145, hd146, hb⟩
       replace M := ad2M hd145 hd146 hb M
       clear hb hd145 hd146
       refine cj4 (TQ.st (M.out.1)) fun st_x_137 st_x_138 st_x_139 st_x_140 => ?_
       refine cj4 (TQ.st (M.out.2.1)) fun st_x_141 st_x_142 st_x_143 st_x_144 => ?_
       go_upto_region 10 with fail
       clear st_x_137 st_x_138 st_x_139 st_x_140 st_x_141 st_x_142 st_x_143 st_x_144
       refine nmW (w13.alloc (.cells #[.string zk, .int .i64 zn, x_137, x_138, x_139, x_140, x_141, x_142, x_143, x_144] 37)) fun w14 hv => ?_
       rw [← hv]
       have ow4_ : w11.heap.size < w13.heap.size := ((M.out.2.2.1)).lt
       replace M := alM hv M
       clear hv
       go_wp2_with fail
       refine (reDeltas_c (G := G) (key := key) (l := l) (Nat.le_trans hG (M.out.2.2.2.2.2.2.2.2.2.2.2.2.2).size) (HC0.out.keep (M.out.2.2.2.2.2.2.2.2.2.2.2.2.2)) HOK.out (fun x_ hx_ => ⟨(HZ3.out x_ hx_).1.mono (by omega), (HZ3.out x_ hx_).2.mono (by omega)⟩)).mono ?_
       rintro e w15 ⟨a_147, n_148, c_149, l_150, a_151, n_152, c_153, l_154, rfl, hd155, hd156, hu157, hu158, hb⟩
       replace M := ad2M hd155 hd156 hb M
       clear hb hd155 hd156
       replace hu157 := Lib.hid hu157
       replace hu158 := Lib.hid hu158
       have HZl_150 : Hid (FzQ l_150 201) := FzQ.of_map hu157.out (fun q_ hq_ => ((HZ3.out.fzs.all.dif_lo q_ hq_).mono (by omega)))
       have hn_l_150 : n_148 ≤ 1000000 := by have h_ := congrArg List.length hu157.out; rw [List.length_map, dif_len, ((M.out.1)).len] at h_; have h2_ : (allF (l.map SC.sh) key).length ≤ (l.map SC.sh).length := List.length_filter_le _ _; rw [List.length_map, HC0.out.len] at h2_; omega
       have HZl_154 : Hid (FzQ l_154 201) := FzQ.of_map hu158.out (fun q_ hq_ => ((HZ3.out.fzs.all.dif_hi q_ hq_).mono (by omega)))
       have hn_l_154 : n_152 ≤ 1000000 := by have h_ := congrArg List.length hu158.out; rw [List.length_map, dif_len, ((M.out.2.1)).len] at h_; have h2_ : (allF (l.map SC.sh) key).length ≤ (l.map SC.sh).length := List.length_filter_le _ _; rw [List.length_map, HC0.out.len] at h2_; omega
       go_wp2_with fail
       refine (rDeltas_c (G := G) (key := key) (l := l) (ls := ls) (Nat.le_trans hG (M.out.2.2.2.2.2.2.2.2.2.2.2.2.2.2.2).size) (HC0.out.keep (M.out.2.2.2.2.2.2.2.2.2.2.2.2.2.2.2)) (HR0.out.keep (M.out.2.2.2.2.2.2.2.2.2.2.2.2.2.2.2)) HSM.out Hrt.out HOK.out (fun x_ hx_ => ⟨(HZ3.out x_ hx_).1.mono (by omega), (HZ3.out x_ hx_).2.mono (by omega)⟩)).mono ?_
       rintro e w16 ⟨a_159, n_160, c_161, l_162, a_163, n_164, c_165, l_166, rfl, hd167, hd168, hu169, hu170, hb⟩
       replace M := ad2M hd167 hd168 hb M
       clear hb hd167 hd168
       replace hu169 := Lib.hid hu169
       replace hu170 := Lib.hid hu170
       have HZl_162 : Hid (FzQ l_162 201) := FzQ.of_map hu169.out (fun q_ hq_ => ((HZ3.out.fzs.all.dif_lo q_ hq_).mono (by omega)))
       have hn_l_162 : n_160 ≤ 1000000 := by have h_ := congrArg List.length hu169.out; rw [List.length_map, dif_len, ((M.out.1)).len] at h_; have h2_ : (allF (l.map SC.sh) key).length ≤ (l.map SC.sh).length := List.length_filter_le _ _; rw [List.length_map, HC0.out.len] at h2_; omega
       have HZl_166 : Hid (FzQ l_166 201) := FzQ.of_map hu170.out (fun q_ hq_ => ((HZ3.out.fzs.all.dif_hi q_ hq_).mono (by omega)))
       have hn_l_166 : n_164 ≤ 1000000 := by have h_ := congrArg List.length hu170.out; rw [List.length_map, dif_len, ((M.out.2.1)).len] at h_; have h2_ : (allF (l.map SC.sh) key).length ≤ (l.map SC.sh).length := List.length_filter_le _ _; rw [List.length_map, HC0.out.len] at h2_; omega
       go_wp2_with fail
       refine (reRight_g (G := G) (l := ls) (b_ := true) (Nat.le_trans hG (M.out.2.2.2.2.2.2.2.2.2.2.2.2.2.2.2.2.2).size) (HR0.out.keep (M.out.2.2.2.2.2.2.2.2.2.2.2.2.2.2.2.2.2)) (by omega) HSM.out Hrt.out).mono ?_
       rintro e w17 ⟨rfl, hb⟩
       replace M := gnM hb M
       clear hb
       go_wp2_with fail
       refine (rRight_g (G := G) (l := ls) (b_ := true) (Nat.le_trans hG (M.out.2.2.2.2.2.2.2.2.2.2.2.2.2.2.2.2.2).size) (HR0.out.keep (M.out.2.2.2.2.2.2.2.2.2.2.2.2.2.2.2.2.2)) (by omega) HSM.out Hrt.out).mono ?_
       rintro e w18 ⟨rfl, hb⟩
       replace M := gnM hb M
       clear hb
       go_wp2_with fail
       refine (reSame (G := G) (l := nilSC) (m := nilSC) (b_ := true) (RdL.nil _ _ _) (RdL.nil _ _ _) (by decide) (by decide) (fun x_ hx_ => by cases hx_) (fun x_ hx_ => by cases hx_) (decide_eq_true rfl)).mono ?_
       rintro e w19 ⟨rfl, hb⟩
       replace M := gnM hb M
       clear hb
       go_wp2_with fail
       refine (reAll (G := G) (key := key) (l := l) (Nat.le_trans hG (M.out.2.2.2.2.2.2.2.2.2.2.2.2.2.2.2.2.2).size) (HC0.out.keep (M.out.2.2.2.2.2.2.2.2.2.2.2.2.2.2.2.2.2)) HOK.out (fun x_ hx_ => ⟨(HZ3.out x_ hx_).1.mono (by omega), (HZ3.out x_ hx_).2.mono (by omega)⟩)).mono ?_
       rintro e w20 ⟨a_171, n_172, c_173, l_174, rfl, hd175, hu176, hb⟩
       replace M := adM hd175 hb M
       clear hb hd175
       replace hu176 := Lib.hid hu176
       have HZl_174 : Hid (FzL l_174 3) := (HZ3.out.fzs.all).fzl hu176.out
       have hn_l_174 : n_172 ≤ 1000000 := by have h_ := all_len hu176.out; rw [((M.out.1)).len, HC0.out.len] at h_; omega
       go_wp2_with fail
       refine (rAll (G := G) (key := key) (l := l) (ls := ls) (Nat.le_trans hG (M.out.2.2.2.2.2.2.2.2.2.2.2.2.2.2.2.2.2.2).size) (HC0.out.keep (M.out.2.2.2.2.2.2.2.2.2.2.2.2.2.2.2.2.2.2)) (HR0.out.keep (M.out.2.2.2.2.2.2.2.2.2.2.2.2.2.2.2.2.2.2)) HSM.out Hrt.out HOK.out (fun x_ hx_ => ⟨(HZ3.out x_ hx_).1.mono (by omega), (HZ3.out x_ hx_).2.mono (by omega)⟩)).mono ?_
       rintro e w21 ⟨a_177, n_178, c_179, l_180, rfl, hd181, hu182, hb⟩
       replace M := adM hd181 hb M
       clear hb hd181
       replace hu182 := Lib.hid hu182
       have HZl_180 : Hid (FzL l_180 3) := (HZ3.out.fzs.all).fzl hu182.out
       have hn_l_180 : n_178 ≤ 1000000 := by have h_ := all_len hu182.out; rw [((M.out.1)).len, HC0.out.len] at h_; omega
       go_wp2_with fail
       refine (reSame (G := G) (l := l_174) (m := l_180) (b_ := true) (M.out.2.1) (M.out.1) (by omega) (by omega) (fun x_ hx_ => ⟨(HZl_174.out x_ hx_).1.mono (by omega), (HZl_174.out x_ hx_).2.mono (by omega)⟩) (fun x_ hx_ => ⟨(HZl_180.out x_ hx_).1.mono (by omega), (HZl_180.out x_ hx_).2.mono (by omega)⟩) (decide_eq_true (by rw [hu176.out, hu182.out]))).mono ?_
       rintro e w22 ⟨rfl, hb⟩
       replace M := gnM hb M
       clear hb
       refine cj10 (M.out.2.2.2.2.2.2.2.2.2.2.2.2.2.2.2.1).d10 fun p1_0 p1_1 p1_2 p1_3 p1_4 p1_5 p1_6 p1_7 p1_8 p1_9 => ?_
       have z1 : w7.heap.size < w22.heap.size := (M.out.2.2.2.2.2.2.2.2.2.2.2.2.2.2.2.1).lt
       refine cj10 (M.out.2.2.2.2.2.2.2.2.2.1).d10 fun p3_0 p3_1 p3_2 p3_3 p3_4 p3_5 p3_6 p3_7 p3_8 p3_9 => ?_
       have z3 : w11.heap.size < w22.heap.size := (M.out.2.2.2.2.2.2.2.2.2.1).lt
       refine cj10 (M.out.2.2.2.2.2.2.2.2.2.2.2.2.1).d10 fun p2_0 p2_1 p2_2 p2_3 p2_4 p2_5 p2_6 p2_7 p2_8 p2_9 => ?_
       have z2 : w9.heap.size < w22.heap.size := (M.out.2.2.2.2.2.2.2.2.2.2.2.2.1).lt
       refine cj10 (M.out.2.2.2.2.2.2.1).d10 fun p4_0 p4_1 p4_2 p4_3 p4_4 p4_5 p4_6 p4_7 p4_8 p4_9 => ?_
       have z4 : w13.heap.size < w22.heap.size := (M.out.2.2.2.2.2.2.1).lt
       go_wp2_with fail
       clear p1_0 p1_1 p1_2 p1_3 p1_4 p1_5 p1_6 p1_7 p1_8 p1_9 z1 p3_0 p3_1 p3_2 p3_3 p3_4 p3_5 p3_6 p3_7 p3_8 p3_9 z3 p2_0 p2_1 p2_2 p2_3 p2_4 p2_5 p2_6 p2_7 p2_8 p2_9 z2 p4_0 p4_1 p4_2 p4_3 p4_4 p4_5 p4_6 p4_7 p4_8 p4_9 z4
       refine nmW ((w22.alloc (.cells #[.string yk, .int .i64 yn, x_107, x_108, x_109, x_110, x_111, x_112, x_113, x_114, .string zk, .int .i64 zn, x_127, x_128, x_129, x_130, x_131, x_132, x_133, x_134] 37)).alloc (.cells #[.string yk, .int .i64 yn, x_117, x_118, x_119, x_120, x_121, x_122, x_123, x_124, .string zk, .int .i64 zn, x_137, x_138, x_139, x_140, x_141, x_142, x_143, x_144] 37)) fun w23 hv => ?_
       rw [← hv]
       have ow5_ : w13.heap.size < w22.heap.size := ((M.out.2.2.2.2.2.2.1)).lt
       have hbx := bx2 w22 37 37 #[.string yk, .int .i64 yn, x_107, x_108, x_109, x_110, x_111, x_112, x_113, x_114, .string zk, .int .i64 zn, x_127, x_128, x_129, x_130, x_131, x_132, x_133, x_134] #[.string yk, .int .i64 yn, x_117, x_118, x_119, x_120, x_121, x_122, x_123, x_124, .string zk, .int .i64 zn, x_137, x_138, x_139, x_140, x_141, x_142, x_143, x_144]
       rw [← hv] at hbx
       have hbn : Below w22.heap.size w22 w23 := by rw [hv]; exact (Below.alloc (Below.alloc (Below.refl _ _) (by simp <;> omega) _) (by simp <;> omega) _)
       replace M := Lib.hid (And.intro hbx.2 (And.intro hbx.1 (Goes.go M.out hbn)))
       clear hbx hbn
       clear hv
       replace M := Lib.hid (And.intro (M.out.1) (And.intro (M.out.2.1) (And.intro (M.out.2.2.1) (And.intro (M.out.2.2.2.1) (And.intro (M.out.2.2.2.2.1) (And.intro (M.out.2.2.2.2.2.1) (And.intro (M.out.2.2.2.2.2.2.1) (And.intro (M.out.2.2.2.2.2.2.2.1) (And.intro (M.out.2.2.2.2.2.2.2.2.2.1) (And.intro (M.out.2.2.2.2.2.2.2.2.2.2.1) (And.intro (M.out.2.2.2.2.2.2.2.2.2.2.2.2.1) (And.intro (M.out.2.2.2.2.2.2.2.2.2.2.2.2.2.1) (And.intro (M.out.2.2.2.2.2.2.2.2.2.2.2.2.2.2.2.1) (And.intro (M.out.2.2.2.2.2.2.2.2.2.2.2.2.2.2.2.2.1) (And.intro (M.out.2.2.2.2.2.2.2.2.2.2.2.2.2.2.2.2.2.2.1) (And.intro (M.out.2.2.2.2.2.2.2.2.2.2.2.2.2.2.2.2.2.2.2.1) (M.out.2.2.2.2.2.2.2.2.2.2.2.2.2.2.2.2.2.2.2.2.2)))))))))))))))))
       obtain ⟨ll183, h_⟩ : ∃ l_ : List SQ, l_ = [⟨yk, yn, x_107, x_108, x_109, x_110, some yq, x_111, x_112, x_113, x_114, some yr⟩, ⟨zk, zn, x_127, x_128, x_129, x_130, some zq, x_131, x_132, x_133, x_134, some zr⟩] := ⟨_, rfl⟩
       have Ell183 := Lib.hid h_; clear h_
       obtain ⟨ll184, h_⟩ : ∃ l_ : List SQ, l_ = [⟨yk, yn, x_117, x_118, x_119, x_120, some yq, x_121, x_122, x_123, x_124, some yr⟩, ⟨zk, zn, x_137, x_138, x_139, x_140, some zq, x_141, x_142, x_143, x_144, some zr⟩] := ⟨_, rfl⟩
       have Ell184 := Lib.hid h_; clear h_
       refine (reSame_o (G := G) (l := ll183) (m := ll184) (b_ := true) (by rw [Ell183.out]; exact RdL.of (OwB.new (α := SQ) (M.out.2.1) rfl hG (show w.heap.size ≤ _ by omega) (oq_pair (x := ⟨yk, yn, x_107, x_108, x_109, x_110, some yq, x_111, x_112, x_113, x_114, some yr⟩) (y := ⟨zk, zn, x_127, x_128, x_129, x_130, some zq, x_131, x_132, x_133, x_134, some zr⟩) ⟨(M.out.2.2.2.2.2.2.2.2.2.2.2.2.2.2.1), (M.out.2.2.2.2.2.2.2.2.2.2.2.2.2.2.2.1)⟩ ⟨(M.out.2.2.2.2.2.2.2.2.2.2.1), (M.out.2.2.2.2.2.2.2.2.2.2.2.1)⟩)).rd rfl (by omega)) (by rw [Ell184.out]; exact RdL.of (OwB.new (α := SQ) (M.out.1) rfl hG (show w.heap.size ≤ _ by omega) (oq_pair (x := ⟨yk, yn, x_117, x_118, x_119, x_120, some yq, x_121, x_122, x_123, x_124, some yr⟩) (y := ⟨zk, zn, x_137, x_138, x_139, x_140, some zq, x_141, x_142, x_143, x_144, some zr⟩) ⟨(M.out.2.2.2.2.2.2.2.2.2.2.2.2.1), (M.out.2.2.2.2.2.2.2.2.2.2.2.2.2.1)⟩ ⟨(M.out.2.2.2.2.2.2.2.2.1), (M.out.2.2.2.2.2.2.2.2.2.1)⟩)).rd rfl (by omega)) (by decide) (by decide) (by rw [Ell183.out]; exact oz_pair ⟨(Oz.some_ HZy1.out).mono (by omega), (Oz.some_ HZy2.out).mono (by omega)⟩ ⟨(Oz.some_ HZz1.out).mono (by omega), (Oz.some_ HZz2.out).mono (by omega)⟩) (by rw [Ell184.out]; exact oz_pair ⟨(Oz.some_ HZy1.out).mono (by omega), (Oz.some_ HZy2.out).mono (by omega)⟩ ⟨(Oz.some_ HZz1.out).mono (by omega), (Oz.some_ HZz2.out).mono (by omega)⟩) (decide_eq_true (by rw [Ell183.out, Ell184.out] <;> rfl))).mono ?_
       rintro e w24 ⟨rfl, hb⟩
       replace M := gnM hb M
       clear hb
       go_wp2_with fail
       replace M := Lib.hid (And.intro (M.out.2.2.1) (And.intro (M.out.2.2.2.1) (And.intro (M.out.2.2.2.2.1) (And.intro (M.out.2.2.2.2.2.1) (And.intro (M.out.2.2.2.2.2.2.1) (And.intro (M.out.2.2.2.2.2.2.2.1) (M.out.2.2.2.2.2.2.2.2.2.2.2.2.2.2.2.2)))))))
       refine (reSamePt (G := G) (l := l_150) (m := l_162) (b_ := true) (M.out.2.2.2.2.1) (M.out.2.2.1) (by omega) (by omega) (fun x_ hx_ => (HZl_150.out x_ hx_).mono (by omega)) (fun x_ hx_ => (HZl_162.out x_ hx_).mono (by omega)) (decide_eq_true (by rw [hu157.out, hu169.out]))).mono ?_
       rintro e w25 ⟨rfl, hb⟩
       replace M := gnM hb M
       clear hb
       go_wp2_with fail
       refine (reSamePt (G := G) (l := l_154) (m := l_166) (b_ := true) (M.out.2.2.2.2.2.1) (M.out.2.2.2.1) (by omega) (by omega) (fun x_ hx_ => (HZl_154.out x_ hx_).mono (by omega)) (fun x_ hx_ => (HZl_166.out x_ hx_).mono (by omega)) (decide_eq_true (by rw [hu158.out, hu170.out]))).mono ?_
       rintro e w26 ⟨rfl, hb⟩
       replace M := gnM hb M
       clear hb
       go_wp2_with fail
       go_ret
       exact ⟨rfl, (M.out.2.2.2.2.2.2)⟩
     ·
      subst ho1_ ho2_
      have HQq : Hid (FQ G w u0 u1 u2 u3 q) := (HQ1.out q rfl).1
      have HQr : Hid (FQ G w v0 v1 v2 v3 r) := (HQ2.out r rfl).1
      have HZq : Hid (Fz q 3) := (HQ1.out q rfl).2
      have HZr : Hid (Fz r 3) := (HQ2.out r rfl).2
      have hnt0_ : 0 ≤ note := hos.2.1
      have HSA := Lib.hid (show_all HOK.out hos hsh HZ3.out.fzs HZq.out HZr.out)
      have HOS := Lib.hid hos; have HSH := Lib.hid hsh; clear hos hsh
      rcases find_ways (l.map SC.sh) key note with ⟨ha1, ha2⟩ | ⟨ha1, zk, zn, zq, zr, ha2⟩ | ⟨yk, yn, yq, yr, zk, zn, zq, zr, ha1, ha2⟩
      ·
       have HA1 := Lib.hid ha1; have HA2 := Lib.hid ha2; clear ha1 ha2
       refine cj8 (M.out.1).d8 fun p0_0 p0_1 p0_2 p0_3 p0_4 p0_5 p0_6 p0_7 => ?_
       go_wp2_with fail
       clear p0_0 p0_1 p0_2 p0_3 p0_4 p0_5 p0_6 p0_7
       refine (reShow_c (G := G) (key := key) (note := note) (q := q) (r := r) (er := er) (rs := rs) (l := l) (Nat.le_trans hG (M.out.2).size) (HC0.out.keep (M.out.2)) HOK.out (fun x_ hx_ => ⟨(HZ3.out x_ hx_).1.mono (by omega), (HZ3.out x_ hx_).2.mono (by omega)⟩) (HQq.out.keep (M.out.2)) (HQr.out.keep (M.out.2)) (Fz.mono HZq.out (by omega)) (Fz.mono HZr.out (by omega)) HOS.out HSH.out).mono ?_
       rintro e w5 ⟨a_185, n_186, c_187, l_188, rfl, hd189, hu190, hb⟩
       replace M := adM hd189 hb M
       clear hb hd189
       replace hu190 := Lib.hid hu190
       have HZl_188 : Hid (FzL l_188 3) := HSA.out.1.fzl hu190.out
       have hn_l_188 : n_186 ≤ 1000000 := by have h_ := map_len hu190.out ((M.out.1)).len; have h2_ := HSA.out.2; rw [← h_, List.length_map, HC0.out.len] at h2_; omega
       refine cj8 (M.out.2.1).d8 fun p0_0 p0_1 p0_2 p0_3 p0_4 p0_5 p0_6 p0_7 => ?_
       go_wp2_with fail
       clear p0_0 p0_1 p0_2 p0_3 p0_4 p0_5 p0_6 p0_7
       refine (rShow_c (G := G) (key := key) (note := note) (q := q) (r := r) (er := er) (rs := rs) (l := l) (ls := ls) (Nat.le_trans hG (M.out.2.2).size) (HC0.out.keep (M.out.2.2)) (HR0.out.keep (M.out.2.2)) HSM.out Hrt.out HOK.out (fun x_ hx_ => ⟨(HZ3.out x_ hx_).1.mono (by omega), (HZ3.out x_ hx_).2.mono (by omega)⟩) HLL.out (H1.out.keep (M.out.2.2)) (H2.out.keep (M.out.2.2)) HF1.out HF2.out (HQq.out.keep (M.out.2.2)) (HQr.out.keep (M.out.2.2)) (Fz.mono HZq.out (by omega)) (Fz.mono HZr.out (by omega)) (by omega) HOS.out HSH.out).mono ?_
       rintro e w6 ⟨a_191, n_192, c_193, l_194, rfl, hd195, hu196, hb⟩
       replace M := adM hd195 hb M
       clear hb hd195
       replace hu196 := Lib.hid hu196
       have HZl_194 : Hid (FzL l_194 3) := HSA.out.1.fzl hu196.out
       have hn_l_194 : n_192 ≤ 1000000 := by have h_ := map_len hu196.out ((M.out.1)).len; have h2_ := HSA.out.2; rw [← h_, List.length_map, HC0.out.len] at h2_; omega
       go_wp2_with fail
       refine (reAt_none (G := G) (key := key) (nt := note) (l := l) (Nat.le_trans hG (M.out.2.2.2).size) (HC0.out.keep (M.out.2.2.2)) HOK.out (fun x_ hx_ => ⟨(HZ3.out x_ hx_).1.mono (by omega), (HZ3.out x_ hx_).2.mono (by omega)⟩) HA1.out).mono ?_
       rintro e w7 ⟨rfl, hb⟩
       replace M := gnM hb M
       clear hb
       go_upto_region 7 with fail
       refine nmW (w7.alloc (.cells #[.string (⟨#[]⟩), .int .i64 0, .int .i64 0, .slice none 0 0, .int .i64 0, .slice none 0 0, .int .i64 0, .slice none 0 0, .int .i64 0, .slice none 0 0] 37)) fun w8 hv => ?_
       rw [← hv]
       have ow1_ : w.heap.size < w7.heap.size := ((M.out.2.2.1)).lt
       replace M := alM hv M
       clear hv
       go_wp2_with fail
       refine (rAt_none (G := G) (key := key) (nt := note) (l := l) (ls := ls) (Nat.le_trans hG (M.out.2.2.2.2).size) (HC0.out.keep (M.out.2.2.2.2)) (HR0.out.keep (M.out.2.2.2.2)) HSM.out Hrt.out HOK.out (fun x_ hx_ => ⟨(HZ3.out x_ hx_).1.mono (by omega), (HZ3.out x_ hx_).2.mono (by omega)⟩) HA1.out).mono ?_
       rintro e w9 ⟨rfl, hb⟩
       replace M := gnM hb M
       clear hb
       go_upto_region 8 with fail
       refine nmW (w9.alloc (.cells #[.string (⟨#[]⟩), .int .i64 0, .int .i64 0, .slice none 0 0, .int .i64 0, .slice none 0 0, .int .i64 0, .slice none 0 0, .int .i64 0, .slice none 0 0] 37)) fun w10 hv => ?_
       rw [← hv]
       have ow2_ : w7.heap.size < w9.heap.size := ((M.out.1)).lt
       replace M := alM hv M
       clear hv
       go_wp2_with fail
       refine (reLast_none (G := G) (key := key) (l := l) (Nat.le_trans hG (M.out.2.2.2.2.2).size) (HC0.out.keep (M.out.2.2.2.2.2)) HOK.out (fun x_ hx_ => ⟨(HZ3.out x_ hx_).1.mono (by omega), (HZ3.out x_ hx_).2.mono (by omega)⟩) HA2.out).mono ?_
       rintro e w11 ⟨rfl, hb⟩
       replace M := gnM hb M
       clear hb
       go_upto_region 9 with fail
       refine nmW (w11.alloc (.cells #[.string (⟨#[]⟩), .int .i64 0, .int .i64 0, .slice none 0 0, .int .i64 0, .slice none 0 0, .int .i64 0, .slice none 0 0, .int .i64 0, .slice none 0 0] 37)) fun w12 hv => ?_
       rw [← hv]
       have ow3_ : w9.heap.size < w11.heap.size := ((M.out.1)).lt
       replace M := alM hv M
       clear hv
       go_wp2_with fail
       refine (rLast_none (G := G) (key := key) (l := l) (ls := ls) (Nat.le_trans hG (M.out.2.2.2.2.2.2).size) (HC0.out.keep (M.out.2.2.2.2.2.2)) (HR0.out.keep (M.out.2.2.2.2.2.2)) HSM.out Hrt.out HOK.out (fun x_ hx_ => ⟨(HZ3.out x_ hx_).1.mono (by omega), (HZ3.out x_ hx_).2.mono (by omega)⟩) HA2.out).mono ?_
       rintro e w13 ⟨rfl, hb⟩
       replace M := gnM hb M
       clear hb
       go_upto_region 10 with fail
       refine nmW (w13.alloc (.cells #[.string (⟨#[]⟩), .int .i64 0, .int .i64 0, .slice none 0 0, .int .i64 0, .slice none 0 0, .int .i64 0, .slice none 0 0, .int .i64 0, .slice none 0 0] 37)) fun w14 hv => ?_
       rw [← hv]
       have ow4_ : w11.heap.size < w13.heap.size := ((M.out.1)).lt
       replace M := alM hv M
       clear hv
       go_wp2_with fail
       refine (reDeltas_c (G := G) (key := key) (l := l) (Nat.le_trans hG (M.out.2.2.2.2.2.2.2).size) (HC0.out.keep (M.out.2.2.2.2.2.2.2)) HOK.out (fun x_ hx_ => ⟨(HZ3.out x_ hx_).1.mono (by omega), (HZ3.out x_ hx_).2.mono (by omega)⟩)).mono ?_
       rintro e w15 ⟨a_197, n_198, c_199, l_200, a_201, n_202, c_203, l_204, rfl, hd205, hd206, hu207, hu208, hb⟩
       replace M := ad2M hd205 hd206 hb M
       clear hb hd205 hd206
       replace hu207 := Lib.hid hu207
       replace hu208 := Lib.hid hu208
       have HZl_200 : Hid (FzQ l_200 201) := FzQ.of_map hu207.out (fun q_ hq_ => ((HZ3.out.fzs.all.dif_lo q_ hq_).mono (by omega)))
       have hn_l_200 : n_198 ≤ 1000000 := by have h_ := congrArg List.length hu207.out; rw [List.length_map, dif_len, ((M.out.1)).len] at h_; have h2_ : (allF (l.map SC.sh) key).length ≤ (l.map SC.sh).length := List.length_filter_le _ _; rw [List.length_map, HC0.out.len] at h2_; omega
       have HZl_204 : Hid (FzQ l_204 201) := FzQ.of_map hu208.out (fun q_ hq_ => ((HZ3.out.fzs.all.dif_hi q_ hq_).mono (by omega)))
       have hn_l_204 : n_202 ≤ 1000000 := by have h_ := congrArg List.length hu208.out; rw [List.length_map, dif_len, ((M.out.2.1)).len] at h_; have h2_ : (allF (l.map SC.sh) key).length ≤ (l.map SC.sh).length := List.length_filter_le _ _; rw [List.length_map, HC0.out.len] at h2_; omega
       go_wp2_with fail
       refine (rDeltas_c (G := G) (key := key) (l := l) (ls := ls) (Nat.le_trans hG (M.out.2.2.2.2.2.2.2.2.2).size) (HC0.out.keep (M.out.2.2.2.2.2.2.2.2.2)) (HR0.out.keep (M.out.2.2.2.2.2.2.2.2.2)) HSM.out Hrt.out HOK.out (fun x_ hx_ => ⟨(HZ3.out x_ hx_).1.mono (by omega), (HZ3.out x_ hx_).2.mono (by omega)⟩)).mono ?_
       rintro e w16 ⟨a_209, n_210, c_211, l_212, a_213, n_214, c_215, l_216, rfl, hd217, hd218, hu219, hu220, hb⟩
       replace M := ad2M hd217 hd218 hb M
       clear hb hd217 hd218
       replace hu219 := Lib.hid hu219
       replace hu220 := Lib.hid hu220
       have HZl_212 : Hid (FzQ l_212 201) := FzQ.of_map hu219.out (fun q_ hq_ => ((HZ3.out.fzs.all.dif_lo q_ hq_).mono (by omega)))
       have hn_l_212 : n_210 ≤ 1000000 := by have h_ := congrArg List.length hu219.out; rw [List.length_map, dif_len, ((M.out.1)).len] at h_; have h2_ : (allF (l.map SC.sh) key).length ≤ (l.map SC.sh).length := List.length_filter_le _ _; rw [List.length_map, HC0.out.len] at h2_; omega
       have HZl_216 : Hid (FzQ l_216 201) := FzQ.of_map hu220.out (fun q_ hq_ => ((HZ3.out.fzs.all.dif_hi q_ hq_).mono (by omega)))
       have hn_l_216 : n_214 ≤ 1000000 := by have h_ := congrArg List.length hu220.out; rw [List.length_map, dif_len, ((M.out.2.1)).len] at h_; have h2_ : (allF (l.map SC.sh) key).length ≤ (l.map SC.sh).length := List.length_filter_le _ _; rw [List.length_map, HC0.out.len] at h2_; omega
       go_wp2_with fail
       refine (reRight_g (G := G) (l := ls) (b_ := true) (Nat.le_trans hG (M.out.2.2.2.2.2.2.2.2.2.2.2).size) (HR0.out.keep (M.out.2.2.2.2.2.2.2.2.2.2.2)) (by omega) HSM.out Hrt.out).mono ?_
       rintro e w17 ⟨rfl, hb⟩
       replace M := gnM hb M
       clear hb
       go_wp2_with fail
       refine (rRight_g (G := G) (l := ls) (b_ := true) (Nat.le_trans hG (M.out.2.2.2.2.2.2.2.2.2.2.2).size) (HR0.out.keep (M.out.2.2.2.2.2.2.2.2.2.2.2)) (by omega) HSM.out Hrt.out).mono ?_
       rintro e w18 ⟨rfl, hb⟩
       replace M := gnM hb M
       clear hb
       go_wp2_with fail
       refine (reSame (G := G) (l := l_188) (m := l_194) (b_ := true) (M.out.2.2.2.2.2.2.2.2.2.1) (M.out.2.2.2.2.2.2.2.2.1) (by omega) (by omega) (fun x_ hx_ => ⟨(HZl_188.out x_ hx_).1.mono (by omega), (HZl_188.out x_ hx_).2.mono (by omega)⟩) (fun x_ hx_ => ⟨(HZl_194.out x_ hx_).1.mono (by omega), (HZl_194.out x_ hx_).2.mono (by omega)⟩) (decide_eq_true (by rw [hu190.out, hu196.out]))).mono ?_
       rintro e w19 ⟨rfl, hb⟩
       replace M := gnM hb M
       clear hb
       go_wp2_with fail
       refine (reAll (G := G) (key := key) (l := l) (Nat.le_trans hG (M.out.2.2.2.2.2.2.2.2.2.2.2).size) (HC0.out.keep (M.out.2.2.2.2.2.2.2.2.2.2.2)) HOK.out (fun x_ hx_ => ⟨(HZ3.out x_ hx_).1.mono (by omega), (HZ3.out x_ hx_).2.mono (by omega)⟩)).mono ?_
       rintro e w20 ⟨a_221, n_222, c_223, l_224, rfl, hd225, hu226, hb⟩
       replace M := adM hd225 hb M
       clear hb hd225
       replace hu226 := Lib.hid hu226
       have HZl_224 : Hid (FzL l_224 3) := (HZ3.out.fzs.all).fzl hu226.out
       have hn_l_224 : n_222 ≤ 1000000 := by have h_ := all_len hu226.out; rw [((M.out.1)).len, HC0.out.len] at h_; omega
       go_wp2_with fail
       refine (rAll (G := G) (key := key) (l := l) (ls := ls) (Nat.le_trans hG (M.out.2.2.2.2.2.2.2.2.2.2.2.2).size) (HC0.out.keep (M.out.2.2.2.2.2.2.2.2.2.2.2.2)) (HR0.out.keep (M.out.2.2.2.2.2.2.2.2.2.2.2.2)) HSM.out Hrt.out HOK.out (fun x_ hx_ => ⟨(HZ3.out x_ hx_).1.mono (by omega), (HZ3.out x_ hx_).2.mono (by omega)⟩)).mono ?_
       rintro e w21 ⟨a_227, n_228, c_229, l_230, rfl, hd231, hu232, hb⟩
       replace M := adM hd231 hb M
       clear hb hd231
       replace hu232 := Lib.hid hu232
       have HZl_230 : Hid (FzL l_230 3) := (HZ3.out.fzs.all).fzl hu232.out
       have hn_l_230 : n_228 ≤ 1000000 := by have h_ := all_len hu232.out; rw [((M.out.1)).len, HC0.out.len] at h_; omega
       go_wp2_with fail
       refine (reSame (G := G) (l := l_224) (m := l_230) (b_ := true) (M.out.2.1) (M.out.1) (by omega) (by omega) (fun x_ hx_ => ⟨(HZl_224.out x_ hx_).1.mono (by omega), (HZl_224.out x_ hx_).2.mono (by omega)⟩) (fun x_ hx_ => ⟨(HZl_230.out x_ hx_).1.mono (by omega), (HZl_230.out x_ hx_).2.mono (by omega)⟩) (decide_eq_true (by rw [hu226.out, hu232.out]))).mono ?_
       rintro e w22 ⟨rfl, hb⟩
       replace M := gnM hb M
       clear hb
       refine cj10 (M.out.2.2.2.2.2.2.2.2.2.1).d10 fun p1_0 p1_1 p1_2 p1_3 p1_4 p1_5 p1_6 p1_7 p1_8 p1_9 => ?_
       have z1 : w7.heap.size < w22.heap.size := (M.out.2.2.2.2.2.2.2.2.2.1).lt
       refine cj10 (M.out.2.2.2.2.2.2.2.1).d10 fun p3_0 p3_1 p3_2 p3_3 p3_4 p3_5 p3_6 p3_7 p3_8 p3_9 => ?_
       have z3 : w11.heap.size < w22.heap.size := (M.out.2.2.2.2.2.2.2.1).lt
       refine cj10 (M.out.2.2.2.2.2.2.2.2.1).d10 fun p2_0 p2_1 p2_2 p2_3 p2_4 p2_5 p2_6 p2_7 p2_8 p2_9 => ?_
       have z2 : w9.heap.size < w22.heap.size := (M.out.2.2.2.2.2.2.2.2.1).lt
       refine cj10 (M.out.2.2.2.2.2.2.1).d10 fun p4_0 p4_1 p4_2 p4_3 p4_4 p4_5 p4_6 p4_7 p4_8 p4_9 => ?_
       have z4 : w13.heap.size < w22.heap.size := (M.out.2.2.2.2.2.2.1).lt
       go_wp2_with fail
       clear p1_0 p1_1 p1_2 p1_3 p1_4 p1_5 p1_6 p1_7 p1_8 p1_9 z1 p3_0 p3_1 p3_2 p3_3 p3_4 p3_5 p3_6 p3_7 p3_8 p3_9 z3 p2_0 p2_1 p2_2 p2_3 p2_4 p2_5 p2_6 p2_7 p2_8 p2_9 z2 p4_0 p4_1 p4_2 p4_3 p4_4 p4_5 p4_6 p4_7 p4_8 p4_9 z4
       refine nmW ((w22.alloc (.cells #[.string (⟨#[]⟩), .int .i64 0, .int .i64 0, .slice none 0 0, .int .i64 0, .slice none 0 0, .int .i64 0, .slice none 0 0, .int .i64 0, .slice none 0 0, .string (⟨#[]⟩), .int .i64 0, .int .i64 0, .slice none 0 0, .int .i64 0, .slice none 0 0, .int .i64 0, .slice none 0 0, .int .i64 0, .slice none 0 0] 37)).alloc (.cells #[.string (⟨#[]⟩), .int .i64 0, .int .i64 0, .slice none 0 0, .int .i64 0, .slice none 0 0, .int .i64 0, .slice none 0 0, .int .i64 0, .slice none 0 0, .string (⟨#[]⟩), .int .i64 0, .int .i64 0, .slice none 0 0, .int .i64 0, .slice none 0 0, .int .i64 0, .slice none 0 0, .int .i64 0, .slice none 0 0] 37)) fun w23 hv => ?_
       rw [← hv]
       have ow5_ : w13.heap.size < w22.heap.size := ((M.out.2.2.2.2.2.2.1)).lt
       have hbx := bx2 w22 37 37 #[.string (⟨#[]⟩), .int .i64 0, .int .i64 0, .slice none 0 0, .int .i64 0, .slice none 0 0, .int .i64 0, .slice none 0 0, .int .i64 0, .slice none 0 0, .string (⟨#[]⟩), .int .i64 0, .int .i64 0, .slice none 0 0, .int .i64 0, .slice none 0 0, .int .i64 0, .slice none 0 0, .int .i64 0, .slice none 0 0] #[.string (⟨#[]⟩), .int .i64 0, .int .i64 0, .slice none 0 0, .int .i64 0, .slice none 0 0, .int .i64 0, .slice none 0 0, .int .i64 0, .slice none 0 0, .string (⟨#[]⟩), .int .i64 0, .int .i64 0, .slice none 0 0, .int .i64 0, .slice none 0 0, .int .i64 0, .slice none 0 0, .int .i64 0, .slice none 0 0]
       rw [← hv] at hbx
       have hbn : Below w22.heap.size w22 w23 := by rw [hv]; exact (Below.alloc (Below.alloc (Below.refl _ _) (by simp <;> omega) _) (by simp <;> omega) _)
       replace M := Lib.hid (And.intro hbx.2 (And.intro hbx.1 (Goes.go M.out hbn)))
       clear hbx hbn
       clear hv
       replace M := Lib.hid (And.intro (M.out.1) (And.intro (M.out.2.1) (And.intro (M.out.2.2.1) (And.intro (M.out.2.2.2.1) (And.intro (M.out.2.2.2.2.1) (And.intro (M.out.2.2.2.2.2.1) (And.intro (M.out.2.2.2.2.2.2.1) (And.intro (M.out.2.2.2.2.2.2.2.1) (And.intro (M.out.2.2.2.2.2.2.2.2.2.2.2.2.1) (And.intro (M.out.2.2.2.2.2.2.2.2.2.2.2.2.2.1) (M.out.2.2.2.2.2.2.2.2.2.2.2.2.2.2.2)))))))))))
       obtain ⟨ll233, h_⟩ : ∃ l_ : List SQ, l_ = [zeroE, zeroE] := ⟨_, rfl⟩
       have Ell233 := Lib.hid h_; clear h_
       obtain ⟨ll234, h_⟩ : ∃ l_ : List SQ, l_ = [zeroE, zeroE] := ⟨_, rfl⟩
       have Ell234 := Lib.hid h_; clear h_
       refine (reSame_o (G := G) (l := ll233) (m := ll234) (b_ := true) (by rw [Ell233.out]; exact RdL.of (OwB.new (α := SQ) (M.out.2.1) rfl hG (show w.heap.size ≤ _ by omega) (oq_pair (x := zeroE) (y := zeroE) zeroE_ok zeroE_ok)).rd rfl (by omega)) (by rw [Ell234.out]; exact RdL.of (OwB.new (α := SQ) (M.out.1) rfl hG (show w.heap.size ≤ _ by omega) (oq_pair (x := zeroE) (y := zeroE) zeroE_ok zeroE_ok)).rd rfl (by omega)) (by decide) (by decide) (by rw [Ell233.out]; exact oz_pair ⟨Oz.none_, Oz.none_⟩ ⟨Oz.none_, Oz.none_⟩) (by rw [Ell234.out]; exact oz_pair ⟨Oz.none_, Oz.none_⟩ ⟨Oz.none_, Oz.none_⟩) (decide_eq_true (by rw [Ell233.out, Ell234.out] <;> rfl))).mono ?_
       rintro e w24 ⟨rfl, hb⟩
       replace M := gnM hb M
       clear hb
       go_wp2_with fail
       refine (reSamePt (G := G) (l := l_200) (m := l_212) (b_ := true) (M.out.2.2.2.2.2.2.1) (M.out.2.2.2.2.1) (by omega) (by omega) (fun x_ hx_ => (HZl_200.out x_ hx_).mono (by omega)) (fun x_ hx_ => (HZl_212.out x_ hx_).mono (by omega)) (decide_eq_true (by rw [hu207.out, hu219.out]))).mono ?_
       rintro e w25 ⟨rfl, hb⟩
       replace M := gnM hb M
       clear hb
       go_wp2_with fail
       refine (reSamePt (G := G) (l := l_204) (m := l_216) (b_ := true) (M.out.2.2.2.2.2.2.2.1) (M.out.2.2.2.2.2.1) (by omega) (by omega) (fun x_ hx_ => (HZl_204.out x_ hx_).mono (by omega)) (fun x_ hx_ => (HZl_216.out x_ hx_).mono (by omega)) (decide_eq_true (by rw [hu208.out, hu220.out]))).mono ?_
       rintro e w26 ⟨rfl, hb⟩
       replace M := gnM hb M
       clear hb
       go_wp2_with fail
       go_ret
       exact ⟨rfl, (M.out.2.2.2.2.2.2.2.2.2.2)⟩
      ·
       have HA1 := Lib.hid ha1; have HA2 := Lib.hid ha2
       have hz_ := HZ3.out.fzs _ (lastK_mem ha2).1
       have HZz1 : Hid (Fz zq 3) := hz_.1; have HZz2 : Hid (Fz zr 3) := hz_.2; clear hz_
       clear ha1 ha2
       refine cj8 (M.out.1).d8 fun p0_0 p0_1 p0_2 p0_3 p0_4 p0_5 p0_6 p0_7 => ?_
       go_wp2_with fail
       clear p0_0 p0_1 p0_2 p0_3 p0_4 p0_5 p0_6 p0_7
       refine (reShow_c (G := G) (key := key) (note := note) (q := q) (r := r) (er := er) (rs := rs) (l := l) (Nat.le_trans hG (M.out.2).size) (HC0.out.keep (M.out.2)) HOK.out (fun x_ hx_ => ⟨(HZ3.out x_ hx_).1.mono (by omega), (HZ3.out x_ hx_).2.mono (by omega)⟩) (HQq.out.keep (M.out.2)) (HQr.out.keep (M.out.2)) (Fz.mono HZq.out (by omega)) (Fz.mono HZr.out (by omega)) HOS.out HSH.out).mono ?_
       rintro e w5 ⟨a_235, n_236, c_237, l_238, rfl, hd239, hu240, hb⟩
       replace M := adM hd239 hb M
       clear hb hd239
       replace hu240 := Lib.hid hu240
       have HZl_238 : Hid (FzL l_238 3) := HSA.out.1.fzl hu240.out
       have hn_l_238 : n_236 ≤ 1000000 := by have h_ := map_len hu240.out ((M.out.1)).len; have h2_ := HSA.out.2; rw [← h_, List.length_map, HC0.out.len] at h2_; omega
       refine cj8 (M.out.2.1).d8 fun p0_0 p0_1 p0_2 p0_3 p0_4 p0_5 p0_6 p0_7 => ?_
       go_wp2_with fail
       clear p0_0 p0_1 p0_2 p0_3 p0_4 p0_5 p0_6 p0_7
       refine (rShow_c (G := G) (key := key) (note := note) (q := q) (r := r) (er := er) (rs := rs) (l := l) (ls := ls) (Nat.le_trans hG (M.out.2.2).size) (HC0.out.keep (M.out.2.2)) (HR0.out.keep (M.out.2.2)) HSM.out Hrt.out HOK.out (fun x_ hx_ => ⟨(HZ3.out x_ hx_).1.mono (by omega), (HZ3.out x_ hx_).2.mono (by omega)⟩) HLL.out (H1.out.keep (M.out.2.2)) (H2.out.keep (M.out.2.2)) HF1.out HF2.out (HQq.out.keep (M.out.2.2)) (HQr.out.keep (M.out.2.2)) (Fz.mono HZq.out (by omega)) (Fz.mono HZr.out (by omega)) (by omega) HOS.out HSH.out).mono ?_
       rintro e w6 ⟨a_241, n_242, c_243, l_244, rfl, hd245, hu246, hb⟩
       replace M := adM hd245 hb M
       clear hb hd245
       replace hu246 := Lib.hid hu246
       have HZl_244 : Hid (FzL l_244 3) := HSA.out.1.fzl hu246.out
       have hn_l_244 : n_242 ≤ 1000000 := by have h_ := map_len hu246.out ((M.out.1)).len; have h2_ := HSA.out.2; rw [← h_, List.length_map, HC0.out.len] at h2_; omega
       go_wp2_with fail
       refine (reAt_none (G := G) (key := key) (nt := note) (l := l) (Nat.le_trans hG (M.out.2.2.2).size) (HC0.out.keep (M.out.2.2.2)) HOK.out (fun x_ hx_ => ⟨(HZ3.out x_ hx_).1.mono (by omega), (HZ3.out x_ hx_).2.mono (by omega)⟩) HA1.out).mono ?_
       rintro e w7 ⟨rfl, hb⟩
       replace M := gnM hb M
       clear hb
       go_upto_region 7 with fail
       refine nmW (w7.alloc (.cells #[.string (⟨#[]⟩), .int .i64 0, .int .i64 0, .slice none 0 0, .int .i64 0, .slice none 0 0, .int .i64 0, .slice none 0 0, .int .i64 0, .slice none 0 0] 37)) fun w8 hv => ?_
       rw [← hv]
       have ow1_ : w.heap.size < w7.heap.size := ((M.out.2.2.1)).lt
       replace M := alM hv M
       clear hv
       go_wp2_with fail
       refine (rAt_none (G := G) (key := key) (nt := note) (l := l) (ls := ls) (Nat.le_trans hG (M.out.2.2.2.2).size) (HC0.out.keep (M.out.2.2.2.2)) (HR0.out.keep (M.out.2.2.2.2)) HSM.out Hrt.out HOK.out (fun x_ hx_ => ⟨(HZ3.out x_ hx_).1.mono (by omega), (HZ3.out x_ hx_).2.mono (by omega)⟩) HA1.out).mono ?_
       rintro e w9 ⟨rfl, hb⟩
       replace M := gnM hb M
       clear hb
       go_upto_region 8 with fail
       refine nmW (w9.alloc (.cells #[.string (⟨#[]⟩), .int .i64 0, .int .i64 0, .slice none 0 0, .int .i64 0, .slice none 0 0, .int .i64 0, .slice none 0 0, .int .i64 0, .slice none 0 0] 37)) fun w10 hv => ?_
       rw [← hv]
       have ow2_ : w7.heap.size < w9.heap.size := ((M.out.1)).lt
       replace M := alM hv M
       clear hv
       go_wp2_with fail
       refine (reLast_some (G := G) (key := key) (yk := zk) (yn := zn) (yq := zq) (yr := zr) (l := l) (Nat.le_trans hG (M.out.2.2.2.2.2).size) (HC0.out.keep (M.out.2.2.2.2.2)) HOK.out (fun x_ hx_ => ⟨(HZ3.out x_ hx_).1.mono (by omega), (HZ3.out x_ hx_).2.mono (by omega)⟩) HA2.out).mono ?_
       rintro e w11 ⟨x_247, x_248, x_249, x_250, x_251, x_252, x_253, x_254, rfl, hd255, hd256, hb⟩
       replace M := ad2M hd255 hd256 hb M
       clear hb hd255 hd256
       refine cj4 (TQ.st (M.out.1)) fun st_x_247 st_x_248 st_x_249 st_x_250 => ?_
       refine cj4 (TQ.st (M.out.2.1)) fun st_x_251 st_x_252 st_x_253 st_x_254 => ?_
       go_upto_region 9 with fail
       clear st_x_247 st_x_248 st_x_249 st_x_250 st_x_251 st_x_252 st_x_253 st_x_254
       refine nmW (w11.alloc (.cells #[.string zk, .int .i64 zn, x_247, x_248, x_249, x_250, x_251, x_252, x_253, x_254] 37)) fun w12 hv => ?_
       rw [← hv]
       have ow3_ : w9.heap.size < w11.heap.size := ((M.out.2.2.1)).lt
       replace M := alM hv M
       clear hv
       go_wp2_with fail
       refine (rLast_some (G := G) (key := key) (yk := zk) (yn := zn) (yq := zq) (yr := zr) (l := l) (ls := ls) (Nat.le_trans hG (M.out.2.2.2.2.2.2.2.2).size) (HC0.out.keep (M.out.2.2.2.2.2.2.2.2)) (HR0.out.keep (M.out.2.2.2.2.2.2.2.2)) HSM.out Hrt.out HOK.out (fun x_ hx_ => ⟨(HZ3.out x_ hx_).1.mono (by omega), (HZ3.out x_ hx_).2.mono (by omega)⟩) HA2.out).mono ?_
       rintro e w13 ⟨x_257, x_258, x_259, x_260, x_261, x_262, x_263, x_264, rfl, hd265, hd266, hb⟩
       replace M := ad2M hd265 hd266 hb M
       clear hb hd265 hd266
       refine cj4 (TQ.st (M.out.1)) fun st_x_257 st_x_258 st_x_259 st_x_260 => ?_
       refine cj4 (TQ.st (M.out.2.1)) fun st_x_261 st_x_262 st_x_263 st_x_264 => ?_
       go_upto_region 10 with fail
       clear st_x_257 st_x_258 st_x_259 st_x_260 st_x_261 st_x_262 st_x_263 st_x_264
       refine nmW (w13.alloc (.cells #[.string zk, .int .i64 zn, x_257, x_258, x_259, x_260, x_261, x_262, x_263, x_264] 37)) fun w14 hv => ?_
       rw [← hv]
       have ow4_ : w11.heap.size < w13.heap.size := ((M.out.2.2.1)).lt
       replace M := alM hv M
       clear hv
       go_wp2_with fail
       refine (reDeltas_c (G := G) (key := key) (l := l) (Nat.le_trans hG (M.out.2.2.2.2.2.2.2.2.2.2.2).size) (HC0.out.keep (M.out.2.2.2.2.2.2.2.2.2.2.2)) HOK.out (fun x_ hx_ => ⟨(HZ3.out x_ hx_).1.mono (by omega), (HZ3.out x_ hx_).2.mono (by omega)⟩)).mono ?_
       rintro e w15 ⟨a_267, n_268, c_269, l_270, a_271, n_272, c_273, l_274, rfl, hd275, hd276, hu277, hu278, hb⟩
       replace M := ad2M hd275 hd276 hb M
       clear hb hd275 hd276
       replace hu277 := Lib.hid hu277
       replace hu278 := Lib.hid hu278
       have HZl_270 : Hid (FzQ l_270 201) := FzQ.of_map hu277.out (fun q_ hq_ => ((HZ3.out.fzs.all.dif_lo q_ hq_).mono (by omega)))
       have hn_l_270 : n_268 ≤ 1000000 := by have h_ := congrArg List.length hu277.out; rw [List.length_map, dif_len, ((M.out.1)).len] at h_; have h2_ : (allF (l.map SC.sh) key).length ≤ (l.map SC.sh).length := List.length_filter_le _ _; rw [List.length_map, HC0.out.len] at h2_; omega
       have HZl_274 : Hid (FzQ l_274 201) := FzQ.of_map hu278.out (fun q_ hq_ => ((HZ3.out.fzs.all.dif_hi q_ hq_).mono (by omega)))
       have hn_l_274 : n_272 ≤ 1000000 := by have h_ := congrArg List.length hu278.out; rw [List.length_map, dif_len, ((M.out.2.1)).len] at h_; have h2_ : (allF (l.map SC.sh) key).length ≤ (l.map SC.sh).length := List.length_filter_le _ _; rw [List.length_map, HC0.out.len] at h2_; omega
       go_wp2_with fail
       refine (rDeltas_c (G := G) (key := key) (l := l) (ls := ls) (Nat.le_trans hG (M.out.2.2.2.2.2.2.2.2.2.2.2.2.2).size) (HC0.out.keep (M.out.2.2.2.2.2.2.2.2.2.2.2.2.2)) (HR0.out.keep (M.out.2.2.2.2.2.2.2.2.2.2.2.2.2)) HSM.out Hrt.out HOK.out (fun x_ hx_ => ⟨(HZ3.out x_ hx_).1.mono (by omega), (HZ3.out x_ hx_).2.mono (by omega)⟩)).mono ?_
       rintro e w16 ⟨a_279, n_280, c_281, l_282, a_283, n_284, c_285, l_286, rfl, hd287, hd288, hu289, hu290, hb⟩
       replace M := ad2M hd287 hd288 hb M
       clear hb hd287 hd288
       replace hu289 := Lib.hid hu289
       replace hu290 := Lib.hid hu290
       have HZl_282 : Hid (FzQ l_282 201) := FzQ.of_map hu289.out (fun q_ hq_ => ((HZ3.out.fzs.all.dif_lo q_ hq_).mono (by omega)))
       have hn_l_282 : n_280 ≤ 1000000 := by have h_ := congrArg List.length hu289.out; rw [List.length_map, dif_len, ((M.out.1)).len] at h_; have h2_ : (allF (l.map SC.sh) key).length ≤ (l.map SC.sh).length := List.length_filter_le _ _; rw [List.length_map, HC0.out.len] at h2_; omega
       have HZl_286 : Hid (FzQ l_286 201) := FzQ.of_map hu290.out (fun q_ hq_ => ((HZ3.out.fzs.all.dif_hi q_ hq_).mono (by omega)))
       have hn_l_286 : n_284 ≤ 1000000 := by have h_ := congrArg List.length hu290.out; rw [List.length_map, dif_len, ((M.out.2.1)).len] at h_; have h2_ : (allF (l.map SC.sh) key).length ≤ (l.map SC.sh).length := List.length_filter_le _ _; rw [List.length_map, HC0.out.len] at h2_; omega
       go_wp2_with fail
       refine (reRight_g (G := G) (l := ls) (b_ := true) (Nat.le_trans hG (M.out.2.2.2.2.2.2.2.2.2.2.2.2.2.2.2).size) (HR0.out.keep (M.out.2.2.2.2.2.2.2.2.2.2.2.2.2.2.2)) (by omega) HSM.out Hrt.out).mono ?_
       rintro e w17 ⟨rfl, hb⟩
       replace M := gnM hb M
       clear hb
       go_wp2_with fail
       refine (rRight_g (G := G) (l := ls) (b_ := true) (Nat.le_trans hG (M.out.2.2.2.2.2.2.2.2.2.2.2.2.2.2.2).size) (HR0.out.keep (M.out.2.2.2.2.2.2.2.2.2.2.2.2.2.2.2)) (by omega) HSM.out Hrt.out).mono ?_
       rintro e w18 ⟨rfl, hb⟩
       replace M := gnM hb M
       clear hb
       go_wp2_with fail
       refine (reSame (G := G) (l := l_238) (m := l_244) (b_ := true) (M.out.2.2.2.2.2.2.2.2.2.2.2.2.2.1) (M.out.2.2.2.2.2.2.2.2.2.2.2.2.1) (by omega) (by omega) (fun x_ hx_ => ⟨(HZl_238.out x_ hx_).1.mono (by omega), (HZl_238.out x_ hx_).2.mono (by omega)⟩) (fun x_ hx_ => ⟨(HZl_244.out x_ hx_).1.mono (by omega), (HZl_244.out x_ hx_).2.mono (by omega)⟩) (decide_eq_true (by rw [hu240.out, hu246.out]))).mono ?_
       rintro e w19 ⟨rfl, hb⟩
       replace M := gnM hb M
       clear hb
       go_wp2_with fail
       refine (reAll (G := G) (key := key) (l := l) (Nat.le_trans hG (M.out.2.2.2.2.2.2.2.2.2.2.2.2.2.2.2).size) (HC0.out.keep (M.out.2.2.2.2.2.2.2.2.2.2.2.2.2.2.2)) HOK.out (fun x_ hx_ => ⟨(HZ3.out x_ hx_).1.mono (by omega), (HZ3.out x_ hx_).2.mono (by omega)⟩)).mono ?_
       rintro e w20 ⟨a_291, n_292, c_293, l_294, rfl, hd295, hu296, hb⟩
       replace M := adM hd295 hb M
       clear hb hd295
       replace hu296 := Lib.hid hu296
       have HZl_294 : Hid (FzL l_294 3) := (HZ3.out.fzs.all).fzl hu296.out
       have hn_l_294 : n_292 ≤ 1000000 := by have h_ := all_len hu296.out; rw [((M.out.1)).len, HC0.out.len] at h_; omega
       go_wp2_with fail
       refine (rAll (G := G) (key := key) (l := l) (ls := ls) (Nat.le_trans hG (M.out.2.2.2.2.2.2.2.2.2.2.2.2.2.2.2.2).size) (HC0.out.keep (M.out.2.2.2.2.2.2.2.2.2.2.2.2.2.2.2.2)) (HR0.out.keep (M.out.2.2.2.2.2.2.2.2.2.2.2.2.2.2.2.2)) HSM.out Hrt.out HOK.out (fun x_ hx_ => ⟨(HZ3.out x_ hx_).1.mono (by omega), (HZ3.out x_ hx_).2.mono (by omega)⟩)).mono ?_
       rintro e w21 ⟨a_297, n_298, c_299, l_300, rfl, hd301, hu302, hb⟩
       replace M := adM hd301 hb M
       clear hb hd301
       replace hu302 := Lib.hid hu302
       have HZl_300 : Hid (FzL l_300 3) := (HZ3.out.fzs.all).fzl hu302.out
       have hn_l_300 : n_298 ≤ 1000000 := by have h_ := all_len hu302.out; rw [((M.out.1)).len, HC0.out.len] at h_; omega
       go_wp2_with fail
       refine (reSame (G := G) (l := l_294) (m := l_300) (b_ := true) (M.out.2.1) (M.out.1) (by omega) (by omega) (fun x_ hx_ => ⟨(HZl_294.out x_ hx_).1.mono (by omega), (HZl_294.out x_ hx_).2.mono (by omega)⟩) (fun x_ hx_ => ⟨(HZl_300.out x_ hx_).1.mono (by omega), (HZl_300.out x_ hx_).2.mono (by omega)⟩) (decide_eq_true (by rw [hu296.out, hu302.out]))).mono ?_
       rintro e w22 ⟨rfl, hb⟩
       replace M := gnM hb M
       clear hb
       refine cj10 (M.out.2.2.2.2.2.2.2.2.2.2.2.2.2.1).d10 fun p1_0 p1_1 p1_2 p1_3 p1_4 p1_5 p1_6 p1_7 p1_8 p1_9 => ?_
       have z1 : w7.heap.size < w22.heap.size := (M.out.2.2.2.2.2.2.2.2.2.2.2.2.2.1).lt
       refine cj10 (M.out.2.2.2.2.2.2.2.2.2.1).d10 fun p3_0 p3_1 p3_2 p3_3 p3_4 p3_5 p3_6 p3_7 p3_8 p3_9 => ?_
       have z3 : w11.heap.size < w22.heap.size := (M.out.2.2.2.2.2.2.2.2.2.1).lt
       refine cj10 (M.out.2.2.2.2.2.2.2.2.2.2.2.2.1).d10 fun p2_0 p2_1 p2_2 p2_3 p2_4 p2_5 p2_6 p2_7 p2_8 p2_9 => ?_
       have z2 : w9.heap.size < w22.heap.size := (M.out.2.2.2.2.2.2.2.2.2.2.2.2.1).lt
       refine cj10 (M.out.2.2.2.2.2.2.1).d10 fun p4_0 p4_1 p4_2 p4_3 p4_4 p4_5 p4_6 p4_7 p4_8 p4_9 => ?_
       have z4 : w13.heap.size < w22.heap.size := (M.out.2.2.2.2.2.2.1).lt
       go_wp2_with fail
       clear p1_0 p1_1 p1_2 p1_3 p1_4 p1_5 p1_6 p1_7 p1_8 p1_9 z1 p3_0 p3_1 p3_2 p3_3 p3_4 p3_5 p3_6 p3_7 p3_8 p3_9 z3 p2_0 p2_1 p2_2 p2_3 p2_4 p2_5 p2_6 p2_7 p2_8 p2_9 z2 p4_0 p4_1 p4_2 p4_3 p4_4 p4_5 p4_6 p4_7 p4_8 p4_9 z4
       refine nmW ((w22.alloc (.cells #[.string (⟨#[]⟩), .int .i64 0, .int .i64 0, .slice none 0 0, .int .i64 0, .slice none 0 0, .int .i64 0, .slice none 0 0, .int .i64 0, .slice none 0 0, .string zk, .int .i64 zn, x_247, x_248, x_249, x_250, x_251, x_252, x_253, x_254] 37)).alloc (.cells #[.string (⟨#[]⟩), .int .i64 0, .int .i64 0, .slice none 0 0, .int .i64 0, .slice none 0 0, .int .i64 0, .slice none 0 0, .int .i64 0, .slice none 0 0, .string zk, .int .i64 zn, x_257, x_258, x_259, x_260, x_261, x_262, x_263, x_264] 37)) fun w23 hv => ?_
       rw [← hv]
       have ow5_ : w13.heap.size < w22.heap.size := ((M.out.2.2.2.2.2.2.1)).lt
       have hbx := bx2 w22 37 37 #[.string (⟨#[]⟩), .int .i64 0, .int .i64 0, .slice none 0 0, .int .i64 0, .slice none 0 0, .int .i64 0, .slice none 0 0, .int .i64 0, .slice none 0 0, .string zk, .int .i64 zn, x_247, x_248, x_249, x_250, x_251, x_252, x_253, x_254] #[.string (⟨#[]⟩), .int .i64 0, .int .i64 0, .slice none 0 0, .int .i64 0, .slice none 0 0, .int .i64 0, .slice none 0 0, .int .i64 0, .slice none 0 0, .string zk, .int .i64 zn, x_257, x_258, x_259, x_260, x_261, x_262, x_263, x_264]
       rw [← hv] at hbx
       have hbn : Below w22.heap.size w22 w23 := by rw [hv]; exact (Below.alloc (Below.alloc (Below.refl _ _) (by simp <;> omega) _) (by simp <;> omega) _)
       replace M := Lib.hid (And.intro hbx.2 (And.intro hbx.1 (Goes.go M.out hbn)))
       clear hbx hbn
       clear hv
       replace M := Lib.hid (And.intro (M.out.1) (And.intro (M.out.2.1) (And.intro (M.out.2.2.1) (And.intro (M.out.2.2.2.1) (And.intro (M.out.2.2.2.2.1) (And.intro (M.out.2.2.2.2.2.1) (And.intro (M.out.2.2.2.2.2.2.1) (And.intro (M.out.2.2.2.2.2.2.2.1) (And.intro (M.out.2.2.2.2.2.2.2.2.2.1) (And.intro (M.out.2.2.2.2.2.2.2.2.2.2.1) (And.intro (M.out.2.2.2.2.2.2.2.2.2.2.2.2.1) (And.intro (M.out.2.2.2.2.2.2.2.2.2.2.2.2.2.1) (And.intro (M.out.2.2.2.2.2.2.2.2.2.2.2.2.2.2.2.2.1) (And.intro (M.out.2.2.2.2.2.2.2.2.2.2.2.2.2.2.2.2.2.1) (M.out.2.2.2.2.2.2.2.2.2.2.2.2.2.2.2.2.2.2.2)))))))))))))))
       obtain ⟨ll303, h_⟩ : ∃ l_ : List SQ, l_ = [zeroE, ⟨zk, zn, x_247, x_248, x_249, x_250, some zq, x_251, x_252, x_253, x_254, some zr⟩] := ⟨_, rfl⟩
       have Ell303 := Lib.hid h_; clear h_
       obtain ⟨ll304, h_⟩ : ∃ l_ : List SQ, l_ = [zeroE, ⟨zk, zn, x_257, x_258, x_259, x_260, some zq, x_261, x_262, x_263, x_264, some zr⟩] := ⟨_, rfl⟩
       have Ell304 := Lib.hid h_; clear h_
       refine (reSame_o (G := G) (l := ll303) (m := ll304) (b_ := true) (by rw [Ell303.out]; exact RdL.of (OwB.new (α := SQ) (M.out.2.1) rfl hG (show w.heap.size ≤ _ by omega) (oq_pair (x := zeroE) (y := ⟨zk, zn, x_247, x_248, x_249, x_250, some zq, x_251, x_252, x_253, x_254, some zr⟩) zeroE_ok ⟨(M.out.2.2.2.2.2.2.2.2.2.2.1), (M.out.2.2.2.2.2.2.2.2.2.2.2.1)⟩)).rd rfl (by omega)) (by rw [Ell304.out]; exact RdL.of (OwB.new (α := SQ) (M.out.1) rfl hG (show w.heap.size ≤ _ by omega) (oq_pair (x := zeroE) (y := ⟨zk, zn, x_257, x_258, x_259, x_260, some zq, x_261, x_262, x_263, x_264, some zr⟩) zeroE_ok ⟨(M.out.2.2.2.2.2.2.2.2.1), (M.out.2.2.2.2.2.2.2.2.2.1)⟩)).rd rfl (by omega)) (by decide) (by decide) (by rw [Ell303.out]; exact oz_pair ⟨Oz.none_, Oz.none_⟩ ⟨(Oz.some_ HZz1.out).mono (by omega), (Oz.some_ HZz2.out).mono (by omega)⟩) (by rw [Ell304.out]; exact oz_pair ⟨Oz.none_, Oz.none_⟩ ⟨(Oz.some_ HZz1.out).mono (by omega), (Oz.some_ HZz2.out).mono (by omega)⟩) (decide_eq_true (by rw [Ell303.out, Ell304.out] <;> rfl))).mono ?_
       rintro e w24 ⟨rfl, hb⟩
       replace M := gnM hb M
       clear hb
       go_wp2_with fail
       replace M := Lib.hid (And.intro (M.out.2.2.1) (And.intro (M.out.2.2.2.1) (And.intro (M.out.2.2.2.2.1) (And.intro (M.out.2.2.2.2.2.1) (And.intro (M.out.2.2.2.2.2.2.1) (And.intro (M.out.2.2.2.2.2.2.2.1) (And.intro (M.out.2.2.2.2.2.2.2.2.2.2.2.2.1) (And.intro (M.out.2.2.2.2.2.2.2.2.2.2.2.2.2.1) (M.out.2.2.2.2.2.2.2.2.2.2.2.2.2.2)))))))))
       refine (reSamePt (G := G) (l := l_270) (m := l_282) (b_ := true) (M.out.2.2.2.2.1) (M.out.2.2.1) (by omega) (by omega) (fun x_ hx_ => (HZl_270.out x_ hx_).mono (by omega)) (fun x_ hx_ => (HZl_282.out x_ hx_).mono (by omega)) (decide_eq_true (by rw [hu277.out, hu289.out]))).mono ?_
       rintro e w25 ⟨rfl, hb⟩
       replace M := gnM hb M
       clear hb
       go_wp2_with fail
       refine (reSamePt (G := G) (l := l_274) (m := l_286) (b_ := true) (M.out.2.2.2.2.2.1) (M.out.2.2.2.1) (by omega) (by omega) (fun x_ hx_ => (HZl_274.out x_ hx_).mono (by omega)) (fun x_ hx_ => (HZl_286.out x_ hx_).mono (by omega)) (decide_eq_true (by rw [hu278.out, hu290.out]))).mono ?_
       rintro e w26 ⟨rfl, hb⟩
       replace M := gnM hb M
       clear hb
       go_wp2_with fail
       go_ret
       exact ⟨rfl, (M.out.2.2.2.2.2.2.2.2)⟩
      ·
       have HA1 := Lib.hid ha1; have HA2 := Lib.hid ha2
       have hz_ := HZ3.out.fzs _ (lastK_mem ha2).1
       have HZz1 : Hid (Fz zq 3) := hz_.1; have HZz2 : Hid (Fz zr 3) := hz_.2; clear hz_
       have hz_ := HZ3.out.fzs.all _ (atF_mem ha1)
       have HZy1 : Hid (Fz yq 3) := hz_.1; have HZy2 : Hid (Fz yr 3) := hz_.2; clear hz_ ha1 ha2
       refine cj8 (M.out.1).d8 fun p0_0 p0_1 p0_2 p0_3 p0_4 p0_5 p0_6 p0_7 => ?_
       go_wp2_with fail
       clear p0_0 p0_1 p0_2 p0_3 p0_4 p0_5 p0_6 p0_7
       refine (reShow_c (G := G) (key := key) (note := note) (q := q) (r := r) (er := er) (rs := rs) (l := l) (Nat.le_trans hG (M.out.2).size) (HC0.out.keep (M.out.2)) HOK.out (fun x_ hx_ => ⟨(HZ3.out x_ hx_).1.mono (by omega), (HZ3.out x_ hx_).2.mono (by omega)⟩) (HQq.out.keep (M.out.2)) (HQr.out.keep (M.out.2)) (Fz.mono HZq.out (by omega)) (Fz.mono HZr.out (by omega)) HOS.out HSH.out).mono ?_
       rintro e w5 ⟨a_305, n_306, c_307, l_308, rfl, hd309, hu310, hb⟩
       replace M := adM hd309 hb M
       clear hb hd309
       replace hu310 := Lib.hid hu310
       have HZl_308 : Hid (FzL l_308 3) := HSA.out.1.fzl hu310.out
       have hn_l_308 : n_306 ≤ 1000000 := by have h_ := map_len hu310.out ((M.out.1)).len; have h2_ := HSA.out.2; rw [← h_, List.length_map, HC0.out.len] at h2_; omega
       refine cj8 (M.out.2.1).d8 fun p0_0 p0_1 p0_2 p0_3 p0_4 p0_5 p0_6 p0_7 => ?_
       go_wp2_with fail
       clear p0_0 p0_1 p0_2 p0_3 p0_4 p0_5 p0_6 p0_7
       refine (rShow_c (G := G) (key := key) (note := note) (q := q) (r := r) (er := er) (rs := rs) (l := l) (ls := ls) (Nat.le_trans hG (M.out.2.2).size) (HC0.out.keep (M.out.2.2)) (HR0.out.keep (M.out.2.2)) HSM.out Hrt.out HOK.out (fun x_ hx_ => ⟨(HZ3.out x_ hx_).1.mono (by omega), (HZ3.out x_ hx_).2.mono (by omega)⟩) HLL.out (H1.out.keep (M.out.2.2)) (H2.out.keep (M.out.2.2)) HF1.out HF2.out (HQq.out.keep (M.out.2.2)) (HQr.out.keep (M.out.2.2)) (Fz.mono HZq.out (by omega)) (Fz.mono HZr.out (by omega)) (by omega) HOS.out HSH.out).mono ?_
       rintro e w6 ⟨a_311, n_312, c_313, l_314, rfl, hd315, hu316, hb⟩
       replace M := adM hd315 hb M
       clear hb hd315
       replace hu316 := Lib.hid hu316
       have HZl_314 : Hid (FzL l_314 3) := HSA.out.1.fzl hu316.out
       have hn_l_314 : n_312 ≤ 1000000 := by have h_ := map_len hu316.out ((M.out.1)).len; have h2_ := HSA.out.2; rw [← h_, List.length_map, HC0.out.len] at h2_; omega
       go_wp2_with fail
       refine (reAt_some (G := G) (key := key) (yk := yk) (nt := note) (yn := yn) (yq := yq) (yr := yr) (l := l) (Nat.le_trans hG (M.out.2.2.2).size) (HC0.out.keep (M.out.2.2.2)) HOK.out (fun x_ hx_ => ⟨(HZ3.out x_ hx_).1.mono (by omega), (HZ3.out x_ hx_).2.mono (by omega)⟩) HA1.out).mono ?_
       rintro e w7 ⟨x_317, x_318, x_319, x_320, x_321, x_322, x_323, x_324, rfl, hd325, hd326, hb⟩
       replace M := ad2M hd325 hd326 hb M
       clear hb hd325 hd326
       refine cj4 (TQ.st (M.out.1)) fun st_x_317 st_x_318 st_x_319 st_x_320 => ?_
       refine cj4 (TQ.st (M.out.2.1)) fun st_x_321 st_x_322 st_x_323 st_x_324 => ?_
       go_upto_region 7 with fail
       clear st_x_317 st_x_318 st_x_319 st_x_320 st_x_321 st_x_322 st_x_323 st_x_324
       refine nmW (w7.alloc (.cells #[.string yk, .int .i64 yn, x_317, x_318, x_319, x_320, x_321, x_322, x_323, x_324] 37)) fun w8 hv => ?_
       rw [← hv]
       have ow1_ : w.heap.size < w7.heap.size := ((M.out.2.2.2.2.1)).lt
       replace M := alM hv M
       clear hv
       go_wp2_with fail
       refine (rAt_some (G := G) (key := key) (yk := yk) (nt := note) (yn := yn) (yq := yq) (yr := yr) (l := l) (ls := ls) (Nat.le_trans hG (M.out.2.2.2.2.2.2).size) (HC0.out.keep (M.out.2.2.2.2.2.2)) (HR0.out.keep (M.out.2.2.2.2.2.2)) HSM.out Hrt.out HOK.out (fun x_ hx_ => ⟨(HZ3.out x_ hx_).1.mono (by omega), (HZ3.out x_ hx_).2.mono (by omega)⟩) HA1.out).mono ?_
       rintro e w9 ⟨x_327, x_328, x_329, x_330, x_331, x_332, x_333, x_334, rfl, hd335, hd336, hb⟩
       replace M := ad2M hd335 hd336 hb M
       clear hb hd335 hd336
       refine cj4 (TQ.st (M.out.1)) fun st_x_327 st_x_328 st_x_329 st_x_330 => ?_
       refine cj4 (TQ.st (M.out.2.1)) fun st_x_331 st_x_332 st_x_333 st_x_334 => ?_
       go_upto_region 8 with fail
       clear st_x_327 st_x_328 st_x_329 st_x_330 st_x_331 st_x_332 st_x_333 st_x_334
       refine nmW (w9.alloc (.cells #[.string yk, .int .i64 yn, x_327, x_328, x_329, x_330, x_331, x_332, x_333, x_334] 37)) fun w10 hv => ?_
       rw [← hv]
       have ow2_ : w7.heap.size < w9.heap.size := ((M.out.2.2.1)).lt
       replace M := alM hv M
       clear hv
       go_wp2_with fail
       refine (reLast_some (G := G) (key := key) (yk := zk) (yn := zn) (yq := zq) (yr := zr) (l := l) (Nat.le_trans hG (M.out.2.2.2.2.2.2.2.2.2).size) (HC0.out.keep (M.out.2.2.2.2.2.2.2.2.2)) HOK.out (fun x_ hx_ => ⟨(HZ3.out x_ hx_).1.mono (by omega), (HZ3.out x_ hx_).2.mono (by omega)⟩) HA2.out).mono ?_
       rintro e w11 ⟨x_337, x_338, x_339, x_340, x_341, x_342, x_343, x_344, rfl, hd345, hd346, hb⟩
       replace M := ad2M hd345 hd346 hb M
       clear hb hd345 hd346
       refine cj4 (TQ.st (M.out.1)) fun st_x_337 st_x_338 st_x_339 st_x_340 => ?_
       refine cj4 (TQ.st (M.out.2.1)) fun st_x_341 st_x_342 st_x_343 st_x_344 => ?_
       go_upto_region 9 with fail
       clear st_x_337 st_x_338 st_x_339 st_x_340 st_x_341 st_x_342 st_x_343 st_x_344
       refine nmW (w11.alloc (.cells #[.string zk, .int .i64 zn, x_337, x_338, x_339, x_340, x_341, x_342, x_343, x_344] 37)) fun w12 hv => ?_
       rw [← hv]
       have ow3_ : w9.heap.size < w11.heap.size := ((M.out.2.2.1)).lt
       replace M := alM hv M
       clear hv
       go_wp2_with fail
       refine (rLast_some (G := G) (key := key) (yk := zk) (yn := zn) (yq := zq) (yr := zr) (l := l) (ls := ls) (Nat.le_trans hG (M.out.2.2.2.2.2.2.2.2.2.2.2.2).size) (HC0.out.keep (M.out.2.2.2.2.2.2.2.2.2.2.2.2)) (HR0.out.keep (M.out.2.2.2.2.2.2.2.2.2.2.2.2)) HSM.out Hrt.out HOK.out (fun x_ hx_ => ⟨(HZ3.out x_ hx_).1.mono (by omega), (HZ3.out x_ hx_).2.mono (by omega)⟩) HA2.out).mono ?_
       rintro e w13 ⟨x_347, x_348, x_349, x_350, x_351, x_352, x_353, x_354, rfl, hd355, hd356, hb⟩
       replace M := ad2M hd355 hd356 hb M
       clear hb hd355 hd356
       refine cj4 (TQ.st (M.out.1)) fun st_x_347 st_x_348 st_x_349 st_x_350 => ?_
       refine cj4 (TQ.st (M.out.2.1)) fun st_x_351 st_x_352 st_x_353 st_x_354 => ?_
       go_upto_region 10 with fail
       clear st_x_347 st_x_348 st_x_349 st_x_350 st_x_351 st_x_352 st_x_353 st_x_354
       refine nmW (w13.alloc (.cells #[.string zk, .int .i64 zn, x_347, x_348, x_349, x_350, x_351, x_352, x_353, x_354] 37)) fun w14 hv => ?_
       rw [← hv]
       have ow4_ : w11.heap.size < w13.heap.size := ((M.out.2.2.1)).lt
       replace M := alM hv M
       clear hv
       go_wp2_with fail
       refine (reDeltas_c (G := G) (key := key) (l := l) (Nat.le_trans hG (M.out.2.2.2.2.2.2.2.2.2.2.2.2.2.2.2).size) (HC0.out.keep (M.out.2.2.2.2.2.2.2.2.2.2.2.2.2.2.2)) HOK.out (fun x_ hx_ => ⟨(HZ3.out x_ hx_).1.mono (by omega), (HZ3.out x_ hx_).2.mono (by omega)⟩)).mono ?_
       rintro e w15 ⟨a_357, n_358, c_359, l_360, a_361, n_362, c_363, l_364, rfl, hd365, hd366, hu367, hu368, hb⟩
       replace M := ad2M hd365 hd366 hb M
       clear hb hd365 hd366
       replace hu367 := Lib.hid hu367
       replace hu368 := Lib.hid hu368
       have HZl_360 : Hid (FzQ l_360 201) := FzQ.of_map hu367.out (fun q_ hq_ => ((HZ3.out.fzs.all.dif_lo q_ hq_).mono (by omega)))
       have hn_l_360 : n_358 ≤ 1000000 := by have h_ := congrArg List.length hu367.out; rw [List.length_map, dif_len, ((M.out.1)).len] at h_; have h2_ : (allF (l.map SC.sh) key).length ≤ (l.map SC.sh).length := List.length_filter_le _ _; rw [List.length_map, HC0.out.len] at h2_; omega
       have HZl_364 : Hid (FzQ l_364 201) := FzQ.of_map hu368.out (fun q_ hq_ => ((HZ3.out.fzs.all.dif_hi q_ hq_).mono (by omega)))
       have hn_l_364 : n_362 ≤ 1000000 := by have h_ := congrArg List.length hu368.out; rw [List.length_map, dif_len, ((M.out.2.1)).len] at h_; have h2_ : (allF (l.map SC.sh) key).length ≤ (l.map SC.sh).length := List.length_filter_le _ _; rw [List.length_map, HC0.out.len] at h2_; omega
       go_wp2_with fail
       refine (rDeltas_c (G := G) (key := key) (l := l) (ls := ls) (Nat.le_trans hG (M.out.2.2.2.2.2.2.2.2.2.2.2.2.2.2.2.2.2).size) (HC0.out.keep (M.out.2.2.2.2.2.2.2.2.2.2.2.2.2.2.2.2.2)) (HR0.out.keep (M.out.2.2.2.2.2.2.2.2.2.2.2.2.2.2.2.2.2)) HSM.out Hrt.out HOK.out (fun x_ hx_ => ⟨(HZ3.out x_ hx_).1.mono (by omega), (HZ3.out x_ hx_).2.mono (by omega)⟩)).mono ?_
       rintro e w16 ⟨a_369, n_370, c_371, l_372, a_373, n_374, c_375, l_376, rfl, hd377, hd378, hu379, hu380, hb⟩
       replace M := ad2M hd377 hd378 hb M
       clear hb hd377 hd378
       replace hu379 := Lib.hid hu379
       replace hu380 := Lib.hid hu380
       have HZl_372 : Hid (FzQ l_372 201) := FzQ.of_map hu379.out (fun q_ hq_ => ((HZ3.out.fzs.all.dif_lo q_ hq_).mono (by omega)))
       have hn_l_372 : n_370 ≤ 1000000 := by have h_ := congrArg List.length hu379.out; rw [List.length_map, dif_len, ((M.out.1)).len] at h_; have h2_ : (allF (l.map SC.sh) key).length ≤ (l.map SC.sh).length := List.length_filter_le _ _; rw [List.length_map, HC0.out.len] at h2_; omega
       have HZl_376 : Hid (FzQ l_376 201) := FzQ.of_map hu380.out (fun q_ hq_ => ((HZ3.out.fzs.all.dif_hi q_ hq_).mono (by omega)))
       have hn_l_376 : n_374 ≤ 1000000 := by have h_ := congrArg List.length hu380.out; rw [List.length_map, dif_len, ((M.out.2.1)).len] at h_; have h2_ : (allF (l.map SC.sh) key).length ≤ (l.map SC.sh).length := List.length_filter_le _ _; rw [List.length_map, HC0.out.len] at h2_; omega
       go_wp2_with fail
       refine (reRight_g (G := G) (l := ls) (b_ := true) (Nat.le_trans hG (M.out.2.2.2.2.2.2.2.2.2.2.2.2.2.2.2.2.2.2.2).size) (HR0.out.keep (M.out.2.2.2.2.2.2.2.2.2.2.2.2.2.2.2.2.2.2.2)) (by omega) HSM.out Hrt.out).mono ?_
       rintro e w17 ⟨rfl, hb⟩
       replace M := gnM hb M
       clear hb
       go_wp2_with fail
       refine (rRight_g (G := G) (l := ls) (b_ := true) (Nat.le_trans hG (M.out.2.2.2.2.2.2.2.2.2.2.2.2.2.2.2.2.2.2.2).size) (HR0.out.keep (M.out.2.2.2.2.2.2.2.2.2.2.2.2.2.2.2.2.2.2.2)) (by omega) HSM.out Hrt.out).mono ?_
       rintro e w18 ⟨rfl, hb⟩
       replace M := gnM hb M
       clear hb
       go_wp2_with fail
       refine (reSame (G := G) (l := l_308) (m := l_314) (b_ := true) (M.out.2.2.2.2.2.2.2.2.2.2.2.2.2.2.2.2.2.1) (M.out.2.2.2.2.2.2.2.2.2.2.2.2.2.2.2.2.1) (by omega) (by omega) (fun x_ hx_ => ⟨(HZl_308.out x_ hx_).1.mono (by omega), (HZl_308.out x_ hx_).2.mono (by omega)⟩) (fun x_ hx_ => ⟨(HZl_314.out x_ hx_).1.mono (by omega), (HZl_314.out x_ hx_).2.mono (by omega)⟩) (decide_eq_true (by rw [hu310.out, hu316.out]))).mono ?_
       rintro e w19 ⟨rfl, hb⟩
       replace M := gnM hb M
       clear hb
       go_wp2_with fail
       refine (reAll (G := G) (key := key) (l := l) (Nat.le_trans hG (M.out.2.2.2.2.2.2.2.2.2.2.2.2.2.2.2.2.2.2.2).size) (HC0.out.keep (M.out.2.2.2.2.2.2.2.2.2.2.2.2.2.2.2.2.2.2.2)) HOK.out (fun x_ hx_ => ⟨(HZ3.out x_ hx_).1.mono (by omega), (HZ3.out x_ hx_).2.mono (by omega)⟩)).mono ?_
       rintro e w20 ⟨a_381, n_382, c_383, l_384, rfl, hd385, hu386, hb⟩
       replace M := adM hd385 hb M
       clear hb hd385
       replace hu386 := Lib.hid hu386
       have HZl_384 : Hid (FzL l_384 3) := (HZ3.out.fzs.all).fzl hu386.out
       have hn_l_384 : n_382 ≤ 1000000 := by have h_ := all_len hu386.out; rw [((M.out.1)).len, HC0.out.len] at h_; omega
       go_wp2_with fail
       refine (rAll (G := G) (key := key) (l := l) (ls := ls) (Nat.le_trans hG (M.out.2.2.2.2.2.2.2.2.2.2.2.2.2.2.2.2.2.2.2.2).size) (HC0.out.keep (M.out.2.2.2.2.2.2.2.2.2.2.2.2.2.2.2.2.2.2.2.2)) (HR0.out.keep (M.out.2.2.2.2.2.2.2.2.2.2.2.2.2.2.2.2.2.2.2.2)) HSM.out Hrt.out HOK.out (fun x_ hx_ => ⟨(HZ3.out x_ hx_).1.mono (by omega), (HZ3.out x_ hx_).2.mono (by omega)⟩)).mono ?_
       rintro e w21 ⟨a_387, n_388, c_389, l_390, rfl, hd391, hu392, hb⟩
       replace M := adM hd391 hb M
       clear hb hd391
       replace hu392 := Lib.hid hu392
       have HZl_390 : Hid (FzL l_390 3) := (HZ3.out.fzs.all).fzl hu392.out
       have hn_l_390 : n_388 ≤ 1000000 := by have h_ := all_len hu392.out; rw [((M.out.1)).len, HC0.out.len] at h_; omega
       go_wp2_with fail
       refine (reSame (G := G) (l := l_384) (m := l_390) (b_ := true) (M.out.2.1) (M.out.1) (by omega) (by omega) (fun x_ hx_ => ⟨(HZl_384.out x_ hx_).1.mono (by omega), (HZl_384.out x_ hx_).2.mono (by omega)⟩) (fun x_ hx_ => ⟨(HZl_390.out x_ hx_).1.mono (by omega), (HZl_390.out x_ hx_).2.mono (by omega)⟩) (decide_eq_true (by rw [hu386.out, hu392.out]))).mono ?_
       rintro e w22 ⟨rfl, hb⟩
       replace M := gnM hb M
       clear hb
       refine cj10 (M.out.2.2.2.2.2.2.2.2.2.2.2.2.2.2.2.1).d10 fun p1_0 p1_1 p1_2 p1_3 p1_4 p1_5 p1_6 p1_7 p1_8 p1_9 => ?_
       have z1 : w7.heap.size < w22.heap.size := (M.out.2.2.2.2.2.2.2.2.2.2.2.2.2.2.2.1).lt
       refine cj10 (M.out.2.2.2.2.2.2.2.2.2.1).d10 fun p3_0 p3_1 p3_2 p3_3 p3_4 p3_5 p3_6 p3_7 p3_8 p3_9 => ?_
       have z3 : w11.heap.size < w22.heap.size := (M.out.2.2.2.2.2.2.2.2.2.1).lt
       refine cj10 (M.out.2.2.2.2.2.2.2.2.2.2.2.2.1).d10 fun p2_0 p2_1 p2_2 p2_3 p2_4 p2_5 p2_6 p2_7 p2_8 p2_9 => ?_
       have z2 : w9.heap.size < w22.heap.size := (M.out.2.2.2.2.2.2.2.2.2.2.2.2.1).lt
       refine cj10 (M.out.2.2.2.2.2.2.1).d10 fun p4_0 p4_1 p4_2 p4_3 p4_4 p4_5 p4_6 p4_7 p4_8 p4_9 => ?_
       have z4 : w13.heap.size < w22.heap.size := (M.out.2.2.2.2.2.2.1).lt
       go_wp2_with fail
       clear p1_0 p1_1 p1_2 p1_3 p1_4 p1_5 p1_6 p1_7 p1_8 p1_9 z1 p3_0 p3_1 p3_2 p3_3 p3_4 p3_5 p3_6 p3_7 p3_8 p3_9 z3 p2_0 p2_1 p2_2 p2_3 p2_4 p2_5 p2_6 p2_7 p2_8 p2_9 z2 p4_0 p4_1 p4_2 p4_3 p4_4 p4_5 p4_6 p4_7 p4_8 p4_9 z4
       refine nmW ((w22.alloc (.cells #[.string yk, .int .i64 yn, x_317, x_318, x_319, x_320, x_321, x_322, x_323, x_324, .string zk, .int .i64 zn, x_337, x_338, x_339, x_340, x_341, x_342, x_343, x_344] 37)).alloc (.cells #[.string yk, .int .i64 yn, x_327, x_328, x_329, x_330, x_331, x_332, x_333, x_334, .string zk, .int .i64 zn, x_347, x_348, x_349, x_350, x_351, x_352, x_353, x_354] 37)) fun w23 hv => ?_
       rw [← hv]
       have ow5_ : w13.heap.size < w22.heap.size := ((M.out.2.2.2.2.2.2.1)).lt
       have hbx := bx2 w22 37 37 #[.string yk, .int .i64 yn, x_317, x_318, x_319, x_320, x_321, x_322, x_323, x_324, .string zk, .int .i64 zn, x_337, x_338, x_339, x_340, x_341, x_342, x_343, x_344] #[.string yk, .int .i64 yn, x_327, x_328, x_329, x_330, x_331, x_332, x_333, x_334, .string zk, .int .i64 zn, x_347, x_348, x_349, x_350, x_351, x_352, x_353, x_354]
       rw [← hv] at hbx
       have hbn : Below w22.heap.size w22 w23 := by rw [hv]; exact (Below.alloc (Below.alloc (Below.refl _ _) (by simp <;> omega) _) (by simp <;> omega) _)
       replace M := Lib.hid (And.intro hbx.2 (And.intro hbx.1 (Goes.go M.out hbn)))
       clear hbx hbn
       clear hv
       replace M := Lib.hid (And.intro (M.out.1) (And.intro (M.out.2.1) (And.intro (M.out.2.2.1) (And.intro (M.out.2.2.2.1) (And.intro (M.out.2.2.2.2.1) (And.intro (M.out.2.2.2.2.2.1) (And.intro (M.out.2.2.2.2.2.2.1) (And.intro (M.out.2.2.2.2.2.2.2.1) (And.intro (M.out.2.2.2.2.2.2.2.2.2.1) (And.intro (M.out.2.2.2.2.2.2.2.2.2.2.1) (And.intro (M.out.2.2.2.2.2.2.2.2.2.2.2.2.1) (And.intro (M.out.2.2.2.2.2.2.2.2.2.2.2.2.2.1) (And.intro (M.out.2.2.2.2.2.2.2.2.2.2.2.2.2.2.2.1) (And.intro (M.out.2.2.2.2.2.2.2.2.2.2.2.2.2.2.2.2.1) (And.intro (M.out.2.2.2.2.2.2.2.2.2.2.2.2.2.2.2.2.2.2.1) (And.intro (M.out.2.2.2.2.2.2.2.2.2.2.2.2.2.2.2.2.2.2.2.1) (And.intro (M.out.2.2.2.2.2.2.2.2.2.2.2.2.2.2.2.2.2.2.2.2.1) (And.intro (M.out.2.2.2.2.2.2.2.2.2.2.2.2.2.2.2.2.2.2.2.2.2.1) (M.out.2.2.2.2.2.2.2.2.2.2.2.2.2.2.2.2.2.2.2.2.2.2.2)))))))))))))))))))
       obtain ⟨ll393, h_⟩ : ∃ l_ : List SQ, l_ = [⟨yk, yn, x_317, x_318, x_319, x_320, some yq, x_321, x_322, x_323, x_324, some yr⟩, ⟨zk, zn, x_337, x_338, x_339, x_340, some zq, x_341, x_342, x_343, x_344, some zr⟩] := ⟨_, rfl⟩
       have Ell393 := Lib.hid h_; clear h_
       obtain ⟨ll394, h_⟩ : ∃ l_ : List SQ, l_ = [⟨yk, yn, x_327, x_328, x_329, x_330, some yq, x_331, x_332, x_333, x_334, some yr⟩, ⟨zk, zn, x_347, x_348, x_349, x_350, some zq, x_351, x_352, x_353, x_354, some zr⟩] := ⟨_, rfl⟩
       have Ell394 := Lib.hid h_; clear h_
       refine (reSame_o (G := G) (l := ll393) (m := ll394) (b_ := true) (by rw [Ell393.out]; exact RdL.of (OwB.new (α := SQ) (M.out.2.1) rfl hG (show w.heap.size ≤ _ by omega) (oq_pair (x := ⟨yk, yn, x_317, x_318, x_319, x_320, some yq, x_321, x_322, x_323, x_324, some yr⟩) (y := ⟨zk, zn, x_337, x_338, x_339, x_340, some zq, x_341, x_342, x_343, x_344, some zr⟩) ⟨(M.out.2.2.2.2.2.2.2.2.2.2.2.2.2.2.1), (M.out.2.2.2.2.2.2.2.2.2.2.2.2.2.2.2.1)⟩ ⟨(M.out.2.2.2.2.2.2.2.2.2.2.1), (M.out.2.2.2.2.2.2.2.2.2.2.2.1)⟩)).rd rfl (by omega)) (by rw [Ell394.out]; exact RdL.of (OwB.new (α := SQ) (M.out.1) rfl hG (show w.heap.size ≤ _ by omega) (oq_pair (x := ⟨yk, yn, x_327, x_328, x_329, x_330, some yq, x_331, x_332, x_333, x_334, some yr⟩) (y := ⟨zk, zn, x_347, x_348, x_349, x_350, some zq, x_351, x_352, x_353, x_354, some zr⟩) ⟨(M.out.2.2.2.2.2.2.2.2.2.2.2.2.1), (M.out.2.2.2.2.2.2.2.2.2.2.2.2.2.1)⟩ ⟨(M.out.2.2.2.2.2.2.2.2.1), (M.out.2.2.2.2.2.2.2.2.2.1)⟩)).rd rfl (by omega)) (by decide) (by decide) (by rw [Ell393.out]; exact oz_pair ⟨(Oz.some_ HZy1.out).mono (by omega), (Oz.some_ HZy2.out).mono (by omega)⟩ ⟨(Oz.some_ HZz1.out).mono (by omega), (Oz.some_ HZz2.out).mono (by omega)⟩) (by rw [Ell394.out]; exact oz_pair ⟨(Oz.some_ HZy1.out).mono (by omega), (Oz.some_ HZy2.out).mono (by omega)⟩ ⟨(Oz.some_ HZz1.out).mono (by omega), (Oz.some_ HZz2.out).mono (by omega)⟩) (decide_eq_true (by rw [Ell393.out, Ell394.out] <;> rfl))).mono ?_
       rintro e w24 ⟨rfl, hb⟩
       replace M := gnM hb M
       clear hb
       go_wp2_with fail
       replace M := Lib.hid (And.intro (M.out.2.2.1) (And.intro (M.out.2.2.2.1) (And.intro (M.out.2.2.2.2.1) (And.intro (M.out.2.2.2.2.2.1) (And.intro (M.out.2.2.2.2.2.2.1) (And.intro (M.out.2.2.2.2.2.2.2.1) (And.intro (M.out.2.2.2.2.2.2.2.2.2.2.2.2.2.2.2.2.1) (And.intro (M.out.2.2.2.2.2.2.2.2.2.2.2.2.2.2.2.2.2.1) (M.out.2.2.2.2.2.2.2.2.2.2.2.2.2.2.2.2.2.2)))))))))
       refine (reSamePt (G := G) (l := l_360) (m := l_372) (b_ := true) (M.out.2.2.2.2.1) (M.out.2.2.1) (by omega) (by omega) (fun x_ hx_ => (HZl_360.out x_ hx_).mono (by omega)) (fun x_ hx_ => (HZl_372.out x_ hx_).mono (by omega)) (decide_eq_true (by rw [hu367.out, hu379.out]))).mono ?_
       rintro e w25 ⟨rfl, hb⟩
       replace M := gnM hb M
       clear hb
       go_wp2_with fail
       refine (reSamePt (G := G) (l := l_364) (m := l_376) (b_ := true) (M.out.2.2.2.2.2.1) (M.out.2.2.2.1) (by omega) (by omega) (fun x_ hx_ => (HZl_364.out x_ hx_).mono (by omega)) (fun x_ hx_ => (HZl_376.out x_ hx_).mono (by omega)) (decide_eq_true (by rw [hu368.out, hu380.out]))).mono ?_
       rintro e w26 ⟨rfl, hb⟩
       replace M := gnM hb M
       clear hb
       go_wp2_with fail
       go_ret
       exact ⟨rfl, (M.out.2.2.2.2.2.2.2.2)⟩
  | true =>
   go_wp2_with fail
   go_ret
   exact ⟨rfl, (M.out.2)⟩
end Go.Proofs.Ytlpcblhkddmlnaa
