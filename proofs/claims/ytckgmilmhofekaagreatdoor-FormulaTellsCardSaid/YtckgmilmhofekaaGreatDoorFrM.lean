/- Walks: the reference's tokens of an expression, by its operation. -/
import Derived.Test.YtckgmilmhofekaaGreatDoorLexLaws
import Derived.Test.YtckgmilmhofekaaGreatDoorFoBack
import Derived.Test.YtckgmilmhofekaaGreatDoorBase
import Derived.Test.YtckgmilmhofekaaGreatDoorLexBytes
import Derived.Test.YtckgmilmhofekaaGreatDoorLexPrint
import Derived.Test.YtckgmilmhofekaaGreatDoorBigSpec
import Derived.Test.YtckgmilmhofekaaGreatDoorBigD
import Derived.Test.YtckgmilmhofekaaGreatDoorBigQ
import Derived.Test.YtckgmilmhofekaaGreatDoorFd
import Derived.Test.YtckgmilmhofekaaGreatDoorHeld
import Derived.Test.YtckgmilmhofekaaGreatDoorBigDec
import Derived.Test.YtckgmilmhofekaaGreatDoorRefA
import Derived.Test.YtckgmilmhofekaaGreatDoorOwn
import Derived.Test.YtckgmilmhofekaaGreatDoorFoWd
import Derived.Test.YtckgmilmhofekaaGreatDoorFoOx
import Derived.Test.YtckgmilmhofekaaGreatDoorFoCn
import Derived.Test.YtckgmilmhofekaaGreatDoorFoWl
import Derived.Test.YtckgmilmhofekaaGreatDoorFoSz
import Derived.Test.YtckgmilmhofekaaGreatDoorFoRt
import Derived.Test.YtckgmilmhofekaaGreatDoorLexRaw
import Derived.Test.YtckgmilmhofekaaGreatDoorFrD
import Derived.Test.YtckgmilmhofekaaGreatDoorFrH
import Derived.Test.YtckgmilmhofekaaGreatDoorProg
import Derived.Test.YtckgmilmhofekaaGreatDoorShelf
import Derived.WalkKit
import Derived.Lib.ItoaNum
import Derived.WalkSpells
import Derived.WalkLawsBesides
import Derived.Handy
import Derived.Lib.Hide
import Derived.Lib.Strings
import Derived.Lib.Builder
import Derived.Shelf.Strings.Builder1
import Derived.BigQuiet
import Derived.OwnWalk
import Derived.Laws.BitsLemmas
import Derived.WalkSmall
import Derived.Deep.QuietTactic
import Derived.StillTailTactics
import Derived.Maps.AppendAt
import Derived.IntWalk
import Derived.Deep.RegionHeld3
import Derived.Deep.DeepFit
import Derived.Deep.LoopGhost
import Derived.Deep.DeepCutAuto
import Derived.Lib.Repeat
import Derived.Lib.AppendIntMem
import Derived.Sort.OwnSorted
import Derived.Shelf.Strings.SlTrimAscii
import Derived.Lib.ConvBytes
import Derived.Lib.CutLaws
import Derived.ArgAppend
namespace Go.Proofs.YtckgmilmhofekaaGreatDoor
open Go.RowKit

theorem rscan_two (s : ByteArray) (w : World) (hs : s.size ≤ 137438953472) :
    (∀ ts, scanOut s.data.toList = .ok ts → Calls Tryz.prog 14 #[.string s] w fun e w' => ∃ p c, e = .returned (.tuple #[.slice p ts.length c, .int .i64 0, .int .i64 0]) ∧ ToksIn w' (.slice p ts.length c) ts ∧ Below w.heap.size w w' ∧ ∀ b o, p = some ⟨b, o, none⟩ → w.heap.size ≤ b ∧ b < w'.heap.size) ∧
    ∀ p x : Nat, scanOut s.data.toList = .error (p, x) → Calls Tryz.prog 14 #[.string s] w fun e w' => ∃ q d, e = .returned (.tuple #[.slice q 0 d, .int .i64 p, .int .i64 x]) ∧ ToksIn w' (.slice q 0 d) [] ∧ Below w.heap.size w w' ∧ ∀ b o, q = some ⟨b, o, none⟩ → w.heap.size ≤ b ∧ b < w'.heap.size := by
  refine ⟨fun ts h => ?_, fun p x h => ?_⟩
  · refine (refScan_any s w hs).mono ?_
    rw [h]
    rintro e w' ⟨v, rfl, ho, hb⟩
    obtain ⟨a, cap, rfl⟩ := (toksIn_own ho).shape
    refine ⟨a, cap, rfl, toksIn_own ho, hb, fun b o ha => ?_⟩
    rcases ho.2 with ⟨h1, h0⟩ | ⟨g, cap', cur, h1, hg, hh, _⟩
    · injection h1 with e1 e2 e3; subst e1; cases ha
    · injection h1 with e1 e2 e3; subst e1; cases ha; exact ⟨hg, lt_of_block hh⟩
  · refine (refScan_any s w hs).mono ?_
    rw [h]
    rintro e w' ⟨v, rfl, ho, hb⟩
    obtain ⟨a, cap, rfl⟩ := (toksIn_own (ts := []) ho).shape
    refine ⟨a, cap, rfl, toksIn_own (ts := []) ho, hb, fun b o ha => ?_⟩
    rcases ho.2 with ⟨h1, h0⟩ | ⟨g, cap', cur, h1, hg, hh, _⟩
    · injection h1 with e1 e2 e3; subst e1; cases ha
    · injection h1 with e1 e2 e3; subst e1; cases ha; exact ⟨hg, lt_of_block hh⟩
set_option maxRecDepth 100000 in
set_option maxHeartbeats 4000000 in
theorem rRead_ok {w : World} {p : Option Addr} {c : Nat} {ts : List Tok} {k : Nat} {ki : Int} (h : ToksIn w (.slice p ts.length c) ts) (hp : ∀ b o, p = some ⟨b, o, none⟩ → b < w.heap.size) (hlen : ts.length ≤ 1099511627776) (hk : k ≤ ts.length) (hki : ki = (k : Int)) (hw : hvT ts ≤ 9223372036854775807) :
  Calls Tryz.prog 16 #[.slice p ts.length c, .int .i64 ki] w (ReadPost ts k w) := by
 have HW := Lib.hid hw
 subst hki
 have H := Lib.hid h; have HP := Lib.hid hp; have HL := Lib.hid hlen; have HK0 := Lib.hid hk
 have B : Hid (Below w.heap.size w w) := be_refl w
 clear h hp hlen hk hw
 have h1 : ¬ ((ts.length : Int) < (k : Int)) := by have := HK0.out; omega
 have h2 : ¬ ((k : Int) < 0) := by omega
 go_enter Tryz.func16, Tryz.ntmps16
 go_upto_region 1 with fail
 refine nmW (w.alloc (.cells #[.int .i64 0, .int .i64 0, .string ⟨#[]⟩, .string ⟨#[]⟩, .slice none 0 0] 24)) fun w1 hv => ?_
 rw [← hv]
 have K := bxh hv
 have hb_ := bah hv
 clear hv
 have z1_ := K.out.lt
 replace B := Lib.hid (be_call B.out hb_)
 replace H := Lib.hid (H.out.keep hb_)
 have z2_ := hb_.size
 clear hb_
 go_wp2_with fail
 clear h1 h2
 refine (reok_all HL.out ((ts.drop k).length + 1) _ k _ rfl H.out (fun b o e => by have := HP.out b o e; omega) HK0.out (Nat.lt_succ_self _)).mono ?_
 rintro e w2 ⟨x, q, d, i, b, rfl, hf_, hb_, hk_, ho_⟩
 replace B := Lib.hid (be_call B.out hb_)
 replace H := Lib.hid (H.out.keep hb_)
 replace K := Lib.hid (K.out.keep hb_)
 have z3_ := hb_.size
 clear hb_
 have F := Lib.hid hf_; have ho := Lib.hid ho_; have HKi := Lib.hid hk_; clear hf_ ho_ hk_
 unfold hdC
 go_upto_region 4 with fail
 refine nmW (w2.alloc (.cells #[.int .i64 x.op, .int .i64 x.n, .string ⟨x.unit.toArray⟩, .string ⟨x.name.toArray⟩, .slice q x.args.len d] 24)) fun w3 hv => ?_
 rw [← hv]
 have L := bxh hv
 have hb_ := bah hv
 clear hv
 have z4_ := L.out.lt
 replace B := Lib.hid (be_call B.out hb_)
 replace H := Lib.hid (H.out.keep hb_)
 replace K := Lib.hid (K.out.keep hb_)
 replace F := Lib.hid (F.out.keep hb_)
 have z5_ := hb_.size
 clear hb_
 cases b with
 | true =>
  refine K.out.e5 fun pK_0 qK_0 pK_1 qK_1 pK_2 qK_2 pK_3 qK_3 pK_4 qK_4 => ?_
  go_wp2_with fail
  clear pK_0 qK_0 pK_1 qK_1 pK_2 qK_2 pK_3 qK_3 pK_4 qK_4
  refine nmW (((((w3.setCell ⟨w.heap.size, 0, none⟩ (.int .i64 0)).setCell ⟨w.heap.size, 1, none⟩ (.int .i64 0)).setCell ⟨w.heap.size, 2, none⟩ (.string ⟨#[]⟩)).setCell ⟨w.heap.size, 3, none⟩ (.string ⟨#[]⟩)).setCell ⟨w.heap.size, 4, none⟩ (.slice none 0 0)) fun w4 hv => ?_
  rw [← hv]
  have og_ : w3.grownBy w4 (some w.heap.size) := by rw [hv]; exact gs5
  have kb_ : Bx w4 w.heap.size 24 #[.int .i64 0, .int .i64 0, .string ⟨#[]⟩, .string ⟨#[]⟩, .slice none 0 0] := by rw [hv]; exact (((((K.out.set 0 _).set 1 _).set 2 _).set 3 _).set 4 _)
  clear hv
  replace B := Lib.hid (B.out.trans (gr_to og_ (by omega) B.out.size))
  replace H := Lib.hid (H.out.only og_ (fun b o e => by have := HP.out b o e; omega))
  replace K := Lib.hid kb_
  replace F := Lib.hid (F.out.grown og_ (fun hd => by have := hd.1; have := hd.2; omega))
  replace L := Lib.hid (L.out.only og_ (by omega))
  have z6_ := og_.size
  clear og_ kb_
  refine bodyPost_ret (results_box3 rfl _ _ w.heap.size 24 _ _ _ rfl K.out Tryz.underlying24 rfl (by kernel_rfl)) rfl ?_
  exact ⟨Ex.zero, none, 0, i, 12, rfl, FoS.nil, B.out, rdRes_bad (x := x) (by rw [gate_false]; exact ho.out) HKi.out⟩
 | false =>
  have HSX := Lib.hid (out_heavy (x := x) (k1 := i) (by rw [gate_false]; exact ho.out) HW.out)
  obtain ⟨r, hr⟩ : ∃ r, rightX x = r := ⟨_, rfl⟩
  have HR := Lib.hid hr; clear hr
  have HC := Lib.hid (rRight_ok HSX.out F.out HR.out)
  unfold hdC at HC
  refine L.out.q5 fun pL_0 pL_1 pL_2 pL_3 pL_4 => ?_
  go_wp2_with fail
  clear pL_0 pL_1 pL_2 pL_3 pL_4
  refine (HC.out).mono ?_
  rintro e w5 ⟨rfl, hb_⟩
  replace B := Lib.hid (be_call B.out hb_)
  replace H := Lib.hid (H.out.keep hb_)
  replace K := Lib.hid (K.out.keep hb_)
  replace F := Lib.hid (F.out.keep hb_)
  replace L := Lib.hid (L.out.keep hb_)
  have z7_ := hb_.size
  clear hb_
  clear HC
  cases r with
  | false =>
   refine K.out.e5 fun pK_0 qK_0 pK_1 qK_1 pK_2 qK_2 pK_3 qK_3 pK_4 qK_4 => ?_
   go_wp2_with fail
   clear pK_0 qK_0 pK_1 qK_1 pK_2 qK_2 pK_3 qK_3 pK_4 qK_4
   refine nmW (((((w5.setCell ⟨w.heap.size, 0, none⟩ (.int .i64 0)).setCell ⟨w.heap.size, 1, none⟩ (.int .i64 0)).setCell ⟨w.heap.size, 2, none⟩ (.string ⟨#[]⟩)).setCell ⟨w.heap.size, 3, none⟩ (.string ⟨#[]⟩)).setCell ⟨w.heap.size, 4, none⟩ (.slice none 0 0)) fun w6 hv => ?_
   rw [← hv]
   have og_ : w5.grownBy w6 (some w.heap.size) := by rw [hv]; exact gs5
   have kb_ : Bx w6 w.heap.size 24 #[.int .i64 0, .int .i64 0, .string ⟨#[]⟩, .string ⟨#[]⟩, .slice none 0 0] := by rw [hv]; exact (((((K.out.set 0 _).set 1 _).set 2 _).set 3 _).set 4 _)
   clear hv
   replace B := Lib.hid (B.out.trans (gr_to og_ (by omega) B.out.size))
   replace H := Lib.hid (H.out.only og_ (fun b o e => by have := HP.out b o e; omega))
   replace K := Lib.hid kb_
   replace F := Lib.hid (F.out.grown og_ (fun hd => by have := hd.1; have := hd.2; omega))
   replace L := Lib.hid (L.out.only og_ (by omega))
   have z8_ := og_.size
   clear og_ kb_
   refine bodyPost_ret (results_box3 rfl _ _ w.heap.size 24 _ _ _ rfl K.out Tryz.underlying24 rfl (by kernel_rfl)) rfl ?_
   exact ⟨Ex.zero, none, 0, i, 6, rfl, FoS.nil, B.out, rdRes_full (x := x) (by rw [gate_false]; exact ho.out) HKi.out HR.out⟩
  | true =>
   refine L.out.q5 fun pL_0 pL_1 pL_2 pL_3 pL_4 => ?_
   refine K.out.e5 fun pK_0 qK_0 pK_1 qK_1 pK_2 qK_2 pK_3 qK_3 pK_4 qK_4 => ?_
   go_wp2_with fail
   clear pL_0 pL_1 pL_2 pL_3 pL_4 pK_0 qK_0 pK_1 qK_1 pK_2 qK_2 pK_3 qK_3 pK_4 qK_4
   refine nmW (((((w5.setCell ⟨w.heap.size, 0, none⟩ (.int .i64 x.op)).setCell ⟨w.heap.size, 1, none⟩ (.int .i64 x.n)).setCell ⟨w.heap.size, 2, none⟩ (.string ⟨x.unit.toArray⟩)).setCell ⟨w.heap.size, 3, none⟩ (.string ⟨x.name.toArray⟩)).setCell ⟨w.heap.size, 4, none⟩ (.slice q x.args.len d)) fun w7 hv => ?_
   rw [← hv]
   have og_ : w5.grownBy w7 (some w.heap.size) := by rw [hv]; exact gs5
   have kb_ : Bx w7 w.heap.size 24 #[.int .i64 x.op, .int .i64 x.n, .string ⟨x.unit.toArray⟩, .string ⟨x.name.toArray⟩, .slice q x.args.len d] := by rw [hv]; exact (((((K.out.set 0 _).set 1 _).set 2 _).set 3 _).set 4 _)
   clear hv
   replace B := Lib.hid (B.out.trans (gr_to og_ (by omega) B.out.size))
   replace H := Lib.hid (H.out.only og_ (fun b o e => by have := HP.out b o e; omega))
   replace K := Lib.hid kb_
   replace F := Lib.hid (F.out.grown og_ (fun hd => by have := hd.1; have := hd.2; omega))
   replace L := Lib.hid (L.out.only og_ (by omega))
   have z9_ := og_.size
   clear og_ kb_
   refine bodyPost_ret (results_box3 rfl _ _ w.heap.size 24 _ _ _ rfl K.out Tryz.underlying24 rfl (by kernel_rfl)) rfl ?_
   exact ⟨x, q, d, i, 0, rfl, (F.out.mono (fun b hb => ⟨by have := hb.1; omega, by have := hb.2; omega⟩)), B.out, rdRes_ok (by rw [gate_false]; exact ho.out) HKi.out HR.out⟩
set_option maxRecDepth 100000 in
set_option maxHeartbeats 4000000 in
theorem read_arg {w : World} {p : Option Addr} {n c : Nat} {k : Int} (hk : k < 0 ∨ (n : Int) < k) :
    Calls Tryz.prog 15 #[.slice p n c, .int .i64 k] w fun e w' => e = .returned (.tuple #[.agg (hdC Ex.zero none 0).toArray, .int .i64 0, .int .i64 1]) ∧ Below w.heap.size w w' := by
  have B : Hid (Below w.heap.size w w) := be_refl w
  rw [show (hdC Ex.zero none 0).toArray = #[.int .i64 0, .int .i64 0, .string ⟨#[]⟩, .string ⟨#[]⟩, .slice none 0 0] from rfl]
  by_cases h0 : k < 0
  · skip
    clear hk
    go_enter Tryz.func15, Tryz.ntmps15
    go_upto_region 1 with fail
    refine nmW (w.alloc (.cells #[.int .i64 0, .int .i64 0, .string ⟨#[]⟩, .string ⟨#[]⟩, .slice none 0 0] 24)) fun w1 hv => ?_
    rw [← hv]
    have K := bxh hv
    have hb_ := bah hv
    clear hv
    have z1_ := K.out.lt
    replace B := Lib.hid (be_call B.out hb_)
    have z2_ := hb_.size
    clear hb_
    refine K.out.e5 fun pK_0 qK_0 pK_1 qK_1 pK_2 qK_2 pK_3 qK_3 pK_4 qK_4 => ?_
    go_wp2_with fail
    clear pK_0 qK_0 pK_1 qK_1 pK_2 qK_2 pK_3 qK_3 pK_4 qK_4
    refine nmW (((((w1.setCell ⟨w.heap.size, 0, none⟩ (.int .i64 0)).setCell ⟨w.heap.size, 1, none⟩ (.int .i64 0)).setCell ⟨w.heap.size, 2, none⟩ (.string ⟨#[]⟩)).setCell ⟨w.heap.size, 3, none⟩ (.string ⟨#[]⟩)).setCell ⟨w.heap.size, 4, none⟩ (.slice none 0 0)) fun w2 hv => ?_
    rw [← hv]
    have og_ : w1.grownBy w2 (some w.heap.size) := by rw [hv]; exact gs5
    have kb_ : Bx w2 w.heap.size 24 #[.int .i64 0, .int .i64 0, .string ⟨#[]⟩, .string ⟨#[]⟩, .slice none 0 0] := by rw [hv]; exact (((((K.out.set 0 _).set 1 _).set 2 _).set 3 _).set 4 _)
    clear hv
    replace B := Lib.hid (B.out.trans (gr_to og_ (by omega) B.out.size))
    replace K := Lib.hid kb_
    have z3_ := og_.size
    clear og_ kb_
    refine bodyPost_ret (results_box3 rfl _ _ w.heap.size 24 _ _ _ rfl K.out Tryz.underlying24 rfl (by kernel_rfl)) rfl ?_
    exact ⟨rfl, B.out⟩
  · have h1 : (n : Int) < k := hk.resolve_left h0
    clear hk
    go_enter Tryz.func15, Tryz.ntmps15
    go_upto_region 1 with fail
    refine nmW (w.alloc (.cells #[.int .i64 0, .int .i64 0, .string ⟨#[]⟩, .string ⟨#[]⟩, .slice none 0 0] 24)) fun w3 hv => ?_
    rw [← hv]
    have K := bxh hv
    have hb_ := bah hv
    clear hv
    have z4_ := K.out.lt
    replace B := Lib.hid (be_call B.out hb_)
    have z5_ := hb_.size
    clear hb_
    refine K.out.e5 fun pK_0 qK_0 pK_1 qK_1 pK_2 qK_2 pK_3 qK_3 pK_4 qK_4 => ?_
    go_wp2_with fail
    clear pK_0 qK_0 pK_1 qK_1 pK_2 qK_2 pK_3 qK_3 pK_4 qK_4
    refine nmW (((((w3.setCell ⟨w.heap.size, 0, none⟩ (.int .i64 0)).setCell ⟨w.heap.size, 1, none⟩ (.int .i64 0)).setCell ⟨w.heap.size, 2, none⟩ (.string ⟨#[]⟩)).setCell ⟨w.heap.size, 3, none⟩ (.string ⟨#[]⟩)).setCell ⟨w.heap.size, 4, none⟩ (.slice none 0 0)) fun w4 hv => ?_
    rw [← hv]
    have og_ : w3.grownBy w4 (some w.heap.size) := by rw [hv]; exact gs5
    have kb_ : Bx w4 w.heap.size 24 #[.int .i64 0, .int .i64 0, .string ⟨#[]⟩, .string ⟨#[]⟩, .slice none 0 0] := by rw [hv]; exact (((((K.out.set 0 _).set 1 _).set 2 _).set 3 _).set 4 _)
    clear hv
    replace B := Lib.hid (B.out.trans (gr_to og_ (by omega) B.out.size))
    replace K := Lib.hid kb_
    have z6_ := og_.size
    clear og_ kb_
    refine bodyPost_ret (results_box3 rfl _ _ w.heap.size 24 _ _ _ rfl K.out Tryz.underlying24 rfl (by kernel_rfl)) rfl ?_
    exact ⟨rfl, B.out⟩
set_option maxRecDepth 100000 in
set_option maxHeartbeats 4000000 in
theorem rRead_arg {w : World} {p : Option Addr} {n c : Nat} {k : Int} (hk : k < 0 ∨ (n : Int) < k) :
    Calls Tryz.prog 16 #[.slice p n c, .int .i64 k] w fun e w' => e = .returned (.tuple #[.agg (hdC Ex.zero none 0).toArray, .int .i64 0, .int .i64 1]) ∧ Below w.heap.size w w' := by
  have B : Hid (Below w.heap.size w w) := be_refl w
  rw [show (hdC Ex.zero none 0).toArray = #[.int .i64 0, .int .i64 0, .string ⟨#[]⟩, .string ⟨#[]⟩, .slice none 0 0] from rfl]
  by_cases h0 : k < 0
  · skip
    clear hk
    go_enter Tryz.func16, Tryz.ntmps16
    go_upto_region 1 with fail
    refine nmW (w.alloc (.cells #[.int .i64 0, .int .i64 0, .string ⟨#[]⟩, .string ⟨#[]⟩, .slice none 0 0] 24)) fun w1 hv => ?_
    rw [← hv]
    have K := bxh hv
    have hb_ := bah hv
    clear hv
    have z1_ := K.out.lt
    replace B := Lib.hid (be_call B.out hb_)
    have z2_ := hb_.size
    clear hb_
    refine K.out.e5 fun pK_0 qK_0 pK_1 qK_1 pK_2 qK_2 pK_3 qK_3 pK_4 qK_4 => ?_
    go_wp2_with fail
    clear pK_0 qK_0 pK_1 qK_1 pK_2 qK_2 pK_3 qK_3 pK_4 qK_4
    refine nmW (((((w1.setCell ⟨w.heap.size, 0, none⟩ (.int .i64 0)).setCell ⟨w.heap.size, 1, none⟩ (.int .i64 0)).setCell ⟨w.heap.size, 2, none⟩ (.string ⟨#[]⟩)).setCell ⟨w.heap.size, 3, none⟩ (.string ⟨#[]⟩)).setCell ⟨w.heap.size, 4, none⟩ (.slice none 0 0)) fun w2 hv => ?_
    rw [← hv]
    have og_ : w1.grownBy w2 (some w.heap.size) := by rw [hv]; exact gs5
    have kb_ : Bx w2 w.heap.size 24 #[.int .i64 0, .int .i64 0, .string ⟨#[]⟩, .string ⟨#[]⟩, .slice none 0 0] := by rw [hv]; exact (((((K.out.set 0 _).set 1 _).set 2 _).set 3 _).set 4 _)
    clear hv
    replace B := Lib.hid (B.out.trans (gr_to og_ (by omega) B.out.size))
    replace K := Lib.hid kb_
    have z3_ := og_.size
    clear og_ kb_
    refine bodyPost_ret (results_box3 rfl _ _ w.heap.size 24 _ _ _ rfl K.out Tryz.underlying24 rfl (by kernel_rfl)) rfl ?_
    exact ⟨rfl, B.out⟩
  · have h1 : (n : Int) < k := hk.resolve_left h0
    clear hk
    go_enter Tryz.func16, Tryz.ntmps16
    go_upto_region 1 with fail
    refine nmW (w.alloc (.cells #[.int .i64 0, .int .i64 0, .string ⟨#[]⟩, .string ⟨#[]⟩, .slice none 0 0] 24)) fun w3 hv => ?_
    rw [← hv]
    have K := bxh hv
    have hb_ := bah hv
    clear hv
    have z4_ := K.out.lt
    replace B := Lib.hid (be_call B.out hb_)
    have z5_ := hb_.size
    clear hb_
    refine K.out.e5 fun pK_0 qK_0 pK_1 qK_1 pK_2 qK_2 pK_3 qK_3 pK_4 qK_4 => ?_
    go_wp2_with fail
    clear pK_0 qK_0 pK_1 qK_1 pK_2 qK_2 pK_3 qK_3 pK_4 qK_4
    refine nmW (((((w3.setCell ⟨w.heap.size, 0, none⟩ (.int .i64 0)).setCell ⟨w.heap.size, 1, none⟩ (.int .i64 0)).setCell ⟨w.heap.size, 2, none⟩ (.string ⟨#[]⟩)).setCell ⟨w.heap.size, 3, none⟩ (.string ⟨#[]⟩)).setCell ⟨w.heap.size, 4, none⟩ (.slice none 0 0)) fun w4 hv => ?_
    rw [← hv]
    have og_ : w3.grownBy w4 (some w.heap.size) := by rw [hv]; exact gs5
    have kb_ : Bx w4 w.heap.size 24 #[.int .i64 0, .int .i64 0, .string ⟨#[]⟩, .string ⟨#[]⟩, .slice none 0 0] := by rw [hv]; exact (((((K.out.set 0 _).set 1 _).set 2 _).set 3 _).set 4 _)
    clear hv
    replace B := Lib.hid (B.out.trans (gr_to og_ (by omega) B.out.size))
    replace K := Lib.hid kb_
    have z6_ := og_.size
    clear og_ kb_
    refine bodyPost_ret (results_box3 rfl _ _ w.heap.size 24 _ _ _ rfl K.out Tryz.underlying24 rfl (by kernel_rfl)) rfl ?_
    exact ⟨rfl, B.out⟩
set_option maxRecDepth 100000 in
set_option maxHeartbeats 4000000 in
theorem rparse_err (s : ByteArray) {w : World} (hs : s.size ≤ 137438953472) {p x : Nat} (h : scanOut s.data.toList = .error (p, x)) :
  Calls Tryz.prog 11 #[.string s] w (ParsePost s.data.toList w) := by
 have hx := scanOut_facts.2 _ _ h
 have HH := Lib.hid (parseX_err h)
 have h1 : ((x : Int) != 0) = true := by simp; omega
 have HSC := Lib.hid h; clear h
 have HS := Lib.hid hs
 have B : Hid (Below w.heap.size w w) := be_refl w
 clear hs
 go_enter Tryz.func11, Tryz.ntmps11
 go_upto_region 1 with fail
 refine nmW (w.alloc (.cells #[.int .i64 0, .int .i64 0, .string ⟨#[]⟩, .string ⟨#[]⟩, .slice none 0 0] 24)) fun w1 hv => ?_
 rw [← hv]
 have K := bxh hv
 have hb_ := bah hv
 clear hv
 have z1_ := K.out.lt
 replace B := Lib.hid (be_call B.out hb_)
 have z2_ := hb_.size
 clear hb_
 go_wp2_with fail
 refine ((rscan_two s _ HS.out).2 _ _ HSC.out).mono ?_
 rintro e w2 ⟨q, d, rfl, -, hb, -⟩
 replace B := Lib.hid (be_call B.out hb)
 replace K := Lib.hid (K.out.keep hb)
 have z3_ := hb.size
 clear hb
 refine K.out.e5 fun pK_0 qK_0 pK_1 qK_1 pK_2 qK_2 pK_3 qK_3 pK_4 qK_4 => ?_
 go_wp2_with fail
 clear pK_0 qK_0 pK_1 qK_1 pK_2 qK_2 pK_3 qK_3 pK_4 qK_4
 refine nmW (((((w2.setCell ⟨w.heap.size, 0, none⟩ (.int .i64 0)).setCell ⟨w.heap.size, 1, none⟩ (.int .i64 0)).setCell ⟨w.heap.size, 2, none⟩ (.string ⟨#[]⟩)).setCell ⟨w.heap.size, 3, none⟩ (.string ⟨#[]⟩)).setCell ⟨w.heap.size, 4, none⟩ (.slice none 0 0)) fun w3 hv => ?_
 rw [← hv]
 have og_ : w2.grownBy w3 (some w.heap.size) := by rw [hv]; exact gs5
 have kb_ : Bx w3 w.heap.size 24 #[.int .i64 0, .int .i64 0, .string ⟨#[]⟩, .string ⟨#[]⟩, .slice none 0 0] := by rw [hv]; exact (((((K.out.set 0 _).set 1 _).set 2 _).set 3 _).set 4 _)
 clear hv
 replace B := Lib.hid (B.out.trans (gr_to og_ (by omega) B.out.size))
 replace K := Lib.hid kb_
 have z4_ := og_.size
 clear og_ kb_
 refine bodyPost_ret (results_box3 rfl _ _ w.heap.size 24 _ _ _ rfl K.out Tryz.underlying24 rfl (by kernel_rfl)) rfl ?_
 exact ⟨Ex.zero, none, 0, p, x, rfl, FoS.nil, B.out, HH.out⟩
set_option maxRecDepth 100000 in
set_option maxHeartbeats 4000000 in
theorem rparse_ok (s : ByteArray) {w : World} (hs : s.size ≤ 137438953472) {ts : List Tok} (h : scanOut s.data.toList = .ok ts) :
    Calls Tryz.prog 11 #[.string s] w (ParsePost s.data.toList w) := by
  have hts := (scanOut_facts.1 _ h).2.2.1
  have HWT := Lib.hid (scanOut_facts.1 _ h).2.2.2
  have HPX := Lib.hid (parseX_ok h)
  have HSL : Hid (s.data.toList.length = s.size) := bytes_len s
  have HSC := Lib.hid h; clear h
  have HS := Lib.hid hs
  have B : Hid (Below w.heap.size w w) := be_refl w
  clear hs
  go_enter Tryz.func11, Tryz.ntmps11
  go_upto_region 1 with fail
  refine nmW (w.alloc (.cells #[.int .i64 0, .int .i64 0, .string ⟨#[]⟩, .string ⟨#[]⟩, .slice none 0 0] 24)) fun w1 hv => ?_
  rw [← hv]
  have K := bxh hv
  have hb_ := bah hv
  clear hv
  have z1_ := K.out.lt
  replace B := Lib.hid (be_call B.out hb_)
  have z2_ := hb_.size
  clear hb_
  go_wp2_with fail
  refine ((rscan_two s _ HS.out).1 _ HSC.out).mono ?_
  rintro e w2 ⟨p, c, rfl, ht, hb, hp⟩
  replace B := Lib.hid (be_call B.out hb)
  replace K := Lib.hid (K.out.keep hb)
  have z3_ := hb.size
  clear hb
  have T := Lib.hid ht; have HP := Lib.hid hp; clear ht hp
  have HP0 : Hid (∀ b o, p = some ⟨b, o, none⟩ → b < w2.heap.size) := fun b o e => (HP.out b o e).2
  have HC := Lib.hid (rRead_ok (k := 0) (ki := 0) T.out HP0.out (by omega) (Nat.zero_le _) rfl (by have := HWT.out; omega))
  go_wp2_with fail
  refine (HC.out).mono ?_
  rintro e w3 ⟨x, q, d, k1, e1, rfl, hf, hb, hr⟩
  clear HC
  replace B := Lib.hid (be_call B.out hb)
  replace K := Lib.hid (K.out.keep hb)
  replace T := Lib.hid (T.out.keep hb)
  have z4_ := hb.size
  clear hb
  have F := Lib.hid hf; have HR := Lib.hid hr; clear hf hr
  unfold hdC
  go_upto_region 5 with fail
  refine nmW (w3.alloc (.cells #[.int .i64 x.op, .int .i64 x.n, .string ⟨x.unit.toArray⟩, .string ⟨x.name.toArray⟩, .slice q x.args.len d] 24)) fun w4 hv => ?_
  rw [← hv]
  have L := bxh hv
  have hb_ := bah hv
  clear hv
  have z5_ := L.out.lt
  replace B := Lib.hid (be_call B.out hb_)
  replace K := Lib.hid (K.out.keep hb_)
  replace T := Lib.hid (T.out.keep hb_)
  replace F := Lib.hid (F.out.keep hb_)
  have z6_ := hb_.size
  clear hb_
  obtain ⟨hrr, hk1, he1, hx1⟩ := rdRes_read HR.out
  have HRR := Lib.hid hrr; clear hrr
  by_cases hkl : k1 = ts.length
  · subst hkl
    have hki : ¬ (ts.length : Int) < (ts.length : Int) := by omega
    rcases he1 with rfl | rfl | rfl
    · skip
      refine L.out.q5 fun pL_0 pL_1 pL_2 pL_3 pL_4 => ?_
      refine K.out.e5 fun pK_0 qK_0 pK_1 qK_1 pK_2 qK_2 pK_3 qK_3 pK_4 qK_4 => ?_
      go_wp2_with fail
      clear pL_0 pL_1 pL_2 pL_3 pL_4 pK_0 qK_0 pK_1 qK_1 pK_2 qK_2 pK_3 qK_3 pK_4 qK_4
      refine nmW (((((w4.setCell ⟨w.heap.size, 0, none⟩ (.int .i64 x.op)).setCell ⟨w.heap.size, 1, none⟩ (.int .i64 x.n)).setCell ⟨w.heap.size, 2, none⟩ (.string ⟨x.unit.toArray⟩)).setCell ⟨w.heap.size, 3, none⟩ (.string ⟨x.name.toArray⟩)).setCell ⟨w.heap.size, 4, none⟩ (.slice q x.args.len d)) fun w5 hv => ?_
      rw [← hv]
      have og_ : w4.grownBy w5 (some w.heap.size) := by rw [hv]; exact gs5
      have kb_ : Bx w5 w.heap.size 24 #[.int .i64 x.op, .int .i64 x.n, .string ⟨x.unit.toArray⟩, .string ⟨x.name.toArray⟩, .slice q x.args.len d] := by rw [hv]; exact (((((K.out.set 0 _).set 1 _).set 2 _).set 3 _).set 4 _)
      clear hv
      replace B := Lib.hid (B.out.trans (gr_to og_ (by omega) B.out.size))
      replace K := Lib.hid kb_
      replace T := Lib.hid (T.out.only og_ (fun b o e => by have := HP.out b o e; omega))
      replace F := Lib.hid (F.out.grown og_ (fun hd => by have := hd.1; have := hd.2; omega))
      replace L := Lib.hid (L.out.only og_ (by omega))
      have z7_ := og_.size
      clear og_ kb_
      refine bodyPost_ret (results_box3 rfl _ _ w.heap.size 24 _ _ _ rfl K.out Tryz.underlying24 rfl (by kernel_rfl)) rfl ?_
      exact ⟨x, q, d, 0, 0, rfl, (F.out.mono (fun b hb => ⟨by have := hb.1; omega, by have := hb.2; omega⟩)), B.out, by rw [HPX.out]; exact parseR_ok HRR.out⟩
    · skip
      refine K.out.e5 fun pK_0 qK_0 pK_1 qK_1 pK_2 qK_2 pK_3 qK_3 pK_4 qK_4 => ?_
      go_wp2_with fail
      clear pK_0 qK_0 pK_1 qK_1 pK_2 qK_2 pK_3 qK_3 pK_4 qK_4
      refine nmW (((((w4.setCell ⟨w.heap.size, 0, none⟩ (.int .i64 0)).setCell ⟨w.heap.size, 1, none⟩ (.int .i64 0)).setCell ⟨w.heap.size, 2, none⟩ (.string ⟨#[]⟩)).setCell ⟨w.heap.size, 3, none⟩ (.string ⟨#[]⟩)).setCell ⟨w.heap.size, 4, none⟩ (.slice none 0 0)) fun w6 hv => ?_
      rw [← hv]
      have og_ : w4.grownBy w6 (some w.heap.size) := by rw [hv]; exact gs5
      have kb_ : Bx w6 w.heap.size 24 #[.int .i64 0, .int .i64 0, .string ⟨#[]⟩, .string ⟨#[]⟩, .slice none 0 0] := by rw [hv]; exact (((((K.out.set 0 _).set 1 _).set 2 _).set 3 _).set 4 _)
      clear hv
      replace B := Lib.hid (B.out.trans (gr_to og_ (by omega) B.out.size))
      replace K := Lib.hid kb_
      replace T := Lib.hid (T.out.only og_ (fun b o e => by have := HP.out b o e; omega))
      replace F := Lib.hid (F.out.grown og_ (fun hd => by have := hd.1; have := hd.2; omega))
      replace L := Lib.hid (L.out.only og_ (by omega))
      have z8_ := og_.size
      clear og_ kb_
      refine bodyPost_ret (results_box3 rfl _ _ w.heap.size 24 _ _ _ rfl K.out Tryz.underlying24 rfl (by kernel_rfl)) rfl ?_
      exact ⟨Ex.zero, none, 0, s.size, 6, rfl, FoS.nil, B.out, by rw [HPX.out, HSL.out]; exact parseR_end HRR.out (Nat.le_refl _) (by decide)⟩
    · skip
      refine K.out.e5 fun pK_0 qK_0 pK_1 qK_1 pK_2 qK_2 pK_3 qK_3 pK_4 qK_4 => ?_
      go_wp2_with fail
      clear pK_0 qK_0 pK_1 qK_1 pK_2 qK_2 pK_3 qK_3 pK_4 qK_4
      refine nmW (((((w4.setCell ⟨w.heap.size, 0, none⟩ (.int .i64 0)).setCell ⟨w.heap.size, 1, none⟩ (.int .i64 0)).setCell ⟨w.heap.size, 2, none⟩ (.string ⟨#[]⟩)).setCell ⟨w.heap.size, 3, none⟩ (.string ⟨#[]⟩)).setCell ⟨w.heap.size, 4, none⟩ (.slice none 0 0)) fun w7 hv => ?_
      rw [← hv]
      have og_ : w4.grownBy w7 (some w.heap.size) := by rw [hv]; exact gs5
      have kb_ : Bx w7 w.heap.size 24 #[.int .i64 0, .int .i64 0, .string ⟨#[]⟩, .string ⟨#[]⟩, .slice none 0 0] := by rw [hv]; exact (((((K.out.set 0 _).set 1 _).set 2 _).set 3 _).set 4 _)
      clear hv
      replace B := Lib.hid (B.out.trans (gr_to og_ (by omega) B.out.size))
      replace K := Lib.hid kb_
      replace T := Lib.hid (T.out.only og_ (fun b o e => by have := HP.out b o e; omega))
      replace F := Lib.hid (F.out.grown og_ (fun hd => by have := hd.1; have := hd.2; omega))
      replace L := Lib.hid (L.out.only og_ (by omega))
      have z9_ := og_.size
      clear og_ kb_
      refine bodyPost_ret (results_box3 rfl _ _ w.heap.size 24 _ _ _ rfl K.out Tryz.underlying24 rfl (by kernel_rfl)) rfl ?_
      exact ⟨Ex.zero, none, 0, s.size, 12, rfl, FoS.nil, B.out, by rw [HPX.out, HSL.out]; exact parseR_end HRR.out (Nat.le_refl _) (by decide)⟩
  · have hlt : k1 < ts.length := by omega
    obtain ⟨b, o, hpe, -, -⟩ := T.out.at hlt
    subst hpe
    have hki : (k1 : Int) < (ts.length : Int) := by omega
    rcases he1 with rfl | rfl | rfl
    · skip
      go_upto_region 10 with fail
      refine nmW w4.drew fun w8 hW => ?_
      have hb_ := bdh hW
      replace B := Lib.hid (be_call B.out hb_)
      replace K := Lib.hid (K.out.keep hb_)
      replace T := Lib.hid (T.out.keep hb_)
      replace F := Lib.hid (F.out.keep hb_)
      replace L := Lib.hid (L.out.keep hb_)
      have z10_ := hb_.size
      clear hb_
      refine wp_region_held_drew (S := (fun w' => w'.cell? ⟨b, o + k1 * 4 + 3, none⟩ = some (.int .i64 ts[k1].pos))) (by kernel_rfl) (by rw [← hW]; exact toks_pos T.out hlt) (fun hH => ?_)
      rw [← hW] at hH ⊢
      clear hW
      refine tk at0 ?_
      refine tk at1 ?_
      refine tk at2 ?_
      refine tk at3 ?_
      refine tk at4 ?_
      refine tk at5 (v := .int .i64 ts[k1].pos) ?_
      refine tk at6 ?_
      refine wpAnyH_ready (rs := [7]) (by kernel_rfl) (by simp) ?_
      refine AllReadyH.cons at7 (fun K_ hK => ?_) AllReadyH.nil
      refine K.out.e5 fun pK_0 qK_0 pK_1 qK_1 pK_2 qK_2 pK_3 qK_3 pK_4 qK_4 => ?_
      go_simp
      clear pK_0 qK_0 pK_1 qK_1 pK_2 qK_2 pK_3 qK_3 pK_4 qK_4
      refine nmW (((((w8.setCell ⟨w.heap.size, 0, none⟩ (.int .i64 0)).setCell ⟨w.heap.size, 1, none⟩ (.int .i64 0)).setCell ⟨w.heap.size, 2, none⟩ (.string ⟨#[]⟩)).setCell ⟨w.heap.size, 3, none⟩ (.string ⟨#[]⟩)).setCell ⟨w.heap.size, 4, none⟩ (.slice none 0 0)) fun w9 hv => ?_
      rw [← hv]
      have og_ : w8.grownBy w9 (some w.heap.size) := by rw [hv]; exact gs5
      have kb_ : Bx w9 w.heap.size 24 #[.int .i64 0, .int .i64 0, .string ⟨#[]⟩, .string ⟨#[]⟩, .slice none 0 0] := by rw [hv]; exact (((((K.out.set 0 _).set 1 _).set 2 _).set 3 _).set 4 _)
      clear hv
      replace B := Lib.hid (B.out.trans (gr_to og_ (by omega) B.out.size))
      replace K := Lib.hid kb_
      replace T := Lib.hid (T.out.only og_ (fun b o e => by have := HP.out b o e; omega))
      replace F := Lib.hid (F.out.grown og_ (fun hd => by have := hd.1; have := hd.2; omega))
      replace L := Lib.hid (L.out.only og_ (by omega))
      have z11_ := og_.size
      clear og_ kb_
      refine hK.out _ _ (toks_pos T.out hlt) (fun hH2 => ?_)
      clear hK K_ hH
      have hH := hH2; clear hH2
      (try simp only [Act.put, kS, kZ, kC])
      refine tk at8 ?_
      refine tk at9 ?_
      refine wpAnyH_done (by kernel_rfl) ?_ _
      clear hH
      go_wp2_with fail
      refine bodyPost_ret (results_box3 rfl _ _ w.heap.size 24 _ _ _ rfl K.out Tryz.underlying24 rfl (by kernel_rfl)) rfl ?_
      exact ⟨Ex.zero, none, 0, ts[k1].pos, 12, rfl, FoS.nil, B.out, by rw [HPX.out]; exact parseR_in HRR.out hlt rfl⟩
    · skip
      go_upto_region 10 with fail
      refine nmW w4.drew fun w10 hW => ?_
      have hb_ := bdh hW
      replace B := Lib.hid (be_call B.out hb_)
      replace K := Lib.hid (K.out.keep hb_)
      replace T := Lib.hid (T.out.keep hb_)
      replace F := Lib.hid (F.out.keep hb_)
      replace L := Lib.hid (L.out.keep hb_)
      have z12_ := hb_.size
      clear hb_
      refine wp_region_held_drew (S := (fun w' => w'.cell? ⟨b, o + k1 * 4 + 3, none⟩ = some (.int .i64 ts[k1].pos))) (by kernel_rfl) (by rw [← hW]; exact toks_pos T.out hlt) (fun hH => ?_)
      rw [← hW] at hH ⊢
      clear hW
      refine tk at0 ?_
      refine tk at1 ?_
      refine tk at2 ?_
      refine tk at3 ?_
      refine tk at4 ?_
      refine tk at5 (v := .int .i64 ts[k1].pos) ?_
      refine tk at6 ?_
      refine wpAnyH_ready (rs := [7]) (by kernel_rfl) (by simp) ?_
      refine AllReadyH.cons at7 (fun K_ hK => ?_) AllReadyH.nil
      refine K.out.e5 fun pK_0 qK_0 pK_1 qK_1 pK_2 qK_2 pK_3 qK_3 pK_4 qK_4 => ?_
      go_simp
      clear pK_0 qK_0 pK_1 qK_1 pK_2 qK_2 pK_3 qK_3 pK_4 qK_4
      refine nmW (((((w10.setCell ⟨w.heap.size, 0, none⟩ (.int .i64 0)).setCell ⟨w.heap.size, 1, none⟩ (.int .i64 0)).setCell ⟨w.heap.size, 2, none⟩ (.string ⟨#[]⟩)).setCell ⟨w.heap.size, 3, none⟩ (.string ⟨#[]⟩)).setCell ⟨w.heap.size, 4, none⟩ (.slice none 0 0)) fun w11 hv => ?_
      rw [← hv]
      have og_ : w10.grownBy w11 (some w.heap.size) := by rw [hv]; exact gs5
      have kb_ : Bx w11 w.heap.size 24 #[.int .i64 0, .int .i64 0, .string ⟨#[]⟩, .string ⟨#[]⟩, .slice none 0 0] := by rw [hv]; exact (((((K.out.set 0 _).set 1 _).set 2 _).set 3 _).set 4 _)
      clear hv
      replace B := Lib.hid (B.out.trans (gr_to og_ (by omega) B.out.size))
      replace K := Lib.hid kb_
      replace T := Lib.hid (T.out.only og_ (fun b o e => by have := HP.out b o e; omega))
      replace F := Lib.hid (F.out.grown og_ (fun hd => by have := hd.1; have := hd.2; omega))
      replace L := Lib.hid (L.out.only og_ (by omega))
      have z13_ := og_.size
      clear og_ kb_
      refine hK.out _ _ (toks_pos T.out hlt) (fun hH2 => ?_)
      clear hK K_ hH
      have hH := hH2; clear hH2
      (try simp only [Act.put, kS, kZ, kC])
      refine tk at8 ?_
      refine tk at9 ?_
      refine wpAnyH_done (by kernel_rfl) ?_ _
      clear hH
      go_wp2_with fail
      refine bodyPost_ret (results_box3 rfl _ _ w.heap.size 24 _ _ _ rfl K.out Tryz.underlying24 rfl (by kernel_rfl)) rfl ?_
      exact ⟨Ex.zero, none, 0, ts[k1].pos, 6, rfl, FoS.nil, B.out, by rw [HPX.out]; exact parseR_in HRR.out hlt rfl⟩
    · skip
      go_upto_region 10 with fail
      refine nmW w4.drew fun w12 hW => ?_
      have hb_ := bdh hW
      replace B := Lib.hid (be_call B.out hb_)
      replace K := Lib.hid (K.out.keep hb_)
      replace T := Lib.hid (T.out.keep hb_)
      replace F := Lib.hid (F.out.keep hb_)
      replace L := Lib.hid (L.out.keep hb_)
      have z14_ := hb_.size
      clear hb_
      refine wp_region_held_drew (S := (fun w' => w'.cell? ⟨b, o + k1 * 4 + 3, none⟩ = some (.int .i64 ts[k1].pos))) (by kernel_rfl) (by rw [← hW]; exact toks_pos T.out hlt) (fun hH => ?_)
      rw [← hW] at hH ⊢
      clear hW
      refine tk at0 ?_
      refine tk at1 ?_
      refine tk at2 ?_
      refine tk at3 ?_
      refine tk at4 ?_
      refine tk at5 (v := .int .i64 ts[k1].pos) ?_
      refine tk at6 ?_
      refine wpAnyH_ready (rs := [7]) (by kernel_rfl) (by simp) ?_
      refine AllReadyH.cons at7 (fun K_ hK => ?_) AllReadyH.nil
      refine K.out.e5 fun pK_0 qK_0 pK_1 qK_1 pK_2 qK_2 pK_3 qK_3 pK_4 qK_4 => ?_
      go_simp
      clear pK_0 qK_0 pK_1 qK_1 pK_2 qK_2 pK_3 qK_3 pK_4 qK_4
      refine nmW (((((w12.setCell ⟨w.heap.size, 0, none⟩ (.int .i64 0)).setCell ⟨w.heap.size, 1, none⟩ (.int .i64 0)).setCell ⟨w.heap.size, 2, none⟩ (.string ⟨#[]⟩)).setCell ⟨w.heap.size, 3, none⟩ (.string ⟨#[]⟩)).setCell ⟨w.heap.size, 4, none⟩ (.slice none 0 0)) fun w13 hv => ?_
      rw [← hv]
      have og_ : w12.grownBy w13 (some w.heap.size) := by rw [hv]; exact gs5
      have kb_ : Bx w13 w.heap.size 24 #[.int .i64 0, .int .i64 0, .string ⟨#[]⟩, .string ⟨#[]⟩, .slice none 0 0] := by rw [hv]; exact (((((K.out.set 0 _).set 1 _).set 2 _).set 3 _).set 4 _)
      clear hv
      replace B := Lib.hid (B.out.trans (gr_to og_ (by omega) B.out.size))
      replace K := Lib.hid kb_
      replace T := Lib.hid (T.out.only og_ (fun b o e => by have := HP.out b o e; omega))
      replace F := Lib.hid (F.out.grown og_ (fun hd => by have := hd.1; have := hd.2; omega))
      replace L := Lib.hid (L.out.only og_ (by omega))
      have z15_ := og_.size
      clear og_ kb_
      refine hK.out _ _ (toks_pos T.out hlt) (fun hH2 => ?_)
      clear hK K_ hH
      have hH := hH2; clear hH2
      (try simp only [Act.put, kS, kZ, kC])
      refine tk at8 ?_
      refine tk at9 ?_
      refine wpAnyH_done (by kernel_rfl) ?_ _
      clear hH
      go_wp2_with fail
      refine bodyPost_ret (results_box3 rfl _ _ w.heap.size 24 _ _ _ rfl K.out Tryz.underlying24 rfl (by kernel_rfl)) rfl ?_
      exact ⟨Ex.zero, none, 0, ts[k1].pos, 12, rfl, FoS.nil, B.out, by rw [HPX.out]; exact parseR_in HRR.out hlt rfl⟩
theorem rparse_any (s : ByteArray) {w : World} (hs : s.size ≤ 137438953472) :
  Calls Tryz.prog 11 #[.string s] w (ParsePost s.data.toList w) := by
 cases h : scanOut s.data.toList with
 | error pe => obtain ⟨p, x⟩ := pe; exact rparse_err s hs h
 | ok ts => exact rparse_ok s hs h
end Go.Proofs.YtckgmilmhofekaaGreatDoor
namespace Go.Proofs.YtckgmilmhofekaaGreatDoor
open Go.RowKit

theorem conv_one (w : World) {z : Int} {d : Nat} (hz : z = (d : Int)) (hd : d < 256) :
  Sem.run Tryz.prog (convert 91 9 (.slice (some ⟨w.heap.size, 0, none⟩) 1 1)) (w.alloc (.cells #[.int .u8 z] 5)) = .ok (.string ⟨#[UInt8.ofNat d]⟩) (w.alloc (.cells #[.int .u8 z] 5)) := by
 subst hz
 refine run_convert_bytes_back (P := Tryz.prog) _ 91 9 5 ⟨w.heap.size, 0, none⟩ 1 [UInt8.ofNat d] Tryz.underlying91 Tryz.underlying5 Tryz.underlying9 ?_
 intro j hj
 have h0 : j = 0 := by simpa using hj
 subst h0
 have hb := bx1 w 5 #[.int .u8 (d : Int)]
 have h1 := hb.at.1 0
 have h2 : ((⟨w.heap.size, 0, none⟩ : Addr).add 0) = ⟨w.heap.size, 0, none⟩ := by rw [add_off]
 rw [h2, h1]
 show some (Value.int .u8 (d : Int)) = some (.int .u8 ((UInt8.ofNat d).toNat : Int))
 rw [UInt8.toNat_ofNat', Nat.mod_eq_of_lt hd]
theorem dec_small {n : Nat} (h : n ≤ 9) : Lib.decDigits n = [UInt8.ofNat (48 + n % 10)] := by
 rw [Lib.decDigits_one (by omega), Nat.mod_eq_of_lt (by omega)]
theorem dec_more {n : Nat} (h : ¬ n ≤ 9) : Lib.decDigits n = Lib.decDigits (n / 10) ++ [UInt8.ofNat (48 + n % 10)] := by
 conv => lhs; rw [Lib.decDigits]
 rw [dif_neg (by omega)]
/-- The digits ahead of the last one. -/
def decPre (k : Nat) : Bytes := if k ≤ 9 then [] else Lib.decDigits (k / 10)
theorem dec_pre (k : Nat) : Lib.decDigits k = decPre k ++ [UInt8.ofNat (48 + k % 10)] := by
  unfold decPre
  by_cases h : k ≤ 9
  · rw [if_pos h, dec_small h]; rfl
  · rw [if_neg h, dec_more h]
set_option maxRecDepth 100000 in
set_option maxHeartbeats 4000000 in
theorem rdigits_ok {w : World} {n : Nat} (hn : n ≤ 1099511627776) :
    Calls Tryz.prog 46 #[.int .i64 n] w fun e w' => e = .returned (.string ⟨(Lib.decDigits n).toArray⟩) ∧ Below w.heap.size w w' := by
  have HLN : Hid ((Lib.decDigits n).length ≤ 13) := by show _ ≤ _; rw [Lib.decDigits_length]; exact nDigits_le (by omega) (by omega)
  obtain ⟨dd, hdd⟩ : ∃ dd, UInt8.ofNat (48 + n % 10) = dd := ⟨_, rfl⟩
  have HP0 : Hid (Lib.decDigits n = decPre n ++ [dd]) := by show _ = _; rw [← hdd]; exact dec_pre n
  have hcv : ∀ w : World, Sem.run Tryz.prog (convert 91 9 (.slice (some ⟨w.heap.size, 0, none⟩) 1 1)) (w.alloc (.cells #[.int .u8 (48 + (n : Int) % 10)] 5)) = .ok (.string ⟨#[dd]⟩) (w.alloc (.cells #[.int .u8 (48 + (n : Int) % 10)] 5)) := fun w => by rw [← hdd]; exact conv_one w (by omega) (by omega)
  clear hdd
  go_enter Tryz.func46, Tryz.ntmps46
  go_wp2_with fail
  clear hcv
  have hb0 : Hid (Below w.heap.size w (w.alloc (.cells #[.int .u8 (48 + (n : Int) % 10)] 5))) := below_alloc _ _
  go_loopw [0, 3] (fun ki s wr => ∃ (k : Nat) (S : Bytes), ki = .int .i64 k ∧ s = .string ⟨S.toArray⟩ ∧ k ≤ n ∧ Hid (Lib.decDigits n = decPre k ++ S) ∧ Hid (Below w.heap.size w wr)) (fun ki _ _ => (intOf ki).toNat)
  case atStart => exact ⟨n, [dd], rfl, rfl, Nat.le_refl _, HP0, hb0⟩
  case round =>
    clear HP0 hb0
    obtain ⟨k, S, rfl, rfl, hk, HP, B⟩ := hrel
    by_cases h9 : k ≤ 9
    · have h9i : ¬ (9 : Int) < (k : Int) := by omega
      have HE : Hid (Lib.decDigits n = S) := by show _ = _; rw [HP.out]; unfold decPre; rw [if_pos h9]; rfl
      go_wp2_with fail
      go_ret
      exact ⟨by rw [HE.out]; rfl, B.out⟩
    · have h9i : (9 : Int) < (k : Int) := by omega
      obtain ⟨j, hj⟩ : ∃ j, k / 10 = j := ⟨_, rfl⟩
      have hji : (k : Int) / 10 = (j : Int) := by omega
      have hjk : j < k := by omega
      have HPN : Hid (Lib.decDigits n = decPre j ++ (UInt8.ofNat (48 + j % 10) :: S)) := by
        show _ = _; rw [HP.out]
        conv => lhs; unfold decPre
        rw [if_neg h9, hj, dec_pre j]; simp
      have hsl : S.length ≤ 13 := by
        have h1 := congrArg List.length HP.out
        rw [List.length_append] at h1
        have := HLN.out; omega
      have hcat : ¬ 9223372036854775807 < 1 + S.length := by omega
      obtain ⟨d2, hd2⟩ : ∃ dd, UInt8.ofNat (48 + j % 10) = dd := ⟨_, rfl⟩
      rw [hd2] at HPN
      have hcv : ∀ w : World, Sem.run Tryz.prog (convert 91 9 (.slice (some ⟨w.heap.size, 0, none⟩) 1 1)) (w.alloc (.cells #[.int .u8 (48 + (j : Int) % 10)] 5)) = .ok (.string ⟨#[d2]⟩) (w.alloc (.cells #[.int .u8 (48 + (j : Int) % 10)] 5)) := fun w => by rw [← hd2]; exact conv_one w (by omega) (by omega)
      generalize hSS : (⟨S.toArray⟩ : ByteArray) = SS
      have hss : SS.size = S.length := by rw [← hSS]; simp [ByteArray.size]
      have hcat2 : ¬ 9223372036854775807 < 1 + SS.size := by omega
      have HSS := Lib.hid hSS
      clear hj h9 hSS hd2
      go_wp2_with fail
      go_roundw
      case rel => exact ⟨j, d2 :: S, rfl, by rw [← HSS.out]; congr 1, by omega, HPN, be_call B.out (below_alloc _ _)⟩
      case measure => simp [intOf]; omega
end Go.Proofs.YtckgmilmhofekaaGreatDoor
namespace Go.Proofs.YtckgmilmhofekaaGreatDoor
open Go.RowKit

/-- Tokens in a slice of the call's own, whose block lies from B on. -/
def OwT (B : Nat) (w : World) (v : Value) (l : List Tok) : Prop := w.ownsRow B 55 4 v l.length (toksCells l)
theorem toksCells_app (l m : List Tok) : toksCells (l ++ m) = toksCells l ++ toksCells m := by simp [toksCells]
theorem toksCells_len (l : List Tok) : (toksCells l).length = l.length * 4 := by
 induction l with
 | nil => rfl
 | cons t r ih => show (tokCells t ++ toksCells r).length = _; rw [List.length_append, ih, List.length_cons]; show 4 + _ = _; omega
theorem toksCells_one (l : List Tok) : ∀ u ∈ toksCells l, u.oneCell' = true := fun u hu => by
 obtain ⟨t, -, h⟩ := List.mem_flatMap.1 hu
 exact one_tokC t u h
theorem OwT.mono {B B' : Nat} {w : World} {v : Value} {l : List Tok} (h : OwT B w v l) (hB : B' ≤ B) : OwT B' w v l :=
 ⟨h.1, h.2.imp id fun ⟨g, cap, cur, e, hg, r⟩ => ⟨g, cap, cur, e, Nat.le_trans hB hg, r⟩⟩
theorem OwT.keep {B : Nat} {w w' : World} {v : Value} {l : List Tok} (h : OwT B w v l) (hb : Below w.heap.size w w') : OwT B w' v l := own_below h hb
theorem OwT.lit {B A : Nat} {w : World} {l : List Tok} {cs : Array Value} (hb : Bx w A 55 cs) (hc : cs = (toksCells l).toArray) (hB : B ≤ A) (hl : l.length ≤ 1000000) : OwT B w (.slice (some ⟨A, 0, none⟩) l.length l.length) l := by
 subst hc
 exact ⟨toksCells_len l, .inr ⟨A, l.length, _, rfl, hB, hb, Nat.le_refl _, by unfold maxLen; omega, by rw [List.size_toArray, toksCells_len], by
  simp
  exact List.take_of_length_le (by rw [toksCells_len]; exact Nat.le_refl _)⟩⟩
theorem OwT.toks {B : Nat} {w : World} {v : Value} {l : List Tok} (h : OwT B w v l) : ToksIn w v l := toksIn_own h
/-- The slice, and its cells. -/
theorem OwT.at {B : Nat} {w : World} {v : Value} {l : List Tok} (h : OwT B w v l) (hl : l ≠ []) : ∃ g cap, v = .slice (some ⟨g, 0, none⟩) l.length cap ∧ B ≤ g ∧ g < w.heap.size ∧ ∀ j u, (toksCells l)[j]? = some u → w.cell? ⟨g, j, none⟩ = some u := by
  rcases h.2 with ⟨-, h0⟩ | ⟨g, cap, cur, rfl, hg, hh, hcap, hx, hs, rr⟩
  · exact absurd (List.length_eq_zero_iff.1 h0) hl
  · refine ⟨g, cap, rfl, hg, lt_of_block hh, fun j u hj => ?_⟩
    have hlt : j < (toksCells l).length := (List.getElem?_eq_some_iff.1 hj).1
    have := h.cellAt (j := j) (by rw [toksCells_len] at hlt; exact hlt)
    rw [this]; exact hj
/-- append of tokens that lie anywhere. -/
theorem run_appT {P : Program} {t : TypeId} {z : Value} {bytes B : Nat} {v : Value} {l l2 : List Tok} {w : World} (E : ElemT P t 55 z 4 bytes) (ty : TypeId) (h : OwT B w v l) (hB : B ≤ w.heap.size) {g m c : Nat} (hm : l2.length = m)
  (hc : ∀ j u, (toksCells l2)[j]? = some u → w.cell? ⟨g, j, none⟩ = some u) (hbytes : (l.length + m) * bytes ≤ 140737488355328) (h63 : l.length + m ≤ 140737488355328) :
  ∃ v' w', (Builtin.append_ #[t, t] ty #[v, .slice (some ⟨g, 0, none⟩) m c]).run P w = .ok v' w' ∧ OwT B w' v' (l ++ l2) ∧ w.grownBy w' v.ownBlock ∧ Below B w w' := by
 subst hm
 obtain ⟨i0, hi, hz0, hz1, hz2⟩ := info_parts E.info
 obtain ⟨v', w', r1, r2, r3, -⟩ := run_append_own (P := P) w B t ty 55 i0 z 4 bytes E.under hi hz0 hz1 hz2 E.cells E.pos v l.length (toksCells l) h ⟨g, 0, none⟩ l2.length c (toksCells l2) (toksCells_len l2)
  (fun j u hj => by rw [add_off, Nat.zero_add]; exact hc j u hj) (toksCells_one l2) (by unfold maxLen; omega) hbytes hB
 refine ⟨v', w', r1, ?_, r3, grown_below h r3 hB⟩
 unfold OwT
 rw [List.length_append, toksCells_app]; exact r2
theorem wpList_appT {P : Program} {ops : Array Oper} {rest : List Oper} {o : Oper} {a : Act} {Q : Exit → Act → World → Prop} (hgd : o.guard = none) (s x : Operand)
    {t : TypeId} {z : Value} {bytes : Nat} (E : ElemT P t 55 z 4 bytes) (ho : o.op = .call { callee := .builtin .append, args := #[s, x], argTypes := #[t, t] })
    {B : Nat} {v : Value} {l l2 : List Tok} {w : World} (h : OwT B w v l) (hB : B ≤ w.heap.size) {g m c : Nat} (hm : l2.length = m) (hc : ∀ j u, (toksCells l2)[j]? = some u → w.cell? ⟨g, j, none⟩ = some u)
    (hbytes : (l.length + m) * bytes ≤ 140737488355328) (h63 : l.length + m ≤ 140737488355328) (hs : a.eval s = v) (hx : a.eval x = .slice (some ⟨g, 0, none⟩) m c)
    (hK : ∀ v' w', OwT B w' v' (l ++ l2) → w.grownBy w' v.ownBlock → Below B w w' → wpList P ops Q rest (a.put o.dst v') w') : wpList P ops Q (o :: rest) a w := by
  obtain ⟨v', w', hrun, r2, r3, r4⟩ := run_appT (P := P) E o.type h hB hm hc hbytes h63
  refine wpList_plain hgd fun K hK' => ?_
  unfold Oper.wp execOp
  simp only [ho, resolve, invoke, builtin, Sem.run_bind, Sem.run_pure, Result.andThen_ok, List.map_toArray, List.map_cons, List.map_nil, hs, hx]
  rw [hrun]
  simp only [Result.andThen_ok]
  exact hK' _ _ (hK v' w' r2 r3 r4)
theorem wp_appT {P : Program} {o : Oper} {a : Act} {K : Act → World → Prop} {Q : Exit → Act → World → Prop} {s x : Operand} {t : TypeId} {z : Value} {bytes : Nat}
    {B : Nat} {v : Value} {l l2 : List Tok} {w : World} (h : OwT B w v l) (E : ElemT P t 55 z 4 bytes) (hB : B ≤ w.heap.size) {g m c : Nat} (hm : l2.length = m) (hc : ∀ j u, (toksCells l2)[j]? = some u → w.cell? ⟨g, j, none⟩ = some u)
    (hbytes : (l.length + m) * bytes ≤ 140737488355328) (h63 : l.length + m ≤ 140737488355328)
    (ho : o.op = .call { callee := .builtin .append, args := #[s, x], argTypes := #[t, t] }) (hs : a.eval s = v) (hx : a.eval x = .slice (some ⟨g, 0, none⟩) m c)
    (hK : ∀ v' w', OwT B w' v' (l ++ l2) → w.grownBy w' v.ownBlock → Below B w w' → K (a.put o.dst v') w') : o.wp P a w K Q := by
  obtain ⟨v', w', hrun, r2, r3, r4⟩ := run_appT (P := P) E o.type h hB hm hc hbytes h63
  unfold Oper.wp execOp
  simp only [ho, resolve, invoke, builtin, Sem.run_bind, Sem.run_pure, Result.andThen_ok, List.map_toArray, List.map_cons, List.map_nil, hs, hx]
  rw [hrun]
  simp only [Result.andThen_ok]
  exact hK v' w' r2 r3 r4
theorem Bx.low {w w' : World} {A B : Nat} {T : TypeId} {cs : Array Value} (h : Bx w A T cs) (hb : Below B w w') (hA : A < B) : Bx w' A T cs := (hb.block A hA).trans h
theorem FoS.low {D : Nat → Prop} {w w' : World} {B : Nat} {p : Option Addr} {c : Nat} {a : Fo} (h : FoS D w p c a) (hb : Below B w w') (hD : ∀ b, D b → b < B) : FoS D w' p c a :=
 h.move (fun _ h => h) hb.size fun b o v hd _ hv => by
  have h2 := hb.block b (hD b hd)
  unfold World.cell? at hv ⊢
  rw [h2]; exact hv
theorem Bx.toks {w : World} {A : Nat} {l : List Tok} (h : Bx w A 55 (toksCells l).toArray) : ∀ j u, (toksCells l)[j]? = some u → w.cell? ⟨A, j, none⟩ = some u := fun j u hj => by
 rw [h.at.1]; simpa using hj
/-- What the reference's writers return. -/
def TkPost (l : List Tok) (w : World) (e : Ending) (w' : World) : Prop := ∃ v, e = .returned v ∧ OwT w.heap.size w' v l ∧ Below w.heap.size w w'
/-- The tokens of an expression with these arguments. -/
def RtOK (a : Fo) : Prop := ∀ (D : Nat → Prop) (w : World) (op n : Int) (u m : Bytes) (q : Option Addr) (d : Nat), shF ((Ex.mk op n u m a).then .nil) = true → FoS D w q d a → (toksX ⟨op, n, u, m, a⟩).length ≤ 1000000 →
 Calls Tryz.prog 28 #[.agg (hdC ⟨op, n, u, m, a⟩ q d).toArray] w (TkPost (toksX ⟨op, n, u, m, a⟩) w)
theorem toks_ne {x : Ex} (h : shF (x.then .nil) = true) : toksX x ≠ [] := by
 rw [shF_one, Bool.and_eq_true] at h
 have hr := rw_node h.1 (fun y hy => rw_all _ h.2 y hy)
 intro h0
 have := hr.rt.ex 1 [] (by rw [h0]; exact Nat.lt_succ_self _) exprEnd_nil
 rw [h0] at this
 have h1 : (Except.error [] : PR) = .ok (x, []) := this
 cases h1
set_option maxRecDepth 100000 in
set_option maxHeartbeats 4000000 in
theorem rlisted_ok {a : Fo} (hi : ∀ x ∈ a.list, RtOK x.args) (hal : a.len ≤ 1000000) {D : Nat → Prop} {w : World} {q : Option Addr} {d g m c : Nat} {hd : List Tok} (hs : shF a = true) (hS : FoS D w q d a) (hb : Bx w g 55 (toksCells hd).toArray) (hm : hd.length = m) (hm4 : m ≤ 4) (hn : hd.length + (listT (tokF a)).length ≤ 1000000) :
    Calls Tryz.prog 48 #[.slice (some ⟨g, 0, none⟩) m c, .slice q a.len d] w (TkPost (hd ++ listT (tokF a)) w) := by
  rw [listT_sep] at hn ⊢
  have HN : Hid (hd.length + (sepT (tokF a)).length + 1 ≤ 1000000) := by show _ ≤ _; simp at hn; omega
  have H := Lib.hid hb; have F := Lib.hid hS.inH; have HX := Lib.hid hi; have HS := Lib.hid hs; have HM := Lib.hid hm
  clear hi hs hb hS hn hm
  have hgl := H.out.lt
  go_enter Tryz.func48, Tryz.ntmps48
  go_upto_region 2 with (at_builtin; go_must (refine wpList_appT rfl _ _ elemTok rfl (B := w.heap.size) (l := []) (l2 := hd) (OwT.lit (l := []) (bx1 w 55 #[]) rfl (Nat.le_refl _) (by decide)) (by simp) HM.out (fun j u hj => (Bx.keep H.out (below_alloc _ _)).toks j u hj) (by show (0 + m) * 40 ≤ _; omega) (by show 0 + m ≤ _; omega) rfl rfl ?_; intro v' w1 ho hg hb))
  have hO0 : Hid (OwT w.heap.size w1 v' (hd ++ sepT ((tokF a).take 0))) := by show OwT _ _ _ _; rw [show hd ++ sepT ((tokF a).take 0) = hd from List.append_nil _]; exact ho
  have HSZ : Hid (w.heap.size ≤ w1.heap.size) := by show _ ≤ _; have h1 := hb.size; simp at h1; omega
  have hB0 : Hid (Below w.heap.size w w1) := by show Below _ _ _; exact (below_alloc w (.cells #[] 55)).trans hb
  have hF0 : Hid (FoS (fun b => b < w.heap.size) w1 q d a) := F.out.low hB0.out (fun b hb => hb)
  clear ho hg hb H F hgl
  go_wp2_with fail
  go_loopw [5, 6] (fun v i wr => ∃ (vv : Value) (j : Nat), vv = v ∧ i = .int .i64 (j : Int) ∧ j ≤ a.len ∧ Hid (w.heap.size ≤ wr.heap.size) ∧ Hid (OwT w.heap.size wr v (hd ++ sepT ((tokF a).take j))) ∧ Hid (FoS (fun b => b < w.heap.size) wr q d a) ∧ Hid (Below w.heap.size w wr)) (fun _ i _ => a.len - (intOf i).toNat)
  case atStart => exact ⟨_, 0, rfl, rfl, Nat.zero_le _, HSZ, hO0, hF0, hB0⟩
  case round =>
    clear hO0 HSZ hB0 hF0
    obtain ⟨v_, j, rfl, rfl, hj, HSZ, HO, F, B⟩ := hrel
    have HLE : Hid ((sepT ((tokF a).take j)).length ≤ (sepT (tokF a)).length) := sepT_take _ _
    by_cases hlt : j < a.len
    · obtain ⟨x, hx⟩ : ∃ x, a.list[j]? = some x := ⟨_, List.getElem?_eq_getElem (by rw [Fo.len_list]; exact hlt)⟩
      have HJ := Lib.hid hx
      have HLE1 : Hid ((sepT ((tokF a).take (j + 1))).length ≤ (sepT (tokF a)).length) := sepT_take _ _
      have HMEM := Lib.hid (List.mem_of_getElem? hx)
      have hjl : (j : Int) < (a.len : Int) := by omega
      have hj0 : (0 : Int) ≤ (j : Int) := by omega
      have HLT := Lib.hid hlt
      clear hx
      have STEP : Hid (∀ (W : World) (vv : Value) (L : List Tok), w.heap.size ≤ W.heap.size → OwT w.heap.size W vv L → L.length + (toksX x).length ≤ 1000000 → True) := fun _ _ _ _ _ _ => trivial
      clear STEP
      by_cases h0 : j = 0
      · subst h0
        have HSN : Hid (sepT ((tokF a).take (0 + 1)) = toksX x) := sep_first HJ.out
        obtain ⟨b, o, q2, d2, rfl, hb, hcell, hsx⟩ := F.out.at HJ.out
        have F2 := Lib.hid hsx; clear hsx
        have c0 : wr.cell? ⟨b, o, none⟩ = some (.int .i64 x.op) := by have := hcell 0 _ rfl; simpa using this
        have c1 : wr.cell? ⟨b, o + 1, none⟩ = some (.int .i64 x.n) := by have := hcell 1 _ rfl; simpa using this
        have c2 : wr.cell? ⟨b, o + 2, none⟩ = some (.string ⟨x.unit.toArray⟩) := by have := hcell 2 _ rfl; simpa using this
        have c3 : wr.cell? ⟨b, o + 3, none⟩ = some (.string ⟨x.name.toArray⟩) := by have := hcell 3 _ rfl; simpa using this
        have c4 : wr.cell? ⟨b, o + 4, none⟩ = some (.slice q2 x.args.len d2) := by have := hcell 4 _ rfl; simpa using this
        clear hcell
        have HC := Lib.hid (HX.out x HMEM.out _ wr x.op x.n x.unit x.name q2 d2 (shF_mem HS.out HMEM.out) F2.out (by have h1 := HN.out; have h2 := HLE1.out; rw [HSN.out] at h2; show (toksX x).length ≤ _; omega))
        unfold hdC at HC
        go_wp2_with fail
        clear c0 c1 c2 c3 c4
        refine HC.out.mono ?_
        rintro e w3 ⟨v2, rfl, ho2, hb2⟩
        clear HC
        obtain ⟨g2, cap2, hv2, hg2, hgl2, hc2⟩ := ho2.at (toks_ne (shF_mem HS.out HMEM.out))
        subst hv2
        obtain ⟨nn, hnn⟩ : ∃ nn, (toksX x).length = nn := ⟨_, rfl⟩
        rw [hnn]
        have HC2 := Lib.hid hc2
        have HSZ2 : Hid (w.heap.size ≤ w3.heap.size) := by show _ ≤ _; have h1 := HSZ.out; have h2 := hb2.size; omega
        have HO2 := Lib.hid (HO.out.keep hb2)
        have F3 := Lib.hid (F.out.low hb2 (fun b hb => by have h1 := HSZ.out; omega))
        have B2 := Lib.hid (be_call B.out hb2)
        have hbd : (hd ++ sepT ((tokF a).take 0)).length + nn ≤ 1000000 := by rw [show hd ++ sepT ((tokF a).take 0) = hd from List.append_nil _]; have h1 := HN.out; have h2 := HLE1.out; rw [HSN.out] at h2; omega
        clear HO F B F2 ho2 hb2 hc2 hg2 hgl2
        go_upto_region 4 with (at_builtin; go_must (refine wpList_appT rfl _ _ elemTok rfl HO2.out HSZ2.out hnn HC2.out (by omega) (by omega) rfl rfl ?_; intro v' w4 ho hg hb))
        have HO := Lib.hid ho; have F := Lib.hid (F3.out.low hb (fun b hb => hb)); have B := Lib.hid (B2.out.trans hb)
        replace HSZ : Hid (w.heap.size ≤ w4.heap.size) := by show _ ≤ _; have h1 := HSZ2.out; have h2 := hb.size; omega
        clear HO2 F3 B2 HC2 ho hg hb HSZ2 hbd
        go_wp2_with fail
        go_roundw
        case rel => exact ⟨_, 1, rfl, by go_num, HLT.out, HSZ, by show OwT _ _ _ _; have h1 := HO.out; rw [show hd ++ sepT ((tokF a).take 0) = hd from List.append_nil _] at h1; rw [show sepT ((tokF a).take 1) = _ from HSN.out]; exact h1, F, B⟩
        case measure => have := HLT.out; simp [intOf]; omega
      · have hjp : (0 : Int) < (j : Int) := by omega
        have HSN : Hid (sepT ((tokF a).take (j + 1)) = sepT ((tokF a).take j) ++ tkS [44] :: toksX x) := sep_next HJ.out h0
        have HLB : Hid (hd.length + (sepT ((tokF a).take j)).length + 1 + (toksX x).length ≤ 1000000) := by
          show _ ≤ _
          have h1 := HN.out; have h2 := HLE1.out; rw [HSN.out] at h2; simp at h2; omega
        clear h0
        go_wp2_with fail
        refine (rSgn_ok ⟨#[44]⟩ (sl := [44]) (by rw [Lib.toList_data])).mono ?_
        rintro e w2 ⟨rfl, hb⟩
        rw [show tkV (tkS [44]) = .agg #[.int .i64 3, .string ⟨#[44]⟩, .int .i64 0, .int .i64 0] from rfl]
        replace HSZ : Hid (w.heap.size ≤ w2.heap.size) := by show _ ≤ _; have h1 := HSZ.out; have h2 := hb.size; omega
        replace HO := Lib.hid (HO.out.keep hb)
        replace F := Lib.hid (F.out.keep hb)
        replace B := Lib.hid (be_call B.out hb)
        clear hb
        have hbd : (hd ++ sepT ((tokF a).take j)).length + 1 ≤ 1000000 := by have h1 := HLB.out; simp; omega
        go_upto_region 7 with (at_builtin; go_must (refine wpList_appT rfl _ _ elemTok rfl (l2 := [tkS [44]]) (World.ownsRow.alloc HO.out _) (by have h1 := HSZ.out; simp; omega) rfl (show Bx _ _ _ (toksCells [tkS [44]]).toArray from bx1 w2 _ _).toks (by show (_ + 1) * 40 ≤ _; omega) (by show _ + 1 ≤ _; omega) rfl rfl ?_; intro v1 w3 ho hg hb))
        replace F := Lib.hid ((F.out.keep (below_alloc w2 _)).low hb (fun b hb => hb))
        replace B := Lib.hid ((be_call B.out (below_alloc w2 _)).trans hb)
        replace HSZ : Hid (w.heap.size ≤ w3.heap.size) := by show _ ≤ _; have h1 := HSZ.out; have h2 := hb.size; simp at h2; omega
        replace HO := Lib.hid ho
        clear ho hg hb hbd
        obtain ⟨b, o, q2, d2, rfl, hb, hcell, hsx⟩ := F.out.at HJ.out
        have F2 := Lib.hid hsx; clear hsx
        have c0 : w3.cell? ⟨b, o + j * 5, none⟩ = some (.int .i64 x.op) := by have := hcell 0 _ rfl; rw [Nat.mul_comm] at this; exact this
        have c1 : w3.cell? ⟨b, o + j * 5 + 1, none⟩ = some (.int .i64 x.n) := by have := hcell 1 _ rfl; rw [Nat.mul_comm] at this; exact this
        have c2 : w3.cell? ⟨b, o + j * 5 + 2, none⟩ = some (.string ⟨x.unit.toArray⟩) := by have := hcell 2 _ rfl; rw [Nat.mul_comm] at this; exact this
        have c3 : w3.cell? ⟨b, o + j * 5 + 3, none⟩ = some (.string ⟨x.name.toArray⟩) := by have := hcell 3 _ rfl; rw [Nat.mul_comm] at this; exact this
        have c4 : w3.cell? ⟨b, o + j * 5 + 4, none⟩ = some (.slice q2 x.args.len d2) := by have := hcell 4 _ rfl; rw [Nat.mul_comm] at this; exact this
        clear hcell
        have HC := Lib.hid (HX.out x HMEM.out _ w3 x.op x.n x.unit x.name q2 d2 (shF_mem HS.out HMEM.out) F2.out (by have h1 := HLB.out; show (toksX x).length ≤ _; omega))
        unfold hdC at HC
        go_wp2_with fail
        clear c0 c1 c2 c3 c4
        refine HC.out.mono ?_
        rintro e w4 ⟨v2, rfl, ho2, hb2⟩
        clear HC
        obtain ⟨g2, cap2, hv2, hg2, hgl2, hc2⟩ := ho2.at (toks_ne (shF_mem HS.out HMEM.out))
        subst hv2
        obtain ⟨nn, hnn⟩ : ∃ nn, (toksX x).length = nn := ⟨_, rfl⟩
        rw [hnn]
        have HC2 := Lib.hid hc2
        have HSZ2 : Hid (w.heap.size ≤ w4.heap.size) := by show _ ≤ _; have h1 := HSZ.out; have h2 := hb2.size; omega
        have HO2 := Lib.hid (HO.out.keep hb2)
        have F3 := Lib.hid (F.out.keep hb2)
        have B2 := Lib.hid (be_call B.out hb2)
        have hbd : ((hd ++ sepT ((tokF a).take j)) ++ [tkS [44]]).length + nn ≤ 1000000 := by
          have h1 := HLB.out; rw [hnn] at h1; simp; omega
        clear HO F B F2 ho2 hb2 hc2 hg2 hgl2
        go_upto_region 4 with (at_builtin; go_must (refine wpList_appT rfl _ _ elemTok rfl HO2.out HSZ2.out hnn HC2.out (by omega) (by omega) rfl rfl ?_; intro v' w5 ho hg hb))
        have HO := Lib.hid ho; have F := Lib.hid (F3.out.low hb (fun b hb => hb)); have B := Lib.hid (B2.out.trans hb)
        replace HSZ : Hid (w.heap.size ≤ w5.heap.size) := by show _ ≤ _; have h1 := HSZ2.out; have h2 := hb.size; omega
        clear HO2 F3 B2 HC2 ho hg hb HSZ2 hbd
        go_wp2_with fail
        go_roundw
        case rel => exact ⟨_, j + 1, rfl, by go_num, HLT.out, HSZ, by show OwT _ _ _ _; have h1 := HO.out; rw [HSN.out]; simpa using h1, F, B⟩
        case measure => have := HLT.out; simp [intOf]; omega
    · have hje : j = a.len := by omega
      have hjl : ¬ (j : Int) < (a.len : Int) := by omega
      have HO9 : Hid (OwT w.heap.size wr v_ (hd ++ sepT (tokF a))) := by show OwT _ _ _ _; have h1 := HO.out; rw [hje, sep_all] at h1; exact h1
      have hbd : (hd ++ sepT (tokF a)).length + 1 ≤ 1000000 := by have h1 := HN.out; simp; omega
      clear HO
      go_wp2_with fail
      refine (rSgn_ok ⟨#[41]⟩ (sl := [41]) (by rw [Lib.toList_data])).mono ?_
      rintro e w2 ⟨rfl, hb⟩
      rw [show tkV (tkS [41]) = .agg #[.int .i64 3, .string ⟨#[41]⟩, .int .i64 0, .int .i64 0] from rfl]
      replace HSZ : Hid (w.heap.size ≤ w2.heap.size) := by show _ ≤ _; have h1 := HSZ.out; have h2 := hb.size; omega
      replace HO9 := Lib.hid (HO9.out.keep hb)
      replace B := Lib.hid (be_call B.out hb)
      clear hb hje hjl
      go_wp2_with (at_builtin; go_must (refine wpList_appT rfl _ _ elemTok rfl (l2 := [tkS [41]]) (World.ownsRow.alloc HO9.out _) (by have h1 := HSZ.out; simp; omega) rfl (show Bx _ _ _ (toksCells [tkS [41]]).toArray from bx1 w2 _ _).toks (by show (_ + 1) * 40 ≤ _; omega) (by show _ + 1 ≤ _; omega) rfl rfl ?_; intro v1 w3 ho hg hb))
      replace B := Lib.hid ((be_call B.out (below_alloc w2 _)).trans hb)
      have HO := Lib.hid ho
      clear ho hg hb hbd HO9
      (try go_wp2_with fail)
      go_ret
      exact ⟨_, rfl, by show OwT _ _ _ _; have h1 := HO.out; rw [List.append_assoc] at h1; exact h1, B.out⟩
end Go.Proofs.YtckgmilmhofekaaGreatDoor
namespace Go.Proofs.YtckgmilmhofekaaGreatDoor
open Go.RowKit

/-- The cells of an expression that lies at a place below G. -/
def ArgC (G : Nat) (w : World) (b o : Nat) (x : Ex) (q : Option Addr) (d : Nat) : Prop := G ≤ w.heap.size ∧ b < G ∧ w.cell? ⟨b, o, none⟩ = some (.int .i64 x.op) ∧ w.cell? ⟨b, o + 1, none⟩ = some (.int .i64 x.n) ∧ w.cell? ⟨b, o + 2, none⟩ = some (.string ⟨x.unit.toArray⟩) ∧ w.cell? ⟨b, o + 3, none⟩ = some (.string ⟨x.name.toArray⟩) ∧ w.cell? ⟨b, o + 4, none⟩ = some (.slice q x.args.len d)
theorem cell_low {w w' : World} {B b o : Nat} {v : Value} (h : w.cell? ⟨b, o, none⟩ = some v) (hb : Below B w w') (hB : b < B) : w'.cell? ⟨b, o, none⟩ = some v := by
 have h2 := hb.block b hB
 unfold World.cell? at h ⊢
 rw [h2]; exact h
theorem ArgC.low {G : Nat} {w w' : World} {b o : Nat} {x : Ex} {q : Option Addr} {d B : Nat} (h : ArgC G w b o x q d) (hb : Below B w w') (hG : G ≤ B) : ArgC G w' b o x q d := by
 obtain ⟨h0, h1, h2, h3, h4, h5, h6⟩ := h
 have hB : b < B := by omega
 exact ⟨Nat.le_trans h0 hb.size, h1, cell_low h2 hb hB, cell_low h3 hb hB, cell_low h4 hb hB, cell_low h5 hb hB, cell_low h6 hb hB⟩
theorem ArgC.keep {G : Nat} {w w' : World} {b o : Nat} {x : Ex} {q : Option Addr} {d : Nat} (h : ArgC G w b o x q d) (hb : Below w.heap.size w w') : ArgC G w' b o x q d := h.low hb h.1
/-- An argument's cells, and what lies below. -/
theorem FoS.argC {G : Nat} {w : World} {b o c k : Nat} {a : Fo} {x : Ex} (h : FoS (fun b => b < G) w (some ⟨b, o, none⟩) c a) (hG : G ≤ w.heap.size) (hk : a.list[k]? = some x) : ∃ q d, ArgC G w b (o + 5 * k) x q d ∧ FoS (fun b => b < G) w q d x.args := by
  obtain ⟨b', o', q, d, hp, hb, hc, hs⟩ := h.at hk
  cases hp
  have hbG : b < G := by
    rcases h.2 with h0 | ⟨b2, o2, e, h1, -⟩
    · have := (List.getElem?_eq_some_iff.1 hk).1
      rw [Fo.len_list, h0] at this; omega
    · cases e; exact h1
  exact ⟨q, d, ⟨hG, hbG, hc 0 _ rfl, hc 1 _ rfl, hc 2 _ rfl, hc 3 _ rfl, hc 4 _ rfl⟩, hs⟩
set_option maxRecDepth 100000 in
set_option maxHeartbeats 4000000 in
theorem ratom_ok {x : Ex} (hi : RtOK x.args) {D : Nat → Prop} {w : World} {q : Option Addr} {d : Nat} (hsh : shF (x.then .nil) = true) (hS : FoS D w q d x.args) (hn : (toksX x).length ≤ 1000000) :
    Calls Tryz.prog 50 #[.agg (hdC x q d).toArray] w (TkPost (wT x) w) := by
  have HI := Lib.hid hi; have HN := Lib.hid hn; have HSH := Lib.hid hsh
  have F := Lib.hid hS.inH; have B : Hid (Below w.heap.size w w) := be_refl w
  clear hi hS hn hsh
  unfold hdC
  go_enter Tryz.func50, Tryz.ntmps50
  go_upto_region 1 with fail
  refine nmW (w.alloc (.cells #[.int .i64 x.op, .int .i64 x.n, .string ⟨x.unit.toArray⟩, .string ⟨x.name.toArray⟩, .slice q x.args.len d] 24)) fun w1 hv => ?_
  rw [← hv]
  have K := bxh hv
  have hb_ := bah hv
  clear hv
  have z1_ := K.out.lt
  replace B := Lib.hid (be_call B.out hb_)
  replace F := Lib.hid (F.out.keep hb_)
  have z2_ := hb_.size
  clear hb_
  refine K.out.q5 fun pK_0 pK_1 pK_2 pK_3 pK_4 => ?_
  go_wp2_with fail
  clear pK_0 pK_1 pK_2 pK_3 pK_4
  refine (rOperator_ok x.op).mono ?_
  rintro e w2 ⟨rfl, hb_⟩
  replace B := Lib.hid (be_call B.out hb_)
  replace F := Lib.hid (F.out.keep hb_)
  replace K := Lib.hid (K.out.keep hb_)
  have z3_ := hb_.size
  clear hb_
  unfold opRV
  rw [tkV_is]
  obtain ⟨b1, hb1⟩ : ∃ b, (opName x.op).isSome = b := ⟨_, rfl⟩
  have HB1 := Lib.hid hb1
  rw [hb1]
  clear hb1
  obtain ⟨t, ht⟩ : ∃ t, t = opTok x.op := ⟨_, rfl⟩
  rw [← ht]
  clear ht
  go_upto_region 2 with fail
  refine nmW (w2.alloc (.cells #[.int .i64 t.kind, .string ⟨t.text.toArray⟩, .int .i64 t.n, .int .i64 t.pos] 55)) fun w3 hv => ?_
  rw [← hv]
  have J := bxh hv
  have hb_ := bah hv
  clear hv
  have z4_ := J.out.lt
  replace B := Lib.hid (be_call B.out hb_)
  replace F := Lib.hid (F.out.keep hb_)
  replace K := Lib.hid (K.out.keep hb_)
  have z5_ := hb_.size
  clear hb_
  clear J
  cases b1 with
  | true =>
    have HW : Hid (wT x = ([tkS [40]] ++ toksX x) ++ [tkS [41]]) := by show _ = _; rw [wT_yes (.inl HB1.out)]; simp
    refine K.out.q5 fun pK_0 pK_1 pK_2 pK_3 pK_4 => ?_
    go_upto_region 4 with fail
    clear pK_0 pK_1 pK_2 pK_3 pK_4
    refine nmW w3.drew fun w4 hW => ?_
    have hb_ := bdh hW
    replace B := Lib.hid (be_call B.out hb_)
    replace F := Lib.hid (F.out.keep hb_)
    replace K := Lib.hid (K.out.keep hb_)
    have z6_ := hb_.size
    clear hb_
    refine wp_region_held_drew (S := (fun w' => w'.cell? ⟨w.heap.size, 0, none⟩ = some (.int .i64 x.op) ∧ w'.cell? ⟨w.heap.size, 1, none⟩ = some (.int .i64 x.n) ∧ w'.cell? ⟨w.heap.size, 2, none⟩ = some (.string ⟨x.unit.toArray⟩) ∧ w'.cell? ⟨w.heap.size, 3, none⟩ = some (.string ⟨x.name.toArray⟩) ∧ w'.cell? ⟨w.heap.size, 4, none⟩ = some (.slice q x.args.len d))) (by kernel_rfl) (by rw [← hW]; exact K.out.d5) (fun hH => ?_)
    rw [← hW] at hH ⊢
    clear hW
    refine tk at2 (v := .agg #[.int .i64 x.op, .int .i64 x.n, .string ⟨x.unit.toArray⟩, .string ⟨x.name.toArray⟩, .slice q x.args.len d]) ?_
    refine wpAnyH_ready (rs := [0]) (by kernel_rfl) (by simp) ?_
    refine AllReadyH.cons at0 (fun K_ hK => ?_) AllReadyH.nil
    go_simp
    refine (rSgn_ok ⟨#[40]⟩ (sl := [40]) (by rw [Lib.toList_data])).mono ?_
    rintro e w5 ⟨rfl, hb_⟩
    replace B := Lib.hid (be_call B.out hb_)
    replace F := Lib.hid (F.out.keep hb_)
    replace K := Lib.hid (K.out.keep hb_)
    have z7_ := hb_.size
    clear hb_
    rw [show tkV (tkS [40]) = .agg #[.int .i64 3, .string ⟨#[40]⟩, .int .i64 0, .int .i64 0] from rfl]
    (try go_wp2_with fail)
    refine hK.out _ _ (K.out.d5) (fun hH2 => ?_)
    clear hK K_ hH
    have hH := hH2; clear hH2
    (try simp only [Act.put, kS, kZ, kC])
    refine wpAnyH_ready (rs := [1, 3]) (by kernel_rfl) (by simp) ?_
    refine AllReadyH.cons at1 (fun K_ hK => ?_) (AllReadyH.cons at3 (fun K_ hK => ?_) AllReadyH.nil)
    · skip
      go_simp
      refine nmW (w5.alloc (.cells #[.int .i64 3, .string ⟨#[40]⟩, .int .i64 0, .int .i64 0] 55)) fun w6 hv => ?_
      rw [← hv]
      have L := bxh hv
      have hb_ := bah hv
      clear hv
      have z8_ := L.out.lt
      replace B := Lib.hid (be_call B.out hb_)
      replace F := Lib.hid (F.out.keep hb_)
      replace K := Lib.hid (K.out.keep hb_)
      have z9_ := hb_.size
      clear hb_
      refine hK.out _ _ (K.out.d5) (fun hH2 => ?_)
      clear hK K_ hH
      have hH := hH2; clear hH2
      (try simp only [Act.put, kS, kZ, kC])
      refine wpAnyH_ready (rs := [3]) (by kernel_rfl) (by simp) ?_
      refine AllReadyH.cons at3 (fun K_ hK => ?_) AllReadyH.nil
      have HC := Lib.hid (HI.out _ w6 x.op x.n x.unit x.name q d HSH.out F.out (by have := HN.out; show (toksX x).length ≤ _; omega))
      unfold hdC at HC
      go_simp
      refine (HC.out).mono ?_
      rintro e w7 ⟨v2, rfl, ho_, hb_⟩
      replace B := Lib.hid (be_call B.out hb_)
      replace F := Lib.hid (F.out.keep hb_)
      replace K := Lib.hid (K.out.keep hb_)
      replace L := Lib.hid (L.out.keep hb_)
      have z10_ := hb_.size
      clear hb_
      have O2 := Lib.hid (ho_.mono (B' := w1.heap.size) (by omega)); clear ho_
      clear HC
      (try go_wp2_with fail)
      refine hK.out _ _ (K.out.d5) (fun hH2 => ?_)
      clear hK K_ hH
      have hH := hH2; clear hH2
      (try simp only [Act.put, kS, kZ, kC])
      obtain ⟨g2, cap2, hv_, -, -, hc2⟩ := O2.out.at (toks_ne HSH.out)
      subst hv_
      have HC2 := Lib.hid hc2; clear hc2
      obtain ⟨nn, hnn⟩ : ∃ nn, (toksX x).length = nn := ⟨_, rfl⟩
      rw [hnn]
      refine wpAnyH_ready (rs := [4]) (by kernel_rfl) (by simp) ?_
      refine AllReadyH.cons at4 (fun K_ hK => ?_) AllReadyH.nil
      have hln_ : ([tkS [40]] : List Tok).length + nn ≤ 1000010 := by have := HN.out; rw [hnn] at this; show 1 + nn ≤ _; omega
      rw [if_pos (by rfl)]
      refine wp_appT (OwT.lit (l := [tkS [40]]) L.out rfl (by omega) (by decide)) elemTok (by omega) hnn HC2.out (by omega) (by omega) rfl rfl rfl (fun v8_ w8 ho_ hg_ hb_ => ?_)
      clear O2
      clear L
      clear HC2
      clear hln_ hg_
      replace B := Lib.hid (B.out.trans (hb_.mono (by omega)))
      replace F := Lib.hid (F.out.low hb_ (fun b hb => by omega))
      replace K := Lib.hid (K.out.low hb_ (by omega))
      have z11_ := hb_.size
      clear hb_
      have O4 := Lib.hid ho_; clear ho_
      refine hK.out _ _ (K.out.d5) (fun hH2 => ?_)
      clear hK K_ hH
      have hH := hH2; clear hH2
      (try simp only [Act.put, kS, kZ, kC])
      refine wpAnyH_ready (rs := [5]) (by kernel_rfl) (by simp) ?_
      refine AllReadyH.cons at5 (fun K_ hK => ?_) AllReadyH.nil
      go_simp
      refine (rSgn_ok ⟨#[41]⟩ (sl := [41]) (by rw [Lib.toList_data])).mono ?_
      rintro e w9 ⟨rfl, hb_⟩
      replace B := Lib.hid (be_call B.out hb_)
      replace F := Lib.hid (F.out.keep hb_)
      replace K := Lib.hid (K.out.keep hb_)
      replace O4 := Lib.hid (O4.out.keep hb_)
      have z12_ := hb_.size
      clear hb_
      rw [show tkV (tkS [41]) = .agg #[.int .i64 3, .string ⟨#[41]⟩, .int .i64 0, .int .i64 0] from rfl]
      (try go_wp2_with fail)
      refine hK.out _ _ (K.out.d5) (fun hH2 => ?_)
      clear hK K_ hH
      have hH := hH2; clear hH2
      (try simp only [Act.put, kS, kZ, kC])
      refine wpAnyH_ready (rs := [6]) (by kernel_rfl) (by simp) ?_
      refine AllReadyH.cons at6 (fun K_ hK => ?_) AllReadyH.nil
      go_simp
      refine nmW (w9.alloc (.cells #[.int .i64 3, .string ⟨#[41]⟩, .int .i64 0, .int .i64 0] 55)) fun w10 hv => ?_
      rw [← hv]
      have L2 := bxh hv
      have hb_ := bah hv
      clear hv
      have z13_ := L2.out.lt
      replace B := Lib.hid (be_call B.out hb_)
      replace F := Lib.hid (F.out.keep hb_)
      replace K := Lib.hid (K.out.keep hb_)
      replace O4 := Lib.hid (O4.out.keep hb_)
      have z14_ := hb_.size
      clear hb_
      refine hK.out _ _ (K.out.d5) (fun hH2 => ?_)
      clear hK K_ hH
      have hH := hH2; clear hH2
      (try simp only [Act.put, kS, kZ, kC])
      refine wpAnyH_ready (rs := [7]) (by kernel_rfl) (by simp) ?_
      refine AllReadyH.cons at7 (fun K_ hK => ?_) AllReadyH.nil
      have hln_ : ([tkS [40]] ++ toksX x).length + 1 ≤ 1000010 := by have := HN.out; simp; omega
      rw [if_pos (by rfl)]
      refine wp_appT O4.out elemTok (by omega) (show ([tkS [41]] : List Tok).length = 1 from rfl) (show Bx _ _ _ (toksCells [tkS [41]]).toArray from L2.out).toks (by omega) (by omega) rfl rfl rfl (fun v11_ w11 ho_ hg_ hb_ => ?_)
      clear O4
      clear L2
      clear hln_ hg_
      replace B := Lib.hid (B.out.trans (hb_.mono (by omega)))
      replace F := Lib.hid (F.out.low hb_ (fun b hb => by omega))
      replace K := Lib.hid (K.out.low hb_ (by omega))
      have z15_ := hb_.size
      clear hb_
      have O7 := Lib.hid ho_; clear ho_
      refine hK.out _ _ (K.out.d5) (fun hH2 => ?_)
      clear hK K_ hH
      have hH := hH2; clear hH2
      (try simp only [Act.put, kS, kZ, kC])
      refine tk at8 ?_
      refine wpAnyH_done (by kernel_rfl) ?_ _
      clear hH
      go_wp2_with fail
      go_ret
      exact ⟨_, rfl, by rw [HW.out]; exact O7.out.mono (by omega), B.out⟩
    · skip
      have HC := Lib.hid (HI.out _ w5 x.op x.n x.unit x.name q d HSH.out F.out (by have := HN.out; show (toksX x).length ≤ _; omega))
      unfold hdC at HC
      go_simp
      refine (HC.out).mono ?_
      rintro e w12 ⟨v2, rfl, ho_, hb_⟩
      replace B := Lib.hid (be_call B.out hb_)
      replace F := Lib.hid (F.out.keep hb_)
      replace K := Lib.hid (K.out.keep hb_)
      have z16_ := hb_.size
      clear hb_
      have O2 := Lib.hid (ho_.mono (B' := w1.heap.size) (by omega)); clear ho_
      clear HC
      (try go_wp2_with fail)
      refine hK.out _ _ (K.out.d5) (fun hH2 => ?_)
      clear hK K_ hH
      have hH := hH2; clear hH2
      (try simp only [Act.put, kS, kZ, kC])
      refine wpAnyH_ready (rs := [1]) (by kernel_rfl) (by simp) ?_
      refine AllReadyH.cons at1 (fun K_ hK => ?_) AllReadyH.nil
      go_simp
      refine nmW (w12.alloc (.cells #[.int .i64 3, .string ⟨#[40]⟩, .int .i64 0, .int .i64 0] 55)) fun w13 hv => ?_
      rw [← hv]
      have L := bxh hv
      have hb_ := bah hv
      clear hv
      have z17_ := L.out.lt
      replace B := Lib.hid (be_call B.out hb_)
      replace F := Lib.hid (F.out.keep hb_)
      replace K := Lib.hid (K.out.keep hb_)
      replace O2 := Lib.hid (O2.out.keep hb_)
      have z18_ := hb_.size
      clear hb_
      refine hK.out _ _ (K.out.d5) (fun hH2 => ?_)
      clear hK K_ hH
      have hH := hH2; clear hH2
      (try simp only [Act.put, kS, kZ, kC])
      obtain ⟨g2, cap2, hv_, -, -, hc2⟩ := O2.out.at (toks_ne HSH.out)
      subst hv_
      have HC2 := Lib.hid hc2; clear hc2
      obtain ⟨nn, hnn⟩ : ∃ nn, (toksX x).length = nn := ⟨_, rfl⟩
      rw [hnn]
      refine wpAnyH_ready (rs := [4]) (by kernel_rfl) (by simp) ?_
      refine AllReadyH.cons at4 (fun K_ hK => ?_) AllReadyH.nil
      have hln_ : ([tkS [40]] : List Tok).length + nn ≤ 1000010 := by have := HN.out; rw [hnn] at this; show 1 + nn ≤ _; omega
      rw [if_pos (by rfl)]
      refine wp_appT (OwT.lit (l := [tkS [40]]) L.out rfl (by omega) (by decide)) elemTok (by omega) hnn HC2.out (by omega) (by omega) rfl rfl rfl (fun v14_ w14 ho_ hg_ hb_ => ?_)
      clear O2
      clear L
      clear HC2
      clear hln_ hg_
      replace B := Lib.hid (B.out.trans (hb_.mono (by omega)))
      replace F := Lib.hid (F.out.low hb_ (fun b hb => by omega))
      replace K := Lib.hid (K.out.low hb_ (by omega))
      have z19_ := hb_.size
      clear hb_
      have O4 := Lib.hid ho_; clear ho_
      refine hK.out _ _ (K.out.d5) (fun hH2 => ?_)
      clear hK K_ hH
      have hH := hH2; clear hH2
      (try simp only [Act.put, kS, kZ, kC])
      refine wpAnyH_ready (rs := [5]) (by kernel_rfl) (by simp) ?_
      refine AllReadyH.cons at5 (fun K_ hK => ?_) AllReadyH.nil
      go_simp
      refine (rSgn_ok ⟨#[41]⟩ (sl := [41]) (by rw [Lib.toList_data])).mono ?_
      rintro e w15 ⟨rfl, hb_⟩
      replace B := Lib.hid (be_call B.out hb_)
      replace F := Lib.hid (F.out.keep hb_)
      replace K := Lib.hid (K.out.keep hb_)
      replace O4 := Lib.hid (O4.out.keep hb_)
      have z20_ := hb_.size
      clear hb_
      rw [show tkV (tkS [41]) = .agg #[.int .i64 3, .string ⟨#[41]⟩, .int .i64 0, .int .i64 0] from rfl]
      (try go_wp2_with fail)
      refine hK.out _ _ (K.out.d5) (fun hH2 => ?_)
      clear hK K_ hH
      have hH := hH2; clear hH2
      (try simp only [Act.put, kS, kZ, kC])
      refine wpAnyH_ready (rs := [6]) (by kernel_rfl) (by simp) ?_
      refine AllReadyH.cons at6 (fun K_ hK => ?_) AllReadyH.nil
      go_simp
      refine nmW (w15.alloc (.cells #[.int .i64 3, .string ⟨#[41]⟩, .int .i64 0, .int .i64 0] 55)) fun w16 hv => ?_
      rw [← hv]
      have L2 := bxh hv
      have hb_ := bah hv
      clear hv
      have z21_ := L2.out.lt
      replace B := Lib.hid (be_call B.out hb_)
      replace F := Lib.hid (F.out.keep hb_)
      replace K := Lib.hid (K.out.keep hb_)
      replace O4 := Lib.hid (O4.out.keep hb_)
      have z22_ := hb_.size
      clear hb_
      refine hK.out _ _ (K.out.d5) (fun hH2 => ?_)
      clear hK K_ hH
      have hH := hH2; clear hH2
      (try simp only [Act.put, kS, kZ, kC])
      refine wpAnyH_ready (rs := [7]) (by kernel_rfl) (by simp) ?_
      refine AllReadyH.cons at7 (fun K_ hK => ?_) AllReadyH.nil
      have hln_ : ([tkS [40]] ++ toksX x).length + 1 ≤ 1000010 := by have := HN.out; simp; omega
      rw [if_pos (by rfl)]
      refine wp_appT O4.out elemTok (by omega) (show ([tkS [41]] : List Tok).length = 1 from rfl) (show Bx _ _ _ (toksCells [tkS [41]]).toArray from L2.out).toks (by omega) (by omega) rfl rfl rfl (fun v17_ w17 ho_ hg_ hb_ => ?_)
      clear O4
      clear L2
      clear hln_ hg_
      replace B := Lib.hid (B.out.trans (hb_.mono (by omega)))
      replace F := Lib.hid (F.out.low hb_ (fun b hb => by omega))
      replace K := Lib.hid (K.out.low hb_ (by omega))
      have z23_ := hb_.size
      clear hb_
      have O7 := Lib.hid ho_; clear ho_
      refine hK.out _ _ (K.out.d5) (fun hH2 => ?_)
      clear hK K_ hH
      have hH := hH2; clear hH2
      (try simp only [Act.put, kS, kZ, kC])
      refine tk at8 ?_
      refine wpAnyH_done (by kernel_rfl) ?_ _
      clear hH
      go_wp2_with fail
      go_ret
      exact ⟨_, rfl, by rw [HW.out]; exact O7.out.mono (by omega), B.out⟩
  | false =>
    by_cases h4 : x.op = 4
    · have e4 : (x.op != 4) = false := by rw [h4]; rfl
      have HW : Hid (wT x = ([tkS [40]] ++ toksX x) ++ [tkS [41]]) := by show _ = _; rw [wT_yes (.inr (.inl h4))]; simp
      clear h4
      refine K.out.q5 fun pK_0 pK_1 pK_2 pK_3 pK_4 => ?_
      go_upto_region 4 with fail
      clear pK_0 pK_1 pK_2 pK_3 pK_4
      refine nmW w3.drew fun w18 hW => ?_
      have hb_ := bdh hW
      replace B := Lib.hid (be_call B.out hb_)
      replace F := Lib.hid (F.out.keep hb_)
      replace K := Lib.hid (K.out.keep hb_)
      have z24_ := hb_.size
      clear hb_
      refine wp_region_held_drew (S := (fun w' => w'.cell? ⟨w.heap.size, 0, none⟩ = some (.int .i64 x.op) ∧ w'.cell? ⟨w.heap.size, 1, none⟩ = some (.int .i64 x.n) ∧ w'.cell? ⟨w.heap.size, 2, none⟩ = some (.string ⟨x.unit.toArray⟩) ∧ w'.cell? ⟨w.heap.size, 3, none⟩ = some (.string ⟨x.name.toArray⟩) ∧ w'.cell? ⟨w.heap.size, 4, none⟩ = some (.slice q x.args.len d))) (by kernel_rfl) (by rw [← hW]; exact K.out.d5) (fun hH => ?_)
      rw [← hW] at hH ⊢
      clear hW
      refine tk at2 (v := .agg #[.int .i64 x.op, .int .i64 x.n, .string ⟨x.unit.toArray⟩, .string ⟨x.name.toArray⟩, .slice q x.args.len d]) ?_
      refine wpAnyH_ready (rs := [0]) (by kernel_rfl) (by simp) ?_
      refine AllReadyH.cons at0 (fun K_ hK => ?_) AllReadyH.nil
      go_simp
      refine (rSgn_ok ⟨#[40]⟩ (sl := [40]) (by rw [Lib.toList_data])).mono ?_
      rintro e w19 ⟨rfl, hb_⟩
      replace B := Lib.hid (be_call B.out hb_)
      replace F := Lib.hid (F.out.keep hb_)
      replace K := Lib.hid (K.out.keep hb_)
      have z25_ := hb_.size
      clear hb_
      rw [show tkV (tkS [40]) = .agg #[.int .i64 3, .string ⟨#[40]⟩, .int .i64 0, .int .i64 0] from rfl]
      (try go_wp2_with fail)
      refine hK.out _ _ (K.out.d5) (fun hH2 => ?_)
      clear hK K_ hH
      have hH := hH2; clear hH2
      (try simp only [Act.put, kS, kZ, kC])
      refine wpAnyH_ready (rs := [1, 3]) (by kernel_rfl) (by simp) ?_
      refine AllReadyH.cons at1 (fun K_ hK => ?_) (AllReadyH.cons at3 (fun K_ hK => ?_) AllReadyH.nil)
      · skip
        go_simp
        refine nmW (w19.alloc (.cells #[.int .i64 3, .string ⟨#[40]⟩, .int .i64 0, .int .i64 0] 55)) fun w20 hv => ?_
        rw [← hv]
        have L := bxh hv
        have hb_ := bah hv
        clear hv
        have z26_ := L.out.lt
        replace B := Lib.hid (be_call B.out hb_)
        replace F := Lib.hid (F.out.keep hb_)
        replace K := Lib.hid (K.out.keep hb_)
        have z27_ := hb_.size
        clear hb_
        refine hK.out _ _ (K.out.d5) (fun hH2 => ?_)
        clear hK K_ hH
        have hH := hH2; clear hH2
        (try simp only [Act.put, kS, kZ, kC])
        refine wpAnyH_ready (rs := [3]) (by kernel_rfl) (by simp) ?_
        refine AllReadyH.cons at3 (fun K_ hK => ?_) AllReadyH.nil
        have HC := Lib.hid (HI.out _ w20 x.op x.n x.unit x.name q d HSH.out F.out (by have := HN.out; show (toksX x).length ≤ _; omega))
        unfold hdC at HC
        go_simp
        refine (HC.out).mono ?_
        rintro e w21 ⟨v2, rfl, ho_, hb_⟩
        replace B := Lib.hid (be_call B.out hb_)
        replace F := Lib.hid (F.out.keep hb_)
        replace K := Lib.hid (K.out.keep hb_)
        replace L := Lib.hid (L.out.keep hb_)
        have z28_ := hb_.size
        clear hb_
        have O2 := Lib.hid (ho_.mono (B' := w1.heap.size) (by omega)); clear ho_
        clear HC
        (try go_wp2_with fail)
        refine hK.out _ _ (K.out.d5) (fun hH2 => ?_)
        clear hK K_ hH
        have hH := hH2; clear hH2
        (try simp only [Act.put, kS, kZ, kC])
        obtain ⟨g2, cap2, hv_, -, -, hc2⟩ := O2.out.at (toks_ne HSH.out)
        subst hv_
        have HC2 := Lib.hid hc2; clear hc2
        obtain ⟨nn, hnn⟩ : ∃ nn, (toksX x).length = nn := ⟨_, rfl⟩
        rw [hnn]
        refine wpAnyH_ready (rs := [4]) (by kernel_rfl) (by simp) ?_
        refine AllReadyH.cons at4 (fun K_ hK => ?_) AllReadyH.nil
        have hln_ : ([tkS [40]] : List Tok).length + nn ≤ 1000010 := by have := HN.out; rw [hnn] at this; show 1 + nn ≤ _; omega
        rw [if_pos (by rfl)]
        refine wp_appT (OwT.lit (l := [tkS [40]]) L.out rfl (by omega) (by decide)) elemTok (by omega) hnn HC2.out (by omega) (by omega) rfl rfl rfl (fun v22_ w22 ho_ hg_ hb_ => ?_)
        clear O2
        clear L
        clear HC2
        clear hln_ hg_
        replace B := Lib.hid (B.out.trans (hb_.mono (by omega)))
        replace F := Lib.hid (F.out.low hb_ (fun b hb => by omega))
        replace K := Lib.hid (K.out.low hb_ (by omega))
        have z29_ := hb_.size
        clear hb_
        have O4 := Lib.hid ho_; clear ho_
        refine hK.out _ _ (K.out.d5) (fun hH2 => ?_)
        clear hK K_ hH
        have hH := hH2; clear hH2
        (try simp only [Act.put, kS, kZ, kC])
        refine wpAnyH_ready (rs := [5]) (by kernel_rfl) (by simp) ?_
        refine AllReadyH.cons at5 (fun K_ hK => ?_) AllReadyH.nil
        go_simp
        refine (rSgn_ok ⟨#[41]⟩ (sl := [41]) (by rw [Lib.toList_data])).mono ?_
        rintro e w23 ⟨rfl, hb_⟩
        replace B := Lib.hid (be_call B.out hb_)
        replace F := Lib.hid (F.out.keep hb_)
        replace K := Lib.hid (K.out.keep hb_)
        replace O4 := Lib.hid (O4.out.keep hb_)
        have z30_ := hb_.size
        clear hb_
        rw [show tkV (tkS [41]) = .agg #[.int .i64 3, .string ⟨#[41]⟩, .int .i64 0, .int .i64 0] from rfl]
        (try go_wp2_with fail)
        refine hK.out _ _ (K.out.d5) (fun hH2 => ?_)
        clear hK K_ hH
        have hH := hH2; clear hH2
        (try simp only [Act.put, kS, kZ, kC])
        refine wpAnyH_ready (rs := [6]) (by kernel_rfl) (by simp) ?_
        refine AllReadyH.cons at6 (fun K_ hK => ?_) AllReadyH.nil
        go_simp
        refine nmW (w23.alloc (.cells #[.int .i64 3, .string ⟨#[41]⟩, .int .i64 0, .int .i64 0] 55)) fun w24 hv => ?_
        rw [← hv]
        have L2 := bxh hv
        have hb_ := bah hv
        clear hv
        have z31_ := L2.out.lt
        replace B := Lib.hid (be_call B.out hb_)
        replace F := Lib.hid (F.out.keep hb_)
        replace K := Lib.hid (K.out.keep hb_)
        replace O4 := Lib.hid (O4.out.keep hb_)
        have z32_ := hb_.size
        clear hb_
        refine hK.out _ _ (K.out.d5) (fun hH2 => ?_)
        clear hK K_ hH
        have hH := hH2; clear hH2
        (try simp only [Act.put, kS, kZ, kC])
        refine wpAnyH_ready (rs := [7]) (by kernel_rfl) (by simp) ?_
        refine AllReadyH.cons at7 (fun K_ hK => ?_) AllReadyH.nil
        have hln_ : ([tkS [40]] ++ toksX x).length + 1 ≤ 1000010 := by have := HN.out; simp; omega
        rw [if_pos (by rfl)]
        refine wp_appT O4.out elemTok (by omega) (show ([tkS [41]] : List Tok).length = 1 from rfl) (show Bx _ _ _ (toksCells [tkS [41]]).toArray from L2.out).toks (by omega) (by omega) rfl rfl rfl (fun v25_ w25 ho_ hg_ hb_ => ?_)
        clear O4
        clear L2
        clear hln_ hg_
        replace B := Lib.hid (B.out.trans (hb_.mono (by omega)))
        replace F := Lib.hid (F.out.low hb_ (fun b hb => by omega))
        replace K := Lib.hid (K.out.low hb_ (by omega))
        have z33_ := hb_.size
        clear hb_
        have O7 := Lib.hid ho_; clear ho_
        refine hK.out _ _ (K.out.d5) (fun hH2 => ?_)
        clear hK K_ hH
        have hH := hH2; clear hH2
        (try simp only [Act.put, kS, kZ, kC])
        refine tk at8 ?_
        refine wpAnyH_done (by kernel_rfl) ?_ _
        clear hH
        go_wp2_with fail
        go_ret
        exact ⟨_, rfl, by rw [HW.out]; exact O7.out.mono (by omega), B.out⟩
      · skip
        have HC := Lib.hid (HI.out _ w19 x.op x.n x.unit x.name q d HSH.out F.out (by have := HN.out; show (toksX x).length ≤ _; omega))
        unfold hdC at HC
        go_simp
        refine (HC.out).mono ?_
        rintro e w26 ⟨v2, rfl, ho_, hb_⟩
        replace B := Lib.hid (be_call B.out hb_)
        replace F := Lib.hid (F.out.keep hb_)
        replace K := Lib.hid (K.out.keep hb_)
        have z34_ := hb_.size
        clear hb_
        have O2 := Lib.hid (ho_.mono (B' := w1.heap.size) (by omega)); clear ho_
        clear HC
        (try go_wp2_with fail)
        refine hK.out _ _ (K.out.d5) (fun hH2 => ?_)
        clear hK K_ hH
        have hH := hH2; clear hH2
        (try simp only [Act.put, kS, kZ, kC])
        refine wpAnyH_ready (rs := [1]) (by kernel_rfl) (by simp) ?_
        refine AllReadyH.cons at1 (fun K_ hK => ?_) AllReadyH.nil
        go_simp
        refine nmW (w26.alloc (.cells #[.int .i64 3, .string ⟨#[40]⟩, .int .i64 0, .int .i64 0] 55)) fun w27 hv => ?_
        rw [← hv]
        have L := bxh hv
        have hb_ := bah hv
        clear hv
        have z35_ := L.out.lt
        replace B := Lib.hid (be_call B.out hb_)
        replace F := Lib.hid (F.out.keep hb_)
        replace K := Lib.hid (K.out.keep hb_)
        replace O2 := Lib.hid (O2.out.keep hb_)
        have z36_ := hb_.size
        clear hb_
        refine hK.out _ _ (K.out.d5) (fun hH2 => ?_)
        clear hK K_ hH
        have hH := hH2; clear hH2
        (try simp only [Act.put, kS, kZ, kC])
        obtain ⟨g2, cap2, hv_, -, -, hc2⟩ := O2.out.at (toks_ne HSH.out)
        subst hv_
        have HC2 := Lib.hid hc2; clear hc2
        obtain ⟨nn, hnn⟩ : ∃ nn, (toksX x).length = nn := ⟨_, rfl⟩
        rw [hnn]
        refine wpAnyH_ready (rs := [4]) (by kernel_rfl) (by simp) ?_
        refine AllReadyH.cons at4 (fun K_ hK => ?_) AllReadyH.nil
        have hln_ : ([tkS [40]] : List Tok).length + nn ≤ 1000010 := by have := HN.out; rw [hnn] at this; show 1 + nn ≤ _; omega
        rw [if_pos (by rfl)]
        refine wp_appT (OwT.lit (l := [tkS [40]]) L.out rfl (by omega) (by decide)) elemTok (by omega) hnn HC2.out (by omega) (by omega) rfl rfl rfl (fun v28_ w28 ho_ hg_ hb_ => ?_)
        clear O2
        clear L
        clear HC2
        clear hln_ hg_
        replace B := Lib.hid (B.out.trans (hb_.mono (by omega)))
        replace F := Lib.hid (F.out.low hb_ (fun b hb => by omega))
        replace K := Lib.hid (K.out.low hb_ (by omega))
        have z37_ := hb_.size
        clear hb_
        have O4 := Lib.hid ho_; clear ho_
        refine hK.out _ _ (K.out.d5) (fun hH2 => ?_)
        clear hK K_ hH
        have hH := hH2; clear hH2
        (try simp only [Act.put, kS, kZ, kC])
        refine wpAnyH_ready (rs := [5]) (by kernel_rfl) (by simp) ?_
        refine AllReadyH.cons at5 (fun K_ hK => ?_) AllReadyH.nil
        go_simp
        refine (rSgn_ok ⟨#[41]⟩ (sl := [41]) (by rw [Lib.toList_data])).mono ?_
        rintro e w29 ⟨rfl, hb_⟩
        replace B := Lib.hid (be_call B.out hb_)
        replace F := Lib.hid (F.out.keep hb_)
        replace K := Lib.hid (K.out.keep hb_)
        replace O4 := Lib.hid (O4.out.keep hb_)
        have z38_ := hb_.size
        clear hb_
        rw [show tkV (tkS [41]) = .agg #[.int .i64 3, .string ⟨#[41]⟩, .int .i64 0, .int .i64 0] from rfl]
        (try go_wp2_with fail)
        refine hK.out _ _ (K.out.d5) (fun hH2 => ?_)
        clear hK K_ hH
        have hH := hH2; clear hH2
        (try simp only [Act.put, kS, kZ, kC])
        refine wpAnyH_ready (rs := [6]) (by kernel_rfl) (by simp) ?_
        refine AllReadyH.cons at6 (fun K_ hK => ?_) AllReadyH.nil
        go_simp
        refine nmW (w29.alloc (.cells #[.int .i64 3, .string ⟨#[41]⟩, .int .i64 0, .int .i64 0] 55)) fun w30 hv => ?_
        rw [← hv]
        have L2 := bxh hv
        have hb_ := bah hv
        clear hv
        have z39_ := L2.out.lt
        replace B := Lib.hid (be_call B.out hb_)
        replace F := Lib.hid (F.out.keep hb_)
        replace K := Lib.hid (K.out.keep hb_)
        replace O4 := Lib.hid (O4.out.keep hb_)
        have z40_ := hb_.size
        clear hb_
        refine hK.out _ _ (K.out.d5) (fun hH2 => ?_)
        clear hK K_ hH
        have hH := hH2; clear hH2
        (try simp only [Act.put, kS, kZ, kC])
        refine wpAnyH_ready (rs := [7]) (by kernel_rfl) (by simp) ?_
        refine AllReadyH.cons at7 (fun K_ hK => ?_) AllReadyH.nil
        have hln_ : ([tkS [40]] ++ toksX x).length + 1 ≤ 1000010 := by have := HN.out; simp; omega
        rw [if_pos (by rfl)]
        refine wp_appT O4.out elemTok (by omega) (show ([tkS [41]] : List Tok).length = 1 from rfl) (show Bx _ _ _ (toksCells [tkS [41]]).toArray from L2.out).toks (by omega) (by omega) rfl rfl rfl (fun v31_ w31 ho_ hg_ hb_ => ?_)
        clear O4
        clear L2
        clear hln_ hg_
        replace B := Lib.hid (B.out.trans (hb_.mono (by omega)))
        replace F := Lib.hid (F.out.low hb_ (fun b hb => by omega))
        replace K := Lib.hid (K.out.low hb_ (by omega))
        have z41_ := hb_.size
        clear hb_
        have O7 := Lib.hid ho_; clear ho_
        refine hK.out _ _ (K.out.d5) (fun hH2 => ?_)
        clear hK K_ hH
        have hH := hH2; clear hH2
        (try simp only [Act.put, kS, kZ, kC])
        refine tk at8 ?_
        refine wpAnyH_done (by kernel_rfl) ?_ _
        clear hH
        go_wp2_with fail
        go_ret
        exact ⟨_, rfl, by rw [HW.out]; exact O7.out.mono (by omega), B.out⟩
    have e4 : (x.op != 4) = true := bne_iff_ne.2 h4
    by_cases h5 : x.op = 5
    · have e5 : (x.op != 5) = false := by rw [h5]; rfl
      have HW : Hid (wT x = ([tkS [40]] ++ toksX x) ++ [tkS [41]]) := by show _ = _; rw [wT_yes (.inr (.inr h5))]; simp
      clear h4 h5
      refine K.out.q5 fun pK_0 pK_1 pK_2 pK_3 pK_4 => ?_
      go_upto_region 4 with fail
      clear pK_0 pK_1 pK_2 pK_3 pK_4
      refine nmW w3.drew fun w32 hW => ?_
      have hb_ := bdh hW
      replace B := Lib.hid (be_call B.out hb_)
      replace F := Lib.hid (F.out.keep hb_)
      replace K := Lib.hid (K.out.keep hb_)
      have z42_ := hb_.size
      clear hb_
      refine wp_region_held_drew (S := (fun w' => w'.cell? ⟨w.heap.size, 0, none⟩ = some (.int .i64 x.op) ∧ w'.cell? ⟨w.heap.size, 1, none⟩ = some (.int .i64 x.n) ∧ w'.cell? ⟨w.heap.size, 2, none⟩ = some (.string ⟨x.unit.toArray⟩) ∧ w'.cell? ⟨w.heap.size, 3, none⟩ = some (.string ⟨x.name.toArray⟩) ∧ w'.cell? ⟨w.heap.size, 4, none⟩ = some (.slice q x.args.len d))) (by kernel_rfl) (by rw [← hW]; exact K.out.d5) (fun hH => ?_)
      rw [← hW] at hH ⊢
      clear hW
      refine tk at2 (v := .agg #[.int .i64 x.op, .int .i64 x.n, .string ⟨x.unit.toArray⟩, .string ⟨x.name.toArray⟩, .slice q x.args.len d]) ?_
      refine wpAnyH_ready (rs := [0]) (by kernel_rfl) (by simp) ?_
      refine AllReadyH.cons at0 (fun K_ hK => ?_) AllReadyH.nil
      go_simp
      refine (rSgn_ok ⟨#[40]⟩ (sl := [40]) (by rw [Lib.toList_data])).mono ?_
      rintro e w33 ⟨rfl, hb_⟩
      replace B := Lib.hid (be_call B.out hb_)
      replace F := Lib.hid (F.out.keep hb_)
      replace K := Lib.hid (K.out.keep hb_)
      have z43_ := hb_.size
      clear hb_
      rw [show tkV (tkS [40]) = .agg #[.int .i64 3, .string ⟨#[40]⟩, .int .i64 0, .int .i64 0] from rfl]
      (try go_wp2_with fail)
      refine hK.out _ _ (K.out.d5) (fun hH2 => ?_)
      clear hK K_ hH
      have hH := hH2; clear hH2
      (try simp only [Act.put, kS, kZ, kC])
      refine wpAnyH_ready (rs := [1, 3]) (by kernel_rfl) (by simp) ?_
      refine AllReadyH.cons at1 (fun K_ hK => ?_) (AllReadyH.cons at3 (fun K_ hK => ?_) AllReadyH.nil)
      · skip
        go_simp
        refine nmW (w33.alloc (.cells #[.int .i64 3, .string ⟨#[40]⟩, .int .i64 0, .int .i64 0] 55)) fun w34 hv => ?_
        rw [← hv]
        have L := bxh hv
        have hb_ := bah hv
        clear hv
        have z44_ := L.out.lt
        replace B := Lib.hid (be_call B.out hb_)
        replace F := Lib.hid (F.out.keep hb_)
        replace K := Lib.hid (K.out.keep hb_)
        have z45_ := hb_.size
        clear hb_
        refine hK.out _ _ (K.out.d5) (fun hH2 => ?_)
        clear hK K_ hH
        have hH := hH2; clear hH2
        (try simp only [Act.put, kS, kZ, kC])
        refine wpAnyH_ready (rs := [3]) (by kernel_rfl) (by simp) ?_
        refine AllReadyH.cons at3 (fun K_ hK => ?_) AllReadyH.nil
        have HC := Lib.hid (HI.out _ w34 x.op x.n x.unit x.name q d HSH.out F.out (by have := HN.out; show (toksX x).length ≤ _; omega))
        unfold hdC at HC
        go_simp
        refine (HC.out).mono ?_
        rintro e w35 ⟨v2, rfl, ho_, hb_⟩
        replace B := Lib.hid (be_call B.out hb_)
        replace F := Lib.hid (F.out.keep hb_)
        replace K := Lib.hid (K.out.keep hb_)
        replace L := Lib.hid (L.out.keep hb_)
        have z46_ := hb_.size
        clear hb_
        have O2 := Lib.hid (ho_.mono (B' := w1.heap.size) (by omega)); clear ho_
        clear HC
        (try go_wp2_with fail)
        refine hK.out _ _ (K.out.d5) (fun hH2 => ?_)
        clear hK K_ hH
        have hH := hH2; clear hH2
        (try simp only [Act.put, kS, kZ, kC])
        obtain ⟨g2, cap2, hv_, -, -, hc2⟩ := O2.out.at (toks_ne HSH.out)
        subst hv_
        have HC2 := Lib.hid hc2; clear hc2
        obtain ⟨nn, hnn⟩ : ∃ nn, (toksX x).length = nn := ⟨_, rfl⟩
        rw [hnn]
        refine wpAnyH_ready (rs := [4]) (by kernel_rfl) (by simp) ?_
        refine AllReadyH.cons at4 (fun K_ hK => ?_) AllReadyH.nil
        have hln_ : ([tkS [40]] : List Tok).length + nn ≤ 1000010 := by have := HN.out; rw [hnn] at this; show 1 + nn ≤ _; omega
        rw [if_pos (by rfl)]
        refine wp_appT (OwT.lit (l := [tkS [40]]) L.out rfl (by omega) (by decide)) elemTok (by omega) hnn HC2.out (by omega) (by omega) rfl rfl rfl (fun v36_ w36 ho_ hg_ hb_ => ?_)
        clear O2
        clear L
        clear HC2
        clear hln_ hg_
        replace B := Lib.hid (B.out.trans (hb_.mono (by omega)))
        replace F := Lib.hid (F.out.low hb_ (fun b hb => by omega))
        replace K := Lib.hid (K.out.low hb_ (by omega))
        have z47_ := hb_.size
        clear hb_
        have O4 := Lib.hid ho_; clear ho_
        refine hK.out _ _ (K.out.d5) (fun hH2 => ?_)
        clear hK K_ hH
        have hH := hH2; clear hH2
        (try simp only [Act.put, kS, kZ, kC])
        refine wpAnyH_ready (rs := [5]) (by kernel_rfl) (by simp) ?_
        refine AllReadyH.cons at5 (fun K_ hK => ?_) AllReadyH.nil
        go_simp
        refine (rSgn_ok ⟨#[41]⟩ (sl := [41]) (by rw [Lib.toList_data])).mono ?_
        rintro e w37 ⟨rfl, hb_⟩
        replace B := Lib.hid (be_call B.out hb_)
        replace F := Lib.hid (F.out.keep hb_)
        replace K := Lib.hid (K.out.keep hb_)
        replace O4 := Lib.hid (O4.out.keep hb_)
        have z48_ := hb_.size
        clear hb_
        rw [show tkV (tkS [41]) = .agg #[.int .i64 3, .string ⟨#[41]⟩, .int .i64 0, .int .i64 0] from rfl]
        (try go_wp2_with fail)
        refine hK.out _ _ (K.out.d5) (fun hH2 => ?_)
        clear hK K_ hH
        have hH := hH2; clear hH2
        (try simp only [Act.put, kS, kZ, kC])
        refine wpAnyH_ready (rs := [6]) (by kernel_rfl) (by simp) ?_
        refine AllReadyH.cons at6 (fun K_ hK => ?_) AllReadyH.nil
        go_simp
        refine nmW (w37.alloc (.cells #[.int .i64 3, .string ⟨#[41]⟩, .int .i64 0, .int .i64 0] 55)) fun w38 hv => ?_
        rw [← hv]
        have L2 := bxh hv
        have hb_ := bah hv
        clear hv
        have z49_ := L2.out.lt
        replace B := Lib.hid (be_call B.out hb_)
        replace F := Lib.hid (F.out.keep hb_)
        replace K := Lib.hid (K.out.keep hb_)
        replace O4 := Lib.hid (O4.out.keep hb_)
        have z50_ := hb_.size
        clear hb_
        refine hK.out _ _ (K.out.d5) (fun hH2 => ?_)
        clear hK K_ hH
        have hH := hH2; clear hH2
        (try simp only [Act.put, kS, kZ, kC])
        refine wpAnyH_ready (rs := [7]) (by kernel_rfl) (by simp) ?_
        refine AllReadyH.cons at7 (fun K_ hK => ?_) AllReadyH.nil
        have hln_ : ([tkS [40]] ++ toksX x).length + 1 ≤ 1000010 := by have := HN.out; simp; omega
        rw [if_pos (by rfl)]
        refine wp_appT O4.out elemTok (by omega) (show ([tkS [41]] : List Tok).length = 1 from rfl) (show Bx _ _ _ (toksCells [tkS [41]]).toArray from L2.out).toks (by omega) (by omega) rfl rfl rfl (fun v39_ w39 ho_ hg_ hb_ => ?_)
        clear O4
        clear L2
        clear hln_ hg_
        replace B := Lib.hid (B.out.trans (hb_.mono (by omega)))
        replace F := Lib.hid (F.out.low hb_ (fun b hb => by omega))
        replace K := Lib.hid (K.out.low hb_ (by omega))
        have z51_ := hb_.size
        clear hb_
        have O7 := Lib.hid ho_; clear ho_
        refine hK.out _ _ (K.out.d5) (fun hH2 => ?_)
        clear hK K_ hH
        have hH := hH2; clear hH2
        (try simp only [Act.put, kS, kZ, kC])
        refine tk at8 ?_
        refine wpAnyH_done (by kernel_rfl) ?_ _
        clear hH
        go_wp2_with fail
        go_ret
        exact ⟨_, rfl, by rw [HW.out]; exact O7.out.mono (by omega), B.out⟩
      · skip
        have HC := Lib.hid (HI.out _ w33 x.op x.n x.unit x.name q d HSH.out F.out (by have := HN.out; show (toksX x).length ≤ _; omega))
        unfold hdC at HC
        go_simp
        refine (HC.out).mono ?_
        rintro e w40 ⟨v2, rfl, ho_, hb_⟩
        replace B := Lib.hid (be_call B.out hb_)
        replace F := Lib.hid (F.out.keep hb_)
        replace K := Lib.hid (K.out.keep hb_)
        have z52_ := hb_.size
        clear hb_
        have O2 := Lib.hid (ho_.mono (B' := w1.heap.size) (by omega)); clear ho_
        clear HC
        (try go_wp2_with fail)
        refine hK.out _ _ (K.out.d5) (fun hH2 => ?_)
        clear hK K_ hH
        have hH := hH2; clear hH2
        (try simp only [Act.put, kS, kZ, kC])
        refine wpAnyH_ready (rs := [1]) (by kernel_rfl) (by simp) ?_
        refine AllReadyH.cons at1 (fun K_ hK => ?_) AllReadyH.nil
        go_simp
        refine nmW (w40.alloc (.cells #[.int .i64 3, .string ⟨#[40]⟩, .int .i64 0, .int .i64 0] 55)) fun w41 hv => ?_
        rw [← hv]
        have L := bxh hv
        have hb_ := bah hv
        clear hv
        have z53_ := L.out.lt
        replace B := Lib.hid (be_call B.out hb_)
        replace F := Lib.hid (F.out.keep hb_)
        replace K := Lib.hid (K.out.keep hb_)
        replace O2 := Lib.hid (O2.out.keep hb_)
        have z54_ := hb_.size
        clear hb_
        refine hK.out _ _ (K.out.d5) (fun hH2 => ?_)
        clear hK K_ hH
        have hH := hH2; clear hH2
        (try simp only [Act.put, kS, kZ, kC])
        obtain ⟨g2, cap2, hv_, -, -, hc2⟩ := O2.out.at (toks_ne HSH.out)
        subst hv_
        have HC2 := Lib.hid hc2; clear hc2
        obtain ⟨nn, hnn⟩ : ∃ nn, (toksX x).length = nn := ⟨_, rfl⟩
        rw [hnn]
        refine wpAnyH_ready (rs := [4]) (by kernel_rfl) (by simp) ?_
        refine AllReadyH.cons at4 (fun K_ hK => ?_) AllReadyH.nil
        have hln_ : ([tkS [40]] : List Tok).length + nn ≤ 1000010 := by have := HN.out; rw [hnn] at this; show 1 + nn ≤ _; omega
        rw [if_pos (by rfl)]
        refine wp_appT (OwT.lit (l := [tkS [40]]) L.out rfl (by omega) (by decide)) elemTok (by omega) hnn HC2.out (by omega) (by omega) rfl rfl rfl (fun v42_ w42 ho_ hg_ hb_ => ?_)
        clear O2
        clear L
        clear HC2
        clear hln_ hg_
        replace B := Lib.hid (B.out.trans (hb_.mono (by omega)))
        replace F := Lib.hid (F.out.low hb_ (fun b hb => by omega))
        replace K := Lib.hid (K.out.low hb_ (by omega))
        have z55_ := hb_.size
        clear hb_
        have O4 := Lib.hid ho_; clear ho_
        refine hK.out _ _ (K.out.d5) (fun hH2 => ?_)
        clear hK K_ hH
        have hH := hH2; clear hH2
        (try simp only [Act.put, kS, kZ, kC])
        refine wpAnyH_ready (rs := [5]) (by kernel_rfl) (by simp) ?_
        refine AllReadyH.cons at5 (fun K_ hK => ?_) AllReadyH.nil
        go_simp
        refine (rSgn_ok ⟨#[41]⟩ (sl := [41]) (by rw [Lib.toList_data])).mono ?_
        rintro e w43 ⟨rfl, hb_⟩
        replace B := Lib.hid (be_call B.out hb_)
        replace F := Lib.hid (F.out.keep hb_)
        replace K := Lib.hid (K.out.keep hb_)
        replace O4 := Lib.hid (O4.out.keep hb_)
        have z56_ := hb_.size
        clear hb_
        rw [show tkV (tkS [41]) = .agg #[.int .i64 3, .string ⟨#[41]⟩, .int .i64 0, .int .i64 0] from rfl]
        (try go_wp2_with fail)
        refine hK.out _ _ (K.out.d5) (fun hH2 => ?_)
        clear hK K_ hH
        have hH := hH2; clear hH2
        (try simp only [Act.put, kS, kZ, kC])
        refine wpAnyH_ready (rs := [6]) (by kernel_rfl) (by simp) ?_
        refine AllReadyH.cons at6 (fun K_ hK => ?_) AllReadyH.nil
        go_simp
        refine nmW (w43.alloc (.cells #[.int .i64 3, .string ⟨#[41]⟩, .int .i64 0, .int .i64 0] 55)) fun w44 hv => ?_
        rw [← hv]
        have L2 := bxh hv
        have hb_ := bah hv
        clear hv
        have z57_ := L2.out.lt
        replace B := Lib.hid (be_call B.out hb_)
        replace F := Lib.hid (F.out.keep hb_)
        replace K := Lib.hid (K.out.keep hb_)
        replace O4 := Lib.hid (O4.out.keep hb_)
        have z58_ := hb_.size
        clear hb_
        refine hK.out _ _ (K.out.d5) (fun hH2 => ?_)
        clear hK K_ hH
        have hH := hH2; clear hH2
        (try simp only [Act.put, kS, kZ, kC])
        refine wpAnyH_ready (rs := [7]) (by kernel_rfl) (by simp) ?_
        refine AllReadyH.cons at7 (fun K_ hK => ?_) AllReadyH.nil
        have hln_ : ([tkS [40]] ++ toksX x).length + 1 ≤ 1000010 := by have := HN.out; simp; omega
        rw [if_pos (by rfl)]
        refine wp_appT O4.out elemTok (by omega) (show ([tkS [41]] : List Tok).length = 1 from rfl) (show Bx _ _ _ (toksCells [tkS [41]]).toArray from L2.out).toks (by omega) (by omega) rfl rfl rfl (fun v45_ w45 ho_ hg_ hb_ => ?_)
        clear O4
        clear L2
        clear hln_ hg_
        replace B := Lib.hid (B.out.trans (hb_.mono (by omega)))
        replace F := Lib.hid (F.out.low hb_ (fun b hb => by omega))
        replace K := Lib.hid (K.out.low hb_ (by omega))
        have z59_ := hb_.size
        clear hb_
        have O7 := Lib.hid ho_; clear ho_
        refine hK.out _ _ (K.out.d5) (fun hH2 => ?_)
        clear hK K_ hH
        have hH := hH2; clear hH2
        (try simp only [Act.put, kS, kZ, kC])
        refine tk at8 ?_
        refine wpAnyH_done (by kernel_rfl) ?_ _
        clear hH
        go_wp2_with fail
        go_ret
        exact ⟨_, rfl, by rw [HW.out]; exact O7.out.mono (by omega), B.out⟩
    have e5 : (x.op != 5) = true := bne_iff_ne.2 h5
    have HW : Hid (wT x = toksX x) := wT_no (by
      rintro (h | h | h)
      · rw [HB1.out] at h; cases h
      · exact h4 h
      · exact h5 h)
    clear h4 h5
    have HC := Lib.hid (HI.out _ w3 x.op x.n x.unit x.name q d HSH.out F.out (by have := HN.out; show (toksX x).length ≤ _; omega))
    unfold hdC at HC
    refine K.out.q5 fun pK_0 pK_1 pK_2 pK_3 pK_4 => ?_
    go_wp2_with fail
    clear pK_0 pK_1 pK_2 pK_3 pK_4
    refine (HC.out).mono ?_
    rintro e w46 ⟨v2, rfl, ho_, hb_⟩
    replace B := Lib.hid (be_call B.out hb_)
    replace F := Lib.hid (F.out.keep hb_)
    replace K := Lib.hid (K.out.keep hb_)
    have z60_ := hb_.size
    clear hb_
    have O2 := Lib.hid (ho_.mono (B' := w1.heap.size) (by omega)); clear ho_
    clear HC
    go_wp2_with fail
    go_ret
    exact ⟨_, rfl, by rw [HW.out]; exact O2.out.mono (by omega), B.out⟩
end Go.Proofs.YtckgmilmhofekaaGreatDoor
namespace Go.Proofs.YtckgmilmhofekaaGreatDoor
open Go.RowKit

theorem atom_len {x : Ex} : (toksX x).length ≤ (wT x).length := by
  unfold wT wrapT
  split
  · simp; omega
  · exact Nat.le_refl _
set_option maxRecDepth 100000 in
set_option maxHeartbeats 4000000 in
theorem rtok_0 {a : Fo} (hi : ∀ x ∈ a.list, RtOK x.args) {D : Nat → Prop} {w : World} {n : Int} {u m : Bytes} {q : Option Addr} {d : Nat} (hu : u = []) (hsh : shF ((Ex.mk 0 n u m a).then .nil) = true) (hS : FoS D w q d a) (hn : (toksX ⟨0, n, u, m, a⟩).length ≤ 1000000) :
    Calls Tryz.prog 28 #[.agg (hdC ⟨0, n, u, m, a⟩ q d).toArray] w (TkPost (toksX ⟨0, n, u, m, a⟩) w) := by
  have HI := Lib.hid hi; have HN := Lib.hid hn
  rw [shF_one, Bool.and_eq_true] at hsh
  have hnd := node_cases hsh.1
  dsimp only at hnd
  have HND := Lib.hid hnd; have HSH := Lib.hid hsh.2
  clear hnd
  have F := Lib.hid hS.inH; have B : Hid (Below w.heap.size w w) := be_refl w
  clear hi hS hn hsh
  unfold hdC
  obtain ⟨h0, h1, hm0⟩ : 0 ≤ n ∧ n ≤ 1099511627776 ∧ m = [] := by
    rcases HND.out with ⟨-, -, h0, h1, h2, -⟩ | ⟨-, -, ⟨h, -⟩ | ⟨h, -⟩ | ⟨h, -⟩ | ⟨h, -⟩ | ⟨h, -⟩ | ⟨h | h, -⟩ | ⟨h, -⟩⟩
    · exact ⟨h0, h1, h2⟩
    all_goals exact absurd h (by decide)
  obtain ⟨nn, rfl⟩ := Int.eq_ofNat_of_zero_le h0
  have hnn : nn ≤ 1099511627776 := by omega
  obtain ⟨dg, hdg⟩ : ∃ dg, Lib.decDigits nn = dg := ⟨_, rfl⟩
  subst hu
  have HT : Hid (toksX ⟨0, (nn : Int), [], m, a⟩ = [⟨1, dg, nn, 0⟩]) := by show _ = _; rw [exT_num, Int.toNat_natCast, hdg]
  have HD := Lib.hid hdg
  clear h0 h1 hm0 hdg
  go_enter Tryz.func28, Tryz.ntmps28
  go_upto_region 1 with fail
  refine nmW (w.alloc (.cells #[.int .i64 0, .int .i64 (nn : Int), .string ⟨#[]⟩, .string ⟨m.toArray⟩, .slice q a.len d] 24)) fun w1 hv => ?_
  rw [← hv]
  have K := bxh hv
  have hb_ := bah hv
  clear hv
  have z1_ := K.out.lt
  replace B := Lib.hid (be_call B.out hb_)
  replace F := Lib.hid (F.out.keep hb_)
  have z2_ := hb_.size
  clear hb_
  refine K.out.q5 fun pK_0 pK_1 pK_2 pK_3 pK_4 => ?_
  go_upto_region 3 with fail
  clear pK_0 pK_1 pK_2 pK_3 pK_4
  refine nmW w1.drew fun w2 hW => ?_
  have hb_ := bdh hW
  replace B := Lib.hid (be_call B.out hb_)
  replace F := Lib.hid (F.out.keep hb_)
  replace K := Lib.hid (K.out.keep hb_)
  have z3_ := hb_.size
  clear hb_
  refine wp_region_held_drew (S := (fun w' => w'.cell? ⟨w.heap.size, 0, none⟩ = some (.int .i64 0) ∧ w'.cell? ⟨w.heap.size, 1, none⟩ = some (.int .i64 (nn : Int)) ∧ w'.cell? ⟨w.heap.size, 2, none⟩ = some (.string ⟨#[]⟩) ∧ w'.cell? ⟨w.heap.size, 3, none⟩ = some (.string ⟨m.toArray⟩) ∧ w'.cell? ⟨w.heap.size, 4, none⟩ = some (.slice q a.len d))) (by kernel_rfl) (by rw [← hW]; exact K.out.d5) (fun hH => ?_)
  rw [← hW] at hH ⊢
  clear hW
  refine tk at0 ?_
  refine tk at1 ?_
  refine tk at3 ?_
  refine tk at4 ?_
  refine wpAnyH_ready (rs := [2]) (by kernel_rfl) (by simp) ?_
  refine AllReadyH.cons at2 (fun K_ hK => ?_) AllReadyH.nil
  go_simp
  refine (rdigits_ok hnn).mono ?_
  rintro e w3 ⟨rfl, hb_⟩
  replace B := Lib.hid (be_call B.out hb_)
  replace F := Lib.hid (F.out.keep hb_)
  replace K := Lib.hid (K.out.keep hb_)
  have z4_ := hb_.size
  clear hb_
  rw [HD.out]
  (try go_wp2_with fail)
  refine hK.out _ _ (K.out.d5) (fun hH2 => ?_)
  clear hK K_ hH
  have hH := hH2; clear hH2
  (try simp only [Act.put, kS, kZ, kC])
  refine tk at5 (v := .agg #[.int .i64 1, .string ⟨dg.toArray⟩, .int .i64 nn, .int .i64 0]) ?_
  refine wpAnyH_ready (rs := [6]) (by kernel_rfl) (by simp) ?_
  refine AllReadyH.cons at6 (fun K_ hK => ?_) AllReadyH.nil
  go_simp
  refine nmW (w3.alloc (.cells #[.int .i64 1, .string ⟨dg.toArray⟩, .int .i64 nn, .int .i64 0] 55)) fun w4 hv => ?_
  rw [← hv]
  have L := bxh hv
  have hb_ := bah hv
  clear hv
  have z5_ := L.out.lt
  replace B := Lib.hid (be_call B.out hb_)
  replace F := Lib.hid (F.out.keep hb_)
  replace K := Lib.hid (K.out.keep hb_)
  have z6_ := hb_.size
  clear hb_
  refine hK.out _ _ (K.out.d5) (fun hH2 => ?_)
  clear hK K_ hH
  have hH := hH2; clear hH2
  (try simp only [Act.put, kS, kZ, kC])
  refine tk at7 ?_
  refine wpAnyH_done (by kernel_rfl) ?_ _
  clear hH
  refine K.out.q5 fun pK_0 pK_1 pK_2 pK_3 pK_4 => ?_
  go_wp2_with fail
  clear pK_0 pK_1 pK_2 pK_3 pK_4
  go_ret
  exact ⟨_, rfl, by rw [HT.out]; exact (OwT.lit (B := w1.heap.size) (l := [⟨1, dg, nn, 0⟩]) L.out rfl (by omega) (show 1 ≤ 1000000 by decide)).mono (by omega), B.out⟩
set_option maxRecDepth 100000 in
set_option maxHeartbeats 4000000 in
theorem rtok_0u {a : Fo} (hi : ∀ x ∈ a.list, RtOK x.args) {D : Nat → Prop} {w : World} {n : Int} {u m : Bytes} {q : Option Addr} {d : Nat} (hu : u ≠ []) (hsh : shF ((Ex.mk 0 n u m a).then .nil) = true) (hS : FoS D w q d a) (hn : (toksX ⟨0, n, u, m, a⟩).length ≤ 1000000) :
    Calls Tryz.prog 28 #[.agg (hdC ⟨0, n, u, m, a⟩ q d).toArray] w (TkPost (toksX ⟨0, n, u, m, a⟩) w) := by
  have HI := Lib.hid hi; have HN := Lib.hid hn
  rw [shF_one, Bool.and_eq_true] at hsh
  have hnd := node_cases hsh.1
  dsimp only at hnd
  have HND := Lib.hid hnd; have HSH := Lib.hid hsh.2
  clear hnd
  have F := Lib.hid hS.inH; have B : Hid (Below w.heap.size w w) := be_refl w
  clear hi hS hn hsh
  unfold hdC
  obtain ⟨h0, h1, hm0⟩ : 0 ≤ n ∧ n ≤ 1099511627776 ∧ m = [] := by
    rcases HND.out with ⟨-, -, h0, h1, h2, -⟩ | ⟨-, -, ⟨h, -⟩ | ⟨h, -⟩ | ⟨h, -⟩ | ⟨h, -⟩ | ⟨h, -⟩ | ⟨h | h, -⟩ | ⟨h, -⟩⟩
    · exact ⟨h0, h1, h2⟩
    all_goals exact absurd h (by decide)
  obtain ⟨nn, rfl⟩ := Int.eq_ofNat_of_zero_le h0
  have hnn : nn ≤ 1099511627776 := by omega
  obtain ⟨dg, hdg⟩ : ∃ dg, Lib.decDigits nn = dg := ⟨_, rfl⟩
  have HT : Hid (toksX ⟨0, (nn : Int), u, m, a⟩ = [⟨1, dg, nn, 0⟩] ++ [⟨2, u, 0, 0⟩]) := by show _ = _; rw [exT_unit _ _ _ hu, Int.toNat_natCast, hdg]; rfl
  have h2i : u.isEmpty = false := by cases u with | nil => exact absurd rfl hu | cons a l => rfl
  have h2j : (u == []) = false := by cases u with | nil => exact absurd rfl hu | cons a l => rfl
  have HD := Lib.hid hdg
  clear h0 h1 hm0 hdg
  go_enter Tryz.func28, Tryz.ntmps28
  go_upto_region 1 with fail
  refine nmW (w.alloc (.cells #[.int .i64 0, .int .i64 (nn : Int), .string ⟨u.toArray⟩, .string ⟨m.toArray⟩, .slice q a.len d] 24)) fun w1 hv => ?_
  rw [← hv]
  have K := bxh hv
  have hb_ := bah hv
  clear hv
  have z1_ := K.out.lt
  replace B := Lib.hid (be_call B.out hb_)
  replace F := Lib.hid (F.out.keep hb_)
  have z2_ := hb_.size
  clear hb_
  refine K.out.q5 fun pK_0 pK_1 pK_2 pK_3 pK_4 => ?_
  go_upto_region 3 with fail
  clear pK_0 pK_1 pK_2 pK_3 pK_4
  refine nmW w1.drew fun w2 hW => ?_
  have hb_ := bdh hW
  replace B := Lib.hid (be_call B.out hb_)
  replace F := Lib.hid (F.out.keep hb_)
  replace K := Lib.hid (K.out.keep hb_)
  have z3_ := hb_.size
  clear hb_
  refine wp_region_held_drew (S := (fun w' => w'.cell? ⟨w.heap.size, 0, none⟩ = some (.int .i64 0) ∧ w'.cell? ⟨w.heap.size, 1, none⟩ = some (.int .i64 (nn : Int)) ∧ w'.cell? ⟨w.heap.size, 2, none⟩ = some (.string ⟨u.toArray⟩) ∧ w'.cell? ⟨w.heap.size, 3, none⟩ = some (.string ⟨m.toArray⟩) ∧ w'.cell? ⟨w.heap.size, 4, none⟩ = some (.slice q a.len d))) (by kernel_rfl) (by rw [← hW]; exact K.out.d5) (fun hH => ?_)
  rw [← hW] at hH ⊢
  clear hW
  refine tk at0 ?_
  refine tk at1 ?_
  refine tk at3 ?_
  refine tk at4 ?_
  refine wpAnyH_ready (rs := [2]) (by kernel_rfl) (by simp) ?_
  refine AllReadyH.cons at2 (fun K_ hK => ?_) AllReadyH.nil
  go_simp
  refine (rdigits_ok hnn).mono ?_
  rintro e w3 ⟨rfl, hb_⟩
  replace B := Lib.hid (be_call B.out hb_)
  replace F := Lib.hid (F.out.keep hb_)
  replace K := Lib.hid (K.out.keep hb_)
  have z4_ := hb_.size
  clear hb_
  rw [HD.out]
  (try go_wp2_with fail)
  refine hK.out _ _ (K.out.d5) (fun hH2 => ?_)
  clear hK K_ hH
  have hH := hH2; clear hH2
  (try simp only [Act.put, kS, kZ, kC])
  refine tk at5 (v := .agg #[.int .i64 1, .string ⟨dg.toArray⟩, .int .i64 nn, .int .i64 0]) ?_
  refine wpAnyH_ready (rs := [6]) (by kernel_rfl) (by simp) ?_
  refine AllReadyH.cons at6 (fun K_ hK => ?_) AllReadyH.nil
  go_simp
  refine nmW (w3.alloc (.cells #[.int .i64 1, .string ⟨dg.toArray⟩, .int .i64 nn, .int .i64 0] 55)) fun w4 hv => ?_
  rw [← hv]
  have L := bxh hv
  have hb_ := bah hv
  clear hv
  have z5_ := L.out.lt
  replace B := Lib.hid (be_call B.out hb_)
  replace F := Lib.hid (F.out.keep hb_)
  replace K := Lib.hid (K.out.keep hb_)
  have z6_ := hb_.size
  clear hb_
  refine hK.out _ _ (K.out.d5) (fun hH2 => ?_)
  clear hK K_ hH
  have hH := hH2; clear hH2
  (try simp only [Act.put, kS, kZ, kC])
  refine tk at7 ?_
  refine wpAnyH_done (by kernel_rfl) ?_ _
  clear hH
  refine K.out.q5 fun pK_0 pK_1 pK_2 pK_3 pK_4 => ?_
  go_upto_region 5 with fail
  have O1 := Lib.hid (OwT.lit (B := w1.heap.size) (l := [⟨1, dg, nn, 0⟩]) L.out rfl (by omega) (show 1 ≤ 1000000 by decide))
  go_upto_region 6 with (at_builtin; go_must (refine wpList_appT rfl _ _ elemTok rfl (l2 := [⟨2, u, 0, 0⟩]) (World.ownsRow.alloc O1.out _) (by simp; omega) rfl (show Bx _ _ _ (toksCells [⟨2, u, 0, 0⟩]).toArray from bx1 w4 _ _).toks (show (1 + 1) * 40 ≤ 140737488355328 by decide) (show 1 + 1 ≤ 140737488355328 by decide) rfl rfl ?_; intro v1 w9 ho hg hb))
  clear pK_0 pK_1 pK_2 pK_3 pK_4
  have hb9 := (be_call B.out (below_alloc w4 _)).trans (hb.mono (by omega))
  have O9 := Lib.hid ho
  clear ho hg hb O1 L
  go_wp2_with fail
  go_ret
  exact ⟨_, rfl, by rw [HT.out]; exact O9.out.mono (by omega), hb9⟩
set_option maxRecDepth 100000 in
set_option maxHeartbeats 4000000 in
theorem rtok_1 {a : Fo} (hi : ∀ x ∈ a.list, RtOK x.args) {D : Nat → Prop} {w : World} {n : Int} {u m : Bytes} {q : Option Addr} {d : Nat} (hsh : shF ((Ex.mk 1 n u m a).then .nil) = true) (hS : FoS D w q d a) (hn : (toksX ⟨1, n, u, m, a⟩).length ≤ 1000000) :
  Calls Tryz.prog 28 #[.agg (hdC ⟨1, n, u, m, a⟩ q d).toArray] w (TkPost (toksX ⟨1, n, u, m, a⟩) w) := by
 have HI := Lib.hid hi; have HN := Lib.hid hn
 rw [shF_one, Bool.and_eq_true] at hsh
 have hnd := node_cases hsh.1
 dsimp only at hnd
 have HND := Lib.hid hnd; have HSH := Lib.hid hsh.2
 clear hnd
 have F := Lib.hid hS.inH; have B : Hid (Below w.heap.size w w) := be_refl w
 clear hi hS hn hsh
 unfold hdC
 have HT : Hid (toksX ⟨1, n, u, m, a⟩ = [tkN m]) := rfl
 go_enter Tryz.func28, Tryz.ntmps28
 go_upto_region 1 with fail
 refine nmW (w.alloc (.cells #[.int .i64 1, .int .i64 n, .string ⟨u.toArray⟩, .string ⟨m.toArray⟩, .slice q a.len d] 24)) fun w1 hv => ?_
 rw [← hv]
 have K := bxh hv
 have hb_ := bah hv
 clear hv
 have z1_ := K.out.lt
 replace B := Lib.hid (be_call B.out hb_)
 replace F := Lib.hid (F.out.keep hb_)
 have z2_ := hb_.size
 clear hb_
 refine K.out.q5 fun pK_0 pK_1 pK_2 pK_3 pK_4 => ?_
 go_wp2_with fail
 clear pK_0 pK_1 pK_2 pK_3 pK_4
 refine (rNme_ok ⟨m.toArray⟩ (sl := m) (by rw [Lib.toList_data])).mono ?_
 rintro e w2 ⟨rfl, hb_⟩
 replace B := Lib.hid (be_call B.out hb_)
 replace F := Lib.hid (F.out.keep hb_)
 replace K := Lib.hid (K.out.keep hb_)
 have z3_ := hb_.size
 clear hb_
 rw [show tkV (tkN m) = .agg #[.int .i64 0, .string ⟨m.toArray⟩, .int .i64 0, .int .i64 0] from rfl]
 go_wp2_with fail
 go_ret
 exact ⟨_, rfl, by rw [HT.out]; exact OwT.lit (l := [tkN m]) (bx1 w2 _ _) rfl (by omega) (show 1 ≤ 1000000 by decide), be_call B.out (below_alloc _ _)⟩
set_option maxRecDepth 100000 in
set_option maxHeartbeats 4000000 in
theorem rtok_2 {a : Fo} (hi : ∀ x ∈ a.list, RtOK x.args) {D : Nat → Prop} {w : World} {n : Int} {u m : Bytes} {q : Option Addr} {d : Nat} (hsh : shF ((Ex.mk 2 n u m a).then .nil) = true) (hS : FoS D w q d a) (hn : (toksX ⟨2, n, u, m, a⟩).length ≤ 1000000) :
  Calls Tryz.prog 28 #[.agg (hdC ⟨2, n, u, m, a⟩ q d).toArray] w (TkPost (toksX ⟨2, n, u, m, a⟩) w) := by
 have HI := Lib.hid hi; have HN := Lib.hid hn
 rw [shF_one, Bool.and_eq_true] at hsh
 have hnd := node_cases hsh.1
 dsimp only at hnd
 have HND := Lib.hid hnd; have HSH := Lib.hid hsh.2
 clear hnd
 have F := Lib.hid hS.inH; have B : Hid (Below w.heap.size w w) := be_refl w
 clear hi hS hn hsh
 unfold hdC
 have hal : a.len ≤ 6 := by
  rcases HND.out with ⟨h, -⟩ | ⟨-, -, ⟨h, -⟩ | ⟨-, -, h⟩ | ⟨-, -, -, h⟩ | ⟨h, -⟩ | ⟨h, -⟩ | ⟨-, -, h⟩ | ⟨-, -, h⟩⟩
  all_goals first | omega | exact absurd h (by decide)
 have HT : Hid (toksX ⟨2, n, u, m, a⟩ = [tkN wLook, tkS [40], tkN m, tkS [44]] ++ listT (tokF a)) := rfl
 have HAL := Lib.hid hal; clear hal
 go_enter Tryz.func28, Tryz.ntmps28
 go_upto_region 1 with fail
 refine nmW (w.alloc (.cells #[.int .i64 2, .int .i64 n, .string ⟨u.toArray⟩, .string ⟨m.toArray⟩, .slice q a.len d] 24)) fun w1 hv => ?_
 rw [← hv]
 have K := bxh hv
 have hb_ := bah hv
 clear hv
 have z1_ := K.out.lt
 replace B := Lib.hid (be_call B.out hb_)
 replace F := Lib.hid (F.out.keep hb_)
 have z2_ := hb_.size
 clear hb_
 refine K.out.q5 fun pK_0 pK_1 pK_2 pK_3 pK_4 => ?_
 go_upto_region 10 with fail
 clear pK_0 pK_1 pK_2 pK_3 pK_4
 refine nmW w1.drew fun w2 hW => ?_
 have hb_ := bdh hW
 replace B := Lib.hid (be_call B.out hb_)
 replace F := Lib.hid (F.out.keep hb_)
 replace K := Lib.hid (K.out.keep hb_)
 have z3_ := hb_.size
 clear hb_
 refine wp_region_held_drew (S := (fun w' => w'.cell? ⟨w.heap.size, 0, none⟩ = some (.int .i64 2) ∧ w'.cell? ⟨w.heap.size, 1, none⟩ = some (.int .i64 n) ∧ w'.cell? ⟨w.heap.size, 2, none⟩ = some (.string ⟨u.toArray⟩) ∧ w'.cell? ⟨w.heap.size, 3, none⟩ = some (.string ⟨m.toArray⟩) ∧ w'.cell? ⟨w.heap.size, 4, none⟩ = some (.slice q a.len d))) (by kernel_rfl) (by rw [← hW]; exact K.out.d5) (fun hH => ?_)
 rw [← hW] at hH ⊢
 clear hW
 refine tk at2 ?_
 refine tk at3 ?_
 refine tk at7 ?_
 refine tk at8 ?_
 refine wpAnyH_ready (rs := [0]) (by kernel_rfl) (by simp) ?_
 refine AllReadyH.cons at0 (fun K_ hK => ?_) AllReadyH.nil
 go_simp
 refine (rNme_ok ⟨#[108, 111, 111, 107]⟩ (sl := [108, 111, 111, 107]) (by rw [Lib.toList_data])).mono ?_
 rintro e w3 ⟨rfl, hb_⟩
 replace B := Lib.hid (be_call B.out hb_)
 replace F := Lib.hid (F.out.keep hb_)
 replace K := Lib.hid (K.out.keep hb_)
 have z4_ := hb_.size
 clear hb_
 rw [show tkV (tkN [108, 111, 111, 107]) = .agg #[.int .i64 0, .string ⟨#[108, 111, 111, 107]⟩, .int .i64 0, .int .i64 0] from rfl]
 (try go_wp2_with fail)
 refine hK.out _ _ (K.out.d5) (fun hH2 => ?_)
 clear hK K_ hH
 have hH := hH2; clear hH2
 (try simp only [Act.put, kS, kZ, kC])
 refine wpAnyH_ready (rs := [1]) (by kernel_rfl) (by simp) ?_
 refine AllReadyH.cons at1 (fun K_ hK => ?_) AllReadyH.nil
 go_simp
 refine (rSgn_ok ⟨#[40]⟩ (sl := [40]) (by rw [Lib.toList_data])).mono ?_
 rintro e w4 ⟨rfl, hb_⟩
 replace B := Lib.hid (be_call B.out hb_)
 replace F := Lib.hid (F.out.keep hb_)
 replace K := Lib.hid (K.out.keep hb_)
 have z5_ := hb_.size
 clear hb_
 rw [show tkV (tkS [40]) = .agg #[.int .i64 3, .string ⟨#[40]⟩, .int .i64 0, .int .i64 0] from rfl]
 (try go_wp2_with fail)
 refine hK.out _ _ (K.out.d5) (fun hH2 => ?_)
 clear hK K_ hH
 have hH := hH2; clear hH2
 (try simp only [Act.put, kS, kZ, kC])
 refine wpAnyH_ready (rs := [4]) (by kernel_rfl) (by simp) ?_
 refine AllReadyH.cons at4 (fun K_ hK => ?_) AllReadyH.nil
 go_simp
 refine (rNme_ok ⟨m.toArray⟩ (sl := m) (by rw [Lib.toList_data])).mono ?_
 rintro e w5 ⟨rfl, hb_⟩
 replace B := Lib.hid (be_call B.out hb_)
 replace F := Lib.hid (F.out.keep hb_)
 replace K := Lib.hid (K.out.keep hb_)
 have z6_ := hb_.size
 clear hb_
 rw [show tkV (tkN m) = .agg #[.int .i64 0, .string ⟨m.toArray⟩, .int .i64 0, .int .i64 0] from rfl]
 (try go_wp2_with fail)
 refine hK.out _ _ (K.out.d5) (fun hH2 => ?_)
 clear hK K_ hH
 have hH := hH2; clear hH2
 (try simp only [Act.put, kS, kZ, kC])
 refine wpAnyH_ready (rs := [5]) (by kernel_rfl) (by simp) ?_
 refine AllReadyH.cons at5 (fun K_ hK => ?_) AllReadyH.nil
 go_simp
 refine (rSgn_ok ⟨#[44]⟩ (sl := [44]) (by rw [Lib.toList_data])).mono ?_
 rintro e w6 ⟨rfl, hb_⟩
 replace B := Lib.hid (be_call B.out hb_)
 replace F := Lib.hid (F.out.keep hb_)
 replace K := Lib.hid (K.out.keep hb_)
 have z7_ := hb_.size
 clear hb_
 rw [show tkV (tkS [44]) = .agg #[.int .i64 3, .string ⟨#[44]⟩, .int .i64 0, .int .i64 0] from rfl]
 (try go_wp2_with fail)
 refine hK.out _ _ (K.out.d5) (fun hH2 => ?_)
 clear hK K_ hH
 have hH := hH2; clear hH2
 (try simp only [Act.put, kS, kZ, kC])
 refine wpAnyH_ready (rs := [6]) (by kernel_rfl) (by simp) ?_
 refine AllReadyH.cons at6 (fun K_ hK => ?_) AllReadyH.nil
 go_simp
 refine nmW (w6.alloc (.cells #[.int .i64 0, .string ⟨#[108, 111, 111, 107]⟩, .int .i64 0, .int .i64 0, .int .i64 3, .string ⟨#[40]⟩, .int .i64 0, .int .i64 0, .int .i64 0, .string ⟨m.toArray⟩, .int .i64 0, .int .i64 0, .int .i64 3, .string ⟨#[44]⟩, .int .i64 0, .int .i64 0] 55)) fun w7 hv => ?_
 rw [← hv]
 have L := bxh hv
 have hb_ := bah hv
 clear hv
 have z8_ := L.out.lt
 replace B := Lib.hid (be_call B.out hb_)
 replace F := Lib.hid (F.out.keep hb_)
 replace K := Lib.hid (K.out.keep hb_)
 have z9_ := hb_.size
 clear hb_
 refine hK.out _ _ (K.out.d5) (fun hH2 => ?_)
 clear hK K_ hH
 have hH := hH2; clear hH2
 (try simp only [Act.put, kS, kZ, kC])
 have HC := Lib.hid (rlisted_ok (hd := [tkN wLook, tkS [40], tkN m, tkS [44]]) (m := 4) (c := 4) HI.out (by have := HAL.out; omega) HSH.out F.out L.out rfl (by decide) (by have := HN.out; rw [HT.out, List.length_append] at this; exact this))
 refine wpAnyH_ready (rs := [9]) (by kernel_rfl) (by simp) ?_
 refine AllReadyH.cons at9 (fun K_ hK => ?_) AllReadyH.nil
 go_simp
 refine (HC.out).mono ?_
 rintro e w8 ⟨v2, rfl, ho_, hb_⟩
 replace B := Lib.hid (be_call B.out hb_)
 replace F := Lib.hid (F.out.keep hb_)
 replace K := Lib.hid (K.out.keep hb_)
 replace L := Lib.hid (L.out.keep hb_)
 have z10_ := hb_.size
 clear hb_
 have O2 := Lib.hid (ho_.mono (B' := w1.heap.size) (by omega)); clear ho_
 clear HC
 (try go_wp2_with fail)
 refine hK.out _ _ (K.out.d5) (fun hH2 => ?_)
 clear hK K_ hH
 have hH := hH2; clear hH2
 (try simp only [Act.put, kS, kZ, kC])
 refine tk at10 ?_
 refine wpAnyH_done (by kernel_rfl) ?_ _
 clear hH
 go_wp2_with fail
 go_ret
 exact ⟨_, rfl, by rw [HT.out]; exact O2.out.mono (by omega), B.out⟩
set_option maxRecDepth 100000 in
set_option maxHeartbeats 4000000 in
theorem rtok_3 {a : Fo} (hi : ∀ x ∈ a.list, RtOK x.args) {D : Nat → Prop} {w : World} {n : Int} {u m : Bytes} {q : Option Addr} {d : Nat} (hsh : shF ((Ex.mk 3 n u m a).then .nil) = true) (hS : FoS D w q d a) (hn : (toksX ⟨3, n, u, m, a⟩).length ≤ 1000000) :
  Calls Tryz.prog 28 #[.agg (hdC ⟨3, n, u, m, a⟩ q d).toArray] w (TkPost (toksX ⟨3, n, u, m, a⟩) w) := by
 have HI := Lib.hid hi; have HN := Lib.hid hn
 rw [shF_one, Bool.and_eq_true] at hsh
 have hnd := node_cases hsh.1
 dsimp only at hnd
 have HND := Lib.hid hnd; have HSH := Lib.hid hsh.2
 clear hnd
 have F := Lib.hid hS.inH; have B : Hid (Below w.heap.size w w) := be_refl w
 clear hi hS hn hsh
 unfold hdC
 have hal : a.len ≤ 6 := by
  rcases HND.out with ⟨h, -⟩ | ⟨-, -, ⟨h, -⟩ | ⟨-, -, h⟩ | ⟨-, -, -, h⟩ | ⟨h, -⟩ | ⟨h, -⟩ | ⟨-, -, h⟩ | ⟨-, -, h⟩⟩
  all_goals first | omega | exact absurd h (by decide)
 have HT : Hid (toksX ⟨3, n, u, m, a⟩ = [tkN m, tkS [40]] ++ listT (tokF a)) := rfl
 have HAL := Lib.hid hal; clear hal
 go_enter Tryz.func28, Tryz.ntmps28
 go_upto_region 1 with fail
 refine nmW (w.alloc (.cells #[.int .i64 3, .int .i64 n, .string ⟨u.toArray⟩, .string ⟨m.toArray⟩, .slice q a.len d] 24)) fun w1 hv => ?_
 rw [← hv]
 have K := bxh hv
 have hb_ := bah hv
 clear hv
 have z1_ := K.out.lt
 replace B := Lib.hid (be_call B.out hb_)
 replace F := Lib.hid (F.out.keep hb_)
 have z2_ := hb_.size
 clear hb_
 refine K.out.q5 fun pK_0 pK_1 pK_2 pK_3 pK_4 => ?_
 go_upto_region 12 with fail
 clear pK_0 pK_1 pK_2 pK_3 pK_4
 refine nmW w1.drew fun w2 hW => ?_
 have hb_ := bdh hW
 replace B := Lib.hid (be_call B.out hb_)
 replace F := Lib.hid (F.out.keep hb_)
 replace K := Lib.hid (K.out.keep hb_)
 have z3_ := hb_.size
 clear hb_
 refine wp_region_held_drew (S := (fun w' => w'.cell? ⟨w.heap.size, 0, none⟩ = some (.int .i64 3) ∧ w'.cell? ⟨w.heap.size, 1, none⟩ = some (.int .i64 n) ∧ w'.cell? ⟨w.heap.size, 2, none⟩ = some (.string ⟨u.toArray⟩) ∧ w'.cell? ⟨w.heap.size, 3, none⟩ = some (.string ⟨m.toArray⟩) ∧ w'.cell? ⟨w.heap.size, 4, none⟩ = some (.slice q a.len d))) (by kernel_rfl) (by rw [← hW]; exact K.out.d5) (fun hH => ?_)
 rw [← hW] at hH ⊢
 clear hW
 refine tk at0 ?_
 refine tk at1 ?_
 refine tk at5 ?_
 refine tk at6 ?_
 refine wpAnyH_ready (rs := [2]) (by kernel_rfl) (by simp) ?_
 refine AllReadyH.cons at2 (fun K_ hK => ?_) AllReadyH.nil
 go_simp
 refine (rNme_ok ⟨m.toArray⟩ (sl := m) (by rw [Lib.toList_data])).mono ?_
 rintro e w3 ⟨rfl, hb_⟩
 replace B := Lib.hid (be_call B.out hb_)
 replace F := Lib.hid (F.out.keep hb_)
 replace K := Lib.hid (K.out.keep hb_)
 have z4_ := hb_.size
 clear hb_
 rw [show tkV (tkN m) = .agg #[.int .i64 0, .string ⟨m.toArray⟩, .int .i64 0, .int .i64 0] from rfl]
 (try go_wp2_with fail)
 refine hK.out _ _ (K.out.d5) (fun hH2 => ?_)
 clear hK K_ hH
 have hH := hH2; clear hH2
 (try simp only [Act.put, kS, kZ, kC])
 refine wpAnyH_ready (rs := [3]) (by kernel_rfl) (by simp) ?_
 refine AllReadyH.cons at3 (fun K_ hK => ?_) AllReadyH.nil
 go_simp
 refine (rSgn_ok ⟨#[40]⟩ (sl := [40]) (by rw [Lib.toList_data])).mono ?_
 rintro e w4 ⟨rfl, hb_⟩
 replace B := Lib.hid (be_call B.out hb_)
 replace F := Lib.hid (F.out.keep hb_)
 replace K := Lib.hid (K.out.keep hb_)
 have z5_ := hb_.size
 clear hb_
 rw [show tkV (tkS [40]) = .agg #[.int .i64 3, .string ⟨#[40]⟩, .int .i64 0, .int .i64 0] from rfl]
 (try go_wp2_with fail)
 refine hK.out _ _ (K.out.d5) (fun hH2 => ?_)
 clear hK K_ hH
 have hH := hH2; clear hH2
 (try simp only [Act.put, kS, kZ, kC])
 refine wpAnyH_ready (rs := [4]) (by kernel_rfl) (by simp) ?_
 refine AllReadyH.cons at4 (fun K_ hK => ?_) AllReadyH.nil
 go_simp
 refine nmW (w4.alloc (.cells #[.int .i64 0, .string ⟨m.toArray⟩, .int .i64 0, .int .i64 0, .int .i64 3, .string ⟨#[40]⟩, .int .i64 0, .int .i64 0] 55)) fun w5 hv => ?_
 rw [← hv]
 have L := bxh hv
 have hb_ := bah hv
 clear hv
 have z6_ := L.out.lt
 replace B := Lib.hid (be_call B.out hb_)
 replace F := Lib.hid (F.out.keep hb_)
 replace K := Lib.hid (K.out.keep hb_)
 have z7_ := hb_.size
 clear hb_
 refine hK.out _ _ (K.out.d5) (fun hH2 => ?_)
 clear hK K_ hH
 have hH := hH2; clear hH2
 (try simp only [Act.put, kS, kZ, kC])
 have HC := Lib.hid (rlisted_ok (hd := [tkN m, tkS [40]]) (m := 2) (c := 2) HI.out (by have := HAL.out; omega) HSH.out F.out L.out rfl (by decide) (by have := HN.out; rw [HT.out, List.length_append] at this; exact this))
 refine wpAnyH_ready (rs := [7]) (by kernel_rfl) (by simp) ?_
 refine AllReadyH.cons at7 (fun K_ hK => ?_) AllReadyH.nil
 go_simp
 refine (HC.out).mono ?_
 rintro e w6 ⟨v2, rfl, ho_, hb_⟩
 replace B := Lib.hid (be_call B.out hb_)
 replace F := Lib.hid (F.out.keep hb_)
 replace K := Lib.hid (K.out.keep hb_)
 replace L := Lib.hid (L.out.keep hb_)
 have z8_ := hb_.size
 clear hb_
 have O2 := Lib.hid (ho_.mono (B' := w1.heap.size) (by omega)); clear ho_
 clear HC
 (try go_wp2_with fail)
 refine hK.out _ _ (K.out.d5) (fun hH2 => ?_)
 clear hK K_ hH
 have hH := hH2; clear hH2
 (try simp only [Act.put, kS, kZ, kC])
 refine tk at8 ?_
 refine wpAnyH_done (by kernel_rfl) ?_ _
 clear hH
 go_wp2_with fail
 go_ret
 exact ⟨_, rfl, by rw [HT.out]; exact O2.out.mono (by omega), B.out⟩
set_option maxRecDepth 100000 in
set_option maxHeartbeats 4000000 in
theorem rtok_10 {a : Fo} (hi : ∀ x ∈ a.list, RtOK x.args) {D : Nat → Prop} {w : World} {n : Int} {u m : Bytes} {q : Option Addr} {d : Nat} (hsh : shF ((Ex.mk 10 n u m a).then .nil) = true) (hS : FoS D w q d a) (hn : (toksX ⟨10, n, u, m, a⟩).length ≤ 1000000) :
  Calls Tryz.prog 28 #[.agg (hdC ⟨10, n, u, m, a⟩ q d).toArray] w (TkPost (toksX ⟨10, n, u, m, a⟩) w) := by
 have HI := Lib.hid hi; have HN := Lib.hid hn
 rw [shF_one, Bool.and_eq_true] at hsh
 have hnd := node_cases hsh.1
 dsimp only at hnd
 have HND := Lib.hid hnd; have HSH := Lib.hid hsh.2
 clear hnd
 have F := Lib.hid hS.inH; have B : Hid (Below w.heap.size w w) := be_refl w
 clear hi hS hn hsh
 unfold hdC
 have hal : a.len ≤ 6 := by
  rcases HND.out with ⟨h, -⟩ | ⟨-, -, ⟨h, -⟩ | ⟨-, -, h⟩ | ⟨-, -, -, h⟩ | ⟨h, -⟩ | ⟨h, -⟩ | ⟨-, -, h⟩ | ⟨-, -, h⟩⟩
  all_goals first | omega | exact absurd h (by decide)
 have HT : Hid (toksX ⟨10, n, u, m, a⟩ = [tkN wMin, tkS [40]] ++ listT (tokF a)) := rfl
 have HAL := Lib.hid hal; clear hal
 go_enter Tryz.func28, Tryz.ntmps28
 go_upto_region 1 with fail
 refine nmW (w.alloc (.cells #[.int .i64 10, .int .i64 n, .string ⟨u.toArray⟩, .string ⟨m.toArray⟩, .slice q a.len d] 24)) fun w1 hv => ?_
 rw [← hv]
 have K := bxh hv
 have hb_ := bah hv
 clear hv
 have z1_ := K.out.lt
 replace B := Lib.hid (be_call B.out hb_)
 replace F := Lib.hid (F.out.keep hb_)
 have z2_ := hb_.size
 clear hb_
 refine K.out.q5 fun pK_0 pK_1 pK_2 pK_3 pK_4 => ?_
 go_upto_region 14 with fail
 clear pK_0 pK_1 pK_2 pK_3 pK_4
 refine nmW w1.drew fun w2 hW => ?_
 have hb_ := bdh hW
 replace B := Lib.hid (be_call B.out hb_)
 replace F := Lib.hid (F.out.keep hb_)
 replace K := Lib.hid (K.out.keep hb_)
 have z3_ := hb_.size
 clear hb_
 refine wp_region_held_drew (S := (fun w' => w'.cell? ⟨w.heap.size, 0, none⟩ = some (.int .i64 10) ∧ w'.cell? ⟨w.heap.size, 1, none⟩ = some (.int .i64 n) ∧ w'.cell? ⟨w.heap.size, 2, none⟩ = some (.string ⟨u.toArray⟩) ∧ w'.cell? ⟨w.heap.size, 3, none⟩ = some (.string ⟨m.toArray⟩) ∧ w'.cell? ⟨w.heap.size, 4, none⟩ = some (.slice q a.len d))) (by kernel_rfl) (by rw [← hW]; exact K.out.d5) (fun hH => ?_)
 rw [← hW] at hH ⊢
 clear hW
 refine tk at3 ?_
 refine tk at4 ?_
 refine wpAnyH_ready (rs := [0]) (by kernel_rfl) (by simp) ?_
 refine AllReadyH.cons at0 (fun K_ hK => ?_) AllReadyH.nil
 go_simp
 refine (rNme_ok ⟨#[109, 105, 110]⟩ (sl := [109, 105, 110]) (by rw [Lib.toList_data])).mono ?_
 rintro e w3 ⟨rfl, hb_⟩
 replace B := Lib.hid (be_call B.out hb_)
 replace F := Lib.hid (F.out.keep hb_)
 replace K := Lib.hid (K.out.keep hb_)
 have z4_ := hb_.size
 clear hb_
 rw [show tkV (tkN [109, 105, 110]) = .agg #[.int .i64 0, .string ⟨#[109, 105, 110]⟩, .int .i64 0, .int .i64 0] from rfl]
 (try go_wp2_with fail)
 refine hK.out _ _ (K.out.d5) (fun hH2 => ?_)
 clear hK K_ hH
 have hH := hH2; clear hH2
 (try simp only [Act.put, kS, kZ, kC])
 refine wpAnyH_ready (rs := [1]) (by kernel_rfl) (by simp) ?_
 refine AllReadyH.cons at1 (fun K_ hK => ?_) AllReadyH.nil
 go_simp
 refine (rSgn_ok ⟨#[40]⟩ (sl := [40]) (by rw [Lib.toList_data])).mono ?_
 rintro e w4 ⟨rfl, hb_⟩
 replace B := Lib.hid (be_call B.out hb_)
 replace F := Lib.hid (F.out.keep hb_)
 replace K := Lib.hid (K.out.keep hb_)
 have z5_ := hb_.size
 clear hb_
 rw [show tkV (tkS [40]) = .agg #[.int .i64 3, .string ⟨#[40]⟩, .int .i64 0, .int .i64 0] from rfl]
 (try go_wp2_with fail)
 refine hK.out _ _ (K.out.d5) (fun hH2 => ?_)
 clear hK K_ hH
 have hH := hH2; clear hH2
 (try simp only [Act.put, kS, kZ, kC])
 refine wpAnyH_ready (rs := [2]) (by kernel_rfl) (by simp) ?_
 refine AllReadyH.cons at2 (fun K_ hK => ?_) AllReadyH.nil
 go_simp
 refine nmW (w4.alloc (.cells #[.int .i64 0, .string ⟨#[109, 105, 110]⟩, .int .i64 0, .int .i64 0, .int .i64 3, .string ⟨#[40]⟩, .int .i64 0, .int .i64 0] 55)) fun w5 hv => ?_
 rw [← hv]
 have L := bxh hv
 have hb_ := bah hv
 clear hv
 have z6_ := L.out.lt
 replace B := Lib.hid (be_call B.out hb_)
 replace F := Lib.hid (F.out.keep hb_)
 replace K := Lib.hid (K.out.keep hb_)
 have z7_ := hb_.size
 clear hb_
 refine hK.out _ _ (K.out.d5) (fun hH2 => ?_)
 clear hK K_ hH
 have hH := hH2; clear hH2
 (try simp only [Act.put, kS, kZ, kC])
 have HC := Lib.hid (rlisted_ok (hd := [tkN wMin, tkS [40]]) (m := 2) (c := 2) HI.out (by have := HAL.out; omega) HSH.out F.out L.out rfl (by decide) (by have := HN.out; rw [HT.out, List.length_append] at this; exact this))
 refine wpAnyH_ready (rs := [5]) (by kernel_rfl) (by simp) ?_
 refine AllReadyH.cons at5 (fun K_ hK => ?_) AllReadyH.nil
 go_simp
 refine (HC.out).mono ?_
 rintro e w6 ⟨v2, rfl, ho_, hb_⟩
 replace B := Lib.hid (be_call B.out hb_)
 replace F := Lib.hid (F.out.keep hb_)
 replace K := Lib.hid (K.out.keep hb_)
 replace L := Lib.hid (L.out.keep hb_)
 have z8_ := hb_.size
 clear hb_
 have O2 := Lib.hid (ho_.mono (B' := w1.heap.size) (by omega)); clear ho_
 clear HC
 (try go_wp2_with fail)
 refine hK.out _ _ (K.out.d5) (fun hH2 => ?_)
 clear hK K_ hH
 have hH := hH2; clear hH2
 (try simp only [Act.put, kS, kZ, kC])
 refine tk at6 ?_
 refine wpAnyH_done (by kernel_rfl) ?_ _
 clear hH
 go_wp2_with fail
 go_ret
 exact ⟨_, rfl, by rw [HT.out]; exact O2.out.mono (by omega), B.out⟩
set_option maxRecDepth 100000 in
set_option maxHeartbeats 4000000 in
theorem rtok_11 {a : Fo} (hi : ∀ x ∈ a.list, RtOK x.args) {D : Nat → Prop} {w : World} {n : Int} {u m : Bytes} {q : Option Addr} {d : Nat} (hsh : shF ((Ex.mk 11 n u m a).then .nil) = true) (hS : FoS D w q d a) (hn : (toksX ⟨11, n, u, m, a⟩).length ≤ 1000000) :
  Calls Tryz.prog 28 #[.agg (hdC ⟨11, n, u, m, a⟩ q d).toArray] w (TkPost (toksX ⟨11, n, u, m, a⟩) w) := by
 have HI := Lib.hid hi; have HN := Lib.hid hn
 rw [shF_one, Bool.and_eq_true] at hsh
 have hnd := node_cases hsh.1
 dsimp only at hnd
 have HND := Lib.hid hnd; have HSH := Lib.hid hsh.2
 clear hnd
 have F := Lib.hid hS.inH; have B : Hid (Below w.heap.size w w) := be_refl w
 clear hi hS hn hsh
 unfold hdC
 have hal : a.len ≤ 6 := by
  rcases HND.out with ⟨h, -⟩ | ⟨-, -, ⟨h, -⟩ | ⟨-, -, h⟩ | ⟨-, -, -, h⟩ | ⟨h, -⟩ | ⟨h, -⟩ | ⟨-, -, h⟩ | ⟨-, -, h⟩⟩
  all_goals first | omega | exact absurd h (by decide)
 have HT : Hid (toksX ⟨11, n, u, m, a⟩ = [tkN wMax, tkS [40]] ++ listT (tokF a)) := rfl
 have HAL := Lib.hid hal; clear hal
 go_enter Tryz.func28, Tryz.ntmps28
 go_upto_region 1 with fail
 refine nmW (w.alloc (.cells #[.int .i64 11, .int .i64 n, .string ⟨u.toArray⟩, .string ⟨m.toArray⟩, .slice q a.len d] 24)) fun w1 hv => ?_
 rw [← hv]
 have K := bxh hv
 have hb_ := bah hv
 clear hv
 have z1_ := K.out.lt
 replace B := Lib.hid (be_call B.out hb_)
 replace F := Lib.hid (F.out.keep hb_)
 have z2_ := hb_.size
 clear hb_
 refine K.out.q5 fun pK_0 pK_1 pK_2 pK_3 pK_4 => ?_
 go_upto_region 16 with fail
 clear pK_0 pK_1 pK_2 pK_3 pK_4
 refine nmW w1.drew fun w2 hW => ?_
 have hb_ := bdh hW
 replace B := Lib.hid (be_call B.out hb_)
 replace F := Lib.hid (F.out.keep hb_)
 replace K := Lib.hid (K.out.keep hb_)
 have z3_ := hb_.size
 clear hb_
 refine wp_region_held_drew (S := (fun w' => w'.cell? ⟨w.heap.size, 0, none⟩ = some (.int .i64 11) ∧ w'.cell? ⟨w.heap.size, 1, none⟩ = some (.int .i64 n) ∧ w'.cell? ⟨w.heap.size, 2, none⟩ = some (.string ⟨u.toArray⟩) ∧ w'.cell? ⟨w.heap.size, 3, none⟩ = some (.string ⟨m.toArray⟩) ∧ w'.cell? ⟨w.heap.size, 4, none⟩ = some (.slice q a.len d))) (by kernel_rfl) (by rw [← hW]; exact K.out.d5) (fun hH => ?_)
 rw [← hW] at hH ⊢
 clear hW
 refine tk at3 ?_
 refine tk at4 ?_
 refine wpAnyH_ready (rs := [0]) (by kernel_rfl) (by simp) ?_
 refine AllReadyH.cons at0 (fun K_ hK => ?_) AllReadyH.nil
 go_simp
 refine (rNme_ok ⟨#[109, 97, 120]⟩ (sl := [109, 97, 120]) (by rw [Lib.toList_data])).mono ?_
 rintro e w3 ⟨rfl, hb_⟩
 replace B := Lib.hid (be_call B.out hb_)
 replace F := Lib.hid (F.out.keep hb_)
 replace K := Lib.hid (K.out.keep hb_)
 have z4_ := hb_.size
 clear hb_
 rw [show tkV (tkN [109, 97, 120]) = .agg #[.int .i64 0, .string ⟨#[109, 97, 120]⟩, .int .i64 0, .int .i64 0] from rfl]
 (try go_wp2_with fail)
 refine hK.out _ _ (K.out.d5) (fun hH2 => ?_)
 clear hK K_ hH
 have hH := hH2; clear hH2
 (try simp only [Act.put, kS, kZ, kC])
 refine wpAnyH_ready (rs := [1]) (by kernel_rfl) (by simp) ?_
 refine AllReadyH.cons at1 (fun K_ hK => ?_) AllReadyH.nil
 go_simp
 refine (rSgn_ok ⟨#[40]⟩ (sl := [40]) (by rw [Lib.toList_data])).mono ?_
 rintro e w4 ⟨rfl, hb_⟩
 replace B := Lib.hid (be_call B.out hb_)
 replace F := Lib.hid (F.out.keep hb_)
 replace K := Lib.hid (K.out.keep hb_)
 have z5_ := hb_.size
 clear hb_
 rw [show tkV (tkS [40]) = .agg #[.int .i64 3, .string ⟨#[40]⟩, .int .i64 0, .int .i64 0] from rfl]
 (try go_wp2_with fail)
 refine hK.out _ _ (K.out.d5) (fun hH2 => ?_)
 clear hK K_ hH
 have hH := hH2; clear hH2
 (try simp only [Act.put, kS, kZ, kC])
 refine wpAnyH_ready (rs := [2]) (by kernel_rfl) (by simp) ?_
 refine AllReadyH.cons at2 (fun K_ hK => ?_) AllReadyH.nil
 go_simp
 refine nmW (w4.alloc (.cells #[.int .i64 0, .string ⟨#[109, 97, 120]⟩, .int .i64 0, .int .i64 0, .int .i64 3, .string ⟨#[40]⟩, .int .i64 0, .int .i64 0] 55)) fun w5 hv => ?_
 rw [← hv]
 have L := bxh hv
 have hb_ := bah hv
 clear hv
 have z6_ := L.out.lt
 replace B := Lib.hid (be_call B.out hb_)
 replace F := Lib.hid (F.out.keep hb_)
 replace K := Lib.hid (K.out.keep hb_)
 have z7_ := hb_.size
 clear hb_
 refine hK.out _ _ (K.out.d5) (fun hH2 => ?_)
 clear hK K_ hH
 have hH := hH2; clear hH2
 (try simp only [Act.put, kS, kZ, kC])
 have HC := Lib.hid (rlisted_ok (hd := [tkN wMax, tkS [40]]) (m := 2) (c := 2) HI.out (by have := HAL.out; omega) HSH.out F.out L.out rfl (by decide) (by have := HN.out; rw [HT.out, List.length_append] at this; exact this))
 refine wpAnyH_ready (rs := [5]) (by kernel_rfl) (by simp) ?_
 refine AllReadyH.cons at5 (fun K_ hK => ?_) AllReadyH.nil
 go_simp
 refine (HC.out).mono ?_
 rintro e w6 ⟨v2, rfl, ho_, hb_⟩
 replace B := Lib.hid (be_call B.out hb_)
 replace F := Lib.hid (F.out.keep hb_)
 replace K := Lib.hid (K.out.keep hb_)
 replace L := Lib.hid (L.out.keep hb_)
 have z8_ := hb_.size
 clear hb_
 have O2 := Lib.hid (ho_.mono (B' := w1.heap.size) (by omega)); clear ho_
 clear HC
 (try go_wp2_with fail)
 refine hK.out _ _ (K.out.d5) (fun hH2 => ?_)
 clear hK K_ hH
 have hH := hH2; clear hH2
 (try simp only [Act.put, kS, kZ, kC])
 refine tk at6 ?_
 refine wpAnyH_done (by kernel_rfl) ?_ _
 clear hH
 go_wp2_with fail
 go_ret
 exact ⟨_, rfl, by rw [HT.out]; exact O2.out.mono (by omega), B.out⟩
end Go.Proofs.YtckgmilmhofekaaGreatDoor
