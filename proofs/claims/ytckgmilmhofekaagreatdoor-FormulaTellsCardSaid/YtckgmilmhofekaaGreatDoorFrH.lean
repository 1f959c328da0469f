/- Walks: the reference checks an expression. -/
import Derived.Test.YtckgmilmhofekaaGreatDoorLexLaws
import Derived.Test.YtckgmilmhofekaaGreatDoorFoBack
import Derived.Test.YtckgmilmhofekaaGreatDoorBase
import Derived.Test.YtckgmilmhofekaaGreatDoorLexBytes
import Derived.Test.YtckgmilmhofekaaGreatDoorLexPrint
import Derived.Test.YtckgmilmhofekaaGreatDoorBigSpec
import Derived.Test.YtckgmilmhofekaaGreatDoorBigD
import Derived.Test.YtckgmilmhofekaaGreatDoorBigQ
import Derived.Test.YtckgmilmhofekaaGreatDoorFd
import Derived.Test.YtckgmilmhofekaaGreatDoorHeld
import Derived.Test.YtckgmilmhofekaaGreatDoorAw
import Derived.Test.YtckgmilmhofekaaGreatDoorOwn
import Derived.Test.YtckgmilmhofekaaGreatDoorFoWd
import Derived.Test.YtckgmilmhofekaaGreatDoorFoOx
import Derived.Test.YtckgmilmhofekaaGreatDoorFoCn
import Derived.Test.YtckgmilmhofekaaGreatDoorFoWl
import Derived.Test.YtckgmilmhofekaaGreatDoorFoSz
import Derived.Test.YtckgmilmhofekaaGreatDoorFoPt
import Derived.Test.YtckgmilmhofekaaGreatDoorFoRt
import Derived.Test.YtckgmilmhofekaaGreatDoorLexRef2
import Derived.Test.YtckgmilmhofekaaGreatDoorLexRaw
import Derived.Test.YtckgmilmhofekaaGreatDoorFrD
import Derived.Test.YtckgmilmhofekaaGreatDoorProg
import Derived.Test.YtckgmilmhofekaaGreatDoorShelf
import Derived.WalkKit
import Derived.Lib.ItoaNum
import Derived.WalkSpells
import Derived.WalkLawsBesides
import Derived.Handy
import Derived.Lib.Hide
import Derived.Lib.Strings
import Derived.Lib.Builder
import Derived.Shelf.Strings.Builder1
import Derived.BigQuiet
import Derived.OwnWalk
import Derived.Laws.BitsLemmas
import Derived.WalkSmall
import Derived.Deep.QuietTactic
import Derived.StillTailTactics
import Derived.Maps.AppendAt
import Derived.IntWalk
import Derived.Deep.RegionHeld3
import Derived.Deep.DeepFit
import Derived.Deep.LoopGhost
import Derived.Deep.DeepCutAuto
import Derived.Lib.Repeat
import Derived.Lib.AppendIntMem
import Derived.Sort.OwnSorted
import Derived.Shelf.Strings.SlTrimAscii
import Derived.Lib.ConvBytes
import Derived.Lib.CutLaws
import Derived.ArgAppend
namespace Go.Proofs.YtckgmilmhofekaaGreatDoor
open Go.RowKit

theorem choice_out {A : List Tok → PR} {ts : List Tok} {k i j n : Nat} {x y z : Ex} {b : Bool} (h1 : outR ts (A (ts.drop k)) x i false) (h2 : isT 0 wThen (ts.drop i) = true) (h3 : outR ts (A (ts.drop (i + 1))) y j false) (h4 : isT 0 wElse (ts.drop j) = true) (h5 : outR ts (A (ts.drop (j + 1))) z n b) : outR ts (ifP A (ts.drop k)) ⟨5, 0, [], [], Fo.of [x, y, z]⟩ n b := by
 unfold ifP
 rw [outR_ok h1]; dsimp only
 rw [needP_yes h2]; dsimp only
 rw [outR_ok h3]; dsimp only
 rw [needP_yes h4]; dsimp only
 cases b with
 | true => rw [outR_err h5]; exact ⟨rfl, rfl⟩
 | false => rw [outR_ok h5]; exact ⟨rfl, rfl, rfl⟩
theorem opAt_ge {l : List Tok} {op : Int} (h : opAt l = some op) : 6 ≤ op := by
 unfold opAt at h
 repeat' split at h
 all_goals first | cases h | skip
 all_goals omega
set_option maxRecDepth 100000 in
set_option maxHeartbeats 4000000 in
theorem rchoice_ok {w : World} {p : Option Addr} {c : Nat} {ts : List Tok} {A : List Tok → PR} {N k : Nat} {ki : Int} (hA : RAOK p c ts A N) (hS : Shrinks A) (h : ToksIn w (.slice p ts.length c) ts) (hp : ∀ b o, p = some ⟨b, o, none⟩ → b < w.heap.size) (hlen : ts.length ≤ 1099511627776) (hk : k ≤ ts.length) (hki : ki = (k : Int)) (hN : (ts.drop k).length ≤ N) :
    Calls Tryz.prog 69 #[.slice p ts.length c, .int .i64 ki] w (RxPost ts (ifP A (ts.drop k)) w) := by
  have HA := Lib.hid hA; have HS := Lib.hid hS; have HN := Lib.hid hN
  subst hki
  have H := Lib.hid h; have HP := Lib.hid hp; have HL := Lib.hid hlen; have HK0 := Lib.hid hk
  have B : Hid (Below w.heap.size w w) := be_refl w
  clear h hp hlen hk hA hS hN
  go_enter Tryz.func69, Tryz.ntmps69
  go_upto_region 1 with fail
  refine nmW (w.alloc (.cells #[.int .i64 0, .int .i64 0, .string ⟨#[]⟩, .string ⟨#[]⟩, .slice none 0 0] 24)) fun w1 hv => ?_
  rw [← hv]
  have K := bxh hv
  have hb_ := bah hv
  clear hv
  have z1_ := K.out.lt
  replace B := Lib.hid (be_call B.out hb_)
  replace H := Lib.hid (H.out.keep hb_)
  have z2_ := hb_.size
  clear hb_
  go_wp2_with fail
  refine (HA.out _ k _ rfl H.out (fun b o e => by have := HP.out b o e; omega) HK0.out HN.out).mono ?_
  rintro e w2 ⟨x, q, d, i, b, rfl, hf_, hb_, hk_, ho_⟩
  replace B := Lib.hid (be_call B.out hb_)
  replace H := Lib.hid (H.out.keep hb_)
  replace K := Lib.hid (K.out.keep hb_)
  have z3_ := hb_.size
  clear hb_
  have F := Lib.hid hf_; have ho := Lib.hid ho_; have HKi := Lib.hid hk_; clear hf_ ho_ hk_
  unfold hdC
  go_upto_region 2 with fail
  refine nmW (w2.alloc (.cells #[.int .i64 x.op, .int .i64 x.n, .string ⟨x.unit.toArray⟩, .string ⟨x.name.toArray⟩, .slice q x.args.len d] 24)) fun w3 hv => ?_
  rw [← hv]
  have J1 := bxh hv
  have hb_ := bah hv
  clear hv
  have z4_ := J1.out.lt
  replace B := Lib.hid (be_call B.out hb_)
  replace H := Lib.hid (H.out.keep hb_)
  replace K := Lib.hid (K.out.keep hb_)
  replace F := Lib.hid (F.out.keep hb_)
  have z5_ := hb_.size
  clear hb_
  cases b with
  | true =>
    refine K.out.e5 fun pK_0 qK_0 pK_1 qK_1 pK_2 qK_2 pK_3 qK_3 pK_4 qK_4 => ?_
    go_wp2_with fail
    clear pK_0 qK_0 pK_1 qK_1 pK_2 qK_2 pK_3 qK_3 pK_4 qK_4
    refine nmW (((((w3.setCell ⟨w.heap.size, 0, none⟩ (.int .i64 0)).setCell ⟨w.heap.size, 1, none⟩ (.int .i64 0)).setCell ⟨w.heap.size, 2, none⟩ (.string ⟨#[]⟩)).setCell ⟨w.heap.size, 3, none⟩ (.string ⟨#[]⟩)).setCell ⟨w.heap.size, 4, none⟩ (.slice none 0 0)) fun w4 hv => ?_
    rw [← hv]
    have og_ : w3.grownBy w4 (some w.heap.size) := by rw [hv]; exact gs5
    have kb_ : Bx w4 w.heap.size 24 #[.int .i64 0, .int .i64 0, .string ⟨#[]⟩, .string ⟨#[]⟩, .slice none 0 0] := by rw [hv]; exact (((((K.out.set 0 _).set 1 _).set 2 _).set 3 _).set 4 _)
    clear hv
    replace B := Lib.hid (B.out.trans (gr_to og_ (by omega) B.out.size))
    replace H := Lib.hid (H.out.only og_ (fun b o e => by have := HP.out b o e; omega))
    replace K := Lib.hid kb_
    replace F := Lib.hid (F.out.grown og_ (fun hd => by have := hd.1; have := hd.2; omega))
    replace J1 := Lib.hid (J1.out.only og_ (by omega))
    have z6_ := og_.size
    clear og_ kb_
    refine bodyPost_ret (results_box3 rfl _ _ w.heap.size 24 _ _ _ rfl K.out Tryz.underlying24 rfl (by kernel_rfl)) rfl ?_
    exact ⟨Ex.zero, none, 0, i, true, rfl, FoS.nil, B.out, HKi.out, outR_of_err (by unfold ifP; rw [outR_err ho.out])⟩
  | false =>
    have HI1 := Lib.hid (out_after HS.out ho.out HK0.out HKi.out).1
    obtain ⟨y1, hy1⟩ : ∃ t, isT 0 wThen (ts.drop i) = t := ⟨_, rfl⟩
    have Hy1 := Lib.hid hy1; clear hy1
    go_wp2_with fail
    refine (rword_at H.out i ⟨#[116, 104, 101, 110]⟩ (sl := wThen) (by rw [Lib.toList_data]; rfl) Hy1.out rfl).mono ?_
    rintro e w5 ⟨rfl, hb_⟩
    replace B := Lib.hid (be_call B.out hb_)
    replace H := Lib.hid (H.out.keep hb_)
    replace K := Lib.hid (K.out.keep hb_)
    replace F := Lib.hid (F.out.keep hb_)
    replace J1 := Lib.hid (J1.out.keep hb_)
    have z7_ := hb_.size
    clear hb_
    cases y1 with
    | false =>
      refine K.out.e5 fun pK_0 qK_0 pK_1 qK_1 pK_2 qK_2 pK_3 qK_3 pK_4 qK_4 => ?_
      go_wp2_with fail
      clear pK_0 qK_0 pK_1 qK_1 pK_2 qK_2 pK_3 qK_3 pK_4 qK_4
      refine nmW (((((w5.setCell ⟨w.heap.size, 0, none⟩ (.int .i64 0)).setCell ⟨w.heap.size, 1, none⟩ (.int .i64 0)).setCell ⟨w.heap.size, 2, none⟩ (.string ⟨#[]⟩)).setCell ⟨w.heap.size, 3, none⟩ (.string ⟨#[]⟩)).setCell ⟨w.heap.size, 4, none⟩ (.slice none 0 0)) fun w6 hv => ?_
      rw [← hv]
      have og_ : w5.grownBy w6 (some w.heap.size) := by rw [hv]; exact gs5
      have kb_ : Bx w6 w.heap.size 24 #[.int .i64 0, .int .i64 0, .string ⟨#[]⟩, .string ⟨#[]⟩, .slice none 0 0] := by rw [hv]; exact (((((K.out.set 0 _).set 1 _).set 2 _).set 3 _).set 4 _)
      clear hv
      replace B := Lib.hid (B.out.trans (gr_to og_ (by omega) B.out.size))
      replace H := Lib.hid (H.out.only og_ (fun b o e => by have := HP.out b o e; omega))
      replace K := Lib.hid kb_
      replace F := Lib.hid (F.out.grown og_ (fun hd => by have := hd.1; have := hd.2; omega))
      replace J1 := Lib.hid (J1.out.only og_ (by omega))
      have z8_ := og_.size
      clear og_ kb_
      refine bodyPost_ret (results_box3 rfl _ _ w.heap.size 24 _ _ _ rfl K.out Tryz.underlying24 rfl (by kernel_rfl)) rfl ?_
      exact ⟨Ex.zero, none, 0, i, true, rfl, FoS.nil, B.out, HKi.out, outR_of_err (by unfold ifP; rw [outR_ok ho.out]; dsimp only; rw [needP_not (s := wThen) Hy1.out])⟩
    | true =>
      have hk1 : Hid (i + 1 ≤ ts.length) := isT_lt Hy1.out
      have hw1_ : IntKind.i64.wrap ((i : Int) + 1) = (i : Int) + 1 := IntWalk.i64_in _ (by have := hk1.out; have := HL.out; omega)
      have HN1 : Hid ((ts.drop (i + 1)).length ≤ N) := by show _ ≤ _; have h1 := HN.out; have h2 := HI1.out; rw [List.length_drop] at *; omega
      go_wp2_with fail
      refine (HA.out _ (i + 1) _ (by rfl) H.out (fun b o e => by have := HP.out b o e; omega) hk1.out HN1.out).mono ?_
      rintro e w7 ⟨y, q2, d2, j, b2, rfl, hf_, hb_, hk_, ho_⟩
      replace B := Lib.hid (be_call B.out hb_)
      replace H := Lib.hid (H.out.keep hb_)
      replace K := Lib.hid (K.out.keep hb_)
      replace F := Lib.hid (F.out.keep hb_)
      replace J1 := Lib.hid (J1.out.keep hb_)
      have z9_ := hb_.size
      clear hb_
      have F2 := Lib.hid hf_; have ho2 := Lib.hid ho_; have HKj := Lib.hid hk_; clear hf_ ho_ hk_
      unfold hdC
      go_upto_region 5 with fail
      refine nmW (w7.alloc (.cells #[.int .i64 y.op, .int .i64 y.n, .string ⟨y.unit.toArray⟩, .string ⟨y.name.toArray⟩, .slice q2 y.args.len d2] 24)) fun w8 hv => ?_
      rw [← hv]
      have J2 := bxh hv
      have hb_ := bah hv
      clear hv
      have z10_ := J2.out.lt
      replace B := Lib.hid (be_call B.out hb_)
      replace H := Lib.hid (H.out.keep hb_)
      replace K := Lib.hid (K.out.keep hb_)
      replace F := Lib.hid (F.out.keep hb_)
      replace J1 := Lib.hid (J1.out.keep hb_)
      replace F2 := Lib.hid (F2.out.keep hb_)
      have z11_ := hb_.size
      clear hb_
      cases b2 with
      | true =>
        refine K.out.e5 fun pK_0 qK_0 pK_1 qK_1 pK_2 qK_2 pK_3 qK_3 pK_4 qK_4 => ?_
        go_wp2_with fail
        clear pK_0 qK_0 pK_1 qK_1 pK_2 qK_2 pK_3 qK_3 pK_4 qK_4
        refine nmW (((((w8.setCell ⟨w.heap.size, 0, none⟩ (.int .i64 0)).setCell ⟨w.heap.size, 1, none⟩ (.int .i64 0)).setCell ⟨w.heap.size, 2, none⟩ (.string ⟨#[]⟩)).setCell ⟨w.heap.size, 3, none⟩ (.string ⟨#[]⟩)).setCell ⟨w.heap.size, 4, none⟩ (.slice none 0 0)) fun w9 hv => ?_
        rw [← hv]
        have og_ : w8.grownBy w9 (some w.heap.size) := by rw [hv]; exact gs5
        have kb_ : Bx w9 w.heap.size 24 #[.int .i64 0, .int .i64 0, .string ⟨#[]⟩, .string ⟨#[]⟩, .slice none 0 0] := by rw [hv]; exact (((((K.out.set 0 _).set 1 _).set 2 _).set 3 _).set 4 _)
        clear hv
        replace B := Lib.hid (B.out.trans (gr_to og_ (by omega) B.out.size))
        replace H := Lib.hid (H.out.only og_ (fun b o e => by have := HP.out b o e; omega))
        replace K := Lib.hid kb_
        replace F := Lib.hid (F.out.grown og_ (fun hd => by have := hd.1; have := hd.2; omega))
        replace J1 := Lib.hid (J1.out.only og_ (by omega))
        replace F2 := Lib.hid (F2.out.grown og_ (fun hd => by have := hd.1; have := hd.2; omega))
        replace J2 := Lib.hid (J2.out.only og_ (by omega))
        have z12_ := og_.size
        clear og_ kb_
        refine bodyPost_ret (results_box3 rfl _ _ w.heap.size 24 _ _ _ rfl K.out Tryz.underlying24 rfl (by kernel_rfl)) rfl ?_
        exact ⟨Ex.zero, none, 0, j, true, rfl, FoS.nil, B.out, HKj.out, outR_of_err (by unfold ifP; rw [outR_ok ho.out]; dsimp only; rw [needP_yes Hy1.out]; dsimp only; rw [outR_err ho2.out])⟩
      | false =>
        have HI2 := Lib.hid (out_after HS.out ho2.out hk1.out HKj.out).1
        obtain ⟨y2, hy2⟩ : ∃ t, isT 0 wElse (ts.drop j) = t := ⟨_, rfl⟩
        have Hy2 := Lib.hid hy2; clear hy2
        go_wp2_with fail
        refine (rword_at H.out j ⟨#[101, 108, 115, 101]⟩ (sl := wElse) (by rw [Lib.toList_data]; rfl) Hy2.out rfl).mono ?_
        rintro e w10 ⟨rfl, hb_⟩
        replace B := Lib.hid (be_call B.out hb_)
        replace H := Lib.hid (H.out.keep hb_)
        replace K := Lib.hid (K.out.keep hb_)
        replace F := Lib.hid (F.out.keep hb_)
        replace J1 := Lib.hid (J1.out.keep hb_)
        replace F2 := Lib.hid (F2.out.keep hb_)
        replace J2 := Lib.hid (J2.out.keep hb_)
        have z13_ := hb_.size
        clear hb_
        cases y2 with
        | false =>
          refine K.out.e5 fun pK_0 qK_0 pK_1 qK_1 pK_2 qK_2 pK_3 qK_3 pK_4 qK_4 => ?_
          go_wp2_with fail
          clear pK_0 qK_0 pK_1 qK_1 pK_2 qK_2 pK_3 qK_3 pK_4 qK_4
          refine nmW (((((w10.setCell ⟨w.heap.size, 0, none⟩ (.int .i64 0)).setCell ⟨w.heap.size, 1, none⟩ (.int .i64 0)).setCell ⟨w.heap.size, 2, none⟩ (.string ⟨#[]⟩)).setCell ⟨w.heap.size, 3, none⟩ (.string ⟨#[]⟩)).setCell ⟨w.heap.size, 4, none⟩ (.slice none 0 0)) fun w11 hv => ?_
          rw [← hv]
          have og_ : w10.grownBy w11 (some w.heap.size) := by rw [hv]; exact gs5
          have kb_ : Bx w11 w.heap.size 24 #[.int .i64 0, .int .i64 0, .string ⟨#[]⟩, .string ⟨#[]⟩, .slice none 0 0] := by rw [hv]; exact (((((K.out.set 0 _).set 1 _).set 2 _).set 3 _).set 4 _)
          clear hv
          replace B := Lib.hid (B.out.trans (gr_to og_ (by omega) B.out.size))
          replace H := Lib.hid (H.out.only og_ (fun b o e => by have := HP.out b o e; omega))
          replace K := Lib.hid kb_
          replace F := Lib.hid (F.out.grown og_ (fun hd => by have := hd.1; have := hd.2; omega))
          replace J1 := Lib.hid (J1.out.only og_ (by omega))
          replace F2 := Lib.hid (F2.out.grown og_ (fun hd => by have := hd.1; have := hd.2; omega))
          replace J2 := Lib.hid (J2.out.only og_ (by omega))
          have z14_ := og_.size
          clear og_ kb_
          refine bodyPost_ret (results_box3 rfl _ _ w.heap.size 24 _ _ _ rfl K.out Tryz.underlying24 rfl (by kernel_rfl)) rfl ?_
          exact ⟨Ex.zero, none, 0, j, true, rfl, FoS.nil, B.out, HKj.out, outR_of_err (by unfold ifP; rw [outR_ok ho.out]; dsimp only; rw [needP_yes Hy1.out]; dsimp only; rw [outR_ok ho2.out]; dsimp only; rw [needP_not (s := wElse) Hy2.out])⟩
        | true =>
          have hk2 : Hid (j + 1 ≤ ts.length) := isT_lt Hy2.out
          have hw1_ : IntKind.i64.wrap ((j : Int) + 1) = (j : Int) + 1 := IntWalk.i64_in _ (by have := hk2.out; have := HL.out; omega)
          have HN2 : Hid ((ts.drop (j + 1)).length ≤ N) := by show _ ≤ _; have h1 := HN1.out; have h2 := HI2.out; rw [List.length_drop] at *; omega
          go_wp2_with fail
          refine (HA.out _ (j + 1) _ (by rfl) H.out (fun b o e => by have := HP.out b o e; omega) hk2.out HN2.out).mono ?_
          rintro e w12 ⟨z, q3, d3, n, b3, rfl, hf_, hb_, hk_, ho_⟩
          replace B := Lib.hid (be_call B.out hb_)
          replace H := Lib.hid (H.out.keep hb_)
          replace K := Lib.hid (K.out.keep hb_)
          replace F := Lib.hid (F.out.keep hb_)
          replace J1 := Lib.hid (J1.out.keep hb_)
          replace F2 := Lib.hid (F2.out.keep hb_)
          replace J2 := Lib.hid (J2.out.keep hb_)
          have z15_ := hb_.size
          clear hb_
          have F3 := Lib.hid hf_; have ho3 := Lib.hid ho_; have HKn := Lib.hid hk_; clear hf_ ho_ hk_
          unfold hdC
          go_upto_region 8 with fail
          refine nmW (w12.alloc (.cells #[.int .i64 z.op, .int .i64 z.n, .string ⟨z.unit.toArray⟩, .string ⟨z.name.toArray⟩, .slice q3 z.args.len d3] 24)) fun w13 hv => ?_
          rw [← hv]
          have J3 := bxh hv
          have hb_ := bah hv
          clear hv
          have z16_ := J3.out.lt
          replace B := Lib.hid (be_call B.out hb_)
          replace H := Lib.hid (H.out.keep hb_)
          replace K := Lib.hid (K.out.keep hb_)
          replace F := Lib.hid (F.out.keep hb_)
          replace J1 := Lib.hid (J1.out.keep hb_)
          replace F2 := Lib.hid (F2.out.keep hb_)
          replace J2 := Lib.hid (J2.out.keep hb_)
          replace F3 := Lib.hid (F3.out.keep hb_)
          have z17_ := hb_.size
          clear hb_
          refine J1.out.q5 fun pJ1_0 pJ1_1 pJ1_2 pJ1_3 pJ1_4 => ?_
          refine J2.out.q5 fun pJ2_0 pJ2_1 pJ2_2 pJ2_3 pJ2_4 => ?_
          refine J3.out.q5 fun pJ3_0 pJ3_1 pJ3_2 pJ3_3 pJ3_4 => ?_
          have ka_ : Bx (w13.alloc (.cells #[.int .i64 x.op, .int .i64 x.n, .string ⟨x.unit.toArray⟩, .string ⟨x.name.toArray⟩, .slice q x.args.len d, .int .i64 y.op, .int .i64 y.n, .string ⟨y.unit.toArray⟩, .string ⟨y.name.toArray⟩, .slice q2 y.args.len d2, .int .i64 z.op, .int .i64 z.n, .string ⟨z.unit.toArray⟩, .string ⟨z.name.toArray⟩, .slice q3 z.args.len d3] 24)) w.heap.size 24 #[.int .i64 0, .int .i64 0, .string ⟨#[]⟩, .string ⟨#[]⟩, .slice none 0 0] := K.out.keep (below_alloc _ _)
          have paK_0 := ka_.at.1 0
          have qaK_0 := ka_.at.2 0
          have paK_1 := ka_.at.1 1
          have qaK_1 := ka_.at.2 1
          have paK_2 := ka_.at.1 2
          have qaK_2 := ka_.at.2 2
          have paK_3 := ka_.at.1 3
          have qaK_3 := ka_.at.2 3
          have paK_4 := ka_.at.1 4
          have qaK_4 := ka_.at.2 4
          go_wp2_with fail
          clear pJ1_0 pJ1_1 pJ1_2 pJ1_3 pJ1_4 pJ2_0 pJ2_1 pJ2_2 pJ2_3 pJ2_4 pJ3_0 pJ3_1 pJ3_2 pJ3_3 pJ3_4 ka_ paK_0 qaK_0 paK_1 qaK_1 paK_2 qaK_2 paK_3 qaK_3 paK_4 qaK_4
          refine nmW (w13.alloc (.cells #[.int .i64 x.op, .int .i64 x.n, .string ⟨x.unit.toArray⟩, .string ⟨x.name.toArray⟩, .slice q x.args.len d, .int .i64 y.op, .int .i64 y.n, .string ⟨y.unit.toArray⟩, .string ⟨y.name.toArray⟩, .slice q2 y.args.len d2, .int .i64 z.op, .int .i64 z.n, .string ⟨z.unit.toArray⟩, .string ⟨z.name.toArray⟩, .slice q3 z.args.len d3] 24)) fun w14 hv => ?_
          rw [← hv]
          have J := bxh hv
          have hb_ := bah hv
          clear hv
          have z18_ := J.out.lt
          replace B := Lib.hid (be_call B.out hb_)
          replace H := Lib.hid (H.out.keep hb_)
          replace K := Lib.hid (K.out.keep hb_)
          replace F := Lib.hid (F.out.keep hb_)
          replace J1 := Lib.hid (J1.out.keep hb_)
          replace F2 := Lib.hid (F2.out.keep hb_)
          replace J2 := Lib.hid (J2.out.keep hb_)
          replace F3 := Lib.hid (F3.out.keep hb_)
          replace J3 := Lib.hid (J3.out.keep hb_)
          have z19_ := hb_.size
          clear hb_
          refine nmW (((((w14.setCell ⟨w.heap.size, 0, none⟩ (.int .i64 5)).setCell ⟨w.heap.size, 1, none⟩ (.int .i64 0)).setCell ⟨w.heap.size, 2, none⟩ (.string ⟨#[]⟩)).setCell ⟨w.heap.size, 3, none⟩ (.string ⟨#[]⟩)).setCell ⟨w.heap.size, 4, none⟩ (.slice (some ⟨w13.heap.size, 0, none⟩) 3 3)) fun w15 hv => ?_
          rw [← hv]
          have og_ : w14.grownBy w15 (some w.heap.size) := by rw [hv]; exact gs5
          have kb_ : Bx w15 w.heap.size 24 #[.int .i64 5, .int .i64 0, .string ⟨#[]⟩, .string ⟨#[]⟩, .slice (some ⟨w13.heap.size, 0, none⟩) 3 3] := by rw [hv]; exact (((((K.out.set 0 _).set 1 _).set 2 _).set 3 _).set 4 _)
          clear hv
          replace B := Lib.hid (B.out.trans (gr_to og_ (by omega) B.out.size))
          replace H := Lib.hid (H.out.only og_ (fun b o e => by have := HP.out b o e; omega))
          replace K := Lib.hid kb_
          replace F := Lib.hid (F.out.grown og_ (fun hd => by have := hd.1; have := hd.2; omega))
          replace J1 := Lib.hid (J1.out.only og_ (by omega))
          replace F2 := Lib.hid (F2.out.grown og_ (fun hd => by have := hd.1; have := hd.2; omega))
          replace J2 := Lib.hid (J2.out.only og_ (by omega))
          replace F3 := Lib.hid (F3.out.grown og_ (fun hd => by have := hd.1; have := hd.2; omega))
          replace J3 := Lib.hid (J3.out.only og_ (by omega))
          replace J := Lib.hid (J.out.only og_ (by omega))
          have z20_ := og_.size
          clear og_ kb_
          refine bodyPost_ret (results_box3 rfl _ _ w.heap.size 24 _ _ _ rfl K.out Tryz.underlying24 rfl (by kernel_rfl)) rfl ?_
          have FL : FoS (mid w w15) w15 (some ⟨w13.heap.size, 0, none⟩) (List.length [(⟨x, q, d⟩ : Hd), (⟨y, q2, d2⟩ : Hd), (⟨z, q3, d3⟩ : Hd)]) (Fo.of (exL [(⟨x, q, d⟩ : Hd), (⟨y, q2, d2⟩ : Hd), (⟨z, q3, d3⟩ : Hd)])) := FoS.lit (l := [(⟨x, q, d⟩ : Hd), (⟨y, q2, d2⟩ : Hd), (⟨z, q3, d3⟩ : Hd)]) J.out rfl ⟨by omega, by omega⟩ (fun h hh => by
            simp at hh
            rcases hh with rfl | rfl | rfl
            · exact (F.out.mono (fun b hb => ⟨by have := hb.1; omega, by have := hb.2; omega⟩))
            · exact (F2.out.mono (fun b hb => ⟨by have := hb.1; omega, by have := hb.2; omega⟩))
            · exact (F3.out.mono (fun b hb => ⟨by have := hb.1; omega, by have := hb.2; omega⟩)))
          exact ⟨⟨5, 0, [], [], Fo.of [x, y, z]⟩, _, _, n, b3, rfl, FL, B.out, HKn.out, choice_out ho.out Hy1.out ho2.out Hy2.out ho3.out⟩
set_option maxRecDepth 100000 in
set_option maxHeartbeats 4000000 in
theorem rexpr_ok {w : World} {p : Option Addr} {c : Nat} {ts : List Tok} {A : List Tok → PR} {N k : Nat} {ki : Int} (hA : RAOK p c ts A N) (hS : Shrinks A) (h : ToksIn w (.slice p ts.length c) ts) (hp : ∀ b o, p = some ⟨b, o, none⟩ → b < w.heap.size) (hlen : ts.length ≤ 1099511627776) (hk : k ≤ ts.length) (hki : ki = (k : Int)) (hN : (ts.drop k).length ≤ N) :
    Calls Tryz.prog 35 #[.slice p ts.length c, .int .i64 ki] w (RxPost ts (exprW A (ts.drop k)) w) := by
  have HA := Lib.hid hA; have HS := Lib.hid hS; have HN := Lib.hid hN
  subst hki
  have H := Lib.hid h; have HP := Lib.hid hp; have HL := Lib.hid hlen; have HK0 := Lib.hid hk
  have B : Hid (Below w.heap.size w w) := be_refl w
  clear h hp hlen hk hA hS hN
  go_enter Tryz.func35, Tryz.ntmps35
  go_upto_region 1 with fail
  refine nmW (w.alloc (.cells #[.int .i64 0, .int .i64 0, .string ⟨#[]⟩, .string ⟨#[]⟩, .slice none 0 0] 24)) fun w1 hv => ?_
  rw [← hv]
  have K := bxh hv
  have hb_ := bah hv
  clear hv
  have z1_ := K.out.lt
  replace B := Lib.hid (be_call B.out hb_)
  replace H := Lib.hid (H.out.keep hb_)
  have z2_ := hb_.size
  clear hb_
  obtain ⟨y1, hy1⟩ : ∃ t, isT 0 wNot (ts.drop k) = t := ⟨_, rfl⟩
  have Hy1 := Lib.hid hy1; clear hy1
  obtain ⟨y2, hy2⟩ : ∃ t, isT 0 wIf (ts.drop k) = t := ⟨_, rfl⟩
  have Hy2 := Lib.hid hy2; clear hy2
  go_wp2_with fail
  refine (rword_at H.out k ⟨#[110, 111, 116]⟩ (sl := wNot) (by rw [Lib.toList_data]; rfl) Hy1.out rfl).mono ?_
  rintro e w2 ⟨rfl, hb_⟩
  replace B := Lib.hid (be_call B.out hb_)
  replace H := Lib.hid (H.out.keep hb_)
  replace K := Lib.hid (K.out.keep hb_)
  have z3_ := hb_.size
  clear hb_
  cases y1 with
  | true =>
    have hk1 : Hid (k + 1 ≤ ts.length) := isT_lt Hy1.out
    have HN1 : Hid ((ts.drop (k + 1)).length ≤ N) := by show _ ≤ _; have h1 := HN.out; rw [List.length_drop] at *; omega
    have hw1_ : IntKind.i64.wrap ((k : Int) + 1) = (k : Int) + 1 := IntWalk.i64_in _ (by have := hk1.out; have := HL.out; omega)
    go_wp2_with fail
    refine (HA.out _ (k + 1) _ (by rfl) H.out (fun b o e => by have := HP.out b o e; omega) hk1.out HN1.out).mono ?_
    rintro e w3 ⟨x, q, d, k2, b2, rfl, hf_, hb_, hk_, ho_⟩
    replace B := Lib.hid (be_call B.out hb_)
    replace H := Lib.hid (H.out.keep hb_)
    replace K := Lib.hid (K.out.keep hb_)
    have z4_ := hb_.size
    clear hb_
    have F := Lib.hid hf_; have ho := Lib.hid ho_; have HKk2 := Lib.hid hk_; clear hf_ ho_ hk_
    unfold hdC
    go_upto_region 3 with fail
    refine nmW (w3.alloc (.cells #[.int .i64 x.op, .int .i64 x.n, .string ⟨x.unit.toArray⟩, .string ⟨x.name.toArray⟩, .slice q x.args.len d] 24)) fun w4 hv => ?_
    rw [← hv]
    have J1 := bxh hv
    have hb_ := bah hv
    clear hv
    have z5_ := J1.out.lt
    replace B := Lib.hid (be_call B.out hb_)
    replace H := Lib.hid (H.out.keep hb_)
    replace K := Lib.hid (K.out.keep hb_)
    replace F := Lib.hid (F.out.keep hb_)
    have z6_ := hb_.size
    clear hb_
    refine J1.out.q5 fun pJ1_0 pJ1_1 pJ1_2 pJ1_3 pJ1_4 => ?_
    have ka_ : Bx (w4.alloc (.cells #[.int .i64 x.op, .int .i64 x.n, .string ⟨x.unit.toArray⟩, .string ⟨x.name.toArray⟩, .slice q x.args.len d] 24)) w.heap.size 24 #[.int .i64 0, .int .i64 0, .string ⟨#[]⟩, .string ⟨#[]⟩, .slice none 0 0] := K.out.keep (below_alloc _ _)
    have paK_0 := ka_.at.1 0
    have qaK_0 := ka_.at.2 0
    have paK_1 := ka_.at.1 1
    have qaK_1 := ka_.at.2 1
    have paK_2 := ka_.at.1 2
    have qaK_2 := ka_.at.2 2
    have paK_3 := ka_.at.1 3
    have qaK_3 := ka_.at.2 3
    have paK_4 := ka_.at.1 4
    have qaK_4 := ka_.at.2 4
    go_wp2_with fail
    clear pJ1_0 pJ1_1 pJ1_2 pJ1_3 pJ1_4 ka_ paK_0 qaK_0 paK_1 qaK_1 paK_2 qaK_2 paK_3 qaK_3 paK_4 qaK_4
    refine nmW (w4.alloc (.cells #[.int .i64 x.op, .int .i64 x.n, .string ⟨x.unit.toArray⟩, .string ⟨x.name.toArray⟩, .slice q x.args.len d] 24)) fun w5 hv => ?_
    rw [← hv]
    have J := bxh hv
    have hb_ := bah hv
    clear hv
    have z7_ := J.out.lt
    replace B := Lib.hid (be_call B.out hb_)
    replace H := Lib.hid (H.out.keep hb_)
    replace K := Lib.hid (K.out.keep hb_)
    replace F := Lib.hid (F.out.keep hb_)
    replace J1 := Lib.hid (J1.out.keep hb_)
    have z8_ := hb_.size
    clear hb_
    refine nmW (((((w5.setCell ⟨w.heap.size, 0, none⟩ (.int .i64 4)).setCell ⟨w.heap.size, 1, none⟩ (.int .i64 0)).setCell ⟨w.heap.size, 2, none⟩ (.string ⟨#[]⟩)).setCell ⟨w.heap.size, 3, none⟩ (.string ⟨#[]⟩)).setCell ⟨w.heap.size, 4, none⟩ (.slice (some ⟨w4.heap.size, 0, none⟩) 1 1)) fun w6 hv => ?_
    rw [← hv]
    have og_ : w5.grownBy w6 (some w.heap.size) := by rw [hv]; exact gs5
    have kb_ : Bx w6 w.heap.size 24 #[.int .i64 4, .int .i64 0, .string ⟨#[]⟩, .string ⟨#[]⟩, .slice (some ⟨w4.heap.size, 0, none⟩) 1 1] := by rw [hv]; exact (((((K.out.set 0 _).set 1 _).set 2 _).set 3 _).set 4 _)
    clear hv
    replace B := Lib.hid (B.out.trans (gr_to og_ (by omega) B.out.size))
    replace H := Lib.hid (H.out.only og_ (fun b o e => by have := HP.out b o e; omega))
    replace K := Lib.hid kb_
    replace F := Lib.hid (F.out.grown og_ (fun hd => by have := hd.1; have := hd.2; omega))
    replace J1 := Lib.hid (J1.out.only og_ (by omega))
    replace J := Lib.hid (J.out.only og_ (by omega))
    have z9_ := og_.size
    clear og_ kb_
    refine bodyPost_ret (results_box3 rfl _ _ w.heap.size 24 _ _ _ rfl K.out Tryz.underlying24 rfl (by kernel_rfl)) rfl ?_
    have FL : FoS (mid w w6) w6 (some ⟨w4.heap.size, 0, none⟩) (List.length [(⟨x, q, d⟩ : Hd)]) (Fo.of (exL [(⟨x, q, d⟩ : Hd)])) := FoS.lit (l := [(⟨x, q, d⟩ : Hd)]) J.out rfl ⟨by omega, by omega⟩ (fun h hh => by
      simp at hh
      subst hh
      exact (F.out.mono (fun b hb => ⟨by have := hb.1; omega, by have := hb.2; omega⟩)))
    exact ⟨⟨4, 0, [], [], Fo.of [x]⟩, _, _, k2, b2, rfl, FL, B.out, HKk2.out, expr_not Hy1.out ho.out⟩
  | false =>
    go_wp2_with fail
    refine (rword_at H.out k ⟨#[105, 102]⟩ (sl := wIf) (by rw [Lib.toList_data]; rfl) Hy2.out rfl).mono ?_
    rintro e w7 ⟨rfl, hb_⟩
    replace B := Lib.hid (be_call B.out hb_)
    replace H := Lib.hid (H.out.keep hb_)
    replace K := Lib.hid (K.out.keep hb_)
    have z10_ := hb_.size
    clear hb_
    cases y2 with
    | true =>
      have hk1 : Hid (k + 1 ≤ ts.length) := isT_lt Hy2.out
      have HN1 : Hid ((ts.drop (k + 1)).length ≤ N) := by show _ ≤ _; have h1 := HN.out; rw [List.length_drop] at *; omega
      have hw1_ : IntKind.i64.wrap ((k : Int) + 1) = (k : Int) + 1 := IntWalk.i64_in _ (by have := hk1.out; have := HL.out; omega)
      go_wp2_with fail
      refine (rchoice_ok (k := k + 1) HA.out HS.out H.out (fun b o e => by have := HP.out b o e; omega) HL.out hk1.out (by rfl) HN1.out).mono ?_
      rintro e w8 ⟨x, q, d, k2, b2, rfl, hf_, hb_, hk_, ho_⟩
      replace B := Lib.hid (be_call B.out hb_)
      replace H := Lib.hid (H.out.keep hb_)
      replace K := Lib.hid (K.out.keep hb_)
      have z11_ := hb_.size
      clear hb_
      have F := Lib.hid hf_; have ho := Lib.hid ho_; have HKk2 := Lib.hid hk_; clear hf_ ho_ hk_
      unfold hdC
      go_upto_region 6 with fail
      refine nmW (w8.alloc (.cells #[.int .i64 x.op, .int .i64 x.n, .string ⟨x.unit.toArray⟩, .string ⟨x.name.toArray⟩, .slice q x.args.len d] 24)) fun w9 hv => ?_
      rw [← hv]
      have J1 := bxh hv
      have hb_ := bah hv
      clear hv
      have z12_ := J1.out.lt
      replace B := Lib.hid (be_call B.out hb_)
      replace H := Lib.hid (H.out.keep hb_)
      replace K := Lib.hid (K.out.keep hb_)
      replace F := Lib.hid (F.out.keep hb_)
      have z13_ := hb_.size
      clear hb_
      refine J1.out.q5 fun pJ1_0 pJ1_1 pJ1_2 pJ1_3 pJ1_4 => ?_
      refine K.out.e5 fun pK_0 qK_0 pK_1 qK_1 pK_2 qK_2 pK_3 qK_3 pK_4 qK_4 => ?_
      go_wp2_with fail
      clear pJ1_0 pJ1_1 pJ1_2 pJ1_3 pJ1_4 pK_0 qK_0 pK_1 qK_1 pK_2 qK_2 pK_3 qK_3 pK_4 qK_4
      refine nmW (((((w9.setCell ⟨w.heap.size, 0, none⟩ (.int .i64 x.op)).setCell ⟨w.heap.size, 1, none⟩ (.int .i64 x.n)).setCell ⟨w.heap.size, 2, none⟩ (.string ⟨x.unit.toArray⟩)).setCell ⟨w.heap.size, 3, none⟩ (.string ⟨x.name.toArray⟩)).setCell ⟨w.heap.size, 4, none⟩ (.slice q x.args.len d)) fun w10 hv => ?_
      rw [← hv]
      have og_ : w9.grownBy w10 (some w.heap.size) := by rw [hv]; exact gs5
      have kb_ : Bx w10 w.heap.size 24 #[.int .i64 x.op, .int .i64 x.n, .string ⟨x.unit.toArray⟩, .string ⟨x.name.toArray⟩, .slice q x.args.len d] := by rw [hv]; exact (((((K.out.set 0 _).set 1 _).set 2 _).set 3 _).set 4 _)
      clear hv
      replace B := Lib.hid (B.out.trans (gr_to og_ (by omega) B.out.size))
      replace H := Lib.hid (H.out.only og_ (fun b o e => by have := HP.out b o e; omega))
      replace K := Lib.hid kb_
      replace F := Lib.hid (F.out.grown og_ (fun hd => by have := hd.1; have := hd.2; omega))
      replace J1 := Lib.hid (J1.out.only og_ (by omega))
      have z14_ := og_.size
      clear og_ kb_
      refine bodyPost_ret (results_box3 rfl _ _ w.heap.size 24 _ _ _ rfl K.out Tryz.underlying24 rfl (by kernel_rfl)) rfl ?_
      exact ⟨x, q, d, k2, b2, rfl, (F.out.mono (fun b hb => ⟨by have := hb.1; omega, by have := hb.2; omega⟩)), B.out, HKk2.out, expr_if Hy1.out Hy2.out ho.out⟩
    | false =>
      go_wp2_with fail
      refine (HA.out _ k _ rfl H.out (fun b o e => by have := HP.out b o e; omega) HK0.out HN.out).mono ?_
      rintro e w11 ⟨x, q, d, i, b, rfl, hf_, hb_, hk_, ho_⟩
      replace B := Lib.hid (be_call B.out hb_)
      replace H := Lib.hid (H.out.keep hb_)
      replace K := Lib.hid (K.out.keep hb_)
      have z15_ := hb_.size
      clear hb_
      have F := Lib.hid hf_; have ho := Lib.hid ho_; have HKi := Lib.hid hk_; clear hf_ ho_ hk_
      unfold hdC
      go_upto_region 8 with fail
      refine nmW (w11.alloc (.cells #[.int .i64 x.op, .int .i64 x.n, .string ⟨x.unit.toArray⟩, .string ⟨x.name.toArray⟩, .slice q x.args.len d] 24)) fun w12 hv => ?_
      rw [← hv]
      have J1 := bxh hv
      have hb_ := bah hv
      clear hv
      have z16_ := J1.out.lt
      replace B := Lib.hid (be_call B.out hb_)
      replace H := Lib.hid (H.out.keep hb_)
      replace K := Lib.hid (K.out.keep hb_)
      replace F := Lib.hid (F.out.keep hb_)
      have z17_ := hb_.size
      clear hb_
      cases b with
      | true =>
        refine J1.out.q5 fun pJ1_0 pJ1_1 pJ1_2 pJ1_3 pJ1_4 => ?_
        refine K.out.e5 fun pK_0 qK_0 pK_1 qK_1 pK_2 qK_2 pK_3 qK_3 pK_4 qK_4 => ?_
        go_wp2_with fail
        clear pJ1_0 pJ1_1 pJ1_2 pJ1_3 pJ1_4 pK_0 qK_0 pK_1 qK_1 pK_2 qK_2 pK_3 qK_3 pK_4 qK_4
        refine nmW (((((w12.setCell ⟨w.heap.size, 0, none⟩ (.int .i64 x.op)).setCell ⟨w.heap.size, 1, none⟩ (.int .i64 x.n)).setCell ⟨w.heap.size, 2, none⟩ (.string ⟨x.unit.toArray⟩)).setCell ⟨w.heap.size, 3, none⟩ (.string ⟨x.name.toArray⟩)).setCell ⟨w.heap.size, 4, none⟩ (.slice q x.args.len d)) fun w13 hv => ?_
        rw [← hv]
        have og_ : w12.grownBy w13 (some w.heap.size) := by rw [hv]; exact gs5
        have kb_ : Bx w13 w.heap.size 24 #[.int .i64 x.op, .int .i64 x.n, .string ⟨x.unit.toArray⟩, .string ⟨x.name.toArray⟩, .slice q x.args.len d] := by rw [hv]; exact (((((K.out.set 0 _).set 1 _).set 2 _).set 3 _).set 4 _)
        clear hv
        replace B := Lib.hid (B.out.trans (gr_to og_ (by omega) B.out.size))
        replace H := Lib.hid (H.out.only og_ (fun b o e => by have := HP.out b o e; omega))
        replace K := Lib.hid kb_
        replace F := Lib.hid (F.out.grown og_ (fun hd => by have := hd.1; have := hd.2; omega))
        replace J1 := Lib.hid (J1.out.only og_ (by omega))
        have z18_ := og_.size
        clear og_ kb_
        refine bodyPost_ret (results_box3 rfl _ _ w.heap.size 24 _ _ _ rfl K.out Tryz.underlying24 rfl (by kernel_rfl)) rfl ?_
        exact ⟨x, q, d, i, true, rfl, (F.out.mono (fun b hb => ⟨by have := hb.1; omega, by have := hb.2; omega⟩)), B.out, HKi.out, expr_one Hy1.out Hy2.out ho.out rfl⟩
      | false =>
        have HI1 := Lib.hid (out_after HS.out ho.out HK0.out HKi.out)
        obtain ⟨o, ho_⟩ : ∃ o, opAt (ts.drop i) = o := ⟨_, rfl⟩
        have HO := Lib.hid ho_; clear ho_
        go_wp2_with fail
        refine (roperator_at H.out i HO.out rfl).mono ?_
        rintro e w14 ⟨rfl, hb_⟩
        replace B := Lib.hid (be_call B.out hb_)
        replace H := Lib.hid (H.out.keep hb_)
        replace K := Lib.hid (K.out.keep hb_)
        replace F := Lib.hid (F.out.keep hb_)
        replace J1 := Lib.hid (J1.out.keep hb_)
        have z19_ := hb_.size
        clear hb_
        cases o with
        | none =>
          refine J1.out.q5 fun pJ1_0 pJ1_1 pJ1_2 pJ1_3 pJ1_4 => ?_
          refine K.out.e5 fun pK_0 qK_0 pK_1 qK_1 pK_2 qK_2 pK_3 qK_3 pK_4 qK_4 => ?_
          go_wp2_with fail
          clear pJ1_0 pJ1_1 pJ1_2 pJ1_3 pJ1_4 pK_0 qK_0 pK_1 qK_1 pK_2 qK_2 pK_3 qK_3 pK_4 qK_4
          refine nmW (((((w14.setCell ⟨w.heap.size, 0, none⟩ (.int .i64 x.op)).setCell ⟨w.heap.size, 1, none⟩ (.int .i64 x.n)).setCell ⟨w.heap.size, 2, none⟩ (.string ⟨x.unit.toArray⟩)).setCell ⟨w.heap.size, 3, none⟩ (.string ⟨x.name.toArray⟩)).setCell ⟨w.heap.size, 4, none⟩ (.slice q x.args.len d)) fun w15 hv => ?_
          rw [← hv]
          have og_ : w14.grownBy w15 (some w.heap.size) := by rw [hv]; exact gs5
          have kb_ : Bx w15 w.heap.size 24 #[.int .i64 x.op, .int .i64 x.n, .string ⟨x.unit.toArray⟩, .string ⟨x.name.toArray⟩, .slice q x.args.len d] := by rw [hv]; exact (((((K.out.set 0 _).set 1 _).set 2 _).set 3 _).set 4 _)
          clear hv
          replace B := Lib.hid (B.out.trans (gr_to og_ (by omega) B.out.size))
          replace H := Lib.hid (H.out.only og_ (fun b o e => by have := HP.out b o e; omega))
          replace K := Lib.hid kb_
          replace F := Lib.hid (F.out.grown og_ (fun hd => by have := hd.1; have := hd.2; omega))
          replace J1 := Lib.hid (J1.out.only og_ (by omega))
          have z20_ := og_.size
          clear og_ kb_
          refine bodyPost_ret (results_box3 rfl _ _ w.heap.size 24 _ _ _ rfl K.out Tryz.underlying24 rfl (by kernel_rfl)) rfl ?_
          exact ⟨x, q, d, i, false, rfl, (F.out.mono (fun b hb => ⟨by have := hb.1; omega, by have := hb.2; omega⟩)), B.out, HKi.out, expr_one Hy1.out Hy2.out ho.out HO.out⟩
        | some op =>
          have hop6 := opAt_ge HO.out
          have hop0 : ¬ op < 0 := by omega
          have hopg : (some op).getD (-1) = op := rfl
          have hk1 : Hid (i + 1 ≤ ts.length) := by
            show _ ≤ _
            rcases Nat.lt_or_ge i ts.length with h | h
            · exact h
            · have := HO.out; rw [List.drop_eq_nil_of_le h] at this; cases this
          have hw1_ : IntKind.i64.wrap ((i : Int) + 1) = (i : Int) + 1 := IntWalk.i64_in _ (by have := hk1.out; have := HL.out; omega)
          have HN2 : Hid ((ts.drop (i + 1)).length ≤ N) := by show _ ≤ _; have h1 := HN.out; have h2 := HI1.out.1; rw [List.length_drop] at *; omega
          clear hop6
          go_wp2_with fail
          refine (HA.out _ (i + 1) _ (by rfl) H.out (fun b o e => by have := HP.out b o e; omega) hk1.out HN2.out).mono ?_
          rintro e w16 ⟨y, q2, d2, j, b2, rfl, hf_, hb_, hk_, ho_⟩
          replace B := Lib.hid (be_call B.out hb_)
          replace H := Lib.hid (H.out.keep hb_)
          replace K := Lib.hid (K.out.keep hb_)
          replace F := Lib.hid (F.out.keep hb_)
          replace J1 := Lib.hid (J1.out.keep hb_)
          have z21_ := hb_.size
          clear hb_
          have F2 := Lib.hid hf_; have ho2 := Lib.hid ho_; have HKj := Lib.hid hk_; clear hf_ ho_ hk_
          unfold hdC
          go_upto_region 11 with fail
          refine nmW (w16.alloc (.cells #[.int .i64 y.op, .int .i64 y.n, .string ⟨y.unit.toArray⟩, .string ⟨y.name.toArray⟩, .slice q2 y.args.len d2] 24)) fun w17 hv => ?_
          rw [← hv]
          have J2 := bxh hv
          have hb_ := bah hv
          clear hv
          have z22_ := J2.out.lt
          replace B := Lib.hid (be_call B.out hb_)
          replace H := Lib.hid (H.out.keep hb_)
          replace K := Lib.hid (K.out.keep hb_)
          replace F := Lib.hid (F.out.keep hb_)
          replace J1 := Lib.hid (J1.out.keep hb_)
          replace F2 := Lib.hid (F2.out.keep hb_)
          have z23_ := hb_.size
          clear hb_
          refine nmW w17.drew fun w18 hW => ?_
          have hb_ := bdh hW
          replace B := Lib.hid (be_call B.out hb_)
          replace H := Lib.hid (H.out.keep hb_)
          replace K := Lib.hid (K.out.keep hb_)
          replace F := Lib.hid (F.out.keep hb_)
          replace J1 := Lib.hid (J1.out.keep hb_)
          replace F2 := Lib.hid (F2.out.keep hb_)
          replace J2 := Lib.hid (J2.out.keep hb_)
          have z24_ := hb_.size
          clear hb_
          refine wp_region_held_drew (S := (fun w' => w'.cell? ⟨w11.heap.size, 0, none⟩ = some (.int .i64 x.op) ∧ w'.cell? ⟨w11.heap.size, 1, none⟩ = some (.int .i64 x.n) ∧ w'.cell? ⟨w11.heap.size, 2, none⟩ = some (.string ⟨x.unit.toArray⟩) ∧ w'.cell? ⟨w11.heap.size, 3, none⟩ = some (.string ⟨x.name.toArray⟩) ∧ w'.cell? ⟨w11.heap.size, 4, none⟩ = some (.slice q x.args.len d) ∧ w'.cell? ⟨w16.heap.size, 0, none⟩ = some (.int .i64 y.op) ∧ w'.cell? ⟨w16.heap.size, 1, none⟩ = some (.int .i64 y.n) ∧ w'.cell? ⟨w16.heap.size, 2, none⟩ = some (.string ⟨y.unit.toArray⟩) ∧ w'.cell? ⟨w16.heap.size, 3, none⟩ = some (.string ⟨y.name.toArray⟩) ∧ w'.cell? ⟨w16.heap.size, 4, none⟩ = some (.slice q2 y.args.len d2))) (by kernel_rfl) (by rw [← hW]; exact (J1.out.t5 (J2.out.d5))) (fun hH => ?_)
          rw [← hW] at hH ⊢
          clear hW
          refine tk at0 ?_
          refine tk at1 ?_
          refine tk at3 (v := .agg #[.int .i64 x.op, .int .i64 x.n, .string ⟨x.unit.toArray⟩, .string ⟨x.name.toArray⟩, .slice q x.args.len d]) ?_
          refine tk at4 (v := .agg #[.int .i64 y.op, .int .i64 y.n, .string ⟨y.unit.toArray⟩, .string ⟨y.name.toArray⟩, .slice q2 y.args.len d2]) ?_
          refine tk at7 ?_
          refine tk at8 ?_
          refine wpAnyH_ready (rs := [2, 5]) (by kernel_rfl) (by simp) ?_
          refine AllReadyH.cons at2 (fun K_ hK => ?_) (AllReadyH.cons at5 (fun K_ hK => ?_) AllReadyH.nil)
          · skip
            go_simp
            refine (roperator_at H.out i HO.out rfl).mono ?_
            rintro e w19 ⟨rfl, hb_⟩
            replace B := Lib.hid (be_call B.out hb_)
            replace H := Lib.hid (H.out.keep hb_)
            replace K := Lib.hid (K.out.keep hb_)
            replace F := Lib.hid (F.out.keep hb_)
            replace J1 := Lib.hid (J1.out.keep hb_)
            replace F2 := Lib.hid (F2.out.keep hb_)
            replace J2 := Lib.hid (J2.out.keep hb_)
            have z25_ := hb_.size
            clear hb_
            (try go_wp2_with fail)
            refine hK.out _ _ ((J1.out.t5 (J2.out.d5))) (fun hH2 => ?_)
            clear hK K_ hH
            have hH := hH2; clear hH2
            (try simp only [Act.put, kS, kZ, kC])
            refine wpAnyH_ready (rs := [5]) (by kernel_rfl) (by simp) ?_
            refine AllReadyH.cons at5 (fun K_ hK => ?_) AllReadyH.nil
            go_simp
            refine nmW (w19.alloc (.cells #[.int .i64 x.op, .int .i64 x.n, .string ⟨x.unit.toArray⟩, .string ⟨x.name.toArray⟩, .slice q x.args.len d, .int .i64 y.op, .int .i64 y.n, .string ⟨y.unit.toArray⟩, .string ⟨y.name.toArray⟩, .slice q2 y.args.len d2] 24)) fun w20 hv => ?_
            rw [← hv]
            have J := bxh hv
            have hb_ := bah hv
            clear hv
            have zj_ := J.out.lt
            replace B := Lib.hid (be_call B.out hb_)
            replace H := Lib.hid (H.out.keep hb_)
            replace K := Lib.hid (K.out.keep hb_)
            replace F := Lib.hid (F.out.keep hb_)
            replace J1 := Lib.hid (J1.out.keep hb_)
            replace F2 := Lib.hid (F2.out.keep hb_)
            replace J2 := Lib.hid (J2.out.keep hb_)
            have z26_ := hb_.size
            clear hb_
            refine hK.out _ _ ((J1.out.t5 (J2.out.d5))) (fun hH2 => ?_)
            clear hK K_ hH
            have hH := hH2; clear hH2
            (try simp only [Act.put, kS, kZ, kC])
            refine tk at6 (v := .agg #[.int .i64 op, .int .i64 0, .string ⟨#[]⟩, .string ⟨#[]⟩, .slice (some ⟨w19.heap.size, 0, none⟩) 2 2]) ?_
            refine wpAnyH_ready (rs := [9]) (by kernel_rfl) (by simp) ?_
            refine AllReadyH.cons at9 (fun K_ hK => ?_) AllReadyH.nil
            refine K.out.e5 fun pK_0 qK_0 pK_1 qK_1 pK_2 qK_2 pK_3 qK_3 pK_4 qK_4 => ?_
            go_simp
            clear pK_0 qK_0 pK_1 qK_1 pK_2 qK_2 pK_3 qK_3 pK_4 qK_4
            refine nmW (((((w20.setCell ⟨w.heap.size, 0, none⟩ (.int .i64 op)).setCell ⟨w.heap.size, 1, none⟩ (.int .i64 0)).setCell ⟨w.heap.size, 2, none⟩ (.string ⟨#[]⟩)).setCell ⟨w.heap.size, 3, none⟩ (.string ⟨#[]⟩)).setCell ⟨w.heap.size, 4, none⟩ (.slice (some ⟨w19.heap.size, 0, none⟩) 2 2)) fun w21 hv => ?_
            rw [← hv]
            have og_ : w20.grownBy w21 (some w.heap.size) := by rw [hv]; exact gs5
            have kb_ : Bx w21 w.heap.size 24 #[.int .i64 op, .int .i64 0, .string ⟨#[]⟩, .string ⟨#[]⟩, .slice (some ⟨w19.heap.size, 0, none⟩) 2 2] := by rw [hv]; exact (((((K.out.set 0 _).set 1 _).set 2 _).set 3 _).set 4 _)
            clear hv
            replace B := Lib.hid (B.out.trans (gr_to og_ (by omega) B.out.size))
            replace H := Lib.hid (H.out.only og_ (fun b o e => by have := HP.out b o e; omega))
            replace K := Lib.hid kb_
            replace F := Lib.hid (F.out.grown og_ (fun hd => by have := hd.1; have := hd.2; omega))
            replace J1 := Lib.hid (J1.out.only og_ (by omega))
            replace F2 := Lib.hid (F2.out.grown og_ (fun hd => by have := hd.1; have := hd.2; omega))
            replace J2 := Lib.hid (J2.out.only og_ (by omega))
            replace J := Lib.hid (J.out.only og_ (by omega))
            have z27_ := og_.size
            clear og_ kb_
            refine hK.out _ _ ((J1.out.t5 (J2.out.d5))) (fun hH2 => ?_)
            clear hK K_ hH
            have hH := hH2; clear hH2
            (try simp only [Act.put, kS, kZ, kC])
            refine tk at10 ?_
            refine tk at11 ?_
            refine wpAnyH_done (by kernel_rfl) ?_ _
            clear hH
            go_wp2_with fail
            refine bodyPost_ret (results_box3 rfl _ _ w.heap.size 24 _ _ _ rfl K.out Tryz.underlying24 rfl (by kernel_rfl)) rfl ?_
            have FL : FoS (mid w w21) w21 (some ⟨w19.heap.size, 0, none⟩) (List.length [(⟨x, q, d⟩ : Hd), (⟨y, q2, d2⟩ : Hd)]) (Fo.of (exL [(⟨x, q, d⟩ : Hd), (⟨y, q2, d2⟩ : Hd)])) := FoS.lit (l := [(⟨x, q, d⟩ : Hd), (⟨y, q2, d2⟩ : Hd)]) J.out rfl ⟨by omega, by omega⟩ (fun h hh => by
              simp at hh
              rcases hh with rfl | rfl
              · exact (F.out.mono (fun b hb => ⟨by have := hb.1; omega, by have := hb.2; omega⟩))
              · exact (F2.out.mono (fun b hb => ⟨by have := hb.1; omega, by have := hb.2; omega⟩)))
            exact ⟨⟨op, 0, [], [], Fo.of [x, y]⟩, _, _, j, b2, rfl, FL, B.out, HKj.out, expr_two Hy1.out Hy2.out ho.out HO.out ho2.out⟩
          · skip
            go_simp
            refine nmW (w18.alloc (.cells #[.int .i64 x.op, .int .i64 x.n, .string ⟨x.unit.toArray⟩, .string ⟨x.name.toArray⟩, .slice q x.args.len d, .int .i64 y.op, .int .i64 y.n, .string ⟨y.unit.toArray⟩, .string ⟨y.name.toArray⟩, .slice q2 y.args.len d2] 24)) fun w22 hv => ?_
            rw [← hv]
            have J := bxh hv
            have hb_ := bah hv
            clear hv
            have zj_ := J.out.lt
            replace B := Lib.hid (be_call B.out hb_)
            replace H := Lib.hid (H.out.keep hb_)
            replace K := Lib.hid (K.out.keep hb_)
            replace F := Lib.hid (F.out.keep hb_)
            replace J1 := Lib.hid (J1.out.keep hb_)
            replace F2 := Lib.hid (F2.out.keep hb_)
            replace J2 := Lib.hid (J2.out.keep hb_)
            have z28_ := hb_.size
            clear hb_
            refine hK.out _ _ ((J1.out.t5 (J2.out.d5))) (fun hH2 => ?_)
            clear hK K_ hH
            have hH := hH2; clear hH2
            (try simp only [Act.put, kS, kZ, kC])
            refine wpAnyH_ready (rs := [2]) (by kernel_rfl) (by simp) ?_
            refine AllReadyH.cons at2 (fun K_ hK => ?_) AllReadyH.nil
            go_simp
            refine (roperator_at H.out i HO.out rfl).mono ?_
            rintro e w23 ⟨rfl, hb_⟩
            replace B := Lib.hid (be_call B.out hb_)
            replace H := Lib.hid (H.out.keep hb_)
            replace K := Lib.hid (K.out.keep hb_)
            replace F := Lib.hid (F.out.keep hb_)
            replace J1 := Lib.hid (J1.out.keep hb_)
            replace F2 := Lib.hid (F2.out.keep hb_)
            replace J2 := Lib.hid (J2.out.keep hb_)
            replace J := Lib.hid (J.out.keep hb_)
            have z29_ := hb_.size
            clear hb_
            (try go_wp2_with fail)
            refine hK.out _ _ ((J1.out.t5 (J2.out.d5))) (fun hH2 => ?_)
            clear hK K_ hH
            have hH := hH2; clear hH2
            (try simp only [Act.put, kS, kZ, kC])
            refine tk at6 (v := .agg #[.int .i64 op, .int .i64 0, .string ⟨#[]⟩, .string ⟨#[]⟩, .slice (some ⟨w18.heap.size, 0, none⟩) 2 2]) ?_
            refine wpAnyH_ready (rs := [9]) (by kernel_rfl) (by simp) ?_
            refine AllReadyH.cons at9 (fun K_ hK => ?_) AllReadyH.nil
            refine K.out.e5 fun pK_0 qK_0 pK_1 qK_1 pK_2 qK_2 pK_3 qK_3 pK_4 qK_4 => ?_
            go_simp
            clear pK_0 qK_0 pK_1 qK_1 pK_2 qK_2 pK_3 qK_3 pK_4 qK_4
            refine nmW (((((w23.setCell ⟨w.heap.size, 0, none⟩ (.int .i64 op)).setCell ⟨w.heap.size, 1, none⟩ (.int .i64 0)).setCell ⟨w.heap.size, 2, none⟩ (.string ⟨#[]⟩)).setCell ⟨w.heap.size, 3, none⟩ (.string ⟨#[]⟩)).setCell ⟨w.heap.size, 4, none⟩ (.slice (some ⟨w18.heap.size, 0, none⟩) 2 2)) fun w24 hv => ?_
            rw [← hv]
            have og_ : w23.grownBy w24 (some w.heap.size) := by rw [hv]; exact gs5
            have kb_ : Bx w24 w.heap.size 24 #[.int .i64 op, .int .i64 0, .string ⟨#[]⟩, .string ⟨#[]⟩, .slice (some ⟨w18.heap.size, 0, none⟩) 2 2] := by rw [hv]; exact (((((K.out.set 0 _).set 1 _).set 2 _).set 3 _).set 4 _)
            clear hv
            replace B := Lib.hid (B.out.trans (gr_to og_ (by omega) B.out.size))
            replace H := Lib.hid (H.out.only og_ (fun b o e => by have := HP.out b o e; omega))
            replace K := Lib.hid kb_
            replace F := Lib.hid (F.out.grown og_ (fun hd => by have := hd.1; have := hd.2; omega))
            replace J1 := Lib.hid (J1.out.only og_ (by omega))
            replace F2 := Lib.hid (F2.out.grown og_ (fun hd => by have := hd.1; have := hd.2; omega))
            replace J2 := Lib.hid (J2.out.only og_ (by omega))
            replace J := Lib.hid (J.out.only og_ (by omega))
            have z30_ := og_.size
            clear og_ kb_
            refine hK.out _ _ ((J1.out.t5 (J2.out.d5))) (fun hH2 => ?_)
            clear hK K_ hH
            have hH := hH2; clear hH2
            (try simp only [Act.put, kS, kZ, kC])
            refine tk at10 ?_
            refine tk at11 ?_
            refine wpAnyH_done (by kernel_rfl) ?_ _
            clear hH
            go_wp2_with fail
            refine bodyPost_ret (results_box3 rfl _ _ w.heap.size 24 _ _ _ rfl K.out Tryz.underlying24 rfl (by kernel_rfl)) rfl ?_
            have FL : FoS (mid w w24) w24 (some ⟨w18.heap.size, 0, none⟩) (List.length [(⟨x, q, d⟩ : Hd), (⟨y, q2, d2⟩ : Hd)]) (Fo.of (exL [(⟨x, q, d⟩ : Hd), (⟨y, q2, d2⟩ : Hd)])) := FoS.lit (l := [(⟨x, q, d⟩ : Hd), (⟨y, q2, d2⟩ : Hd)]) J.out rfl ⟨by omega, by omega⟩ (fun h hh => by
              simp at hh
              rcases hh with rfl | rfl
              · exact (F.out.mono (fun b hb => ⟨by have := hb.1; omega, by have := hb.2; omega⟩))
              · exact (F2.out.mono (fun b hb => ⟨by have := hb.1; omega, by have := hb.2; omega⟩)))
            exact ⟨⟨op, 0, [], [], Fo.of [x, y]⟩, _, _, j, b2, rfl, FL, B.out, HKj.out, expr_two Hy1.out Hy2.out ho.out HO.out ho2.out⟩
theorem reok_all {p : Option Addr} {c : Nat} {ts : List Tok} (hlen : ts.length ≤ 1099511627776) : ∀ f : Nat, REOK p c ts (exprP f) f
 | 0 => fun w k ki hki h hp hk hN => absurd hN (Nat.not_lt_zero _)
 | f + 1 => fun w k ki hki h hp hk hN => rexpr_ok (A := atomP (exprP f)) (N := f) (fun w k ki hki h hp hk hN => rsmall_ok (reok_all hlen f) (shrinks_exprP f) h hp hlen hk hki hN) (shrinks_atom (shrinks_exprP f)) h hp hlen hk hki (by omega)
end Go.Proofs.YtckgmilmhofekaaGreatDoor
namespace Go.Proofs.YtckgmilmhofekaaGreatDoor
open Go.RowKit

theorem refQuote_gen (s : ByteArray) (w : World) (hs : s.size ≤ maxLen) :
  Calls Tryz.prog 105 #[.string s] w fun e w' => e = .returned (quoteRes s.data.toList) ∧ w = w' := by
 cases hq : quoteOk s.data.toList with
 | true =>
  refine refQuote_any s w ?_
  unfold quoteOk at hq
  rw [Bool.and_eq_true, decide_eq_true_eq, bytes_len] at hq
  omega
 | false =>
  have HQ := Lib.hid hq; clear hq
  go_enter Tryz.func105, Tryz.ntmps105
  go_wp2_with (first | (go_at_call 88; refine (refValue_any s _ hs).mono ?_; rintro e w' ⟨rfl, rfl⟩; rw [HQ.out]))
  go_ret2
  exact ⟨by rw [quoteRes_no HQ.out]; rfl, rfl⟩
set_option maxRecDepth 100000 in
set_option maxHeartbeats 4000000 in
theorem rnamed_ok {w : World} (s : ByteArray) {b_ : Bool} (hs : s.size ≤ maxLen) (hb : namedB s.data.toList = b_) :
  Calls Tryz.prog 106 #[.string s] w fun e w' => e = .returned (.bool b_) ∧ Below w.heap.size w w' := by
 cases hn : nameOk s.data.toList with
 | false =>
  have HN := Lib.hid hn
  have hb' : false = b_ := by rw [← hb]; simp [namedB, hn]
  subst hb'; clear hn hb
  go_enter Tryz.func106, Tryz.ntmps106
  go_wp2_with fail
  refine (refName_any s w hs).mono ?_
  rintro e w1 ⟨rfl, rfl⟩
  rw [HN.out]
  go_wp2_with fail
  go_ret
  exact ⟨rfl, Below.refl _ _⟩
 | true =>
  have HN := Lib.hid hn
  obtain ⟨c, hc⟩ : ∃ c, wordB s.toList = c := ⟨_, rfl⟩
  have hb' : (!c) = b_ := by rw [← hb, ← hc, Lib.toList_data]; simp [namedB, hn]
  subst hb'; clear hn hb
  go_enter Tryz.func106, Tryz.ntmps106
  go_wp2_with fail
  refine (refName_any s w hs).mono ?_
  rintro e w1 ⟨rfl, rfl⟩
  rw [HN.out]
  go_wp2_with fail
  refine (rWord_ok s hc).mono ?_
  rintro e w1 ⟨rfl, hb⟩
  go_wp2_with fail
  go_ret
  exact ⟨rfl, hb⟩
/-- How many arguments an operation has. -/
def arity (op : Int) : Int := if op = 0 ∨ op = 1 then 0 else if op = 2 ∨ op = 4 then 1 else if op = 5 then 3 else if 6 ≤ op ∧ op ≤ 15 then 2 else -1
theorem node_two {op : Int} {m : Bytes} {k : Nat} (h : op = 1 ∨ op = 2) : nodeB op 0 [] m k = (namedB m && ((k : Int) == arity op)) := by
  rcases h with rfl | rfl
  · show (namedB m && (k == 0)) = (namedB m && ((k : Int) == ((0 : Nat) : Int))); rw [nat_beq]
  · show (namedB m && (k == 1)) = (namedB m && ((k : Int) == ((1 : Nat) : Int))); rw [nat_beq]
theorem node_rest {op : Int} {m : Bytes} {k : Nat} (h0 : op ≠ 0) (h1 : op ≠ 1) (h2 : op ≠ 2) (h3 : op ≠ 3) : nodeB op 0 [] m k = (m.isEmpty && decide (0 < k) && ((k : Int) == arity op)) := by
  have e : ∀ c : Nat, 0 < c → (m.isEmpty && (k == c)) = (m.isEmpty && decide (0 < k) && ((k : Int) == (c : Int))) := fun c hc => by
    rw [nat_beq]
    cases hk : k == c with
    | false => simp
    | true => have := eq_of_beq hk; rw [decide_eq_true (by omega : 0 < k)]; simp
  unfold nodeB arity
  rw [if_neg h0, if_neg (by simp), if_neg h1, if_neg h2, if_neg h3, if_neg (show ¬ (op = 0 ∨ op = 1) by omega)]
  by_cases h4 : op = 4
  · rw [if_pos h4, if_pos (.inr h4)]; exact e 1 (by decide)
  rw [if_neg h4, if_neg (show ¬ (op = 2 ∨ op = 4) by omega)]
  by_cases h5 : op = 5
  · rw [if_pos h5, if_pos h5]; exact e 3 (by decide)
  rw [if_neg h5, if_neg h5]
  by_cases h6 : op = 10 ∨ op = 11
  · rw [if_pos h6, if_pos (by omega)]; exact e 2 (by decide)
  rw [if_neg h6]
  cases ho : (opName op).isSome with
  | true =>
    have := opName_cases ho
    rw [if_pos (by omega), Bool.true_and]; exact e 2 (by decide)
  | false =>
    have hno : ¬ (6 ≤ op ∧ op ≤ 15) := by
      intro h
      have : op = 6 ∨ op = 7 ∨ op = 8 ∨ op = 9 ∨ op = 12 ∨ op = 13 ∨ op = 14 ∨ op = 15 := by omega
      rcases this with rfl | rfl | rfl | rfl | rfl | rfl | rfl | rfl <;> cases ho
    rw [if_neg hno]
    have : ((k : Int) == -1) = false := beq_eq_false_iff_ne.2 (by omega)
    rw [this]; simp
set_option maxRecDepth 100000 in
set_option maxHeartbeats 4000000 in
theorem rArity_ok {w : World} (op : Int) {r : Int} (hr : arity op = r) :
    Calls Tryz.prog 107 #[.int .i64 op] w fun e w' => e = .returned (.int .i64 r) ∧ w = w' := by
  subst hr
  by_cases h0 : op = 0
  · subst h0
    rw [show arity 0 = 0 from rfl]
    go_enter Tryz.func107, Tryz.ntmps107
    go_wp2_with fail
    go_ret
    exact ⟨rfl, rfl⟩
  by_cases h1 : op = 1
  · subst h1
    clear h0
    rw [show arity 1 = 0 from rfl]
    go_enter Tryz.func107, Tryz.ntmps107
    go_wp2_with fail
    go_ret
    exact ⟨rfl, rfl⟩
  by_cases h2 : op = 2
  · subst h2
    clear h0 h1
    rw [show arity 2 = 1 from rfl]
    go_enter Tryz.func107, Tryz.ntmps107
    go_wp2_with fail
    go_ret
    exact ⟨rfl, rfl⟩
  by_cases h4 : op = 4
  · subst h4
    clear h0 h1 h2
    rw [show arity 4 = 1 from rfl]
    go_enter Tryz.func107, Tryz.ntmps107
    go_wp2_with fail
    go_ret
    exact ⟨rfl, rfl⟩
  by_cases h5 : op = 5
  · subst h5
    clear h0 h1 h2 h4
    rw [show arity 5 = 3 from rfl]
    go_enter Tryz.func107, Tryz.ntmps107
    go_wp2_with fail
    go_ret
    exact ⟨rfl, rfl⟩
  by_cases h6 : op = 6
  · subst h6
    clear h0 h1 h2 h4 h5
    rw [show arity 6 = 2 from rfl]
    go_enter Tryz.func107, Tryz.ntmps107
    go_wp2_with fail
    go_ret
    exact ⟨rfl, rfl⟩
  by_cases h7 : op = 7
  · subst h7
    clear h0 h1 h2 h4 h5 h6
    rw [show arity 7 = 2 from rfl]
    go_enter Tryz.func107, Tryz.ntmps107
    go_wp2_with fail
    go_ret
    exact ⟨rfl, rfl⟩
  by_cases h8 : op = 8
  · subst h8
    clear h0 h1 h2 h4 h5 h6 h7
    rw [show arity 8 = 2 from rfl]
    go_enter Tryz.func107, Tryz.ntmps107
    go_wp2_with fail
    go_ret
    exact ⟨rfl, rfl⟩
  by_cases h9 : op = 9
  · subst h9
    clear h0 h1 h2 h4 h5 h6 h7 h8
    rw [show arity 9 = 2 from rfl]
    go_enter Tryz.func107, Tryz.ntmps107
    go_wp2_with fail
    go_ret
    exact ⟨rfl, rfl⟩
  by_cases h10 : op = 10
  · subst h10
    clear h0 h1 h2 h4 h5 h6 h7 h8 h9
    rw [show arity 10 = 2 from rfl]
    go_enter Tryz.func107, Tryz.ntmps107
    go_wp2_with fail
    go_ret
    exact ⟨rfl, rfl⟩
  by_cases h11 : op = 11
  · subst h11
    clear h0 h1 h2 h4 h5 h6 h7 h8 h9 h10
    rw [show arity 11 = 2 from rfl]
    go_enter Tryz.func107, Tryz.ntmps107
    go_wp2_with fail
    go_ret
    exact ⟨rfl, rfl⟩
  by_cases h12 : op = 12
  · subst h12
    clear h0 h1 h2 h4 h5 h6 h7 h8 h9 h10 h11
    rw [show arity 12 = 2 from rfl]
    go_enter Tryz.func107, Tryz.ntmps107
    go_wp2_with fail
    go_ret
    exact ⟨rfl, rfl⟩
  by_cases h13 : op = 13
  · subst h13
    clear h0 h1 h2 h4 h5 h6 h7 h8 h9 h10 h11 h12
    rw [show arity 13 = 2 from rfl]
    go_enter Tryz.func107, Tryz.ntmps107
    go_wp2_with fail
    go_ret
    exact ⟨rfl, rfl⟩
  by_cases h14 : op = 14
  · subst h14
    clear h0 h1 h2 h4 h5 h6 h7 h8 h9 h10 h11 h12 h13
    rw [show arity 14 = 2 from rfl]
    go_enter Tryz.func107, Tryz.ntmps107
    go_wp2_with fail
    go_ret
    exact ⟨rfl, rfl⟩
  by_cases h15 : op = 15
  · subst h15
    clear h0 h1 h2 h4 h5 h6 h7 h8 h9 h10 h11 h12 h13 h14
    rw [show arity 15 = 2 from rfl]
    go_enter Tryz.func107, Tryz.ntmps107
    go_wp2_with fail
    go_ret
    exact ⟨rfl, rfl⟩
  have e0 : (op == 0) = false := beq_eq_false_iff_ne.2 h0
  have e1 : (op == 1) = false := beq_eq_false_iff_ne.2 h1
  have e2 : (op == 2) = false := beq_eq_false_iff_ne.2 h2
  have e4 : (op == 4) = false := beq_eq_false_iff_ne.2 h4
  have e5 : (op == 5) = false := beq_eq_false_iff_ne.2 h5
  have e6 : (op == 6) = false := beq_eq_false_iff_ne.2 h6
  have e7 : (op == 7) = false := beq_eq_false_iff_ne.2 h7
  have e8 : (op == 8) = false := beq_eq_false_iff_ne.2 h8
  have e9 : (op == 9) = false := beq_eq_false_iff_ne.2 h9
  have e10 : (op == 10) = false := beq_eq_false_iff_ne.2 h10
  have e11 : (op == 11) = false := beq_eq_false_iff_ne.2 h11
  have e12 : (op == 12) = false := beq_eq_false_iff_ne.2 h12
  have e13 : (op == 13) = false := beq_eq_false_iff_ne.2 h13
  have e14 : (op == 14) = false := beq_eq_false_iff_ne.2 h14
  have e15 : (op == 15) = false := beq_eq_false_iff_ne.2 h15
  have HO : Hid (arity op = -1) := by show _ = _; unfold arity; rw [if_neg (by omega), if_neg (by omega), if_neg (by omega), if_neg (by omega)]
  clear h0 h1 h2 h4 h5 h6 h7 h8 h9 h10 h11 h12 h13 h14 h15
  go_enter Tryz.func107, Tryz.ntmps107
  go_wp2_with fail
  go_ret
  exact ⟨by rw [HO.out]; rfl, rfl⟩
set_option maxRecDepth 100000 in
set_option maxHeartbeats 4000000 in
theorem rnode_q0 {w : World} {op n : Int} {u m : Bytes} {k d : Nat} {q : Option Addr} {r : Bool} (hu : u.length ≤ 9223372036854775807) (h0 : op = 0) (hq : quoteOk u = false) (hr : nodeB op n u m k = r) :
  Calls Tryz.prog 74 #[.agg #[.int .i64 op, .int .i64 n, .string ⟨u.toArray⟩, .string ⟨m.toArray⟩, .slice q k d]] w fun e w' => e = .returned (.bool r) ∧ Below w.heap.size w w' := by
 obtain rfl : false = r := by rw [← hr, h0]; unfold nodeB; simp [*]
 subst h0
 have HQ := Lib.hid hq
 clear hr hq
 have B : Hid (Below w.heap.size w w) := be_refl w
 go_enter Tryz.func74, Tryz.ntmps74
 go_upto_region 1 with fail
 refine nmW (w.alloc (.cells #[.int .i64 0, .int .i64 n, .string ⟨u.toArray⟩, .string ⟨m.toArray⟩, .slice q k d] 24)) fun w1 hv => ?_
 rw [← hv]
 have K := bxh hv
 have hb_ := bah hv
 clear hv
 have z1_ := K.out.lt
 replace B := Lib.hid (be_call B.out hb_)
 have z2_ := hb_.size
 clear hb_
 refine K.out.q5 fun pK_0 pK_1 pK_2 pK_3 pK_4 => ?_
 go_wp2_with fail
 clear pK_0 pK_1 pK_2 pK_3 pK_4
 refine (refQuote_gen _ _ (show u.toArray.size ≤ _ by simpa [maxLen] using hu)).mono ?_
 rintro e w1 ⟨rfl, rfl⟩
 rw [show (ByteArray.mk u.toArray).data.toList = u by simp, show quoteRes u = _ from quoteRes_no HQ.out]
 refine K.out.q5 fun pK_0 pK_1 pK_2 pK_3 pK_4 => ?_
 go_wp2_with fail
 clear pK_0 pK_1 pK_2 pK_3 pK_4
 go_ret
 exact ⟨rfl, B.out⟩
set_option maxRecDepth 100000 in
set_option maxHeartbeats 4000000 in
theorem rnode_q1 {w : World} {op n : Int} {u m : Bytes} {k d : Nat} {q : Option Addr} {r : Bool} (hu : u.length ≤ 9223372036854775807) (h0 : op = 0) (hq : quoteOk u = true) (h1 : ¬ 0 ≤ n) (hr : nodeB op n u m k = r) :
  Calls Tryz.prog 74 #[.agg #[.int .i64 op, .int .i64 n, .string ⟨u.toArray⟩, .string ⟨m.toArray⟩, .slice q k d]] w fun e w' => e = .returned (.bool r) ∧ Below w.heap.size w w' := by
 obtain rfl : false = r := by rw [← hr, h0]; unfold nodeB; simp [*]
 subst h0
 have HQ := Lib.hid hq
 clear hr hq
 have B : Hid (Below w.heap.size w w) := be_refl w
 go_enter Tryz.func74, Tryz.ntmps74
 go_upto_region 1 with fail
 refine nmW (w.alloc (.cells #[.int .i64 0, .int .i64 n, .string ⟨u.toArray⟩, .string ⟨m.toArray⟩, .slice q k d] 24)) fun w1 hv => ?_
 rw [← hv]
 have K := bxh hv
 have hb_ := bah hv
 clear hv
 have z1_ := K.out.lt
 replace B := Lib.hid (be_call B.out hb_)
 have z2_ := hb_.size
 clear hb_
 refine K.out.q5 fun pK_0 pK_1 pK_2 pK_3 pK_4 => ?_
 go_wp2_with fail
 clear pK_0 pK_1 pK_2 pK_3 pK_4
 refine (refQuote_gen _ _ (show u.toArray.size ≤ _ by simpa [maxLen] using hu)).mono ?_
 rintro e w1 ⟨rfl, rfl⟩
 rw [show (ByteArray.mk u.toArray).data.toList = u by simp, show quoteRes u = _ from quoteRes_yes HQ.out]
 refine K.out.q5 fun pK_0 pK_1 pK_2 pK_3 pK_4 => ?_
 go_wp2_with fail
 clear pK_0 pK_1 pK_2 pK_3 pK_4
 go_ret
 exact ⟨rfl, B.out⟩
set_option maxRecDepth 100000 in
set_option maxHeartbeats 4000000 in
theorem rnode_q2 {w : World} {op n : Int} {u m : Bytes} {k d : Nat} {q : Option Addr} {r : Bool} (hu : u.length ≤ 9223372036854775807) (h0 : op = 0) (hq : quoteOk u = true) (h1 : 0 ≤ n) (h2 : ¬ n ≤ 1099511627776) (hr : nodeB op n u m k = r) :
  Calls Tryz.prog 74 #[.agg #[.int .i64 op, .int .i64 n, .string ⟨u.toArray⟩, .string ⟨m.toArray⟩, .slice q k d]] w fun e w' => e = .returned (.bool r) ∧ Below w.heap.size w w' := by
 obtain rfl : false = r := by rw [← hr, h0]; unfold nodeB; simp [*]
 subst h0
 have HQ := Lib.hid hq
 clear hr hq
 have B : Hid (Below w.heap.size w w) := be_refl w
 go_enter Tryz.func74, Tryz.ntmps74
 go_upto_region 1 with fail
 refine nmW (w.alloc (.cells #[.int .i64 0, .int .i64 n, .string ⟨u.toArray⟩, .string ⟨m.toArray⟩, .slice q k d] 24)) fun w1 hv => ?_
 rw [← hv]
 have K := bxh hv
 have hb_ := bah hv
 clear hv
 have z1_ := K.out.lt
 replace B := Lib.hid (be_call B.out hb_)
 have z2_ := hb_.size
 clear hb_
 refine K.out.q5 fun pK_0 pK_1 pK_2 pK_3 pK_4 => ?_
 go_wp2_with fail
 clear pK_0 pK_1 pK_2 pK_3 pK_4
 refine (refQuote_gen _ _ (show u.toArray.size ≤ _ by simpa [maxLen] using hu)).mono ?_
 rintro e w1 ⟨rfl, rfl⟩
 rw [show (ByteArray.mk u.toArray).data.toList = u by simp, show quoteRes u = _ from quoteRes_yes HQ.out]
 refine K.out.q5 fun pK_0 pK_1 pK_2 pK_3 pK_4 => ?_
 go_wp2_with fail
 clear pK_0 pK_1 pK_2 pK_3 pK_4
 go_ret
 exact ⟨rfl, B.out⟩
set_option maxRecDepth 100000 in
set_option maxHeartbeats 4000000 in
theorem rnode_q3 {w : World} {op n : Int} {u m : Bytes} {k d : Nat} {q : Option Addr} {r : Bool} (hu : u.length ≤ 9223372036854775807) (h0 : op = 0) (hq : quoteOk u = true) (h1 : 0 ≤ n) (h2 : n ≤ 1099511627776) (h3 : m.isEmpty = false) (hr : nodeB op n u m k = r) :
  Calls Tryz.prog 74 #[.agg #[.int .i64 op, .int .i64 n, .string ⟨u.toArray⟩, .string ⟨m.toArray⟩, .slice q k d]] w fun e w' => e = .returned (.bool r) ∧ Below w.heap.size w w' := by
 obtain rfl : false = r := by rw [← hr, h0]; unfold nodeB; simp [*]
 subst h0
 have HQ := Lib.hid hq
 clear hr hq
 have B : Hid (Below w.heap.size w w) := be_refl w
 go_enter Tryz.func74, Tryz.ntmps74
 go_upto_region 1 with fail
 refine nmW (w.alloc (.cells #[.int .i64 0, .int .i64 n, .string ⟨u.toArray⟩, .string ⟨m.toArray⟩, .slice q k d] 24)) fun w1 hv => ?_
 rw [← hv]
 have K := bxh hv
 have hb_ := bah hv
 clear hv
 have z1_ := K.out.lt
 replace B := Lib.hid (be_call B.out hb_)
 have z2_ := hb_.size
 clear hb_
 refine K.out.q5 fun pK_0 pK_1 pK_2 pK_3 pK_4 => ?_
 go_wp2_with fail
 clear pK_0 pK_1 pK_2 pK_3 pK_4
 refine (refQuote_gen _ _ (show u.toArray.size ≤ _ by simpa [maxLen] using hu)).mono ?_
 rintro e w1 ⟨rfl, rfl⟩
 rw [show (ByteArray.mk u.toArray).data.toList = u by simp, show quoteRes u = _ from quoteRes_yes HQ.out]
 refine K.out.q5 fun pK_0 pK_1 pK_2 pK_3 pK_4 => ?_
 go_wp2_with fail
 clear pK_0 pK_1 pK_2 pK_3 pK_4
 go_ret
 exact ⟨rfl, B.out⟩
set_option maxRecDepth 100000 in
set_option maxHeartbeats 4000000 in
theorem rnode_q4 {w : World} {op n : Int} {u m : Bytes} {k d : Nat} {q : Option Addr} {r : Bool} (hu : u.length ≤ 9223372036854775807) (h0 : op = 0) (hq : quoteOk u = true) (h1 : 0 ≤ n) (h2 : n ≤ 1099511627776) (h3 : m.isEmpty = true) (h4 : (k == 0) = false) (hr : nodeB op n u m k = r) :
  Calls Tryz.prog 74 #[.agg #[.int .i64 op, .int .i64 n, .string ⟨u.toArray⟩, .string ⟨m.toArray⟩, .slice q k d]] w fun e w' => e = .returned (.bool r) ∧ Below w.heap.size w w' := by
 have h4i : ((k : Int) == 0) = false := by rw [beq_eq_false_iff_ne] at h4 ⊢; omega
 obtain rfl : false = r := by rw [← hr, h0]; unfold nodeB; simp [*]
 subst h0
 have HQ := Lib.hid hq
 clear hr hq
 have B : Hid (Below w.heap.size w w) := be_refl w
 go_enter Tryz.func74, Tryz.ntmps74
 go_upto_region 1 with fail
 refine nmW (w.alloc (.cells #[.int .i64 0, .int .i64 n, .string ⟨u.toArray⟩, .string ⟨m.toArray⟩, .slice q k d] 24)) fun w1 hv => ?_
 rw [← hv]
 have K := bxh hv
 have hb_ := bah hv
 clear hv
 have z1_ := K.out.lt
 replace B := Lib.hid (be_call B.out hb_)
 have z2_ := hb_.size
 clear hb_
 refine K.out.q5 fun pK_0 pK_1 pK_2 pK_3 pK_4 => ?_
 go_wp2_with fail
 clear pK_0 pK_1 pK_2 pK_3 pK_4
 refine (refQuote_gen _ _ (show u.toArray.size ≤ _ by simpa [maxLen] using hu)).mono ?_
 rintro e w1 ⟨rfl, rfl⟩
 rw [show (ByteArray.mk u.toArray).data.toList = u by simp, show quoteRes u = _ from quoteRes_yes HQ.out]
 refine K.out.q5 fun pK_0 pK_1 pK_2 pK_3 pK_4 => ?_
 go_wp2_with fail
 clear pK_0 pK_1 pK_2 pK_3 pK_4
 go_ret
 exact ⟨rfl, B.out⟩
set_option maxRecDepth 100000 in
set_option maxHeartbeats 4000000 in
theorem rnode_q5 {w : World} {op n : Int} {u m : Bytes} {k d : Nat} {q : Option Addr} {r : Bool} (hu : u.length ≤ 9223372036854775807) (h0 : op = 0) (hq : quoteOk u = true) (h1 : 0 ≤ n) (h2 : n ≤ 1099511627776) (h3 : m.isEmpty = true) (h4 : (k == 0) = true) (hr : nodeB op n u m k = r) :
  Calls Tryz.prog 74 #[.agg #[.int .i64 op, .int .i64 n, .string ⟨u.toArray⟩, .string ⟨m.toArray⟩, .slice q k d]] w fun e w' => e = .returned (.bool r) ∧ Below w.heap.size w w' := by
 have h4i : ((k : Int) == 0) = true := by rw [beq_iff_eq] at h4 ⊢; omega
 obtain rfl : true = r := by rw [← hr, h0]; unfold nodeB; simp [*]
 subst h0
 have HQ := Lib.hid hq
 clear hr hq
 have B : Hid (Below w.heap.size w w) := be_refl w
 go_enter Tryz.func74, Tryz.ntmps74
 go_upto_region 1 with fail
 refine nmW (w.alloc (.cells #[.int .i64 0, .int .i64 n, .string ⟨u.toArray⟩, .string ⟨m.toArray⟩, .slice q k d] 24)) fun w1 hv => ?_
 rw [← hv]
 have K := bxh hv
 have hb_ := bah hv
 clear hv
 have z1_ := K.out.lt
 replace B := Lib.hid (be_call B.out hb_)
 have z2_ := hb_.size
 clear hb_
 refine K.out.q5 fun pK_0 pK_1 pK_2 pK_3 pK_4 => ?_
 go_wp2_with fail
 clear pK_0 pK_1 pK_2 pK_3 pK_4
 refine (refQuote_gen _ _ (show u.toArray.size ≤ _ by simpa [maxLen] using hu)).mono ?_
 rintro e w1 ⟨rfl, rfl⟩
 rw [show (ByteArray.mk u.toArray).data.toList = u by simp, show quoteRes u = _ from quoteRes_yes HQ.out]
 refine K.out.q5 fun pK_0 pK_1 pK_2 pK_3 pK_4 => ?_
 go_wp2_with fail
 clear pK_0 pK_1 pK_2 pK_3 pK_4
 go_ret
 exact ⟨rfl, B.out⟩
set_option maxRecDepth 100000 in
set_option maxHeartbeats 4000000 in
theorem rnode_n {w : World} {op n : Int} {u m : Bytes} {k d : Nat} {q : Option Addr} {r : Bool} (h0 : ¬ op = 0) (h1 : ¬ n = 0) (hr : nodeB op n u m k = r) :
  Calls Tryz.prog 74 #[.agg #[.int .i64 op, .int .i64 n, .string ⟨u.toArray⟩, .string ⟨m.toArray⟩, .slice q k d]] w fun e w' => e = .returned (.bool r) ∧ Below w.heap.size w w' := by
 obtain rfl : false = r := by rw [← hr]; unfold nodeB; simp [*]
 clear hr
 have B : Hid (Below w.heap.size w w) := be_refl w
 go_enter Tryz.func74, Tryz.ntmps74
 go_upto_region 1 with fail
 refine nmW (w.alloc (.cells #[.int .i64 op, .int .i64 n, .string ⟨u.toArray⟩, .string ⟨m.toArray⟩, .slice q k d] 24)) fun w1 hv => ?_
 rw [← hv]
 have K := bxh hv
 have hb_ := bah hv
 clear hv
 have z1_ := K.out.lt
 replace B := Lib.hid (be_call B.out hb_)
 have z2_ := hb_.size
 clear hb_
 refine K.out.q5 fun pK_0 pK_1 pK_2 pK_3 pK_4 => ?_
 go_wp2_with fail
 go_ret
 exact ⟨rfl, B.out⟩
set_option maxRecDepth 100000 in
set_option maxHeartbeats 4000000 in
theorem rnode_u {w : World} {op n : Int} {u m : Bytes} {k d : Nat} {q : Option Addr} {r : Bool} (h0 : ¬ op = 0) (h1 : n = 0) (h2 : ¬ u = []) (hr : nodeB op n u m k = r) :
  Calls Tryz.prog 74 #[.agg #[.int .i64 op, .int .i64 n, .string ⟨u.toArray⟩, .string ⟨m.toArray⟩, .slice q k d]] w fun e w' => e = .returned (.bool r) ∧ Below w.heap.size w w' := by
 have h2i : u.isEmpty = false := by cases u with | nil => exact absurd rfl h2 | cons a l => rfl
 have h2j : (u == []) = false := by cases u with | nil => exact absurd rfl h2 | cons a l => rfl
 obtain rfl : false = r := by rw [← hr]; unfold nodeB; simp [*]
 clear hr
 have B : Hid (Below w.heap.size w w) := be_refl w
 subst h1
 go_enter Tryz.func74, Tryz.ntmps74
 go_upto_region 1 with fail
 refine nmW (w.alloc (.cells #[.int .i64 op, .int .i64 0, .string ⟨u.toArray⟩, .string ⟨m.toArray⟩, .slice q k d] 24)) fun w1 hv => ?_
 rw [← hv]
 have K := bxh hv
 have hb_ := bah hv
 clear hv
 have z1_ := K.out.lt
 replace B := Lib.hid (be_call B.out hb_)
 have z2_ := hb_.size
 clear hb_
 refine K.out.q5 fun pK_0 pK_1 pK_2 pK_3 pK_4 => ?_
 go_wp2_with fail
 go_ret
 exact ⟨rfl, B.out⟩
set_option maxRecDepth 100000 in
set_option maxHeartbeats 4000000 in
theorem rnode_m30 {w : World} {op n : Int} {u m : Bytes} {k d : Nat} {q : Option Addr} {r : Bool} (h1 : n = 0) (h2 : u = []) (h0 : op = 3) (hn : namedB m = false) (hm : m.length ≤ 9223372036854775807) (hr : nodeB op n u m k = r) :
  Calls Tryz.prog 74 #[.agg #[.int .i64 op, .int .i64 n, .string ⟨u.toArray⟩, .string ⟨m.toArray⟩, .slice q k d]] w fun e w' => e = .returned (.bool r) ∧ Below w.heap.size w w' := by
 obtain rfl : false = r := by rw [← hr]; unfold nodeB; simp [*]
 clear hr
 have B : Hid (Below w.heap.size w w) := be_refl w
 subst h1
 subst h2
 subst h0
 go_enter Tryz.func74, Tryz.ntmps74
 go_upto_region 1 with fail
 refine nmW (w.alloc (.cells #[.int .i64 3, .int .i64 0, .string ⟨#[]⟩, .string ⟨m.toArray⟩, .slice q k d] 24)) fun w1 hv => ?_
 rw [← hv]
 have K := bxh hv
 have hb_ := bah hv
 clear hv
 have z1_ := K.out.lt
 replace B := Lib.hid (be_call B.out hb_)
 have z2_ := hb_.size
 clear hb_
 refine K.out.q5 fun pK_0 pK_1 pK_2 pK_3 pK_4 => ?_
 go_wp2_with fail
 clear pK_0 pK_1 pK_2 pK_3 pK_4
 refine (rnamed_ok (b_ := false) _ (show m.toArray.size ≤ _ by simpa [maxLen] using hm) (by simpa using hn)).mono ?_
 rintro e w2 ⟨rfl, hb_⟩
 replace B := Lib.hid (be_call B.out hb_)
 replace K := Lib.hid (K.out.keep hb_)
 have z3_ := hb_.size
 clear hb_
 refine K.out.q5 fun pK_0 pK_1 pK_2 pK_3 pK_4 => ?_
 go_wp2_with fail
 clear pK_0 pK_1 pK_2 pK_3 pK_4
 go_ret
 exact ⟨rfl, B.out⟩
set_option maxRecDepth 100000 in
set_option maxHeartbeats 4000000 in
theorem rnode_m31 {w : World} {op n : Int} {u m : Bytes} {k d : Nat} {q : Option Addr} {r : Bool} (h1 : n = 0) (h2 : u = []) (h0 : op = 3) (hn : namedB m = true) (h4 : ¬ 1 ≤ k) (hm : m.length ≤ 9223372036854775807) (hr : nodeB op n u m k = r) :
  Calls Tryz.prog 74 #[.agg #[.int .i64 op, .int .i64 n, .string ⟨u.toArray⟩, .string ⟨m.toArray⟩, .slice q k d]] w fun e w' => e = .returned (.bool r) ∧ Below w.heap.size w w' := by
 have h4i : ¬ (1 : Int) ≤ k := by omega
 have h4j : ¬ 0 < k := by omega
 have h4k : ((k : Int) < 1) := by omega
 have h5i : (k : Int) ≤ 6 := by omega
 obtain rfl : false = r := by rw [← hr]; unfold nodeB; simp [*]
 clear hr
 have B : Hid (Below w.heap.size w w) := be_refl w
 subst h1
 subst h2
 subst h0
 go_enter Tryz.func74, Tryz.ntmps74
 go_upto_region 1 with fail
 refine nmW (w.alloc (.cells #[.int .i64 3, .int .i64 0, .string ⟨#[]⟩, .string ⟨m.toArray⟩, .slice q k d] 24)) fun w1 hv => ?_
 rw [← hv]
 have K := bxh hv
 have hb_ := bah hv
 clear hv
 have z1_ := K.out.lt
 replace B := Lib.hid (be_call B.out hb_)
 have z2_ := hb_.size
 clear hb_
 refine K.out.q5 fun pK_0 pK_1 pK_2 pK_3 pK_4 => ?_
 go_wp2_with fail
 clear pK_0 pK_1 pK_2 pK_3 pK_4
 refine (rnamed_ok (b_ := true) _ (show m.toArray.size ≤ _ by simpa [maxLen] using hm) (by simpa using hn)).mono ?_
 rintro e w2 ⟨rfl, hb_⟩
 replace B := Lib.hid (be_call B.out hb_)
 replace K := Lib.hid (K.out.keep hb_)
 have z3_ := hb_.size
 clear hb_
 refine K.out.q5 fun pK_0 pK_1 pK_2 pK_3 pK_4 => ?_
 go_wp2_with fail
 clear pK_0 pK_1 pK_2 pK_3 pK_4
 go_ret
 exact ⟨rfl, B.out⟩
set_option maxRecDepth 100000 in
set_option maxHeartbeats 4000000 in
theorem rnode_m32 {w : World} {op n : Int} {u m : Bytes} {k d : Nat} {q : Option Addr} {r : Bool} (h1 : n = 0) (h2 : u = []) (h0 : op = 3) (hn : namedB m = true) (h4 : 1 ≤ k) (h5 : ¬ k ≤ 6) (hm : m.length ≤ 9223372036854775807) (hr : nodeB op n u m k = r) :
  Calls Tryz.prog 74 #[.agg #[.int .i64 op, .int .i64 n, .string ⟨u.toArray⟩, .string ⟨m.toArray⟩, .slice q k d]] w fun e w' => e = .returned (.bool r) ∧ Below w.heap.size w w' := by
 have h4i : (1 : Int) ≤ k := by omega
 have h5i : ¬ (k : Int) ≤ 6 := by omega
 obtain rfl : false = r := by rw [← hr]; unfold nodeB; simp [*]
 clear hr
 have B : Hid (Below w.heap.size w w) := be_refl w
 subst h1
 subst h2
 subst h0
 go_enter Tryz.func74, Tryz.ntmps74
 go_upto_region 1 with fail
 refine nmW (w.alloc (.cells #[.int .i64 3, .int .i64 0, .string ⟨#[]⟩, .string ⟨m.toArray⟩, .slice q k d] 24)) fun w1 hv => ?_
 rw [← hv]
 have K := bxh hv
 have hb_ := bah hv
 clear hv
 have z1_ := K.out.lt
 replace B := Lib.hid (be_call B.out hb_)
 have z2_ := hb_.size
 clear hb_
 refine K.out.q5 fun pK_0 pK_1 pK_2 pK_3 pK_4 => ?_
 go_wp2_with fail
 clear pK_0 pK_1 pK_2 pK_3 pK_4
 refine (rnamed_ok (b_ := true) _ (show m.toArray.size ≤ _ by simpa [maxLen] using hm) (by simpa using hn)).mono ?_
 rintro e w2 ⟨rfl, hb_⟩
 replace B := Lib.hid (be_call B.out hb_)
 replace K := Lib.hid (K.out.keep hb_)
 have z3_ := hb_.size
 clear hb_
 refine K.out.q5 fun pK_0 pK_1 pK_2 pK_3 pK_4 => ?_
 go_wp2_with fail
 clear pK_0 pK_1 pK_2 pK_3 pK_4
 rw [show decide ((k : Int) ≤ 6) = false by rw [decide_eq_false_iff_not]; omega]
 go_ret
 exact ⟨rfl, B.out⟩
set_option maxRecDepth 100000 in
set_option maxHeartbeats 4000000 in
theorem rnode_m33 {w : World} {op n : Int} {u m : Bytes} {k d : Nat} {q : Option Addr} {r : Bool} (h1 : n = 0) (h2 : u = []) (h0 : op = 3) (hn : namedB m = true) (h4 : 1 ≤ k) (h5 : k ≤ 6) (hm : m.length ≤ 9223372036854775807) (hr : nodeB op n u m k = r) :
  Calls Tryz.prog 74 #[.agg #[.int .i64 op, .int .i64 n, .string ⟨u.toArray⟩, .string ⟨m.toArray⟩, .slice q k d]] w fun e w' => e = .returned (.bool r) ∧ Below w.heap.size w w' := by
 have h4i : (1 : Int) ≤ k := by omega
 have h5i : (k : Int) ≤ 6 := by omega
 obtain rfl : true = r := by rw [← hr]; unfold nodeB; simp [*]
 clear hr
 have B : Hid (Below w.heap.size w w) := be_refl w
 subst h1
 subst h2
 subst h0
 go_enter Tryz.func74, Tryz.ntmps74
 go_upto_region 1 with fail
 refine nmW (w.alloc (.cells #[.int .i64 3, .int .i64 0, .string ⟨#[]⟩, .string ⟨m.toArray⟩, .slice q k d] 24)) fun w1 hv => ?_
 rw [← hv]
 have K := bxh hv
 have hb_ := bah hv
 clear hv
 have z1_ := K.out.lt
 replace B := Lib.hid (be_call B.out hb_)
 have z2_ := hb_.size
 clear hb_
 refine K.out.q5 fun pK_0 pK_1 pK_2 pK_3 pK_4 => ?_
 go_wp2_with fail
 clear pK_0 pK_1 pK_2 pK_3 pK_4
 refine (rnamed_ok (b_ := true) _ (show m.toArray.size ≤ _ by simpa [maxLen] using hm) (by simpa using hn)).mono ?_
 rintro e w2 ⟨rfl, hb_⟩
 replace B := Lib.hid (be_call B.out hb_)
 replace K := Lib.hid (K.out.keep hb_)
 have z3_ := hb_.size
 clear hb_
 refine K.out.q5 fun pK_0 pK_1 pK_2 pK_3 pK_4 => ?_
 go_wp2_with fail
 clear pK_0 pK_1 pK_2 pK_3 pK_4
 go_ret
 exact ⟨rfl, B.out⟩
set_option maxRecDepth 100000 in
set_option maxHeartbeats 4000000 in
theorem rnode_t1f {w : World} {op n : Int} {u m : Bytes} {k d : Nat} {q : Option Addr} {r : Bool} (h1 : n = 0) (h2 : u = []) (h0 : op = 1) (hn : namedB m = false) (hm : m.length ≤ 9223372036854775807) (hr : nodeB op n u m k = r) :
  Calls Tryz.prog 74 #[.agg #[.int .i64 op, .int .i64 n, .string ⟨u.toArray⟩, .string ⟨m.toArray⟩, .slice q k d]] w fun e w' => e = .returned (.bool r) ∧ Below w.heap.size w w' := by
 obtain rfl : (namedB m && ((k : Int) == arity op)) = r := by rw [← hr]; rw [h1, h2]; exact (node_two (by omega)).symm
 clear hr
 have B : Hid (Below w.heap.size w w) := be_refl w
 subst h1
 subst h2
 rw [hn]
 subst h0
 obtain ⟨y, hy⟩ : ∃ y, ((k : Int) == arity 1) = y := ⟨_, rfl⟩
 rw [hy]
 have hyk : ((k : Int) == 0) = y := hy
 clear hy
 go_enter Tryz.func74, Tryz.ntmps74
 go_upto_region 1 with fail
 refine nmW (w.alloc (.cells #[.int .i64 1, .int .i64 0, .string ⟨#[]⟩, .string ⟨m.toArray⟩, .slice q k d] 24)) fun w1 hv => ?_
 rw [← hv]
 have K := bxh hv
 have hb_ := bah hv
 clear hv
 have z1_ := K.out.lt
 replace B := Lib.hid (be_call B.out hb_)
 have z2_ := hb_.size
 clear hb_
 refine K.out.q5 fun pK_0 pK_1 pK_2 pK_3 pK_4 => ?_
 go_upto_region 9 with fail
 clear pK_0 pK_1 pK_2 pK_3 pK_4
 refine nmW w1.drew fun w2 hW => ?_
 have hb_ := bdh hW
 replace B := Lib.hid (be_call B.out hb_)
 replace K := Lib.hid (K.out.keep hb_)
 have z3_ := hb_.size
 clear hb_
 refine wp_region_held_drew (S := (fun w' => w'.cell? ⟨w.heap.size, 0, none⟩ = some (.int .i64 1) ∧ w'.cell? ⟨w.heap.size, 1, none⟩ = some (.int .i64 0) ∧ w'.cell? ⟨w.heap.size, 2, none⟩ = some (.string ⟨#[]⟩) ∧ w'.cell? ⟨w.heap.size, 3, none⟩ = some (.string ⟨m.toArray⟩) ∧ w'.cell? ⟨w.heap.size, 4, none⟩ = some (.slice q k d))) (by kernel_rfl) (by rw [← hW]; exact K.out.d5) (fun hH => ?_)
 rw [← hW] at hH ⊢
 clear hW
 refine tk at0 ?_
 refine tk at1 ?_
 refine wpAnyH_ready (rs := [2]) (by kernel_rfl) (by simp) ?_
 refine AllReadyH.cons at2 (fun K_ hK => ?_) AllReadyH.nil
 go_simp
 refine (rnamed_ok (b_ := false) _ (show m.toArray.size ≤ _ by simpa [maxLen] using hm) (by simpa using hn)).mono ?_
 rintro e w3 ⟨rfl, hb_⟩
 replace B := Lib.hid (be_call B.out hb_)
 replace K := Lib.hid (K.out.keep hb_)
 have z4_ := hb_.size
 clear hb_
 (try go_wp2_with fail)
 refine hK.out _ _ (K.out.d5) (fun hH2 => ?_)
 clear hK K_ hH
 have hH := hH2; clear hH2
 (try simp only [Act.put, kS, kZ, kC])
 refine tk at3 ?_
 refine tu at4 ?_
 refine tu at5 ?_
 refine tu at6 ?_
 refine tu at7 ?_
 refine tu at8 ?_
 refine wpAnyH_ready (rs := [9]) (by kernel_rfl) (by simp) ?_
 refine AllReadyH.cons at9 (fun K_ hK => ?_) AllReadyH.nil
 rw [if_neg]; rotate_left
 focus (intro h; exact Bool.noConfusion h)
 refine hK.out _ _ hH (fun hH2 => ?_)
 clear hK K_ hH
 have hH := hH2; clear hH2
 (try simp only [Act.put, kS, kZ, kC])
 refine tu at10 ?_
 refine tk at11 ?_
 refine tk at12 ?_
 refine wpAnyH_done (by kernel_rfl) ?_ _
 clear hH
 go_wp2_with fail
 go_ret
 exact ⟨rfl, B.out⟩
set_option maxRecDepth 100000 in
set_option maxHeartbeats 4000000 in
theorem rnode_t1t {w : World} {op n : Int} {u m : Bytes} {k d : Nat} {q : Option Addr} {r : Bool} (h1 : n = 0) (h2 : u = []) (h0 : op = 1) (hn : namedB m = true) (hm : m.length ≤ 9223372036854775807) (hr : nodeB op n u m k = r) :
  Calls Tryz.prog 74 #[.agg #[.int .i64 op, .int .i64 n, .string ⟨u.toArray⟩, .string ⟨m.toArray⟩, .slice q k d]] w fun e w' => e = .returned (.bool r) ∧ Below w.heap.size w w' := by
 obtain rfl : (namedB m && ((k : Int) == arity op)) = r := by rw [← hr]; rw [h1, h2]; exact (node_two (by omega)).symm
 clear hr
 have B : Hid (Below w.heap.size w w) := be_refl w
 subst h1
 subst h2
 rw [hn]
 subst h0
 obtain ⟨y, hy⟩ : ∃ y, ((k : Int) == arity 1) = y := ⟨_, rfl⟩
 rw [hy]
 have hyk : ((k : Int) == 0) = y := hy
 clear hy
 go_enter Tryz.func74, Tryz.ntmps74
 go_upto_region 1 with fail
 refine nmW (w.alloc (.cells #[.int .i64 1, .int .i64 0, .string ⟨#[]⟩, .string ⟨m.toArray⟩, .slice q k d] 24)) fun w1 hv => ?_
 rw [← hv]
 have K := bxh hv
 have hb_ := bah hv
 clear hv
 have z1_ := K.out.lt
 replace B := Lib.hid (be_call B.out hb_)
 have z2_ := hb_.size
 clear hb_
 refine K.out.q5 fun pK_0 pK_1 pK_2 pK_3 pK_4 => ?_
 go_upto_region 9 with fail
 clear pK_0 pK_1 pK_2 pK_3 pK_4
 refine nmW w1.drew fun w2 hW => ?_
 have hb_ := bdh hW
 replace B := Lib.hid (be_call B.out hb_)
 replace K := Lib.hid (K.out.keep hb_)
 have z3_ := hb_.size
 clear hb_
 refine wp_region_held_drew (S := (fun w' => w'.cell? ⟨w.heap.size, 0, none⟩ = some (.int .i64 1) ∧ w'.cell? ⟨w.heap.size, 1, none⟩ = some (.int .i64 0) ∧ w'.cell? ⟨w.heap.size, 2, none⟩ = some (.string ⟨#[]⟩) ∧ w'.cell? ⟨w.heap.size, 3, none⟩ = some (.string ⟨m.toArray⟩) ∧ w'.cell? ⟨w.heap.size, 4, none⟩ = some (.slice q k d))) (by kernel_rfl) (by rw [← hW]; exact K.out.d5) (fun hH => ?_)
 rw [← hW] at hH ⊢
 clear hW
 refine tk at0 ?_
 refine tk at1 ?_
 refine wpAnyH_ready (rs := [2]) (by kernel_rfl) (by simp) ?_
 refine AllReadyH.cons at2 (fun K_ hK => ?_) AllReadyH.nil
 go_simp
 refine (rnamed_ok (b_ := true) _ (show m.toArray.size ≤ _ by simpa [maxLen] using hm) (by simpa using hn)).mono ?_
 rintro e w3 ⟨rfl, hb_⟩
 replace B := Lib.hid (be_call B.out hb_)
 replace K := Lib.hid (K.out.keep hb_)
 have z4_ := hb_.size
 clear hb_
 (try go_wp2_with fail)
 refine hK.out _ _ (K.out.d5) (fun hH2 => ?_)
 clear hK K_ hH
 have hH := hH2; clear hH2
 (try simp only [Act.put, kS, kZ, kC])
 refine tk at3 ?_
 refine tk at4 ?_
 refine tk at5 ?_
 refine tk at6 ?_
 refine tk at7 ?_
 refine tk at8 ?_
 refine wpAnyH_ready (rs := [9]) (by kernel_rfl) (by simp) ?_
 refine AllReadyH.cons at9 (fun K_ hK => ?_) AllReadyH.nil
 go_simp
 refine (rArity_ok 1 (r := 0) rfl).mono ?_
 rintro e w3 ⟨rfl, rfl⟩
 (try go_wp2_with fail)
 refine hK.out _ _ (K.out.d5) (fun hH2 => ?_)
 clear hK K_ hH
 have hH := hH2; clear hH2
 (try simp only [Act.put, kS, kZ, kC])
 refine tk at10 ?_
 refine tk at11 ?_
 refine tk at12 ?_
 refine wpAnyH_done (by kernel_rfl) ?_ _
 clear hH
 go_wp2_with fail
 go_ret
 exact ⟨rfl, B.out⟩
set_option maxRecDepth 100000 in
set_option maxHeartbeats 4000000 in
theorem rnode_t2f {w : World} {op n : Int} {u m : Bytes} {k d : Nat} {q : Option Addr} {r : Bool} (h1 : n = 0) (h2 : u = []) (h0 : op = 2) (hn : namedB m = false) (hm : m.length ≤ 9223372036854775807) (hr : nodeB op n u m k = r) :
  Calls Tryz.prog 74 #[.agg #[.int .i64 op, .int .i64 n, .string ⟨u.toArray⟩, .string ⟨m.toArray⟩, .slice q k d]] w fun e w' => e = .returned (.bool r) ∧ Below w.heap.size w w' := by
 obtain rfl : (namedB m && ((k : Int) == arity op)) = r := by rw [← hr]; rw [h1, h2]; exact (node_two (by omega)).symm
 clear hr
 have B : Hid (Below w.heap.size w w) := be_refl w
 subst h1
 subst h2
 rw [hn]
 subst h0
 obtain ⟨y, hy⟩ : ∃ y, ((k : Int) == arity 2) = y := ⟨_, rfl⟩
 rw [hy]
 have hyk : ((k : Int) == 1) = y := hy
 clear hy
 go_enter Tryz.func74, Tryz.ntmps74
 go_upto_region 1 with fail
 refine nmW (w.alloc (.cells #[.int .i64 2, .int .i64 0, .string ⟨#[]⟩, .string ⟨m.toArray⟩, .slice q k d] 24)) fun w1 hv => ?_
 rw [← hv]
 have K := bxh hv
 have hb_ := bah hv
 clear hv
 have z1_ := K.out.lt
 replace B := Lib.hid (be_call B.out hb_)
 have z2_ := hb_.size
 clear hb_
 refine K.out.q5 fun pK_0 pK_1 pK_2 pK_3 pK_4 => ?_
 go_upto_region 9 with fail
 clear pK_0 pK_1 pK_2 pK_3 pK_4
 refine nmW w1.drew fun w2 hW => ?_
 have hb_ := bdh hW
 replace B := Lib.hid (be_call B.out hb_)
 replace K := Lib.hid (K.out.keep hb_)
 have z3_ := hb_.size
 clear hb_
 refine wp_region_held_drew (S := (fun w' => w'.cell? ⟨w.heap.size, 0, none⟩ = some (.int .i64 2) ∧ w'.cell? ⟨w.heap.size, 1, none⟩ = some (.int .i64 0) ∧ w'.cell? ⟨w.heap.size, 2, none⟩ = some (.string ⟨#[]⟩) ∧ w'.cell? ⟨w.heap.size, 3, none⟩ = some (.string ⟨m.toArray⟩) ∧ w'.cell? ⟨w.heap.size, 4, none⟩ = some (.slice q k d))) (by kernel_rfl) (by rw [← hW]; exact K.out.d5) (fun hH => ?_)
 rw [← hW] at hH ⊢
 clear hW
 refine tk at0 ?_
 refine tk at1 ?_
 refine wpAnyH_ready (rs := [2]) (by kernel_rfl) (by simp) ?_
 refine AllReadyH.cons at2 (fun K_ hK => ?_) AllReadyH.nil
 go_simp
 refine (rnamed_ok (b_ := false) _ (show m.toArray.size ≤ _ by simpa [maxLen] using hm) (by simpa using hn)).mono ?_
 rintro e w3 ⟨rfl, hb_⟩
 replace B := Lib.hid (be_call B.out hb_)
 replace K := Lib.hid (K.out.keep hb_)
 have z4_ := hb_.size
 clear hb_
 (try go_wp2_with fail)
 refine hK.out _ _ (K.out.d5) (fun hH2 => ?_)
 clear hK K_ hH
 have hH := hH2; clear hH2
 (try simp only [Act.put, kS, kZ, kC])
 refine tk at3 ?_
 refine tu at4 ?_
 refine tu at5 ?_
 refine tu at6 ?_
 refine tu at7 ?_
 refine tu at8 ?_
 refine wpAnyH_ready (rs := [9]) (by kernel_rfl) (by simp) ?_
 refine AllReadyH.cons at9 (fun K_ hK => ?_) AllReadyH.nil
 rw [if_neg]; rotate_left
 focus (intro h; exact Bool.noConfusion h)
 refine hK.out _ _ hH (fun hH2 => ?_)
 clear hK K_ hH
 have hH := hH2; clear hH2
 (try simp only [Act.put, kS, kZ, kC])
 refine tu at10 ?_
 refine tk at11 ?_
 refine tk at12 ?_
 refine wpAnyH_done (by kernel_rfl) ?_ _
 clear hH
 go_wp2_with fail
 go_ret
 exact ⟨rfl, B.out⟩
set_option maxRecDepth 100000 in
set_option maxHeartbeats 4000000 in
theorem rnode_t2t {w : World} {op n : Int} {u m : Bytes} {k d : Nat} {q : Option Addr} {r : Bool} (h1 : n = 0) (h2 : u = []) (h0 : op = 2) (hn : namedB m = true) (hm : m.length ≤ 9223372036854775807) (hr : nodeB op n u m k = r) :
  Calls Tryz.prog 74 #[.agg #[.int .i64 op, .int .i64 n, .string ⟨u.toArray⟩, .string ⟨m.toArray⟩, .slice q k d]] w fun e w' => e = .returned (.bool r) ∧ Below w.heap.size w w' := by
 obtain rfl : (namedB m && ((k : Int) == arity op)) = r := by rw [← hr]; rw [h1, h2]; exact (node_two (by omega)).symm
 clear hr
 have B : Hid (Below w.heap.size w w) := be_refl w
 subst h1
 subst h2
 rw [hn]
 subst h0
 obtain ⟨y, hy⟩ : ∃ y, ((k : Int) == arity 2) = y := ⟨_, rfl⟩
 rw [hy]
 have hyk : ((k : Int) == 1) = y := hy
 clear hy
 go_enter Tryz.func74, Tryz.ntmps74
 go_upto_region 1 with fail
 refine nmW (w.alloc (.cells #[.int .i64 2, .int .i64 0, .string ⟨#[]⟩, .string ⟨m.toArray⟩, .slice q k d] 24)) fun w1 hv => ?_
 rw [← hv]
 have K := bxh hv
 have hb_ := bah hv
 clear hv
 have z1_ := K.out.lt
 replace B := Lib.hid (be_call B.out hb_)
 have z2_ := hb_.size
 clear hb_
 refine K.out.q5 fun pK_0 pK_1 pK_2 pK_3 pK_4 => ?_
 go_upto_region 9 with fail
 clear pK_0 pK_1 pK_2 pK_3 pK_4
 refine nmW w1.drew fun w2 hW => ?_
 have hb_ := bdh hW
 replace B := Lib.hid (be_call B.out hb_)
 replace K := Lib.hid (K.out.keep hb_)
 have z3_ := hb_.size
 clear hb_
 refine wp_region_held_drew (S := (fun w' => w'.cell? ⟨w.heap.size, 0, none⟩ = some (.int .i64 2) ∧ w'.cell? ⟨w.heap.size, 1, none⟩ = some (.int .i64 0) ∧ w'.cell? ⟨w.heap.size, 2, none⟩ = some (.string ⟨#[]⟩) ∧ w'.cell? ⟨w.heap.size, 3, none⟩ = some (.string ⟨m.toArray⟩) ∧ w'.cell? ⟨w.heap.size, 4, none⟩ = some (.slice q k d))) (by kernel_rfl) (by rw [← hW]; exact K.out.d5) (fun hH => ?_)
 rw [← hW] at hH ⊢
 clear hW
 refine tk at0 ?_
 refine tk at1 ?_
 refine wpAnyH_ready (rs := [2]) (by kernel_rfl) (by simp) ?_
 refine AllReadyH.cons at2 (fun K_ hK => ?_) AllReadyH.nil
 go_simp
 refine (rnamed_ok (b_ := true) _ (show m.toArray.size ≤ _ by simpa [maxLen] using hm) (by simpa using hn)).mono ?_
 rintro e w3 ⟨rfl, hb_⟩
 replace B := Lib.hid (be_call B.out hb_)
 replace K := Lib.hid (K.out.keep hb_)
 have z4_ := hb_.size
 clear hb_
 (try go_wp2_with fail)
 refine hK.out _ _ (K.out.d5) (fun hH2 => ?_)
 clear hK K_ hH
 have hH := hH2; clear hH2
 (try simp only [Act.put, kS, kZ, kC])
 refine tk at3 ?_
 refine tk at4 ?_
 refine tk at5 ?_
 refine tk at6 ?_
 refine tk at7 ?_
 refine tk at8 ?_
 refine wpAnyH_ready (rs := [9]) (by kernel_rfl) (by simp) ?_
 refine AllReadyH.cons at9 (fun K_ hK => ?_) AllReadyH.nil
 go_simp
 refine (rArity_ok 2 (r := 1) rfl).mono ?_
 rintro e w3 ⟨rfl, rfl⟩
 (try go_wp2_with fail)
 refine hK.out _ _ (K.out.d5) (fun hH2 => ?_)
 clear hK K_ hH
 have hH := hH2; clear hH2
 (try simp only [Act.put, kS, kZ, kC])
 refine tk at10 ?_
 refine tk at11 ?_
 refine tk at12 ?_
 refine wpAnyH_done (by kernel_rfl) ?_ _
 clear hH
 go_wp2_with fail
 go_ret
 exact ⟨rfl, B.out⟩
set_option maxRecDepth 100000 in
set_option maxHeartbeats 4000000 in
theorem rnode_ra {w : World} {op n : Int} {u m : Bytes} {k d : Nat} {q : Option Addr} {r : Bool} (h1 : n = 0) (h2 : u = []) (g0 : ¬ op = 0) (g1 : ¬ op = 1) (g2 : ¬ op = 2) (g3 : ¬ op = 3) (h3 : m.isEmpty = false) (hr : nodeB op n u m k = r) :
  Calls Tryz.prog 74 #[.agg #[.int .i64 op, .int .i64 n, .string ⟨u.toArray⟩, .string ⟨m.toArray⟩, .slice q k d]] w fun e w' => e = .returned (.bool r) ∧ Below w.heap.size w w' := by
 obtain rfl : (m.isEmpty && decide (0 < k) && ((k : Int) == arity op)) = r := by rw [← hr]; rw [h1, h2]; exact (node_rest g0 g1 g2 g3).symm
 clear hr
 have B : Hid (Below w.heap.size w w) := be_refl w
 subst h1
 subst h2
 rw [h3]
 have f0 : (op == 0) = false := beq_eq_false_iff_ne.2 g0
 have f1 : (op == 1) = false := beq_eq_false_iff_ne.2 g1
 have f2 : (op == 2) = false := beq_eq_false_iff_ne.2 g2
 have f3 : (op == 3) = false := beq_eq_false_iff_ne.2 g3
 clear g0 g1 g2 g3
 have h3j : (m == []) = false := by cases m with | nil => cases h3 | cons a l => rfl
 go_enter Tryz.func74, Tryz.ntmps74
 go_upto_region 1 with fail
 refine nmW (w.alloc (.cells #[.int .i64 op, .int .i64 0, .string ⟨#[]⟩, .string ⟨m.toArray⟩, .slice q k d] 24)) fun w1 hv => ?_
 rw [← hv]
 have K := bxh hv
 have hb_ := bah hv
 clear hv
 have z1_ := K.out.lt
 replace B := Lib.hid (be_call B.out hb_)
 have z2_ := hb_.size
 clear hb_
 refine K.out.q5 fun pK_0 pK_1 pK_2 pK_3 pK_4 => ?_
 go_upto_region 10 with fail
 go_quiet (fail)
 go_wp2_with fail
 go_ret
 exact ⟨rfl, below_drewN B.out _⟩
set_option maxRecDepth 100000 in
set_option maxHeartbeats 4000000 in
theorem rnode_rb {w : World} {op n : Int} {u m : Bytes} {k d : Nat} {q : Option Addr} {r : Bool} (h1 : n = 0) (h2 : u = []) (g0 : ¬ op = 0) (g1 : ¬ op = 1) (g2 : ¬ op = 2) (g3 : ¬ op = 3) (h3 : m.isEmpty = true) (h4 : k = 0) (hr : nodeB op n u m k = r) :
  Calls Tryz.prog 74 #[.agg #[.int .i64 op, .int .i64 n, .string ⟨u.toArray⟩, .string ⟨m.toArray⟩, .slice q k d]] w fun e w' => e = .returned (.bool r) ∧ Below w.heap.size w w' := by
 obtain rfl : (m.isEmpty && decide (0 < k) && ((k : Int) == arity op)) = r := by rw [← hr]; rw [h1, h2]; exact (node_rest g0 g1 g2 g3).symm
 clear hr
 have B : Hid (Below w.heap.size w w) := be_refl w
 subst h1
 subst h2
 rw [h3]
 have f0 : (op == 0) = false := beq_eq_false_iff_ne.2 g0
 have f1 : (op == 1) = false := beq_eq_false_iff_ne.2 g1
 have f2 : (op == 2) = false := beq_eq_false_iff_ne.2 g2
 have f3 : (op == 3) = false := beq_eq_false_iff_ne.2 g3
 clear g0 g1 g2 g3
 have h3j : (m == []) = true := by cases m with | nil => rfl | cons a l => cases h3
 have h4i : ¬ (0 : Int) < (k : Int) := by omega
 have h4n : ¬ 0 < k := by omega
 rw [show decide (0 < k) = false from decide_eq_false h4n]
 clear h4
 go_enter Tryz.func74, Tryz.ntmps74
 go_upto_region 1 with fail
 refine nmW (w.alloc (.cells #[.int .i64 op, .int .i64 0, .string ⟨#[]⟩, .string ⟨m.toArray⟩, .slice q k d] 24)) fun w1 hv => ?_
 rw [← hv]
 have K := bxh hv
 have hb_ := bah hv
 clear hv
 have z1_ := K.out.lt
 replace B := Lib.hid (be_call B.out hb_)
 have z2_ := hb_.size
 clear hb_
 --b
 refine K.out.q5 fun pK_0 pK_1 pK_2 pK_3 pK_4 => ?_
 go_upto_region 10 with fail
 go_quiet (fail)
 go_wp2_with fail
 go_ret
 exact ⟨rfl, below_drewN B.out _⟩
set_option maxRecDepth 100000 in
set_option maxHeartbeats 4000000 in
theorem rnode_rc {w : World} {op n : Int} {u m : Bytes} {k d : Nat} {q : Option Addr} {r : Bool} (h1 : n = 0) (h2 : u = []) (g0 : ¬ op = 0) (g1 : ¬ op = 1) (g2 : ¬ op = 2) (g3 : ¬ op = 3) (h3 : m.isEmpty = true) (h4 : 0 < k) (hr : nodeB op n u m k = r) :
  Calls Tryz.prog 74 #[.agg #[.int .i64 op, .int .i64 n, .string ⟨u.toArray⟩, .string ⟨m.toArray⟩, .slice q k d]] w fun e w' => e = .returned (.bool r) ∧ Below w.heap.size w w' := by
 obtain rfl : (m.isEmpty && decide (0 < k) && ((k : Int) == arity op)) = r := by rw [← hr]; rw [h1, h2]; exact (node_rest g0 g1 g2 g3).symm
 clear hr
 have B : Hid (Below w.heap.size w w) := be_refl w
 subst h1
 subst h2
 rw [h3]
 have f0 : (op == 0) = false := beq_eq_false_iff_ne.2 g0
 have f1 : (op == 1) = false := beq_eq_false_iff_ne.2 g1
 have f2 : (op == 2) = false := beq_eq_false_iff_ne.2 g2
 have f3 : (op == 3) = false := beq_eq_false_iff_ne.2 g3
 clear g0 g1 g2 g3
 have h3j : (m == []) = true := by cases m with | nil => rfl | cons a l => cases h3
 have h4i : (0 : Int) < (k : Int) := by omega
 rw [show decide (0 < k) = true from decide_eq_true h4]
 obtain ⟨ar, har⟩ : ∃ ar, arity op = ar := ⟨_, rfl⟩
 rw [har]
 have HAR := Lib.hid har; clear har
 obtain ⟨y, hy⟩ : ∃ y, ((k : Int) == ar) = y := ⟨_, rfl⟩
 rw [hy]
 go_enter Tryz.func74, Tryz.ntmps74
 go_upto_region 1 with fail
 refine nmW (w.alloc (.cells #[.int .i64 op, .int .i64 0, .string ⟨#[]⟩, .string ⟨m.toArray⟩, .slice q k d] 24)) fun w1 hv => ?_
 rw [← hv]
 have K := bxh hv
 have hb_ := bah hv
 clear hv
 have z1_ := K.out.lt
 replace B := Lib.hid (be_call B.out hb_)
 have z2_ := hb_.size
 clear hb_
 refine K.out.q5 fun pK_0 pK_1 pK_2 pK_3 pK_4 => ?_
 go_upto_region 10 with fail
 clear pK_0 pK_1 pK_2 pK_3 pK_4
 refine nmW w1.drew fun w2 hW => ?_
 have hb_ := bdh hW
 replace B := Lib.hid (be_call B.out hb_)
 replace K := Lib.hid (K.out.keep hb_)
 have z3_ := hb_.size
 clear hb_
 refine wp_region_held_drew (S := (fun w' => w'.cell? ⟨w.heap.size, 0, none⟩ = some (.int .i64 op) ∧ w'.cell? ⟨w.heap.size, 1, none⟩ = some (.int .i64 0) ∧ w'.cell? ⟨w.heap.size, 2, none⟩ = some (.string ⟨#[]⟩) ∧ w'.cell? ⟨w.heap.size, 3, none⟩ = some (.string ⟨m.toArray⟩) ∧ w'.cell? ⟨w.heap.size, 4, none⟩ = some (.slice q k d))) (by kernel_rfl) (by rw [← hW]; exact K.out.d5) (fun hH => ?_)
 rw [← hW] at hH ⊢
 clear hW
 refine tk at0 ?_
 refine tk at1 ?_
 refine tk at2 (v := .bool true) ?_
 refine tk at3 ?_
 refine tk at4 ?_
 refine tk at5 ?_
 refine tk at6 ?_
 refine tk at7 (v := .bool true) ?_
 refine tk at8 ?_
 refine tk at9 ?_
 refine tk at10 ?_
 refine tk at11 ?_
 refine tk at12 ?_
 refine tk at13 ?_
 refine tk at14 ?_
 refine wpAnyH_ready (rs := [15]) (by kernel_rfl) (by simp) ?_
 refine AllReadyH.cons at15 (fun K_ hK => ?_) AllReadyH.nil
 go_simp
 refine (rArity_ok op HAR.out).mono ?_
 rintro e w2 ⟨rfl, rfl⟩
 (try go_wp2_with fail)
 refine hK.out _ _ (K.out.d5) (fun hH2 => ?_)
 clear hK K_ hH
 have hH := hH2; clear hH2
 (try simp only [Act.put, kS, kZ, kC])
 refine tk at16 (v := .bool y) ?_
 refine tk at17 ?_
 refine tk at18 ?_
 refine wpAnyH_done (by kernel_rfl) ?_ _
 clear hH
 go_wp2_with fail
 go_ret
 exact ⟨rfl, B.out⟩
theorem rnode_ok {w : World} {op n : Int} {u m : Bytes} {k d : Nat} {q : Option Addr} (hu : u.length ≤ 9223372036854775807) (hm : m.length ≤ 9223372036854775807) :
    Calls Tryz.prog 74 #[.agg #[.int .i64 op, .int .i64 n, .string ⟨u.toArray⟩, .string ⟨m.toArray⟩, .slice q k d]] w fun e w' => e = .returned (.bool (nodeB op n u m k)) ∧ Below w.heap.size w w' := by
  by_cases h0 : op = 0
  · cases hq : quoteOk u with
    | false => exact rnode_q0 hu h0 hq rfl
    | true =>
      by_cases h1 : 0 ≤ n
      · by_cases h2 : n ≤ 1099511627776
        · cases h3 : m.isEmpty with
          | false => exact rnode_q3 hu h0 hq h1 h2 h3 rfl
          | true => cases h4 : k == 0 with
            | false => exact rnode_q4 hu h0 hq h1 h2 h3 h4 rfl
            | true => exact rnode_q5 hu h0 hq h1 h2 h3 h4 rfl
        · exact rnode_q2 hu h0 hq h1 h2 rfl
      · exact rnode_q1 hu h0 hq h1 rfl
  by_cases h1 : n = 0
  case neg => exact rnode_n h0 h1 rfl
  by_cases h2 : u = []
  case neg => exact rnode_u h0 h1 h2 rfl
  by_cases g1 : op = 1
  · cases hn : namedB m with
    | false => exact rnode_t1f h1 h2 g1 hn hm rfl
    | true => exact rnode_t1t h1 h2 g1 hn hm rfl
  by_cases g2 : op = 2
  · cases hn : namedB m with
    | false => exact rnode_t2f h1 h2 g2 hn hm rfl
    | true => exact rnode_t2t h1 h2 g2 hn hm rfl
  by_cases g3 : op = 3
  · cases hn : namedB m with
    | false => exact rnode_m30 h1 h2 g3 hn hm rfl
    | true =>
      by_cases h4 : 1 ≤ k
      · by_cases h5 : k ≤ 6
        · exact rnode_m33 h1 h2 g3 hn h4 h5 hm rfl
        · exact rnode_m32 h1 h2 g3 hn h4 h5 hm rfl
      · exact rnode_m31 h1 h2 g3 hn h4 hm rfl
  cases h3 : m.isEmpty with
  | false => exact rnode_ra h1 h2 h0 g1 g2 g3 h3 rfl
  | true =>
    by_cases h4 : k = 0
    · exact rnode_rb h1 h2 h0 g1 g2 g3 h3 h4 rfl
    · exact rnode_rc h1 h2 h0 g1 g2 g3 h3 (by omega) rfl
end Go.Proofs.YtckgmilmhofekaaGreatDoor
namespace Go.Proofs.YtckgmilmhofekaaGreatDoor
open Go.RowKit

def RShOK (a : Fo) : Prop := ∀ (D : Nat → Prop) (w : World) (op n : Int) (u m : Bytes) (q : Option Addr) (d : Nat), u.length ≤ 9223372036854775807 → m.length ≤ 9223372036854775807 → smF a → a.len ≤ 9223372036854775807 → FoS D w q d a →
 Calls Tryz.prog 38 #[.agg (hdC ⟨op, n, u, m, a⟩ q d).toArray] w fun e w' => e = .returned (.bool (nodeB op n u m a.len && shF a)) ∧ Below w.heap.size w w'
set_option maxRecDepth 100000 in
set_option maxHeartbeats 4000000 in
theorem rshaped_step {a : Fo} (hi : ∀ x ∈ a.list, RShOK x.args) {D : Nat → Prop} {w : World} {op n : Int} {u m : Bytes} {q : Option Addr} {d : Nat} (hu : u.length ≤ 9223372036854775807) (hm : m.length ≤ 9223372036854775807) (hsm : smF a) (hal : a.len ≤ 9223372036854775807) (hS : FoS D w q d a) :
    Calls Tryz.prog 38 #[.agg (hdC ⟨op, n, u, m, a⟩ q d).toArray] w fun e w' => e = .returned (.bool (nodeB op n u m a.len && shF a)) ∧ Below w.heap.size w w' := by
  have S := Lib.hid hS; have HI := Lib.hid hi; have SM := Lib.hid hsm; have HU := Lib.hid hu; have HM := Lib.hid hm
  have G : Hid (Below w.heap.size w w) := be_refl w
  clear hS hi hsm hu hm
  obtain ⟨nb, hnb⟩ : ∃ nb, nodeB op n u m a.len = nb := ⟨_, rfl⟩
  rw [hnb]
  have HNB := Lib.hid hnb; clear hnb
  unfold hdC
  go_enter Tryz.func38, Tryz.ntmps38
  go_upto_region 1 with fail
  refine nmW (w.alloc (.cells #[.int .i64 op, .int .i64 n, .string ⟨u.toArray⟩, .string ⟨m.toArray⟩, .slice q a.len d] 24)) fun w1 hv => ?_
  rw [← hv]
  have K := bxh hv
  have hb_ := bah hv
  clear hv
  replace S := Lib.hid (S.out.keep hb_)
  replace G := Lib.hid (be_call G.out hb_)
  clear hb_
  have HC := Lib.hid (rnode_ok (w := w1) (op := op) (n := n) (u := u) (m := m) (k := a.len) (d := d) (q := q) HU.out HM.out)
  rw [HNB.out] at HC
  refine K.out.q5 fun p0 p1 p2 p3 p4 => ?_
  go_wp2_with fail
  clear p0 p1 p2 p3 p4
  refine HC.out.mono ?_
  rintro e w2 ⟨rfl, hb⟩
  replace K := Lib.hid (K.out.keep hb)
  replace S := Lib.hid (S.out.keep hb)
  replace G := Lib.hid (be_call G.out hb)
  clear hb HC
  cases nb with
  | false =>
    go_wp2_with fail
    go_ret
    exact ⟨rfl, G.out⟩
  | true =>
    go_wp2_with fail
    have hR0 : Hid (shF a = shF (Fo.of (a.list.drop 0))) := by show _ = _; rw [List.drop_zero, Fo.of_list]
    go_loopw [3] (fun i wr => ∃ j : Nat, i = .int .i64 (j : Int) ∧ j ≤ a.len ∧ Hid (shF a = shF (Fo.of (a.list.drop j))) ∧ Hid (Bx wr w.heap.size 24 #[.int .i64 op, .int .i64 n, .string ⟨u.toArray⟩, .string ⟨m.toArray⟩, .slice q a.len d]) ∧ Hid (FoS D wr q d a) ∧ Hid (Below w.heap.size w wr)) (fun i _ => a.len - (intOf i).toNat)
    case atStart => exact ⟨0, rfl, Nat.zero_le _, hR0, K, S, G⟩
    case round =>
      clear K S G
      obtain ⟨j, rfl, hj, HR, K, S, G⟩ := hrel
      clear hR0
      have p4 := K.out.at.1 4
      by_cases hlt : j < a.len
      · obtain ⟨x, hx⟩ : ∃ x, a.list[j]? = some x := ⟨_, List.getElem?_eq_getElem (by rw [Fo.len_list]; exact hlt)⟩
        obtain ⟨bb, o, q2, d2, rfl, hb, hcell, hs⟩ := S.out.at hx
        have HX := Lib.hid hx; have HS2 := Lib.hid hs; clear hx hs
        have c0 : wr.cell? ⟨bb, o + j * 5, none⟩ = some (.int .i64 x.op) := by have := hcell 0 _ rfl; rw [Nat.mul_comm] at this; exact this
        have c1 : wr.cell? ⟨bb, o + j * 5 + 1, none⟩ = some (.int .i64 x.n) := by have := hcell 1 _ rfl; rw [Nat.mul_comm] at this; exact this
        have c2 : wr.cell? ⟨bb, o + j * 5 + 2, none⟩ = some (.string ⟨x.unit.toArray⟩) := by have := hcell 2 _ rfl; rw [Nat.mul_comm] at this; exact this
        have c3 : wr.cell? ⟨bb, o + j * 5 + 3, none⟩ = some (.string ⟨x.name.toArray⟩) := by have := hcell 3 _ rfl; rw [Nat.mul_comm] at this; exact this
        have c4 : wr.cell? ⟨bb, o + j * 5 + 4, none⟩ = some (.slice q2 x.args.len d2) := by have := hcell 4 _ rfl; rw [Nat.mul_comm] at this; exact this
        clear hcell
        have hjl : (j : Int) < (a.len : Int) := by omega
        have HLT := Lib.hid hlt
        have hsx := SM.out.mem (List.mem_of_getElem? HX.out)
        have HC := Lib.hid (HI.out x (List.mem_of_getElem? HX.out) D wr x.op x.n x.unit x.name q2 d2 hsx.1 hsx.2.1 hsx.2.2.2 hsx.2.2.1 HS2.out)
        obtain ⟨nb, hnb⟩ : ∃ nb, (nodeB x.op x.n x.unit x.name x.args.len && shF x.args) = nb := ⟨_, rfl⟩
        have HRN : Hid (shF a = (nb && shF (Fo.of (a.list.drop (j + 1))))) := by
          show _ = _; rw [HR.out, drop_list HX.out, ← hnb]; rfl
        rw [hnb] at HC
        clear hnb hsx
        unfold hdC at HC
        go_wp2_with fail
        clear c0 c1 c2 c3 c4 p4
        refine HC.out.mono ?_
        rintro e w4 ⟨rfl, b2⟩
        replace K := Lib.hid (K.out.keep b2)
        replace S := Lib.hid (S.out.keep b2)
        replace G := Lib.hid (be_call G.out b2)
        clear b2 HS2 HC
        cases nb with
        | false =>
          go_wp2_with fail
          go_ret
          exact ⟨by rw [HRN.out]; rfl, G.out⟩
        | true =>
          have HRN2 : Hid (shF a = shF (Fo.of (a.list.drop (j + 1)))) := by show _ = _; rw [HRN.out, Bool.true_and]
          go_wp2_with fail
          go_roundw
          case rel => exact ⟨j + 1, by go_num, HLT.out, HRN2, K, S, G⟩
          case measure => have := HLT.out; simp [intOf]; omega
      · have hje : j = a.len := by omega
        have hjl : ¬ (j : Int) < (a.len : Int) := by omega
        have HN2 : Hid (shF a = true) := by show _ = _; rw [HR.out, hje, ← Fo.len_list, List.drop_length]; rfl
        go_wp2_with fail
        go_ret
        exact ⟨by rw [HN2.out]; rfl, G.out⟩
theorem rshaped_all (a : Fo) : RShOK a := Fo.ind (fun _ hi _ _ _ _ _ _ _ _ hu hm hsm hal hS => rshaped_step hi hu hm hsm hal hS) a
theorem right_few_sh (x : Ex) : rightX x = ((szF (x.then .nil) 200 20).isSome && shF (x.then .nil)) := by
 have h1 := rightX_iff x
 have h2 := fewX_iff x 200 20
 cases hr : rightX x with
 | true =>
  have := h1.1 hr
  rw [h2.2 this.1, this.2]; rfl
 | false =>
  cases hf : (szF (x.then .nil) 200 20).isSome with
  | false => rfl
  | true =>
   cases hs : shF (x.then .nil) with
   | false => rfl
   | true => have := h1.2 ⟨h2.1 hf, hs⟩; rw [hr] at this; cases this
set_option maxRecDepth 100000 in
set_option maxHeartbeats 4000000 in
theorem rRight_ok {x : Ex} {D : Nat → Prop} {w : World} {q : Option Addr} {d : Nat} (hsm : smX x) (hS : FoS D w q d x.args) {r : Bool} (hr : rightX x = r) :
  Calls Tryz.prog 18 #[.agg (hdC x q d).toArray] w fun e w' => e = .returned (.bool r) ∧ Below w.heap.size w w' := by
 have S := Lib.hid hS; have SM := Lib.hid hsm
 have G : Hid (Below w.heap.size w w) := be_refl w
 have HSH := Lib.hid (rshaped_all x.args D)
 clear hS hsm
 obtain ⟨b1, h1⟩ : ∃ b, (szF (x.then .nil) 200 20).isSome = b := ⟨_, rfl⟩
 obtain ⟨b2, h2⟩ : ∃ b, (nodeB x.op x.n x.unit x.name x.args.len && shF x.args) = b := ⟨_, rfl⟩
 have HR : Hid (r = (b1 && b2)) := by show _ = _; rw [← hr, right_few_sh, h1, shF_one, h2]
 have H1 := Lib.hid h1; have H2 := Lib.hid h2
 clear hr h1 h2
 unfold hdC
 go_enter Tryz.func18, Tryz.ntmps18
 go_upto_region 1 with fail
 refine nmW (w.alloc (.cells #[.int .i64 x.op, .int .i64 x.n, .string ⟨x.unit.toArray⟩, .string ⟨x.name.toArray⟩, .slice q x.args.len d] 24)) fun w1 hv => ?_
 rw [← hv]
 have K := bxh hv
 have hb_ := bah hv
 clear hv
 replace S := Lib.hid (S.out.keep hb_)
 replace G := Lib.hid (be_call G.out hb_)
 clear hb_
 have HC := Lib.hid (few_ok (b := 200) (lv := 20) SM.out S.out (by decide) (by decide) H1.out)
 rw [show ((200 : Nat) : Int) = 200 from rfl, show ((20 : Nat) : Int) = 20 from rfl] at HC
 unfold hdC at HC
 refine K.out.q5 fun p0 p1 p2 p3 p4 => ?_
 go_wp2_with fail
 clear p0 p1 p2 p3 p4
 refine HC.out.mono ?_
 rintro e w2 ⟨rfl, hb⟩
 replace K := Lib.hid (K.out.keep hb)
 replace S := Lib.hid (S.out.keep hb)
 replace G := Lib.hid (be_call G.out hb)
 clear hb HC
 cases b1 with
 | false =>
  go_wp2_with fail
  go_ret
  exact ⟨by rw [HR.out]; rfl, G.out⟩
 | true =>
  have HC := Lib.hid (HSH.out w2 x.op x.n x.unit x.name q d SM.out.1 SM.out.2.1 SM.out.2.2.2 SM.out.2.2.1 S.out)
  rw [H2.out] at HC
  unfold hdC at HC
  refine K.out.q5 fun p0 p1 p2 p3 p4 => ?_
  go_wp2_with fail
  clear p0 p1 p2 p3 p4
  refine HC.out.mono ?_
  rintro e w3 ⟨rfl, hb⟩
  replace G := Lib.hid (be_call G.out hb)
  clear hb HC
  go_wp2_with fail
  go_ret
  exact ⟨by rw [HR.out]; cases b2 <;> rfl, G.out⟩
end Go.Proofs.YtckgmilmhofekaaGreatDoor
