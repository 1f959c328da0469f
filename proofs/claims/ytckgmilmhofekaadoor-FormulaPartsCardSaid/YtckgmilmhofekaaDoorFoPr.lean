/- Walks: FormulaParts. -/
import Derived.Test.YtckgmilmhofekaaDoorLexLaws
import Derived.Test.YtckgmilmhofekaaDoorFoBack
import Derived.Test.YtckgmilmhofekaaDoorBase
import Derived.Test.YtckgmilmhofekaaDoorLexBytes
import Derived.Test.YtckgmilmhofekaaDoorLexPrint
import Derived.Test.YtckgmilmhofekaaDoorBigSpec
import Derived.Test.YtckgmilmhofekaaDoorBigD
import Derived.Test.YtckgmilmhofekaaDoorBigQ
import Derived.Test.YtckgmilmhofekaaDoorFd
import Derived.Test.YtckgmilmhofekaaDoorHeld
import Derived.Test.YtckgmilmhofekaaDoorAw
import Derived.Test.YtckgmilmhofekaaDoorOwn
import Derived.Test.YtckgmilmhofekaaDoorFoWd
import Derived.Test.YtckgmilmhofekaaDoorFoOx
import Derived.Test.YtckgmilmhofekaaDoorFoCk
import Derived.Test.YtckgmilmhofekaaDoorFoWl
import Derived.Test.YtckgmilmhofekaaDoorFoTo
import Derived.Test.YtckgmilmhofekaaDoorFoPt
import Derived.Test.YtckgmilmhofekaaDoorProg
import Derived.Test.YtckgmilmhofekaaDoorShelf
import Derived.WalkKit
import Derived.Lib.ItoaNum
import Derived.WalkSpells
import Derived.WalkLawsBesides
import Derived.Handy
import Derived.Lib.Hide
import Derived.Lib.Strings
import Derived.Lib.Builder
import Derived.Shelf.Strings.Builder1
import Derived.BigQuiet
import Derived.OwnWalk
import Derived.Laws.BitsLemmas
import Derived.WalkSmall
import Derived.Deep.QuietTactic
import Derived.StillTailTactics
import Derived.Maps.AppendAt
import Derived.IntWalk
import Derived.Deep.RegionHeld3
import Derived.Deep.DeepFit
import Derived.Deep.LoopGhost
import Derived.Deep.DeepCutAuto
import Derived.Lib.Repeat
import Derived.Lib.AppendIntMem
import Derived.Sort.OwnSorted
import Derived.Shelf.Strings.SlTrimAscii
import Derived.Lib.ConvBytes
import Derived.Lib.CutLaws
import Derived.ArgAppend
namespace Go.Proofs.YtckgmilmhofekaaDoor
open Go.RowKit

theorem smX_min {x : Ex} (h : smX x) : smX (minX x) := by
 obtain ⟨h1, h2, h3, h4⟩ := h
 exact ⟨Nat.zero_le _, Nat.zero_le _, show 2 ≤ _ by decide, ⟨h1, h2, h3, h4⟩, ⟨Nat.zero_le _, Nat.zero_le _, Nat.zero_le _, trivial⟩, trivial⟩
set_option maxRecDepth 100000 in
set_option maxHeartbeats 4000000 in
theorem parts_many {x : Ex} {D : Nat → Prop} {w : World} {q : Option Addr} {d : Nat} (s : ByteArray) (hm : s.size ≤ maxLen) (hsm : smX x) (hS : FoS D w q d x.args) (hsig : SignsIn w) (hT : PowT w.heap.size w) (hf : (szF (x.then .nil) 250 24).isSome = false) :
  Calls Tryd.prog 5 #[.agg (hdC x q d).toArray, .string s] w fun e w' => e = .returned (.bool true) ∧ Below w.heap.size w w' := by
 have HG := Lib.hid hsig; have T := Lib.hid hT; have F := Lib.hid (hS.mono (fun _ _ => trivial) : FoT w q d x.args); have SM := Lib.hid hsm; have HM := Lib.hid hm
 have B : Hid (Below w.heap.size w w) := be_refl w
 clear hsig hT hS hsm hm
 unfold hdC
 go_enter Tryd.func5, Tryd.ntmps5
 go_upto_region 1 with fail
 refine nmW (w.alloc (.cells #[.int .i64 x.op, .int .i64 x.n, .string ⟨x.unit.toArray⟩, .string ⟨x.name.toArray⟩, .slice q x.args.len d] 24)) fun w1 hv => ?_
 rw [← hv]
 have K : Hid (Bx w1 w.heap.size 24 #[.int .i64 x.op, .int .i64 x.n, .string ⟨x.unit.toArray⟩, .string ⟨x.name.toArray⟩, .slice q x.args.len d]) := by show Bx _ _ _ _; rw [hv]; exact bx1 w _ _
 have hb_ : Below w.heap.size w w1 := by rw [hv]; exact below_alloc _ _
 clear hv
 have z1_ := K.out.lt
 replace B := Lib.hid (be_call B.out hb_)
 replace HG := Lib.hid (HG.out.keep hb_)
 replace T := Lib.hid (T.out.keepG (hb_.mono (by omega)))
 replace F := Lib.hid (F.out.keep hb_)
 have z2_ := hb_.size
 clear hb_
 go_wp2_with fail
 refine (sane_ok HG.out (T.out.mono (by omega))).mono ?_
 rintro e w2 ⟨rfl, hb⟩
 replace B := Lib.hid (be_call B.out hb)
 replace HG := Lib.hid (HG.out.keep hb)
 replace T := Lib.hid (T.out.keepG (hb.mono (by omega)))
 replace F := Lib.hid (F.out.keep hb)
 replace K := Lib.hid (K.out.keep hb)
 have z3_ := hb.size
 clear hb
 have HC := Lib.hid (few_ok (b := 250) (lv := 24) SM.out F.out (by decide) (by decide) hf)
 rw [show ((250 : Nat) : Int) = 250 from rfl, show ((24 : Nat) : Int) = 24 from rfl] at HC
 unfold hdC at HC
 have pK_0 := K.out.at.1 0
 have pK_1 := K.out.at.1 1
 have pK_2 := K.out.at.1 2
 have pK_3 := K.out.at.1 3
 have pK_4 := K.out.at.1 4
 go_wp2_with fail
 clear pK_0 pK_1 pK_2 pK_3 pK_4
 refine (HC.out).mono ?_
 rintro e w3 ⟨rfl, hb⟩
 clear HC
 replace B := Lib.hid (be_call B.out hb)
 replace HG := Lib.hid (HG.out.keep hb)
 replace T := Lib.hid (T.out.keepG (hb.mono (by omega)))
 replace F := Lib.hid (F.out.keep hb)
 replace K := Lib.hid (K.out.keep hb)
 have z4_ := hb.size
 clear hb
 go_wp2_with fail
 go_ret
 exact ⟨rfl, B.out⟩
set_option maxRecDepth 100000 in
set_option maxHeartbeats 4000000 in
theorem parts_long {x : Ex} {D : Nat → Prop} {w : World} {q : Option Addr} {d : Nat} (s : ByteArray) (hm : s.size ≤ maxLen) (hsm : smX x) (hS : FoS D w q d x.args) (hsig : SignsIn w) (hT : PowT w.heap.size w) (hf : (szF (x.then .nil) 250 24).isSome = true) (hl : 60 < s.size) :
  Calls Tryd.prog 5 #[.agg (hdC x q d).toArray, .string s] w fun e w' => e = .returned (.bool true) ∧ Below w.heap.size w w' := by
 have HG := Lib.hid hsig; have T := Lib.hid hT; have F := Lib.hid (hS.mono (fun _ _ => trivial) : FoT w q d x.args); have SM := Lib.hid hsm; have HM := Lib.hid hm
 have B : Hid (Below w.heap.size w w) := be_refl w
 clear hsig hT hS hsm hm
 unfold hdC
 go_enter Tryd.func5, Tryd.ntmps5
 go_upto_region 1 with fail
 refine nmW (w.alloc (.cells #[.int .i64 x.op, .int .i64 x.n, .string ⟨x.unit.toArray⟩, .string ⟨x.name.toArray⟩, .slice q x.args.len d] 24)) fun w1 hv => ?_
 rw [← hv]
 have K : Hid (Bx w1 w.heap.size 24 #[.int .i64 x.op, .int .i64 x.n, .string ⟨x.unit.toArray⟩, .string ⟨x.name.toArray⟩, .slice q x.args.len d]) := by show Bx _ _ _ _; rw [hv]; exact bx1 w _ _
 have hb_ : Below w.heap.size w w1 := by rw [hv]; exact below_alloc _ _
 clear hv
 have z1_ := K.out.lt
 replace B := Lib.hid (be_call B.out hb_)
 replace HG := Lib.hid (HG.out.keep hb_)
 replace T := Lib.hid (T.out.keepG (hb_.mono (by omega)))
 replace F := Lib.hid (F.out.keep hb_)
 have z2_ := hb_.size
 clear hb_
 go_wp2_with fail
 refine (sane_ok HG.out (T.out.mono (by omega))).mono ?_
 rintro e w2 ⟨rfl, hb⟩
 replace B := Lib.hid (be_call B.out hb)
 replace HG := Lib.hid (HG.out.keep hb)
 replace T := Lib.hid (T.out.keepG (hb.mono (by omega)))
 replace F := Lib.hid (F.out.keep hb)
 replace K := Lib.hid (K.out.keep hb)
 have z3_ := hb.size
 clear hb
 have hli : (60 : Int) < (s.size : Int) := by omega
 have HC := Lib.hid (few_ok (b := 250) (lv := 24) SM.out F.out (by decide) (by decide) hf)
 rw [show ((250 : Nat) : Int) = 250 from rfl, show ((24 : Nat) : Int) = 24 from rfl] at HC
 unfold hdC at HC
 have pK_0 := K.out.at.1 0
 have pK_1 := K.out.at.1 1
 have pK_2 := K.out.at.1 2
 have pK_3 := K.out.at.1 3
 have pK_4 := K.out.at.1 4
 go_wp2_with fail
 clear pK_0 pK_1 pK_2 pK_3 pK_4
 refine (HC.out).mono ?_
 rintro e w3 ⟨rfl, hb⟩
 clear HC
 replace B := Lib.hid (be_call B.out hb)
 replace HG := Lib.hid (HG.out.keep hb)
 replace T := Lib.hid (T.out.keepG (hb.mono (by omega)))
 replace F := Lib.hid (F.out.keep hb)
 replace K := Lib.hid (K.out.keep hb)
 have z4_ := hb.size
 clear hb
 go_wp2_with fail
 go_ret
 exact ⟨rfl, B.out⟩
set_option maxRecDepth 100000 in
set_option maxHeartbeats 4000000 in
theorem parts_ok {x : Ex} {D : Nat → Prop} {w : World} {q : Option Addr} {d : Nat} (s : ByteArray) (hm : s.size ≤ maxLen) (hsm : smX x) (hS : FoS D w q d x.args) (hsig : SignsIn w) (hT : PowT w.heap.size w) (hf : (szF (x.then .nil) 250 24).isSome = true) (hl : ¬ 60 < s.size) (hr : rightX x = true) :
    Calls Tryd.prog 5 #[.agg (hdC x q d).toArray, .string s] w fun e w' => e = .returned (.bool true) ∧ Below w.heap.size w w' := by
  have HG := Lib.hid hsig; have T := Lib.hid hT; have F := Lib.hid (hS.mono (fun _ _ => trivial) : FoT w q d x.args); have SM := Lib.hid hsm; have HM := Lib.hid hm
  have B : Hid (Below w.heap.size w w) := be_refl w
  clear hsig hT hS hsm hm
  unfold hdC
  go_enter Tryd.func5, Tryd.ntmps5
  go_upto_region 1 with fail
  refine nmW (w.alloc (.cells #[.int .i64 x.op, .int .i64 x.n, .string ⟨x.unit.toArray⟩, .string ⟨x.name.toArray⟩, .slice q x.args.len d] 24)) fun w1 hv => ?_
  rw [← hv]
  have K : Hid (Bx w1 w.heap.size 24 #[.int .i64 x.op, .int .i64 x.n, .string ⟨x.unit.toArray⟩, .string ⟨x.name.toArray⟩, .slice q x.args.len d]) := by show Bx _ _ _ _; rw [hv]; exact bx1 w _ _
  have hb_ : Below w.heap.size w w1 := by rw [hv]; exact below_alloc _ _
  clear hv
  have z1_ := K.out.lt
  replace B := Lib.hid (be_call B.out hb_)
  replace HG := Lib.hid (HG.out.keep hb_)
  replace T := Lib.hid (T.out.keepG (hb_.mono (by omega)))
  replace F := Lib.hid (F.out.keep hb_)
  have z2_ := hb_.size
  clear hb_
  go_wp2_with fail
  refine (sane_ok HG.out (T.out.mono (by omega))).mono ?_
  rintro e w2 ⟨rfl, hb⟩
  replace B := Lib.hid (be_call B.out hb)
  replace HG := Lib.hid (HG.out.keep hb)
  replace T := Lib.hid (T.out.keepG (hb.mono (by omega)))
  replace F := Lib.hid (F.out.keep hb)
  replace K := Lib.hid (K.out.keep hb)
  have z3_ := hb.size
  clear hb
  have hli : ¬ (60 : Int) < (s.size : Int) := by omega
  have HR := Lib.hid hr; have HF := Lib.hid hf; clear hr hf
  have HC := Lib.hid (few_ok (b := 250) (lv := 24) SM.out F.out (by decide) (by decide) HF.out)
  rw [show ((250 : Nat) : Int) = 250 from rfl, show ((24 : Nat) : Int) = 24 from rfl] at HC
  unfold hdC at HC
  have pK_0 := K.out.at.1 0
  have pK_1 := K.out.at.1 1
  have pK_2 := K.out.at.1 2
  have pK_3 := K.out.at.1 3
  have pK_4 := K.out.at.1 4
  go_wp2_with fail
  clear pK_0 pK_1 pK_2 pK_3 pK_4
  refine (HC.out).mono ?_
  rintro e w3 ⟨rfl, hb⟩
  clear HC
  replace B := Lib.hid (be_call B.out hb)
  replace HG := Lib.hid (HG.out.keep hb)
  replace T := Lib.hid (T.out.keepG (hb.mono (by omega)))
  replace F := Lib.hid (F.out.keep hb)
  replace K := Lib.hid (K.out.keep hb)
  have z4_ := hb.size
  clear hb
  have HC := Lib.hid (right_ok (x := x) SM.out F.out)
  rw [HR.out] at HC
  unfold hdC at HC
  have pK_0 := K.out.at.1 0
  have pK_1 := K.out.at.1 1
  have pK_2 := K.out.at.1 2
  have pK_3 := K.out.at.1 3
  have pK_4 := K.out.at.1 4
  go_wp2_with fail
  clear pK_0 pK_1 pK_2 pK_3 pK_4
  refine (HC.out).mono ?_
  rintro e w4 ⟨rfl, hb⟩
  clear HC
  replace B := Lib.hid (be_call B.out hb)
  replace HG := Lib.hid (HG.out.keep hb)
  replace T := Lib.hid (T.out.keepG (hb.mono (by omega)))
  replace F := Lib.hid (F.out.keep hb)
  replace K := Lib.hid (K.out.keep hb)
  have z5_ := hb.size
  clear hb
  have pK_0 := K.out.at.1 0
  have pK_1 := K.out.at.1 1
  have pK_2 := K.out.at.1 2
  have pK_3 := K.out.at.1 3
  have pK_4 := K.out.at.1 4
  go_wp2_with fail
  clear pK_0 pK_1 pK_2 pK_3 pK_4
  refine (word_ok ⟨x.name.toArray⟩ (b_ := false) (by rw [Lib.toList_data]; exact right_word HR.out)).mono ?_
  rintro e w4 ⟨rfl, rfl⟩
  have HN := Lib.hid (right_nodes HR.out)
  have HC := Lib.hid (nodes_all x.args _ w4 x.op x.n x.unit x.name q d SM.out.2.2.2 SM.out.2.2.1 F.out (by have := HN.out; omega))
  obtain ⟨nn, hnn⟩ : ∃ nn, 1 + nodesF x.args = nn := ⟨_, rfl⟩
  have HNN : Hid (nn ≤ 200) := by show _ ≤ _; have := HN.out; omega
  rw [hnn] at HC
  unfold hdC at HC
  clear hnn
  have pK_0 := K.out.at.1 0
  have pK_1 := K.out.at.1 1
  have pK_2 := K.out.at.1 2
  have pK_3 := K.out.at.1 3
  have pK_4 := K.out.at.1 4
  go_wp2_with fail
  clear pK_0 pK_1 pK_2 pK_3 pK_4
  refine (HC.out).mono ?_
  rintro e w5 ⟨rfl, hb⟩
  clear HC
  replace B := Lib.hid (be_call B.out hb)
  replace HG := Lib.hid (HG.out.keep hb)
  replace T := Lib.hid (T.out.keepG (hb.mono (by omega)))
  replace F := Lib.hid (F.out.keep hb)
  replace K := Lib.hid (K.out.keep hb)
  have z6_ := hb.size
  clear hb
  have hni : ¬ (200 : Int) < (nn : Int) := by have := HNN.out; omega
  have pK_0 := K.out.at.1 0
  have pK_1 := K.out.at.1 1
  have pK_2 := K.out.at.1 2
  have pK_3 := K.out.at.1 3
  have pK_4 := K.out.at.1 4
  go_wp2_with fail
  clear pK_0 pK_1 pK_2 pK_3 pK_4
  clear hni
  go_loopw [7] (fun i wr => ∃ (j : Nat), i = .int .i64 (j : Int) ∧ j ≤ x.args.len ∧ w.heap.size ≤ wr.heap.size ∧ Hid (Bx wr w.heap.size 24 #[.int .i64 x.op, .int .i64 x.n, .string ⟨x.unit.toArray⟩, .string ⟨x.name.toArray⟩, .slice q x.args.len d]) ∧ Hid (FoT wr q d x.args) ∧ Hid (SignsIn wr) ∧ Hid (PowT w.heap.size wr) ∧ Hid (Below w.heap.size w wr)) (fun i _ => x.args.len - (intOf i).toNat)
  case atStart => exact ⟨0, rfl, Nat.zero_le _, by omega, K, F, HG, T, B⟩
  case round =>
    clear K F HG T B
    obtain ⟨j, rfl, hj, hws, K, F, HG, T, B⟩ := hrel
    by_cases hlt : j < x.args.len
    · have hjl : (j : Int) < (x.args.len : Int) := by omega
      have HLT := Lib.hid hlt
      have hal := SM.out.2.2.1
      obtain ⟨y, hy⟩ : ∃ y, x.args.list[j]? = some y := ⟨_, List.getElem?_eq_getElem (by rw [Fo.len_list]; exact hlt)⟩
      obtain ⟨b1, o1, q1, d1, rfl, hb1, hc1, hs1⟩ := F.out.at hy
      have HY := Lib.hid hy; have E1 := Lib.hid hs1; clear hy hs1
      have c0 : wr.cell? ⟨b1, o1 + j * 5, none⟩ = some (.int .i64 y.op) := by have := hc1 0 _ rfl; rw [Nat.mul_comm] at this; exact this
      have c1 : wr.cell? ⟨b1, o1 + j * 5 + 1, none⟩ = some (.int .i64 y.n) := by have := hc1 1 _ rfl; rw [Nat.mul_comm] at this; exact this
      have c2 : wr.cell? ⟨b1, o1 + j * 5 + 2, none⟩ = some (.string ⟨y.unit.toArray⟩) := by have := hc1 2 _ rfl; rw [Nat.mul_comm] at this; exact this
      have c3 : wr.cell? ⟨b1, o1 + j * 5 + 3, none⟩ = some (.string ⟨y.name.toArray⟩) := by have := hc1 3 _ rfl; rw [Nat.mul_comm] at this; exact this
      have c4 : wr.cell? ⟨b1, o1 + j * 5 + 4, none⟩ = some (.slice q1 y.args.len d1) := by have := hc1 4 _ rfl; rw [Nat.mul_comm] at this; exact this
      clear hc1
      have HMY := Lib.hid (List.mem_of_getElem? HY.out)
      have HC := Lib.hid (right_ok (x := y) (SM.out.2.2.2.mem HMY.out) E1.out)
      rw [right_args HR.out HMY.out] at HC
      unfold hdC at HC
      have pK_0 := K.out.at.1 0
      have pK_1 := K.out.at.1 1
      have pK_2 := K.out.at.1 2
      have pK_3 := K.out.at.1 3
      have pK_4 := K.out.at.1 4
      go_wp2_with fail
      clear pK_0 pK_1 pK_2 pK_3 pK_4 c0 c1 c2 c3 c4
      refine (HC.out).mono ?_
      rintro e w6 ⟨rfl, hb⟩
      clear HC
      replace B := Lib.hid (be_call B.out hb)
      replace HG := Lib.hid (HG.out.keep hb)
      replace T := Lib.hid (T.out.keepG (hb.mono (by omega)))
      replace F := Lib.hid (F.out.keep hb)
      replace K := Lib.hid (K.out.keep hb)
      have z7_ := hb.size
      clear hb
      go_wp2_with fail
      go_roundw
      case rel => exact ⟨j + 1, by go_num, HLT.out, by omega, K, F, HG, T, B⟩
      case measure => have := HLT.out; simp [intOf]; omega
    · have hje : j = x.args.len := by omega
      have hjl : ¬ (j : Int) < (x.args.len : Int) := by omega
      clear hlt
      have pK_0 := K.out.at.1 0
      have pK_1 := K.out.at.1 1
      have pK_2 := K.out.at.1 2
      have pK_3 := K.out.at.1 3
      have pK_4 := K.out.at.1 4
      go_upto_region 12 with fail
      clear pK_0 pK_1 pK_2 pK_3 pK_4
      clear hjl hje hj
      refine nmW wr.drew fun w7 hW => ?_
      have hb_ : Below wr.heap.size wr w7 := by rw [hW]; exact below_drew _
      replace B := Lib.hid (be_call B.out hb_)
      replace HG := Lib.hid (HG.out.keep hb_)
      replace T := Lib.hid (T.out.keepG (hb_.mono (by omega)))
      replace F := Lib.hid (F.out.keep hb_)
      replace K := Lib.hid (K.out.keep hb_)
      have z8_ := hb_.size
      clear hb_
      refine wp_region_held_drew (S := (fun w' => w'.cell? ⟨w.heap.size, 0, none⟩ = some (.int .i64 x.op) ∧ w'.cell? ⟨w.heap.size, 1, none⟩ = some (.int .i64 x.n) ∧ w'.cell? ⟨w.heap.size, 2, none⟩ = some (.string ⟨x.unit.toArray⟩) ∧ w'.cell? ⟨w.heap.size, 3, none⟩ = some (.string ⟨x.name.toArray⟩) ∧ w'.cell? ⟨w.heap.size, 4, none⟩ = some (.slice q x.args.len d))) (by kernel_rfl) (by rw [← hW]; exact K.out.d5) (fun hH => ?_)
      rw [← hW] at hH ⊢
      clear hW
      clear HG T
      have hKl : w.heap.size < w7.heap.size := K.out.lt
      replace F := Lib.hid F.out.inH
      refine tk at0 (v := .agg #[.int .i64 x.op, .int .i64 x.n, .string ⟨x.unit.toArray⟩, .string ⟨x.name.toArray⟩, .slice q x.args.len d]) ?_
      refine wpAnyH_ready (rs := [1, 3]) (by kernel_rfl) (by simp) ?_
      refine AllReadyH.cons at1 (fun K_ hK => ?_) (AllReadyH.cons at3 (fun K_ hK => ?_) AllReadyH.nil)
      · skip
        go_simp
        refine (lnumber_ok 1).mono ?_
        rintro e w8 ⟨rfl, hb⟩
        replace B := Lib.hid (be_call B.out hb)
        replace F := Lib.hid (F.out.keep hb)
        replace K := Lib.hid (K.out.keep hb)
        have z9_ := hb.size
        clear hb
        (try go_wp2_with fail)
        refine hK.out _ _ (K.out.d5) (fun hH2 => ?_)
        clear hK K_ hH
        have hH := hH2; clear hH2
        (try simp only [Act.put, List.setIfInBounds_toArray, List.set_cons_zero, List.set_cons_succ])
        refine wpAnyH_ready (rs := [2, 3]) (by kernel_rfl) (by simp) ?_
        refine AllReadyH.cons at2 (fun K_ hK => ?_) (AllReadyH.cons at3 (fun K_ hK => ?_) AllReadyH.nil)
        · skip
          go_simp
          refine (ltwo_D 10 (x := x) (y := (Ex.mk 0 1 [] [] .nil)) (q2 := none) (d2 := 0) F.out FoS.nil).mono ?_
          rintro e w9 ⟨qm, dm, rfl, hf, hb⟩
          replace B := Lib.hid (be_call B.out hb)
          replace F := Lib.hid (F.out.keep hb)
          replace K := Lib.hid (K.out.keep hb)
          have z10_ := hb.size
          clear hb
          have FM := Lib.hid hf; clear hf
          unfold hdC
          (try go_wp2_with fail)
          refine hK.out _ _ (K.out.d5) (fun hH2 => ?_)
          clear hK K_ hH
          have hH := hH2; clear hH2
          (try simp only [Act.put, List.setIfInBounds_toArray, List.set_cons_zero, List.set_cons_succ])
          refine wpAnyH_ready (rs := [3]) (by kernel_rfl) (by simp) ?_
          refine AllReadyH.cons at3 (fun K_ hK => ?_) AllReadyH.nil
          go_simp
          refine nmW (w9.alloc (.cells #[.int .i64 0, .int .i64 0, .string ⟨#[]⟩, .string ⟨#[]⟩, .slice none 0 0] 24)) fun w10 hv => ?_
          rw [← hv]
          have M : Hid (Bx w10 w9.heap.size 24 #[.int .i64 0, .int .i64 0, .string ⟨#[]⟩, .string ⟨#[]⟩, .slice none 0 0]) := by show Bx _ _ _ _; rw [hv]; exact bx1 _ _ _
          have hb_ : Below w9.heap.size w9 w10 := by rw [hv]; exact below_alloc _ _
          clear hv
          have hM := M.out.lt
          replace B := Lib.hid (be_call B.out hb_)
          replace F := Lib.hid (F.out.keep hb_)
          replace K := Lib.hid (K.out.keep hb_)
          replace FM := Lib.hid (FM.out.keep hb_)
          have z11_ := hb_.size
          clear hb_
          refine hK.out _ _ (K.out.d5) (fun hH2 => ?_)
          clear hK K_ hH
          have hH := hH2; clear hH2
          (try simp only [Act.put, List.setIfInBounds_toArray, List.set_cons_zero, List.set_cons_succ])
          refine wpAnyH_ready (rs := [4]) (by kernel_rfl) (by simp) ?_
          refine AllReadyH.cons at4 (fun K_ hK => ?_) AllReadyH.nil
          have pM_0 := M.out.at.1 0
          have qM_0 := M.out.at.2 0
          have pM_1 := M.out.at.1 1
          have qM_1 := M.out.at.2 1
          have pM_2 := M.out.at.1 2
          have qM_2 := M.out.at.2 2
          have pM_3 := M.out.at.1 3
          have qM_3 := M.out.at.2 3
          have pM_4 := M.out.at.1 4
          have qM_4 := M.out.at.2 4
          go_simp
          clear pM_0 qM_0 pM_1 qM_1 pM_2 qM_2 pM_3 qM_3 pM_4 qM_4
          refine nmW (((((w10.setCell ⟨w9.heap.size, 0, none⟩ (.int .i64 10)).setCell ⟨w9.heap.size, 1, none⟩ (.int .i64 0)).setCell ⟨w9.heap.size, 2, none⟩ (.string ⟨#[]⟩)).setCell ⟨w9.heap.size, 3, none⟩ (.string ⟨#[]⟩)).setCell ⟨w9.heap.size, 4, none⟩ (.slice qm (Fo.len (x.then ((Ex.mk 0 1 [] [] .nil).then .nil))) dm)) fun w11 hv => ?_
          rw [← hv]
          have og_ : w10.grownBy w11 (some w9.heap.size) := by rw [hv]; exact (gr_trans (gr_trans (gr_trans (gr_trans (gr_set _ _ _ _) (gr_set _ _ _ _)) (gr_set _ _ _ _)) (gr_set _ _ _ _)) (gr_set _ _ _ _))
          have kb_ : Bx w11 w9.heap.size 24 #[.int .i64 10, .int .i64 0, .string ⟨#[]⟩, .string ⟨#[]⟩, .slice qm (Fo.len (x.then ((Ex.mk 0 1 [] [] .nil).then .nil))) dm] := by rw [hv]; exact (((((M.out.set 0 _).set 1 _).set 2 _).set 3 _).set 4 _)
          clear hv
          replace B := Lib.hid (B.out.trans (gr_to og_ (by omega) B.out.size))
          replace F := Lib.hid (F.out.grown og_ (by omega))
          replace K := Lib.hid (K.out.only og_ (by omega))
          replace FM := Lib.hid (FM.out.grown og_ (fun h => by
            rcases h with h | h
            · omega
            · have := h.1; have := h.2; omega))
          replace M := Lib.hid kb_
          have z12_ := og_.size
          clear og_ kb_
          refine hK.out _ _ (K.out.d5) (fun hH2 => ?_)
          clear hK K_ hH
          have hH := hH2; clear hH2
          (try simp only [Act.put, List.setIfInBounds_toArray, List.set_cons_zero, List.set_cons_succ])
          refine wpAnyH_done (by kernel_rfl) ?_ _
          clear hH
          obtain ⟨fb, hfb⟩ : ∃ fb, (szF ((minX x).then .nil) 200 20).isSome = fb := ⟨_, rfl⟩
          have HFB := Lib.hid hfb; clear hfb
          have HRM : Hid (rightX (minX x) = fb) := by show _ = _; rw [right_min, HR.out, HFB.out]; simp
          have HC := Lib.hid (right_ok (x := minX x) (smX_min SM.out) FM.out)
          rw [HRM.out] at HC
          unfold hdC minX at HC
          have pM_0 := M.out.at.1 0
          have pM_1 := M.out.at.1 1
          have pM_2 := M.out.at.1 2
          have pM_3 := M.out.at.1 3
          have pM_4 := M.out.at.1 4
          go_wp2_with fail
          clear pM_0 pM_1 pM_2 pM_3 pM_4
          refine (HC.out).mono ?_
          rintro e w12 ⟨rfl, hb⟩
          clear HC
          replace B := Lib.hid (be_call B.out hb)
          replace F := Lib.hid (F.out.keep hb)
          replace K := Lib.hid (K.out.keep hb)
          replace FM := Lib.hid (FM.out.keep hb)
          replace M := Lib.hid (M.out.keep hb)
          have z13_ := hb.size
          clear hb
          have HC := Lib.hid (few_ok (x := minX x) (b := 200) (lv := 20) (smX_min SM.out) FM.out (by decide) (by decide) HFB.out)
          rw [show ((200 : Nat) : Int) = 200 from rfl, show ((20 : Nat) : Int) = 20 from rfl] at HC
          unfold hdC minX at HC
          have pM_0 := M.out.at.1 0
          have pM_1 := M.out.at.1 1
          have pM_2 := M.out.at.1 2
          have pM_3 := M.out.at.1 3
          have pM_4 := M.out.at.1 4
          go_wp2_with fail
          clear pM_0 pM_1 pM_2 pM_3 pM_4
          refine (HC.out).mono ?_
          rintro e w13 ⟨rfl, hb⟩
          clear HC
          replace B := Lib.hid (be_call B.out hb)
          replace F := Lib.hid (F.out.keep hb)
          replace K := Lib.hid (K.out.keep hb)
          replace FM := Lib.hid (FM.out.keep hb)
          replace M := Lib.hid (M.out.keep hb)
          have z14_ := hb.size
          clear hb
          clear HRM HFB
          cases fb with
          | false =>
            go_wp2_with fail
            obtain ⟨l, hsl⟩ : ∃ l : Bytes, s = ⟨l.toArray⟩ := ⟨s.data.toList, by simp⟩
            subst hsl
            refine (lname_ok l).mono ?_
            rintro e w14 ⟨rfl, hb⟩
            replace B := Lib.hid (be_call B.out hb)
            replace F := Lib.hid (F.out.keep hb)
            replace K := Lib.hid (K.out.keep hb)
            replace FM := Lib.hid (FM.out.keep hb)
            replace M := Lib.hid (M.out.keep hb)
            have z15_ := hb.size
            clear hb
            unfold hdC
            go_upto_region 16 with fail
            refine nmW (w14.alloc (.cells #[.int .i64 1, .int .i64 0, .string ⟨#[]⟩, .string ⟨l.toArray⟩, .slice none (Fo.len .nil) 0] 24)) fun w15 hv => ?_
            rw [← hv]
            have Y : Hid (Bx w15 w14.heap.size 24 #[.int .i64 1, .int .i64 0, .string ⟨#[]⟩, .string ⟨l.toArray⟩, .slice none (Fo.len .nil) 0]) := by show Bx _ _ _ _; rw [hv]; exact bx1 w14 _ _
            have hb_ : Below w14.heap.size w14 w15 := by rw [hv]; exact below_alloc _ _
            clear hv
            have z16_ := Y.out.lt
            replace B := Lib.hid (be_call B.out hb_)
            replace F := Lib.hid (F.out.keep hb_)
            replace K := Lib.hid (K.out.keep hb_)
            replace FM := Lib.hid (FM.out.keep hb_)
            replace M := Lib.hid (M.out.keep hb_)
            have z17_ := hb_.size
            clear hb_
            have hlm : l.length ≤ 9223372036854775807 := by have := HM.out; simpa [maxLen, ByteArray.size] using this
            have HLM := Lib.hid hlm; clear hlm
            have HC := Lib.hid (right_ok (x := ⟨1, 0, [], l, .nil⟩) (D := fun _ => True) (w := w15) (q := none) (d := 0) ⟨Nat.zero_le _, HLM.out, Nat.zero_le _, trivial⟩ FoS.nil)
            rw [right_name] at HC
            unfold hdC at HC
            have pY_0 := Y.out.at.1 0
            have pY_1 := Y.out.at.1 1
            have pY_2 := Y.out.at.1 2
            have pY_3 := Y.out.at.1 3
            have pY_4 := Y.out.at.1 4
            go_wp2_with fail
            clear pY_0 pY_1 pY_2 pY_3 pY_4
            refine (HC.out).mono ?_
            rintro e w16 ⟨rfl, hb⟩
            clear HC
            replace B := Lib.hid (be_call B.out hb)
            replace F := Lib.hid (F.out.keep hb)
            replace K := Lib.hid (K.out.keep hb)
            replace FM := Lib.hid (FM.out.keep hb)
            replace M := Lib.hid (M.out.keep hb)
            replace Y := Lib.hid (Y.out.keep hb)
            have z18_ := hb.size
            clear hb
            go_wp2_with fail
            refine (name_any _ _ (by have := HLM.out; simpa [maxLen, ByteArray.size] using this)).mono ?_
            rintro e w16 ⟨rfl, rfl⟩
            rw [show (ByteArray.mk l.toArray).data.toList = l by simp]
            unfold namedB
            cases nameOk l with
            | false =>
              go_wp2_with fail
              go_ret
              exact ⟨by simp, B.out⟩
            | true =>
              obtain ⟨wb, hwb⟩ : ∃ wb, wordB l = wb := ⟨_, rfl⟩
              have HWB := Lib.hid hwb
              rw [hwb]
              clear hwb
              go_wp2_with fail
              refine (word_ok ⟨l.toArray⟩ (b_ := wb) (by rw [Lib.toList_data]; exact HWB.out)).mono ?_
              rintro e w16 ⟨rfl, rfl⟩
              cases wb with
              | false =>
                go_wp2_with fail
                go_ret
                exact ⟨by simp, B.out⟩
              | true =>
                go_wp2_with fail
                go_ret
                exact ⟨by simp, B.out⟩
          | true =>
            go_wp2_with fail
            obtain ⟨l, hsl⟩ : ∃ l : Bytes, s = ⟨l.toArray⟩ := ⟨s.data.toList, by simp⟩
            subst hsl
            refine (lname_ok l).mono ?_
            rintro e w17 ⟨rfl, hb⟩
            replace B := Lib.hid (be_call B.out hb)
            replace F := Lib.hid (F.out.keep hb)
            replace K := Lib.hid (K.out.keep hb)
            replace FM := Lib.hid (FM.out.keep hb)
            replace M := Lib.hid (M.out.keep hb)
            have z19_ := hb.size
            clear hb
            unfold hdC
            go_upto_region 16 with fail
            refine nmW (w17.alloc (.cells #[.int .i64 1, .int .i64 0, .string ⟨#[]⟩, .string ⟨l.toArray⟩, .slice none (Fo.len .nil) 0] 24)) fun w18 hv => ?_
            rw [← hv]
            have Y : Hid (Bx w18 w17.heap.size 24 #[.int .i64 1, .int .i64 0, .string ⟨#[]⟩, .string ⟨l.toArray⟩, .slice none (Fo.len .nil) 0]) := by show Bx _ _ _ _; rw [hv]; exact bx1 w17 _ _
            have hb_ : Below w17.heap.size w17 w18 := by rw [hv]; exact below_alloc _ _
            clear hv
            have z20_ := Y.out.lt
            replace B := Lib.hid (be_call B.out hb_)
            replace F := Lib.hid (F.out.keep hb_)
            replace K := Lib.hid (K.out.keep hb_)
            replace FM := Lib.hid (FM.out.keep hb_)
            replace M := Lib.hid (M.out.keep hb_)
            have z21_ := hb_.size
            clear hb_
            have hlm : l.length ≤ 9223372036854775807 := by have := HM.out; simpa [maxLen, ByteArray.size] using this
            have HLM := Lib.hid hlm; clear hlm
            have HC := Lib.hid (right_ok (x := ⟨1, 0, [], l, .nil⟩) (D := fun _ => True) (w := w18) (q := none) (d := 0) ⟨Nat.zero_le _, HLM.out, Nat.zero_le _, trivial⟩ FoS.nil)
            rw [right_name] at HC
            unfold hdC at HC
            have pY_0 := Y.out.at.1 0
            have pY_1 := Y.out.at.1 1
            have pY_2 := Y.out.at.1 2
            have pY_3 := Y.out.at.1 3
            have pY_4 := Y.out.at.1 4
            go_wp2_with fail
            clear pY_0 pY_1 pY_2 pY_3 pY_4
            refine (HC.out).mono ?_
            rintro e w19 ⟨rfl, hb⟩
            clear HC
            replace B := Lib.hid (be_call B.out hb)
            replace F := Lib.hid (F.out.keep hb)
            replace K := Lib.hid (K.out.keep hb)
            replace FM := Lib.hid (FM.out.keep hb)
            replace M := Lib.hid (M.out.keep hb)
            replace Y := Lib.hid (Y.out.keep hb)
            have z22_ := hb.size
            clear hb
            go_wp2_with fail
            refine (name_any _ _ (by have := HLM.out; simpa [maxLen, ByteArray.size] using this)).mono ?_
            rintro e w19 ⟨rfl, rfl⟩
            rw [show (ByteArray.mk l.toArray).data.toList = l by simp]
            unfold namedB
            cases nameOk l with
            | false =>
              go_wp2_with fail
              go_ret
              exact ⟨by simp, B.out⟩
            | true =>
              obtain ⟨wb, hwb⟩ : ∃ wb, wordB l = wb := ⟨_, rfl⟩
              have HWB := Lib.hid hwb
              rw [hwb]
              clear hwb
              go_wp2_with fail
              refine (word_ok ⟨l.toArray⟩ (b_ := wb) (by rw [Lib.toList_data]; exact HWB.out)).mono ?_
              rintro e w19 ⟨rfl, rfl⟩
              cases wb with
              | false =>
                go_wp2_with fail
                go_ret
                exact ⟨by simp, B.out⟩
              | true =>
                go_wp2_with fail
                go_ret
                exact ⟨by simp, B.out⟩
        · skip
          go_simp
          refine nmW (w8.alloc (.cells #[.int .i64 0, .int .i64 0, .string ⟨#[]⟩, .string ⟨#[]⟩, .slice none 0 0] 24)) fun w20 hv => ?_
          rw [← hv]
          have M : Hid (Bx w20 w8.heap.size 24 #[.int .i64 0, .int .i64 0, .string ⟨#[]⟩, .string ⟨#[]⟩, .slice none 0 0]) := by show Bx _ _ _ _; rw [hv]; exact bx1 _ _ _
          have hb_ : Below w8.heap.size w8 w20 := by rw [hv]; exact below_alloc _ _
          clear hv
          have hM := M.out.lt
          replace B := Lib.hid (be_call B.out hb_)
          replace F := Lib.hid (F.out.keep hb_)
          replace K := Lib.hid (K.out.keep hb_)
          have z23_ := hb_.size
          clear hb_
          refine hK.out _ _ (K.out.d5) (fun hH2 => ?_)
          clear hK K_ hH
          have hH := hH2; clear hH2
          (try simp only [Act.put, List.setIfInBounds_toArray, List.set_cons_zero, List.set_cons_succ])
          refine wpAnyH_ready (rs := [2]) (by kernel_rfl) (by simp) ?_
          refine AllReadyH.cons at2 (fun K_ hK => ?_) AllReadyH.nil
          go_simp
          refine (ltwo_D 10 (x := x) (y := (Ex.mk 0 1 [] [] .nil)) (q2 := none) (d2 := 0) F.out FoS.nil).mono ?_
          rintro e w21 ⟨qm, dm, rfl, hf, hb⟩
          replace B := Lib.hid (be_call B.out hb)
          replace F := Lib.hid (F.out.keep hb)
          replace K := Lib.hid (K.out.keep hb)
          replace M := Lib.hid (M.out.keep hb)
          have z24_ := hb.size
          clear hb
          have FM := Lib.hid hf; clear hf
          unfold hdC
          (try go_wp2_with fail)
          refine hK.out _ _ (K.out.d5) (fun hH2 => ?_)
          clear hK K_ hH
          have hH := hH2; clear hH2
          (try simp only [Act.put, List.setIfInBounds_toArray, List.set_cons_zero, List.set_cons_succ])
          refine wpAnyH_ready (rs := [4]) (by kernel_rfl) (by simp) ?_
          refine AllReadyH.cons at4 (fun K_ hK => ?_) AllReadyH.nil
          have pM_0 := M.out.at.1 0
          have qM_0 := M.out.at.2 0
          have pM_1 := M.out.at.1 1
          have qM_1 := M.out.at.2 1
          have pM_2 := M.out.at.1 2
          have qM_2 := M.out.at.2 2
          have pM_3 := M.out.at.1 3
          have qM_3 := M.out.at.2 3
          have pM_4 := M.out.at.1 4
          have qM_4 := M.out.at.2 4
          go_simp
          clear pM_0 qM_0 pM_1 qM_1 pM_2 qM_2 pM_3 qM_3 pM_4 qM_4
          refine nmW (((((w21.setCell ⟨w8.heap.size, 0, none⟩ (.int .i64 10)).setCell ⟨w8.heap.size, 1, none⟩ (.int .i64 0)).setCell ⟨w8.heap.size, 2, none⟩ (.string ⟨#[]⟩)).setCell ⟨w8.heap.size, 3, none⟩ (.string ⟨#[]⟩)).setCell ⟨w8.heap.size, 4, none⟩ (.slice qm (Fo.len (x.then ((Ex.mk 0 1 [] [] .nil).then .nil))) dm)) fun w22 hv => ?_
          rw [← hv]
          have og_ : w21.grownBy w22 (some w8.heap.size) := by rw [hv]; exact (gr_trans (gr_trans (gr_trans (gr_trans (gr_set _ _ _ _) (gr_set _ _ _ _)) (gr_set _ _ _ _)) (gr_set _ _ _ _)) (gr_set _ _ _ _))
          have kb_ : Bx w22 w8.heap.size 24 #[.int .i64 10, .int .i64 0, .string ⟨#[]⟩, .string ⟨#[]⟩, .slice qm (Fo.len (x.then ((Ex.mk 0 1 [] [] .nil).then .nil))) dm] := by rw [hv]; exact (((((M.out.set 0 _).set 1 _).set 2 _).set 3 _).set 4 _)
          clear hv
          replace B := Lib.hid (B.out.trans (gr_to og_ (by omega) B.out.size))
          replace F := Lib.hid (F.out.grown og_ (by omega))
          replace K := Lib.hid (K.out.only og_ (by omega))
          replace M := Lib.hid kb_
          replace FM := Lib.hid (FM.out.grown og_ (fun h => by
            rcases h with h | h
            · omega
            · have := h.1; have := h.2; omega))
          have z25_ := og_.size
          clear og_ kb_
          refine hK.out _ _ (K.out.d5) (fun hH2 => ?_)
          clear hK K_ hH
          have hH := hH2; clear hH2
          (try simp only [Act.put, List.setIfInBounds_toArray, List.set_cons_zero, List.set_cons_succ])
          refine wpAnyH_done (by kernel_rfl) ?_ _
          clear hH
          obtain ⟨fb, hfb⟩ : ∃ fb, (szF ((minX x).then .nil) 200 20).isSome = fb := ⟨_, rfl⟩
          have HFB := Lib.hid hfb; clear hfb
          have HRM : Hid (rightX (minX x) = fb) := by show _ = _; rw [right_min, HR.out, HFB.out]; simp
          have HC := Lib.hid (right_ok (x := minX x) (smX_min SM.out) FM.out)
          rw [HRM.out] at HC
          unfold hdC minX at HC
          have pM_0 := M.out.at.1 0
          have pM_1 := M.out.at.1 1
          have pM_2 := M.out.at.1 2
          have pM_3 := M.out.at.1 3
          have pM_4 := M.out.at.1 4
          go_wp2_with fail
          clear pM_0 pM_1 pM_2 pM_3 pM_4
          refine (HC.out).mono ?_
          rintro e w23 ⟨rfl, hb⟩
          clear HC
          replace B := Lib.hid (be_call B.out hb)
          replace F := Lib.hid (F.out.keep hb)
          replace K := Lib.hid (K.out.keep hb)
          replace M := Lib.hid (M.out.keep hb)
          replace FM := Lib.hid (FM.out.keep hb)
          have z26_ := hb.size
          clear hb
          have HC := Lib.hid (few_ok (x := minX x) (b := 200) (lv := 20) (smX_min SM.out) FM.out (by decide) (by decide) HFB.out)
          rw [show ((200 : Nat) : Int) = 200 from rfl, show ((20 : Nat) : Int) = 20 from rfl] at HC
          unfold hdC minX at HC
          have pM_0 := M.out.at.1 0
          have pM_1 := M.out.at.1 1
          have pM_2 := M.out.at.1 2
          have pM_3 := M.out.at.1 3
          have pM_4 := M.out.at.1 4
          go_wp2_with fail
          clear pM_0 pM_1 pM_2 pM_3 pM_4
          refine (HC.out).mono ?_
          rintro e w24 ⟨rfl, hb⟩
          clear HC
          replace B := Lib.hid (be_call B.out hb)
          replace F := Lib.hid (F.out.keep hb)
          replace K := Lib.hid (K.out.keep hb)
          replace M := Lib.hid (M.out.keep hb)
          replace FM := Lib.hid (FM.out.keep hb)
          have z27_ := hb.size
          clear hb
          clear HRM HFB
          cases fb with
          | false =>
            go_wp2_with fail
            obtain ⟨l, hsl⟩ : ∃ l : Bytes, s = ⟨l.toArray⟩ := ⟨s.data.toList, by simp⟩
            subst hsl
            refine (lname_ok l).mono ?_
            rintro e w25 ⟨rfl, hb⟩
            replace B := Lib.hid (be_call B.out hb)
            replace F := Lib.hid (F.out.keep hb)
            replace K := Lib.hid (K.out.keep hb)
            replace M := Lib.hid (M.out.keep hb)
            replace FM := Lib.hid (FM.out.keep hb)
            have z28_ := hb.size
            clear hb
            unfold hdC
            go_upto_region 16 with fail
            refine nmW (w25.alloc (.cells #[.int .i64 1, .int .i64 0, .string ⟨#[]⟩, .string ⟨l.toArray⟩, .slice none (Fo.len .nil) 0] 24)) fun w26 hv => ?_
            rw [← hv]
            have Y : Hid (Bx w26 w25.heap.size 24 #[.int .i64 1, .int .i64 0, .string ⟨#[]⟩, .string ⟨l.toArray⟩, .slice none (Fo.len .nil) 0]) := by show Bx _ _ _ _; rw [hv]; exact bx1 w25 _ _
            have hb_ : Below w25.heap.size w25 w26 := by rw [hv]; exact below_alloc _ _
            clear hv
            have z29_ := Y.out.lt
            replace B := Lib.hid (be_call B.out hb_)
            replace F := Lib.hid (F.out.keep hb_)
            replace K := Lib.hid (K.out.keep hb_)
            replace M := Lib.hid (M.out.keep hb_)
            replace FM := Lib.hid (FM.out.keep hb_)
            have z30_ := hb_.size
            clear hb_
            have hlm : l.length ≤ 9223372036854775807 := by have := HM.out; simpa [maxLen, ByteArray.size] using this
            have HLM := Lib.hid hlm; clear hlm
            have HC := Lib.hid (right_ok (x := ⟨1, 0, [], l, .nil⟩) (D := fun _ => True) (w := w26) (q := none) (d := 0) ⟨Nat.zero_le _, HLM.out, Nat.zero_le _, trivial⟩ FoS.nil)
            rw [right_name] at HC
            unfold hdC at HC
            have pY_0 := Y.out.at.1 0
            have pY_1 := Y.out.at.1 1
            have pY_2 := Y.out.at.1 2
            have pY_3 := Y.out.at.1 3
            have pY_4 := Y.out.at.1 4
            go_wp2_with fail
            clear pY_0 pY_1 pY_2 pY_3 pY_4
            refine (HC.out).mono ?_
            rintro e w27 ⟨rfl, hb⟩
            clear HC
            replace B := Lib.hid (be_call B.out hb)
            replace F := Lib.hid (F.out.keep hb)
            replace K := Lib.hid (K.out.keep hb)
            replace M := Lib.hid (M.out.keep hb)
            replace FM := Lib.hid (FM.out.keep hb)
            replace Y := Lib.hid (Y.out.keep hb)
            have z31_ := hb.size
            clear hb
            go_wp2_with fail
            refine (name_any _ _ (by have := HLM.out; simpa [maxLen, ByteArray.size] using this)).mono ?_
            rintro e w27 ⟨rfl, rfl⟩
            rw [show (ByteArray.mk l.toArray).data.toList = l by simp]
            unfold namedB
            cases nameOk l with
            | false =>
              go_wp2_with fail
              go_ret
              exact ⟨by simp, B.out⟩
            | true =>
              obtain ⟨wb, hwb⟩ : ∃ wb, wordB l = wb := ⟨_, rfl⟩
              have HWB := Lib.hid hwb
              rw [hwb]
              clear hwb
              go_wp2_with fail
              refine (word_ok ⟨l.toArray⟩ (b_ := wb) (by rw [Lib.toList_data]; exact HWB.out)).mono ?_
              rintro e w27 ⟨rfl, rfl⟩
              cases wb with
              | false =>
                go_wp2_with fail
                go_ret
                exact ⟨by simp, B.out⟩
              | true =>
                go_wp2_with fail
                go_ret
                exact ⟨by simp, B.out⟩
          | true =>
            go_wp2_with fail
            obtain ⟨l, hsl⟩ : ∃ l : Bytes, s = ⟨l.toArray⟩ := ⟨s.data.toList, by simp⟩
            subst hsl
            refine (lname_ok l).mono ?_
            rintro e w28 ⟨rfl, hb⟩
            replace B := Lib.hid (be_call B.out hb)
            replace F := Lib.hid (F.out.keep hb)
            replace K := Lib.hid (K.out.keep hb)
            replace M := Lib.hid (M.out.keep hb)
            replace FM := Lib.hid (FM.out.keep hb)
            have z32_ := hb.size
            clear hb
            unfold hdC
            go_upto_region 16 with fail
            refine nmW (w28.alloc (.cells #[.int .i64 1, .int .i64 0, .string ⟨#[]⟩, .string ⟨l.toArray⟩, .slice none (Fo.len .nil) 0] 24)) fun w29 hv => ?_
            rw [← hv]
            have Y : Hid (Bx w29 w28.heap.size 24 #[.int .i64 1, .int .i64 0, .string ⟨#[]⟩, .string ⟨l.toArray⟩, .slice none (Fo.len .nil) 0]) := by show Bx _ _ _ _; rw [hv]; exact bx1 w28 _ _
            have hb_ : Below w28.heap.size w28 w29 := by rw [hv]; exact below_alloc _ _
            clear hv
            have z33_ := Y.out.lt
            replace B := Lib.hid (be_call B.out hb_)
            replace F := Lib.hid (F.out.keep hb_)
            replace K := Lib.hid (K.out.keep hb_)
            replace M := Lib.hid (M.out.keep hb_)
            replace FM := Lib.hid (FM.out.keep hb_)
            have z34_ := hb_.size
            clear hb_
            have hlm : l.length ≤ 9223372036854775807 := by have := HM.out; simpa [maxLen, ByteArray.size] using this
            have HLM := Lib.hid hlm; clear hlm
            have HC := Lib.hid (right_ok (x := ⟨1, 0, [], l, .nil⟩) (D := fun _ => True) (w := w29) (q := none) (d := 0) ⟨Nat.zero_le _, HLM.out, Nat.zero_le _, trivial⟩ FoS.nil)
            rw [right_name] at HC
            unfold hdC at HC
            have pY_0 := Y.out.at.1 0
            have pY_1 := Y.out.at.1 1
            have pY_2 := Y.out.at.1 2
            have pY_3 := Y.out.at.1 3
            have pY_4 := Y.out.at.1 4
            go_wp2_with fail
            clear pY_0 pY_1 pY_2 pY_3 pY_4
            refine (HC.out).mono ?_
            rintro e w30 ⟨rfl, hb⟩
            clear HC
            replace B := Lib.hid (be_call B.out hb)
            replace F := Lib.hid (F.out.keep hb)
            replace K := Lib.hid (K.out.keep hb)
            replace M := Lib.hid (M.out.keep hb)
            replace FM := Lib.hid (FM.out.keep hb)
            replace Y := Lib.hid (Y.out.keep hb)
            have z35_ := hb.size
            clear hb
            go_wp2_with fail
            refine (name_any _ _ (by have := HLM.out; simpa [maxLen, ByteArray.size] using this)).mono ?_
            rintro e w30 ⟨rfl, rfl⟩
            rw [show (ByteArray.mk l.toArray).data.toList = l by simp]
            unfold namedB
            cases nameOk l with
            | false =>
              go_wp2_with fail
              go_ret
              exact ⟨by simp, B.out⟩
            | true =>
              obtain ⟨wb, hwb⟩ : ∃ wb, wordB l = wb := ⟨_, rfl⟩
              have HWB := Lib.hid hwb
              rw [hwb]
              clear hwb
              go_wp2_with fail
              refine (word_ok ⟨l.toArray⟩ (b_ := wb) (by rw [Lib.toList_data]; exact HWB.out)).mono ?_
              rintro e w30 ⟨rfl, rfl⟩
              cases wb with
              | false =>
                go_wp2_with fail
                go_ret
                exact ⟨by simp, B.out⟩
              | true =>
                go_wp2_with fail
                go_ret
                exact ⟨by simp, B.out⟩
      · skip
        go_simp
        refine nmW (w7.alloc (.cells #[.int .i64 0, .int .i64 0, .string ⟨#[]⟩, .string ⟨#[]⟩, .slice none 0 0] 24)) fun w31 hv => ?_
        rw [← hv]
        have M : Hid (Bx w31 w7.heap.size 24 #[.int .i64 0, .int .i64 0, .string ⟨#[]⟩, .string ⟨#[]⟩, .slice none 0 0]) := by show Bx _ _ _ _; rw [hv]; exact bx1 _ _ _
        have hb_ : Below w7.heap.size w7 w31 := by rw [hv]; exact below_alloc _ _
        clear hv
        have hM := M.out.lt
        replace B := Lib.hid (be_call B.out hb_)
        replace F := Lib.hid (F.out.keep hb_)
        replace K := Lib.hid (K.out.keep hb_)
        have z36_ := hb_.size
        clear hb_
        refine hK.out _ _ (K.out.d5) (fun hH2 => ?_)
        clear hK K_ hH
        have hH := hH2; clear hH2
        (try simp only [Act.put, List.setIfInBounds_toArray, List.set_cons_zero, List.set_cons_succ])
        refine wpAnyH_ready (rs := [1]) (by kernel_rfl) (by simp) ?_
        refine AllReadyH.cons at1 (fun K_ hK => ?_) AllReadyH.nil
        go_simp
        refine (lnumber_ok 1).mono ?_
        rintro e w32 ⟨rfl, hb⟩
        replace B := Lib.hid (be_call B.out hb)
        replace F := Lib.hid (F.out.keep hb)
        replace K := Lib.hid (K.out.keep hb)
        replace M := Lib.hid (M.out.keep hb)
        have z37_ := hb.size
        clear hb
        (try go_wp2_with fail)
        refine hK.out _ _ (K.out.d5) (fun hH2 => ?_)
        clear hK K_ hH
        have hH := hH2; clear hH2
        (try simp only [Act.put, List.setIfInBounds_toArray, List.set_cons_zero, List.set_cons_succ])
        refine wpAnyH_ready (rs := [2]) (by kernel_rfl) (by simp) ?_
        refine AllReadyH.cons at2 (fun K_ hK => ?_) AllReadyH.nil
        go_simp
        refine (ltwo_D 10 (x := x) (y := (Ex.mk 0 1 [] [] .nil)) (q2 := none) (d2 := 0) F.out FoS.nil).mono ?_
        rintro e w33 ⟨qm, dm, rfl, hf, hb⟩
        replace B := Lib.hid (be_call B.out hb)
        replace F := Lib.hid (F.out.keep hb)
        replace K := Lib.hid (K.out.keep hb)
        replace M := Lib.hid (M.out.keep hb)
        have z38_ := hb.size
        clear hb
        have FM := Lib.hid hf; clear hf
        unfold hdC
        (try go_wp2_with fail)
        refine hK.out _ _ (K.out.d5) (fun hH2 => ?_)
        clear hK K_ hH
        have hH := hH2; clear hH2
        (try simp only [Act.put, List.setIfInBounds_toArray, List.set_cons_zero, List.set_cons_succ])
        refine wpAnyH_ready (rs := [4]) (by kernel_rfl) (by simp) ?_
        refine AllReadyH.cons at4 (fun K_ hK => ?_) AllReadyH.nil
        have pM_0 := M.out.at.1 0
        have qM_0 := M.out.at.2 0
        have pM_1 := M.out.at.1 1
        have qM_1 := M.out.at.2 1
        have pM_2 := M.out.at.1 2
        have qM_2 := M.out.at.2 2
        have pM_3 := M.out.at.1 3
        have qM_3 := M.out.at.2 3
        have pM_4 := M.out.at.1 4
        have qM_4 := M.out.at.2 4
        go_simp
        clear pM_0 qM_0 pM_1 qM_1 pM_2 qM_2 pM_3 qM_3 pM_4 qM_4
        refine nmW (((((w33.setCell ⟨w7.heap.size, 0, none⟩ (.int .i64 10)).setCell ⟨w7.heap.size, 1, none⟩ (.int .i64 0)).setCell ⟨w7.heap.size, 2, none⟩ (.string ⟨#[]⟩)).setCell ⟨w7.heap.size, 3, none⟩ (.string ⟨#[]⟩)).setCell ⟨w7.heap.size, 4, none⟩ (.slice qm (Fo.len (x.then ((Ex.mk 0 1 [] [] .nil).then .nil))) dm)) fun w34 hv => ?_
        rw [← hv]
        have og_ : w33.grownBy w34 (some w7.heap.size) := by rw [hv]; exact (gr_trans (gr_trans (gr_trans (gr_trans (gr_set _ _ _ _) (gr_set _ _ _ _)) (gr_set _ _ _ _)) (gr_set _ _ _ _)) (gr_set _ _ _ _))
        have kb_ : Bx w34 w7.heap.size 24 #[.int .i64 10, .int .i64 0, .string ⟨#[]⟩, .string ⟨#[]⟩, .slice qm (Fo.len (x.then ((Ex.mk 0 1 [] [] .nil).then .nil))) dm] := by rw [hv]; exact (((((M.out.set 0 _).set 1 _).set 2 _).set 3 _).set 4 _)
        clear hv
        replace B := Lib.hid (B.out.trans (gr_to og_ (by omega) B.out.size))
        replace F := Lib.hid (F.out.grown og_ (by omega))
        replace K := Lib.hid (K.out.only og_ (by omega))
        replace M := Lib.hid kb_
        replace FM := Lib.hid (FM.out.grown og_ (fun h => by
          rcases h with h | h
          · omega
          · have := h.1; have := h.2; omega))
        have z39_ := og_.size
        clear og_ kb_
        refine hK.out _ _ (K.out.d5) (fun hH2 => ?_)
        clear hK K_ hH
        have hH := hH2; clear hH2
        (try simp only [Act.put, List.setIfInBounds_toArray, List.set_cons_zero, List.set_cons_succ])
        refine wpAnyH_done (by kernel_rfl) ?_ _
        clear hH
        obtain ⟨fb, hfb⟩ : ∃ fb, (szF ((minX x).then .nil) 200 20).isSome = fb := ⟨_, rfl⟩
        have HFB := Lib.hid hfb; clear hfb
        have HRM : Hid (rightX (minX x) = fb) := by show _ = _; rw [right_min, HR.out, HFB.out]; simp
        have HC := Lib.hid (right_ok (x := minX x) (smX_min SM.out) FM.out)
        rw [HRM.out] at HC
        unfold hdC minX at HC
        have pM_0 := M.out.at.1 0
        have pM_1 := M.out.at.1 1
        have pM_2 := M.out.at.1 2
        have pM_3 := M.out.at.1 3
        have pM_4 := M.out.at.1 4
        go_wp2_with fail
        clear pM_0 pM_1 pM_2 pM_3 pM_4
        refine (HC.out).mono ?_
        rintro e w35 ⟨rfl, hb⟩
        clear HC
        replace B := Lib.hid (be_call B.out hb)
        replace F := Lib.hid (F.out.keep hb)
        replace K := Lib.hid (K.out.keep hb)
        replace M := Lib.hid (M.out.keep hb)
        replace FM := Lib.hid (FM.out.keep hb)
        have z40_ := hb.size
        clear hb
        have HC := Lib.hid (few_ok (x := minX x) (b := 200) (lv := 20) (smX_min SM.out) FM.out (by decide) (by decide) HFB.out)
        rw [show ((200 : Nat) : Int) = 200 from rfl, show ((20 : Nat) : Int) = 20 from rfl] at HC
        unfold hdC minX at HC
        have pM_0 := M.out.at.1 0
        have pM_1 := M.out.at.1 1
        have pM_2 := M.out.at.1 2
        have pM_3 := M.out.at.1 3
        have pM_4 := M.out.at.1 4
        go_wp2_with fail
        clear pM_0 pM_1 pM_2 pM_3 pM_4
        refine (HC.out).mono ?_
        rintro e w36 ⟨rfl, hb⟩
        clear HC
        replace B := Lib.hid (be_call B.out hb)
        replace F := Lib.hid (F.out.keep hb)
        replace K := Lib.hid (K.out.keep hb)
        replace M := Lib.hid (M.out.keep hb)
        replace FM := Lib.hid (FM.out.keep hb)
        have z41_ := hb.size
        clear hb
        clear HRM HFB
        cases fb with
        | false =>
          go_wp2_with fail
          obtain ⟨l, hsl⟩ : ∃ l : Bytes, s = ⟨l.toArray⟩ := ⟨s.data.toList, by simp⟩
          subst hsl
          refine (lname_ok l).mono ?_
          rintro e w37 ⟨rfl, hb⟩
          replace B := Lib.hid (be_call B.out hb)
          replace F := Lib.hid (F.out.keep hb)
          replace K := Lib.hid (K.out.keep hb)
          replace M := Lib.hid (M.out.keep hb)
          replace FM := Lib.hid (FM.out.keep hb)
          have z42_ := hb.size
          clear hb
          unfold hdC
          go_upto_region 16 with fail
          refine nmW (w37.alloc (.cells #[.int .i64 1, .int .i64 0, .string ⟨#[]⟩, .string ⟨l.toArray⟩, .slice none (Fo.len .nil) 0] 24)) fun w38 hv => ?_
          rw [← hv]
          have Y : Hid (Bx w38 w37.heap.size 24 #[.int .i64 1, .int .i64 0, .string ⟨#[]⟩, .string ⟨l.toArray⟩, .slice none (Fo.len .nil) 0]) := by show Bx _ _ _ _; rw [hv]; exact bx1 w37 _ _
          have hb_ : Below w37.heap.size w37 w38 := by rw [hv]; exact below_alloc _ _
          clear hv
          have z43_ := Y.out.lt
          replace B := Lib.hid (be_call B.out hb_)
          replace F := Lib.hid (F.out.keep hb_)
          replace K := Lib.hid (K.out.keep hb_)
          replace M := Lib.hid (M.out.keep hb_)
          replace FM := Lib.hid (FM.out.keep hb_)
          have z44_ := hb_.size
          clear hb_
          have hlm : l.length ≤ 9223372036854775807 := by have := HM.out; simpa [maxLen, ByteArray.size] using this
          have HLM := Lib.hid hlm; clear hlm
          have HC := Lib.hid (right_ok (x := ⟨1, 0, [], l, .nil⟩) (D := fun _ => True) (w := w38) (q := none) (d := 0) ⟨Nat.zero_le _, HLM.out, Nat.zero_le _, trivial⟩ FoS.nil)
          rw [right_name] at HC
          unfold hdC at HC
          have pY_0 := Y.out.at.1 0
          have pY_1 := Y.out.at.1 1
          have pY_2 := Y.out.at.1 2
          have pY_3 := Y.out.at.1 3
          have pY_4 := Y.out.at.1 4
          go_wp2_with fail
          clear pY_0 pY_1 pY_2 pY_3 pY_4
          refine (HC.out).mono ?_
          rintro e w39 ⟨rfl, hb⟩
          clear HC
          replace B := Lib.hid (be_call B.out hb)
          replace F := Lib.hid (F.out.keep hb)
          replace K := Lib.hid (K.out.keep hb)
          replace M := Lib.hid (M.out.keep hb)
          replace FM := Lib.hid (FM.out.keep hb)
          replace Y := Lib.hid (Y.out.keep hb)
          have z45_ := hb.size
          clear hb
          go_wp2_with fail
          refine (name_any _ _ (by have := HLM.out; simpa [maxLen, ByteArray.size] using this)).mono ?_
          rintro e w39 ⟨rfl, rfl⟩
          rw [show (ByteArray.mk l.toArray).data.toList = l by simp]
          unfold namedB
          cases nameOk l with
          | false =>
            go_wp2_with fail
            go_ret
            exact ⟨by simp, B.out⟩
          | true =>
            obtain ⟨wb, hwb⟩ : ∃ wb, wordB l = wb := ⟨_, rfl⟩
            have HWB := Lib.hid hwb
            rw [hwb]
            clear hwb
            go_wp2_with fail
            refine (word_ok ⟨l.toArray⟩ (b_ := wb) (by rw [Lib.toList_data]; exact HWB.out)).mono ?_
            rintro e w39 ⟨rfl, rfl⟩
            cases wb with
            | false =>
              go_wp2_with fail
              go_ret
              exact ⟨by simp, B.out⟩
            | true =>
              go_wp2_with fail
              go_ret
              exact ⟨by simp, B.out⟩
        | true =>
          go_wp2_with fail
          obtain ⟨l, hsl⟩ : ∃ l : Bytes, s = ⟨l.toArray⟩ := ⟨s.data.toList, by simp⟩
          subst hsl
          refine (lname_ok l).mono ?_
          rintro e w40 ⟨rfl, hb⟩
          replace B := Lib.hid (be_call B.out hb)
          replace F := Lib.hid (F.out.keep hb)
          replace K := Lib.hid (K.out.keep hb)
          replace M := Lib.hid (M.out.keep hb)
          replace FM := Lib.hid (FM.out.keep hb)
          have z46_ := hb.size
          clear hb
          unfold hdC
          go_upto_region 16 with fail
          refine nmW (w40.alloc (.cells #[.int .i64 1, .int .i64 0, .string ⟨#[]⟩, .string ⟨l.toArray⟩, .slice none (Fo.len .nil) 0] 24)) fun w41 hv => ?_
          rw [← hv]
          have Y : Hid (Bx w41 w40.heap.size 24 #[.int .i64 1, .int .i64 0, .string ⟨#[]⟩, .string ⟨l.toArray⟩, .slice none (Fo.len .nil) 0]) := by show Bx _ _ _ _; rw [hv]; exact bx1 w40 _ _
          have hb_ : Below w40.heap.size w40 w41 := by rw [hv]; exact below_alloc _ _
          clear hv
          have z47_ := Y.out.lt
          replace B := Lib.hid (be_call B.out hb_)
          replace F := Lib.hid (F.out.keep hb_)
          replace K := Lib.hid (K.out.keep hb_)
          replace M := Lib.hid (M.out.keep hb_)
          replace FM := Lib.hid (FM.out.keep hb_)
          have z48_ := hb_.size
          clear hb_
          have hlm : l.length ≤ 9223372036854775807 := by have := HM.out; simpa [maxLen, ByteArray.size] using this
          have HLM := Lib.hid hlm; clear hlm
          have HC := Lib.hid (right_ok (x := ⟨1, 0, [], l, .nil⟩) (D := fun _ => True) (w := w41) (q := none) (d := 0) ⟨Nat.zero_le _, HLM.out, Nat.zero_le _, trivial⟩ FoS.nil)
          rw [right_name] at HC
          unfold hdC at HC
          have pY_0 := Y.out.at.1 0
          have pY_1 := Y.out.at.1 1
          have pY_2 := Y.out.at.1 2
          have pY_3 := Y.out.at.1 3
          have pY_4 := Y.out.at.1 4
          go_wp2_with fail
          clear pY_0 pY_1 pY_2 pY_3 pY_4
          refine (HC.out).mono ?_
          rintro e w42 ⟨rfl, hb⟩
          clear HC
          replace B := Lib.hid (be_call B.out hb)
          replace F := Lib.hid (F.out.keep hb)
          replace K := Lib.hid (K.out.keep hb)
          replace M := Lib.hid (M.out.keep hb)
          replace FM := Lib.hid (FM.out.keep hb)
          replace Y := Lib.hid (Y.out.keep hb)
          have z49_ := hb.size
          clear hb
          go_wp2_with fail
          refine (name_any _ _ (by have := HLM.out; simpa [maxLen, ByteArray.size] using this)).mono ?_
          rintro e w42 ⟨rfl, rfl⟩
          rw [show (ByteArray.mk l.toArray).data.toList = l by simp]
          unfold namedB
          cases nameOk l with
          | false =>
            go_wp2_with fail
            go_ret
            exact ⟨by simp, B.out⟩
          | true =>
            obtain ⟨wb, hwb⟩ : ∃ wb, wordB l = wb := ⟨_, rfl⟩
            have HWB := Lib.hid hwb
            rw [hwb]
            clear hwb
            go_wp2_with fail
            refine (word_ok ⟨l.toArray⟩ (b_ := wb) (by rw [Lib.toList_data]; exact HWB.out)).mono ?_
            rintro e w42 ⟨rfl, rfl⟩
            cases wb with
            | false =>
              go_wp2_with fail
              go_ret
              exact ⟨by simp, B.out⟩
            | true =>
              go_wp2_with fail
              go_ret
              exact ⟨by simp, B.out⟩
set_option maxRecDepth 100000 in
set_option maxHeartbeats 4000000 in
theorem parts_not {x : Ex} {D : Nat → Prop} {w : World} {q : Option Addr} {d : Nat} (s : ByteArray) (hm : s.size ≤ maxLen) (hsm : smX x) (hS : FoS D w q d x.args) (hsig : SignsIn w) (hT : PowT w.heap.size w) (hf : (szF (x.then .nil) 250 24).isSome = true) (hl : ¬ 60 < s.size) (hr : rightX x = false) :
    Calls Tryd.prog 5 #[.agg (hdC x q d).toArray, .string s] w fun e w' => e = .returned (.bool true) ∧ Below w.heap.size w w' := by
  have HG := Lib.hid hsig; have T := Lib.hid hT; have F := Lib.hid (hS.mono (fun _ _ => trivial) : FoT w q d x.args); have SM := Lib.hid hsm; have HM := Lib.hid hm
  have B : Hid (Below w.heap.size w w) := be_refl w
  clear hsig hT hS hsm hm
  unfold hdC
  go_enter Tryd.func5, Tryd.ntmps5
  go_upto_region 1 with fail
  refine nmW (w.alloc (.cells #[.int .i64 x.op, .int .i64 x.n, .string ⟨x.unit.toArray⟩, .string ⟨x.name.toArray⟩, .slice q x.args.len d] 24)) fun w1 hv => ?_
  rw [← hv]
  have K : Hid (Bx w1 w.heap.size 24 #[.int .i64 x.op, .int .i64 x.n, .string ⟨x.unit.toArray⟩, .string ⟨x.name.toArray⟩, .slice q x.args.len d]) := by show Bx _ _ _ _; rw [hv]; exact bx1 w _ _
  have hb_ : Below w.heap.size w w1 := by rw [hv]; exact below_alloc _ _
  clear hv
  have z1_ := K.out.lt
  replace B := Lib.hid (be_call B.out hb_)
  replace HG := Lib.hid (HG.out.keep hb_)
  replace T := Lib.hid (T.out.keepG (hb_.mono (by omega)))
  replace F := Lib.hid (F.out.keep hb_)
  have z2_ := hb_.size
  clear hb_
  go_wp2_with fail
  refine (sane_ok HG.out (T.out.mono (by omega))).mono ?_
  rintro e w2 ⟨rfl, hb⟩
  replace B := Lib.hid (be_call B.out hb)
  replace HG := Lib.hid (HG.out.keep hb)
  replace T := Lib.hid (T.out.keepG (hb.mono (by omega)))
  replace F := Lib.hid (F.out.keep hb)
  replace K := Lib.hid (K.out.keep hb)
  have z3_ := hb.size
  clear hb
  have hli : ¬ (60 : Int) < (s.size : Int) := by omega
  have HR := Lib.hid hr; have HF := Lib.hid hf; clear hr hf
  have HC := Lib.hid (few_ok (b := 250) (lv := 24) SM.out F.out (by decide) (by decide) HF.out)
  rw [show ((250 : Nat) : Int) = 250 from rfl, show ((24 : Nat) : Int) = 24 from rfl] at HC
  unfold hdC at HC
  have pK_0 := K.out.at.1 0
  have pK_1 := K.out.at.1 1
  have pK_2 := K.out.at.1 2
  have pK_3 := K.out.at.1 3
  have pK_4 := K.out.at.1 4
  go_wp2_with fail
  clear pK_0 pK_1 pK_2 pK_3 pK_4
  refine (HC.out).mono ?_
  rintro e w3 ⟨rfl, hb⟩
  clear HC
  replace B := Lib.hid (be_call B.out hb)
  replace HG := Lib.hid (HG.out.keep hb)
  replace T := Lib.hid (T.out.keepG (hb.mono (by omega)))
  replace F := Lib.hid (F.out.keep hb)
  replace K := Lib.hid (K.out.keep hb)
  have z4_ := hb.size
  clear hb
  have HC := Lib.hid (right_ok (x := x) SM.out F.out)
  rw [HR.out] at HC
  unfold hdC at HC
  have pK_0 := K.out.at.1 0
  have pK_1 := K.out.at.1 1
  have pK_2 := K.out.at.1 2
  have pK_3 := K.out.at.1 3
  have pK_4 := K.out.at.1 4
  go_wp2_with fail
  clear pK_0 pK_1 pK_2 pK_3 pK_4
  refine (HC.out).mono ?_
  rintro e w4 ⟨rfl, hb⟩
  clear HC
  replace B := Lib.hid (be_call B.out hb)
  replace HG := Lib.hid (HG.out.keep hb)
  replace T := Lib.hid (T.out.keepG (hb.mono (by omega)))
  replace F := Lib.hid (F.out.keep hb)
  replace K := Lib.hid (K.out.keep hb)
  have z5_ := hb.size
  clear hb
  have pK_0 := K.out.at.1 0
  have pK_1 := K.out.at.1 1
  have pK_2 := K.out.at.1 2
  have pK_3 := K.out.at.1 3
  have pK_4 := K.out.at.1 4
  go_wp2_with fail
  clear pK_0 pK_1 pK_2 pK_3 pK_4
  go_loopw [7] (fun i wr => ∃ (j : Nat), i = .int .i64 (j : Int) ∧ j ≤ x.args.len ∧ w.heap.size ≤ wr.heap.size ∧ Hid (Bx wr w.heap.size 24 #[.int .i64 x.op, .int .i64 x.n, .string ⟨x.unit.toArray⟩, .string ⟨x.name.toArray⟩, .slice q x.args.len d]) ∧ Hid (FoT wr q d x.args) ∧ Hid (SignsIn wr) ∧ Hid (PowT w.heap.size wr) ∧ Hid (Below w.heap.size w wr)) (fun i _ => x.args.len - (intOf i).toNat)
  case atStart => exact ⟨0, rfl, Nat.zero_le _, by omega, K, F, HG, T, B⟩
  case round =>
    clear K F HG T B
    obtain ⟨j, rfl, hj, hws, K, F, HG, T, B⟩ := hrel
    by_cases hlt : j < x.args.len
    · have hjl : (j : Int) < (x.args.len : Int) := by omega
      have HLT := Lib.hid hlt
      have hal := SM.out.2.2.1
      have pK_0 := K.out.at.1 0
      have pK_1 := K.out.at.1 1
      have pK_2 := K.out.at.1 2
      have pK_3 := K.out.at.1 3
      have pK_4 := K.out.at.1 4
      go_wp2_with fail
      go_roundw
      case rel => exact ⟨j + 1, by go_num, HLT.out, by omega, K, F, HG, T, B⟩
      case measure => have := HLT.out; simp [intOf]; omega
    · have hje : j = x.args.len := by omega
      have hjl : ¬ (j : Int) < (x.args.len : Int) := by omega
      clear hlt
      have pK_0 := K.out.at.1 0
      have pK_1 := K.out.at.1 1
      have pK_2 := K.out.at.1 2
      have pK_3 := K.out.at.1 3
      have pK_4 := K.out.at.1 4
      go_upto_region 12 with fail
      clear pK_0 pK_1 pK_2 pK_3 pK_4
      clear hjl hje hj
      refine nmW wr.drew fun w5 hW => ?_
      have hb_ : Below wr.heap.size wr w5 := by rw [hW]; exact below_drew _
      replace B := Lib.hid (be_call B.out hb_)
      replace HG := Lib.hid (HG.out.keep hb_)
      replace T := Lib.hid (T.out.keepG (hb_.mono (by omega)))
      replace F := Lib.hid (F.out.keep hb_)
      replace K := Lib.hid (K.out.keep hb_)
      have z6_ := hb_.size
      clear hb_
      refine wp_region_held_drew (S := (fun w' => w'.cell? ⟨w.heap.size, 0, none⟩ = some (.int .i64 x.op) ∧ w'.cell? ⟨w.heap.size, 1, none⟩ = some (.int .i64 x.n) ∧ w'.cell? ⟨w.heap.size, 2, none⟩ = some (.string ⟨x.unit.toArray⟩) ∧ w'.cell? ⟨w.heap.size, 3, none⟩ = some (.string ⟨x.name.toArray⟩) ∧ w'.cell? ⟨w.heap.size, 4, none⟩ = some (.slice q x.args.len d))) (by kernel_rfl) (by rw [← hW]; exact K.out.d5) (fun hH => ?_)
      rw [← hW] at hH ⊢
      clear hW
      clear HG T
      have hKl : w.heap.size < w5.heap.size := K.out.lt
      replace F := Lib.hid F.out.inH
      refine tk at0 (v := .agg #[.int .i64 x.op, .int .i64 x.n, .string ⟨x.unit.toArray⟩, .string ⟨x.name.toArray⟩, .slice q x.args.len d]) ?_
      refine wpAnyH_ready (rs := [1, 3]) (by kernel_rfl) (by simp) ?_
      refine AllReadyH.cons at1 (fun K_ hK => ?_) (AllReadyH.cons at3 (fun K_ hK => ?_) AllReadyH.nil)
      · skip
        go_simp
        refine (lnumber_ok 1).mono ?_
        rintro e w6 ⟨rfl, hb⟩
        replace B := Lib.hid (be_call B.out hb)
        replace F := Lib.hid (F.out.keep hb)
        replace K := Lib.hid (K.out.keep hb)
        have z7_ := hb.size
        clear hb
        (try go_wp2_with fail)
        refine hK.out _ _ (K.out.d5) (fun hH2 => ?_)
        clear hK K_ hH
        have hH := hH2; clear hH2
        (try simp only [Act.put, List.setIfInBounds_toArray, List.set_cons_zero, List.set_cons_succ])
        refine wpAnyH_ready (rs := [2, 3]) (by kernel_rfl) (by simp) ?_
        refine AllReadyH.cons at2 (fun K_ hK => ?_) (AllReadyH.cons at3 (fun K_ hK => ?_) AllReadyH.nil)
        · skip
          go_simp
          refine (ltwo_D 10 (x := x) (y := (Ex.mk 0 1 [] [] .nil)) (q2 := none) (d2 := 0) F.out FoS.nil).mono ?_
          rintro e w7 ⟨qm, dm, rfl, hf, hb⟩
          replace B := Lib.hid (be_call B.out hb)
          replace F := Lib.hid (F.out.keep hb)
          replace K := Lib.hid (K.out.keep hb)
          have z8_ := hb.size
          clear hb
          have FM := Lib.hid hf; clear hf
          unfold hdC
          (try go_wp2_with fail)
          refine hK.out _ _ (K.out.d5) (fun hH2 => ?_)
          clear hK K_ hH
          have hH := hH2; clear hH2
          (try simp only [Act.put, List.setIfInBounds_toArray, List.set_cons_zero, List.set_cons_succ])
          refine wpAnyH_ready (rs := [3]) (by kernel_rfl) (by simp) ?_
          refine AllReadyH.cons at3 (fun K_ hK => ?_) AllReadyH.nil
          go_simp
          refine nmW (w7.alloc (.cells #[.int .i64 0, .int .i64 0, .string ⟨#[]⟩, .string ⟨#[]⟩, .slice none 0 0] 24)) fun w8 hv => ?_
          rw [← hv]
          have M : Hid (Bx w8 w7.heap.size 24 #[.int .i64 0, .int .i64 0, .string ⟨#[]⟩, .string ⟨#[]⟩, .slice none 0 0]) := by show Bx _ _ _ _; rw [hv]; exact bx1 _ _ _
          have hb_ : Below w7.heap.size w7 w8 := by rw [hv]; exact below_alloc _ _
          clear hv
          have hM := M.out.lt
          replace B := Lib.hid (be_call B.out hb_)
          replace F := Lib.hid (F.out.keep hb_)
          replace K := Lib.hid (K.out.keep hb_)
          replace FM := Lib.hid (FM.out.keep hb_)
          have z9_ := hb_.size
          clear hb_
          refine hK.out _ _ (K.out.d5) (fun hH2 => ?_)
          clear hK K_ hH
          have hH := hH2; clear hH2
          (try simp only [Act.put, List.setIfInBounds_toArray, List.set_cons_zero, List.set_cons_succ])
          refine wpAnyH_ready (rs := [4]) (by kernel_rfl) (by simp) ?_
          refine AllReadyH.cons at4 (fun K_ hK => ?_) AllReadyH.nil
          have pM_0 := M.out.at.1 0
          have qM_0 := M.out.at.2 0
          have pM_1 := M.out.at.1 1
          have qM_1 := M.out.at.2 1
          have pM_2 := M.out.at.1 2
          have qM_2 := M.out.at.2 2
          have pM_3 := M.out.at.1 3
          have qM_3 := M.out.at.2 3
          have pM_4 := M.out.at.1 4
          have qM_4 := M.out.at.2 4
          go_simp
          clear pM_0 qM_0 pM_1 qM_1 pM_2 qM_2 pM_3 qM_3 pM_4 qM_4
          refine nmW (((((w8.setCell ⟨w7.heap.size, 0, none⟩ (.int .i64 10)).setCell ⟨w7.heap.size, 1, none⟩ (.int .i64 0)).setCell ⟨w7.heap.size, 2, none⟩ (.string ⟨#[]⟩)).setCell ⟨w7.heap.size, 3, none⟩ (.string ⟨#[]⟩)).setCell ⟨w7.heap.size, 4, none⟩ (.slice qm (Fo.len (x.then ((Ex.mk 0 1 [] [] .nil).then .nil))) dm)) fun w9 hv => ?_
          rw [← hv]
          have og_ : w8.grownBy w9 (some w7.heap.size) := by rw [hv]; exact (gr_trans (gr_trans (gr_trans (gr_trans (gr_set _ _ _ _) (gr_set _ _ _ _)) (gr_set _ _ _ _)) (gr_set _ _ _ _)) (gr_set _ _ _ _))
          have kb_ : Bx w9 w7.heap.size 24 #[.int .i64 10, .int .i64 0, .string ⟨#[]⟩, .string ⟨#[]⟩, .slice qm (Fo.len (x.then ((Ex.mk 0 1 [] [] .nil).then .nil))) dm] := by rw [hv]; exact (((((M.out.set 0 _).set 1 _).set 2 _).set 3 _).set 4 _)
          clear hv
          replace B := Lib.hid (B.out.trans (gr_to og_ (by omega) B.out.size))
          replace F := Lib.hid (F.out.grown og_ (by omega))
          replace K := Lib.hid (K.out.only og_ (by omega))
          replace FM := Lib.hid (FM.out.grown og_ (fun h => by
            rcases h with h | h
            · omega
            · have := h.1; have := h.2; omega))
          replace M := Lib.hid kb_
          have z10_ := og_.size
          clear og_ kb_
          refine hK.out _ _ (K.out.d5) (fun hH2 => ?_)
          clear hK K_ hH
          have hH := hH2; clear hH2
          (try simp only [Act.put, List.setIfInBounds_toArray, List.set_cons_zero, List.set_cons_succ])
          refine wpAnyH_done (by kernel_rfl) ?_ _
          clear hH
          obtain ⟨fb, hfb⟩ : ∃ fb, (szF ((minX x).then .nil) 200 20).isSome = fb := ⟨_, rfl⟩
          have HFB := Lib.hid hfb; clear hfb
          have HRM : Hid (rightX (minX x) = false) := by show _ = _; rw [right_min, HR.out, HFB.out]; simp
          have HC := Lib.hid (right_ok (x := minX x) (smX_min SM.out) FM.out)
          rw [HRM.out] at HC
          unfold hdC minX at HC
          have pM_0 := M.out.at.1 0
          have pM_1 := M.out.at.1 1
          have pM_2 := M.out.at.1 2
          have pM_3 := M.out.at.1 3
          have pM_4 := M.out.at.1 4
          go_wp2_with fail
          clear pM_0 pM_1 pM_2 pM_3 pM_4
          refine (HC.out).mono ?_
          rintro e w10 ⟨rfl, hb⟩
          clear HC
          replace B := Lib.hid (be_call B.out hb)
          replace F := Lib.hid (F.out.keep hb)
          replace K := Lib.hid (K.out.keep hb)
          replace FM := Lib.hid (FM.out.keep hb)
          replace M := Lib.hid (M.out.keep hb)
          have z11_ := hb.size
          clear hb
          go_wp2_with fail
          obtain ⟨l, hsl⟩ : ∃ l : Bytes, s = ⟨l.toArray⟩ := ⟨s.data.toList, by simp⟩
          subst hsl
          refine (lname_ok l).mono ?_
          rintro e w11 ⟨rfl, hb⟩
          replace B := Lib.hid (be_call B.out hb)
          replace F := Lib.hid (F.out.keep hb)
          replace K := Lib.hid (K.out.keep hb)
          replace FM := Lib.hid (FM.out.keep hb)
          replace M := Lib.hid (M.out.keep hb)
          have z12_ := hb.size
          clear hb
          unfold hdC
          go_upto_region 16 with fail
          refine nmW (w11.alloc (.cells #[.int .i64 1, .int .i64 0, .string ⟨#[]⟩, .string ⟨l.toArray⟩, .slice none (Fo.len .nil) 0] 24)) fun w12 hv => ?_
          rw [← hv]
          have Y : Hid (Bx w12 w11.heap.size 24 #[.int .i64 1, .int .i64 0, .string ⟨#[]⟩, .string ⟨l.toArray⟩, .slice none (Fo.len .nil) 0]) := by show Bx _ _ _ _; rw [hv]; exact bx1 w11 _ _
          have hb_ : Below w11.heap.size w11 w12 := by rw [hv]; exact below_alloc _ _
          clear hv
          have z13_ := Y.out.lt
          replace B := Lib.hid (be_call B.out hb_)
          replace F := Lib.hid (F.out.keep hb_)
          replace K := Lib.hid (K.out.keep hb_)
          replace FM := Lib.hid (FM.out.keep hb_)
          replace M := Lib.hid (M.out.keep hb_)
          have z14_ := hb_.size
          clear hb_
          have hlm : l.length ≤ 9223372036854775807 := by have := HM.out; simpa [maxLen, ByteArray.size] using this
          have HLM := Lib.hid hlm; clear hlm
          have HC := Lib.hid (right_ok (x := ⟨1, 0, [], l, .nil⟩) (D := fun _ => True) (w := w12) (q := none) (d := 0) ⟨Nat.zero_le _, HLM.out, Nat.zero_le _, trivial⟩ FoS.nil)
          rw [right_name] at HC
          unfold hdC at HC
          have pY_0 := Y.out.at.1 0
          have pY_1 := Y.out.at.1 1
          have pY_2 := Y.out.at.1 2
          have pY_3 := Y.out.at.1 3
          have pY_4 := Y.out.at.1 4
          go_wp2_with fail
          clear pY_0 pY_1 pY_2 pY_3 pY_4
          refine (HC.out).mono ?_
          rintro e w13 ⟨rfl, hb⟩
          clear HC
          replace B := Lib.hid (be_call B.out hb)
          replace F := Lib.hid (F.out.keep hb)
          replace K := Lib.hid (K.out.keep hb)
          replace FM := Lib.hid (FM.out.keep hb)
          replace M := Lib.hid (M.out.keep hb)
          replace Y := Lib.hid (Y.out.keep hb)
          have z15_ := hb.size
          clear hb
          go_wp2_with fail
          refine (name_any _ _ (by have := HLM.out; simpa [maxLen, ByteArray.size] using this)).mono ?_
          rintro e w13 ⟨rfl, rfl⟩
          rw [show (ByteArray.mk l.toArray).data.toList = l by simp]
          unfold namedB
          cases nameOk l with
          | false =>
            go_wp2_with fail
            go_ret
            exact ⟨by simp, B.out⟩
          | true =>
            obtain ⟨wb, hwb⟩ : ∃ wb, wordB l = wb := ⟨_, rfl⟩
            have HWB := Lib.hid hwb
            rw [hwb]
            clear hwb
            go_wp2_with fail
            refine (word_ok ⟨l.toArray⟩ (b_ := wb) (by rw [Lib.toList_data]; exact HWB.out)).mono ?_
            rintro e w13 ⟨rfl, rfl⟩
            cases wb with
            | false =>
              go_wp2_with fail
              go_ret
              exact ⟨by simp, B.out⟩
            | true =>
              go_wp2_with fail
              go_ret
              exact ⟨by simp, B.out⟩
        · skip
          go_simp
          refine nmW (w6.alloc (.cells #[.int .i64 0, .int .i64 0, .string ⟨#[]⟩, .string ⟨#[]⟩, .slice none 0 0] 24)) fun w14 hv => ?_
          rw [← hv]
          have M : Hid (Bx w14 w6.heap.size 24 #[.int .i64 0, .int .i64 0, .string ⟨#[]⟩, .string ⟨#[]⟩, .slice none 0 0]) := by show Bx _ _ _ _; rw [hv]; exact bx1 _ _ _
          have hb_ : Below w6.heap.size w6 w14 := by rw [hv]; exact below_alloc _ _
          clear hv
          have hM := M.out.lt
          replace B := Lib.hid (be_call B.out hb_)
          replace F := Lib.hid (F.out.keep hb_)
          replace K := Lib.hid (K.out.keep hb_)
          have z16_ := hb_.size
          clear hb_
          refine hK.out _ _ (K.out.d5) (fun hH2 => ?_)
          clear hK K_ hH
          have hH := hH2; clear hH2
          (try simp only [Act.put, List.setIfInBounds_toArray, List.set_cons_zero, List.set_cons_succ])
          refine wpAnyH_ready (rs := [2]) (by kernel_rfl) (by simp) ?_
          refine AllReadyH.cons at2 (fun K_ hK => ?_) AllReadyH.nil
          go_simp
          refine (ltwo_D 10 (x := x) (y := (Ex.mk 0 1 [] [] .nil)) (q2 := none) (d2 := 0) F.out FoS.nil).mono ?_
          rintro e w15 ⟨qm, dm, rfl, hf, hb⟩
          replace B := Lib.hid (be_call B.out hb)
          replace F := Lib.hid (F.out.keep hb)
          replace K := Lib.hid (K.out.keep hb)
          replace M := Lib.hid (M.out.keep hb)
          have z17_ := hb.size
          clear hb
          have FM := Lib.hid hf; clear hf
          unfold hdC
          (try go_wp2_with fail)
          refine hK.out _ _ (K.out.d5) (fun hH2 => ?_)
          clear hK K_ hH
          have hH := hH2; clear hH2
          (try simp only [Act.put, List.setIfInBounds_toArray, List.set_cons_zero, List.set_cons_succ])
          refine wpAnyH_ready (rs := [4]) (by kernel_rfl) (by simp) ?_
          refine AllReadyH.cons at4 (fun K_ hK => ?_) AllReadyH.nil
          have pM_0 := M.out.at.1 0
          have qM_0 := M.out.at.2 0
          have pM_1 := M.out.at.1 1
          have qM_1 := M.out.at.2 1
          have pM_2 := M.out.at.1 2
          have qM_2 := M.out.at.2 2
          have pM_3 := M.out.at.1 3
          have qM_3 := M.out.at.2 3
          have pM_4 := M.out.at.1 4
          have qM_4 := M.out.at.2 4
          go_simp
          clear pM_0 qM_0 pM_1 qM_1 pM_2 qM_2 pM_3 qM_3 pM_4 qM_4
          refine nmW (((((w15.setCell ⟨w6.heap.size, 0, none⟩ (.int .i64 10)).setCell ⟨w6.heap.size, 1, none⟩ (.int .i64 0)).setCell ⟨w6.heap.size, 2, none⟩ (.string ⟨#[]⟩)).setCell ⟨w6.heap.size, 3, none⟩ (.string ⟨#[]⟩)).setCell ⟨w6.heap.size, 4, none⟩ (.slice qm (Fo.len (x.then ((Ex.mk 0 1 [] [] .nil).then .nil))) dm)) fun w16 hv => ?_
          rw [← hv]
          have og_ : w15.grownBy w16 (some w6.heap.size) := by rw [hv]; exact (gr_trans (gr_trans (gr_trans (gr_trans (gr_set _ _ _ _) (gr_set _ _ _ _)) (gr_set _ _ _ _)) (gr_set _ _ _ _)) (gr_set _ _ _ _))
          have kb_ : Bx w16 w6.heap.size 24 #[.int .i64 10, .int .i64 0, .string ⟨#[]⟩, .string ⟨#[]⟩, .slice qm (Fo.len (x.then ((Ex.mk 0 1 [] [] .nil).then .nil))) dm] := by rw [hv]; exact (((((M.out.set 0 _).set 1 _).set 2 _).set 3 _).set 4 _)
          clear hv
          replace B := Lib.hid (B.out.trans (gr_to og_ (by omega) B.out.size))
          replace F := Lib.hid (F.out.grown og_ (by omega))
          replace K := Lib.hid (K.out.only og_ (by omega))
          replace M := Lib.hid kb_
          replace FM := Lib.hid (FM.out.grown og_ (fun h => by
            rcases h with h | h
            · omega
            · have := h.1; have := h.2; omega))
          have z18_ := og_.size
          clear og_ kb_
          refine hK.out _ _ (K.out.d5) (fun hH2 => ?_)
          clear hK K_ hH
          have hH := hH2; clear hH2
          (try simp only [Act.put, List.setIfInBounds_toArray, List.set_cons_zero, List.set_cons_succ])
          refine wpAnyH_done (by kernel_rfl) ?_ _
          clear hH
          obtain ⟨fb, hfb⟩ : ∃ fb, (szF ((minX x).then .nil) 200 20).isSome = fb := ⟨_, rfl⟩
          have HFB := Lib.hid hfb; clear hfb
          have HRM : Hid (rightX (minX x) = false) := by show _ = _; rw [right_min, HR.out, HFB.out]; simp
          have HC := Lib.hid (right_ok (x := minX x) (smX_min SM.out) FM.out)
          rw [HRM.out] at HC
          unfold hdC minX at HC
          have pM_0 := M.out.at.1 0
          have pM_1 := M.out.at.1 1
          have pM_2 := M.out.at.1 2
          have pM_3 := M.out.at.1 3
          have pM_4 := M.out.at.1 4
          go_wp2_with fail
          clear pM_0 pM_1 pM_2 pM_3 pM_4
          refine (HC.out).mono ?_
          rintro e w17 ⟨rfl, hb⟩
          clear HC
          replace B := Lib.hid (be_call B.out hb)
          replace F := Lib.hid (F.out.keep hb)
          replace K := Lib.hid (K.out.keep hb)
          replace M := Lib.hid (M.out.keep hb)
          replace FM := Lib.hid (FM.out.keep hb)
          have z19_ := hb.size
          clear hb
          go_wp2_with fail
          obtain ⟨l, hsl⟩ : ∃ l : Bytes, s = ⟨l.toArray⟩ := ⟨s.data.toList, by simp⟩
          subst hsl
          refine (lname_ok l).mono ?_
          rintro e w18 ⟨rfl, hb⟩
          replace B := Lib.hid (be_call B.out hb)
          replace F := Lib.hid (F.out.keep hb)
          replace K := Lib.hid (K.out.keep hb)
          replace M := Lib.hid (M.out.keep hb)
          replace FM := Lib.hid (FM.out.keep hb)
          have z20_ := hb.size
          clear hb
          unfold hdC
          go_upto_region 16 with fail
          refine nmW (w18.alloc (.cells #[.int .i64 1, .int .i64 0, .string ⟨#[]⟩, .string ⟨l.toArray⟩, .slice none (Fo.len .nil) 0] 24)) fun w19 hv => ?_
          rw [← hv]
          have Y : Hid (Bx w19 w18.heap.size 24 #[.int .i64 1, .int .i64 0, .string ⟨#[]⟩, .string ⟨l.toArray⟩, .slice none (Fo.len .nil) 0]) := by show Bx _ _ _ _; rw [hv]; exact bx1 w18 _ _
          have hb_ : Below w18.heap.size w18 w19 := by rw [hv]; exact below_alloc _ _
          clear hv
          have z21_ := Y.out.lt
          replace B := Lib.hid (be_call B.out hb_)
          replace F := Lib.hid (F.out.keep hb_)
          replace K := Lib.hid (K.out.keep hb_)
          replace M := Lib.hid (M.out.keep hb_)
          replace FM := Lib.hid (FM.out.keep hb_)
          have z22_ := hb_.size
          clear hb_
          have hlm : l.length ≤ 9223372036854775807 := by have := HM.out; simpa [maxLen, ByteArray.size] using this
          have HLM := Lib.hid hlm; clear hlm
          have HC := Lib.hid (right_ok (x := ⟨1, 0, [], l, .nil⟩) (D := fun _ => True) (w := w19) (q := none) (d := 0) ⟨Nat.zero_le _, HLM.out, Nat.zero_le _, trivial⟩ FoS.nil)
          rw [right_name] at HC
          unfold hdC at HC
          have pY_0 := Y.out.at.1 0
          have pY_1 := Y.out.at.1 1
          have pY_2 := Y.out.at.1 2
          have pY_3 := Y.out.at.1 3
          have pY_4 := Y.out.at.1 4
          go_wp2_with fail
          clear pY_0 pY_1 pY_2 pY_3 pY_4
          refine (HC.out).mono ?_
          rintro e w20 ⟨rfl, hb⟩
          clear HC
          replace B := Lib.hid (be_call B.out hb)
          replace F := Lib.hid (F.out.keep hb)
          replace K := Lib.hid (K.out.keep hb)
          replace M := Lib.hid (M.out.keep hb)
          replace FM := Lib.hid (FM.out.keep hb)
          replace Y := Lib.hid (Y.out.keep hb)
          have z23_ := hb.size
          clear hb
          go_wp2_with fail
          refine (name_any _ _ (by have := HLM.out; simpa [maxLen, ByteArray.size] using this)).mono ?_
          rintro e w20 ⟨rfl, rfl⟩
          rw [show (ByteArray.mk l.toArray).data.toList = l by simp]
          unfold namedB
          cases nameOk l with
          | false =>
            go_wp2_with fail
            go_ret
            exact ⟨by simp, B.out⟩
          | true =>
            obtain ⟨wb, hwb⟩ : ∃ wb, wordB l = wb := ⟨_, rfl⟩
            have HWB := Lib.hid hwb
            rw [hwb]
            clear hwb
            go_wp2_with fail
            refine (word_ok ⟨l.toArray⟩ (b_ := wb) (by rw [Lib.toList_data]; exact HWB.out)).mono ?_
            rintro e w20 ⟨rfl, rfl⟩
            cases wb with
            | false =>
              go_wp2_with fail
              go_ret
              exact ⟨by simp, B.out⟩
            | true =>
              go_wp2_with fail
              go_ret
              exact ⟨by simp, B.out⟩
      · skip
        go_simp
        refine nmW (w5.alloc (.cells #[.int .i64 0, .int .i64 0, .string ⟨#[]⟩, .string ⟨#[]⟩, .slice none 0 0] 24)) fun w21 hv => ?_
        rw [← hv]
        have M : Hid (Bx w21 w5.heap.size 24 #[.int .i64 0, .int .i64 0, .string ⟨#[]⟩, .string ⟨#[]⟩, .slice none 0 0]) := by show Bx _ _ _ _; rw [hv]; exact bx1 _ _ _
        have hb_ : Below w5.heap.size w5 w21 := by rw [hv]; exact below_alloc _ _
        clear hv
        have hM := M.out.lt
        replace B := Lib.hid (be_call B.out hb_)
        replace F := Lib.hid (F.out.keep hb_)
        replace K := Lib.hid (K.out.keep hb_)
        have z24_ := hb_.size
        clear hb_
        refine hK.out _ _ (K.out.d5) (fun hH2 => ?_)
        clear hK K_ hH
        have hH := hH2; clear hH2
        (try simp only [Act.put, List.setIfInBounds_toArray, List.set_cons_zero, List.set_cons_succ])
        refine wpAnyH_ready (rs := [1]) (by kernel_rfl) (by simp) ?_
        refine AllReadyH.cons at1 (fun K_ hK => ?_) AllReadyH.nil
        go_simp
        refine (lnumber_ok 1).mono ?_
        rintro e w22 ⟨rfl, hb⟩
        replace B := Lib.hid (be_call B.out hb)
        replace F := Lib.hid (F.out.keep hb)
        replace K := Lib.hid (K.out.keep hb)
        replace M := Lib.hid (M.out.keep hb)
        have z25_ := hb.size
        clear hb
        (try go_wp2_with fail)
        refine hK.out _ _ (K.out.d5) (fun hH2 => ?_)
        clear hK K_ hH
        have hH := hH2; clear hH2
        (try simp only [Act.put, List.setIfInBounds_toArray, List.set_cons_zero, List.set_cons_succ])
        refine wpAnyH_ready (rs := [2]) (by kernel_rfl) (by simp) ?_
        refine AllReadyH.cons at2 (fun K_ hK => ?_) AllReadyH.nil
        go_simp
        refine (ltwo_D 10 (x := x) (y := (Ex.mk 0 1 [] [] .nil)) (q2 := none) (d2 := 0) F.out FoS.nil).mono ?_
        rintro e w23 ⟨qm, dm, rfl, hf, hb⟩
        replace B := Lib.hid (be_call B.out hb)
        replace F := Lib.hid (F.out.keep hb)
        replace K := Lib.hid (K.out.keep hb)
        replace M := Lib.hid (M.out.keep hb)
        have z26_ := hb.size
        clear hb
        have FM := Lib.hid hf; clear hf
        unfold hdC
        (try go_wp2_with fail)
        refine hK.out _ _ (K.out.d5) (fun hH2 => ?_)
        clear hK K_ hH
        have hH := hH2; clear hH2
        (try simp only [Act.put, List.setIfInBounds_toArray, List.set_cons_zero, List.set_cons_succ])
        refine wpAnyH_ready (rs := [4]) (by kernel_rfl) (by simp) ?_
        refine AllReadyH.cons at4 (fun K_ hK => ?_) AllReadyH.nil
        have pM_0 := M.out.at.1 0
        have qM_0 := M.out.at.2 0
        have pM_1 := M.out.at.1 1
        have qM_1 := M.out.at.2 1
        have pM_2 := M.out.at.1 2
        have qM_2 := M.out.at.2 2
        have pM_3 := M.out.at.1 3
        have qM_3 := M.out.at.2 3
        have pM_4 := M.out.at.1 4
        have qM_4 := M.out.at.2 4
        go_simp
        clear pM_0 qM_0 pM_1 qM_1 pM_2 qM_2 pM_3 qM_3 pM_4 qM_4
        refine nmW (((((w23.setCell ⟨w5.heap.size, 0, none⟩ (.int .i64 10)).setCell ⟨w5.heap.size, 1, none⟩ (.int .i64 0)).setCell ⟨w5.heap.size, 2, none⟩ (.string ⟨#[]⟩)).setCell ⟨w5.heap.size, 3, none⟩ (.string ⟨#[]⟩)).setCell ⟨w5.heap.size, 4, none⟩ (.slice qm (Fo.len (x.then ((Ex.mk 0 1 [] [] .nil).then .nil))) dm)) fun w24 hv => ?_
        rw [← hv]
        have og_ : w23.grownBy w24 (some w5.heap.size) := by rw [hv]; exact (gr_trans (gr_trans (gr_trans (gr_trans (gr_set _ _ _ _) (gr_set _ _ _ _)) (gr_set _ _ _ _)) (gr_set _ _ _ _)) (gr_set _ _ _ _))
        have kb_ : Bx w24 w5.heap.size 24 #[.int .i64 10, .int .i64 0, .string ⟨#[]⟩, .string ⟨#[]⟩, .slice qm (Fo.len (x.then ((Ex.mk 0 1 [] [] .nil).then .nil))) dm] := by rw [hv]; exact (((((M.out.set 0 _).set 1 _).set 2 _).set 3 _).set 4 _)
        clear hv
        replace B := Lib.hid (B.out.trans (gr_to og_ (by omega) B.out.size))
        replace F := Lib.hid (F.out.grown og_ (by omega))
        replace K := Lib.hid (K.out.only og_ (by omega))
        replace M := Lib.hid kb_
        replace FM := Lib.hid (FM.out.grown og_ (fun h => by
          rcases h with h | h
          · omega
          · have := h.1; have := h.2; omega))
        have z27_ := og_.size
        clear og_ kb_
        refine hK.out _ _ (K.out.d5) (fun hH2 => ?_)
        clear hK K_ hH
        have hH := hH2; clear hH2
        (try simp only [Act.put, List.setIfInBounds_toArray, List.set_cons_zero, List.set_cons_succ])
        refine wpAnyH_done (by kernel_rfl) ?_ _
        clear hH
        obtain ⟨fb, hfb⟩ : ∃ fb, (szF ((minX x).then .nil) 200 20).isSome = fb := ⟨_, rfl⟩
        have HFB := Lib.hid hfb; clear hfb
        have HRM : Hid (rightX (minX x) = false) := by show _ = _; rw [right_min, HR.out, HFB.out]; simp
        have HC := Lib.hid (right_ok (x := minX x) (smX_min SM.out) FM.out)
        rw [HRM.out] at HC
        unfold hdC minX at HC
        have pM_0 := M.out.at.1 0
        have pM_1 := M.out.at.1 1
        have pM_2 := M.out.at.1 2
        have pM_3 := M.out.at.1 3
        have pM_4 := M.out.at.1 4
        go_wp2_with fail
        clear pM_0 pM_1 pM_2 pM_3 pM_4
        refine (HC.out).mono ?_
        rintro e w25 ⟨rfl, hb⟩
        clear HC
        replace B := Lib.hid (be_call B.out hb)
        replace F := Lib.hid (F.out.keep hb)
        replace K := Lib.hid (K.out.keep hb)
        replace M := Lib.hid (M.out.keep hb)
        replace FM := Lib.hid (FM.out.keep hb)
        have z28_ := hb.size
        clear hb
        go_wp2_with fail
        obtain ⟨l, hsl⟩ : ∃ l : Bytes, s = ⟨l.toArray⟩ := ⟨s.data.toList, by simp⟩
        subst hsl
        refine (lname_ok l).mono ?_
        rintro e w26 ⟨rfl, hb⟩
        replace B := Lib.hid (be_call B.out hb)
        replace F := Lib.hid (F.out.keep hb)
        replace K := Lib.hid (K.out.keep hb)
        replace M := Lib.hid (M.out.keep hb)
        replace FM := Lib.hid (FM.out.keep hb)
        have z29_ := hb.size
        clear hb
        unfold hdC
        go_upto_region 16 with fail
        refine nmW (w26.alloc (.cells #[.int .i64 1, .int .i64 0, .string ⟨#[]⟩, .string ⟨l.toArray⟩, .slice none (Fo.len .nil) 0] 24)) fun w27 hv => ?_
        rw [← hv]
        have Y : Hid (Bx w27 w26.heap.size 24 #[.int .i64 1, .int .i64 0, .string ⟨#[]⟩, .string ⟨l.toArray⟩, .slice none (Fo.len .nil) 0]) := by show Bx _ _ _ _; rw [hv]; exact bx1 w26 _ _
        have hb_ : Below w26.heap.size w26 w27 := by rw [hv]; exact below_alloc _ _
        clear hv
        have z30_ := Y.out.lt
        replace B := Lib.hid (be_call B.out hb_)
        replace F := Lib.hid (F.out.keep hb_)
        replace K := Lib.hid (K.out.keep hb_)
        replace M := Lib.hid (M.out.keep hb_)
        replace FM := Lib.hid (FM.out.keep hb_)
        have z31_ := hb_.size
        clear hb_
        have hlm : l.length ≤ 9223372036854775807 := by have := HM.out; simpa [maxLen, ByteArray.size] using this
        have HLM := Lib.hid hlm; clear hlm
        have HC := Lib.hid (right_ok (x := ⟨1, 0, [], l, .nil⟩) (D := fun _ => True) (w := w27) (q := none) (d := 0) ⟨Nat.zero_le _, HLM.out, Nat.zero_le _, trivial⟩ FoS.nil)
        rw [right_name] at HC
        unfold hdC at HC
        have pY_0 := Y.out.at.1 0
        have pY_1 := Y.out.at.1 1
        have pY_2 := Y.out.at.1 2
        have pY_3 := Y.out.at.1 3
        have pY_4 := Y.out.at.1 4
        go_wp2_with fail
        clear pY_0 pY_1 pY_2 pY_3 pY_4
        refine (HC.out).mono ?_
        rintro e w28 ⟨rfl, hb⟩
        clear HC
        replace B := Lib.hid (be_call B.out hb)
        replace F := Lib.hid (F.out.keep hb)
        replace K := Lib.hid (K.out.keep hb)
        replace M := Lib.hid (M.out.keep hb)
        replace FM := Lib.hid (FM.out.keep hb)
        replace Y := Lib.hid (Y.out.keep hb)
        have z32_ := hb.size
        clear hb
        go_wp2_with fail
        refine (name_any _ _ (by have := HLM.out; simpa [maxLen, ByteArray.size] using this)).mono ?_
        rintro e w28 ⟨rfl, rfl⟩
        rw [show (ByteArray.mk l.toArray).data.toList = l by simp]
        unfold namedB
        cases nameOk l with
        | false =>
          go_wp2_with fail
          go_ret
          exact ⟨by simp, B.out⟩
        | true =>
          obtain ⟨wb, hwb⟩ : ∃ wb, wordB l = wb := ⟨_, rfl⟩
          have HWB := Lib.hid hwb
          rw [hwb]
          clear hwb
          go_wp2_with fail
          refine (word_ok ⟨l.toArray⟩ (b_ := wb) (by rw [Lib.toList_data]; exact HWB.out)).mono ?_
          rintro e w28 ⟨rfl, rfl⟩
          cases wb with
          | false =>
            go_wp2_with fail
            go_ret
            exact ⟨by simp, B.out⟩
          | true =>
            go_wp2_with fail
            go_ret
            exact ⟨by simp, B.out⟩
theorem parts_walk {x : Ex} {D : Nat → Prop} {w : World} {q : Option Addr} {d : Nat} (s : ByteArray) (hm : s.size ≤ maxLen) (hsm : smX x) (hS : FoS D w q d x.args) (hsig : SignsIn w) (hT : PowT w.heap.size w) :
    Calls Tryd.prog 5 #[.agg (hdC x q d).toArray, .string s] w fun e w' => e = .returned (.bool true) ∧ Below w.heap.size w w' := by
  cases hf : (szF (x.then .nil) 250 24).isSome with
  | false => exact parts_many s hm hsm hS hsig hT hf
  | true =>
    by_cases hl : 60 < s.size
    · exact parts_long s hm hsm hS hsig hT hf hl
    · cases hr : rightX x with
      | true => exact parts_ok s hm hsm hS hsig hT hf hl hr
      | false => exact parts_not s hm hsm hS hsig hT hf hl hr
end Go.Proofs.YtckgmilmhofekaaDoor
