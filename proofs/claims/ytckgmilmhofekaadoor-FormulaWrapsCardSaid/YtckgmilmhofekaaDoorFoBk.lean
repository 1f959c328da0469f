/- Walks: FormulaBack. -/
import Derived.Test.YtckgmilmhofekaaDoorLexLaws
import Derived.Test.YtckgmilmhofekaaDoorFoBack
import Derived.Test.YtckgmilmhofekaaDoorBase
import Derived.Test.YtckgmilmhofekaaDoorLexBytes
import Derived.Test.YtckgmilmhofekaaDoorLexPrint
import Derived.Test.YtckgmilmhofekaaDoorBigSpec
import Derived.Test.YtckgmilmhofekaaDoorBigD
import Derived.Test.YtckgmilmhofekaaDoorBigQ
import Derived.Test.YtckgmilmhofekaaDoorFd
import Derived.Test.YtckgmilmhofekaaDoorOwn
import Derived.Test.YtckgmilmhofekaaDoorFoWd
import Derived.Test.YtckgmilmhofekaaDoorFoOx
import Derived.Test.YtckgmilmhofekaaDoorFoCk
import Derived.Test.YtckgmilmhofekaaDoorFoWl
import Derived.Test.YtckgmilmhofekaaDoorFoTo
import Derived.Test.YtckgmilmhofekaaDoorFoPt
import Derived.Test.YtckgmilmhofekaaDoorFoRt
import Derived.Test.YtckgmilmhofekaaDoorProg
import Derived.Test.YtckgmilmhofekaaDoorShelf
import Derived.WalkKit
import Derived.Lib.ItoaNum
import Derived.WalkSpells
import Derived.WalkLawsBesides
import Derived.Handy
import Derived.Lib.Hide
import Derived.Lib.Strings
import Derived.Lib.Builder
import Derived.Shelf.Strings.Builder1
import Derived.BigQuiet
import Derived.OwnWalk
import Derived.Laws.BitsLemmas
import Derived.WalkSmall
import Derived.Deep.QuietTactic
import Derived.StillTailTactics
import Derived.Maps.AppendAt
import Derived.IntWalk
import Derived.Deep.RegionHeld3
import Derived.Deep.DeepFit
import Derived.Deep.LoopGhost
import Derived.Deep.DeepCutAuto
import Derived.Lib.Repeat
import Derived.Lib.AppendIntMem
import Derived.Sort.OwnSorted
import Derived.Shelf.Strings.SlTrimAscii
import Derived.Lib.ConvBytes
import Derived.Lib.CutLaws
import Derived.ArgAppend
namespace Go.Proofs.YtckgmilmhofekaaDoor
open Go.RowKit

theorem prn_right {x : Ex} (h : rightX x = true) : Prn x := by
 obtain ⟨h1, h2⟩ := right_toks h
 have h3 := right_nodes h
 have h4 := printL_len _ h1
 refine ⟨by omega, fun t ht => ?_, by omega⟩
 have h5 := (h1 t ht).len
 have h6 := text_le t
 omega
theorem smF_sh : ∀ a : Fo, shF a = true → smF a
  | .nil, _ => trivial
  | .cons op n u m a r, h => by
    have h : (nodeB op n u m a.len && shF a && shF r) = true := h
    rw [Bool.and_eq_true, Bool.and_eq_true] at h
    have i1 := smF_sh a h.1.2
    have i2 := smF_sh r h.2
    have hq : ∀ u : Bytes, quoteOk u = true → u.length ≤ 9223372036854775807 := fun u h => by
      unfold quoteOk at h; rw [Bool.and_eq_true, decide_eq_true_eq] at h; omega
    have hm : ∀ m : Bytes, namedB m = true → m.length ≤ 9223372036854775807 := fun m h => by
      have := nameOk_len (named_ok h).1; omega
    have h0 : ([] : Bytes).length ≤ 9223372036854775807 := Nat.zero_le _
    have : u.length ≤ 9223372036854775807 ∧ m.length ≤ 9223372036854775807 ∧ a.len ≤ 9223372036854775807 := by
      rcases node_cases h.1.1 with ⟨-, k1, -, -, k2, k3⟩ | ⟨-, k1, ⟨-, k2, k3⟩ | ⟨-, k2, k3⟩ | ⟨-, k2, k4, k3⟩ | ⟨-, k2, k3⟩ | ⟨-, k2, k3⟩ | ⟨-, k2, k3⟩ | ⟨-, k2, k3⟩⟩
      · rw [k2]; exact ⟨hq u k1, h0, by omega⟩
      · rw [k1]; exact ⟨h0, hm m k2, by omega⟩
      · rw [k1]; exact ⟨h0, hm m k2, by omega⟩
      · rw [k1]; exact ⟨h0, hm m k2, by omega⟩
      · rw [k1, k2]; exact ⟨h0, h0, by omega⟩
      · rw [k1, k2]; exact ⟨h0, h0, by omega⟩
      · rw [k1, k2]; exact ⟨h0, h0, by omega⟩
      · rw [k1, k2]; exact ⟨h0, h0, by omega⟩
    exact ⟨⟨this.1, this.2.1, this.2.2, i1⟩, i2⟩
theorem smX_right {x : Ex} (h : rightX x = true) : smX x := by
 unfold rightX at h
 rw [Bool.and_eq_true] at h
 exact (smF_sh _ h.2).1
theorem smX_zero : smX Ex.zero := ⟨Nat.zero_le _, Nat.zero_le _, Nat.zero_le _, trivial⟩
theorem smX_parse {s : Bytes} {x : Ex} {p e : Nat} (h : parseX s = (x, p, e)) : smX x := by
  by_cases he : e = 0
  · exact smX_right ((parse_facts h).1 he).1
  · rw [(parse_facts h).2 he]; exact smX_zero
theorem few_parse {s : Bytes} {x : Ex} {p e : Nat} (h : parseX s = (x, p, e)) : (szF (x.then .nil) 250 24).isSome = true := by
  by_cases he : e = 0
  · exact right_few ((parse_facts h).1 he).1 (by omega) (by omega)
  · rw [(parse_facts h).2 he]; rfl
set_option maxRecDepth 100000 in
set_option maxHeartbeats 4000000 in
theorem back_many {x : Ex} {D : Nat → Prop} {w : World} {q : Option Addr} {d : Nat} (s : ByteArray) (hsm : smX x) (hS : FoS D w q d x.args) (hsig : SignsIn w) (hT : PowT w.heap.size w) (hf : (szF (x.then .nil) 250 24).isSome = false) :
  Calls Tryd.prog 3 #[.agg (hdC x q d).toArray, .string s] w fun e w' => e = .returned (.bool true) ∧ Below w.heap.size w w' := by
 have HG := Lib.hid hsig; have T := Lib.hid hT; have F := Lib.hid (hS.mono (fun _ _ => trivial) : FoT w q d x.args); have SM := Lib.hid hsm
 have B : Hid (Below w.heap.size w w) := be_refl w
 clear hsig hT hS hsm
 unfold hdC
 go_enter Tryd.func3, Tryd.ntmps3
 go_upto_region 1 with fail
 refine nmW (w.alloc (.cells #[.int .i64 x.op, .int .i64 x.n, .string ⟨x.unit.toArray⟩, .string ⟨x.name.toArray⟩, .slice q x.args.len d] 24)) fun w1 hv => ?_
 rw [← hv]
 have K : Hid (Bx w1 w.heap.size 24 #[.int .i64 x.op, .int .i64 x.n, .string ⟨x.unit.toArray⟩, .string ⟨x.name.toArray⟩, .slice q x.args.len d]) := by show Bx _ _ _ _; rw [hv]; exact bx1 w _ _
 have hb_ : Below w.heap.size w w1 := by rw [hv]; exact below_alloc _ _
 clear hv
 have z1_ := K.out.lt
 replace B := Lib.hid (be_call B.out hb_)
 replace HG := Lib.hid (HG.out.keep hb_)
 replace T := Lib.hid (T.out.keepG (hb_.mono (by omega)))
 replace F := Lib.hid (F.out.keep hb_)
 have z2_ := hb_.size
 clear hb_
 go_wp2_with fail
 refine (sane_ok HG.out (T.out.mono (by omega))).mono ?_
 rintro e w2 ⟨rfl, hb⟩
 replace B := Lib.hid (be_call B.out hb)
 replace HG := Lib.hid (HG.out.keep hb)
 replace T := Lib.hid (T.out.keepG (hb.mono (by omega)))
 replace F := Lib.hid (F.out.keep hb)
 replace K := Lib.hid (K.out.keep hb)
 have z3_ := hb.size
 clear hb
 have HC := Lib.hid (few_ok (r := false) (x := x) (b := 250) (lv := 24) SM.out F.out (by decide) (by decide) hf)
 rw [show ((250 : Nat) : Int) = 250 from rfl, show ((24 : Nat) : Int) = 24 from rfl] at HC
 unfold hdC at HC
 have pK_0 := K.out.at.1 0
 have pK_1 := K.out.at.1 1
 have pK_2 := K.out.at.1 2
 have pK_3 := K.out.at.1 3
 have pK_4 := K.out.at.1 4
 go_wp2_with fail
 clear pK_0 pK_1 pK_2 pK_3 pK_4
 refine (HC.out).mono ?_
 rintro e w3 ⟨rfl, hb⟩
 clear HC
 replace B := Lib.hid (be_call B.out hb)
 replace HG := Lib.hid (HG.out.keep hb)
 replace T := Lib.hid (T.out.keepG (hb.mono (by omega)))
 replace F := Lib.hid (F.out.keep hb)
 replace K := Lib.hid (K.out.keep hb)
 have z4_ := hb.size
 clear hb
 go_wp2_with fail
 go_ret
 exact ⟨rfl, B.out⟩
set_option maxRecDepth 100000 in
set_option maxHeartbeats 4000000 in
theorem back_long {x : Ex} {D : Nat → Prop} {w : World} {q : Option Addr} {d : Nat} (s : ByteArray) (hsm : smX x) (hS : FoS D w q d x.args) (hsig : SignsIn w) (hT : PowT w.heap.size w) (hf : (szF (x.then .nil) 250 24).isSome = true) (hl : 1500 < s.size) :
  Calls Tryd.prog 3 #[.agg (hdC x q d).toArray, .string s] w fun e w' => e = .returned (.bool true) ∧ Below w.heap.size w w' := by
 have HG := Lib.hid hsig; have T := Lib.hid hT; have F := Lib.hid (hS.mono (fun _ _ => trivial) : FoT w q d x.args); have SM := Lib.hid hsm
 have B : Hid (Below w.heap.size w w) := be_refl w
 clear hsig hT hS hsm
 have hli : (1500 : Int) < (s.size : Int) := by omega
 unfold hdC
 go_enter Tryd.func3, Tryd.ntmps3
 go_upto_region 1 with fail
 refine nmW (w.alloc (.cells #[.int .i64 x.op, .int .i64 x.n, .string ⟨x.unit.toArray⟩, .string ⟨x.name.toArray⟩, .slice q x.args.len d] 24)) fun w1 hv => ?_
 rw [← hv]
 have K : Hid (Bx w1 w.heap.size 24 #[.int .i64 x.op, .int .i64 x.n, .string ⟨x.unit.toArray⟩, .string ⟨x.name.toArray⟩, .slice q x.args.len d]) := by show Bx _ _ _ _; rw [hv]; exact bx1 w _ _
 have hb_ : Below w.heap.size w w1 := by rw [hv]; exact below_alloc _ _
 clear hv
 have z1_ := K.out.lt
 replace B := Lib.hid (be_call B.out hb_)
 replace HG := Lib.hid (HG.out.keep hb_)
 replace T := Lib.hid (T.out.keepG (hb_.mono (by omega)))
 replace F := Lib.hid (F.out.keep hb_)
 have z2_ := hb_.size
 clear hb_
 go_wp2_with fail
 refine (sane_ok HG.out (T.out.mono (by omega))).mono ?_
 rintro e w2 ⟨rfl, hb⟩
 replace B := Lib.hid (be_call B.out hb)
 replace HG := Lib.hid (HG.out.keep hb)
 replace T := Lib.hid (T.out.keepG (hb.mono (by omega)))
 replace F := Lib.hid (F.out.keep hb)
 replace K := Lib.hid (K.out.keep hb)
 have z3_ := hb.size
 clear hb
 have HC := Lib.hid (few_ok (r := true) (x := x) (b := 250) (lv := 24) SM.out F.out (by decide) (by decide) hf)
 rw [show ((250 : Nat) : Int) = 250 from rfl, show ((24 : Nat) : Int) = 24 from rfl] at HC
 unfold hdC at HC
 have pK_0 := K.out.at.1 0
 have pK_1 := K.out.at.1 1
 have pK_2 := K.out.at.1 2
 have pK_3 := K.out.at.1 3
 have pK_4 := K.out.at.1 4
 go_wp2_with fail
 clear pK_0 pK_1 pK_2 pK_3 pK_4
 refine (HC.out).mono ?_
 rintro e w3 ⟨rfl, hb⟩
 clear HC
 replace B := Lib.hid (be_call B.out hb)
 replace HG := Lib.hid (HG.out.keep hb)
 replace T := Lib.hid (T.out.keepG (hb.mono (by omega)))
 replace F := Lib.hid (F.out.keep hb)
 replace K := Lib.hid (K.out.keep hb)
 have z4_ := hb.size
 clear hb
 go_wp2_with fail
 go_ret
 exact ⟨rfl, B.out⟩
set_option maxRecDepth 100000 in
set_option maxHeartbeats 4000000 in
theorem back_can_bad {x : Ex} {D : Nat → Prop} {w : World} {q : Option Addr} {d : Nat} (s : ByteArray) (hsm : smX x) (hS : FoS D w q d x.args) (hsig : SignsIn w) (hT : PowT w.heap.size w) (hf : (szF (x.then .nil) 250 24).isSome = true) (hl : ¬ 1500 < s.size) {t : Bytes} (hpr : printX x = some t) {z : Ex} {p e : Nat} (hp : parseX s.data.toList = (z, p, e)) (he : e ≠ 0) :
  Calls Tryd.prog 3 #[.agg (hdC x q d).toArray, .string s] w fun e w' => e = .returned (.bool true) ∧ Below w.heap.size w w' := by
 have HG := Lib.hid hsig; have T := Lib.hid hT; have F := Lib.hid (hS.mono (fun _ _ => trivial) : FoT w q d x.args); have SM := Lib.hid hsm
 have B : Hid (Below w.heap.size w w) := be_refl w
 clear hsig hT hS hsm
 have hli : ¬ (1500 : Int) < (s.size : Int) := by omega
 have HL := Lib.hid hl; clear hl
 have HF := Lib.hid hf; have HPR := Lib.hid hpr; have HP := Lib.hid hp; have SZ := Lib.hid (smX_parse hp); have FZ := Lib.hid (few_parse hp); clear hf hpr
 have HE := Lib.hid he; have hei : ((e : Int) != 0) = true := by simp; omega
 have HZ := Lib.hid ((parse_facts hp).2 he); clear hp he
 unfold hdC
 go_enter Tryd.func3, Tryd.ntmps3
 go_upto_region 1 with fail
 refine nmW (w.alloc (.cells #[.int .i64 x.op, .int .i64 x.n, .string ⟨x.unit.toArray⟩, .string ⟨x.name.toArray⟩, .slice q x.args.len d] 24)) fun w1 hv => ?_
 rw [← hv]
 have K : Hid (Bx w1 w.heap.size 24 #[.int .i64 x.op, .int .i64 x.n, .string ⟨x.unit.toArray⟩, .string ⟨x.name.toArray⟩, .slice q x.args.len d]) := by show Bx _ _ _ _; rw [hv]; exact bx1 w _ _
 have hb_ : Below w.heap.size w w1 := by rw [hv]; exact below_alloc _ _
 clear hv
 have z1_ := K.out.lt
 replace B := Lib.hid (be_call B.out hb_)
 replace HG := Lib.hid (HG.out.keep hb_)
 replace T := Lib.hid (T.out.keepG (hb_.mono (by omega)))
 replace F := Lib.hid (F.out.keep hb_)
 have z2_ := hb_.size
 clear hb_
 go_wp2_with fail
 refine (sane_ok HG.out (T.out.mono (by omega))).mono ?_
 rintro e w2 ⟨rfl, hb⟩
 replace B := Lib.hid (be_call B.out hb)
 replace HG := Lib.hid (HG.out.keep hb)
 replace T := Lib.hid (T.out.keepG (hb.mono (by omega)))
 replace F := Lib.hid (F.out.keep hb)
 replace K := Lib.hid (K.out.keep hb)
 have z3_ := hb.size
 clear hb
 have HC := Lib.hid (few_ok (r := true) (x := x) (b := 250) (lv := 24) SM.out F.out (by decide) (by decide) HF.out)
 rw [show ((250 : Nat) : Int) = 250 from rfl, show ((24 : Nat) : Int) = 24 from rfl] at HC
 unfold hdC at HC
 have pK_0 := K.out.at.1 0
 have pK_1 := K.out.at.1 1
 have pK_2 := K.out.at.1 2
 have pK_3 := K.out.at.1 3
 have pK_4 := K.out.at.1 4
 go_wp2_with fail
 clear pK_0 pK_1 pK_2 pK_3 pK_4
 refine (HC.out).mono ?_
 rintro e w3 ⟨rfl, hb⟩
 clear HC
 replace B := Lib.hid (be_call B.out hb)
 replace HG := Lib.hid (HG.out.keep hb)
 replace T := Lib.hid (T.out.keepG (hb.mono (by omega)))
 replace F := Lib.hid (F.out.keep hb)
 replace K := Lib.hid (K.out.keep hb)
 have z4_ := hb.size
 clear hb
 have HC := Lib.hid (print_x (x := x) SM.out F.out (T.out.mono (by omega)) (fun h => prn_right h) HPR.out)
 unfold hdC at HC
 simp only [Option.getD_some, Option.isSome_some] at HC
 have pK_0 := K.out.at.1 0
 have pK_1 := K.out.at.1 1
 have pK_2 := K.out.at.1 2
 have pK_3 := K.out.at.1 3
 have pK_4 := K.out.at.1 4
 go_wp2_with fail
 clear pK_0 pK_1 pK_2 pK_3 pK_4
 refine (HC.out).mono ?_
 rintro e w4 ⟨rfl, hb⟩
 clear HC
 replace B := Lib.hid (be_call B.out hb)
 replace HG := Lib.hid (HG.out.keep hb)
 replace T := Lib.hid (T.out.keepG (hb.mono (by omega)))
 replace F := Lib.hid (F.out.keep hb)
 replace K := Lib.hid (K.out.keep hb)
 have z5_ := hb.size
 clear hb
 have HB := Lib.hid (back_print HPR.out)
 have htl : ¬ (4000 : Int) < ((⟨t.toArray⟩ : ByteArray).size : Int) := by have := HB.out.2.1; simp [ByteArray.size]; omega
 go_wp2_with fail
 refine (parse_any ⟨t.toArray⟩ (by have := HB.out.2.1; simp [ByteArray.size]; omega) HG.out).mono ?_
 rintro e w5 ⟨y_, q1, d1, p_, e_, rfl, hf, hb, hx⟩
 replace B := Lib.hid (be_call B.out hb)
 replace HG := Lib.hid (HG.out.keep hb)
 replace T := Lib.hid (T.out.keepG (hb.mono (by omega)))
 replace F := Lib.hid (F.out.keep hb)
 replace K := Lib.hid (K.out.keep hb)
 have z6_ := hb.size
 clear hb
 rw [show (ByteArray.mk t.toArray).data.toList = t by simp] at hx
 rw [HB.out.2.2] at hx
 obtain ⟨hy_, hp_, he_⟩ : x = y_ ∧ 0 = p_ ∧ 0 = e_ := by have h1 := congrArg Prod.fst hx; have h2 := congrArg Prod.snd hx; exact ⟨h1, congrArg Prod.fst h2, congrArg Prod.snd h2⟩
 clear hx
 subst hy_ hp_ he_
 have F1 := Lib.hid (hf.mono (fun _ _ => trivial) : FoT _ q1 d1 _); clear hf
 unfold hdC
 go_upto_region 7 with fail
 refine nmW (w5.alloc (.cells #[.int .i64 x.op, .int .i64 x.n, .string ⟨x.unit.toArray⟩, .string ⟨x.name.toArray⟩, .slice q1 x.args.len d1] 24)) fun w6 hv => ?_
 rw [← hv]
 have K1 : Hid (Bx w6 w5.heap.size 24 #[.int .i64 x.op, .int .i64 x.n, .string ⟨x.unit.toArray⟩, .string ⟨x.name.toArray⟩, .slice q1 x.args.len d1]) := by show Bx _ _ _ _; rw [hv]; exact bx1 w5 _ _
 have hb_ : Below w5.heap.size w5 w6 := by rw [hv]; exact below_alloc _ _
 clear hv
 have z7_ := K1.out.lt
 replace B := Lib.hid (be_call B.out hb_)
 replace HG := Lib.hid (HG.out.keep hb_)
 replace T := Lib.hid (T.out.keepG (hb_.mono (by omega)))
 replace F := Lib.hid (F.out.keep hb_)
 replace K := Lib.hid (K.out.keep hb_)
 replace F1 := Lib.hid (F1.out.keep hb_)
 have z8_ := hb_.size
 clear hb_
 have HC := Lib.hid (right_ok (x := x) SM.out F.out)
 rw [HB.out.1] at HC
 unfold hdC at HC
 have pK_0 := K.out.at.1 0
 have pK_1 := K.out.at.1 1
 have pK_2 := K.out.at.1 2
 have pK_3 := K.out.at.1 3
 have pK_4 := K.out.at.1 4
 go_wp2_with fail
 clear pK_0 pK_1 pK_2 pK_3 pK_4
 refine (HC.out).mono ?_
 rintro e w7 ⟨rfl, hb⟩
 clear HC
 replace B := Lib.hid (be_call B.out hb)
 replace HG := Lib.hid (HG.out.keep hb)
 replace T := Lib.hid (T.out.keepG (hb.mono (by omega)))
 replace F := Lib.hid (F.out.keep hb)
 replace K := Lib.hid (K.out.keep hb)
 replace F1 := Lib.hid (F1.out.keep hb)
 replace K1 := Lib.hid (K1.out.keep hb)
 have z9_ := hb.size
 clear hb
 have HC := Lib.hid (few_ok (r := true) (x := x) (b := 250) (lv := 24) SM.out F1.out (by decide) (by decide) HF.out)
 rw [show ((250 : Nat) : Int) = 250 from rfl, show ((24 : Nat) : Int) = 24 from rfl] at HC
 unfold hdC at HC
 have pK1_0 := K1.out.at.1 0
 have pK1_1 := K1.out.at.1 1
 have pK1_2 := K1.out.at.1 2
 have pK1_3 := K1.out.at.1 3
 have pK1_4 := K1.out.at.1 4
 go_wp2_with fail
 clear pK1_0 pK1_1 pK1_2 pK1_3 pK1_4
 refine (HC.out).mono ?_
 rintro e w8 ⟨rfl, hb⟩
 clear HC
 replace B := Lib.hid (be_call B.out hb)
 replace HG := Lib.hid (HG.out.keep hb)
 replace T := Lib.hid (T.out.keepG (hb.mono (by omega)))
 replace F := Lib.hid (F.out.keep hb)
 replace K := Lib.hid (K.out.keep hb)
 replace F1 := Lib.hid (F1.out.keep hb)
 replace K1 := Lib.hid (K1.out.keep hb)
 have z10_ := hb.size
 clear hb
 have HC := Lib.hid (same_ok (x := x) (y := x) SM.out F.out F1.out ((sameX_iff _ _).2 rfl))
 unfold hdC at HC
 have pK_0 := K.out.at.1 0
 have pK_1 := K.out.at.1 1
 have pK_2 := K.out.at.1 2
 have pK_3 := K.out.at.1 3
 have pK_4 := K.out.at.1 4
 have pK1_0 := K1.out.at.1 0
 have pK1_1 := K1.out.at.1 1
 have pK1_2 := K1.out.at.1 2
 have pK1_3 := K1.out.at.1 3
 have pK1_4 := K1.out.at.1 4
 go_wp2_with fail
 clear pK_0 pK_1 pK_2 pK_3 pK_4 pK1_0 pK1_1 pK1_2 pK1_3 pK1_4
 refine (HC.out).mono ?_
 rintro e w9 ⟨rfl, hb⟩
 clear HC
 replace B := Lib.hid (be_call B.out hb)
 replace HG := Lib.hid (HG.out.keep hb)
 replace T := Lib.hid (T.out.keepG (hb.mono (by omega)))
 replace F := Lib.hid (F.out.keep hb)
 replace K := Lib.hid (K.out.keep hb)
 replace F1 := Lib.hid (F1.out.keep hb)
 replace K1 := Lib.hid (K1.out.keep hb)
 have z11_ := hb.size
 clear hb
 go_wp2_with fail
 refine (parse_any s (by have := HL.out; omega) HG.out).mono ?_
 rintro e w10 ⟨y_, q2, d2, p_, e_, rfl, hf, hb, hx⟩
 replace B := Lib.hid (be_call B.out hb)
 replace HG := Lib.hid (HG.out.keep hb)
 replace T := Lib.hid (T.out.keepG (hb.mono (by omega)))
 replace F := Lib.hid (F.out.keep hb)
 replace K := Lib.hid (K.out.keep hb)
 replace F1 := Lib.hid (F1.out.keep hb)
 replace K1 := Lib.hid (K1.out.keep hb)
 have z12_ := hb.size
 clear hb
 rw [HP.out] at hx
 obtain ⟨hy_, hp_, he_⟩ : z = y_ ∧ p = p_ ∧ e = e_ := by have h1 := congrArg Prod.fst hx; have h2 := congrArg Prod.snd hx; exact ⟨h1, congrArg Prod.fst h2, congrArg Prod.snd h2⟩
 clear hx
 subst hy_ hp_ he_
 have F2 := Lib.hid (hf.mono (fun _ _ => trivial) : FoT _ q2 d2 _); clear hf
 unfold hdC
 go_upto_region 10 with fail
 refine nmW (w10.alloc (.cells #[.int .i64 z.op, .int .i64 z.n, .string ⟨z.unit.toArray⟩, .string ⟨z.name.toArray⟩, .slice q2 z.args.len d2] 24)) fun w11 hv => ?_
 rw [← hv]
 have K2 : Hid (Bx w11 w10.heap.size 24 #[.int .i64 z.op, .int .i64 z.n, .string ⟨z.unit.toArray⟩, .string ⟨z.name.toArray⟩, .slice q2 z.args.len d2]) := by show Bx _ _ _ _; rw [hv]; exact bx1 w10 _ _
 have hb_ : Below w10.heap.size w10 w11 := by rw [hv]; exact below_alloc _ _
 clear hv
 have z13_ := K2.out.lt
 replace B := Lib.hid (be_call B.out hb_)
 replace HG := Lib.hid (HG.out.keep hb_)
 replace T := Lib.hid (T.out.keepG (hb_.mono (by omega)))
 replace F := Lib.hid (F.out.keep hb_)
 replace K := Lib.hid (K.out.keep hb_)
 replace F1 := Lib.hid (F1.out.keep hb_)
 replace K1 := Lib.hid (K1.out.keep hb_)
 replace F2 := Lib.hid (F2.out.keep hb_)
 have z14_ := hb_.size
 clear hb_
 have HC := Lib.hid (few_ok (r := true) (x := z) (b := 1) (lv := 1) SZ.out F2.out (by decide) (by decide) (by rw [HZ.out]; rfl))
 rw [show ((1 : Nat) : Int) = 1 from rfl] at HC
 unfold hdC at HC
 have pK2_0 := K2.out.at.1 0
 have pK2_1 := K2.out.at.1 1
 have pK2_2 := K2.out.at.1 2
 have pK2_3 := K2.out.at.1 3
 have pK2_4 := K2.out.at.1 4
 go_wp2_with fail
 clear pK2_0 pK2_1 pK2_2 pK2_3 pK2_4
 refine (HC.out).mono ?_
 rintro e w12 ⟨rfl, hb⟩
 clear HC
 replace B := Lib.hid (be_call B.out hb)
 replace HG := Lib.hid (HG.out.keep hb)
 replace T := Lib.hid (T.out.keepG (hb.mono (by omega)))
 replace F := Lib.hid (F.out.keep hb)
 replace K := Lib.hid (K.out.keep hb)
 replace F1 := Lib.hid (F1.out.keep hb)
 replace K1 := Lib.hid (K1.out.keep hb)
 replace F2 := Lib.hid (F2.out.keep hb)
 replace K2 := Lib.hid (K2.out.keep hb)
 have z15_ := hb.size
 clear hb
 have HC := Lib.hid (same_ok (x := z) (y := Ex.zero) (q' := none) (d' := 0) (D' := fun _ => True) SZ.out F2.out FoS.nil ((sameX_iff _ _).2 HZ.out))
 rw [show (hdC Ex.zero none 0).toArray = #[.int .i64 0, .int .i64 0, .string ⟨#[]⟩, .string ⟨#[]⟩, .slice none 0 0] from rfl] at HC
 unfold hdC at HC
 have pK2_0 := K2.out.at.1 0
 have pK2_1 := K2.out.at.1 1
 have pK2_2 := K2.out.at.1 2
 have pK2_3 := K2.out.at.1 3
 have pK2_4 := K2.out.at.1 4
 go_wp2_with fail
 clear pK2_0 pK2_1 pK2_2 pK2_3 pK2_4
 refine (HC.out).mono ?_
 rintro e w13 ⟨rfl, hb⟩
 clear HC
 replace B := Lib.hid (be_call B.out hb)
 replace HG := Lib.hid (HG.out.keep hb)
 replace T := Lib.hid (T.out.keepG (hb.mono (by omega)))
 replace F := Lib.hid (F.out.keep hb)
 replace K := Lib.hid (K.out.keep hb)
 replace F1 := Lib.hid (F1.out.keep hb)
 replace K1 := Lib.hid (K1.out.keep hb)
 replace F2 := Lib.hid (F2.out.keep hb)
 replace K2 := Lib.hid (K2.out.keep hb)
 have z16_ := hb.size
 clear hb
 go_wp2_with fail
 go_ret
 exact ⟨rfl, B.out⟩
set_option maxRecDepth 100000 in
set_option maxHeartbeats 4000000 in
theorem back_can_no {x : Ex} {D : Nat → Prop} {w : World} {q : Option Addr} {d : Nat} (s : ByteArray) (hsm : smX x) (hS : FoS D w q d x.args) (hsig : SignsIn w) (hT : PowT w.heap.size w) (hf : (szF (x.then .nil) 250 24).isSome = true) (hl : ¬ 1500 < s.size) {t : Bytes} (hpr : printX x = some t) {z : Ex} {p : Nat} (hp : parseX s.data.toList = (z, p, 0)) (hpz : printX z = none) :
  Calls Tryd.prog 3 #[.agg (hdC x q d).toArray, .string s] w fun e w' => e = .returned (.bool true) ∧ Below w.heap.size w w' := by
 have HG := Lib.hid hsig; have T := Lib.hid hT; have F := Lib.hid (hS.mono (fun _ _ => trivial) : FoT w q d x.args); have SM := Lib.hid hsm
 have B : Hid (Below w.heap.size w w) := be_refl w
 clear hsig hT hS hsm
 have hli : ¬ (1500 : Int) < (s.size : Int) := by omega
 have HL := Lib.hid hl; clear hl
 have HF := Lib.hid hf; have HPR := Lib.hid hpr; have HP := Lib.hid hp; have SZ := Lib.hid (smX_parse hp); have FZ := Lib.hid (few_parse hp); clear hf hpr
 have HPZ := Lib.hid hpz; have RZ := Lib.hid ((parse_facts hp).1 rfl).1; clear hp hpz
 unfold hdC
 go_enter Tryd.func3, Tryd.ntmps3
 go_upto_region 1 with fail
 refine nmW (w.alloc (.cells #[.int .i64 x.op, .int .i64 x.n, .string ⟨x.unit.toArray⟩, .string ⟨x.name.toArray⟩, .slice q x.args.len d] 24)) fun w1 hv => ?_
 rw [← hv]
 have K : Hid (Bx w1 w.heap.size 24 #[.int .i64 x.op, .int .i64 x.n, .string ⟨x.unit.toArray⟩, .string ⟨x.name.toArray⟩, .slice q x.args.len d]) := by show Bx _ _ _ _; rw [hv]; exact bx1 w _ _
 have hb_ : Below w.heap.size w w1 := by rw [hv]; exact below_alloc _ _
 clear hv
 have z1_ := K.out.lt
 replace B := Lib.hid (be_call B.out hb_)
 replace HG := Lib.hid (HG.out.keep hb_)
 replace T := Lib.hid (T.out.keepG (hb_.mono (by omega)))
 replace F := Lib.hid (F.out.keep hb_)
 have z2_ := hb_.size
 clear hb_
 go_wp2_with fail
 refine (sane_ok HG.out (T.out.mono (by omega))).mono ?_
 rintro e w2 ⟨rfl, hb⟩
 replace B := Lib.hid (be_call B.out hb)
 replace HG := Lib.hid (HG.out.keep hb)
 replace T := Lib.hid (T.out.keepG (hb.mono (by omega)))
 replace F := Lib.hid (F.out.keep hb)
 replace K := Lib.hid (K.out.keep hb)
 have z3_ := hb.size
 clear hb
 have HC := Lib.hid (few_ok (r := true) (x := x) (b := 250) (lv := 24) SM.out F.out (by decide) (by decide) HF.out)
 rw [show ((250 : Nat) : Int) = 250 from rfl, show ((24 : Nat) : Int) = 24 from rfl] at HC
 unfold hdC at HC
 have pK_0 := K.out.at.1 0
 have pK_1 := K.out.at.1 1
 have pK_2 := K.out.at.1 2
 have pK_3 := K.out.at.1 3
 have pK_4 := K.out.at.1 4
 go_wp2_with fail
 clear pK_0 pK_1 pK_2 pK_3 pK_4
 refine (HC.out).mono ?_
 rintro e w3 ⟨rfl, hb⟩
 clear HC
 replace B := Lib.hid (be_call B.out hb)
 replace HG := Lib.hid (HG.out.keep hb)
 replace T := Lib.hid (T.out.keepG (hb.mono (by omega)))
 replace F := Lib.hid (F.out.keep hb)
 replace K := Lib.hid (K.out.keep hb)
 have z4_ := hb.size
 clear hb
 have HC := Lib.hid (print_x (x := x) SM.out F.out (T.out.mono (by omega)) (fun h => prn_right h) HPR.out)
 unfold hdC at HC
 simp only [Option.getD_some, Option.isSome_some] at HC
 have pK_0 := K.out.at.1 0
 have pK_1 := K.out.at.1 1
 have pK_2 := K.out.at.1 2
 have pK_3 := K.out.at.1 3
 have pK_4 := K.out.at.1 4
 go_wp2_with fail
 clear pK_0 pK_1 pK_2 pK_3 pK_4
 refine (HC.out).mono ?_
 rintro e w4 ⟨rfl, hb⟩
 clear HC
 replace B := Lib.hid (be_call B.out hb)
 replace HG := Lib.hid (HG.out.keep hb)
 replace T := Lib.hid (T.out.keepG (hb.mono (by omega)))
 replace F := Lib.hid (F.out.keep hb)
 replace K := Lib.hid (K.out.keep hb)
 have z5_ := hb.size
 clear hb
 have HB := Lib.hid (back_print HPR.out)
 have htl : ¬ (4000 : Int) < ((⟨t.toArray⟩ : ByteArray).size : Int) := by have := HB.out.2.1; simp [ByteArray.size]; omega
 go_wp2_with fail
 refine (parse_any ⟨t.toArray⟩ (by have := HB.out.2.1; simp [ByteArray.size]; omega) HG.out).mono ?_
 rintro e w5 ⟨y_, q1, d1, p_, e_, rfl, hf, hb, hx⟩
 replace B := Lib.hid (be_call B.out hb)
 replace HG := Lib.hid (HG.out.keep hb)
 replace T := Lib.hid (T.out.keepG (hb.mono (by omega)))
 replace F := Lib.hid (F.out.keep hb)
 replace K := Lib.hid (K.out.keep hb)
 have z6_ := hb.size
 clear hb
 rw [show (ByteArray.mk t.toArray).data.toList = t by simp] at hx
 rw [HB.out.2.2] at hx
 obtain ⟨hy_, hp_, he_⟩ : x = y_ ∧ 0 = p_ ∧ 0 = e_ := by have h1 := congrArg Prod.fst hx; have h2 := congrArg Prod.snd hx; exact ⟨h1, congrArg Prod.fst h2, congrArg Prod.snd h2⟩
 clear hx
 subst hy_ hp_ he_
 have F1 := Lib.hid (hf.mono (fun _ _ => trivial) : FoT _ q1 d1 _); clear hf
 unfold hdC
 go_upto_region 7 with fail
 refine nmW (w5.alloc (.cells #[.int .i64 x.op, .int .i64 x.n, .string ⟨x.unit.toArray⟩, .string ⟨x.name.toArray⟩, .slice q1 x.args.len d1] 24)) fun w6 hv => ?_
 rw [← hv]
 have K1 : Hid (Bx w6 w5.heap.size 24 #[.int .i64 x.op, .int .i64 x.n, .string ⟨x.unit.toArray⟩, .string ⟨x.name.toArray⟩, .slice q1 x.args.len d1]) := by show Bx _ _ _ _; rw [hv]; exact bx1 w5 _ _
 have hb_ : Below w5.heap.size w5 w6 := by rw [hv]; exact below_alloc _ _
 clear hv
 have z7_ := K1.out.lt
 replace B := Lib.hid (be_call B.out hb_)
 replace HG := Lib.hid (HG.out.keep hb_)
 replace T := Lib.hid (T.out.keepG (hb_.mono (by omega)))
 replace F := Lib.hid (F.out.keep hb_)
 replace K := Lib.hid (K.out.keep hb_)
 replace F1 := Lib.hid (F1.out.keep hb_)
 have z8_ := hb_.size
 clear hb_
 have HC := Lib.hid (right_ok (x := x) SM.out F.out)
 rw [HB.out.1] at HC
 unfold hdC at HC
 have pK_0 := K.out.at.1 0
 have pK_1 := K.out.at.1 1
 have pK_2 := K.out.at.1 2
 have pK_3 := K.out.at.1 3
 have pK_4 := K.out.at.1 4
 go_wp2_with fail
 clear pK_0 pK_1 pK_2 pK_3 pK_4
 refine (HC.out).mono ?_
 rintro e w7 ⟨rfl, hb⟩
 clear HC
 replace B := Lib.hid (be_call B.out hb)
 replace HG := Lib.hid (HG.out.keep hb)
 replace T := Lib.hid (T.out.keepG (hb.mono (by omega)))
 replace F := Lib.hid (F.out.keep hb)
 replace K := Lib.hid (K.out.keep hb)
 replace F1 := Lib.hid (F1.out.keep hb)
 replace K1 := Lib.hid (K1.out.keep hb)
 have z9_ := hb.size
 clear hb
 have HC := Lib.hid (few_ok (r := true) (x := x) (b := 250) (lv := 24) SM.out F1.out (by decide) (by decide) HF.out)
 rw [show ((250 : Nat) : Int) = 250 from rfl, show ((24 : Nat) : Int) = 24 from rfl] at HC
 unfold hdC at HC
 have pK1_0 := K1.out.at.1 0
 have pK1_1 := K1.out.at.1 1
 have pK1_2 := K1.out.at.1 2
 have pK1_3 := K1.out.at.1 3
 have pK1_4 := K1.out.at.1 4
 go_wp2_with fail
 clear pK1_0 pK1_1 pK1_2 pK1_3 pK1_4
 refine (HC.out).mono ?_
 rintro e w8 ⟨rfl, hb⟩
 clear HC
 replace B := Lib.hid (be_call B.out hb)
 replace HG := Lib.hid (HG.out.keep hb)
 replace T := Lib.hid (T.out.keepG (hb.mono (by omega)))
 replace F := Lib.hid (F.out.keep hb)
 replace K := Lib.hid (K.out.keep hb)
 replace F1 := Lib.hid (F1.out.keep hb)
 replace K1 := Lib.hid (K1.out.keep hb)
 have z10_ := hb.size
 clear hb
 have HC := Lib.hid (same_ok (x := x) (y := x) SM.out F.out F1.out ((sameX_iff _ _).2 rfl))
 unfold hdC at HC
 have pK_0 := K.out.at.1 0
 have pK_1 := K.out.at.1 1
 have pK_2 := K.out.at.1 2
 have pK_3 := K.out.at.1 3
 have pK_4 := K.out.at.1 4
 have pK1_0 := K1.out.at.1 0
 have pK1_1 := K1.out.at.1 1
 have pK1_2 := K1.out.at.1 2
 have pK1_3 := K1.out.at.1 3
 have pK1_4 := K1.out.at.1 4
 go_wp2_with fail
 clear pK_0 pK_1 pK_2 pK_3 pK_4 pK1_0 pK1_1 pK1_2 pK1_3 pK1_4
 refine (HC.out).mono ?_
 rintro e w9 ⟨rfl, hb⟩
 clear HC
 replace B := Lib.hid (be_call B.out hb)
 replace HG := Lib.hid (HG.out.keep hb)
 replace T := Lib.hid (T.out.keepG (hb.mono (by omega)))
 replace F := Lib.hid (F.out.keep hb)
 replace K := Lib.hid (K.out.keep hb)
 replace F1 := Lib.hid (F1.out.keep hb)
 replace K1 := Lib.hid (K1.out.keep hb)
 have z11_ := hb.size
 clear hb
 go_wp2_with fail
 refine (parse_any s (by have := HL.out; omega) HG.out).mono ?_
 rintro e w10 ⟨y_, q2, d2, p_, e_, rfl, hf, hb, hx⟩
 replace B := Lib.hid (be_call B.out hb)
 replace HG := Lib.hid (HG.out.keep hb)
 replace T := Lib.hid (T.out.keepG (hb.mono (by omega)))
 replace F := Lib.hid (F.out.keep hb)
 replace K := Lib.hid (K.out.keep hb)
 replace F1 := Lib.hid (F1.out.keep hb)
 replace K1 := Lib.hid (K1.out.keep hb)
 have z12_ := hb.size
 clear hb
 rw [HP.out] at hx
 obtain ⟨hy_, hp_, he_⟩ : z = y_ ∧ p = p_ ∧ 0 = e_ := by have h1 := congrArg Prod.fst hx; have h2 := congrArg Prod.snd hx; exact ⟨h1, congrArg Prod.fst h2, congrArg Prod.snd h2⟩
 clear hx
 subst hy_ hp_ he_
 have F2 := Lib.hid (hf.mono (fun _ _ => trivial) : FoT _ q2 d2 _); clear hf
 unfold hdC
 go_upto_region 10 with fail
 refine nmW (w10.alloc (.cells #[.int .i64 z.op, .int .i64 z.n, .string ⟨z.unit.toArray⟩, .string ⟨z.name.toArray⟩, .slice q2 z.args.len d2] 24)) fun w11 hv => ?_
 rw [← hv]
 have K2 : Hid (Bx w11 w10.heap.size 24 #[.int .i64 z.op, .int .i64 z.n, .string ⟨z.unit.toArray⟩, .string ⟨z.name.toArray⟩, .slice q2 z.args.len d2]) := by show Bx _ _ _ _; rw [hv]; exact bx1 w10 _ _
 have hb_ : Below w10.heap.size w10 w11 := by rw [hv]; exact below_alloc _ _
 clear hv
 have z13_ := K2.out.lt
 replace B := Lib.hid (be_call B.out hb_)
 replace HG := Lib.hid (HG.out.keep hb_)
 replace T := Lib.hid (T.out.keepG (hb_.mono (by omega)))
 replace F := Lib.hid (F.out.keep hb_)
 replace K := Lib.hid (K.out.keep hb_)
 replace F1 := Lib.hid (F1.out.keep hb_)
 replace K1 := Lib.hid (K1.out.keep hb_)
 replace F2 := Lib.hid (F2.out.keep hb_)
 have z14_ := hb_.size
 clear hb_
 have HC := Lib.hid (print_x (x := z) SZ.out F2.out (T.out.mono (by omega)) (fun h => prn_right h) HPZ.out)
 unfold hdC at HC
 simp only [Option.getD_none, Option.isSome_none] at HC
 rw [show (([] : Bytes).toArray) = #[] from rfl] at HC
 have pK2_0 := K2.out.at.1 0
 have pK2_1 := K2.out.at.1 1
 have pK2_2 := K2.out.at.1 2
 have pK2_3 := K2.out.at.1 3
 have pK2_4 := K2.out.at.1 4
 go_wp2_with fail
 clear pK2_0 pK2_1 pK2_2 pK2_3 pK2_4
 refine (HC.out).mono ?_
 rintro e w12 ⟨rfl, hb⟩
 clear HC
 replace B := Lib.hid (be_call B.out hb)
 replace HG := Lib.hid (HG.out.keep hb)
 replace T := Lib.hid (T.out.keepG (hb.mono (by omega)))
 replace F := Lib.hid (F.out.keep hb)
 replace K := Lib.hid (K.out.keep hb)
 replace F1 := Lib.hid (F1.out.keep hb)
 replace K1 := Lib.hid (K1.out.keep hb)
 replace F2 := Lib.hid (F2.out.keep hb)
 replace K2 := Lib.hid (K2.out.keep hb)
 have z15_ := hb.size
 clear hb
 have HC := Lib.hid (few_ok (r := true) (x := z) (b := 250) (lv := 24) SZ.out F2.out (by decide) (by decide) FZ.out)
 rw [show ((250 : Nat) : Int) = 250 from rfl, show ((24 : Nat) : Int) = 24 from rfl] at HC
 unfold hdC at HC
 have pK2_0 := K2.out.at.1 0
 have pK2_1 := K2.out.at.1 1
 have pK2_2 := K2.out.at.1 2
 have pK2_3 := K2.out.at.1 3
 have pK2_4 := K2.out.at.1 4
 go_wp2_with fail
 clear pK2_0 pK2_1 pK2_2 pK2_3 pK2_4
 refine (HC.out).mono ?_
 rintro e w13 ⟨rfl, hb⟩
 clear HC
 replace B := Lib.hid (be_call B.out hb)
 replace HG := Lib.hid (HG.out.keep hb)
 replace T := Lib.hid (T.out.keepG (hb.mono (by omega)))
 replace F := Lib.hid (F.out.keep hb)
 replace K := Lib.hid (K.out.keep hb)
 replace F1 := Lib.hid (F1.out.keep hb)
 replace K1 := Lib.hid (K1.out.keep hb)
 replace F2 := Lib.hid (F2.out.keep hb)
 replace K2 := Lib.hid (K2.out.keep hb)
 have z16_ := hb.size
 clear hb
 have HC := Lib.hid (right_ok (x := z) SZ.out F2.out)
 rw [RZ.out] at HC
 unfold hdC at HC
 have pK2_0 := K2.out.at.1 0
 have pK2_1 := K2.out.at.1 1
 have pK2_2 := K2.out.at.1 2
 have pK2_3 := K2.out.at.1 3
 have pK2_4 := K2.out.at.1 4
 go_wp2_with fail
 clear pK2_0 pK2_1 pK2_2 pK2_3 pK2_4
 refine (HC.out).mono ?_
 rintro e w14 ⟨rfl, hb⟩
 clear HC
 replace B := Lib.hid (be_call B.out hb)
 replace HG := Lib.hid (HG.out.keep hb)
 replace T := Lib.hid (T.out.keepG (hb.mono (by omega)))
 replace F := Lib.hid (F.out.keep hb)
 replace K := Lib.hid (K.out.keep hb)
 replace F1 := Lib.hid (F1.out.keep hb)
 replace K1 := Lib.hid (K1.out.keep hb)
 replace F2 := Lib.hid (F2.out.keep hb)
 replace K2 := Lib.hid (K2.out.keep hb)
 have z17_ := hb.size
 clear hb
 go_wp2_with fail
 go_ret
 exact ⟨rfl, B.out⟩
set_option maxRecDepth 100000 in
set_option maxHeartbeats 4000000 in
theorem back_can_yes {x : Ex} {D : Nat → Prop} {w : World} {q : Option Addr} {d : Nat} (s : ByteArray) (hsm : smX x) (hS : FoS D w q d x.args) (hsig : SignsIn w) (hT : PowT w.heap.size w) (hf : (szF (x.then .nil) 250 24).isSome = true) (hl : ¬ 1500 < s.size) {t : Bytes} (hpr : printX x = some t) {z : Ex} {p : Nat} (hp : parseX s.data.toList = (z, p, 0)) {u : Bytes} (hpz : printX z = some u) :
  Calls Tryd.prog 3 #[.agg (hdC x q d).toArray, .string s] w fun e w' => e = .returned (.bool true) ∧ Below w.heap.size w w' := by
 have HG := Lib.hid hsig; have T := Lib.hid hT; have F := Lib.hid (hS.mono (fun _ _ => trivial) : FoT w q d x.args); have SM := Lib.hid hsm
 have B : Hid (Below w.heap.size w w) := be_refl w
 clear hsig hT hS hsm
 have hli : ¬ (1500 : Int) < (s.size : Int) := by omega
 have HL := Lib.hid hl; clear hl
 have HF := Lib.hid hf; have HPR := Lib.hid hpr; have HP := Lib.hid hp; have SZ := Lib.hid (smX_parse hp); have FZ := Lib.hid (few_parse hp); clear hf hpr
 have HPZ := Lib.hid hpz; have RZ := Lib.hid ((parse_facts hp).1 rfl).1; clear hp hpz
 unfold hdC
 go_enter Tryd.func3, Tryd.ntmps3
 go_upto_region 1 with fail
 refine nmW (w.alloc (.cells #[.int .i64 x.op, .int .i64 x.n, .string ⟨x.unit.toArray⟩, .string ⟨x.name.toArray⟩, .slice q x.args.len d] 24)) fun w1 hv => ?_
 rw [← hv]
 have K : Hid (Bx w1 w.heap.size 24 #[.int .i64 x.op, .int .i64 x.n, .string ⟨x.unit.toArray⟩, .string ⟨x.name.toArray⟩, .slice q x.args.len d]) := by show Bx _ _ _ _; rw [hv]; exact bx1 w _ _
 have hb_ : Below w.heap.size w w1 := by rw [hv]; exact below_alloc _ _
 clear hv
 have z1_ := K.out.lt
 replace B := Lib.hid (be_call B.out hb_)
 replace HG := Lib.hid (HG.out.keep hb_)
 replace T := Lib.hid (T.out.keepG (hb_.mono (by omega)))
 replace F := Lib.hid (F.out.keep hb_)
 have z2_ := hb_.size
 clear hb_
 go_wp2_with fail
 refine (sane_ok HG.out (T.out.mono (by omega))).mono ?_
 rintro e w2 ⟨rfl, hb⟩
 replace B := Lib.hid (be_call B.out hb)
 replace HG := Lib.hid (HG.out.keep hb)
 replace T := Lib.hid (T.out.keepG (hb.mono (by omega)))
 replace F := Lib.hid (F.out.keep hb)
 replace K := Lib.hid (K.out.keep hb)
 have z3_ := hb.size
 clear hb
 have HC := Lib.hid (few_ok (r := true) (x := x) (b := 250) (lv := 24) SM.out F.out (by decide) (by decide) HF.out)
 rw [show ((250 : Nat) : Int) = 250 from rfl, show ((24 : Nat) : Int) = 24 from rfl] at HC
 unfold hdC at HC
 have pK_0 := K.out.at.1 0
 have pK_1 := K.out.at.1 1
 have pK_2 := K.out.at.1 2
 have pK_3 := K.out.at.1 3
 have pK_4 := K.out.at.1 4
 go_wp2_with fail
 clear pK_0 pK_1 pK_2 pK_3 pK_4
 refine (HC.out).mono ?_
 rintro e w3 ⟨rfl, hb⟩
 clear HC
 replace B := Lib.hid (be_call B.out hb)
 replace HG := Lib.hid (HG.out.keep hb)
 replace T := Lib.hid (T.out.keepG (hb.mono (by omega)))
 replace F := Lib.hid (F.out.keep hb)
 replace K := Lib.hid (K.out.keep hb)
 have z4_ := hb.size
 clear hb
 have HC := Lib.hid (print_x (x := x) SM.out F.out (T.out.mono (by omega)) (fun h => prn_right h) HPR.out)
 unfold hdC at HC
 simp only [Option.getD_some, Option.isSome_some] at HC
 have pK_0 := K.out.at.1 0
 have pK_1 := K.out.at.1 1
 have pK_2 := K.out.at.1 2
 have pK_3 := K.out.at.1 3
 have pK_4 := K.out.at.1 4
 go_wp2_with fail
 clear pK_0 pK_1 pK_2 pK_3 pK_4
 refine (HC.out).mono ?_
 rintro e w4 ⟨rfl, hb⟩
 clear HC
 replace B := Lib.hid (be_call B.out hb)
 replace HG := Lib.hid (HG.out.keep hb)
 replace T := Lib.hid (T.out.keepG (hb.mono (by omega)))
 replace F := Lib.hid (F.out.keep hb)
 replace K := Lib.hid (K.out.keep hb)
 have z5_ := hb.size
 clear hb
 have HB := Lib.hid (back_print HPR.out)
 have htl : ¬ (4000 : Int) < ((⟨t.toArray⟩ : ByteArray).size : Int) := by have := HB.out.2.1; simp [ByteArray.size]; omega
 go_wp2_with fail
 refine (parse_any ⟨t.toArray⟩ (by have := HB.out.2.1; simp [ByteArray.size]; omega) HG.out).mono ?_
 rintro e w5 ⟨y_, q1, d1, p_, e_, rfl, hf, hb, hx⟩
 replace B := Lib.hid (be_call B.out hb)
 replace HG := Lib.hid (HG.out.keep hb)
 replace T := Lib.hid (T.out.keepG (hb.mono (by omega)))
 replace F := Lib.hid (F.out.keep hb)
 replace K := Lib.hid (K.out.keep hb)
 have z6_ := hb.size
 clear hb
 rw [show (ByteArray.mk t.toArray).data.toList = t by simp] at hx
 rw [HB.out.2.2] at hx
 obtain ⟨hy_, hp_, he_⟩ : x = y_ ∧ 0 = p_ ∧ 0 = e_ := by have h1 := congrArg Prod.fst hx; have h2 := congrArg Prod.snd hx; exact ⟨h1, congrArg Prod.fst h2, congrArg Prod.snd h2⟩
 clear hx
 subst hy_ hp_ he_
 have F1 := Lib.hid (hf.mono (fun _ _ => trivial) : FoT _ q1 d1 _); clear hf
 unfold hdC
 go_upto_region 7 with fail
 refine nmW (w5.alloc (.cells #[.int .i64 x.op, .int .i64 x.n, .string ⟨x.unit.toArray⟩, .string ⟨x.name.toArray⟩, .slice q1 x.args.len d1] 24)) fun w6 hv => ?_
 rw [← hv]
 have K1 : Hid (Bx w6 w5.heap.size 24 #[.int .i64 x.op, .int .i64 x.n, .string ⟨x.unit.toArray⟩, .string ⟨x.name.toArray⟩, .slice q1 x.args.len d1]) := by show Bx _ _ _ _; rw [hv]; exact bx1 w5 _ _
 have hb_ : Below w5.heap.size w5 w6 := by rw [hv]; exact below_alloc _ _
 clear hv
 have z7_ := K1.out.lt
 replace B := Lib.hid (be_call B.out hb_)
 replace HG := Lib.hid (HG.out.keep hb_)
 replace T := Lib.hid (T.out.keepG (hb_.mono (by omega)))
 replace F := Lib.hid (F.out.keep hb_)
 replace K := Lib.hid (K.out.keep hb_)
 replace F1 := Lib.hid (F1.out.keep hb_)
 have z8_ := hb_.size
 clear hb_
 have HC := Lib.hid (right_ok (x := x) SM.out F.out)
 rw [HB.out.1] at HC
 unfold hdC at HC
 have pK_0 := K.out.at.1 0
 have pK_1 := K.out.at.1 1
 have pK_2 := K.out.at.1 2
 have pK_3 := K.out.at.1 3
 have pK_4 := K.out.at.1 4
 go_wp2_with fail
 clear pK_0 pK_1 pK_2 pK_3 pK_4
 refine (HC.out).mono ?_
 rintro e w7 ⟨rfl, hb⟩
 clear HC
 replace B := Lib.hid (be_call B.out hb)
 replace HG := Lib.hid (HG.out.keep hb)
 replace T := Lib.hid (T.out.keepG (hb.mono (by omega)))
 replace F := Lib.hid (F.out.keep hb)
 replace K := Lib.hid (K.out.keep hb)
 replace F1 := Lib.hid (F1.out.keep hb)
 replace K1 := Lib.hid (K1.out.keep hb)
 have z9_ := hb.size
 clear hb
 have HC := Lib.hid (few_ok (r := true) (x := x) (b := 250) (lv := 24) SM.out F1.out (by decide) (by decide) HF.out)
 rw [show ((250 : Nat) : Int) = 250 from rfl, show ((24 : Nat) : Int) = 24 from rfl] at HC
 unfold hdC at HC
 have pK1_0 := K1.out.at.1 0
 have pK1_1 := K1.out.at.1 1
 have pK1_2 := K1.out.at.1 2
 have pK1_3 := K1.out.at.1 3
 have pK1_4 := K1.out.at.1 4
 go_wp2_with fail
 clear pK1_0 pK1_1 pK1_2 pK1_3 pK1_4
 refine (HC.out).mono ?_
 rintro e w8 ⟨rfl, hb⟩
 clear HC
 replace B := Lib.hid (be_call B.out hb)
 replace HG := Lib.hid (HG.out.keep hb)
 replace T := Lib.hid (T.out.keepG (hb.mono (by omega)))
 replace F := Lib.hid (F.out.keep hb)
 replace K := Lib.hid (K.out.keep hb)
 replace F1 := Lib.hid (F1.out.keep hb)
 replace K1 := Lib.hid (K1.out.keep hb)
 have z10_ := hb.size
 clear hb
 have HC := Lib.hid (same_ok (x := x) (y := x) SM.out F.out F1.out ((sameX_iff _ _).2 rfl))
 unfold hdC at HC
 have pK_0 := K.out.at.1 0
 have pK_1 := K.out.at.1 1
 have pK_2 := K.out.at.1 2
 have pK_3 := K.out.at.1 3
 have pK_4 := K.out.at.1 4
 have pK1_0 := K1.out.at.1 0
 have pK1_1 := K1.out.at.1 1
 have pK1_2 := K1.out.at.1 2
 have pK1_3 := K1.out.at.1 3
 have pK1_4 := K1.out.at.1 4
 go_wp2_with fail
 clear pK_0 pK_1 pK_2 pK_3 pK_4 pK1_0 pK1_1 pK1_2 pK1_3 pK1_4
 refine (HC.out).mono ?_
 rintro e w9 ⟨rfl, hb⟩
 clear HC
 replace B := Lib.hid (be_call B.out hb)
 replace HG := Lib.hid (HG.out.keep hb)
 replace T := Lib.hid (T.out.keepG (hb.mono (by omega)))
 replace F := Lib.hid (F.out.keep hb)
 replace K := Lib.hid (K.out.keep hb)
 replace F1 := Lib.hid (F1.out.keep hb)
 replace K1 := Lib.hid (K1.out.keep hb)
 have z11_ := hb.size
 clear hb
 go_wp2_with fail
 refine (parse_any s (by have := HL.out; omega) HG.out).mono ?_
 rintro e w10 ⟨y_, q2, d2, p_, e_, rfl, hf, hb, hx⟩
 replace B := Lib.hid (be_call B.out hb)
 replace HG := Lib.hid (HG.out.keep hb)
 replace T := Lib.hid (T.out.keepG (hb.mono (by omega)))
 replace F := Lib.hid (F.out.keep hb)
 replace K := Lib.hid (K.out.keep hb)
 replace F1 := Lib.hid (F1.out.keep hb)
 replace K1 := Lib.hid (K1.out.keep hb)
 have z12_ := hb.size
 clear hb
 rw [HP.out] at hx
 obtain ⟨hy_, hp_, he_⟩ : z = y_ ∧ p = p_ ∧ 0 = e_ := by have h1 := congrArg Prod.fst hx; have h2 := congrArg Prod.snd hx; exact ⟨h1, congrArg Prod.fst h2, congrArg Prod.snd h2⟩
 clear hx
 subst hy_ hp_ he_
 have F2 := Lib.hid (hf.mono (fun _ _ => trivial) : FoT _ q2 d2 _); clear hf
 unfold hdC
 go_upto_region 10 with fail
 refine nmW (w10.alloc (.cells #[.int .i64 z.op, .int .i64 z.n, .string ⟨z.unit.toArray⟩, .string ⟨z.name.toArray⟩, .slice q2 z.args.len d2] 24)) fun w11 hv => ?_
 rw [← hv]
 have K2 : Hid (Bx w11 w10.heap.size 24 #[.int .i64 z.op, .int .i64 z.n, .string ⟨z.unit.toArray⟩, .string ⟨z.name.toArray⟩, .slice q2 z.args.len d2]) := by show Bx _ _ _ _; rw [hv]; exact bx1 w10 _ _
 have hb_ : Below w10.heap.size w10 w11 := by rw [hv]; exact below_alloc _ _
 clear hv
 have z13_ := K2.out.lt
 replace B := Lib.hid (be_call B.out hb_)
 replace HG := Lib.hid (HG.out.keep hb_)
 replace T := Lib.hid (T.out.keepG (hb_.mono (by omega)))
 replace F := Lib.hid (F.out.keep hb_)
 replace K := Lib.hid (K.out.keep hb_)
 replace F1 := Lib.hid (F1.out.keep hb_)
 replace K1 := Lib.hid (K1.out.keep hb_)
 replace F2 := Lib.hid (F2.out.keep hb_)
 have z14_ := hb_.size
 clear hb_
 have HC := Lib.hid (print_x (x := z) SZ.out F2.out (T.out.mono (by omega)) (fun h => prn_right h) HPZ.out)
 unfold hdC at HC
 simp only [Option.getD_some, Option.isSome_some] at HC
 have pK2_0 := K2.out.at.1 0
 have pK2_1 := K2.out.at.1 1
 have pK2_2 := K2.out.at.1 2
 have pK2_3 := K2.out.at.1 3
 have pK2_4 := K2.out.at.1 4
 go_wp2_with fail
 clear pK2_0 pK2_1 pK2_2 pK2_3 pK2_4
 refine (HC.out).mono ?_
 rintro e w12 ⟨rfl, hb⟩
 clear HC
 replace B := Lib.hid (be_call B.out hb)
 replace HG := Lib.hid (HG.out.keep hb)
 replace T := Lib.hid (T.out.keepG (hb.mono (by omega)))
 replace F := Lib.hid (F.out.keep hb)
 replace K := Lib.hid (K.out.keep hb)
 replace F1 := Lib.hid (F1.out.keep hb)
 replace K1 := Lib.hid (K1.out.keep hb)
 replace F2 := Lib.hid (F2.out.keep hb)
 replace K2 := Lib.hid (K2.out.keep hb)
 have z15_ := hb.size
 clear hb
 have HC := Lib.hid (few_ok (r := true) (x := z) (b := 250) (lv := 24) SZ.out F2.out (by decide) (by decide) FZ.out)
 rw [show ((250 : Nat) : Int) = 250 from rfl, show ((24 : Nat) : Int) = 24 from rfl] at HC
 unfold hdC at HC
 have pK2_0 := K2.out.at.1 0
 have pK2_1 := K2.out.at.1 1
 have pK2_2 := K2.out.at.1 2
 have pK2_3 := K2.out.at.1 3
 have pK2_4 := K2.out.at.1 4
 go_wp2_with fail
 clear pK2_0 pK2_1 pK2_2 pK2_3 pK2_4
 refine (HC.out).mono ?_
 rintro e w13 ⟨rfl, hb⟩
 clear HC
 replace B := Lib.hid (be_call B.out hb)
 replace HG := Lib.hid (HG.out.keep hb)
 replace T := Lib.hid (T.out.keepG (hb.mono (by omega)))
 replace F := Lib.hid (F.out.keep hb)
 replace K := Lib.hid (K.out.keep hb)
 replace F1 := Lib.hid (F1.out.keep hb)
 replace K1 := Lib.hid (K1.out.keep hb)
 replace F2 := Lib.hid (F2.out.keep hb)
 replace K2 := Lib.hid (K2.out.keep hb)
 have z16_ := hb.size
 clear hb
 have HC := Lib.hid (right_ok (x := z) SZ.out F2.out)
 rw [RZ.out] at HC
 unfold hdC at HC
 have pK2_0 := K2.out.at.1 0
 have pK2_1 := K2.out.at.1 1
 have pK2_2 := K2.out.at.1 2
 have pK2_3 := K2.out.at.1 3
 have pK2_4 := K2.out.at.1 4
 go_wp2_with fail
 clear pK2_0 pK2_1 pK2_2 pK2_3 pK2_4
 refine (HC.out).mono ?_
 rintro e w14 ⟨rfl, hb⟩
 clear HC
 replace B := Lib.hid (be_call B.out hb)
 replace HG := Lib.hid (HG.out.keep hb)
 replace T := Lib.hid (T.out.keepG (hb.mono (by omega)))
 replace F := Lib.hid (F.out.keep hb)
 replace K := Lib.hid (K.out.keep hb)
 replace F1 := Lib.hid (F1.out.keep hb)
 replace K1 := Lib.hid (K1.out.keep hb)
 replace F2 := Lib.hid (F2.out.keep hb)
 replace K2 := Lib.hid (K2.out.keep hb)
 have z17_ := hb.size
 clear hb
 have HU := Lib.hid (back_print HPZ.out)
 go_wp2_with fail
 refine (parse_any ⟨u.toArray⟩ (by have := HU.out.2.1; simp [ByteArray.size]; omega) HG.out).mono ?_
 rintro e w15 ⟨y_, q3, d3, p_, e_, rfl, hf, hb, hx⟩
 replace B := Lib.hid (be_call B.out hb)
 replace HG := Lib.hid (HG.out.keep hb)
 replace T := Lib.hid (T.out.keepG (hb.mono (by omega)))
 replace F := Lib.hid (F.out.keep hb)
 replace K := Lib.hid (K.out.keep hb)
 replace F1 := Lib.hid (F1.out.keep hb)
 replace K1 := Lib.hid (K1.out.keep hb)
 replace F2 := Lib.hid (F2.out.keep hb)
 replace K2 := Lib.hid (K2.out.keep hb)
 have z18_ := hb.size
 clear hb
 rw [show (ByteArray.mk u.toArray).data.toList = u by simp] at hx
 rw [HU.out.2.2] at hx
 obtain ⟨hy_, hp_, he_⟩ : z = y_ ∧ 0 = p_ ∧ 0 = e_ := by have h1 := congrArg Prod.fst hx; have h2 := congrArg Prod.snd hx; exact ⟨h1, congrArg Prod.fst h2, congrArg Prod.snd h2⟩
 clear hx
 subst hy_ hp_ he_
 have F3 := Lib.hid (hf.mono (fun _ _ => trivial) : FoT _ q3 d3 _); clear hf
 unfold hdC
 go_upto_region 18 with fail
 refine nmW (w15.alloc (.cells #[.int .i64 z.op, .int .i64 z.n, .string ⟨z.unit.toArray⟩, .string ⟨z.name.toArray⟩, .slice q3 z.args.len d3] 24)) fun w16 hv => ?_
 rw [← hv]
 have K3 : Hid (Bx w16 w15.heap.size 24 #[.int .i64 z.op, .int .i64 z.n, .string ⟨z.unit.toArray⟩, .string ⟨z.name.toArray⟩, .slice q3 z.args.len d3]) := by show Bx _ _ _ _; rw [hv]; exact bx1 w15 _ _
 have hb_ : Below w15.heap.size w15 w16 := by rw [hv]; exact below_alloc _ _
 clear hv
 have z19_ := K3.out.lt
 replace B := Lib.hid (be_call B.out hb_)
 replace HG := Lib.hid (HG.out.keep hb_)
 replace T := Lib.hid (T.out.keepG (hb_.mono (by omega)))
 replace F := Lib.hid (F.out.keep hb_)
 replace K := Lib.hid (K.out.keep hb_)
 replace F1 := Lib.hid (F1.out.keep hb_)
 replace K1 := Lib.hid (K1.out.keep hb_)
 replace F2 := Lib.hid (F2.out.keep hb_)
 replace K2 := Lib.hid (K2.out.keep hb_)
 replace F3 := Lib.hid (F3.out.keep hb_)
 have z20_ := hb_.size
 clear hb_
 have HC := Lib.hid (few_ok (r := true) (x := z) (b := 250) (lv := 24) SZ.out F3.out (by decide) (by decide) FZ.out)
 rw [show ((250 : Nat) : Int) = 250 from rfl, show ((24 : Nat) : Int) = 24 from rfl] at HC
 unfold hdC at HC
 have pK3_0 := K3.out.at.1 0
 have pK3_1 := K3.out.at.1 1
 have pK3_2 := K3.out.at.1 2
 have pK3_3 := K3.out.at.1 3
 have pK3_4 := K3.out.at.1 4
 go_wp2_with fail
 clear pK3_0 pK3_1 pK3_2 pK3_3 pK3_4
 refine (HC.out).mono ?_
 rintro e w17 ⟨rfl, hb⟩
 clear HC
 replace B := Lib.hid (be_call B.out hb)
 replace HG := Lib.hid (HG.out.keep hb)
 replace T := Lib.hid (T.out.keepG (hb.mono (by omega)))
 replace F := Lib.hid (F.out.keep hb)
 replace K := Lib.hid (K.out.keep hb)
 replace F1 := Lib.hid (F1.out.keep hb)
 replace K1 := Lib.hid (K1.out.keep hb)
 replace F2 := Lib.hid (F2.out.keep hb)
 replace K2 := Lib.hid (K2.out.keep hb)
 replace F3 := Lib.hid (F3.out.keep hb)
 replace K3 := Lib.hid (K3.out.keep hb)
 have z21_ := hb.size
 clear hb
 have HC := Lib.hid (same_ok (x := z) (y := z) SZ.out F2.out F3.out ((sameX_iff _ _).2 rfl))
 unfold hdC at HC
 have pK2_0 := K2.out.at.1 0
 have pK2_1 := K2.out.at.1 1
 have pK2_2 := K2.out.at.1 2
 have pK2_3 := K2.out.at.1 3
 have pK2_4 := K2.out.at.1 4
 have pK3_0 := K3.out.at.1 0
 have pK3_1 := K3.out.at.1 1
 have pK3_2 := K3.out.at.1 2
 have pK3_3 := K3.out.at.1 3
 have pK3_4 := K3.out.at.1 4
 go_wp2_with fail
 clear pK2_0 pK2_1 pK2_2 pK2_3 pK2_4 pK3_0 pK3_1 pK3_2 pK3_3 pK3_4
 refine (HC.out).mono ?_
 rintro e w18 ⟨rfl, hb⟩
 clear HC
 replace B := Lib.hid (be_call B.out hb)
 replace HG := Lib.hid (HG.out.keep hb)
 replace T := Lib.hid (T.out.keepG (hb.mono (by omega)))
 replace F := Lib.hid (F.out.keep hb)
 replace K := Lib.hid (K.out.keep hb)
 replace F1 := Lib.hid (F1.out.keep hb)
 replace K1 := Lib.hid (K1.out.keep hb)
 replace F2 := Lib.hid (F2.out.keep hb)
 replace K2 := Lib.hid (K2.out.keep hb)
 replace F3 := Lib.hid (F3.out.keep hb)
 replace K3 := Lib.hid (K3.out.keep hb)
 have z22_ := hb.size
 clear hb
 go_wp2_with fail
 go_ret
 exact ⟨rfl, B.out⟩
set_option maxRecDepth 100000 in
set_option maxHeartbeats 4000000 in
theorem back_not_bad {x : Ex} {D : Nat → Prop} {w : World} {q : Option Addr} {d : Nat} (s : ByteArray) (hsm : smX x) (hS : FoS D w q d x.args) (hsig : SignsIn w) (hT : PowT w.heap.size w) (hf : (szF (x.then .nil) 250 24).isSome = true) (hl : ¬ 1500 < s.size) (hpr : printX x = none) {z : Ex} {p e : Nat} (hp : parseX s.data.toList = (z, p, e)) (he : e ≠ 0) :
  Calls Tryd.prog 3 #[.agg (hdC x q d).toArray, .string s] w fun e w' => e = .returned (.bool true) ∧ Below w.heap.size w w' := by
 have HG := Lib.hid hsig; have T := Lib.hid hT; have F := Lib.hid (hS.mono (fun _ _ => trivial) : FoT w q d x.args); have SM := Lib.hid hsm
 have B : Hid (Below w.heap.size w w) := be_refl w
 clear hsig hT hS hsm
 have hli : ¬ (1500 : Int) < (s.size : Int) := by omega
 have HL := Lib.hid hl; clear hl
 have HF := Lib.hid hf; have HPR := Lib.hid hpr; have HP := Lib.hid hp; have SZ := Lib.hid (smX_parse hp); have FZ := Lib.hid (few_parse hp); clear hf hpr
 have HE := Lib.hid he; have hei : ((e : Int) != 0) = true := by simp; omega
 have HZ := Lib.hid ((parse_facts hp).2 he); clear hp he
 unfold hdC
 go_enter Tryd.func3, Tryd.ntmps3
 go_upto_region 1 with fail
 refine nmW (w.alloc (.cells #[.int .i64 x.op, .int .i64 x.n, .string ⟨x.unit.toArray⟩, .string ⟨x.name.toArray⟩, .slice q x.args.len d] 24)) fun w1 hv => ?_
 rw [← hv]
 have K : Hid (Bx w1 w.heap.size 24 #[.int .i64 x.op, .int .i64 x.n, .string ⟨x.unit.toArray⟩, .string ⟨x.name.toArray⟩, .slice q x.args.len d]) := by show Bx _ _ _ _; rw [hv]; exact bx1 w _ _
 have hb_ : Below w.heap.size w w1 := by rw [hv]; exact below_alloc _ _
 clear hv
 have z1_ := K.out.lt
 replace B := Lib.hid (be_call B.out hb_)
 replace HG := Lib.hid (HG.out.keep hb_)
 replace T := Lib.hid (T.out.keepG (hb_.mono (by omega)))
 replace F := Lib.hid (F.out.keep hb_)
 have z2_ := hb_.size
 clear hb_
 go_wp2_with fail
 refine (sane_ok HG.out (T.out.mono (by omega))).mono ?_
 rintro e w2 ⟨rfl, hb⟩
 replace B := Lib.hid (be_call B.out hb)
 replace HG := Lib.hid (HG.out.keep hb)
 replace T := Lib.hid (T.out.keepG (hb.mono (by omega)))
 replace F := Lib.hid (F.out.keep hb)
 replace K := Lib.hid (K.out.keep hb)
 have z3_ := hb.size
 clear hb
 have HC := Lib.hid (few_ok (r := true) (x := x) (b := 250) (lv := 24) SM.out F.out (by decide) (by decide) HF.out)
 rw [show ((250 : Nat) : Int) = 250 from rfl, show ((24 : Nat) : Int) = 24 from rfl] at HC
 unfold hdC at HC
 have pK_0 := K.out.at.1 0
 have pK_1 := K.out.at.1 1
 have pK_2 := K.out.at.1 2
 have pK_3 := K.out.at.1 3
 have pK_4 := K.out.at.1 4
 go_wp2_with fail
 clear pK_0 pK_1 pK_2 pK_3 pK_4
 refine (HC.out).mono ?_
 rintro e w3 ⟨rfl, hb⟩
 clear HC
 replace B := Lib.hid (be_call B.out hb)
 replace HG := Lib.hid (HG.out.keep hb)
 replace T := Lib.hid (T.out.keepG (hb.mono (by omega)))
 replace F := Lib.hid (F.out.keep hb)
 replace K := Lib.hid (K.out.keep hb)
 have z4_ := hb.size
 clear hb
 have HC := Lib.hid (print_x (x := x) SM.out F.out (T.out.mono (by omega)) (fun h => prn_right h) HPR.out)
 unfold hdC at HC
 simp only [Option.getD_none, Option.isSome_none] at HC
 rw [show (([] : Bytes).toArray) = #[] from rfl] at HC
 have pK_0 := K.out.at.1 0
 have pK_1 := K.out.at.1 1
 have pK_2 := K.out.at.1 2
 have pK_3 := K.out.at.1 3
 have pK_4 := K.out.at.1 4
 go_wp2_with fail
 clear pK_0 pK_1 pK_2 pK_3 pK_4
 refine (HC.out).mono ?_
 rintro e w4 ⟨rfl, hb⟩
 clear HC
 replace B := Lib.hid (be_call B.out hb)
 replace HG := Lib.hid (HG.out.keep hb)
 replace T := Lib.hid (T.out.keepG (hb.mono (by omega)))
 replace F := Lib.hid (F.out.keep hb)
 replace K := Lib.hid (K.out.keep hb)
 have z5_ := hb.size
 clear hb
 go_wp2_with fail
 refine (parse_any s (by have := HL.out; omega) HG.out).mono ?_
 rintro e w5 ⟨y_, q2, d2, p_, e_, rfl, hf, hb, hx⟩
 replace B := Lib.hid (be_call B.out hb)
 replace HG := Lib.hid (HG.out.keep hb)
 replace T := Lib.hid (T.out.keepG (hb.mono (by omega)))
 replace F := Lib.hid (F.out.keep hb)
 replace K := Lib.hid (K.out.keep hb)
 have z6_ := hb.size
 clear hb
 rw [HP.out] at hx
 obtain ⟨hy_, hp_, he_⟩ : z = y_ ∧ p = p_ ∧ e = e_ := by have h1 := congrArg Prod.fst hx; have h2 := congrArg Prod.snd hx; exact ⟨h1, congrArg Prod.fst h2, congrArg Prod.snd h2⟩
 clear hx
 subst hy_ hp_ he_
 have F2 := Lib.hid (hf.mono (fun _ _ => trivial) : FoT _ q2 d2 _); clear hf
 unfold hdC
 go_upto_region 10 with fail
 refine nmW (w5.alloc (.cells #[.int .i64 z.op, .int .i64 z.n, .string ⟨z.unit.toArray⟩, .string ⟨z.name.toArray⟩, .slice q2 z.args.len d2] 24)) fun w6 hv => ?_
 rw [← hv]
 have K2 : Hid (Bx w6 w5.heap.size 24 #[.int .i64 z.op, .int .i64 z.n, .string ⟨z.unit.toArray⟩, .string ⟨z.name.toArray⟩, .slice q2 z.args.len d2]) := by show Bx _ _ _ _; rw [hv]; exact bx1 w5 _ _
 have hb_ : Below w5.heap.size w5 w6 := by rw [hv]; exact below_alloc _ _
 clear hv
 have z7_ := K2.out.lt
 replace B := Lib.hid (be_call B.out hb_)
 replace HG := Lib.hid (HG.out.keep hb_)
 replace T := Lib.hid (T.out.keepG (hb_.mono (by omega)))
 replace F := Lib.hid (F.out.keep hb_)
 replace K := Lib.hid (K.out.keep hb_)
 replace F2 := Lib.hid (F2.out.keep hb_)
 have z8_ := hb_.size
 clear hb_
 have HC := Lib.hid (few_ok (r := true) (x := z) (b := 1) (lv := 1) SZ.out F2.out (by decide) (by decide) (by rw [HZ.out]; rfl))
 rw [show ((1 : Nat) : Int) = 1 from rfl] at HC
 unfold hdC at HC
 have pK2_0 := K2.out.at.1 0
 have pK2_1 := K2.out.at.1 1
 have pK2_2 := K2.out.at.1 2
 have pK2_3 := K2.out.at.1 3
 have pK2_4 := K2.out.at.1 4
 go_wp2_with fail
 clear pK2_0 pK2_1 pK2_2 pK2_3 pK2_4
 refine (HC.out).mono ?_
 rintro e w7 ⟨rfl, hb⟩
 clear HC
 replace B := Lib.hid (be_call B.out hb)
 replace HG := Lib.hid (HG.out.keep hb)
 replace T := Lib.hid (T.out.keepG (hb.mono (by omega)))
 replace F := Lib.hid (F.out.keep hb)
 replace K := Lib.hid (K.out.keep hb)
 replace F2 := Lib.hid (F2.out.keep hb)
 replace K2 := Lib.hid (K2.out.keep hb)
 have z9_ := hb.size
 clear hb
 have HC := Lib.hid (same_ok (x := z) (y := Ex.zero) (q' := none) (d' := 0) (D' := fun _ => True) SZ.out F2.out FoS.nil ((sameX_iff _ _).2 HZ.out))
 rw [show (hdC Ex.zero none 0).toArray = #[.int .i64 0, .int .i64 0, .string ⟨#[]⟩, .string ⟨#[]⟩, .slice none 0 0] from rfl] at HC
 unfold hdC at HC
 have pK2_0 := K2.out.at.1 0
 have pK2_1 := K2.out.at.1 1
 have pK2_2 := K2.out.at.1 2
 have pK2_3 := K2.out.at.1 3
 have pK2_4 := K2.out.at.1 4
 go_wp2_with fail
 clear pK2_0 pK2_1 pK2_2 pK2_3 pK2_4
 refine (HC.out).mono ?_
 rintro e w8 ⟨rfl, hb⟩
 clear HC
 replace B := Lib.hid (be_call B.out hb)
 replace HG := Lib.hid (HG.out.keep hb)
 replace T := Lib.hid (T.out.keepG (hb.mono (by omega)))
 replace F := Lib.hid (F.out.keep hb)
 replace K := Lib.hid (K.out.keep hb)
 replace F2 := Lib.hid (F2.out.keep hb)
 replace K2 := Lib.hid (K2.out.keep hb)
 have z10_ := hb.size
 clear hb
 go_wp2_with fail
 go_ret
 exact ⟨rfl, B.out⟩
set_option maxRecDepth 100000 in
set_option maxHeartbeats 4000000 in
theorem back_not_no {x : Ex} {D : Nat → Prop} {w : World} {q : Option Addr} {d : Nat} (s : ByteArray) (hsm : smX x) (hS : FoS D w q d x.args) (hsig : SignsIn w) (hT : PowT w.heap.size w) (hf : (szF (x.then .nil) 250 24).isSome = true) (hl : ¬ 1500 < s.size) (hpr : printX x = none) {z : Ex} {p : Nat} (hp : parseX s.data.toList = (z, p, 0)) (hpz : printX z = none) :
  Calls Tryd.prog 3 #[.agg (hdC x q d).toArray, .string s] w fun e w' => e = .returned (.bool true) ∧ Below w.heap.size w w' := by
 have HG := Lib.hid hsig; have T := Lib.hid hT; have F := Lib.hid (hS.mono (fun _ _ => trivial) : FoT w q d x.args); have SM := Lib.hid hsm
 have B : Hid (Below w.heap.size w w) := be_refl w
 clear hsig hT hS hsm
 have hli : ¬ (1500 : Int) < (s.size : Int) := by omega
 have HL := Lib.hid hl; clear hl
 have HF := Lib.hid hf; have HPR := Lib.hid hpr; have HP := Lib.hid hp; have SZ := Lib.hid (smX_parse hp); have FZ := Lib.hid (few_parse hp); clear hf hpr
 have HPZ := Lib.hid hpz; have RZ := Lib.hid ((parse_facts hp).1 rfl).1; clear hp hpz
 unfold hdC
 go_enter Tryd.func3, Tryd.ntmps3
 go_upto_region 1 with fail
 refine nmW (w.alloc (.cells #[.int .i64 x.op, .int .i64 x.n, .string ⟨x.unit.toArray⟩, .string ⟨x.name.toArray⟩, .slice q x.args.len d] 24)) fun w1 hv => ?_
 rw [← hv]
 have K : Hid (Bx w1 w.heap.size 24 #[.int .i64 x.op, .int .i64 x.n, .string ⟨x.unit.toArray⟩, .string ⟨x.name.toArray⟩, .slice q x.args.len d]) := by show Bx _ _ _ _; rw [hv]; exact bx1 w _ _
 have hb_ : Below w.heap.size w w1 := by rw [hv]; exact below_alloc _ _
 clear hv
 have z1_ := K.out.lt
 replace B := Lib.hid (be_call B.out hb_)
 replace HG := Lib.hid (HG.out.keep hb_)
 replace T := Lib.hid (T.out.keepG (hb_.mono (by omega)))
 replace F := Lib.hid (F.out.keep hb_)
 have z2_ := hb_.size
 clear hb_
 go_wp2_with fail
 refine (sane_ok HG.out (T.out.mono (by omega))).mono ?_
 rintro e w2 ⟨rfl, hb⟩
 replace B := Lib.hid (be_call B.out hb)
 replace HG := Lib.hid (HG.out.keep hb)
 replace T := Lib.hid (T.out.keepG (hb.mono (by omega)))
 replace F := Lib.hid (F.out.keep hb)
 replace K := Lib.hid (K.out.keep hb)
 have z3_ := hb.size
 clear hb
 have HC := Lib.hid (few_ok (r := true) (x := x) (b := 250) (lv := 24) SM.out F.out (by decide) (by decide) HF.out)
 rw [show ((250 : Nat) : Int) = 250 from rfl, show ((24 : Nat) : Int) = 24 from rfl] at HC
 unfold hdC at HC
 have pK_0 := K.out.at.1 0
 have pK_1 := K.out.at.1 1
 have pK_2 := K.out.at.1 2
 have pK_3 := K.out.at.1 3
 have pK_4 := K.out.at.1 4
 go_wp2_with fail
 clear pK_0 pK_1 pK_2 pK_3 pK_4
 refine (HC.out).mono ?_
 rintro e w3 ⟨rfl, hb⟩
 clear HC
 replace B := Lib.hid (be_call B.out hb)
 replace HG := Lib.hid (HG.out.keep hb)
 replace T := Lib.hid (T.out.keepG (hb.mono (by omega)))
 replace F := Lib.hid (F.out.keep hb)
 replace K := Lib.hid (K.out.keep hb)
 have z4_ := hb.size
 clear hb
 have HC := Lib.hid (print_x (x := x) SM.out F.out (T.out.mono (by omega)) (fun h => prn_right h) HPR.out)
 unfold hdC at HC
 simp only [Option.getD_none, Option.isSome_none] at HC
 rw [show (([] : Bytes).toArray) = #[] from rfl] at HC
 have pK_0 := K.out.at.1 0
 have pK_1 := K.out.at.1 1
 have pK_2 := K.out.at.1 2
 have pK_3 := K.out.at.1 3
 have pK_4 := K.out.at.1 4
 go_wp2_with fail
 clear pK_0 pK_1 pK_2 pK_3 pK_4
 refine (HC.out).mono ?_
 rintro e w4 ⟨rfl, hb⟩
 clear HC
 replace B := Lib.hid (be_call B.out hb)
 replace HG := Lib.hid (HG.out.keep hb)
 replace T := Lib.hid (T.out.keepG (hb.mono (by omega)))
 replace F := Lib.hid (F.out.keep hb)
 replace K := Lib.hid (K.out.keep hb)
 have z5_ := hb.size
 clear hb
 go_wp2_with fail
 refine (parse_any s (by have := HL.out; omega) HG.out).mono ?_
 rintro e w5 ⟨y_, q2, d2, p_, e_, rfl, hf, hb, hx⟩
 replace B := Lib.hid (be_call B.out hb)
 replace HG := Lib.hid (HG.out.keep hb)
 replace T := Lib.hid (T.out.keepG (hb.mono (by omega)))
 replace F := Lib.hid (F.out.keep hb)
 replace K := Lib.hid (K.out.keep hb)
 have z6_ := hb.size
 clear hb
 rw [HP.out] at hx
 obtain ⟨hy_, hp_, he_⟩ : z = y_ ∧ p = p_ ∧ 0 = e_ := by have h1 := congrArg Prod.fst hx; have h2 := congrArg Prod.snd hx; exact ⟨h1, congrArg Prod.fst h2, congrArg Prod.snd h2⟩
 clear hx
 subst hy_ hp_ he_
 have F2 := Lib.hid (hf.mono (fun _ _ => trivial) : FoT _ q2 d2 _); clear hf
 unfold hdC
 go_upto_region 10 with fail
 refine nmW (w5.alloc (.cells #[.int .i64 z.op, .int .i64 z.n, .string ⟨z.unit.toArray⟩, .string ⟨z.name.toArray⟩, .slice q2 z.args.len d2] 24)) fun w6 hv => ?_
 rw [← hv]
 have K2 : Hid (Bx w6 w5.heap.size 24 #[.int .i64 z.op, .int .i64 z.n, .string ⟨z.unit.toArray⟩, .string ⟨z.name.toArray⟩, .slice q2 z.args.len d2]) := by show Bx _ _ _ _; rw [hv]; exact bx1 w5 _ _
 have hb_ : Below w5.heap.size w5 w6 := by rw [hv]; exact below_alloc _ _
 clear hv
 have z7_ := K2.out.lt
 replace B := Lib.hid (be_call B.out hb_)
 replace HG := Lib.hid (HG.out.keep hb_)
 replace T := Lib.hid (T.out.keepG (hb_.mono (by omega)))
 replace F := Lib.hid (F.out.keep hb_)
 replace K := Lib.hid (K.out.keep hb_)
 replace F2 := Lib.hid (F2.out.keep hb_)
 have z8_ := hb_.size
 clear hb_
 have HC := Lib.hid (print_x (x := z) SZ.out F2.out (T.out.mono (by omega)) (fun h => prn_right h) HPZ.out)
 unfold hdC at HC
 simp only [Option.getD_none, Option.isSome_none] at HC
 rw [show (([] : Bytes).toArray) = #[] from rfl] at HC
 have pK2_0 := K2.out.at.1 0
 have pK2_1 := K2.out.at.1 1
 have pK2_2 := K2.out.at.1 2
 have pK2_3 := K2.out.at.1 3
 have pK2_4 := K2.out.at.1 4
 go_wp2_with fail
 clear pK2_0 pK2_1 pK2_2 pK2_3 pK2_4
 refine (HC.out).mono ?_
 rintro e w7 ⟨rfl, hb⟩
 clear HC
 replace B := Lib.hid (be_call B.out hb)
 replace HG := Lib.hid (HG.out.keep hb)
 replace T := Lib.hid (T.out.keepG (hb.mono (by omega)))
 replace F := Lib.hid (F.out.keep hb)
 replace K := Lib.hid (K.out.keep hb)
 replace F2 := Lib.hid (F2.out.keep hb)
 replace K2 := Lib.hid (K2.out.keep hb)
 have z9_ := hb.size
 clear hb
 have HC := Lib.hid (few_ok (r := true) (x := z) (b := 250) (lv := 24) SZ.out F2.out (by decide) (by decide) FZ.out)
 rw [show ((250 : Nat) : Int) = 250 from rfl, show ((24 : Nat) : Int) = 24 from rfl] at HC
 unfold hdC at HC
 have pK2_0 := K2.out.at.1 0
 have pK2_1 := K2.out.at.1 1
 have pK2_2 := K2.out.at.1 2
 have pK2_3 := K2.out.at.1 3
 have pK2_4 := K2.out.at.1 4
 go_wp2_with fail
 clear pK2_0 pK2_1 pK2_2 pK2_3 pK2_4
 refine (HC.out).mono ?_
 rintro e w8 ⟨rfl, hb⟩
 clear HC
 replace B := Lib.hid (be_call B.out hb)
 replace HG := Lib.hid (HG.out.keep hb)
 replace T := Lib.hid (T.out.keepG (hb.mono (by omega)))
 replace F := Lib.hid (F.out.keep hb)
 replace K := Lib.hid (K.out.keep hb)
 replace F2 := Lib.hid (F2.out.keep hb)
 replace K2 := Lib.hid (K2.out.keep hb)
 have z10_ := hb.size
 clear hb
 have HC := Lib.hid (right_ok (x := z) SZ.out F2.out)
 rw [RZ.out] at HC
 unfold hdC at HC
 have pK2_0 := K2.out.at.1 0
 have pK2_1 := K2.out.at.1 1
 have pK2_2 := K2.out.at.1 2
 have pK2_3 := K2.out.at.1 3
 have pK2_4 := K2.out.at.1 4
 go_wp2_with fail
 clear pK2_0 pK2_1 pK2_2 pK2_3 pK2_4
 refine (HC.out).mono ?_
 rintro e w9 ⟨rfl, hb⟩
 clear HC
 replace B := Lib.hid (be_call B.out hb)
 replace HG := Lib.hid (HG.out.keep hb)
 replace T := Lib.hid (T.out.keepG (hb.mono (by omega)))
 replace F := Lib.hid (F.out.keep hb)
 replace K := Lib.hid (K.out.keep hb)
 replace F2 := Lib.hid (F2.out.keep hb)
 replace K2 := Lib.hid (K2.out.keep hb)
 have z11_ := hb.size
 clear hb
 go_wp2_with fail
 go_ret
 exact ⟨rfl, B.out⟩
set_option maxRecDepth 100000 in
set_option maxHeartbeats 4000000 in
theorem back_not_yes {x : Ex} {D : Nat → Prop} {w : World} {q : Option Addr} {d : Nat} (s : ByteArray) (hsm : smX x) (hS : FoS D w q d x.args) (hsig : SignsIn w) (hT : PowT w.heap.size w) (hf : (szF (x.then .nil) 250 24).isSome = true) (hl : ¬ 1500 < s.size) (hpr : printX x = none) {z : Ex} {p : Nat} (hp : parseX s.data.toList = (z, p, 0)) {u : Bytes} (hpz : printX z = some u) :
  Calls Tryd.prog 3 #[.agg (hdC x q d).toArray, .string s] w fun e w' => e = .returned (.bool true) ∧ Below w.heap.size w w' := by
 have HG := Lib.hid hsig; have T := Lib.hid hT; have F := Lib.hid (hS.mono (fun _ _ => trivial) : FoT w q d x.args); have SM := Lib.hid hsm
 have B : Hid (Below w.heap.size w w) := be_refl w
 clear hsig hT hS hsm
 have hli : ¬ (1500 : Int) < (s.size : Int) := by omega
 have HL := Lib.hid hl; clear hl
 have HF := Lib.hid hf; have HPR := Lib.hid hpr; have HP := Lib.hid hp; have SZ := Lib.hid (smX_parse hp); have FZ := Lib.hid (few_parse hp); clear hf hpr
 have HPZ := Lib.hid hpz; have RZ := Lib.hid ((parse_facts hp).1 rfl).1; clear hp hpz
 unfold hdC
 go_enter Tryd.func3, Tryd.ntmps3
 go_upto_region 1 with fail
 refine nmW (w.alloc (.cells #[.int .i64 x.op, .int .i64 x.n, .string ⟨x.unit.toArray⟩, .string ⟨x.name.toArray⟩, .slice q x.args.len d] 24)) fun w1 hv => ?_
 rw [← hv]
 have K : Hid (Bx w1 w.heap.size 24 #[.int .i64 x.op, .int .i64 x.n, .string ⟨x.unit.toArray⟩, .string ⟨x.name.toArray⟩, .slice q x.args.len d]) := by show Bx _ _ _ _; rw [hv]; exact bx1 w _ _
 have hb_ : Below w.heap.size w w1 := by rw [hv]; exact below_alloc _ _
 clear hv
 have z1_ := K.out.lt
 replace B := Lib.hid (be_call B.out hb_)
 replace HG := Lib.hid (HG.out.keep hb_)
 replace T := Lib.hid (T.out.keepG (hb_.mono (by omega)))
 replace F := Lib.hid (F.out.keep hb_)
 have z2_ := hb_.size
 clear hb_
 go_wp2_with fail
 refine (sane_ok HG.out (T.out.mono (by omega))).mono ?_
 rintro e w2 ⟨rfl, hb⟩
 replace B := Lib.hid (be_call B.out hb)
 replace HG := Lib.hid (HG.out.keep hb)
 replace T := Lib.hid (T.out.keepG (hb.mono (by omega)))
 replace F := Lib.hid (F.out.keep hb)
 replace K := Lib.hid (K.out.keep hb)
 have z3_ := hb.size
 clear hb
 have HC := Lib.hid (few_ok (r := true) (x := x) (b := 250) (lv := 24) SM.out F.out (by decide) (by decide) HF.out)
 rw [show ((250 : Nat) : Int) = 250 from rfl, show ((24 : Nat) : Int) = 24 from rfl] at HC
 unfold hdC at HC
 have pK_0 := K.out.at.1 0
 have pK_1 := K.out.at.1 1
 have pK_2 := K.out.at.1 2
 have pK_3 := K.out.at.1 3
 have pK_4 := K.out.at.1 4
 go_wp2_with fail
 clear pK_0 pK_1 pK_2 pK_3 pK_4
 refine (HC.out).mono ?_
 rintro e w3 ⟨rfl, hb⟩
 clear HC
 replace B := Lib.hid (be_call B.out hb)
 replace HG := Lib.hid (HG.out.keep hb)
 replace T := Lib.hid (T.out.keepG (hb.mono (by omega)))
 replace F := Lib.hid (F.out.keep hb)
 replace K := Lib.hid (K.out.keep hb)
 have z4_ := hb.size
 clear hb
 have HC := Lib.hid (print_x (x := x) SM.out F.out (T.out.mono (by omega)) (fun h => prn_right h) HPR.out)
 unfold hdC at HC
 simp only [Option.getD_none, Option.isSome_none] at HC
 rw [show (([] : Bytes).toArray) = #[] from rfl] at HC
 have pK_0 := K.out.at.1 0
 have pK_1 := K.out.at.1 1
 have pK_2 := K.out.at.1 2
 have pK_3 := K.out.at.1 3
 have pK_4 := K.out.at.1 4
 go_wp2_with fail
 clear pK_0 pK_1 pK_2 pK_3 pK_4
 refine (HC.out).mono ?_
 rintro e w4 ⟨rfl, hb⟩
 clear HC
 replace B := Lib.hid (be_call B.out hb)
 replace HG := Lib.hid (HG.out.keep hb)
 replace T := Lib.hid (T.out.keepG (hb.mono (by omega)))
 replace F := Lib.hid (F.out.keep hb)
 replace K := Lib.hid (K.out.keep hb)
 have z5_ := hb.size
 clear hb
 go_wp2_with fail
 refine (parse_any s (by have := HL.out; omega) HG.out).mono ?_
 rintro e w5 ⟨y_, q2, d2, p_, e_, rfl, hf, hb, hx⟩
 replace B := Lib.hid (be_call B.out hb)
 replace HG := Lib.hid (HG.out.keep hb)
 replace T := Lib.hid (T.out.keepG (hb.mono (by omega)))
 replace F := Lib.hid (F.out.keep hb)
 replace K := Lib.hid (K.out.keep hb)
 have z6_ := hb.size
 clear hb
 rw [HP.out] at hx
 obtain ⟨hy_, hp_, he_⟩ : z = y_ ∧ p = p_ ∧ 0 = e_ := by have h1 := congrArg Prod.fst hx; have h2 := congrArg Prod.snd hx; exact ⟨h1, congrArg Prod.fst h2, congrArg Prod.snd h2⟩
 clear hx
 subst hy_ hp_ he_
 have F2 := Lib.hid (hf.mono (fun _ _ => trivial) : FoT _ q2 d2 _); clear hf
 unfold hdC
 go_upto_region 10 with fail
 refine nmW (w5.alloc (.cells #[.int .i64 z.op, .int .i64 z.n, .string ⟨z.unit.toArray⟩, .string ⟨z.name.toArray⟩, .slice q2 z.args.len d2] 24)) fun w6 hv => ?_
 rw [← hv]
 have K2 : Hid (Bx w6 w5.heap.size 24 #[.int .i64 z.op, .int .i64 z.n, .string ⟨z.unit.toArray⟩, .string ⟨z.name.toArray⟩, .slice q2 z.args.len d2]) := by show Bx _ _ _ _; rw [hv]; exact bx1 w5 _ _
 have hb_ : Below w5.heap.size w5 w6 := by rw [hv]; exact below_alloc _ _
 clear hv
 have z7_ := K2.out.lt
 replace B := Lib.hid (be_call B.out hb_)
 replace HG := Lib.hid (HG.out.keep hb_)
 replace T := Lib.hid (T.out.keepG (hb_.mono (by omega)))
 replace F := Lib.hid (F.out.keep hb_)
 replace K := Lib.hid (K.out.keep hb_)
 replace F2 := Lib.hid (F2.out.keep hb_)
 have z8_ := hb_.size
 clear hb_
 have HC := Lib.hid (print_x (x := z) SZ.out F2.out (T.out.mono (by omega)) (fun h => prn_right h) HPZ.out)
 unfold hdC at HC
 simp only [Option.getD_some, Option.isSome_some] at HC
 have pK2_0 := K2.out.at.1 0
 have pK2_1 := K2.out.at.1 1
 have pK2_2 := K2.out.at.1 2
 have pK2_3 := K2.out.at.1 3
 have pK2_4 := K2.out.at.1 4
 go_wp2_with fail
 clear pK2_0 pK2_1 pK2_2 pK2_3 pK2_4
 refine (HC.out).mono ?_
 rintro e w7 ⟨rfl, hb⟩
 clear HC
 replace B := Lib.hid (be_call B.out hb)
 replace HG := Lib.hid (HG.out.keep hb)
 replace T := Lib.hid (T.out.keepG (hb.mono (by omega)))
 replace F := Lib.hid (F.out.keep hb)
 replace K := Lib.hid (K.out.keep hb)
 replace F2 := Lib.hid (F2.out.keep hb)
 replace K2 := Lib.hid (K2.out.keep hb)
 have z9_ := hb.size
 clear hb
 have HC := Lib.hid (few_ok (r := true) (x := z) (b := 250) (lv := 24) SZ.out F2.out (by decide) (by decide) FZ.out)
 rw [show ((250 : Nat) : Int) = 250 from rfl, show ((24 : Nat) : Int) = 24 from rfl] at HC
 unfold hdC at HC
 have pK2_0 := K2.out.at.1 0
 have pK2_1 := K2.out.at.1 1
 have pK2_2 := K2.out.at.1 2
 have pK2_3 := K2.out.at.1 3
 have pK2_4 := K2.out.at.1 4
 go_wp2_with fail
 clear pK2_0 pK2_1 pK2_2 pK2_3 pK2_4
 refine (HC.out).mono ?_
 rintro e w8 ⟨rfl, hb⟩
 clear HC
 replace B := Lib.hid (be_call B.out hb)
 replace HG := Lib.hid (HG.out.keep hb)
 replace T := Lib.hid (T.out.keepG (hb.mono (by omega)))
 replace F := Lib.hid (F.out.keep hb)
 replace K := Lib.hid (K.out.keep hb)
 replace F2 := Lib.hid (F2.out.keep hb)
 replace K2 := Lib.hid (K2.out.keep hb)
 have z10_ := hb.size
 clear hb
 have HC := Lib.hid (right_ok (x := z) SZ.out F2.out)
 rw [RZ.out] at HC
 unfold hdC at HC
 have pK2_0 := K2.out.at.1 0
 have pK2_1 := K2.out.at.1 1
 have pK2_2 := K2.out.at.1 2
 have pK2_3 := K2.out.at.1 3
 have pK2_4 := K2.out.at.1 4
 go_wp2_with fail
 clear pK2_0 pK2_1 pK2_2 pK2_3 pK2_4
 refine (HC.out).mono ?_
 rintro e w9 ⟨rfl, hb⟩
 clear HC
 replace B := Lib.hid (be_call B.out hb)
 replace HG := Lib.hid (HG.out.keep hb)
 replace T := Lib.hid (T.out.keepG (hb.mono (by omega)))
 replace F := Lib.hid (F.out.keep hb)
 replace K := Lib.hid (K.out.keep hb)
 replace F2 := Lib.hid (F2.out.keep hb)
 replace K2 := Lib.hid (K2.out.keep hb)
 have z11_ := hb.size
 clear hb
 have HU := Lib.hid (back_print HPZ.out)
 go_wp2_with fail
 refine (parse_any ⟨u.toArray⟩ (by have := HU.out.2.1; simp [ByteArray.size]; omega) HG.out).mono ?_
 rintro e w10 ⟨y_, q3, d3, p_, e_, rfl, hf, hb, hx⟩
 replace B := Lib.hid (be_call B.out hb)
 replace HG := Lib.hid (HG.out.keep hb)
 replace T := Lib.hid (T.out.keepG (hb.mono (by omega)))
 replace F := Lib.hid (F.out.keep hb)
 replace K := Lib.hid (K.out.keep hb)
 replace F2 := Lib.hid (F2.out.keep hb)
 replace K2 := Lib.hid (K2.out.keep hb)
 have z12_ := hb.size
 clear hb
 rw [show (ByteArray.mk u.toArray).data.toList = u by simp] at hx
 rw [HU.out.2.2] at hx
 obtain ⟨hy_, hp_, he_⟩ : z = y_ ∧ 0 = p_ ∧ 0 = e_ := by have h1 := congrArg Prod.fst hx; have h2 := congrArg Prod.snd hx; exact ⟨h1, congrArg Prod.fst h2, congrArg Prod.snd h2⟩
 clear hx
 subst hy_ hp_ he_
 have F3 := Lib.hid (hf.mono (fun _ _ => trivial) : FoT _ q3 d3 _); clear hf
 unfold hdC
 go_upto_region 18 with fail
 refine nmW (w10.alloc (.cells #[.int .i64 z.op, .int .i64 z.n, .string ⟨z.unit.toArray⟩, .string ⟨z.name.toArray⟩, .slice q3 z.args.len d3] 24)) fun w11 hv => ?_
 rw [← hv]
 have K3 : Hid (Bx w11 w10.heap.size 24 #[.int .i64 z.op, .int .i64 z.n, .string ⟨z.unit.toArray⟩, .string ⟨z.name.toArray⟩, .slice q3 z.args.len d3]) := by show Bx _ _ _ _; rw [hv]; exact bx1 w10 _ _
 have hb_ : Below w10.heap.size w10 w11 := by rw [hv]; exact below_alloc _ _
 clear hv
 have z13_ := K3.out.lt
 replace B := Lib.hid (be_call B.out hb_)
 replace HG := Lib.hid (HG.out.keep hb_)
 replace T := Lib.hid (T.out.keepG (hb_.mono (by omega)))
 replace F := Lib.hid (F.out.keep hb_)
 replace K := Lib.hid (K.out.keep hb_)
 replace F2 := Lib.hid (F2.out.keep hb_)
 replace K2 := Lib.hid (K2.out.keep hb_)
 replace F3 := Lib.hid (F3.out.keep hb_)
 have z14_ := hb_.size
 clear hb_
 have HC := Lib.hid (few_ok (r := true) (x := z) (b := 250) (lv := 24) SZ.out F3.out (by decide) (by decide) FZ.out)
 rw [show ((250 : Nat) : Int) = 250 from rfl, show ((24 : Nat) : Int) = 24 from rfl] at HC
 unfold hdC at HC
 have pK3_0 := K3.out.at.1 0
 have pK3_1 := K3.out.at.1 1
 have pK3_2 := K3.out.at.1 2
 have pK3_3 := K3.out.at.1 3
 have pK3_4 := K3.out.at.1 4
 go_wp2_with fail
 clear pK3_0 pK3_1 pK3_2 pK3_3 pK3_4
 refine (HC.out).mono ?_
 rintro e w12 ⟨rfl, hb⟩
 clear HC
 replace B := Lib.hid (be_call B.out hb)
 replace HG := Lib.hid (HG.out.keep hb)
 replace T := Lib.hid (T.out.keepG (hb.mono (by omega)))
 replace F := Lib.hid (F.out.keep hb)
 replace K := Lib.hid (K.out.keep hb)
 replace F2 := Lib.hid (F2.out.keep hb)
 replace K2 := Lib.hid (K2.out.keep hb)
 replace F3 := Lib.hid (F3.out.keep hb)
 replace K3 := Lib.hid (K3.out.keep hb)
 have z15_ := hb.size
 clear hb
 have HC := Lib.hid (same_ok (x := z) (y := z) SZ.out F2.out F3.out ((sameX_iff _ _).2 rfl))
 unfold hdC at HC
 have pK2_0 := K2.out.at.1 0
 have pK2_1 := K2.out.at.1 1
 have pK2_2 := K2.out.at.1 2
 have pK2_3 := K2.out.at.1 3
 have pK2_4 := K2.out.at.1 4
 have pK3_0 := K3.out.at.1 0
 have pK3_1 := K3.out.at.1 1
 have pK3_2 := K3.out.at.1 2
 have pK3_3 := K3.out.at.1 3
 have pK3_4 := K3.out.at.1 4
 go_wp2_with fail
 clear pK2_0 pK2_1 pK2_2 pK2_3 pK2_4 pK3_0 pK3_1 pK3_2 pK3_3 pK3_4
 refine (HC.out).mono ?_
 rintro e w13 ⟨rfl, hb⟩
 clear HC
 replace B := Lib.hid (be_call B.out hb)
 replace HG := Lib.hid (HG.out.keep hb)
 replace T := Lib.hid (T.out.keepG (hb.mono (by omega)))
 replace F := Lib.hid (F.out.keep hb)
 replace K := Lib.hid (K.out.keep hb)
 replace F2 := Lib.hid (F2.out.keep hb)
 replace K2 := Lib.hid (K2.out.keep hb)
 replace F3 := Lib.hid (F3.out.keep hb)
 replace K3 := Lib.hid (K3.out.keep hb)
 have z16_ := hb.size
 clear hb
 go_wp2_with fail
 go_ret
 exact ⟨rfl, B.out⟩
theorem back_walk {x : Ex} {D : Nat → Prop} {w : World} {q : Option Addr} {d : Nat} (s : ByteArray) (hsm : smX x) (hS : FoS D w q d x.args) (hsig : SignsIn w) (hT : PowT w.heap.size w) :
    Calls Tryd.prog 3 #[.agg (hdC x q d).toArray, .string s] w fun e w' => e = .returned (.bool true) ∧ Below w.heap.size w w' := by
  cases hf : (szF (x.then .nil) 250 24).isSome with
  | false => exact back_many s hsm hS hsig hT hf
  | true =>
    by_cases hl : 1500 < s.size
    · exact back_long s hsm hS hsig hT hf hl
    · obtain ⟨r, hp⟩ : ∃ r, parseX s.data.toList = r := ⟨_, rfl⟩
      obtain ⟨z, p, e⟩ := r
      cases hpr : printX x with
      | none =>
        by_cases he : e = 0
        · subst he
          cases hpz : printX z with
          | none => exact back_not_no s hsm hS hsig hT hf hl hpr hp hpz
          | some u => exact back_not_yes s hsm hS hsig hT hf hl hpr hp hpz
        · exact back_not_bad s hsm hS hsig hT hf hl hpr hp he
      | some t =>
        by_cases he : e = 0
        · subst he
          cases hpz : printX z with
          | none => exact back_can_no s hsm hS hsig hT hf hl hpr hp hpz
          | some u => exact back_can_yes s hsm hS hsig hT hf hl hpr hp hpz
        · exact back_can_bad s hsm hS hsig hT hf hl hpr hp he
end Go.Proofs.YtckgmilmhofekaaDoor
