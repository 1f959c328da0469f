/- Walks: FormulaTells. -/
import Derived.Test.YtckgmilmhofekaaGreatDoorLexLaws
import Derived.Test.YtckgmilmhofekaaGreatDoorFoBack
import Derived.Test.YtckgmilmhofekaaGreatDoorBase
import Derived.Test.YtckgmilmhofekaaGreatDoorLexPrint
import Derived.Test.YtckgmilmhofekaaGreatDoorBigSpec
import Derived.Test.YtckgmilmhofekaaGreatDoorBigD
import Derived.Test.YtckgmilmhofekaaGreatDoorBigQ
import Derived.Test.YtckgmilmhofekaaGreatDoorFd
import Derived.Test.YtckgmilmhofekaaGreatDoorHeld
import Derived.Test.YtckgmilmhofekaaGreatDoorFoWd
import Derived.Test.YtckgmilmhofekaaGreatDoorFoOx
import Derived.Test.YtckgmilmhofekaaGreatDoorFoCn
import Derived.Test.YtckgmilmhofekaaGreatDoorFoWl
import Derived.Test.YtckgmilmhofekaaGreatDoorFoSz
import Derived.Test.YtckgmilmhofekaaGreatDoorFoPt
import Derived.Test.YtckgmilmhofekaaGreatDoorFoBk
import Derived.Test.YtckgmilmhofekaaGreatDoorLexRaw
import Derived.Test.YtckgmilmhofekaaGreatDoorFrD
import Derived.Test.YtckgmilmhofekaaGreatDoorFrH
import Derived.Test.YtckgmilmhofekaaGreatDoorFrM
import Derived.Test.YtckgmilmhofekaaGreatDoorFrR
import Derived.Test.YtckgmilmhofekaaGreatDoorProg
import Derived.Test.YtckgmilmhofekaaGreatDoorShelf
import Derived.WalkKit
import Derived.Lib.ItoaNum
import Derived.WalkSpells
import Derived.WalkLawsBesides
import Derived.Handy
import Derived.Lib.Hide
import Derived.Lib.Strings
import Derived.Lib.Builder
import Derived.Shelf.Strings.Builder1
import Derived.BigQuiet
import Derived.OwnWalk
import Derived.Laws.BitsLemmas
import Derived.WalkSmall
import Derived.Deep.QuietTactic
import Derived.StillTailTactics
import Derived.Maps.AppendAt
import Derived.IntWalk
import Derived.Deep.RegionHeld3
import Derived.Deep.DeepFit
import Derived.Deep.LoopGhost
import Derived.Deep.DeepCutAuto
import Derived.Lib.Repeat
import Derived.Lib.AppendIntMem
import Derived.Sort.OwnSorted
import Derived.Shelf.Strings.SlTrimAscii
import Derived.Lib.ConvBytes
import Derived.Lib.CutLaws
import Derived.ArgAppend
namespace Go.Proofs.YtckgmilmhofekaaGreatDoor
open Go.RowKit

/-- The tokens that Tokens returns. -/
def tokV (x : Ex) (r : Bool) : List Tok := if r = true then toksX x else []
theorem tokens_any {x : Ex} {D : Nat → Prop} {w : World} {q : Option Addr} {d : Nat} {r : Bool} (hsm : smX x) (hS : FoS D w q d x.args) (hT : PowT w.heap.size w) (hr : rightX x = r) :
  Calls Tryz.prog 6 #[.agg (hdC x q d).toArray] w fun e w' => ∃ p c, e = .returned (.tuple #[.slice p (tokV x r).length c, .bool r]) ∧ ToksIn w' (.slice p (tokV x r).length c) (tokV x r) ∧ Below w.heap.size w w' := by
 cases r with
 | false =>
  refine (tokens_no hsm hS hT hr).mono ?_
  rintro e w' ⟨rfl, hb⟩
  exact ⟨none, 0, rfl, ⟨none, 0, rfl, fun k hk => absurd hk (Nat.not_lt_zero _)⟩, hb⟩
 | true =>
  refine (tokens_yes hsm hS hT hr (by have := (toks_mem hr).1; omega)).mono ?_
  rintro e w' ⟨v, rfl, ht, hb⟩
  obtain ⟨p, c, hv⟩ := ht.shape
  subst hv
  exact ⟨p, c, rfl, ht, hb⟩
theorem rTokens_any {x : Ex} {D : Nat → Prop} {w : World} {q : Option Addr} {d : Nat} {r : Bool} (hsm : smX x) (hS : FoS D w q d x.args) (hr : rightX x = r) :
  Calls Tryz.prog 7 #[.agg (hdC x q d).toArray] w fun e w' => ∃ p c, e = .returned (.tuple #[.slice p (tokV x r).length c, .bool r]) ∧ ToksIn w' (.slice p (tokV x r).length c) (tokV x r) ∧ Below w.heap.size w w' := by
 cases r with
 | false =>
  refine (rTokens_no hsm hS hr).mono ?_
  rintro e w' ⟨rfl, hb⟩
  exact ⟨none, 0, rfl, ⟨none, 0, rfl, fun k hk => absurd hk (Nat.not_lt_zero _)⟩, hb⟩
 | true => exact rTokens_yes hsm hS hr
theorem tokV_len {x : Ex} {r : Bool} (hr : rightX x = r) : (tokV x r).length ≤ 1099511627776 := by
 cases r with
 | false => exact Nat.zero_le _
 | true => have := (toks_mem hr).1; show (toksX x).length ≤ _; omega
/-- What Read returns from an index on. -/
def rdF (ts : List Tok) (k : Int) : Ex × Nat × Nat := if k < 0 ∨ (ts.length : Int) < k then (Ex.zero, 0, 1) else
 match exprP ((ts.drop k.toNat).length + 1) (ts.drop k.toNat) with
 | .error r => (Ex.zero, ts.length - r.length, 12)
 | .ok (y, r) => if rightX y = true then (y, ts.length - r.length, 0) else (Ex.zero, ts.length - r.length, 6)
theorem rdF_is {ts : List Tok} {k : Nat} {x : Ex} {k' e' : Nat} (hk : k ≤ ts.length) (h : RdRes ts k x k' e') : rdF ts (k : Int) = (x, k', e') := by
  unfold rdF
  rw [if_neg (by omega), Int.toNat_natCast]
  unfold RdRes at h
  have hl : ∀ r : List Tok, r = ts.drop k' → k' ≤ ts.length → ts.length - r.length = k' := fun r e h => by rw [e, List.length_drop]; omega
  cases hq : exprP ((ts.drop k).length + 1) (ts.drop k) with
  | error r =>
    rw [hq] at h
    obtain ⟨h1, h2, h3, h4⟩ := h
    dsimp only
    rw [h1, h2, hl r h3 h4]
  | ok y =>
    obtain ⟨y, r⟩ := y
    rw [hq] at h
    obtain ⟨h3, h4, h5⟩ := h
    dsimp only
    rw [hl r h3 h4]
    rcases h5 with ⟨h5, rfl, rfl⟩ | ⟨h5, rfl, rfl⟩
    · rw [if_pos h5]
    · rw [if_neg (by rw [h5]; decide)]
theorem rdF_few {ts : List Tok} {k : Int} {x : Ex} {k' e' : Nat} (h : rdF ts k = (x, k', e')) : smX x ∧ (szF (x.then .nil) 250 24).isSome = true := by
  have hz : smX Ex.zero ∧ (szF (Ex.zero.then .nil) 250 24).isSome = true := ⟨smX_zero, rfl⟩
  unfold rdF at h
  split at h
  · cases h; exact hz
  · split at h
    · cases h; exact hz
    · split at h
      · rename_i hr; cases h; exact ⟨smX_right hr, right_few hr (by omega) (by omega)⟩
      · cases h; exact hz
/-- What a reading function leaves. -/
def RfPost (X : Ex × Nat × Nat) (w : World) (e : Ending) (w' : World) : Prop := ∃ (q : Option Addr) (d : Nat), e = .returned (.tuple #[.agg (hdC X.1 q d).toArray, .int .i64 X.2.1, .int .i64 X.2.2]) ∧ FoS (fun _ => True) w' q d X.1.args ∧ Below w.heap.size w w'
theorem read_any {w : World} {p : Option Addr} {c : Nat} {ts : List Tok} {k : Int} (hT : ToksIn w (.slice p ts.length c) ts) (hp : ∀ b o, p = some ⟨b, o, none⟩ → b < w.heap.size) (hn : ts.length ≤ 1099511627776) (hw : hvT ts ≤ 9223372036854775807) :
    Calls Tryz.prog 15 #[.slice p ts.length c, .int .i64 k] w (RfPost (rdF ts k) w) := by
  by_cases h : k < 0 ∨ (ts.length : Int) < k
  · refine (read_arg (n := ts.length) h).mono ?_
    rintro e w' ⟨rfl, hb⟩
    unfold rdF
    rw [if_pos h]
    exact ⟨none, 0, rfl, FoS.nil, hb⟩
  · obtain ⟨j, rfl⟩ := Int.eq_ofNat_of_zero_le (show 0 ≤ k by omega)
    refine (read_ok (k := j) hT hp hn (by omega) hw).mono ?_
    rintro e w' ⟨x, q, d, k', e', rfl, hf, hb, hr⟩
    rw [rdF_is (by omega) hr]
    exact ⟨q, d, rfl, hf.mono (fun _ _ => trivial), hb⟩
theorem rRead_any {w : World} {p : Option Addr} {c : Nat} {ts : List Tok} {k : Int} (hT : ToksIn w (.slice p ts.length c) ts) (hp : ∀ b o, p = some ⟨b, o, none⟩ → b < w.heap.size) (hn : ts.length ≤ 1099511627776) (hw : hvT ts ≤ 9223372036854775807) :
    Calls Tryz.prog 16 #[.slice p ts.length c, .int .i64 k] w (RfPost (rdF ts k) w) := by
  by_cases h : k < 0 ∨ (ts.length : Int) < k
  · refine (rRead_arg (n := ts.length) h).mono ?_
    rintro e w' ⟨rfl, hb⟩
    unfold rdF
    rw [if_pos h]
    exact ⟨none, 0, rfl, FoS.nil, hb⟩
  · obtain ⟨j, rfl⟩ := Int.eq_ofNat_of_zero_le (show 0 ≤ k by omega)
    refine (rRead_ok (k := j) hT hp hn (by omega) rfl hw).mono ?_
    rintro e w' ⟨x, q, d, k', e', rfl, hf, hb, hr⟩
    rw [rdF_is (by omega) hr]
    exact ⟨q, d, rfl, hf.mono (fun _ _ => trivial), hb⟩
/-- The tokens of a text, if it has some. -/
def tksOf (s : Bytes) : List Tok := match scanOut s with | .ok ts => ts | .error _ => []
theorem rscan_any (s : ByteArray) (w : World) (hs : s.size ≤ 137438953472) :
  Calls Tryz.prog 14 #[.string s] w fun e w' => ∃ p c u v, e = .returned (.tuple #[.slice p (tksOf s.data.toList).length c, u, v]) ∧ ToksIn w' (.slice p (tksOf s.data.toList).length c) (tksOf s.data.toList) ∧ Below w.heap.size w w' ∧ ∀ b o, p = some ⟨b, o, none⟩ → b < w'.heap.size := by
 unfold tksOf
 cases h : scanOut s.data.toList with
 | error pe =>
  obtain ⟨p, x⟩ := pe
  refine ((rscan_two s w hs).2 p x h).mono ?_
  rintro e w' ⟨q, d, rfl, ht, hb, hp⟩
  exact ⟨q, d, _, _, rfl, ht, hb, fun b o e => (hp b o e).2⟩
 | ok ts =>
  refine ((rscan_two s w hs).1 ts h).mono ?_
  rintro e w' ⟨q, d, rfl, ht, hb, hp⟩
  exact ⟨q, d, _, _, rfl, ht, hb, fun b o e => (hp b o e).2⟩
theorem tksOf_len (s : Bytes) : (tksOf s).length ≤ 1099511627776 ∧ hvT (tksOf s) ≤ 9223372036854775807 := by
 unfold tksOf
 cases h : scanOut s with
 | error pe => exact ⟨Nat.zero_le _, Nat.zero_le _⟩
 | ok ts => have := scanOut_facts.1 ts h; exact ⟨by show ts.length ≤ _; omega, by show hvT ts ≤ _; omega⟩
set_option maxRecDepth 100000 in
set_option maxHeartbeats 4000000 in
theorem tells_many {x : Ex} {D : Nat → Prop} {w : World} {q : Option Addr} {d : Nat} (s : ByteArray) (k : Int) (hs : s.size ≤ 9223372036854775807) (hsm : smX x) (hS : FoS D w q d x.args) (hsig : SignsIn w) (hT : PowT w.heap.size w) (hf : (szF (x.then .nil) 250 24).isSome = false) :
  Calls Tryz.prog 3 #[.agg (hdC x q d).toArray, .string s, .int .i64 k] w fun e w' => e = .returned (.bool true) ∧ Below w.heap.size w w' := by
 have HG := Lib.hid hsig; have T := Lib.hid hT; have F := Lib.hid (hS.mono (fun _ _ => trivial) : FoT w q d x.args); have SM := Lib.hid hsm; have HMX := Lib.hid hs
 have B : Hid (Below w.heap.size w w) := be_refl w
 clear hsig hT hS hsm hs
 unfold hdC
 go_enter Tryz.func3, Tryz.ntmps3
 go_upto_region 1 with fail
 refine nmW (w.alloc (.cells #[.int .i64 x.op, .int .i64 x.n, .string ⟨x.unit.toArray⟩, .string ⟨x.name.toArray⟩, .slice q x.args.len d] 24)) fun w1 hv => ?_
 rw [← hv]
 have K := bxh hv
 have hb_ := bah hv
 clear hv
 have z1_ := K.out.lt
 replace B := Lib.hid (be_call B.out hb_)
 replace HG := Lib.hid (HG.out.keep hb_)
 replace T := Lib.hid (T.out.keepG (hb_.mono (by omega)))
 replace F := Lib.hid (F.out.keep hb_)
 have z2_ := hb_.size
 clear hb_
 go_wp2_with fail
 refine (sane_ok HG.out (T.out.mono (by omega))).mono ?_
 rintro e w2 ⟨rfl, hb⟩
 replace B := Lib.hid (be_call B.out hb)
 replace HG := Lib.hid (HG.out.keep hb)
 replace T := Lib.hid (T.out.keepG (hb.mono (by omega)))
 replace F := Lib.hid (F.out.keep hb)
 replace K := Lib.hid (K.out.keep hb)
 have z3_ := hb.size
 clear hb
 have HC := Lib.hid (few_ok (r := false) (x := x) (b := 250) (lv := 24) SM.out F.out (by decide) (by decide) hf)
 rw [show ((250 : Nat) : Int) = 250 from rfl, show ((24 : Nat) : Int) = 24 from rfl] at HC
 unfold hdC at HC
 refine K.out.q5 fun pK_0 pK_1 pK_2 pK_3 pK_4 => ?_
 go_wp2_with fail
 clear pK_0 pK_1 pK_2 pK_3 pK_4
 refine (HC.out).mono ?_
 rintro e w3 ⟨rfl, hb_⟩
 replace B := Lib.hid (be_call B.out hb_)
 replace HG := Lib.hid (HG.out.keep hb_)
 replace T := Lib.hid (T.out.keepG (hb_.mono (by omega)))
 replace F := Lib.hid (F.out.keep hb_)
 replace K := Lib.hid (K.out.keep hb_)
 have z4_ := hb_.size
 clear hb_
 clear HC
 go_wp2_with fail
 go_ret
 exact ⟨rfl, B.out⟩
set_option maxRecDepth 100000 in
set_option maxHeartbeats 4000000 in
theorem tells_long {x : Ex} {D : Nat → Prop} {w : World} {q : Option Addr} {d : Nat} (s : ByteArray) (k : Int) (hs : s.size ≤ 9223372036854775807) (hsm : smX x) (hS : FoS D w q d x.args) (hsig : SignsIn w) (hT : PowT w.heap.size w) (hf : (szF (x.then .nil) 250 24).isSome = true) (hl : 1500 < s.size) :
  Calls Tryz.prog 3 #[.agg (hdC x q d).toArray, .string s, .int .i64 k] w fun e w' => e = .returned (.bool true) ∧ Below w.heap.size w w' := by
 have HG := Lib.hid hsig; have T := Lib.hid hT; have F := Lib.hid (hS.mono (fun _ _ => trivial) : FoT w q d x.args); have SM := Lib.hid hsm; have HMX := Lib.hid hs
 have B : Hid (Below w.heap.size w w) := be_refl w
 clear hsig hT hS hsm hs
 have hli : (1500 : Int) < (s.size : Int) := by omega
 unfold hdC
 go_enter Tryz.func3, Tryz.ntmps3
 go_upto_region 1 with fail
 refine nmW (w.alloc (.cells #[.int .i64 x.op, .int .i64 x.n, .string ⟨x.unit.toArray⟩, .string ⟨x.name.toArray⟩, .slice q x.args.len d] 24)) fun w1 hv => ?_
 rw [← hv]
 have K := bxh hv
 have hb_ := bah hv
 clear hv
 have z1_ := K.out.lt
 replace B := Lib.hid (be_call B.out hb_)
 replace HG := Lib.hid (HG.out.keep hb_)
 replace T := Lib.hid (T.out.keepG (hb_.mono (by omega)))
 replace F := Lib.hid (F.out.keep hb_)
 have z2_ := hb_.size
 clear hb_
 go_wp2_with fail
 refine (sane_ok HG.out (T.out.mono (by omega))).mono ?_
 rintro e w2 ⟨rfl, hb⟩
 replace B := Lib.hid (be_call B.out hb)
 replace HG := Lib.hid (HG.out.keep hb)
 replace T := Lib.hid (T.out.keepG (hb.mono (by omega)))
 replace F := Lib.hid (F.out.keep hb)
 replace K := Lib.hid (K.out.keep hb)
 have z3_ := hb.size
 clear hb
 have HC := Lib.hid (few_ok (r := true) (x := x) (b := 250) (lv := 24) SM.out F.out (by decide) (by decide) hf)
 rw [show ((250 : Nat) : Int) = 250 from rfl, show ((24 : Nat) : Int) = 24 from rfl] at HC
 unfold hdC at HC
 refine K.out.q5 fun pK_0 pK_1 pK_2 pK_3 pK_4 => ?_
 go_wp2_with fail
 clear pK_0 pK_1 pK_2 pK_3 pK_4
 refine (HC.out).mono ?_
 rintro e w3 ⟨rfl, hb_⟩
 replace B := Lib.hid (be_call B.out hb_)
 replace HG := Lib.hid (HG.out.keep hb_)
 replace T := Lib.hid (T.out.keepG (hb_.mono (by omega)))
 replace F := Lib.hid (F.out.keep hb_)
 replace K := Lib.hid (K.out.keep hb_)
 have z4_ := hb_.size
 clear hb_
 clear HC
 go_wp2_with fail
 go_ret
 exact ⟨rfl, B.out⟩
set_option maxRecDepth 100000 in
set_option maxHeartbeats 4000000 in
theorem tells_main {x : Ex} {D : Nat → Prop} {w : World} {q : Option Addr} {d : Nat} (s : ByteArray) (k : Int) (hs : s.size ≤ 9223372036854775807) (hsm : smX x) (hS : FoS D w q d x.args) (hsig : SignsIn w) (hT : PowT w.heap.size w) {r : Bool} (hf : (szF (x.then .nil) 250 24).isSome = true) (hl : ¬ 1500 < s.size) (hr : rightX x = r) :
  Calls Tryz.prog 3 #[.agg (hdC x q d).toArray, .string s, .int .i64 k] w fun e w' => e = .returned (.bool true) ∧ Below w.heap.size w w' := by
 have HG := Lib.hid hsig; have T := Lib.hid hT; have F := Lib.hid (hS.mono (fun _ _ => trivial) : FoT w q d x.args); have SM := Lib.hid hsm; have HMX := Lib.hid hs
 have B : Hid (Below w.heap.size w w) := be_refl w
 clear hsig hT hS hsm hs
 have hli : ¬ (1500 : Int) < (s.size : Int) := by omega
 have HL := Lib.hid hl; have HF := Lib.hid hf; have HR := Lib.hid hr; clear hl hf hr
 obtain ⟨X, hX⟩ : ∃ X, parseX s.data.toList = X := ⟨_, rfl⟩
 obtain ⟨y, pp, ee⟩ := X
 have HX := Lib.hid hX; have SY := Lib.hid (smX_parse hX); have FY := Lib.hid (few_parse hX); clear hX
 obtain ⟨o, ho⟩ : ∃ o, printX x = o := ⟨_, rfl⟩
 have HO := Lib.hid ho; clear ho
 obtain ⟨ts, hts⟩ : ∃ ts, tksOf s.data.toList = ts := ⟨_, rfl⟩
 have HTS := Lib.hid hts; have HTL := Lib.hid (tksOf_len s.data.toList); rw [hts] at HTL; clear hts
 obtain ⟨Y, hY⟩ : ∃ Y, rdF ts k = Y := ⟨_, rfl⟩
 obtain ⟨u, mm, gg⟩ := Y
 have HY := Lib.hid hY; have SU := Lib.hid (rdF_few hY); clear hY
 obtain ⟨V, hV⟩ : ∃ V, tokV x r = V := ⟨_, rfl⟩
 have HVL : Hid (V.length ≤ 1099511627776) := by show _ ≤ _; rw [← hV]; exact tokV_len HR.out
 have HV := Lib.hid hV; clear hV
 have HSS : Hid (s.size ≤ 137438953472) := by show _ ≤ _; have := HL.out; omega
 unfold hdC
 go_enter Tryz.func3, Tryz.ntmps3
 go_upto_region 1 with fail
 refine nmW (w.alloc (.cells #[.int .i64 x.op, .int .i64 x.n, .string ⟨x.unit.toArray⟩, .string ⟨x.name.toArray⟩, .slice q x.args.len d] 24)) fun w1 hv => ?_
 rw [← hv]
 have K := bxh hv
 have hb_ := bah hv
 clear hv
 have z1_ := K.out.lt
 replace B := Lib.hid (be_call B.out hb_)
 replace HG := Lib.hid (HG.out.keep hb_)
 replace T := Lib.hid (T.out.keepG (hb_.mono (by omega)))
 replace F := Lib.hid (F.out.keep hb_)
 have z2_ := hb_.size
 clear hb_
 go_wp2_with fail
 refine (sane_ok HG.out (T.out.mono (by omega))).mono ?_
 rintro e w2 ⟨rfl, hb⟩
 replace B := Lib.hid (be_call B.out hb)
 replace HG := Lib.hid (HG.out.keep hb)
 replace T := Lib.hid (T.out.keepG (hb.mono (by omega)))
 replace F := Lib.hid (F.out.keep hb)
 replace K := Lib.hid (K.out.keep hb)
 have z3_ := hb.size
 clear hb
 have HC := Lib.hid (few_ok (r := true) (x := x) (b := 250) (lv := 24) SM.out F.out (by decide) (by decide) HF.out)
 rw [show ((250 : Nat) : Int) = 250 from rfl, show ((24 : Nat) : Int) = 24 from rfl] at HC
 unfold hdC at HC
 refine K.out.q5 fun pK_0 pK_1 pK_2 pK_3 pK_4 => ?_
 go_wp2_with fail
 clear pK_0 pK_1 pK_2 pK_3 pK_4
 refine (HC.out).mono ?_
 rintro e w3 ⟨rfl, hb_⟩
 replace B := Lib.hid (be_call B.out hb_)
 replace HG := Lib.hid (HG.out.keep hb_)
 replace T := Lib.hid (T.out.keepG (hb_.mono (by omega)))
 replace F := Lib.hid (F.out.keep hb_)
 replace K := Lib.hid (K.out.keep hb_)
 have z4_ := hb_.size
 clear hb_
 clear HC
 have HC := Lib.hid (tokens_any SM.out F.out (T.out.mono (by omega)) HR.out)
 rw [HV.out] at HC
 unfold hdC at HC
 refine K.out.q5 fun pK_0 pK_1 pK_2 pK_3 pK_4 => ?_
 go_wp2_with fail
 clear pK_0 pK_1 pK_2 pK_3 pK_4
 refine (HC.out).mono ?_
 rintro e w4 ⟨p1, c1, rfl, ht, hb⟩
 clear HC
 replace B := Lib.hid (be_call B.out hb)
 replace HG := Lib.hid (HG.out.keep hb)
 replace T := Lib.hid (T.out.keepG (hb.mono (by omega)))
 replace F := Lib.hid (F.out.keep hb)
 replace K := Lib.hid (K.out.keep hb)
 have z5_ := hb.size
 clear hb
 have T1 := Lib.hid ht; clear ht
 have HC := Lib.hid (rTokens_any SM.out F.out HR.out)
 rw [HV.out] at HC
 unfold hdC at HC
 refine K.out.q5 fun pK_0 pK_1 pK_2 pK_3 pK_4 => ?_
 go_wp2_with fail
 clear pK_0 pK_1 pK_2 pK_3 pK_4
 refine (HC.out).mono ?_
 rintro e w5 ⟨p2, c2, rfl, ht, hb⟩
 clear HC
 replace B := Lib.hid (be_call B.out hb)
 replace HG := Lib.hid (HG.out.keep hb)
 replace T := Lib.hid (T.out.keepG (hb.mono (by omega)))
 replace F := Lib.hid (F.out.keep hb)
 replace K := Lib.hid (K.out.keep hb)
 replace T1 := Lib.hid (T1.out.keep hb)
 have z6_ := hb.size
 clear hb
 have T2 := Lib.hid ht; clear ht
 obtain ⟨S, hSS⟩ : ∃ S : ByteArray, (⟨(o.getD []).toArray⟩ : ByteArray) = S := ⟨_, rfl⟩
 obtain ⟨ob, hob⟩ : ∃ b, o.isSome = b := ⟨_, rfl⟩
 have HSo := Lib.hid hSS; have HOb := Lib.hid hob; clear hSS hob
 have HC := Lib.hid (print_x SM.out F.out (T.out.mono (by omega)) (fun h => prn_right h) HO.out)
 rw [HSo.out, HOb.out] at HC
 unfold hdC at HC
 refine K.out.q5 fun pK_0 pK_1 pK_2 pK_3 pK_4 => ?_
 go_wp2_with fail
 clear pK_0 pK_1 pK_2 pK_3 pK_4
 refine (HC.out).mono ?_
 rintro e w6 ⟨rfl, hb_⟩
 replace B := Lib.hid (be_call B.out hb_)
 replace HG := Lib.hid (HG.out.keep hb_)
 replace T := Lib.hid (T.out.keepG (hb_.mono (by omega)))
 replace F := Lib.hid (F.out.keep hb_)
 replace K := Lib.hid (K.out.keep hb_)
 replace T1 := Lib.hid (T1.out.keep hb_)
 replace T2 := Lib.hid (T2.out.keep hb_)
 have z7_ := hb_.size
 clear hb_
 clear HC
 have HC := Lib.hid (rPrint_x SM.out F.out HO.out)
 rw [HSo.out, HOb.out] at HC
 unfold hdC at HC
 refine K.out.q5 fun pK_0 pK_1 pK_2 pK_3 pK_4 => ?_
 go_wp2_with fail
 clear pK_0 pK_1 pK_2 pK_3 pK_4
 refine (HC.out).mono ?_
 rintro e w7 ⟨rfl, hb_⟩
 replace B := Lib.hid (be_call B.out hb_)
 replace HG := Lib.hid (HG.out.keep hb_)
 replace T := Lib.hid (T.out.keepG (hb_.mono (by omega)))
 replace F := Lib.hid (F.out.keep hb_)
 replace K := Lib.hid (K.out.keep hb_)
 replace T1 := Lib.hid (T1.out.keep hb_)
 replace T2 := Lib.hid (T2.out.keep hb_)
 have z8_ := hb_.size
 clear hb_
 clear HC
 go_wp2_with fail
 refine (parse_any s HSS.out HG.out).mono ?_
 rintro e w8 ⟨y_, q1, d1, p_, e_, rfl, hf, hb, hx⟩
 replace B := Lib.hid (be_call B.out hb)
 replace HG := Lib.hid (HG.out.keep hb)
 replace T := Lib.hid (T.out.keepG (hb.mono (by omega)))
 replace F := Lib.hid (F.out.keep hb)
 replace K := Lib.hid (K.out.keep hb)
 replace T1 := Lib.hid (T1.out.keep hb)
 replace T2 := Lib.hid (T2.out.keep hb)
 have z9_ := hb.size
 clear hb
 rw [HX.out] at hx
 obtain ⟨hy_, hp_, he_⟩ : y = y_ ∧ pp = p_ ∧ ee = e_ := by have h1 := congrArg Prod.fst hx; have h2 := congrArg Prod.snd hx; exact ⟨h1, congrArg Prod.fst h2, congrArg Prod.snd h2⟩
 clear hx
 subst hy_ hp_ he_
 have F1 := Lib.hid (hf.mono (fun _ _ => trivial) : FoT _ q1 d1 _); clear hf
 unfold hdC
 go_upto_region 9 with fail
 refine nmW (w8.alloc (.cells #[.int .i64 y.op, .int .i64 y.n, .string ⟨y.unit.toArray⟩, .string ⟨y.name.toArray⟩, .slice q1 y.args.len d1] 24)) fun w9 hv => ?_
 rw [← hv]
 have K1 := bxh hv
 have hb_ := bah hv
 clear hv
 have z10_ := K1.out.lt
 replace B := Lib.hid (be_call B.out hb_)
 replace HG := Lib.hid (HG.out.keep hb_)
 replace T := Lib.hid (T.out.keepG (hb_.mono (by omega)))
 replace F := Lib.hid (F.out.keep hb_)
 replace K := Lib.hid (K.out.keep hb_)
 replace T1 := Lib.hid (T1.out.keep hb_)
 replace T2 := Lib.hid (T2.out.keep hb_)
 replace F1 := Lib.hid (F1.out.keep hb_)
 have z11_ := hb_.size
 clear hb_
 go_wp2_with fail
 refine (rparse_any s HSS.out).mono ?_
 rintro e w10 ⟨y_, q2, d2, p_, e_, rfl, hf, hb, hx⟩
 replace B := Lib.hid (be_call B.out hb)
 replace HG := Lib.hid (HG.out.keep hb)
 replace T := Lib.hid (T.out.keepG (hb.mono (by omega)))
 replace F := Lib.hid (F.out.keep hb)
 replace K := Lib.hid (K.out.keep hb)
 replace T1 := Lib.hid (T1.out.keep hb)
 replace T2 := Lib.hid (T2.out.keep hb)
 replace F1 := Lib.hid (F1.out.keep hb)
 replace K1 := Lib.hid (K1.out.keep hb)
 have z12_ := hb.size
 clear hb
 rw [HX.out] at hx
 obtain ⟨hy_, hp_, he_⟩ : y = y_ ∧ pp = p_ ∧ ee = e_ := by have h1 := congrArg Prod.fst hx; have h2 := congrArg Prod.snd hx; exact ⟨h1, congrArg Prod.fst h2, congrArg Prod.snd h2⟩
 clear hx
 subst hy_ hp_ he_
 have F2 := Lib.hid (hf.mono (fun _ _ => trivial) : FoT _ q2 d2 _); clear hf
 unfold hdC
 go_upto_region 10 with fail
 refine nmW (w10.alloc (.cells #[.int .i64 y.op, .int .i64 y.n, .string ⟨y.unit.toArray⟩, .string ⟨y.name.toArray⟩, .slice q2 y.args.len d2] 24)) fun w11 hv => ?_
 rw [← hv]
 have K2 := bxh hv
 have hb_ := bah hv
 clear hv
 have z13_ := K2.out.lt
 replace B := Lib.hid (be_call B.out hb_)
 replace HG := Lib.hid (HG.out.keep hb_)
 replace T := Lib.hid (T.out.keepG (hb_.mono (by omega)))
 replace F := Lib.hid (F.out.keep hb_)
 replace K := Lib.hid (K.out.keep hb_)
 replace T1 := Lib.hid (T1.out.keep hb_)
 replace T2 := Lib.hid (T2.out.keep hb_)
 replace F1 := Lib.hid (F1.out.keep hb_)
 replace K1 := Lib.hid (K1.out.keep hb_)
 replace F2 := Lib.hid (F2.out.keep hb_)
 have z14_ := hb_.size
 clear hb_
 have n1 : (r != r) = false := by simp
 have n2 : (ob != ob) = false := by simp
 have n3 : ((ee : Int) != (ee : Int)) = false := by simp
 have n4 : ((pp : Int) != (pp : Int)) = false := by simp
 have n5 : (S.toList != S.toList) = false := by simp
 go_wp2_with fail
 refine (rsameT_ok T1.out T2.out HVL.out).mono ?_
 rintro e w12 ⟨rfl, hb_⟩
 replace B := Lib.hid (be_call B.out hb_)
 replace HG := Lib.hid (HG.out.keep hb_)
 replace T := Lib.hid (T.out.keepG (hb_.mono (by omega)))
 replace F := Lib.hid (F.out.keep hb_)
 replace K := Lib.hid (K.out.keep hb_)
 replace T1 := Lib.hid (T1.out.keep hb_)
 replace T2 := Lib.hid (T2.out.keep hb_)
 replace F1 := Lib.hid (F1.out.keep hb_)
 replace K1 := Lib.hid (K1.out.keep hb_)
 replace F2 := Lib.hid (F2.out.keep hb_)
 replace K2 := Lib.hid (K2.out.keep hb_)
 have z15_ := hb_.size
 clear hb_
 have HC := Lib.hid (few_ok (r := true) (x := y) (b := 250) (lv := 24) SY.out F1.out (by decide) (by decide) FY.out)
 rw [show ((250 : Nat) : Int) = 250 from rfl, show ((24 : Nat) : Int) = 24 from rfl] at HC
 unfold hdC at HC
 refine K1.out.q5 fun pK1_0 pK1_1 pK1_2 pK1_3 pK1_4 => ?_
 go_wp2_with fail
 clear pK1_0 pK1_1 pK1_2 pK1_3 pK1_4
 refine (HC.out).mono ?_
 rintro e w13 ⟨rfl, hb_⟩
 replace B := Lib.hid (be_call B.out hb_)
 replace HG := Lib.hid (HG.out.keep hb_)
 replace T := Lib.hid (T.out.keepG (hb_.mono (by omega)))
 replace F := Lib.hid (F.out.keep hb_)
 replace K := Lib.hid (K.out.keep hb_)
 replace T1 := Lib.hid (T1.out.keep hb_)
 replace T2 := Lib.hid (T2.out.keep hb_)
 replace F1 := Lib.hid (F1.out.keep hb_)
 replace K1 := Lib.hid (K1.out.keep hb_)
 replace F2 := Lib.hid (F2.out.keep hb_)
 replace K2 := Lib.hid (K2.out.keep hb_)
 have z16_ := hb_.size
 clear hb_
 clear HC
 have HC := Lib.hid (same_ok (x := y) (y := y) SY.out F1.out F2.out ((sameX_iff _ _).2 rfl))
 unfold hdC at HC
 refine K1.out.q5 fun pK1_0 pK1_1 pK1_2 pK1_3 pK1_4 => ?_
 refine K2.out.q5 fun pK2_0 pK2_1 pK2_2 pK2_3 pK2_4 => ?_
 go_wp2_with fail
 clear pK1_0 pK1_1 pK1_2 pK1_3 pK1_4 pK2_0 pK2_1 pK2_2 pK2_3 pK2_4
 refine (HC.out).mono ?_
 rintro e w14 ⟨rfl, hb_⟩
 replace B := Lib.hid (be_call B.out hb_)
 replace HG := Lib.hid (HG.out.keep hb_)
 replace T := Lib.hid (T.out.keepG (hb_.mono (by omega)))
 replace F := Lib.hid (F.out.keep hb_)
 replace K := Lib.hid (K.out.keep hb_)
 replace T1 := Lib.hid (T1.out.keep hb_)
 replace T2 := Lib.hid (T2.out.keep hb_)
 replace F1 := Lib.hid (F1.out.keep hb_)
 replace K1 := Lib.hid (K1.out.keep hb_)
 replace F2 := Lib.hid (F2.out.keep hb_)
 replace K2 := Lib.hid (K2.out.keep hb_)
 have z17_ := hb_.size
 clear hb_
 clear HC
 have HC := Lib.hid (rscan_any s w14 HSS.out)
 rw [HTS.out] at HC
 go_wp2_with fail
 refine (HC.out).mono ?_
 rintro e w15 ⟨p3, c3, u1, u2, rfl, ht, hb, hp⟩
 clear HC
 replace B := Lib.hid (be_call B.out hb)
 replace HG := Lib.hid (HG.out.keep hb)
 replace T := Lib.hid (T.out.keepG (hb.mono (by omega)))
 replace F := Lib.hid (F.out.keep hb)
 replace K := Lib.hid (K.out.keep hb)
 replace T1 := Lib.hid (T1.out.keep hb)
 replace T2 := Lib.hid (T2.out.keep hb)
 replace F1 := Lib.hid (F1.out.keep hb)
 replace K1 := Lib.hid (K1.out.keep hb)
 replace F2 := Lib.hid (F2.out.keep hb)
 replace K2 := Lib.hid (K2.out.keep hb)
 have z18_ := hb.size
 clear hb
 have T3 := Lib.hid ht; have HP3 := Lib.hid hp; clear ht hp
 have z3_ : w15.heap.size ≤ w15.heap.size := Nat.le_refl _
 have HC := Lib.hid (read_any (k := k) T3.out (fun b o e => by have := HP3.out b o e; omega) HTL.out.1 HTL.out.2)
 rw [HY.out] at HC
 unfold RfPost at HC
 dsimp only at HC
 go_wp2_with fail
 refine (HC.out).mono ?_
 rintro e w16 ⟨q3, d3, rfl, hf, hb⟩
 clear HC
 replace B := Lib.hid (be_call B.out hb)
 replace HG := Lib.hid (HG.out.keep hb)
 replace T := Lib.hid (T.out.keepG (hb.mono (by omega)))
 replace F := Lib.hid (F.out.keep hb)
 replace K := Lib.hid (K.out.keep hb)
 replace T1 := Lib.hid (T1.out.keep hb)
 replace T2 := Lib.hid (T2.out.keep hb)
 replace F1 := Lib.hid (F1.out.keep hb)
 replace K1 := Lib.hid (K1.out.keep hb)
 replace F2 := Lib.hid (F2.out.keep hb)
 replace K2 := Lib.hid (K2.out.keep hb)
 replace T3 := Lib.hid (T3.out.keep hb)
 have z19_ := hb.size
 clear hb
 have F3 : Hid (FoT _ q3 d3 _) := hf; clear hf
 unfold hdC
 go_upto_region 14 with fail
 refine nmW (w16.alloc (.cells #[.int .i64 u.op, .int .i64 u.n, .string ⟨u.unit.toArray⟩, .string ⟨u.name.toArray⟩, .slice q3 u.args.len d3] 24)) fun w17 hv => ?_
 rw [← hv]
 have K3 := bxh hv
 have hb_ := bah hv
 clear hv
 have z20_ := K3.out.lt
 replace B := Lib.hid (be_call B.out hb_)
 replace HG := Lib.hid (HG.out.keep hb_)
 replace T := Lib.hid (T.out.keepG (hb_.mono (by omega)))
 replace F := Lib.hid (F.out.keep hb_)
 replace K := Lib.hid (K.out.keep hb_)
 replace T1 := Lib.hid (T1.out.keep hb_)
 replace T2 := Lib.hid (T2.out.keep hb_)
 replace F1 := Lib.hid (F1.out.keep hb_)
 replace K1 := Lib.hid (K1.out.keep hb_)
 replace F2 := Lib.hid (F2.out.keep hb_)
 replace K2 := Lib.hid (K2.out.keep hb_)
 replace T3 := Lib.hid (T3.out.keep hb_)
 replace F3 := Lib.hid (F3.out.keep hb_)
 have z21_ := hb_.size
 clear hb_
 have HC := Lib.hid (rRead_any (k := k) T3.out (fun b o e => by have := HP3.out b o e; omega) HTL.out.1 HTL.out.2)
 rw [HY.out] at HC
 unfold RfPost at HC
 dsimp only at HC
 go_wp2_with fail
 refine (HC.out).mono ?_
 rintro e w18 ⟨q4, d4, rfl, hf, hb⟩
 clear HC
 replace B := Lib.hid (be_call B.out hb)
 replace HG := Lib.hid (HG.out.keep hb)
 replace T := Lib.hid (T.out.keepG (hb.mono (by omega)))
 replace F := Lib.hid (F.out.keep hb)
 replace K := Lib.hid (K.out.keep hb)
 replace T1 := Lib.hid (T1.out.keep hb)
 replace T2 := Lib.hid (T2.out.keep hb)
 replace F1 := Lib.hid (F1.out.keep hb)
 replace K1 := Lib.hid (K1.out.keep hb)
 replace F2 := Lib.hid (F2.out.keep hb)
 replace K2 := Lib.hid (K2.out.keep hb)
 replace T3 := Lib.hid (T3.out.keep hb)
 replace F3 := Lib.hid (F3.out.keep hb)
 replace K3 := Lib.hid (K3.out.keep hb)
 have z22_ := hb.size
 clear hb
 have F4 : Hid (FoT _ q4 d4 _) := hf; clear hf
 unfold hdC
 go_upto_region 15 with fail
 refine nmW (w18.alloc (.cells #[.int .i64 u.op, .int .i64 u.n, .string ⟨u.unit.toArray⟩, .string ⟨u.name.toArray⟩, .slice q4 u.args.len d4] 24)) fun w19 hv => ?_
 rw [← hv]
 have K4 := bxh hv
 have hb_ := bah hv
 clear hv
 have z23_ := K4.out.lt
 replace B := Lib.hid (be_call B.out hb_)
 replace HG := Lib.hid (HG.out.keep hb_)
 replace T := Lib.hid (T.out.keepG (hb_.mono (by omega)))
 replace F := Lib.hid (F.out.keep hb_)
 replace K := Lib.hid (K.out.keep hb_)
 replace T1 := Lib.hid (T1.out.keep hb_)
 replace T2 := Lib.hid (T2.out.keep hb_)
 replace F1 := Lib.hid (F1.out.keep hb_)
 replace K1 := Lib.hid (K1.out.keep hb_)
 replace F2 := Lib.hid (F2.out.keep hb_)
 replace K2 := Lib.hid (K2.out.keep hb_)
 replace T3 := Lib.hid (T3.out.keep hb_)
 replace F3 := Lib.hid (F3.out.keep hb_)
 replace K3 := Lib.hid (K3.out.keep hb_)
 replace F4 := Lib.hid (F4.out.keep hb_)
 have z24_ := hb_.size
 clear hb_
 clear n1 n2 n3 n4 n5
 have n3 : ((gg : Int) != (gg : Int)) = false := by simp
 have n4 : ((mm : Int) != (mm : Int)) = false := by simp
 have HC := Lib.hid (few_ok (r := true) (x := u) (b := 250) (lv := 24) SU.out.1 F3.out (by decide) (by decide) SU.out.2)
 rw [show ((250 : Nat) : Int) = 250 from rfl, show ((24 : Nat) : Int) = 24 from rfl] at HC
 unfold hdC at HC
 refine K3.out.q5 fun pK3_0 pK3_1 pK3_2 pK3_3 pK3_4 => ?_
 go_wp2_with fail
 clear pK3_0 pK3_1 pK3_2 pK3_3 pK3_4
 refine (HC.out).mono ?_
 rintro e w20 ⟨rfl, hb_⟩
 replace B := Lib.hid (be_call B.out hb_)
 replace HG := Lib.hid (HG.out.keep hb_)
 replace T := Lib.hid (T.out.keepG (hb_.mono (by omega)))
 replace F := Lib.hid (F.out.keep hb_)
 replace K := Lib.hid (K.out.keep hb_)
 replace T1 := Lib.hid (T1.out.keep hb_)
 replace T2 := Lib.hid (T2.out.keep hb_)
 replace F1 := Lib.hid (F1.out.keep hb_)
 replace K1 := Lib.hid (K1.out.keep hb_)
 replace F2 := Lib.hid (F2.out.keep hb_)
 replace K2 := Lib.hid (K2.out.keep hb_)
 replace T3 := Lib.hid (T3.out.keep hb_)
 replace F3 := Lib.hid (F3.out.keep hb_)
 replace K3 := Lib.hid (K3.out.keep hb_)
 replace F4 := Lib.hid (F4.out.keep hb_)
 replace K4 := Lib.hid (K4.out.keep hb_)
 have z25_ := hb_.size
 clear hb_
 clear HC
 have HC := Lib.hid (same_ok (x := u) (y := u) SU.out.1 F3.out F4.out ((sameX_iff _ _).2 rfl))
 unfold hdC at HC
 refine K3.out.q5 fun pK3_0 pK3_1 pK3_2 pK3_3 pK3_4 => ?_
 refine K4.out.q5 fun pK4_0 pK4_1 pK4_2 pK4_3 pK4_4 => ?_
 go_wp2_with fail
 clear pK3_0 pK3_1 pK3_2 pK3_3 pK3_4 pK4_0 pK4_1 pK4_2 pK4_3 pK4_4
 refine (HC.out).mono ?_
 rintro e w21 ⟨rfl, hb_⟩
 replace B := Lib.hid (be_call B.out hb_)
 replace HG := Lib.hid (HG.out.keep hb_)
 replace T := Lib.hid (T.out.keepG (hb_.mono (by omega)))
 replace F := Lib.hid (F.out.keep hb_)
 replace K := Lib.hid (K.out.keep hb_)
 replace T1 := Lib.hid (T1.out.keep hb_)
 replace T2 := Lib.hid (T2.out.keep hb_)
 replace F1 := Lib.hid (F1.out.keep hb_)
 replace K1 := Lib.hid (K1.out.keep hb_)
 replace F2 := Lib.hid (F2.out.keep hb_)
 replace K2 := Lib.hid (K2.out.keep hb_)
 replace T3 := Lib.hid (T3.out.keep hb_)
 replace F3 := Lib.hid (F3.out.keep hb_)
 replace K3 := Lib.hid (K3.out.keep hb_)
 replace F4 := Lib.hid (F4.out.keep hb_)
 replace K4 := Lib.hid (K4.out.keep hb_)
 have z26_ := hb_.size
 clear hb_
 clear HC
 go_upto_region 17 with fail
 refine nmW w21.drew fun w22 hW => ?_
 have hb_ := bdh hW
 replace B := Lib.hid (be_call B.out hb_)
 replace HG := Lib.hid (HG.out.keep hb_)
 replace T := Lib.hid (T.out.keepG (hb_.mono (by omega)))
 replace F := Lib.hid (F.out.keep hb_)
 replace K := Lib.hid (K.out.keep hb_)
 replace T1 := Lib.hid (T1.out.keep hb_)
 replace T2 := Lib.hid (T2.out.keep hb_)
 replace F1 := Lib.hid (F1.out.keep hb_)
 replace K1 := Lib.hid (K1.out.keep hb_)
 replace F2 := Lib.hid (F2.out.keep hb_)
 replace K2 := Lib.hid (K2.out.keep hb_)
 replace T3 := Lib.hid (T3.out.keep hb_)
 replace F3 := Lib.hid (F3.out.keep hb_)
 replace K3 := Lib.hid (K3.out.keep hb_)
 replace F4 := Lib.hid (F4.out.keep hb_)
 replace K4 := Lib.hid (K4.out.keep hb_)
 have z27_ := hb_.size
 clear hb_
 refine wp_region_held_drew (S := (fun w' => w'.cell? ⟨w.heap.size, 0, none⟩ = some (.int .i64 x.op) ∧ w'.cell? ⟨w.heap.size, 1, none⟩ = some (.int .i64 x.n) ∧ w'.cell? ⟨w.heap.size, 2, none⟩ = some (.string ⟨x.unit.toArray⟩) ∧ w'.cell? ⟨w.heap.size, 3, none⟩ = some (.string ⟨x.name.toArray⟩) ∧ w'.cell? ⟨w.heap.size, 4, none⟩ = some (.slice q x.args.len d))) (by kernel_rfl) (by rw [← hW]; exact K.out.d5) (fun hH => ?_)
 rw [← hW] at hH ⊢
 clear hW
 refine tk at0 ?_
 refine tk at1 ?_
 refine tk at2 (v := .agg #[.int .i64 x.op, .int .i64 x.n, .string ⟨x.unit.toArray⟩, .string ⟨x.name.toArray⟩, .slice q x.args.len d]) ?_
 refine tk at4 (v := .agg #[.int .i64 x.op, .int .i64 x.n, .string ⟨x.unit.toArray⟩, .string ⟨x.name.toArray⟩, .slice q x.args.len d]) ?_
 refine wpAnyH_ready (rs := [3]) (by kernel_rfl) (by simp) ?_
 refine AllReadyH.cons at3 (fun K_ hK => ?_) AllReadyH.nil
 have HC := Lib.hid (right_ok SM.out F.out)
 (try rw [HR.out] at HC)
 unfold hdC at HC
 go_simp
 refine (HC.out).mono ?_
 rintro e w23 ⟨rfl, hb_⟩
 replace B := Lib.hid (be_call B.out hb_)
 replace HG := Lib.hid (HG.out.keep hb_)
 replace T := Lib.hid (T.out.keepG (hb_.mono (by omega)))
 replace F := Lib.hid (F.out.keep hb_)
 replace K := Lib.hid (K.out.keep hb_)
 replace T1 := Lib.hid (T1.out.keep hb_)
 replace T2 := Lib.hid (T2.out.keep hb_)
 replace F1 := Lib.hid (F1.out.keep hb_)
 replace K1 := Lib.hid (K1.out.keep hb_)
 replace F2 := Lib.hid (F2.out.keep hb_)
 replace K2 := Lib.hid (K2.out.keep hb_)
 replace T3 := Lib.hid (T3.out.keep hb_)
 replace F3 := Lib.hid (F3.out.keep hb_)
 replace K3 := Lib.hid (K3.out.keep hb_)
 replace F4 := Lib.hid (F4.out.keep hb_)
 replace K4 := Lib.hid (K4.out.keep hb_)
 have z28_ := hb_.size
 clear hb_
 clear HC
 (try go_wp2_with fail)
 refine hK.out _ _ (K.out.d5) (fun hH2 => ?_)
 clear hK K_ hH
 have hH := hH2; clear hH2
 (try simp only [Act.put, kS, kZ, kC])
 refine wpAnyH_ready (rs := [5]) (by kernel_rfl) (by simp) ?_
 refine AllReadyH.cons at5 (fun K_ hK => ?_) AllReadyH.nil
 have HC := Lib.hid (rRight_ok SM.out F.out HR.out)
 (try rw [HR.out] at HC)
 unfold hdC at HC
 go_simp
 refine (HC.out).mono ?_
 rintro e w24 ⟨rfl, hb_⟩
 replace B := Lib.hid (be_call B.out hb_)
 replace HG := Lib.hid (HG.out.keep hb_)
 replace T := Lib.hid (T.out.keepG (hb_.mono (by omega)))
 replace F := Lib.hid (F.out.keep hb_)
 replace K := Lib.hid (K.out.keep hb_)
 replace T1 := Lib.hid (T1.out.keep hb_)
 replace T2 := Lib.hid (T2.out.keep hb_)
 replace F1 := Lib.hid (F1.out.keep hb_)
 replace K1 := Lib.hid (K1.out.keep hb_)
 replace F2 := Lib.hid (F2.out.keep hb_)
 replace K2 := Lib.hid (K2.out.keep hb_)
 replace T3 := Lib.hid (T3.out.keep hb_)
 replace F3 := Lib.hid (F3.out.keep hb_)
 replace K3 := Lib.hid (K3.out.keep hb_)
 replace F4 := Lib.hid (F4.out.keep hb_)
 replace K4 := Lib.hid (K4.out.keep hb_)
 have z29_ := hb_.size
 clear hb_
 clear HC
 (try go_wp2_with fail)
 refine hK.out _ _ (K.out.d5) (fun hH2 => ?_)
 clear hK K_ hH
 have hH := hH2; clear hH2
 (try simp only [Act.put, kS, kZ, kC])
 refine tk at6 (v := .bool true) ?_
 refine tk at7 ?_
 refine tk at8 ?_
 refine tk at9 ?_
 refine tk at11 ?_
 obtain ⟨wb, hwb⟩ : ∃ wb, wordB s.toList = wb := ⟨_, rfl⟩
 have HWB := Lib.hid hwb; clear hwb
 refine wpAnyH_ready (rs := [10]) (by kernel_rfl) (by simp) ?_
 refine AllReadyH.cons at10 (fun K_ hK => ?_) AllReadyH.nil
 go_simp
 refine (word_ok s (b_ := wb) HWB.out).mono ?_
 rintro e w24 ⟨rfl, rfl⟩
 (try go_wp2_with fail)
 refine hK.out _ _ (K.out.d5) (fun hH2 => ?_)
 clear hK K_ hH
 have hH := hH2; clear hH2
 (try simp only [Act.put, kS, kZ, kC])
 refine wpAnyH_ready (rs := [12]) (by kernel_rfl) (by simp) ?_
 refine AllReadyH.cons at12 (fun K_ hK => ?_) AllReadyH.nil
 go_simp
 refine (rWord_ok s HWB.out).mono ?_
 rintro e w25 ⟨rfl, hb_⟩
 replace B := Lib.hid (be_call B.out hb_)
 replace HG := Lib.hid (HG.out.keep hb_)
 replace T := Lib.hid (T.out.keepG (hb_.mono (by omega)))
 replace F := Lib.hid (F.out.keep hb_)
 replace K := Lib.hid (K.out.keep hb_)
 replace T1 := Lib.hid (T1.out.keep hb_)
 replace T2 := Lib.hid (T2.out.keep hb_)
 replace F1 := Lib.hid (F1.out.keep hb_)
 replace K1 := Lib.hid (K1.out.keep hb_)
 replace F2 := Lib.hid (F2.out.keep hb_)
 replace K2 := Lib.hid (K2.out.keep hb_)
 replace T3 := Lib.hid (T3.out.keep hb_)
 replace F3 := Lib.hid (F3.out.keep hb_)
 replace K3 := Lib.hid (K3.out.keep hb_)
 replace F4 := Lib.hid (F4.out.keep hb_)
 replace K4 := Lib.hid (K4.out.keep hb_)
 have z30_ := hb_.size
 clear hb_
 (try go_wp2_with fail)
 refine hK.out _ _ (K.out.d5) (fun hH2 => ?_)
 clear hK K_ hH
 have hH := hH2; clear hH2
 (try simp only [Act.put, kS, kZ, kC])
 refine tk at13 (v := .bool true) ?_
 refine tk at14 ?_
 refine tk at15 ?_
 refine wpAnyH_done (by kernel_rfl) ?_ _
 clear hH
 go_wp2_with fail
 go_ret
 exact ⟨rfl, B.out⟩
theorem tells_walk {x : Ex} {D : Nat → Prop} {w : World} {q : Option Addr} {d : Nat} (s : ByteArray) (k : Int) (hs : s.size ≤ 9223372036854775807) (hsm : smX x) (hS : FoS D w q d x.args) (hsig : SignsIn w) (hT : PowT w.heap.size w) :
    Calls Tryz.prog 3 #[.agg (hdC x q d).toArray, .string s, .int .i64 k] w fun e w' => e = .returned (.bool true) ∧ Below w.heap.size w w' := by
  cases hf : (szF (x.then .nil) 250 24).isSome with
  | false => exact tells_many s k hs hsm hS hsig hT hf
  | true =>
    by_cases hl : 1500 < s.size
    · exact tells_long s k hs hsm hS hsig hT hf hl
    · exact tells_main s k hs hsm hS hsig hT hf hl rfl
end Go.Proofs.YtckgmilmhofekaaGreatDoor
