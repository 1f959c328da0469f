/- Walks: FormulaWraps. -/
import Derived.Test.YtckgmilmhofekaaDoorLexLaws
import Derived.Test.YtckgmilmhofekaaDoorFoBack
import Derived.Test.YtckgmilmhofekaaDoorBase
import Derived.Test.YtckgmilmhofekaaDoorLexPrint
import Derived.Test.YtckgmilmhofekaaDoorBigSpec
import Derived.Test.YtckgmilmhofekaaDoorBigD
import Derived.Test.YtckgmilmhofekaaDoorBigQ
import Derived.Test.YtckgmilmhofekaaDoorFd
import Derived.Test.YtckgmilmhofekaaDoorOwn
import Derived.Test.YtckgmilmhofekaaDoorFoWd
import Derived.Test.YtckgmilmhofekaaDoorFoOx
import Derived.Test.YtckgmilmhofekaaDoorFoCk
import Derived.Test.YtckgmilmhofekaaDoorFoWl
import Derived.Test.YtckgmilmhofekaaDoorFoTo
import Derived.Test.YtckgmilmhofekaaDoorFoPt
import Derived.Test.YtckgmilmhofekaaDoorFoRt
import Derived.Test.YtckgmilmhofekaaDoorFoBk
import Derived.Test.YtckgmilmhofekaaDoorProg
import Derived.Test.YtckgmilmhofekaaDoorShelf
import Derived.WalkKit
import Derived.Lib.ItoaNum
import Derived.WalkSpells
import Derived.WalkLawsBesides
import Derived.Handy
import Derived.Lib.Hide
import Derived.Lib.Strings
import Derived.Lib.Builder
import Derived.Shelf.Strings.Builder1
import Derived.BigQuiet
import Derived.OwnWalk
import Derived.Laws.BitsLemmas
import Derived.WalkSmall
import Derived.Deep.QuietTactic
import Derived.StillTailTactics
import Derived.Maps.AppendAt
import Derived.IntWalk
import Derived.Deep.RegionHeld3
import Derived.Deep.DeepFit
import Derived.Deep.LoopGhost
import Derived.Deep.DeepCutAuto
import Derived.Lib.Repeat
import Derived.Lib.AppendIntMem
import Derived.Sort.OwnSorted
import Derived.Shelf.Strings.SlTrimAscii
import Derived.Lib.ConvBytes
import Derived.Lib.CutLaws
import Derived.ArgAppend
namespace Go.Proofs.YtckgmilmhofekaaDoor
open Go.RowKit

theorem scan_pos {p : Nat} {l : Bytes} {a : Except (Nat × Nat) (List Tok)} (h : Scan p l a) : ∀ ts, a = .ok ts → ∀ t ∈ ts, t.pos ≤ p + l.length := by
  induction h with
  | done p l h => intro ts k; cases k; intro t ht; cases ht
  | bad p l c r e h hn => intro ts k; cases k
  | late p l c r t n x h hn hs ih => intro ts k; cases k
  | tok p l c r t n ts h hn hs ih =>
    intro us k
    cases k
    have hlt := gap_lt_of_cons h
    have hlen : (c :: r).length = l.length - gapC false l := by rw [← h]; simp
    obtain ⟨g1, g2, -⟩ := nextT_ok hn
    intro u hu
    rcases List.mem_cons.1 hu with rfl | hu
    · show p + gapC false l ≤ _; omega
    · have := ih ts rfl u hu
      rw [List.length_drop] at this; omega
theorem parse_pos {s : Bytes} {x : Ex} {p e : Nat} (h : parseX s = (x, p, e)) : p ≤ s.length := by
  unfold parseX at h
  split at h
  · rename_i p' e' hq
    cases h
    split at hq
    · cases hq; exact Nat.zero_le _
    · exact Nat.le_of_lt (err_facts hq).1
  · rename_i ts hq
    unfold parseR at h
    split at h
    · cases h; exact Nat.zero_le _
    · have hp := congrArg (fun r : Ex × Nat × Nat => r.2.1) h
      have hp : (match ts.drop (readR ts).2.1 with | t :: _ => t.pos | [] => s.length) = p := hp
      rw [← hp]
      split
      · rename_i t r hd
        have hm : t ∈ ts := List.mem_of_mem_drop (by rw [hd]; exact List.mem_cons_self ..)
        split at hq
        · cases hq
        · have := scan_pos (scanAll_scan s) ts hq t hm; omega
      · exact Nat.le_refl _
theorem shr_read (l : List Tok) (x : Ex) (r : List Tok) (h : exprP (l.length + 1) l = .ok (x, r)) : r.length < l.length := (shrinks_exprP (l.length + 1) l).1 _ _ h
theorem join2 (n : Nat) (s : ByteArray) : ((⟨(List.replicate n (32 : UInt8)).toArray⟩ : ByteArray) ++ s).data.toList = List.replicate n 32 ++ s.data.toList := by rw [ByteArray.data_append, Array.toList_append]
theorem rep_size (n : Nat) : (⟨(List.replicate n (32 : UInt8)).toArray⟩ : ByteArray).size = n := by
 show (List.replicate n (32 : UInt8)).toArray.size = n
 rw [List.size_toArray, List.length_replicate]
theorem join2_len (n : Nat) (s : ByteArray) : ((⟨(List.replicate n (32 : UInt8)).toArray⟩ : ByteArray) ++ s).size = n + s.size := by rw [ByteArray.size_append, rep_size]
def wrapB (n : Nat) (s : ByteArray) : ByteArray := (((⟨(List.replicate n (32 : UInt8)).toArray⟩ : ByteArray) ++ ⟨#[40, 32]⟩) ++ s ++ ⟨#[10, 41, 32, 35, 32]⟩) ++ ⟨#[120]⟩
theorem wrapB_list (n : Nat) (s : ByteArray) : (wrapB n s).data.toList = List.replicate n 32 ++ 40 :: 32 :: (s.data.toList ++ [10, 41, 32, 35, 32, 120]) := by
 unfold wrapB
 simp only [ByteArray.data_append, Array.toList_append]
 simp
theorem wrapB_size (n : Nat) (s : ByteArray) : (wrapB n s).size = n + s.size + 8 := by
 unfold wrapB
 simp only [ByteArray.size_append, rep_size]
 show n + 2 + s.size + 5 + 1 = _
 omega
set_option maxRecDepth 100000 in
set_option maxHeartbeats 4000000 in
theorem wraps_long {w : World} (s : ByteArray) (n : Nat) (hn : n ≤ 255) (hm : s.size ≤ 9223372036854775807) (hsig : SignsIn w) (hT : PowT w.heap.size w) (hl : 1500 < s.size) :
  Calls Tryd.prog 4 #[.string s, .int .u8 n] w fun e w' => e = .returned (.bool true) ∧ Below w.heap.size w w' := by
 have HG := Lib.hid hsig; have T := Lib.hid hT; have HN := Lib.hid hn; have HM := Lib.hid hm
 have B : Hid (Below w.heap.size w w) := be_refl w
 clear hsig hT hn hm
 have hli : (1500 : Int) < (s.size : Int) := by omega
 go_enter Tryd.func4, Tryd.ntmps4
 go_wp2_with fail
 refine (sane_ok HG.out (T.out.mono (by omega))).mono ?_
 rintro e w1 ⟨rfl, hb⟩
 replace B := Lib.hid (be_call B.out hb)
 replace HG := Lib.hid (HG.out.keep hb)
 replace T := Lib.hid (T.out.keepG (hb.mono (by omega)))
 have z1_ := hb.size
 clear hb
 go_wp2_with fail
 go_ret
 exact ⟨rfl, B.out⟩
set_option maxRecDepth 100000 in
set_option maxHeartbeats 4000000 in
theorem wraps_bad {w : World} (s : ByteArray) (n : Nat) (hn : n ≤ 255) (hm : s.size ≤ 9223372036854775807) (hsig : SignsIn w) (hT : PowT w.heap.size w) (hl : ¬ 1500 < s.size) {x : Ex} {p e : Nat} (hp : parseX s.data.toList = (x, p, e)) (he : e ≠ 0) :
  Calls Tryd.prog 4 #[.string s, .int .u8 n] w fun e w' => e = .returned (.bool true) ∧ Below w.heap.size w w' := by
 have HG := Lib.hid hsig; have T := Lib.hid hT; have HN := Lib.hid hn; have HM := Lib.hid hm
 have B : Hid (Below w.heap.size w w) := be_refl w
 clear hsig hT hn hm
 have hli : ¬ (1500 : Int) < (s.size : Int) := by omega
 have HL := Lib.hid hl; clear hl
 have HP := Lib.hid hp; have SX := Lib.hid (smX_parse hp); have FX := Lib.hid (few_parse hp)
 have hsl : s.data.toList.length = s.size := bytes_len s
 have hpos := parse_pos hp
 obtain ⟨J, hJ⟩ : ∃ J : ByteArray, J = ((⟨(List.replicate n (32 : UInt8)).toArray⟩ : ByteArray) ++ s) := ⟨_, rfl⟩
 have HJ := Lib.hid hJ
 have hjs : J.size = n + s.size := by rw [hJ]; exact join2_len n s
 have HPJ := Lib.hid (parse_blanks (n := n) (by have := HL.out; have := HN.out; omega) hp)
 rw [← join2, ← hJ] at HPJ
 have HJS : Hid (J.size ≤ 137438953472) := by show _ ≤ _; have := HL.out; have := HN.out; omega
 rw [if_neg he] at HPJ
 obtain ⟨pn, hpn⟩ : ∃ pn, p + n = pn := ⟨_, rfl⟩
 rw [hpn] at HPJ
 have hw1 : IntKind.i64.wrap ((p : Int) + (n : Int)) = (pn : Int) := by rw [IntWalk.i64_in _ (by have := HL.out; have := HN.out; omega)]; omega
 have hei : ((e : Int) != 0) = true := by simp; omega
 have hee : ((e : Int) != (e : Int)) = false := by simp
 have hpp : ((pn : Int) != (pn : Int)) = false := by simp
 clear hpn hpos hsl hjs hJ hp he
 go_enter Tryd.func4, Tryd.ntmps4
 go_wp2_with fail
 refine (sane_ok HG.out (T.out.mono (by omega))).mono ?_
 rintro e w1 ⟨rfl, hb⟩
 replace B := Lib.hid (be_call B.out hb)
 replace HG := Lib.hid (HG.out.keep hb)
 replace T := Lib.hid (T.out.keepG (hb.mono (by omega)))
 have z1_ := hb.size
 clear hb
 go_wp2_with fail
 refine (parse_any s (by have := HL.out; omega) HG.out).mono ?_
 rintro e w2 ⟨y_, q1, d1, p_, e_, rfl, hf, hb, hx⟩
 replace B := Lib.hid (be_call B.out hb)
 replace HG := Lib.hid (HG.out.keep hb)
 replace T := Lib.hid (T.out.keepG (hb.mono (by omega)))
 have z2_ := hb.size
 clear hb
 rw [HP.out] at hx
 obtain ⟨hy_, hp_, he_⟩ : x = y_ ∧ p = p_ ∧ e = e_ := by have h1 := congrArg Prod.fst hx; have h2 := congrArg Prod.snd hx; exact ⟨h1, congrArg Prod.fst h2, congrArg Prod.snd h2⟩
 clear hx
 subst hy_ hp_ he_
 have F1 := Lib.hid (hf.mono (fun _ _ => trivial) : FoT _ q1 d1 _); clear hf
 unfold hdC
 go_upto_region 5 with fail
 refine nmW (w2.alloc (.cells #[.int .i64 x.op, .int .i64 x.n, .string ⟨x.unit.toArray⟩, .string ⟨x.name.toArray⟩, .slice q1 x.args.len d1] 24)) fun w3 hv => ?_
 rw [← hv]
 have K1 : Hid (Bx w3 w2.heap.size 24 #[.int .i64 x.op, .int .i64 x.n, .string ⟨x.unit.toArray⟩, .string ⟨x.name.toArray⟩, .slice q1 x.args.len d1]) := by show Bx _ _ _ _; rw [hv]; exact bx1 w2 _ _
 have hb_ : Below w2.heap.size w2 w3 := by rw [hv]; exact below_alloc _ _
 clear hv
 have z3_ := K1.out.lt
 replace B := Lib.hid (be_call B.out hb_)
 replace HG := Lib.hid (HG.out.keep hb_)
 replace T := Lib.hid (T.out.keepG (hb_.mono (by omega)))
 replace F1 := Lib.hid (F1.out.keep hb_)
 have z4_ := hb_.size
 clear hb_
 have hk8 : IntKind.i64.wrap (n : Int) = (n : Int) := IntWalk.i64_in _ (by have := HN.out; omega)
 go_wp2_with fail
 refine (lblanks_ok n HN.out).mono ?_
 rintro e w4 ⟨rfl, hb⟩
 replace B := Lib.hid (be_call B.out hb)
 replace HG := Lib.hid (HG.out.keep hb)
 replace T := Lib.hid (T.out.keepG (hb.mono (by omega)))
 replace F1 := Lib.hid (F1.out.keep hb)
 replace K1 := Lib.hid (K1.out.keep hb)
 have z5_ := hb.size
 clear hb
 generalize hR : (⟨(List.replicate n (32 : UInt8)).toArray⟩ : ByteArray) = R
 have hrs : R.size = n := by rw [← hR]; exact rep_size n
 have hz1 : ¬ (9223372036854775807 : Nat) < R.size + s.size := by have := HL.out; have := HN.out; omega
 have hrj : R ++ s = J := by rw [← hR]; exact HJ.out.symm
 clear hR hrs
 go_wp2_with fail
 clear hrj hz1
 go_wp2_with fail
 refine (parse_any J HJS.out HG.out).mono ?_
 rintro e w5 ⟨y_, q2, d2, p_, e_, rfl, hf, hb, hx⟩
 replace B := Lib.hid (be_call B.out hb)
 replace HG := Lib.hid (HG.out.keep hb)
 replace T := Lib.hid (T.out.keepG (hb.mono (by omega)))
 replace F1 := Lib.hid (F1.out.keep hb)
 replace K1 := Lib.hid (K1.out.keep hb)
 have z6_ := hb.size
 clear hb
 rw [HPJ.out] at hx
 obtain ⟨hy_, hp_, he_⟩ : x = y_ ∧ pn = p_ ∧ e = e_ := by have h1 := congrArg Prod.fst hx; have h2 := congrArg Prod.snd hx; exact ⟨h1, congrArg Prod.fst h2, congrArg Prod.snd h2⟩
 clear hx
 subst hy_ hp_ he_
 have F2 := Lib.hid (hf.mono (fun _ _ => trivial) : FoT _ q2 d2 _); clear hf
 unfold hdC
 go_upto_region 6 with fail
 refine nmW (w5.alloc (.cells #[.int .i64 x.op, .int .i64 x.n, .string ⟨x.unit.toArray⟩, .string ⟨x.name.toArray⟩, .slice q2 x.args.len d2] 24)) fun w6 hv => ?_
 rw [← hv]
 have K2 : Hid (Bx w6 w5.heap.size 24 #[.int .i64 x.op, .int .i64 x.n, .string ⟨x.unit.toArray⟩, .string ⟨x.name.toArray⟩, .slice q2 x.args.len d2]) := by show Bx _ _ _ _; rw [hv]; exact bx1 w5 _ _
 have hb_ : Below w5.heap.size w5 w6 := by rw [hv]; exact below_alloc _ _
 clear hv
 have z7_ := K2.out.lt
 replace B := Lib.hid (be_call B.out hb_)
 replace HG := Lib.hid (HG.out.keep hb_)
 replace T := Lib.hid (T.out.keepG (hb_.mono (by omega)))
 replace F1 := Lib.hid (F1.out.keep hb_)
 replace K1 := Lib.hid (K1.out.keep hb_)
 replace F2 := Lib.hid (F2.out.keep hb_)
 have z8_ := hb_.size
 clear hb_
 have HC := Lib.hid (few_ok (r := true) (x := x) (b := 250) (lv := 24) SX.out F1.out (by decide) (by decide) FX.out)
 rw [show ((250 : Nat) : Int) = 250 from rfl, show ((24 : Nat) : Int) = 24 from rfl] at HC
 unfold hdC at HC
 have pK1_0 := K1.out.at.1 0
 have pK1_1 := K1.out.at.1 1
 have pK1_2 := K1.out.at.1 2
 have pK1_3 := K1.out.at.1 3
 have pK1_4 := K1.out.at.1 4
 go_wp2_with fail
 clear pK1_0 pK1_1 pK1_2 pK1_3 pK1_4
 refine (HC.out).mono ?_
 rintro e w7 ⟨rfl, hb⟩
 clear HC
 replace B := Lib.hid (be_call B.out hb)
 replace HG := Lib.hid (HG.out.keep hb)
 replace T := Lib.hid (T.out.keepG (hb.mono (by omega)))
 replace F1 := Lib.hid (F1.out.keep hb)
 replace K1 := Lib.hid (K1.out.keep hb)
 replace F2 := Lib.hid (F2.out.keep hb)
 replace K2 := Lib.hid (K2.out.keep hb)
 have z9_ := hb.size
 clear hb
 have HC := Lib.hid (few_ok (r := true) (x := x) (b := 250) (lv := 24) SX.out F2.out (by decide) (by decide) FX.out)
 rw [show ((250 : Nat) : Int) = 250 from rfl, show ((24 : Nat) : Int) = 24 from rfl] at HC
 unfold hdC at HC
 have pK2_0 := K2.out.at.1 0
 have pK2_1 := K2.out.at.1 1
 have pK2_2 := K2.out.at.1 2
 have pK2_3 := K2.out.at.1 3
 have pK2_4 := K2.out.at.1 4
 go_wp2_with fail
 clear pK2_0 pK2_1 pK2_2 pK2_3 pK2_4
 refine (HC.out).mono ?_
 rintro e w8 ⟨rfl, hb⟩
 clear HC
 replace B := Lib.hid (be_call B.out hb)
 replace HG := Lib.hid (HG.out.keep hb)
 replace T := Lib.hid (T.out.keepG (hb.mono (by omega)))
 replace F1 := Lib.hid (F1.out.keep hb)
 replace K1 := Lib.hid (K1.out.keep hb)
 replace F2 := Lib.hid (F2.out.keep hb)
 replace K2 := Lib.hid (K2.out.keep hb)
 have z10_ := hb.size
 clear hb
 go_wp2_with fail
 go_ret
 exact ⟨rfl, B.out⟩
set_option maxRecDepth 100000 in
set_option maxHeartbeats 4000000 in
theorem wraps_ok {w : World} (s : ByteArray) (n : Nat) (hn : n ≤ 255) (hm : s.size ≤ 9223372036854775807) (hsig : SignsIn w) (hT : PowT w.heap.size w) (hl : ¬ 1500 < s.size) {x : Ex} {p : Nat} (hp : parseX s.data.toList = (x, p, 0))  :
  Calls Tryd.prog 4 #[.string s, .int .u8 n] w fun e w' => e = .returned (.bool true) ∧ Below w.heap.size w w' := by
 have HG := Lib.hid hsig; have T := Lib.hid hT; have HN := Lib.hid hn; have HM := Lib.hid hm
 have B : Hid (Below w.heap.size w w) := be_refl w
 clear hsig hT hn hm
 have hli : ¬ (1500 : Int) < (s.size : Int) := by omega
 have HL := Lib.hid hl; clear hl
 have HP := Lib.hid hp; have SX := Lib.hid (smX_parse hp); have FX := Lib.hid (few_parse hp)
 have hsl : s.data.toList.length = s.size := bytes_len s
 have hpos := parse_pos hp
 obtain ⟨J, hJ⟩ : ∃ J : ByteArray, J = ((⟨(List.replicate n (32 : UInt8)).toArray⟩ : ByteArray) ++ s) := ⟨_, rfl⟩
 have HJ := Lib.hid hJ
 have hjs : J.size = n + s.size := by rw [hJ]; exact join2_len n s
 have HPJ := Lib.hid (parse_blanks (n := n) (by have := HL.out; have := HN.out; omega) hp)
 rw [← join2, ← hJ] at HPJ
 have HJS : Hid (J.size ≤ 137438953472) := by show _ ≤ _; have := HL.out; have := HN.out; omega
 rw [if_pos rfl] at HPJ
 have HPW := Lib.hid (parse_wrap shr_read (n := n) (by have := HL.out; have := HN.out; omega) hp)
 rw [← wrapB_list] at HPW
 obtain ⟨V, hV⟩ : ∃ V : ByteArray, V = wrapB n s := ⟨_, rfl⟩
 rw [← hV] at HPW
 have hvs : V.size = n + s.size + 8 := by rw [hV]; exact wrapB_size n s
 have HV := Lib.hid hV
 have HVS : Hid (V.size ≤ 137438953472) := by show _ ≤ _; have := HL.out; have := HN.out; omega
 clear hpos hsl hjs hvs hV hJ hp
 go_enter Tryd.func4, Tryd.ntmps4
 go_wp2_with fail
 refine (sane_ok HG.out (T.out.mono (by omega))).mono ?_
 rintro e w1 ⟨rfl, hb⟩
 replace B := Lib.hid (be_call B.out hb)
 replace HG := Lib.hid (HG.out.keep hb)
 replace T := Lib.hid (T.out.keepG (hb.mono (by omega)))
 have z1_ := hb.size
 clear hb
 go_wp2_with fail
 refine (parse_any s (by have := HL.out; omega) HG.out).mono ?_
 rintro e w2 ⟨y_, q1, d1, p_, e_, rfl, hf, hb, hx⟩
 replace B := Lib.hid (be_call B.out hb)
 replace HG := Lib.hid (HG.out.keep hb)
 replace T := Lib.hid (T.out.keepG (hb.mono (by omega)))
 have z2_ := hb.size
 clear hb
 rw [HP.out] at hx
 obtain ⟨hy_, hp_, he_⟩ : x = y_ ∧ p = p_ ∧ 0 = e_ := by have h1 := congrArg Prod.fst hx; have h2 := congrArg Prod.snd hx; exact ⟨h1, congrArg Prod.fst h2, congrArg Prod.snd h2⟩
 clear hx
 subst hy_ hp_ he_
 have F1 := Lib.hid (hf.mono (fun _ _ => trivial) : FoT _ q1 d1 _); clear hf
 unfold hdC
 go_upto_region 5 with fail
 refine nmW (w2.alloc (.cells #[.int .i64 x.op, .int .i64 x.n, .string ⟨x.unit.toArray⟩, .string ⟨x.name.toArray⟩, .slice q1 x.args.len d1] 24)) fun w3 hv => ?_
 rw [← hv]
 have K1 : Hid (Bx w3 w2.heap.size 24 #[.int .i64 x.op, .int .i64 x.n, .string ⟨x.unit.toArray⟩, .string ⟨x.name.toArray⟩, .slice q1 x.args.len d1]) := by show Bx _ _ _ _; rw [hv]; exact bx1 w2 _ _
 have hb_ : Below w2.heap.size w2 w3 := by rw [hv]; exact below_alloc _ _
 clear hv
 have z3_ := K1.out.lt
 replace B := Lib.hid (be_call B.out hb_)
 replace HG := Lib.hid (HG.out.keep hb_)
 replace T := Lib.hid (T.out.keepG (hb_.mono (by omega)))
 replace F1 := Lib.hid (F1.out.keep hb_)
 have z4_ := hb_.size
 clear hb_
 have hk8 : IntKind.i64.wrap (n : Int) = (n : Int) := IntWalk.i64_in _ (by have := HN.out; omega)
 go_wp2_with fail
 refine (lblanks_ok n HN.out).mono ?_
 rintro e w4 ⟨rfl, hb⟩
 replace B := Lib.hid (be_call B.out hb)
 replace HG := Lib.hid (HG.out.keep hb)
 replace T := Lib.hid (T.out.keepG (hb.mono (by omega)))
 replace F1 := Lib.hid (F1.out.keep hb)
 replace K1 := Lib.hid (K1.out.keep hb)
 have z5_ := hb.size
 clear hb
 generalize hR : (⟨(List.replicate n (32 : UInt8)).toArray⟩ : ByteArray) = R
 have hrs : R.size = n := by rw [← hR]; exact rep_size n
 have hz1 : ¬ (9223372036854775807 : Nat) < R.size + s.size := by have := HL.out; have := HN.out; omega
 have hrj : R ++ s = J := by rw [← hR]; exact HJ.out.symm
 clear hR hrs
 go_wp2_with fail
 clear hrj hz1
 go_wp2_with fail
 refine (parse_any J HJS.out HG.out).mono ?_
 rintro e w5 ⟨y_, q2, d2, p_, e_, rfl, hf, hb, hx⟩
 replace B := Lib.hid (be_call B.out hb)
 replace HG := Lib.hid (HG.out.keep hb)
 replace T := Lib.hid (T.out.keepG (hb.mono (by omega)))
 replace F1 := Lib.hid (F1.out.keep hb)
 replace K1 := Lib.hid (K1.out.keep hb)
 have z6_ := hb.size
 clear hb
 rw [HPJ.out] at hx
 obtain ⟨hy_, hp_, he_⟩ : x = y_ ∧ 0 = p_ ∧ 0 = e_ := by have h1 := congrArg Prod.fst hx; have h2 := congrArg Prod.snd hx; exact ⟨h1, congrArg Prod.fst h2, congrArg Prod.snd h2⟩
 clear hx
 subst hy_ hp_ he_
 have F2 := Lib.hid (hf.mono (fun _ _ => trivial) : FoT _ q2 d2 _); clear hf
 unfold hdC
 go_upto_region 6 with fail
 refine nmW (w5.alloc (.cells #[.int .i64 x.op, .int .i64 x.n, .string ⟨x.unit.toArray⟩, .string ⟨x.name.toArray⟩, .slice q2 x.args.len d2] 24)) fun w6 hv => ?_
 rw [← hv]
 have K2 : Hid (Bx w6 w5.heap.size 24 #[.int .i64 x.op, .int .i64 x.n, .string ⟨x.unit.toArray⟩, .string ⟨x.name.toArray⟩, .slice q2 x.args.len d2]) := by show Bx _ _ _ _; rw [hv]; exact bx1 w5 _ _
 have hb_ : Below w5.heap.size w5 w6 := by rw [hv]; exact below_alloc _ _
 clear hv
 have z7_ := K2.out.lt
 replace B := Lib.hid (be_call B.out hb_)
 replace HG := Lib.hid (HG.out.keep hb_)
 replace T := Lib.hid (T.out.keepG (hb_.mono (by omega)))
 replace F1 := Lib.hid (F1.out.keep hb_)
 replace K1 := Lib.hid (K1.out.keep hb_)
 replace F2 := Lib.hid (F2.out.keep hb_)
 have z8_ := hb_.size
 clear hb_
 have HC := Lib.hid (few_ok (r := true) (x := x) (b := 250) (lv := 24) SX.out F1.out (by decide) (by decide) FX.out)
 rw [show ((250 : Nat) : Int) = 250 from rfl, show ((24 : Nat) : Int) = 24 from rfl] at HC
 unfold hdC at HC
 have pK1_0 := K1.out.at.1 0
 have pK1_1 := K1.out.at.1 1
 have pK1_2 := K1.out.at.1 2
 have pK1_3 := K1.out.at.1 3
 have pK1_4 := K1.out.at.1 4
 go_wp2_with fail
 clear pK1_0 pK1_1 pK1_2 pK1_3 pK1_4
 refine (HC.out).mono ?_
 rintro e w7 ⟨rfl, hb⟩
 clear HC
 replace B := Lib.hid (be_call B.out hb)
 replace HG := Lib.hid (HG.out.keep hb)
 replace T := Lib.hid (T.out.keepG (hb.mono (by omega)))
 replace F1 := Lib.hid (F1.out.keep hb)
 replace K1 := Lib.hid (K1.out.keep hb)
 replace F2 := Lib.hid (F2.out.keep hb)
 replace K2 := Lib.hid (K2.out.keep hb)
 have z9_ := hb.size
 clear hb
 have HC := Lib.hid (few_ok (r := true) (x := x) (b := 250) (lv := 24) SX.out F2.out (by decide) (by decide) FX.out)
 rw [show ((250 : Nat) : Int) = 250 from rfl, show ((24 : Nat) : Int) = 24 from rfl] at HC
 unfold hdC at HC
 have pK2_0 := K2.out.at.1 0
 have pK2_1 := K2.out.at.1 1
 have pK2_2 := K2.out.at.1 2
 have pK2_3 := K2.out.at.1 3
 have pK2_4 := K2.out.at.1 4
 go_wp2_with fail
 clear pK2_0 pK2_1 pK2_2 pK2_3 pK2_4
 refine (HC.out).mono ?_
 rintro e w8 ⟨rfl, hb⟩
 clear HC
 replace B := Lib.hid (be_call B.out hb)
 replace HG := Lib.hid (HG.out.keep hb)
 replace T := Lib.hid (T.out.keepG (hb.mono (by omega)))
 replace F1 := Lib.hid (F1.out.keep hb)
 replace K1 := Lib.hid (K1.out.keep hb)
 replace F2 := Lib.hid (F2.out.keep hb)
 replace K2 := Lib.hid (K2.out.keep hb)
 have z10_ := hb.size
 clear hb
 go_upto_region 10 with fail
 go_wp2_with fail
 refine (lblanks_ok n HN.out).mono ?_
 rintro e w9 ⟨rfl, hb⟩
 replace B := Lib.hid (be_call B.out hb)
 replace HG := Lib.hid (HG.out.keep hb)
 replace T := Lib.hid (T.out.keepG (hb.mono (by omega)))
 replace F1 := Lib.hid (F1.out.keep hb)
 replace K1 := Lib.hid (K1.out.keep hb)
 replace F2 := Lib.hid (F2.out.keep hb)
 replace K2 := Lib.hid (K2.out.keep hb)
 have z11_ := hb.size
 clear hb
 generalize hR : (⟨(List.replicate n (32 : UInt8)).toArray⟩ : ByteArray) = R
 have hrs : R.size = n := by rw [← hR]; exact rep_size n
 have hz0 : ¬ (9223372036854775807 : Nat) < R.size + 2 := by have := HL.out; have := HN.out; omega
 have hz1 : ¬ (9223372036854775807 : Nat) < R.size + 2 + s.size := by have := HL.out; have := HN.out; omega
 have hz2 : ¬ (9223372036854775807 : Nat) < R.size + 2 + s.size + 5 := by have := HL.out; have := HN.out; omega
 have hz3 : ¬ (9223372036854775807 : Nat) < R.size + 2 + s.size + 5 + 1 := by have := HL.out; have := HN.out; omega
 have hrj : R ++ ⟨#[40, 32]⟩ ++ s ++ ⟨#[10, 41, 32, 35, 32]⟩ ++ ⟨#[120]⟩ = V := by rw [← hR]; exact HV.out.symm
 clear hR hrs
 go_wp2_with fail
 clear hrj hz0 hz1 hz2 hz3
 go_wp2_with fail
 refine (parse_any V HVS.out HG.out).mono ?_
 rintro e w10 ⟨y_, q3, d3, p_, e_, rfl, hf, hb, hx⟩
 replace B := Lib.hid (be_call B.out hb)
 replace HG := Lib.hid (HG.out.keep hb)
 replace T := Lib.hid (T.out.keepG (hb.mono (by omega)))
 replace F1 := Lib.hid (F1.out.keep hb)
 replace K1 := Lib.hid (K1.out.keep hb)
 replace F2 := Lib.hid (F2.out.keep hb)
 replace K2 := Lib.hid (K2.out.keep hb)
 have z12_ := hb.size
 clear hb
 rw [HPW.out] at hx
 obtain ⟨hy_, hp_, he_⟩ : x = y_ ∧ 0 = p_ ∧ 0 = e_ := by have h1 := congrArg Prod.fst hx; have h2 := congrArg Prod.snd hx; exact ⟨h1, congrArg Prod.fst h2, congrArg Prod.snd h2⟩
 clear hx
 subst hy_ hp_ he_
 have F3 := Lib.hid (hf.mono (fun _ _ => trivial) : FoT _ q3 d3 _); clear hf
 unfold hdC
 go_upto_region 11 with fail
 refine nmW (w10.alloc (.cells #[.int .i64 x.op, .int .i64 x.n, .string ⟨x.unit.toArray⟩, .string ⟨x.name.toArray⟩, .slice q3 x.args.len d3] 24)) fun w11 hv => ?_
 rw [← hv]
 have K3 : Hid (Bx w11 w10.heap.size 24 #[.int .i64 x.op, .int .i64 x.n, .string ⟨x.unit.toArray⟩, .string ⟨x.name.toArray⟩, .slice q3 x.args.len d3]) := by show Bx _ _ _ _; rw [hv]; exact bx1 w10 _ _
 have hb_ : Below w10.heap.size w10 w11 := by rw [hv]; exact below_alloc _ _
 clear hv
 have z13_ := K3.out.lt
 replace B := Lib.hid (be_call B.out hb_)
 replace HG := Lib.hid (HG.out.keep hb_)
 replace T := Lib.hid (T.out.keepG (hb_.mono (by omega)))
 replace F1 := Lib.hid (F1.out.keep hb_)
 replace K1 := Lib.hid (K1.out.keep hb_)
 replace F2 := Lib.hid (F2.out.keep hb_)
 replace K2 := Lib.hid (K2.out.keep hb_)
 replace F3 := Lib.hid (F3.out.keep hb_)
 have z14_ := hb_.size
 clear hb_
 have HC := Lib.hid (few_ok (r := true) (x := x) (b := 250) (lv := 24) SX.out F3.out (by decide) (by decide) FX.out)
 rw [show ((250 : Nat) : Int) = 250 from rfl, show ((24 : Nat) : Int) = 24 from rfl] at HC
 unfold hdC at HC
 have pK3_0 := K3.out.at.1 0
 have pK3_1 := K3.out.at.1 1
 have pK3_2 := K3.out.at.1 2
 have pK3_3 := K3.out.at.1 3
 have pK3_4 := K3.out.at.1 4
 go_wp2_with fail
 clear pK3_0 pK3_1 pK3_2 pK3_3 pK3_4
 refine (HC.out).mono ?_
 rintro e w12 ⟨rfl, hb⟩
 clear HC
 replace B := Lib.hid (be_call B.out hb)
 replace HG := Lib.hid (HG.out.keep hb)
 replace T := Lib.hid (T.out.keepG (hb.mono (by omega)))
 replace F1 := Lib.hid (F1.out.keep hb)
 replace K1 := Lib.hid (K1.out.keep hb)
 replace F2 := Lib.hid (F2.out.keep hb)
 replace K2 := Lib.hid (K2.out.keep hb)
 replace F3 := Lib.hid (F3.out.keep hb)
 replace K3 := Lib.hid (K3.out.keep hb)
 have z15_ := hb.size
 clear hb
 have HC := Lib.hid (same_ok (x := x) (y := x) SX.out F1.out F2.out ((sameX_iff _ _).2 rfl))
 unfold hdC at HC
 have pK1_0 := K1.out.at.1 0
 have pK1_1 := K1.out.at.1 1
 have pK1_2 := K1.out.at.1 2
 have pK1_3 := K1.out.at.1 3
 have pK1_4 := K1.out.at.1 4
 have pK2_0 := K2.out.at.1 0
 have pK2_1 := K2.out.at.1 1
 have pK2_2 := K2.out.at.1 2
 have pK2_3 := K2.out.at.1 3
 have pK2_4 := K2.out.at.1 4
 go_wp2_with fail
 clear pK1_0 pK1_1 pK1_2 pK1_3 pK1_4 pK2_0 pK2_1 pK2_2 pK2_3 pK2_4
 refine (HC.out).mono ?_
 rintro e w13 ⟨rfl, hb⟩
 clear HC
 replace B := Lib.hid (be_call B.out hb)
 replace HG := Lib.hid (HG.out.keep hb)
 replace T := Lib.hid (T.out.keepG (hb.mono (by omega)))
 replace F1 := Lib.hid (F1.out.keep hb)
 replace K1 := Lib.hid (K1.out.keep hb)
 replace F2 := Lib.hid (F2.out.keep hb)
 replace K2 := Lib.hid (K2.out.keep hb)
 replace F3 := Lib.hid (F3.out.keep hb)
 replace K3 := Lib.hid (K3.out.keep hb)
 have z16_ := hb.size
 clear hb
 have HC := Lib.hid (same_ok (x := x) (y := x) SX.out F1.out F3.out ((sameX_iff _ _).2 rfl))
 unfold hdC at HC
 have pK1_0 := K1.out.at.1 0
 have pK1_1 := K1.out.at.1 1
 have pK1_2 := K1.out.at.1 2
 have pK1_3 := K1.out.at.1 3
 have pK1_4 := K1.out.at.1 4
 have pK3_0 := K3.out.at.1 0
 have pK3_1 := K3.out.at.1 1
 have pK3_2 := K3.out.at.1 2
 have pK3_3 := K3.out.at.1 3
 have pK3_4 := K3.out.at.1 4
 go_wp2_with fail
 clear pK1_0 pK1_1 pK1_2 pK1_3 pK1_4 pK3_0 pK3_1 pK3_2 pK3_3 pK3_4
 refine (HC.out).mono ?_
 rintro e w14 ⟨rfl, hb⟩
 clear HC
 replace B := Lib.hid (be_call B.out hb)
 replace HG := Lib.hid (HG.out.keep hb)
 replace T := Lib.hid (T.out.keepG (hb.mono (by omega)))
 replace F1 := Lib.hid (F1.out.keep hb)
 replace K1 := Lib.hid (K1.out.keep hb)
 replace F2 := Lib.hid (F2.out.keep hb)
 replace K2 := Lib.hid (K2.out.keep hb)
 replace F3 := Lib.hid (F3.out.keep hb)
 replace K3 := Lib.hid (K3.out.keep hb)
 have z17_ := hb.size
 clear hb
 go_wp2_with fail
 go_ret
 exact ⟨rfl, B.out⟩
theorem wraps_walk {w : World} (s : ByteArray) (n : Nat) (hn : n ≤ 255) (hm : s.size ≤ 9223372036854775807) (hsig : SignsIn w) (hT : PowT w.heap.size w) :
    Calls Tryd.prog 4 #[.string s, .int .u8 n] w fun e w' => e = .returned (.bool true) ∧ Below w.heap.size w w' := by
  by_cases hl : 1500 < s.size
  · exact wraps_long s n hn hm hsig hT hl
  · obtain ⟨r, hp⟩ : ∃ r, parseX s.data.toList = r := ⟨_, rfl⟩
    obtain ⟨x, p, e⟩ := r
    by_cases he : e = 0
    · subst he; exact wraps_ok s n hn hm hsig hT hl hp
    · exact wraps_bad s n hn hm hsig hT hl hp he
end Go.Proofs.YtckgmilmhofekaaDoor
