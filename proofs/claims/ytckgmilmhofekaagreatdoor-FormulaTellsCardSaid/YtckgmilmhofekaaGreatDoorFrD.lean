/- Walks: the reference reads an atom. -/
import Derived.Test.YtckgmilmhofekaaGreatDoorLexLaws
import Derived.Test.YtckgmilmhofekaaGreatDoorFoBack
import Derived.Test.YtckgmilmhofekaaGreatDoorBase
import Derived.Test.YtckgmilmhofekaaGreatDoorLexBytes
import Derived.Test.YtckgmilmhofekaaGreatDoorLexPrint
import Derived.Test.YtckgmilmhofekaaGreatDoorBigSpec
import Derived.Test.YtckgmilmhofekaaGreatDoorBigD
import Derived.Test.YtckgmilmhofekaaGreatDoorBigQ
import Derived.Test.YtckgmilmhofekaaGreatDoorFd
import Derived.Test.YtckgmilmhofekaaGreatDoorOwn
import Derived.Test.YtckgmilmhofekaaGreatDoorFoWd
import Derived.Test.YtckgmilmhofekaaGreatDoorFoOx
import Derived.Test.YtckgmilmhofekaaGreatDoorFoCn
import Derived.Test.YtckgmilmhofekaaGreatDoorFoWl
import Derived.Test.YtckgmilmhofekaaGreatDoorFoSz
import Derived.Test.YtckgmilmhofekaaGreatDoorFoRt
import Derived.Test.YtckgmilmhofekaaGreatDoorLexRaw
import Derived.Test.YtckgmilmhofekaaGreatDoorProg
import Derived.Test.YtckgmilmhofekaaGreatDoorShelf
import Derived.WalkKit
import Derived.Lib.ItoaNum
import Derived.WalkSpells
import Derived.WalkLawsBesides
import Derived.Handy
import Derived.Lib.Hide
import Derived.Lib.Strings
import Derived.Lib.Builder
import Derived.Shelf.Strings.Builder1
import Derived.BigQuiet
import Derived.OwnWalk
import Derived.Laws.BitsLemmas
import Derived.WalkSmall
import Derived.Deep.QuietTactic
import Derived.StillTailTactics
import Derived.Maps.AppendAt
import Derived.IntWalk
import Derived.Deep.RegionHeld3
import Derived.Deep.DeepFit
import Derived.Deep.LoopGhost
import Derived.Deep.DeepCutAuto
import Derived.Lib.Repeat
import Derived.Lib.AppendIntMem
import Derived.Sort.OwnSorted
import Derived.Shelf.Strings.SlTrimAscii
import Derived.Lib.ConvBytes
import Derived.Lib.CutLaws
import Derived.ArgAppend
namespace Go.Proofs.YtckgmilmhofekaaGreatDoor
open Go.RowKit

theorem ToksIn.tok {w : World} {p : Option Addr} {c : Nat} {ts : List Tok} (h : ToksIn w (.slice p ts.length c) ts) {k : Nat} (hk : k < ts.length) :
  ∃ b o, p = some ⟨b, o, none⟩ ∧ w.cell? ⟨b, o + k * 4, none⟩ = some (.int .i64 ts[k].kind) ∧ w.cell? ⟨b, o + k * 4 + 1, none⟩ = some (.string ⟨ts[k].text.toArray⟩) ∧ w.cell? ⟨b, o + k * 4 + 2, none⟩ = some (.int .i64 ts[k].n) ∧ w.cell? ⟨b, o + k * 4 + 3, none⟩ = some (.int .i64 ts[k].pos) := by
 obtain ⟨b, o, rfl, -, hc⟩ := h.at hk
 exact ⟨b, o, rfl, hc 0 _ rfl, hc 1 _ rfl, hc 2 _ rfl, hc 3 _ rfl⟩
set_option maxRecDepth 100000 in
set_option maxHeartbeats 4000000 in
theorem ris_ok {w : World} {p : Option Addr} {c : Nat} {ts : List Tok} (h : ToksIn w (.slice p ts.length c) ts) (k q : Nat) (s : ByteArray) {sl : Bytes} (hsl : s.toList = sl) :
    Calls Tryz.prog 96 #[.slice p ts.length c, .int .i64 k, .int .i64 q, .string s] w fun e w' => e = .returned (.bool (isT q sl (ts.drop k))) ∧ Below w.heap.size w w' := by
  subst hsl
  by_cases hk : k < ts.length
  · obtain ⟨b, o, rfl, c0, c1, -, -⟩ := h.tok hk
    rw [isT_at hk]
    generalize ts[k] = t at *
    have hI : ¬ (ts.length : Int) ≤ (k : Int) := by omega
    have hI0 : (0 : Int) ≤ (k : Int) := by omega
    have hI1 : (k : Int) < (ts.length : Int) := by omega
    obtain ⟨b1, h1⟩ : ∃ b, (t.kind == q) = b := ⟨_, rfl⟩
    obtain ⟨b2, h2⟩ : ∃ b, (t.text == s.toList) = b := ⟨_, rfl⟩
    have h1i : ((t.kind : Int) == (q : Int)) = b1 := by rw [nat_beq]; exact h1
    have h2i : ((⟨t.text.toArray⟩ : ByteArray).toList == s.toList) = b2 := by rw [Lib.toList_data]; exact h2
    obtain ⟨r, hr⟩ : ∃ r, (t.kind == q && t.text == s.toList) = r := ⟨_, rfl⟩
    have HR : Hid (r = (b1 && b2)) := by show _ = _; rw [← hr, h1, h2]
    rw [hr]
    clear h h1 hr
    go_enter Tryz.func96, Tryz.ntmps96
    cases b1 with
    | false =>
      go_wp2_with fail
      go_ret
      exact ⟨by rw [HR.out]; rfl, Below.refl _ _⟩
    | true =>
      go_wp2_with fail
      go_ret
      exact ⟨by rw [HR.out]; cases b2 <;> rfl, Below.refl _ _⟩
  · rw [isT_end (by omega)]
    have hI : (ts.length : Int) ≤ (k : Int) := by omega
    clear h
    go_enter Tryz.func96, Tryz.ntmps96
    go_wp2_with fail
    go_ret
    exact ⟨rfl, Below.refl _ _⟩
theorem rsign_ok {w : World} {p : Option Addr} {c : Nat} {ts : List Tok} (h : ToksIn w (.slice p ts.length c) ts) (k : Nat) (s : ByteArray) {sl : Bytes} (hsl : s.toList = sl) {b : Bool} (hb : isT 3 sl (ts.drop k) = b) :
  Calls Tryz.prog 97 #[.slice p ts.length c, .int .i64 k, .string s] w fun e w' => e = .returned (.bool b) ∧ Below w.heap.size w w' := by
 subst hb
 have H := Lib.hid h; clear h
 go_enter Tryz.func97, Tryz.ntmps97
 go_wp2_with fail
 refine (ris_ok H.out k 3 s hsl).mono ?_
 rintro e w1 ⟨rfl, hb⟩
 go_wp2_with fail
 go_ret
 exact ⟨rfl, hb⟩
theorem rword_ok {w : World} {p : Option Addr} {c : Nat} {ts : List Tok} (h : ToksIn w (.slice p ts.length c) ts) (k : Nat) (s : ByteArray) {sl : Bytes} (hsl : s.toList = sl) {b : Bool} (hb : isT 0 sl (ts.drop k) = b) :
  Calls Tryz.prog 67 #[.slice p ts.length c, .int .i64 k, .string s] w fun e w' => e = .returned (.bool b) ∧ Below w.heap.size w w' := by
 subst hb
 have H := Lib.hid h; clear h
 go_enter Tryz.func67, Tryz.ntmps67
 go_wp2_with fail
 refine (ris_ok H.out k 0 s hsl).mono ?_
 rintro e w1 ⟨rfl, hb⟩
 go_wp2_with fail
 go_ret
 exact ⟨rfl, hb⟩
def wordsC : Array Value := #[.string ⟨#[110, 111, 116]⟩, .string ⟨#[105, 102]⟩, .string ⟨#[116, 104, 101, 110]⟩, .string ⟨#[101, 108, 115, 101]⟩, .string ⟨#[97, 110, 100]⟩, .string ⟨#[111, 114]⟩, .string ⟨#[108, 111, 111, 107]⟩, .string ⟨#[109, 105, 110]⟩, .string ⟨#[109, 97, 120]⟩, .string ⟨#[105, 110, 116, 111]⟩, .string ⟨#[116, 111]⟩, .string ⟨#[97, 115]⟩]
theorem wordsC_at {j : Nat} (h : j < 12) : wordsC[j]? = some (.string ⟨(wordsL.getD j []).toArray⟩) := by
 match j, h with
 | 0, _ | 1, _ | 2, _ | 3, _ | 4, _ | 5, _ | 6, _ | 7, _ | 8, _ | 9, _ | 10, _ | 11, _ => rfl
 | j + 12, h => omega
theorem word_at {j : Nat} (h : j < 12) {s : Bytes} (hs : s = wordsL.getD j []) : wordB s = true := by
 subst hs
 match j, h with
 | 0, _ | 1, _ | 2, _ | 3, _ | 4, _ | 5, _ | 6, _ | 7, _ | 8, _ | 9, _ | 10, _ | 11, _ => decide
 | j + 12, h => omega
theorem word_none {s : Bytes} (h : ∀ j, j < 12 → s ≠ wordsL.getD j []) : wordB s = false := by
 unfold wordB
 cases hq : wordsL.contains s with
 | false => rfl
 | true =>
  have hm := List.contains_iff_mem.1 hq
  obtain ⟨j, hj, he⟩ := List.getElem_of_mem hm
  have hj : j < 12 := hj
  exact absurd (by rw [← he, List.getD_eq_getElem?_getD, List.getElem?_eq_getElem (show j < wordsL.length from hj)]; rfl) (h j hj)
set_option maxRecDepth 100000 in
set_option maxHeartbeats 4000000 in
theorem rWord_ok {w : World} (s : ByteArray) {b : Bool} (hb : wordB s.toList = b) :
    Calls Tryz.prog 20 #[.string s] w fun e w' => e = .returned (.bool b) ∧ Below w.heap.size w w' := by
  have HB := Lib.hid hb; clear hb
  go_enter Tryz.func20, Tryz.ntmps20
  go_upto_region 2 with fail
  refine nmW (w.alloc (.cells wordsC 9)) fun w1 hv => ?_
  have hv2 := hv
  unfold wordsC at hv2
  rw [← hv2]
  have K := bxh hv
  have B : Hid (Below w.heap.size w w1) := by show Below _ _ _; rw [hv]; exact below_alloc _ _
  clear hv hv2
  go_wp2_with fail
  go_loopw [4] (fun i wr => ∃ j : Nat, i = .int .i64 j ∧ j ≤ 12 ∧ Hid (∀ i, i < j → s.toList ≠ wordsL.getD i []) ∧ Hid (Bx wr w.heap.size 9 wordsC) ∧ Hid (Below w.heap.size w wr)) (fun i _ => 12 - (intOf i).toNat)
  case atStart => exact ⟨0, rfl, by omega, fun i hi => (by omega), K, B⟩
  case round =>
    clear K B
    obtain ⟨j, rfl, hj, HJ, K, B⟩ := hrel
    by_cases hlt : j < 12
    · have hI : (j : Int) < 12 := by omega
      have hI0 : (0 : Int) ≤ (j : Int) := by omega
      have pS : wr.cell? ⟨w.heap.size, j, none⟩ = some (.string ⟨(wordsL.getD j []).toArray⟩) := by rw [K.out.at.1, wordsC_at hlt]
      obtain ⟨b1, h1⟩ : ∃ b, (wordsL.getD j [] == s.toList) = b := ⟨_, rfl⟩
      have h1i : ((⟨(wordsL.getD j []).toArray⟩ : ByteArray).toList == s.toList) = b1 := by rw [Lib.toList_data]; exact h1
      have H1 := Lib.hid h1; have HLT := Lib.hid hlt
      clear h1
      have h1j : (wordsL.getD j [] == s.toList) = b1 := H1.out
      generalize wordsL.getD j [] = x at pS h1i h1j
      cases b1 with
      | true =>
        go_wp2_with fail
        go_ret
        exact ⟨by rw [← HB.out, word_at HLT.out (eq_of_beq H1.out).symm]; rfl, B.out⟩
      | false =>
        go_wp2_with fail
        go_roundw
        case rel => exact ⟨j + 1, by go_num, HLT.out, fun i hi => (by
          rcases Nat.lt_or_ge i j with h | h
          · exact HJ.out i h
          · obtain rfl : i = j := by omega
            exact fun e => (beq_eq_false_iff_ne.1 H1.out) e.symm), K, B⟩
        case measure => have := HLT.out; simp [intOf]; omega
    · have hI : ¬ (j : Int) < 12 := by omega
      obtain rfl : j = 12 := by omega
      go_wp2_with fail
      go_ret
      exact ⟨by rw [← HB.out, word_none HJ.out]; rfl, B.out⟩
/-- A NAME is there. -/
def namedT : List Tok → Bool
 | [] => false
 | t :: _ => (t.kind == 0) && !wordB t.text
set_option maxRecDepth 100000 in
set_option maxHeartbeats 4000000 in
theorem rNamed_ok {w : World} {p : Option Addr} {c : Nat} {ts : List Tok} (h : ToksIn w (.slice p ts.length c) ts) (k : Nat) {b : Bool} (hb : namedT (ts.drop k) = b) :
    Calls Tryz.prog 101 #[.slice p ts.length c, .int .i64 k] w fun e w' => e = .returned (.bool b) ∧ Below w.heap.size w w' := by
  by_cases hk : k < ts.length
  · obtain ⟨b', o, rfl, c0, c1, -, -⟩ := h.tok hk
    rw [drop_tok hk] at hb
    have hb : ((ts[k].kind == 0) && !wordB ts[k].text) = b := hb
    generalize ts[k] = t at *
    have hI : ¬ (ts.length : Int) ≤ (k : Int) := by omega
    have hI0 : (0 : Int) ≤ (k : Int) := by omega
    have hI1 : (k : Int) < (ts.length : Int) := by omega
    obtain ⟨b1, h1⟩ : ∃ b, (t.kind == 0) = b := ⟨_, rfl⟩
    obtain ⟨b2, h2⟩ : ∃ b, wordB t.text = b := ⟨_, rfl⟩
    have h1i : ((t.kind : Int) == (0 : Int)) = b1 := by rw [← h1]; exact nat_beq t.kind 0
    have HR : Hid (b = (b1 && !b2)) := by show _ = _; rw [← hb, h1, h2]
    have H2 := Lib.hid h2
    clear h h1 h2 hb
    go_enter Tryz.func101, Tryz.ntmps101
    cases b1 with
    | false =>
      go_wp2_with fail
      go_ret
      exact ⟨by rw [HR.out]; rfl, Below.refl _ _⟩
    | true =>
      go_wp2_with fail
      refine (rWord_ok ⟨t.text.toArray⟩ (b := b2) (by rw [Lib.toList_data]; exact H2.out)).mono ?_
      rintro e w1 ⟨rfl, hbl⟩
      go_wp2_with fail
      go_ret
      exact ⟨by rw [HR.out]; cases b2 <;> rfl, hbl⟩
  · rw [List.drop_eq_nil_of_le (by omega)] at hb
    subst hb
    have hI : (ts.length : Int) ≤ (k : Int) := by omega
    clear h
    go_enter Tryz.func101, Tryz.ntmps101
    go_wp2_with fail
    go_ret
    exact ⟨rfl, Below.refl _ _⟩
end Go.Proofs.YtckgmilmhofekaaGreatDoor
namespace Go.Proofs.YtckgmilmhofekaaGreatDoor
open Go.RowKit

/-- A token as a value. -/
def tkV (t : Tok) : Value := .agg (tokCells t).toArray
theorem tkV_is (t : Tok) : tkV t = .agg #[.int .i64 t.kind, .string ⟨t.text.toArray⟩, .int .i64 t.n, .int .i64 t.pos] := rfl
set_option maxRecDepth 100000 in
set_option maxHeartbeats 4000000 in
theorem rSgn_ok {w : World} (s : ByteArray) {sl : Bytes} (hs : s.toList = sl) :
  Calls Tryz.prog 49 #[.string s] w fun e w' => e = .returned (tkV (tkS sl)) ∧ Below w.heap.size w w' := by
 subst hs
 have hv_ : tkV (tkS s.toList) = .agg #[.int .i64 3, .string s, .int .i64 0, .int .i64 0] := by rw [tkV_is, Lib.toList_data]; simp [tkS]
 rw [hv_]
 clear hv_
 have B : Hid (Below w.heap.size w w) := be_refl w
 go_enter Tryz.func49, Tryz.ntmps49
 go_upto_region 1 with fail
 refine nmW (w.alloc (.cells #[.int .i64 0, .string ⟨#[]⟩, .int .i64 0, .int .i64 0] 55)) fun w1 hv => ?_
 rw [← hv]
 have K := bxh hv
 have hb_ := bah hv
 clear hv
 have z1_ := K.out.lt
 replace B := Lib.hid (be_call B.out hb_)
 have z2_ := hb_.size
 clear hb_
 refine K.out.e4 fun pK_0 qK_0 pK_1 qK_1 pK_2 qK_2 pK_3 qK_3 => ?_
 go_wp2_with fail
 clear pK_0 qK_0 pK_1 qK_1 pK_2 qK_2 pK_3 qK_3
 refine nmW ((((w1.setCell ⟨w.heap.size, 0, none⟩ (.int .i64 3)).setCell ⟨w.heap.size, 1, none⟩ (.string s)).setCell ⟨w.heap.size, 2, none⟩ (.int .i64 0)).setCell ⟨w.heap.size, 3, none⟩ (.int .i64 0)) fun w2 hv => ?_
 rw [← hv]
 have og_ : w1.grownBy w2 (some w.heap.size) := by rw [hv]; exact gs4
 have kb_ : Bx w2 w.heap.size 55 #[.int .i64 3, .string s, .int .i64 0, .int .i64 0] := by rw [hv]; exact ((((K.out.set 0 _).set 1 _).set 2 _).set 3 _)
 clear hv
 replace B := Lib.hid (B.out.trans (gr_to og_ (by omega) B.out.size))
 replace K := Lib.hid kb_
 have z3_ := og_.size
 clear og_ kb_
 refine bodyPost_ret (results_box1 rfl _ _ w.heap.size 55 _ _ _ rfl K.out Tryz.underlying55 rfl (by kernel_rfl)) rfl ?_
 exact ⟨rfl, B.out⟩
set_option maxRecDepth 100000 in
set_option maxHeartbeats 4000000 in
theorem rNme_ok {w : World} (s : ByteArray) {sl : Bytes} (hs : s.toList = sl) :
  Calls Tryz.prog 47 #[.string s] w fun e w' => e = .returned (tkV (tkN sl)) ∧ Below w.heap.size w w' := by
 subst hs
 have hv_ : tkV (tkN s.toList) = .agg #[.int .i64 0, .string s, .int .i64 0, .int .i64 0] := by rw [tkV_is, Lib.toList_data]; simp [tkN]
 rw [hv_]
 clear hv_
 have B : Hid (Below w.heap.size w w) := be_refl w
 go_enter Tryz.func47, Tryz.ntmps47
 go_upto_region 1 with fail
 refine nmW (w.alloc (.cells #[.int .i64 0, .string ⟨#[]⟩, .int .i64 0, .int .i64 0] 55)) fun w1 hv => ?_
 rw [← hv]
 have K := bxh hv
 have hb_ := bah hv
 clear hv
 have z1_ := K.out.lt
 replace B := Lib.hid (be_call B.out hb_)
 have z2_ := hb_.size
 clear hb_
 refine K.out.e4 fun pK_0 qK_0 pK_1 qK_1 pK_2 qK_2 pK_3 qK_3 => ?_
 go_wp2_with fail
 clear pK_0 qK_0 pK_1 qK_1 pK_2 qK_2 pK_3 qK_3
 refine nmW ((((w1.setCell ⟨w.heap.size, 0, none⟩ (.int .i64 0)).setCell ⟨w.heap.size, 1, none⟩ (.string s)).setCell ⟨w.heap.size, 2, none⟩ (.int .i64 0)).setCell ⟨w.heap.size, 3, none⟩ (.int .i64 0)) fun w2 hv => ?_
 rw [← hv]
 have og_ : w1.grownBy w2 (some w.heap.size) := by rw [hv]; exact gs4
 have kb_ : Bx w2 w.heap.size 55 #[.int .i64 0, .string s, .int .i64 0, .int .i64 0] := by rw [hv]; exact ((((K.out.set 0 _).set 1 _).set 2 _).set 3 _)
 clear hv
 replace B := Lib.hid (B.out.trans (gr_to og_ (by omega) B.out.size))
 replace K := Lib.hid kb_
 have z3_ := og_.size
 clear og_ kb_
 refine bodyPost_ret (results_box1 rfl _ _ w.heap.size 55 _ _ _ rfl K.out Tryz.underlying55 rfl (by kernel_rfl)) rfl ?_
 exact ⟨rfl, B.out⟩
/-- An operator's token, if it is one. -/
def opTok (op : Int) : Tok := if (opName op).isSome = true then tkO op else ⟨0, [], 0, 0⟩
def opRV (op : Int) : Value := .tuple #[tkV (opTok op), .bool (opName op).isSome]
set_option maxRecDepth 100000 in
set_option maxHeartbeats 4000000 in
theorem rOperator_ok {w : World} (op : Int) :
    Calls Tryz.prog 51 #[.int .i64 op] w fun e w' => e = .returned (opRV op) ∧ Below w.heap.size w w' := by
  have B : Hid (Below w.heap.size w w) := be_refl w
  by_cases h6 : op = 6
  · subst h6
    go_enter Tryz.func51, Tryz.ntmps51
    go_upto_region 1 with fail
    refine nmW (w.alloc (.cells #[.int .i64 0, .string ⟨#[]⟩, .int .i64 0, .int .i64 0] 55)) fun w1 hv => ?_
    rw [← hv]
    have K := bxh hv
    have hb_ := bah hv
    clear hv
    have z1_ := K.out.lt
    replace B := Lib.hid (be_call B.out hb_)
    have z2_ := hb_.size
    clear hb_
    go_wp2_with fail
    refine (rSgn_ok ⟨#[43]⟩ (sl := [43]) (by rw [Lib.toList_data])).mono ?_
    rintro e w2 ⟨rfl, hb⟩
    replace B := Lib.hid (be_call B.out hb)
    replace K := Lib.hid (K.out.keep hb)
    have z3_ := hb.size
    clear hb
    rw [show tkV (tkS [43]) = .agg #[.int .i64 3, .string ⟨#[43]⟩, .int .i64 0, .int .i64 0] from rfl]
    refine K.out.e4 fun pK_0 qK_0 pK_1 qK_1 pK_2 qK_2 pK_3 qK_3 => ?_
    go_wp2_with fail
    clear pK_0 qK_0 pK_1 qK_1 pK_2 qK_2 pK_3 qK_3
    refine nmW ((((w2.setCell ⟨w.heap.size, 0, none⟩ (.int .i64 3)).setCell ⟨w.heap.size, 1, none⟩ (.string ⟨#[43]⟩)).setCell ⟨w.heap.size, 2, none⟩ (.int .i64 0)).setCell ⟨w.heap.size, 3, none⟩ (.int .i64 0)) fun w3 hv => ?_
    rw [← hv]
    have og_ : w2.grownBy w3 (some w.heap.size) := by rw [hv]; exact gs4
    have kb_ : Bx w3 w.heap.size 55 #[.int .i64 3, .string ⟨#[43]⟩, .int .i64 0, .int .i64 0] := by rw [hv]; exact ((((K.out.set 0 _).set 1 _).set 2 _).set 3 _)
    clear hv
    replace B := Lib.hid (B.out.trans (gr_to og_ (by omega) B.out.size))
    replace K := Lib.hid kb_
    have z4_ := og_.size
    clear og_ kb_
    refine bodyPost_ret (results_box2 rfl _ _ w.heap.size 55 _ _ _ rfl K.out Tryz.underlying55 rfl (by kernel_rfl)) rfl ?_
    exact ⟨rfl, B.out⟩
  by_cases h7 : op = 7
  · subst h7
    clear h6
    go_enter Tryz.func51, Tryz.ntmps51
    go_upto_region 1 with fail
    refine nmW (w.alloc (.cells #[.int .i64 0, .string ⟨#[]⟩, .int .i64 0, .int .i64 0] 55)) fun w4 hv => ?_
    rw [← hv]
    have K := bxh hv
    have hb_ := bah hv
    clear hv
    have z5_ := K.out.lt
    replace B := Lib.hid (be_call B.out hb_)
    have z6_ := hb_.size
    clear hb_
    go_wp2_with fail
    refine (rSgn_ok ⟨#[45]⟩ (sl := [45]) (by rw [Lib.toList_data])).mono ?_
    rintro e w5 ⟨rfl, hb⟩
    replace B := Lib.hid (be_call B.out hb)
    replace K := Lib.hid (K.out.keep hb)
    have z7_ := hb.size
    clear hb
    rw [show tkV (tkS [45]) = .agg #[.int .i64 3, .string ⟨#[45]⟩, .int .i64 0, .int .i64 0] from rfl]
    refine K.out.e4 fun pK_0 qK_0 pK_1 qK_1 pK_2 qK_2 pK_3 qK_3 => ?_
    go_wp2_with fail
    clear pK_0 qK_0 pK_1 qK_1 pK_2 qK_2 pK_3 qK_3
    refine nmW ((((w5.setCell ⟨w.heap.size, 0, none⟩ (.int .i64 3)).setCell ⟨w.heap.size, 1, none⟩ (.string ⟨#[45]⟩)).setCell ⟨w.heap.size, 2, none⟩ (.int .i64 0)).setCell ⟨w.heap.size, 3, none⟩ (.int .i64 0)) fun w6 hv => ?_
    rw [← hv]
    have og_ : w5.grownBy w6 (some w.heap.size) := by rw [hv]; exact gs4
    have kb_ : Bx w6 w.heap.size 55 #[.int .i64 3, .string ⟨#[45]⟩, .int .i64 0, .int .i64 0] := by rw [hv]; exact ((((K.out.set 0 _).set 1 _).set 2 _).set 3 _)
    clear hv
    replace B := Lib.hid (B.out.trans (gr_to og_ (by omega) B.out.size))
    replace K := Lib.hid kb_
    have z8_ := og_.size
    clear og_ kb_
    refine bodyPost_ret (results_box2 rfl _ _ w.heap.size 55 _ _ _ rfl K.out Tryz.underlying55 rfl (by kernel_rfl)) rfl ?_
    exact ⟨rfl, B.out⟩
  by_cases h8 : op = 8
  · subst h8
    clear h6
    clear h7
    go_enter Tryz.func51, Tryz.ntmps51
    go_upto_region 1 with fail
    refine nmW (w.alloc (.cells #[.int .i64 0, .string ⟨#[]⟩, .int .i64 0, .int .i64 0] 55)) fun w7 hv => ?_
    rw [← hv]
    have K := bxh hv
    have hb_ := bah hv
    clear hv
    have z9_ := K.out.lt
    replace B := Lib.hid (be_call B.out hb_)
    have z10_ := hb_.size
    clear hb_
    go_wp2_with fail
    refine (rSgn_ok ⟨#[42]⟩ (sl := [42]) (by rw [Lib.toList_data])).mono ?_
    rintro e w8 ⟨rfl, hb⟩
    replace B := Lib.hid (be_call B.out hb)
    replace K := Lib.hid (K.out.keep hb)
    have z11_ := hb.size
    clear hb
    rw [show tkV (tkS [42]) = .agg #[.int .i64 3, .string ⟨#[42]⟩, .int .i64 0, .int .i64 0] from rfl]
    refine K.out.e4 fun pK_0 qK_0 pK_1 qK_1 pK_2 qK_2 pK_3 qK_3 => ?_
    go_wp2_with fail
    clear pK_0 qK_0 pK_1 qK_1 pK_2 qK_2 pK_3 qK_3
    refine nmW ((((w8.setCell ⟨w.heap.size, 0, none⟩ (.int .i64 3)).setCell ⟨w.heap.size, 1, none⟩ (.string ⟨#[42]⟩)).setCell ⟨w.heap.size, 2, none⟩ (.int .i64 0)).setCell ⟨w.heap.size, 3, none⟩ (.int .i64 0)) fun w9 hv => ?_
    rw [← hv]
    have og_ : w8.grownBy w9 (some w.heap.size) := by rw [hv]; exact gs4
    have kb_ : Bx w9 w.heap.size 55 #[.int .i64 3, .string ⟨#[42]⟩, .int .i64 0, .int .i64 0] := by rw [hv]; exact ((((K.out.set 0 _).set 1 _).set 2 _).set 3 _)
    clear hv
    replace B := Lib.hid (B.out.trans (gr_to og_ (by omega) B.out.size))
    replace K := Lib.hid kb_
    have z12_ := og_.size
    clear og_ kb_
    refine bodyPost_ret (results_box2 rfl _ _ w.heap.size 55 _ _ _ rfl K.out Tryz.underlying55 rfl (by kernel_rfl)) rfl ?_
    exact ⟨rfl, B.out⟩
  by_cases h9 : op = 9
  · subst h9
    clear h6
    clear h7
    clear h8
    go_enter Tryz.func51, Tryz.ntmps51
    go_upto_region 1 with fail
    refine nmW (w.alloc (.cells #[.int .i64 0, .string ⟨#[]⟩, .int .i64 0, .int .i64 0] 55)) fun w10 hv => ?_
    rw [← hv]
    have K := bxh hv
    have hb_ := bah hv
    clear hv
    have z13_ := K.out.lt
    replace B := Lib.hid (be_call B.out hb_)
    have z14_ := hb_.size
    clear hb_
    go_wp2_with fail
    refine (rSgn_ok ⟨#[47]⟩ (sl := [47]) (by rw [Lib.toList_data])).mono ?_
    rintro e w11 ⟨rfl, hb⟩
    replace B := Lib.hid (be_call B.out hb)
    replace K := Lib.hid (K.out.keep hb)
    have z15_ := hb.size
    clear hb
    rw [show tkV (tkS [47]) = .agg #[.int .i64 3, .string ⟨#[47]⟩, .int .i64 0, .int .i64 0] from rfl]
    refine K.out.e4 fun pK_0 qK_0 pK_1 qK_1 pK_2 qK_2 pK_3 qK_3 => ?_
    go_wp2_with fail
    clear pK_0 qK_0 pK_1 qK_1 pK_2 qK_2 pK_3 qK_3
    refine nmW ((((w11.setCell ⟨w.heap.size, 0, none⟩ (.int .i64 3)).setCell ⟨w.heap.size, 1, none⟩ (.string ⟨#[47]⟩)).setCell ⟨w.heap.size, 2, none⟩ (.int .i64 0)).setCell ⟨w.heap.size, 3, none⟩ (.int .i64 0)) fun w12 hv => ?_
    rw [← hv]
    have og_ : w11.grownBy w12 (some w.heap.size) := by rw [hv]; exact gs4
    have kb_ : Bx w12 w.heap.size 55 #[.int .i64 3, .string ⟨#[47]⟩, .int .i64 0, .int .i64 0] := by rw [hv]; exact ((((K.out.set 0 _).set 1 _).set 2 _).set 3 _)
    clear hv
    replace B := Lib.hid (B.out.trans (gr_to og_ (by omega) B.out.size))
    replace K := Lib.hid kb_
    have z16_ := og_.size
    clear og_ kb_
    refine bodyPost_ret (results_box2 rfl _ _ w.heap.size 55 _ _ _ rfl K.out Tryz.underlying55 rfl (by kernel_rfl)) rfl ?_
    exact ⟨rfl, B.out⟩
  by_cases h12 : op = 12
  · subst h12
    clear h6
    clear h7
    clear h8
    clear h9
    go_enter Tryz.func51, Tryz.ntmps51
    go_upto_region 1 with fail
    refine nmW (w.alloc (.cells #[.int .i64 0, .string ⟨#[]⟩, .int .i64 0, .int .i64 0] 55)) fun w13 hv => ?_
    rw [← hv]
    have K := bxh hv
    have hb_ := bah hv
    clear hv
    have z17_ := K.out.lt
    replace B := Lib.hid (be_call B.out hb_)
    have z18_ := hb_.size
    clear hb_
    go_wp2_with fail
    refine (rSgn_ok ⟨#[60]⟩ (sl := [60]) (by rw [Lib.toList_data])).mono ?_
    rintro e w14 ⟨rfl, hb⟩
    replace B := Lib.hid (be_call B.out hb)
    replace K := Lib.hid (K.out.keep hb)
    have z19_ := hb.size
    clear hb
    rw [show tkV (tkS [60]) = .agg #[.int .i64 3, .string ⟨#[60]⟩, .int .i64 0, .int .i64 0] from rfl]
    refine K.out.e4 fun pK_0 qK_0 pK_1 qK_1 pK_2 qK_2 pK_3 qK_3 => ?_
    go_wp2_with fail
    clear pK_0 qK_0 pK_1 qK_1 pK_2 qK_2 pK_3 qK_3
    refine nmW ((((w14.setCell ⟨w.heap.size, 0, none⟩ (.int .i64 3)).setCell ⟨w.heap.size, 1, none⟩ (.string ⟨#[60]⟩)).setCell ⟨w.heap.size, 2, none⟩ (.int .i64 0)).setCell ⟨w.heap.size, 3, none⟩ (.int .i64 0)) fun w15 hv => ?_
    rw [← hv]
    have og_ : w14.grownBy w15 (some w.heap.size) := by rw [hv]; exact gs4
    have kb_ : Bx w15 w.heap.size 55 #[.int .i64 3, .string ⟨#[60]⟩, .int .i64 0, .int .i64 0] := by rw [hv]; exact ((((K.out.set 0 _).set 1 _).set 2 _).set 3 _)
    clear hv
    replace B := Lib.hid (B.out.trans (gr_to og_ (by omega) B.out.size))
    replace K := Lib.hid kb_
    have z20_ := og_.size
    clear og_ kb_
    refine bodyPost_ret (results_box2 rfl _ _ w.heap.size 55 _ _ _ rfl K.out Tryz.underlying55 rfl (by kernel_rfl)) rfl ?_
    exact ⟨rfl, B.out⟩
  by_cases h13 : op = 13
  · subst h13
    clear h6
    clear h7
    clear h8
    clear h9
    clear h12
    go_enter Tryz.func51, Tryz.ntmps51
    go_upto_region 1 with fail
    refine nmW (w.alloc (.cells #[.int .i64 0, .string ⟨#[]⟩, .int .i64 0, .int .i64 0] 55)) fun w16 hv => ?_
    rw [← hv]
    have K := bxh hv
    have hb_ := bah hv
    clear hv
    have z21_ := K.out.lt
    replace B := Lib.hid (be_call B.out hb_)
    have z22_ := hb_.size
    clear hb_
    go_wp2_with fail
    refine (rSgn_ok ⟨#[61]⟩ (sl := [61]) (by rw [Lib.toList_data])).mono ?_
    rintro e w17 ⟨rfl, hb⟩
    replace B := Lib.hid (be_call B.out hb)
    replace K := Lib.hid (K.out.keep hb)
    have z23_ := hb.size
    clear hb
    rw [show tkV (tkS [61]) = .agg #[.int .i64 3, .string ⟨#[61]⟩, .int .i64 0, .int .i64 0] from rfl]
    refine K.out.e4 fun pK_0 qK_0 pK_1 qK_1 pK_2 qK_2 pK_3 qK_3 => ?_
    go_wp2_with fail
    clear pK_0 qK_0 pK_1 qK_1 pK_2 qK_2 pK_3 qK_3
    refine nmW ((((w17.setCell ⟨w.heap.size, 0, none⟩ (.int .i64 3)).setCell ⟨w.heap.size, 1, none⟩ (.string ⟨#[61]⟩)).setCell ⟨w.heap.size, 2, none⟩ (.int .i64 0)).setCell ⟨w.heap.size, 3, none⟩ (.int .i64 0)) fun w18 hv => ?_
    rw [← hv]
    have og_ : w17.grownBy w18 (some w.heap.size) := by rw [hv]; exact gs4
    have kb_ : Bx w18 w.heap.size 55 #[.int .i64 3, .string ⟨#[61]⟩, .int .i64 0, .int .i64 0] := by rw [hv]; exact ((((K.out.set 0 _).set 1 _).set 2 _).set 3 _)
    clear hv
    replace B := Lib.hid (B.out.trans (gr_to og_ (by omega) B.out.size))
    replace K := Lib.hid kb_
    have z24_ := og_.size
    clear og_ kb_
    refine bodyPost_ret (results_box2 rfl _ _ w.heap.size 55 _ _ _ rfl K.out Tryz.underlying55 rfl (by kernel_rfl)) rfl ?_
    exact ⟨rfl, B.out⟩
  by_cases h14 : op = 14
  · subst h14
    clear h6
    clear h7
    clear h8
    clear h9
    clear h12
    clear h13
    go_enter Tryz.func51, Tryz.ntmps51
    go_upto_region 1 with fail
    refine nmW (w.alloc (.cells #[.int .i64 0, .string ⟨#[]⟩, .int .i64 0, .int .i64 0] 55)) fun w19 hv => ?_
    rw [← hv]
    have K := bxh hv
    have hb_ := bah hv
    clear hv
    have z25_ := K.out.lt
    replace B := Lib.hid (be_call B.out hb_)
    have z26_ := hb_.size
    clear hb_
    go_wp2_with fail
    refine (rNme_ok ⟨#[97, 110, 100]⟩ (sl := [97, 110, 100]) (by rw [Lib.toList_data])).mono ?_
    rintro e w20 ⟨rfl, hb⟩
    replace B := Lib.hid (be_call B.out hb)
    replace K := Lib.hid (K.out.keep hb)
    have z27_ := hb.size
    clear hb
    rw [show tkV (tkN [97, 110, 100]) = .agg #[.int .i64 0, .string ⟨#[97, 110, 100]⟩, .int .i64 0, .int .i64 0] from rfl]
    refine K.out.e4 fun pK_0 qK_0 pK_1 qK_1 pK_2 qK_2 pK_3 qK_3 => ?_
    go_wp2_with fail
    clear pK_0 qK_0 pK_1 qK_1 pK_2 qK_2 pK_3 qK_3
    refine nmW ((((w20.setCell ⟨w.heap.size, 0, none⟩ (.int .i64 0)).setCell ⟨w.heap.size, 1, none⟩ (.string ⟨#[97, 110, 100]⟩)).setCell ⟨w.heap.size, 2, none⟩ (.int .i64 0)).setCell ⟨w.heap.size, 3, none⟩ (.int .i64 0)) fun w21 hv => ?_
    rw [← hv]
    have og_ : w20.grownBy w21 (some w.heap.size) := by rw [hv]; exact gs4
    have kb_ : Bx w21 w.heap.size 55 #[.int .i64 0, .string ⟨#[97, 110, 100]⟩, .int .i64 0, .int .i64 0] := by rw [hv]; exact ((((K.out.set 0 _).set 1 _).set 2 _).set 3 _)
    clear hv
    replace B := Lib.hid (B.out.trans (gr_to og_ (by omega) B.out.size))
    replace K := Lib.hid kb_
    have z28_ := og_.size
    clear og_ kb_
    refine bodyPost_ret (results_box2 rfl _ _ w.heap.size 55 _ _ _ rfl K.out Tryz.underlying55 rfl (by kernel_rfl)) rfl ?_
    exact ⟨rfl, B.out⟩
  by_cases h15 : op = 15
  · subst h15
    clear h6
    clear h7
    clear h8
    clear h9
    clear h12
    clear h13
    clear h14
    go_enter Tryz.func51, Tryz.ntmps51
    go_upto_region 1 with fail
    refine nmW (w.alloc (.cells #[.int .i64 0, .string ⟨#[]⟩, .int .i64 0, .int .i64 0] 55)) fun w22 hv => ?_
    rw [← hv]
    have K := bxh hv
    have hb_ := bah hv
    clear hv
    have z29_ := K.out.lt
    replace B := Lib.hid (be_call B.out hb_)
    have z30_ := hb_.size
    clear hb_
    go_wp2_with fail
    refine (rNme_ok ⟨#[111, 114]⟩ (sl := [111, 114]) (by rw [Lib.toList_data])).mono ?_
    rintro e w23 ⟨rfl, hb⟩
    replace B := Lib.hid (be_call B.out hb)
    replace K := Lib.hid (K.out.keep hb)
    have z31_ := hb.size
    clear hb
    rw [show tkV (tkN [111, 114]) = .agg #[.int .i64 0, .string ⟨#[111, 114]⟩, .int .i64 0, .int .i64 0] from rfl]
    refine K.out.e4 fun pK_0 qK_0 pK_1 qK_1 pK_2 qK_2 pK_3 qK_3 => ?_
    go_wp2_with fail
    clear pK_0 qK_0 pK_1 qK_1 pK_2 qK_2 pK_3 qK_3
    refine nmW ((((w23.setCell ⟨w.heap.size, 0, none⟩ (.int .i64 0)).setCell ⟨w.heap.size, 1, none⟩ (.string ⟨#[111, 114]⟩)).setCell ⟨w.heap.size, 2, none⟩ (.int .i64 0)).setCell ⟨w.heap.size, 3, none⟩ (.int .i64 0)) fun w24 hv => ?_
    rw [← hv]
    have og_ : w23.grownBy w24 (some w.heap.size) := by rw [hv]; exact gs4
    have kb_ : Bx w24 w.heap.size 55 #[.int .i64 0, .string ⟨#[111, 114]⟩, .int .i64 0, .int .i64 0] := by rw [hv]; exact ((((K.out.set 0 _).set 1 _).set 2 _).set 3 _)
    clear hv
    replace B := Lib.hid (B.out.trans (gr_to og_ (by omega) B.out.size))
    replace K := Lib.hid kb_
    have z32_ := og_.size
    clear og_ kb_
    refine bodyPost_ret (results_box2 rfl _ _ w.heap.size 55 _ _ _ rfl K.out Tryz.underlying55 rfl (by kernel_rfl)) rfl ?_
    exact ⟨rfl, B.out⟩
  have e6 : (op == 6) = false := beq_eq_false_iff_ne.2 h6
  have e7 : (op == 7) = false := beq_eq_false_iff_ne.2 h7
  have e8 : (op == 8) = false := beq_eq_false_iff_ne.2 h8
  have e9 : (op == 9) = false := beq_eq_false_iff_ne.2 h9
  have e12 : (op == 12) = false := beq_eq_false_iff_ne.2 h12
  have e13 : (op == 13) = false := beq_eq_false_iff_ne.2 h13
  have e14 : (op == 14) = false := beq_eq_false_iff_ne.2 h14
  have e15 : (op == 15) = false := beq_eq_false_iff_ne.2 h15
  have HO : Hid (opName op = none) := by show _ = _; unfold opName; rw [if_neg h6, if_neg h7, if_neg h8, if_neg h9, if_neg h12, if_neg h13, if_neg h14, if_neg h15]
  clear h6 h7 h8 h9 h12 h13 h14 h15
  go_enter Tryz.func51, Tryz.ntmps51
  go_upto_region 1 with fail
  refine nmW (w.alloc (.cells #[.int .i64 0, .string ⟨#[]⟩, .int .i64 0, .int .i64 0] 55)) fun w25 hv => ?_
  rw [← hv]
  have K := bxh hv
  have hb_ := bah hv
  clear hv
  have z33_ := K.out.lt
  replace B := Lib.hid (be_call B.out hb_)
  have z34_ := hb_.size
  clear hb_
  refine K.out.e4 fun pK_0 qK_0 pK_1 qK_1 pK_2 qK_2 pK_3 qK_3 => ?_
  go_wp2_with fail
  clear pK_0 qK_0 pK_1 qK_1 pK_2 qK_2 pK_3 qK_3
  refine nmW ((((w25.setCell ⟨w.heap.size, 0, none⟩ (.int .i64 0)).setCell ⟨w.heap.size, 1, none⟩ (.string ⟨#[]⟩)).setCell ⟨w.heap.size, 2, none⟩ (.int .i64 0)).setCell ⟨w.heap.size, 3, none⟩ (.int .i64 0)) fun w26 hv => ?_
  rw [← hv]
  have og_ : w25.grownBy w26 (some w.heap.size) := by rw [hv]; exact gs4
  have kb_ : Bx w26 w.heap.size 55 #[.int .i64 0, .string ⟨#[]⟩, .int .i64 0, .int .i64 0] := by rw [hv]; exact ((((K.out.set 0 _).set 1 _).set 2 _).set 3 _)
  clear hv
  replace B := Lib.hid (B.out.trans (gr_to og_ (by omega) B.out.size))
  replace K := Lib.hid kb_
  have z35_ := og_.size
  clear og_ kb_
  refine bodyPost_ret (results_box2 rfl _ _ w.heap.size 55 _ _ _ rfl K.out Tryz.underlying55 rfl (by kernel_rfl)) rfl ?_
  exact ⟨by unfold opRV opTok; rw [HO.out]; rfl, B.out⟩
end Go.Proofs.YtckgmilmhofekaaGreatDoor
namespace Go.Proofs.YtckgmilmhofekaaGreatDoor
open Go.RowKit

theorem opFrom_six (l : List Tok) : opFrom 10 6 l = opAt l := by
 rw [← opFrom_at]
 simp [opFrom, opIs, opName]
theorem opTok_yes {j : Nat} (h : (opName j).isSome = true) : (opTok j).kind = opKd j ∧ (opTok j).text = (opName j).getD [] := by
  unfold opTok
  rw [if_pos h]
  unfold tkO opKd
  by_cases h1 : j = 14 ∨ j = 15
  · rw [if_pos (by omega), if_pos h1]; exact ⟨rfl, rfl⟩
  · rw [if_neg (by omega), if_neg h1]; exact ⟨rfl, rfl⟩
set_option maxRecDepth 100000 in
set_option maxHeartbeats 4000000 in
theorem roperator_ok {w : World} {p : Option Addr} {c : Nat} {ts : List Tok} (h : ToksIn w (.slice p ts.length c) ts) (k : Nat) {o : Option Int} (ho : opAt (ts.drop k) = o) :
    Calls Tryz.prog 70 #[.slice p ts.length c, .int .i64 k] w fun e w' => e = .returned (.int .i64 (o.getD (-1))) ∧ Below w.heap.size w w' := by
  have H0 := Lib.hid h; clear h
  by_cases hk : k < ts.length
  · have hkl : (k : Int) < (ts.length : Int) := by omega
    have HO0 : Hid (opFrom 10 6 (ts.drop k) = o) := by show _ = _; rw [opFrom_six]; exact ho
    clear ho
    go_enter Tryz.func70, Tryz.ntmps70
    go_wp2_with fail
    go_loopw [5] (fun i wr => ∃ j f : Nat, j + f = 16 ∧ i = .int .i64 j ∧ Hid (opFrom f j (ts.drop k) = o) ∧ Hid (ToksIn wr (.slice p ts.length c) ts) ∧ Hid (Below w.heap.size w wr)) (fun i _ => 16 - (intOf i).toNat)
    case atStart => exact ⟨6, 10, rfl, rfl, HO0, H0, be_refl _⟩
    case round =>
      obtain ⟨j, f, hjf, rfl, HO, H, B⟩ := hrel
      clear H0 HO0
      cases f with
      | zero =>
        have hI : ¬ (j : Int) ≤ 15 := by omega
        have hN : o = none := HO.out.symm
        subst hN
        go_wp2_with fail
        go_ret
        exact ⟨rfl, B.out⟩
      | succ f =>
        have hI : (j : Int) ≤ 15 := by omega
        go_wp2_with fail
        refine (rOperator_ok (j : Int)).mono ?_
        rintro e w1 ⟨rfl, hb⟩
        replace H := Lib.hid (H.out.keep hb)
        replace B := Lib.hid (be_call B.out hb)
        clear hb
        unfold opRV
        rw [tkV_is]
        have HY : Hid ((opName (j : Int)).isSome = true → (opTok (j : Int)).kind = opKd j ∧ (opTok (j : Int)).text = (opName (j : Int)).getD []) := opTok_yes
        obtain ⟨b1, hb1⟩ : ∃ b, (opName (j : Int)).isSome = b := ⟨_, rfl⟩
        have HB1 := Lib.hid hb1
        rw [hb1]
        clear hb1
        obtain ⟨t, ht⟩ : ∃ t, t = opTok (j : Int) := ⟨_, rfl⟩
        rw [← ht] at HY ⊢
        clear ht
        go_upto_region 5 with fail
        refine nmW (w1.alloc (.cells #[.int .i64 t.kind, .string ⟨t.text.toArray⟩, .int .i64 t.n, .int .i64 t.pos] 55)) fun w2 hv => ?_
        rw [← hv]
        have K := bxh hv
        have hb_ := bah hv
        clear hv
        replace H := Lib.hid (H.out.keep hb_)
        replace B := Lib.hid (be_call B.out hb_)
        clear hb_
        have HUN : opFrom (f + 1) j (ts.drop k) = if opIs j (ts.drop k) = true then some (j : Int) else opFrom f (j + 1) (ts.drop k) := rfl
        cases b1 with
        | false =>
          have HN : Hid (opFrom f (j + 1) (ts.drop k) = o) := by show _ = _; rw [← HO.out, HUN, if_neg (by unfold opIs; rw [HB1.out]; simp)]
          clear HUN HO HY HB1
          go_wp2_with fail
          go_roundw
          case rel => exact ⟨j + 1, f, by omega, by go_num, HN, H, B⟩
          case measure => simp [intOf]; omega
        | true =>
          obtain ⟨hy1, hy2⟩ := HY.out HB1.out
          obtain ⟨b2, hb2⟩ : ∃ b, isT t.kind t.text (ts.drop k) = b := ⟨_, rfl⟩
          have HIS : Hid (opIs j (ts.drop k) = b2) := by show _ = _; unfold opIs; rw [HB1.out, ← hy1, ← hy2, hb2]; rfl
          have HB2 := Lib.hid hb2
          clear hb2 hy1 hy2 HY HB1
          have p0 := K.out.at.1 0
          have p1 := K.out.at.1 1
          go_wp2_with fail
          clear p0 p1
          refine (ris_ok H.out k t.kind ⟨t.text.toArray⟩ (sl := t.text) (by rw [Lib.toList_data])).mono ?_
          rintro e w3 ⟨rfl, hb⟩
          replace H := Lib.hid (H.out.keep hb)
          replace B := Lib.hid (be_call B.out hb)
          clear hb K
          rw [HB2.out]
          cases b2 with
          | true =>
            have HN : Hid (o = some (j : Int)) := by show _ = _; rw [← HO.out, HUN, if_pos HIS.out]
            clear HUN HO HIS HB2
            go_wp2_with fail
            go_ret
            exact ⟨by rw [HN.out]; rfl, B.out⟩
          | false =>
            have HN : Hid (opFrom f (j + 1) (ts.drop k) = o) := by show _ = _; rw [← HO.out, HUN, if_neg (by rw [HIS.out]; decide)]
            clear HUN HO HIS HB2
            go_wp2_with fail
            go_roundw
            case rel => exact ⟨j + 1, f, by omega, by go_num, HN, H, B⟩
            case measure => simp [intOf]; omega
  · have hkl : ¬ (k : Int) < (ts.length : Int) := by omega
    rw [List.drop_eq_nil_of_le (by omega)] at ho
    subst ho
    go_enter Tryz.func70, Tryz.ntmps70
    go_wp2_with fail
    go_loopw [5] (fun i wr => i = .int .i64 6 ∧ wr = w) (fun _ _ => 0)
    case atStart => exact ⟨rfl, rfl⟩
    case round =>
      obtain ⟨rfl, rfl⟩ := hrel
      go_wp2_with fail
      go_ret
      exact ⟨rfl, Below.refl _ _⟩
end Go.Proofs.YtckgmilmhofekaaGreatDoor
namespace Go.Proofs.YtckgmilmhofekaaGreatDoor
open Go.RowKit

/-- What the reference's reader leaves of an expression; of some. -/
def RxPost (ts : List Tok) (R : PR) (w : World) (e : Ending) (w' : World) : Prop :=
 ∃ (x : Ex) (q : Option Addr) (d k : Nat) (b : Bool), e = .returned (.tuple #[.agg (hdC x q d).toArray, .int .i64 k, .bool (!b)]) ∧ FoS (mid w w') w' q d x.args ∧ Below w.heap.size w w' ∧ k ≤ ts.length ∧ outR ts R x k b
def RlPost (ts : List Tok) (R : PL) (w : World) (e : Ending) (w' : World) : Prop :=
 ∃ (a : Fo) (q : Option Addr) (d k : Nat) (b : Bool), e = .returned (.tuple #[.slice q a.len d, .int .i64 k, .bool (!b)]) ∧ FoS (mid w w') w' q d a ∧ Below w.heap.size w w' ∧ k ≤ ts.length ∧ outL ts R a k b
theorem ToksIn.low {w w' : World} {p : Option Addr} {n c B : Nat} {ts : List Tok} (h : ToksIn w (.slice p n c) ts) (hb : Below B w w') (hp : ∀ b o, p = some ⟨b, o, none⟩ → b < B) : ToksIn w' (.slice p n c) ts := by
 obtain ⟨a, cap, hv, hc⟩ := h
 cases hv
 refine ⟨_, _, rfl, fun k hk => ?_⟩
 obtain ⟨b, off, ha, hlt, hcell⟩ := hc k hk
 refine ⟨b, off, ha, Nat.lt_of_lt_of_le hlt hb.size, fun j u hj => ?_⟩
 have h1 := hcell j u hj
 have h2 := hb.block b (hp b off ha)
 unfold World.cell? at h1 ⊢
 rw [h2]; exact h1
def REOK (p : Option Addr) (c : Nat) (ts : List Tok) (E : List Tok → PR) (N : Nat) : Prop := ∀ (w : World) (k : Nat) (ki : Int), ki = (k : Int) → ToksIn w (.slice p ts.length c) ts → (∀ b o, p = some ⟨b, o, none⟩ → b < w.heap.size) → k ≤ ts.length → (ts.drop k).length < N →
 Calls Tryz.prog 35 #[.slice p ts.length c, .int .i64 ki] w (RxPost ts (E (ts.drop k)) w)
def argP (E : List Tok → PR) (most : Nat) (l : List Tok) : PL := if most = 0 then anyL E l else someP E (most - 1) l
inductive ArgS (E : List Tok → PR) (ts : List Tok) (k0 : Nat) : List Ex → Nat → Prop
 | start : ArgS E ts k0 [] k0
 | next {l : List Ex} {k1 : Nat} (h : AnyR E ts k0 l k1 false) (ht : isT 3 [44] (ts.drop k1) = true) : ArgS E ts k0 l (k1 + 1)
theorem ArgS.read {E : List Tok → PR} {ts : List Tok} {k0 k k2 : Nat} {l : List Ex} {x : Ex} {b : Bool} (h : ArgS E ts k0 l k) (ho : outR ts (E (ts.drop k)) x k2 b) : AnyR E ts k0 (l ++ [x]) k2 b := by
 cases h with
 | start => exact AnyR.first ho
 | next h ht => exact AnyR.next h ht ho
theorem AnyR.some {E : List Tok → PR} {ts : List Tok} {k0 k : Nat} {l : List Ex} {b : Bool} (h : AnyR E ts k0 l k b) : ∃ n, l.length = n + 1 ∧ SomeR E ts k0 false (n + 1) l k b := by
 induction h with
 | first h => exact ⟨0, rfl, .first rfl h⟩
 | next h ht ho ih =>
  obtain ⟨n, hn, hs⟩ := ih
  exact ⟨n + 1, by rw [List.length_append, hn]; rfl, SomeR.next hs ht rfl ho⟩
theorem isT_other {q : Nat} {s s' : Bytes} {l : List Tok} (h : isT q s l = true) (hne : s ≠ s') : isT q s' l = false := by
 obtain ⟨t, r, rfl, -, rfl⟩ := isT_cons h
 show (t.kind == q && t.text == s') = false
 rw [beq_eq_false_iff_ne.2 hne, Bool.and_false]
theorem outL_err {ts : List Tok} {R : PL} {a a' : Fo} {k : Nat} (h : outL ts R a k true) : outL ts R a' k true := by
 unfold outL at h ⊢
 cases R with
 | error r => exact h
 | ok y => obtain ⟨y, r⟩ := y; have := h.2.1; cases this
theorem arg_bad {E : List Tok → PR} (hE : Shrinks E) {ts : List Tok} {k0 k most : Nat} {l : List Ex} {a : Fo} (h : AnyR E ts k0 l k true) (hm : most = 0 ∨ l.length ≤ most) : outL ts (argP E most (ts.drop k0)) a k true := by
  unfold argP
  by_cases h0 : most = 0
  · rw [if_pos h0]
    have := anyR_is hE h
    rw [if_pos rfl] at this
    rw [this]; exact ⟨rfl, rfl⟩
  · rw [if_neg h0]
    obtain ⟨n, hn, hs⟩ := h.some
    have := ((someR_is hs).2 (by omega)).2 (most - 1) (by omega)
    rw [if_pos rfl] at this
    rw [this]; exact ⟨rfl, rfl⟩
theorem arg_done {E : List Tok → PR} (hE : Shrinks E) {ts : List Tok} {k0 k most : Nat} {l : List Ex} (h : AnyR E ts k0 l k false) (ht : isT 3 [41] (ts.drop k) = true) (hm : most = 0 ∨ l.length = most) : outL ts (argP E most (ts.drop k0)) (Fo.of l) (k + 1) false := by
  unfold argP
  by_cases h0 : most = 0
  · rw [if_pos h0]
    exact any_end hE h (t := true) (by rw [isT_other ht (by decide)]; rfl) (by rw [ht]; rfl) rfl rfl
  · rw [if_neg h0]
    obtain ⟨n, hn, hs⟩ := h.some
    exact some_end (m := most - 1) (t := true) hs (.inr (by omega)) (by omega) (by rw [ht]; rfl) rfl rfl
theorem arg_stop {E : List Tok → PR} (hE : Shrinks E) {ts : List Tok} {k0 k most : Nat} {l : List Ex} {a : Fo} (h : AnyR E ts k0 l k false) (h1 : isT 3 [41] (ts.drop k) = false ∨ (most ≠ 0 ∧ l.length ≠ most)) (h2 : isT 3 [44] (ts.drop k) = false ∨ (most ≠ 0 ∧ l.length = most)) (hm : most = 0 ∨ l.length ≤ most) : outL ts (argP E most (ts.drop k0)) a k true := by
  unfold argP
  by_cases h0 : most = 0
  · rw [if_pos h0]
    have g1 : isT 3 [41] (ts.drop k) = false := h1.resolve_right (fun h => h.1 h0)
    have g2 : isT 3 [44] (ts.drop k) = false := h2.resolve_right (fun h => h.1 h0)
    exact outL_err (any_end hE h (t := false) (by rw [g2]; rfl) (by rw [g1]; rfl) rfl rfl)
  · rw [if_neg h0]
    obtain ⟨n, hn, hs⟩ := h.some
    have := ((someR_is hs).2 (by omega)).2 (most - 1) (by omega)
    rw [if_neg (by decide)] at this
    rw [this]
    by_cases hl : l.length = most
    · have g1 : isT 3 [41] (ts.drop k) = false := h1.resolve_right (fun h => h.2 hl)
      rw [show most - 1 + 1 - (n + 1) = 0 by omega]
      unfold moreP
      rw [needP_not g1]; exact ⟨rfl, rfl⟩
    · have g2 : isT 3 [44] (ts.drop k) = false := h2.resolve_right (fun h => hl h.2)
      obtain ⟨j, hj⟩ : ∃ j, most - 1 + 1 - (n + 1) = j + 1 := ⟨most - 1 - (n + 1), by omega⟩
      rw [hj]
      unfold moreP
      rw [needP_not g2]; exact ⟨rfl, rfl⟩
set_option maxRecDepth 100000 in
set_option maxHeartbeats 4000000 in
theorem rargs_ok {w : World} {p : Option Addr} {c : Nat} {ts : List Tok} {E : List Tok → PR} {N k0 most : Nat} {k0i mi : Int} (hE : REOK p c ts E N) (hS : Shrinks E) (h : ToksIn w (.slice p ts.length c) ts) (hp : ∀ b o, p = some ⟨b, o, none⟩ → b < w.heap.size) (hlen : ts.length ≤ 1099511627776) (hk0 : k0 ≤ ts.length) (hki : k0i = (k0 : Int)) (hN : (ts.drop k0).length < N) (hm : most ≤ 1000) (hmi : mi = (most : Int)) :
    Calls Tryz.prog 98 #[.slice p ts.length c, .int .i64 k0i, .int .i64 mi] w (RlPost ts (argP E most (ts.drop k0)) w) := by
  subst hki hmi
  have H0 := Lib.hid h; have HE := Lib.hid hE; have HS := Lib.hid hS; have HN0 := Lib.hid hN; have HL := Lib.hid hlen; have HK0 := Lib.hid hk0; have HM := Lib.hid hm; have HP := Lib.hid hp
  clear h hE hS hN hlen hk0 hm hp
  go_enter Tryz.func98, Tryz.ntmps98
  go_wp2_with fail
  go_loopw [1, 9] (fun ki v wr => ∃ (vv : Value) (k : Nat) (l : List Hd), vv = v ∧ ki = .int .i64 k ∧ Hid (ArgS E ts k0 (exL l) k) ∧ Hid (most = 0 ∨ l.length < most) ∧ Hid (k ≤ ts.length ∧ l.length ≤ k ∧ (ts.drop k).length < N) ∧ Hid (ToksIn wr (.slice p ts.length c) ts) ∧ Hid (Below w.heap.size w wr) ∧ Hid (OwE w.heap.size wr v l)) (fun ki _ _ => ts.length + 1 - (intOf ki).toNat)
  case atStart =>
    have hm0 : Hid (most = 0 ∨ ([] : List Hd).length < most) := by
      show _ ∨ _
      by_cases h : most = 0
      · exact .inl h
      · exact .inr (Nat.pos_of_ne_zero h)
    exact ⟨_, k0, [], rfl, rfl, ArgS.start, hm0, ⟨HK0.out, Nat.zero_le _, HN0.out⟩, H0, be_refl _, OwE.nil _⟩
  case round =>
    obtain ⟨v_, k, l, rfl, rfl, HA, HMO, HKK, H, B, HO⟩ := hrel
    clear H0 HN0 HK0
    have hz := B.out.size
    go_wp2_with fail
    refine (HE.out _ k _ rfl H.out (fun b o e => by have := HP.out b o e; omega) HKK.out.1 HKK.out.2.2).mono ?_
    rintro e w1 ⟨x, q, d, k2, b, rfl, hf, hb, hk2, ho⟩
    unfold hdC
    have hz1 := hb.size
    have HF := Lib.hid (hf.mono (D' := fun b => w.heap.size ≤ b ∧ some b ≠ v_.ownBlock) (fun b hb => ⟨by have := hb.1; omega, own_low HO.out.own hb.1⟩))
    have HAF := Lib.hid (out_after HS.out ho HKK.out.1 hk2)
    have HR := Lib.hid (HA.out.read ho)
    have HK2 := Lib.hid hk2
    replace H := Lib.hid (H.out.keep hb)
    replace B := Lib.hid (be_call B.out hb)
    replace HO := Lib.hid (HO.out.keep hb)
    clear hf hb hk2 ho HA
    go_upto_region 3 with fail
    refine nmW (w1.alloc (.cells #[.int .i64 x.op, .int .i64 x.n, .string ⟨x.unit.toArray⟩, .string ⟨x.name.toArray⟩, .slice q x.args.len d] 24)) fun w2 hv => ?_
    rw [← hv]
    have K := bxh hv
    have hb_ := bah hv
    clear hv
    have hz2 := hb_.size
    replace H := Lib.hid (H.out.keep hb_)
    replace B := Lib.hid (be_call B.out hb_)
    replace HO := Lib.hid (HO.out.keep hb_)
    replace HF := Lib.hid (HF.out.keep hb_)
    clear hb_
    cases b with
    | true =>
      go_wp2_with fail
      go_ret3
      exact ⟨.nil, none, 0, k2, true, rfl, FoS.nil, B.out, HK2.out, arg_bad HS.out (by show AnyR E ts k0 (exL l ++ [x]) k2 true; exact HR.out) (by rw [List.length_append, exL, List.length_map]; rcases HMO.out with h | h; exact .inl h; exact .inr h)⟩
    | false =>
      refine K.out.q5 fun p0 p1 p2 p3 p4 => ?_
      obtain ⟨n, hn⟩ : ∃ n, l.length = n := ⟨_, rfl⟩
      have hnk : n ≤ 1099511627776 := by have := HKK.out.2.1; have := HKK.out.1; have := HL.out; omega
      go_upto_region 6 with (at_builtin; go_must (refine wpList_pushE rfl _ _ elemEx rfl w2 HO.out hn ⟨x, q, d⟩ HF.out rfl rfl rfl rfl (by omega) (by omega) (by omega) ?_; intro v' w3 ho hb3))
      clear p0 p1 p2 p3 p4
      have hz3 := hb3.size
      replace H := Lib.hid (H.out.low hb3 HP.out)
      replace B := Lib.hid (B.out.trans hb3)
      have HO3 := Lib.hid ho
      obtain ⟨q3, d3, hv3, -⟩ := ho.read
      obtain ⟨n3, hn3⟩ : ∃ n3, (l ++ [(⟨x, q, d⟩ : Hd)]).length = n3 := ⟨_, rfl⟩
      have HN3 : Hid (n3 = n + 1) := by show _ = _; rw [← hn3, List.length_append, hn]; rfl
      rw [hn3] at hv3
      subst hv3
      have HLN := Lib.hid hn3
      clear hb3 ho HO HF K hn3
      obtain ⟨t1, ht1⟩ : ∃ t, isT 3 [41] (ts.drop k2) = t := ⟨_, rfl⟩
      have HT1 := Lib.hid ht1; clear ht1
      have HR3 : Hid (AnyR E ts k0 (exL (l ++ [⟨x, q, d⟩])) k2 false) := by show AnyR _ _ _ _ _ _; rw [exL_snoc]; exact HR.out
      have HL3 : Hid ((exL (l ++ [(⟨x, q, d⟩ : Hd)])).length = n3) := by show _ = _; rw [HN3.out, exL, List.length_map, List.length_append, hn]; rfl
      have HMN : Hid (most = 0 ∨ n3 ≤ most) := by
        show _ ∨ _
        rcases HMO.out with h | h
        · exact .inl h
        · rw [HN3.out]; rw [hn] at h; exact .inr h
      clear HR
      go_wp2_with fail
      refine (rsign_ok H.out k2 ⟨#[41]⟩ (sl := [41]) (by rw [Lib.toList_data]) HT1.out).mono ?_
      rintro e w4 ⟨rfl, hb⟩
      have hz4 := hb.size
      replace H := Lib.hid (H.out.keep hb)
      replace B := Lib.hid (be_call B.out hb)
      replace HO3 := Lib.hid (HO3.out.keep hb)
      clear hb
      obtain ⟨z, hzz⟩ : ∃ z, ((most : Int) == 0) = z := ⟨_, rfl⟩
      obtain ⟨y, hyy⟩ : ∃ y, ((n3 : Int) == (most : Int)) = y := ⟨_, rfl⟩
      have HZ : Hid ((z = true → most = 0) ∧ (z = false → most ≠ 0)) := ⟨fun h => by rw [h] at hzz; have := eq_of_beq hzz; omega, fun h => by rw [h] at hzz; have := beq_eq_false_iff_ne.1 hzz; omega⟩
      have HY : Hid ((y = true → n3 = most) ∧ (y = false → n3 ≠ most)) := ⟨fun h => by rw [h] at hyy; have := eq_of_beq hyy; omega, fun h => by rw [h] at hyy; have := beq_eq_false_iff_ne.1 hyy; omega⟩
      have HK3 : Hid (isT 3 [41] (ts.drop k2) = true → k2 + 1 ≤ ts.length) := fun h => by have := isT_lt h; omega
      have hw2 : IntKind.i64.wrap ((k2 : Int) + 1) = (k2 : Int) + 1 := IntWalk.i64_in _ (by have := HK2.out; have := HL.out; omega)
      have STP : Hid (∀ (b1 : Bool), isT 3 [44] (ts.drop k2) = b1 → (t1 = false ∨ (most ≠ 0 ∧ n3 ≠ most)) → (b1 = false ∨ (most ≠ 0 ∧ n3 = most)) → outL ts (argP E most (ts.drop k0)) .nil k2 true) := fun b1 hb1 h1 h2 => arg_stop HS.out HR3.out (h1.imp (fun h => HT1.out.trans h) (fun h => ⟨h.1, by rw [HL3.out]; exact h.2⟩)) (h2.imp (fun h => hb1.trans h) (fun h => ⟨h.1, by rw [HL3.out]; exact h.2⟩)) (by rw [HL3.out]; exact HMN.out)
      obtain ⟨t2, ht2⟩ : ∃ t, isT 3 [44] (ts.drop k2) = t := ⟨_, rfl⟩
      have HT2 := Lib.hid ht2; clear ht2
      have FIN : Hid (t1 = true → (most = 0 ∨ n3 = most) → outL ts (argP E most (ts.drop k0)) (Fo.of (exL (l ++ [⟨x, q, d⟩]))) (k2 + 1) false) := fun h1 h2 => arg_done HS.out HR3.out (HT1.out.trans h1) (by rw [HL3.out]; exact h2)
      cases t1 with
      | true =>
        have HC : Hid (t2 = false) := by show _ = _; rw [← HT2.out]; exact isT_other HT1.out (by decide)
        obtain rfl := HC.out
        cases z with
        | true =>
          go_wp2_with fail
          go_ret3
          obtain ⟨p4, c4, hv4, hf4⟩ := HO3.out.read
          obtain ⟨rfl, -, rfl⟩ : q3 = p4 ∧ n3 = (l ++ [(⟨x, q, d⟩ : Hd)]).length ∧ d3 = c4 := by injection hv4 with a1 a2 a3; exact ⟨a1, a2, a3⟩
          exact ⟨Fo.of (exL (l ++ [⟨x, q, d⟩])), q3, d3, k2 + 1, false, by rw [exL_len, HLN.out]; rfl, hf4.inMid, B.out, HK3.out HT1.out, FIN.out (by trivial) (.inl (HZ.out.1 (by trivial)))⟩
        | false =>
          have hmp : (0 : Int) < (most : Int) := by have := HZ.out.2 (by trivial); omega
          cases y with
          | true =>
            go_wp2_with fail
            go_ret3
            obtain ⟨p4, c4, hv4, hf4⟩ := HO3.out.read
            obtain ⟨rfl, -, rfl⟩ : q3 = p4 ∧ n3 = (l ++ [(⟨x, q, d⟩ : Hd)]).length ∧ d3 = c4 := by injection hv4 with a1 a2 a3; exact ⟨a1, a2, a3⟩
            exact ⟨Fo.of (exL (l ++ [⟨x, q, d⟩])), q3, d3, k2 + 1, false, by rw [exL_len, HLN.out]; rfl, hf4.inMid, B.out, HK3.out HT1.out, FIN.out (by trivial) (.inr (HY.out.1 (by trivial)))⟩
          | false =>
            go_wp2_with fail
            refine (rsign_ok H.out k2 ⟨#[44]⟩ (sl := [44]) (by rw [Lib.toList_data]) HT2.out).mono ?_
            rintro e w5 ⟨rfl, hb⟩
            have hz5 := hb.size
            replace H := Lib.hid (H.out.keep hb)
            replace B := Lib.hid (be_call B.out hb)
            replace HO3 := Lib.hid (HO3.out.keep hb)
            clear hb
            go_wp2_with fail
            go_ret3
            exact ⟨.nil, none, 0, k2, true, rfl, FoS.nil, B.out, HK2.out, STP.out _ HT2.out (.inr ⟨HZ.out.2 (by trivial), HY.out.2 (by trivial)⟩) (.inl (by trivial))⟩
      | false =>
        go_wp2_with fail
        refine (rsign_ok H.out k2 ⟨#[44]⟩ (sl := [44]) (by rw [Lib.toList_data]) HT2.out).mono ?_
        rintro e w5 ⟨rfl, hb⟩
        have hz5 := hb.size
        replace H := Lib.hid (H.out.keep hb)
        replace B := Lib.hid (be_call B.out hb)
        replace HO3 := Lib.hid (HO3.out.keep hb)
        clear hb
        cases t2 with
        | false =>
          go_wp2_with fail
          go_ret3
          exact ⟨.nil, none, 0, k2, true, rfl, FoS.nil, B.out, HK2.out, STP.out _ HT2.out (.inl (by trivial)) (.inl (by trivial))⟩
        | true =>
          cases z with
          | true =>
            have hmp : ¬ (0 : Int) < (most : Int) := by have := HZ.out.1 (by trivial); omega
            have HKN := Lib.hid (isT_lt HT2.out)
            go_wp2_with fail
            go_roundw
            case rel =>
              refine ⟨_, k2 + 1, l ++ [⟨x, q, d⟩], rfl, by go_num, ArgS.next HR3.out HT2.out, ?_, ⟨HKN.out, ?_, ?_⟩, H, B, HO3⟩
              · show _ ∨ _
                rw [HLN.out]
                exact .inl (HZ.out.1 (by trivial))
              · rw [HLN.out, HN3.out]
                have := HKK.out.2.1; have := HAF.out.2 (by trivial); omega
              · have := HKK.out.2.2; have := HAF.out.2 (by trivial)
                rw [List.length_drop] at *; omega
            case measure => have := HKN.out; have := HAF.out.2 (by trivial); simp [intOf]; omega
          | false =>
            have hmp : (0 : Int) < (most : Int) := by have := HZ.out.2 (by trivial); omega
            cases y with
            | true =>
              go_wp2_with fail
              go_ret3
              exact ⟨.nil, none, 0, k2, true, rfl, FoS.nil, B.out, HK2.out, STP.out _ HT2.out (.inl (by trivial)) (.inr ⟨HZ.out.2 (by trivial), HY.out.1 (by trivial)⟩)⟩
            | false =>
              have HKN := Lib.hid (isT_lt HT2.out)
              go_wp2_with fail
              go_roundw
              case rel =>
                refine ⟨_, k2 + 1, l ++ [⟨x, q, d⟩], rfl, by go_num, ArgS.next HR3.out HT2.out, ?_, ⟨HKN.out, ?_, ?_⟩, H, B, HO3⟩
                · show _ ∨ _
                  rw [HLN.out]
                  exact (HMN.out.imp id (fun h => Nat.lt_of_le_of_ne h (HY.out.2 (by trivial))))
                · rw [HLN.out, HN3.out]
                  have := HKK.out.2.1; have := HAF.out.2 (by trivial); omega
                · have := HKK.out.2.2; have := HAF.out.2 (by trivial)
                  rw [List.length_drop] at *; omega
              case measure => have := HKN.out; have := HAF.out.2 (by trivial); simp [intOf]; omega
end Go.Proofs.YtckgmilmhofekaaGreatDoor
namespace Go.Proofs.YtckgmilmhofekaaGreatDoor
open Go.RowKit

theorem rsign_at {w : World} {p : Option Addr} {c : Nat} {ts : List Tok} (h : ToksIn w (.slice p ts.length c) ts) (k : Nat) (s : ByteArray) {sl : Bytes} (hsl : s.toList = sl) {b : Bool} (hb : isT 3 sl (ts.drop k) = b) {ki : Int} (hk : ki = (k : Int)) :
  Calls Tryz.prog 97 #[.slice p ts.length c, .int .i64 ki, .string s] w fun e w' => e = .returned (.bool b) ∧ Below w.heap.size w w' := by subst hk; exact rsign_ok h k s hsl hb
theorem rword_at {w : World} {p : Option Addr} {c : Nat} {ts : List Tok} (h : ToksIn w (.slice p ts.length c) ts) (k : Nat) (s : ByteArray) {sl : Bytes} (hsl : s.toList = sl) {b : Bool} (hb : isT 0 sl (ts.drop k) = b) {ki : Int} (hk : ki = (k : Int)) :
  Calls Tryz.prog 67 #[.slice p ts.length c, .int .i64 ki, .string s] w fun e w' => e = .returned (.bool b) ∧ Below w.heap.size w w' := by subst hk; exact rword_ok h k s hsl hb
theorem rNamed_at {w : World} {p : Option Addr} {c : Nat} {ts : List Tok} (h : ToksIn w (.slice p ts.length c) ts) (k : Nat) {b : Bool} (hb : namedT (ts.drop k) = b) {ki : Int} (hk : ki = (k : Int)) :
  Calls Tryz.prog 101 #[.slice p ts.length c, .int .i64 ki] w fun e w' => e = .returned (.bool b) ∧ Below w.heap.size w w' := by subst hk; exact rNamed_ok h k hb
theorem roperator_at {w : World} {p : Option Addr} {c : Nat} {ts : List Tok} (h : ToksIn w (.slice p ts.length c) ts) (k : Nat) {o : Option Int} (ho : opAt (ts.drop k) = o) {ki : Int} (hk : ki = (k : Int)) :
  Calls Tryz.prog 70 #[.slice p ts.length c, .int .i64 ki] w fun e w' => e = .returned (.int .i64 (o.getD (-1))) ∧ Below w.heap.size w w' := by subst hk; exact roperator_ok h k ho
theorem namedT_lt {ts : List Tok} {k : Nat} (h : namedT (ts.drop k) = true) : k < ts.length := by
  rcases Nat.lt_or_ge k ts.length with h1 | h1
  · exact h1
  · rw [List.drop_eq_nil_of_le h1] at h; cases h
theorem nameP_yes {ts : List Tok} {k : Nat} (hk : k < ts.length) (h : namedT (ts.drop k) = true) : nameP (ts.drop k) = .ok (ts[k].text, ts.drop (k + 1)) := by
 rw [drop_tok hk] at h ⊢
 have h : ((ts[k].kind == 0) && !wordB ts[k].text) = true := h
 rw [nameP_cons, if_pos (by simpa using h)]
theorem nameP_no {l : List Tok} (h : namedT l = false) : nameP l = .error l := by
 cases l with
 | nil => rfl
 | cons t r =>
  have h : ((t.kind == 0) && !wordB t.text) = false := h
  rw [nameP_cons, if_neg (by simpa using h)]
theorem outR_of_err {ts : List Tok} {R : PR} {x : Ex} {k : Nat} (h : R = .error (ts.drop k)) : outR ts R x k true := by rw [h]; exact ⟨rfl, rfl⟩
theorem outR_of_ok {ts : List Tok} {R : PR} {x : Ex} {k : Nat} (h : R = .ok (x, ts.drop k)) : outR ts R x k false := by rw [h]; exact ⟨rfl, rfl, rfl⟩
theorem outL_ok {ts : List Tok} {R : PL} {a : Fo} {k : Nat} (h : outL ts R a k false) : R = .ok (a, ts.drop k) := by
 unfold outL at h
 cases R with
 | error r => have := h.1; cases this
 | ok y => obtain ⟨y, r⟩ := y; obtain ⟨rfl, -, rfl⟩ := h; rfl
theorem outL_er {ts : List Tok} {R : PL} {a : Fo} {k : Nat} (h : outL ts R a k true) : R = .error (ts.drop k) := by
 unfold outL at h
 cases R with
 | error r => rw [h.2]
 | ok y => obtain ⟨y, r⟩ := y; have := h.2.1; cases this
/-- What 'opened' reads. -/
def openP (E : List Tok → PR) (most : Nat) (l : List Tok) : PL := match needP 3 [40] l with
 | .error r => .error r
 | .ok l1 => argP E most l1
theorem room1 {ts : List Tok} {q k N : Nat} {s : Bytes} (h : isT q s (ts.drop k) = true) (hN : (ts.drop k).length ≤ N) : (ts.drop (k + 1)).length < N := by have := isT_len h; omega
set_option maxRecDepth 100000 in
set_option maxHeartbeats 4000000 in
theorem ropened_ok {w : World} {p : Option Addr} {c : Nat} {ts : List Tok} {E : List Tok → PR} {N k most : Nat} {ki mi : Int} (hE : REOK p c ts E N) (hS : Shrinks E) (h : ToksIn w (.slice p ts.length c) ts) (hp : ∀ b o, p = some ⟨b, o, none⟩ → b < w.heap.size) (hlen : ts.length ≤ 1099511627776) (hk : k ≤ ts.length) (hki : ki = (k : Int)) (hN : (ts.drop k).length ≤ N) (hm : most ≤ 1000) (hmi : mi = (most : Int)) :
  Calls Tryz.prog 100 #[.slice p ts.length c, .int .i64 ki, .int .i64 mi] w (RlPost ts (openP E most (ts.drop k)) w) := by
 have HE := Lib.hid hE; have HS := Lib.hid hS; have HN := Lib.hid hN; have HM := Lib.hid hm; have HMI := Lib.hid hmi
 subst hki
 have H := Lib.hid h; have HP := Lib.hid hp; have HL := Lib.hid hlen; have HK0 := Lib.hid hk
 have B : Hid (Below w.heap.size w w) := be_refl w
 clear h hp hlen hk hE hS hN hm hmi
 obtain ⟨y1, hy1⟩ : ∃ t, isT 3 [40] (ts.drop k) = t := ⟨_, rfl⟩
 have Hy1 := Lib.hid hy1; clear hy1
 go_enter Tryz.func100, Tryz.ntmps100
 go_wp2_with fail
 refine (rsign_at H.out (k) ⟨#[40]⟩ (sl := [40]) (by rw [Lib.toList_data]) Hy1.out rfl).mono ?_
 rintro e w1 ⟨rfl, hb_⟩
 replace B := Lib.hid (be_call B.out hb_)
 replace H := Lib.hid (H.out.keep hb_)
 have z1_ := hb_.size
 clear hb_
 cases y1 with
 | false =>
  go_wp2_with fail
  go_ret3
  exact ⟨.nil, none, 0, k, true, rfl, FoS.nil, B.out, HK0.out, by unfold openP; rw [needP_not Hy1.out]; exact ⟨rfl, rfl⟩⟩
 | true =>
  have hk1 : Hid (k + 1 ≤ ts.length) := isT_lt Hy1.out
  have hw1_ : IntKind.i64.wrap ((k : Int) + 1) = (k : Int) + 1 := IntWalk.i64_in _ (by have := hk1.out; have := HL.out; omega)
  go_wp2_with fail
  refine (rargs_ok (k0 := k + 1) HE.out HS.out H.out (fun b o e => by have := HP.out b o e; omega) HL.out hk1.out (by rfl) (room1 Hy1.out HN.out) HM.out HMI.out).mono ?_
  rintro e w2 ⟨f, q, d, k2, b2, rfl, hf_, hb_, hk_, ho_⟩
  replace B := Lib.hid (be_call B.out hb_)
  replace H := Lib.hid (H.out.keep hb_)
  have z2_ := hb_.size
  clear hb_
  have F := Lib.hid hf_; have ho := Lib.hid ho_; have HKk2 := Lib.hid hk_; clear hf_ ho_ hk_
  go_wp2_with fail
  go_ret3
  exact ⟨f, q, d, k2, b2, rfl, (F.out.mono (fun b hb => ⟨by have := hb.1; omega, by have := hb.2; omega⟩)), B.out, HKk2.out, by unfold openP; rw [needP_yes Hy1.out]; exact ho.out⟩
theorem look_ok {E : List Tok → PR} {ts : List Tok} {k k2 : Nat} {f : Fo} {b : Bool} (h1 : isT 3 [40] (ts.drop k) = true) (hk : k + 1 < ts.length) (h2 : namedT (ts.drop (k + 1)) = true) (h3 : isT 3 [44] (ts.drop (k + 2)) = true) (ho : outL ts (argP E 1 (ts.drop (k + 3))) f k2 b) : outR ts (lookP E (ts.drop k)) ⟨2, 0, [], ts[k + 1].text, f⟩ k2 b := by
 unfold lookP
 rw [needP_yes h1]; dsimp only
 rw [nameP_yes hk h2]; dsimp only
 rw [needP_yes h3]; dsimp only
 cases b with
 | true => rw [show someP E 0 (ts.drop (k + 2 + 1)) = .error (ts.drop k2) from outL_er ho]; exact ⟨rfl, rfl⟩
 | false => rw [show someP E 0 (ts.drop (k + 2 + 1)) = .ok (f, ts.drop k2) from outL_ok ho]; exact ⟨rfl, rfl, rfl⟩
set_option maxRecDepth 100000 in
set_option maxHeartbeats 4000000 in
theorem rlooked_ok {w : World} {p : Option Addr} {c : Nat} {ts : List Tok} {E : List Tok → PR} {N k : Nat} {ki : Int} (hE : REOK p c ts E N) (hS : Shrinks E) (h : ToksIn w (.slice p ts.length c) ts) (hp : ∀ b o, p = some ⟨b, o, none⟩ → b < w.heap.size) (hlen : ts.length ≤ 1099511627776) (hk : k ≤ ts.length) (hki : ki = (k : Int)) (hN : (ts.drop k).length ≤ N) :
  Calls Tryz.prog 99 #[.slice p ts.length c, .int .i64 ki] w (RxPost ts (lookP E (ts.drop k)) w) := by
 have HE := Lib.hid hE; have HS := Lib.hid hS; have HN := Lib.hid hN
 subst hki
 have H := Lib.hid h; have HP := Lib.hid hp; have HL := Lib.hid hlen; have HK0 := Lib.hid hk
 have B : Hid (Below w.heap.size w w) := be_refl w
 clear h hp hlen hk hE hS hN
 go_enter Tryz.func99, Tryz.ntmps99
 go_upto_region 1 with fail
 refine nmW (w.alloc (.cells #[.int .i64 0, .int .i64 0, .string ⟨#[]⟩, .string ⟨#[]⟩, .slice none 0 0] 24)) fun w1 hv => ?_
 rw [← hv]
 have K := bxh hv
 have hb_ := bah hv
 clear hv
 have z1_ := K.out.lt
 replace B := Lib.hid (be_call B.out hb_)
 replace H := Lib.hid (H.out.keep hb_)
 have z2_ := hb_.size
 clear hb_
 obtain ⟨y1, hy1⟩ : ∃ t, isT 3 [40] (ts.drop k) = t := ⟨_, rfl⟩
 have Hy1 := Lib.hid hy1; clear hy1
 go_wp2_with fail
 refine (rsign_at H.out (k) ⟨#[40]⟩ (sl := [40]) (by rw [Lib.toList_data]) Hy1.out rfl).mono ?_
 rintro e w2 ⟨rfl, hb_⟩
 replace B := Lib.hid (be_call B.out hb_)
 replace H := Lib.hid (H.out.keep hb_)
 replace K := Lib.hid (K.out.keep hb_)
 have z3_ := hb_.size
 clear hb_
 cases y1 with
 | false =>
  refine K.out.e5 fun pK_0 qK_0 pK_1 qK_1 pK_2 qK_2 pK_3 qK_3 pK_4 qK_4 => ?_
  go_wp2_with fail
  clear pK_0 qK_0 pK_1 qK_1 pK_2 qK_2 pK_3 qK_3 pK_4 qK_4
  refine nmW (((((w2.setCell ⟨w.heap.size, 0, none⟩ (.int .i64 0)).setCell ⟨w.heap.size, 1, none⟩ (.int .i64 0)).setCell ⟨w.heap.size, 2, none⟩ (.string ⟨#[]⟩)).setCell ⟨w.heap.size, 3, none⟩ (.string ⟨#[]⟩)).setCell ⟨w.heap.size, 4, none⟩ (.slice none 0 0)) fun w3 hv => ?_
  rw [← hv]
  have og_ : w2.grownBy w3 (some w.heap.size) := by rw [hv]; exact gs5
  have kb_ : Bx w3 w.heap.size 24 #[.int .i64 0, .int .i64 0, .string ⟨#[]⟩, .string ⟨#[]⟩, .slice none 0 0] := by rw [hv]; exact (((((K.out.set 0 _).set 1 _).set 2 _).set 3 _).set 4 _)
  clear hv
  replace B := Lib.hid (B.out.trans (gr_to og_ (by omega) B.out.size))
  replace H := Lib.hid (H.out.only og_ (fun b o e => by have := HP.out b o e; omega))
  replace K := Lib.hid kb_
  have z4_ := og_.size
  clear og_ kb_
  refine bodyPost_ret (results_box3 rfl _ _ w.heap.size 24 _ _ _ rfl K.out Tryz.underlying24 rfl (by kernel_rfl)) rfl ?_
  exact ⟨Ex.zero, none, 0, k, true, rfl, FoS.nil, B.out, HK0.out, outR_of_err (by unfold lookP; rw [needP_not Hy1.out])⟩
 | true =>
  have hk1 : Hid (k + 1 ≤ ts.length) := isT_lt Hy1.out
  have hw1_ : IntKind.i64.wrap ((k : Int) + 1) = (k : Int) + 1 := IntWalk.i64_in _ (by have := hk1.out; have := HL.out; omega)
  obtain ⟨y2, hy2⟩ : ∃ t, namedT (ts.drop (k + 1)) = t := ⟨_, rfl⟩
  have Hy2 := Lib.hid hy2; clear hy2
  go_wp2_with fail
  refine (rNamed_at H.out (k + 1) Hy2.out (by rfl)).mono ?_
  rintro e w4 ⟨rfl, hb_⟩
  replace B := Lib.hid (be_call B.out hb_)
  replace H := Lib.hid (H.out.keep hb_)
  replace K := Lib.hid (K.out.keep hb_)
  have z5_ := hb_.size
  clear hb_
  cases y2 with
  | false =>
   refine K.out.e5 fun pK_0 qK_0 pK_1 qK_1 pK_2 qK_2 pK_3 qK_3 pK_4 qK_4 => ?_
   go_wp2_with fail
   clear pK_0 qK_0 pK_1 qK_1 pK_2 qK_2 pK_3 qK_3 pK_4 qK_4
   refine nmW (((((w4.setCell ⟨w.heap.size, 0, none⟩ (.int .i64 0)).setCell ⟨w.heap.size, 1, none⟩ (.int .i64 0)).setCell ⟨w.heap.size, 2, none⟩ (.string ⟨#[]⟩)).setCell ⟨w.heap.size, 3, none⟩ (.string ⟨#[]⟩)).setCell ⟨w.heap.size, 4, none⟩ (.slice none 0 0)) fun w5 hv => ?_
   rw [← hv]
   have og_ : w4.grownBy w5 (some w.heap.size) := by rw [hv]; exact gs5
   have kb_ : Bx w5 w.heap.size 24 #[.int .i64 0, .int .i64 0, .string ⟨#[]⟩, .string ⟨#[]⟩, .slice none 0 0] := by rw [hv]; exact (((((K.out.set 0 _).set 1 _).set 2 _).set 3 _).set 4 _)
   clear hv
   replace B := Lib.hid (B.out.trans (gr_to og_ (by omega) B.out.size))
   replace H := Lib.hid (H.out.only og_ (fun b o e => by have := HP.out b o e; omega))
   replace K := Lib.hid kb_
   have z6_ := og_.size
   clear og_ kb_
   refine bodyPost_ret (results_box3 rfl _ _ w.heap.size 24 _ _ _ rfl K.out Tryz.underlying24 rfl (by kernel_rfl)) rfl ?_
   exact ⟨Ex.zero, none, 0, k + 1, true, rfl, FoS.nil, B.out, hk1.out, outR_of_err (by unfold lookP; rw [needP_yes Hy1.out]; dsimp only; rw [nameP_no Hy2.out])⟩
  | true =>
   have hk2 : Hid (k + 1 < ts.length) := namedT_lt Hy2.out
   have hw2_ : IntKind.i64.wrap ((k : Int) + 2) = (k : Int) + 2 := IntWalk.i64_in _ (by have := hk2.out; have := HL.out; omega)
   obtain ⟨y3, hy3⟩ : ∃ t, isT 3 [44] (ts.drop (k + 2)) = t := ⟨_, rfl⟩
   have Hy3 := Lib.hid hy3; clear hy3
   go_wp2_with fail
   refine (rsign_at H.out (k + 2) ⟨#[44]⟩ (sl := [44]) (by rw [Lib.toList_data]) Hy3.out (by rfl)).mono ?_
   rintro e w6 ⟨rfl, hb_⟩
   replace B := Lib.hid (be_call B.out hb_)
   replace H := Lib.hid (H.out.keep hb_)
   replace K := Lib.hid (K.out.keep hb_)
   have z7_ := hb_.size
   clear hb_
   cases y3 with
   | false =>
    refine K.out.e5 fun pK_0 qK_0 pK_1 qK_1 pK_2 qK_2 pK_3 qK_3 pK_4 qK_4 => ?_
    go_wp2_with fail
    clear pK_0 qK_0 pK_1 qK_1 pK_2 qK_2 pK_3 qK_3 pK_4 qK_4
    refine nmW (((((w6.setCell ⟨w.heap.size, 0, none⟩ (.int .i64 0)).setCell ⟨w.heap.size, 1, none⟩ (.int .i64 0)).setCell ⟨w.heap.size, 2, none⟩ (.string ⟨#[]⟩)).setCell ⟨w.heap.size, 3, none⟩ (.string ⟨#[]⟩)).setCell ⟨w.heap.size, 4, none⟩ (.slice none 0 0)) fun w7 hv => ?_
    rw [← hv]
    have og_ : w6.grownBy w7 (some w.heap.size) := by rw [hv]; exact gs5
    have kb_ : Bx w7 w.heap.size 24 #[.int .i64 0, .int .i64 0, .string ⟨#[]⟩, .string ⟨#[]⟩, .slice none 0 0] := by rw [hv]; exact (((((K.out.set 0 _).set 1 _).set 2 _).set 3 _).set 4 _)
    clear hv
    replace B := Lib.hid (B.out.trans (gr_to og_ (by omega) B.out.size))
    replace H := Lib.hid (H.out.only og_ (fun b o e => by have := HP.out b o e; omega))
    replace K := Lib.hid kb_
    have z8_ := og_.size
    clear og_ kb_
    refine bodyPost_ret (results_box3 rfl _ _ w.heap.size 24 _ _ _ rfl K.out Tryz.underlying24 rfl (by kernel_rfl)) rfl ?_
    exact ⟨Ex.zero, none, 0, k + 2, true, rfl, FoS.nil, B.out, hk2.out, outR_of_err (by unfold lookP; rw [needP_yes Hy1.out]; dsimp only; rw [nameP_yes hk2.out Hy2.out]; dsimp only; rw [needP_not Hy3.out])⟩
   | true =>
    have hk3 : Hid (k + 3 ≤ ts.length) := isT_lt Hy3.out
    have hw3_ : IntKind.i64.wrap ((k : Int) + 3) = (k : Int) + 3 := IntWalk.i64_in _ (by have := hk3.out; have := HL.out; omega)
    have HN3 : Hid ((ts.drop (k + 3)).length < N) := by show _ < _; have h1 := HN.out; have h2 := hk3.out; rw [List.length_drop] at *; omega
    go_wp2_with fail
    refine (rargs_ok (k0 := k + 3) (most := 1) HE.out HS.out H.out (fun b o e => by have := HP.out b o e; omega) HL.out hk3.out (by rfl) HN3.out (by decide) (by rfl)).mono ?_
    rintro e w8 ⟨f, q, d, k2, b2, rfl, hf_, hb_, hk_, ho_⟩
    replace B := Lib.hid (be_call B.out hb_)
    replace H := Lib.hid (H.out.keep hb_)
    replace K := Lib.hid (K.out.keep hb_)
    have z9_ := hb_.size
    clear hb_
    have F := Lib.hid hf_; have ho := Lib.hid ho_; have HKk2 := Lib.hid hk_; clear hf_ ho_ hk_
    obtain ⟨b1, o1, hp1, -, c1, -, -⟩ := H.out.tok hk2.out
    subst hp1
    have hix : ((k : Int) + 1) < (ts.length : Int) := by have := hk2.out; omega
    have hix0 : (0 : Int) ≤ (k : Int) + 1 := by omega
    have c1_ : w8.cell? ⟨b1, o1 + (k + 1) * 4 + 1, none⟩ = some (.string ⟨(ts[k + 1]'hk2.out).text.toArray⟩) := c1
    clear c1
    obtain ⟨mm, hmm⟩ : ∃ mm, (ts[k + 1]'hk2.out).text = mm := ⟨_, rfl⟩
    rw [hmm] at c1_
    have HMM := Lib.hid hmm; clear hmm
    refine K.out.e5 fun pK_0 qK_0 pK_1 qK_1 pK_2 qK_2 pK_3 qK_3 pK_4 qK_4 => ?_
    go_wp2_with fail
    clear pK_0 qK_0 pK_1 qK_1 pK_2 qK_2 pK_3 qK_3 pK_4 qK_4 c1_
    refine nmW (((((w8.setCell ⟨w.heap.size, 0, none⟩ (.int .i64 2)).setCell ⟨w.heap.size, 1, none⟩ (.int .i64 0)).setCell ⟨w.heap.size, 2, none⟩ (.string ⟨#[]⟩)).setCell ⟨w.heap.size, 3, none⟩ (.string ⟨mm.toArray⟩)).setCell ⟨w.heap.size, 4, none⟩ (.slice q f.len d)) fun w9 hv => ?_
    rw [← hv]
    have og_ : w8.grownBy w9 (some w.heap.size) := by rw [hv]; exact gs5
    have kb_ : Bx w9 w.heap.size 24 #[.int .i64 2, .int .i64 0, .string ⟨#[]⟩, .string ⟨mm.toArray⟩, .slice q f.len d] := by rw [hv]; exact (((((K.out.set 0 _).set 1 _).set 2 _).set 3 _).set 4 _)
    clear hv
    replace B := Lib.hid (B.out.trans (gr_to og_ (by omega) B.out.size))
    replace H := Lib.hid (H.out.only og_ (fun b o e => by have := HP.out b o e; omega))
    replace K := Lib.hid kb_
    replace F := Lib.hid (F.out.grown og_ (fun hd => by have := hd.1; have := hd.2; omega))
    have z10_ := og_.size
    clear og_ kb_
    refine bodyPost_ret (results_box3 rfl _ _ w.heap.size 24 _ _ _ rfl K.out Tryz.underlying24 rfl (by kernel_rfl)) rfl ?_
    exact ⟨⟨2, 0, [], mm, f⟩, q, d, k2, b2, rfl, (F.out.mono (fun b hb => ⟨by have := hb.1; omega, by have := hb.2; omega⟩)), B.out, HKk2.out, by rw [← HMM.out]; exact look_ok Hy1.out hk2.out Hy2.out Hy3.out ho.out⟩
end Go.Proofs.YtckgmilmhofekaaGreatDoor
namespace Go.Proofs.YtckgmilmhofekaaGreatDoor
open Go.RowKit

def RAOK (p : Option Addr) (c : Nat) (ts : List Tok) (A : List Tok → PR) (N : Nat) : Prop := ∀ (w : World) (k : Nat) (ki : Int), ki = (k : Int) → ToksIn w (.slice p ts.length c) ts → (∀ b o, p = some ⟨b, o, none⟩ → b < w.heap.size) → k ≤ ts.length → (ts.drop k).length ≤ N →
 Calls Tryz.prog 68 #[.slice p ts.length c, .int .i64 ki] w (RxPost ts (A (ts.drop k)) w)
theorem atom_is {E : List Tok → PR} {ts : List Tok} {k : Nat} (hk : k < ts.length) : atomP E (ts.drop k) =
  if ts[k].kind = 1 then .ok (numP ts[k] (ts.drop (k + 1)))
  else if isT 3 [40] (ts.drop k) = true then parenP E (ts.drop (k + 1))
  else if isT 0 wLook (ts.drop k) = true then lookP E (ts.drop (k + 1))
  else if isT 0 wMin (ts.drop k) = true then opensP E 10 1 (ts.drop (k + 1))
  else if isT 0 wMax (ts.drop k) = true then opensP E 11 1 (ts.drop (k + 1))
  else if namedT (ts.drop k) = true then (if isT 3 [40] (ts.drop (k + 1)) = true then callP E ts[k].text (ts.drop (k + 2)) else .ok (⟨1, 0, [], ts[k].text, .nil⟩, ts.drop (k + 1)))
  else .error (ts.drop k) := by
 rw [drop_tok hk, atomP_cons]
 have h : (namedT (ts[k] :: ts.drop (k + 1)) = true) = (ts[k].kind = 0 ∧ wordB ts[k].text = false) := by
  show (((ts[k].kind == 0) && !wordB ts[k].text) = true) = _
  simp
 simp only [h, List.tail_drop]
theorem num_one {ts : List Tok} {k : Nat} (hk : k < ts.length) (h1 : ¬ ∃ h : k + 1 < ts.length, ts[k + 1].kind = 2) : numP ts[k] (ts.drop (k + 1)) = (⟨0, ts[k].n, [], [], .nil⟩, ts.drop (k + 1)) := by
  rcases Nat.lt_or_ge (k + 1) ts.length with h2 | h2
  · rw [drop_tok h2]
    show (if ts[k + 1].kind = 2 then _ else _) = _
    rw [if_neg (fun h => h1 ⟨h2, h⟩)]
  · rw [List.drop_eq_nil_of_le h2]; rfl
theorem num_two {ts : List Tok} {k : Nat} (hk : k < ts.length) (h2 : k + 1 < ts.length) (h1 : ts[k + 1].kind = 2) : numP ts[k] (ts.drop (k + 1)) = (⟨0, ts[k].n, ts[k + 1].text, [], .nil⟩, ts.drop (k + 2)) := by
 rw [drop_tok h2]
 show (if ts[k + 1].kind = 2 then _ else _) = _
 rw [if_pos h1]
theorem paren_ok {E : List Tok → PR} {ts : List Tok} {k k2 : Nat} {f : Fo} (ho : outL ts (argP E 1 (ts.drop k)) f k2 false) : ∃ x, f.list[0]? = some x ∧ f.len = 1 ∧ parenP E (ts.drop k) = .ok (x, ts.drop k2) := by
  have h : someP E 0 (ts.drop k) = .ok (f, ts.drop k2) := outL_ok ho
  unfold someP at h
  unfold parenP
  cases hE : E (ts.drop k) with
  | error r => rw [hE] at h; cases h
  | ok y =>
    obtain ⟨x, l1⟩ := y
    rw [hE] at h
    dsimp only at h ⊢
    unfold moreP at h
    cases hn : needP 3 [41] l1 with
    | error r => rw [hn] at h; cases h
    | ok l2 =>
      rw [hn] at h
      have h := Prod.mk.inj (Except.ok.inj h)
      refine ⟨x, ?_, ?_, by rw [← h.2]⟩
      · rw [← h.1]; rfl
      · rw [← h.1]; rfl
theorem paren_er {E : List Tok → PR} {ts : List Tok} {k k2 : Nat} {f : Fo} (ho : outL ts (argP E 1 (ts.drop k)) f k2 true) : parenP E (ts.drop k) = .error (ts.drop k2) := by
 have h : someP E 0 (ts.drop k) = .error (ts.drop k2) := outL_er ho
 unfold someP at h
 unfold parenP
 cases hE : E (ts.drop k) with
 | error r => rw [hE] at h; have h := Except.error.inj h; rw [← h]
 | ok y =>
  obtain ⟨x, l1⟩ := y
  rw [hE] at h
  dsimp only at h ⊢
  unfold moreP at h
  cases hn : needP 3 [41] l1 with
  | error r => rw [hn] at h; have h := Except.error.inj h; rw [← h]
  | ok l2 => rw [hn] at h; cases h
theorem opens_out {E : List Tok → PR} {ts : List Tok} {op : Int} {k k2 : Nat} {f : Fo} {b : Bool} (ho : outL ts (openP E 2 (ts.drop k)) f k2 b) : outR ts (opensP E op 1 (ts.drop k)) ⟨op, 0, [], [], f⟩ k2 b := by
 unfold openP at ho
 unfold opensP
 cases hn : needP 3 [40] (ts.drop k) with
 | error r =>
  rw [hn] at ho
  exact ho
 | ok l1 =>
  rw [hn] at ho
  dsimp only at ho ⊢
  have ho : outL ts (someP E 1 l1) f k2 b := ho
  cases b with
  | true => rw [outL_er ho]; exact ⟨rfl, rfl⟩
  | false => rw [outL_ok ho]; exact ⟨rfl, rfl, rfl⟩
theorem call_out {E : List Tok → PR} {ts : List Tok} {m : Bytes} {k k2 : Nat} {f : Fo} {b : Bool} (h1 : isT 3 [40] (ts.drop k) = true) (ho : outL ts (openP E 0 (ts.drop k)) f k2 b) : outR ts (callP E m (ts.drop (k + 1))) ⟨3, 0, [], m, f⟩ k2 b := by
 unfold openP at ho
 rw [needP_yes h1] at ho
 have ho : outL ts (anyL E (ts.drop (k + 1))) f k2 b := ho
 rw [callP_is]
 cases b with
 | true => rw [outL_er ho]; exact ⟨rfl, rfl⟩
 | false => rw [outL_ok ho]; exact ⟨rfl, rfl, rfl⟩
theorem isT_text {q : Nat} {s : Bytes} {ts : List Tok} {k : Nat} (hk : k < ts.length) (h : isT q s (ts.drop k) = true) : ts[k].text = s := by
 rw [isT_at hk] at h
 simp only [Bool.and_eq_true, beq_iff_eq] at h
 exact h.2
set_option maxRecDepth 100000 in
set_option maxHeartbeats 4000000 in
theorem rsmall_ok {w : World} {p : Option Addr} {c : Nat} {ts : List Tok} {E : List Tok → PR} {N k : Nat} {ki : Int} (hE : REOK p c ts E N) (hS : Shrinks E) (h : ToksIn w (.slice p ts.length c) ts) (hp : ∀ b o, p = some ⟨b, o, none⟩ → b < w.heap.size) (hlen : ts.length ≤ 1099511627776) (hk : k ≤ ts.length) (hki : ki = (k : Int)) (hN : (ts.drop k).length ≤ N) :
    Calls Tryz.prog 68 #[.slice p ts.length c, .int .i64 ki] w (RxPost ts (atomP E (ts.drop k)) w) := by
  have HE := Lib.hid hE; have HS := Lib.hid hS; have HN := Lib.hid hN
  subst hki
  have H := Lib.hid h; have HP := Lib.hid hp; have HL := Lib.hid hlen; have HK0 := Lib.hid hk
  have B : Hid (Below w.heap.size w w) := be_refl w
  clear h hp hlen hk hE hS hN
  go_enter Tryz.func68, Tryz.ntmps68
  go_upto_region 1 with fail
  refine nmW (w.alloc (.cells #[.int .i64 0, .int .i64 0, .string ⟨#[]⟩, .string ⟨#[]⟩, .slice none 0 0] 24)) fun w1 hv => ?_
  rw [← hv]
  have K := bxh hv
  have hb_ := bah hv
  clear hv
  have z1_ := K.out.lt
  replace B := Lib.hid (be_call B.out hb_)
  replace H := Lib.hid (H.out.keep hb_)
  have z2_ := hb_.size
  clear hb_
  by_cases hkl : k < ts.length
  · have hge : ¬ (ts.length : Int) ≤ (k : Int) := by omega
    have hlt : (k : Int) < (ts.length : Int) := by omega
    have hge0 : (0 : Int) ≤ (k : Int) := by omega
    have HKL := Lib.hid hkl
    have hk1 : Hid (k + 1 ≤ ts.length) := hkl
    obtain ⟨b1, o1, hp1, c0, c1, c2, c3⟩ := H.out.tok hkl
    have HAT0 : Hid (∀ t, ts[k]'HKL.out = t → atomP E (ts.drop k) = if t.kind = 1 then .ok (numP t (ts.drop (k + 1))) else if isT 3 [40] (ts.drop k) = true then parenP E (ts.drop (k + 1)) else if isT 0 wLook (ts.drop k) = true then lookP E (ts.drop (k + 1)) else if isT 0 wMin (ts.drop k) = true then opensP E 10 1 (ts.drop (k + 1)) else if isT 0 wMax (ts.drop k) = true then opensP E 11 1 (ts.drop (k + 1)) else if namedT (ts.drop k) = true then (if isT 3 [40] (ts.drop (k + 1)) = true then callP E t.text (ts.drop (k + 2)) else .ok (⟨1, 0, [], t.text, .nil⟩, ts.drop (k + 1))) else .error (ts.drop k)) := fun t h => by subst h; exact atom_is HKL.out
    have cc : ∀ t, ts[k]'HKL.out = t → w1.cell? ⟨b1, o1 + k * 4, none⟩ = some (.int .i64 t.kind) ∧ w1.cell? ⟨b1, o1 + k * 4 + 1, none⟩ = some (.string ⟨t.text.toArray⟩) ∧ w1.cell? ⟨b1, o1 + k * 4 + 2, none⟩ = some (.int .i64 t.n) ∧ w1.cell? ⟨b1, o1 + k * 4 + 3, none⟩ = some (.int .i64 t.pos) := fun t h => by subst h; exact ⟨c0, c1, c2, c3⟩
    clear c0 c1 c2 c3
    obtain ⟨t, ht⟩ : ∃ t, ts[k]'HKL.out = t := ⟨_, rfl⟩
    obtain ⟨c0, c1, c2, c3⟩ := cc t ht
    have HT := Lib.hid ht
    have HAT := Lib.hid (HAT0.out t ht)
    subst hp1
    clear hkl cc HAT0 ht
    go_upto_region 4 with fail
    clear c0 c1 c2 c3
    refine nmW (w1.alloc (.cells #[.int .i64 t.kind, .string ⟨t.text.toArray⟩, .int .i64 t.n, .int .i64 t.pos] 55)) fun w2 hv => ?_
    rw [← hv]
    have J := bxh hv
    have hb_ := bah hv
    clear hv
    have z3_ := J.out.lt
    replace B := Lib.hid (be_call B.out hb_)
    replace H := Lib.hid (H.out.keep hb_)
    replace K := Lib.hid (K.out.keep hb_)
    have z4_ := hb_.size
    clear hb_
    clear hge hlt
    have hw1_ : IntKind.i64.wrap ((k : Int) + 1) = (k : Int) + 1 := IntWalk.i64_in _ (by have := hk1.out; have := HL.out; omega)
    by_cases hkd : t.kind = 1
    · have hke : ((t.kind : Int) == 1) = true := by rw [beq_iff_eq]; omega
      have HKD := Lib.hid hkd; clear hkd
      refine J.out.q4 fun pJ_0 pJ_1 pJ_2 pJ_3 => ?_
      go_upto_region 6 with fail
      clear pJ_0 pJ_1 pJ_2 pJ_3
      refine nmW (w2.alloc (.cells #[.int .i64 0, .int .i64 t.n, .string ⟨#[]⟩, .string ⟨#[]⟩, .slice none 0 0] 24)) fun w3 hv => ?_
      rw [← hv]
      have L := bxh hv
      have hb_ := bah hv
      clear hv
      have z5_ := L.out.lt
      replace B := Lib.hid (be_call B.out hb_)
      replace H := Lib.hid (H.out.keep hb_)
      replace K := Lib.hid (K.out.keep hb_)
      replace J := Lib.hid (J.out.keep hb_)
      have z6_ := hb_.size
      clear hb_
      by_cases hk2 : k + 1 < ts.length
      · have hlt2 : (k : Int) + 1 < (ts.length : Int) := by omega
        have hge2 : (0 : Int) ≤ (k : Int) + 1 := by omega
        have HK2 := Lib.hid hk2; clear hk2
        have hw2_ : IntKind.i64.wrap ((k : Int) + 2) = (k : Int) + 2 := IntWalk.i64_in _ (by have := HK2.out; have := HL.out; omega)
        obtain ⟨b2, o2, hp2, c0, c1, -, -⟩ := H.out.tok HK2.out
        cases hp2
        have c0_ : w3.cell? ⟨b1, o1 + (k + 1) * 4, none⟩ = some (.int .i64 (ts[k + 1]'HK2.out).kind) := c0
        have c1_ : w3.cell? ⟨b1, o1 + (k + 1) * 4 + 1, none⟩ = some (.string ⟨(ts[k + 1]'HK2.out).text.toArray⟩) := c1
        clear c0 c1
        obtain ⟨kk, hkk⟩ : ∃ kk, (ts[k + 1]'HK2.out).kind = kk := ⟨_, rfl⟩
        rw [hkk] at c0_
        have HKK := Lib.hid hkk; clear hkk
        obtain ⟨uu, huu⟩ : ∃ uu, (ts[k + 1]'HK2.out).text = uu := ⟨_, rfl⟩
        rw [huu] at c1_
        have HUU := Lib.hid huu; clear huu
        by_cases hk3 : kk = 2
        · have hke2 : ((kk : Int) == 2) = true := by rw [beq_iff_eq]; omega
          have HK3 := Lib.hid hk3; clear hk3
          refine L.out.e5 fun pL_0 qL_0 pL_1 qL_1 pL_2 qL_2 pL_3 qL_3 pL_4 qL_4 => ?_
          go_upto_region 9 with fail
          clear pL_0 qL_0 pL_1 qL_1 pL_2 qL_2 pL_3 qL_3 pL_4 qL_4 c0_ c1_
          refine nmW (w3.setCell ⟨w2.heap.size, 2, none⟩ (.string ⟨uu.toArray⟩)) fun w4 hv => ?_
          rw [← hv]
          have og_ : w3.grownBy w4 (some w2.heap.size) := by rw [hv]; exact (gr_set _ _ _ _)
          have kb_ : Bx w4 w2.heap.size 24 #[.int .i64 0, .int .i64 t.n, .string ⟨uu.toArray⟩, .string ⟨#[]⟩, .slice none 0 0] := by rw [hv]; exact (L.out.set 2 _)
          clear hv
          replace B := Lib.hid (B.out.trans (gr_to og_ (by omega) B.out.size))
          replace H := Lib.hid (H.out.only og_ (fun b o e => by have := HP.out b o e; omega))
          replace K := Lib.hid (K.out.only og_ (by omega))
          replace J := Lib.hid (J.out.only og_ (by omega))
          replace L := Lib.hid kb_
          have z7_ := og_.size
          clear og_ kb_
          refine L.out.q5 fun pL_0 pL_1 pL_2 pL_3 pL_4 => ?_
          refine K.out.e5 fun pK_0 qK_0 pK_1 qK_1 pK_2 qK_2 pK_3 qK_3 pK_4 qK_4 => ?_
          go_wp2_with fail
          clear pL_0 pL_1 pL_2 pL_3 pL_4 pK_0 qK_0 pK_1 qK_1 pK_2 qK_2 pK_3 qK_3 pK_4 qK_4
          refine nmW (((((w4.setCell ⟨w.heap.size, 0, none⟩ (.int .i64 0)).setCell ⟨w.heap.size, 1, none⟩ (.int .i64 t.n)).setCell ⟨w.heap.size, 2, none⟩ (.string ⟨uu.toArray⟩)).setCell ⟨w.heap.size, 3, none⟩ (.string ⟨#[]⟩)).setCell ⟨w.heap.size, 4, none⟩ (.slice none 0 0)) fun w5 hv => ?_
          rw [← hv]
          have og_ : w4.grownBy w5 (some w.heap.size) := by rw [hv]; exact gs5
          have kb_ : Bx w5 w.heap.size 24 #[.int .i64 0, .int .i64 t.n, .string ⟨uu.toArray⟩, .string ⟨#[]⟩, .slice none 0 0] := by rw [hv]; exact (((((K.out.set 0 _).set 1 _).set 2 _).set 3 _).set 4 _)
          clear hv
          replace B := Lib.hid (B.out.trans (gr_to og_ (by omega) B.out.size))
          replace H := Lib.hid (H.out.only og_ (fun b o e => by have := HP.out b o e; omega))
          replace K := Lib.hid kb_
          replace J := Lib.hid (J.out.only og_ (by omega))
          replace L := Lib.hid (L.out.only og_ (by omega))
          have z8_ := og_.size
          clear og_ kb_
          refine bodyPost_ret (results_box3 rfl _ _ w.heap.size 24 _ _ _ rfl K.out Tryz.underlying24 rfl (by kernel_rfl)) rfl ?_
          exact ⟨⟨0, t.n, uu, [], .nil⟩, none, 0, k + 2, false, rfl, FoS.nil, B.out, HK2.out, outR_of_ok (by rw [HAT.out, if_pos HKD.out]; have := num_two HKL.out HK2.out (by rw [HKK.out, HK3.out]); rw [HT.out, HUU.out] at this; rw [this])⟩
        · have hke2 : ((kk : Int) == 2) = false := by rw [beq_eq_false_iff_ne]; omega
          have HK3 := Lib.hid hk3; clear hk3
          refine L.out.q5 fun pL_0 pL_1 pL_2 pL_3 pL_4 => ?_
          refine K.out.e5 fun pK_0 qK_0 pK_1 qK_1 pK_2 qK_2 pK_3 qK_3 pK_4 qK_4 => ?_
          go_wp2_with fail
          clear pL_0 pL_1 pL_2 pL_3 pL_4 pK_0 qK_0 pK_1 qK_1 pK_2 qK_2 pK_3 qK_3 pK_4 qK_4 c0_ c1_
          refine nmW (((((w3.setCell ⟨w.heap.size, 0, none⟩ (.int .i64 0)).setCell ⟨w.heap.size, 1, none⟩ (.int .i64 t.n)).setCell ⟨w.heap.size, 2, none⟩ (.string ⟨#[]⟩)).setCell ⟨w.heap.size, 3, none⟩ (.string ⟨#[]⟩)).setCell ⟨w.heap.size, 4, none⟩ (.slice none 0 0)) fun w6 hv => ?_
          rw [← hv]
          have og_ : w3.grownBy w6 (some w.heap.size) := by rw [hv]; exact gs5
          have kb_ : Bx w6 w.heap.size 24 #[.int .i64 0, .int .i64 t.n, .string ⟨#[]⟩, .string ⟨#[]⟩, .slice none 0 0] := by rw [hv]; exact (((((K.out.set 0 _).set 1 _).set 2 _).set 3 _).set 4 _)
          clear hv
          replace B := Lib.hid (B.out.trans (gr_to og_ (by omega) B.out.size))
          replace H := Lib.hid (H.out.only og_ (fun b o e => by have := HP.out b o e; omega))
          replace K := Lib.hid kb_
          replace J := Lib.hid (J.out.only og_ (by omega))
          replace L := Lib.hid (L.out.only og_ (by omega))
          have z9_ := og_.size
          clear og_ kb_
          refine bodyPost_ret (results_box3 rfl _ _ w.heap.size 24 _ _ _ rfl K.out Tryz.underlying24 rfl (by kernel_rfl)) rfl ?_
          exact ⟨⟨0, t.n, [], [], .nil⟩, none, 0, k + 1, false, rfl, FoS.nil, B.out, hk1.out, outR_of_ok (by rw [HAT.out, if_pos HKD.out]; have := num_one HKL.out (fun hq => HK3.out (by rw [← HKK.out]; exact hq.2)); rw [HT.out] at this; rw [this])⟩
      · have hlt2 : ¬ (k : Int) + 1 < (ts.length : Int) := by omega
        have HK2 := Lib.hid hk2; clear hk2
        refine L.out.q5 fun pL_0 pL_1 pL_2 pL_3 pL_4 => ?_
        refine K.out.e5 fun pK_0 qK_0 pK_1 qK_1 pK_2 qK_2 pK_3 qK_3 pK_4 qK_4 => ?_
        go_wp2_with fail
        clear pL_0 pL_1 pL_2 pL_3 pL_4 pK_0 qK_0 pK_1 qK_1 pK_2 qK_2 pK_3 qK_3 pK_4 qK_4
        refine nmW (((((w3.setCell ⟨w.heap.size, 0, none⟩ (.int .i64 0)).setCell ⟨w.heap.size, 1, none⟩ (.int .i64 t.n)).setCell ⟨w.heap.size, 2, none⟩ (.string ⟨#[]⟩)).setCell ⟨w.heap.size, 3, none⟩ (.string ⟨#[]⟩)).setCell ⟨w.heap.size, 4, none⟩ (.slice none 0 0)) fun w7 hv => ?_
        rw [← hv]
        have og_ : w3.grownBy w7 (some w.heap.size) := by rw [hv]; exact gs5
        have kb_ : Bx w7 w.heap.size 24 #[.int .i64 0, .int .i64 t.n, .string ⟨#[]⟩, .string ⟨#[]⟩, .slice none 0 0] := by rw [hv]; exact (((((K.out.set 0 _).set 1 _).set 2 _).set 3 _).set 4 _)
        clear hv
        replace B := Lib.hid (B.out.trans (gr_to og_ (by omega) B.out.size))
        replace H := Lib.hid (H.out.only og_ (fun b o e => by have := HP.out b o e; omega))
        replace K := Lib.hid kb_
        replace J := Lib.hid (J.out.only og_ (by omega))
        replace L := Lib.hid (L.out.only og_ (by omega))
        have z10_ := og_.size
        clear og_ kb_
        refine bodyPost_ret (results_box3 rfl _ _ w.heap.size 24 _ _ _ rfl K.out Tryz.underlying24 rfl (by kernel_rfl)) rfl ?_
        exact ⟨⟨0, t.n, [], [], .nil⟩, none, 0, k + 1, false, rfl, FoS.nil, B.out, hk1.out, outR_of_ok (by rw [HAT.out, if_pos HKD.out]; have := num_one HKL.out (fun hq => HK2.out hq.1); rw [HT.out] at this; rw [this])⟩
    · have hke : ((t.kind : Int) == 1) = false := by rw [beq_eq_false_iff_ne]; omega
      have HKD := Lib.hid hkd; clear hkd
      obtain ⟨y1, hy1⟩ : ∃ t, isT 3 [40] (ts.drop k) = t := ⟨_, rfl⟩
      have Hy1 := Lib.hid hy1; clear hy1
      obtain ⟨y2, hy2⟩ : ∃ t, isT 0 wLook (ts.drop k) = t := ⟨_, rfl⟩
      have Hy2 := Lib.hid hy2; clear hy2
      obtain ⟨y3, hy3⟩ : ∃ t, isT 0 wMin (ts.drop k) = t := ⟨_, rfl⟩
      have Hy3 := Lib.hid hy3; clear hy3
      obtain ⟨y4, hy4⟩ : ∃ t, isT 0 wMax (ts.drop k) = t := ⟨_, rfl⟩
      have Hy4 := Lib.hid hy4; clear hy4
      obtain ⟨y5, hy5⟩ : ∃ t, namedT (ts.drop k) = t := ⟨_, rfl⟩
      have Hy5 := Lib.hid hy5; clear hy5
      obtain ⟨y6, hy6⟩ : ∃ t, isT 3 [40] (ts.drop (k + 1)) = t := ⟨_, rfl⟩
      have Hy6 := Lib.hid hy6; clear hy6
      have HN1 : Hid ((ts.drop (k + 1)).length < N) := by show _ < _; have h1 := HN.out; have h2 := HKL.out; rw [List.length_drop] at *; omega
      have HN1l : Hid ((ts.drop (k + 1)).length ≤ N) := Nat.le_of_lt HN1.out
      refine J.out.q4 fun pJ_0 pJ_1 pJ_2 pJ_3 => ?_
      go_wp2_with fail
      refine (rsign_at H.out (k) ⟨#[40]⟩ (sl := [40]) (by rw [Lib.toList_data]) Hy1.out rfl).mono ?_
      rintro e w8 ⟨rfl, hb_⟩
      replace B := Lib.hid (be_call B.out hb_)
      replace H := Lib.hid (H.out.keep hb_)
      replace K := Lib.hid (K.out.keep hb_)
      replace J := Lib.hid (J.out.keep hb_)
      have z11_ := hb_.size
      clear hb_
      clear pJ_0 pJ_1 pJ_2 pJ_3
      cases y1 with
      | true =>
        go_wp2_with fail
        refine (rargs_ok (k0 := k + 1) (most := 1) HE.out HS.out H.out (fun b o e => by have := HP.out b o e; omega) HL.out hk1.out (by rfl) HN1.out (by decide) (by rfl)).mono ?_
        rintro e w9 ⟨f, q, d, k2, b2, rfl, hf_, hb_, hk_, ho_⟩
        replace B := Lib.hid (be_call B.out hb_)
        replace H := Lib.hid (H.out.keep hb_)
        replace K := Lib.hid (K.out.keep hb_)
        replace J := Lib.hid (J.out.keep hb_)
        have z12_ := hb_.size
        clear hb_
        have F := Lib.hid hf_; have ho := Lib.hid ho_; have HKk2 := Lib.hid hk_; clear hf_ ho_ hk_
        cases b2 with
        | false =>
          obtain ⟨x, hx, hfl, hpx⟩ := paren_ok ho.out
          have HX := Lib.hid hpx; clear hpx
          obtain ⟨b3, o3, q3, d3, hq3, hb3, hc3, hs3⟩ := F.out.at hx
          subst hq3
          have E1 := Lib.hid hs3; clear hs3 hb3 hx
          have e0 : w9.cell? ⟨b3, o3, none⟩ = some (.int .i64 x.op) := by have := hc3 0 _ rfl; simpa using this
          have e1 : w9.cell? ⟨b3, o3 + 1, none⟩ = some (.int .i64 x.n) := by have := hc3 1 _ rfl; simpa using this
          have e2 : w9.cell? ⟨b3, o3 + 2, none⟩ = some (.string ⟨x.unit.toArray⟩) := by have := hc3 2 _ rfl; simpa using this
          have e3 : w9.cell? ⟨b3, o3 + 3, none⟩ = some (.string ⟨x.name.toArray⟩) := by have := hc3 3 _ rfl; simpa using this
          have e4 : w9.cell? ⟨b3, o3 + 4, none⟩ = some (.slice q3 x.args.len d3) := by have := hc3 4 _ rfl; simpa using this
          clear hc3
          have hfi : (0 : Int) < (f.len : Int) := by rw [hfl]; decide
          clear hfl
          clear F
          refine K.out.e5 fun pK_0 qK_0 pK_1 qK_1 pK_2 qK_2 pK_3 qK_3 pK_4 qK_4 => ?_
          go_wp2_with fail
          clear pK_0 qK_0 pK_1 qK_1 pK_2 qK_2 pK_3 qK_3 pK_4 qK_4 e0 e1 e2 e3 e4
          refine nmW (((((w9.setCell ⟨w.heap.size, 0, none⟩ (.int .i64 x.op)).setCell ⟨w.heap.size, 1, none⟩ (.int .i64 x.n)).setCell ⟨w.heap.size, 2, none⟩ (.string ⟨x.unit.toArray⟩)).setCell ⟨w.heap.size, 3, none⟩ (.string ⟨x.name.toArray⟩)).setCell ⟨w.heap.size, 4, none⟩ (.slice q3 x.args.len d3)) fun w10 hv => ?_
          rw [← hv]
          have og_ : w9.grownBy w10 (some w.heap.size) := by rw [hv]; exact gs5
          have kb_ : Bx w10 w.heap.size 24 #[.int .i64 x.op, .int .i64 x.n, .string ⟨x.unit.toArray⟩, .string ⟨x.name.toArray⟩, .slice q3 x.args.len d3] := by rw [hv]; exact (((((K.out.set 0 _).set 1 _).set 2 _).set 3 _).set 4 _)
          clear hv
          replace B := Lib.hid (B.out.trans (gr_to og_ (by omega) B.out.size))
          replace H := Lib.hid (H.out.only og_ (fun b o e => by have := HP.out b o e; omega))
          replace K := Lib.hid kb_
          replace J := Lib.hid (J.out.only og_ (by omega))
          replace E1 := Lib.hid (E1.out.grown og_ (fun hd => by have := hd.1; have := hd.2; omega))
          have z13_ := og_.size
          clear og_ kb_
          refine bodyPost_ret (results_box3 rfl _ _ w.heap.size 24 _ _ _ rfl K.out Tryz.underlying24 rfl (by kernel_rfl)) rfl ?_
          exact ⟨x, q3, d3, k2, false, rfl, (E1.out.mono (fun b hb => ⟨by have := hb.1; omega, by have := hb.2; omega⟩)), B.out, HKk2.out, outR_of_ok (by rw [HAT.out, if_neg HKD.out, if_pos Hy1.out]; exact HX.out)⟩
        | true =>
          refine K.out.e5 fun pK_0 qK_0 pK_1 qK_1 pK_2 qK_2 pK_3 qK_3 pK_4 qK_4 => ?_
          go_wp2_with fail
          clear pK_0 qK_0 pK_1 qK_1 pK_2 qK_2 pK_3 qK_3 pK_4 qK_4
          refine nmW (((((w9.setCell ⟨w.heap.size, 0, none⟩ (.int .i64 0)).setCell ⟨w.heap.size, 1, none⟩ (.int .i64 0)).setCell ⟨w.heap.size, 2, none⟩ (.string ⟨#[]⟩)).setCell ⟨w.heap.size, 3, none⟩ (.string ⟨#[]⟩)).setCell ⟨w.heap.size, 4, none⟩ (.slice none 0 0)) fun w11 hv => ?_
          rw [← hv]
          have og_ : w9.grownBy w11 (some w.heap.size) := by rw [hv]; exact gs5
          have kb_ : Bx w11 w.heap.size 24 #[.int .i64 0, .int .i64 0, .string ⟨#[]⟩, .string ⟨#[]⟩, .slice none 0 0] := by rw [hv]; exact (((((K.out.set 0 _).set 1 _).set 2 _).set 3 _).set 4 _)
          clear hv
          replace B := Lib.hid (B.out.trans (gr_to og_ (by omega) B.out.size))
          replace H := Lib.hid (H.out.only og_ (fun b o e => by have := HP.out b o e; omega))
          replace K := Lib.hid kb_
          replace J := Lib.hid (J.out.only og_ (by omega))
          replace F := Lib.hid (F.out.grown og_ (fun hd => by have := hd.1; have := hd.2; omega))
          have z14_ := og_.size
          clear og_ kb_
          refine bodyPost_ret (results_box3 rfl _ _ w.heap.size 24 _ _ _ rfl K.out Tryz.underlying24 rfl (by kernel_rfl)) rfl ?_
          exact ⟨Ex.zero, none, 0, k2, true, rfl, FoS.nil, B.out, HKk2.out, outR_of_err (by rw [HAT.out, if_neg HKD.out, if_pos Hy1.out]; exact paren_er ho.out)⟩
      | false =>
        go_wp2_with fail
        refine (rword_at H.out k ⟨#[108, 111, 111, 107]⟩ (sl := wLook) (by rw [Lib.toList_data]; rfl) Hy2.out rfl).mono ?_
        rintro e w12 ⟨rfl, hb_⟩
        replace B := Lib.hid (be_call B.out hb_)
        replace H := Lib.hid (H.out.keep hb_)
        replace K := Lib.hid (K.out.keep hb_)
        replace J := Lib.hid (J.out.keep hb_)
        have z15_ := hb_.size
        clear hb_
        cases y2 with
        | true =>
          go_wp2_with fail
          refine (rlooked_ok (k := k + 1) HE.out HS.out H.out (fun b o e => by have := HP.out b o e; omega) HL.out hk1.out (by rfl) HN1l.out).mono ?_
          rintro e w13 ⟨x, q, d, k2, b2, rfl, hf_, hb_, hk_, ho_⟩
          replace B := Lib.hid (be_call B.out hb_)
          replace H := Lib.hid (H.out.keep hb_)
          replace K := Lib.hid (K.out.keep hb_)
          replace J := Lib.hid (J.out.keep hb_)
          have z16_ := hb_.size
          clear hb_
          have F := Lib.hid hf_; have ho := Lib.hid ho_; have HKk2 := Lib.hid hk_; clear hf_ ho_ hk_
          unfold hdC
          go_upto_region 18 with fail
          refine nmW (w13.alloc (.cells #[.int .i64 x.op, .int .i64 x.n, .string ⟨x.unit.toArray⟩, .string ⟨x.name.toArray⟩, .slice q x.args.len d] 24)) fun w14 hv => ?_
          rw [← hv]
          have M := bxh hv
          have hb_ := bah hv
          clear hv
          have z17_ := M.out.lt
          replace B := Lib.hid (be_call B.out hb_)
          replace H := Lib.hid (H.out.keep hb_)
          replace K := Lib.hid (K.out.keep hb_)
          replace J := Lib.hid (J.out.keep hb_)
          replace F := Lib.hid (F.out.keep hb_)
          have z18_ := hb_.size
          clear hb_
          refine M.out.q5 fun pM_0 pM_1 pM_2 pM_3 pM_4 => ?_
          refine K.out.e5 fun pK_0 qK_0 pK_1 qK_1 pK_2 qK_2 pK_3 qK_3 pK_4 qK_4 => ?_
          go_wp2_with fail
          clear pM_0 pM_1 pM_2 pM_3 pM_4 pK_0 qK_0 pK_1 qK_1 pK_2 qK_2 pK_3 qK_3 pK_4 qK_4
          refine nmW (((((w14.setCell ⟨w.heap.size, 0, none⟩ (.int .i64 x.op)).setCell ⟨w.heap.size, 1, none⟩ (.int .i64 x.n)).setCell ⟨w.heap.size, 2, none⟩ (.string ⟨x.unit.toArray⟩)).setCell ⟨w.heap.size, 3, none⟩ (.string ⟨x.name.toArray⟩)).setCell ⟨w.heap.size, 4, none⟩ (.slice q x.args.len d)) fun w15 hv => ?_
          rw [← hv]
          have og_ : w14.grownBy w15 (some w.heap.size) := by rw [hv]; exact gs5
          have kb_ : Bx w15 w.heap.size 24 #[.int .i64 x.op, .int .i64 x.n, .string ⟨x.unit.toArray⟩, .string ⟨x.name.toArray⟩, .slice q x.args.len d] := by rw [hv]; exact (((((K.out.set 0 _).set 1 _).set 2 _).set 3 _).set 4 _)
          clear hv
          replace B := Lib.hid (B.out.trans (gr_to og_ (by omega) B.out.size))
          replace H := Lib.hid (H.out.only og_ (fun b o e => by have := HP.out b o e; omega))
          replace K := Lib.hid kb_
          replace J := Lib.hid (J.out.only og_ (by omega))
          replace F := Lib.hid (F.out.grown og_ (fun hd => by have := hd.1; have := hd.2; omega))
          replace M := Lib.hid (M.out.only og_ (by omega))
          have z19_ := og_.size
          clear og_ kb_
          refine bodyPost_ret (results_box3 rfl _ _ w.heap.size 24 _ _ _ rfl K.out Tryz.underlying24 rfl (by kernel_rfl)) rfl ?_
          exact ⟨x, q, d, k2, b2, rfl, (F.out.mono (fun b hb => ⟨by have := hb.1; omega, by have := hb.2; omega⟩)), B.out, HKk2.out, by rw [HAT.out, if_neg HKD.out, if_neg (by rw [Hy1.out]; decide), if_pos Hy2.out]; exact ho.out⟩
        | false =>
          go_wp2_with fail
          refine (rword_at H.out k ⟨#[109, 105, 110]⟩ (sl := wMin) (by rw [Lib.toList_data]; rfl) Hy3.out rfl).mono ?_
          rintro e w16 ⟨rfl, hb_⟩
          replace B := Lib.hid (be_call B.out hb_)
          replace H := Lib.hid (H.out.keep hb_)
          replace K := Lib.hid (K.out.keep hb_)
          replace J := Lib.hid (J.out.keep hb_)
          have z20_ := hb_.size
          clear hb_
          cases y3 with
          | true =>
            have HTX : Hid (t.text = wMin) := by show _ = _; rw [← HT.out]; exact isT_text HKL.out Hy3.out
            have htx : (t.text == [109, 97, 120]) = false := by rw [HTX.out]; rfl
            have htx2 : ((⟨t.text.toArray⟩ : ByteArray).toList == [109, 97, 120]) = false := by rw [Lib.toList_data]; exact htx
            refine J.out.q4 fun pJ_0 pJ_1 pJ_2 pJ_3 => ?_
            go_wp2_with fail
            clear pJ_0 pJ_1 pJ_2 pJ_3
            refine (ropened_ok (k := k + 1) (most := 2) HE.out HS.out H.out (fun b o e => by have := HP.out b o e; omega) HL.out hk1.out (by rfl) HN1l.out (by decide) (by rfl)).mono ?_
            rintro e w17 ⟨f, q, d, k2, b2, rfl, hf_, hb_, hk_, ho_⟩
            replace B := Lib.hid (be_call B.out hb_)
            replace H := Lib.hid (H.out.keep hb_)
            replace K := Lib.hid (K.out.keep hb_)
            replace J := Lib.hid (J.out.keep hb_)
            have z21_ := hb_.size
            clear hb_
            have F := Lib.hid hf_; have ho := Lib.hid ho_; have HKk2 := Lib.hid hk_; clear hf_ ho_ hk_
            refine K.out.e5 fun pK_0 qK_0 pK_1 qK_1 pK_2 qK_2 pK_3 qK_3 pK_4 qK_4 => ?_
            go_wp2_with fail
            clear pK_0 qK_0 pK_1 qK_1 pK_2 qK_2 pK_3 qK_3 pK_4 qK_4
            refine nmW (((((w17.setCell ⟨w.heap.size, 0, none⟩ (.int .i64 10)).setCell ⟨w.heap.size, 1, none⟩ (.int .i64 0)).setCell ⟨w.heap.size, 2, none⟩ (.string ⟨#[]⟩)).setCell ⟨w.heap.size, 3, none⟩ (.string ⟨#[]⟩)).setCell ⟨w.heap.size, 4, none⟩ (.slice q f.len d)) fun w18 hv => ?_
            rw [← hv]
            have og_ : w17.grownBy w18 (some w.heap.size) := by rw [hv]; exact gs5
            have kb_ : Bx w18 w.heap.size 24 #[.int .i64 10, .int .i64 0, .string ⟨#[]⟩, .string ⟨#[]⟩, .slice q f.len d] := by rw [hv]; exact (((((K.out.set 0 _).set 1 _).set 2 _).set 3 _).set 4 _)
            clear hv
            replace B := Lib.hid (B.out.trans (gr_to og_ (by omega) B.out.size))
            replace H := Lib.hid (H.out.only og_ (fun b o e => by have := HP.out b o e; omega))
            replace K := Lib.hid kb_
            replace J := Lib.hid (J.out.only og_ (by omega))
            replace F := Lib.hid (F.out.grown og_ (fun hd => by have := hd.1; have := hd.2; omega))
            have z22_ := og_.size
            clear og_ kb_
            refine bodyPost_ret (results_box3 rfl _ _ w.heap.size 24 _ _ _ rfl K.out Tryz.underlying24 rfl (by kernel_rfl)) rfl ?_
            exact ⟨⟨10, 0, [], [], f⟩, q, d, k2, b2, rfl, (F.out.mono (fun b hb => ⟨by have := hb.1; omega, by have := hb.2; omega⟩)), B.out, HKk2.out, by rw [HAT.out, if_neg HKD.out, if_neg (by rw [Hy1.out]; decide), if_neg (by rw [Hy2.out]; decide), if_pos Hy3.out]; exact opens_out ho.out⟩
          | false =>
            go_wp2_with fail
            refine (rword_at H.out k ⟨#[109, 97, 120]⟩ (sl := wMax) (by rw [Lib.toList_data]; rfl) Hy4.out rfl).mono ?_
            rintro e w19 ⟨rfl, hb_⟩
            replace B := Lib.hid (be_call B.out hb_)
            replace H := Lib.hid (H.out.keep hb_)
            replace K := Lib.hid (K.out.keep hb_)
            replace J := Lib.hid (J.out.keep hb_)
            have z23_ := hb_.size
            clear hb_
            cases y4 with
            | true =>
              have HTX : Hid (t.text = wMax) := by show _ = _; rw [← HT.out]; exact isT_text HKL.out Hy4.out
              have htx : (t.text == [109, 97, 120]) = true := by rw [HTX.out]; rfl
              have htx2 : ((⟨t.text.toArray⟩ : ByteArray).toList == [109, 97, 120]) = true := by rw [Lib.toList_data]; exact htx
              refine J.out.q4 fun pJ_0 pJ_1 pJ_2 pJ_3 => ?_
              go_wp2_with fail
              clear pJ_0 pJ_1 pJ_2 pJ_3
              refine (ropened_ok (k := k + 1) (most := 2) HE.out HS.out H.out (fun b o e => by have := HP.out b o e; omega) HL.out hk1.out (by rfl) HN1l.out (by decide) (by rfl)).mono ?_
              rintro e w20 ⟨f, q, d, k2, b2, rfl, hf_, hb_, hk_, ho_⟩
              replace B := Lib.hid (be_call B.out hb_)
              replace H := Lib.hid (H.out.keep hb_)
              replace K := Lib.hid (K.out.keep hb_)
              replace J := Lib.hid (J.out.keep hb_)
              have z24_ := hb_.size
              clear hb_
              have F := Lib.hid hf_; have ho := Lib.hid ho_; have HKk2 := Lib.hid hk_; clear hf_ ho_ hk_
              refine K.out.e5 fun pK_0 qK_0 pK_1 qK_1 pK_2 qK_2 pK_3 qK_3 pK_4 qK_4 => ?_
              go_wp2_with fail
              clear pK_0 qK_0 pK_1 qK_1 pK_2 qK_2 pK_3 qK_3 pK_4 qK_4
              refine nmW (((((w20.setCell ⟨w.heap.size, 0, none⟩ (.int .i64 11)).setCell ⟨w.heap.size, 1, none⟩ (.int .i64 0)).setCell ⟨w.heap.size, 2, none⟩ (.string ⟨#[]⟩)).setCell ⟨w.heap.size, 3, none⟩ (.string ⟨#[]⟩)).setCell ⟨w.heap.size, 4, none⟩ (.slice q f.len d)) fun w21 hv => ?_
              rw [← hv]
              have og_ : w20.grownBy w21 (some w.heap.size) := by rw [hv]; exact gs5
              have kb_ : Bx w21 w.heap.size 24 #[.int .i64 11, .int .i64 0, .string ⟨#[]⟩, .string ⟨#[]⟩, .slice q f.len d] := by rw [hv]; exact (((((K.out.set 0 _).set 1 _).set 2 _).set 3 _).set 4 _)
              clear hv
              replace B := Lib.hid (B.out.trans (gr_to og_ (by omega) B.out.size))
              replace H := Lib.hid (H.out.only og_ (fun b o e => by have := HP.out b o e; omega))
              replace K := Lib.hid kb_
              replace J := Lib.hid (J.out.only og_ (by omega))
              replace F := Lib.hid (F.out.grown og_ (fun hd => by have := hd.1; have := hd.2; omega))
              have z25_ := og_.size
              clear og_ kb_
              refine bodyPost_ret (results_box3 rfl _ _ w.heap.size 24 _ _ _ rfl K.out Tryz.underlying24 rfl (by kernel_rfl)) rfl ?_
              exact ⟨⟨11, 0, [], [], f⟩, q, d, k2, b2, rfl, (F.out.mono (fun b hb => ⟨by have := hb.1; omega, by have := hb.2; omega⟩)), B.out, HKk2.out, by rw [HAT.out, if_neg HKD.out, if_neg (by rw [Hy1.out]; decide), if_neg (by rw [Hy2.out]; decide), if_neg (by rw [Hy3.out]; decide), if_pos Hy4.out]; exact opens_out ho.out⟩
            | false =>
              go_wp2_with fail
              refine (rNamed_at H.out k Hy5.out rfl).mono ?_
              rintro e w22 ⟨rfl, hb_⟩
              replace B := Lib.hid (be_call B.out hb_)
              replace H := Lib.hid (H.out.keep hb_)
              replace K := Lib.hid (K.out.keep hb_)
              replace J := Lib.hid (J.out.keep hb_)
              have z26_ := hb_.size
              clear hb_
              cases y5 with
              | false =>
                refine K.out.e5 fun pK_0 qK_0 pK_1 qK_1 pK_2 qK_2 pK_3 qK_3 pK_4 qK_4 => ?_
                go_wp2_with fail
                clear pK_0 qK_0 pK_1 qK_1 pK_2 qK_2 pK_3 qK_3 pK_4 qK_4
                refine nmW (((((w22.setCell ⟨w.heap.size, 0, none⟩ (.int .i64 0)).setCell ⟨w.heap.size, 1, none⟩ (.int .i64 0)).setCell ⟨w.heap.size, 2, none⟩ (.string ⟨#[]⟩)).setCell ⟨w.heap.size, 3, none⟩ (.string ⟨#[]⟩)).setCell ⟨w.heap.size, 4, none⟩ (.slice none 0 0)) fun w23 hv => ?_
                rw [← hv]
                have og_ : w22.grownBy w23 (some w.heap.size) := by rw [hv]; exact gs5
                have kb_ : Bx w23 w.heap.size 24 #[.int .i64 0, .int .i64 0, .string ⟨#[]⟩, .string ⟨#[]⟩, .slice none 0 0] := by rw [hv]; exact (((((K.out.set 0 _).set 1 _).set 2 _).set 3 _).set 4 _)
                clear hv
                replace B := Lib.hid (B.out.trans (gr_to og_ (by omega) B.out.size))
                replace H := Lib.hid (H.out.only og_ (fun b o e => by have := HP.out b o e; omega))
                replace K := Lib.hid kb_
                replace J := Lib.hid (J.out.only og_ (by omega))
                have z27_ := og_.size
                clear og_ kb_
                refine bodyPost_ret (results_box3 rfl _ _ w.heap.size 24 _ _ _ rfl K.out Tryz.underlying24 rfl (by kernel_rfl)) rfl ?_
                exact ⟨Ex.zero, none, 0, k, true, rfl, FoS.nil, B.out, HK0.out, outR_of_err (by rw [HAT.out, if_neg HKD.out, if_neg (by rw [Hy1.out]; decide), if_neg (by rw [Hy2.out]; decide), if_neg (by rw [Hy3.out]; decide), if_neg (by rw [Hy4.out]; decide), if_neg (by rw [Hy5.out]; decide)])⟩
              | true =>
                go_wp2_with fail
                refine (rsign_at H.out (k + 1) ⟨#[40]⟩ (sl := [40]) (by rw [Lib.toList_data]) Hy6.out (by rfl)).mono ?_
                rintro e w24 ⟨rfl, hb_⟩
                replace B := Lib.hid (be_call B.out hb_)
                replace H := Lib.hid (H.out.keep hb_)
                replace K := Lib.hid (K.out.keep hb_)
                replace J := Lib.hid (J.out.keep hb_)
                have z28_ := hb_.size
                clear hb_
                cases y6 with
                | true =>
                  go_wp2_with fail
                  refine (ropened_ok (k := k + 1) (most := 0) HE.out HS.out H.out (fun b o e => by have := HP.out b o e; omega) HL.out hk1.out (by rfl) HN1l.out (by decide) (by rfl)).mono ?_
                  rintro e w25 ⟨f, q, d, k2, b2, rfl, hf_, hb_, hk_, ho_⟩
                  replace B := Lib.hid (be_call B.out hb_)
                  replace H := Lib.hid (H.out.keep hb_)
                  replace K := Lib.hid (K.out.keep hb_)
                  replace J := Lib.hid (J.out.keep hb_)
                  have z29_ := hb_.size
                  clear hb_
                  have F := Lib.hid hf_; have ho := Lib.hid ho_; have HKk2 := Lib.hid hk_; clear hf_ ho_ hk_
                  refine J.out.q4 fun pJ_0 pJ_1 pJ_2 pJ_3 => ?_
                  refine K.out.e5 fun pK_0 qK_0 pK_1 qK_1 pK_2 qK_2 pK_3 qK_3 pK_4 qK_4 => ?_
                  go_wp2_with fail
                  clear pJ_0 pJ_1 pJ_2 pJ_3 pK_0 qK_0 pK_1 qK_1 pK_2 qK_2 pK_3 qK_3 pK_4 qK_4
                  refine nmW (((((w25.setCell ⟨w.heap.size, 0, none⟩ (.int .i64 3)).setCell ⟨w.heap.size, 1, none⟩ (.int .i64 0)).setCell ⟨w.heap.size, 2, none⟩ (.string ⟨#[]⟩)).setCell ⟨w.heap.size, 3, none⟩ (.string ⟨t.text.toArray⟩)).setCell ⟨w.heap.size, 4, none⟩ (.slice q f.len d)) fun w26 hv => ?_
                  rw [← hv]
                  have og_ : w25.grownBy w26 (some w.heap.size) := by rw [hv]; exact gs5
                  have kb_ : Bx w26 w.heap.size 24 #[.int .i64 3, .int .i64 0, .string ⟨#[]⟩, .string ⟨t.text.toArray⟩, .slice q f.len d] := by rw [hv]; exact (((((K.out.set 0 _).set 1 _).set 2 _).set 3 _).set 4 _)
                  clear hv
                  replace B := Lib.hid (B.out.trans (gr_to og_ (by omega) B.out.size))
                  replace H := Lib.hid (H.out.only og_ (fun b o e => by have := HP.out b o e; omega))
                  replace K := Lib.hid kb_
                  replace J := Lib.hid (J.out.only og_ (by omega))
                  replace F := Lib.hid (F.out.grown og_ (fun hd => by have := hd.1; have := hd.2; omega))
                  have z30_ := og_.size
                  clear og_ kb_
                  refine bodyPost_ret (results_box3 rfl _ _ w.heap.size 24 _ _ _ rfl K.out Tryz.underlying24 rfl (by kernel_rfl)) rfl ?_
                  exact ⟨⟨3, 0, [], t.text, f⟩, q, d, k2, b2, rfl, (F.out.mono (fun b hb => ⟨by have := hb.1; omega, by have := hb.2; omega⟩)), B.out, HKk2.out, by rw [HAT.out, if_neg HKD.out, if_neg (by rw [Hy1.out]; decide), if_neg (by rw [Hy2.out]; decide), if_neg (by rw [Hy3.out]; decide), if_neg (by rw [Hy4.out]; decide), if_pos Hy5.out, if_pos Hy6.out]; exact call_out Hy6.out ho.out⟩
                | false =>
                  refine J.out.q4 fun pJ_0 pJ_1 pJ_2 pJ_3 => ?_
                  refine K.out.e5 fun pK_0 qK_0 pK_1 qK_1 pK_2 qK_2 pK_3 qK_3 pK_4 qK_4 => ?_
                  go_wp2_with fail
                  clear pJ_0 pJ_1 pJ_2 pJ_3 pK_0 qK_0 pK_1 qK_1 pK_2 qK_2 pK_3 qK_3 pK_4 qK_4
                  refine nmW (((((w24.setCell ⟨w.heap.size, 0, none⟩ (.int .i64 1)).setCell ⟨w.heap.size, 1, none⟩ (.int .i64 0)).setCell ⟨w.heap.size, 2, none⟩ (.string ⟨#[]⟩)).setCell ⟨w.heap.size, 3, none⟩ (.string ⟨t.text.toArray⟩)).setCell ⟨w.heap.size, 4, none⟩ (.slice none 0 0)) fun w27 hv => ?_
                  rw [← hv]
                  have og_ : w24.grownBy w27 (some w.heap.size) := by rw [hv]; exact gs5
                  have kb_ : Bx w27 w.heap.size 24 #[.int .i64 1, .int .i64 0, .string ⟨#[]⟩, .string ⟨t.text.toArray⟩, .slice none 0 0] := by rw [hv]; exact (((((K.out.set 0 _).set 1 _).set 2 _).set 3 _).set 4 _)
                  clear hv
                  replace B := Lib.hid (B.out.trans (gr_to og_ (by omega) B.out.size))
                  replace H := Lib.hid (H.out.only og_ (fun b o e => by have := HP.out b o e; omega))
                  replace K := Lib.hid kb_
                  replace J := Lib.hid (J.out.only og_ (by omega))
                  have z31_ := og_.size
                  clear og_ kb_
                  refine bodyPost_ret (results_box3 rfl _ _ w.heap.size 24 _ _ _ rfl K.out Tryz.underlying24 rfl (by kernel_rfl)) rfl ?_
                  exact ⟨⟨1, 0, [], t.text, .nil⟩, none, 0, k + 1, false, rfl, FoS.nil, B.out, hk1.out, outR_of_ok (by rw [HAT.out, if_neg HKD.out, if_neg (by rw [Hy1.out]; decide), if_neg (by rw [Hy2.out]; decide), if_neg (by rw [Hy3.out]; decide), if_neg (by rw [Hy4.out]; decide), if_pos Hy5.out, if_neg (by rw [Hy6.out]; decide)])⟩
  · have hge : (ts.length : Int) ≤ (k : Int) := by omega
    refine K.out.e5 fun pK_0 qK_0 pK_1 qK_1 pK_2 qK_2 pK_3 qK_3 pK_4 qK_4 => ?_
    go_wp2_with fail
    clear pK_0 qK_0 pK_1 qK_1 pK_2 qK_2 pK_3 qK_3 pK_4 qK_4
    refine nmW (((((w1.setCell ⟨w.heap.size, 0, none⟩ (.int .i64 0)).setCell ⟨w.heap.size, 1, none⟩ (.int .i64 0)).setCell ⟨w.heap.size, 2, none⟩ (.string ⟨#[]⟩)).setCell ⟨w.heap.size, 3, none⟩ (.string ⟨#[]⟩)).setCell ⟨w.heap.size, 4, none⟩ (.slice none 0 0)) fun w28 hv => ?_
    rw [← hv]
    have og_ : w1.grownBy w28 (some w.heap.size) := by rw [hv]; exact gs5
    have kb_ : Bx w28 w.heap.size 24 #[.int .i64 0, .int .i64 0, .string ⟨#[]⟩, .string ⟨#[]⟩, .slice none 0 0] := by rw [hv]; exact (((((K.out.set 0 _).set 1 _).set 2 _).set 3 _).set 4 _)
    clear hv
    replace B := Lib.hid (B.out.trans (gr_to og_ (by omega) B.out.size))
    replace H := Lib.hid (H.out.only og_ (fun b o e => by have := HP.out b o e; omega))
    replace K := Lib.hid kb_
    have z32_ := og_.size
    clear og_ kb_
    refine bodyPost_ret (results_box3 rfl _ _ w.heap.size 24 _ _ _ rfl K.out Tryz.underlying24 rfl (by kernel_rfl)) rfl ?_
    exact ⟨Ex.zero, none, 0, k, true, rfl, FoS.nil, B.out, HK0.out, outR_of_err (by rw [List.drop_eq_nil_of_le (by omega)]; rfl)⟩
end Go.Proofs.YtckgmilmhofekaaGreatDoor
