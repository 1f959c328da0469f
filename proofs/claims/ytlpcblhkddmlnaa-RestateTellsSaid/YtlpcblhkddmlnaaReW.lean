/- The reference: the last figure; copies. -/
import Derived.Test.YtlpcblhkddmlnaaBase
import Derived.Test.YtlpcblhkddmlnaaBigSpec
import Derived.Test.YtlpcblhkddmlnaaBigB
import Derived.Test.YtlpcblhkddmlnaaBigC
import Derived.Test.YtlpcblhkddmlnaaBigD
import Derived.Test.YtlpcblhkddmlnaaBigK
import Derived.Test.YtlpcblhkddmlnaaBigL
import Derived.Test.YtlpcblhkddmlnaaBigQ
import Derived.Test.YtlpcblhkddmlnaaFd
import Derived.Test.YtlpcblhkddmlnaaHeld
import Derived.Test.YtlpcblhkddmlnaaAw
import Derived.Test.YtlpcblhkddmlnaaFz
import Derived.Test.YtlpcblhkddmlnaaFracR
import Derived.Test.YtlpcblhkddmlnaaRefG
import Derived.Test.YtlpcblhkddmlnaaRw
import Derived.Test.YtlpcblhkddmlnaaReA
import Derived.Test.YtlpcblhkddmlnaaReB
import Derived.Test.YtlpcblhkddmlnaaReD
import Derived.Test.YtlpcblhkddmlnaaReP
import Derived.Test.YtlpcblhkddmlnaaReS
import Derived.Test.YtlpcblhkddmlnaaReQ
import Derived.Test.YtlpcblhkddmlnaaSpanN
import Derived.Test.YtlpcblhkddmlnaaProg
import Derived.Test.YtlpcblhkddmlnaaShelf
import Derived.WalkKit
import Derived.WalkSpells
import Derived.WalkLawsBesides
import Derived.Handy
import Derived.Lib.Hide
import Derived.Lib.Strings
import Derived.Lib.Builder
import Derived.BigQuiet
import Derived.OwnWalk
import Derived.Laws.BitsLemmas
import Derived.WalkSmall
import Derived.Deep.QuietTactic
import Derived.StillTailTactics
import Derived.Maps.AppendAt
import Derived.IntWalk
import Derived.Deep.RegionHeld3
import Derived.Deep.DeepFit
import Derived.Deep.LoopGhost
import Derived.Deep.DeepCutAuto
import Derived.Lib.ItoaNum
import Derived.Lib.Repeat
import Derived.Lib.AppendIntMem
import Derived.Sort.OwnSorted
import Derived.Shelf.Strings.SlTrimAscii
import Derived.Lib.ConvBytes
import Derived.Lib.CutLaws
import Derived.Maps.Own
import Derived.Maps.Views
import Derived.Maps.OwnOps
import Derived.RangeFuncNested
import Derived.RangeFuncBound
import Derived.RangeFuncCalls
import Derived.RangeFuncLeaves
import Derived.Shelf.Abstract
import Derived.Shelf.RegionOpen
import Derived.OwnWalkIn
import Derived.TacticsInMore
import Derived.LoopNIn
import Derived.LoopIn
import Derived.Laws.RangeAny
namespace Go.Proofs.Ytlpcblhkddmlnaa
open Go.RowKit Go.Lib
variable {G : Nat}

def oddB (c : UInt8) : Bool := decide (c.toNat < 33) || decide (126 < c.toNat)
theorem odd_dec (s : ByteArray) (i : Nat) (h : i < s.size) : oddR (Utf8.decode s i).1 = oddB s[i] ∧ (oddB s[i] = false → (Utf8.decode s i).2 = 1) := by
  by_cases hb : (s[i]'h).toNat < 128
  · rw [decode_ascii s i h hb]; exact ⟨rfl, fun _ => rfl⟩
  · have h1 := (decode_high s i h (by omega)).1
    have h2 : oddB s[i] = true := by unfold oddB; rw [decide_eq_true (show 126 < (s[i]'h).toNat by omega), Bool.or_true]
    rw [h2]
    refine ⟨?_, fun h3 => by cases h3⟩
    unfold oddR; rw [decide_eq_true (show 126 < (Utf8.decode s i).1 by omega), Bool.or_true]
theorem idx_none (s : ByteArray) : ∀ f pos, (∀ (j : Nat) (h : j < s.size), pos ≤ j → oddB s[j] = false) → idxFuncFrom oddR true s f pos = -1
  | 0, _, _ => rfl
  | f + 1, pos, hf => by
    rw [idxFuncFrom]
    split
    · rename_i h
      obtain ⟨h1, h2⟩ := odd_dec s pos h
      have h3 := hf pos h (Nat.le_refl _)
      rw [h3] at h1
      rw [h1, h2 h3, if_neg (by simp)]
      exact idx_none s f (pos + 1) fun j hj hp => hf j hj (by omega)
    · rfl
theorem idx_some (s : ByteArray) : ∀ f pos (j : Nat) (h : j < s.size), pos ≤ j → oddB s[j] = true → s.size ≤ pos + f → 0 ≤ idxFuncFrom oddR true s f pos
  | 0, pos, j, h, hp, _, hf => by omega
  | f + 1, pos, j, h, hp, ho, hf => by
    have hps : pos < s.size := by omega
    rw [idxFuncFrom, if_pos hps]
    obtain ⟨h1, h2⟩ := odd_dec s pos hps
    cases h3 : oddB (s[pos]'hps) with
    | true => rw [h1, h3, if_pos rfl]; omega
    | false =>
      rw [h1, h3, h2 h3, if_neg (by simp)]
      refine idx_some s f (pos + 1) j h ?_ ho (by omega)
      rcases Nat.eq_or_lt_of_le hp with h4 | h4
      · exfalso; subst h4; rw [h3] at ho; cases ho
      · omega
theorem key_odd {s : ByteArray} {k : Nat} (h : k < s.size) (ho : oddB s[k] = true) : keyOk s = false := by
 have h1 := idx_some s s.size 0 k h (Nat.zero_le _) ho (by omega)
 unfold keyOk Lib.idxFunc
 rw [decide_eq_true h1]; simp
theorem key_even {s : ByteArray} (h : ∀ (j : Nat) (h : j < s.size), oddB s[j] = false) : keyOk s = (decide (1 ≤ s.size) && decide (s.size ≤ 60)) := by
 have h1 := idx_none s s.size 0 fun j hj _ => h j hj
 unfold keyOk Lib.idxFunc
 rw [h1]; simp
theorem key_long {s : ByteArray} (h : 60 < s.size) : keyOk s = false := by
 unfold keyOk
 rw [decide_eq_false (show ¬ s.size ≤ 60 by omega)]; simp
theorem odd_or {c : UInt8} {b1 b2 : Bool} (h1 : decide ((c.toNat : Int) < 33) = b1) (h2 : decide ((126 : Int) < (c.toNat : Int)) = b2) : oddB c = (b1 || b2) := by
 unfold oddB
 rw [← h1, ← h2]
 congr 1 <;> (apply decide_eq_decide.2; omega)
set_option maxRecDepth 100000 in
set_option maxHeartbeats 4000000 in
theorem rKey_ok {s : ByteArray} {b_ : Bool} {w : World} (_hs : s.size ≤ 9223372036854775807) (hb : keyOk s = b_) :
  Calls Try.prog 51 #[.string s] w fun e w' => e = .returned (.bool b_) ∧ Below w.heap.size w w' := by
 have HB := Lib.hid hb; clear hb
 have M : Hid (Below w.heap.size w w) := Below.refl _ _
 go_enter Try.func51, Try.ntmps51
 go_wp2_with fail
 go_loopw [3] (fun i3 wr => ∃ (k : Nat), i3 = .int .i64 (k : Int) ∧ Hid (k ≤ s.size ∧ k ≤ 61) ∧ Hid (∀ (j : Nat) (h : j < s.size), j < k → oddB s[j] = false) ∧ Hid (Below w.heap.size w wr)) (fun i3 _ => s.size - (RowKit.intOf i3).toNat)
 case atStart =>
  exact ⟨0, rfl, (by show _ ∧ _; omega), (Lib.hid (fun j_ _ hp_ => absurd hp_ (Nat.not_lt_zero _))), Lib.hid M.out⟩
 case round =>
  obtain ⟨w1, rfl⟩ : ∃ x, x = wr := ⟨_, rfl⟩
  clear M
  obtain ⟨k, rfl, hk, HA, M⟩ := hrel
  have hk := hk.out
  have hw : (k < s.size ∧ k ≤ 60) ∨ (k < s.size ∧ 60 < k) ∨ k = s.size := by omega
  rcases hw with ⟨hlt, hk2⟩ | ⟨hlt, hk2⟩ | hlt
  ·
   have e1_0 : decide (k < s.size) = true := decide_eq_true (by omega)
   have e1_1 : decide ((k : Int) < (s.size : Int)) = true := decide_eq_true (by omega)
   have e1_i : (k : Int) < (s.size : Int) := by omega
   have e2_0 : decide (k ≤ 60) = true := decide_eq_true (by omega)
   have e2_1 : decide ((k : Int) ≤ 60) = true := decide_eq_true (by omega)
   have e2_i : (k : Int) ≤ 60 := by omega
   obtain ⟨b1, hb1⟩ : ∃ b, decide ((s[k].toNat : Int) < 33) = b := ⟨_, rfl⟩
   obtain ⟨b2, hb2⟩ : ∃ b, decide ((126 : Int) < (s[k].toNat : Int)) = b := ⟨_, rfl⟩
   have HOD := Lib.hid (odd_or hb1 hb2)
   have hi1_ : (k : Int) < (s.size : Int) := by omega
   have hi0_ : (0 : Int) ≤ (k : Int) := by omega
   cases b1 with
   | false =>
    cases b2 with
    | false =>
     go_wp2_with fail
     go_roundw
     case rel => exact ⟨(k + 1), by go_num, (by show _ ∧ _; omega), (Lib.hid (fun j_ hj_ hp_ => by rcases Nat.lt_or_eq_of_le (Nat.le_of_lt_succ hp_) with h_ | h_; exact HA.out j_ hj_ h_; subst h_; exact HOD.out.trans rfl)), Lib.hid M.out⟩
     case measure => simp [RowKit.intOf] <;> omega
    | true =>
     go_wp2_with fail
     have HZZ : Hid (keyOk s = false) := key_odd hlt (HOD.out.trans rfl)
     obtain rfl := HZZ.out.symm.trans HB.out
     go_ret
     exact ⟨rfl, M.out⟩
   | true =>
    go_wp2_with fail
    have HZZ : Hid (keyOk s = false) := key_odd hlt (HOD.out.trans rfl)
    obtain rfl := HZZ.out.symm.trans HB.out
    go_ret
    exact ⟨rfl, M.out⟩
  ·
   have e1_0 : decide (k < s.size) = true := decide_eq_true (by omega)
   have e1_1 : decide ((k : Int) < (s.size : Int)) = true := decide_eq_true (by omega)
   have e1_i : (k : Int) < (s.size : Int) := by omega
   have e2_0 : decide (k ≤ 60) = false := decide_eq_false (by omega)
   have e2_1 : decide ((k : Int) ≤ 60) = false := decide_eq_false (by omega)
   have e2_i : ¬ (k : Int) ≤ 60 := by omega
   have e3_0 : decide (1 ≤ s.size) = true := decide_eq_true (by omega)
   have e3_1 : decide (1 ≤ (s.size : Int)) = true := decide_eq_true (by omega)
   have e3_i : 1 ≤ (s.size : Int) := by omega
   have e4_0 : decide (s.size ≤ 60) = false := decide_eq_false (by omega)
   have e4_1 : decide ((s.size : Int) ≤ 60) = false := decide_eq_false (by omega)
   have e4_i : ¬ (s.size : Int) ≤ 60 := by omega
   have HZZ : Hid (keyOk s = false) := key_long (by omega)
   go_wp2_with fail
   obtain rfl := HZZ.out.symm.trans HB.out
   go_ret
   exact ⟨rfl, M.out⟩
  ·
   have hlt2 : s.size ≤ k := by omega
   clear hlt
   have e1_0 : decide (k < s.size) = false := decide_eq_false (by omega)
   have e1_1 : decide ((k : Int) < (s.size : Int)) = false := decide_eq_false (by omega)
   have e1_i : ¬ (k : Int) < (s.size : Int) := by omega
   obtain ⟨t1, ht1⟩ : ∃ b, decide (1 ≤ s.size) = b := ⟨_, rfl⟩
   obtain ⟨t2, ht2⟩ : ∃ b, decide (s.size ≤ 60) = b := ⟨_, rfl⟩
   have ht1i : decide ((1 : Int) ≤ (s.size : Int)) = t1 := by rw [← ht1]; exact decide_eq_decide.2 (by omega)
   have ht2i : decide ((s.size : Int) ≤ 60) = t2 := by rw [← ht2]; exact decide_eq_decide.2 (by omega)
   have HZZ : Hid (keyOk s = (t1 && t2)) := by show _ = _; rw [key_even (fun j hj => HA.out j hj (by omega)), ht1, ht2]
   cases t1 with
   | false =>
    go_wp2_with fail
    obtain rfl := HZZ.out.symm.trans HB.out
    go_ret
    exact ⟨rfl, M.out⟩
   | true =>
    go_wp2_with fail
    obtain rfl := HZZ.out.symm.trans HB.out
    go_ret
    exact ⟨rfl, M.out⟩
set_option maxRecDepth 100000 in
set_option maxHeartbeats 4000000 in
theorem rOne_x {key : ByteArray} {note : Int} (_hs : key.size ≤ 9223372036854775807) {u0 u1 u2 u3 v0 v1 v2 v3 : Value} {n1 m1 n2 m2 : Nat} {o1 o2 : Option Rat} {t6 b_ : Bool} {w : World} (h1 : FX w u0 u1 u2 u3 n1 m1 o1) (h2 : FX w v0 v1 v2 v3 n2 m2 o2) (hf1 : fewF n1 m1 = true) (hf2 : fewF n2 m2 = true) (ht6 : rightX o1 o2 = t6) (hb : (keyOk key && (decide (0 ≤ note) && (decide (note ≤ 1099511627776) && t6))) = b_) :
  Calls Try.prog 35 #[.agg #[.string key, .int .i64 note, u0, u1, u2, u3, v0, v1, v2, v3]] w fun e w' => e = .returned (.bool b_) ∧ Below w.heap.size w w' := by
 obtain ⟨tk, htk⟩ : ∃ b, keyOk key = b := ⟨_, rfl⟩
 obtain ⟨t4, ht4⟩ : ∃ b, decide (0 ≤ note) = b := ⟨_, rfl⟩
 obtain ⟨t5, ht5⟩ : ∃ b, decide (note ≤ 1099511627776) = b := ⟨_, rfl⟩
 rw [htk, ht4, ht5] at hb
 have HTK := Lib.hid htk; clear htk
 have HB := Lib.hid hb; clear hb
 have HF1 := Lib.hid hf1; have HF2 := Lib.hid hf2; have HR_ := Lib.hid ht6; clear hf1 hf2 ht6
 have H1 : Hid (FX w u0 u1 u2 u3 n1 m1 o1) := h1
 have H2 : Hid (FX w v0 v1 v2 v3 n2 m2 o2) := h2
 clear h1 h2
 have M : Hid (Below w.heap.size w w) := Below.refl _ _
 go_enter Try.func35, Try.ntmps35
 go_upto_region 1 with fail
 refine nmW (w.alloc (.cells #[.string key, .int .i64 note, u0, u1, u2, u3, v0, v1, v2, v3] 37)) fun w1 hv => ?_
 rw [← hv]
 replace M := alM hv M
 clear hv
 refine cj10 (M.out.1).d10 fun p0_0 p0_1 p0_2 p0_3 p0_4 p0_5 p0_6 p0_7 p0_8 p0_9 => ?_
 go_wp2_with fail
 clear p0_0 p0_1 p0_2 p0_3 p0_4 p0_5 p0_6 p0_7 p0_8 p0_9
 refine (rKey_ok (s := key) (b_ := tk) (by omega) HTK.out).mono ?_
 rintro e w2 ⟨rfl, hb⟩
 replace M := gnM hb M
 clear hb
 cases tk with
 | false =>
  go_wp2_with fail
  obtain rfl := HB.out
  go_ret
  exact ⟨rfl, (M.out.2)⟩
 | true =>
  cases t4 with
  | false =>
   refine cj10 (M.out.1).d10 fun p0_0 p0_1 p0_2 p0_3 p0_4 p0_5 p0_6 p0_7 p0_8 p0_9 => ?_
   go_wp2_with fail
   clear p0_0 p0_1 p0_2 p0_3 p0_4 p0_5 p0_6 p0_7 p0_8 p0_9
   obtain rfl := HB.out
   go_ret
   exact ⟨rfl, (M.out.2)⟩
  | true =>
   cases t5 with
   | false =>
    refine cj10 (M.out.1).d10 fun p0_0 p0_1 p0_2 p0_3 p0_4 p0_5 p0_6 p0_7 p0_8 p0_9 => ?_
    go_wp2_with fail
    clear p0_0 p0_1 p0_2 p0_3 p0_4 p0_5 p0_6 p0_7 p0_8 p0_9
    obtain rfl := HB.out
    go_ret
    exact ⟨rfl, (M.out.2)⟩
   | true =>
    refine cj10 (M.out.1).d10 fun p0_0 p0_1 p0_2 p0_3 p0_4 p0_5 p0_6 p0_7 p0_8 p0_9 => ?_
    go_wp2_with fail
    clear p0_0 p0_1 p0_2 p0_3 p0_4 p0_5 p0_6 p0_7 p0_8 p0_9
    refine (rsRight_x (o1 := o1) (o2 := o2) (b_ := t6) (H1.out.keep (M.out.2)) (H2.out.keep (M.out.2)) HF1.out HF2.out HR_.out).mono ?_
    rintro e w3 ⟨rfl, hb⟩
    replace M := gnM hb M
    clear hb
    go_wp2_with fail
    obtain rfl := HB.out
    go_ret
    exact ⟨rfl, (M.out.2)⟩
/-- The index of the last one of the first n keys that is the key. -/
def lastN (ks : List ByteArray) : Nat → ByteArray → Option Nat
 | 0, _ => none
 | n + 1, k => if ks[n]? = some k then some n else lastN ks n k
theorem lastN_hit {ks : List ByteArray} {n : Nat} {k : ByteArray} (h : ks[n]? = some k) : lastN ks (n + 1) k = some n := by rw [lastN, if_pos h]
theorem lastN_miss {ks : List ByteArray} {n : Nat} {k : ByteArray} (h : ¬ ks[n]? = some k) : lastN ks (n + 1) k = lastN ks n k := by rw [lastN, if_neg h]
theorem lastN_lt {ks : List ByteArray} {k : ByteArray} : ∀ {n i : Nat}, lastN ks n k = some i → i < n ∧ ks[i]? = some k
  | 0, i, h => by cases h
  | n + 1, i, h => by
    rw [lastN] at h
    split at h
    · rename_i h1; cases h; exact ⟨by omega, h1⟩
    · have := lastN_lt h; exact ⟨by omega, this.2⟩
theorem lastN_lastK {l : List Sh} {k : ByteArray} : ∀ (n : Nat), n ≤ l.length → lastK (l.take n) k = (lastN (l.map Sh.key) n k).bind (fun i => l[i]?)
  | 0, _ => rfl
  | n + 1, hn => by
    obtain ⟨x, hx⟩ : ∃ x, l[n]? = some x := ⟨l[n]'(by omega), List.getElem?_eq_getElem (by omega)⟩
    rw [take_next' hx, lastK_snoc, lastN]
    have h1 : (l.map Sh.key)[n]? = some x.key := by rw [List.getElem?_map, hx]; rfl
    rw [h1]
    by_cases h : x.key = k
    · rw [if_pos h, if_pos (by rw [h])]; exact hx.symm
    · rw [if_neg h, if_neg (fun h2 => h (Option.some.inj h2)), lastN_lastK n (by omega)]
def idxO : Option Nat → Int
 | none => -1
 | some i => (i : Int)
set_option maxRecDepth 100000 in
set_option maxHeartbeats 4000000 in
theorem rLastI {key : ByteArray} {l : List SR} {a : Option Addr} {n m c : Nat} {ro : Option Nat} {w : World} (h : RdR G w a n c l) (_hn : n ≤ 2000) (_hm : m ≤ n) (hr : lastN (l.map SR.key) m key = ro) :
  Calls Try.prog 36 #[.slice a n c, .int .i64 (m : Int), .string key] w fun e w' => e = .returned (.int .i64 (idxO ro)) ∧ Below w.heap.size w w' := by
 have HLN := Lib.hid hr; clear hr
 have HL : Hid (RdR G w a n c l) := h
 clear h
 have M : Hid (Below w.heap.size w w) := Below.refl _ _
 go_enter Try.func36, Try.ntmps36
 go_wp2_with fail
 go_loopw [7] (fun i7 wr => ∃ (r : Nat) (z : Int), i7 = .int .i64 z ∧ Hid (r ≤ m) ∧ Hid (z = (r : Int) - 1) ∧ Hid (lastN (l.map SR.key) r key = ro) ∧ Hid (Below w.heap.size w wr)) (fun i7 _ => ((RowKit.intOf i7) + 1).toNat)
 case atStart =>
  exact ⟨m, _, rfl, (by show _ ≤ _; omega), (Lib.hid rfl), HLN, Lib.hid M.out⟩
 case round =>
  obtain ⟨w1, rfl⟩ : ∃ x, x = wr := ⟨_, rfl⟩
  clear M
  obtain ⟨r, z, rfl, hk, HZ, HLN, M⟩ := hrel
  have hk := hk.out
  have hw : r = 0 ∨ 0 < r := by omega
  rcases hw with hr0 | hr0
  ·
   obtain rfl : r = 0 := by omega
   obtain rfl : z = -1 := by have h_ := HZ.out; omega
   have HRN : Hid (ro = none) := HLN.out.symm
   go_wp2_with fail
   obtain rfl := HRN.out
   go_ret
   exact ⟨rfl, M.out⟩
  ·
   obtain ⟨s, rfl⟩ : ∃ s, r = s + 1 := ⟨r - 1, by omega⟩
   obtain rfl : z = (s : Int) := by have h_ := HZ.out; omega
   have hlt : s < n := by omega
   have es1 : decide ((0 : Int) ≤ (s : Int)) = true := decide_eq_true (by omega)
   have es2 : (0 : Int) ≤ (s : Int) := by omega
   have es3 : (s : Int) < (n : Int) := by omega
   obtain ⟨b, off, rfl, hb_⟩ := RdL.ptr HL.out (by omega : 0 < n)
   have hkl_ : s < l.length := by rw [HL.out.len]; exact hlt
   obtain ⟨x_, hx_⟩ : ∃ x, l[s]? = some x := ⟨l[s], List.getElem?_eq_getElem hkl_⟩
   obtain ⟨xk, xn, xu0, xu1, xu2, xu3, xa, xb, xo, xv0, xv1, xv2, xv3, xc, xd, xp⟩ := x_
   have HRx : Hid (Row w b (off + s * 10) [.string xk, .int .i64 xn, xu0, xu1, xu2, xu3, xv0, xv1, xv2, xv3]) := hb_.row hx_
   have HXx : Hid (FX w xu0 xu1 xu2 xu3 xa xb xo) := SR.fx (hb_.ok hx_)
   have HYx : Hid (FX w xv0 xv1 xv2 xv3 xc xd xp) := SR.fx2 (hb_.ok hx_)
   have HEx := Lib.hid hx_; clear hx_ hkl_ hb_
   have HKS : Hid ((l.map SR.key)[s]? = some xk) := by show _ = _; rw [List.getElem?_map, HEx.out]; rfl
   by_cases hk_ : xk = key
   ·
    have hkt : (xk.toList == key.toList) = true := by rw [tl_eq]; exact decide_eq_true hk_
    have HRN : Hid (ro = some s) := by show _ = _; rw [← HLN.out]; exact lastN_hit (by rw [HKS.out, hk_])
    clear hk_
    refine cj10 (HRx.out.keep M.out).c10 fun r0_0 r0_1 r0_2 r0_3 r0_4 r0_5 r0_6 r0_7 r0_8 r0_9 => ?_
    go_wp2_with fail
    clear r0_0 r0_1 r0_2 r0_3 r0_4 r0_5 r0_6 r0_7 r0_8 r0_9
    obtain rfl := HRN.out
    go_ret
    exact ⟨rfl, M.out⟩
   ·
    have hkt : (xk.toList == key.toList) = false := by rw [tl_eq]; exact decide_eq_false hk_
    have HLM : Hid (lastN (l.map SR.key) s key = ro) := by show _ = _; rw [← HLN.out]; exact (lastN_miss (by rw [HKS.out]; exact fun h_ => hk_ (Option.some.inj h_))).symm
    clear hk_
    refine cj10 (HRx.out.keep M.out).c10 fun r0_0 r0_1 r0_2 r0_3 r0_4 r0_5 r0_6 r0_7 r0_8 r0_9 => ?_
    go_wp2_with fail
    clear r0_0 r0_1 r0_2 r0_3 r0_4 r0_5 r0_6 r0_7 r0_8 r0_9
    go_roundw
    case rel => exact ⟨s, ((s : Int) - 1), by go_num, (by show _ ≤ _; omega), (Lib.hid rfl), HLM, Lib.hid M.out⟩
    case measure => simp [RowKit.intOf] <;> omega
end Go.Proofs.Ytlpcblhkddmlnaa
namespace Go.Proofs.Ytlpcblhkddmlnaa
open Go.RowKit Go.Lib
variable {G : Nat}

theorem rLastI_none {key : ByteArray} {l : List SR} {a : Option Addr} {n m c : Nat} {w : World} (h : RdR G w a n c l) (hn : n ≤ 2000) (hm : m ≤ n) (hr : lastN (l.map SR.key) m key = none) :
  Calls Try.prog 36 #[.slice a n c, .int .i64 (m : Int), .string key] w fun e w' => e = .returned (.int .i64 (-1)) ∧ Below w.heap.size w w' := rLastI h hn hm hr
theorem rLastI_some {key : ByteArray} {l : List SR} {a : Option Addr} {n m c j : Nat} {w : World} (h : RdR G w a n c l) (hn : n ≤ 2000) (hm : m ≤ n) (hr : lastN (l.map SR.key) m key = some j) :
  Calls Try.prog 36 #[.slice a n c, .int .i64 (m : Int), .string key] w fun e w' => e = .returned (.int .i64 (j : Int)) ∧ Below w.heap.size w w' := rLastI h hn hm hr
theorem last_none {l : List SR} {k : Nat} {key : ByteArray} (hk : k ≤ l.length) (h : lastN (l.map SR.key) k key = none) : lastK ((l.take k).map SR.sh) key = none := by
 have h1 := lastN_lastK (l := l.map SR.sh) (k := key) k (by rw [List.length_map]; exact hk)
 rw [← List.map_take, show (l.map SR.sh).map Sh.key = l.map SR.key by rw [List.map_map]; rfl, h] at h1
 exact h1
theorem last_some {l : List SR} {k j : Nat} {key : ByteArray} {y : SR} (hk : k ≤ l.length) (h : lastN (l.map SR.key) k key = some j) (hy : l[j]? = some y) : lastK ((l.take k).map SR.sh) key = some y.sh ∧ y.key = key ∧ j < k ∧ y ∈ l.take k := by
  have h1 := lastN_lastK (l := l.map SR.sh) (k := key) k (by rw [List.length_map]; exact hk)
  rw [← List.map_take, show (l.map SR.sh).map Sh.key = l.map SR.key by rw [List.map_map]; rfl, h] at h1
  obtain ⟨h2, h3⟩ := lastN_lt h
  refine ⟨?_, ?_, h2, ?_⟩
  · rw [h1]; show (l.map SR.sh)[j]? = _; rw [List.getElem?_map, hy]; rfl
  · rw [List.getElem?_map, hy] at h3; exact Option.some.inj h3
  · rw [List.mem_iff_getElem?]; exact ⟨j, by rw [List.getElem?_take, if_pos h2, hy]⟩
theorem note_prev {l : List SR} {k : Nat} {z : SR} (hk : 0 < k) (hz : l[k - 1]? = some z) : noteOf ((l.take k).map SR.sh) = z.note := by
 obtain ⟨j, rfl⟩ : ∃ j, k = j + 1 := ⟨k - 1, by omega⟩
 rw [Nat.add_sub_cancel] at hz
 rw [List.take_add_one, hz, List.map_append]
 exact noteOf_snoc _ _
theorem ge_eq {a b : Int} (h : a ≤ b) : decide (a = b) = decide (b ≤ a) := by apply decide_eq_decide.2; omega
set_option maxRecDepth 100000 in
set_option maxHeartbeats 40000000 in
theorem rRight_x {l : List SR} {a : Option Addr} {n c : Nat} {b_ : Bool} {w : World} (h : RdR w.heap.size w a n c l) (hn : n ≤ 2000) (hs : ∀ x ∈ l, fewR x = true) (hb_ : rightL keyOk l = b_) :
  Calls Try.prog 19 #[.slice a n c] w fun e w' => e = .returned (.bool b_) ∧ Below w.heap.size w w' := by
 obtain ⟨b1, hb1⟩ : ∃ b1, rightSh keyOk [] l = b1 := ⟨_, rfl⟩
 unfold rightL at hb_
 rw [hb1, decide_eq_true (show l.length ≤ 2000 by rw [h.len]; exact hn), Bool.true_and] at hb_
 have HBB := Lib.hid hb_; have H1 : Hid (rightSh keyOk ((l.take 0).map SR.sh) (l.drop 0) = b1) := hb1; have HS := Lib.hid hs; clear hb_ hb1 hs
 have HL : Hid (RdR w.heap.size w a n c l) := h; clear h
 obtain ⟨G, hG0⟩ : ∃ G : Nat, G = w.heap.size := ⟨_, rfl⟩
 have hG : G ≤ w.heap.size := by omega
 have e0_0 : decide (2000 < n) = false := decide_eq_false (by omega)
 have e0_1 : decide ((2000 : Int) < (n : Int)) = false := decide_eq_false (by omega)
 have e0_i : ¬ (2000 : Int) < (n : Int) := by omega
 have HLG : Hid (RdR G w a n c l) := (by show RdR _ _ _ _ _ _; rw [hG0]; exact HL.out)
 have M : Hid (Below w.heap.size w w) := Below.refl _ _
 go_enter Try.func19, Try.ntmps19
 go_wp2_with fail
 go_loopw [3] (fun i3 wr => ∃ (k : Nat), i3 = .int .i64 (k : Int) ∧ Hid (k ≤ n) ∧ Hid (rightSh keyOk ((l.take k).map SR.sh) (l.drop k) = b1) ∧ Hid (∀ x ∈ l.take k, ∃ q r, x.o = some q ∧ x.p = some r) ∧ Hid (OkL keyOk ((l.take k).map SR.sh)) ∧ Hid (Below w.heap.size w wr)) (fun i3 _ => n - (RowKit.intOf i3).toNat)
 case atStart =>
  exact ⟨0, rfl, (by show _ ≤ _; omega), H1, (Lib.hid (fun x_ hx_ => by simp at hx_)), (Lib.hid (OkL.nil _)), Lib.hid M.out⟩
 case round =>
  obtain ⟨w1, rfl⟩ : ∃ x, x = wr := ⟨_, rfl⟩
  clear M
  obtain ⟨k, rfl, hk, HB, HALL, HOKP, M⟩ := hrel
  have hk := hk.out
  by_cases hlt : k < n
  ·
   have e1_0 : decide (k < n) = true := decide_eq_true (by omega)
   have e1_1 : decide ((k : Int) < (n : Int)) = true := decide_eq_true (by omega)
   have e1_i : (k : Int) < (n : Int) := by omega
   obtain ⟨b, off, rfl, hb_⟩ := RdL.ptr HL.out (by omega : 0 < n)
   have hkl_ : k < l.length := by rw [HL.out.len]; exact hlt
   obtain ⟨x_, hx_⟩ : ∃ x, l[k]? = some x := ⟨l[k], List.getElem?_eq_getElem hkl_⟩
   obtain ⟨xk, xn, xu0, xu1, xu2, xu3, xa, xb, xo, xv0, xv1, xv2, xv3, xc, xd, xp⟩ := x_
   have HRx : Hid (Row w b (off + k * 10) [.string xk, .int .i64 xn, xu0, xu1, xu2, xu3, xv0, xv1, xv2, xv3]) := hb_.row hx_
   have HXx : Hid (FX w xu0 xu1 xu2 xu3 xa xb xo) := SR.fx (hb_.ok hx_)
   have HYx : Hid (FX w xv0 xv1 xv2 xv3 xc xd xp) := SR.fx2 (hb_.ok hx_)
   have HEx := Lib.hid hx_; clear hx_ hkl_ hb_
   have HFx := Lib.hid (fewR_le (HS.out _ (List.mem_of_getElem? HEx.out)))
   obtain ⟨s1, hs1⟩ : ∃ b, shR keyOk ⟨xk, xn, xu0, xu1, xu2, xu3, xa, xb, xo, xv0, xv1, xv2, xv3, xc, xd, xp⟩ = b := ⟨_, rfl⟩
   have HS1 := Lib.hid hs1; clear hs1
   have hxk : xk.size ≤ 9223372036854775807 := by have h_ := HFx.out.1; dsimp only at h_; omega
   have hwk : k = 0 ∨ 0 < k := by omega
   rcases hwk with hk0 | hk0
   ·
    have hk1_ : k ≤ 0 := by omega
    clear hk0
    have e3_0 : decide (0 < k) = false := decide_eq_false (by omega)
    have e3_1 : decide (0 < (k : Int)) = false := decide_eq_false (by omega)
    have e3_i : ¬ 0 < (k : Int) := by omega
    cases s1 with
    | false =>
     go_wp2_with fail
     refine nmW w1.drew fun w2 hv => ?_
     replace M := drM hv M
     refine wp_region_held_drew (S := (fun w' => w'.cell? ⟨b, off + k * 10, none⟩ = some (.string xk) ∧ w'.cell? ⟨b, off + k * 10 + 1, none⟩ = some (.int .i64 xn) ∧ w'.cell? ⟨b, off + k * 10 + 2, none⟩ = some (xu0) ∧ w'.cell? ⟨b, off + k * 10 + 3, none⟩ = some (xu1) ∧ w'.cell? ⟨b, off + k * 10 + 4, none⟩ = some (xu2) ∧ w'.cell? ⟨b, off + k * 10 + 5, none⟩ = some (xu3) ∧ w'.cell? ⟨b, off + k * 10 + 6, none⟩ = some (xv0) ∧ w'.cell? ⟨b, off + k * 10 + 7, none⟩ = some (xv1) ∧ w'.cell? ⟨b, off + k * 10 + 8, none⟩ = some (xv2) ∧ w'.cell? ⟨b, off + k * 10 + 9, none⟩ = some (xv3))) (by kernel_rfl) (by rw [← hv]; exact ((HRx.out.keep M.out).c10)) (fun hH1 => ?_)
     rw [← hv] at hH1 ⊢
     clear hv
     refine tk at0 ?_
     refine tk at1 ?_
     refine tk at2 ?_
     refine tk at3 ?_
     refine wpAnyH_ready (rs := [4]) (by kernel_rfl) (by simp) ?_
     refine AllReadyH.cons at4 (fun K hK => ?_) AllReadyH.nil
     go_simp
     refine (rOne_x (key := xk) (note := xn) (o1 := xo) (o2 := xp) (t6 := (rightX xo xp)) (b_ := false) (by omega) (HXx.out.keep M.out) (HYx.out.keep M.out) HFx.out.2.1 HFx.out.2.2.1 rfl HS1.out).mono ?_
     rintro e w3 ⟨rfl, hb⟩
     replace M := gnM hb M
     clear hb
     (try go_wp2_with fail)
     refine hK.out _ _ (((HRx.out.keep M.out).c10)) (fun hH2 => ?_)
     clear hK K hH1
     (try simp only [Act.put, List.setIfInBounds_toArray, List.set_cons_zero, List.set_cons_succ])
     refine tk at5 ?_
     refine tk at6 ?_
     refine tu at7 ?_
     refine tu at8 ?_
     refine tu at9 ?_
     refine tu at10 ?_
     refine tu at11 ?_
     refine tu at12 ?_
     refine tu at13 ?_
     refine tu at14 ?_
     refine tu at15 ?_
     refine tu at16 ?_
     refine tu at17 ?_
     refine wpAnyH_ready (rs := [18]) (by kernel_rfl) (by simp) ?_
     refine AllReadyH.cons at18 (fun K hK => ?_) AllReadyH.nil
     rw [if_neg]
     rotate_left
     focus (intro h; exact Bool.noConfusion h)
     refine hK.out _ _ hH2 (fun _ => ?_)
     clear hK K
     (try simp only [Act.put, List.setIfInBounds_toArray, List.set_cons_zero, List.set_cons_succ])
     refine tu at19 ?_
     refine tu at20 ?_
     refine tu at21 ?_
     refine tu at22 ?_
     refine tu at23 ?_
     refine tk at24 ?_
     refine wpAnyH_done (by kernel_rfl) ?_ _
     clear hH2
     go_wp2_with fail
     have HZZ : Hid (b1 = false) := right_no1 HEx.out HB.out HS1.out
     obtain rfl := HZZ.out.symm.trans HBB.out
     go_ret
     exact ⟨rfl, M.out⟩
    | true =>
     obtain ⟨⟨xq, xr, hxo_, hxp_⟩, hok_⟩ := shR_ok HS1.out
     dsimp only at hxo_ hxp_
     subst hxo_ hxp_
     have HOK1 : Hid (okSh keyOk ⟨xk, xn, xq, xr⟩) := hok_
     clear hok_
     have HQx : Hid (FQ G w xu0 xu1 xu2 xu3 xq) := by show FQ _ _ _ _ _ _ _; rw [hG0]; exact HXx.out.fq
     have HSx : Hid (FQ G w xv0 xv1 xv2 xv3 xr) := by show FQ _ _ _ _ _ _ _; rw [hG0]; exact HYx.out.fq
     have HZx1 : Hid (Fz xq 3) := HXx.out.fz HFx.out.2.2.2.1 HFx.out.2.2.2.2.1
     have HZx2 : Hid (Fz xr 3) := HYx.out.fz HFx.out.2.2.2.2.2.1 HFx.out.2.2.2.2.2.2
     go_wp2_with fail
     refine nmW w1.drew fun w2 hv => ?_
     replace M := drM hv M
     refine wp_region_held_drew (S := (fun w' => w'.cell? ⟨b, off + k * 10, none⟩ = some (.string xk) ∧ w'.cell? ⟨b, off + k * 10 + 1, none⟩ = some (.int .i64 xn) ∧ w'.cell? ⟨b, off + k * 10 + 2, none⟩ = some (xu0) ∧ w'.cell? ⟨b, off + k * 10 + 3, none⟩ = some (xu1) ∧ w'.cell? ⟨b, off + k * 10 + 4, none⟩ = some (xu2) ∧ w'.cell? ⟨b, off + k * 10 + 5, none⟩ = some (xu3) ∧ w'.cell? ⟨b, off + k * 10 + 6, none⟩ = some (xv0) ∧ w'.cell? ⟨b, off + k * 10 + 7, none⟩ = some (xv1) ∧ w'.cell? ⟨b, off + k * 10 + 8, none⟩ = some (xv2) ∧ w'.cell? ⟨b, off + k * 10 + 9, none⟩ = some (xv3))) (by kernel_rfl) (by rw [← hv]; exact ((HRx.out.keep M.out).c10)) (fun hH3 => ?_)
     rw [← hv] at hH3 ⊢
     clear hv
     refine tk at0 ?_
     refine tk at1 ?_
     refine tk at2 ?_
     refine tk at3 ?_
     refine wpAnyH_ready (rs := [4]) (by kernel_rfl) (by simp) ?_
     refine AllReadyH.cons at4 (fun K hK => ?_) AllReadyH.nil
     go_simp
     refine (rOne_x (key := xk) (note := xn) (o1 := (some xq)) (o2 := (some xr)) (t6 := (rightX (some xq) (some xr))) (b_ := true) (by omega) (HXx.out.keep M.out) (HYx.out.keep M.out) HFx.out.2.1 HFx.out.2.2.1 rfl HS1.out).mono ?_
     rintro e w3 ⟨rfl, hb⟩
     replace M := gnM hb M
     clear hb
     (try go_wp2_with fail)
     refine hK.out _ _ (((HRx.out.keep M.out).c10)) (fun hH4 => ?_)
     clear hK K hH3
     (try simp only [Act.put, List.setIfInBounds_toArray, List.set_cons_zero, List.set_cons_succ])
     refine tk at5 ?_
     refine tk at6 ?_
     refine tk at7 ?_
     refine tk at8 ?_
     refine tk at9 ?_
     refine tu at10 ?_
     refine tu at11 ?_
     refine tu at12 ?_
     refine tu at13 ?_
     refine tu at14 ?_
     refine tu at15 ?_
     refine tu at16 ?_
     refine tu at17 ?_
     refine wpAnyH_ready (rs := [18]) (by kernel_rfl) (by simp) ?_
     refine AllReadyH.cons at18 (fun K hK => ?_) AllReadyH.nil
     rw [if_neg]
     rotate_left
     focus (intro h; exact Bool.noConfusion h)
     refine hK.out _ _ hH4 (fun _ => ?_)
     clear hK K
     (try simp only [Act.put, List.setIfInBounds_toArray, List.set_cons_zero, List.set_cons_succ])
     refine tu at19 ?_
     refine tu at20 ?_
     refine tu at21 ?_
     refine tu at22 ?_
     refine tk at23 ?_
     refine tk at24 ?_
     refine wpAnyH_done (by kernel_rfl) ?_ _
     clear hH4
     go_upto_region 8 with fail
     have HNT : Hid (noteOf ((l.take k).map SR.sh) ≤ xn) := by show _ ≤ _; rw [show k = 0 by omega]; exact HOK1.out.2.1
     rcases hln_ : lastN (l.map SR.key) k xk with _ | j
     ·
      have HLN := Lib.hid hln_; clear hln_
      have HLK : Hid (lastK ((l.take k).map SR.sh) xk = none) := last_none (by rw [HL.out.len]; omega) HLN.out
      have HOA : Hid (okAt ((l.take k).map SR.sh) ⟨xk, xn, xq, xr⟩ = true) := okAt_none HNT.out HLK.out
      refine cj10 (HRx.out.keep M.out).c10 fun r0_0 r0_1 r0_2 r0_3 r0_4 r0_5 r0_6 r0_7 r0_8 r0_9 => ?_
      go_wp2_with fail
      clear r0_0 r0_1 r0_2 r0_3 r0_4 r0_5 r0_6 r0_7 r0_8 r0_9
      refine (rLastI_none (G := G) (key := xk) (l := l) (HLG.out.keep M.out) (by omega) (by omega) HLN.out).mono ?_
      rintro e w4 ⟨rfl, hb⟩
      replace M := gnM hb M
      clear hb
      go_wp2_with fail
      go_roundw
      case rel => exact ⟨(k + 1), by go_num, (by show _ ≤ _; omega), (Lib.hid (by rw [take_next HEx.out]; exact right_go HEx.out HB.out HS1.out (HOA.out.trans rfl))), (Lib.hid (fun x_ hx_ => by rw [List.take_add_one, HEx.out] at hx_; rcases List.mem_append.1 hx_ with h_ | h_; exact HALL.out _ h_; simp at h_; subst h_; exact ⟨_, _, rfl, rfl⟩)), (Lib.hid (by rw [take_next HEx.out]; exact HOKP.out.snoc (by rw [List.length_map, List.length_take]; omega) HOK1.out (HOA.out.trans rfl))), Lib.hid M.out⟩
      case measure => simp [RowKit.intOf] <;> omega
     ·
      have HLN := Lib.hid hln_
      have hjk_ : j < k := (lastN_lt hln_).1
      clear hln_
      have hkl_ : j < l.length := by rw [HL.out.len]; omega
      obtain ⟨b_, off_, he_, hb_⟩ := RdL.ptr HL.out (by omega : 0 < n)
      obtain ⟨rfl, rfl⟩ : b = b_ ∧ off = off_ := by cases he_; exact ⟨rfl, rfl⟩
      clear he_
      obtain ⟨y_, hx_⟩ : ∃ x, l[j]? = some x := ⟨l[j], List.getElem?_eq_getElem hkl_⟩
      obtain ⟨yk, yn, yu0, yu1, yu2, yu3, ya, yb, yo, yv0, yv1, yv2, yv3, yc, yd, yp⟩ := y_
      have HRy : Hid (Row w b (off + j * 10) [.string yk, .int .i64 yn, yu0, yu1, yu2, yu3, yv0, yv1, yv2, yv3]) := hb_.row hx_
      have HXy : Hid (FX w yu0 yu1 yu2 yu3 ya yb yo) := SR.fx (hb_.ok hx_)
      have HYy : Hid (FX w yv0 yv1 yv2 yv3 yc yd yp) := SR.fx2 (hb_.ok hx_)
      have HEy := Lib.hid hx_; clear hx_ hkl_ hb_
      have hls_ := last_some (by rw [HL.out.len]; omega) HLN.out HEy.out
      have HLK := Lib.hid hls_.1
      have hyx_ : yk = xk := hls_.2.1
      have hym_ := hls_.2.2.2
      clear hls_
      subst hyx_
      have hml_ := List.mem_of_mem_take hym_
      obtain ⟨yq, yr, hyo_, hyp_⟩ : ∃ q r, yo = some q ∧ yp = some r := HALL.out _ hym_
      subst hyo_ hyp_
      have hf_ := fewR_le (HS.out _ hml_)
      have HQy : Hid (FQ G w yu0 yu1 yu2 yu3 yq) := by show FQ _ _ _ _ _ _ _; rw [hG0]; exact HXy.out.fq
      have HSy : Hid (FQ G w yv0 yv1 yv2 yv3 yr) := by show FQ _ _ _ _ _ _ _; rw [hG0]; exact HYy.out.fq
      have HZy1 : Hid (Fz yq 3) := HXy.out.fz hf_.2.2.2.1 hf_.2.2.2.2.1
      have HZy2 : Hid (Fz yr 3) := HYy.out.fz hf_.2.2.2.2.2.1 hf_.2.2.2.2.2.2
      have hyn_ : yn ≤ xn := Int.le_trans (notes_le HOKP.out ⟨yk, yn, yq, yr⟩ (List.mem_map.2 ⟨_, hym_, rfl⟩)) HNT.out
      clear hf_ hml_ hym_
      obtain ⟨n2, hn2⟩ : ∃ b, decide (xn ≤ yn) = b := ⟨_, rfl⟩
      obtain ⟨n3, hn3⟩ : ∃ b, (decide (yq = xq) && decide (yr = xr)) = b := ⟨_, rfl⟩
      have HOA : Hid (okAt ((l.take k).map SR.sh) ⟨yk, xn, xq, xr⟩ = !(n2 || n3)) := okAt_some HNT.out HLK.out (by show (decide (yn = xn) || (decide (yq = xq) && decide (yr = xr))) = _; rw [ge_eq hyn_, hn2, hn3])
      have HN3 := Lib.hid hn3; clear hn3 hyn_
      have e8_ : decide ((0 : Int) ≤ (j : Int)) = true := decide_eq_true (by omega)
      have hj1_ : (j : Int) < (n : Int) := by omega
      clear hjk_
      refine cj10 (HRx.out.keep M.out).c10 fun r0_0 r0_1 r0_2 r0_3 r0_4 r0_5 r0_6 r0_7 r0_8 r0_9 => ?_
      go_wp2_with fail
      clear r0_0 r0_1 r0_2 r0_3 r0_4 r0_5 r0_6 r0_7 r0_8 r0_9
      refine (rLastI_some (G := G) (key := yk) (l := l) (HLG.out.keep M.out) (by omega) (by omega) HLN.out).mono ?_
      rintro e w4 ⟨rfl, hb⟩
      replace M := gnM hb M
      clear hb
      cases n2 with
      | false =>
       go_wp2_with fail
       refine nmW w4.drew fun w5 hv => ?_
       replace M := drM hv M
       refine wp_region_held_drew (S := (fun w' => w'.cell? ⟨b, off + j * 10, none⟩ = some (.string yk) ∧ w'.cell? ⟨b, off + j * 10 + 1, none⟩ = some (.int .i64 yn) ∧ w'.cell? ⟨b, off + j * 10 + 2, none⟩ = some (yu0) ∧ w'.cell? ⟨b, off + j * 10 + 3, none⟩ = some (yu1) ∧ w'.cell? ⟨b, off + j * 10 + 4, none⟩ = some (yu2) ∧ w'.cell? ⟨b, off + j * 10 + 5, none⟩ = some (yu3) ∧ w'.cell? ⟨b, off + j * 10 + 6, none⟩ = some (yv0) ∧ w'.cell? ⟨b, off + j * 10 + 7, none⟩ = some (yv1) ∧ w'.cell? ⟨b, off + j * 10 + 8, none⟩ = some (yv2) ∧ w'.cell? ⟨b, off + j * 10 + 9, none⟩ = some (yv3) ∧ w'.cell? ⟨b, off + k * 10, none⟩ = some (.string yk) ∧ w'.cell? ⟨b, off + k * 10 + 1, none⟩ = some (.int .i64 xn) ∧ w'.cell? ⟨b, off + k * 10 + 2, none⟩ = some (xu0) ∧ w'.cell? ⟨b, off + k * 10 + 3, none⟩ = some (xu1) ∧ w'.cell? ⟨b, off + k * 10 + 4, none⟩ = some (xu2) ∧ w'.cell? ⟨b, off + k * 10 + 5, none⟩ = some (xu3) ∧ w'.cell? ⟨b, off + k * 10 + 6, none⟩ = some (xv0) ∧ w'.cell? ⟨b, off + k * 10 + 7, none⟩ = some (xv1) ∧ w'.cell? ⟨b, off + k * 10 + 8, none⟩ = some (xv2) ∧ w'.cell? ⟨b, off + k * 10 + 9, none⟩ = some (xv3))) (by kernel_rfl) (by rw [← hv]; exact ((HRy.out.keep M.out).t10 ((HRx.out.keep M.out).c10))) (fun hH5 => ?_)
       rw [← hv] at hH5 ⊢
       clear hv
       refine tk at0 ?_
       refine tk at1 ?_
       refine tk at2 ?_
       refine tk at3 ?_
       refine tk at4 ?_
       refine tk at5 ?_
       refine tk at6 ?_
       refine tk at7 ?_
       refine tk at8 ?_
       refine tk at9 ?_
       refine tk at10 ?_
       refine tk at11 ?_
       refine tk at12 ?_
       refine tk at13 ?_
       refine tk at14 ?_
       refine tk at15 ?_
       refine tk at16 ?_
       refine tk at17 ?_
       refine tk at18 ?_
       refine tk at19 ?_
       refine tk at20 ?_
       refine tk at21 ?_
       refine wpAnyH_ready (rs := [22]) (by kernel_rfl) (by simp) ?_
       refine AllReadyH.cons at22 (fun K hK => ?_) AllReadyH.nil
       go_simp
       refine (reSameSpan_b (G := G) (p := yq) (q := yr) (r := xq) (s := xr) (b_ := n3) (HQy.out.keep M.out) (HSy.out.keep M.out) (HQx.out.keep M.out) (HSx.out.keep M.out) (Fz.mono HZy1.out (by omega)) (Fz.mono HZy2.out (by omega)) (Fz.mono HZx1.out (by omega)) (Fz.mono HZx2.out (by omega)) HN3.out).mono ?_
       rintro e w6 ⟨rfl, hb⟩
       replace M := gnM hb M
       clear hb
       (try go_wp2_with fail)
       refine hK.out _ _ (((HRy.out.keep M.out).t10 ((HRx.out.keep M.out).c10))) (fun hH6 => ?_)
       clear hK K hH5
       (try simp only [Act.put, List.setIfInBounds_toArray, List.set_cons_zero, List.set_cons_succ])
       refine tk at23 ?_
       refine wpAnyH_done (by kernel_rfl) ?_ _
       clear hH6
       cases n3 with
       | false =>
        go_wp2_with fail
        go_roundw
        case rel => exact ⟨(k + 1), by go_num, (by show _ ≤ _; omega), (Lib.hid (by rw [take_next HEx.out]; exact right_go HEx.out HB.out HS1.out (HOA.out.trans rfl))), (Lib.hid (fun x_ hx_ => by rw [List.take_add_one, HEx.out] at hx_; rcases List.mem_append.1 hx_ with h_ | h_; exact HALL.out _ h_; simp at h_; subst h_; exact ⟨_, _, rfl, rfl⟩)), (Lib.hid (by rw [take_next HEx.out]; exact HOKP.out.snoc (by rw [List.length_map, List.length_take]; omega) HOK1.out (HOA.out.trans rfl))), Lib.hid M.out⟩
        case measure => simp [RowKit.intOf] <;> omega
       | true =>
        go_wp2_with fail
        have HZZ : Hid (b1 = false) := right_no2 HEx.out HB.out (HOA.out.trans (by rfl))
        obtain rfl := HZZ.out.symm.trans HBB.out
        go_ret
        exact ⟨rfl, M.out⟩
      | true =>
       go_wp2_with fail
       refine nmW w4.drew fun w5 hv => ?_
       replace M := drM hv M
       refine wp_region_held_drew (S := (fun w' => w'.cell? ⟨b, off + j * 10, none⟩ = some (.string yk) ∧ w'.cell? ⟨b, off + j * 10 + 1, none⟩ = some (.int .i64 yn) ∧ w'.cell? ⟨b, off + j * 10 + 2, none⟩ = some (yu0) ∧ w'.cell? ⟨b, off + j * 10 + 3, none⟩ = some (yu1) ∧ w'.cell? ⟨b, off + j * 10 + 4, none⟩ = some (yu2) ∧ w'.cell? ⟨b, off + j * 10 + 5, none⟩ = some (yu3) ∧ w'.cell? ⟨b, off + j * 10 + 6, none⟩ = some (yv0) ∧ w'.cell? ⟨b, off + j * 10 + 7, none⟩ = some (yv1) ∧ w'.cell? ⟨b, off + j * 10 + 8, none⟩ = some (yv2) ∧ w'.cell? ⟨b, off + j * 10 + 9, none⟩ = some (yv3) ∧ w'.cell? ⟨b, off + k * 10, none⟩ = some (.string yk) ∧ w'.cell? ⟨b, off + k * 10 + 1, none⟩ = some (.int .i64 xn) ∧ w'.cell? ⟨b, off + k * 10 + 2, none⟩ = some (xu0) ∧ w'.cell? ⟨b, off + k * 10 + 3, none⟩ = some (xu1) ∧ w'.cell? ⟨b, off + k * 10 + 4, none⟩ = some (xu2) ∧ w'.cell? ⟨b, off + k * 10 + 5, none⟩ = some (xu3) ∧ w'.cell? ⟨b, off + k * 10 + 6, none⟩ = some (xv0) ∧ w'.cell? ⟨b, off + k * 10 + 7, none⟩ = some (xv1) ∧ w'.cell? ⟨b, off + k * 10 + 8, none⟩ = some (xv2) ∧ w'.cell? ⟨b, off + k * 10 + 9, none⟩ = some (xv3))) (by kernel_rfl) (by rw [← hv]; exact ((HRy.out.keep M.out).t10 ((HRx.out.keep M.out).c10))) (fun hH7 => ?_)
       rw [← hv] at hH7 ⊢
       clear hv
       refine tk at0 ?_
       refine tk at1 ?_
       refine tk at2 ?_
       refine tk at3 ?_
       refine tk at4 ?_
       refine tk at5 ?_
       refine tk at6 ?_
       refine tk at7 ?_
       refine tk at8 ?_
       refine tk at9 ?_
       refine tk at10 ?_
       refine tk at11 ?_
       refine tu at12 ?_
       refine tu at13 ?_
       refine tu at14 ?_
       refine tu at15 ?_
       refine tu at16 ?_
       refine tu at17 ?_
       refine tu at18 ?_
       refine tu at19 ?_
       refine tu at20 ?_
       refine tu at21 ?_
       refine wpAnyH_ready (rs := [22]) (by kernel_rfl) (by simp) ?_
       refine AllReadyH.cons at22 (fun K hK => ?_) AllReadyH.nil
       rw [if_neg]
       rotate_left
       focus (intro h; exact Bool.noConfusion h)
       refine hK.out _ _ hH7 (fun _ => ?_)
       clear hK K
       (try simp only [Act.put, List.setIfInBounds_toArray, List.set_cons_zero, List.set_cons_succ])
       refine tk at23 ?_
       refine wpAnyH_done (by kernel_rfl) ?_ _
       clear hH7
       go_wp2_with fail
       have HZZ : Hid (b1 = false) := right_no2 HEx.out HB.out (HOA.out.trans (by rfl))
       obtain rfl := HZZ.out.symm.trans HBB.out
       go_ret
       exact ⟨rfl, M.out⟩
   ·
    have e3_0 : decide (0 < k) = true := decide_eq_true (by omega)
    have e3_1 : decide (0 < (k : Int)) = true := decide_eq_true (by omega)
    have e3_i : 0 < (k : Int) := by omega
    have hkl_ : (k - 1) < l.length := by rw [HL.out.len]; omega
    obtain ⟨b_, off_, he_, hb_⟩ := RdL.ptr HL.out (by omega : 0 < n)
    obtain ⟨rfl, rfl⟩ : b = b_ ∧ off = off_ := by cases he_; exact ⟨rfl, rfl⟩
    clear he_
    obtain ⟨z_, hx_⟩ : ∃ x, l[(k - 1)]? = some x := ⟨l[(k - 1)], List.getElem?_eq_getElem hkl_⟩
    obtain ⟨zk, zn, zu0, zu1, zu2, zu3, za, zb, zo, zv0, zv1, zv2, zv3, zc, zd, zp⟩ := z_
    have HRz : Hid (Row w b (off + (k - 1) * 10) [.string zk, .int .i64 zn, zu0, zu1, zu2, zu3, zv0, zv1, zv2, zv3]) := hb_.row hx_
    have HXz : Hid (FX w zu0 zu1 zu2 zu3 za zb zo) := SR.fx (hb_.ok hx_)
    have HYz : Hid (FX w zv0 zv1 zv2 zv3 zc zd zp) := SR.fx2 (hb_.ok hx_)
    have HEz := Lib.hid hx_; clear hx_ hkl_ hb_
    have hmx_ : max ((k : Int) - 1) (0 : Int) = (k : Int) - 1 := by omega
    have hix0 : (0 : Int) ≤ (k : Int) - 1 := by omega
    have hix1 : (k : Int) - 1 < (n : Int) := by omega
    have hix2 : ((k : Int) - 1).toNat = k - 1 := by omega
    have hix3 : (1 : Int) ≤ (k : Int) := by omega
    obtain ⟨n1, hn1⟩ : ∃ b, decide (xn < zn) = b := ⟨_, rfl⟩
    have hwk_ : IntKind.i64.wrap ((k : Int) - 1) = (k : Int) - 1 := IntWalk.i64_in _ (by omega)
    cases s1 with
    | false =>
     go_wp2_with fail
     refine nmW w1.drew fun w2 hv => ?_
     replace M := drM hv M
     refine wp_region_held_drew (S := (fun w' => w'.cell? ⟨b, off + k * 10, none⟩ = some (.string xk) ∧ w'.cell? ⟨b, off + k * 10 + 1, none⟩ = some (.int .i64 xn) ∧ w'.cell? ⟨b, off + k * 10 + 2, none⟩ = some (xu0) ∧ w'.cell? ⟨b, off + k * 10 + 3, none⟩ = some (xu1) ∧ w'.cell? ⟨b, off + k * 10 + 4, none⟩ = some (xu2) ∧ w'.cell? ⟨b, off + k * 10 + 5, none⟩ = some (xu3) ∧ w'.cell? ⟨b, off + k * 10 + 6, none⟩ = some (xv0) ∧ w'.cell? ⟨b, off + k * 10 + 7, none⟩ = some (xv1) ∧ w'.cell? ⟨b, off + k * 10 + 8, none⟩ = some (xv2) ∧ w'.cell? ⟨b, off + k * 10 + 9, none⟩ = some (xv3))) (by kernel_rfl) (by rw [← hv]; exact ((HRx.out.keep M.out).c10)) (fun hH8 => ?_)
     rw [← hv] at hH8 ⊢
     clear hv
     refine tk at0 ?_
     refine tk at1 ?_
     refine tk at2 ?_
     refine tk at3 ?_
     refine wpAnyH_ready (rs := [4]) (by kernel_rfl) (by simp) ?_
     refine AllReadyH.cons at4 (fun K hK => ?_) AllReadyH.nil
     go_simp
     refine (rOne_x (key := xk) (note := xn) (o1 := xo) (o2 := xp) (t6 := (rightX xo xp)) (b_ := false) (by omega) (HXx.out.keep M.out) (HYx.out.keep M.out) HFx.out.2.1 HFx.out.2.2.1 rfl HS1.out).mono ?_
     rintro e w3 ⟨rfl, hb⟩
     replace M := gnM hb M
     clear hb
     (try go_wp2_with fail)
     refine hK.out _ _ (((HRx.out.keep M.out).c10)) (fun hH9 => ?_)
     clear hK K hH8
     (try simp only [Act.put, List.setIfInBounds_toArray, List.set_cons_zero, List.set_cons_succ])
     refine tk at5 ?_
     refine tk at6 ?_
     refine tu at7 ?_
     refine tu at8 ?_
     refine tu at9 ?_
     refine tu at10 ?_
     refine tu at11 ?_
     refine tu at12 ?_
     refine tu at13 ?_
     refine tu at14 ?_
     refine tu at15 ?_
     refine tu at16 ?_
     refine tu at17 ?_
     refine wpAnyH_ready (rs := [18]) (by kernel_rfl) (by simp) ?_
     refine AllReadyH.cons at18 (fun K hK => ?_) AllReadyH.nil
     rw [if_neg]
     rotate_left
     focus (intro h; exact Bool.noConfusion h)
     refine hK.out _ _ hH9 (fun _ => ?_)
     clear hK K
     (try simp only [Act.put, List.setIfInBounds_toArray, List.set_cons_zero, List.set_cons_succ])
     refine tu at19 ?_
     refine tu at20 ?_
     refine tu at21 ?_
     refine tu at22 ?_
     refine tu at23 ?_
     refine tk at24 ?_
     refine wpAnyH_done (by kernel_rfl) ?_ _
     clear hH9
     go_wp2_with fail
     have HZZ : Hid (b1 = false) := right_no1 HEx.out HB.out HS1.out
     obtain rfl := HZZ.out.symm.trans HBB.out
     go_ret
     exact ⟨rfl, M.out⟩
    | true =>
     obtain ⟨⟨xq, xr, hxo_, hxp_⟩, hok_⟩ := shR_ok HS1.out
     dsimp only at hxo_ hxp_
     subst hxo_ hxp_
     have HOK1 : Hid (okSh keyOk ⟨xk, xn, xq, xr⟩) := hok_
     clear hok_
     have HQx : Hid (FQ G w xu0 xu1 xu2 xu3 xq) := by show FQ _ _ _ _ _ _ _; rw [hG0]; exact HXx.out.fq
     have HSx : Hid (FQ G w xv0 xv1 xv2 xv3 xr) := by show FQ _ _ _ _ _ _ _; rw [hG0]; exact HYx.out.fq
     have HZx1 : Hid (Fz xq 3) := HXx.out.fz HFx.out.2.2.2.1 HFx.out.2.2.2.2.1
     have HZx2 : Hid (Fz xr 3) := HYx.out.fz HFx.out.2.2.2.2.2.1 HFx.out.2.2.2.2.2.2
     go_wp2_with fail
     refine nmW w1.drew fun w2 hv => ?_
     replace M := drM hv M
     refine wp_region_held_drew (S := (fun w' => w'.cell? ⟨b, off + k * 10, none⟩ = some (.string xk) ∧ w'.cell? ⟨b, off + k * 10 + 1, none⟩ = some (.int .i64 xn) ∧ w'.cell? ⟨b, off + k * 10 + 2, none⟩ = some (xu0) ∧ w'.cell? ⟨b, off + k * 10 + 3, none⟩ = some (xu1) ∧ w'.cell? ⟨b, off + k * 10 + 4, none⟩ = some (xu2) ∧ w'.cell? ⟨b, off + k * 10 + 5, none⟩ = some (xu3) ∧ w'.cell? ⟨b, off + k * 10 + 6, none⟩ = some (xv0) ∧ w'.cell? ⟨b, off + k * 10 + 7, none⟩ = some (xv1) ∧ w'.cell? ⟨b, off + k * 10 + 8, none⟩ = some (xv2) ∧ w'.cell? ⟨b, off + k * 10 + 9, none⟩ = some (xv3) ∧ w'.cell? ⟨b, off + (k - 1) * 10, none⟩ = some (.string zk) ∧ w'.cell? ⟨b, off + (k - 1) * 10 + 1, none⟩ = some (.int .i64 zn) ∧ w'.cell? ⟨b, off + (k - 1) * 10 + 2, none⟩ = some (zu0) ∧ w'.cell? ⟨b, off + (k - 1) * 10 + 3, none⟩ = some (zu1) ∧ w'.cell? ⟨b, off + (k - 1) * 10 + 4, none⟩ = some (zu2) ∧ w'.cell? ⟨b, off + (k - 1) * 10 + 5, none⟩ = some (zu3) ∧ w'.cell? ⟨b, off + (k - 1) * 10 + 6, none⟩ = some (zv0) ∧ w'.cell? ⟨b, off + (k - 1) * 10 + 7, none⟩ = some (zv1) ∧ w'.cell? ⟨b, off + (k - 1) * 10 + 8, none⟩ = some (zv2) ∧ w'.cell? ⟨b, off + (k - 1) * 10 + 9, none⟩ = some (zv3))) (by kernel_rfl) (by rw [← hv]; exact ((HRx.out.keep M.out).t10 ((HRz.out.keep M.out).c10))) (fun hH10 => ?_)
     rw [← hv] at hH10 ⊢
     clear hv
     refine tk at0 ?_
     refine tk at1 ?_
     refine tk at2 ?_
     refine tk at3 ?_
     refine wpAnyH_ready (rs := [4]) (by kernel_rfl) (by simp) ?_
     refine AllReadyH.cons at4 (fun K hK => ?_) AllReadyH.nil
     go_simp
     refine (rOne_x (key := xk) (note := xn) (o1 := (some xq)) (o2 := (some xr)) (t6 := (rightX (some xq) (some xr))) (b_ := true) (by omega) (HXx.out.keep M.out) (HYx.out.keep M.out) HFx.out.2.1 HFx.out.2.2.1 rfl HS1.out).mono ?_
     rintro e w3 ⟨rfl, hb⟩
     replace M := gnM hb M
     clear hb
     (try go_wp2_with fail)
     refine hK.out _ _ (((HRx.out.keep M.out).t10 ((HRz.out.keep M.out).c10))) (fun hH11 => ?_)
     clear hK K hH10
     (try simp only [Act.put, List.setIfInBounds_toArray, List.set_cons_zero, List.set_cons_succ])
     refine tk at5 ?_
     refine tk at6 ?_
     refine tk at7 ?_
     refine tk at8 ?_
     refine tk at9 ?_
     refine tk at10 ?_
     refine tk at11 ?_
     refine tk at12 ?_
     refine tk at13 ?_
     refine tk at14 ?_
     refine tk at15 ?_
     refine tk at16 ?_
     refine tk at17 ?_
     refine wpAnyH_ready (rs := [18]) (by kernel_rfl) (by simp) ?_
     refine AllReadyH.cons at18 (fun K hK => ?_) AllReadyH.nil
     go_simp
     refine hK.out _ _ (((HRx.out.keep M.out).t10 ((HRz.out.keep M.out).c10))) (fun hH12 => ?_)
     clear hK K hH11
     (try simp only [Act.put, List.setIfInBounds_toArray, List.set_cons_zero, List.set_cons_succ])
     refine tk at19 ?_
     refine tk at20 ?_
     refine tk at21 ?_
     refine tk at22 ?_
     refine tk at23 ?_
     refine tk at24 ?_
     refine wpAnyH_done (by kernel_rfl) ?_ _
     clear hH12
     cases n1 with
     | false =>
      go_upto_region 8 with fail
      clear hwk_
      have HNT : Hid (noteOf ((l.take k).map SR.sh) ≤ xn) := by show _ ≤ _; rw [note_prev (by omega) HEz.out]; have h_ := of_decide_eq_false hn1; dsimp only; omega
      rcases hln_ : lastN (l.map SR.key) k xk with _ | j
      ·
       have HLN := Lib.hid hln_; clear hln_
       have HLK : Hid (lastK ((l.take k).map SR.sh) xk = none) := last_none (by rw [HL.out.len]; omega) HLN.out
       have HOA : Hid (okAt ((l.take k).map SR.sh) ⟨xk, xn, xq, xr⟩ = true) := okAt_none HNT.out HLK.out
       refine cj10 (HRx.out.keep M.out).c10 fun r0_0 r0_1 r0_2 r0_3 r0_4 r0_5 r0_6 r0_7 r0_8 r0_9 => ?_
       go_wp2_with fail
       clear r0_0 r0_1 r0_2 r0_3 r0_4 r0_5 r0_6 r0_7 r0_8 r0_9
       refine (rLastI_none (G := G) (key := xk) (l := l) (HLG.out.keep M.out) (by omega) (by omega) HLN.out).mono ?_
       rintro e w4 ⟨rfl, hb⟩
       replace M := gnM hb M
       clear hb
       go_wp2_with fail
       go_roundw
       case rel => exact ⟨(k + 1), by go_num, (by show _ ≤ _; omega), (Lib.hid (by rw [take_next HEx.out]; exact right_go HEx.out HB.out HS1.out (HOA.out.trans rfl))), (Lib.hid (fun x_ hx_ => by rw [List.take_add_one, HEx.out] at hx_; rcases List.mem_append.1 hx_ with h_ | h_; exact HALL.out _ h_; simp at h_; subst h_; exact ⟨_, _, rfl, rfl⟩)), (Lib.hid (by rw [take_next HEx.out]; exact HOKP.out.snoc (by rw [List.length_map, List.length_take]; omega) HOK1.out (HOA.out.trans rfl))), Lib.hid M.out⟩
       case measure => simp [RowKit.intOf] <;> omega
      ·
       have HLN := Lib.hid hln_
       have hjk_ : j < k := (lastN_lt hln_).1
       clear hln_
       have hkl_ : j < l.length := by rw [HL.out.len]; omega
       obtain ⟨b_, off_, he_, hb_⟩ := RdL.ptr HL.out (by omega : 0 < n)
       obtain ⟨rfl, rfl⟩ : b = b_ ∧ off = off_ := by cases he_; exact ⟨rfl, rfl⟩
       clear he_
       obtain ⟨y_, hx_⟩ : ∃ x, l[j]? = some x := ⟨l[j], List.getElem?_eq_getElem hkl_⟩
       obtain ⟨yk, yn, yu0, yu1, yu2, yu3, ya, yb, yo, yv0, yv1, yv2, yv3, yc, yd, yp⟩ := y_
       have HRy : Hid (Row w b (off + j * 10) [.string yk, .int .i64 yn, yu0, yu1, yu2, yu3, yv0, yv1, yv2, yv3]) := hb_.row hx_
       have HXy : Hid (FX w yu0 yu1 yu2 yu3 ya yb yo) := SR.fx (hb_.ok hx_)
       have HYy : Hid (FX w yv0 yv1 yv2 yv3 yc yd yp) := SR.fx2 (hb_.ok hx_)
       have HEy := Lib.hid hx_; clear hx_ hkl_ hb_
       have hls_ := last_some (by rw [HL.out.len]; omega) HLN.out HEy.out
       have HLK := Lib.hid hls_.1
       have hyx_ : yk = xk := hls_.2.1
       have hym_ := hls_.2.2.2
       clear hls_
       subst hyx_
       have hml_ := List.mem_of_mem_take hym_
       obtain ⟨yq, yr, hyo_, hyp_⟩ : ∃ q r, yo = some q ∧ yp = some r := HALL.out _ hym_
       subst hyo_ hyp_
       have hf_ := fewR_le (HS.out _ hml_)
       have HQy : Hid (FQ G w yu0 yu1 yu2 yu3 yq) := by show FQ _ _ _ _ _ _ _; rw [hG0]; exact HXy.out.fq
       have HSy : Hid (FQ G w yv0 yv1 yv2 yv3 yr) := by show FQ _ _ _ _ _ _ _; rw [hG0]; exact HYy.out.fq
       have HZy1 : Hid (Fz yq 3) := HXy.out.fz hf_.2.2.2.1 hf_.2.2.2.2.1
       have HZy2 : Hid (Fz yr 3) := HYy.out.fz hf_.2.2.2.2.2.1 hf_.2.2.2.2.2.2
       have hyn_ : yn ≤ xn := Int.le_trans (notes_le HOKP.out ⟨yk, yn, yq, yr⟩ (List.mem_map.2 ⟨_, hym_, rfl⟩)) HNT.out
       clear hf_ hml_ hym_
       obtain ⟨n2, hn2⟩ : ∃ b, decide (xn ≤ yn) = b := ⟨_, rfl⟩
       obtain ⟨n3, hn3⟩ : ∃ b, (decide (yq = xq) && decide (yr = xr)) = b := ⟨_, rfl⟩
       have HOA : Hid (okAt ((l.take k).map SR.sh) ⟨yk, xn, xq, xr⟩ = !(n2 || n3)) := okAt_some HNT.out HLK.out (by show (decide (yn = xn) || (decide (yq = xq) && decide (yr = xr))) = _; rw [ge_eq hyn_, hn2, hn3])
       have HN3 := Lib.hid hn3; clear hn3 hyn_
       have e8_ : decide ((0 : Int) ≤ (j : Int)) = true := decide_eq_true (by omega)
       have hj1_ : (j : Int) < (n : Int) := by omega
       clear hjk_
       refine cj10 (HRx.out.keep M.out).c10 fun r0_0 r0_1 r0_2 r0_3 r0_4 r0_5 r0_6 r0_7 r0_8 r0_9 => ?_
       go_wp2_with fail
       clear r0_0 r0_1 r0_2 r0_3 r0_4 r0_5 r0_6 r0_7 r0_8 r0_9
       refine (rLastI_some (G := G) (key := yk) (l := l) (HLG.out.keep M.out) (by omega) (by omega) HLN.out).mono ?_
       rintro e w4 ⟨rfl, hb⟩
       replace M := gnM hb M
       clear hb
       cases n2 with
       | false =>
        go_wp2_with fail
        refine nmW w4.drew fun w5 hv => ?_
        replace M := drM hv M
        refine wp_region_held_drew (S := (fun w' => w'.cell? ⟨b, off + j * 10, none⟩ = some (.string yk) ∧ w'.cell? ⟨b, off + j * 10 + 1, none⟩ = some (.int .i64 yn) ∧ w'.cell? ⟨b, off + j * 10 + 2, none⟩ = some (yu0) ∧ w'.cell? ⟨b, off + j * 10 + 3, none⟩ = some (yu1) ∧ w'.cell? ⟨b, off + j * 10 + 4, none⟩ = some (yu2) ∧ w'.cell? ⟨b, off + j * 10 + 5, none⟩ = some (yu3) ∧ w'.cell? ⟨b, off + j * 10 + 6, none⟩ = some (yv0) ∧ w'.cell? ⟨b, off + j * 10 + 7, none⟩ = some (yv1) ∧ w'.cell? ⟨b, off + j * 10 + 8, none⟩ = some (yv2) ∧ w'.cell? ⟨b, off + j * 10 + 9, none⟩ = some (yv3) ∧ w'.cell? ⟨b, off + k * 10, none⟩ = some (.string yk) ∧ w'.cell? ⟨b, off + k * 10 + 1, none⟩ = some (.int .i64 xn) ∧ w'.cell? ⟨b, off + k * 10 + 2, none⟩ = some (xu0) ∧ w'.cell? ⟨b, off + k * 10 + 3, none⟩ = some (xu1) ∧ w'.cell? ⟨b, off + k * 10 + 4, none⟩ = some (xu2) ∧ w'.cell? ⟨b, off + k * 10 + 5, none⟩ = some (xu3) ∧ w'.cell? ⟨b, off + k * 10 + 6, none⟩ = some (xv0) ∧ w'.cell? ⟨b, off + k * 10 + 7, none⟩ = some (xv1) ∧ w'.cell? ⟨b, off + k * 10 + 8, none⟩ = some (xv2) ∧ w'.cell? ⟨b, off + k * 10 + 9, none⟩ = some (xv3))) (by kernel_rfl) (by rw [← hv]; exact ((HRy.out.keep M.out).t10 ((HRx.out.keep M.out).c10))) (fun hH13 => ?_)
        rw [← hv] at hH13 ⊢
        clear hv
        refine tk at0 ?_
        refine tk at1 ?_
        refine tk at2 ?_
        refine tk at3 ?_
        refine tk at4 ?_
        refine tk at5 ?_
        refine tk at6 ?_
        refine tk at7 ?_
        refine tk at8 ?_
        refine tk at9 ?_
        refine tk at10 ?_
        refine tk at11 ?_
        refine tk at12 ?_
        refine tk at13 ?_
        refine tk at14 ?_
        refine tk at15 ?_
        refine tk at16 ?_
        refine tk at17 ?_
        refine tk at18 ?_
        refine tk at19 ?_
        refine tk at20 ?_
        refine tk at21 ?_
        refine wpAnyH_ready (rs := [22]) (by kernel_rfl) (by simp) ?_
        refine AllReadyH.cons at22 (fun K hK => ?_) AllReadyH.nil
        go_simp
        refine (reSameSpan_b (G := G) (p := yq) (q := yr) (r := xq) (s := xr) (b_ := n3) (HQy.out.keep M.out) (HSy.out.keep M.out) (HQx.out.keep M.out) (HSx.out.keep M.out) (Fz.mono HZy1.out (by omega)) (Fz.mono HZy2.out (by omega)) (Fz.mono HZx1.out (by omega)) (Fz.mono HZx2.out (by omega)) HN3.out).mono ?_
        rintro e w6 ⟨rfl, hb⟩
        replace M := gnM hb M
        clear hb
        (try go_wp2_with fail)
        refine hK.out _ _ (((HRy.out.keep M.out).t10 ((HRx.out.keep M.out).c10))) (fun hH14 => ?_)
        clear hK K hH13
        (try simp only [Act.put, List.setIfInBounds_toArray, List.set_cons_zero, List.set_cons_succ])
        refine tk at23 ?_
        refine wpAnyH_done (by kernel_rfl) ?_ _
        clear hH14
        cases n3 with
        | false =>
         go_wp2_with fail
         go_roundw
         case rel => exact ⟨(k + 1), by go_num, (by show _ ≤ _; omega), (Lib.hid (by rw [take_next HEx.out]; exact right_go HEx.out HB.out HS1.out (HOA.out.trans rfl))), (Lib.hid (fun x_ hx_ => by rw [List.take_add_one, HEx.out] at hx_; rcases List.mem_append.1 hx_ with h_ | h_; exact HALL.out _ h_; simp at h_; subst h_; exact ⟨_, _, rfl, rfl⟩)), (Lib.hid (by rw [take_next HEx.out]; exact HOKP.out.snoc (by rw [List.length_map, List.length_take]; omega) HOK1.out (HOA.out.trans rfl))), Lib.hid M.out⟩
         case measure => simp [RowKit.intOf] <;> omega
        | true =>
         go_wp2_with fail
         have HZZ : Hid (b1 = false) := right_no2 HEx.out HB.out (HOA.out.trans (by rfl))
         obtain rfl := HZZ.out.symm.trans HBB.out
         go_ret
         exact ⟨rfl, M.out⟩
       | true =>
        go_wp2_with fail
        refine nmW w4.drew fun w5 hv => ?_
        replace M := drM hv M
        refine wp_region_held_drew (S := (fun w' => w'.cell? ⟨b, off + j * 10, none⟩ = some (.string yk) ∧ w'.cell? ⟨b, off + j * 10 + 1, none⟩ = some (.int .i64 yn) ∧ w'.cell? ⟨b, off + j * 10 + 2, none⟩ = some (yu0) ∧ w'.cell? ⟨b, off + j * 10 + 3, none⟩ = some (yu1) ∧ w'.cell? ⟨b, off + j * 10 + 4, none⟩ = some (yu2) ∧ w'.cell? ⟨b, off + j * 10 + 5, none⟩ = some (yu3) ∧ w'.cell? ⟨b, off + j * 10 + 6, none⟩ = some (yv0) ∧ w'.cell? ⟨b, off + j * 10 + 7, none⟩ = some (yv1) ∧ w'.cell? ⟨b, off + j * 10 + 8, none⟩ = some (yv2) ∧ w'.cell? ⟨b, off + j * 10 + 9, none⟩ = some (yv3) ∧ w'.cell? ⟨b, off + k * 10, none⟩ = some (.string yk) ∧ w'.cell? ⟨b, off + k * 10 + 1, none⟩ = some (.int .i64 xn) ∧ w'.cell? ⟨b, off + k * 10 + 2, none⟩ = some (xu0) ∧ w'.cell? ⟨b, off + k * 10 + 3, none⟩ = some (xu1) ∧ w'.cell? ⟨b, off + k * 10 + 4, none⟩ = some (xu2) ∧ w'.cell? ⟨b, off + k * 10 + 5, none⟩ = some (xu3) ∧ w'.cell? ⟨b, off + k * 10 + 6, none⟩ = some (xv0) ∧ w'.cell? ⟨b, off + k * 10 + 7, none⟩ = some (xv1) ∧ w'.cell? ⟨b, off + k * 10 + 8, none⟩ = some (xv2) ∧ w'.cell? ⟨b, off + k * 10 + 9, none⟩ = some (xv3))) (by kernel_rfl) (by rw [← hv]; exact ((HRy.out.keep M.out).t10 ((HRx.out.keep M.out).c10))) (fun hH15 => ?_)
        rw [← hv] at hH15 ⊢
        clear hv
        refine tk at0 ?_
        refine tk at1 ?_
        refine tk at2 ?_
        refine tk at3 ?_
        refine tk at4 ?_
        refine tk at5 ?_
        refine tk at6 ?_
        refine tk at7 ?_
        refine tk at8 ?_
        refine tk at9 ?_
        refine tk at10 ?_
        refine tk at11 ?_
        refine tu at12 ?_
        refine tu at13 ?_
        refine tu at14 ?_
        refine tu at15 ?_
        refine tu at16 ?_
        refine tu at17 ?_
        refine tu at18 ?_
        refine tu at19 ?_
        refine tu at20 ?_
        refine tu at21 ?_
        refine wpAnyH_ready (rs := [22]) (by kernel_rfl) (by simp) ?_
        refine AllReadyH.cons at22 (fun K hK => ?_) AllReadyH.nil
        rw [if_neg]
        rotate_left
        focus (intro h; exact Bool.noConfusion h)
        refine hK.out _ _ hH15 (fun _ => ?_)
        clear hK K
        (try simp only [Act.put, List.setIfInBounds_toArray, List.set_cons_zero, List.set_cons_succ])
        refine tk at23 ?_
        refine wpAnyH_done (by kernel_rfl) ?_ _
        clear hH15
        go_wp2_with fail
        have HZZ : Hid (b1 = false) := right_no2 HEx.out HB.out (HOA.out.trans (by rfl))
        obtain rfl := HZZ.out.symm.trans HBB.out
        go_ret
        exact ⟨rfl, M.out⟩
     | true =>
      go_wp2_with fail
      clear hwk_
      have HZZ : Hid (b1 = false) := right_no2 HEx.out HB.out (okAt_low (by show xn < noteOf _; rw [note_prev (by omega) HEz.out]; exact of_decide_eq_true hn1))
      obtain rfl := HZZ.out.symm.trans HBB.out
      go_ret
      exact ⟨rfl, M.out⟩
  ·
   have e1_0 : decide (k < n) = false := decide_eq_false (by omega)
   have e1_1 : decide ((k : Int) < (n : Int)) = false := decide_eq_false (by omega)
   have e1_i : ¬ (k : Int) < (n : Int) := by omega
   have HZZ : Hid (b1 = true) := by show _ = _; rw [← HB.out, List.drop_eq_nil_of_le (by rw [HL.out.len]; omega)]; rfl
   go_wp2_with fail
   obtain rfl := HZZ.out.symm.trans HBB.out
   go_ret
   exact ⟨rfl, M.out⟩
end Go.Proofs.Ytlpcblhkddmlnaa
namespace Go.Proofs.Ytlpcblhkddmlnaa
open Go.RowKit Go.Lib
variable {G : Nat}

theorem rRight_g {l : List SR} {a : Option Addr} {n c : Nat} {b_ : Bool} {w : World} (hG : G ≤ w.heap.size) (h : RdR G w a n c l) (hn : n ≤ 2000) (hs : ∀ x ∈ l, fewR x = true) (hb_ : rightL keyOk l = b_) :
  Calls Try.prog 19 #[.slice a n c] w fun e w' => e = .returned (.bool b_) ∧ Below w.heap.size w w' :=
 rRight_x (RdL.up h hG fun _x hx => SR.up hx hG) hn hs hb_
theorem OwV.empty {α : Type} [El α] {w : World} {B g : Nat} (hb : Bx w g (El.T α) #[]) (hG : G ≤ B) (hB : B ≤ g) : OwV G B w (.slice (some ⟨g, 0, none⟩) 0 0) ([] : List α) :=
 ⟨hG, ⟨by simp, .inr ⟨g, 0, #[], rfl, hB, hb, Nat.le_refl _, Nat.zero_le _, by simp, by simp⟩⟩, fun x hx => by cases hx⟩
theorem atF_snoc (p : List Sh) (x : Sh) (n : Int) : atF (p ++ [x]) n = if x.note ≤ n then some x else atF p n := by
  unfold atF
  rw [List.reverse_append, List.reverse_singleton, List.singleton_append, List.find?_cons]
  by_cases h : x.note ≤ n
  · rw [decide_eq_true h, if_pos h]
  · rw [decide_eq_false h, if_neg h]
theorem AtPost.mk {w' : World} {e : Ending} {y : Sh} {x0 x1 x2 x3 x4 x5 x6 x7 : Value} (h : e = .returned (.tuple #[.agg #[.string y.key, .int .i64 y.note, x0, x1, x2, x3, x4, x5, x6, x7], .bool true])) (h1 : FQ G w' x0 x1 x2 x3 y.lo) (h2 : FQ G w' x4 x5 x6 x7 y.hi) : AtPost G (some y) e w' := ⟨_, _, _, _, _, _, _, _, h, h1, h2⟩
set_option maxRecDepth 100000 in
set_option maxHeartbeats 4000000 in
theorem rAll_no {key : ByteArray} {l : List SR} {a : Option Addr} {n c : Nat} {w : World} (hG : G ≤ w.heap.size) (h : RdR G w a n c l) (_hn : n ≤ 2000) (hs : ∀ x ∈ l, fewR x = true) (hr : rightL keyOk l = false) :
  Calls Try.prog 22 #[.slice a n c, .string key] w fun e w' => e = .returned (.slice none 0 0) ∧ Below w.heap.size w w' := by
 have HS := Lib.hid hs; have HR := Lib.hid hr; clear hs hr
 have HL : Hid (RdR G w a n c l) := h
 clear h
 have M : Hid (Below w.heap.size w w) := Below.refl _ _
 go_enter Try.func22, Try.ntmps22
 go_upto_region 2 with fail
 refine nmW (w.alloc (.cells #[] 37)) fun w1 hv => ?_
 rw [← hv]
 replace M := alM hv M
 clear hv
 go_wp2_with fail
 refine (rRight_g (G := G) (l := l) (b_ := false) (Nat.le_trans hG (M.out.2).size) (HL.out.keep (M.out.2)) (by omega) HS.out HR.out).mono ?_
 rintro e w2 ⟨rfl, hb⟩
 replace M := gnM hb M
 clear hb
 go_wp2_with fail
 go_ret
 exact ⟨rfl, (M.out.2)⟩
set_option maxRecDepth 100000 in
set_option maxHeartbeats 4000000 in
theorem rAll {key : ByteArray} {l : List SC} {ls : List SR} {a : Option Addr} {n c : Nat} {w : World} (hG : G ≤ w.heap.size) (h : RdC G w a n c l) (h0 : RdR G w a n c ls) (hs : ∀ x ∈ ls, fewR x = true) (hr : rightL keyOk ls = true) (ok : OkL keyOk (l.map SC.sh)) (hz : FzL l 100000000) :
  Calls Try.prog 22 #[.slice a n c, .string key] w fun e w' => ∃ a2 n2 c2 l2, e = .returned (.slice a2 n2 c2) ∧ RdC G w' a2 n2 c2 l2 ∧ l2.map SC.sh = allF (l.map SC.sh) key ∧ Below w.heap.size w w' := by
 have hn : n ≤ 2000 := by rw [← h.len]; have h_ := ok.len; rw [List.length_map] at h_; exact h_
 have HOK := Lib.hid ok; have HZ := Lib.hid hz; have HS := Lib.hid hs; have HR := Lib.hid hr; clear ok hz hs hr
 have HL : Hid (RdC G w a n c l) := h
 have HL0 : Hid (RdR G w a n c ls) := h0
 clear h h0
 have M : Hid (Below w.heap.size w w) := Below.refl _ _
 go_enter Try.func22, Try.ntmps22
 go_upto_region 2 with fail
 refine nmW (w.alloc (.cells #[] 37)) fun w1 hv => ?_
 rw [← hv]
 replace M := alM hv M
 clear hv
 go_wp2_with fail
 refine (rRight_g (G := G) (l := ls) (b_ := true) (Nat.le_trans hG (M.out.2).size) (HL0.out.keep (M.out.2)) (by omega) HS.out HR.out).mono ?_
 rintro e w2 ⟨rfl, hb⟩
 replace M := gnM hb M
 clear hb
 go_wp2_with fail
 go_loopw [5, 6] (fun i5 i6 wr => ∃ (k : Nat) (gl : List SC) (m : Nat) (vg : Value), vg = i5 ∧ i6 = .int .i64 (k : Int) ∧ Hid (k ≤ n ∧ m ≤ k) ∧ Hid (gl.length = m) ∧ Hid (gl.map SC.sh = allF ((l.take k).map SC.sh) key) ∧ Hid (OwVC G w.heap.size wr vg gl ∧ Below w.heap.size w wr)) (fun i5 i6 _ => n - (RowKit.intOf i6).toNat)
 case atStart =>
  exact ⟨0, [], 0, _, rfl, rfl, (by show _ ∧ _; omega), (Lib.hid rfl), (Lib.hid rfl), Lib.hid (And.intro (OwV.empty (M.out.1) hG (by omega)) (M.out.2))⟩
 case round =>
  obtain ⟨w3, rfl⟩ : ∃ x, x = wr := ⟨_, rfl⟩
  clear M
  obtain ⟨k, gl, m, vg, rfl, rfl, hk, HGL, HGE, M⟩ := hrel
  have hk := hk.out
  by_cases hlt : k < n
  ·
   have e1_0 : decide (k < n) = true := decide_eq_true (by omega)
   have e1_1 : decide ((k : Int) < (n : Int)) = true := decide_eq_true (by omega)
   have e1_i : (k : Int) < (n : Int) := by omega
   obtain ⟨b, off, rfl, hb_⟩ := RdL.ptr HL.out (by omega : 0 < n)
   have hkl_ : k < l.length := by rw [HL.out.len]; exact hlt
   obtain ⟨x_, hx_⟩ : ∃ x, l[k]? = some x := ⟨l[k], List.getElem?_eq_getElem hkl_⟩
   obtain ⟨xk, xn, xu0, xu1, xu2, xu3, xq, xv0, xv1, xv2, xv3, xr⟩ := x_
   have HRx : Hid (Row w b (off + k * 10) [.string xk, .int .i64 xn, xu0, xu1, xu2, xu3, xv0, xv1, xv2, xv3]) := hb_.row hx_
   have HQx : Hid (FQ G w xu0 xu1 xu2 xu3 xq) := (hb_.ok hx_).1
   have HSx : Hid (FQ G w xv0 xv1 xv2 xv3 xr) := (hb_.ok hx_).2
   have HEx := Lib.hid hx_; clear hx_ hkl_ hb_
   have hok_ : okSh keyOk ⟨xk, xn, xq, xr⟩ := HOK.out.ok _ (List.mem_map.2 ⟨_, List.mem_of_getElem? HEx.out, rfl⟩)
   have HOx := Lib.hid hok_
   have hz_ := HZ.out _ (List.mem_of_getElem? HEx.out)
   have HZx1 : Hid (Fz xq 100000000) := hz_.1
   have HZx2 : Hid (Fz xr 100000000) := hz_.2
   clear hok_ hz_
   obtain ⟨t1, ht1⟩ : ∃ b, decide (xk = key) = b := ⟨_, rfl⟩
   have hkt : (xk.toList == key.toList) = t1 := by rw [tl_eq, ht1]
   have HT1 := Lib.hid ht1; clear ht1
   cases t1 with
   | false =>
    refine cj10 (HRx.out.keep (M.out.2)).c10 fun r0_0 r0_1 r0_2 r0_3 r0_4 r0_5 r0_6 r0_7 r0_8 r0_9 => ?_
    go_wp2_with fail
    clear r0_0 r0_1 r0_2 r0_3 r0_4 r0_5 r0_6 r0_7 r0_8 r0_9
    go_roundw
    case rel => exact ⟨(k + 1), gl, m, vg, rfl, by go_num, (by show _ ∧ _; omega), HGL, (Lib.hid (by rw [all_next HEx.out, if_neg (of_decide_eq_false HT1.out), List.append_nil]; exact HGE.out)), Lib.hid (And.intro (M.out.1) (M.out.2))⟩
    case measure => simp [RowKit.intOf] <;> omega
   | true =>
    refine cj10 (HRx.out.keep (M.out.2)).c10 fun r0_0 r0_1 r0_2 r0_3 r0_4 r0_5 r0_6 r0_7 r0_8 r0_9 => ?_
    go_upto_region 6 with (at_builtin; go_must (refine wpList_pushV rfl _ _ elemSh rfl w3 (M.out.1) HGL.out (⟨xk, xn, xu0, xu1, xu2, xu3, xq, xv0, xv1, xv2, xv3, xr⟩ : SC) ⟨(HQx.out.keep (M.out.2)), (HSx.out.keep (M.out.2))⟩ rfl rfl rfl rfl (by rfl) (by omega) (by omega) (M.out.2).size ?_; intro vv_1 w4 ho_ hg_))
    clear r0_0 r0_1 r0_2 r0_3 r0_4 r0_5 r0_6 r0_7 r0_8 r0_9
    replace M := Lib.hid (And.intro ho_ (below_grown (M.out.2) (M.out.1).own (Nat.le_refl _) (M.out.2).size hg_))
    clear ho_ hg_
    go_wp2_with fail
    go_roundw
    case rel => exact ⟨(k + 1), (gl ++ [(⟨xk, xn, xu0, xu1, xu2, xu3, xq, xv0, xv1, xv2, xv3, xr⟩ : SC)]), (m + 1), vv_1, rfl, by go_num, (by show _ ∧ _; omega), (Lib.hid (by rw [List.length_append, HGL.out]; rfl)), (Lib.hid (by rw [all_next HEx.out, if_pos (of_decide_eq_true HT1.out), List.map_append, HGE.out]; rfl)), Lib.hid (And.intro (M.out.1) (M.out.2))⟩
    case measure => simp [RowKit.intOf] <;> omega
  ·
   have e1_0 : decide (k < n) = false := decide_eq_false (by omega)
   have e1_1 : decide ((k : Int) < (n : Int)) = false := decide_eq_false (by omega)
   have e1_i : ¬ (k : Int) < (n : Int) := by omega
   have HALL : Hid (gl.map SC.sh = allF (l.map SC.sh) key) := by show _ = _; rw [HGE.out, List.take_of_length_le (by rw [HL.out.len]; omega)]
   obtain ⟨ag, cg, hvg_, hrd_⟩ := OwV.rdl (M.out.1) HGL.out
   subst hvg_
   replace M := Lib.hid (And.intro hrd_ (M.out.2))
   clear hrd_
   go_wp2_with fail
   go_ret
   exact ⟨_, _, _, rfl, gl, (M.out.1), HALL.out, (M.out.2)⟩
set_option maxRecDepth 100000 in
set_option maxHeartbeats 4000000 in
theorem rAt_g {key : ByteArray} {nt : Int} {lf : List Sh} {ro : Option Sh} {a : Option Addr} {n c : Nat} {w : World} (_hG : G ≤ w.heap.size) (_hlf : lf.length ≤ 1000000) (hA : ∀ W, Below w.heap.size w W → Calls Try.prog 22 #[.slice a n c, .string key] W fun e w' => ∃ a2 n2 c2 l2, e = .returned (.slice a2 n2 c2) ∧ RdC G w' a2 n2 c2 l2 ∧ l2.map SC.sh = lf ∧ Below W.heap.size W w') (hat : atF lf nt = ro) :
  Calls Try.prog 13 #[.slice a n c, .string key, .int .i64 nt] w fun e w' => AtPost G ro e w' ∧ Below w.heap.size w w' := by
 have HA := Lib.hid hA; have HAT := Lib.hid hat; clear hA hat
 have M : Hid (Below w.heap.size w w) := Below.refl _ _
 go_enter Try.func13, Try.ntmps13
 go_upto_region 1 with fail
 refine nmW (w.alloc (.cells #[.string (⟨#[]⟩), .int .i64 0, .int .i64 0, .slice none 0 0, .int .i64 0, .slice none 0 0, .int .i64 0, .slice none 0 0, .int .i64 0, .slice none 0 0] 37)) fun w1 hv => ?_
 rw [← hv]
 replace M := alM hv M
 clear hv
 go_wp2_with fail
 refine (HA.out _ (M.out.2)).mono ?_
 rintro e w2 ⟨a2, n2, c2, l2, rfl, hd1, hu1, hb⟩
 replace M := adM hd1 hb M
 clear hb hd1
 replace hu1 := Lib.hid hu1
 have hlen_ : n2 ≤ 1000000 := by have h_ := congrArg List.length hu1.out; rw [List.length_map, (M.out.1).len] at h_; omega
 have HAT0 : Hid (atF ((l2.take n2).map SC.sh) nt = ro) := by show _ = _; rw [List.take_of_length_le (by rw [(M.out.1).len]; omega), hu1.out]; exact HAT.out
 go_wp2_with fail
 go_loopw [9] (fun i9 wr => ∃ (r : Nat) (z : Int), i9 = .int .i64 z ∧ Hid (r ≤ n2) ∧ Hid (z = (r : Int) - 1) ∧ Hid (atF ((l2.take r).map SC.sh) nt = ro) ∧ Hid (RdC G wr a2 n2 c2 l2 ∧ Bx wr w.heap.size 37 #[.string (⟨#[]⟩), .int .i64 0, .int .i64 0, .slice none 0 0, .int .i64 0, .slice none 0 0, .int .i64 0, .slice none 0 0, .int .i64 0, .slice none 0 0] ∧ Below w.heap.size w wr)) (fun i9 _ => ((RowKit.intOf i9) + 1).toNat)
 case atStart =>
  exact ⟨n2, _, rfl, (by show _ ≤ _; omega), (Lib.hid rfl), HAT0, Lib.hid (And.intro (M.out.1) (And.intro (M.out.2.1) (M.out.2.2)))⟩
 case round =>
  obtain ⟨w3, rfl⟩ : ∃ x, x = wr := ⟨_, rfl⟩
  clear M
  obtain ⟨r, z, rfl, hk, HZ, HAT1, M⟩ := hrel
  have hk := hk.out
  have hw : r = 0 ∨ 0 < r := by omega
  rcases hw with hr0 | hr0
  ·
   obtain rfl : r = 0 := by omega
   obtain rfl : z = -1 := by have h_ := HZ.out; omega
   have HRN : Hid (ro = none) := HAT1.out.symm
   refine cj20 (M.out.2.1).c10 fun p0_0 q0_0 p0_1 q0_1 p0_2 q0_2 p0_3 q0_3 p0_4 q0_4 p0_5 q0_5 p0_6 q0_6 p0_7 q0_7 p0_8 q0_8 p0_9 q0_9 => ?_
   go_wp2_with fail
   clear p0_0 q0_0 p0_1 q0_1 p0_2 q0_2 p0_3 q0_3 p0_4 q0_4 p0_5 q0_5 p0_6 q0_6 p0_7 q0_7 p0_8 q0_8 p0_9 q0_9
   replace M := Lib.hid (And.intro (M.out.2.1) (M.out.2.2))
   refine nmW ((((((((((w3.setCell ⟨w.heap.size, 0, none⟩ (.string (⟨#[]⟩))).setCell ⟨w.heap.size, 1, none⟩ (.int .i64 0)).setCell ⟨w.heap.size, 2, none⟩ (.int .i64 0)).setCell ⟨w.heap.size, 3, none⟩ (.slice none 0 0)).setCell ⟨w.heap.size, 4, none⟩ (.int .i64 0)).setCell ⟨w.heap.size, 5, none⟩ (.slice none 0 0)).setCell ⟨w.heap.size, 6, none⟩ (.int .i64 0)).setCell ⟨w.heap.size, 7, none⟩ (.slice none 0 0)).setCell ⟨w.heap.size, 8, none⟩ (.int .i64 0)).setCell ⟨w.heap.size, 9, none⟩ (.slice none 0 0)) fun w4 hv => ?_
   rw [← hv]
   have og : w3.grownBy w4 (some w.heap.size) := by rw [hv]; exact (only_setCell (only_setCell (only_setCell (only_setCell (only_setCell (only_setCell (only_setCell (only_setCell (only_setCell (only_setCell (World.grownBy.refl _ _) _) _) _) _) _) _) _) _) _) _)
   have hz : w.heap.size ≤ w.heap.size := by exact Nat.le_refl _
   have hk : Bx w4 w.heap.size 37 #[.string (⟨#[]⟩), .int .i64 0, .int .i64 0, .slice none 0 0, .int .i64 0, .slice none 0 0, .int .i64 0, .slice none 0 0, .int .i64 0, .slice none 0 0] := by rw [hv]; exact ((M.out.1).all10)
   have hbw : Below w.heap.size w w4 := by rw [hv]; exact (Below.setCell (Below.setCell (Below.setCell (Below.setCell (Below.setCell (Below.setCell (Below.setCell (Below.setCell (Below.setCell (Below.setCell (M.out.2) (by omega) _) (by omega) _) (by omega) _) (by omega) _) (by omega) _) (by omega) _) (by omega) _) (by omega) _) (by omega) _) (by omega) _)
   replace M := Lib.hid (And.intro hk hbw)
   clear hk hbw og hv hz
   obtain rfl := HRN.out
   refine bodyPost_ret (results_box2 rfl _ _ w.heap.size 37 _ _ _ rfl (M.out.1) Try.underlying37 rfl (by kernel_rfl)) rfl ?_
   exact ⟨rfl, (M.out.2)⟩
  ·
   obtain ⟨s, rfl⟩ : ∃ s, r = s + 1 := ⟨r - 1, by omega⟩
   obtain rfl : z = (s : Int) := by have h_ := HZ.out; omega
   have hlt : s < n2 := by omega
   have es1 : decide ((0 : Int) ≤ (s : Int)) = true := decide_eq_true (by omega)
   have es2 : (0 : Int) ≤ (s : Int) := by omega
   have es3 : (s : Int) < (n2 : Int) := by omega
   obtain ⟨bx, offx, rfl, -⟩ := RdL.ptr (M.out.1) (by omega : 0 < n2)
   have hkl_ : s < l2.length := by rw [(M.out.1).len]; omega
   obtain ⟨x_, hx_⟩ : ∃ x, l2[s]? = some x := ⟨l2[s], List.getElem?_eq_getElem hkl_⟩
   obtain ⟨xk, xn, xu0, xu1, xu2, xu3, xq, xv0, xv1, xv2, xv3, xr⟩ := x_
   have HEx := Lib.hid hx_
   clear hx_ hkl_
   have HTS : Hid ((l2.take (s + 1)).map SC.sh = (l2.take s).map SC.sh ++ [⟨xk, xn, xq, xr⟩]) := take_next HEx.out
   by_cases hxn : xn ≤ nt
   ·
    have e5 : decide (xn ≤ nt) = true := decide_eq_true (by omega)
    have e5i : xn ≤ nt := by omega
    have HRN : Hid (ro = some ⟨xk, xn, xq, xr⟩) := by show _ = _; rw [← HAT1.out, HTS.out, atF_snoc, if_pos hxn]
    replace M := Lib.hid (And.intro (show FQ G w3 xu0 xu1 xu2 xu3 xq from (RdL.oks (M.out.1) _ (List.mem_of_getElem? HEx.out)).1) (And.intro (show FQ G w3 xv0 xv1 xv2 xv3 xr from (RdL.oks (M.out.1) _ (List.mem_of_getElem? HEx.out)).2) M.out))
    refine cj20 (M.out.2.2.2.1).c10 fun p0_0 q0_0 p0_1 q0_1 p0_2 q0_2 p0_3 q0_3 p0_4 q0_4 p0_5 q0_5 p0_6 q0_6 p0_7 q0_7 p0_8 q0_8 p0_9 q0_9 => ?_
    refine cj4 (TQ.st (M.out.1)) fun st_xu0 st_xu1 st_xu2 st_xu3 => ?_
    refine cj4 (TQ.st (M.out.2.1)) fun st_xv0 st_xv1 st_xv2 st_xv3 => ?_
    refine cj10 (show Row w3 bx (offx + s * 10) [.string xk, .int .i64 xn, xu0, xu1, xu2, xu3, xv0, xv1, xv2, xv3] from (RdL.row_ (M.out.2.2.1) HEx.out)).c10 fun r0_0 r0_1 r0_2 r0_3 r0_4 r0_5 r0_6 r0_7 r0_8 r0_9 => ?_
    go_wp2_with fail
    clear p0_0 q0_0 p0_1 q0_1 p0_2 q0_2 p0_3 q0_3 p0_4 q0_4 p0_5 q0_5 p0_6 q0_6 p0_7 q0_7 p0_8 q0_8 p0_9 q0_9 st_xu0 st_xu1 st_xu2 st_xu3 st_xv0 st_xv1 st_xv2 st_xv3 r0_0 r0_1 r0_2 r0_3 r0_4 r0_5 r0_6 r0_7 r0_8 r0_9
    replace M := Lib.hid (And.intro (M.out.1) (And.intro (M.out.2.1) (And.intro (M.out.2.2.2.1) (M.out.2.2.2.2))))
    refine nmW ((((((((((w3.setCell ⟨w.heap.size, 0, none⟩ (.string xk)).setCell ⟨w.heap.size, 1, none⟩ (.int .i64 xn)).setCell ⟨w.heap.size, 2, none⟩ (xu0)).setCell ⟨w.heap.size, 3, none⟩ (xu1)).setCell ⟨w.heap.size, 4, none⟩ (xu2)).setCell ⟨w.heap.size, 5, none⟩ (xu3)).setCell ⟨w.heap.size, 6, none⟩ (xv0)).setCell ⟨w.heap.size, 7, none⟩ (xv1)).setCell ⟨w.heap.size, 8, none⟩ (xv2)).setCell ⟨w.heap.size, 9, none⟩ (xv3)) fun w4 hv => ?_
    rw [← hv]
    have og : w3.grownBy w4 (some w.heap.size) := by rw [hv]; exact (only_setCell (only_setCell (only_setCell (only_setCell (only_setCell (only_setCell (only_setCell (only_setCell (only_setCell (only_setCell (World.grownBy.refl _ _) _) _) _) _) _) _) _) _) _) _)
    have hz : w.heap.size ≤ w.heap.size := by exact Nat.le_refl _
    have hk : Bx w4 w.heap.size 37 #[.string xk, .int .i64 xn, xu0, xu1, xu2, xu3, xv0, xv1, xv2, xv3] := by rw [hv]; exact ((M.out.2.2.1).all10)
    have hbw : Below w.heap.size w w4 := by rw [hv]; exact (Below.setCell (Below.setCell (Below.setCell (Below.setCell (Below.setCell (Below.setCell (Below.setCell (Below.setCell (Below.setCell (Below.setCell (M.out.2.2.2) (by omega) _) (by omega) _) (by omega) _) (by omega) _) (by omega) _) (by omega) _) (by omega) _) (by omega) _) (by omega) _) (by omega) _)
    replace M := Lib.hid (And.intro ((M.out.1).far (M.out.2.2.1) (by rfl) (by omega) og) (And.intro ((M.out.2.1).far (M.out.2.2.1) (by rfl) (by omega) og) (And.intro hk hbw)))
    clear hk hbw og hv hz
    obtain rfl := HRN.out
    refine bodyPost_ret (results_box2 rfl _ _ w.heap.size 37 _ _ _ rfl (M.out.2.2.1) Try.underlying37 rfl (by kernel_rfl)) rfl ?_
    exact ⟨AtPost.mk rfl (M.out.1) (M.out.2.1), (M.out.2.2.2)⟩
   ·
    have e5 : decide (xn ≤ nt) = false := decide_eq_false (by omega)
    have e5i : ¬ xn ≤ nt := by omega
    have HAM : Hid (atF ((l2.take s).map SC.sh) nt = ro) := by show _ = _; rw [← HAT1.out, HTS.out, atF_snoc, if_neg hxn]
    refine cj10 (show Row w3 bx (offx + s * 10) [.string xk, .int .i64 xn, xu0, xu1, xu2, xu3, xv0, xv1, xv2, xv3] from (RdL.row_ (M.out.1) HEx.out)).c10 fun r0_0 r0_1 r0_2 r0_3 r0_4 r0_5 r0_6 r0_7 r0_8 r0_9 => ?_
    go_wp2_with fail
    clear r0_0 r0_1 r0_2 r0_3 r0_4 r0_5 r0_6 r0_7 r0_8 r0_9
    go_roundw
    case rel => exact ⟨s, ((s : Int) - 1), by go_num, (by show _ ≤ _; omega), (Lib.hid rfl), HAM, Lib.hid (And.intro (M.out.1) (And.intro (M.out.2.1) (M.out.2.2)))⟩
    case measure => simp [RowKit.intOf] <;> omega
end Go.Proofs.Ytlpcblhkddmlnaa
namespace Go.Proofs.Ytlpcblhkddmlnaa
open Go.RowKit Go.Lib
variable {G : Nat}

/-- append(empty slice of one's own, elements...), the second ones anywhere in memory, or nil. -/
theorem copy_empty {α : Type} [El α] {P : Program} {t : TypeId} {z : Value} {bytes B g : Nat} {w : World} {a2 : Option Addr} {n c : Nat} {k : List α} (E : ElemT P t (El.T α) z (El.sz α) bytes) (ty : TypeId)
    (hb : Bx w g (El.T α) #[]) (hG : G ≤ B) (hB : B ≤ g) (hr : RdL G w a2 n c k) (hd : (El.deep α).contains (El.T α) = false) (hbytes : n * bytes ≤ 140737488355328) (h63 : n ≤ 140737488355328) :
    ∃ v' w', (Builtin.append_ #[t, t] ty #[.slice (some ⟨g, 0, none⟩) 0 0, .slice a2 n c]).run P w = .ok v' w' ∧ OwV G B w' v' k ∧ w.grownBy w' (some g) := by
  have hO : OwV G B w (.slice (some ⟨g, 0, none⟩) 0 0) ([] : List α) := OwV.empty hb hG hB
  have hBw : B ≤ w.heap.size := by have := hb.lt; omega
  obtain ⟨i0, hi, hz0, hz1, hz2⟩ := info_parts E.info
  rcases hr.cases with ⟨rfl, rfl⟩ | ⟨b, off, rfl, hp, hn, hc, hrb⟩
  · refine ⟨_, w, ?_, hO, World.grownBy.refl _ _⟩
    cases a2 with
    | none => simp [Builtin.append_, run_underlying E.under, sizeOf, typeInfo, hi, Builtin.lenOf, Builtin.firstCells, storeCells]
    | some ad => simp [Builtin.append_, run_underlying E.under, sizeOf, typeInfo, hi, Builtin.lenOf, Builtin.firstCells, storeCells, loadCells, loadCellsFrom]
  · obtain ⟨v', w', h1, h2, h3, -⟩ := run_append_own (P := P) w B t ty (El.T α) i0 z (El.sz α) bytes E.under hi hz0 hz1 hz2 E.cells E.pos (.slice (some ⟨g, 0, none⟩) 0 0) 0 [] hO.own ⟨b, off, none⟩ n c (k.flatMap El.cells) (by rw [flatMap_len, hn])
      (fun j u hj => by rw [add_off]; exact hrb.flat j u hj) (fun u hu => by obtain ⟨x, hx, hu⟩ := List.mem_flatMap.1 hu; exact El.one (hrb.oks x hx) u hu) (by unfold maxLen; omega) (by rw [Nat.zero_add]; exact hbytes) hBw
    refine ⟨v', w', h1, ⟨hG, ?_, fun x hx => El.grown (hrb.oks x hx) hO.own hd hG h3⟩, h3⟩
    rw [hn]; rw [Nat.zero_add, List.nil_append] at h2; exact h2
theorem wpList_copyE {α : Type} [El α] {P : Program} {ops : Array Oper} {rest : List Oper} {o : Oper} {a : Act} {Q : Exit → Act → World → Prop} (hgd : o.guard = none) (s x : Operand)
    {t : TypeId} {z : Value} {bytes : Nat} (E : ElemT P t (El.T α) z (El.sz α) bytes) (ho : o.op = .call { callee := .builtin .append, args := #[s, x], argTypes := #[t, t] })
    {B g : Nat} {w : World} {a2 : Option Addr} {n c : Nat} {k : List α} (hb : Bx w g (El.T α) #[]) (hG : G ≤ B) (hB : B ≤ g) (hr : RdL G w a2 n c k) (hd : (El.deep α).contains (El.T α) = false) (hbytes : n * bytes ≤ 140737488355328) (h63 : n ≤ 140737488355328)
    (hs : a.eval s = .slice (some ⟨g, 0, none⟩) 0 0) (hx : a.eval x = .slice a2 n c)
    (hK : ∀ v' w', OwV G B w' v' k → w.grownBy w' (some g) → wpList P ops Q rest (a.put o.dst v') w') : wpList P ops Q (o :: rest) a w := by
  refine wpList_plain hgd fun K hK' => ?_
  obtain ⟨v', w', h1, h2, h3⟩ := copy_empty (P := P) E o.type hb hG hB hr hd hbytes h63
  unfold Oper.wp execOp
  simp only [ho, resolve, invoke, builtin, Sem.run_bind, Sem.run_pure, Result.andThen_ok, List.map_toArray, List.map_cons, List.map_nil, hs, hx, h1]
  exact hK' _ _ (hK v' w' h2 h3)
theorem wp_copyE {α : Type} [El α] {P : Program} {o : Oper} {a : Act} {K : Act → World → Prop} {Q : Exit → Act → World → Prop} {s x : Operand} {t : TypeId} {z : Value} {bytes : Nat} (E : ElemT P t (El.T α) z (El.sz α) bytes)
    {B g : Nat} {w : World} {a2 : Option Addr} {n c : Nat} {k : List α} (hb : Bx w g (El.T α) #[]) (hG : G ≤ B) (hB : B ≤ g) (hr : RdL G w a2 n c k) (hd : (El.deep α).contains (El.T α) = false) (hbytes : n * bytes ≤ 140737488355328) (h63 : n ≤ 140737488355328)
    (ho : o.op = .call { callee := .builtin .append, args := #[s, x], argTypes := #[t, t] }) (hs : a.eval s = .slice (some ⟨g, 0, none⟩) 0 0) (hx : a.eval x = .slice a2 n c)
    (hK : ∀ v' w', OwV G B w' v' k → w.grownBy w' (some g) → K (a.put o.dst v') w') : o.wp P a w K Q := by
  obtain ⟨v', w', h1, h2, h3⟩ := copy_empty (P := P) E o.type hb hG hB hr hd hbytes h63
  unfold Oper.wp execOp
  simp only [ho, resolve, invoke, builtin, Sem.run_bind, Sem.run_pure, Result.andThen_ok, List.map_toArray, List.map_cons, List.map_nil, hs, hx, h1]
  exact hK v' w' h2 h3
theorem rAt_c {key : ByteArray} {nt : Int} {l : List SC} {ls : List SR} {a : Option Addr} {n c : Nat} {w : World} (hG : G ≤ w.heap.size) (h : RdC G w a n c l) (h0 : RdR G w a n c ls) (hs : ∀ x ∈ ls, fewR x = true) (hr : rightL keyOk ls = true) (ok : OkL keyOk (l.map SC.sh)) (hz : FzL l 100000000) :
  Calls Try.prog 13 #[.slice a n c, .string key, .int .i64 nt] w fun e w' => AtPost G (atF (allF (l.map SC.sh) key) nt) e w' ∧ Below w.heap.size w w' := by
 refine rAt_g hG ?_ (fun W hW => rAll (Nat.le_trans hG hW.size) (h.keep hW) (h0.keep hW) hs hr ok hz) rfl
 have h2 : (allF (l.map SC.sh) key).length ≤ (l.map SC.sh).length := List.length_filter_le _ _
 have h3 := ok.len
 omega
theorem rAt_some {key yk : ByteArray} {nt yn : Int} {yq yr : Rat} {l : List SC} {ls : List SR} {a : Option Addr} {n c : Nat} {w : World} (hG : G ≤ w.heap.size) (h : RdC G w a n c l) (h0 : RdR G w a n c ls) (hs : ∀ x ∈ ls, fewR x = true) (hr : rightL keyOk ls = true) (ok : OkL keyOk (l.map SC.sh)) (hz : FzL l 100000000) (hy : atF (allF (l.map SC.sh) key) nt = some ⟨yk, yn, yq, yr⟩) :
  Calls Try.prog 13 #[.slice a n c, .string key, .int .i64 nt] w fun e w' => ∃ x0 x1 x2 x3 x4 x5 x6 x7, e = .returned (.tuple #[.agg #[.string yk, .int .i64 yn, x0, x1, x2, x3, x4, x5, x6, x7], .bool true]) ∧ FQ G w' x0 x1 x2 x3 yq ∧ FQ G w' x4 x5 x6 x7 yr ∧ Below w.heap.size w w' :=
 (rAt_c hG h h0 hs hr ok hz).mono fun e w' ⟨h1, h2⟩ => by
  rw [hy] at h1
  obtain ⟨x0, x1, x2, x3, x4, x5, x6, x7, k1, k2, k3⟩ := h1.some_
  exact ⟨x0, x1, x2, x3, x4, x5, x6, x7, k1, k2, k3, h2⟩
theorem rAt_none {key : ByteArray} {nt : Int} {l : List SC} {ls : List SR} {a : Option Addr} {n c : Nat} {w : World} (hG : G ≤ w.heap.size) (h : RdC G w a n c l) (h0 : RdR G w a n c ls) (hs : ∀ x ∈ ls, fewR x = true) (hr : rightL keyOk ls = true) (ok : OkL keyOk (l.map SC.sh)) (hz : FzL l 100000000) (hy : atF (allF (l.map SC.sh) key) nt = none) :
  Calls Try.prog 13 #[.slice a n c, .string key, .int .i64 nt] w fun e w' => e = .returned (.tuple #[.agg #[.string ⟨#[]⟩, .int .i64 0, .int .i64 0, .slice none 0 0, .int .i64 0, .slice none 0 0, .int .i64 0, .slice none 0 0, .int .i64 0, .slice none 0 0], .bool false]) ∧ Below w.heap.size w w' :=
 (rAt_c hG h h0 hs hr ok hz).mono fun e w' ⟨h1, h2⟩ => by
  rw [hy] at h1
  exact ⟨h1.none_, h2⟩
theorem rAt_no {key : ByteArray} {nt : Int} {l : List SR} {a : Option Addr} {n c : Nat} {w : World} (hG : G ≤ w.heap.size) (h : RdR G w a n c l) (hn : n ≤ 2000) (hs : ∀ x ∈ l, fewR x = true) (hr : rightL keyOk l = false) :
  Calls Try.prog 13 #[.slice a n c, .string key, .int .i64 nt] w fun e w' => e = .returned (.tuple #[.agg #[.string ⟨#[]⟩, .int .i64 0, .int .i64 0, .slice none 0 0, .int .i64 0, .slice none 0 0, .int .i64 0, .slice none 0 0, .int .i64 0, .slice none 0 0], .bool false]) ∧ Below w.heap.size w w' :=
 (rAt_g hG (lf := []) (ro := none) (by simp) (fun W hW => (rAll_no (Nat.le_trans hG hW.size) (h.keep hW) hn hs hr).mono fun e w' ⟨h1, h2⟩ => ⟨none, 0, 0, [], h1, RdL.nil _ _ _, rfl, h2⟩) rfl).mono fun e w' ⟨h1, h2⟩ => ⟨AtPost.none_ h1, h2⟩
set_option maxRecDepth 100000 in
set_option maxHeartbeats 4000000 in
theorem rLast_some {key yk : ByteArray} {yn : Int} {yq yr : Rat} {l : List SC} {ls : List SR} {a : Option Addr} {n c : Nat} {w : World} (hG : G ≤ w.heap.size) (h : RdC G w a n c l) (h0 : RdR G w a n c ls) (hs : ∀ x ∈ ls, fewR x = true) (hr : rightL keyOk ls = true) (ok : OkL keyOk (l.map SC.sh)) (hz : FzL l 100000000) (hy : lastK (l.map SC.sh) key = some ⟨yk, yn, yq, yr⟩) :
  Calls Try.prog 15 #[.slice a n c, .string key] w fun e w' => ∃ x0 x1 x2 x3 x4 x5 x6 x7, e = .returned (.tuple #[.agg #[.string yk, .int .i64 yn, x0, x1, x2, x3, x4, x5, x6, x7], .bool true]) ∧ FQ G w' x0 x1 x2 x3 yq ∧ FQ G w' x4 x5 x6 x7 yr ∧ Below w.heap.size w w' := by
 have HOK := Lib.hid ok; have HZ := Lib.hid hz; have HS := Lib.hid hs; have HR := Lib.hid hr; clear ok hz hs hr
 have HY := Lib.hid hy; clear hy
 have HL : Hid (RdC G w a n c l) := h
 have HL0 : Hid (RdR G w a n c ls) := h0
 clear h h0
 have M : Hid (Below w.heap.size w w) := Below.refl _ _
 go_enter Try.func15, Try.ntmps15
 go_upto_region 1 with fail
 refine nmW (w.alloc (.cells #[.string (⟨#[]⟩), .int .i64 0, .int .i64 0, .slice none 0 0, .int .i64 0, .slice none 0 0, .int .i64 0, .slice none 0 0, .int .i64 0, .slice none 0 0] 37)) fun w1 hv => ?_
 rw [← hv]
 replace M := alM hv M
 clear hv
 go_wp2_with fail
 refine (rAt_some (G := G) (key := key) (yk := yk) (nt := 1099511627776) (yn := yn) (yq := yq) (yr := yr) (l := l) (ls := ls) (Nat.le_trans hG (M.out.2).size) (HL.out.keep (M.out.2)) (HL0.out.keep (M.out.2)) HS.out HR.out HOK.out HZ.out ((at_top HOK.out _).trans HY.out)).mono ?_
 rintro e w2 ⟨x_1, x_2, x_3, x_4, x_5, x_6, x_7, x_8, rfl, hd9, hd10, hb⟩
 replace M := ad2M hd9 hd10 hb M
 clear hb hd9 hd10
 refine cj4 (TQ.st (M.out.1)) fun st_x_1 st_x_2 st_x_3 st_x_4 => ?_
 refine cj4 (TQ.st (M.out.2.1)) fun st_x_5 st_x_6 st_x_7 st_x_8 => ?_
 go_upto_region 2 with fail
 clear st_x_1 st_x_2 st_x_3 st_x_4 st_x_5 st_x_6 st_x_7 st_x_8
 refine nmW (w2.alloc (.cells #[.string yk, .int .i64 yn, x_1, x_2, x_3, x_4, x_5, x_6, x_7, x_8] 37)) fun w3 hv => ?_
 rw [← hv]
 have ow1_ : w.heap.size < w2.heap.size := ((M.out.2.2.1)).lt
 replace M := alM hv M
 clear hv
 refine cj10 (M.out.1).d10 fun p1_0 p1_1 p1_2 p1_3 p1_4 p1_5 p1_6 p1_7 p1_8 p1_9 => ?_
 refine cj20 (M.out.2.2.2.1).c10 fun p0_0 q0_0 p0_1 q0_1 p0_2 q0_2 p0_3 q0_3 p0_4 q0_4 p0_5 q0_5 p0_6 q0_6 p0_7 q0_7 p0_8 q0_8 p0_9 q0_9 => ?_
 refine cj4 (TQ.st (M.out.2.1)) fun st_x_1 st_x_2 st_x_3 st_x_4 => ?_
 refine cj4 (TQ.st (M.out.2.2.1)) fun st_x_5 st_x_6 st_x_7 st_x_8 => ?_
 go_wp2_with fail
 clear p1_0 p1_1 p1_2 p1_3 p1_4 p1_5 p1_6 p1_7 p1_8 p1_9 p0_0 q0_0 p0_1 q0_1 p0_2 q0_2 p0_3 q0_3 p0_4 q0_4 p0_5 q0_5 p0_6 q0_6 p0_7 q0_7 p0_8 q0_8 p0_9 q0_9 st_x_1 st_x_2 st_x_3 st_x_4 st_x_5 st_x_6 st_x_7 st_x_8
 refine nmW ((((((((((w3.setCell ⟨w.heap.size, 0, none⟩ (.string yk)).setCell ⟨w.heap.size, 1, none⟩ (.int .i64 yn)).setCell ⟨w.heap.size, 2, none⟩ (x_1)).setCell ⟨w.heap.size, 3, none⟩ (x_2)).setCell ⟨w.heap.size, 4, none⟩ (x_3)).setCell ⟨w.heap.size, 5, none⟩ (x_4)).setCell ⟨w.heap.size, 6, none⟩ (x_5)).setCell ⟨w.heap.size, 7, none⟩ (x_6)).setCell ⟨w.heap.size, 8, none⟩ (x_7)).setCell ⟨w.heap.size, 9, none⟩ (x_8)) fun w4 hv => ?_
 rw [← hv]
 have og : w3.grownBy w4 (some w.heap.size) := by rw [hv]; exact (only_setCell (only_setCell (only_setCell (only_setCell (only_setCell (only_setCell (only_setCell (only_setCell (only_setCell (only_setCell (World.grownBy.refl _ _) _) _) _) _) _) _) _) _) _) _)
 have hz : w.heap.size ≤ w.heap.size := by exact Nat.le_refl _
 have hk : Bx w4 w.heap.size 37 #[.string yk, .int .i64 yn, x_1, x_2, x_3, x_4, x_5, x_6, x_7, x_8] := by rw [hv]; exact ((M.out.2.2.2.1).all10)
 have hbw : Below w.heap.size w w4 := by rw [hv]; exact (Below.setCell (Below.setCell (Below.setCell (Below.setCell (Below.setCell (Below.setCell (Below.setCell (Below.setCell (Below.setCell (Below.setCell (M.out.2.2.2.2) (by omega) _) (by omega) _) (by omega) _) (by omega) _) (by omega) _) (by omega) _) (by omega) _) (by omega) _) (by omega) _) (by omega) _)
 replace M := Lib.hid (And.intro ((M.out.1).only og (by omega)) (And.intro ((M.out.2.1).far (M.out.2.2.2.1) (by rfl) (by omega) og) (And.intro ((M.out.2.2.1).far (M.out.2.2.2.1) (by rfl) (by omega) og) (And.intro hk hbw))))
 clear hk hbw og hv hz
 refine bodyPost_ret (results_box2 rfl _ _ w.heap.size 37 _ _ _ rfl (M.out.2.2.2.1) Try.underlying37 rfl (by kernel_rfl)) rfl ?_
 exact ⟨_, _, _, _, _, _, _, _, rfl, (M.out.2.1), (M.out.2.2.1), (M.out.2.2.2.2)⟩
set_option maxRecDepth 100000 in
set_option maxHeartbeats 4000000 in
theorem rLast_none {key : ByteArray} {l : List SC} {ls : List SR} {a : Option Addr} {n c : Nat} {w : World} (hG : G ≤ w.heap.size) (h : RdC G w a n c l) (h0 : RdR G w a n c ls) (hs : ∀ x ∈ ls, fewR x = true) (hr : rightL keyOk ls = true) (ok : OkL keyOk (l.map SC.sh)) (hz : FzL l 100000000) (hy : lastK (l.map SC.sh) key = none) :
  Calls Try.prog 15 #[.slice a n c, .string key] w fun e w' => e = .returned (.tuple #[.agg #[.string ⟨#[]⟩, .int .i64 0, .int .i64 0, .slice none 0 0, .int .i64 0, .slice none 0 0, .int .i64 0, .slice none 0 0, .int .i64 0, .slice none 0 0], .bool false]) ∧ Below w.heap.size w w' := by
 have HOK := Lib.hid ok; have HZ := Lib.hid hz; have HS := Lib.hid hs; have HR := Lib.hid hr; clear ok hz hs hr
 have HY := Lib.hid hy; clear hy
 have HL : Hid (RdC G w a n c l) := h
 have HL0 : Hid (RdR G w a n c ls) := h0
 clear h h0
 have M : Hid (Below w.heap.size w w) := Below.refl _ _
 go_enter Try.func15, Try.ntmps15
 go_upto_region 1 with fail
 refine nmW (w.alloc (.cells #[.string (⟨#[]⟩), .int .i64 0, .int .i64 0, .slice none 0 0, .int .i64 0, .slice none 0 0, .int .i64 0, .slice none 0 0, .int .i64 0, .slice none 0 0] 37)) fun w1 hv => ?_
 rw [← hv]
 replace M := alM hv M
 clear hv
 go_wp2_with fail
 refine (rAt_none (G := G) (key := key) (nt := 1099511627776) (l := l) (ls := ls) (Nat.le_trans hG (M.out.2).size) (HL.out.keep (M.out.2)) (HL0.out.keep (M.out.2)) HS.out HR.out HOK.out HZ.out ((at_top HOK.out _).trans HY.out)).mono ?_
 rintro e w2 ⟨rfl, hb⟩
 replace M := gnM hb M
 clear hb
 go_upto_region 2 with fail
 refine nmW (w2.alloc (.cells #[.string (⟨#[]⟩), .int .i64 0, .int .i64 0, .slice none 0 0, .int .i64 0, .slice none 0 0, .int .i64 0, .slice none 0 0, .int .i64 0, .slice none 0 0] 37)) fun w3 hv => ?_
 rw [← hv]
 have ow1_ : w.heap.size < w2.heap.size := ((M.out.1)).lt
 replace M := alM hv M
 clear hv
 refine cj10 (M.out.1).d10 fun p1_0 p1_1 p1_2 p1_3 p1_4 p1_5 p1_6 p1_7 p1_8 p1_9 => ?_
 refine cj20 (M.out.2.1).c10 fun p0_0 q0_0 p0_1 q0_1 p0_2 q0_2 p0_3 q0_3 p0_4 q0_4 p0_5 q0_5 p0_6 q0_6 p0_7 q0_7 p0_8 q0_8 p0_9 q0_9 => ?_
 go_wp2_with fail
 clear p1_0 p1_1 p1_2 p1_3 p1_4 p1_5 p1_6 p1_7 p1_8 p1_9 p0_0 q0_0 p0_1 q0_1 p0_2 q0_2 p0_3 q0_3 p0_4 q0_4 p0_5 q0_5 p0_6 q0_6 p0_7 q0_7 p0_8 q0_8 p0_9 q0_9
 refine nmW ((((((((((w3.setCell ⟨w.heap.size, 0, none⟩ (.string (⟨#[]⟩))).setCell ⟨w.heap.size, 1, none⟩ (.int .i64 0)).setCell ⟨w.heap.size, 2, none⟩ (.int .i64 0)).setCell ⟨w.heap.size, 3, none⟩ (.slice none 0 0)).setCell ⟨w.heap.size, 4, none⟩ (.int .i64 0)).setCell ⟨w.heap.size, 5, none⟩ (.slice none 0 0)).setCell ⟨w.heap.size, 6, none⟩ (.int .i64 0)).setCell ⟨w.heap.size, 7, none⟩ (.slice none 0 0)).setCell ⟨w.heap.size, 8, none⟩ (.int .i64 0)).setCell ⟨w.heap.size, 9, none⟩ (.slice none 0 0)) fun w4 hv => ?_
 rw [← hv]
 have og : w3.grownBy w4 (some w.heap.size) := by rw [hv]; exact (only_setCell (only_setCell (only_setCell (only_setCell (only_setCell (only_setCell (only_setCell (only_setCell (only_setCell (only_setCell (World.grownBy.refl _ _) _) _) _) _) _) _) _) _) _) _)
 have hz : w.heap.size ≤ w.heap.size := by exact Nat.le_refl _
 have hk : Bx w4 w.heap.size 37 #[.string (⟨#[]⟩), .int .i64 0, .int .i64 0, .slice none 0 0, .int .i64 0, .slice none 0 0, .int .i64 0, .slice none 0 0, .int .i64 0, .slice none 0 0] := by rw [hv]; exact ((M.out.2.1).all10)
 have hbw : Below w.heap.size w w4 := by rw [hv]; exact (Below.setCell (Below.setCell (Below.setCell (Below.setCell (Below.setCell (Below.setCell (Below.setCell (Below.setCell (Below.setCell (Below.setCell (M.out.2.2) (by omega) _) (by omega) _) (by omega) _) (by omega) _) (by omega) _) (by omega) _) (by omega) _) (by omega) _) (by omega) _) (by omega) _)
 replace M := Lib.hid (And.intro ((M.out.1).only og (by omega)) (And.intro hk hbw))
 clear hk hbw og hv hz
 refine bodyPost_ret (results_box2 rfl _ _ w.heap.size 37 _ _ _ rfl (M.out.2.1) Try.underlying37 rfl (by kernel_rfl)) rfl ?_
 exact ⟨rfl, (M.out.2.2)⟩
set_option maxRecDepth 100000 in
set_option maxHeartbeats 4000000 in
theorem rLast_no {key : ByteArray} {l : List SR} {a : Option Addr} {n c : Nat} {w : World} (hG : G ≤ w.heap.size) (h : RdR G w a n c l) (_hn : n ≤ 2000) (hs : ∀ x ∈ l, fewR x = true) (hr : rightL keyOk l = false) :
  Calls Try.prog 15 #[.slice a n c, .string key] w fun e w' => e = .returned (.tuple #[.agg #[.string ⟨#[]⟩, .int .i64 0, .int .i64 0, .slice none 0 0, .int .i64 0, .slice none 0 0, .int .i64 0, .slice none 0 0, .int .i64 0, .slice none 0 0], .bool false]) ∧ Below w.heap.size w w' := by
 have HS := Lib.hid hs; have HR := Lib.hid hr; clear hs hr
 have HL : Hid (RdR G w a n c l) := h
 clear h
 have M : Hid (Below w.heap.size w w) := Below.refl _ _
 go_enter Try.func15, Try.ntmps15
 go_upto_region 1 with fail
 refine nmW (w.alloc (.cells #[.string (⟨#[]⟩), .int .i64 0, .int .i64 0, .slice none 0 0, .int .i64 0, .slice none 0 0, .int .i64 0, .slice none 0 0, .int .i64 0, .slice none 0 0] 37)) fun w1 hv => ?_
 rw [← hv]
 replace M := alM hv M
 clear hv
 go_wp2_with fail
 refine (rAt_no (G := G) (key := key) (nt := 1099511627776) (l := l) (Nat.le_trans hG (M.out.2).size) (HL.out.keep (M.out.2)) (by omega) HS.out HR.out).mono ?_
 rintro e w2 ⟨rfl, hb⟩
 replace M := gnM hb M
 clear hb
 go_upto_region 2 with fail
 refine nmW (w2.alloc (.cells #[.string (⟨#[]⟩), .int .i64 0, .int .i64 0, .slice none 0 0, .int .i64 0, .slice none 0 0, .int .i64 0, .slice none 0 0, .int .i64 0, .slice none 0 0] 37)) fun w3 hv => ?_
 rw [← hv]
 have ow1_ : w.heap.size < w2.heap.size := ((M.out.1)).lt
 replace M := alM hv M
 clear hv
 refine cj10 (M.out.1).d10 fun p1_0 p1_1 p1_2 p1_3 p1_4 p1_5 p1_6 p1_7 p1_8 p1_9 => ?_
 refine cj20 (M.out.2.1).c10 fun p0_0 q0_0 p0_1 q0_1 p0_2 q0_2 p0_3 q0_3 p0_4 q0_4 p0_5 q0_5 p0_6 q0_6 p0_7 q0_7 p0_8 q0_8 p0_9 q0_9 => ?_
 go_wp2_with fail
 clear p1_0 p1_1 p1_2 p1_3 p1_4 p1_5 p1_6 p1_7 p1_8 p1_9 p0_0 q0_0 p0_1 q0_1 p0_2 q0_2 p0_3 q0_3 p0_4 q0_4 p0_5 q0_5 p0_6 q0_6 p0_7 q0_7 p0_8 q0_8 p0_9 q0_9
 refine nmW ((((((((((w3.setCell ⟨w.heap.size, 0, none⟩ (.string (⟨#[]⟩))).setCell ⟨w.heap.size, 1, none⟩ (.int .i64 0)).setCell ⟨w.heap.size, 2, none⟩ (.int .i64 0)).setCell ⟨w.heap.size, 3, none⟩ (.slice none 0 0)).setCell ⟨w.heap.size, 4, none⟩ (.int .i64 0)).setCell ⟨w.heap.size, 5, none⟩ (.slice none 0 0)).setCell ⟨w.heap.size, 6, none⟩ (.int .i64 0)).setCell ⟨w.heap.size, 7, none⟩ (.slice none 0 0)).setCell ⟨w.heap.size, 8, none⟩ (.int .i64 0)).setCell ⟨w.heap.size, 9, none⟩ (.slice none 0 0)) fun w4 hv => ?_
 rw [← hv]
 have og : w3.grownBy w4 (some w.heap.size) := by rw [hv]; exact (only_setCell (only_setCell (only_setCell (only_setCell (only_setCell (only_setCell (only_setCell (only_setCell (only_setCell (only_setCell (World.grownBy.refl _ _) _) _) _) _) _) _) _) _) _) _)
 have hz : w.heap.size ≤ w.heap.size := by exact Nat.le_refl _
 have hk : Bx w4 w.heap.size 37 #[.string (⟨#[]⟩), .int .i64 0, .int .i64 0, .slice none 0 0, .int .i64 0, .slice none 0 0, .int .i64 0, .slice none 0 0, .int .i64 0, .slice none 0 0] := by rw [hv]; exact ((M.out.2.1).all10)
 have hbw : Below w.heap.size w w4 := by rw [hv]; exact (Below.setCell (Below.setCell (Below.setCell (Below.setCell (Below.setCell (Below.setCell (Below.setCell (Below.setCell (Below.setCell (Below.setCell (M.out.2.2) (by omega) _) (by omega) _) (by omega) _) (by omega) _) (by omega) _) (by omega) _) (by omega) _) (by omega) _) (by omega) _) (by omega) _)
 replace M := Lib.hid (And.intro ((M.out.1).only og (by omega)) (And.intro hk hbw))
 clear hk hbw og hv hz
 refine bodyPost_ret (results_box2 rfl _ _ w.heap.size 37 _ _ _ rfl (M.out.2.1) Try.underlying37 rfl (by kernel_rfl)) rfl ?_
 exact ⟨rfl, (M.out.2.2)⟩
end Go.Proofs.Ytlpcblhkddmlnaa
