/- Reading a big integer. -/
import Derived.Test.YtcfmakpckdicjaaGreatDoorBase
import Derived.Test.YtcfmakpckdicjaaGreatDoorBigSpec
import Derived.Test.YtcfmakpckdicjaaGreatDoorBigB
import Derived.Test.YtcfmakpckdicjaaGreatDoorBigD
import Derived.Test.YtcfmakpckdicjaaGreatDoorBigH
import Derived.Test.YtcfmakpckdicjaaGreatDoorBigQ
import Derived.Test.YtcfmakpckdicjaaGreatDoorFracA
import Derived.Test.YtcfmakpckdicjaaGreatDoorAw
import Derived.Test.YtcfmakpckdicjaaGreatDoorBigDec
import Derived.Test.YtcfmakpckdicjaaGreatDoorProg
import Derived.Test.YtcfmakpckdicjaaGreatDoorShelf
import Derived.WalkKit
import Derived.WalkSpells
import Derived.WalkLawsBesides
import Derived.Handy
import Derived.Lib.Hide
import Derived.Lib.Strings
import Derived.Lib.Builder
import Derived.BigQuiet
import Derived.OwnWalk
import Derived.Laws.BitsLemmas
import Derived.WalkSmall
import Derived.Deep.QuietTactic
import Derived.StillTailTactics
import Derived.Maps.AppendAt
import Derived.IntWalk
import Derived.Deep.RegionHeld3
import Derived.Deep.DeepFit
import Derived.Deep.LoopGhost
import Derived.Deep.DeepCutAuto
import Derived.Lib.ItoaNum
import Derived.Lib.Repeat
import Derived.Lib.AppendIntMem
import Derived.Sort.OwnSorted
namespace Go.Proofs.YtcfmakpckdicjaaGreatDoor
open Go.RowKit Go.Lib Go.Sort
variable {G : Nat}

/-- The library's table of powers of ten. -/
def Tab (w : World) : Prop := Lib.TabIs Tryz.prog w "internal/strconv.uint64pow10" .u64 Lib.pow10Tab
theorem Tab.keep {w w' : World} (h : Tab w) (hb : Below w.heap.size w w') : Tab w' := by
  unfold Tab Lib.TabIs World.var? at *
  cases hg : Tryz.prog.globalNamed "internal/strconv.uint64pow10" with
  | none => rw [hg] at h; cases h
  | some g =>
    rw [hg] at h
    simp only [Option.bind_some] at h ⊢
    have hlt : g < w.heap.size := by
      rcases Nat.lt_or_ge g w.heap.size with h' | h'
      · exact h'
      · rw [Array.getElem?_eq_none h'] at h; cases h
    rw [hb.block g hlt]; exact h
instance {w w' : World} : Goes (Tab w) w w' (Tab w') := ⟨fun h hb => h.keep hb⟩
theorem itoa_n (r : Nat) (hr : r < 100000) (w : World) (ht : Tab w) :
  Calls Tryz.prog 100 #[.int .i64 r] w fun e w' => e = .returned (.string ⟨(decDigits r).toArray⟩) ∧ Below w.heap.size w w' := by
 refine (Tryz.strconv_Itoa (r : Int) (by omega) (by omega) w ht).mono ?_
 rintro e w' ⟨rfl, k, os, rfl⟩
 rw [itoa_nonneg]
 exact ⟨rfl, below_grow _ w (Nat.le_refl _) k os⟩
theorem short_n {n q r : Nat} {a : Option Addr} {c : Nat} {w : World} (h : RdN w (.slice a (lnN n) c) (digs n)) (hn : lnN n ≤ 2199023255552) (hq : n / 100000 = q) (hr : n % 100000 = r) :
  Calls Tryz.prog 99 #[.slice a (lnN n) c, .int .i64 100000] w fun e w' => ∃ b d, e = .returned (.tuple #[.slice b (lnN q) d, .int .i64 r]) ∧ OwnN w' w.heap.size (.slice b (lnN q) d) (digs q) ∧ Below w.heap.size w w' := by
 subst hq hr
 refine (bigShort_any _ (digs n) 100000 w h (digs_small n) (by omega) (by omega) hn).mono ?_
 rintro e w' ⟨v, rfl, ho, hb⟩
 rw [val_digs] at ho ⊢
 obtain ⟨b, d, rfl⟩ := ho.slice
 exact ⟨b, d, rfl, ho, hb⟩
/-- Strings in memory of the call's own. -/
def KeptS (w : World) (B : Nat) (v : Value) (l : List (List UInt8)) : Prop := w.ownsRow B 9 1 v l.length (l.map encStr)
theorem KeptS.keep {w w' : World} {B : Nat} {v : Value} {l : List (List UInt8)} (h : KeptS w B v l) (hb : Below w.heap.size w w') : KeptS w' B v l := own_below h hb
theorem elemStr : ElemT Tryz.prog 82 9 (.string ⟨#[]⟩) 1 16 := ⟨Tryz.underlying82, by kernel_rfl, rfl, by decide⟩
theorem join_flat (l : List (List UInt8)) : Lib.join l [] = l.flatten := by
 unfold Lib.join List.intercalate
 induction l with
 | nil => rfl
 | cons x l ih =>
  cases l with
  | nil => simp
  | cons y l => simp only [List.intersperse_cons_cons, List.flatten_cons, List.nil_append] at ih ⊢; rw [ih]
theorem reverse_own {B : Nat} {v : Value} {l : List (List UInt8)} {w : World} (h : KeptS w B v l) (hB : B ≤ w.heap.size) (hn : l.length ≤ 1099511627776) :
    Calls Tryz.prog 102 #[v] w fun e w' => e = .returned (.tuple #[]) ∧ KeptS w' B v l.reverse ∧ Below B w w' := by
  have h0 := h
  obtain ⟨hl, ⟨rfl, hz⟩ | ⟨g, cap, cur, rfl, hg, hb, hcap, hmax, hs, ht⟩⟩ := h0
  · obtain rfl : l = [] := List.length_eq_zero_iff.1 hz
    refine (Tryz.slices_Reverse_string_empty none 0 w).mono ?_
    rintro e w' ⟨rfl, rfl⟩
    exact ⟨rfl, h, Below.refl _ _⟩
  · rw [Nat.mul_one] at ht hs
    have hH := holds_of_block hb ht
    refine (Tryz.slices_Reverse_string g 0 cap l w hH (by omega)).mono ?_
    rintro e w' ⟨rfl, n, rfl⟩
    have hg' := grownBy_sorted (w := w) (g := g) (n := n) (os := #[]) l.reverse.toArray
    have hh := heap_sorted (n := n) (os := #[]) l.reverse.toArray hb
    rw [grow_empty] at hg' hh
    refine ⟨rfl, ⟨by simp, .inr ⟨g, cap, _, by rw [List.length_reverse], hg, hh, by rw [List.length_reverse]; exact hcap, hmax, by simp [putCells]; exact hs, ?_⟩⟩, (Below.refl _ _).grown hg' hB (by rintro k hk; cases hk; exact hg)⟩
    rw [Nat.mul_one]
    exact take_putCells cur l.reverse (by rw [List.length_reverse]; omega)
theorem join_own {B : Nat} {v : Value} {l : List (List UInt8)} {w : World} (h : KeptS w B v l) (hn : l.length ≤ 1099511627776) (hl : l.flatten.length ≤ 140737488355328) :
    Calls Tryz.prog 103 #[v, .string ⟨#[]⟩] w fun e w' => e = .returned (.string ⟨l.flatten.toArray⟩) ∧ Below w.heap.size w w' := by
  obtain ⟨h1, ⟨rfl, hz⟩ | ⟨g, cap, cur, rfl, hg, hb, hcap, hmax, hs, ht⟩⟩ := h
  · obtain rfl : l = [] := List.length_eq_zero_iff.1 hz
    refine (Tryz.strings_Join_none none 0 ⟨#[]⟩ w).mono ?_
    rintro e w' ⟨rfl, rfl⟩
    exact ⟨rfl, Below.refl _ _⟩
  · rw [Nat.mul_one] at ht hs
    have hH := holds_of_block hb ht
    have hm : (l.map (fun x => (⟨x.toArray⟩ : ByteArray))).map (·.data.toList) = l := by
      rw [List.map_map]
      conv => rhs; rw [← List.map_id l]
      exact List.map_congr_left fun x _ => by simp
    have hj : Lib.join ((l.map (fun x => (⟨x.toArray⟩ : ByteArray))).map (·.data.toList)) (⟨#[]⟩ : ByteArray).data.toList = l.flatten := by rw [hm]; exact join_flat l
    have := Tryz.strings_Join g 0 cap (l.map (fun x => (⟨x.toArray⟩ : ByteArray))) ⟨#[]⟩ w ?_ (by
      rcases Nat.lt_or_ge g w.heap.size with h' | h'
      · exact h'
      · rw [Array.getElem?_eq_none h'] at hb; cases hb) (by rw [List.length_map]; omega) (by rw [List.length_map]; exact hcap) (by rw [hj]; exact hl)
    · rw [hj, List.length_map] at this; exact this
    · intro j x hx
      rw [List.getElem?_map] at hx
      obtain ⟨y, hy, rfl⟩ := Option.map_eq_some_iff.1 hx
      have hjl : j < l.length := (List.getElem?_eq_some_iff.1 hy).1
      have := (hH j (by simpa using hjl)).1
      rw [this]
      have : l.toArray[j]! = y := by
        rw [getElem!_pos _ j (by simpa using hjl)]
        have := (List.getElem?_eq_some_iff.1 hy).2
        simpa using this
      rw [this]
theorem parts_len : ∀ (p f n : Nat), n < 100000 ^ p → (parts f n).length ≤ p
  | 0, f, n, h => by
    have : n = 0 := by simpa using h
    subst this; rw [parts_zero]; simp
  | p + 1, 0, n, h => by simp [parts]
  | p + 1, f + 1, n, h => by
    rw [parts]
    by_cases h0 : n = 0
    · rw [if_pos h0]; simp
    · rw [if_neg h0, List.length_cons]
      have := parts_len p f (n / 100000) (by rw [Nat.pow_succ] at h; omega)
      omega
theorem parts_room {x : Int} {m : Nat} (h : Sz x m) (f : Nat) : (parts f x.natAbs).length ≤ 2 * m := by
 refine Nat.le_trans (parts_len (2 * (digs x.natAbs).length) f x.natAbs ?_) (Nat.mul_le_mul_left 2 h)
 refine Nat.lt_of_lt_of_le (digs_len_lt x.natAbs) ?_
 rw [Nat.pow_mul]
 exact Nat.pow_le_pow_left (by decide) _
theorem parts_cons {k : Nat} (h : k ≠ 0) : parts k k = (if k / 100000 = 0 then decDigits (k % 100000) else padK 5 (k % 100000)) :: parts (k / 100000) (k / 100000) := by
 cases k with
 | zero => exact absurd rfl h
 | succ k => 
  conv => lhs; rw [parts, if_neg h]
  rw [parts_fuel k ((k + 1) / 100000) ((k + 1) / 100000) (by omega) (Nat.le_refl _)]
theorem piece_len {r : Nat} (h : r < 100000) : (decDigits r).length ≤ 5 := by rw [decDigits_length]; exact nDigits_le (k := 5) (by omega) (by omega)
theorem lnN_le {n m : Nat} (h : n ≤ m) : lnN n ≤ lnN m := digs_len_mono h
theorem own_beside {w w' : World} {B : Nat} {v u : Value} {l : Digs} (h : OwnN w B v l) (hg : w.grownBy w' u.ownBlock) (hu : ∀ k, u.ownBlock = some k → k < B) : OwnN w' B v l := by
  obtain ⟨h1, h2 | ⟨g, cap, cur, e1, e2, e3, e4⟩⟩ := h
  · exact ⟨h1, .inl h2⟩
  · refine ⟨h1, .inr ⟨g, cap, cur, e1, e2, ?_, e4⟩⟩
    have hlt : g < w.heap.size := by
      rcases Nat.lt_or_ge g w.heap.size with h' | h'
      · exact h'
      · rw [Array.getElem?_eq_none h'] at e3; cases e3
    rw [hg.block g hlt (fun h => by have := hu g h.symm; omega)]; exact e3
theorem dec_len {x : Int} {m : Nat} (h : Sz x m) (hm : 0 < m) : (decDigits x.natAbs).length ≤ 10 * m := by
 rw [decDigits_length]
 refine nDigits_le ?_ (by omega)
 refine Nat.lt_of_lt_of_le (digs_len_lt x.natAbs) (Nat.le_trans (Nat.pow_le_pow_right (by decide) h) ?_)
 rw [Nat.pow_mul]
 exact Nat.pow_le_pow_left (by decide) _
theorem ba_app (a b : List UInt8) : ((⟨a.toArray⟩ : ByteArray) ++ (⟨b.toArray⟩ : ByteArray)) = ⟨(a ++ b).toArray⟩ := by
 apply ByteArray.ext
 simp
theorem rep_zero (n : Nat) : Lib.repeatL (⟨#[48]⟩ : ByteArray).data.toList n = List.replicate n 48 := by
 have := repeatL_replicate 48 1 n
 rw [Nat.mul_one] at this
 exact this
theorem kept_push {w : World} {B : Nat} {v : Value} {l : List (List UInt8)} {s : List UInt8} (h : w.ownsRow B 9 1 v (l.length + 1) (l.map encStr ++ [encStr s])) : KeptS w B v (l ++ [s]) := by
 unfold KeptS; simpa using h
set_option maxRecDepth 100000 in
set_option maxHeartbeats 4000000 in
theorem bigText_ok {x : Int} {a1 : Option Addr} {c1 : Nat} {w : World} (h1 : BD G w a1 c1 x) (hX : Sz x 1073741824) (ht : Tab w) :
    Calls Tryz.prog 73 #[.agg #[.int .i64 (sg x), .slice a1 (ln x) c1]] w fun e w' => e = .returned (.string ⟨(textZ x).toArray⟩) ∧ Below w.heap.size w w' := by
  have H1 := Lib.hid h1; have HX := Lib.hid hX; have HT := Lib.hid ht
  clear h1 hX ht
  go_enter Tryz.func73, Tryz.ntmps73
  go_upto_region 1 with fail
  refine nmW (w.alloc (.cells #[.int .i64 (sg x), .slice a1 (ln x) c1] 24)) fun w1 hv => ?_
  rw [← hv]
  have K : Hid (Bx w1 w.heap.size 24 #[.int .i64 (sg x), .slice a1 (ln x) c1]) := by show Bx _ _ _ _; rw [hv]; exact bx1 w _ _
  have HB1 : Hid (Below w.heap.size w w1) := by show Below _ _ _; rw [hv]; exact below_alloc _ _
  clear hv
  obtain ⟨p0, q0, p1, q1⟩ := K.out.c2
  go_wp2_with fail
  clear p0 q0 p1 q1
  refine (bigRight_ok (G := G) (H1.out.keep HB1.out) (HX.out.mono (by omega))).mono ?_
  rintro e w2 ⟨rfl, hb⟩
  have HB2 := Lib.hid (below_call HB1.out hb)
  replace K : Hid (Bx w2 w.heap.size 24 #[.int .i64 (sg x), .slice a1 (ln x) c1]) := K.out.keep hb
  clear hb
  obtain ⟨p0, q0, p1, q1⟩ := K.out.c2
  go_wp2_with fail
  clear p0 q0 p1 q1
  have HPL := Lib.hid (parts_room HX.out x.natAbs)
  go_loopg [3, 4] x.natAbs (fun k pv lv wr => ∃ (a : Option Addr) (c : Nat) (done : List (List UInt8)), lv = .slice a (lnN k) c ∧ Hid (k ≤ x.natAbs) ∧ Hid (RdN wr (.slice a (lnN k) c) (digs k)) ∧ Hid (parts x.natAbs x.natAbs = done ++ parts k k) ∧ Hid (KeptS wr w2.heap.size pv done) ∧ Hid (Below w2.heap.size w2 wr))
  case atStart => exact ⟨a1, c1, [], rfl, Nat.le_refl _, (H1.out.keep HB2.out).rd, by show _ = _; simp, World.ownsRow_nil _ _ _ _, Below.refl _ _⟩
  case round =>
    obtain ⟨a, c, done, rfl, HK, HR, HP, HO, HB⟩ := hrel
    have hln := lnN_le HK.out
    have hX' : lnN x.natAbs ≤ 1073741824 := HX.out
    by_cases hk : gk = 0
    · subst hk
      have e0 : decide (0 < lnN 0) = false := rfl
      have e1 : decide (0 < ((lnN 0 : Nat) : Int)) = false := rfl
      have HD : Hid (parts x.natAbs x.natAbs = done) := by show _ = _; rw [HP.out]; simp [parts]
      have HPL2 : Hid (done.length ≤ 2147483648) := by show _ ≤ _; rw [← HD.out]; exact HPL.out
      go_wp2_with fail
      refine (reverse_own HO.out HB.out.size (by have := HPL2.out; omega)).mono ?_
      rintro e w3 ⟨rfl, ho3, hb⟩
      have HB3 := Lib.hid (HB.out.trans hb)
      have HO3 := Lib.hid ho3
      clear hb ho3
      go_wp2_with fail
      have HJ : Hid (done.reverse.flatten = (if x.natAbs = 0 then [] else decDigits x.natAbs)) := by
        show _ = _
        rw [← HD.out]
        by_cases h0 : x.natAbs = 0
        · rw [if_pos h0, h0, parts_zero]; rfl
        · rw [if_neg h0, parts_join _ _ (Nat.le_refl _) (by omega)]
      have HJL : Hid (done.reverse.flatten.length ≤ 140737488355328) := by
        show _ ≤ _
        rw [HJ.out]
        split
        · simp
        · have := dec_len HX.out (by omega); omega
      refine (join_own HO3.out (by rw [List.length_reverse]; have := HPL2.out; omega) HJL.out).mono ?_
      rintro e w4 ⟨rfl, hb⟩
      obtain ⟨S, hS⟩ : ∃ S, done.reverse.flatten = S := ⟨_, rfl⟩
      have HS := Lib.hid (hS.symm.trans HJ.out)
      have HSL : Hid (S.length ≤ 140737488355328) := by show _ ≤ _; rw [← hS]; exact HJL.out
      rw [hS]
      clear hS
      have HB4 := Lib.hid (HB3.out.trans (hb.mono HB3.out.size))
      have K4 : Hid (Bx w4 w.heap.size 24 #[.int .i64 (sg x), .slice a1 (ln x) c1]) := K.out.keep HB4.out
      have HE := Lib.hid (HB2.out.trans (HB4.out.mono HB2.out.size))
      clear hb
      obtain ⟨p0, q0, p1, q1⟩ := K4.out.c2
      rcases Int.lt_trichotomy x 0 with hx | hx | hx
      · have f0 : sg x = -1 := sg_neg hx
        rw [f0] at p0
        have HT2 : Hid (textZ x = 45 :: S) := by show _ = _; unfold textZ; rw [if_pos hx, HS.out, if_neg (by omega)]
        have hS1 : ¬ 9223372036854775807 < 1 + S.length := by have := HSL.out; omega
        clear hx
        go_wp2_with fail
        go_ret
        refine ⟨?_, HE.out⟩
        rw [HT2.out]
        exact congrArg (fun x => Ending.returned (.string x)) (ba_app [45] S)
      · have f0 : sg x = 0 := sg_zero' hx
        rw [f0] at p0
        have HT2 : Hid (textZ x = [48]) := by show _ = _; rw [hx]; show decDigits 0 = _; rw [decDigits_one (by omega)]; rfl
        clear hx
        go_wp2_with fail
        go_ret
        exact ⟨by rw [HT2.out]; rfl, HE.out⟩
      · have f0 : sg x = 1 := sg_pos hx
        rw [f0] at p0
        have HT2 : Hid (textZ x = S) := by show _ = _; unfold textZ; rw [if_neg (by omega), HS.out, if_neg (by omega)]
        clear hx
        go_wp2_with fail
        go_ret
        exact ⟨by rw [HT2.out]; rfl, HE.out⟩
    · have hpos := lnN_pos hk
      have e0 : decide (0 < lnN gk) = true := by simpa using hpos
      have e1 : decide (0 < ((lnN gk : Nat) : Int)) = true := by simpa using hpos
      obtain ⟨q, hq⟩ : ∃ q, gk / 100000 = q := ⟨_, rfl⟩
      obtain ⟨r, hr⟩ : ∃ r, gk % 100000 = r := ⟨_, rfl⟩
      go_wp2_with fail
      refine (short_n HR.out (by omega) hq hr).mono ?_
      rintro e w3 ⟨b, d, rfl, hrd, hb⟩
      have hr5 : r < 100000 := by omega
      have HRD := Lib.hid hrd
      have HB3 := Lib.hid (HB.out.trans (hb.mono HB.out.size))
      have HO3 := Lib.hid (HO.out.keep hb)
      clear hrd hb
      go_wp2_with fail
      refine (itoa_n r hr5 _ ((HT.out.keep HB2.out).keep HB3.out)).mono ?_
      rintro e w4 ⟨rfl, hb⟩
      have HRD4 := Lib.hid (HRD.out.keep hb)
      have HB4 := Lib.hid (HB3.out.trans (hb.mono HB3.out.size))
      have HO4 := Lib.hid (HO3.out.keep hb)
      clear hb
      have hl5 := piece_len hr5
      have HPC := Lib.hid (parts_cons hk)
      have HDL : Hid (done.length ≤ 2147483648) := by show _ ≤ _; have := HPL.out; rw [HP.out, List.length_append] at this; omega
      by_cases hq0 : q = 0
      · subst hq0
        have g0 : decide (0 < lnN 0) = false := rfl
        have g1 : decide (0 < ((lnN 0 : Nat) : Int)) = false := rfl
        go_wp2_with (at_builtin; go_must (refine wpList_push rfl _ _ elemStr rfl w4 w2.heap.size u3 done.length (done.map encStr) rfl HO4.out [encStr (decDigits r)] rfl rfl rfl rfl (by intro v_ hv_; simp at hv_; rcases hv_ with rfl; rfl) (by have := HDL.out; omega) (by have := HDL.out; omega) HB4.out.size ?_; intro v2 w5 ho hg2 hb2))
        go_roundg 0
        case measure => omega
        case rel => exact ⟨b, d, done ++ [decDigits r], rfl, Nat.zero_le _, (own_beside HRD4.out hg2 (fun k hk => (World.ownsRow.lt HO.out k hk).2)).rd, by show _ = _; rw [HP.out, HPC.out, hq, if_pos rfl, hr]; simp [parts], kept_push ho, HB4.out.trans hb2⟩
      · have hqp := lnN_pos hq0
        have g0 : decide (0 < lnN q) = true := by simpa using hqp
        have g1 : decide (0 < ((lnN q : Nat) : Int)) = true := by simpa using hqp
        obtain ⟨cn, hcn⟩ : ∃ cn, 5 - (decDigits r).length = cn := ⟨_, rfl⟩
        have hw5 : IntKind.i64.wrap (5 - ((decDigits r).length : Int)) = (cn : Int) := by rw [IntWalk.i64_in _ (by omega)]; omega
        go_wp2_with fail
        refine (Tryz.strings_Repeat ⟨#[48]⟩ cn _ (by omega) (by show 1 * cn ≤ _; omega)).mono ?_
        rintro e w5 ⟨rfl, hb⟩
        rw [rep_zero]
        have HRD5 := Lib.hid (HRD4.out.keep hb)
        have HB5 := Lib.hid (HB4.out.trans (hb.mono HB4.out.size))
        have HO5 := Lib.hid (HO4.out.keep hb)
        clear hb
        have hS2 : ¬ 9223372036854775807 < cn + (decDigits r).length := by omega
        have HPK : Hid (encStr (padK 5 r) = .string ((⟨(List.replicate cn 48).toArray⟩ : ByteArray) ++ (⟨(decDigits r).toArray⟩ : ByteArray))) := by show _ = _; rw [ba_app, ← hcn]; rfl
        go_wp2_with (at_builtin; go_must (refine wpList_push rfl _ _ elemStr rfl w5 w2.heap.size u3 done.length (done.map encStr) rfl HO5.out [.string ((⟨(List.replicate cn 48).toArray⟩ : ByteArray) ++ (⟨(decDigits r).toArray⟩ : ByteArray))] rfl rfl rfl rfl (by intro v_ hv_; simp at hv_; rcases hv_ with rfl; rfl) (by have := HDL.out; omega) (by have := HDL.out; omega) HB5.out.size ?_; intro v2 w6 ho hg2 hb2))
        go_roundg q
        case measure => omega
        case rel => exact ⟨b, d, done ++ [padK 5 r], rfl, by show _ ≤ _; have := HK.out; omega, (own_beside HRD5.out hg2 (fun k hk => (World.ownsRow.lt HO.out k hk).2)).rd, by show _ = _; rw [HP.out, HPC.out, hq, if_neg hq0, hr]; simp, kept_push (by rw [HPK.out]; exact ho), HB5.out.trans hb2⟩
end Go.Proofs.YtcfmakpckdicjaaGreatDoor
namespace Go.Proofs.YtcfmakpckdicjaaGreatDoor
open Go.RowKit Go.Lib Go.Sort
variable {G : Nat}

set_option maxRecDepth 100000 in
set_option maxHeartbeats 4000000 in
theorem bigRead_bad {s t : List UInt8} {w : World} (ht : Lib.trimPrefix s [45] = t) (h0 : s ≠ [48]) (h1 : t = [] ∨ ∃ r, t = 48 :: r) :
    Calls Tryz.prog 58 #[.string ⟨s.toArray⟩] w fun e w' => e = .returned (.tuple #[.agg #[.int .i64 0, .slice none 0 0], .int .i64 2]) ∧ Below w.heap.size w w' := by
  go_enter Tryz.func58, Tryz.ntmps58
  go_upto_region 1 with fail
  refine nmW (w.alloc (.cells #[.int .i64 0, .slice none 0 0] 24)) fun w1 hv => ?_
  rw [← hv]
  have K : Hid (Bx w1 w.heap.size 24 #[.int .i64 0, .slice none 0 0]) := by show Bx _ _ _ _; rw [hv]; exact bx1 w _ _
  have HB1 : Hid (Below w.heap.size w w1) := by show Below _ _ _; rw [hv]; exact below_alloc _ _
  clear hv
  go_wp2_with fail
  refine (Tryz.strings_CutPrefix ⟨s.toArray⟩ ⟨#[45]⟩ w1).mono ?_
  rintro e w' ⟨rfl, rfl⟩
  have e1 : Lib.trimPrefix (⟨s.toArray⟩ : ByteArray).data.toList (⟨#[45]⟩ : ByteArray).data.toList = t := ht
  rw [e1]
  clear e1 ht
  have e0 : (s == [48]) = false := by rw [beq_eq_false_iff_ne]; exact h0
  clear h0
  obtain ⟨p0, q0, p1, q1⟩ := K.out.c2
  rcases h1 with rfl | ⟨r, rfl⟩
  · go_wp2_with fail
    refine bodyPost_ret (results_box2 rfl _ _ w.heap.size 24 _ _ _ rfl (K.out.set2 _ _) Tryz.underlying24 rfl (by kernel_rfl)) rfl ?_
    exact ⟨rfl, (HB1.out.setCell (Nat.le_refl _) _).setCell (Nat.le_refl _) _⟩
  · go_wp2_with fail
    refine bodyPost_ret (results_box2 rfl _ _ w.heap.size 24 _ _ _ rfl (K.out.set2 _ _) Tryz.underlying24 rfl (by kernel_rfl)) rfl ?_
    exact ⟨rfl, (HB1.out.setCell (Nat.le_refl _) _).setCell (Nat.le_refl _) _⟩
end Go.Proofs.YtcfmakpckdicjaaGreatDoor
