/- Reading a big integer, in one contract; what it reads; the text of none. -/
import Derived.Test.YtcfmakpckdicjaaGreatDoorBase
import Derived.Test.YtcfmakpckdicjaaGreatDoorBigSpec
import Derived.Test.YtcfmakpckdicjaaGreatDoorBigB
import Derived.Test.YtcfmakpckdicjaaGreatDoorBigC
import Derived.Test.YtcfmakpckdicjaaGreatDoorBigD
import Derived.Test.YtcfmakpckdicjaaGreatDoorBigH
import Derived.Test.YtcfmakpckdicjaaGreatDoorBigK
import Derived.Test.YtcfmakpckdicjaaGreatDoorBigQ
import Derived.Test.YtcfmakpckdicjaaGreatDoorFracA
import Derived.Test.YtcfmakpckdicjaaGreatDoorAw
import Derived.Test.YtcfmakpckdicjaaGreatDoorBigDec
import Derived.Test.YtcfmakpckdicjaaGreatDoorBigRead
import Derived.Test.YtcfmakpckdicjaaGreatDoorProg
import Derived.Test.YtcfmakpckdicjaaGreatDoorShelf
import Derived.WalkKit
import Derived.WalkSpells
import Derived.WalkLawsBesides
import Derived.Handy
import Derived.Lib.Hide
import Derived.Lib.Strings
import Derived.Lib.Builder
import Derived.BigQuiet
import Derived.OwnWalk
import Derived.Laws.BitsLemmas
import Derived.WalkSmall
import Derived.Deep.QuietTactic
import Derived.StillTailTactics
import Derived.Maps.AppendAt
import Derived.IntWalk
import Derived.Deep.RegionHeld3
import Derived.Deep.DeepFit
import Derived.Deep.LoopGhost
import Derived.Deep.DeepCutAuto
import Derived.Lib.ItoaNum
import Derived.Lib.Repeat
import Derived.Lib.AppendIntMem
import Derived.Sort.OwnSorted
import Derived.Shelf.Strings.SlTrimAscii
import Derived.Lib.ConvBytes
namespace Go.Proofs.YtcfmakpckdicjaaGreatDoor
open Go.RowKit Go.Lib Go.Sort
variable {G : Nat}

theorem isDg_mem (c : UInt8) : isDg c = [48, 49, 50, 51, 52, 53, 54, 55, 56, 57].contains c := by
 have : ∀ e : Fin 256, isDg (UInt8.ofNat e.val) = [48, 49, 50, 51, 52, 53, 54, 55, 56, 57].contains (UInt8.ofNat e.val) := by decide +kernel
 have h2 := this ⟨c.toNat, c.toNat_lt⟩
 simpa only [UInt8.ofNat_toNat] using h2
theorem dropW_nil {α : Type} {p : α → Bool} : ∀ l : List α, l.dropWhile p = [] ↔ ∀ x ∈ l, p x = true
  | [] => by simp
  | a :: l => by
    by_cases h : p a = true
    · rw [List.dropWhile_cons_of_pos h, dropW_nil l]; simp [h]
    · rw [List.dropWhile_cons_of_neg h]; simp [h]
theorem dropW_head {α : Type} {p : α → Bool} {a : α} {r : List α} : ∀ l : List α, l.dropWhile p = a :: r → p a = false
  | [], h => by cases h
  | b :: l, h => by
    by_cases hb : p b = true
    · rw [List.dropWhile_cons_of_pos hb] at h; exact dropW_head l h
    · rw [List.dropWhile_cons_of_neg hb] at h
      cases h; simpa using hb
theorem trim_all {l cs : List UInt8} (h : l.all (cs.contains ·) = true) : Lib.trimS l cs = [] := by
 unfold Lib.trimS Lib.trimRightS Lib.trimLeftS
 rw [dropW_nil]
 intro x hx
 have : l.reverse.dropWhile (cs.contains ·) = [] := by
  rw [dropW_nil]
  intro x hx
  exact List.all_eq_true.1 h x (List.mem_reverse.1 hx)
 rw [this] at hx; simp at hx
theorem trim_some {l cs : List UInt8} (h : l.all (cs.contains ·) = false) : Lib.trimS l cs ≠ [] := by
 unfold Lib.trimS Lib.trimRightS Lib.trimLeftS
 intro h0
 rw [dropW_nil] at h0
 have h1 : ∀ x ∈ l.reverse.dropWhile (cs.contains ·), cs.contains x = true := fun x hx => h0 x (List.mem_reverse.2 hx)
 have h2 : l.reverse.dropWhile (cs.contains ·) = [] := by
  cases hq : l.reverse.dropWhile (cs.contains ·) with
  | nil => rfl
  | cons a r =>
   have h3 := dropW_head _ hq
   have := h1 a (by rw [hq]; simp)
   rw [this] at h3; cases h3
 rw [dropW_nil] at h2
 have : l.all (cs.contains ·) = true := List.all_eq_true.2 fun x hx => h2 x (List.mem_reverse.2 hx)
 rw [this] at h; cases h
theorem trim_ok (t : List UInt8) (w : World) (ht : t.length ≤ 140737488355328) :
  Calls Tryz.prog 90 #[.string ⟨t.toArray⟩, .string ⟨#[48, 49, 50, 51, 52, 53, 54, 55, 56, 57]⟩] w fun e w' => e = .returned (.string ⟨(Lib.trimS t [48, 49, 50, 51, 52, 53, 54, 55, 56, 57]).toArray⟩) ∧ Below w.heap.size w w' :=
 Any.strings_Trim_laid Tryz.lays160 (by kernel_rfl) ⟨t.toArray⟩ ⟨#[48, 49, 50, 51, 52, 53, 54, 55, 56, 57]⟩ w (by show t.toArray.size ≤ _; simp; omega) (by decide) (ascii_of_all (by decide))
set_option maxRecDepth 100000 in
set_option maxHeartbeats 4000000 in
theorem bigRead_no {s t : List UInt8} {c : UInt8} {r : List UInt8} {w : World} (ht : Lib.trimPrefix s [45] = t) (h0 : s ≠ [48]) (h1 : t = c :: r) (hc : c ≠ 48) (hd : t.all isDg = false) (hn : t.length ≤ 140737488355328) :
  Calls Tryz.prog 58 #[.string ⟨s.toArray⟩] w fun e w' => e = .returned (.tuple #[.agg #[.int .i64 0, .slice none 0 0], .int .i64 2]) ∧ Below w.heap.size w w' := by
 go_enter Tryz.func58, Tryz.ntmps58
 go_upto_region 1 with fail
 refine nmW (w.alloc (.cells #[.int .i64 0, .slice none 0 0] 24)) fun w1 hv => ?_
 rw [← hv]
 have K : Hid (Bx w1 w.heap.size 24 #[.int .i64 0, .slice none 0 0]) := by show Bx _ _ _ _; rw [hv]; exact bx1 w _ _
 have HB1 : Hid (Below w.heap.size w w1) := by show Below _ _ _; rw [hv]; exact below_alloc _ _
 clear hv
 go_wp2_with fail
 refine (Tryz.strings_CutPrefix ⟨s.toArray⟩ ⟨#[45]⟩ w1).mono ?_
 rintro e w' ⟨rfl, rfl⟩
 have e1 : Lib.trimPrefix (⟨s.toArray⟩ : ByteArray).data.toList (⟨#[45]⟩ : ByteArray).data.toList = t := ht
 rw [e1]
 clear e1 ht
 have e0 : (s == [48]) = false := by rw [beq_eq_false_iff_ne]; exact h0
 have HN : Hid (Lib.trimS t [48, 49, 50, 51, 52, 53, 54, 55, 56, 57] ≠ []) := trim_some (by rw [← hd]; congr 1; funext x; exact (isDg_mem x).symm)
 have HT : Hid (t.length ≤ 140737488355328) := hn
 obtain ⟨T, hT⟩ : ∃ T, Lib.trimS t [48, 49, 50, 51, 52, 53, 54, 55, 56, 57] = T := ⟨_, rfl⟩
 have e4 : T.isEmpty = false := by rw [← hT]; cases hq : Lib.trimS t [48, 49, 50, 51, 52, 53, 54, 55, 56, 57] with | nil => exact absurd hq HN.out | cons a b => rfl
 have HTT := Lib.hid hT
 have e3 : ∀ h, ((⟨(c :: r).toArray⟩ : ByteArray)[0]'h) = c := fun _ => rfl
 have e2 : ((c.toNat : Int) == 48) = false := by
  rw [beq_eq_false_iff_ne]
  intro h; apply hc
  apply UInt8.toNat_inj.1
  show c.toNat = 48
  omega
 have e5 : ¬ c.toNat = 48 := by intro h; apply hc; exact UInt8.toNat_inj.1 h
 clear h0 hd hn hT hc
 subst h1
 go_wp2_with fail
 refine (trim_ok (c :: r) w' HT.out).mono ?_
 rintro e w2 ⟨rfl, hb⟩
 rw [HTT.out]
 have K2 : Hid (Bx w2 w.heap.size 24 #[.int .i64 0, .slice none 0 0]) := K.out.keep hb
 have HB2 := Lib.hid (below_call HB1.out hb)
 clear hb
 obtain ⟨p0, q0, p1, q1⟩ := K2.out.c2
 go_wp2_with fail
 refine bodyPost_ret (results_box2 rfl _ _ w.heap.size 24 _ _ _ rfl (K2.out.set2 _ _) Tryz.underlying24 rfl (by kernel_rfl)) rfl ?_
 exact ⟨rfl, (HB2.out.setCell (Nat.le_refl _) _).setCell (Nat.le_refl _) _⟩
theorem all_take {p : UInt8 → Bool} {l : List UInt8} (h : l.all p = true) (k : Nat) : (l.take k).all p = true :=
 List.all_eq_true.2 fun x hx => List.all_eq_true.1 h x (List.mem_of_mem_take hx)
theorem decVal_lt : ∀ l : List UInt8, l.all isDg = true → decVal l < 10 ^ l.length := fun l => by
 induction l using snoc_ind with
 | h0 => intro _; decide
 | h1 l c ih =>
  intro h
  rw [List.all_append, Bool.and_eq_true] at h
  have h1 := ih h.1
  have h2 : isDg c = true := by simpa using h.2
  have h3 := (isDg_bounds h2).1
  rw [decVal_snoc, List.length_append, List.length_singleton, Nat.pow_succ]
  omega
theorem dec_room {l : List UInt8} {k n : Nat} (h : (l.take k).all isDg = true) (hk : k ≤ n) : (digs (decVal (l.take k))).length ≤ n := by
 refine digs_len_of_lt (Nat.lt_of_lt_of_le (decVal_lt _ h) ?_)
 refine Nat.le_trans (Nat.pow_le_pow_right (by decide) (List.length_take_le _ _)) ?_
 exact Nat.le_trans (Nat.pow_le_pow_left (by decide) k) (Nat.pow_le_pow_right (by decide) hk)
theorem dg_wrap {d : UInt8} (h : isDg d = true) : IntKind.u8.wrap ((d.toNat : Int) - 48) = ((dgv d : Nat) : Int) := by
 have h1 : 48 ≤ d.toNat ∧ d.toNat ≤ 57 := by
  have : ∀ e : Fin 256, isDg (UInt8.ofNat e.val) = true → 48 ≤ (UInt8.ofNat e.val).toNat ∧ (UInt8.ofNat e.val).toNat ≤ 57 := by decide +kernel
  have h2 := this ⟨d.toNat, d.toNat_lt⟩
  simp only [UInt8.ofNat_toNat] at h2
  exact h2 h
 unfold dgv
 rw [IntKind.wrap_u8]
 omega
set_option maxRecDepth 100000 in
set_option maxHeartbeats 4000000 in
theorem bigRead_yes {s t : List UInt8} {c : UInt8} {r : List UInt8} {ng : Bool} {z : Int} {w : World} (ht : Lib.trimPrefix s [45] = t) (h0 : s ≠ [48]) (h1 : t = c :: r) (hc : c ≠ 48) (hd : t.all isDg = true) (hn : t.length ≤ 1000000) (hg : Lib.hasPrefix s [45] = ng) (hz : z = if ng = true then -((decVal t : Nat) : Int) else ((decVal t : Nat) : Int)) :
    Calls Tryz.prog 58 #[.string ⟨s.toArray⟩] w fun e w' => ∃ a' c', e = .returned (.tuple #[.agg #[.int .i64 (sg z), .slice a' (ln z) c'], .int .i64 0]) ∧ BD G w' a' c' z ∧ Below w.heap.size w w' := by
  go_enter Tryz.func58, Tryz.ntmps58
  go_upto_region 1 with fail
  refine nmW (w.alloc (.cells #[.int .i64 0, .slice none 0 0] 24)) fun w1 hv => ?_
  rw [← hv]
  have K : Hid (Bx w1 w.heap.size 24 #[.int .i64 0, .slice none 0 0]) := by show Bx _ _ _ _; rw [hv]; exact bx1 w _ _
  have HB1 : Hid (Below w.heap.size w w1) := by show Below _ _ _; rw [hv]; exact below_alloc _ _
  clear hv
  go_wp2_with fail
  refine (Tryz.strings_CutPrefix ⟨s.toArray⟩ ⟨#[45]⟩ w1).mono ?_
  rintro e w' ⟨rfl, rfl⟩
  have e6 : Lib.hasPrefix (⟨s.toArray⟩ : ByteArray).data.toList (⟨#[45]⟩ : ByteArray).data.toList = ng := hg
  rw [e6]
  clear e6 hg
  have e1 : Lib.trimPrefix (⟨s.toArray⟩ : ByteArray).data.toList (⟨#[45]⟩ : ByteArray).data.toList = t := ht
  rw [e1]
  clear e1 ht
  have e0 : (s == [48]) = false := by rw [beq_eq_false_iff_ne]; exact h0
  have hT : Lib.trimS t [48, 49, 50, 51, 52, 53, 54, 55, 56, 57] = [] := trim_all (by rw [← hd]; congr 1; funext x; exact (isDg_mem x).symm)
  have HT : Hid (t.length ≤ 1000000) := hn
  have HD := Lib.hid hd
  have HZ := Lib.hid hz
  have HC := Lib.hid hc
  have HTT := Lib.hid hT
  have e3 : ∀ h, ((⟨(c :: r).toArray⟩ : ByteArray)[0]'h) = c := fun _ => rfl
  have e2 : ((c.toNat : Int) == 48) = false := by
    rw [beq_eq_false_iff_ne]
    intro h; apply hc
    apply UInt8.toNat_inj.1
    show c.toNat = 48
    omega
  have e5 : ¬ c.toNat = 48 := by intro h; apply hc; exact UInt8.toNat_inj.1 h
  clear h0 hd hn hT hc hz
  subst h1
  go_wp2_with fail
  refine (trim_ok (c :: r) w' (by have := HT.out; omega)).mono ?_
  rintro e w2 ⟨rfl, hb⟩
  rw [HTT.out]
  have K2 : Hid (Bx w2 w.heap.size 24 #[.int .i64 0, .slice none 0 0]) := K.out.keep hb
  have HB2 := Lib.hid (below_call HB1.out hb)
  clear hb
  have hcv := Lib.run_convert_string_bytes (P := Tryz.prog) w2 9 76 5 ⟨(c :: r).toArray⟩ (u := .string) Tryz.underlying9 Tryz.underlying76 Tryz.underlying5
  have hsz : (⟨(c :: r).toArray⟩ : ByteArray).size = (c :: r).length := by simp [ByteArray.size]
  rw [hsz] at hcv
  refine nmW (Lib.bytesWorld w2 5 ⟨(c :: r).toArray⟩) fun w3 hw3 => ?_
  have HCell : Hid (∀ j (hj : j < (c :: r).length), w3.cell? ⟨w2.heap.size, j, none⟩ = some (.int .u8 ((c :: r)[j]'hj).toNat)) := by
    intro j hj
    rw [hw3, Lib.bytesWorld_cell _ _ _ _ (by rw [hsz]; exact hj)]
    show some (Value.int .u8 (((c :: r).getD j 0).toNat)) = _
    rw [List.getD_eq_getElem?_getD, List.getElem?_eq_getElem hj]; rfl
  have HB3 : Hid (Below w2.heap.size w2 w3) := by
    show Below _ _ _
    rw [hw3]
    exact ⟨rfl, rfl, rfl, by rw [Lib.bytesWorld_size]; omega, fun k hk => Lib.bytesWorld_at_old w2 _ _ k hk⟩
  have hs3 : w2.heap.size < w3.heap.size := by rw [hw3, Lib.bytesWorld_size]; omega
  rw [← hw3] at hcv
  clear hw3 hsz e2 e3 e5 HTT
  obtain ⟨t, ht⟩ : ∃ t, t = c :: r := ⟨_, rfl⟩
  rw [← ht] at hcv HT HD HZ HCell ⊢
  clear ht HC
  go_wp2_with fail
  clear e0 hcv
  go_loopw [6, 33] (fun lv i wr => ∃ (k B : Nat), k ≤ t.length ∧ i = .int .i64 k ∧ Hid (OwnN wr B lv (digs (decVal (t.take k)))) ∧ Hid (Below w3.heap.size w3 wr)) (fun _ i _ => t.length - (RowKit.intOf i).toNat)
  case atStart => exact ⟨0, 0, Nat.zero_le _, rfl, World.ownsRow_nil _ _ _ _, Below.refl _ _⟩
  case round =>
    obtain ⟨k, B, hk, rfl, HO, HB⟩ := hrel
    have hkn : k ≤ 1000000 := Nat.le_trans hk HT.out
    have HLn := Lib.hid (dec_room (all_take HD.out k) hkn)
    by_cases hlt : k < t.length
    · have hI : (k : Int) < (t.length : Int) := by omega
      have hcell : wr.cell? ⟨w2.heap.size, k, none⟩ = some (.int .u8 (t[k]).toNat) := (HB.out.cell (p := ⟨w2.heap.size, k, none⟩) hs3).trans (HCell.out k hlt)
      obtain ⟨d, hd⟩ : ∃ d, d = t[k] := ⟨_, rfl⟩
      rw [← hd] at hcell
      have hdg : isDg d = true := by rw [hd]; exact List.all_eq_true.1 HD.out _ (List.getElem_mem hlt)
      have hb0 := isDg_bounds hdg
      have hdl : dgv d < 10 := hb0.1
      have hw8 : IntKind.u8.wrap ((d.toNat : Int) - 48) = ((dgv d : Nat) : Int) := dg_wrap hdg
      have hw64 : IntKind.i64.wrap ((dgv d : Nat) : Int) = ((dgv d : Nat) : Int) := IntWalk.i64_in _ (by omega)
      obtain ⟨v, hv⟩ : ∃ v, decVal (t.take k) = v := ⟨_, rfl⟩
      have HNext : Hid (decVal (t.take (k + 1)) = v * 10 + dgv d) := by
        show _ = _
        rw [List.take_succ_eq_append_getElem hlt, decVal_snoc, hv, ← hd]
      rw [hv] at HO HLn
      clear hd hdg hb0 hv
      go_wp2_with fail
      refine (bigMul_any _ _ (digs v) [10] _ (HO.out.rd.keep (below_alloc _ _)) (own_lit1 wr wr.heap.size 10 (Nat.le_refl _)).rd (digs_small _) (small_one (by omega)) (by have := HLn.out; omega) (by simp)).mono ?_
      rintro e w4 ⟨v1, rfl, ho1, hb1⟩
      rw [val_digs, show val [10] = 10 from rfl] at ho1
      have HO1 := Lib.hid ho1
      have HB4 := Lib.hid (below_call HB.out (below_new hb1))
      clear ho1 hb1
      go_wp2_with fail
      refine (bigTrim_own w4.heap.size _ [dgv d] _ (own_lit1 w4 w4.heap.size (dgv d) (Nat.le_refl _)) (small_one (by omega)) (by simp)).mono ?_
      rintro e _ ⟨v2, rfl, ho2, rfl⟩
      rw [show val [dgv d] = dgv d by simp [val]] at ho2
      have HO2 := Lib.hid ho2
      clear ho2
      go_wp2_with fail
      have HL10 : Hid ((digs (v * 10)).length ≤ 1000001) := by
        show _ ≤ _
        have := digs_len_mul_one (a := v) (b := 10) (by omega)
        have := HLn.out; omega
      refine (bigAdd_any _ _ (digs (v * 10)) (digs (dgv d)) _ (HO1.out.rd.keep (below_alloc _ _)) HO2.out.rd (digs_small _) (digs_small _) (by have := HL10.out; omega) (by have := digs_len_of_lt (n := dgv d) (k := 1) (by omega); omega)).mono ?_
      rintro e w5 ⟨v3, rfl, ho3, hb3⟩
      rw [val_digs, val_digs, ← HNext.out] at ho3
      have HO3 := Lib.hid ho3
      have HB5 := Lib.hid (below_call HB4.out (below_new hb3))
      clear ho3 hb3
      go_wp2_with fail
      go_roundw
      case rel => exact ⟨k + 1, _, by omega, by go_num, HO3.out, HB5.out⟩
      case measure => simp [RowKit.intOf]; omega
    · have hke : t.length ≤ k := by omega
      rw [List.take_of_length_le hke] at HO HLn
      have HBw := Lib.hid (below_call HB2.out (below_call HB3.out HB.out))
      have K4 : Hid (Bx wr w.heap.size 24 #[.int .i64 0, .slice none 0 0]) := (K2.out.keep HB3.out).keep HB.out
      have hI : ¬ (k : Int) < (t.length : Int) := by omega
      cases ng with
      | true =>
        go_wp2_with fail
        refine (signed_is (G := G) (z := z) (s := -1) HO.out (by have := HLn.out; omega) (by rw [HZ.out]; simp) (fun _ => .inr rfl)).mono ?_
        rintro e w4 ⟨a', c', rfl, hd, hb⟩
        have K5 : Hid (Bx w4 w.heap.size 24 #[.int .i64 0, .slice none 0 0]) := K4.out.keep hb
        have HB5 := Lib.hid (below_call HBw.out hb)
        have HD5 := Lib.hid hd
        clear hb hd
        obtain ⟨p0, q0, p1, q1⟩ := K5.out.c2
        go_wp2_with fail
        refine bodyPost_ret (results_box2 rfl _ _ w.heap.size 24 _ _ _ rfl (K5.out.set2 _ _) Tryz.underlying24 rfl (by kernel_rfl)) rfl ⟨a', c', rfl, ?_, ?_⟩
        · exact HD5.out.far0 K5.out zb2 (only_setCell (only_setCell (World.grownBy.refl _ _) _) _)
        · exact (HB5.out.setCell (Nat.le_refl _) _).setCell (Nat.le_refl _) _
      | false =>
        go_wp2_with fail
        refine (signed_is (G := G) (z := z) (s := 1) HO.out (by have := HLn.out; omega) (by rw [HZ.out]; simp) (fun _ => .inl rfl)).mono ?_
        rintro e w4 ⟨a', c', rfl, hd, hb⟩
        have K5 : Hid (Bx w4 w.heap.size 24 #[.int .i64 0, .slice none 0 0]) := K4.out.keep hb
        have HB5 := Lib.hid (below_call HBw.out hb)
        have HD5 := Lib.hid hd
        clear hb hd
        obtain ⟨p0, q0, p1, q1⟩ := K5.out.c2
        go_wp2_with fail
        refine bodyPost_ret (results_box2 rfl _ _ w.heap.size 24 _ _ _ rfl (K5.out.set2 _ _) Tryz.underlying24 rfl (by kernel_rfl)) rfl ⟨a', c', rfl, ?_, ?_⟩
        · exact HD5.out.far0 K5.out zb2 (only_setCell (only_setCell (World.grownBy.refl _ _) _) _)
        · exact (HB5.out.setCell (Nat.le_refl _) _).setCell (Nat.le_refl _) _
end Go.Proofs.YtcfmakpckdicjaaGreatDoor
namespace Go.Proofs.YtcfmakpckdicjaaGreatDoor
open Go.RowKit Go.Lib Go.Sort
variable {G : Nat}

/-- What a text is read as. -/
def readO (l : List UInt8) : Option Int :=
 if l = [48] then some 0
 else match Lib.trimPrefix l [45] with
  | [] => none
  | c :: r => if c = 48 then none else if (c :: r).all isDg = true then some (if Lib.hasPrefix l [45] = true then -((decVal (c :: r) : Nat) : Int) else ((decVal (c :: r) : Nat) : Int)) else none
def rdZ (l : List UInt8) : Int := (readO l).getD 0
def rdE (l : List UInt8) : Int := if (readO l).isSome = true then 0 else 2
set_option maxRecDepth 100000 in
set_option maxHeartbeats 4000000 in
theorem bigRead_zero {w : World} :
  Calls Tryz.prog 58 #[.string ⟨#[48]⟩] w fun e w' => e = .returned (.tuple #[.agg #[.int .i64 0, .slice none 0 0], .int .i64 0]) ∧ Below w.heap.size w w' := by
 go_enter Tryz.func58, Tryz.ntmps58
 go_upto_region 1 with fail
 refine nmW (w.alloc (.cells #[.int .i64 0, .slice none 0 0] 24)) fun w1 hv => ?_
 rw [← hv]
 have K : Hid (Bx w1 w.heap.size 24 #[.int .i64 0, .slice none 0 0]) := by show Bx _ _ _ _; rw [hv]; exact bx1 w _ _
 have HB1 : Hid (Below w.heap.size w w1) := by show Below _ _ _; rw [hv]; exact below_alloc _ _
 clear hv
 go_wp2_with fail
 refine (Tryz.strings_CutPrefix ⟨#[48]⟩ ⟨#[45]⟩ w1).mono ?_
 rintro e w' ⟨rfl, rfl⟩
 obtain ⟨T, hT⟩ : ∃ T, Lib.trimPrefix (⟨#[48]⟩ : ByteArray).data.toList (⟨#[45]⟩ : ByteArray).data.toList = T := ⟨_, rfl⟩
 obtain ⟨b, hb⟩ : ∃ T, Lib.hasPrefix (⟨#[48]⟩ : ByteArray).data.toList (⟨#[45]⟩ : ByteArray).data.toList = T := ⟨_, rfl⟩
 rw [hT, hb]
 clear hT hb
 obtain ⟨p0, q0, p1, q1⟩ := K.out.c2
 go_wp2_with fail
 refine bodyPost_ret (results_box2 rfl _ _ w.heap.size 24 _ _ _ rfl (K.out.set2 _ _) Tryz.underlying24 rfl (by kernel_rfl)) rfl ?_
 exact ⟨rfl, (HB1.out.setCell (Nat.le_refl _) _).setCell (Nat.le_refl _) _⟩
theorem bigRead_v {S : ByteArray} {l : List UInt8} {z er : Int} {w : World} (hl : S = ⟨l.toArray⟩) (hn : l.length ≤ 1000000) (hz : rdZ l = z) (he : rdE l = er) :
    Calls Tryz.prog 58 #[.string S] w fun e w' => ∃ a c, e = .returned (.tuple #[.agg #[.int .i64 (sg z), .slice a (ln z) c], .int .i64 er]) ∧ BD G w' a c z ∧ Below w.heap.size w w' := by
  subst hl
  have none_ : ∀ {w' : World}, readO l = none → z = 0 ∧ er = 2 := fun h => by
    unfold rdZ rdE at *; rw [h] at hz he; exact ⟨hz.symm, by simpa using he.symm⟩
  have hlen : (Lib.trimPrefix l [45]).length ≤ l.length := by unfold Lib.trimPrefix; split <;> simp
  by_cases h48 : l = [48]
  · subst h48
    have e1 : z = 0 := by rw [← hz]; rfl
    have e2 : er = 0 := by rw [← he]; rfl
    subst e1 e2
    exact bigRead_zero.mono fun e w' ⟨he, hb⟩ => ⟨none, 0, he, bd_zero _ _ _, hb⟩
  · cases ht : Lib.trimPrefix l [45] with
    | nil =>
      have h0 : readO l = none := by unfold readO; rw [if_neg h48, ht]
      obtain ⟨rfl, rfl⟩ := none_ (w' := w) h0
      exact (bigRead_bad ht h48 (.inl rfl)).mono fun e w' ⟨he, hb⟩ => ⟨none, 0, he, bd_zero _ _ _, hb⟩
    | cons c r =>
      by_cases hc : c = 48
      · have h0 : readO l = none := by unfold readO; rw [if_neg h48, ht]; simp [hc]
        obtain ⟨rfl, rfl⟩ := none_ (w' := w) h0
        exact (bigRead_bad ht h48 (.inr ⟨r, by rw [hc]⟩)).mono fun e w' ⟨he, hb⟩ => ⟨none, 0, he, bd_zero _ _ _, hb⟩
      · cases hd : (c :: r).all isDg with
        | false =>
          have h0 : readO l = none := by unfold readO; rw [if_neg h48, ht]; simp only [if_neg hc, hd]; rfl
          obtain ⟨rfl, rfl⟩ := none_ (w' := w) h0
          exact (bigRead_no ht h48 rfl hc hd (by rw [← ht]; omega)).mono fun e w' ⟨he, hb⟩ => ⟨none, 0, he, bd_zero _ _ _, hb⟩
        | true =>
          have h0 : readO l = some (if Lib.hasPrefix l [45] = true then -((decVal (c :: r) : Nat) : Int) else ((decVal (c :: r) : Nat) : Int)) := by
            unfold readO; rw [if_neg h48, ht]; simp only [if_neg hc, hd, if_true]
          have hz' : z = (if Lib.hasPrefix l [45] = true then -((decVal (c :: r) : Nat) : Int) else ((decVal (c :: r) : Nat) : Int)) := by rw [← hz, rdZ, h0]; rfl
          have e2 : er = 0 := by rw [← he, rdE, h0]; rfl
          subst e2
          exact bigRead_yes ht h48 rfl hc hd (by rw [← ht]; omega) rfl hz'
theorem pre_cons {c : UInt8} {r : List UInt8} (h : c ≠ 45) : Lib.hasPrefix (c :: r) [45] = false ∧ Lib.trimPrefix (c :: r) [45] = c :: r := by
 have : Lib.hasPrefix (c :: r) [45] = false := by unfold Lib.hasPrefix; simp [List.isPrefixOf]; exact fun h' => h h'.symm
 exact ⟨this, by unfold Lib.trimPrefix; rw [this]; rfl⟩
theorem pre_minus (r : List UInt8) : Lib.hasPrefix (45 :: r) [45] = true ∧ Lib.trimPrefix (45 :: r) [45] = r := by
 have : Lib.hasPrefix (45 :: r) [45] = true := by unfold Lib.hasPrefix; simp [List.isPrefixOf]
 exact ⟨this, by unfold Lib.trimPrefix; rw [this]; rfl⟩
/-- Digits with a sign ahead. -/
theorem readO_digits {n : Nat} {l : List UInt8} (hd : l.all isDg = true) (hn : l ≠ []) (h0 : l.head? ≠ some 48) (hv : decVal l = n) : readO l = some (n : Int) ∧ readO (45 :: l) = some (-(n : Int)) := by
  cases l with
  | nil => exact absurd rfl hn
  | cons c r =>
    have hc : c ≠ 48 := by simpa using h0
    have hdc : isDg c = true := by rw [List.all_cons, Bool.and_eq_true] at hd; exact hd.1
    have hc2 : c ≠ 45 := by intro h; subst h; simp [isDg] at hdc
    have h48 : c :: r ≠ [48] := by intro h; exact hc (List.cons.inj h).1
    constructor
    · unfold readO; rw [if_neg h48, (pre_cons hc2).2, (pre_cons hc2).1]; simp only [if_neg hc, hd, if_true, hv]; rfl
    · unfold readO; rw [if_neg (by simp), (pre_minus _).2, (pre_minus _).1]; simp only [if_neg hc, hd, if_true, hv]
theorem all_dec (n : Nat) : (decDigits n).all isDg = true := List.all_eq_true.2 (dec_digits n)
theorem readO_text (x : Int) : readO (textZ x) = some x := by
  by_cases hx : x = 0
  · subst hx
    have : textZ 0 = [48] := by show decDigits 0 = _; rw [decDigits_one (by omega)]; rfl
    rw [this]; rfl
  · have := readO_digits (all_dec x.natAbs) (dec_ne _) (dec_head (by omega)) (decVal_dec x.natAbs)
    unfold textZ
    split
    · rw [this.2]; congr 1; omega
    · rw [this.1]; congr 1; omega
theorem text_read {l : List UInt8} (h : rdE l = 0) : textZ (rdZ l) = l := by
  unfold rdE at h
  cases ho : readO l with
  | none => rw [ho] at h; simp at h
  | some z =>
    have hz : rdZ l = z := by unfold rdZ; rw [ho]; rfl
    rw [hz]
    unfold readO at ho
    by_cases h48 : l = [48]
    · rw [if_pos h48] at ho; cases ho; rw [h48]; show decDigits 0 = _; rw [decDigits_one (by omega)]; rfl
    · rw [if_neg h48] at ho
      cases ht : Lib.trimPrefix l [45] with
      | nil => rw [ht] at ho; cases ho
      | cons c r =>
        rw [ht] at ho
        by_cases hc : c = 48
        · simp only [if_pos hc] at ho; cases ho
        · simp only [if_neg hc] at ho
          cases hd : (c :: r).all isDg with
          | false => rw [hd] at ho; simp at ho
          | true =>
            rw [hd] at ho
            simp only [if_true, Option.some.injEq] at ho
            have hdd := dec_decVal (l := c :: r) (fun x hx => List.all_eq_true.1 hd x hx) (by simp) (by simpa using hc)
            have hp := decVal_pos (l := c :: r) (fun x hx => List.all_eq_true.1 hd x hx) (by simp) (by simpa using hc)
            cases hg : Lib.hasPrefix l [45] with
            | true =>
              rw [hg] at ho
              simp only [if_true] at ho
              have hl : l = 45 :: (c :: r) := by
                unfold Lib.trimPrefix at ht; rw [hg] at ht
                simp only [if_true] at ht
                cases l with
                | nil => simp at ht
                | cons a b =>
                  have : a = 45 := by unfold Lib.hasPrefix at hg; simp [List.isPrefixOf] at hg; exact hg.symm
                  rw [this]; congr 1
              rw [← ho]; unfold textZ; rw [if_pos (by omega), show (-((decVal (c :: r) : Nat) : Int)).natAbs = decVal (c :: r) by omega, hdd, hl]
            | false =>
              rw [hg] at ho
              have hl : l = c :: r := by unfold Lib.trimPrefix at ht; rw [hg] at ht; simpa using ht
              rw [← show ((decVal (c :: r) : Nat) : Int) = z by simpa using ho]; unfold textZ; rw [if_neg (by omega), Int.natAbs_natCast, hdd, hl]
end Go.Proofs.YtcfmakpckdicjaaGreatDoor
