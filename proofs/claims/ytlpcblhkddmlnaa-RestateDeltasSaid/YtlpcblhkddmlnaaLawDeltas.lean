/- RestateDeltas: whatever the arguments, it returns true. -/
import Derived.Test.YtlpcblhkddmlnaaBase
import Derived.Test.YtlpcblhkddmlnaaBigSpec
import Derived.Test.YtlpcblhkddmlnaaBigB
import Derived.Test.YtlpcblhkddmlnaaBigC
import Derived.Test.YtlpcblhkddmlnaaBigD
import Derived.Test.YtlpcblhkddmlnaaBigK
import Derived.Test.YtlpcblhkddmlnaaBigL
import Derived.Test.YtlpcblhkddmlnaaBigQ
import Derived.Test.YtlpcblhkddmlnaaFd
import Derived.Test.YtlpcblhkddmlnaaHeld
import Derived.Test.YtlpcblhkddmlnaaBxD
import Derived.Test.YtlpcblhkddmlnaaFz
import Derived.Test.YtlpcblhkddmlnaaFracR
import Derived.Test.YtlpcblhkddmlnaaRw
import Derived.Test.YtlpcblhkddmlnaaReA
import Derived.Test.YtlpcblhkddmlnaaReB
import Derived.Test.YtlpcblhkddmlnaaReD
import Derived.Test.YtlpcblhkddmlnaaReP
import Derived.Test.YtlpcblhkddmlnaaReS
import Derived.Test.YtlpcblhkddmlnaaReQ
import Derived.Test.YtlpcblhkddmlnaaProg
import Derived.Test.YtlpcblhkddmlnaaShelf
import Derived.WalkKit
import Derived.WalkSpells
import Derived.WalkLawsBesides
import Derived.Handy
import Derived.Lib.Hide
import Derived.Lib.Strings
import Derived.Lib.Builder
import Derived.BigQuiet
import Derived.OwnWalk
import Derived.Laws.BitsLemmas
import Derived.WalkSmall
import Derived.Deep.QuietTactic
import Derived.StillTailTactics
import Derived.Maps.AppendAt
import Derived.IntWalk
import Derived.Deep.RegionHeld3
import Derived.Deep.DeepFit
import Derived.Deep.LoopGhost
import Derived.Deep.DeepCutAuto
import Derived.Lib.ItoaNum
import Derived.Lib.Repeat
import Derived.Lib.AppendIntMem
import Derived.Sort.OwnSorted
import Derived.Shelf.Strings.SlTrimAscii
import Derived.Lib.ConvBytes
import Derived.Lib.CutLaws
import Derived.Maps.Own
import Derived.Maps.Views
import Derived.Maps.OwnOps
import Derived.RangeFuncNested
import Derived.RangeFuncBound
import Derived.RangeFuncCalls
import Derived.RangeFuncLeaves
import Derived.Shelf.Abstract
import Derived.Shelf.RegionOpen
import Derived.OwnWalkIn
import Derived.TacticsInMore
import Derived.LoopNIn
import Derived.LoopIn
namespace Go.Proofs.Ytlpcblhkddmlnaa
open Go.RowKit Go.Lib
variable {G : Nat}

theorem sg_q {q : Rat} (h : q ≠ 0) : sg (nu q) ≠ 0 := by
  have h1 : nu q ≠ 0 := fun h' => h (Rat.num_eq_zero.1 h')
  rcases sg_ne h1 with h2 | h2 <;> omega
theorem sg_q0 {q : Rat} (h : q = 0) : sg (nu q) = 0 := by rw [h]; rfl
theorem dif_at {f : Sh → Rat} : ∀ {l : List Sh} {k : Nat} {x y : Sh}, l[k]? = some x → l[k + 1]? = some y → (dif f l)[k]? = some (f y - f x)
  | [], k, x, y, h, _ => by simp at h
  | [_], k, x, y, _, h => by simp at h
  | a :: b :: r, 0, x, y, h, h' => by
    simp at h h'; subst h h'; rfl
  | a :: b :: r, k + 1, x, y, h, h' => by
    rw [dif, List.getElem?_cons_succ]
    exact dif_at (l := b :: r) (by simpa using h) (by simpa using h')
theorem sh_at {l : List SC} {m : List Sh} {k : Nat} {x : SC} (h : l.map SC.sh = m) (hx : l[k]? = some x) : m[k]? = some x.sh := by rw [← h, List.getElem?_map, hx]; rfl
theorem q_at {l : List QC} {m : List Rat} {k : Nat} {x : QC} {q : Rat} (h : l.map QC.q = m) (hx : l[k]? = some x) (hm : m[k]? = some q) : x.q = q := by
  rw [← h, List.getElem?_map, hx] at hm
  exact Option.some.inj hm
theorem sub_both {a b c d : Rat} (h : ¬ (a = b ∧ c = d)) : a - b ≠ 0 ∨ (a - b = 0 ∧ c - d ≠ 0) := by
  by_cases h1 : a = b
  · exact .inr ⟨by grind, fun h2 => h ⟨h1, by grind⟩⟩
  · exact .inl (by grind)
theorem add_sub_q (a b : Rat) : b + (a - b) = a := by grind
theorem RdL.low {α : Type} [El α] {w : World} {a : Option Addr} {n c : Nat} {l : List α} (h : RdL G w a n c l) : ∀ b off, a = some ⟨b, off, none⟩ → n = 0 ∨ b < w.heap.size := fun b off hb => by
  rcases h.rd with h0 | ⟨b', off', e1, e2⟩
  · exact .inl h0
  · rw [hb] at e1; cases e1; exact .inr e2.lt
theorem RdL.farQ {w w' : World} {a : Option Addr} {n c g : Nat} {l : List QC} {ys : Array Value} (h : RdQ G w a n c l) (k : Bx w g 27 ys) (hl : ∀ b off, a = some ⟨b, off, none⟩ → n = 0 ∨ b < g) (hG : G ≤ g) (hg : w.grownBy w' (some g)) : RdQ G w' a n c l := by
  rcases h.cases with ⟨rfl, rfl⟩ | ⟨b, off, rfl, hp, hn, hc, hb⟩
  · exact RdL.nil _ _ _
  · have hne : b ≠ g := by have := (hl b off rfl).resolve_left (by omega); omega
    exact RdL.of ⟨Nat.lt_of_lt_of_le hb.lt hg.size, ty_far hb.ty hne hg, fun x hx => El.far (hb.oks x hx) k (by rfl) hG hg, fun k x j u hk hj => hg.cell (hb.at_ k x j u hk hj) (by simp; exact hne)⟩ hn hc
theorem last_at {l : List SC} {L : List Sh} {key : ByteArray} {k : Nat} {x : SC} (h : l.map SC.sh = allF L key) (hx : l[k]? = some x) (hk : l.length = k + 1) : lastK L key = some x.sh := by
  rw [lastK_all, ← h, List.getLast?_eq_getElem?, List.length_map, hk, Nat.add_sub_cancel, List.getElem?_map, hx]; rfl
set_option maxRecDepth 100000 in
set_option maxHeartbeats 4000000 in
theorem deltas_walk {ls : List SR} {a : Option Addr} {n c : Nat} {w : World} (h : RdR w.heap.size w a n c ls) (_hn0 : n ≤ 9223372036854775807) {key : ByteArray}  :
    Calls Try.prog 6 #[.slice a n c, .string key] w fun e w' => e = .returned (.bool true) ∧ Below w.heap.size w w' := by
  obtain ⟨G, hG0⟩ : ∃ G : Nat, G = w.heap.size := ⟨_, rfl⟩
  have hG : G ≤ w.heap.size := by omega
  have HL0 : Hid (RdR w.heap.size w a n c ls) := h
  obtain ⟨b1, hb1_⟩ : ∃ b, fewL 30 ls = b := ⟨_, rfl⟩
  have Hb1 := Lib.hid hb1_; clear hb1_
  obtain ⟨k1, hk1_⟩ : ∃ b, decide (70 < key.size) = b := ⟨_, rfl⟩
  have hk1i : decide ((70 : Int) < (key.size : Int)) = k1 := by rw [← hk1_]; exact decide_eq_decide.2 (by omega)
  obtain ⟨rt, hrt_⟩ : ∃ b, rightL keyOk ls = b := ⟨_, rfl⟩
  have Hrt := Lib.hid hrt_; clear hrt_
  have HR0 : Hid (RdR G w a n c ls) := (by show RdR _ _ _ _ _ _; rw [hG0]; exact HL0.out)
  clear h
  have M : Hid (Below w.heap.size w w) := Below.refl _ _
  go_enter Try.func6, Try.ntmps6
  go_wp2_with fail
  refine (reSmall (G := G) (Nat.le_trans hG M.out.size)).mono ?_
  rintro e w1 ⟨rfl, hb⟩
  replace M := Lib.hid (Goes.go M.out hb)
  clear hb
  go_wp2_with fail
  refine (reFew30 (G := G) (l := ls) (b_ := b1) (HR0.out.keep M.out) (by omega) Hb1.out).mono ?_
  rintro e w2 ⟨rfl, hb⟩
  replace M := Lib.hid (Goes.go M.out hb)
  clear hb
  cases b1 with
  | false =>
    go_wp2_with fail
    go_ret
    exact ⟨rfl, M.out⟩
  | true =>
    have hs_ := few_all Hb1.out
    have HSM := Lib.hid hs_.1
    have hn1 : n ≤ 30 := by have h_ := HL0.out.len; have h2_ := hs_.2; omega
    clear hs_
    cases k1 with
    | false =>
      go_wp2_with fail
      refine (reRight_g (G := G) (l := ls) (b_ := rt) (Nat.le_trans hG M.out.size) (HR0.out.keep M.out) (by omega) HSM.out Hrt.out).mono ?_
      rintro e w3 ⟨rfl, hb⟩
      replace M := Lib.hid (Goes.go M.out hb)
      clear hb
      cases rt with
      | false =>
        go_wp2_with fail
        go_ret
        exact ⟨rfl, M.out⟩
      | true =>
        go_upto_region 4 with fail
        have hr_ := rightL_ok Hrt.out
        obtain ⟨l, hl⟩ : ∃ l, l = ls.map toC := ⟨_, rfl⟩
        have HC0 : Hid (RdC G w a n c l) := by show RdC _ _ _ _ _ _; rw [hG0, hl]; exact HL0.out.toC hr_.1
        have HOK : Hid (OkL keyOk (l.map SC.sh)) := by show OkL _ _; rw [hl, List.map_map]; exact hr_.2
        have HZ3 : Hid (FzL l 3) := by show FzL _ _; rw [hl]; exact fz_toC HL0.out hr_.1 HSM.out
        clear hr_ hl
        go_wp2_with fail
        refine (reAll (G := G) (key := key) (l := l) (Nat.le_trans hG M.out.size) (HC0.out.keep M.out) HOK.out (fun x_ hx_ => ⟨(HZ3.out x_ hx_).1.mono (by omega), (HZ3.out x_ hx_).2.mono (by omega)⟩)).mono ?_
        rintro e w4 ⟨a_1, n_2, c_3, l_4, rfl, hd5, hu6, hb⟩
        replace M := Lib.hid (And.intro hd5 (Goes.go M.out hb))
        clear hb hd5
        replace hu6 := Lib.hid hu6
        have HZ_3 : Hid (FzL l_4 3) := (HZ3.out.fzs.all).fzl hu6.out
        have hn3_ : n_2 ≤ 30 := by have h_ := all_len hu6.out; rw [((M.out.1)).len, HC0.out.len] at h_; omega
        go_wp2_with fail
        refine (reDeltas_c (G := G) (key := key) (l := l) (Nat.le_trans hG (M.out.2).size) (HC0.out.keep (M.out.2)) HOK.out (fun x_ hx_ => ⟨(HZ3.out x_ hx_).1.mono (by omega), (HZ3.out x_ hx_).2.mono (by omega)⟩)).mono ?_
        rintro e w5 ⟨a_7, n_8, c_9, l_10, a_11, n_12, c_13, l_14, rfl, hd15, hd16, hu17, hu18, hb⟩
        replace M := Lib.hid (And.intro hd15 (And.intro hd16 (Goes.go M.out hb)))
        clear hb hd15 hd16
        replace hu17 := Lib.hid hu17
        replace hu18 := Lib.hid hu18
        have HDlo : Hid (l_10.map QC.q = dif Sh.lo (l_4.map SC.sh)) := by show _ = _; rw [hu17.out, hu6.out]
        have HZlo : Hid (FzQ l_10 201) := FzQ.of_map HDlo.out (fun q_ hq_ => ((HZ_3.out.fzs.dif_lo q_ hq_).mono (by omega)))
        have hllo_ : n_8 = n_2 - 1 := by have h_ := congrArg List.length HDlo.out; rw [List.length_map, dif_len, List.length_map, ((M.out.1)).len, ((M.out.2.2.1)).len] at h_; exact h_
        have HLlo := Lib.hid hllo_; clear hllo_
        have HDhi : Hid (l_14.map QC.q = dif Sh.hi (l_4.map SC.sh)) := by show _ = _; rw [hu18.out, hu6.out]
        have HZhi : Hid (FzQ l_14 201) := FzQ.of_map HDhi.out (fun q_ hq_ => ((HZ_3.out.fzs.dif_hi q_ hq_).mono (by omega)))
        have hlhi_ : n_12 = n_2 - 1 := by have h_ := congrArg List.length HDhi.out; rw [List.length_map, dif_len, List.length_map, ((M.out.2.1)).len, ((M.out.2.2.1)).len] at h_; exact h_
        have HLhi := Lib.hid hlhi_; clear hlhi_
        go_upto_region 6 with fail
        have hllo_ := HLlo.out; have hlhi_ := HLhi.out
        have hwz : n_2 = 0 ∨ 0 < n_2 := by omega
        rcases hwz with hz | hz
        ·
          obtain rfl : n_8 = 0 := by omega
          obtain rfl : n_12 = 0 := by omega
          obtain rfl : n_2 = 0 := hz
          clear hllo_ hlhi_
          have hmx_ : max (0 : Int) (-1) = 0 := by omega
          go_wp2_with fail
          go_ret
          exact ⟨rfl, (M.out.2.2.2)⟩
        ·
          obtain ⟨p, hp⟩ : ∃ p, p = n_8 := ⟨_, rfl⟩
          have hq_ : p = n_12 := by omega
          have hr_ : n_2 = p + 1 := by omega
          clear hllo_ hlhi_
          obtain rfl := hp
          obtain rfl := hq_
          have HN3 := Lib.hid hr_; have hn3a_ : n_2 ≤ p + 1 := by omega
          have hn3b_ : p + 1 ≤ n_2 := by omega
          clear hr_
          have hmx_ : max (0 : Int) ((n_2 : Int) - 1) = (p : Int) := by omega
          have ez1_ : ((n_2 : Int) == 0) = false := beq_false_of_ne (by omega)
          have ez2_ : (n_2 == 0) = false := beq_false_of_ne (by omega)
          have ez3_ : ¬ (n_2 : Int) = 0 := by omega
          go_upto_region 10 with fail
          obtain ⟨bf, offf, rfl, -⟩ := RdL.ptr (M.out.2.2.1) (by omega : 0 < n_2)
          have hkl_ : 0 < l_4.length := by rw [(M.out.2.2.1).len]; omega
          obtain ⟨f_, hx_⟩ : ∃ x, l_4[0]? = some x := ⟨l_4[0], List.getElem?_eq_getElem hkl_⟩
          obtain ⟨fk, fn, fu0, fu1, fu2, fu3, fq, fv0, fv1, fv2, fv3, fr⟩ := f_
          have HEf := Lib.hid hx_
          clear hx_ hkl_
          have hz_ := HZ_3.out _ (List.mem_of_getElem? HEf.out)
          have HZf1 := Lib.hid hz_.1; have HZf2 := Lib.hid hz_.2; clear hz_
          have hi0_ : (0 : Int) < (n_2 : Int) := by omega
          have HBl_10 : Hid (∀ b off, a_7 = some ⟨b, off, none⟩ → p = 0 ∨ b < w5.heap.size) := RdL.low (M.out.1)
          have HBl_14 : Hid (∀ b off, a_11 = some ⟨b, off, none⟩ → p = 0 ∨ b < w5.heap.size) := RdL.low (M.out.2.1)
          have ys_fu0 := TQ.st (show FQ G w5 fu0 fu1 fu2 fu3 fq from (RdL.oks (M.out.2.2.1) _ (List.mem_of_getElem? HEf.out)).1); have st_fu0 := ys_fu0.1; have st_fu1 := ys_fu0.2.1; have st_fu2 := ys_fu0.2.2.1; have st_fu3 := ys_fu0.2.2.2; clear ys_fu0
          have yr0 := (show Row w5 bf offf [.string fk, .int .i64 fn, fu0, fu1, fu2, fu3, fv0, fv1, fv2, fv3] from (Row.zero (RdL.row_ (M.out.2.2.1) HEf.out))).c10; have r0_0 := yr0.1; have r0_1 := yr0.2.1; have r0_2 := yr0.2.2.1; have r0_3 := yr0.2.2.2.1; have r0_4 := yr0.2.2.2.2.1; have r0_5 := yr0.2.2.2.2.2.1; have r0_6 := yr0.2.2.2.2.2.2.1; have r0_7 := yr0.2.2.2.2.2.2.2.1; have r0_8 := yr0.2.2.2.2.2.2.2.2.1; have r0_9 := yr0.2.2.2.2.2.2.2.2.2; clear yr0
          have r0_3n : w5.cell? ⟨bf, offf + 2 + 1, none⟩ = some (fu1) := r0_3
          have r0_4n : w5.cell? ⟨bf, offf + 2 + 2, none⟩ = some (fu2) := r0_4
          have r0_5n : w5.cell? ⟨bf, offf + 2 + 3, none⟩ = some (fu3) := r0_5
          have r0_6n : w5.cell? ⟨bf, offf + 2 + 4, none⟩ = some (fv0) := r0_6
          have r0_7n : w5.cell? ⟨bf, offf + 2 + 4 + 1, none⟩ = some (fv1) := r0_7
          have r0_8n : w5.cell? ⟨bf, offf + 2 + 4 + 2, none⟩ = some (fv2) := r0_8
          have r0_9n : w5.cell? ⟨bf, offf + 2 + 4 + 3, none⟩ = some (fv3) := r0_9
          go_upto_region 11 with fail
          clear st_fu0 st_fu1 st_fu2 st_fu3 r0_0 r0_1 r0_2 r0_3 r0_4 r0_5 r0_6 r0_7 r0_8 r0_9 r0_3n r0_4n r0_5n r0_6n r0_7n r0_8n r0_9n
          obtain ⟨w6, hv⟩ : ∃ w_ : World, w_ = (w5.alloc (.cells #[fu0, fu1, fu2, fu3] 27)) := ⟨_, rfl⟩
          rw [← hv]
          have ow0_ : w.heap.size ≤ w5.heap.size := ((M.out.2.2.2)).size
          replace M := Lib.hid (And.intro (hv ▸ bx1 w5 27 #[fu0, fu1, fu2, fu3]) (Goes.go M.out (hv ▸ below_alloc _ _ : Below w5.heap.size w5 w6)))
          clear hv
          have ys_fv0 := TQ.st (show FQ G w6 fv0 fv1 fv2 fv3 fr from (RdL.oks (M.out.2.2.2.1) _ (List.mem_of_getElem? HEf.out)).2); have st_fv0 := ys_fv0.1; have st_fv1 := ys_fv0.2.1; have st_fv2 := ys_fv0.2.2.1; have st_fv3 := ys_fv0.2.2.2; clear ys_fv0
          have yr0 := (show Row w6 bf offf [.string fk, .int .i64 fn, fu0, fu1, fu2, fu3, fv0, fv1, fv2, fv3] from (Row.zero (RdL.row_ (M.out.2.2.2.1) HEf.out))).c10; have r0_0 := yr0.1; have r0_1 := yr0.2.1; have r0_2 := yr0.2.2.1; have r0_3 := yr0.2.2.2.1; have r0_4 := yr0.2.2.2.2.1; have r0_5 := yr0.2.2.2.2.2.1; have r0_6 := yr0.2.2.2.2.2.2.1; have r0_7 := yr0.2.2.2.2.2.2.2.1; have r0_8 := yr0.2.2.2.2.2.2.2.2.1; have r0_9 := yr0.2.2.2.2.2.2.2.2.2; clear yr0
          have r0_3n : w6.cell? ⟨bf, offf + 2 + 1, none⟩ = some (fu1) := r0_3
          have r0_4n : w6.cell? ⟨bf, offf + 2 + 2, none⟩ = some (fu2) := r0_4
          have r0_5n : w6.cell? ⟨bf, offf + 2 + 3, none⟩ = some (fu3) := r0_5
          have r0_6n : w6.cell? ⟨bf, offf + 2 + 4, none⟩ = some (fv0) := r0_6
          have r0_7n : w6.cell? ⟨bf, offf + 2 + 4 + 1, none⟩ = some (fv1) := r0_7
          have r0_8n : w6.cell? ⟨bf, offf + 2 + 4 + 2, none⟩ = some (fv2) := r0_8
          have r0_9n : w6.cell? ⟨bf, offf + 2 + 4 + 3, none⟩ = some (fv3) := r0_9
          go_upto_region 12 with fail
          clear st_fv0 st_fv1 st_fv2 st_fv3 r0_0 r0_1 r0_2 r0_3 r0_4 r0_5 r0_6 r0_7 r0_8 r0_9 r0_3n r0_4n r0_5n r0_6n r0_7n r0_8n r0_9n
          obtain ⟨w7, hv⟩ : ∃ w_ : World, w_ = (w6.alloc (.cells #[fv0, fv1, fv2, fv3] 27)) := ⟨_, rfl⟩
          rw [← hv]
          have ow1_ : w5.heap.size < w6.heap.size := ((M.out.1)).lt
          replace M := Lib.hid (And.intro (hv ▸ bx1 w6 27 #[fv0, fv1, fv2, fv3]) (Goes.go M.out (hv ▸ below_alloc _ _ : Below w6.heap.size w6 w7)))
          clear hv
          go_wp2_with fail
          go_loopw [11] (fun i11 wr => ∃ (k : Nat) (y0 : Value) (y1 : Value) (y2 : Value) (y3 : Value) (y4 : Value) (y5 : Value) (y6 : Value) (y7 : Value) (ql : Rat) (qh : Rat), i11 = .int .i64 (k : Int) ∧ Hid (k ≤ p) ∧ Hid (∃ x, l_4[k]? = some x ∧ x.q = ql ∧ x.r = qh) ∧ Hid (Bx wr w5.heap.size 27 #[y0, y1, y2, y3] ∧ Bx wr w6.heap.size 27 #[y4, y5, y6, y7] ∧ FQ G wr y0 y1 y2 y3 ql ∧ FQ G wr y4 y5 y6 y7 qh ∧ RdQ G wr a_7 p c_9 l_10 ∧ RdQ G wr a_11 p c_13 l_14 ∧ RdC G wr (some ⟨bf, offf, none⟩) n_2 c_3 l_4 ∧ Below w.heap.size w wr)) (fun i11 _ => p - (RowKit.intOf i11).toNat)
          case atStart =>
            exact ⟨0, _, _, _, _, _, _, _, _, _, _, rfl, (by show _ ≤ _; omega), (Lib.hid ⟨_, HEf.out, rfl, rfl⟩), Lib.hid (And.intro (M.out.2.1) (And.intro (M.out.1) (And.intro (show FQ G w7 fu0 fu1 fu2 fu3 fq from (RdL.oks (M.out.2.2.2.2.1) _ (List.mem_of_getElem? HEf.out)).1) (And.intro (show FQ G w7 fv0 fv1 fv2 fv3 fr from (RdL.oks (M.out.2.2.2.2.1) _ (List.mem_of_getElem? HEf.out)).2) (And.intro (M.out.2.2.1) (And.intro (M.out.2.2.2.1) (And.intro (M.out.2.2.2.2.1) (M.out.2.2.2.2.2))))))))⟩
          case round =>
            obtain ⟨w8, rfl⟩ : ∃ x, x = wr := ⟨_, rfl⟩
            clear M
            obtain ⟨k, y0, y1, y2, y3, y4, y5, y6, y7, ql, qh, rfl, hk, HX, M⟩ := hrel
            have hk := hk.out
            by_cases hlt : k < p
            ·
              have e1_0 : decide (k < p) = true := decide_eq_true (by omega)
              have e1_1 : decide ((k : Int) < (p : Int)) = true := decide_eq_true (by omega)
              have e1_i : (k : Int) < (p : Int) := by omega
              have hi1_ : (k : Int) < (p : Int) := by omega
              obtain ⟨zf_, hzf_, rfl, rfl⟩ := HX.out
              have HEz := Lib.hid hzf_
              clear hzf_
              obtain ⟨zk, zn, zu0, zu1, zu2, zu3, zq, zv0, zv1, zv2, zv3, zr⟩ := zf_
              dsimp only at HEz M HX
              have hkl_ : k + 1 < l_4.length := by rw [((M.out.2.2.2.2.2.2.1)).len]; omega
              obtain ⟨x_, hx_⟩ : ∃ x, l_4[k + 1]? = some x := ⟨l_4[k + 1], List.getElem?_eq_getElem hkl_⟩
              obtain ⟨xk, xn, xu0, xu1, xu2, xu3, xq, xv0, xv1, xv2, xv3, xr⟩ := x_
              have HEx := Lib.hid hx_; clear hx_ hkl_
              have hz_ := HZ_3.out _ (List.mem_of_getElem? HEz.out)
              have HZz1 : Hid (Fz zq 3) := hz_.1
              have HZz2 : Hid (Fz zr 3) := hz_.2
              have hz2_ := HZ_3.out _ (List.mem_of_getElem? HEx.out)
              have HZx1 : Hid (Fz xq 3) := hz2_.1
              have HZx2 : Hid (Fz xr 3) := hz2_.2
              clear hz_ hz2_
              obtain ⟨bs, offs, rfl, -⟩ := RdL.ptr (M.out.2.2.2.2.1) (by omega : 0 < p)
              have hkl_ : k < l_10.length := by rw [(M.out.2.2.2.2.1).len]; omega
              obtain ⟨s_, hx_⟩ : ∃ x, l_10[k]? = some x := ⟨l_10[k], List.getElem?_eq_getElem hkl_⟩
              obtain ⟨su0, su1, su2, su3, sq⟩ := s_
              have HEs := Lib.hid hx_
              have HZs : Hid (Fz sq 201) := HZlo.out _ (List.mem_of_getElem? hx_)
              clear hx_ hkl_
              obtain ⟨bt, offt, rfl, -⟩ := RdL.ptr (M.out.2.2.2.2.2.1) (by omega : 0 < p)
              have hkl_ : k < l_14.length := by rw [(M.out.2.2.2.2.2.1).len]; omega
              obtain ⟨t_, hx_⟩ : ∃ x, l_14[k]? = some x := ⟨l_14[k], List.getElem?_eq_getElem hkl_⟩
              obtain ⟨tu0, tu1, tu2, tu3, tq⟩ := t_
              have HEt := Lib.hid hx_
              have HZt : Hid (Fz tq 201) := HZhi.out _ (List.mem_of_getElem? hx_)
              clear hx_ hkl_
              have HS : Hid (sq = xq - zq) := q_at HDlo.out HEs.out (dif_at (sh_at rfl HEz.out) (sh_at rfl HEx.out))
              have HT : Hid (tq = xr - zr) := q_at HDhi.out HEt.out (dif_at (sh_at rfl HEz.out) (sh_at rfl HEx.out))
              obtain ⟨s1, hs1⟩ : ∃ s, sg (nu sq) = s := ⟨_, rfl⟩
              obtain ⟨s2, hs2⟩ : ∃ s, sg (nu tq) = s := ⟨_, rfl⟩
              have hdf_ : xq - zq ≠ 0 ∨ (xq - zq = 0 ∧ xr - zr ≠ 0) := sub_both (all_differ (kk := key) HOK.out k ⟨zk, zn, zq, zr⟩ ⟨xk, xn, xq, xr⟩ (sh_at hu6.out HEz.out) (sh_at hu6.out HEx.out))
              rcases hdf_ with hdf_ | hdf_
              ·
                have hs1n : s1 ≠ 0 := by rw [← hs1, HS.out]; exact sg_q hdf_
                have en1_s1 : (s1 == 0) = false := beq_false_of_ne hs1n
                have HS1 := Lib.hid hs1; have HS2 := Lib.hid hs2; clear hs1 hs2 hdf_
                have yr1 := (show Row w8 bs (offs + k * 4) [su0, su1, su2, su3] from (RdL.row_ (M.out.2.2.2.2.1) HEs.out)).c4; have r1_0 := yr1.1; have r1_1 := yr1.2.1; have r1_2 := yr1.2.2.1; have r1_3 := yr1.2.2.2; clear yr1
                go_wp2_with fail
                clear r1_0 r1_1 r1_2 r1_3
                refine (fqSign (G := G) (q := sq) (k := s1) (Nat.le_trans hG (M.out.2.2.2.2.2.2.2).size) (show FQ G w8 su0 su1 su2 su3 sq from (RdL.oks (M.out.2.2.2.2.1) _ (List.mem_of_getElem? HEs.out))) (Fz.mono HZs.out (by omega)) HS1.out).mono ?_
                rintro e w9 ⟨rfl, hb⟩
                replace M := Lib.hid (Goes.go M.out hb)
                clear hb
                go_wp2_with fail
                obtain ⟨w10, hv⟩ : ∃ w_ : World, w_ = w9.drew := ⟨_, rfl⟩
                replace M := Lib.hid (Goes.go M.out (hv ▸ below_drew _ : Below w9.heap.size w9 w10))
                refine wp_region_held_drew (S := (fun w' => w'.cell? ⟨bs, offs + k * 4, none⟩ = some (su0) ∧ w'.cell? ⟨bs, offs + k * 4 + 1, none⟩ = some (su1) ∧ w'.cell? ⟨bs, offs + k * 4 + 2, none⟩ = some (su2) ∧ w'.cell? ⟨bs, offs + k * 4 + 3, none⟩ = some (su3))) (by kernel_rfl) (by rw [← hv]; exact ⟨(show Row w10 bs (offs + k * 4) [su0, su1, su2, su3] from (RdL.row_ (M.out.2.2.2.2.1) HEs.out)).2 0 _ rfl, (show Row w10 bs (offs + k * 4) [su0, su1, su2, su3] from (RdL.row_ (M.out.2.2.2.2.1) HEs.out)).2 1 _ rfl, (show Row w10 bs (offs + k * 4) [su0, su1, su2, su3] from (RdL.row_ (M.out.2.2.2.2.1) HEs.out)).2 2 _ rfl, (show Row w10 bs (offs + k * 4) [su0, su1, su2, su3] from (RdL.row_ (M.out.2.2.2.2.1) HEs.out)).2 3 _ rfl⟩) (fun hH25 => ?_)
                rw [← hv] at hH25 ⊢
                clear hv
                refine tk at1 ?_
                refine tk at2 ?_
                refine tk at3 ?_
                refine tk at4 ?_
                refine wpAnyH_ready (rs := [0]) (by kernel_rfl) (by simp) ?_
                refine AllReadyH.cons at0 (fun K hK => ?_) AllReadyH.nil
                have y0 := (M.out.1).d4; have p0_0 := y0.1; have p0_1 := y0.2.1; have p0_2 := y0.2.2.1; have p0_3 := y0.2.2.2; clear y0
                go_simp
                clear p0_0 p0_1 p0_2 p0_3
                refine hK.out _ _ (⟨(show Row w10 bs (offs + k * 4) [su0, su1, su2, su3] from (RdL.row_ (M.out.2.2.2.2.1) HEs.out)).2 0 _ rfl, (show Row w10 bs (offs + k * 4) [su0, su1, su2, su3] from (RdL.row_ (M.out.2.2.2.2.1) HEs.out)).2 1 _ rfl, (show Row w10 bs (offs + k * 4) [su0, su1, su2, su3] from (RdL.row_ (M.out.2.2.2.2.1) HEs.out)).2 2 _ rfl, (show Row w10 bs (offs + k * 4) [su0, su1, su2, su3] from (RdL.row_ (M.out.2.2.2.2.1) HEs.out)).2 3 _ rfl⟩) (fun hH26 => ?_)
                clear hK K hH25
                (try simp only [Act.put, List.setIfInBounds_toArray, List.set_cons_zero, List.set_cons_succ])
                refine wpAnyH_ready (rs := [5]) (by kernel_rfl) (by simp) ?_
                refine AllReadyH.cons at5 (fun K hK => ?_) AllReadyH.nil
                go_simp
                obtain ⟨q31, eq31⟩ : ∃ v_ : Rat, v_ = (zq + sq) := ⟨_, rfl⟩
                refine (fqAdd (G := G) (q := zq) (r := sq) (M.out.2.2.1) (show FQ G w10 su0 su1 su2 su3 sq from (RdL.oks (M.out.2.2.2.2.1) _ (List.mem_of_getElem? HEs.out))) (Fz.mono HZz1.out (by omega)) (Fz.mono HZs.out (by omega))).mono ?_
                rintro e w11 ⟨x_27, x_28, x_29, x_30, rfl, hd32, hb⟩
                rw [← eq31] at hd32
                have Sq31 : Hid (Fz q31 205) := by show Fz q31 205; rw [eq31]; exact (Fz.add HZz1.out HZs.out)
                have Eq31 := Lib.hid eq31; clear eq31
                replace M := Lib.hid (And.intro hd32 (Goes.go M.out hb))
                clear hb hd32
                (try go_wp2_with fail)
                refine hK.out _ _ (⟨(show Row w11 bs (offs + k * 4) [su0, su1, su2, su3] from (RdL.row_ (M.out.2.2.2.2.2.1) HEs.out)).2 0 _ rfl, (show Row w11 bs (offs + k * 4) [su0, su1, su2, su3] from (RdL.row_ (M.out.2.2.2.2.2.1) HEs.out)).2 1 _ rfl, (show Row w11 bs (offs + k * 4) [su0, su1, su2, su3] from (RdL.row_ (M.out.2.2.2.2.2.1) HEs.out)).2 2 _ rfl, (show Row w11 bs (offs + k * 4) [su0, su1, su2, su3] from (RdL.row_ (M.out.2.2.2.2.2.1) HEs.out)).2 3 _ rfl⟩) (fun hH33 => ?_)
                clear hK K hH26
                (try simp only [Act.put, List.setIfInBounds_toArray, List.set_cons_zero, List.set_cons_succ])
                refine tk at6 ?_
                refine tk at7 ?_
                refine tk at8 ?_
                refine wpAnyH_ready (rs := [9]) (by kernel_rfl) (by simp) ?_
                refine AllReadyH.cons at9 (fun K hK => ?_) AllReadyH.nil
                have y0 := (M.out.2.1).c4; have p0_0 := y0.1; have q0_0 := y0.2.1; have p0_1 := y0.2.2.1; have q0_1 := y0.2.2.2.1; have p0_2 := y0.2.2.2.2.1; have q0_2 := y0.2.2.2.2.2.1; have p0_3 := y0.2.2.2.2.2.2.1; have q0_3 := y0.2.2.2.2.2.2.2; clear y0
                have ys_x_27 := TQ.st (M.out.1); have st_x_27 := ys_x_27.1; have st_x_28 := ys_x_27.2.1; have st_x_29 := ys_x_27.2.2.1; have st_x_30 := ys_x_27.2.2.2; clear ys_x_27
                go_simp
                clear p0_0 q0_0 p0_1 q0_1 p0_2 q0_2 p0_3 q0_3 st_x_27 st_x_28 st_x_29 st_x_30
                obtain ⟨w12, hv⟩ : ∃ w_ : World, w_ = ((((w11.setCell ⟨w5.heap.size, 0, none⟩ (x_27)).setCell ⟨w5.heap.size, 1, none⟩ (x_28)).setCell ⟨w5.heap.size, 2, none⟩ (x_29)).setCell ⟨w5.heap.size, 3, none⟩ (x_30)) := ⟨_, rfl⟩
                rw [← hv]
                have og : w11.grownBy w12 (some w5.heap.size) := by rw [hv]; exact (only_setCell (only_setCell (only_setCell (only_setCell (World.grownBy.refl _ _) _) _) _) _)
                have hz : w.heap.size ≤ w5.heap.size := by omega
                have hk : Bx w12 w5.heap.size 27 #[x_27, x_28, x_29, x_30] := by rw [hv]; exact (((((M.out.2.1).set 0 _).set 1 _).set 2 _).set 3 _)
                have hbw : Below w.heap.size w w12 := by rw [hv]; exact (Below.setCell (Below.setCell (Below.setCell (Below.setCell (M.out.2.2.2.2.2.2.2.2) (by omega) _) (by omega) _) (by omega) _) (by omega) _)
                replace M := Lib.hid (And.intro ((M.out.1).far (M.out.2.1) (by rfl) (by omega) og) (And.intro hk (And.intro ((M.out.2.2.1).only og (by omega)) (And.intro ((M.out.2.2.2.1).far (M.out.2.1) (by rfl) (by omega) og) (And.intro ((M.out.2.2.2.2.1).far (M.out.2.1) (by rfl) (by omega) og) (And.intro (RdL.farQ (M.out.2.2.2.2.2.1) (M.out.2.1) (fun b_ o_ h_ => (HBl_10.out b_ o_ h_).imp id (fun h2_ => by omega)) (by omega) og) (And.intro (RdL.farQ (M.out.2.2.2.2.2.2.1) (M.out.2.1) (fun b_ o_ h_ => (HBl_14.out b_ o_ h_).imp id (fun h2_ => by omega)) (by omega) og) (And.intro ((M.out.2.2.2.2.2.2.2.1).far (M.out.2.1) (by rfl) (by omega) og) hbw))))))))
                clear hk hbw og hv hz
                refine hK.out _ _ (⟨(show Row w12 bs (offs + k * 4) [su0, su1, su2, su3] from (RdL.row_ (M.out.2.2.2.2.2.1) HEs.out)).2 0 _ rfl, (show Row w12 bs (offs + k * 4) [su0, su1, su2, su3] from (RdL.row_ (M.out.2.2.2.2.2.1) HEs.out)).2 1 _ rfl, (show Row w12 bs (offs + k * 4) [su0, su1, su2, su3] from (RdL.row_ (M.out.2.2.2.2.2.1) HEs.out)).2 2 _ rfl, (show Row w12 bs (offs + k * 4) [su0, su1, su2, su3] from (RdL.row_ (M.out.2.2.2.2.2.1) HEs.out)).2 3 _ rfl⟩) (fun hH34 => ?_)
                clear hK K hH33
                (try simp only [Act.put, List.setIfInBounds_toArray, List.set_cons_zero, List.set_cons_succ])
                refine wpAnyH_done (by kernel_rfl) ?_ _
                clear hH34
                go_wp2_with fail
                obtain ⟨w13, hv⟩ : ∃ w_ : World, w_ = w12.drew := ⟨_, rfl⟩
                replace M := Lib.hid (Goes.go M.out (hv ▸ below_drew _ : Below w12.heap.size w12 w13))
                refine wp_region_held_drew (S := (fun w' => w'.cell? ⟨bt, offt + k * 4, none⟩ = some (tu0) ∧ w'.cell? ⟨bt, offt + k * 4 + 1, none⟩ = some (tu1) ∧ w'.cell? ⟨bt, offt + k * 4 + 2, none⟩ = some (tu2) ∧ w'.cell? ⟨bt, offt + k * 4 + 3, none⟩ = some (tu3))) (by kernel_rfl) (by rw [← hv]; exact ⟨(show Row w13 bt (offt + k * 4) [tu0, tu1, tu2, tu3] from (RdL.row_ (M.out.2.2.2.2.2.2.1) HEt.out)).2 0 _ rfl, (show Row w13 bt (offt + k * 4) [tu0, tu1, tu2, tu3] from (RdL.row_ (M.out.2.2.2.2.2.2.1) HEt.out)).2 1 _ rfl, (show Row w13 bt (offt + k * 4) [tu0, tu1, tu2, tu3] from (RdL.row_ (M.out.2.2.2.2.2.2.1) HEt.out)).2 2 _ rfl, (show Row w13 bt (offt + k * 4) [tu0, tu1, tu2, tu3] from (RdL.row_ (M.out.2.2.2.2.2.2.1) HEt.out)).2 3 _ rfl⟩) (fun hH41 => ?_)
                rw [← hv] at hH41 ⊢
                clear hv
                refine tk at1 ?_
                refine tk at2 ?_
                refine tk at3 ?_
                refine tk at4 ?_
                refine wpAnyH_ready (rs := [0]) (by kernel_rfl) (by simp) ?_
                refine AllReadyH.cons at0 (fun K hK => ?_) AllReadyH.nil
                have y1 := (M.out.2.2.1).d4; have p1_0 := y1.1; have p1_1 := y1.2.1; have p1_2 := y1.2.2.1; have p1_3 := y1.2.2.2; clear y1
                go_simp
                clear p1_0 p1_1 p1_2 p1_3
                refine hK.out _ _ (⟨(show Row w13 bt (offt + k * 4) [tu0, tu1, tu2, tu3] from (RdL.row_ (M.out.2.2.2.2.2.2.1) HEt.out)).2 0 _ rfl, (show Row w13 bt (offt + k * 4) [tu0, tu1, tu2, tu3] from (RdL.row_ (M.out.2.2.2.2.2.2.1) HEt.out)).2 1 _ rfl, (show Row w13 bt (offt + k * 4) [tu0, tu1, tu2, tu3] from (RdL.row_ (M.out.2.2.2.2.2.2.1) HEt.out)).2 2 _ rfl, (show Row w13 bt (offt + k * 4) [tu0, tu1, tu2, tu3] from (RdL.row_ (M.out.2.2.2.2.2.2.1) HEt.out)).2 3 _ rfl⟩) (fun hH42 => ?_)
                clear hK K hH41
                (try simp only [Act.put, List.setIfInBounds_toArray, List.set_cons_zero, List.set_cons_succ])
                refine wpAnyH_ready (rs := [5]) (by kernel_rfl) (by simp) ?_
                refine AllReadyH.cons at5 (fun K hK => ?_) AllReadyH.nil
                go_simp
                obtain ⟨q47, eq47⟩ : ∃ v_ : Rat, v_ = (zr + tq) := ⟨_, rfl⟩
                refine (fqAdd (G := G) (q := zr) (r := tq) (M.out.2.2.2.2.1) (show FQ G w13 tu0 tu1 tu2 tu3 tq from (RdL.oks (M.out.2.2.2.2.2.2.1) _ (List.mem_of_getElem? HEt.out))) (Fz.mono HZz2.out (by omega)) (Fz.mono HZt.out (by omega))).mono ?_
                rintro e w14 ⟨x_43, x_44, x_45, x_46, rfl, hd48, hb⟩
                rw [← eq47] at hd48
                have Sq47 : Hid (Fz q47 205) := by show Fz q47 205; rw [eq47]; exact (Fz.add HZz2.out HZt.out)
                have Eq47 := Lib.hid eq47; clear eq47
                replace M := Lib.hid (And.intro hd48 (Goes.go M.out hb))
                clear hb hd48
                (try go_wp2_with fail)
                refine hK.out _ _ (⟨(show Row w14 bt (offt + k * 4) [tu0, tu1, tu2, tu3] from (RdL.row_ (M.out.2.2.2.2.2.2.2.1) HEt.out)).2 0 _ rfl, (show Row w14 bt (offt + k * 4) [tu0, tu1, tu2, tu3] from (RdL.row_ (M.out.2.2.2.2.2.2.2.1) HEt.out)).2 1 _ rfl, (show Row w14 bt (offt + k * 4) [tu0, tu1, tu2, tu3] from (RdL.row_ (M.out.2.2.2.2.2.2.2.1) HEt.out)).2 2 _ rfl, (show Row w14 bt (offt + k * 4) [tu0, tu1, tu2, tu3] from (RdL.row_ (M.out.2.2.2.2.2.2.2.1) HEt.out)).2 3 _ rfl⟩) (fun hH49 => ?_)
                clear hK K hH42
                (try simp only [Act.put, List.setIfInBounds_toArray, List.set_cons_zero, List.set_cons_succ])
                refine tk at6 ?_
                refine tk at7 ?_
                refine tk at8 ?_
                refine wpAnyH_ready (rs := [9]) (by kernel_rfl) (by simp) ?_
                refine AllReadyH.cons at9 (fun K hK => ?_) AllReadyH.nil
                have y1 := (M.out.2.2.2.1).c4; have p1_0 := y1.1; have q1_0 := y1.2.1; have p1_1 := y1.2.2.1; have q1_1 := y1.2.2.2.1; have p1_2 := y1.2.2.2.2.1; have q1_2 := y1.2.2.2.2.2.1; have p1_3 := y1.2.2.2.2.2.2.1; have q1_3 := y1.2.2.2.2.2.2.2; clear y1
                have ys_x_43 := TQ.st (M.out.1); have st_x_43 := ys_x_43.1; have st_x_44 := ys_x_43.2.1; have st_x_45 := ys_x_43.2.2.1; have st_x_46 := ys_x_43.2.2.2; clear ys_x_43
                go_simp
                clear p1_0 q1_0 p1_1 q1_1 p1_2 q1_2 p1_3 q1_3 st_x_43 st_x_44 st_x_45 st_x_46
                obtain ⟨w15, hv⟩ : ∃ w_ : World, w_ = ((((w14.setCell ⟨w6.heap.size, 0, none⟩ (x_43)).setCell ⟨w6.heap.size, 1, none⟩ (x_44)).setCell ⟨w6.heap.size, 2, none⟩ (x_45)).setCell ⟨w6.heap.size, 3, none⟩ (x_46)) := ⟨_, rfl⟩
                rw [← hv]
                have og : w14.grownBy w15 (some w6.heap.size) := by rw [hv]; exact (only_setCell (only_setCell (only_setCell (only_setCell (World.grownBy.refl _ _) _) _) _) _)
                have hz : w.heap.size ≤ w6.heap.size := by omega
                have hk : Bx w15 w6.heap.size 27 #[x_43, x_44, x_45, x_46] := by rw [hv]; exact (((((M.out.2.2.2.1).set 0 _).set 1 _).set 2 _).set 3 _)
                have hbw : Below w.heap.size w w15 := by rw [hv]; exact (Below.setCell (Below.setCell (Below.setCell (Below.setCell (M.out.2.2.2.2.2.2.2.2.2) (by omega) _) (by omega) _) (by omega) _) (by omega) _)
                replace M := Lib.hid (And.intro ((M.out.1).far (M.out.2.2.2.1) (by rfl) (by omega) og) (And.intro ((M.out.2.1).far (M.out.2.2.2.1) (by rfl) (by omega) og) (And.intro ((M.out.2.2.1).only og (by omega)) (And.intro hk (And.intro ((M.out.2.2.2.2.1).far (M.out.2.2.2.1) (by rfl) (by omega) og) (And.intro ((M.out.2.2.2.2.2.1).far (M.out.2.2.2.1) (by rfl) (by omega) og) (And.intro (RdL.farQ (M.out.2.2.2.2.2.2.1) (M.out.2.2.2.1) (fun b_ o_ h_ => (HBl_10.out b_ o_ h_).imp id (fun h2_ => by omega)) (by omega) og) (And.intro (RdL.farQ (M.out.2.2.2.2.2.2.2.1) (M.out.2.2.2.1) (fun b_ o_ h_ => (HBl_14.out b_ o_ h_).imp id (fun h2_ => by omega)) (by omega) og) (And.intro ((M.out.2.2.2.2.2.2.2.2.1).far (M.out.2.2.2.1) (by rfl) (by omega) og) hbw)))))))))
                clear hk hbw og hv hz
                refine hK.out _ _ (⟨(show Row w15 bt (offt + k * 4) [tu0, tu1, tu2, tu3] from (RdL.row_ (M.out.2.2.2.2.2.2.2.1) HEt.out)).2 0 _ rfl, (show Row w15 bt (offt + k * 4) [tu0, tu1, tu2, tu3] from (RdL.row_ (M.out.2.2.2.2.2.2.2.1) HEt.out)).2 1 _ rfl, (show Row w15 bt (offt + k * 4) [tu0, tu1, tu2, tu3] from (RdL.row_ (M.out.2.2.2.2.2.2.2.1) HEt.out)).2 2 _ rfl, (show Row w15 bt (offt + k * 4) [tu0, tu1, tu2, tu3] from (RdL.row_ (M.out.2.2.2.2.2.2.2.1) HEt.out)).2 3 _ rfl⟩) (fun hH50 => ?_)
                clear hK K hH49
                (try simp only [Act.put, List.setIfInBounds_toArray, List.set_cons_zero, List.set_cons_succ])
                refine wpAnyH_done (by kernel_rfl) ?_ _
                clear hH50
                go_wp2_with fail
                go_roundw
                case rel => exact ⟨(k + 1), x_27, x_28, x_29, x_30, x_43, x_44, x_45, x_46, q31, q47, by go_num, (by show _ ≤ _; omega), (Lib.hid ⟨_, HEx.out, (by show xq = q31; rw [Eq31.out, HS.out, add_sub_q]), (by show xr = q47; rw [Eq47.out, HT.out, add_sub_q])⟩), Lib.hid (And.intro (M.out.2.2.1) (And.intro (M.out.2.2.2.1) (And.intro (M.out.2.1) (And.intro (M.out.1) (And.intro (M.out.2.2.2.2.2.2.1) (And.intro (M.out.2.2.2.2.2.2.2.1) (And.intro (M.out.2.2.2.2.2.2.2.2.1) (M.out.2.2.2.2.2.2.2.2.2))))))))⟩
                case measure => simp [RowKit.intOf] <;> omega
              ·
                obtain ⟨hdf0_, hdf1_⟩ := hdf_
                have hs1z : s1 = 0 := by rw [← hs1, HS.out]; exact sg_q0 hdf0_
                have hs2n : s2 ≠ 0 := by rw [← hs2, HT.out]; exact sg_q hdf1_
                have HS1 := Lib.hid hs1; have HS2 := Lib.hid hs2; clear hs1 hs2 hdf0_ hdf1_
                have es1 : (s1 == 0) = true := beq_iff_eq.2 hs1z
                clear hs1z
                have en1_s2 : (s2 == 0) = false := beq_false_of_ne hs2n
                have yr1 := (show Row w8 bs (offs + k * 4) [su0, su1, su2, su3] from (RdL.row_ (M.out.2.2.2.2.1) HEs.out)).c4; have r1_0 := yr1.1; have r1_1 := yr1.2.1; have r1_2 := yr1.2.2.1; have r1_3 := yr1.2.2.2; clear yr1
                go_wp2_with fail
                clear r1_0 r1_1 r1_2 r1_3
                refine (fqSign (G := G) (q := sq) (k := s1) (Nat.le_trans hG (M.out.2.2.2.2.2.2.2).size) (show FQ G w8 su0 su1 su2 su3 sq from (RdL.oks (M.out.2.2.2.2.1) _ (List.mem_of_getElem? HEs.out))) (Fz.mono HZs.out (by omega)) HS1.out).mono ?_
                rintro e w9 ⟨rfl, hb⟩
                replace M := Lib.hid (Goes.go M.out hb)
                clear hb
                have yr2 := (show Row w9 bt (offt + k * 4) [tu0, tu1, tu2, tu3] from (RdL.row_ (M.out.2.2.2.2.2.1) HEt.out)).c4; have r2_0 := yr2.1; have r2_1 := yr2.2.1; have r2_2 := yr2.2.2.1; have r2_3 := yr2.2.2.2; clear yr2
                go_wp2_with fail
                clear r2_0 r2_1 r2_2 r2_3
                refine (fqSign (G := G) (q := tq) (k := s2) (Nat.le_trans hG (M.out.2.2.2.2.2.2.2).size) (show FQ G w9 tu0 tu1 tu2 tu3 tq from (RdL.oks (M.out.2.2.2.2.2.1) _ (List.mem_of_getElem? HEt.out))) (Fz.mono HZt.out (by omega)) HS2.out).mono ?_
                rintro e w10 ⟨rfl, hb⟩
                replace M := Lib.hid (Goes.go M.out hb)
                clear hb
                go_wp2_with fail
                obtain ⟨w11, hv⟩ : ∃ w_ : World, w_ = w10.drew := ⟨_, rfl⟩
                replace M := Lib.hid (Goes.go M.out (hv ▸ below_drew _ : Below w10.heap.size w10 w11))
                refine wp_region_held_drew (S := (fun w' => w'.cell? ⟨bs, offs + k * 4, none⟩ = some (su0) ∧ w'.cell? ⟨bs, offs + k * 4 + 1, none⟩ = some (su1) ∧ w'.cell? ⟨bs, offs + k * 4 + 2, none⟩ = some (su2) ∧ w'.cell? ⟨bs, offs + k * 4 + 3, none⟩ = some (su3))) (by kernel_rfl) (by rw [← hv]; exact ⟨(show Row w11 bs (offs + k * 4) [su0, su1, su2, su3] from (RdL.row_ (M.out.2.2.2.2.1) HEs.out)).2 0 _ rfl, (show Row w11 bs (offs + k * 4) [su0, su1, su2, su3] from (RdL.row_ (M.out.2.2.2.2.1) HEs.out)).2 1 _ rfl, (show Row w11 bs (offs + k * 4) [su0, su1, su2, su3] from (RdL.row_ (M.out.2.2.2.2.1) HEs.out)).2 2 _ rfl, (show Row w11 bs (offs + k * 4) [su0, su1, su2, su3] from (RdL.row_ (M.out.2.2.2.2.1) HEs.out)).2 3 _ rfl⟩) (fun hH57 => ?_)
                rw [← hv] at hH57 ⊢
                clear hv
                refine tk at1 ?_
                refine tk at2 ?_
                refine tk at3 ?_
                refine tk at4 ?_
                refine wpAnyH_ready (rs := [0]) (by kernel_rfl) (by simp) ?_
                refine AllReadyH.cons at0 (fun K hK => ?_) AllReadyH.nil
                have y0 := (M.out.1).d4; have p0_0 := y0.1; have p0_1 := y0.2.1; have p0_2 := y0.2.2.1; have p0_3 := y0.2.2.2; clear y0
                go_simp
                clear p0_0 p0_1 p0_2 p0_3
                refine hK.out _ _ (⟨(show Row w11 bs (offs + k * 4) [su0, su1, su2, su3] from (RdL.row_ (M.out.2.2.2.2.1) HEs.out)).2 0 _ rfl, (show Row w11 bs (offs + k * 4) [su0, su1, su2, su3] from (RdL.row_ (M.out.2.2.2.2.1) HEs.out)).2 1 _ rfl, (show Row w11 bs (offs + k * 4) [su0, su1, su2, su3] from (RdL.row_ (M.out.2.2.2.2.1) HEs.out)).2 2 _ rfl, (show Row w11 bs (offs + k * 4) [su0, su1, su2, su3] from (RdL.row_ (M.out.2.2.2.2.1) HEs.out)).2 3 _ rfl⟩) (fun hH58 => ?_)
                clear hK K hH57
                (try simp only [Act.put, List.setIfInBounds_toArray, List.set_cons_zero, List.set_cons_succ])
                refine wpAnyH_ready (rs := [5]) (by kernel_rfl) (by simp) ?_
                refine AllReadyH.cons at5 (fun K hK => ?_) AllReadyH.nil
                go_simp
                obtain ⟨q63, eq63⟩ : ∃ v_ : Rat, v_ = (zq + sq) := ⟨_, rfl⟩
                refine (fqAdd (G := G) (q := zq) (r := sq) (M.out.2.2.1) (show FQ G w11 su0 su1 su2 su3 sq from (RdL.oks (M.out.2.2.2.2.1) _ (List.mem_of_getElem? HEs.out))) (Fz.mono HZz1.out (by omega)) (Fz.mono HZs.out (by omega))).mono ?_
                rintro e w12 ⟨x_59, x_60, x_61, x_62, rfl, hd64, hb⟩
                rw [← eq63] at hd64
                have Sq63 : Hid (Fz q63 205) := by show Fz q63 205; rw [eq63]; exact (Fz.add HZz1.out HZs.out)
                have Eq63 := Lib.hid eq63; clear eq63
                replace M := Lib.hid (And.intro hd64 (Goes.go M.out hb))
                clear hb hd64
                (try go_wp2_with fail)
                refine hK.out _ _ (⟨(show Row w12 bs (offs + k * 4) [su0, su1, su2, su3] from (RdL.row_ (M.out.2.2.2.2.2.1) HEs.out)).2 0 _ rfl, (show Row w12 bs (offs + k * 4) [su0, su1, su2, su3] from (RdL.row_ (M.out.2.2.2.2.2.1) HEs.out)).2 1 _ rfl, (show Row w12 bs (offs + k * 4) [su0, su1, su2, su3] from (RdL.row_ (M.out.2.2.2.2.2.1) HEs.out)).2 2 _ rfl, (show Row w12 bs (offs + k * 4) [su0, su1, su2, su3] from (RdL.row_ (M.out.2.2.2.2.2.1) HEs.out)).2 3 _ rfl⟩) (fun hH65 => ?_)
                clear hK K hH58
                (try simp only [Act.put, List.setIfInBounds_toArray, List.set_cons_zero, List.set_cons_succ])
                refine tk at6 ?_
                refine tk at7 ?_
                refine tk at8 ?_
                refine wpAnyH_ready (rs := [9]) (by kernel_rfl) (by simp) ?_
                refine AllReadyH.cons at9 (fun K hK => ?_) AllReadyH.nil
                have y0 := (M.out.2.1).c4; have p0_0 := y0.1; have q0_0 := y0.2.1; have p0_1 := y0.2.2.1; have q0_1 := y0.2.2.2.1; have p0_2 := y0.2.2.2.2.1; have q0_2 := y0.2.2.2.2.2.1; have p0_3 := y0.2.2.2.2.2.2.1; have q0_3 := y0.2.2.2.2.2.2.2; clear y0
                have ys_x_59 := TQ.st (M.out.1); have st_x_59 := ys_x_59.1; have st_x_60 := ys_x_59.2.1; have st_x_61 := ys_x_59.2.2.1; have st_x_62 := ys_x_59.2.2.2; clear ys_x_59
                go_simp
                clear p0_0 q0_0 p0_1 q0_1 p0_2 q0_2 p0_3 q0_3 st_x_59 st_x_60 st_x_61 st_x_62
                obtain ⟨w13, hv⟩ : ∃ w_ : World, w_ = ((((w12.setCell ⟨w5.heap.size, 0, none⟩ (x_59)).setCell ⟨w5.heap.size, 1, none⟩ (x_60)).setCell ⟨w5.heap.size, 2, none⟩ (x_61)).setCell ⟨w5.heap.size, 3, none⟩ (x_62)) := ⟨_, rfl⟩
                rw [← hv]
                have og : w12.grownBy w13 (some w5.heap.size) := by rw [hv]; exact (only_setCell (only_setCell (only_setCell (only_setCell (World.grownBy.refl _ _) _) _) _) _)
                have hz : w.heap.size ≤ w5.heap.size := by omega
                have hk : Bx w13 w5.heap.size 27 #[x_59, x_60, x_61, x_62] := by rw [hv]; exact (((((M.out.2.1).set 0 _).set 1 _).set 2 _).set 3 _)
                have hbw : Below w.heap.size w w13 := by rw [hv]; exact (Below.setCell (Below.setCell (Below.setCell (Below.setCell (M.out.2.2.2.2.2.2.2.2) (by omega) _) (by omega) _) (by omega) _) (by omega) _)
                replace M := Lib.hid (And.intro ((M.out.1).far (M.out.2.1) (by rfl) (by omega) og) (And.intro hk (And.intro ((M.out.2.2.1).only og (by omega)) (And.intro ((M.out.2.2.2.1).far (M.out.2.1) (by rfl) (by omega) og) (And.intro ((M.out.2.2.2.2.1).far (M.out.2.1) (by rfl) (by omega) og) (And.intro (RdL.farQ (M.out.2.2.2.2.2.1) (M.out.2.1) (fun b_ o_ h_ => (HBl_10.out b_ o_ h_).imp id (fun h2_ => by omega)) (by omega) og) (And.intro (RdL.farQ (M.out.2.2.2.2.2.2.1) (M.out.2.1) (fun b_ o_ h_ => (HBl_14.out b_ o_ h_).imp id (fun h2_ => by omega)) (by omega) og) (And.intro ((M.out.2.2.2.2.2.2.2.1).far (M.out.2.1) (by rfl) (by omega) og) hbw))))))))
                clear hk hbw og hv hz
                refine hK.out _ _ (⟨(show Row w13 bs (offs + k * 4) [su0, su1, su2, su3] from (RdL.row_ (M.out.2.2.2.2.2.1) HEs.out)).2 0 _ rfl, (show Row w13 bs (offs + k * 4) [su0, su1, su2, su3] from (RdL.row_ (M.out.2.2.2.2.2.1) HEs.out)).2 1 _ rfl, (show Row w13 bs (offs + k * 4) [su0, su1, su2, su3] from (RdL.row_ (M.out.2.2.2.2.2.1) HEs.out)).2 2 _ rfl, (show Row w13 bs (offs + k * 4) [su0, su1, su2, su3] from (RdL.row_ (M.out.2.2.2.2.2.1) HEs.out)).2 3 _ rfl⟩) (fun hH66 => ?_)
                clear hK K hH65
                (try simp only [Act.put, List.setIfInBounds_toArray, List.set_cons_zero, List.set_cons_succ])
                refine wpAnyH_done (by kernel_rfl) ?_ _
                clear hH66
                go_wp2_with fail
                obtain ⟨w14, hv⟩ : ∃ w_ : World, w_ = w13.drew := ⟨_, rfl⟩
                replace M := Lib.hid (Goes.go M.out (hv ▸ below_drew _ : Below w13.heap.size w13 w14))
                refine wp_region_held_drew (S := (fun w' => w'.cell? ⟨bt, offt + k * 4, none⟩ = some (tu0) ∧ w'.cell? ⟨bt, offt + k * 4 + 1, none⟩ = some (tu1) ∧ w'.cell? ⟨bt, offt + k * 4 + 2, none⟩ = some (tu2) ∧ w'.cell? ⟨bt, offt + k * 4 + 3, none⟩ = some (tu3))) (by kernel_rfl) (by rw [← hv]; exact ⟨(show Row w14 bt (offt + k * 4) [tu0, tu1, tu2, tu3] from (RdL.row_ (M.out.2.2.2.2.2.2.1) HEt.out)).2 0 _ rfl, (show Row w14 bt (offt + k * 4) [tu0, tu1, tu2, tu3] from (RdL.row_ (M.out.2.2.2.2.2.2.1) HEt.out)).2 1 _ rfl, (show Row w14 bt (offt + k * 4) [tu0, tu1, tu2, tu3] from (RdL.row_ (M.out.2.2.2.2.2.2.1) HEt.out)).2 2 _ rfl, (show Row w14 bt (offt + k * 4) [tu0, tu1, tu2, tu3] from (RdL.row_ (M.out.2.2.2.2.2.2.1) HEt.out)).2 3 _ rfl⟩) (fun hH73 => ?_)
                rw [← hv] at hH73 ⊢
                clear hv
                refine tk at1 ?_
                refine tk at2 ?_
                refine tk at3 ?_
                refine tk at4 ?_
                refine wpAnyH_ready (rs := [0]) (by kernel_rfl) (by simp) ?_
                refine AllReadyH.cons at0 (fun K hK => ?_) AllReadyH.nil
                have y1 := (M.out.2.2.1).d4; have p1_0 := y1.1; have p1_1 := y1.2.1; have p1_2 := y1.2.2.1; have p1_3 := y1.2.2.2; clear y1
                go_simp
                clear p1_0 p1_1 p1_2 p1_3
                refine hK.out _ _ (⟨(show Row w14 bt (offt + k * 4) [tu0, tu1, tu2, tu3] from (RdL.row_ (M.out.2.2.2.2.2.2.1) HEt.out)).2 0 _ rfl, (show Row w14 bt (offt + k * 4) [tu0, tu1, tu2, tu3] from (RdL.row_ (M.out.2.2.2.2.2.2.1) HEt.out)).2 1 _ rfl, (show Row w14 bt (offt + k * 4) [tu0, tu1, tu2, tu3] from (RdL.row_ (M.out.2.2.2.2.2.2.1) HEt.out)).2 2 _ rfl, (show Row w14 bt (offt + k * 4) [tu0, tu1, tu2, tu3] from (RdL.row_ (M.out.2.2.2.2.2.2.1) HEt.out)).2 3 _ rfl⟩) (fun hH74 => ?_)
                clear hK K hH73
                (try simp only [Act.put, List.setIfInBounds_toArray, List.set_cons_zero, List.set_cons_succ])
                refine wpAnyH_ready (rs := [5]) (by kernel_rfl) (by simp) ?_
                refine AllReadyH.cons at5 (fun K hK => ?_) AllReadyH.nil
                go_simp
                obtain ⟨q79, eq79⟩ : ∃ v_ : Rat, v_ = (zr + tq) := ⟨_, rfl⟩
                refine (fqAdd (G := G) (q := zr) (r := tq) (M.out.2.2.2.2.1) (show FQ G w14 tu0 tu1 tu2 tu3 tq from (RdL.oks (M.out.2.2.2.2.2.2.1) _ (List.mem_of_getElem? HEt.out))) (Fz.mono HZz2.out (by omega)) (Fz.mono HZt.out (by omega))).mono ?_
                rintro e w15 ⟨x_75, x_76, x_77, x_78, rfl, hd80, hb⟩
                rw [← eq79] at hd80
                have Sq79 : Hid (Fz q79 205) := by show Fz q79 205; rw [eq79]; exact (Fz.add HZz2.out HZt.out)
                have Eq79 := Lib.hid eq79; clear eq79
                replace M := Lib.hid (And.intro hd80 (Goes.go M.out hb))
                clear hb hd80
                (try go_wp2_with fail)
                refine hK.out _ _ (⟨(show Row w15 bt (offt + k * 4) [tu0, tu1, tu2, tu3] from (RdL.row_ (M.out.2.2.2.2.2.2.2.1) HEt.out)).2 0 _ rfl, (show Row w15 bt (offt + k * 4) [tu0, tu1, tu2, tu3] from (RdL.row_ (M.out.2.2.2.2.2.2.2.1) HEt.out)).2 1 _ rfl, (show Row w15 bt (offt + k * 4) [tu0, tu1, tu2, tu3] from (RdL.row_ (M.out.2.2.2.2.2.2.2.1) HEt.out)).2 2 _ rfl, (show Row w15 bt (offt + k * 4) [tu0, tu1, tu2, tu3] from (RdL.row_ (M.out.2.2.2.2.2.2.2.1) HEt.out)).2 3 _ rfl⟩) (fun hH81 => ?_)
                clear hK K hH74
                (try simp only [Act.put, List.setIfInBounds_toArray, List.set_cons_zero, List.set_cons_succ])
                refine tk at6 ?_
                refine tk at7 ?_
                refine tk at8 ?_
                refine wpAnyH_ready (rs := [9]) (by kernel_rfl) (by simp) ?_
                refine AllReadyH.cons at9 (fun K hK => ?_) AllReadyH.nil
                have y1 := (M.out.2.2.2.1).c4; have p1_0 := y1.1; have q1_0 := y1.2.1; have p1_1 := y1.2.2.1; have q1_1 := y1.2.2.2.1; have p1_2 := y1.2.2.2.2.1; have q1_2 := y1.2.2.2.2.2.1; have p1_3 := y1.2.2.2.2.2.2.1; have q1_3 := y1.2.2.2.2.2.2.2; clear y1
                have ys_x_75 := TQ.st (M.out.1); have st_x_75 := ys_x_75.1; have st_x_76 := ys_x_75.2.1; have st_x_77 := ys_x_75.2.2.1; have st_x_78 := ys_x_75.2.2.2; clear ys_x_75
                go_simp
                clear p1_0 q1_0 p1_1 q1_1 p1_2 q1_2 p1_3 q1_3 st_x_75 st_x_76 st_x_77 st_x_78
                obtain ⟨w16, hv⟩ : ∃ w_ : World, w_ = ((((w15.setCell ⟨w6.heap.size, 0, none⟩ (x_75)).setCell ⟨w6.heap.size, 1, none⟩ (x_76)).setCell ⟨w6.heap.size, 2, none⟩ (x_77)).setCell ⟨w6.heap.size, 3, none⟩ (x_78)) := ⟨_, rfl⟩
                rw [← hv]
                have og : w15.grownBy w16 (some w6.heap.size) := by rw [hv]; exact (only_setCell (only_setCell (only_setCell (only_setCell (World.grownBy.refl _ _) _) _) _) _)
                have hz : w.heap.size ≤ w6.heap.size := by omega
                have hk : Bx w16 w6.heap.size 27 #[x_75, x_76, x_77, x_78] := by rw [hv]; exact (((((M.out.2.2.2.1).set 0 _).set 1 _).set 2 _).set 3 _)
                have hbw : Below w.heap.size w w16 := by rw [hv]; exact (Below.setCell (Below.setCell (Below.setCell (Below.setCell (M.out.2.2.2.2.2.2.2.2.2) (by omega) _) (by omega) _) (by omega) _) (by omega) _)
                replace M := Lib.hid (And.intro ((M.out.1).far (M.out.2.2.2.1) (by rfl) (by omega) og) (And.intro ((M.out.2.1).far (M.out.2.2.2.1) (by rfl) (by omega) og) (And.intro ((M.out.2.2.1).only og (by omega)) (And.intro hk (And.intro ((M.out.2.2.2.2.1).far (M.out.2.2.2.1) (by rfl) (by omega) og) (And.intro ((M.out.2.2.2.2.2.1).far (M.out.2.2.2.1) (by rfl) (by omega) og) (And.intro (RdL.farQ (M.out.2.2.2.2.2.2.1) (M.out.2.2.2.1) (fun b_ o_ h_ => (HBl_10.out b_ o_ h_).imp id (fun h2_ => by omega)) (by omega) og) (And.intro (RdL.farQ (M.out.2.2.2.2.2.2.2.1) (M.out.2.2.2.1) (fun b_ o_ h_ => (HBl_14.out b_ o_ h_).imp id (fun h2_ => by omega)) (by omega) og) (And.intro ((M.out.2.2.2.2.2.2.2.2.1).far (M.out.2.2.2.1) (by rfl) (by omega) og) hbw)))))))))
                clear hk hbw og hv hz
                refine hK.out _ _ (⟨(show Row w16 bt (offt + k * 4) [tu0, tu1, tu2, tu3] from (RdL.row_ (M.out.2.2.2.2.2.2.2.1) HEt.out)).2 0 _ rfl, (show Row w16 bt (offt + k * 4) [tu0, tu1, tu2, tu3] from (RdL.row_ (M.out.2.2.2.2.2.2.2.1) HEt.out)).2 1 _ rfl, (show Row w16 bt (offt + k * 4) [tu0, tu1, tu2, tu3] from (RdL.row_ (M.out.2.2.2.2.2.2.2.1) HEt.out)).2 2 _ rfl, (show Row w16 bt (offt + k * 4) [tu0, tu1, tu2, tu3] from (RdL.row_ (M.out.2.2.2.2.2.2.2.1) HEt.out)).2 3 _ rfl⟩) (fun hH82 => ?_)
                clear hK K hH81
                (try simp only [Act.put, List.setIfInBounds_toArray, List.set_cons_zero, List.set_cons_succ])
                refine wpAnyH_done (by kernel_rfl) ?_ _
                clear hH82
                go_wp2_with fail
                go_roundw
                case rel => exact ⟨(k + 1), x_59, x_60, x_61, x_62, x_75, x_76, x_77, x_78, q63, q79, by go_num, (by show _ ≤ _; omega), (Lib.hid ⟨_, HEx.out, (by show xq = q63; rw [Eq63.out, HS.out, add_sub_q]), (by show xr = q79; rw [Eq79.out, HT.out, add_sub_q])⟩), Lib.hid (And.intro (M.out.2.2.1) (And.intro (M.out.2.2.2.1) (And.intro (M.out.2.1) (And.intro (M.out.1) (And.intro (M.out.2.2.2.2.2.2.1) (And.intro (M.out.2.2.2.2.2.2.2.1) (And.intro (M.out.2.2.2.2.2.2.2.2.1) (M.out.2.2.2.2.2.2.2.2.2))))))))⟩
                case measure => simp [RowKit.intOf] <;> omega
            ·
              have e1_0 : decide (k < p) = false := decide_eq_false (by omega)
              have e1_1 : decide ((k : Int) < (p : Int)) = false := decide_eq_false (by omega)
              have e1_i : ¬ (k : Int) < (p : Int) := by omega
              obtain ⟨zf_, hzf_, rfl, rfl⟩ := HX.out
              have HEz := Lib.hid hzf_
              clear hzf_
              obtain ⟨zk, zn, zu0, zu1, zu2, zu3, zq, zv0, zv1, zv2, zv3, zr⟩ := zf_
              dsimp only at HEz M HX
              have hz_ := HZ_3.out _ (List.mem_of_getElem? HEz.out)
              have HZz1 : Hid (Fz zq 3) := hz_.1
              have HZz2 : Hid (Fz zr 3) := hz_.2
              clear hz_
              have HLK : Hid (lastK (l.map SC.sh) key = some ⟨zk, zn, zq, zr⟩) := last_at hu6.out HEz.out (by rw [((M.out.2.2.2.2.2.2.1)).len]; omega)
              have HLE : Hid (zq ≤ zr) := (HOK.out.ok _ (lastK_mem HLK.out).1).2.2.2
              go_wp2_with fail
              refine (reLast_some (G := G) (key := key) (yk := zk) (yn := zn) (yq := zq) (yr := zr) (l := l) (Nat.le_trans hG (M.out.2.2.2.2.2.2.2).size) (HC0.out.keep (M.out.2.2.2.2.2.2.2)) HOK.out (fun x_ hx_ => ⟨(HZ3.out x_ hx_).1.mono (by omega), (HZ3.out x_ hx_).2.mono (by omega)⟩) HLK.out).mono ?_
              rintro e w9 ⟨x_83, x_84, x_85, x_86, x_87, x_88, x_89, x_90, rfl, hd91, hd92, hb⟩
              replace M := Lib.hid (And.intro hd91 (And.intro hd92 (Goes.go M.out hb)))
              clear hb hd91 hd92
              have ys_x_83 := TQ.st (M.out.1); have st_x_83 := ys_x_83.1; have st_x_84 := ys_x_83.2.1; have st_x_85 := ys_x_83.2.2.1; have st_x_86 := ys_x_83.2.2.2; clear ys_x_83
              have ys_x_87 := TQ.st (M.out.2.1); have st_x_87 := ys_x_87.1; have st_x_88 := ys_x_87.2.1; have st_x_89 := ys_x_87.2.2.1; have st_x_90 := ys_x_87.2.2.2; clear ys_x_87
              go_upto_region 20 with fail
              clear st_x_83 st_x_84 st_x_85 st_x_86 st_x_87 st_x_88 st_x_89 st_x_90
              obtain ⟨w10, hv⟩ : ∃ w_ : World, w_ = (w9.alloc (.cells #[.string zk, .int .i64 zn, x_83, x_84, x_85, x_86, x_87, x_88, x_89, x_90] 37)) := ⟨_, rfl⟩
              rw [← hv]
              have ow2_ : w6.heap.size < w9.heap.size := ((M.out.2.2.2.1)).lt
              replace M := Lib.hid (And.intro (hv ▸ bx1 w9 37 #[.string zk, .int .i64 zn, x_83, x_84, x_85, x_86, x_87, x_88, x_89, x_90]) (Goes.go M.out (hv ▸ below_alloc _ _ : Below w9.heap.size w9 w10)))
              clear hv
              have y2 := (M.out.1).d10; have p2_0 := y2.1; have p2_1 := y2.2.1; have p2_2 := y2.2.2.1; have p2_3 := y2.2.2.2.1; have p2_4 := y2.2.2.2.2.1; have p2_5 := y2.2.2.2.2.2.1; have p2_6 := y2.2.2.2.2.2.2.1; have p2_7 := y2.2.2.2.2.2.2.2.1; have p2_8 := y2.2.2.2.2.2.2.2.2.1; have p2_9 := y2.2.2.2.2.2.2.2.2.2; clear y2
              have y0 := (M.out.2.2.2.1).d4; have p0_0 := y0.1; have p0_1 := y0.2.1; have p0_2 := y0.2.2.1; have p0_3 := y0.2.2.2; clear y0
              go_wp2_with fail
              clear p2_0 p2_1 p2_2 p2_3 p2_4 p2_5 p2_6 p2_7 p2_8 p2_9 p0_0 p0_1 p0_2 p0_3
              refine (fsame_o (G := G) (o := (some zq)) (p := (some zq)) (b_ := true) (M.out.2.1) (M.out.2.2.2.2.2.1) (Oz.mono (Oz.some_ HZz1.out) (by omega)) (Oz.mono (Oz.some_ HZz1.out) (by omega)) (decide_eq_true rfl)).mono ?_
              rintro e w11 ⟨rfl, hb⟩
              replace M := Lib.hid (Goes.go M.out hb)
              clear hb
              have y2 := (M.out.1).d10; have p2_0 := y2.1; have p2_1 := y2.2.1; have p2_2 := y2.2.2.1; have p2_3 := y2.2.2.2.1; have p2_4 := y2.2.2.2.2.1; have p2_5 := y2.2.2.2.2.2.1; have p2_6 := y2.2.2.2.2.2.2.1; have p2_7 := y2.2.2.2.2.2.2.2.1; have p2_8 := y2.2.2.2.2.2.2.2.2.1; have p2_9 := y2.2.2.2.2.2.2.2.2.2; clear y2
              have y1 := (M.out.2.2.2.2.1).d4; have p1_0 := y1.1; have p1_1 := y1.2.1; have p1_2 := y1.2.2.1; have p1_3 := y1.2.2.2; clear y1
              go_wp2_with fail
              clear p2_0 p2_1 p2_2 p2_3 p2_4 p2_5 p2_6 p2_7 p2_8 p2_9 p1_0 p1_1 p1_2 p1_3
              refine (fsame_o (G := G) (o := (some zr)) (p := (some zr)) (b_ := true) (M.out.2.2.1) (M.out.2.2.2.2.2.2.1) (Oz.mono (Oz.some_ HZz2.out) (by omega)) (Oz.mono (Oz.some_ HZz2.out) (by omega)) (decide_eq_true rfl)).mono ?_
              rintro e w12 ⟨rfl, hb⟩
              replace M := Lib.hid (Goes.go M.out hb)
              clear hb
              have y2 := (M.out.1).d10; have p2_0 := y2.1; have p2_1 := y2.2.1; have p2_2 := y2.2.2.1; have p2_3 := y2.2.2.2.1; have p2_4 := y2.2.2.2.2.1; have p2_5 := y2.2.2.2.2.2.1; have p2_6 := y2.2.2.2.2.2.2.1; have p2_7 := y2.2.2.2.2.2.2.2.1; have p2_8 := y2.2.2.2.2.2.2.2.2.1; have p2_9 := y2.2.2.2.2.2.2.2.2.2; clear y2
              go_wp2_with fail
              clear p2_0 p2_1 p2_2 p2_3 p2_4 p2_5 p2_6 p2_7 p2_8 p2_9
              refine (spRight_q (G := G) (p := zq) (q := zr) (b_ := true) (M.out.2.1) (M.out.2.2.1) (Fz.mono HZz1.out (by omega)) (Fz.mono HZz2.out (by omega)) (decide_eq_true HLE.out)).mono ?_
              rintro e w13 ⟨rfl, hb⟩
              replace M := Lib.hid (Goes.go M.out hb)
              clear hb
              go_wp2_with fail
              go_ret
              exact ⟨rfl, (M.out.2.2.2.2.2.2.2.2.2.2)⟩
    | true =>
      go_wp2_with fail
      go_ret
      exact ⟨rfl, M.out⟩
end Go.Proofs.Ytlpcblhkddmlnaa
