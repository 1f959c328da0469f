/- StockTwice: whatever the arguments, it returns true. -/
import Derived.Test.YtgmngkbocpadaaaBase
import Derived.Test.YtgmngkbocpadaaaBigSpec
import Derived.Test.YtgmngkbocpadaaaBigB
import Derived.Test.YtgmngkbocpadaaaBigC
import Derived.Test.YtgmngkbocpadaaaBigD
import Derived.Test.YtgmngkbocpadaaaBigK
import Derived.Test.YtgmngkbocpadaaaBigL
import Derived.Test.YtgmngkbocpadaaaBigQ
import Derived.Test.YtgmngkbocpadaaaFracA
import Derived.Test.YtgmngkbocpadaaaFz
import Derived.Test.YtgmngkbocpadaaaHeld
import Derived.Test.YtgmngkbocpadaaaAw
import Derived.Test.YtgmngkbocpadaaaFracR
import Derived.Test.YtgmngkbocpadaaaRefF
import Derived.Test.YtgmngkbocpadaaaRw
import Derived.Test.YtgmngkbocpadaaaStockPlain
import Derived.Test.YtgmngkbocpadaaaStB
import Derived.Test.YtgmngkbocpadaaaStH
import Derived.Test.YtgmngkbocpadaaaStI
import Derived.Test.YtgmngkbocpadaaaLawKeeps
import Derived.Test.YtgmngkbocpadaaaProg
import Derived.Test.YtgmngkbocpadaaaShelf
import Derived.WalkKit
import Derived.WalkSpells
import Derived.WalkLawsBesides
import Derived.Handy
import Derived.Lib.Hide
import Derived.Lib.Strings
import Derived.Lib.Builder
import Derived.BigQuiet
import Derived.OwnWalk
import Derived.Laws.BitsLemmas
import Derived.WalkSmall
import Derived.Deep.QuietTactic
import Derived.StillTailTactics
import Derived.Maps.AppendAt
import Derived.IntWalk
import Derived.Deep.RegionHeld3
import Derived.Deep.DeepFit
import Derived.Deep.LoopGhost
import Derived.Deep.DeepCutAuto
import Derived.Lib.ItoaNum
import Derived.Lib.Repeat
import Derived.Lib.AppendIntMem
import Derived.Sort.OwnSorted
import Derived.Shelf.Strings.SlTrimAscii
import Derived.Lib.ConvBytes
import Derived.Lib.CutLaws
namespace Go.Proofs.Ytgmngkbocpadaaa
open Go.RowKit
variable {G : Nat}

set_option maxHeartbeats 4000000 in
theorem cloneS {B : Nat} {l : List LC} {ad : Addr} {n c : Nat} {w : World} (hG : G ≤ B) (hB : B ≤ w.heap.size) (hl : l.length = n) (hn : n ≤ 1000000)
    (hk : ∀ (j : Nat) (u : Value), (l.flatMap El.cells)[j]? = some u → (w.alloc (.cells #[] 48)).cell? (ad.add j) = some u) (ho : ∀ x ∈ l, El.ok G w x) :
    Calls Try.prog 23 #[.slice (some ad) n c] w fun e w' => ∃ v, e = .returned v ∧ OwV G B w' v l ∧ Below w.heap.size w w' := by
  have heq : ∀ w : World, (binOp BinOp.eql 22 (Value.slice (some ad) n c) (Value.slice none 0 0)).run Try.prog w = .ok (.bool false) w := fun w => Lib.run_eql_slice_nil w 22 48 (some ad) _ _ _ _ Try.underlying22
  have HK := Lib.hid hk; have HO := Lib.hid ho; clear hk ho
  go_enter Try.func23, Try.ntmps23
  have h0 : (w.alloc (.cells #[] 48)).ownsRow w.heap.size (El.T LC) (El.sz LC) (.slice (some ⟨w.heap.size, 0, none⟩) 0 0) ([] : List LC).length (([] : List LC).flatMap El.cells) := World.ownsRow_lit w #[] 0 (Nat.le_refl _) (by unfold maxLen; omega) rfl
  have H0 := Lib.hid h0; clear h0
  have HL := Lib.hid hl; clear hl
  have HW := Lib.hid ((Below.refl w.heap.size w).alloc (Nat.le_refl _) (.cells #[] 48))
  go_wp2_with (at_builtin; go_must (refine wpList_appendE rfl _ _ elemLy rfl (w.alloc (.cells #[] 48)) w.heap.size (.slice (some ⟨w.heap.size, 0, none⟩) 0 0) ([] : List LC) rfl H0.out ad n c l rfl HL.out HK.out (fun x hx => El.one (HO.out x hx)) (by simp; omega) (by simp; omega) (by simp) ?_; intro v' w1 ho hg hb))
  have ho2 : ∀ x ∈ l, El.ok G w1 x := fun x hx => El.grown (El.keep (HO.out x hx) HW.out) H0.out (by rfl) (Nat.le_trans hG hB) hg
  rw [List.nil_append] at ho
  go_ret
  exact ⟨v', rfl, ⟨hG, own_mono ho hB, ho2⟩, HW.out.trans hb⟩
theorem cloneV {B : Nat} {l : List LC} {a : Option Addr} {n c : Nat} {w : World} (hG : G ≤ B) (hB : B ≤ w.heap.size) (h : RdC G w a n c l) (hn : n ≤ 1000000) :
    Calls Try.prog 23 #[.slice a n c] w fun e w' => ∃ v, e = .returned v ∧ OwV G B w' v l ∧ Below w.heap.size w w' := by
  rcases h.cases with ⟨rfl, rfl⟩ | ⟨b, off, rfl, h0, hl, hc, hb⟩
  · cases a with
    | none =>
      have heq : ∀ w : World, (binOp BinOp.eql 22 (Value.slice none 0 c) (Value.slice none 0 0)).run Try.prog w = .ok (.bool true) w := fun w => Lib.run_eql_slice_nil w 22 48 none _ _ _ _ Try.underlying22
      go_enter Try.func23, Try.ntmps23
      go_wp2_with fail
      go_ret
      exact ⟨_, rfl, OwV.nil _ hG, Below.refl _ _⟩
    | some ad => exact cloneS hG hB rfl hn (fun j u hj => by simp at hj) (fun x hx => by simp at hx)
  · have hk := (hb.keep (below_alloc w (.cells #[] 48))).flat
    exact cloneS hG hB hl hn (fun j u hj => by rw [add_off]; exact hk j u hj) hb.oks
end Go.Proofs.Ytgmngkbocpadaaa
namespace Go.Proofs.Ytgmngkbocpadaaa
open Go.RowKit Go.Lib
variable {G : Nat}

theorem fx_z0 (w : World) : FX w (.int .i64 0) (.slice none 0 0) (.int .i64 0) (.slice none 0 0) 0 0 none :=
  ⟨0, none, 0, 0, none, 0, [], [], rfl, rfl, rfl, rfl, rfl, rfl, ⟨rdZ_nil _ _ _, rdZ_nil _ _ _, Nat.zero_le _, Nat.zero_le _⟩, .inl ⟨rfl, rfl⟩⟩
set_option maxRecDepth 100000 in
set_option maxHeartbeats 4000000 in
theorem fqAdd_z {u0 u1 u2 u3 : Value} {q : Rat} {w : World} (_hG : G ≤ w.heap.size) (h1 : FQ G w u0 u1 u2 u3 q) (hx : Fz q 100000000000) :
    Calls Try.prog 12 #[.agg #[u0, u1, u2, u3], .agg #[.int .i64 0, .slice none 0 0, .int .i64 0, .slice none 0 0]] w fun e w' => e = .returned (.tuple #[.agg #[.int .i64 0, .slice none 0 0, .int .i64 0, .slice none 0 0], .int .i64 1]) ∧ Below w.heap.size w w' := by
  have HX := Lib.hid hx; clear hx
  have H1 : Hid (FQ G w u0 u1 u2 u3 q) := h1
  clear h1
  have M : Hid (Below w.heap.size w w) := Below.refl _ _
  go_enter Try.func12, Try.ntmps12
  go_upto_region 1 with fail
  obtain ⟨w1, hv⟩ : ∃ w_ : World, w_ = (((w.alloc (.cells #[u0, u1, u2, u3] 29)).alloc (.cells #[.int .i64 0, .slice none 0 0, .int .i64 0, .slice none 0 0] 29)).alloc (.cells #[.int .i64 0, .slice none 0 0, .int .i64 0, .slice none 0 0] 29)) := ⟨_, rfl⟩
  rw [← hv]
  have hbx := bx3 w 29 29 29 #[u0, u1, u2, u3] #[.int .i64 0, .slice none 0 0, .int .i64 0, .slice none 0 0] #[.int .i64 0, .slice none 0 0, .int .i64 0, .slice none 0 0]
  rw [← hv] at hbx
  have hbn : Below w.heap.size w w1 := by rw [hv]; exact (Below.alloc (Below.alloc (Below.alloc (Below.refl _ _) (by simp <;> omega) _) (by simp <;> omega) _) (by simp <;> omega) _)
  replace M := Lib.hid (And.intro hbx.2.2 (And.intro hbx.2.1 (And.intro hbx.1 (Goes.go M.out hbn))))
  clear hbx hbn
  clear hv
  have y0 := (M.out.2.2.1).d4; have p0_0 := y0.1; have p0_1 := y0.2.1; have p0_2 := y0.2.2.1; have p0_3 := y0.2.2.2; clear y0
  go_wp2_with fail
  clear p0_0 p0_1 p0_2 p0_3
  refine (fqRight (G := G) (q := q) (H1.out.keep (M.out.2.2.2)) (Fz.mono HX.out (by omega))).mono ?_
  rintro e w2 ⟨rfl, hb⟩
  replace M := Lib.hid (Goes.go M.out hb)
  clear hb
  have y1 := (M.out.2.1).d4; have p1_0 := y1.1; have p1_1 := y1.2.1; have p1_2 := y1.2.2.1; have p1_3 := y1.2.2.2; clear y1
  go_wp2_with fail
  clear p1_0 p1_1 p1_2 p1_3
  refine (fxRight_ok (o := none) (b_ := false) (fx_z0 _) (by decide) (by decide) rfl).mono ?_
  rintro e w3 ⟨rfl, hb⟩
  replace M := Lib.hid (Goes.go M.out hb)
  clear hb
  have y2 := (M.out.1).c4; have p2_0 := y2.1; have q2_0 := y2.2.1; have p2_1 := y2.2.2.1; have q2_1 := y2.2.2.2.1; have p2_2 := y2.2.2.2.2.1; have q2_2 := y2.2.2.2.2.2.1; have p2_3 := y2.2.2.2.2.2.2.1; have q2_3 := y2.2.2.2.2.2.2.2; clear y2
  go_wp2_with fail
  clear p2_0 q2_0 p2_1 q2_1 p2_2 q2_2 p2_3 q2_3
  obtain ⟨w4, hv⟩ : ∃ w_ : World, w_ = ((((w3.setCell ⟨w.heap.size + 1 + 1, 0, none⟩ (.int .i64 0)).setCell ⟨w.heap.size + 1 + 1, 1, none⟩ (.slice none 0 0)).setCell ⟨w.heap.size + 1 + 1, 2, none⟩ (.int .i64 0)).setCell ⟨w.heap.size + 1 + 1, 3, none⟩ (.slice none 0 0)) := ⟨_, rfl⟩
  rw [← hv]
  have og : w3.grownBy w4 (some (w.heap.size + 1 + 1)) := by rw [hv]; exact (only_setCell (only_setCell (only_setCell (only_setCell (World.grownBy.refl _ _) _) _) _) _)
  have hz : w.heap.size ≤ w.heap.size + 1 + 1 := by omega
  have hk : Bx w4 (w.heap.size + 1 + 1) 29 #[.int .i64 0, .slice none 0 0, .int .i64 0, .slice none 0 0] := by rw [hv]; exact (((((M.out.1).set 0 _).set 1 _).set 2 _).set 3 _)
  have hbw : Below w.heap.size w w4 := by rw [hv]; exact (Below.setCell (Below.setCell (Below.setCell (Below.setCell (M.out.2.2.2) (by omega) _) (by omega) _) (by omega) _) (by omega) _)
  replace M := Lib.hid (And.intro hk (And.intro ((M.out.2.1).only og (by omega)) (And.intro ((M.out.2.2.1).only og (by omega)) hbw)))
  clear hk hbw og hv hz
  refine bodyPost_ret (results_box2 rfl _ _ (w.heap.size + 1 + 1) 29 _ _ _ rfl (M.out.1) Try.underlying29 rfl (by kernel_rfl)) rfl ?_
  exact ⟨rfl, (M.out.2.2.2)⟩
set_option maxRecDepth 100000 in
set_option maxHeartbeats 4000000 in
theorem put_arg {l : List LC} {a : Option Addr} {n c : Nat} {am0 : Int} {u0 u1 u2 u3 : Value} {w : World} (hG : G ≤ w.heap.size) (h : RdC G w a n c l) (ok : OkC l) (hz : FzL l 100000000) {x y : Nat} (h1 : FX w u0 u1 u2 u3 x y none) (hx : x ≤ 3 ∧ y ≤ 3) :
    Calls Try.prog 18 #[.slice a n c, .int .i64 am0, .agg #[u0, u1, u2, u3]] w fun e w' => e = .returned (.tuple #[.slice none 0 0, .int .i64 1]) ∧ Below w.heap.size w w' := by
  have hx1 := hx.1
  have hx2 := hx.2
  have hn : n ≤ 200 := by rw [← h.len]; exact ok.len
  have HOK := Lib.hid ok; have HZ := Lib.hid hz; clear ok hz
  have HL : Hid (RdC G w a n c l) := h
  have H1 : Hid (FX w u0 u1 u2 u3 x y none) := h1
  clear h h1
  have M : Hid (Below w.heap.size w w) := Below.refl _ _
  go_enter Try.func18, Try.ntmps18
  go_upto_region 1 with fail
  obtain ⟨w1, hv⟩ : ∃ w_ : World, w_ = (w.alloc (.cells #[u0, u1, u2, u3] 29)) := ⟨_, rfl⟩
  rw [← hv]
  replace M := Lib.hid (And.intro (hv ▸ bx1 w 29 #[u0, u1, u2, u3]) (Goes.go M.out (hv ▸ below_alloc _ _ : Below w.heap.size w w1)))
  clear hv
  go_wp2_with fail
  refine (stRight_c (G := G) (l := l) (Nat.le_trans hG (M.out.2).size) (HL.out.keep (M.out.2)) HOK.out HZ.out).mono ?_
  rintro e w2 ⟨rfl, hb⟩
  replace M := Lib.hid (Goes.go M.out hb)
  clear hb
  have y0 := (M.out.1).d4; have p0_0 := y0.1; have p0_1 := y0.2.1; have p0_2 := y0.2.2.1; have p0_3 := y0.2.2.2; clear y0
  go_wp2_with fail
  clear p0_0 p0_1 p0_2 p0_3
  refine (fxRight_ok (o := none) (b_ := false) (H1.out.keep (M.out.2)) (by omega) (by omega) rfl).mono ?_
  rintro e w3 ⟨rfl, hb⟩
  replace M := Lib.hid (Goes.go M.out hb)
  clear hb
  go_wp2_with fail
  go_ret2
  exact ⟨rfl, (M.out.2)⟩
set_option maxRecDepth 100000 in
set_option maxHeartbeats 4000000 in
theorem put_range {l : List LC} {a : Option Addr} {n c : Nat} {am0 : Int} {u0 u1 u2 u3 : Value} {w : World} (hG : G ≤ w.heap.size) (h : RdC G w a n c l) (ok : OkC l) (hz : FzL l 100000000) {q : Rat} (h1 : FQ G w u0 u1 u2 u3 q) (hq : Fz q 100000000) (_ha0 : 1 ≤ am0) (_ha1 : am0 ≤ 1099511627776) (hs : q < 0) :
    Calls Try.prog 18 #[.slice a n c, .int .i64 am0, .agg #[u0, u1, u2, u3]] w fun e w' => e = .returned (.tuple #[.slice none 0 0, .int .i64 3]) ∧ Below w.heap.size w w' := by
  have HQ := Lib.hid hq
  obtain ⟨sx, hsx⟩ : ∃ s, sg (nu q) = s := ⟨_, rfl⟩
  have hs5 : sx < 0 := by rw [← hsx, sg_lt]; exact hs
  have e5 : decide (sx < 0) = true := decide_eq_true hs5
  have HSX := Lib.hid hsx; clear hsx hs hq
  have e3 : decide (am0 < 1) = false := decide_eq_false (by omega)
  have e3i : ¬ am0 < 1 := by omega
  have e4 : decide (1099511627776 < am0) = false := decide_eq_false (by omega)
  have e4i : ¬ 1099511627776 < am0 := by omega
  have hn : n ≤ 200 := by rw [← h.len]; exact ok.len
  have HOK := Lib.hid ok; have HZ := Lib.hid hz; clear ok hz
  have HL : Hid (RdC G w a n c l) := h
  have H1 : Hid (FQ G w u0 u1 u2 u3 q) := h1
  clear h h1
  have M : Hid (Below w.heap.size w w) := Below.refl _ _
  go_enter Try.func18, Try.ntmps18
  go_upto_region 1 with fail
  obtain ⟨w1, hv⟩ : ∃ w_ : World, w_ = (w.alloc (.cells #[u0, u1, u2, u3] 29)) := ⟨_, rfl⟩
  rw [← hv]
  replace M := Lib.hid (And.intro (hv ▸ bx1 w 29 #[u0, u1, u2, u3]) (Goes.go M.out (hv ▸ below_alloc _ _ : Below w.heap.size w w1)))
  clear hv
  go_wp2_with fail
  refine (stRight_c (G := G) (l := l) (Nat.le_trans hG (M.out.2).size) (HL.out.keep (M.out.2)) HOK.out HZ.out).mono ?_
  rintro e w2 ⟨rfl, hb⟩
  replace M := Lib.hid (Goes.go M.out hb)
  clear hb
  have y0 := (M.out.1).d4; have p0_0 := y0.1; have p0_1 := y0.2.1; have p0_2 := y0.2.2.1; have p0_3 := y0.2.2.2; clear y0
  go_wp2_with fail
  clear p0_0 p0_1 p0_2 p0_3
  refine (fqRight (G := G) (q := q) (H1.out.keep (M.out.2)) (Fz.mono HQ.out (by omega))).mono ?_
  rintro e w3 ⟨rfl, hb⟩
  replace M := Lib.hid (Goes.go M.out hb)
  clear hb
  have y0 := (M.out.1).d4; have p0_0 := y0.1; have p0_1 := y0.2.1; have p0_2 := y0.2.2.1; have p0_3 := y0.2.2.2; clear y0
  go_wp2_with fail
  clear p0_0 p0_1 p0_2 p0_3
  refine (fqSign (G := G) (q := q) (k := sx) (Nat.le_trans hG (M.out.2).size) (H1.out.keep (M.out.2)) (Fz.mono HQ.out (by omega)) HSX.out).mono ?_
  rintro e w4 ⟨rfl, hb⟩
  replace M := Lib.hid (Goes.go M.out hb)
  clear hb
  go_wp2_with fail
  go_ret2
  exact ⟨rfl, (M.out.2)⟩
set_option maxRecDepth 100000 in
set_option maxHeartbeats 4000000 in
theorem put_full {l : List LC} {a : Option Addr} {n c : Nat} {am0 : Int} {u0 u1 u2 u3 : Value} {w : World} (hG : G ≤ w.heap.size) (h : RdC G w a n c l) (ok : OkC l) (hz : FzL l 100000000) {q : Rat} (h1 : FQ G w u0 u1 u2 u3 q) (hq : Fz q 100000000) (_h20 : n ≤ 20) (_ha0 : 1 ≤ am0) (_ha1 : am0 ≤ 1099511627776) (hs : 0 ≤ q) (hf : 1099511627776 - sumN (l.map LC.ly) < am0) :
    Calls Try.prog 18 #[.slice a n c, .int .i64 am0, .agg #[u0, u1, u2, u3]] w fun e w' => e = .returned (.tuple #[.slice none 0 0, .int .i64 6]) ∧ Below w.heap.size w w' := by
  have HQ := Lib.hid hq
  obtain ⟨sx, hsx⟩ : ∃ s, sg (nu q) = s := ⟨_, rfl⟩
  have hs5 := sg_ge hsx hs
  have e5 : decide (sx < 0) = false := decide_eq_false hs5
  have HSX := Lib.hid hsx; clear hsx hs hq
  obtain ⟨N0, hN0⟩ : ∃ N, sumN (l.map LC.ly) = N := ⟨_, rfl⟩
  have hnn0 : 0 ≤ N0 := by rw [← hN0]; exact ok.drop 0
  have hnn1 : N0 ≤ 1099511627776 := by rw [← hN0]; exact ok.sum
  rw [hN0] at hf
  have HN0 := Lib.hid hN0; clear hN0
  have e3 : decide (am0 < 1) = false := decide_eq_false (by omega)
  have e3i : ¬ am0 < 1 := by omega
  have e4 : decide (1099511627776 < am0) = false := decide_eq_false (by omega)
  have e4i : ¬ 1099511627776 < am0 := by omega
  have e7 : decide ((1099511627776 - N0) < am0) = true := decide_eq_true (by omega)
  have e7i : (1099511627776 - N0) < am0 := by omega
  have en1 : ((n : Int) == 200) = false := beq_false_of_ne (by omega)
  have en2 : (n == 200) = false := beq_false_of_ne (by omega)
  have en3 : ¬ (n : Int) = 200 := by omega
  have en4 : ¬ n = 200 := by omega
  have hn : n ≤ 200 := by rw [← h.len]; exact ok.len
  have HOK := Lib.hid ok; have HZ := Lib.hid hz; clear ok hz
  have HL : Hid (RdC G w a n c l) := h
  have H1 : Hid (FQ G w u0 u1 u2 u3 q) := h1
  clear h h1
  have M : Hid (Below w.heap.size w w) := Below.refl _ _
  go_enter Try.func18, Try.ntmps18
  go_upto_region 1 with fail
  obtain ⟨w1, hv⟩ : ∃ w_ : World, w_ = (w.alloc (.cells #[u0, u1, u2, u3] 29)) := ⟨_, rfl⟩
  rw [← hv]
  replace M := Lib.hid (And.intro (hv ▸ bx1 w 29 #[u0, u1, u2, u3]) (Goes.go M.out (hv ▸ below_alloc _ _ : Below w.heap.size w w1)))
  clear hv
  go_wp2_with fail
  refine (stRight_c (G := G) (l := l) (Nat.le_trans hG (M.out.2).size) (HL.out.keep (M.out.2)) HOK.out HZ.out).mono ?_
  rintro e w2 ⟨rfl, hb⟩
  replace M := Lib.hid (Goes.go M.out hb)
  clear hb
  have y0 := (M.out.1).d4; have p0_0 := y0.1; have p0_1 := y0.2.1; have p0_2 := y0.2.2.1; have p0_3 := y0.2.2.2; clear y0
  go_wp2_with fail
  clear p0_0 p0_1 p0_2 p0_3
  refine (fqRight (G := G) (q := q) (H1.out.keep (M.out.2)) (Fz.mono HQ.out (by omega))).mono ?_
  rintro e w3 ⟨rfl, hb⟩
  replace M := Lib.hid (Goes.go M.out hb)
  clear hb
  have y0 := (M.out.1).d4; have p0_0 := y0.1; have p0_1 := y0.2.1; have p0_2 := y0.2.2.1; have p0_3 := y0.2.2.2; clear y0
  go_wp2_with fail
  clear p0_0 p0_1 p0_2 p0_3
  refine (fqSign (G := G) (q := q) (k := sx) (Nat.le_trans hG (M.out.2).size) (H1.out.keep (M.out.2)) (Fz.mono HQ.out (by omega)) HSX.out).mono ?_
  rintro e w4 ⟨rfl, hb⟩
  replace M := Lib.hid (Goes.go M.out hb)
  clear hb
  go_wp2_with fail
  obtain ⟨q5, eq5⟩ : ∃ v_ : Rat, v_ = (sumB (l.map LC.ly)) := ⟨_, rfl⟩
  refine (stTotal_is (G := G) (N := N0) (l := l) (Nat.le_trans hG (M.out.2).size) (HL.out.keep (M.out.2)) HOK.out HZ.out HN0.out).mono ?_
  rintro e w5 ⟨x_1, x_2, x_3, x_4, rfl, hd6, hb⟩
  rw [← eq5] at hd6
  have Eq5 := Lib.hid eq5; clear eq5
  replace M := Lib.hid (And.intro hd6 (Goes.go M.out hb))
  clear hb hd6
  have ys_x_1 := TQ.st (M.out.1); have st_x_1 := ys_x_1.1; have st_x_2 := ys_x_1.2.1; have st_x_3 := ys_x_1.2.2.1; have st_x_4 := ys_x_1.2.2.2; clear ys_x_1
  go_upto_region 6 with fail
  clear st_x_1 st_x_2 st_x_3 st_x_4
  obtain ⟨w6, hv⟩ : ∃ w_ : World, w_ = (w5.alloc (.cells #[x_1, x_2, x_3, x_4] 29)) := ⟨_, rfl⟩
  rw [← hv]
  have ow1_ : w.heap.size < w5.heap.size := ((M.out.2.1)).lt
  replace M := Lib.hid (And.intro (hv ▸ bx1 w5 29 #[x_1, x_2, x_3, x_4]) (Goes.go M.out (hv ▸ below_alloc _ _ : Below w5.heap.size w5 w6)))
  clear hv
  go_wp2_with fail
  go_ret2
  exact ⟨rfl, (M.out.2.2.2)⟩
set_option maxRecDepth 100000 in
set_option maxHeartbeats 4000000 in
theorem put_ok {l : List LC} {a : Option Addr} {n c : Nat} {am0 : Int} {u0 u1 u2 u3 : Value} {w : World} (hG : G ≤ w.heap.size) (h : RdC G w a n c l) (ok : OkC l) (hz : FzL l 100000000) {q : Rat} (h1 : FQ G w u0 u1 u2 u3 q) (hq : Fz q 100000000) (_h20 : n ≤ 20) (_ha0 : 1 ≤ am0) (_ha1 : am0 ≤ 1099511627776) (hs : 0 ≤ q) (hf : am0 ≤ 1099511627776 - sumN (l.map LC.ly)) :
    Calls Try.prog 18 #[.slice a n c, .int .i64 am0, .agg #[u0, u1, u2, u3]] w fun e w' => ∃ a2 c2 l2, e = .returned (.tuple #[.slice a2 (n + 1) c2, .int .i64 0]) ∧ RdC G w' a2 (n + 1) c2 l2 ∧ l2.map LC.ly = l.map LC.ly ++ [⟨am0, q⟩] ∧ Below w.heap.size w w' := by
  have HQ := Lib.hid hq
  obtain ⟨sx, hsx⟩ : ∃ s, sg (nu q) = s := ⟨_, rfl⟩
  have hs5 := sg_ge hsx hs
  have e5 : decide (sx < 0) = false := decide_eq_false hs5
  have HSX := Lib.hid hsx; clear hsx hs hq
  obtain ⟨N0, hN0⟩ : ∃ N, sumN (l.map LC.ly) = N := ⟨_, rfl⟩
  have hnn0 : 0 ≤ N0 := by rw [← hN0]; exact ok.drop 0
  have hnn1 : N0 ≤ 1099511627776 := by rw [← hN0]; exact ok.sum
  rw [hN0] at hf
  have HN0 := Lib.hid hN0; clear hN0
  have e3 : decide (am0 < 1) = false := decide_eq_false (by omega)
  have e3i : ¬ am0 < 1 := by omega
  have e4 : decide (1099511627776 < am0) = false := decide_eq_false (by omega)
  have e4i : ¬ 1099511627776 < am0 := by omega
  have e7 : decide ((1099511627776 - N0) < am0) = false := decide_eq_false (by omega)
  have e7i : ¬ (1099511627776 - N0) < am0 := by omega
  have en1 : ((n : Int) == 200) = false := beq_false_of_ne (by omega)
  have en2 : (n == 200) = false := beq_false_of_ne (by omega)
  have en3 : ¬ (n : Int) = 200 := by omega
  have en4 : ¬ n = 200 := by omega
  have hn : n ≤ 200 := by rw [← h.len]; exact ok.len
  have HOK := Lib.hid ok; have HZ := Lib.hid hz; clear ok hz
  have HL : Hid (RdC G w a n c l) := h
  have H1 : Hid (FQ G w u0 u1 u2 u3 q) := h1
  clear h h1
  have M : Hid (Below w.heap.size w w) := Below.refl _ _
  go_enter Try.func18, Try.ntmps18
  go_upto_region 1 with fail
  obtain ⟨w1, hv⟩ : ∃ w_ : World, w_ = (w.alloc (.cells #[u0, u1, u2, u3] 29)) := ⟨_, rfl⟩
  rw [← hv]
  replace M := Lib.hid (And.intro (hv ▸ bx1 w 29 #[u0, u1, u2, u3]) (Goes.go M.out (hv ▸ below_alloc _ _ : Below w.heap.size w w1)))
  clear hv
  go_wp2_with fail
  refine (stRight_c (G := G) (l := l) (Nat.le_trans hG (M.out.2).size) (HL.out.keep (M.out.2)) HOK.out HZ.out).mono ?_
  rintro e w2 ⟨rfl, hb⟩
  replace M := Lib.hid (Goes.go M.out hb)
  clear hb
  have y0 := (M.out.1).d4; have p0_0 := y0.1; have p0_1 := y0.2.1; have p0_2 := y0.2.2.1; have p0_3 := y0.2.2.2; clear y0
  go_wp2_with fail
  clear p0_0 p0_1 p0_2 p0_3
  refine (fqRight (G := G) (q := q) (H1.out.keep (M.out.2)) (Fz.mono HQ.out (by omega))).mono ?_
  rintro e w3 ⟨rfl, hb⟩
  replace M := Lib.hid (Goes.go M.out hb)
  clear hb
  have y0 := (M.out.1).d4; have p0_0 := y0.1; have p0_1 := y0.2.1; have p0_2 := y0.2.2.1; have p0_3 := y0.2.2.2; clear y0
  go_wp2_with fail
  clear p0_0 p0_1 p0_2 p0_3
  refine (fqSign (G := G) (q := q) (k := sx) (Nat.le_trans hG (M.out.2).size) (H1.out.keep (M.out.2)) (Fz.mono HQ.out (by omega)) HSX.out).mono ?_
  rintro e w4 ⟨rfl, hb⟩
  replace M := Lib.hid (Goes.go M.out hb)
  clear hb
  go_wp2_with fail
  obtain ⟨q5, eq5⟩ : ∃ v_ : Rat, v_ = (sumB (l.map LC.ly)) := ⟨_, rfl⟩
  refine (stTotal_is (G := G) (N := N0) (l := l) (Nat.le_trans hG (M.out.2).size) (HL.out.keep (M.out.2)) HOK.out HZ.out HN0.out).mono ?_
  rintro e w5 ⟨x_1, x_2, x_3, x_4, rfl, hd6, hb⟩
  rw [← eq5] at hd6
  have Eq5 := Lib.hid eq5; clear eq5
  replace M := Lib.hid (And.intro hd6 (Goes.go M.out hb))
  clear hb hd6
  have ys_x_1 := TQ.st (M.out.1); have st_x_1 := ys_x_1.1; have st_x_2 := ys_x_1.2.1; have st_x_3 := ys_x_1.2.2.1; have st_x_4 := ys_x_1.2.2.2; clear ys_x_1
  go_upto_region 6 with fail
  clear st_x_1 st_x_2 st_x_3 st_x_4
  obtain ⟨w6, hv⟩ : ∃ w_ : World, w_ = (w5.alloc (.cells #[x_1, x_2, x_3, x_4] 29)) := ⟨_, rfl⟩
  rw [← hv]
  have ow1_ : w.heap.size < w5.heap.size := ((M.out.2.1)).lt
  replace M := Lib.hid (And.intro (hv ▸ bx1 w5 29 #[x_1, x_2, x_3, x_4]) (Goes.go M.out (hv ▸ below_alloc _ _ : Below w5.heap.size w5 w6)))
  clear hv
  go_wp2_with fail
  obtain ⟨w7, hv⟩ : ∃ w_ : World, w_ = w6.drew := ⟨_, rfl⟩
  replace M := Lib.hid (Goes.go M.out (hv ▸ below_drew _ : Below w6.heap.size w6 w7))
  refine wp_region_held_drew (S := (fun w' => w'.cell? ⟨w.heap.size, 0, none⟩ = some (u0) ∧ w'.cell? ⟨w.heap.size, 1, none⟩ = some (u1) ∧ w'.cell? ⟨w.heap.size, 2, none⟩ = some (u2) ∧ w'.cell? ⟨w.heap.size, 3, none⟩ = some (u3))) (by kernel_rfl) (by rw [← hv]; exact ⟨(M.out.2.2.1).at.1 0, (M.out.2.2.1).at.1 1, (M.out.2.2.1).at.1 2, (M.out.2.2.1).at.1 3⟩) (fun hH9 => ?_)
  rw [← hv] at hH9 ⊢
  clear hv
  refine tk at0 ?_
  refine tk at2 ?_
  refine tk at3 ?_
  refine tk at4 ?_
  refine wpAnyH_ready (rs := [1, 5]) (by kernel_rfl) (by simp) ?_
  refine AllReadyH.cons at1 (fun K hK => ?_) ?_
  ·
    go_simp
    refine (cloneV (G := G) (l := l) hG (M.out.2.2.2).size (HL.out.keep (M.out.2.2.2)) (by omega)).mono ?_
    rintro e w8 ⟨v_10, rfl, hd11, hb⟩
    replace M := Lib.hid (And.intro hd11 (Goes.go M.out hb))
    clear hb hd11
    (try go_wp2_with fail)
    refine hK.out _ _ (⟨(M.out.2.2.2.1).at.1 0, (M.out.2.2.2.1).at.1 1, (M.out.2.2.2.1).at.1 2, (M.out.2.2.2.1).at.1 3⟩) (fun hH12 => ?_)
    clear hK K hH9
    (try simp only [Act.put, List.setIfInBounds_toArray, List.set_cons_zero, List.set_cons_succ])
    refine wpAnyH_ready (rs := [5]) (by kernel_rfl) (by simp) ?_
    refine AllReadyH.cons at5 (fun K hK => ?_) AllReadyH.nil
    go_simp
    obtain ⟨w9, hv⟩ : ∃ w_ : World, w_ = (w8.alloc (.cells #[.int .i64 am0, u0, u1, u2, u3] 48)) := ⟨_, rfl⟩
    rw [← hv]
    have ow2_ : w5.heap.size < w8.heap.size := ((M.out.2.1)).lt
    replace M := Lib.hid (And.intro (hv ▸ bx1 w8 48 #[.int .i64 am0, u0, u1, u2, u3]) (Goes.go M.out (hv ▸ below_alloc _ _ : Below w8.heap.size w8 w9)))
    clear hv
    refine hK.out _ _ (⟨(M.out.2.2.2.2.1).at.1 0, (M.out.2.2.2.2.1).at.1 1, (M.out.2.2.2.2.1).at.1 2, (M.out.2.2.2.2.1).at.1 3⟩) (fun hH13 => ?_)
    clear hK K hH12
    (try simp only [Act.put, List.setIfInBounds_toArray, List.set_cons_zero, List.set_cons_succ])
    refine wpAnyH_ready (rs := [6]) (by kernel_rfl) (by simp) ?_
    refine AllReadyH.cons at6 (fun K hK => ?_) AllReadyH.nil
    rw [if_pos (by rfl)]
    refine wp_push1 (M.out.2.1) HL.out.len elemLy (⟨am0, u0, u1, u2, u3, q⟩ : LC) (M.out.1) rfl (H1.out.keep (M.out.2.2.2.2.2)) (by rfl) (by omega) (by omega) (M.out.2.2.2.2.2).size rfl rfl rfl (fun g_14 d_15 w10 ho_ hd_ hg_ => ?_)
    replace M := Lib.hid (And.intro ho_ (And.intro ((M.out.2.2.1).grownT (M.out.2.1).own (by rfl) hg_) (And.intro ((M.out.2.2.2.1).grown (M.out.2.1).own (by rfl) (M.out.2.1).leG hg_) (And.intro ((M.out.2.2.2.2.1).grownT (M.out.2.1).own (by rfl) hg_) (below_grown (M.out.2.2.2.2.2) (M.out.2.1).own (Nat.le_refl _) (M.out.2.2.2.2.2).size hg_)))))
    have hcd_15 := hd_
    clear ho_ hg_ hd_
    refine hK.out _ _ (⟨(M.out.2.2.2.1).at.1 0, (M.out.2.2.2.1).at.1 1, (M.out.2.2.2.1).at.1 2, (M.out.2.2.2.1).at.1 3⟩) (fun hH16 => ?_)
    clear hK K hH13
    (try simp only [Act.put, List.setIfInBounds_toArray, List.set_cons_zero, List.set_cons_succ])
    refine wpAnyH_ready (rs := [7]) (by kernel_rfl) (by simp) ?_
    refine AllReadyH.cons at7 (fun K hK => ?_) AllReadyH.nil
    go_simp
    have hfl_ : FzL (l ++ [⟨am0, u0, u1, u2, u3, q⟩]) 100000000000 := fun y_ hy_ => by
      rcases List.mem_append.1 hy_ with h_ | h_
      · exact (HZ.out y_ h_).mono (by omega)
      · simp at h_; subst h_; exact HQ.out.mono (by omega)
    refine (ownC (G := G) (Nat.le_trans hG (M.out.2.2.2.2).size) (M.out.1) (by rw [List.length_append]; show _ + 1 = _; rw [HL.out.len]) (by omega) hfl_).mono ?_
    have hle_ := (M.out.1).le
    obtain ⟨ys_, hbk_⟩ := (M.out.1).bk
    rintro e w11 ⟨rfl, ⟨lf, ho2, hlf⟩, og⟩
    have HLF := Lib.hid hlf; clear hlf
    replace M := Lib.hid (And.intro ho2 (And.intro ((M.out.2.1).only og (Bx.ne_ty (M.out.2.1) hbk_ (by rfl))) (And.intro ((M.out.2.2.1).far hbk_ (by rfl) (by omega) og) (And.intro ((M.out.2.2.2.1).only og (Bx.ne_ty (M.out.2.2.2.1) hbk_ (by rfl))) (Below.grown (M.out.2.2.2.2) og (M.out.2.2.2.2).size (fun k_ hk_ => by cases hk_; omega))))))
    clear hbk_ og hle_
    clear ho2 hfl_
    (try go_wp2_with fail)
    refine hK.out _ _ (⟨(M.out.2.2.2.1).at.1 0, (M.out.2.2.2.1).at.1 1, (M.out.2.2.2.1).at.1 2, (M.out.2.2.2.1).at.1 3⟩) (fun hH17 => ?_)
    clear hK K hH16
    (try simp only [Act.put, List.setIfInBounds_toArray, List.set_cons_zero, List.set_cons_succ])
    refine tk at8 ?_
    refine tk at9 ?_
    refine wpAnyH_done (by kernel_rfl) ?_ _
    clear hH17
    go_wp2_with fail
    go_ret2
    have hlf_ : lf.length = n + 1 := by have h_ := congrArg List.length HLF.out; rw [List.length_map, List.length_map, List.length_append, HL.out.len] at h_; exact h_
    exact ⟨_, _, lf, rfl, RdL.of (M.out.1).rd hlf_ hcd_15, (by rw [HLF.out, List.map_append]; rfl), (M.out.2.2.2.2)⟩
  refine AllReadyH.cons at5 (fun K hK => ?_) AllReadyH.nil
  go_simp
  obtain ⟨w8, hv⟩ : ∃ w_ : World, w_ = (w7.alloc (.cells #[.int .i64 am0, u0, u1, u2, u3] 48)) := ⟨_, rfl⟩
  rw [← hv]
  have ow2_ : w5.heap.size < w7.heap.size := ((M.out.1)).lt
  replace M := Lib.hid (And.intro (hv ▸ bx1 w7 48 #[.int .i64 am0, u0, u1, u2, u3]) (Goes.go M.out (hv ▸ below_alloc _ _ : Below w7.heap.size w7 w8)))
  clear hv
  refine hK.out _ _ (⟨(M.out.2.2.2.1).at.1 0, (M.out.2.2.2.1).at.1 1, (M.out.2.2.2.1).at.1 2, (M.out.2.2.2.1).at.1 3⟩) (fun hH18 => ?_)
  clear hK K hH9
  (try simp only [Act.put, List.setIfInBounds_toArray, List.set_cons_zero, List.set_cons_succ])
  refine wpAnyH_ready (rs := [1]) (by kernel_rfl) (by simp) ?_
  refine AllReadyH.cons at1 (fun K hK => ?_) AllReadyH.nil
  go_simp
  refine (cloneV (G := G) (l := l) hG (M.out.2.2.2.2).size (HL.out.keep (M.out.2.2.2.2)) (by omega)).mono ?_
  rintro e w9 ⟨v_19, rfl, hd20, hb⟩
  replace M := Lib.hid (And.intro hd20 (Goes.go M.out hb))
  clear hb hd20
  (try go_wp2_with fail)
  refine hK.out _ _ (⟨(M.out.2.2.2.2.1).at.1 0, (M.out.2.2.2.2.1).at.1 1, (M.out.2.2.2.2.1).at.1 2, (M.out.2.2.2.2.1).at.1 3⟩) (fun hH21 => ?_)
  clear hK K hH18
  (try simp only [Act.put, List.setIfInBounds_toArray, List.set_cons_zero, List.set_cons_succ])
  refine wpAnyH_ready (rs := [6]) (by kernel_rfl) (by simp) ?_
  refine AllReadyH.cons at6 (fun K hK => ?_) AllReadyH.nil
  rw [if_pos (by rfl)]
  refine wp_push1 (M.out.1) HL.out.len elemLy (⟨am0, u0, u1, u2, u3, q⟩ : LC) (M.out.2.1) rfl (H1.out.keep (M.out.2.2.2.2.2)) (by rfl) (by omega) (by omega) (M.out.2.2.2.2.2).size rfl rfl rfl (fun g_22 d_23 w10 ho_ hd_ hg_ => ?_)
  replace M := Lib.hid (And.intro ho_ (And.intro ((M.out.2.2.1).grownT (M.out.1).own (by rfl) hg_) (And.intro ((M.out.2.2.2.1).grown (M.out.1).own (by rfl) (M.out.1).leG hg_) (And.intro ((M.out.2.2.2.2.1).grownT (M.out.1).own (by rfl) hg_) (below_grown (M.out.2.2.2.2.2) (M.out.1).own (Nat.le_refl _) (M.out.2.2.2.2.2).size hg_)))))
  have hcd_23 := hd_
  clear ho_ hg_ hd_
  refine hK.out _ _ (⟨(M.out.2.2.2.1).at.1 0, (M.out.2.2.2.1).at.1 1, (M.out.2.2.2.1).at.1 2, (M.out.2.2.2.1).at.1 3⟩) (fun hH24 => ?_)
  clear hK K hH21
  (try simp only [Act.put, List.setIfInBounds_toArray, List.set_cons_zero, List.set_cons_succ])
  refine wpAnyH_ready (rs := [7]) (by kernel_rfl) (by simp) ?_
  refine AllReadyH.cons at7 (fun K hK => ?_) AllReadyH.nil
  go_simp
  have hfl_ : FzL (l ++ [⟨am0, u0, u1, u2, u3, q⟩]) 100000000000 := fun y_ hy_ => by
    rcases List.mem_append.1 hy_ with h_ | h_
    · exact (HZ.out y_ h_).mono (by omega)
    · simp at h_; subst h_; exact HQ.out.mono (by omega)
  refine (ownC (G := G) (Nat.le_trans hG (M.out.2.2.2.2).size) (M.out.1) (by rw [List.length_append]; show _ + 1 = _; rw [HL.out.len]) (by omega) hfl_).mono ?_
  have hle_ := (M.out.1).le
  obtain ⟨ys_, hbk_⟩ := (M.out.1).bk
  rintro e w11 ⟨rfl, ⟨lf, ho2, hlf⟩, og⟩
  have HLF := Lib.hid hlf; clear hlf
  replace M := Lib.hid (And.intro ho2 (And.intro ((M.out.2.1).only og (Bx.ne_ty (M.out.2.1) hbk_ (by rfl))) (And.intro ((M.out.2.2.1).far hbk_ (by rfl) (by omega) og) (And.intro ((M.out.2.2.2.1).only og (Bx.ne_ty (M.out.2.2.2.1) hbk_ (by rfl))) (Below.grown (M.out.2.2.2.2) og (M.out.2.2.2.2).size (fun k_ hk_ => by cases hk_; omega))))))
  clear hbk_ og hle_
  clear ho2 hfl_
  (try go_wp2_with fail)
  refine hK.out _ _ (⟨(M.out.2.2.2.1).at.1 0, (M.out.2.2.2.1).at.1 1, (M.out.2.2.2.1).at.1 2, (M.out.2.2.2.1).at.1 3⟩) (fun hH25 => ?_)
  clear hK K hH24
  (try simp only [Act.put, List.setIfInBounds_toArray, List.set_cons_zero, List.set_cons_succ])
  refine tk at8 ?_
  refine tk at9 ?_
  refine wpAnyH_done (by kernel_rfl) ?_ _
  clear hH25
  go_wp2_with fail
  go_ret2
  have hlf_ : lf.length = n + 1 := by have h_ := congrArg List.length HLF.out; rw [List.length_map, List.length_map, List.length_append, HL.out.len] at h_; exact h_
  exact ⟨_, _, lf, rfl, RdL.of (M.out.1).rd hlf_ hcd_23, (by rw [HLF.out, List.map_append]; rfl), (M.out.2.2.2.2)⟩
end Go.Proofs.Ytgmngkbocpadaaa
namespace Go.Proofs.Ytgmngkbocpadaaa
open Go.RowKit Go.Lib
variable {G : Nat}

/-- The error of a draw. -/
def drErr (rl am N : Int) : Int := if rl < 0 ∨ 3 ≤ rl then 1 else if am < 1 ∨ 1099511627776 < am then 3 else if N < am then 25 else 0
theorem draw_err {l : List LC} {a : Option Addr} {n c : Nat} {er rl am0 : Int} {w : World} (hG : G ≤ w.heap.size) (h : RdC G w a n c l) (ok : OkC l) (hz : FzL l 100000000) (he : drErr rl am0 (sumN (l.map LC.ly)) = er) (hne : er ≠ 0) :
    Calls Try.prog 11 #[.slice a n c, .int .i64 rl, .int .i64 am0] w fun e w' => e = .returned (.tuple #[.slice none 0 0, .agg #[.int .i64 0, .slice none 0 0, .int .i64 0, .slice none 0 0], .int .i64 er]) ∧ Below w.heap.size w w' := by
  unfold drErr at he
  split at he
  · rename_i h1; subst he; exact draw_arg hG h ok hz h1
  · rename_i h1
    split at he
    · rename_i h2; subst he; exact draw_range hG h ok hz (by omega) (by omega) h2
    · rename_i h2
      split at he
      · rename_i h3; subst he; exact draw_over hG h ok hz (by omega) (by omega) (by omega) (by omega) h3
      · exact absurd he.symm hne
theorem drErr_ok {rl am N : Int} (h : drErr rl am N = 0) : 0 ≤ rl ∧ rl < 3 ∧ 1 ≤ am ∧ am ≤ 1099511627776 ∧ am ≤ N := by
  unfold drErr at h
  split at h
  · cases h
  · split at h
    · cases h
    · split at h
      · cases h
      · omega
theorem drErr_over {rl am N : Int} (h : N < am) : drErr rl am N ≠ 0 := by
  intro h'
  have := drErr_ok h'
  omega
theorem put_err {l : List LC} {a : Option Addr} {n c : Nat} {am0 : Int} {u0 u1 u2 u3 : Value} {w : World} (hG : G ≤ w.heap.size) (h : RdC G w a n c l) (ok : OkC l) (hz : FzL l 100000000) {x y : Nat} {o : Option Rat} (h1 : FX w u0 u1 u2 u3 x y o) (hx : x ≤ 3 ∧ y ≤ 3) (h20 : n ≤ 20) (ha0 : 1 ≤ am0) (ha1 : am0 ≤ 1099511627776)
    (hbad : ∀ q, o = some q → 0 ≤ q → 1099511627776 - sumN (l.map LC.ly) < am0) :
    Calls Try.prog 18 #[.slice a n c, .int .i64 am0, .agg #[u0, u1, u2, u3]] w fun e w' => ∃ er, e = .returned (.tuple #[.slice none 0 0, .int .i64 er]) ∧ er ≠ 0 ∧ Below w.heap.size w w' := by
  cases o with
  | none => exact (put_arg hG h ok hz h1 hx).mono fun _ _ ⟨h1, h2⟩ => ⟨1, h1, by decide, h2⟩
  | some q =>
    have h' : RdC w.heap.size w a n c l := RdL.up h hG (fun x hx => FQ.up hx hG)
    have hq : Fz q 100000000 := (h1.fz hx.1 hx.2).mono (by omega)
    by_cases hs : q < 0
    · exact (put_range (Nat.le_refl _) h' ok hz h1.fq hq ha0 ha1 hs).mono fun _ _ ⟨h1, h2⟩ => ⟨3, h1, by decide, h2⟩
    · exact (put_full (Nat.le_refl _) h' ok hz h1.fq hq h20 ha0 ha1 (Rat.not_lt.1 hs) (hbad q rfl (Rat.not_lt.1 hs))).mono fun _ _ ⟨h1, h2⟩ => ⟨6, h1, by decide, h2⟩
end Go.Proofs.Ytgmngkbocpadaaa
namespace Go.Proofs.Ytgmngkbocpadaaa
open Go.RowKit Go.Lib
variable {G : Nat}

theorem twice_same {l l2 l3 l4 : List LC} {k a b : Int} (h : OkC l) (h0 : 1 ≤ a) (h1 : 1 ≤ b) (hab : a + b ≤ sumN (l.map LC.ly)) (e2 : l2.map LC.ly = (drawR k (l.map LC.ly) a).1) (e3 : l3.map LC.ly = (drawR k (l2.map LC.ly) b).1) (e4 : l4.map LC.ly = (drawR k (l.map LC.ly) (a + b)).1) :
    l3.map LC.ly = l4.map LC.ly ∧ (drawR k (l.map LC.ly) a).2 + (drawR k (l2.map LC.ly) b).2 = (drawR k (l.map LC.ly) (a + b)).2 := by
  obtain ⟨k1, k2⟩ := R_twice (k := k) h.ly h0 h1 hab
  rw [e2] at e3 ⊢
  rw [e3, e4]
  exact ⟨k1, k2⟩
theorem put_okC {l l5 : List LC} {a : Int} {q : Rat} (h : OkC l) (hl : l.length ≤ 20) (h0 : 1 ≤ a) (hq : 0 ≤ q) (hs : a ≤ 1099511627776 - sumN (l.map LC.ly)) (e : l5.map LC.ly = l.map LC.ly ++ [⟨a, q⟩]) : OkC l5 := by
  have e2 : sumN (l5.map LC.ly) = sumN (l.map LC.ly) + a := by rw [e, sumN_app]; simp [sumN]
  have e3 : l5.length = l.length + 1 := by have := congrArg List.length e; simpa using this
  refine ⟨fun x hx => ?_, by omega, by omega⟩
  have hm : x.ly ∈ l5.map LC.ly := List.mem_map.2 ⟨x, hx, rfl⟩
  rw [e] at hm
  rcases List.mem_append.1 hm with hm | hm
  · exact h.ly _ hm
  · simp at hm
    have h1 : x.n = a := congrArg Ly.n hm
    have h2 : x.q = q := congrArg Ly.b hm
    rw [h1, h2]; exact ⟨h0, hq⟩
theorem put_fz {l l5 : List LC} {a : Int} {q : Rat} {N : Nat} (h : FzL l N) (hq : Fz q N) (e : l5.map LC.ly = l.map LC.ly ++ [⟨a, q⟩]) : FzL l5 N := fz_of_ly fun y hy => by
  rw [e] at hy
  rcases List.mem_append.1 hy with hy | hy
  · obtain ⟨x, hx, rfl⟩ := List.mem_map.1 hy; exact h x hx
  · simp at hy; subst hy; exact hq
theorem put_sum {l l5 : List LC} {a : Int} {q : Rat} (h : OkC l) (e : l5.map LC.ly = l.map LC.ly ++ [⟨a, q⟩]) : a ≤ sumN (l5.map LC.ly) := by
  rw [e, sumN_app]
  have := h.drop 0
  rw [List.drop_zero] at this
  simp [sumN] at *; omega
theorem put_last {l l5 l6 : List LC} {a : Int} {q : Rat} (h0 : 1 ≤ a) (hq : 0 ≤ q) (e : l5.map LC.ly = l.map LC.ly ++ [⟨a, q⟩]) (e6 : l6.map LC.ly = (drawR 1 (l5.map LC.ly) a).1) : l6.map LC.ly = l.map LC.ly ∧ (drawR 1 (l5.map LC.ly) a).2 = q := by
  have := R_last (l.map LC.ly) ⟨a, q⟩ ⟨h0, hq⟩
  rw [e] at e6 ⊢
  rw [e6, this]
  exact ⟨rfl, rfl⟩
set_option maxRecDepth 100000 in
set_option maxHeartbeats 4000000 in
theorem twice_1 {ls : List LR} {a : Option Addr} {n c : Nat} {w : World} (h : RdR w.heap.size w a n c ls) (_hn0 : n ≤ 9223372036854775807) {rl aa bb : Int} {u0 u1 u2 u3 : Value} {x y : Nat} {o : Option Rat} (h1 : FX w u0 u1 u2 u3 x y o) (hf : fewL ls = false) :
    Calls Try.prog 4 #[.slice a n c, .int .i64 rl, .int .i64 aa, .int .i64 bb, .agg #[u0, u1, u2, u3]] w fun e w' => e = .returned (.bool true) ∧ Below w.heap.size w w' := by
  obtain ⟨G, hG0⟩ : ∃ G : Nat, G = w.heap.size := ⟨_, rfl⟩
  have hG : G ≤ w.heap.size := by omega
  have HL0 : Hid (RdR G w a n c ls) := by show RdR _ _ _ _ _ _; rw [hG0]; exact h
  have HF := Lib.hid hf
  clear hf
  have HR0 : Hid (RdR G w a n c ls) := HL0.out
  have H1 : Hid (FX w u0 u1 u2 u3 x y o) := h1
  clear h h1
  have M : Hid (Below w.heap.size w w) := Below.refl _ _
  go_enter Try.func4, Try.ntmps4
  go_upto_region 1 with fail
  obtain ⟨w1, hv⟩ : ∃ w_ : World, w_ = (w.alloc (.cells #[u0, u1, u2, u3] 29)) := ⟨_, rfl⟩
  rw [← hv]
  replace M := Lib.hid (And.intro (hv ▸ bx1 w 29 #[u0, u1, u2, u3]) (Goes.go M.out (hv ▸ below_alloc _ _ : Below w.heap.size w w1)))
  clear hv
  go_wp2_with fail
  refine (stSmall (G := G) (Nat.le_trans hG (M.out.2).size)).mono ?_
  rintro e w2 ⟨rfl, hb⟩
  replace M := Lib.hid (Goes.go M.out hb)
  clear hb
  go_wp2_with fail
  refine (stFew_ok (G := G) (l := ls) (b_ := false) (HR0.out.keep (M.out.2)) (by omega) HF.out).mono ?_
  rintro e w3 ⟨rfl, hb⟩
  replace M := Lib.hid (Goes.go M.out hb)
  clear hb
  go_wp2_with fail
  go_ret
  exact ⟨rfl, (M.out.2)⟩
set_option maxRecDepth 100000 in
set_option maxHeartbeats 4000000 in
theorem twice_2 {ls : List LR} {a : Option Addr} {n c : Nat} {w : World} (h : RdR w.heap.size w a n c ls) (_hn0 : n ≤ 9223372036854775807) {rl aa bb : Int} {u0 u1 u2 u3 : Value} {x y : Nat} {o : Option Rat} (h1 : FX w u0 u1 u2 u3 x y o) (hf : fewL ls = true) (hfq : (decide (x ≤ 3) && decide (y ≤ 3)) = false) :
    Calls Try.prog 4 #[.slice a n c, .int .i64 rl, .int .i64 aa, .int .i64 bb, .agg #[u0, u1, u2, u3]] w fun e w' => e = .returned (.bool true) ∧ Below w.heap.size w w' := by
  obtain ⟨G, hG0⟩ : ∃ G : Nat, G = w.heap.size := ⟨_, rfl⟩
  have hG : G ≤ w.heap.size := by omega
  have HL0 : Hid (RdR G w a n c ls) := by show RdR _ _ _ _ _ _; rw [hG0]; exact h
  have hs_ := few_all hf
  have HSM := Lib.hid hs_.1
  have hn : n ≤ 202 := by have h_ := HL0.out.len; omega
  have HF := Lib.hid hf
  have HFQ := Lib.hid hfq
  clear hf hfq hs_
  have HR0 : Hid (RdR G w a n c ls) := HL0.out
  have H1 : Hid (FX w u0 u1 u2 u3 x y o) := h1
  clear h h1
  have M : Hid (Below w.heap.size w w) := Below.refl _ _
  go_enter Try.func4, Try.ntmps4
  go_upto_region 1 with fail
  obtain ⟨w1, hv⟩ : ∃ w_ : World, w_ = (w.alloc (.cells #[u0, u1, u2, u3] 29)) := ⟨_, rfl⟩
  rw [← hv]
  replace M := Lib.hid (And.intro (hv ▸ bx1 w 29 #[u0, u1, u2, u3]) (Goes.go M.out (hv ▸ below_alloc _ _ : Below w.heap.size w w1)))
  clear hv
  go_wp2_with fail
  refine (stSmall (G := G) (Nat.le_trans hG (M.out.2).size)).mono ?_
  rintro e w2 ⟨rfl, hb⟩
  replace M := Lib.hid (Goes.go M.out hb)
  clear hb
  go_wp2_with fail
  refine (stFew_ok (G := G) (l := ls) (b_ := true) (HR0.out.keep (M.out.2)) (by omega) HF.out).mono ?_
  rintro e w3 ⟨rfl, hb⟩
  replace M := Lib.hid (Goes.go M.out hb)
  clear hb
  have y0 := (M.out.1).d4; have p0_0 := y0.1; have p0_1 := y0.2.1; have p0_2 := y0.2.2.1; have p0_3 := y0.2.2.2; clear y0
  go_wp2_with fail
  clear p0_0 p0_1 p0_2 p0_3
  refine (fxFew_ok (o := o) (k := 3) (r := false) (H1.out.keep (M.out.2)) (decI.trans HFQ.out)).mono ?_
  rintro e w4 ⟨rfl, hb⟩
  replace M := Lib.hid (Goes.go M.out hb)
  clear hb
  go_wp2_with fail
  go_ret
  exact ⟨rfl, (M.out.2)⟩
set_option maxRecDepth 100000 in
set_option maxHeartbeats 4000000 in
theorem twice_3 {ls : List LR} {a : Option Addr} {n c : Nat} {w : World} (h : RdR w.heap.size w a n c ls) (_hn0 : n ≤ 9223372036854775807) {rl aa bb : Int} {u0 u1 u2 u3 : Value} {x y : Nat} {o : Option Rat} (h1 : FX w u0 u1 u2 u3 x y o) (hf : fewL ls = true) (hfq : (decide (x ≤ 3) && decide (y ≤ 3)) = true) (_h20 : 20 < n) :
    Calls Try.prog 4 #[.slice a n c, .int .i64 rl, .int .i64 aa, .int .i64 bb, .agg #[u0, u1, u2, u3]] w fun e w' => e = .returned (.bool true) ∧ Below w.heap.size w w' := by
  obtain ⟨G, hG0⟩ : ∃ G : Nat, G = w.heap.size := ⟨_, rfl⟩
  have hG : G ≤ w.heap.size := by omega
  have HL0 : Hid (RdR G w a n c ls) := by show RdR _ _ _ _ _ _; rw [hG0]; exact h
  have hs_ := few_all hf
  have HSM := Lib.hid hs_.1
  have hn : n ≤ 202 := by have h_ := HL0.out.len; omega
  have HF := Lib.hid hf
  have HFQ := Lib.hid hfq
  clear hf hfq hs_
  have ek0 : decide (20 < (n : Int)) = true := decide_eq_true (by omega)
  have ek1 : decide (20 < n) = true := decide_eq_true (by omega)
  have ek2 : 20 < (n : Int) := by omega
  have HR0 : Hid (RdR G w a n c ls) := HL0.out
  have H1 : Hid (FX w u0 u1 u2 u3 x y o) := h1
  clear h h1
  have M : Hid (Below w.heap.size w w) := Below.refl _ _
  go_enter Try.func4, Try.ntmps4
  go_upto_region 1 with fail
  obtain ⟨w1, hv⟩ : ∃ w_ : World, w_ = (w.alloc (.cells #[u0, u1, u2, u3] 29)) := ⟨_, rfl⟩
  rw [← hv]
  replace M := Lib.hid (And.intro (hv ▸ bx1 w 29 #[u0, u1, u2, u3]) (Goes.go M.out (hv ▸ below_alloc _ _ : Below w.heap.size w w1)))
  clear hv
  go_wp2_with fail
  refine (stSmall (G := G) (Nat.le_trans hG (M.out.2).size)).mono ?_
  rintro e w2 ⟨rfl, hb⟩
  replace M := Lib.hid (Goes.go M.out hb)
  clear hb
  go_wp2_with fail
  refine (stFew_ok (G := G) (l := ls) (b_ := true) (HR0.out.keep (M.out.2)) (by omega) HF.out).mono ?_
  rintro e w3 ⟨rfl, hb⟩
  replace M := Lib.hid (Goes.go M.out hb)
  clear hb
  have y0 := (M.out.1).d4; have p0_0 := y0.1; have p0_1 := y0.2.1; have p0_2 := y0.2.2.1; have p0_3 := y0.2.2.2; clear y0
  go_wp2_with fail
  clear p0_0 p0_1 p0_2 p0_3
  refine (fxFew_ok (o := o) (k := 3) (r := true) (H1.out.keep (M.out.2)) (decI.trans HFQ.out)).mono ?_
  rintro e w4 ⟨rfl, hb⟩
  replace M := Lib.hid (Goes.go M.out hb)
  clear hb
  go_wp2_with fail
  go_ret
  exact ⟨rfl, (M.out.2)⟩
set_option maxRecDepth 100000 in
set_option maxHeartbeats 4000000 in
theorem twice_4 {ls : List LR} {a : Option Addr} {n c : Nat} {w : World} (h : RdR w.heap.size w a n c ls) (_hn0 : n ≤ 9223372036854775807) {rl aa bb : Int} {u0 u1 u2 u3 : Value} {x y : Nat} {o : Option Rat} (h1 : FX w u0 u1 u2 u3 x y o) (hf : fewL ls = true) (hfq : (decide (x ≤ 3) && decide (y ≤ 3)) = true) (_h20 : n ≤ 20) (hr : rightL ls = false) :
    Calls Try.prog 4 #[.slice a n c, .int .i64 rl, .int .i64 aa, .int .i64 bb, .agg #[u0, u1, u2, u3]] w fun e w' => e = .returned (.bool true) ∧ Below w.heap.size w w' := by
  obtain ⟨G, hG0⟩ : ∃ G : Nat, G = w.heap.size := ⟨_, rfl⟩
  have hG : G ≤ w.heap.size := by omega
  have HL0 : Hid (RdR G w a n c ls) := by show RdR _ _ _ _ _ _; rw [hG0]; exact h
  have hs_ := few_all hf
  have HSM := Lib.hid hs_.1
  have hn : n ≤ 202 := by have h_ := HL0.out.len; omega
  have HF := Lib.hid hf
  have HFQ := Lib.hid hfq
  have HR := Lib.hid hr
  clear hf hfq hs_ hr
  have ek0 : decide (20 < (n : Int)) = false := decide_eq_false (by omega)
  have ek1 : decide (20 < n) = false := decide_eq_false (by omega)
  have ek2 : ¬ 20 < (n : Int) := by omega
  have HR0 : Hid (RdR G w a n c ls) := HL0.out
  have H1 : Hid (FX w u0 u1 u2 u3 x y o) := h1
  clear h h1
  have M : Hid (Below w.heap.size w w) := Below.refl _ _
  go_enter Try.func4, Try.ntmps4
  go_upto_region 1 with fail
  obtain ⟨w1, hv⟩ : ∃ w_ : World, w_ = (w.alloc (.cells #[u0, u1, u2, u3] 29)) := ⟨_, rfl⟩
  rw [← hv]
  replace M := Lib.hid (And.intro (hv ▸ bx1 w 29 #[u0, u1, u2, u3]) (Goes.go M.out (hv ▸ below_alloc _ _ : Below w.heap.size w w1)))
  clear hv
  go_wp2_with fail
  refine (stSmall (G := G) (Nat.le_trans hG (M.out.2).size)).mono ?_
  rintro e w2 ⟨rfl, hb⟩
  replace M := Lib.hid (Goes.go M.out hb)
  clear hb
  go_wp2_with fail
  refine (stFew_ok (G := G) (l := ls) (b_ := true) (HR0.out.keep (M.out.2)) (by omega) HF.out).mono ?_
  rintro e w3 ⟨rfl, hb⟩
  replace M := Lib.hid (Goes.go M.out hb)
  clear hb
  have y0 := (M.out.1).d4; have p0_0 := y0.1; have p0_1 := y0.2.1; have p0_2 := y0.2.2.1; have p0_3 := y0.2.2.2; clear y0
  go_wp2_with fail
  clear p0_0 p0_1 p0_2 p0_3
  refine (fxFew_ok (o := o) (k := 3) (r := true) (H1.out.keep (M.out.2)) (decI.trans HFQ.out)).mono ?_
  rintro e w4 ⟨rfl, hb⟩
  replace M := Lib.hid (Goes.go M.out hb)
  clear hb
  go_wp2_with fail
  refine (stRight_raw (G := G) (l := ls) (b_ := false) (HR0.out.keep (M.out.2)) (by omega) HSM.out HR.out).mono ?_
  rintro e w5 ⟨rfl, hb⟩
  replace M := Lib.hid (Goes.go M.out hb)
  clear hb
  go_wp2_with fail
  go_ret
  exact ⟨rfl, (M.out.2)⟩
set_option maxRecDepth 100000 in
set_option maxHeartbeats 4000000 in
theorem twice_5 {ls : List LR} {a : Option Addr} {n c : Nat} {w : World} (h : RdR w.heap.size w a n c ls) (_hn0 : n ≤ 9223372036854775807) {rl aa bb : Int} {u0 u1 u2 u3 : Value} {x y : Nat} {o : Option Rat} (h1 : FX w u0 u1 u2 u3 x y o) (hf : fewL ls = true) (hfq : (decide (x ≤ 3) && decide (y ≤ 3)) = true) (_h20 : n ≤ 20) (hr : rightL ls = true) (_ha : aa < 1) :
    Calls Try.prog 4 #[.slice a n c, .int .i64 rl, .int .i64 aa, .int .i64 bb, .agg #[u0, u1, u2, u3]] w fun e w' => e = .returned (.bool true) ∧ Below w.heap.size w w' := by
  obtain ⟨G, hG0⟩ : ∃ G : Nat, G = w.heap.size := ⟨_, rfl⟩
  have hG : G ≤ w.heap.size := by omega
  have HL0 : Hid (RdR G w a n c ls) := by show RdR _ _ _ _ _ _; rw [hG0]; exact h
  have hs_ := few_all hf
  have HSM := Lib.hid hs_.1
  have hn : n ≤ 202 := by have h_ := HL0.out.len; omega
  have HF := Lib.hid hf
  have HFQ := Lib.hid hfq
  have HR := Lib.hid hr
  clear hf hfq hs_ hr
  have ek0 : decide (20 < (n : Int)) = false := decide_eq_false (by omega)
  have ek1 : decide (20 < n) = false := decide_eq_false (by omega)
  have ek2 : ¬ 20 < (n : Int) := by omega
  have e3 : decide (aa < 1) = true := decide_eq_true (by omega)
  have e3i : aa < 1 := by omega
  have HR0 : Hid (RdR G w a n c ls) := HL0.out
  have H1 : Hid (FX w u0 u1 u2 u3 x y o) := h1
  clear h h1
  have M : Hid (Below w.heap.size w w) := Below.refl _ _
  go_enter Try.func4, Try.ntmps4
  go_upto_region 1 with fail
  obtain ⟨w1, hv⟩ : ∃ w_ : World, w_ = (w.alloc (.cells #[u0, u1, u2, u3] 29)) := ⟨_, rfl⟩
  rw [← hv]
  replace M := Lib.hid (And.intro (hv ▸ bx1 w 29 #[u0, u1, u2, u3]) (Goes.go M.out (hv ▸ below_alloc _ _ : Below w.heap.size w w1)))
  clear hv
  go_wp2_with fail
  refine (stSmall (G := G) (Nat.le_trans hG (M.out.2).size)).mono ?_
  rintro e w2 ⟨rfl, hb⟩
  replace M := Lib.hid (Goes.go M.out hb)
  clear hb
  go_wp2_with fail
  refine (stFew_ok (G := G) (l := ls) (b_ := true) (HR0.out.keep (M.out.2)) (by omega) HF.out).mono ?_
  rintro e w3 ⟨rfl, hb⟩
  replace M := Lib.hid (Goes.go M.out hb)
  clear hb
  have y0 := (M.out.1).d4; have p0_0 := y0.1; have p0_1 := y0.2.1; have p0_2 := y0.2.2.1; have p0_3 := y0.2.2.2; clear y0
  go_wp2_with fail
  clear p0_0 p0_1 p0_2 p0_3
  refine (fxFew_ok (o := o) (k := 3) (r := true) (H1.out.keep (M.out.2)) (decI.trans HFQ.out)).mono ?_
  rintro e w4 ⟨rfl, hb⟩
  replace M := Lib.hid (Goes.go M.out hb)
  clear hb
  go_wp2_with fail
  refine (stRight_raw (G := G) (l := ls) (b_ := true) (HR0.out.keep (M.out.2)) (by omega) HSM.out HR.out).mono ?_
  rintro e w5 ⟨rfl, hb⟩
  replace M := Lib.hid (Goes.go M.out hb)
  clear hb
  go_wp2_with fail
  go_ret
  exact ⟨rfl, (M.out.2)⟩
set_option maxRecDepth 100000 in
set_option maxHeartbeats 4000000 in
theorem twice_6 {ls : List LR} {a : Option Addr} {n c : Nat} {w : World} (h : RdR w.heap.size w a n c ls) (_hn0 : n ≤ 9223372036854775807) {rl aa bb : Int} {u0 u1 u2 u3 : Value} {x y : Nat} {o : Option Rat} (h1 : FX w u0 u1 u2 u3 x y o) (hf : fewL ls = true) (hfq : (decide (x ≤ 3) && decide (y ≤ 3)) = true) (_h20 : n ≤ 20) (hr : rightL ls = true) (_ha : 1 ≤ aa) (hb : bb < 1) :
    Calls Try.prog 4 #[.slice a n c, .int .i64 rl, .int .i64 aa, .int .i64 bb, .agg #[u0, u1, u2, u3]] w fun e w' => e = .returned (.bool true) ∧ Below w.heap.size w w' := by
  obtain ⟨G, hG0⟩ : ∃ G : Nat, G = w.heap.size := ⟨_, rfl⟩
  have hG : G ≤ w.heap.size := by omega
  have HL0 : Hid (RdR G w a n c ls) := by show RdR _ _ _ _ _ _; rw [hG0]; exact h
  have hs_ := few_all hf
  have HSM := Lib.hid hs_.1
  have hn : n ≤ 202 := by have h_ := HL0.out.len; omega
  have HF := Lib.hid hf
  have HFQ := Lib.hid hfq
  have HR := Lib.hid hr
  clear hf hfq hs_ hr
  have ek0 : decide (20 < (n : Int)) = false := decide_eq_false (by omega)
  have ek1 : decide (20 < n) = false := decide_eq_false (by omega)
  have ek2 : ¬ 20 < (n : Int) := by omega
  have e3 : decide (aa < 1) = false := decide_eq_false (by omega)
  have e3i : ¬ aa < 1 := by omega
  have e4 : decide (bb < 1) = true := decide_eq_true (by omega)
  have e4i : bb < 1 := by omega
  have HR0 : Hid (RdR G w a n c ls) := HL0.out
  have H1 : Hid (FX w u0 u1 u2 u3 x y o) := h1
  clear h h1
  have M : Hid (Below w.heap.size w w) := Below.refl _ _
  go_enter Try.func4, Try.ntmps4
  go_upto_region 1 with fail
  obtain ⟨w1, hv⟩ : ∃ w_ : World, w_ = (w.alloc (.cells #[u0, u1, u2, u3] 29)) := ⟨_, rfl⟩
  rw [← hv]
  replace M := Lib.hid (And.intro (hv ▸ bx1 w 29 #[u0, u1, u2, u3]) (Goes.go M.out (hv ▸ below_alloc _ _ : Below w.heap.size w w1)))
  clear hv
  go_wp2_with fail
  refine (stSmall (G := G) (Nat.le_trans hG (M.out.2).size)).mono ?_
  rintro e w2 ⟨rfl, hb⟩
  replace M := Lib.hid (Goes.go M.out hb)
  clear hb
  go_wp2_with fail
  refine (stFew_ok (G := G) (l := ls) (b_ := true) (HR0.out.keep (M.out.2)) (by omega) HF.out).mono ?_
  rintro e w3 ⟨rfl, hb⟩
  replace M := Lib.hid (Goes.go M.out hb)
  clear hb
  have y0 := (M.out.1).d4; have p0_0 := y0.1; have p0_1 := y0.2.1; have p0_2 := y0.2.2.1; have p0_3 := y0.2.2.2; clear y0
  go_wp2_with fail
  clear p0_0 p0_1 p0_2 p0_3
  refine (fxFew_ok (o := o) (k := 3) (r := true) (H1.out.keep (M.out.2)) (decI.trans HFQ.out)).mono ?_
  rintro e w4 ⟨rfl, hb⟩
  replace M := Lib.hid (Goes.go M.out hb)
  clear hb
  go_wp2_with fail
  refine (stRight_raw (G := G) (l := ls) (b_ := true) (HR0.out.keep (M.out.2)) (by omega) HSM.out HR.out).mono ?_
  rintro e w5 ⟨rfl, hb⟩
  replace M := Lib.hid (Goes.go M.out hb)
  clear hb
  go_wp2_with fail
  go_ret
  exact ⟨rfl, (M.out.2)⟩
set_option maxRecDepth 100000 in
set_option maxHeartbeats 4000000 in
theorem twice_7 {ls : List LR} {a : Option Addr} {n c : Nat} {w : World} (h : RdR w.heap.size w a n c ls) (_hn0 : n ≤ 9223372036854775807) {rl aa bb : Int} {u0 u1 u2 u3 : Value} {x y : Nat} {o : Option Rat} (h1 : FX w u0 u1 u2 u3 x y o) (hf : fewL ls = true) (hfq : (decide (x ≤ 3) && decide (y ≤ 3)) = true) (_h20 : n ≤ 20) (hr : rightL ls = true) (_ha : 1 ≤ aa) (hb : 1 ≤ bb) (_ha1 : 1099511627776 < aa) :
    Calls Try.prog 4 #[.slice a n c, .int .i64 rl, .int .i64 aa, .int .i64 bb, .agg #[u0, u1, u2, u3]] w fun e w' => e = .returned (.bool true) ∧ Below w.heap.size w w' := by
  obtain ⟨G, hG0⟩ : ∃ G : Nat, G = w.heap.size := ⟨_, rfl⟩
  have hG : G ≤ w.heap.size := by omega
  have HL0 : Hid (RdR G w a n c ls) := by show RdR _ _ _ _ _ _; rw [hG0]; exact h
  have hs_ := few_all hf
  have HSM := Lib.hid hs_.1
  have hn : n ≤ 202 := by have h_ := HL0.out.len; omega
  have HF := Lib.hid hf
  have HFQ := Lib.hid hfq
  have HR := Lib.hid hr
  clear hf hfq hs_ hr
  have ek0 : decide (20 < (n : Int)) = false := decide_eq_false (by omega)
  have ek1 : decide (20 < n) = false := decide_eq_false (by omega)
  have ek2 : ¬ 20 < (n : Int) := by omega
  have e3 : decide (aa < 1) = false := decide_eq_false (by omega)
  have e3i : ¬ aa < 1 := by omega
  have e4 : decide (bb < 1) = false := decide_eq_false (by omega)
  have e4i : ¬ bb < 1 := by omega
  have e5 : decide (1099511627776 < aa) = true := decide_eq_true (by omega)
  have e5i : 1099511627776 < aa := by omega
  have HR0 : Hid (RdR G w a n c ls) := HL0.out
  have H1 : Hid (FX w u0 u1 u2 u3 x y o) := h1
  clear h h1
  have M : Hid (Below w.heap.size w w) := Below.refl _ _
  go_enter Try.func4, Try.ntmps4
  go_upto_region 1 with fail
  obtain ⟨w1, hv⟩ : ∃ w_ : World, w_ = (w.alloc (.cells #[u0, u1, u2, u3] 29)) := ⟨_, rfl⟩
  rw [← hv]
  replace M := Lib.hid (And.intro (hv ▸ bx1 w 29 #[u0, u1, u2, u3]) (Goes.go M.out (hv ▸ below_alloc _ _ : Below w.heap.size w w1)))
  clear hv
  go_wp2_with fail
  refine (stSmall (G := G) (Nat.le_trans hG (M.out.2).size)).mono ?_
  rintro e w2 ⟨rfl, hb⟩
  replace M := Lib.hid (Goes.go M.out hb)
  clear hb
  go_wp2_with fail
  refine (stFew_ok (G := G) (l := ls) (b_ := true) (HR0.out.keep (M.out.2)) (by omega) HF.out).mono ?_
  rintro e w3 ⟨rfl, hb⟩
  replace M := Lib.hid (Goes.go M.out hb)
  clear hb
  have y0 := (M.out.1).d4; have p0_0 := y0.1; have p0_1 := y0.2.1; have p0_2 := y0.2.2.1; have p0_3 := y0.2.2.2; clear y0
  go_wp2_with fail
  clear p0_0 p0_1 p0_2 p0_3
  refine (fxFew_ok (o := o) (k := 3) (r := true) (H1.out.keep (M.out.2)) (decI.trans HFQ.out)).mono ?_
  rintro e w4 ⟨rfl, hb⟩
  replace M := Lib.hid (Goes.go M.out hb)
  clear hb
  go_wp2_with fail
  refine (stRight_raw (G := G) (l := ls) (b_ := true) (HR0.out.keep (M.out.2)) (by omega) HSM.out HR.out).mono ?_
  rintro e w5 ⟨rfl, hb⟩
  replace M := Lib.hid (Goes.go M.out hb)
  clear hb
  go_wp2_with fail
  go_ret
  exact ⟨rfl, (M.out.2)⟩
set_option maxRecDepth 100000 in
set_option maxHeartbeats 4000000 in
theorem twice_8 {ls : List LR} {a : Option Addr} {n c : Nat} {w : World} (h : RdR w.heap.size w a n c ls) (_hn0 : n ≤ 9223372036854775807) {rl aa bb : Int} {u0 u1 u2 u3 : Value} {x y : Nat} {o : Option Rat} (h1 : FX w u0 u1 u2 u3 x y o) (hf : fewL ls = true) (hfq : (decide (x ≤ 3) && decide (y ≤ 3)) = true) (_h20 : n ≤ 20) (hr : rightL ls = true) (_ha : 1 ≤ aa) (_hb : 1 ≤ bb) (_ha1 : aa ≤ 1099511627776) (_hb1 : 1099511627776 < bb) :
    Calls Try.prog 4 #[.slice a n c, .int .i64 rl, .int .i64 aa, .int .i64 bb, .agg #[u0, u1, u2, u3]] w fun e w' => e = .returned (.bool true) ∧ Below w.heap.size w w' := by
  obtain ⟨G, hG0⟩ : ∃ G : Nat, G = w.heap.size := ⟨_, rfl⟩
  have hG : G ≤ w.heap.size := by omega
  have HL0 : Hid (RdR G w a n c ls) := by show RdR _ _ _ _ _ _; rw [hG0]; exact h
  have hs_ := few_all hf
  have HSM := Lib.hid hs_.1
  have hn : n ≤ 202 := by have h_ := HL0.out.len; omega
  have HF := Lib.hid hf
  have HFQ := Lib.hid hfq
  have HR := Lib.hid hr
  clear hf hfq hs_ hr
  have ek0 : decide (20 < (n : Int)) = false := decide_eq_false (by omega)
  have ek1 : decide (20 < n) = false := decide_eq_false (by omega)
  have ek2 : ¬ 20 < (n : Int) := by omega
  have e3 : decide (aa < 1) = false := decide_eq_false (by omega)
  have e3i : ¬ aa < 1 := by omega
  have e4 : decide (bb < 1) = false := decide_eq_false (by omega)
  have e4i : ¬ bb < 1 := by omega
  have e5 : decide (1099511627776 < aa) = false := decide_eq_false (by omega)
  have e5i : ¬ 1099511627776 < aa := by omega
  have e6 : decide (1099511627776 < bb) = true := decide_eq_true (by omega)
  have e6i : 1099511627776 < bb := by omega
  have HR0 : Hid (RdR G w a n c ls) := HL0.out
  have H1 : Hid (FX w u0 u1 u2 u3 x y o) := h1
  clear h h1
  have M : Hid (Below w.heap.size w w) := Below.refl _ _
  go_enter Try.func4, Try.ntmps4
  go_upto_region 1 with fail
  obtain ⟨w1, hv⟩ : ∃ w_ : World, w_ = (w.alloc (.cells #[u0, u1, u2, u3] 29)) := ⟨_, rfl⟩
  rw [← hv]
  replace M := Lib.hid (And.intro (hv ▸ bx1 w 29 #[u0, u1, u2, u3]) (Goes.go M.out (hv ▸ below_alloc _ _ : Below w.heap.size w w1)))
  clear hv
  go_wp2_with fail
  refine (stSmall (G := G) (Nat.le_trans hG (M.out.2).size)).mono ?_
  rintro e w2 ⟨rfl, hb⟩
  replace M := Lib.hid (Goes.go M.out hb)
  clear hb
  go_wp2_with fail
  refine (stFew_ok (G := G) (l := ls) (b_ := true) (HR0.out.keep (M.out.2)) (by omega) HF.out).mono ?_
  rintro e w3 ⟨rfl, hb⟩
  replace M := Lib.hid (Goes.go M.out hb)
  clear hb
  have y0 := (M.out.1).d4; have p0_0 := y0.1; have p0_1 := y0.2.1; have p0_2 := y0.2.2.1; have p0_3 := y0.2.2.2; clear y0
  go_wp2_with fail
  clear p0_0 p0_1 p0_2 p0_3
  refine (fxFew_ok (o := o) (k := 3) (r := true) (H1.out.keep (M.out.2)) (decI.trans HFQ.out)).mono ?_
  rintro e w4 ⟨rfl, hb⟩
  replace M := Lib.hid (Goes.go M.out hb)
  clear hb
  go_wp2_with fail
  refine (stRight_raw (G := G) (l := ls) (b_ := true) (HR0.out.keep (M.out.2)) (by omega) HSM.out HR.out).mono ?_
  rintro e w5 ⟨rfl, hb⟩
  replace M := Lib.hid (Goes.go M.out hb)
  clear hb
  go_wp2_with fail
  go_ret
  exact ⟨rfl, (M.out.2)⟩
set_option maxRecDepth 100000 in
set_option maxHeartbeats 4000000 in
theorem twice_bad_bad {ls : List LR} {a : Option Addr} {n c : Nat} {w : World} (h : RdR w.heap.size w a n c ls) (_hn0 : n ≤ 9223372036854775807) {rl aa bb : Int} {u0 u1 u2 u3 : Value} {x y : Nat} {o : Option Rat} (h1 : FX w u0 u1 u2 u3 x y o) (hf : fewL ls = true) (hfq : (decide (x ≤ 3) && decide (y ≤ 3)) = true) (_h20 : n ≤ 20) (hr : rightL ls = true) (_ha : 1 ≤ aa) (hb : 1 ≤ bb) (_ha1 : aa ≤ 1099511627776) (_hb1 : bb ≤ 1099511627776) (hv : drErr rl aa (sumN ((ls.map toC).map LC.ly)) ≠ 0) (hw : ∀ q, o = some q → 0 ≤ q → 1099511627776 - sumN ((ls.map toC).map LC.ly) < aa)  :
    Calls Try.prog 4 #[.slice a n c, .int .i64 rl, .int .i64 aa, .int .i64 bb, .agg #[u0, u1, u2, u3]] w fun e w' => e = .returned (.bool true) ∧ Below w.heap.size w w' := by
  obtain ⟨G, hG0⟩ : ∃ G : Nat, G = w.heap.size := ⟨_, rfl⟩
  have hG : G ≤ w.heap.size := by omega
  have HL0 : Hid (RdR G w a n c ls) := by show RdR _ _ _ _ _ _; rw [hG0]; exact h
  have hs_ := few_all hf
  have hr_ := rightL_ok hr
  obtain ⟨l, hl⟩ : ∃ l, l = ls.map toC := ⟨_, rfl⟩
  have HL : Hid (RdC G w a n c l) := by show RdC _ _ _ _ _ _; rw [hG0, hl]; exact h.toC hr_.1
  have HOK : Hid (OkC l) := by show OkC _; rw [hl]; exact hr_.2
  have HZ3 : Hid (FzL l 3) := by show FzL _ _; rw [hl]; exact fz_toC h hr_.1 hs_.1
  have HZ : Hid (FzL l 100000000) := Lib.hid (HZ3.out.mono (by omega))
  have HSM := Lib.hid hs_.1
  have hn : n ≤ 202 := by have h_ := HL0.out.len; omega
  obtain ⟨N0, hN0⟩ : ∃ N, sumN (l.map LC.ly) = N := ⟨_, rfl⟩
  have hN1 : N0 ≤ 1099511627776 := by have h_ := HOK.out.sum; omega
  have HN0 := Lib.hid hN0
  have HF := Lib.hid hf
  have HR := Lib.hid hr
  have HFQ := Lib.hid hfq
  have hxy3 : x ≤ 3 ∧ y ≤ 3 := by simpa using hfq
  clear hfq
  rw [← hl, hN0] at hv
  obtain ⟨er1, he1⟩ : ∃ e, drErr rl aa N0 = e := ⟨_, rfl⟩
  rw [he1] at hv
  have HE1 := Lib.hid he1; have HV := Lib.hid hv; clear he1 hv
  have H1_ := Lib.hid h1
  rw [← hl] at hw
  have HW := Lib.hid hw; clear hw
  have hx3 := hxy3.1
  have hy3 := hxy3.2
  clear hN0 hf hr hs_ hr_
  have ek0 : decide (20 < (n : Int)) = false := decide_eq_false (by omega)
  have ek1 : decide (20 < n) = false := decide_eq_false (by omega)
  have ek2 : ¬ 20 < (n : Int) := by omega
  have e3 : decide (aa < 1) = false := decide_eq_false (by omega)
  have e3i : ¬ aa < 1 := by omega
  have e4 : decide (bb < 1) = false := decide_eq_false (by omega)
  have e4i : ¬ bb < 1 := by omega
  have e5 : decide (1099511627776 < aa) = false := decide_eq_false (by omega)
  have e5i : ¬ 1099511627776 < aa := by omega
  have e6 : decide (1099511627776 < bb) = false := decide_eq_false (by omega)
  have e6i : ¬ 1099511627776 < bb := by omega
  have HR0 : Hid (RdR G w a n c ls) := HL0.out
  have HC0 : Hid (RdC G w a n c l) := HL.out
  have H1 : Hid (FX w u0 u1 u2 u3 x y o) := H1_.out
  clear h h1
  have M : Hid (Below w.heap.size w w) := Below.refl _ _
  go_enter Try.func4, Try.ntmps4
  go_upto_region 1 with fail
  obtain ⟨w1, hv⟩ : ∃ w_ : World, w_ = (w.alloc (.cells #[u0, u1, u2, u3] 29)) := ⟨_, rfl⟩
  rw [← hv]
  replace M := Lib.hid (And.intro (hv ▸ bx1 w 29 #[u0, u1, u2, u3]) (Goes.go M.out (hv ▸ below_alloc _ _ : Below w.heap.size w w1)))
  clear hv
  go_wp2_with fail
  refine (stSmall (G := G) (Nat.le_trans hG (M.out.2).size)).mono ?_
  rintro e w2 ⟨rfl, hb⟩
  replace M := Lib.hid (Goes.go M.out hb)
  clear hb
  go_wp2_with fail
  refine (stFew_ok (G := G) (l := ls) (b_ := true) (HR0.out.keep (M.out.2)) (by omega) HF.out).mono ?_
  rintro e w3 ⟨rfl, hb⟩
  replace M := Lib.hid (Goes.go M.out hb)
  clear hb
  have y0 := (M.out.1).d4; have p0_0 := y0.1; have p0_1 := y0.2.1; have p0_2 := y0.2.2.1; have p0_3 := y0.2.2.2; clear y0
  go_wp2_with fail
  clear p0_0 p0_1 p0_2 p0_3
  refine (fxFew_ok (o := o) (k := 3) (r := true) (H1.out.keep (M.out.2)) (decI.trans HFQ.out)).mono ?_
  rintro e w4 ⟨rfl, hb⟩
  replace M := Lib.hid (Goes.go M.out hb)
  clear hb
  go_wp2_with fail
  refine (stRight_raw (G := G) (l := ls) (b_ := true) (HR0.out.keep (M.out.2)) (by omega) HSM.out HR.out).mono ?_
  rintro e w5 ⟨rfl, hb⟩
  replace M := Lib.hid (Goes.go M.out hb)
  clear hb
  go_wp2_with fail
  refine (draw_err (G := G) (l := l) (er := er1) (rl := rl) (am0 := aa) (Nat.le_trans hG (M.out.2).size) (HC0.out.keep (M.out.2)) HOK.out HZ.out (by rw [HN0.out]; exact HE1.out) HV.out).mono ?_
  rintro e w6 ⟨rfl, hb⟩
  replace M := Lib.hid (Goes.go M.out hb)
  clear hb
  have en1_er1 : (er1 == 0) = false := beq_false_of_ne HV.out
  have en2_er1 : (er1 != 0) = true := bne_iff_ne.2 HV.out
  have en3_er1 : ¬ er1 = 0 := HV.out
  go_upto_region 5 with fail
  obtain ⟨w7, hv⟩ : ∃ w_ : World, w_ = (w6.alloc (.cells #[.int .i64 0, .slice none 0 0, .int .i64 0, .slice none 0 0] 29)) := ⟨_, rfl⟩
  rw [← hv]
  have ow1_ : w.heap.size < w6.heap.size := ((M.out.1)).lt
  replace M := Lib.hid (And.intro (hv ▸ bx1 w6 29 #[.int .i64 0, .slice none 0 0, .int .i64 0, .slice none 0 0]) (Goes.go M.out (hv ▸ below_alloc _ _ : Below w6.heap.size w6 w7)))
  clear hv
  have y0 := (M.out.2.1).d4; have p0_0 := y0.1; have p0_1 := y0.2.1; have p0_2 := y0.2.2.1; have p0_3 := y0.2.2.2; clear y0
  go_wp2_with fail
  clear p0_0 p0_1 p0_2 p0_3
  refine (put_err (G := G) (l := l) (am0 := aa) (o := o) (Nat.le_trans hG (M.out.2.2).size) (HC0.out.keep (M.out.2.2)) HOK.out HZ.out (H1.out.keep (M.out.2.2)) (by omega) (by omega) (by omega) (by omega) HW.out).mono ?_
  rintro e w8 ⟨er_1, rfl, hu2, hb⟩
  replace M := Lib.hid (Goes.go M.out hb)
  clear hb
  replace hu2 := Lib.hid hu2
  have en1_er_1 : (er_1 == 0) = false := beq_false_of_ne hu2.out
  have en2_er_1 : (er_1 != 0) = true := bne_iff_ne.2 hu2.out
  have en3_er_1 : ¬ er_1 = 0 := hu2.out
  go_wp2_with fail
  go_ret
  exact ⟨rfl, (M.out.2.2)⟩
set_option maxRecDepth 100000 in
set_option maxHeartbeats 4000000 in
theorem twice_bad_ok {ls : List LR} {a : Option Addr} {n c : Nat} {w : World} (h : RdR w.heap.size w a n c ls) (_hn0 : n ≤ 9223372036854775807) {rl aa bb : Int} {u0 u1 u2 u3 : Value} {x y : Nat} {o : Option Rat} (h1 : FX w u0 u1 u2 u3 x y o) (hf : fewL ls = true) (hfq : (decide (x ≤ 3) && decide (y ≤ 3)) = true) (_h20 : n ≤ 20) (hr : rightL ls = true) (ha : 1 ≤ aa) (hb : 1 ≤ bb) (_ha1 : aa ≤ 1099511627776) (_hb1 : bb ≤ 1099511627776) (hv : drErr rl aa (sumN ((ls.map toC).map LC.ly)) ≠ 0) {q : Rat} (ho : o = some q) (hq0 : 0 ≤ q) (hw : aa ≤ 1099511627776 - sumN ((ls.map toC).map LC.ly))  :
    Calls Try.prog 4 #[.slice a n c, .int .i64 rl, .int .i64 aa, .int .i64 bb, .agg #[u0, u1, u2, u3]] w fun e w' => e = .returned (.bool true) ∧ Below w.heap.size w w' := by
  obtain ⟨G, hG0⟩ : ∃ G : Nat, G = w.heap.size := ⟨_, rfl⟩
  have hG : G ≤ w.heap.size := by omega
  have HL0 : Hid (RdR G w a n c ls) := by show RdR _ _ _ _ _ _; rw [hG0]; exact h
  have hs_ := few_all hf
  have hr_ := rightL_ok hr
  obtain ⟨l, hl⟩ : ∃ l, l = ls.map toC := ⟨_, rfl⟩
  have HL : Hid (RdC G w a n c l) := by show RdC _ _ _ _ _ _; rw [hG0, hl]; exact h.toC hr_.1
  have HOK : Hid (OkC l) := by show OkC _; rw [hl]; exact hr_.2
  have HZ3 : Hid (FzL l 3) := by show FzL _ _; rw [hl]; exact fz_toC h hr_.1 hs_.1
  have HZ : Hid (FzL l 100000000) := Lib.hid (HZ3.out.mono (by omega))
  have HSM := Lib.hid hs_.1
  have hn : n ≤ 202 := by have h_ := HL0.out.len; omega
  obtain ⟨N0, hN0⟩ : ∃ N, sumN (l.map LC.ly) = N := ⟨_, rfl⟩
  have hN1 : N0 ≤ 1099511627776 := by have h_ := HOK.out.sum; omega
  have HN0 := Lib.hid hN0
  have HF := Lib.hid hf
  have HR := Lib.hid hr
  have HFQ := Lib.hid hfq
  have hxy3 : x ≤ 3 ∧ y ≤ 3 := by simpa using hfq
  clear hfq
  rw [← hl, hN0] at hv
  obtain ⟨er1, he1⟩ : ∃ e, drErr rl aa N0 = e := ⟨_, rfl⟩
  rw [he1] at hv
  have HE1 := Lib.hid he1; have HV := Lib.hid hv; clear he1 hv
  have H1_ := Lib.hid h1
  subst ho
  rw [← hl] at hw
  have HW := Lib.hid hw; have HQ0 := Lib.hid hq0; clear hw hq0
  have HQ : Hid (FQ G w u0 u1 u2 u3 q) := by show FQ _ _ _ _ _ _ _; rw [hG0]; exact H1_.out.fq
  have HQZ : Hid (Fz q 3) := h1.fz hxy3.1 hxy3.2
  have hx3 := hxy3.1
  have hy3 := hxy3.2
  clear hN0 hf hr hs_ hr_
  have ek0 : decide (20 < (n : Int)) = false := decide_eq_false (by omega)
  have ek1 : decide (20 < n) = false := decide_eq_false (by omega)
  have ek2 : ¬ 20 < (n : Int) := by omega
  have e3 : decide (aa < 1) = false := decide_eq_false (by omega)
  have e3i : ¬ aa < 1 := by omega
  have e4 : decide (bb < 1) = false := decide_eq_false (by omega)
  have e4i : ¬ bb < 1 := by omega
  have e5 : decide (1099511627776 < aa) = false := decide_eq_false (by omega)
  have e5i : ¬ 1099511627776 < aa := by omega
  have e6 : decide (1099511627776 < bb) = false := decide_eq_false (by omega)
  have e6i : ¬ 1099511627776 < bb := by omega
  have HR0 : Hid (RdR G w a n c ls) := HL0.out
  have HC0 : Hid (RdC G w a n c l) := HL.out
  have H1 : Hid (FX w u0 u1 u2 u3 x y (some q)) := H1_.out
  have HQ1 : Hid (FQ G w u0 u1 u2 u3 q) := HQ.out
  clear h h1
  have M : Hid (Below w.heap.size w w) := Below.refl _ _
  go_enter Try.func4, Try.ntmps4
  go_upto_region 1 with fail
  obtain ⟨w1, hv⟩ : ∃ w_ : World, w_ = (w.alloc (.cells #[u0, u1, u2, u3] 29)) := ⟨_, rfl⟩
  rw [← hv]
  replace M := Lib.hid (And.intro (hv ▸ bx1 w 29 #[u0, u1, u2, u3]) (Goes.go M.out (hv ▸ below_alloc _ _ : Below w.heap.size w w1)))
  clear hv
  go_wp2_with fail
  refine (stSmall (G := G) (Nat.le_trans hG (M.out.2).size)).mono ?_
  rintro e w2 ⟨rfl, hb⟩
  replace M := Lib.hid (Goes.go M.out hb)
  clear hb
  go_wp2_with fail
  refine (stFew_ok (G := G) (l := ls) (b_ := true) (HR0.out.keep (M.out.2)) (by omega) HF.out).mono ?_
  rintro e w3 ⟨rfl, hb⟩
  replace M := Lib.hid (Goes.go M.out hb)
  clear hb
  have y0 := (M.out.1).d4; have p0_0 := y0.1; have p0_1 := y0.2.1; have p0_2 := y0.2.2.1; have p0_3 := y0.2.2.2; clear y0
  go_wp2_with fail
  clear p0_0 p0_1 p0_2 p0_3
  refine (fxFew_ok (o := (some q)) (k := 3) (r := true) (H1.out.keep (M.out.2)) (decI.trans HFQ.out)).mono ?_
  rintro e w4 ⟨rfl, hb⟩
  replace M := Lib.hid (Goes.go M.out hb)
  clear hb
  go_wp2_with fail
  refine (stRight_raw (G := G) (l := ls) (b_ := true) (HR0.out.keep (M.out.2)) (by omega) HSM.out HR.out).mono ?_
  rintro e w5 ⟨rfl, hb⟩
  replace M := Lib.hid (Goes.go M.out hb)
  clear hb
  go_wp2_with fail
  refine (draw_err (G := G) (l := l) (er := er1) (rl := rl) (am0 := aa) (Nat.le_trans hG (M.out.2).size) (HC0.out.keep (M.out.2)) HOK.out HZ.out (by rw [HN0.out]; exact HE1.out) HV.out).mono ?_
  rintro e w6 ⟨rfl, hb⟩
  replace M := Lib.hid (Goes.go M.out hb)
  clear hb
  have en1_er1 : (er1 == 0) = false := beq_false_of_ne HV.out
  have en2_er1 : (er1 != 0) = true := bne_iff_ne.2 HV.out
  have en3_er1 : ¬ er1 = 0 := HV.out
  go_upto_region 5 with fail
  obtain ⟨w7, hv⟩ : ∃ w_ : World, w_ = (w6.alloc (.cells #[.int .i64 0, .slice none 0 0, .int .i64 0, .slice none 0 0] 29)) := ⟨_, rfl⟩
  rw [← hv]
  have ow1_ : w.heap.size < w6.heap.size := ((M.out.1)).lt
  replace M := Lib.hid (And.intro (hv ▸ bx1 w6 29 #[.int .i64 0, .slice none 0 0, .int .i64 0, .slice none 0 0]) (Goes.go M.out (hv ▸ below_alloc _ _ : Below w6.heap.size w6 w7)))
  clear hv
  have y0 := (M.out.2.1).d4; have p0_0 := y0.1; have p0_1 := y0.2.1; have p0_2 := y0.2.2.1; have p0_3 := y0.2.2.2; clear y0
  go_wp2_with fail
  clear p0_0 p0_1 p0_2 p0_3
  refine (put_ok (G := G) (l := l) (am0 := aa) (q := q) (Nat.le_trans hG (M.out.2.2).size) (HC0.out.keep (M.out.2.2)) HOK.out HZ.out (HQ1.out.keep (M.out.2.2)) (Fz.mono HQZ.out (by omega)) (by omega) (by omega) (by omega) HQ0.out HW.out).mono ?_
  rintro e w8 ⟨a_1, c_2, l_3, rfl, hd4, hu5, hb⟩
  replace M := Lib.hid (And.intro hd4 (Goes.go M.out hb))
  clear hb hd4
  replace hu5 := Lib.hid hu5
  have HOK5 := Lib.hid (put_okC HOK.out (by rw [HL.out.len]; omega) ha HQ0.out HW.out hu5.out)
  have HZ5 := Lib.hid (put_fz HZ3.out HQZ.out hu5.out)
  have HS5 := Lib.hid (put_sum HOK.out hu5.out)
  go_wp2_with fail
  obtain ⟨q14, eq14⟩ : ∃ v_ : Rat, v_ = ((drawR 1 (l_3.map LC.ly) aa).2) := ⟨_, rfl⟩
  refine (draw_ok (G := G) (l := l_3) (rl := 1) (am0 := aa) (Nat.le_trans hG (M.out.2.2.2).size) (M.out.1) HOK5.out (HZ5.out.mono (by omega)) (by decide) (by decide) (by omega) HS5.out).mono ?_
  rintro e w9 ⟨a_6, n_7, c_8, l_9, x_10, x_11, x_12, x_13, rfl, hd15, hu16, hd17, hb⟩
  rw [← eq14] at hd17
  have Eq14 := Lib.hid eq14; clear eq14
  replace M := Lib.hid (And.intro hd15 (And.intro hd17 (Goes.go M.out hb)))
  clear hb hd15 hd17
  replace hu16 := Lib.hid hu16
  have hd_ := put_last (l := l) ha HQ0.out hu5.out hu16.out
  have HB1 := Lib.hid hd_.1; have HB2 := Lib.hid hd_.2; clear hd_
  have HZ6 : Hid (FzL l_9 3) := fz_of_ly (by rw [HB1.out]; exact fun y_ hy_ => by obtain ⟨z_, hz_, rfl⟩ := List.mem_map.1 hy_; exact HZ3.out z_ hz_)
  have hn6_ : n_7 ≤ 1000000 := by have h_ := congrArg List.length HB1.out; rw [List.length_map, List.length_map, (M.out.1).len, HL.out.len] at h_; omega
  have ys_x_10 := TQ.st (M.out.2.1); have st_x_10 := ys_x_10.1; have st_x_11 := ys_x_10.2.1; have st_x_12 := ys_x_10.2.2.1; have st_x_13 := ys_x_10.2.2.2; clear ys_x_10
  go_upto_region 15 with fail
  clear st_x_10 st_x_11 st_x_12 st_x_13
  obtain ⟨w10, hv⟩ : ∃ w_ : World, w_ = (w9.alloc (.cells #[x_10, x_11, x_12, x_13] 29)) := ⟨_, rfl⟩
  rw [← hv]
  have ow2_ : w6.heap.size < w9.heap.size := ((M.out.2.2.2.1)).lt
  replace M := Lib.hid (And.intro (hv ▸ bx1 w9 29 #[x_10, x_11, x_12, x_13]) (Goes.go M.out (hv ▸ below_alloc _ _ : Below w9.heap.size w9 w10)))
  clear hv
  go_wp2_with fail
  refine (stSame (G := G) (l := l_9) (m := l) (b_ := true) (Nat.le_trans hG (M.out.2.2.2.2.2.2).size) (M.out.2.1) (HC0.out.keep (M.out.2.2.2.2.2.2)) (by omega) (by omega) (HZ6.out.mono (by omega)) (HZ.out.mono (by omega)) (decide_eq_true HB1.out)).mono ?_
  rintro e w11 ⟨rfl, hb⟩
  replace M := Lib.hid (Goes.go M.out hb)
  clear hb
  have y2 := (M.out.1).d4; have p2_0 := y2.1; have p2_1 := y2.2.1; have p2_2 := y2.2.2.1; have p2_3 := y2.2.2.2; clear y2
  have y0 := (M.out.2.2.2.2.2.1).d4; have p0_0 := y0.1; have p0_1 := y0.2.1; have p0_2 := y0.2.2.1; have p0_3 := y0.2.2.2; clear y0
  go_wp2_with fail
  clear p2_0 p2_1 p2_2 p2_3 p0_0 p0_1 p0_2 p0_3
  refine (fsame_o (G := G) (o := (some q14)) (p := (some q)) (b_ := true) (M.out.2.2.1) (HQ1.out.keep (M.out.2.2.2.2.2.2)) (Oz.mono (Oz.some_ (show Fz q14 3 by rw [Eq14.out, HB2.out]; exact HQZ.out)) (by omega)) (Oz.mono (Oz.some_ HQZ.out) (by omega)) (decide_eq_true (congrArg some (by rw [Eq14.out]; exact HB2.out)))).mono ?_
  rintro e w12 ⟨rfl, hb⟩
  replace M := Lib.hid (Goes.go M.out hb)
  clear hb
  go_wp2_with fail
  go_ret
  exact ⟨rfl, (M.out.2.2.2.2.2.2)⟩
set_option maxRecDepth 100000 in
set_option maxHeartbeats 4000000 in
theorem twice_both_bad {ls : List LR} {a : Option Addr} {n c : Nat} {w : World} (h : RdR w.heap.size w a n c ls) (_hn0 : n ≤ 9223372036854775807) {rl aa bb : Int} {u0 u1 u2 u3 : Value} {x y : Nat} {o : Option Rat} (h1 : FX w u0 u1 u2 u3 x y o) (hf : fewL ls = true) (hfq : (decide (x ≤ 3) && decide (y ≤ 3)) = true) (_h20 : n ≤ 20) (hr : rightL ls = true) (ha : 1 ≤ aa) (hb : 1 ≤ bb) (_ha1 : aa ≤ 1099511627776) (_hb1 : bb ≤ 1099511627776) (hv : drErr rl aa (sumN ((ls.map toC).map LC.ly)) = 0) (hab : aa + bb ≤ sumN ((ls.map toC).map LC.ly)) (hw : ∀ q, o = some q → 0 ≤ q → 1099511627776 - sumN ((ls.map toC).map LC.ly) < aa)  :
    Calls Try.prog 4 #[.slice a n c, .int .i64 rl, .int .i64 aa, .int .i64 bb, .agg #[u0, u1, u2, u3]] w fun e w' => e = .returned (.bool true) ∧ Below w.heap.size w w' := by
  obtain ⟨G, hG0⟩ : ∃ G : Nat, G = w.heap.size := ⟨_, rfl⟩
  have hG : G ≤ w.heap.size := by omega
  have HL0 : Hid (RdR G w a n c ls) := by show RdR _ _ _ _ _ _; rw [hG0]; exact h
  have hs_ := few_all hf
  have hr_ := rightL_ok hr
  obtain ⟨l, hl⟩ : ∃ l, l = ls.map toC := ⟨_, rfl⟩
  have HL : Hid (RdC G w a n c l) := by show RdC _ _ _ _ _ _; rw [hG0, hl]; exact h.toC hr_.1
  have HOK : Hid (OkC l) := by show OkC _; rw [hl]; exact hr_.2
  have HZ3 : Hid (FzL l 3) := by show FzL _ _; rw [hl]; exact fz_toC h hr_.1 hs_.1
  have HZ : Hid (FzL l 100000000) := Lib.hid (HZ3.out.mono (by omega))
  have HSM := Lib.hid hs_.1
  have hn : n ≤ 202 := by have h_ := HL0.out.len; omega
  obtain ⟨N0, hN0⟩ : ∃ N, sumN (l.map LC.ly) = N := ⟨_, rfl⟩
  have hN1 : N0 ≤ 1099511627776 := by have h_ := HOK.out.sum; omega
  have HN0 := Lib.hid hN0
  have HF := Lib.hid hf
  have HR := Lib.hid hr
  have HFQ := Lib.hid hfq
  have hxy3 : x ≤ 3 ∧ y ≤ 3 := by simpa using hfq
  clear hfq
  rw [← hl, hN0] at hv hab
  obtain ⟨hr0, hr1, -, -, haN⟩ := drErr_ok hv
  clear hv
  have H1_ := Lib.hid h1
  rw [← hl] at hw
  have HW := Lib.hid hw; clear hw
  have hx3 := hxy3.1
  have hy3 := hxy3.2
  clear hN0 hf hr hs_ hr_
  have ek0 : decide (20 < (n : Int)) = false := decide_eq_false (by omega)
  have ek1 : decide (20 < n) = false := decide_eq_false (by omega)
  have ek2 : ¬ 20 < (n : Int) := by omega
  have e3 : decide (aa < 1) = false := decide_eq_false (by omega)
  have e3i : ¬ aa < 1 := by omega
  have e4 : decide (bb < 1) = false := decide_eq_false (by omega)
  have e4i : ¬ bb < 1 := by omega
  have e5 : decide (1099511627776 < aa) = false := decide_eq_false (by omega)
  have e5i : ¬ 1099511627776 < aa := by omega
  have e6 : decide (1099511627776 < bb) = false := decide_eq_false (by omega)
  have e6i : ¬ 1099511627776 < bb := by omega
  have HR0 : Hid (RdR G w a n c ls) := HL0.out
  have HC0 : Hid (RdC G w a n c l) := HL.out
  have H1 : Hid (FX w u0 u1 u2 u3 x y o) := H1_.out
  clear h h1
  have M : Hid (Below w.heap.size w w) := Below.refl _ _
  go_enter Try.func4, Try.ntmps4
  go_upto_region 1 with fail
  obtain ⟨w1, hv⟩ : ∃ w_ : World, w_ = (w.alloc (.cells #[u0, u1, u2, u3] 29)) := ⟨_, rfl⟩
  rw [← hv]
  replace M := Lib.hid (And.intro (hv ▸ bx1 w 29 #[u0, u1, u2, u3]) (Goes.go M.out (hv ▸ below_alloc _ _ : Below w.heap.size w w1)))
  clear hv
  go_wp2_with fail
  refine (stSmall (G := G) (Nat.le_trans hG (M.out.2).size)).mono ?_
  rintro e w2 ⟨rfl, hb⟩
  replace M := Lib.hid (Goes.go M.out hb)
  clear hb
  go_wp2_with fail
  refine (stFew_ok (G := G) (l := ls) (b_ := true) (HR0.out.keep (M.out.2)) (by omega) HF.out).mono ?_
  rintro e w3 ⟨rfl, hb⟩
  replace M := Lib.hid (Goes.go M.out hb)
  clear hb
  have y0 := (M.out.1).d4; have p0_0 := y0.1; have p0_1 := y0.2.1; have p0_2 := y0.2.2.1; have p0_3 := y0.2.2.2; clear y0
  go_wp2_with fail
  clear p0_0 p0_1 p0_2 p0_3
  refine (fxFew_ok (o := o) (k := 3) (r := true) (H1.out.keep (M.out.2)) (decI.trans HFQ.out)).mono ?_
  rintro e w4 ⟨rfl, hb⟩
  replace M := Lib.hid (Goes.go M.out hb)
  clear hb
  go_wp2_with fail
  refine (stRight_raw (G := G) (l := ls) (b_ := true) (HR0.out.keep (M.out.2)) (by omega) HSM.out HR.out).mono ?_
  rintro e w5 ⟨rfl, hb⟩
  replace M := Lib.hid (Goes.go M.out hb)
  clear hb
  go_wp2_with fail
  obtain ⟨q9, eq9⟩ : ∃ v_ : Rat, v_ = ((drawR rl (l.map LC.ly) aa).2) := ⟨_, rfl⟩
  refine (draw_ok (G := G) (l := l) (rl := rl) (am0 := aa) (Nat.le_trans hG (M.out.2).size) (HC0.out.keep (M.out.2)) HOK.out HZ.out (by omega) (by omega) (by omega) (by rw [HN0.out]; exact haN)).mono ?_
  rintro e w6 ⟨a_1, n_2, c_3, l_4, x_5, x_6, x_7, x_8, rfl, hd10, hu11, hd12, hb⟩
  rw [← eq9] at hd12
  have Eq9 := Lib.hid eq9; clear eq9
  replace M := Lib.hid (And.intro hd10 (And.intro hd12 (Goes.go M.out hb)))
  clear hb hd10 hd12
  replace hu11 := Lib.hid hu11
  have hd_ := draw_left (N := 3) HOK.out HZ3.out ha (show aa ≤ sumN (l.map LC.ly) by rw [HN0.out]; exact haN) hu11.out
  have HOKb := Lib.hid hd_.1; have HZb := Lib.hid hd_.2.1; have HZGb := Lib.hid hd_.2.2.1; have HSNb := Lib.hid hd_.2.2.2.1; have HSBb := Lib.hid hd_.2.2.2.2.1; have HGEb := Lib.hid hd_.2.2.2.2.2.1; have HLEb := Lib.hid hd_.2.2.2.2.2.2; clear hd_
  have hn2_ : n_2 ≤ 200 := by have h_ := HLEb.out; rw [(M.out.1).len, HL.out.len] at h_; omega
  have ys_x_5 := TQ.st (M.out.2.1); have st_x_5 := ys_x_5.1; have st_x_6 := ys_x_5.2.1; have st_x_7 := ys_x_5.2.2.1; have st_x_8 := ys_x_5.2.2.2; clear ys_x_5
  go_upto_region 5 with fail
  clear st_x_5 st_x_6 st_x_7 st_x_8
  obtain ⟨w7, hv⟩ : ∃ w_ : World, w_ = (w6.alloc (.cells #[x_5, x_6, x_7, x_8] 29)) := ⟨_, rfl⟩
  rw [← hv]
  have ow1_ : w.heap.size < w6.heap.size := ((M.out.2.2.1)).lt
  replace M := Lib.hid (And.intro (hv ▸ bx1 w6 29 #[x_5, x_6, x_7, x_8]) (Goes.go M.out (hv ▸ below_alloc _ _ : Below w6.heap.size w6 w7)))
  clear hv
  go_wp2_with fail
  obtain ⟨q21, eq21⟩ : ∃ v_ : Rat, v_ = ((drawR rl (l_4.map LC.ly) bb).2) := ⟨_, rfl⟩
  refine (draw_ok (G := G) (l := l_4) (rl := rl) (am0 := bb) (Nat.le_trans hG (M.out.2.2.2.2).size) (M.out.2.1) HOKb.out (HZb.out.mono (by omega)) (by omega) (by omega) (by omega) (by have h_ := HSNb.out; rw [HN0.out] at h_; omega)).mono ?_
  rintro e w8 ⟨a_13, n_14, c_15, l_16, x_17, x_18, x_19, x_20, rfl, hd22, hu23, hd24, hb⟩
  rw [← eq21] at hd24
  have Eq21 := Lib.hid eq21; clear eq21
  replace M := Lib.hid (And.intro hd22 (And.intro hd24 (Goes.go M.out hb)))
  clear hb hd22 hd24
  replace hu23 := Lib.hid hu23
  have hd_ := draw_left (N := 3220) HOKb.out HZb.out hb (show bb ≤ sumN (l_4.map LC.ly) by have h_ := HSNb.out; rw [HN0.out] at h_; omega) hu23.out
  have HOKc := Lib.hid hd_.1; have HZc := Lib.hid hd_.2.1; have HZGc := Lib.hid hd_.2.2.1; have HSNc := Lib.hid hd_.2.2.2.1; have HSBc := Lib.hid hd_.2.2.2.2.1; have HGEc := Lib.hid hd_.2.2.2.2.2.1; have HLEc := Lib.hid hd_.2.2.2.2.2.2; clear hd_
  have hn3_ : n_14 ≤ 200 := by have h_ := HLEc.out; rw [(M.out.1).len] at h_; have h2_ := HOKb.out.len; omega
  have ys_x_17 := TQ.st (M.out.2.1); have st_x_17 := ys_x_17.1; have st_x_18 := ys_x_17.2.1; have st_x_19 := ys_x_17.2.2.1; have st_x_20 := ys_x_17.2.2.2; clear ys_x_17
  go_upto_region 7 with fail
  clear st_x_17 st_x_18 st_x_19 st_x_20
  obtain ⟨w9, hv⟩ : ∃ w_ : World, w_ = (w8.alloc (.cells #[x_17, x_18, x_19, x_20] 29)) := ⟨_, rfl⟩
  rw [← hv]
  have ow2_ : w6.heap.size < w8.heap.size := ((M.out.2.2.1)).lt
  replace M := Lib.hid (And.intro (hv ▸ bx1 w8 29 #[x_17, x_18, x_19, x_20]) (Goes.go M.out (hv ▸ below_alloc _ _ : Below w8.heap.size w8 w9)))
  clear hv
  go_wp2_with fail
  obtain ⟨q33, eq33⟩ : ∃ v_ : Rat, v_ = ((drawR rl (l.map LC.ly) (aa + bb)).2) := ⟨_, rfl⟩
  refine (draw_ok (G := G) (l := l) (rl := rl) (am0 := (aa + bb)) (Nat.le_trans hG (M.out.2.2.2.2.2.2.2).size) (HC0.out.keep (M.out.2.2.2.2.2.2.2)) HOK.out HZ.out (by omega) (by omega) (by omega) (by rw [HN0.out]; exact hab)).mono ?_
  rintro e w10 ⟨a_25, n_26, c_27, l_28, x_29, x_30, x_31, x_32, rfl, hd34, hu35, hd36, hb⟩
  rw [← eq33] at hd36
  have Eq33 := Lib.hid eq33; clear eq33
  replace M := Lib.hid (And.intro hd34 (And.intro hd36 (Goes.go M.out hb)))
  clear hb hd34 hd36
  replace hu35 := Lib.hid hu35
  have hd_ := draw_left (N := 3) HOK.out HZ3.out (by omega) (show aa + bb ≤ sumN (l.map LC.ly) by rw [HN0.out]; exact hab) hu35.out
  have HOKd := Lib.hid hd_.1; have HZd := Lib.hid hd_.2.1; have HZGd := Lib.hid hd_.2.2.1; have HSNd := Lib.hid hd_.2.2.2.1; have HSBd := Lib.hid hd_.2.2.2.2.1; have HGEd := Lib.hid hd_.2.2.2.2.2.1; have HLEd := Lib.hid hd_.2.2.2.2.2.2; clear hd_
  have hn4_ : n_26 ≤ 200 := by have h_ := HLEd.out; rw [(M.out.1).len, HL.out.len] at h_; omega
  have htw_ := twice_same HOK.out ha hb (show aa + bb ≤ sumN (l.map LC.ly) by rw [HN0.out]; exact hab) hu11.out hu23.out hu35.out
  have HT1 := Lib.hid htw_.1; have HT2 := Lib.hid htw_.2; clear htw_
  have ys_x_29 := TQ.st (M.out.2.1); have st_x_29 := ys_x_29.1; have st_x_30 := ys_x_29.2.1; have st_x_31 := ys_x_29.2.2.1; have st_x_32 := ys_x_29.2.2.2; clear ys_x_29
  go_upto_region 8 with fail
  clear st_x_29 st_x_30 st_x_31 st_x_32
  obtain ⟨w11, hv⟩ : ∃ w_ : World, w_ = (w10.alloc (.cells #[x_29, x_30, x_31, x_32] 29)) := ⟨_, rfl⟩
  rw [← hv]
  have ow3_ : w8.heap.size < w10.heap.size := ((M.out.2.2.1)).lt
  replace M := Lib.hid (And.intro (hv ▸ bx1 w10 29 #[x_29, x_30, x_31, x_32]) (Goes.go M.out (hv ▸ below_alloc _ _ : Below w10.heap.size w10 w11)))
  clear hv
  have y1 := (M.out.2.2.2.2.2.2.1).d4; have p1_0 := y1.1; have p1_1 := y1.2.1; have p1_2 := y1.2.2.1; have p1_3 := y1.2.2.2; clear y1
  have y2 := (M.out.2.2.2.1).d4; have p2_0 := y2.1; have p2_1 := y2.2.1; have p2_2 := y2.2.2.1; have p2_3 := y2.2.2.2; clear y2
  go_wp2_with fail
  clear p1_0 p1_1 p1_2 p1_3 p2_0 p2_1 p2_2 p2_3
  obtain ⟨q41, eq41⟩ : ∃ v_ : Rat, v_ = (q9 + q21) := ⟨_, rfl⟩
  refine (fqAdd (G := G) (q := q9) (r := q21) (M.out.2.2.2.2.2.2.2.2.1) (M.out.2.2.2.2.2.1) (Fz.mono (show Fz q9 3220 by rw [Eq9.out]; exact HZGb.out) (by omega)) (Fz.mono (show Fz q21 1290020 by rw [Eq21.out]; exact HZGc.out) (by omega))).mono ?_
  rintro e w12 ⟨x_37, x_38, x_39, x_40, rfl, hd42, hb⟩
  rw [← eq41] at hd42
  have Sq41 : Hid (Fz q41 1293241) := by show Fz q41 1293241; rw [eq41]; exact (Fz.add (show Fz q9 3220 by rw [Eq9.out]; exact HZGb.out) (show Fz q21 1290020 by rw [Eq21.out]; exact HZGc.out))
  have Eq41 := Lib.hid eq41; clear eq41
  replace M := Lib.hid (And.intro hd42 (Goes.go M.out hb))
  clear hb hd42
  have ys_x_37 := TQ.st (M.out.1); have st_x_37 := ys_x_37.1; have st_x_38 := ys_x_37.2.1; have st_x_39 := ys_x_37.2.2.1; have st_x_40 := ys_x_37.2.2.2; clear ys_x_37
  go_upto_region 9 with fail
  clear st_x_37 st_x_38 st_x_39 st_x_40
  obtain ⟨w13, hv⟩ : ∃ w_ : World, w_ = (w12.alloc (.cells #[x_37, x_38, x_39, x_40] 29)) := ⟨_, rfl⟩
  rw [← hv]
  have ow4_ : w10.heap.size < w12.heap.size := ((M.out.2.1)).lt
  replace M := Lib.hid (And.intro (hv ▸ bx1 w12 29 #[x_37, x_38, x_39, x_40]) (Goes.go M.out (hv ▸ below_alloc _ _ : Below w12.heap.size w12 w13)))
  clear hv
  go_wp2_with fail
  replace M := Lib.hid (And.intro (M.out.1) (And.intro (M.out.2.1) (And.intro (M.out.2.2.1) (And.intro (M.out.2.2.2.1) (And.intro (M.out.2.2.2.2.1) (And.intro (M.out.2.2.2.2.2.2.1) (And.intro (M.out.2.2.2.2.2.2.2.2.2.1) (And.intro (M.out.2.2.2.2.2.2.2.2.2.2.2.1) (M.out.2.2.2.2.2.2.2.2.2.2.2.2)))))))))
  refine (stSame (G := G) (l := l_16) (m := l_28) (b_ := true) (Nat.le_trans hG (M.out.2.2.2.2.2.2.2.2).size) (M.out.2.2.2.2.2.1) (M.out.2.2.2.1) (by omega) (by omega) (HZc.out.mono (by omega)) (HZd.out.mono (by omega)) (decide_eq_true HT1.out)).mono ?_
  rintro e w14 ⟨rfl, hb⟩
  replace M := Lib.hid (Goes.go M.out hb)
  clear hb
  have y4 := (M.out.1).d4; have p4_0 := y4.1; have p4_1 := y4.2.1; have p4_2 := y4.2.2.1; have p4_3 := y4.2.2.2; clear y4
  have y3 := (M.out.2.2.1).d4; have p3_0 := y3.1; have p3_1 := y3.2.1; have p3_2 := y3.2.2.1; have p3_3 := y3.2.2.2; clear y3
  go_wp2_with fail
  clear p4_0 p4_1 p4_2 p4_3 p3_0 p3_1 p3_2 p3_3
  refine (fsame_o (G := G) (o := (some q41)) (p := (some q33)) (b_ := true) (M.out.2.1) (M.out.2.2.2.2.1) (Oz.mono (Oz.some_ Sq41.out) (by omega)) (Oz.mono (Oz.some_ (show Fz q33 3220 by rw [Eq33.out]; exact HZGd.out)) (by omega)) (decide_eq_true (congrArg some (by rw [Eq41.out, Eq9.out, Eq21.out, Eq33.out]; exact HT2.out)))).mono ?_
  rintro e w15 ⟨rfl, hb⟩
  replace M := Lib.hid (Goes.go M.out hb)
  clear hb
  have y0 := (M.out.2.2.2.2.2.2.2.1).d4; have p0_0 := y0.1; have p0_1 := y0.2.1; have p0_2 := y0.2.2.1; have p0_3 := y0.2.2.2; clear y0
  go_wp2_with fail
  clear p0_0 p0_1 p0_2 p0_3
  replace M := Lib.hid (And.intro (M.out.2.2.2.1) (And.intro (M.out.2.2.2.2.2.1) (And.intro (M.out.2.2.2.2.2.2.1) (And.intro (M.out.2.2.2.2.2.2.2.1) (M.out.2.2.2.2.2.2.2.2)))))
  refine (put_err (G := G) (l := l) (am0 := aa) (o := o) (Nat.le_trans hG (M.out.2.2.2.2).size) (HC0.out.keep (M.out.2.2.2.2)) HOK.out HZ.out (H1.out.keep (M.out.2.2.2.2)) (by omega) (by omega) (by omega) (by omega) HW.out).mono ?_
  rintro e w16 ⟨er_43, rfl, hu44, hb⟩
  replace M := Lib.hid (Goes.go M.out hb)
  clear hb
  replace hu44 := Lib.hid hu44
  have en1_er_43 : (er_43 == 0) = false := beq_false_of_ne hu44.out
  have en2_er_43 : (er_43 != 0) = true := bne_iff_ne.2 hu44.out
  have en3_er_43 : ¬ er_43 = 0 := hu44.out
  go_wp2_with fail
  go_ret
  exact ⟨rfl, (M.out.2.2.2.2)⟩
set_option maxRecDepth 100000 in
set_option maxHeartbeats 4000000 in
theorem twice_both_ok {ls : List LR} {a : Option Addr} {n c : Nat} {w : World} (h : RdR w.heap.size w a n c ls) (_hn0 : n ≤ 9223372036854775807) {rl aa bb : Int} {u0 u1 u2 u3 : Value} {x y : Nat} {o : Option Rat} (h1 : FX w u0 u1 u2 u3 x y o) (hf : fewL ls = true) (hfq : (decide (x ≤ 3) && decide (y ≤ 3)) = true) (_h20 : n ≤ 20) (hr : rightL ls = true) (ha : 1 ≤ aa) (hb : 1 ≤ bb) (_ha1 : aa ≤ 1099511627776) (_hb1 : bb ≤ 1099511627776) (hv : drErr rl aa (sumN ((ls.map toC).map LC.ly)) = 0) (hab : aa + bb ≤ sumN ((ls.map toC).map LC.ly)) {q : Rat} (ho : o = some q) (hq0 : 0 ≤ q) (hw : aa ≤ 1099511627776 - sumN ((ls.map toC).map LC.ly))  :
    Calls Try.prog 4 #[.slice a n c, .int .i64 rl, .int .i64 aa, .int .i64 bb, .agg #[u0, u1, u2, u3]] w fun e w' => e = .returned (.bool true) ∧ Below w.heap.size w w' := by
  obtain ⟨G, hG0⟩ : ∃ G : Nat, G = w.heap.size := ⟨_, rfl⟩
  have hG : G ≤ w.heap.size := by omega
  have HL0 : Hid (RdR G w a n c ls) := by show RdR _ _ _ _ _ _; rw [hG0]; exact h
  have hs_ := few_all hf
  have hr_ := rightL_ok hr
  obtain ⟨l, hl⟩ : ∃ l, l = ls.map toC := ⟨_, rfl⟩
  have HL : Hid (RdC G w a n c l) := by show RdC _ _ _ _ _ _; rw [hG0, hl]; exact h.toC hr_.1
  have HOK : Hid (OkC l) := by show OkC _; rw [hl]; exact hr_.2
  have HZ3 : Hid (FzL l 3) := by show FzL _ _; rw [hl]; exact fz_toC h hr_.1 hs_.1
  have HZ : Hid (FzL l 100000000) := Lib.hid (HZ3.out.mono (by omega))
  have HSM := Lib.hid hs_.1
  have hn : n ≤ 202 := by have h_ := HL0.out.len; omega
  obtain ⟨N0, hN0⟩ : ∃ N, sumN (l.map LC.ly) = N := ⟨_, rfl⟩
  have hN1 : N0 ≤ 1099511627776 := by have h_ := HOK.out.sum; omega
  have HN0 := Lib.hid hN0
  have HF := Lib.hid hf
  have HR := Lib.hid hr
  have HFQ := Lib.hid hfq
  have hxy3 : x ≤ 3 ∧ y ≤ 3 := by simpa using hfq
  clear hfq
  rw [← hl, hN0] at hv hab
  obtain ⟨hr0, hr1, -, -, haN⟩ := drErr_ok hv
  clear hv
  have H1_ := Lib.hid h1
  subst ho
  rw [← hl] at hw
  have HW := Lib.hid hw; have HQ0 := Lib.hid hq0; clear hw hq0
  have HQ : Hid (FQ G w u0 u1 u2 u3 q) := by show FQ _ _ _ _ _ _ _; rw [hG0]; exact H1_.out.fq
  have HQZ : Hid (Fz q 3) := h1.fz hxy3.1 hxy3.2
  have hx3 := hxy3.1
  have hy3 := hxy3.2
  clear hN0 hf hr hs_ hr_
  have ek0 : decide (20 < (n : Int)) = false := decide_eq_false (by omega)
  have ek1 : decide (20 < n) = false := decide_eq_false (by omega)
  have ek2 : ¬ 20 < (n : Int) := by omega
  have e3 : decide (aa < 1) = false := decide_eq_false (by omega)
  have e3i : ¬ aa < 1 := by omega
  have e4 : decide (bb < 1) = false := decide_eq_false (by omega)
  have e4i : ¬ bb < 1 := by omega
  have e5 : decide (1099511627776 < aa) = false := decide_eq_false (by omega)
  have e5i : ¬ 1099511627776 < aa := by omega
  have e6 : decide (1099511627776 < bb) = false := decide_eq_false (by omega)
  have e6i : ¬ 1099511627776 < bb := by omega
  have HR0 : Hid (RdR G w a n c ls) := HL0.out
  have HC0 : Hid (RdC G w a n c l) := HL.out
  have H1 : Hid (FX w u0 u1 u2 u3 x y (some q)) := H1_.out
  have HQ1 : Hid (FQ G w u0 u1 u2 u3 q) := HQ.out
  clear h h1
  have M : Hid (Below w.heap.size w w) := Below.refl _ _
  go_enter Try.func4, Try.ntmps4
  go_upto_region 1 with fail
  obtain ⟨w1, hv⟩ : ∃ w_ : World, w_ = (w.alloc (.cells #[u0, u1, u2, u3] 29)) := ⟨_, rfl⟩
  rw [← hv]
  replace M := Lib.hid (And.intro (hv ▸ bx1 w 29 #[u0, u1, u2, u3]) (Goes.go M.out (hv ▸ below_alloc _ _ : Below w.heap.size w w1)))
  clear hv
  go_wp2_with fail
  refine (stSmall (G := G) (Nat.le_trans hG (M.out.2).size)).mono ?_
  rintro e w2 ⟨rfl, hb⟩
  replace M := Lib.hid (Goes.go M.out hb)
  clear hb
  go_wp2_with fail
  refine (stFew_ok (G := G) (l := ls) (b_ := true) (HR0.out.keep (M.out.2)) (by omega) HF.out).mono ?_
  rintro e w3 ⟨rfl, hb⟩
  replace M := Lib.hid (Goes.go M.out hb)
  clear hb
  have y0 := (M.out.1).d4; have p0_0 := y0.1; have p0_1 := y0.2.1; have p0_2 := y0.2.2.1; have p0_3 := y0.2.2.2; clear y0
  go_wp2_with fail
  clear p0_0 p0_1 p0_2 p0_3
  refine (fxFew_ok (o := (some q)) (k := 3) (r := true) (H1.out.keep (M.out.2)) (decI.trans HFQ.out)).mono ?_
  rintro e w4 ⟨rfl, hb⟩
  replace M := Lib.hid (Goes.go M.out hb)
  clear hb
  go_wp2_with fail
  refine (stRight_raw (G := G) (l := ls) (b_ := true) (HR0.out.keep (M.out.2)) (by omega) HSM.out HR.out).mono ?_
  rintro e w5 ⟨rfl, hb⟩
  replace M := Lib.hid (Goes.go M.out hb)
  clear hb
  go_wp2_with fail
  obtain ⟨q9, eq9⟩ : ∃ v_ : Rat, v_ = ((drawR rl (l.map LC.ly) aa).2) := ⟨_, rfl⟩
  refine (draw_ok (G := G) (l := l) (rl := rl) (am0 := aa) (Nat.le_trans hG (M.out.2).size) (HC0.out.keep (M.out.2)) HOK.out HZ.out (by omega) (by omega) (by omega) (by rw [HN0.out]; exact haN)).mono ?_
  rintro e w6 ⟨a_1, n_2, c_3, l_4, x_5, x_6, x_7, x_8, rfl, hd10, hu11, hd12, hb⟩
  rw [← eq9] at hd12
  have Eq9 := Lib.hid eq9; clear eq9
  replace M := Lib.hid (And.intro hd10 (And.intro hd12 (Goes.go M.out hb)))
  clear hb hd10 hd12
  replace hu11 := Lib.hid hu11
  have hd_ := draw_left (N := 3) HOK.out HZ3.out ha (show aa ≤ sumN (l.map LC.ly) by rw [HN0.out]; exact haN) hu11.out
  have HOKb := Lib.hid hd_.1; have HZb := Lib.hid hd_.2.1; have HZGb := Lib.hid hd_.2.2.1; have HSNb := Lib.hid hd_.2.2.2.1; have HSBb := Lib.hid hd_.2.2.2.2.1; have HGEb := Lib.hid hd_.2.2.2.2.2.1; have HLEb := Lib.hid hd_.2.2.2.2.2.2; clear hd_
  have hn2_ : n_2 ≤ 200 := by have h_ := HLEb.out; rw [(M.out.1).len, HL.out.len] at h_; omega
  have ys_x_5 := TQ.st (M.out.2.1); have st_x_5 := ys_x_5.1; have st_x_6 := ys_x_5.2.1; have st_x_7 := ys_x_5.2.2.1; have st_x_8 := ys_x_5.2.2.2; clear ys_x_5
  go_upto_region 5 with fail
  clear st_x_5 st_x_6 st_x_7 st_x_8
  obtain ⟨w7, hv⟩ : ∃ w_ : World, w_ = (w6.alloc (.cells #[x_5, x_6, x_7, x_8] 29)) := ⟨_, rfl⟩
  rw [← hv]
  have ow1_ : w.heap.size < w6.heap.size := ((M.out.2.2.1)).lt
  replace M := Lib.hid (And.intro (hv ▸ bx1 w6 29 #[x_5, x_6, x_7, x_8]) (Goes.go M.out (hv ▸ below_alloc _ _ : Below w6.heap.size w6 w7)))
  clear hv
  go_wp2_with fail
  obtain ⟨q21, eq21⟩ : ∃ v_ : Rat, v_ = ((drawR rl (l_4.map LC.ly) bb).2) := ⟨_, rfl⟩
  refine (draw_ok (G := G) (l := l_4) (rl := rl) (am0 := bb) (Nat.le_trans hG (M.out.2.2.2.2).size) (M.out.2.1) HOKb.out (HZb.out.mono (by omega)) (by omega) (by omega) (by omega) (by have h_ := HSNb.out; rw [HN0.out] at h_; omega)).mono ?_
  rintro e w8 ⟨a_13, n_14, c_15, l_16, x_17, x_18, x_19, x_20, rfl, hd22, hu23, hd24, hb⟩
  rw [← eq21] at hd24
  have Eq21 := Lib.hid eq21; clear eq21
  replace M := Lib.hid (And.intro hd22 (And.intro hd24 (Goes.go M.out hb)))
  clear hb hd22 hd24
  replace hu23 := Lib.hid hu23
  have hd_ := draw_left (N := 3220) HOKb.out HZb.out hb (show bb ≤ sumN (l_4.map LC.ly) by have h_ := HSNb.out; rw [HN0.out] at h_; omega) hu23.out
  have HOKc := Lib.hid hd_.1; have HZc := Lib.hid hd_.2.1; have HZGc := Lib.hid hd_.2.2.1; have HSNc := Lib.hid hd_.2.2.2.1; have HSBc := Lib.hid hd_.2.2.2.2.1; have HGEc := Lib.hid hd_.2.2.2.2.2.1; have HLEc := Lib.hid hd_.2.2.2.2.2.2; clear hd_
  have hn3_ : n_14 ≤ 200 := by have h_ := HLEc.out; rw [(M.out.1).len] at h_; have h2_ := HOKb.out.len; omega
  have ys_x_17 := TQ.st (M.out.2.1); have st_x_17 := ys_x_17.1; have st_x_18 := ys_x_17.2.1; have st_x_19 := ys_x_17.2.2.1; have st_x_20 := ys_x_17.2.2.2; clear ys_x_17
  go_upto_region 7 with fail
  clear st_x_17 st_x_18 st_x_19 st_x_20
  obtain ⟨w9, hv⟩ : ∃ w_ : World, w_ = (w8.alloc (.cells #[x_17, x_18, x_19, x_20] 29)) := ⟨_, rfl⟩
  rw [← hv]
  have ow2_ : w6.heap.size < w8.heap.size := ((M.out.2.2.1)).lt
  replace M := Lib.hid (And.intro (hv ▸ bx1 w8 29 #[x_17, x_18, x_19, x_20]) (Goes.go M.out (hv ▸ below_alloc _ _ : Below w8.heap.size w8 w9)))
  clear hv
  go_wp2_with fail
  obtain ⟨q33, eq33⟩ : ∃ v_ : Rat, v_ = ((drawR rl (l.map LC.ly) (aa + bb)).2) := ⟨_, rfl⟩
  refine (draw_ok (G := G) (l := l) (rl := rl) (am0 := (aa + bb)) (Nat.le_trans hG (M.out.2.2.2.2.2.2.2).size) (HC0.out.keep (M.out.2.2.2.2.2.2.2)) HOK.out HZ.out (by omega) (by omega) (by omega) (by rw [HN0.out]; exact hab)).mono ?_
  rintro e w10 ⟨a_25, n_26, c_27, l_28, x_29, x_30, x_31, x_32, rfl, hd34, hu35, hd36, hb⟩
  rw [← eq33] at hd36
  have Eq33 := Lib.hid eq33; clear eq33
  replace M := Lib.hid (And.intro hd34 (And.intro hd36 (Goes.go M.out hb)))
  clear hb hd34 hd36
  replace hu35 := Lib.hid hu35
  have hd_ := draw_left (N := 3) HOK.out HZ3.out (by omega) (show aa + bb ≤ sumN (l.map LC.ly) by rw [HN0.out]; exact hab) hu35.out
  have HOKd := Lib.hid hd_.1; have HZd := Lib.hid hd_.2.1; have HZGd := Lib.hid hd_.2.2.1; have HSNd := Lib.hid hd_.2.2.2.1; have HSBd := Lib.hid hd_.2.2.2.2.1; have HGEd := Lib.hid hd_.2.2.2.2.2.1; have HLEd := Lib.hid hd_.2.2.2.2.2.2; clear hd_
  have hn4_ : n_26 ≤ 200 := by have h_ := HLEd.out; rw [(M.out.1).len, HL.out.len] at h_; omega
  have htw_ := twice_same HOK.out ha hb (show aa + bb ≤ sumN (l.map LC.ly) by rw [HN0.out]; exact hab) hu11.out hu23.out hu35.out
  have HT1 := Lib.hid htw_.1; have HT2 := Lib.hid htw_.2; clear htw_
  have ys_x_29 := TQ.st (M.out.2.1); have st_x_29 := ys_x_29.1; have st_x_30 := ys_x_29.2.1; have st_x_31 := ys_x_29.2.2.1; have st_x_32 := ys_x_29.2.2.2; clear ys_x_29
  go_upto_region 8 with fail
  clear st_x_29 st_x_30 st_x_31 st_x_32
  obtain ⟨w11, hv⟩ : ∃ w_ : World, w_ = (w10.alloc (.cells #[x_29, x_30, x_31, x_32] 29)) := ⟨_, rfl⟩
  rw [← hv]
  have ow3_ : w8.heap.size < w10.heap.size := ((M.out.2.2.1)).lt
  replace M := Lib.hid (And.intro (hv ▸ bx1 w10 29 #[x_29, x_30, x_31, x_32]) (Goes.go M.out (hv ▸ below_alloc _ _ : Below w10.heap.size w10 w11)))
  clear hv
  have y1 := (M.out.2.2.2.2.2.2.1).d4; have p1_0 := y1.1; have p1_1 := y1.2.1; have p1_2 := y1.2.2.1; have p1_3 := y1.2.2.2; clear y1
  have y2 := (M.out.2.2.2.1).d4; have p2_0 := y2.1; have p2_1 := y2.2.1; have p2_2 := y2.2.2.1; have p2_3 := y2.2.2.2; clear y2
  go_wp2_with fail
  clear p1_0 p1_1 p1_2 p1_3 p2_0 p2_1 p2_2 p2_3
  obtain ⟨q41, eq41⟩ : ∃ v_ : Rat, v_ = (q9 + q21) := ⟨_, rfl⟩
  refine (fqAdd (G := G) (q := q9) (r := q21) (M.out.2.2.2.2.2.2.2.2.1) (M.out.2.2.2.2.2.1) (Fz.mono (show Fz q9 3220 by rw [Eq9.out]; exact HZGb.out) (by omega)) (Fz.mono (show Fz q21 1290020 by rw [Eq21.out]; exact HZGc.out) (by omega))).mono ?_
  rintro e w12 ⟨x_37, x_38, x_39, x_40, rfl, hd42, hb⟩
  rw [← eq41] at hd42
  have Sq41 : Hid (Fz q41 1293241) := by show Fz q41 1293241; rw [eq41]; exact (Fz.add (show Fz q9 3220 by rw [Eq9.out]; exact HZGb.out) (show Fz q21 1290020 by rw [Eq21.out]; exact HZGc.out))
  have Eq41 := Lib.hid eq41; clear eq41
  replace M := Lib.hid (And.intro hd42 (Goes.go M.out hb))
  clear hb hd42
  have ys_x_37 := TQ.st (M.out.1); have st_x_37 := ys_x_37.1; have st_x_38 := ys_x_37.2.1; have st_x_39 := ys_x_37.2.2.1; have st_x_40 := ys_x_37.2.2.2; clear ys_x_37
  go_upto_region 9 with fail
  clear st_x_37 st_x_38 st_x_39 st_x_40
  obtain ⟨w13, hv⟩ : ∃ w_ : World, w_ = (w12.alloc (.cells #[x_37, x_38, x_39, x_40] 29)) := ⟨_, rfl⟩
  rw [← hv]
  have ow4_ : w10.heap.size < w12.heap.size := ((M.out.2.1)).lt
  replace M := Lib.hid (And.intro (hv ▸ bx1 w12 29 #[x_37, x_38, x_39, x_40]) (Goes.go M.out (hv ▸ below_alloc _ _ : Below w12.heap.size w12 w13)))
  clear hv
  go_wp2_with fail
  replace M := Lib.hid (And.intro (M.out.1) (And.intro (M.out.2.1) (And.intro (M.out.2.2.1) (And.intro (M.out.2.2.2.1) (And.intro (M.out.2.2.2.2.1) (And.intro (M.out.2.2.2.2.2.2.1) (And.intro (M.out.2.2.2.2.2.2.2.2.2.1) (And.intro (M.out.2.2.2.2.2.2.2.2.2.2.2.1) (M.out.2.2.2.2.2.2.2.2.2.2.2.2)))))))))
  refine (stSame (G := G) (l := l_16) (m := l_28) (b_ := true) (Nat.le_trans hG (M.out.2.2.2.2.2.2.2.2).size) (M.out.2.2.2.2.2.1) (M.out.2.2.2.1) (by omega) (by omega) (HZc.out.mono (by omega)) (HZd.out.mono (by omega)) (decide_eq_true HT1.out)).mono ?_
  rintro e w14 ⟨rfl, hb⟩
  replace M := Lib.hid (Goes.go M.out hb)
  clear hb
  have y4 := (M.out.1).d4; have p4_0 := y4.1; have p4_1 := y4.2.1; have p4_2 := y4.2.2.1; have p4_3 := y4.2.2.2; clear y4
  have y3 := (M.out.2.2.1).d4; have p3_0 := y3.1; have p3_1 := y3.2.1; have p3_2 := y3.2.2.1; have p3_3 := y3.2.2.2; clear y3
  go_wp2_with fail
  clear p4_0 p4_1 p4_2 p4_3 p3_0 p3_1 p3_2 p3_3
  refine (fsame_o (G := G) (o := (some q41)) (p := (some q33)) (b_ := true) (M.out.2.1) (M.out.2.2.2.2.1) (Oz.mono (Oz.some_ Sq41.out) (by omega)) (Oz.mono (Oz.some_ (show Fz q33 3220 by rw [Eq33.out]; exact HZGd.out)) (by omega)) (decide_eq_true (congrArg some (by rw [Eq41.out, Eq9.out, Eq21.out, Eq33.out]; exact HT2.out)))).mono ?_
  rintro e w15 ⟨rfl, hb⟩
  replace M := Lib.hid (Goes.go M.out hb)
  clear hb
  have y0 := (M.out.2.2.2.2.2.2.2.1).d4; have p0_0 := y0.1; have p0_1 := y0.2.1; have p0_2 := y0.2.2.1; have p0_3 := y0.2.2.2; clear y0
  go_wp2_with fail
  clear p0_0 p0_1 p0_2 p0_3
  replace M := Lib.hid (And.intro (M.out.2.2.2.1) (And.intro (M.out.2.2.2.2.2.1) (And.intro (M.out.2.2.2.2.2.2.1) (And.intro (M.out.2.2.2.2.2.2.2.1) (M.out.2.2.2.2.2.2.2.2)))))
  refine (put_ok (G := G) (l := l) (am0 := aa) (q := q) (Nat.le_trans hG (M.out.2.2.2.2).size) (HC0.out.keep (M.out.2.2.2.2)) HOK.out HZ.out (HQ1.out.keep (M.out.2.2.2.2)) (Fz.mono HQZ.out (by omega)) (by omega) (by omega) (by omega) HQ0.out HW.out).mono ?_
  rintro e w16 ⟨a_43, c_44, l_45, rfl, hd46, hu47, hb⟩
  replace M := Lib.hid (And.intro hd46 (Goes.go M.out hb))
  clear hb hd46
  replace hu47 := Lib.hid hu47
  have HOK5 := Lib.hid (put_okC HOK.out (by rw [HL.out.len]; omega) ha HQ0.out HW.out hu47.out)
  have HZ5 := Lib.hid (put_fz HZ3.out HQZ.out hu47.out)
  have HS5 := Lib.hid (put_sum HOK.out hu47.out)
  go_wp2_with fail
  obtain ⟨q56, eq56⟩ : ∃ v_ : Rat, v_ = ((drawR 1 (l_45.map LC.ly) aa).2) := ⟨_, rfl⟩
  refine (draw_ok (G := G) (l := l_45) (rl := 1) (am0 := aa) (Nat.le_trans hG (M.out.2.2.2.2.2).size) (M.out.1) HOK5.out (HZ5.out.mono (by omega)) (by decide) (by decide) (by omega) HS5.out).mono ?_
  rintro e w17 ⟨a_48, n_49, c_50, l_51, x_52, x_53, x_54, x_55, rfl, hd57, hu58, hd59, hb⟩
  rw [← eq56] at hd59
  have Eq56 := Lib.hid eq56; clear eq56
  replace M := Lib.hid (And.intro hd57 (And.intro hd59 (Goes.go M.out hb)))
  clear hb hd57 hd59
  replace hu58 := Lib.hid hu58
  have hd_ := put_last (l := l) ha HQ0.out hu47.out hu58.out
  have HB1 := Lib.hid hd_.1; have HB2 := Lib.hid hd_.2; clear hd_
  have HZ6 : Hid (FzL l_51 3) := fz_of_ly (by rw [HB1.out]; exact fun y_ hy_ => by obtain ⟨z_, hz_, rfl⟩ := List.mem_map.1 hy_; exact HZ3.out z_ hz_)
  have hn6_ : n_49 ≤ 1000000 := by have h_ := congrArg List.length HB1.out; rw [List.length_map, List.length_map, (M.out.1).len, HL.out.len] at h_; omega
  have ys_x_52 := TQ.st (M.out.2.1); have st_x_52 := ys_x_52.1; have st_x_53 := ys_x_52.2.1; have st_x_54 := ys_x_52.2.2.1; have st_x_55 := ys_x_52.2.2.2; clear ys_x_52
  go_upto_region 15 with fail
  clear st_x_52 st_x_53 st_x_54 st_x_55
  obtain ⟨w18, hv⟩ : ∃ w_ : World, w_ = (w17.alloc (.cells #[x_52, x_53, x_54, x_55] 29)) := ⟨_, rfl⟩
  rw [← hv]
  have ow5_ : w.heap.size < w17.heap.size := ((M.out.2.2.2.2.2.2.1)).lt
  replace M := Lib.hid (And.intro (hv ▸ bx1 w17 29 #[x_52, x_53, x_54, x_55]) (Goes.go M.out (hv ▸ below_alloc _ _ : Below w17.heap.size w17 w18)))
  clear hv
  go_wp2_with fail
  refine (stSame (G := G) (l := l_51) (m := l) (b_ := true) (Nat.le_trans hG (M.out.2.2.2.2.2.2.2.2).size) (M.out.2.1) (HC0.out.keep (M.out.2.2.2.2.2.2.2.2)) (by omega) (by omega) (HZ6.out.mono (by omega)) (HZ.out.mono (by omega)) (decide_eq_true HB1.out)).mono ?_
  rintro e w19 ⟨rfl, hb⟩
  replace M := Lib.hid (Goes.go M.out hb)
  clear hb
  have y5 := (M.out.1).d4; have p5_0 := y5.1; have p5_1 := y5.2.1; have p5_2 := y5.2.2.1; have p5_3 := y5.2.2.2; clear y5
  have y0 := (M.out.2.2.2.2.2.2.2.1).d4; have p0_0 := y0.1; have p0_1 := y0.2.1; have p0_2 := y0.2.2.1; have p0_3 := y0.2.2.2; clear y0
  go_wp2_with fail
  clear p5_0 p5_1 p5_2 p5_3 p0_0 p0_1 p0_2 p0_3
  refine (fsame_o (G := G) (o := (some q56)) (p := (some q)) (b_ := true) (M.out.2.2.1) (HQ1.out.keep (M.out.2.2.2.2.2.2.2.2)) (Oz.mono (Oz.some_ (show Fz q56 3 by rw [Eq56.out, HB2.out]; exact HQZ.out)) (by omega)) (Oz.mono (Oz.some_ HQZ.out) (by omega)) (decide_eq_true (congrArg some (by rw [Eq56.out]; exact HB2.out)))).mono ?_
  rintro e w20 ⟨rfl, hb⟩
  replace M := Lib.hid (Goes.go M.out hb)
  clear hb
  go_wp2_with fail
  go_ret
  exact ⟨rfl, (M.out.2.2.2.2.2.2.2.2)⟩
set_option maxRecDepth 100000 in
set_option maxHeartbeats 4000000 in
theorem twice_over_bad {ls : List LR} {a : Option Addr} {n c : Nat} {w : World} (h : RdR w.heap.size w a n c ls) (_hn0 : n ≤ 9223372036854775807) {rl aa bb : Int} {u0 u1 u2 u3 : Value} {x y : Nat} {o : Option Rat} (h1 : FX w u0 u1 u2 u3 x y o) (hf : fewL ls = true) (hfq : (decide (x ≤ 3) && decide (y ≤ 3)) = true) (_h20 : n ≤ 20) (hr : rightL ls = true) (ha : 1 ≤ aa) (hb : 1 ≤ bb) (_ha1 : aa ≤ 1099511627776) (_hb1 : bb ≤ 1099511627776) (hv : drErr rl aa (sumN ((ls.map toC).map LC.ly)) = 0) (hab : sumN ((ls.map toC).map LC.ly) < aa + bb) (hw : ∀ q, o = some q → 0 ≤ q → 1099511627776 - sumN ((ls.map toC).map LC.ly) < aa)  :
    Calls Try.prog 4 #[.slice a n c, .int .i64 rl, .int .i64 aa, .int .i64 bb, .agg #[u0, u1, u2, u3]] w fun e w' => e = .returned (.bool true) ∧ Below w.heap.size w w' := by
  obtain ⟨G, hG0⟩ : ∃ G : Nat, G = w.heap.size := ⟨_, rfl⟩
  have hG : G ≤ w.heap.size := by omega
  have HL0 : Hid (RdR G w a n c ls) := by show RdR _ _ _ _ _ _; rw [hG0]; exact h
  have hs_ := few_all hf
  have hr_ := rightL_ok hr
  obtain ⟨l, hl⟩ : ∃ l, l = ls.map toC := ⟨_, rfl⟩
  have HL : Hid (RdC G w a n c l) := by show RdC _ _ _ _ _ _; rw [hG0, hl]; exact h.toC hr_.1
  have HOK : Hid (OkC l) := by show OkC _; rw [hl]; exact hr_.2
  have HZ3 : Hid (FzL l 3) := by show FzL _ _; rw [hl]; exact fz_toC h hr_.1 hs_.1
  have HZ : Hid (FzL l 100000000) := Lib.hid (HZ3.out.mono (by omega))
  have HSM := Lib.hid hs_.1
  have hn : n ≤ 202 := by have h_ := HL0.out.len; omega
  obtain ⟨N0, hN0⟩ : ∃ N, sumN (l.map LC.ly) = N := ⟨_, rfl⟩
  have hN1 : N0 ≤ 1099511627776 := by have h_ := HOK.out.sum; omega
  have HN0 := Lib.hid hN0
  have HF := Lib.hid hf
  have HR := Lib.hid hr
  have HFQ := Lib.hid hfq
  have hxy3 : x ≤ 3 ∧ y ≤ 3 := by simpa using hfq
  clear hfq
  rw [← hl, hN0] at hv hab
  obtain ⟨hr0, hr1, -, -, haN⟩ := drErr_ok hv
  clear hv
  obtain ⟨er2, he2⟩ : ∃ e, drErr rl bb (N0 - aa) = e := ⟨_, rfl⟩
  obtain ⟨er3, he3⟩ : ∃ e, drErr rl (aa + bb) N0 = e := ⟨_, rfl⟩
  have hv2 : er2 ≠ 0 := by rw [← he2]; exact drErr_over (by omega)
  have hv3 : er3 ≠ 0 := by rw [← he3]; exact drErr_over (by omega)
  have HE2 := Lib.hid he2; have HE3 := Lib.hid he3; have HV2 := Lib.hid hv2; have HV3 := Lib.hid hv3; clear he2 he3 hv2 hv3
  have H1_ := Lib.hid h1
  rw [← hl] at hw
  have HW := Lib.hid hw; clear hw
  have hx3 := hxy3.1
  have hy3 := hxy3.2
  clear hN0 hf hr hs_ hr_
  have ek0 : decide (20 < (n : Int)) = false := decide_eq_false (by omega)
  have ek1 : decide (20 < n) = false := decide_eq_false (by omega)
  have ek2 : ¬ 20 < (n : Int) := by omega
  have e3 : decide (aa < 1) = false := decide_eq_false (by omega)
  have e3i : ¬ aa < 1 := by omega
  have e4 : decide (bb < 1) = false := decide_eq_false (by omega)
  have e4i : ¬ bb < 1 := by omega
  have e5 : decide (1099511627776 < aa) = false := decide_eq_false (by omega)
  have e5i : ¬ 1099511627776 < aa := by omega
  have e6 : decide (1099511627776 < bb) = false := decide_eq_false (by omega)
  have e6i : ¬ 1099511627776 < bb := by omega
  have HR0 : Hid (RdR G w a n c ls) := HL0.out
  have HC0 : Hid (RdC G w a n c l) := HL.out
  have H1 : Hid (FX w u0 u1 u2 u3 x y o) := H1_.out
  clear h h1
  have M : Hid (Below w.heap.size w w) := Below.refl _ _
  go_enter Try.func4, Try.ntmps4
  go_upto_region 1 with fail
  obtain ⟨w1, hv⟩ : ∃ w_ : World, w_ = (w.alloc (.cells #[u0, u1, u2, u3] 29)) := ⟨_, rfl⟩
  rw [← hv]
  replace M := Lib.hid (And.intro (hv ▸ bx1 w 29 #[u0, u1, u2, u3]) (Goes.go M.out (hv ▸ below_alloc _ _ : Below w.heap.size w w1)))
  clear hv
  go_wp2_with fail
  refine (stSmall (G := G) (Nat.le_trans hG (M.out.2).size)).mono ?_
  rintro e w2 ⟨rfl, hb⟩
  replace M := Lib.hid (Goes.go M.out hb)
  clear hb
  go_wp2_with fail
  refine (stFew_ok (G := G) (l := ls) (b_ := true) (HR0.out.keep (M.out.2)) (by omega) HF.out).mono ?_
  rintro e w3 ⟨rfl, hb⟩
  replace M := Lib.hid (Goes.go M.out hb)
  clear hb
  have y0 := (M.out.1).d4; have p0_0 := y0.1; have p0_1 := y0.2.1; have p0_2 := y0.2.2.1; have p0_3 := y0.2.2.2; clear y0
  go_wp2_with fail
  clear p0_0 p0_1 p0_2 p0_3
  refine (fxFew_ok (o := o) (k := 3) (r := true) (H1.out.keep (M.out.2)) (decI.trans HFQ.out)).mono ?_
  rintro e w4 ⟨rfl, hb⟩
  replace M := Lib.hid (Goes.go M.out hb)
  clear hb
  go_wp2_with fail
  refine (stRight_raw (G := G) (l := ls) (b_ := true) (HR0.out.keep (M.out.2)) (by omega) HSM.out HR.out).mono ?_
  rintro e w5 ⟨rfl, hb⟩
  replace M := Lib.hid (Goes.go M.out hb)
  clear hb
  go_wp2_with fail
  obtain ⟨q9, eq9⟩ : ∃ v_ : Rat, v_ = ((drawR rl (l.map LC.ly) aa).2) := ⟨_, rfl⟩
  refine (draw_ok (G := G) (l := l) (rl := rl) (am0 := aa) (Nat.le_trans hG (M.out.2).size) (HC0.out.keep (M.out.2)) HOK.out HZ.out (by omega) (by omega) (by omega) (by rw [HN0.out]; exact haN)).mono ?_
  rintro e w6 ⟨a_1, n_2, c_3, l_4, x_5, x_6, x_7, x_8, rfl, hd10, hu11, hd12, hb⟩
  rw [← eq9] at hd12
  have Eq9 := Lib.hid eq9; clear eq9
  replace M := Lib.hid (And.intro hd10 (And.intro hd12 (Goes.go M.out hb)))
  clear hb hd10 hd12
  replace hu11 := Lib.hid hu11
  have hd_ := draw_left (N := 3) HOK.out HZ3.out ha (show aa ≤ sumN (l.map LC.ly) by rw [HN0.out]; exact haN) hu11.out
  have HOKb := Lib.hid hd_.1; have HZb := Lib.hid hd_.2.1; have HZGb := Lib.hid hd_.2.2.1; have HSNb := Lib.hid hd_.2.2.2.1; have HSBb := Lib.hid hd_.2.2.2.2.1; have HGEb := Lib.hid hd_.2.2.2.2.2.1; have HLEb := Lib.hid hd_.2.2.2.2.2.2; clear hd_
  have hn2_ : n_2 ≤ 200 := by have h_ := HLEb.out; rw [(M.out.1).len, HL.out.len] at h_; omega
  have ys_x_5 := TQ.st (M.out.2.1); have st_x_5 := ys_x_5.1; have st_x_6 := ys_x_5.2.1; have st_x_7 := ys_x_5.2.2.1; have st_x_8 := ys_x_5.2.2.2; clear ys_x_5
  go_upto_region 5 with fail
  clear st_x_5 st_x_6 st_x_7 st_x_8
  obtain ⟨w7, hv⟩ : ∃ w_ : World, w_ = (w6.alloc (.cells #[x_5, x_6, x_7, x_8] 29)) := ⟨_, rfl⟩
  rw [← hv]
  have ow1_ : w.heap.size < w6.heap.size := ((M.out.2.2.1)).lt
  replace M := Lib.hid (And.intro (hv ▸ bx1 w6 29 #[x_5, x_6, x_7, x_8]) (Goes.go M.out (hv ▸ below_alloc _ _ : Below w6.heap.size w6 w7)))
  clear hv
  go_wp2_with fail
  refine (draw_err (G := G) (l := l_4) (er := er2) (rl := rl) (am0 := bb) (Nat.le_trans hG (M.out.2.2.2.2).size) (M.out.2.1) HOKb.out (HZb.out.mono (by omega)) (by rw [show sumN (l_4.map LC.ly) = N0 - aa by have h_ := HSNb.out; rw [HN0.out] at h_; omega]; exact HE2.out) HV2.out).mono ?_
  rintro e w8 ⟨rfl, hb⟩
  replace M := Lib.hid (Goes.go M.out hb)
  clear hb
  have en1_er2 : (er2 == 0) = false := beq_false_of_ne HV2.out
  have en2_er2 : (er2 != 0) = true := bne_iff_ne.2 HV2.out
  have en3_er2 : ¬ er2 = 0 := HV2.out
  go_upto_region 7 with fail
  obtain ⟨w9, hv⟩ : ∃ w_ : World, w_ = (w8.alloc (.cells #[.int .i64 0, .slice none 0 0, .int .i64 0, .slice none 0 0] 29)) := ⟨_, rfl⟩
  rw [← hv]
  have ow2_ : w6.heap.size < w8.heap.size := ((M.out.1)).lt
  replace M := Lib.hid (And.intro (hv ▸ bx1 w8 29 #[.int .i64 0, .slice none 0 0, .int .i64 0, .slice none 0 0]) (Goes.go M.out (hv ▸ below_alloc _ _ : Below w8.heap.size w8 w9)))
  clear hv
  go_wp2_with fail
  refine (draw_err (G := G) (l := l) (er := er3) (rl := rl) (am0 := (aa + bb)) (Nat.le_trans hG (M.out.2.2.2.2.2).size) (HC0.out.keep (M.out.2.2.2.2.2)) HOK.out HZ.out (by rw [HN0.out]; exact HE3.out) HV3.out).mono ?_
  rintro e w10 ⟨rfl, hb⟩
  replace M := Lib.hid (Goes.go M.out hb)
  clear hb
  have en1_er3 : (er3 == 0) = false := beq_false_of_ne HV3.out
  have en2_er3 : (er3 != 0) = true := bne_iff_ne.2 HV3.out
  have en3_er3 : ¬ er3 = 0 := HV3.out
  go_upto_region 8 with fail
  obtain ⟨w11, hv⟩ : ∃ w_ : World, w_ = (w10.alloc (.cells #[.int .i64 0, .slice none 0 0, .int .i64 0, .slice none 0 0] 29)) := ⟨_, rfl⟩
  rw [← hv]
  have ow3_ : w8.heap.size < w10.heap.size := ((M.out.1)).lt
  replace M := Lib.hid (And.intro (hv ▸ bx1 w10 29 #[.int .i64 0, .slice none 0 0, .int .i64 0, .slice none 0 0]) (Goes.go M.out (hv ▸ below_alloc _ _ : Below w10.heap.size w10 w11)))
  clear hv
  have y1 := (M.out.2.2.1).d4; have p1_0 := y1.1; have p1_1 := y1.2.1; have p1_2 := y1.2.2.1; have p1_3 := y1.2.2.2; clear y1
  have y2 := (M.out.2.1).d4; have p2_0 := y2.1; have p2_1 := y2.2.1; have p2_2 := y2.2.2.1; have p2_3 := y2.2.2.2; clear y2
  go_wp2_with fail
  clear p1_0 p1_1 p1_2 p1_3 p2_0 p2_1 p2_2 p2_3
  refine (fqAdd_z (G := G) (q := q9) (Nat.le_trans hG (M.out.2.2.2.2.2.2).size) (M.out.2.2.2.2.1) (Fz.mono (show Fz q9 3220 by rw [Eq9.out]; exact HZGb.out) (by omega))).mono ?_
  rintro e w12 ⟨rfl, hb⟩
  replace M := Lib.hid (Goes.go M.out hb)
  clear hb
  go_upto_region 9 with fail
  obtain ⟨w13, hv⟩ : ∃ w_ : World, w_ = (w12.alloc (.cells #[.int .i64 0, .slice none 0 0, .int .i64 0, .slice none 0 0] 29)) := ⟨_, rfl⟩
  rw [← hv]
  have ow4_ : w10.heap.size < w12.heap.size := ((M.out.1)).lt
  replace M := Lib.hid (And.intro (hv ▸ bx1 w12 29 #[.int .i64 0, .slice none 0 0, .int .i64 0, .slice none 0 0]) (Goes.go M.out (hv ▸ below_alloc _ _ : Below w12.heap.size w12 w13)))
  clear hv
  have y0 := (M.out.2.2.2.2.2.2.1).d4; have p0_0 := y0.1; have p0_1 := y0.2.1; have p0_2 := y0.2.2.1; have p0_3 := y0.2.2.2; clear y0
  go_wp2_with fail
  clear p0_0 p0_1 p0_2 p0_3
  replace M := Lib.hid (And.intro (M.out.2.2.2.2.1) (And.intro (M.out.2.2.2.2.2.2.1) (M.out.2.2.2.2.2.2.2)))
  refine (put_err (G := G) (l := l) (am0 := aa) (o := o) (Nat.le_trans hG (M.out.2.2).size) (HC0.out.keep (M.out.2.2)) HOK.out HZ.out (H1.out.keep (M.out.2.2)) (by omega) (by omega) (by omega) (by omega) HW.out).mono ?_
  rintro e w14 ⟨er_13, rfl, hu14, hb⟩
  replace M := Lib.hid (Goes.go M.out hb)
  clear hb
  replace hu14 := Lib.hid hu14
  have en1_er_13 : (er_13 == 0) = false := beq_false_of_ne hu14.out
  have en2_er_13 : (er_13 != 0) = true := bne_iff_ne.2 hu14.out
  have en3_er_13 : ¬ er_13 = 0 := hu14.out
  go_wp2_with fail
  go_ret
  exact ⟨rfl, (M.out.2.2)⟩
set_option maxRecDepth 100000 in
set_option maxHeartbeats 4000000 in
theorem twice_over_ok {ls : List LR} {a : Option Addr} {n c : Nat} {w : World} (h : RdR w.heap.size w a n c ls) (_hn0 : n ≤ 9223372036854775807) {rl aa bb : Int} {u0 u1 u2 u3 : Value} {x y : Nat} {o : Option Rat} (h1 : FX w u0 u1 u2 u3 x y o) (hf : fewL ls = true) (hfq : (decide (x ≤ 3) && decide (y ≤ 3)) = true) (_h20 : n ≤ 20) (hr : rightL ls = true) (ha : 1 ≤ aa) (hb : 1 ≤ bb) (_ha1 : aa ≤ 1099511627776) (_hb1 : bb ≤ 1099511627776) (hv : drErr rl aa (sumN ((ls.map toC).map LC.ly)) = 0) (hab : sumN ((ls.map toC).map LC.ly) < aa + bb) {q : Rat} (ho : o = some q) (hq0 : 0 ≤ q) (hw : aa ≤ 1099511627776 - sumN ((ls.map toC).map LC.ly))  :
    Calls Try.prog 4 #[.slice a n c, .int .i64 rl, .int .i64 aa, .int .i64 bb, .agg #[u0, u1, u2, u3]] w fun e w' => e = .returned (.bool true) ∧ Below w.heap.size w w' := by
  obtain ⟨G, hG0⟩ : ∃ G : Nat, G = w.heap.size := ⟨_, rfl⟩
  have hG : G ≤ w.heap.size := by omega
  have HL0 : Hid (RdR G w a n c ls) := by show RdR _ _ _ _ _ _; rw [hG0]; exact h
  have hs_ := few_all hf
  have hr_ := rightL_ok hr
  obtain ⟨l, hl⟩ : ∃ l, l = ls.map toC := ⟨_, rfl⟩
  have HL : Hid (RdC G w a n c l) := by show RdC _ _ _ _ _ _; rw [hG0, hl]; exact h.toC hr_.1
  have HOK : Hid (OkC l) := by show OkC _; rw [hl]; exact hr_.2
  have HZ3 : Hid (FzL l 3) := by show FzL _ _; rw [hl]; exact fz_toC h hr_.1 hs_.1
  have HZ : Hid (FzL l 100000000) := Lib.hid (HZ3.out.mono (by omega))
  have HSM := Lib.hid hs_.1
  have hn : n ≤ 202 := by have h_ := HL0.out.len; omega
  obtain ⟨N0, hN0⟩ : ∃ N, sumN (l.map LC.ly) = N := ⟨_, rfl⟩
  have hN1 : N0 ≤ 1099511627776 := by have h_ := HOK.out.sum; omega
  have HN0 := Lib.hid hN0
  have HF := Lib.hid hf
  have HR := Lib.hid hr
  have HFQ := Lib.hid hfq
  have hxy3 : x ≤ 3 ∧ y ≤ 3 := by simpa using hfq
  clear hfq
  rw [← hl, hN0] at hv hab
  obtain ⟨hr0, hr1, -, -, haN⟩ := drErr_ok hv
  clear hv
  obtain ⟨er2, he2⟩ : ∃ e, drErr rl bb (N0 - aa) = e := ⟨_, rfl⟩
  obtain ⟨er3, he3⟩ : ∃ e, drErr rl (aa + bb) N0 = e := ⟨_, rfl⟩
  have hv2 : er2 ≠ 0 := by rw [← he2]; exact drErr_over (by omega)
  have hv3 : er3 ≠ 0 := by rw [← he3]; exact drErr_over (by omega)
  have HE2 := Lib.hid he2; have HE3 := Lib.hid he3; have HV2 := Lib.hid hv2; have HV3 := Lib.hid hv3; clear he2 he3 hv2 hv3
  have H1_ := Lib.hid h1
  subst ho
  rw [← hl] at hw
  have HW := Lib.hid hw; have HQ0 := Lib.hid hq0; clear hw hq0
  have HQ : Hid (FQ G w u0 u1 u2 u3 q) := by show FQ _ _ _ _ _ _ _; rw [hG0]; exact H1_.out.fq
  have HQZ : Hid (Fz q 3) := h1.fz hxy3.1 hxy3.2
  have hx3 := hxy3.1
  have hy3 := hxy3.2
  clear hN0 hf hr hs_ hr_
  have ek0 : decide (20 < (n : Int)) = false := decide_eq_false (by omega)
  have ek1 : decide (20 < n) = false := decide_eq_false (by omega)
  have ek2 : ¬ 20 < (n : Int) := by omega
  have e3 : decide (aa < 1) = false := decide_eq_false (by omega)
  have e3i : ¬ aa < 1 := by omega
  have e4 : decide (bb < 1) = false := decide_eq_false (by omega)
  have e4i : ¬ bb < 1 := by omega
  have e5 : decide (1099511627776 < aa) = false := decide_eq_false (by omega)
  have e5i : ¬ 1099511627776 < aa := by omega
  have e6 : decide (1099511627776 < bb) = false := decide_eq_false (by omega)
  have e6i : ¬ 1099511627776 < bb := by omega
  have HR0 : Hid (RdR G w a n c ls) := HL0.out
  have HC0 : Hid (RdC G w a n c l) := HL.out
  have H1 : Hid (FX w u0 u1 u2 u3 x y (some q)) := H1_.out
  have HQ1 : Hid (FQ G w u0 u1 u2 u3 q) := HQ.out
  clear h h1
  have M : Hid (Below w.heap.size w w) := Below.refl _ _
  go_enter Try.func4, Try.ntmps4
  go_upto_region 1 with fail
  obtain ⟨w1, hv⟩ : ∃ w_ : World, w_ = (w.alloc (.cells #[u0, u1, u2, u3] 29)) := ⟨_, rfl⟩
  rw [← hv]
  replace M := Lib.hid (And.intro (hv ▸ bx1 w 29 #[u0, u1, u2, u3]) (Goes.go M.out (hv ▸ below_alloc _ _ : Below w.heap.size w w1)))
  clear hv
  go_wp2_with fail
  refine (stSmall (G := G) (Nat.le_trans hG (M.out.2).size)).mono ?_
  rintro e w2 ⟨rfl, hb⟩
  replace M := Lib.hid (Goes.go M.out hb)
  clear hb
  go_wp2_with fail
  refine (stFew_ok (G := G) (l := ls) (b_ := true) (HR0.out.keep (M.out.2)) (by omega) HF.out).mono ?_
  rintro e w3 ⟨rfl, hb⟩
  replace M := Lib.hid (Goes.go M.out hb)
  clear hb
  have y0 := (M.out.1).d4; have p0_0 := y0.1; have p0_1 := y0.2.1; have p0_2 := y0.2.2.1; have p0_3 := y0.2.2.2; clear y0
  go_wp2_with fail
  clear p0_0 p0_1 p0_2 p0_3
  refine (fxFew_ok (o := (some q)) (k := 3) (r := true) (H1.out.keep (M.out.2)) (decI.trans HFQ.out)).mono ?_
  rintro e w4 ⟨rfl, hb⟩
  replace M := Lib.hid (Goes.go M.out hb)
  clear hb
  go_wp2_with fail
  refine (stRight_raw (G := G) (l := ls) (b_ := true) (HR0.out.keep (M.out.2)) (by omega) HSM.out HR.out).mono ?_
  rintro e w5 ⟨rfl, hb⟩
  replace M := Lib.hid (Goes.go M.out hb)
  clear hb
  go_wp2_with fail
  obtain ⟨q9, eq9⟩ : ∃ v_ : Rat, v_ = ((drawR rl (l.map LC.ly) aa).2) := ⟨_, rfl⟩
  refine (draw_ok (G := G) (l := l) (rl := rl) (am0 := aa) (Nat.le_trans hG (M.out.2).size) (HC0.out.keep (M.out.2)) HOK.out HZ.out (by omega) (by omega) (by omega) (by rw [HN0.out]; exact haN)).mono ?_
  rintro e w6 ⟨a_1, n_2, c_3, l_4, x_5, x_6, x_7, x_8, rfl, hd10, hu11, hd12, hb⟩
  rw [← eq9] at hd12
  have Eq9 := Lib.hid eq9; clear eq9
  replace M := Lib.hid (And.intro hd10 (And.intro hd12 (Goes.go M.out hb)))
  clear hb hd10 hd12
  replace hu11 := Lib.hid hu11
  have hd_ := draw_left (N := 3) HOK.out HZ3.out ha (show aa ≤ sumN (l.map LC.ly) by rw [HN0.out]; exact haN) hu11.out
  have HOKb := Lib.hid hd_.1; have HZb := Lib.hid hd_.2.1; have HZGb := Lib.hid hd_.2.2.1; have HSNb := Lib.hid hd_.2.2.2.1; have HSBb := Lib.hid hd_.2.2.2.2.1; have HGEb := Lib.hid hd_.2.2.2.2.2.1; have HLEb := Lib.hid hd_.2.2.2.2.2.2; clear hd_
  have hn2_ : n_2 ≤ 200 := by have h_ := HLEb.out; rw [(M.out.1).len, HL.out.len] at h_; omega
  have ys_x_5 := TQ.st (M.out.2.1); have st_x_5 := ys_x_5.1; have st_x_6 := ys_x_5.2.1; have st_x_7 := ys_x_5.2.2.1; have st_x_8 := ys_x_5.2.2.2; clear ys_x_5
  go_upto_region 5 with fail
  clear st_x_5 st_x_6 st_x_7 st_x_8
  obtain ⟨w7, hv⟩ : ∃ w_ : World, w_ = (w6.alloc (.cells #[x_5, x_6, x_7, x_8] 29)) := ⟨_, rfl⟩
  rw [← hv]
  have ow1_ : w.heap.size < w6.heap.size := ((M.out.2.2.1)).lt
  replace M := Lib.hid (And.intro (hv ▸ bx1 w6 29 #[x_5, x_6, x_7, x_8]) (Goes.go M.out (hv ▸ below_alloc _ _ : Below w6.heap.size w6 w7)))
  clear hv
  go_wp2_with fail
  refine (draw_err (G := G) (l := l_4) (er := er2) (rl := rl) (am0 := bb) (Nat.le_trans hG (M.out.2.2.2.2).size) (M.out.2.1) HOKb.out (HZb.out.mono (by omega)) (by rw [show sumN (l_4.map LC.ly) = N0 - aa by have h_ := HSNb.out; rw [HN0.out] at h_; omega]; exact HE2.out) HV2.out).mono ?_
  rintro e w8 ⟨rfl, hb⟩
  replace M := Lib.hid (Goes.go M.out hb)
  clear hb
  have en1_er2 : (er2 == 0) = false := beq_false_of_ne HV2.out
  have en2_er2 : (er2 != 0) = true := bne_iff_ne.2 HV2.out
  have en3_er2 : ¬ er2 = 0 := HV2.out
  go_upto_region 7 with fail
  obtain ⟨w9, hv⟩ : ∃ w_ : World, w_ = (w8.alloc (.cells #[.int .i64 0, .slice none 0 0, .int .i64 0, .slice none 0 0] 29)) := ⟨_, rfl⟩
  rw [← hv]
  have ow2_ : w6.heap.size < w8.heap.size := ((M.out.1)).lt
  replace M := Lib.hid (And.intro (hv ▸ bx1 w8 29 #[.int .i64 0, .slice none 0 0, .int .i64 0, .slice none 0 0]) (Goes.go M.out (hv ▸ below_alloc _ _ : Below w8.heap.size w8 w9)))
  clear hv
  go_wp2_with fail
  refine (draw_err (G := G) (l := l) (er := er3) (rl := rl) (am0 := (aa + bb)) (Nat.le_trans hG (M.out.2.2.2.2.2).size) (HC0.out.keep (M.out.2.2.2.2.2)) HOK.out HZ.out (by rw [HN0.out]; exact HE3.out) HV3.out).mono ?_
  rintro e w10 ⟨rfl, hb⟩
  replace M := Lib.hid (Goes.go M.out hb)
  clear hb
  have en1_er3 : (er3 == 0) = false := beq_false_of_ne HV3.out
  have en2_er3 : (er3 != 0) = true := bne_iff_ne.2 HV3.out
  have en3_er3 : ¬ er3 = 0 := HV3.out
  go_upto_region 8 with fail
  obtain ⟨w11, hv⟩ : ∃ w_ : World, w_ = (w10.alloc (.cells #[.int .i64 0, .slice none 0 0, .int .i64 0, .slice none 0 0] 29)) := ⟨_, rfl⟩
  rw [← hv]
  have ow3_ : w8.heap.size < w10.heap.size := ((M.out.1)).lt
  replace M := Lib.hid (And.intro (hv ▸ bx1 w10 29 #[.int .i64 0, .slice none 0 0, .int .i64 0, .slice none 0 0]) (Goes.go M.out (hv ▸ below_alloc _ _ : Below w10.heap.size w10 w11)))
  clear hv
  have y1 := (M.out.2.2.1).d4; have p1_0 := y1.1; have p1_1 := y1.2.1; have p1_2 := y1.2.2.1; have p1_3 := y1.2.2.2; clear y1
  have y2 := (M.out.2.1).d4; have p2_0 := y2.1; have p2_1 := y2.2.1; have p2_2 := y2.2.2.1; have p2_3 := y2.2.2.2; clear y2
  go_wp2_with fail
  clear p1_0 p1_1 p1_2 p1_3 p2_0 p2_1 p2_2 p2_3
  refine (fqAdd_z (G := G) (q := q9) (Nat.le_trans hG (M.out.2.2.2.2.2.2).size) (M.out.2.2.2.2.1) (Fz.mono (show Fz q9 3220 by rw [Eq9.out]; exact HZGb.out) (by omega))).mono ?_
  rintro e w12 ⟨rfl, hb⟩
  replace M := Lib.hid (Goes.go M.out hb)
  clear hb
  go_upto_region 9 with fail
  obtain ⟨w13, hv⟩ : ∃ w_ : World, w_ = (w12.alloc (.cells #[.int .i64 0, .slice none 0 0, .int .i64 0, .slice none 0 0] 29)) := ⟨_, rfl⟩
  rw [← hv]
  have ow4_ : w10.heap.size < w12.heap.size := ((M.out.1)).lt
  replace M := Lib.hid (And.intro (hv ▸ bx1 w12 29 #[.int .i64 0, .slice none 0 0, .int .i64 0, .slice none 0 0]) (Goes.go M.out (hv ▸ below_alloc _ _ : Below w12.heap.size w12 w13)))
  clear hv
  have y0 := (M.out.2.2.2.2.2.2.1).d4; have p0_0 := y0.1; have p0_1 := y0.2.1; have p0_2 := y0.2.2.1; have p0_3 := y0.2.2.2; clear y0
  go_wp2_with fail
  clear p0_0 p0_1 p0_2 p0_3
  replace M := Lib.hid (And.intro (M.out.2.2.2.2.1) (And.intro (M.out.2.2.2.2.2.2.1) (M.out.2.2.2.2.2.2.2)))
  refine (put_ok (G := G) (l := l) (am0 := aa) (q := q) (Nat.le_trans hG (M.out.2.2).size) (HC0.out.keep (M.out.2.2)) HOK.out HZ.out (HQ1.out.keep (M.out.2.2)) (Fz.mono HQZ.out (by omega)) (by omega) (by omega) (by omega) HQ0.out HW.out).mono ?_
  rintro e w14 ⟨a_13, c_14, l_15, rfl, hd16, hu17, hb⟩
  replace M := Lib.hid (And.intro hd16 (Goes.go M.out hb))
  clear hb hd16
  replace hu17 := Lib.hid hu17
  have HOK5 := Lib.hid (put_okC HOK.out (by rw [HL.out.len]; omega) ha HQ0.out HW.out hu17.out)
  have HZ5 := Lib.hid (put_fz HZ3.out HQZ.out hu17.out)
  have HS5 := Lib.hid (put_sum HOK.out hu17.out)
  go_wp2_with fail
  obtain ⟨q26, eq26⟩ : ∃ v_ : Rat, v_ = ((drawR 1 (l_15.map LC.ly) aa).2) := ⟨_, rfl⟩
  refine (draw_ok (G := G) (l := l_15) (rl := 1) (am0 := aa) (Nat.le_trans hG (M.out.2.2.2).size) (M.out.1) HOK5.out (HZ5.out.mono (by omega)) (by decide) (by decide) (by omega) HS5.out).mono ?_
  rintro e w15 ⟨a_18, n_19, c_20, l_21, x_22, x_23, x_24, x_25, rfl, hd27, hu28, hd29, hb⟩
  rw [← eq26] at hd29
  have Eq26 := Lib.hid eq26; clear eq26
  replace M := Lib.hid (And.intro hd27 (And.intro hd29 (Goes.go M.out hb)))
  clear hb hd27 hd29
  replace hu28 := Lib.hid hu28
  have hd_ := put_last (l := l) ha HQ0.out hu17.out hu28.out
  have HB1 := Lib.hid hd_.1; have HB2 := Lib.hid hd_.2; clear hd_
  have HZ6 : Hid (FzL l_21 3) := fz_of_ly (by rw [HB1.out]; exact fun y_ hy_ => by obtain ⟨z_, hz_, rfl⟩ := List.mem_map.1 hy_; exact HZ3.out z_ hz_)
  have hn6_ : n_19 ≤ 1000000 := by have h_ := congrArg List.length HB1.out; rw [List.length_map, List.length_map, (M.out.1).len, HL.out.len] at h_; omega
  have ys_x_22 := TQ.st (M.out.2.1); have st_x_22 := ys_x_22.1; have st_x_23 := ys_x_22.2.1; have st_x_24 := ys_x_22.2.2.1; have st_x_25 := ys_x_22.2.2.2; clear ys_x_22
  go_upto_region 15 with fail
  clear st_x_22 st_x_23 st_x_24 st_x_25
  obtain ⟨w16, hv⟩ : ∃ w_ : World, w_ = (w15.alloc (.cells #[x_22, x_23, x_24, x_25] 29)) := ⟨_, rfl⟩
  rw [← hv]
  have ow5_ : w.heap.size < w15.heap.size := ((M.out.2.2.2.2.1)).lt
  replace M := Lib.hid (And.intro (hv ▸ bx1 w15 29 #[x_22, x_23, x_24, x_25]) (Goes.go M.out (hv ▸ below_alloc _ _ : Below w15.heap.size w15 w16)))
  clear hv
  go_wp2_with fail
  refine (stSame (G := G) (l := l_21) (m := l) (b_ := true) (Nat.le_trans hG (M.out.2.2.2.2.2.2).size) (M.out.2.1) (HC0.out.keep (M.out.2.2.2.2.2.2)) (by omega) (by omega) (HZ6.out.mono (by omega)) (HZ.out.mono (by omega)) (decide_eq_true HB1.out)).mono ?_
  rintro e w17 ⟨rfl, hb⟩
  replace M := Lib.hid (Goes.go M.out hb)
  clear hb
  have y5 := (M.out.1).d4; have p5_0 := y5.1; have p5_1 := y5.2.1; have p5_2 := y5.2.2.1; have p5_3 := y5.2.2.2; clear y5
  have y0 := (M.out.2.2.2.2.2.1).d4; have p0_0 := y0.1; have p0_1 := y0.2.1; have p0_2 := y0.2.2.1; have p0_3 := y0.2.2.2; clear y0
  go_wp2_with fail
  clear p5_0 p5_1 p5_2 p5_3 p0_0 p0_1 p0_2 p0_3
  refine (fsame_o (G := G) (o := (some q26)) (p := (some q)) (b_ := true) (M.out.2.2.1) (HQ1.out.keep (M.out.2.2.2.2.2.2)) (Oz.mono (Oz.some_ (show Fz q26 3 by rw [Eq26.out, HB2.out]; exact HQZ.out)) (by omega)) (Oz.mono (Oz.some_ HQZ.out) (by omega)) (decide_eq_true (congrArg some (by rw [Eq26.out]; exact HB2.out)))).mono ?_
  rintro e w18 ⟨rfl, hb⟩
  replace M := Lib.hid (Goes.go M.out hb)
  clear hb
  go_wp2_with fail
  go_ret
  exact ⟨rfl, (M.out.2.2.2.2.2.2)⟩
theorem twice_walk {ls : List LR} {a : Option Addr} {n c : Nat} {w : World} (h : RdR w.heap.size w a n c ls) (hn0 : n ≤ 9223372036854775807) {rl aa bb : Int} {u0 u1 u2 u3 : Value} {x y : Nat} {o : Option Rat} (h1 : FX w u0 u1 u2 u3 x y o) :
    Calls Try.prog 4 #[.slice a n c, .int .i64 rl, .int .i64 aa, .int .i64 bb, .agg #[u0, u1, u2, u3]] w fun e w' => e = .returned (.bool true) ∧ Below w.heap.size w w' := by
  cases hf : fewL ls with
  | false => exact twice_1 h hn0 h1 hf
  | true =>
    cases hfq : (decide (x ≤ 3) && decide (y ≤ 3)) with
    | false => exact twice_2 h hn0 h1 hf hfq
    | true =>
      by_cases h20 : 20 < n
      · exact twice_3 h hn0 h1 hf hfq h20
      cases hr : rightL ls with
      | false => exact twice_4 h hn0 h1 hf hfq (by omega) hr
      | true =>
        by_cases k1 : aa < 1
        · exact twice_5 h hn0 h1 hf hfq (by omega) hr k1
        by_cases k2 : bb < 1
        · exact twice_6 h hn0 h1 hf hfq (by omega) hr (by omega) k2
        by_cases k3 : 1099511627776 < aa
        · exact twice_7 h hn0 h1 hf hfq (by omega) hr (by omega) (by omega) k3
        by_cases k4 : 1099511627776 < bb
        · exact twice_8 h hn0 h1 hf hfq (by omega) hr (by omega) (by omega) (by omega) k4
        have hw : (∀ q, o = some q → 0 ≤ q → 1099511627776 - sumN ((ls.map toC).map LC.ly) < aa) ∨ ∃ q, o = some q ∧ 0 ≤ q ∧ aa ≤ 1099511627776 - sumN ((ls.map toC).map LC.ly) := by
          cases o with
          | none => exact .inl (fun q hq => by cases hq)
          | some q =>
            by_cases hq : 0 ≤ q
            · by_cases hs : aa ≤ 1099511627776 - sumN ((ls.map toC).map LC.ly)
              · exact .inr ⟨q, rfl, hq, hs⟩
              · exact .inl (fun q' h' _ => by omega)
            · exact .inl (fun q' h' h2 => by cases h'; exact absurd h2 hq)
        by_cases hv : drErr rl aa (sumN ((ls.map toC).map LC.ly)) = 0
        · by_cases hab : aa + bb ≤ sumN ((ls.map toC).map LC.ly)
          · rcases hw with hw | ⟨q, ho, hq, hs⟩
            · exact twice_both_bad h hn0 h1 hf hfq (by omega) hr (by omega) (by omega) (by omega) (by omega) hv hab hw
            · exact twice_both_ok h hn0 h1 hf hfq (by omega) hr (by omega) (by omega) (by omega) (by omega) hv hab ho hq hs
          · rcases hw with hw | ⟨q, ho, hq, hs⟩
            · exact twice_over_bad h hn0 h1 hf hfq (by omega) hr (by omega) (by omega) (by omega) (by omega) hv (by omega) hw
            · exact twice_over_ok h hn0 h1 hf hfq (by omega) hr (by omega) (by omega) (by omega) (by omega) hv (by omega) ho hq hs
        · rcases hw with hw | ⟨q, ho, hq, hs⟩
          · exact twice_bad_bad h hn0 h1 hf hfq (by omega) hr (by omega) (by omega) (by omega) (by omega) hv hw
          · exact twice_bad_ok h hn0 h1 hf hfq (by omega) hr (by omega) (by omega) (by omega) (by omega) hv ho hq hs
end Go.Proofs.Ytgmngkbocpadaaa
