/- StockKeeps: whatever the arguments, it returns true. -/
import Derived.Test.YtgmngkbocpadaaaBase
import Derived.Test.YtgmngkbocpadaaaBigSpec
import Derived.Test.YtgmngkbocpadaaaBigB
import Derived.Test.YtgmngkbocpadaaaBigC
import Derived.Test.YtgmngkbocpadaaaBigD
import Derived.Test.YtgmngkbocpadaaaBigL
import Derived.Test.YtgmngkbocpadaaaBigQ
import Derived.Test.YtgmngkbocpadaaaFracA
import Derived.Test.YtgmngkbocpadaaaFz
import Derived.Test.YtgmngkbocpadaaaHeld
import Derived.Test.YtgmngkbocpadaaaAw
import Derived.Test.YtgmngkbocpadaaaFracR
import Derived.Test.YtgmngkbocpadaaaRw
import Derived.Test.YtgmngkbocpadaaaStockPlain
import Derived.Test.YtgmngkbocpadaaaStB
import Derived.Test.YtgmngkbocpadaaaStH
import Derived.Test.YtgmngkbocpadaaaStI
import Derived.Test.YtgmngkbocpadaaaStJ
import Derived.Test.YtgmngkbocpadaaaStK
import Derived.Test.YtgmngkbocpadaaaProg
import Derived.Test.YtgmngkbocpadaaaShelf
import Derived.WalkKit
import Derived.WalkSpells
import Derived.WalkLawsBesides
import Derived.Handy
import Derived.Lib.Hide
import Derived.Lib.Strings
import Derived.Lib.Builder
import Derived.BigQuiet
import Derived.OwnWalk
import Derived.Laws.BitsLemmas
import Derived.WalkSmall
import Derived.Deep.QuietTactic
import Derived.StillTailTactics
import Derived.Maps.AppendAt
import Derived.IntWalk
import Derived.Deep.RegionHeld3
import Derived.Deep.DeepFit
import Derived.Deep.LoopGhost
import Derived.Deep.DeepCutAuto
import Derived.Lib.ItoaNum
import Derived.Lib.Repeat
import Derived.Lib.AppendIntMem
import Derived.Sort.OwnSorted
import Derived.Shelf.Strings.SlTrimAscii
import Derived.Lib.ConvBytes
import Derived.Lib.CutLaws
namespace Go.Proofs.Ytgmngkbocpadaaa
open Go.RowKit Go.Lib
variable {G : Nat}

theorem draw_ok {l : List LC} {a : Option Addr} {n c : Nat} {rl am0 : Int} {w : World} (hG : G ≤ w.heap.size) (h : RdC G w a n c l) (ok : OkC l) (hz : FzL l 100000000) (hr0 : 0 ≤ rl) (hr1 : rl < 3) (ha0 : 1 ≤ am0) (ha : am0 ≤ sumN (l.map LC.ly)) :
    Calls Try.prog 11 #[.slice a n c, .int .i64 rl, .int .i64 am0] w fun e w' => ∃ a2 n2 c2 l2 x0 x1 x2 x3, e = .returned (.tuple #[.slice a2 n2 c2, .agg #[x0, x1, x2, x3], .int .i64 0]) ∧ RdC G w' a2 n2 c2 l2 ∧ l2.map LC.ly = (drawR rl (l.map LC.ly) am0).1 ∧ FQ G w' x0 x1 x2 x3 ((drawR rl (l.map LC.ly) am0).2) ∧ Below w.heap.size w w' := by
  obtain rfl | rfl | rfl : rl = 0 ∨ rl = 1 ∨ rl = 2 := by omega
  · exact draw_0 hG h ok hz ha0 ha
  · exact draw_1 hG h ok hz ha0 ha
  · exact draw_2 hG h ok hz ha0 ha
theorem draw_arg {l : List LC} {a : Option Addr} {n c : Nat} {rl am0 : Int} {w : World} (hG : G ≤ w.heap.size) (h : RdC G w a n c l) (ok : OkC l) (hz : FzL l 100000000) (hr : rl < 0 ∨ 3 ≤ rl) : Calls Try.prog 11 #[.slice a n c, .int .i64 rl, .int .i64 am0] w fun e w' => e = .returned (.tuple #[.slice none 0 0, .agg #[.int .i64 0, .slice none 0 0, .int .i64 0, .slice none 0 0], .int .i64 1]) ∧ Below w.heap.size w w' := by
  rcases hr with hr | hr
  · exact draw_arg1 hG h ok hz hr
  · exact draw_arg2 hG h ok hz hr
theorem draw_range {l : List LC} {a : Option Addr} {n c : Nat} {rl am0 : Int} {w : World} (hG : G ≤ w.heap.size) (h : RdC G w a n c l) (ok : OkC l) (hz : FzL l 100000000) (hr0 : 0 ≤ rl) (hr1 : rl < 3) (ha : am0 < 1 ∨ 1099511627776 < am0) : Calls Try.prog 11 #[.slice a n c, .int .i64 rl, .int .i64 am0] w fun e w' => e = .returned (.tuple #[.slice none 0 0, .agg #[.int .i64 0, .slice none 0 0, .int .i64 0, .slice none 0 0], .int .i64 3]) ∧ Below w.heap.size w w' := by
  rcases ha with ha | ha
  · exact draw_low hG h ok hz hr0 hr1 ha
  · exact draw_high hG h ok hz hr0 hr1 ha
theorem oks_cons {w : World} {n : Int} {u0 u1 u2 u3 : Value} {q : Rat} {r : List LC} (h : FQ G w u0 u1 u2 u3 q) (hr : ∀ x ∈ r, El.ok G w x) : ∀ x ∈ (⟨n, u0, u1, u2, u3, q⟩ : LC) :: r, El.ok G w x := fun x hx => by
  rcases List.mem_cons.1 hx with rfl | hx
  · exact h
  · exact hr x hx
theorem okC2 {x y : LC} (h1 : 1 ≤ x.n) (h2 : 0 ≤ x.q) (h3 : 1 ≤ y.n) (h4 : 0 ≤ y.q) (hs : x.n + y.n ≤ 1099511627776) : OkC [x, y] :=
  ⟨fun z hz => by simp at hz; rcases hz with rfl | rfl; exact ⟨h1, h2⟩; exact ⟨h3, h4⟩, by show x.n + (y.n + 0) ≤ _; omega, by show 2 ≤ 200; omega⟩
def exL : List Ly := [⟨10, ((30 : Int) : Rat)⟩, ⟨5, ((5 : Int) : Rat)⟩]
theorem ex0 : drawR 0 exL 12 = ([⟨3, ((3 : Int) : Rat)⟩], ((32 : Int) : Rat)) := by simp [drawR, exL, drawF, part]; grind
theorem ex1 : drawR 1 exL 12 = ([⟨3, ((9 : Int) : Rat)⟩], ((26 : Int) : Rat)) := by simp [drawR, exL, drawF, part]; grind
theorem ex2 : drawR 2 exL 12 = ([⟨3, ((7 : Int) : Rat)⟩], ((28 : Int) : Rat)) := by simp [drawR, exL, drawF, part, mean, sumN, sumB]; grind
theorem exLN : sumN exL = 15 := by decide
theorem exLB : sumB exL = ((35 : Int) : Rat) := by simp [exL, sumB]; grind
theorem fz_of_ly {l : List LC} {N : Nat} (h : ∀ y ∈ l.map LC.ly, Fz y.b N) : FzL l N := fun x hx => h x.ly (List.mem_map.2 ⟨x, hx, rfl⟩)
set_option maxRecDepth 100000 in
set_option maxHeartbeats 4000000 in
theorem stOne0 {w : World} (hG : G ≤ w.heap.size) :
    Calls Try.prog 22 #[.int .i64 0, .int .i64 3, .int .i64 32] w fun e w' => e = .returned (.bool true) ∧ Below w.heap.size w w' := by
  have h0_ : True := trivial
  have M : Hid (Below w.heap.size w w) := Below.refl _ _
  go_enter Try.func22, Try.ntmps22
  go_wp2_with fail
  obtain ⟨q5, eq5⟩ : ∃ v_ : Rat, v_ = ((30 : Int) : Rat) := ⟨_, rfl⟩
  refine (fqInt (G := G) (x := 30) (by decide)).mono ?_
  rintro e w1 ⟨x_1, x_2, x_3, x_4, rfl, hd6, hb⟩
  rw [← eq5] at hd6
  have Sq5 : Hid (Fz q5 4) := by show Fz q5 4; rw [eq5]; exact (Fz.int64 (by omega))
  have Eq5 := Lib.hid eq5; clear eq5
  replace M := Lib.hid (And.intro hd6 (Goes.go M.out hb))
  clear hb hd6
  go_wp2_with fail
  obtain ⟨q11, eq11⟩ : ∃ v_ : Rat, v_ = ((5 : Int) : Rat) := ⟨_, rfl⟩
  refine (fqInt (G := G) (x := 5) (by decide)).mono ?_
  rintro e w2 ⟨x_7, x_8, x_9, x_10, rfl, hd12, hb⟩
  rw [← eq11] at hd12
  have Sq11 : Hid (Fz q11 4) := by show Fz q11 4; rw [eq11]; exact (Fz.int64 (by omega))
  have Eq11 := Lib.hid eq11; clear eq11
  replace M := Lib.hid (And.intro hd12 (Goes.go M.out hb))
  clear hb hd12
  go_upto_region 2 with fail
  obtain ⟨w3, hv⟩ : ∃ w_ : World, w_ = (w2.alloc (.cells #[.int .i64 10, x_1, x_2, x_3, x_4, .int .i64 5, x_7, x_8, x_9, x_10] 48)) := ⟨_, rfl⟩
  rw [← hv]
  have ow0_ : w.heap.size ≤ w2.heap.size := ((M.out.2.2)).size
  replace M := Lib.hid (And.intro (hv ▸ bx1 w2 48 #[.int .i64 10, x_1, x_2, x_3, x_4, .int .i64 5, x_7, x_8, x_9, x_10]) (Goes.go M.out (hv ▸ below_alloc _ _ : Below w2.heap.size w2 w3)))
  clear hv
  go_wp2_with fail
  obtain ⟨ll13, h_⟩ : ∃ l_ : List LC, l_ = [⟨10, x_1, x_2, x_3, x_4, q5⟩, ⟨5, x_7, x_8, x_9, x_10, q11⟩] := ⟨_, rfl⟩
  have Ell13 := Lib.hid h_; clear h_
  obtain ⟨q22, eq22⟩ : ∃ v_ : Rat, v_ = ((drawR 0 (ll13.map LC.ly) 12).2) := ⟨_, rfl⟩
  refine (draw_ok (G := G) (l := ll13) (rl := 0) (am0 := 12) (Nat.le_trans hG (M.out.2.2.2).size) (by rw [Ell13.out]; exact RdL.of (OwB.new (α := LC) (M.out.1) rfl hG (show w.heap.size ≤ _ by omega) (oks_cons (M.out.2.2.1) (oks_cons (M.out.2.1) (fun y_ hy_ => by simp at hy_)))).rd rfl (by omega)) (by rw [Ell13.out]; exact okC2 (by show (1 : Int) ≤ 10; omega) (by show 0 ≤ q5; rw [Eq5.out]; exact Rat.intCast_nonneg.2 (by decide)) (by show (1 : Int) ≤ 5; omega) (by show 0 ≤ q11; rw [Eq11.out]; exact Rat.intCast_nonneg.2 (by decide)) (by show (10 + 5 : Int) ≤ 1099511627776; omega)) (by rw [Ell13.out]; exact (FzL.cons (Fz.mono Sq5.out (by omega)) (FzL.cons (Fz.mono Sq11.out (by omega)) (fun y_ hy_ => by simp at hy_)))) (by decide) (by decide) (by decide) (by rw [(show List.map LC.ly ll13 = exL from by rw [Ell13.out]; show [(⟨_, _⟩ : Ly), ⟨_, _⟩] = _; rw [Eq5.out, Eq11.out]; rfl), exLN]; decide)).mono ?_
  rintro e w4 ⟨a_14, n_15, c_16, l_17, x_18, x_19, x_20, x_21, rfl, hd23, hu24, hd25, hb⟩
  rw [← eq22] at hd25
  have Sq22 : Hid (Fz q22 4) := by show Fz q22 4; rw [eq22]; exact (by rw [(show List.map LC.ly ll13 = exL from by rw [Ell13.out]; show [(⟨_, _⟩ : Ly), ⟨_, _⟩] = _; rw [Eq5.out, Eq11.out]; rfl), ex0]; exact Fz.int64 (by omega))
  have Eq22 := Lib.hid eq22; clear eq22
  replace M := Lib.hid (And.intro hd23 (And.intro hd25 (Goes.go M.out hb)))
  clear hb hd23 hd25
  replace hu24 := Lib.hid hu24
  have ys_x_18 := TQ.st (M.out.2.1); have st_x_18 := ys_x_18.1; have st_x_19 := ys_x_18.2.1; have st_x_20 := ys_x_18.2.2.1; have st_x_21 := ys_x_18.2.2.2; clear ys_x_18
  go_wp2_with fail
  clear st_x_18 st_x_19 st_x_20 st_x_21
  obtain ⟨w5, hv⟩ : ∃ w_ : World, w_ = (w4.alloc (.cells #[x_18, x_19, x_20, x_21] 29)) := ⟨_, rfl⟩
  rw [← hv]
  have ow1_ : w2.heap.size < w4.heap.size := ((M.out.2.2.1)).lt
  replace M := Lib.hid (And.intro (hv ▸ bx1 w4 29 #[x_18, x_19, x_20, x_21]) (Goes.go M.out (hv ▸ below_alloc _ _ : Below w4.heap.size w4 w5)))
  clear hv
  replace M := Lib.hid (And.intro (M.out.1) (And.intro (M.out.2.1) (And.intro (M.out.2.2.1) (M.out.2.2.2.2.2.2))))
  obtain ⟨w6, hv⟩ : ∃ w_ : World, w_ = w5.drew := ⟨_, rfl⟩
  replace M := Lib.hid (Goes.go M.out (hv ▸ below_drew _ : Below w5.heap.size w5 w6))
  refine wp_region_held_drew (S := (fun w' => w'.cell? ⟨w4.heap.size, 0, none⟩ = some (x_18) ∧ w'.cell? ⟨w4.heap.size, 1, none⟩ = some (x_19) ∧ w'.cell? ⟨w4.heap.size, 2, none⟩ = some (x_20) ∧ w'.cell? ⟨w4.heap.size, 3, none⟩ = some (x_21))) (by kernel_rfl) (by rw [← hv]; exact ⟨(M.out.1).at.1 0, (M.out.1).at.1 1, (M.out.1).at.1 2, (M.out.1).at.1 3⟩) (fun hH39 => ?_)
  rw [← hv] at hH39 ⊢
  clear hv
  refine tk at0 ?_
  refine tk at1 ?_
  refine tk at2 ?_
  refine tk at3 ?_
  refine tk at4 ?_
  refine wpAnyH_ready (rs := [5]) (by kernel_rfl) (by simp) ?_
  refine AllReadyH.cons at5 (fun K hK => ?_) AllReadyH.nil
  go_simp
  obtain ⟨q44, eq44⟩ : ∃ v_ : Rat, v_ = ((3 : Int) : Rat) := ⟨_, rfl⟩
  refine (fqInt (G := G) (x := 3) (by decide)).mono ?_
  rintro e w7 ⟨x_40, x_41, x_42, x_43, rfl, hd45, hb⟩
  rw [← eq44] at hd45
  have Sq44 : Hid (Fz q44 4) := by show Fz q44 4; rw [eq44]; exact (Fz.int64 (by omega))
  have Eq44 := Lib.hid eq44; clear eq44
  replace M := Lib.hid (And.intro hd45 (Goes.go M.out hb))
  clear hb hd45
  (try go_wp2_with fail)
  refine hK.out _ _ (⟨(M.out.2.1).at.1 0, (M.out.2.1).at.1 1, (M.out.2.1).at.1 2, (M.out.2.1).at.1 3⟩) (fun hH46 => ?_)
  clear hK K hH39
  (try simp only [Act.put, List.setIfInBounds_toArray, List.set_cons_zero, List.set_cons_succ])
  refine tk at6 ?_
  refine wpAnyH_ready (rs := [7]) (by kernel_rfl) (by simp) ?_
  refine AllReadyH.cons at7 (fun K hK => ?_) AllReadyH.nil
  go_simp
  obtain ⟨w8, hv⟩ : ∃ w_ : World, w_ = (w7.alloc (.cells #[.int .i64 3, x_40, x_41, x_42, x_43] 48)) := ⟨_, rfl⟩
  rw [← hv]
  have ow2_ : w4.heap.size < w7.heap.size := ((M.out.2.1)).lt
  replace M := Lib.hid (And.intro (hv ▸ bx1 w7 48 #[.int .i64 3, x_40, x_41, x_42, x_43]) (Goes.go M.out (hv ▸ below_alloc _ _ : Below w7.heap.size w7 w8)))
  clear hv
  refine hK.out _ _ (⟨(M.out.2.2.1).at.1 0, (M.out.2.2.1).at.1 1, (M.out.2.2.1).at.1 2, (M.out.2.2.1).at.1 3⟩) (fun hH47 => ?_)
  clear hK K hH46
  (try simp only [Act.put, List.setIfInBounds_toArray, List.set_cons_zero, List.set_cons_succ])
  refine wpAnyH_ready (rs := [8]) (by kernel_rfl) (by simp) ?_
  refine AllReadyH.cons at8 (fun K hK => ?_) AllReadyH.nil
  go_simp
  have hlen_ : n_15 ≤ 1000000 := by have h1_ := congrArg List.length (hu24.out); rw [(show List.map LC.ly ll13 = exL from by rw [Ell13.out]; show [(⟨_, _⟩ : Ly), ⟨_, _⟩] = _; rw [Eq5.out, Eq11.out]; rfl), ex0, List.length_map, (M.out.2.2.2.1).len] at h1_; simp at h1_; omega
  obtain ⟨ll48, h_⟩ : ∃ l_ : List LC, l_ = [⟨3, x_40, x_41, x_42, x_43, q44⟩] := ⟨_, rfl⟩
  have Ell48 := Lib.hid h_; clear h_
  refine (stSame (G := G) (l := l_17) (m := ll48) (b_ := true) (Nat.le_trans hG (M.out.2.2.2.2.2).size) (M.out.2.2.2.1) (by rw [Ell48.out]; exact RdL.of (OwB.new (α := LC) (M.out.1) rfl hG (show w.heap.size ≤ _ by omega) (oks_cons (M.out.2.1) (fun y_ hy_ => by simp at hy_))).rd rfl (by omega)) (by omega) (by decide) (fz_of_ly (by rw [hu24.out, (show List.map LC.ly ll13 = exL from by rw [Ell13.out]; show [(⟨_, _⟩ : Ly), ⟨_, _⟩] = _; rw [Eq5.out, Eq11.out]; rfl), ex0]; exact fun y_ hy_ => by simp at hy_; subst hy_; exact (Fz.int64 (x := 3) (by omega)).mono (by omega))) (by rw [Ell48.out]; exact (FzL.cons (Fz.mono Sq44.out (by omega)) (fun y_ hy_ => by simp at hy_))) (decide_eq_true (by rw [hu24.out, (show List.map LC.ly ll13 = exL from by rw [Ell13.out]; show [(⟨_, _⟩ : Ly), ⟨_, _⟩] = _; rw [Eq5.out, Eq11.out]; rfl), ex0, Ell48.out]; show [(⟨_, _⟩ : Ly)] = [(⟨_, _⟩ : Ly)]; rw [Eq44.out]))).mono ?_
  rintro e w9 ⟨rfl, hb⟩
  replace M := Lib.hid (Goes.go M.out hb)
  clear hb
  (try go_wp2_with fail)
  refine hK.out _ _ (⟨(M.out.2.2.1).at.1 0, (M.out.2.2.1).at.1 1, (M.out.2.2.1).at.1 2, (M.out.2.2.1).at.1 3⟩) (fun hH49 => ?_)
  clear hK K hH47
  (try simp only [Act.put, List.setIfInBounds_toArray, List.set_cons_zero, List.set_cons_succ])
  refine tk at9 ?_
  refine tk at10 ?_
  refine tk at11 ?_
  refine tk at12 ?_
  refine wpAnyH_ready (rs := [13]) (by kernel_rfl) (by simp) ?_
  refine AllReadyH.cons at13 (fun K hK => ?_) AllReadyH.nil
  go_simp
  obtain ⟨q54, eq54⟩ : ∃ v_ : Rat, v_ = ((32 : Int) : Rat) := ⟨_, rfl⟩
  refine (fqInt (G := G) (x := 32) (by decide)).mono ?_
  rintro e w10 ⟨x_50, x_51, x_52, x_53, rfl, hd55, hb⟩
  rw [← eq54] at hd55
  have Sq54 : Hid (Fz q54 4) := by show Fz q54 4; rw [eq54]; exact (Fz.int64 (by omega))
  have Eq54 := Lib.hid eq54; clear eq54
  replace M := Lib.hid (And.intro hd55 (Goes.go M.out hb))
  clear hb hd55
  (try go_wp2_with fail)
  refine hK.out _ _ (⟨(M.out.2.2.2.1).at.1 0, (M.out.2.2.2.1).at.1 1, (M.out.2.2.2.1).at.1 2, (M.out.2.2.2.1).at.1 3⟩) (fun hH56 => ?_)
  clear hK K hH49
  (try simp only [Act.put, List.setIfInBounds_toArray, List.set_cons_zero, List.set_cons_succ])
  refine wpAnyH_ready (rs := [14]) (by kernel_rfl) (by simp) ?_
  refine AllReadyH.cons at14 (fun K hK => ?_) AllReadyH.nil
  go_simp
  refine (fsame_o (G := G) (o := (some q22)) (p := (some q54)) (b_ := true) (M.out.2.2.2.2.2.1) (M.out.1) (Oz.mono (Oz.some_ Sq22.out) (by omega)) (Oz.mono (Oz.some_ Sq54.out) (by omega)) (decide_eq_true (congrArg some (by rw [Eq22.out, Eq54.out, (show List.map LC.ly ll13 = exL from by rw [Ell13.out]; show [(⟨_, _⟩ : Ly), ⟨_, _⟩] = _; rw [Eq5.out, Eq11.out]; rfl), ex0])))).mono ?_
  rintro e w11 ⟨rfl, hb⟩
  replace M := Lib.hid (Goes.go M.out hb)
  clear hb
  (try go_wp2_with fail)
  refine hK.out _ _ (⟨(M.out.2.2.2.1).at.1 0, (M.out.2.2.2.1).at.1 1, (M.out.2.2.2.1).at.1 2, (M.out.2.2.2.1).at.1 3⟩) (fun hH57 => ?_)
  clear hK K hH56
  (try simp only [Act.put, List.setIfInBounds_toArray, List.set_cons_zero, List.set_cons_succ])
  refine tk at15 ?_
  refine tk at16 ?_
  refine wpAnyH_done (by kernel_rfl) ?_ _
  clear hH57
  go_wp2_with fail
  go_ret
  exact ⟨rfl, (M.out.2.2.2.2.2.2)⟩
set_option maxRecDepth 100000 in
set_option maxHeartbeats 4000000 in
theorem stOne1 {w : World} (hG : G ≤ w.heap.size) :
    Calls Try.prog 22 #[.int .i64 1, .int .i64 9, .int .i64 26] w fun e w' => e = .returned (.bool true) ∧ Below w.heap.size w w' := by
  have h0_ : True := trivial
  have M : Hid (Below w.heap.size w w) := Below.refl _ _
  go_enter Try.func22, Try.ntmps22
  go_wp2_with fail
  obtain ⟨q5, eq5⟩ : ∃ v_ : Rat, v_ = ((30 : Int) : Rat) := ⟨_, rfl⟩
  refine (fqInt (G := G) (x := 30) (by decide)).mono ?_
  rintro e w1 ⟨x_1, x_2, x_3, x_4, rfl, hd6, hb⟩
  rw [← eq5] at hd6
  have Sq5 : Hid (Fz q5 4) := by show Fz q5 4; rw [eq5]; exact (Fz.int64 (by omega))
  have Eq5 := Lib.hid eq5; clear eq5
  replace M := Lib.hid (And.intro hd6 (Goes.go M.out hb))
  clear hb hd6
  go_wp2_with fail
  obtain ⟨q11, eq11⟩ : ∃ v_ : Rat, v_ = ((5 : Int) : Rat) := ⟨_, rfl⟩
  refine (fqInt (G := G) (x := 5) (by decide)).mono ?_
  rintro e w2 ⟨x_7, x_8, x_9, x_10, rfl, hd12, hb⟩
  rw [← eq11] at hd12
  have Sq11 : Hid (Fz q11 4) := by show Fz q11 4; rw [eq11]; exact (Fz.int64 (by omega))
  have Eq11 := Lib.hid eq11; clear eq11
  replace M := Lib.hid (And.intro hd12 (Goes.go M.out hb))
  clear hb hd12
  go_upto_region 2 with fail
  obtain ⟨w3, hv⟩ : ∃ w_ : World, w_ = (w2.alloc (.cells #[.int .i64 10, x_1, x_2, x_3, x_4, .int .i64 5, x_7, x_8, x_9, x_10] 48)) := ⟨_, rfl⟩
  rw [← hv]
  have ow0_ : w.heap.size ≤ w2.heap.size := ((M.out.2.2)).size
  replace M := Lib.hid (And.intro (hv ▸ bx1 w2 48 #[.int .i64 10, x_1, x_2, x_3, x_4, .int .i64 5, x_7, x_8, x_9, x_10]) (Goes.go M.out (hv ▸ below_alloc _ _ : Below w2.heap.size w2 w3)))
  clear hv
  go_wp2_with fail
  obtain ⟨ll13, h_⟩ : ∃ l_ : List LC, l_ = [⟨10, x_1, x_2, x_3, x_4, q5⟩, ⟨5, x_7, x_8, x_9, x_10, q11⟩] := ⟨_, rfl⟩
  have Ell13 := Lib.hid h_; clear h_
  obtain ⟨q22, eq22⟩ : ∃ v_ : Rat, v_ = ((drawR 1 (ll13.map LC.ly) 12).2) := ⟨_, rfl⟩
  refine (draw_ok (G := G) (l := ll13) (rl := 1) (am0 := 12) (Nat.le_trans hG (M.out.2.2.2).size) (by rw [Ell13.out]; exact RdL.of (OwB.new (α := LC) (M.out.1) rfl hG (show w.heap.size ≤ _ by omega) (oks_cons (M.out.2.2.1) (oks_cons (M.out.2.1) (fun y_ hy_ => by simp at hy_)))).rd rfl (by omega)) (by rw [Ell13.out]; exact okC2 (by show (1 : Int) ≤ 10; omega) (by show 0 ≤ q5; rw [Eq5.out]; exact Rat.intCast_nonneg.2 (by decide)) (by show (1 : Int) ≤ 5; omega) (by show 0 ≤ q11; rw [Eq11.out]; exact Rat.intCast_nonneg.2 (by decide)) (by show (10 + 5 : Int) ≤ 1099511627776; omega)) (by rw [Ell13.out]; exact (FzL.cons (Fz.mono Sq5.out (by omega)) (FzL.cons (Fz.mono Sq11.out (by omega)) (fun y_ hy_ => by simp at hy_)))) (by decide) (by decide) (by decide) (by rw [(show List.map LC.ly ll13 = exL from by rw [Ell13.out]; show [(⟨_, _⟩ : Ly), ⟨_, _⟩] = _; rw [Eq5.out, Eq11.out]; rfl), exLN]; decide)).mono ?_
  rintro e w4 ⟨a_14, n_15, c_16, l_17, x_18, x_19, x_20, x_21, rfl, hd23, hu24, hd25, hb⟩
  rw [← eq22] at hd25
  have Sq22 : Hid (Fz q22 4) := by show Fz q22 4; rw [eq22]; exact (by rw [(show List.map LC.ly ll13 = exL from by rw [Ell13.out]; show [(⟨_, _⟩ : Ly), ⟨_, _⟩] = _; rw [Eq5.out, Eq11.out]; rfl), ex1]; exact Fz.int64 (by omega))
  have Eq22 := Lib.hid eq22; clear eq22
  replace M := Lib.hid (And.intro hd23 (And.intro hd25 (Goes.go M.out hb)))
  clear hb hd23 hd25
  replace hu24 := Lib.hid hu24
  have ys_x_18 := TQ.st (M.out.2.1); have st_x_18 := ys_x_18.1; have st_x_19 := ys_x_18.2.1; have st_x_20 := ys_x_18.2.2.1; have st_x_21 := ys_x_18.2.2.2; clear ys_x_18
  go_wp2_with fail
  clear st_x_18 st_x_19 st_x_20 st_x_21
  obtain ⟨w5, hv⟩ : ∃ w_ : World, w_ = (w4.alloc (.cells #[x_18, x_19, x_20, x_21] 29)) := ⟨_, rfl⟩
  rw [← hv]
  have ow1_ : w2.heap.size < w4.heap.size := ((M.out.2.2.1)).lt
  replace M := Lib.hid (And.intro (hv ▸ bx1 w4 29 #[x_18, x_19, x_20, x_21]) (Goes.go M.out (hv ▸ below_alloc _ _ : Below w4.heap.size w4 w5)))
  clear hv
  replace M := Lib.hid (And.intro (M.out.1) (And.intro (M.out.2.1) (And.intro (M.out.2.2.1) (M.out.2.2.2.2.2.2))))
  obtain ⟨w6, hv⟩ : ∃ w_ : World, w_ = w5.drew := ⟨_, rfl⟩
  replace M := Lib.hid (Goes.go M.out (hv ▸ below_drew _ : Below w5.heap.size w5 w6))
  refine wp_region_held_drew (S := (fun w' => w'.cell? ⟨w4.heap.size, 0, none⟩ = some (x_18) ∧ w'.cell? ⟨w4.heap.size, 1, none⟩ = some (x_19) ∧ w'.cell? ⟨w4.heap.size, 2, none⟩ = some (x_20) ∧ w'.cell? ⟨w4.heap.size, 3, none⟩ = some (x_21))) (by kernel_rfl) (by rw [← hv]; exact ⟨(M.out.1).at.1 0, (M.out.1).at.1 1, (M.out.1).at.1 2, (M.out.1).at.1 3⟩) (fun hH39 => ?_)
  rw [← hv] at hH39 ⊢
  clear hv
  refine tk at0 ?_
  refine tk at1 ?_
  refine tk at2 ?_
  refine tk at3 ?_
  refine tk at4 ?_
  refine wpAnyH_ready (rs := [5]) (by kernel_rfl) (by simp) ?_
  refine AllReadyH.cons at5 (fun K hK => ?_) AllReadyH.nil
  go_simp
  obtain ⟨q44, eq44⟩ : ∃ v_ : Rat, v_ = ((9 : Int) : Rat) := ⟨_, rfl⟩
  refine (fqInt (G := G) (x := 9) (by decide)).mono ?_
  rintro e w7 ⟨x_40, x_41, x_42, x_43, rfl, hd45, hb⟩
  rw [← eq44] at hd45
  have Sq44 : Hid (Fz q44 4) := by show Fz q44 4; rw [eq44]; exact (Fz.int64 (by omega))
  have Eq44 := Lib.hid eq44; clear eq44
  replace M := Lib.hid (And.intro hd45 (Goes.go M.out hb))
  clear hb hd45
  (try go_wp2_with fail)
  refine hK.out _ _ (⟨(M.out.2.1).at.1 0, (M.out.2.1).at.1 1, (M.out.2.1).at.1 2, (M.out.2.1).at.1 3⟩) (fun hH46 => ?_)
  clear hK K hH39
  (try simp only [Act.put, List.setIfInBounds_toArray, List.set_cons_zero, List.set_cons_succ])
  refine tk at6 ?_
  refine wpAnyH_ready (rs := [7]) (by kernel_rfl) (by simp) ?_
  refine AllReadyH.cons at7 (fun K hK => ?_) AllReadyH.nil
  go_simp
  obtain ⟨w8, hv⟩ : ∃ w_ : World, w_ = (w7.alloc (.cells #[.int .i64 3, x_40, x_41, x_42, x_43] 48)) := ⟨_, rfl⟩
  rw [← hv]
  have ow2_ : w4.heap.size < w7.heap.size := ((M.out.2.1)).lt
  replace M := Lib.hid (And.intro (hv ▸ bx1 w7 48 #[.int .i64 3, x_40, x_41, x_42, x_43]) (Goes.go M.out (hv ▸ below_alloc _ _ : Below w7.heap.size w7 w8)))
  clear hv
  refine hK.out _ _ (⟨(M.out.2.2.1).at.1 0, (M.out.2.2.1).at.1 1, (M.out.2.2.1).at.1 2, (M.out.2.2.1).at.1 3⟩) (fun hH47 => ?_)
  clear hK K hH46
  (try simp only [Act.put, List.setIfInBounds_toArray, List.set_cons_zero, List.set_cons_succ])
  refine wpAnyH_ready (rs := [8]) (by kernel_rfl) (by simp) ?_
  refine AllReadyH.cons at8 (fun K hK => ?_) AllReadyH.nil
  go_simp
  have hlen_ : n_15 ≤ 1000000 := by have h1_ := congrArg List.length (hu24.out); rw [(show List.map LC.ly ll13 = exL from by rw [Ell13.out]; show [(⟨_, _⟩ : Ly), ⟨_, _⟩] = _; rw [Eq5.out, Eq11.out]; rfl), ex1, List.length_map, (M.out.2.2.2.1).len] at h1_; simp at h1_; omega
  obtain ⟨ll48, h_⟩ : ∃ l_ : List LC, l_ = [⟨3, x_40, x_41, x_42, x_43, q44⟩] := ⟨_, rfl⟩
  have Ell48 := Lib.hid h_; clear h_
  refine (stSame (G := G) (l := l_17) (m := ll48) (b_ := true) (Nat.le_trans hG (M.out.2.2.2.2.2).size) (M.out.2.2.2.1) (by rw [Ell48.out]; exact RdL.of (OwB.new (α := LC) (M.out.1) rfl hG (show w.heap.size ≤ _ by omega) (oks_cons (M.out.2.1) (fun y_ hy_ => by simp at hy_))).rd rfl (by omega)) (by omega) (by decide) (fz_of_ly (by rw [hu24.out, (show List.map LC.ly ll13 = exL from by rw [Ell13.out]; show [(⟨_, _⟩ : Ly), ⟨_, _⟩] = _; rw [Eq5.out, Eq11.out]; rfl), ex1]; exact fun y_ hy_ => by simp at hy_; subst hy_; exact (Fz.int64 (x := 9) (by omega)).mono (by omega))) (by rw [Ell48.out]; exact (FzL.cons (Fz.mono Sq44.out (by omega)) (fun y_ hy_ => by simp at hy_))) (decide_eq_true (by rw [hu24.out, (show List.map LC.ly ll13 = exL from by rw [Ell13.out]; show [(⟨_, _⟩ : Ly), ⟨_, _⟩] = _; rw [Eq5.out, Eq11.out]; rfl), ex1, Ell48.out]; show [(⟨_, _⟩ : Ly)] = [(⟨_, _⟩ : Ly)]; rw [Eq44.out]))).mono ?_
  rintro e w9 ⟨rfl, hb⟩
  replace M := Lib.hid (Goes.go M.out hb)
  clear hb
  (try go_wp2_with fail)
  refine hK.out _ _ (⟨(M.out.2.2.1).at.1 0, (M.out.2.2.1).at.1 1, (M.out.2.2.1).at.1 2, (M.out.2.2.1).at.1 3⟩) (fun hH49 => ?_)
  clear hK K hH47
  (try simp only [Act.put, List.setIfInBounds_toArray, List.set_cons_zero, List.set_cons_succ])
  refine tk at9 ?_
  refine tk at10 ?_
  refine tk at11 ?_
  refine tk at12 ?_
  refine wpAnyH_ready (rs := [13]) (by kernel_rfl) (by simp) ?_
  refine AllReadyH.cons at13 (fun K hK => ?_) AllReadyH.nil
  go_simp
  obtain ⟨q54, eq54⟩ : ∃ v_ : Rat, v_ = ((26 : Int) : Rat) := ⟨_, rfl⟩
  refine (fqInt (G := G) (x := 26) (by decide)).mono ?_
  rintro e w10 ⟨x_50, x_51, x_52, x_53, rfl, hd55, hb⟩
  rw [← eq54] at hd55
  have Sq54 : Hid (Fz q54 4) := by show Fz q54 4; rw [eq54]; exact (Fz.int64 (by omega))
  have Eq54 := Lib.hid eq54; clear eq54
  replace M := Lib.hid (And.intro hd55 (Goes.go M.out hb))
  clear hb hd55
  (try go_wp2_with fail)
  refine hK.out _ _ (⟨(M.out.2.2.2.1).at.1 0, (M.out.2.2.2.1).at.1 1, (M.out.2.2.2.1).at.1 2, (M.out.2.2.2.1).at.1 3⟩) (fun hH56 => ?_)
  clear hK K hH49
  (try simp only [Act.put, List.setIfInBounds_toArray, List.set_cons_zero, List.set_cons_succ])
  refine wpAnyH_ready (rs := [14]) (by kernel_rfl) (by simp) ?_
  refine AllReadyH.cons at14 (fun K hK => ?_) AllReadyH.nil
  go_simp
  refine (fsame_o (G := G) (o := (some q22)) (p := (some q54)) (b_ := true) (M.out.2.2.2.2.2.1) (M.out.1) (Oz.mono (Oz.some_ Sq22.out) (by omega)) (Oz.mono (Oz.some_ Sq54.out) (by omega)) (decide_eq_true (congrArg some (by rw [Eq22.out, Eq54.out, (show List.map LC.ly ll13 = exL from by rw [Ell13.out]; show [(⟨_, _⟩ : Ly), ⟨_, _⟩] = _; rw [Eq5.out, Eq11.out]; rfl), ex1])))).mono ?_
  rintro e w11 ⟨rfl, hb⟩
  replace M := Lib.hid (Goes.go M.out hb)
  clear hb
  (try go_wp2_with fail)
  refine hK.out _ _ (⟨(M.out.2.2.2.1).at.1 0, (M.out.2.2.2.1).at.1 1, (M.out.2.2.2.1).at.1 2, (M.out.2.2.2.1).at.1 3⟩) (fun hH57 => ?_)
  clear hK K hH56
  (try simp only [Act.put, List.setIfInBounds_toArray, List.set_cons_zero, List.set_cons_succ])
  refine tk at15 ?_
  refine tk at16 ?_
  refine wpAnyH_done (by kernel_rfl) ?_ _
  clear hH57
  go_wp2_with fail
  go_ret
  exact ⟨rfl, (M.out.2.2.2.2.2.2)⟩
set_option maxRecDepth 100000 in
set_option maxHeartbeats 4000000 in
theorem stOne2 {w : World} (hG : G ≤ w.heap.size) :
    Calls Try.prog 22 #[.int .i64 2, .int .i64 7, .int .i64 28] w fun e w' => e = .returned (.bool true) ∧ Below w.heap.size w w' := by
  have h0_ : True := trivial
  have M : Hid (Below w.heap.size w w) := Below.refl _ _
  go_enter Try.func22, Try.ntmps22
  go_wp2_with fail
  obtain ⟨q5, eq5⟩ : ∃ v_ : Rat, v_ = ((30 : Int) : Rat) := ⟨_, rfl⟩
  refine (fqInt (G := G) (x := 30) (by decide)).mono ?_
  rintro e w1 ⟨x_1, x_2, x_3, x_4, rfl, hd6, hb⟩
  rw [← eq5] at hd6
  have Sq5 : Hid (Fz q5 4) := by show Fz q5 4; rw [eq5]; exact (Fz.int64 (by omega))
  have Eq5 := Lib.hid eq5; clear eq5
  replace M := Lib.hid (And.intro hd6 (Goes.go M.out hb))
  clear hb hd6
  go_wp2_with fail
  obtain ⟨q11, eq11⟩ : ∃ v_ : Rat, v_ = ((5 : Int) : Rat) := ⟨_, rfl⟩
  refine (fqInt (G := G) (x := 5) (by decide)).mono ?_
  rintro e w2 ⟨x_7, x_8, x_9, x_10, rfl, hd12, hb⟩
  rw [← eq11] at hd12
  have Sq11 : Hid (Fz q11 4) := by show Fz q11 4; rw [eq11]; exact (Fz.int64 (by omega))
  have Eq11 := Lib.hid eq11; clear eq11
  replace M := Lib.hid (And.intro hd12 (Goes.go M.out hb))
  clear hb hd12
  go_upto_region 2 with fail
  obtain ⟨w3, hv⟩ : ∃ w_ : World, w_ = (w2.alloc (.cells #[.int .i64 10, x_1, x_2, x_3, x_4, .int .i64 5, x_7, x_8, x_9, x_10] 48)) := ⟨_, rfl⟩
  rw [← hv]
  have ow0_ : w.heap.size ≤ w2.heap.size := ((M.out.2.2)).size
  replace M := Lib.hid (And.intro (hv ▸ bx1 w2 48 #[.int .i64 10, x_1, x_2, x_3, x_4, .int .i64 5, x_7, x_8, x_9, x_10]) (Goes.go M.out (hv ▸ below_alloc _ _ : Below w2.heap.size w2 w3)))
  clear hv
  go_wp2_with fail
  obtain ⟨ll13, h_⟩ : ∃ l_ : List LC, l_ = [⟨10, x_1, x_2, x_3, x_4, q5⟩, ⟨5, x_7, x_8, x_9, x_10, q11⟩] := ⟨_, rfl⟩
  have Ell13 := Lib.hid h_; clear h_
  obtain ⟨q22, eq22⟩ : ∃ v_ : Rat, v_ = ((drawR 2 (ll13.map LC.ly) 12).2) := ⟨_, rfl⟩
  refine (draw_ok (G := G) (l := ll13) (rl := 2) (am0 := 12) (Nat.le_trans hG (M.out.2.2.2).size) (by rw [Ell13.out]; exact RdL.of (OwB.new (α := LC) (M.out.1) rfl hG (show w.heap.size ≤ _ by omega) (oks_cons (M.out.2.2.1) (oks_cons (M.out.2.1) (fun y_ hy_ => by simp at hy_)))).rd rfl (by omega)) (by rw [Ell13.out]; exact okC2 (by show (1 : Int) ≤ 10; omega) (by show 0 ≤ q5; rw [Eq5.out]; exact Rat.intCast_nonneg.2 (by decide)) (by show (1 : Int) ≤ 5; omega) (by show 0 ≤ q11; rw [Eq11.out]; exact Rat.intCast_nonneg.2 (by decide)) (by show (10 + 5 : Int) ≤ 1099511627776; omega)) (by rw [Ell13.out]; exact (FzL.cons (Fz.mono Sq5.out (by omega)) (FzL.cons (Fz.mono Sq11.out (by omega)) (fun y_ hy_ => by simp at hy_)))) (by decide) (by decide) (by decide) (by rw [(show List.map LC.ly ll13 = exL from by rw [Ell13.out]; show [(⟨_, _⟩ : Ly), ⟨_, _⟩] = _; rw [Eq5.out, Eq11.out]; rfl), exLN]; decide)).mono ?_
  rintro e w4 ⟨a_14, n_15, c_16, l_17, x_18, x_19, x_20, x_21, rfl, hd23, hu24, hd25, hb⟩
  rw [← eq22] at hd25
  have Sq22 : Hid (Fz q22 4) := by show Fz q22 4; rw [eq22]; exact (by rw [(show List.map LC.ly ll13 = exL from by rw [Ell13.out]; show [(⟨_, _⟩ : Ly), ⟨_, _⟩] = _; rw [Eq5.out, Eq11.out]; rfl), ex2]; exact Fz.int64 (by omega))
  have Eq22 := Lib.hid eq22; clear eq22
  replace M := Lib.hid (And.intro hd23 (And.intro hd25 (Goes.go M.out hb)))
  clear hb hd23 hd25
  replace hu24 := Lib.hid hu24
  have ys_x_18 := TQ.st (M.out.2.1); have st_x_18 := ys_x_18.1; have st_x_19 := ys_x_18.2.1; have st_x_20 := ys_x_18.2.2.1; have st_x_21 := ys_x_18.2.2.2; clear ys_x_18
  go_wp2_with fail
  clear st_x_18 st_x_19 st_x_20 st_x_21
  obtain ⟨w5, hv⟩ : ∃ w_ : World, w_ = (w4.alloc (.cells #[x_18, x_19, x_20, x_21] 29)) := ⟨_, rfl⟩
  rw [← hv]
  have ow1_ : w2.heap.size < w4.heap.size := ((M.out.2.2.1)).lt
  replace M := Lib.hid (And.intro (hv ▸ bx1 w4 29 #[x_18, x_19, x_20, x_21]) (Goes.go M.out (hv ▸ below_alloc _ _ : Below w4.heap.size w4 w5)))
  clear hv
  replace M := Lib.hid (And.intro (M.out.1) (And.intro (M.out.2.1) (And.intro (M.out.2.2.1) (M.out.2.2.2.2.2.2))))
  obtain ⟨w6, hv⟩ : ∃ w_ : World, w_ = w5.drew := ⟨_, rfl⟩
  replace M := Lib.hid (Goes.go M.out (hv ▸ below_drew _ : Below w5.heap.size w5 w6))
  refine wp_region_held_drew (S := (fun w' => w'.cell? ⟨w4.heap.size, 0, none⟩ = some (x_18) ∧ w'.cell? ⟨w4.heap.size, 1, none⟩ = some (x_19) ∧ w'.cell? ⟨w4.heap.size, 2, none⟩ = some (x_20) ∧ w'.cell? ⟨w4.heap.size, 3, none⟩ = some (x_21))) (by kernel_rfl) (by rw [← hv]; exact ⟨(M.out.1).at.1 0, (M.out.1).at.1 1, (M.out.1).at.1 2, (M.out.1).at.1 3⟩) (fun hH39 => ?_)
  rw [← hv] at hH39 ⊢
  clear hv
  refine tk at0 ?_
  refine tk at1 ?_
  refine tk at2 ?_
  refine tk at3 ?_
  refine tk at4 ?_
  refine wpAnyH_ready (rs := [5]) (by kernel_rfl) (by simp) ?_
  refine AllReadyH.cons at5 (fun K hK => ?_) AllReadyH.nil
  go_simp
  obtain ⟨q44, eq44⟩ : ∃ v_ : Rat, v_ = ((7 : Int) : Rat) := ⟨_, rfl⟩
  refine (fqInt (G := G) (x := 7) (by decide)).mono ?_
  rintro e w7 ⟨x_40, x_41, x_42, x_43, rfl, hd45, hb⟩
  rw [← eq44] at hd45
  have Sq44 : Hid (Fz q44 4) := by show Fz q44 4; rw [eq44]; exact (Fz.int64 (by omega))
  have Eq44 := Lib.hid eq44; clear eq44
  replace M := Lib.hid (And.intro hd45 (Goes.go M.out hb))
  clear hb hd45
  (try go_wp2_with fail)
  refine hK.out _ _ (⟨(M.out.2.1).at.1 0, (M.out.2.1).at.1 1, (M.out.2.1).at.1 2, (M.out.2.1).at.1 3⟩) (fun hH46 => ?_)
  clear hK K hH39
  (try simp only [Act.put, List.setIfInBounds_toArray, List.set_cons_zero, List.set_cons_succ])
  refine tk at6 ?_
  refine wpAnyH_ready (rs := [7]) (by kernel_rfl) (by simp) ?_
  refine AllReadyH.cons at7 (fun K hK => ?_) AllReadyH.nil
  go_simp
  obtain ⟨w8, hv⟩ : ∃ w_ : World, w_ = (w7.alloc (.cells #[.int .i64 3, x_40, x_41, x_42, x_43] 48)) := ⟨_, rfl⟩
  rw [← hv]
  have ow2_ : w4.heap.size < w7.heap.size := ((M.out.2.1)).lt
  replace M := Lib.hid (And.intro (hv ▸ bx1 w7 48 #[.int .i64 3, x_40, x_41, x_42, x_43]) (Goes.go M.out (hv ▸ below_alloc _ _ : Below w7.heap.size w7 w8)))
  clear hv
  refine hK.out _ _ (⟨(M.out.2.2.1).at.1 0, (M.out.2.2.1).at.1 1, (M.out.2.2.1).at.1 2, (M.out.2.2.1).at.1 3⟩) (fun hH47 => ?_)
  clear hK K hH46
  (try simp only [Act.put, List.setIfInBounds_toArray, List.set_cons_zero, List.set_cons_succ])
  refine wpAnyH_ready (rs := [8]) (by kernel_rfl) (by simp) ?_
  refine AllReadyH.cons at8 (fun K hK => ?_) AllReadyH.nil
  go_simp
  have hlen_ : n_15 ≤ 1000000 := by have h1_ := congrArg List.length (hu24.out); rw [(show List.map LC.ly ll13 = exL from by rw [Ell13.out]; show [(⟨_, _⟩ : Ly), ⟨_, _⟩] = _; rw [Eq5.out, Eq11.out]; rfl), ex2, List.length_map, (M.out.2.2.2.1).len] at h1_; simp at h1_; omega
  obtain ⟨ll48, h_⟩ : ∃ l_ : List LC, l_ = [⟨3, x_40, x_41, x_42, x_43, q44⟩] := ⟨_, rfl⟩
  have Ell48 := Lib.hid h_; clear h_
  refine (stSame (G := G) (l := l_17) (m := ll48) (b_ := true) (Nat.le_trans hG (M.out.2.2.2.2.2).size) (M.out.2.2.2.1) (by rw [Ell48.out]; exact RdL.of (OwB.new (α := LC) (M.out.1) rfl hG (show w.heap.size ≤ _ by omega) (oks_cons (M.out.2.1) (fun y_ hy_ => by simp at hy_))).rd rfl (by omega)) (by omega) (by decide) (fz_of_ly (by rw [hu24.out, (show List.map LC.ly ll13 = exL from by rw [Ell13.out]; show [(⟨_, _⟩ : Ly), ⟨_, _⟩] = _; rw [Eq5.out, Eq11.out]; rfl), ex2]; exact fun y_ hy_ => by simp at hy_; subst hy_; exact (Fz.int64 (x := 7) (by omega)).mono (by omega))) (by rw [Ell48.out]; exact (FzL.cons (Fz.mono Sq44.out (by omega)) (fun y_ hy_ => by simp at hy_))) (decide_eq_true (by rw [hu24.out, (show List.map LC.ly ll13 = exL from by rw [Ell13.out]; show [(⟨_, _⟩ : Ly), ⟨_, _⟩] = _; rw [Eq5.out, Eq11.out]; rfl), ex2, Ell48.out]; show [(⟨_, _⟩ : Ly)] = [(⟨_, _⟩ : Ly)]; rw [Eq44.out]))).mono ?_
  rintro e w9 ⟨rfl, hb⟩
  replace M := Lib.hid (Goes.go M.out hb)
  clear hb
  (try go_wp2_with fail)
  refine hK.out _ _ (⟨(M.out.2.2.1).at.1 0, (M.out.2.2.1).at.1 1, (M.out.2.2.1).at.1 2, (M.out.2.2.1).at.1 3⟩) (fun hH49 => ?_)
  clear hK K hH47
  (try simp only [Act.put, List.setIfInBounds_toArray, List.set_cons_zero, List.set_cons_succ])
  refine tk at9 ?_
  refine tk at10 ?_
  refine tk at11 ?_
  refine tk at12 ?_
  refine wpAnyH_ready (rs := [13]) (by kernel_rfl) (by simp) ?_
  refine AllReadyH.cons at13 (fun K hK => ?_) AllReadyH.nil
  go_simp
  obtain ⟨q54, eq54⟩ : ∃ v_ : Rat, v_ = ((28 : Int) : Rat) := ⟨_, rfl⟩
  refine (fqInt (G := G) (x := 28) (by decide)).mono ?_
  rintro e w10 ⟨x_50, x_51, x_52, x_53, rfl, hd55, hb⟩
  rw [← eq54] at hd55
  have Sq54 : Hid (Fz q54 4) := by show Fz q54 4; rw [eq54]; exact (Fz.int64 (by omega))
  have Eq54 := Lib.hid eq54; clear eq54
  replace M := Lib.hid (And.intro hd55 (Goes.go M.out hb))
  clear hb hd55
  (try go_wp2_with fail)
  refine hK.out _ _ (⟨(M.out.2.2.2.1).at.1 0, (M.out.2.2.2.1).at.1 1, (M.out.2.2.2.1).at.1 2, (M.out.2.2.2.1).at.1 3⟩) (fun hH56 => ?_)
  clear hK K hH49
  (try simp only [Act.put, List.setIfInBounds_toArray, List.set_cons_zero, List.set_cons_succ])
  refine wpAnyH_ready (rs := [14]) (by kernel_rfl) (by simp) ?_
  refine AllReadyH.cons at14 (fun K hK => ?_) AllReadyH.nil
  go_simp
  refine (fsame_o (G := G) (o := (some q22)) (p := (some q54)) (b_ := true) (M.out.2.2.2.2.2.1) (M.out.1) (Oz.mono (Oz.some_ Sq22.out) (by omega)) (Oz.mono (Oz.some_ Sq54.out) (by omega)) (decide_eq_true (congrArg some (by rw [Eq22.out, Eq54.out, (show List.map LC.ly ll13 = exL from by rw [Ell13.out]; show [(⟨_, _⟩ : Ly), ⟨_, _⟩] = _; rw [Eq5.out, Eq11.out]; rfl), ex2])))).mono ?_
  rintro e w11 ⟨rfl, hb⟩
  replace M := Lib.hid (Goes.go M.out hb)
  clear hb
  (try go_wp2_with fail)
  refine hK.out _ _ (⟨(M.out.2.2.2.1).at.1 0, (M.out.2.2.2.1).at.1 1, (M.out.2.2.2.1).at.1 2, (M.out.2.2.2.1).at.1 3⟩) (fun hH57 => ?_)
  clear hK K hH56
  (try simp only [Act.put, List.setIfInBounds_toArray, List.set_cons_zero, List.set_cons_succ])
  refine tk at15 ?_
  refine tk at16 ?_
  refine wpAnyH_done (by kernel_rfl) ?_ _
  clear hH57
  go_wp2_with fail
  go_ret
  exact ⟨rfl, (M.out.2.2.2.2.2.2)⟩
theorem stTotal_is {N : Int} {l : List LC} {a : Option Addr} {n c : Nat} {w : World} (hG : G ≤ w.heap.size) (h : RdC G w a n c l) (ok : OkC l) (hz : FzL l 100000000) (hN : sumN (l.map LC.ly) = N) :
    Calls Try.prog 10 #[.slice a n c] w fun e w' => ∃ x0 x1 x2 x3, e = .returned (.tuple #[.int .i64 N, .agg #[x0, x1, x2, x3]]) ∧ FQ G w' x0 x1 x2 x3 (sumB (l.map LC.ly)) ∧ Below w.heap.size w w' := by
  subst hN; exact stTotal hG h ok hz
set_option maxRecDepth 100000 in
set_option maxHeartbeats 4000000 in
theorem stSmall {w : World} (hG : G ≤ w.heap.size) :
    Calls Try.prog 7 #[] w fun e w' => e = .returned (.bool true) ∧ Below w.heap.size w w' := by
  have h0_ : True := trivial
  have M : Hid (Below w.heap.size w w) := Below.refl _ _
  go_enter Try.func7, Try.ntmps7
  go_wp2_with fail
  obtain ⟨q5, eq5⟩ : ∃ v_ : Rat, v_ = ((30 : Int) : Rat) := ⟨_, rfl⟩
  refine (fqInt (G := G) (x := 30) (by decide)).mono ?_
  rintro e w1 ⟨x_1, x_2, x_3, x_4, rfl, hd6, hb⟩
  rw [← eq5] at hd6
  have Sq5 : Hid (Fz q5 4) := by show Fz q5 4; rw [eq5]; exact (Fz.int64 (by omega))
  have Eq5 := Lib.hid eq5; clear eq5
  replace M := Lib.hid (And.intro hd6 (Goes.go M.out hb))
  clear hb hd6
  go_wp2_with fail
  obtain ⟨q11, eq11⟩ : ∃ v_ : Rat, v_ = ((5 : Int) : Rat) := ⟨_, rfl⟩
  refine (fqInt (G := G) (x := 5) (by decide)).mono ?_
  rintro e w2 ⟨x_7, x_8, x_9, x_10, rfl, hd12, hb⟩
  rw [← eq11] at hd12
  have Sq11 : Hid (Fz q11 4) := by show Fz q11 4; rw [eq11]; exact (Fz.int64 (by omega))
  have Eq11 := Lib.hid eq11; clear eq11
  replace M := Lib.hid (And.intro hd12 (Goes.go M.out hb))
  clear hb hd12
  go_upto_region 2 with fail
  obtain ⟨w3, hv⟩ : ∃ w_ : World, w_ = (w2.alloc (.cells #[.int .i64 10, x_1, x_2, x_3, x_4, .int .i64 5, x_7, x_8, x_9, x_10] 48)) := ⟨_, rfl⟩
  rw [← hv]
  have ow0_ : w.heap.size ≤ w2.heap.size := ((M.out.2.2)).size
  replace M := Lib.hid (And.intro (hv ▸ bx1 w2 48 #[.int .i64 10, x_1, x_2, x_3, x_4, .int .i64 5, x_7, x_8, x_9, x_10]) (Goes.go M.out (hv ▸ below_alloc _ _ : Below w2.heap.size w2 w3)))
  clear hv
  go_wp2_with fail
  obtain ⟨ll13, h_⟩ : ∃ l_ : List LC, l_ = [⟨10, x_1, x_2, x_3, x_4, q5⟩, ⟨5, x_7, x_8, x_9, x_10, q11⟩] := ⟨_, rfl⟩
  have Ell13 := Lib.hid h_; clear h_
  refine (draw_over (G := G) (l := ll13) (rl := 2) (am0 := 16) (Nat.le_trans hG (M.out.2.2.2).size) (by rw [Ell13.out]; exact RdL.of (OwB.new (α := LC) (M.out.1) rfl hG (show w.heap.size ≤ _ by omega) (oks_cons (M.out.2.2.1) (oks_cons (M.out.2.1) (fun y_ hy_ => by simp at hy_)))).rd rfl (by omega)) (by rw [Ell13.out]; exact okC2 (by show (1 : Int) ≤ 10; omega) (by show 0 ≤ q5; rw [Eq5.out]; exact Rat.intCast_nonneg.2 (by decide)) (by show (1 : Int) ≤ 5; omega) (by show 0 ≤ q11; rw [Eq11.out]; exact Rat.intCast_nonneg.2 (by decide)) (by show (10 + 5 : Int) ≤ 1099511627776; omega)) (by rw [Ell13.out]; exact (FzL.cons (Fz.mono Sq5.out (by omega)) (FzL.cons (Fz.mono Sq11.out (by omega)) (fun y_ hy_ => by simp at hy_)))) (by decide) (by decide) (by decide) (by decide) (by rw [(show List.map LC.ly ll13 = exL from by rw [Ell13.out]; show [(⟨_, _⟩ : Ly), ⟨_, _⟩] = _; rw [Eq5.out, Eq11.out]; rfl), exLN]; decide)).mono ?_
  rintro e w4 ⟨rfl, hb⟩
  replace M := Lib.hid (Goes.go M.out hb)
  clear hb
  go_upto_region 3 with fail
  obtain ⟨w5, hv⟩ : ∃ w_ : World, w_ = (w4.alloc (.cells #[.int .i64 0, .slice none 0 0, .int .i64 0, .slice none 0 0] 29)) := ⟨_, rfl⟩
  rw [← hv]
  have ow1_ : w2.heap.size < w4.heap.size := ((M.out.1)).lt
  replace M := Lib.hid (And.intro (hv ▸ bx1 w4 29 #[.int .i64 0, .slice none 0 0, .int .i64 0, .slice none 0 0]) (Goes.go M.out (hv ▸ below_alloc _ _ : Below w4.heap.size w4 w5)))
  clear hv
  go_wp2_with fail
  obtain ⟨ll14, h_⟩ : ∃ l_ : List LC, l_ = [⟨10, x_1, x_2, x_3, x_4, q5⟩, ⟨5, x_7, x_8, x_9, x_10, q11⟩] := ⟨_, rfl⟩
  have Ell14 := Lib.hid h_; clear h_
  obtain ⟨q19, eq19⟩ : ∃ v_ : Rat, v_ = (sumB (ll14.map LC.ly)) := ⟨_, rfl⟩
  refine (stTotal_is (G := G) (N := 15) (l := ll14) (Nat.le_trans hG (M.out.2.2.2.2).size) (by rw [Ell14.out]; exact RdL.of (OwB.new (α := LC) (M.out.2.1) rfl hG (show w.heap.size ≤ _ by omega) (oks_cons (M.out.2.2.2.1) (oks_cons (M.out.2.2.1) (fun y_ hy_ => by simp at hy_)))).rd rfl (by omega)) (by rw [Ell14.out]; exact okC2 (by show (1 : Int) ≤ 10; omega) (by show 0 ≤ q5; rw [Eq5.out]; exact Rat.intCast_nonneg.2 (by decide)) (by show (1 : Int) ≤ 5; omega) (by show 0 ≤ q11; rw [Eq11.out]; exact Rat.intCast_nonneg.2 (by decide)) (by show (10 + 5 : Int) ≤ 1099511627776; omega)) (by rw [Ell14.out]; exact (FzL.cons (Fz.mono Sq5.out (by omega)) (FzL.cons (Fz.mono Sq11.out (by omega)) (fun y_ hy_ => by simp at hy_)))) (by rw [(show List.map LC.ly ll14 = exL from by rw [Ell14.out]; show [(⟨_, _⟩ : Ly), ⟨_, _⟩] = _; rw [Eq5.out, Eq11.out]; rfl)]; exact exLN)).mono ?_
  rintro e w6 ⟨x_15, x_16, x_17, x_18, rfl, hd20, hb⟩
  rw [← eq19] at hd20
  have Sq19 : Hid (Fz q19 4) := by show Fz q19 4; rw [eq19]; exact (by rw [(show List.map LC.ly ll14 = exL from by rw [Ell14.out]; show [(⟨_, _⟩ : Ly), ⟨_, _⟩] = _; rw [Eq5.out, Eq11.out]; rfl), exLB]; exact Fz.int64 (by omega))
  have Eq19 := Lib.hid eq19; clear eq19
  replace M := Lib.hid (And.intro hd20 (Goes.go M.out hb))
  clear hb hd20
  have ys_x_15 := TQ.st (M.out.1); have st_x_15 := ys_x_15.1; have st_x_16 := ys_x_15.2.1; have st_x_17 := ys_x_15.2.2.1; have st_x_18 := ys_x_15.2.2.2; clear ys_x_15
  go_wp2_with fail
  clear st_x_15 st_x_16 st_x_17 st_x_18
  obtain ⟨w7, hv⟩ : ∃ w_ : World, w_ = (w6.alloc (.cells #[x_15, x_16, x_17, x_18] 29)) := ⟨_, rfl⟩
  rw [← hv]
  have ow2_ : w4.heap.size < w6.heap.size := ((M.out.2.1)).lt
  replace M := Lib.hid (And.intro (hv ▸ bx1 w6 29 #[x_15, x_16, x_17, x_18]) (Goes.go M.out (hv ▸ below_alloc _ _ : Below w6.heap.size w6 w7)))
  clear hv
  replace M := Lib.hid (And.intro (M.out.1) (And.intro (M.out.2.1) (And.intro (M.out.2.2.2.1) (And.intro (M.out.2.2.2.2.1) (And.intro (M.out.2.2.2.2.2.1) (M.out.2.2.2.2.2.2))))))
  obtain ⟨w8, hv⟩ : ∃ w_ : World, w_ = w7.drew := ⟨_, rfl⟩
  replace M := Lib.hid (Goes.go M.out (hv ▸ below_drew _ : Below w7.heap.size w7 w8))
  refine wp_region_held_drew (S := (fun w' => w'.cell? ⟨w6.heap.size, 0, none⟩ = some (x_15) ∧ w'.cell? ⟨w6.heap.size, 1, none⟩ = some (x_16) ∧ w'.cell? ⟨w6.heap.size, 2, none⟩ = some (x_17) ∧ w'.cell? ⟨w6.heap.size, 3, none⟩ = some (x_18))) (by kernel_rfl) (by rw [← hv]; exact ⟨(M.out.1).at.1 0, (M.out.1).at.1 1, (M.out.1).at.1 2, (M.out.1).at.1 3⟩) (fun hH28 => ?_)
  rw [← hv] at hH28 ⊢
  clear hv
  refine wpAnyH_ready (rs := [0]) (by kernel_rfl) (by simp) ?_
  refine AllReadyH.cons at0 (fun K hK => ?_) AllReadyH.nil
  go_simp
  refine (stOne0 (G := G) (Nat.le_trans hG (M.out.2.2.2.2.2).size)).mono ?_
  rintro e w9 ⟨rfl, hb⟩
  replace M := Lib.hid (Goes.go M.out hb)
  clear hb
  (try go_wp2_with fail)
  refine hK.out _ _ (⟨(M.out.1).at.1 0, (M.out.1).at.1 1, (M.out.1).at.1 2, (M.out.1).at.1 3⟩) (fun hH29 => ?_)
  clear hK K hH28
  (try simp only [Act.put, List.setIfInBounds_toArray, List.set_cons_zero, List.set_cons_succ])
  refine tk at1 ?_
  refine wpAnyH_ready (rs := [2]) (by kernel_rfl) (by simp) ?_
  refine AllReadyH.cons at2 (fun K hK => ?_) AllReadyH.nil
  go_simp
  refine (stOne1 (G := G) (Nat.le_trans hG (M.out.2.2.2.2.2).size)).mono ?_
  rintro e w10 ⟨rfl, hb⟩
  replace M := Lib.hid (Goes.go M.out hb)
  clear hb
  (try go_wp2_with fail)
  refine hK.out _ _ (⟨(M.out.1).at.1 0, (M.out.1).at.1 1, (M.out.1).at.1 2, (M.out.1).at.1 3⟩) (fun hH30 => ?_)
  clear hK K hH29
  (try simp only [Act.put, List.setIfInBounds_toArray, List.set_cons_zero, List.set_cons_succ])
  refine tk at3 ?_
  refine tk at4 ?_
  refine wpAnyH_ready (rs := [5]) (by kernel_rfl) (by simp) ?_
  refine AllReadyH.cons at5 (fun K hK => ?_) AllReadyH.nil
  go_simp
  refine (stOne2 (G := G) (Nat.le_trans hG (M.out.2.2.2.2.2).size)).mono ?_
  rintro e w11 ⟨rfl, hb⟩
  replace M := Lib.hid (Goes.go M.out hb)
  clear hb
  (try go_wp2_with fail)
  refine hK.out _ _ (⟨(M.out.1).at.1 0, (M.out.1).at.1 1, (M.out.1).at.1 2, (M.out.1).at.1 3⟩) (fun hH31 => ?_)
  clear hK K hH30
  (try simp only [Act.put, List.setIfInBounds_toArray, List.set_cons_zero, List.set_cons_succ])
  refine tk at6 ?_
  refine tk at7 ?_
  refine tk at8 ?_
  refine tk at9 ?_
  refine tk at10 ?_
  refine tk at11 ?_
  refine tk at12 ?_
  refine wpAnyH_ready (rs := [13]) (by kernel_rfl) (by simp) ?_
  refine AllReadyH.cons at13 (fun K hK => ?_) AllReadyH.nil
  go_simp
  obtain ⟨ll32, h_⟩ : ∃ l_ : List LC, l_ = [⟨10, x_1, x_2, x_3, x_4, q5⟩, ⟨5, x_7, x_8, x_9, x_10, q11⟩] := ⟨_, rfl⟩
  have Ell32 := Lib.hid h_; clear h_
  refine (stRight_c (G := G) (l := ll32) (Nat.le_trans hG (M.out.2.2.2.2.2).size) (by rw [Ell32.out]; exact RdL.of (OwB.new (α := LC) (M.out.2.2.1) rfl hG (show w.heap.size ≤ _ by omega) (oks_cons (M.out.2.2.2.2.1) (oks_cons (M.out.2.2.2.1) (fun y_ hy_ => by simp at hy_)))).rd rfl (by omega)) (by rw [Ell32.out]; exact okC2 (by show (1 : Int) ≤ 10; omega) (by show 0 ≤ q5; rw [Eq5.out]; exact Rat.intCast_nonneg.2 (by decide)) (by show (1 : Int) ≤ 5; omega) (by show 0 ≤ q11; rw [Eq11.out]; exact Rat.intCast_nonneg.2 (by decide)) (by show (10 + 5 : Int) ≤ 1099511627776; omega)) (by rw [Ell32.out]; exact (FzL.cons (Fz.mono Sq5.out (by omega)) (FzL.cons (Fz.mono Sq11.out (by omega)) (fun y_ hy_ => by simp at hy_))))).mono ?_
  rintro e w12 ⟨rfl, hb⟩
  replace M := Lib.hid (Goes.go M.out hb)
  clear hb
  (try go_wp2_with fail)
  refine hK.out _ _ (⟨(M.out.1).at.1 0, (M.out.1).at.1 1, (M.out.1).at.1 2, (M.out.1).at.1 3⟩) (fun hH33 => ?_)
  clear hK K hH31
  (try simp only [Act.put, List.setIfInBounds_toArray, List.set_cons_zero, List.set_cons_succ])
  refine tk at14 ?_
  refine tk at15 ?_
  refine tk at16 ?_
  refine tk at17 ?_
  refine tk at18 ?_
  refine tk at19 ?_
  refine tk at20 ?_
  refine wpAnyH_ready (rs := [21]) (by kernel_rfl) (by simp) ?_
  refine AllReadyH.cons at21 (fun K hK => ?_) AllReadyH.nil
  go_simp
  obtain ⟨q38, eq38⟩ : ∃ v_ : Rat, v_ = ((35 : Int) : Rat) := ⟨_, rfl⟩
  refine (fqInt (G := G) (x := 35) (by decide)).mono ?_
  rintro e w13 ⟨x_34, x_35, x_36, x_37, rfl, hd39, hb⟩
  rw [← eq38] at hd39
  have Sq38 : Hid (Fz q38 4) := by show Fz q38 4; rw [eq38]; exact (Fz.int64 (by omega))
  have Eq38 := Lib.hid eq38; clear eq38
  replace M := Lib.hid (And.intro hd39 (Goes.go M.out hb))
  clear hb hd39
  (try go_wp2_with fail)
  refine hK.out _ _ (⟨(M.out.2.1).at.1 0, (M.out.2.1).at.1 1, (M.out.2.1).at.1 2, (M.out.2.1).at.1 3⟩) (fun hH40 => ?_)
  clear hK K hH33
  (try simp only [Act.put, List.setIfInBounds_toArray, List.set_cons_zero, List.set_cons_succ])
  refine wpAnyH_ready (rs := [22]) (by kernel_rfl) (by simp) ?_
  refine AllReadyH.cons at22 (fun K hK => ?_) AllReadyH.nil
  go_simp
  refine (fsame_o (G := G) (o := (some q19)) (p := (some q38)) (b_ := true) (M.out.2.2.1) (M.out.1) (Oz.mono (Oz.some_ Sq19.out) (by omega)) (Oz.mono (Oz.some_ Sq38.out) (by omega)) (decide_eq_true (congrArg some (by rw [Eq19.out, (show List.map LC.ly ll14 = exL from by rw [Ell14.out]; show [(⟨_, _⟩ : Ly), ⟨_, _⟩] = _; rw [Eq5.out, Eq11.out]; rfl), exLB, Eq38.out])))).mono ?_
  rintro e w14 ⟨rfl, hb⟩
  replace M := Lib.hid (Goes.go M.out hb)
  clear hb
  (try go_wp2_with fail)
  refine hK.out _ _ (⟨(M.out.2.1).at.1 0, (M.out.2.1).at.1 1, (M.out.2.1).at.1 2, (M.out.2.1).at.1 3⟩) (fun hH41 => ?_)
  clear hK K hH40
  (try simp only [Act.put, List.setIfInBounds_toArray, List.set_cons_zero, List.set_cons_succ])
  refine tk at23 ?_
  refine tk at24 ?_
  refine wpAnyH_done (by kernel_rfl) ?_ _
  clear hH41
  go_wp2_with fail
  go_ret
  exact ⟨rfl, (M.out.2.2.2.2.2.2)⟩
end Go.Proofs.Ytgmngkbocpadaaa
namespace Go.Proofs.Ytgmngkbocpadaaa
open Go.RowKit Go.Lib
variable {G : Nat}

theorem draw_fz {N : Nat} : ∀ {l : List Ly} {a : Int}, (∀ x ∈ l, Fz x.b N) → (∀ x ∈ l, 1 ≤ x.n ∧ x.n ≤ 1099511627776) → 0 ≤ a → a ≤ 1099511627776 → (∀ y ∈ (drawF l a).1, Fz y.b (2 * N + 5)) ∧ Fz (drawF l a).2 ((N + 5) * l.length + 1)
  | [], a, _, _, _, _ => ⟨fun y hy => by rw [drawF] at hy; simp at hy, by rw [drawF]; exact fz0 (by omega)⟩
  | x :: r, a, h, hn, h0, h1 => by
    have hx := h x (by simp)
    have hxn := hn x (by simp)
    have hr : ∀ y ∈ r, Fz y.b N := fun y hy => h y (by simp [hy])
    by_cases ha : a ≤ 0
    · rw [draw_zero _ ha]
      exact ⟨fun y hy => (h y hy).mono (by omega), fz0 (by omega)⟩
    · by_cases hb : x.n ≤ a
      · rw [drawF, if_neg ha, if_pos hb]
        obtain ⟨k1, k2⟩ := draw_fz (l := r) (a := a - x.n) hr (fun y hy => hn y (by simp [hy])) (by omega) (by omega)
        exact ⟨k1, (hx.add k2).mono (by rw [List.length_cons, Nat.mul_add]; omega)⟩
      · rw [drawF, if_neg ha, if_neg hb]
        have hp : Fz (part x a) (N + 4) := by rw [share_eq]; exact hx.mul (Fz.of64 (by omega) (by omega) (by omega))
        refine ⟨fun y hy => ?_, hp.mono (by rw [List.length_cons, Nat.mul_add]; omega)⟩
        rcases List.mem_cons.1 hy with rfl | hy
        · exact (hx.sub hp).mono (by omega)
        · exact (hr y hy).mono (by omega)
theorem sum_fz {N : Nat} : ∀ {l : List Ly}, (∀ x ∈ l, Fz x.b N) → Fz (sumB l) ((N + 1) * l.length + 1)
  | [], _ => by rw [sumB_nil]; exact fz0 (by omega)
  | x :: r, h => by
    rw [sumB_cons]
    exact ((h x (by simp)).add (sum_fz (l := r) (fun y hy => h y (by simp [hy])))).mono (by rw [List.length_cons, Nat.mul_add]; omega)
theorem mul_200 {N n : Nat} (h : n ≤ 200) : N * n ≤ N * 200 := Nat.mul_le_mul_left _ h
theorem drawR_fz {N : Nat} {k : Int} {l : List Ly} {a : Int} (h : ∀ x ∈ l, Fz x.b N) (hn : ∀ x ∈ l, 1 ≤ x.n ∧ x.n ≤ 1099511627776) (hs : 1 ≤ sumN l ∧ sumN l ≤ 1099511627776) (hl : l.length ≤ 200) (h0 : 0 ≤ a) (h1 : a ≤ 1099511627776) :
    (∀ y ∈ (drawR k l a).1, Fz y.b (400 * N + 2020)) ∧ Fz (drawR k l a).2 (400 * N + 2020) := by
  have hm := mul_200 (N := N + 5) hl
  have hm2 := mul_200 (N := N + 1) hl
  rw [Nat.add_mul] at hm hm2
  unfold drawR
  split
  · obtain ⟨k1, k2⟩ := draw_fz (l := l.reverse) (a := a) (fun x hx => h x (List.mem_reverse.1 hx)) (fun x hx => hn x (List.mem_reverse.1 hx)) h0 h1
    rw [List.length_reverse] at k2
    exact ⟨fun y hy => (k1 y (List.mem_reverse.1 hy)).mono (by omega), k2.mono (by rw [Nat.add_mul]; omega)⟩
  · split
    · have hb := (sum_fz h).mono (show (N + 1) * l.length + 1 ≤ 200 * N + 201 by rw [Nat.add_mul]; omega)
      obtain ⟨k1, k2⟩ := draw_fz (N := 200 * N + 201) (l := mean l) (a := a) (fun x hx => by simp [mean] at hx; subst hx; exact hb) (fun x hx => by simp [mean] at hx; subst hx; exact hs) h0 h1
      exact ⟨fun y hy => (k1 y hy).mono (by omega), k2.mono (by simp [mean]; omega)⟩
    · obtain ⟨k1, k2⟩ := draw_fz (a := a) h hn h0 h1
      exact ⟨fun y hy => (k1 y hy).mono (by omega), k2.mono (by rw [Nat.add_mul]; omega)⟩
/-- What is left of a right stock. -/
theorem draw_left {l l2 : List LC} {k a : Int} {N : Nat} (h : OkC l) (hz : FzL l N) (h0 : 1 ≤ a) (ha : a ≤ sumN (l.map LC.ly)) (he : l2.map LC.ly = (drawR k (l.map LC.ly) a).1) :
    OkC l2 ∧ FzL l2 (400 * N + 2020) ∧ Fz (drawR k (l.map LC.ly) a).2 (400 * N + 2020) ∧ sumN (l2.map LC.ly) + a = sumN (l.map LC.ly) ∧ sumB (l2.map LC.ly) + (drawR k (l.map LC.ly) a).2 = sumB (l.map LC.ly) ∧ 0 ≤ (drawR k (l.map LC.ly) a).2 ∧ l2.length ≤ l.length := by
  obtain ⟨k1, k2, k3, k4, k5⟩ := R_keeps (k := k) h.ly h0 ha
  have hsum := h.sum
  have hns := h.ns
  obtain ⟨f1, f2⟩ := drawR_fz (N := N) (k := k) (l := l.map LC.ly) (a := a) (fun x hx => by obtain ⟨y, hy, rfl⟩ := List.mem_map.1 hx; exact hz y hy) (fun x hx => by obtain ⟨y, hy, rfl⟩ := List.mem_map.1 hx; exact hns y hy) ⟨by omega, hsum⟩ (by rw [List.length_map]; exact h.len) (by omega) (by omega)
  rw [← he] at k1 k2 k3 k5 f1
  rw [List.length_map, List.length_map] at k5
  refine ⟨⟨fun x hx => k1 x.ly (List.mem_map.2 ⟨x, hx, rfl⟩), by omega, Nat.le_trans k5 h.len⟩, fz_of_ly f1, f2, k2, k3, k4, k5⟩
set_option maxRecDepth 100000 in
set_option maxHeartbeats 4000000 in
theorem keeps_few {ls : List LR} {a : Option Addr} {n c : Nat} {rl am : Int} {w : World} (h : RdR w.heap.size w a n c ls) (_hn0 : n ≤ 9223372036854775807) (hf : fewL ls = false) :
    Calls Try.prog 3 #[.slice a n c, .int .i64 rl, .int .i64 am] w fun e w' => e = .returned (.bool true) ∧ Below w.heap.size w w' := by
  obtain ⟨G, hG0⟩ : ∃ G : Nat, G = w.heap.size := ⟨_, rfl⟩
  have hG : G ≤ w.heap.size := by omega
  have HL0 : Hid (RdR G w a n c ls) := by show RdR _ _ _ _ _ _; rw [hG0]; exact h
  have HF := Lib.hid hf
  have HR0 : Hid (RdR G w a n c ls) := HL0.out
  clear h
  have M : Hid (Below w.heap.size w w) := Below.refl _ _
  go_enter Try.func3, Try.ntmps3
  go_wp2_with fail
  refine (stSmall (G := G) (Nat.le_trans hG M.out.size)).mono ?_
  rintro e w1 ⟨rfl, hb⟩
  replace M := Lib.hid (Goes.go M.out hb)
  clear hb
  go_wp2_with fail
  refine (stFew_ok (G := G) (l := ls) (b_ := false) (HR0.out.keep M.out) (by omega) HF.out).mono ?_
  rintro e w2 ⟨rfl, hb⟩
  replace M := Lib.hid (Goes.go M.out hb)
  clear hb
  go_wp2_with fail
  go_ret
  exact ⟨rfl, M.out⟩
set_option maxRecDepth 100000 in
set_option maxHeartbeats 4000000 in
theorem keeps_right {ls : List LR} {a : Option Addr} {n c : Nat} {rl am : Int} {w : World} (h : RdR w.heap.size w a n c ls) (_hn0 : n ≤ 9223372036854775807) (hf : fewL ls = true) (hr : rightL ls = false) :
    Calls Try.prog 3 #[.slice a n c, .int .i64 rl, .int .i64 am] w fun e w' => e = .returned (.bool true) ∧ Below w.heap.size w w' := by
  obtain ⟨G, hG0⟩ : ∃ G : Nat, G = w.heap.size := ⟨_, rfl⟩
  have hG : G ≤ w.heap.size := by omega
  have HL0 : Hid (RdR G w a n c ls) := by show RdR _ _ _ _ _ _; rw [hG0]; exact h
  have hs_ := few_all hf
  have HSM := Lib.hid hs_.1
  have hn : n ≤ 202 := by have h_ := HL0.out.len; omega
  have HF := Lib.hid hf
  have HR := Lib.hid hr
  clear hf hr hs_
  have HR0 : Hid (RdR G w a n c ls) := HL0.out
  clear h
  have M : Hid (Below w.heap.size w w) := Below.refl _ _
  go_enter Try.func3, Try.ntmps3
  go_wp2_with fail
  refine (stSmall (G := G) (Nat.le_trans hG M.out.size)).mono ?_
  rintro e w1 ⟨rfl, hb⟩
  replace M := Lib.hid (Goes.go M.out hb)
  clear hb
  go_wp2_with fail
  refine (stFew_ok (G := G) (l := ls) (b_ := true) (HR0.out.keep M.out) (by omega) HF.out).mono ?_
  rintro e w2 ⟨rfl, hb⟩
  replace M := Lib.hid (Goes.go M.out hb)
  clear hb
  go_wp2_with fail
  refine (stRight_raw (G := G) (l := ls) (b_ := false) (HR0.out.keep M.out) (by omega) HSM.out HR.out).mono ?_
  rintro e w3 ⟨rfl, hb⟩
  replace M := Lib.hid (Goes.go M.out hb)
  clear hb
  go_wp2_with fail
  go_ret
  exact ⟨rfl, M.out⟩
set_option maxRecDepth 100000 in
set_option maxHeartbeats 4000000 in
theorem keeps_rl1 {ls : List LR} {a : Option Addr} {n c : Nat} {rl am : Int} {w : World} (h : RdR w.heap.size w a n c ls) (_hn0 : n ≤ 9223372036854775807) (hf : fewL ls = true) (hr : rightL ls = true) (_h1 : rl < 0) :
    Calls Try.prog 3 #[.slice a n c, .int .i64 rl, .int .i64 am] w fun e w' => e = .returned (.bool true) ∧ Below w.heap.size w w' := by
  obtain ⟨G, hG0⟩ : ∃ G : Nat, G = w.heap.size := ⟨_, rfl⟩
  have hG : G ≤ w.heap.size := by omega
  have HL0 : Hid (RdR G w a n c ls) := by show RdR _ _ _ _ _ _; rw [hG0]; exact h
  have hs_ := few_all hf
  have hr_ := rightL_ok hr
  obtain ⟨l, hl⟩ : ∃ l, l = ls.map toC := ⟨_, rfl⟩
  have HL : Hid (RdC G w a n c l) := by show RdC _ _ _ _ _ _; rw [hG0, hl]; exact h.toC hr_.1
  have HOK : Hid (OkC l) := by show OkC _; rw [hl]; exact hr_.2
  have HZ3 : Hid (FzL l 3) := by show FzL _ _; rw [hl]; exact fz_toC h hr_.1 hs_.1
  have HZ : Hid (FzL l 100000000) := Lib.hid (HZ3.out.mono (by omega))
  have HSM := Lib.hid hs_.1
  have hn : n ≤ 202 := by have h_ := HL0.out.len; omega
  have hn2 : n ≤ 200 := by have h_ := HL.out.len; have h2_ := HOK.out.len; omega
  have HF := Lib.hid hf
  have HR := Lib.hid hr
  have e1 : decide (rl < 0) = true := decide_eq_true (by omega)
  have e1i : rl < 0 := by omega
  clear hf hr hs_ hr_
  have HR0 : Hid (RdR G w a n c ls) := HL0.out
  have HC0 : Hid (RdC G w a n c l) := HL.out
  clear h
  have M : Hid (Below w.heap.size w w) := Below.refl _ _
  go_enter Try.func3, Try.ntmps3
  go_wp2_with fail
  refine (stSmall (G := G) (Nat.le_trans hG M.out.size)).mono ?_
  rintro e w1 ⟨rfl, hb⟩
  replace M := Lib.hid (Goes.go M.out hb)
  clear hb
  go_wp2_with fail
  refine (stFew_ok (G := G) (l := ls) (b_ := true) (HR0.out.keep M.out) (by omega) HF.out).mono ?_
  rintro e w2 ⟨rfl, hb⟩
  replace M := Lib.hid (Goes.go M.out hb)
  clear hb
  go_wp2_with fail
  refine (stRight_raw (G := G) (l := ls) (b_ := true) (HR0.out.keep M.out) (by omega) HSM.out HR.out).mono ?_
  rintro e w3 ⟨rfl, hb⟩
  replace M := Lib.hid (Goes.go M.out hb)
  clear hb
  go_wp2_with fail
  go_ret
  exact ⟨rfl, M.out⟩
set_option maxRecDepth 100000 in
set_option maxHeartbeats 4000000 in
theorem keeps_rl2 {ls : List LR} {a : Option Addr} {n c : Nat} {rl am : Int} {w : World} (h : RdR w.heap.size w a n c ls) (_hn0 : n ≤ 9223372036854775807) (hf : fewL ls = true) (hr : rightL ls = true) (_h1 : 3 ≤ rl) :
    Calls Try.prog 3 #[.slice a n c, .int .i64 rl, .int .i64 am] w fun e w' => e = .returned (.bool true) ∧ Below w.heap.size w w' := by
  obtain ⟨G, hG0⟩ : ∃ G : Nat, G = w.heap.size := ⟨_, rfl⟩
  have hG : G ≤ w.heap.size := by omega
  have HL0 : Hid (RdR G w a n c ls) := by show RdR _ _ _ _ _ _; rw [hG0]; exact h
  have hs_ := few_all hf
  have hr_ := rightL_ok hr
  obtain ⟨l, hl⟩ : ∃ l, l = ls.map toC := ⟨_, rfl⟩
  have HL : Hid (RdC G w a n c l) := by show RdC _ _ _ _ _ _; rw [hG0, hl]; exact h.toC hr_.1
  have HOK : Hid (OkC l) := by show OkC _; rw [hl]; exact hr_.2
  have HZ3 : Hid (FzL l 3) := by show FzL _ _; rw [hl]; exact fz_toC h hr_.1 hs_.1
  have HZ : Hid (FzL l 100000000) := Lib.hid (HZ3.out.mono (by omega))
  have HSM := Lib.hid hs_.1
  have hn : n ≤ 202 := by have h_ := HL0.out.len; omega
  have hn2 : n ≤ 200 := by have h_ := HL.out.len; have h2_ := HOK.out.len; omega
  have HF := Lib.hid hf
  have HR := Lib.hid hr
  have e1 : decide (rl < 0) = false := decide_eq_false (by omega)
  have e1i : ¬ rl < 0 := by omega
  have e2 : decide (3 ≤ rl) = true := decide_eq_true (by omega)
  have e2i : 3 ≤ rl := by omega
  clear hf hr hs_ hr_
  have HR0 : Hid (RdR G w a n c ls) := HL0.out
  have HC0 : Hid (RdC G w a n c l) := HL.out
  clear h
  have M : Hid (Below w.heap.size w w) := Below.refl _ _
  go_enter Try.func3, Try.ntmps3
  go_wp2_with fail
  refine (stSmall (G := G) (Nat.le_trans hG M.out.size)).mono ?_
  rintro e w1 ⟨rfl, hb⟩
  replace M := Lib.hid (Goes.go M.out hb)
  clear hb
  go_wp2_with fail
  refine (stFew_ok (G := G) (l := ls) (b_ := true) (HR0.out.keep M.out) (by omega) HF.out).mono ?_
  rintro e w2 ⟨rfl, hb⟩
  replace M := Lib.hid (Goes.go M.out hb)
  clear hb
  go_wp2_with fail
  refine (stRight_raw (G := G) (l := ls) (b_ := true) (HR0.out.keep M.out) (by omega) HSM.out HR.out).mono ?_
  rintro e w3 ⟨rfl, hb⟩
  replace M := Lib.hid (Goes.go M.out hb)
  clear hb
  go_wp2_with fail
  go_ret
  exact ⟨rfl, M.out⟩
set_option maxRecDepth 100000 in
set_option maxHeartbeats 4000000 in
theorem keeps_low {ls : List LR} {a : Option Addr} {n c : Nat} {rl am : Int} {w : World} (h : RdR w.heap.size w a n c ls) (_hn0 : n ≤ 9223372036854775807) (hf : fewL ls = true) (hr : rightL ls = true) (_hr0 : 0 ≤ rl) (_hr1 : rl < 3) (_ha : am < 1)  :
    Calls Try.prog 3 #[.slice a n c, .int .i64 rl, .int .i64 am] w fun e w' => e = .returned (.bool true) ∧ Below w.heap.size w w' := by
  obtain ⟨G, hG0⟩ : ∃ G : Nat, G = w.heap.size := ⟨_, rfl⟩
  have hG : G ≤ w.heap.size := by omega
  have HL0 : Hid (RdR G w a n c ls) := by show RdR _ _ _ _ _ _; rw [hG0]; exact h
  have hs_ := few_all hf
  have hr_ := rightL_ok hr
  obtain ⟨l, hl⟩ : ∃ l, l = ls.map toC := ⟨_, rfl⟩
  have HL : Hid (RdC G w a n c l) := by show RdC _ _ _ _ _ _; rw [hG0, hl]; exact h.toC hr_.1
  have HOK : Hid (OkC l) := by show OkC _; rw [hl]; exact hr_.2
  have HZ3 : Hid (FzL l 3) := by show FzL _ _; rw [hl]; exact fz_toC h hr_.1 hs_.1
  have HZ : Hid (FzL l 100000000) := Lib.hid (HZ3.out.mono (by omega))
  have HSM := Lib.hid hs_.1
  have hn : n ≤ 202 := by have h_ := HL0.out.len; omega
  have hn2 : n ≤ 200 := by have h_ := HL.out.len; have h2_ := HOK.out.len; omega
  have HF := Lib.hid hf
  have HR := Lib.hid hr
  obtain ⟨N0, hN0⟩ : ∃ N, sumN (l.map LC.ly) = N := ⟨_, rfl⟩
  have hN1 : N0 ≤ 1099511627776 := by have h_ := HOK.out.sum; omega
  have HN0 := Lib.hid hN0
  have e1 : decide (rl < 0) = false := decide_eq_false (by omega)
  have e1i : ¬ rl < 0 := by omega
  have e2 : decide (3 ≤ rl) = false := decide_eq_false (by omega)
  have e2i : ¬ 3 ≤ rl := by omega
  have e3 : decide (1 ≤ am) = false := decide_eq_false (by omega)
  have e3i : ¬ 1 ≤ am := by omega
  clear hN0
  clear hf hr hs_ hr_
  have HR0 : Hid (RdR G w a n c ls) := HL0.out
  have HC0 : Hid (RdC G w a n c l) := HL.out
  clear h
  have M : Hid (Below w.heap.size w w) := Below.refl _ _
  go_enter Try.func3, Try.ntmps3
  go_wp2_with fail
  refine (stSmall (G := G) (Nat.le_trans hG M.out.size)).mono ?_
  rintro e w1 ⟨rfl, hb⟩
  replace M := Lib.hid (Goes.go M.out hb)
  clear hb
  go_wp2_with fail
  refine (stFew_ok (G := G) (l := ls) (b_ := true) (HR0.out.keep M.out) (by omega) HF.out).mono ?_
  rintro e w2 ⟨rfl, hb⟩
  replace M := Lib.hid (Goes.go M.out hb)
  clear hb
  go_wp2_with fail
  refine (stRight_raw (G := G) (l := ls) (b_ := true) (HR0.out.keep M.out) (by omega) HSM.out HR.out).mono ?_
  rintro e w3 ⟨rfl, hb⟩
  replace M := Lib.hid (Goes.go M.out hb)
  clear hb
  go_wp2_with fail
  obtain ⟨q5, eq5⟩ : ∃ v_ : Rat, v_ = (sumB (l.map LC.ly)) := ⟨_, rfl⟩
  refine (stTotal_is (G := G) (N := N0) (l := l) (Nat.le_trans hG M.out.size) (HC0.out.keep M.out) HOK.out HZ.out HN0.out).mono ?_
  rintro e w4 ⟨x_1, x_2, x_3, x_4, rfl, hd6, hb⟩
  rw [← eq5] at hd6
  have Eq5 := Lib.hid eq5; clear eq5
  replace M := Lib.hid (And.intro hd6 (Goes.go M.out hb))
  clear hb hd6
  have ys_x_1 := TQ.st (M.out.1); have st_x_1 := ys_x_1.1; have st_x_2 := ys_x_1.2.1; have st_x_3 := ys_x_1.2.2.1; have st_x_4 := ys_x_1.2.2.2; clear ys_x_1
  go_upto_region 5 with fail
  clear st_x_1 st_x_2 st_x_3 st_x_4
  obtain ⟨w5, hv⟩ : ∃ w_ : World, w_ = (w4.alloc (.cells #[x_1, x_2, x_3, x_4] 29)) := ⟨_, rfl⟩
  rw [← hv]
  have ow0_ : w.heap.size ≤ w4.heap.size := ((M.out.2)).size
  replace M := Lib.hid (And.intro (hv ▸ bx1 w4 29 #[x_1, x_2, x_3, x_4]) (Goes.go M.out (hv ▸ below_alloc _ _ : Below w4.heap.size w4 w5)))
  clear hv
  go_wp2_with fail
  refine (draw_range (G := G) (l := l) (rl := rl) (am0 := am) (Nat.le_trans hG (M.out.2.2).size) (HC0.out.keep (M.out.2.2)) HOK.out HZ.out (by omega) (by omega) (.inl (by omega))).mono ?_
  rintro e w6 ⟨rfl, hb⟩
  replace M := Lib.hid (Goes.go M.out hb)
  clear hb
  go_upto_region 6 with fail
  obtain ⟨w7, hv⟩ : ∃ w_ : World, w_ = (w6.alloc (.cells #[.int .i64 0, .slice none 0 0, .int .i64 0, .slice none 0 0] 29)) := ⟨_, rfl⟩
  rw [← hv]
  have ow1_ : w4.heap.size < w6.heap.size := ((M.out.1)).lt
  replace M := Lib.hid (And.intro (hv ▸ bx1 w6 29 #[.int .i64 0, .slice none 0 0, .int .i64 0, .slice none 0 0]) (Goes.go M.out (hv ▸ below_alloc _ _ : Below w6.heap.size w6 w7)))
  clear hv
  go_wp2_with fail
  go_ret
  exact ⟨rfl, (M.out.2.2.2)⟩
set_option maxRecDepth 100000 in
set_option maxHeartbeats 4000000 in
theorem keeps_high {ls : List LR} {a : Option Addr} {n c : Nat} {rl am : Int} {w : World} (h : RdR w.heap.size w a n c ls) (_hn0 : n ≤ 9223372036854775807) (hf : fewL ls = true) (hr : rightL ls = true) (_hr0 : 0 ≤ rl) (_hr1 : rl < 3) (_ha : 1099511627776 < am)  :
    Calls Try.prog 3 #[.slice a n c, .int .i64 rl, .int .i64 am] w fun e w' => e = .returned (.bool true) ∧ Below w.heap.size w w' := by
  obtain ⟨G, hG0⟩ : ∃ G : Nat, G = w.heap.size := ⟨_, rfl⟩
  have hG : G ≤ w.heap.size := by omega
  have HL0 : Hid (RdR G w a n c ls) := by show RdR _ _ _ _ _ _; rw [hG0]; exact h
  have hs_ := few_all hf
  have hr_ := rightL_ok hr
  obtain ⟨l, hl⟩ : ∃ l, l = ls.map toC := ⟨_, rfl⟩
  have HL : Hid (RdC G w a n c l) := by show RdC _ _ _ _ _ _; rw [hG0, hl]; exact h.toC hr_.1
  have HOK : Hid (OkC l) := by show OkC _; rw [hl]; exact hr_.2
  have HZ3 : Hid (FzL l 3) := by show FzL _ _; rw [hl]; exact fz_toC h hr_.1 hs_.1
  have HZ : Hid (FzL l 100000000) := Lib.hid (HZ3.out.mono (by omega))
  have HSM := Lib.hid hs_.1
  have hn : n ≤ 202 := by have h_ := HL0.out.len; omega
  have hn2 : n ≤ 200 := by have h_ := HL.out.len; have h2_ := HOK.out.len; omega
  have HF := Lib.hid hf
  have HR := Lib.hid hr
  obtain ⟨N0, hN0⟩ : ∃ N, sumN (l.map LC.ly) = N := ⟨_, rfl⟩
  have hN1 : N0 ≤ 1099511627776 := by have h_ := HOK.out.sum; omega
  have HN0 := Lib.hid hN0
  have e1 : decide (rl < 0) = false := decide_eq_false (by omega)
  have e1i : ¬ rl < 0 := by omega
  have e2 : decide (3 ≤ rl) = false := decide_eq_false (by omega)
  have e2i : ¬ 3 ≤ rl := by omega
  have e3 : decide (1 ≤ am) = true := decide_eq_true (by omega)
  have e3i : 1 ≤ am := by omega
  have e4 : decide (am ≤ N0) = false := decide_eq_false (by omega)
  have e4i : ¬ am ≤ N0 := by omega
  clear hN0
  clear hf hr hs_ hr_
  have HR0 : Hid (RdR G w a n c ls) := HL0.out
  have HC0 : Hid (RdC G w a n c l) := HL.out
  clear h
  have M : Hid (Below w.heap.size w w) := Below.refl _ _
  go_enter Try.func3, Try.ntmps3
  go_wp2_with fail
  refine (stSmall (G := G) (Nat.le_trans hG M.out.size)).mono ?_
  rintro e w1 ⟨rfl, hb⟩
  replace M := Lib.hid (Goes.go M.out hb)
  clear hb
  go_wp2_with fail
  refine (stFew_ok (G := G) (l := ls) (b_ := true) (HR0.out.keep M.out) (by omega) HF.out).mono ?_
  rintro e w2 ⟨rfl, hb⟩
  replace M := Lib.hid (Goes.go M.out hb)
  clear hb
  go_wp2_with fail
  refine (stRight_raw (G := G) (l := ls) (b_ := true) (HR0.out.keep M.out) (by omega) HSM.out HR.out).mono ?_
  rintro e w3 ⟨rfl, hb⟩
  replace M := Lib.hid (Goes.go M.out hb)
  clear hb
  go_wp2_with fail
  obtain ⟨q5, eq5⟩ : ∃ v_ : Rat, v_ = (sumB (l.map LC.ly)) := ⟨_, rfl⟩
  refine (stTotal_is (G := G) (N := N0) (l := l) (Nat.le_trans hG M.out.size) (HC0.out.keep M.out) HOK.out HZ.out HN0.out).mono ?_
  rintro e w4 ⟨x_1, x_2, x_3, x_4, rfl, hd6, hb⟩
  rw [← eq5] at hd6
  have Eq5 := Lib.hid eq5; clear eq5
  replace M := Lib.hid (And.intro hd6 (Goes.go M.out hb))
  clear hb hd6
  have ys_x_1 := TQ.st (M.out.1); have st_x_1 := ys_x_1.1; have st_x_2 := ys_x_1.2.1; have st_x_3 := ys_x_1.2.2.1; have st_x_4 := ys_x_1.2.2.2; clear ys_x_1
  go_upto_region 5 with fail
  clear st_x_1 st_x_2 st_x_3 st_x_4
  obtain ⟨w5, hv⟩ : ∃ w_ : World, w_ = (w4.alloc (.cells #[x_1, x_2, x_3, x_4] 29)) := ⟨_, rfl⟩
  rw [← hv]
  have ow0_ : w.heap.size ≤ w4.heap.size := ((M.out.2)).size
  replace M := Lib.hid (And.intro (hv ▸ bx1 w4 29 #[x_1, x_2, x_3, x_4]) (Goes.go M.out (hv ▸ below_alloc _ _ : Below w4.heap.size w4 w5)))
  clear hv
  go_wp2_with fail
  refine (draw_range (G := G) (l := l) (rl := rl) (am0 := am) (Nat.le_trans hG (M.out.2.2).size) (HC0.out.keep (M.out.2.2)) HOK.out HZ.out (by omega) (by omega) (.inr (by omega))).mono ?_
  rintro e w6 ⟨rfl, hb⟩
  replace M := Lib.hid (Goes.go M.out hb)
  clear hb
  go_upto_region 6 with fail
  obtain ⟨w7, hv⟩ : ∃ w_ : World, w_ = (w6.alloc (.cells #[.int .i64 0, .slice none 0 0, .int .i64 0, .slice none 0 0] 29)) := ⟨_, rfl⟩
  rw [← hv]
  have ow1_ : w4.heap.size < w6.heap.size := ((M.out.1)).lt
  replace M := Lib.hid (And.intro (hv ▸ bx1 w6 29 #[.int .i64 0, .slice none 0 0, .int .i64 0, .slice none 0 0]) (Goes.go M.out (hv ▸ below_alloc _ _ : Below w6.heap.size w6 w7)))
  clear hv
  go_wp2_with fail
  go_ret
  exact ⟨rfl, (M.out.2.2.2)⟩
set_option maxRecDepth 100000 in
set_option maxHeartbeats 4000000 in
theorem keeps_over {ls : List LR} {a : Option Addr} {n c : Nat} {rl am : Int} {w : World} (h : RdR w.heap.size w a n c ls) (_hn0 : n ≤ 9223372036854775807) (hf : fewL ls = true) (hr : rightL ls = true) (_hr0 : 0 ≤ rl) (_hr1 : rl < 3) (_ha0 : 1 ≤ am) (_ha1 : am ≤ 1099511627776) (ha : sumN ((ls.map toC).map LC.ly) < am)  :
    Calls Try.prog 3 #[.slice a n c, .int .i64 rl, .int .i64 am] w fun e w' => e = .returned (.bool true) ∧ Below w.heap.size w w' := by
  obtain ⟨G, hG0⟩ : ∃ G : Nat, G = w.heap.size := ⟨_, rfl⟩
  have hG : G ≤ w.heap.size := by omega
  have HL0 : Hid (RdR G w a n c ls) := by show RdR _ _ _ _ _ _; rw [hG0]; exact h
  have hs_ := few_all hf
  have hr_ := rightL_ok hr
  obtain ⟨l, hl⟩ : ∃ l, l = ls.map toC := ⟨_, rfl⟩
  have HL : Hid (RdC G w a n c l) := by show RdC _ _ _ _ _ _; rw [hG0, hl]; exact h.toC hr_.1
  have HOK : Hid (OkC l) := by show OkC _; rw [hl]; exact hr_.2
  have HZ3 : Hid (FzL l 3) := by show FzL _ _; rw [hl]; exact fz_toC h hr_.1 hs_.1
  have HZ : Hid (FzL l 100000000) := Lib.hid (HZ3.out.mono (by omega))
  have HSM := Lib.hid hs_.1
  have hn : n ≤ 202 := by have h_ := HL0.out.len; omega
  have hn2 : n ≤ 200 := by have h_ := HL.out.len; have h2_ := HOK.out.len; omega
  have HF := Lib.hid hf
  have HR := Lib.hid hr
  obtain ⟨N0, hN0⟩ : ∃ N, sumN (l.map LC.ly) = N := ⟨_, rfl⟩
  have hN1 : N0 ≤ 1099511627776 := by have h_ := HOK.out.sum; omega
  have HN0 := Lib.hid hN0
  have hlt : N0 < am := by rw [← hN0, hl]; exact ha
  have e1 : decide (rl < 0) = false := decide_eq_false (by omega)
  have e1i : ¬ rl < 0 := by omega
  have e2 : decide (3 ≤ rl) = false := decide_eq_false (by omega)
  have e2i : ¬ 3 ≤ rl := by omega
  have e3 : decide (1 ≤ am) = true := decide_eq_true (by omega)
  have e3i : 1 ≤ am := by omega
  have e4 : decide (am ≤ N0) = false := decide_eq_false (by omega)
  have e4i : ¬ am ≤ N0 := by omega
  clear hN0
  clear hf hr hs_ hr_
  have HR0 : Hid (RdR G w a n c ls) := HL0.out
  have HC0 : Hid (RdC G w a n c l) := HL.out
  clear h
  have M : Hid (Below w.heap.size w w) := Below.refl _ _
  go_enter Try.func3, Try.ntmps3
  go_wp2_with fail
  refine (stSmall (G := G) (Nat.le_trans hG M.out.size)).mono ?_
  rintro e w1 ⟨rfl, hb⟩
  replace M := Lib.hid (Goes.go M.out hb)
  clear hb
  go_wp2_with fail
  refine (stFew_ok (G := G) (l := ls) (b_ := true) (HR0.out.keep M.out) (by omega) HF.out).mono ?_
  rintro e w2 ⟨rfl, hb⟩
  replace M := Lib.hid (Goes.go M.out hb)
  clear hb
  go_wp2_with fail
  refine (stRight_raw (G := G) (l := ls) (b_ := true) (HR0.out.keep M.out) (by omega) HSM.out HR.out).mono ?_
  rintro e w3 ⟨rfl, hb⟩
  replace M := Lib.hid (Goes.go M.out hb)
  clear hb
  go_wp2_with fail
  obtain ⟨q5, eq5⟩ : ∃ v_ : Rat, v_ = (sumB (l.map LC.ly)) := ⟨_, rfl⟩
  refine (stTotal_is (G := G) (N := N0) (l := l) (Nat.le_trans hG M.out.size) (HC0.out.keep M.out) HOK.out HZ.out HN0.out).mono ?_
  rintro e w4 ⟨x_1, x_2, x_3, x_4, rfl, hd6, hb⟩
  rw [← eq5] at hd6
  have Eq5 := Lib.hid eq5; clear eq5
  replace M := Lib.hid (And.intro hd6 (Goes.go M.out hb))
  clear hb hd6
  have ys_x_1 := TQ.st (M.out.1); have st_x_1 := ys_x_1.1; have st_x_2 := ys_x_1.2.1; have st_x_3 := ys_x_1.2.2.1; have st_x_4 := ys_x_1.2.2.2; clear ys_x_1
  go_upto_region 5 with fail
  clear st_x_1 st_x_2 st_x_3 st_x_4
  obtain ⟨w5, hv⟩ : ∃ w_ : World, w_ = (w4.alloc (.cells #[x_1, x_2, x_3, x_4] 29)) := ⟨_, rfl⟩
  rw [← hv]
  have ow0_ : w.heap.size ≤ w4.heap.size := ((M.out.2)).size
  replace M := Lib.hid (And.intro (hv ▸ bx1 w4 29 #[x_1, x_2, x_3, x_4]) (Goes.go M.out (hv ▸ below_alloc _ _ : Below w4.heap.size w4 w5)))
  clear hv
  go_wp2_with fail
  refine (draw_over (G := G) (l := l) (rl := rl) (am0 := am) (Nat.le_trans hG (M.out.2.2).size) (HC0.out.keep (M.out.2.2)) HOK.out HZ.out (by omega) (by omega) (by omega) (by omega) (by rw [HN0.out]; exact hlt)).mono ?_
  rintro e w6 ⟨rfl, hb⟩
  replace M := Lib.hid (Goes.go M.out hb)
  clear hb
  go_upto_region 6 with fail
  obtain ⟨w7, hv⟩ : ∃ w_ : World, w_ = (w6.alloc (.cells #[.int .i64 0, .slice none 0 0, .int .i64 0, .slice none 0 0] 29)) := ⟨_, rfl⟩
  rw [← hv]
  have ow1_ : w4.heap.size < w6.heap.size := ((M.out.1)).lt
  replace M := Lib.hid (And.intro (hv ▸ bx1 w6 29 #[.int .i64 0, .slice none 0 0, .int .i64 0, .slice none 0 0]) (Goes.go M.out (hv ▸ below_alloc _ _ : Below w6.heap.size w6 w7)))
  clear hv
  go_wp2_with fail
  go_ret
  exact ⟨rfl, (M.out.2.2.2)⟩
set_option maxRecDepth 100000 in
set_option maxHeartbeats 4000000 in
theorem keeps_ok {ls : List LR} {a : Option Addr} {n c : Nat} {rl am : Int} {w : World} (h : RdR w.heap.size w a n c ls) (_hn0 : n ≤ 9223372036854775807) (hf : fewL ls = true) (hr : rightL ls = true) (_hr0 : 0 ≤ rl) (_hr1 : rl < 3) (ha0 : 1 ≤ am) (ha : am ≤ sumN ((ls.map toC).map LC.ly))  :
    Calls Try.prog 3 #[.slice a n c, .int .i64 rl, .int .i64 am] w fun e w' => e = .returned (.bool true) ∧ Below w.heap.size w w' := by
  obtain ⟨G, hG0⟩ : ∃ G : Nat, G = w.heap.size := ⟨_, rfl⟩
  have hG : G ≤ w.heap.size := by omega
  have HL0 : Hid (RdR G w a n c ls) := by show RdR _ _ _ _ _ _; rw [hG0]; exact h
  have hs_ := few_all hf
  have hr_ := rightL_ok hr
  obtain ⟨l, hl⟩ : ∃ l, l = ls.map toC := ⟨_, rfl⟩
  have HL : Hid (RdC G w a n c l) := by show RdC _ _ _ _ _ _; rw [hG0, hl]; exact h.toC hr_.1
  have HOK : Hid (OkC l) := by show OkC _; rw [hl]; exact hr_.2
  have HZ3 : Hid (FzL l 3) := by show FzL _ _; rw [hl]; exact fz_toC h hr_.1 hs_.1
  have HZ : Hid (FzL l 100000000) := Lib.hid (HZ3.out.mono (by omega))
  have HSM := Lib.hid hs_.1
  have hn : n ≤ 202 := by have h_ := HL0.out.len; omega
  have hn2 : n ≤ 200 := by have h_ := HL.out.len; have h2_ := HOK.out.len; omega
  have HF := Lib.hid hf
  have HR := Lib.hid hr
  obtain ⟨N0, hN0⟩ : ∃ N, sumN (l.map LC.ly) = N := ⟨_, rfl⟩
  have hN1 : N0 ≤ 1099511627776 := by have h_ := HOK.out.sum; omega
  have HN0 := Lib.hid hN0
  have hle : am ≤ N0 := by rw [← hN0, hl]; exact ha
  have e1 : decide (rl < 0) = false := decide_eq_false (by omega)
  have e1i : ¬ rl < 0 := by omega
  have e2 : decide (3 ≤ rl) = false := decide_eq_false (by omega)
  have e2i : ¬ 3 ≤ rl := by omega
  have e3 : decide (1 ≤ am) = true := decide_eq_true (by omega)
  have e3i : 1 ≤ am := by omega
  have e4 : decide (am ≤ N0) = true := decide_eq_true (by omega)
  have e4i : am ≤ N0 := by omega
  clear hN0
  clear hf hr hs_ hr_
  have HR0 : Hid (RdR G w a n c ls) := HL0.out
  have HC0 : Hid (RdC G w a n c l) := HL.out
  clear h
  have M : Hid (Below w.heap.size w w) := Below.refl _ _
  go_enter Try.func3, Try.ntmps3
  go_wp2_with fail
  refine (stSmall (G := G) (Nat.le_trans hG M.out.size)).mono ?_
  rintro e w1 ⟨rfl, hb⟩
  replace M := Lib.hid (Goes.go M.out hb)
  clear hb
  go_wp2_with fail
  refine (stFew_ok (G := G) (l := ls) (b_ := true) (HR0.out.keep M.out) (by omega) HF.out).mono ?_
  rintro e w2 ⟨rfl, hb⟩
  replace M := Lib.hid (Goes.go M.out hb)
  clear hb
  go_wp2_with fail
  refine (stRight_raw (G := G) (l := ls) (b_ := true) (HR0.out.keep M.out) (by omega) HSM.out HR.out).mono ?_
  rintro e w3 ⟨rfl, hb⟩
  replace M := Lib.hid (Goes.go M.out hb)
  clear hb
  go_wp2_with fail
  obtain ⟨q5, eq5⟩ : ∃ v_ : Rat, v_ = (sumB (l.map LC.ly)) := ⟨_, rfl⟩
  refine (stTotal_is (G := G) (N := N0) (l := l) (Nat.le_trans hG M.out.size) (HC0.out.keep M.out) HOK.out HZ.out HN0.out).mono ?_
  rintro e w4 ⟨x_1, x_2, x_3, x_4, rfl, hd6, hb⟩
  rw [← eq5] at hd6
  have Sq5 : Hid (Fz q5 1000) := by show Fz q5 1000; rw [eq5]; exact ((fz_sum HZ3.out).mono (by have h_ := HL.out.len; omega))
  have Eq5 := Lib.hid eq5; clear eq5
  replace M := Lib.hid (And.intro hd6 (Goes.go M.out hb))
  clear hb hd6
  have ys_x_1 := TQ.st (M.out.1); have st_x_1 := ys_x_1.1; have st_x_2 := ys_x_1.2.1; have st_x_3 := ys_x_1.2.2.1; have st_x_4 := ys_x_1.2.2.2; clear ys_x_1
  go_upto_region 5 with fail
  clear st_x_1 st_x_2 st_x_3 st_x_4
  obtain ⟨w5, hv⟩ : ∃ w_ : World, w_ = (w4.alloc (.cells #[x_1, x_2, x_3, x_4] 29)) := ⟨_, rfl⟩
  rw [← hv]
  have ow0_ : w.heap.size ≤ w4.heap.size := ((M.out.2)).size
  replace M := Lib.hid (And.intro (hv ▸ bx1 w4 29 #[x_1, x_2, x_3, x_4]) (Goes.go M.out (hv ▸ below_alloc _ _ : Below w4.heap.size w4 w5)))
  clear hv
  go_wp2_with fail
  obtain ⟨q15, eq15⟩ : ∃ v_ : Rat, v_ = ((drawR rl (l.map LC.ly) am).2) := ⟨_, rfl⟩
  refine (draw_ok (G := G) (l := l) (rl := rl) (am0 := am) (Nat.le_trans hG (M.out.2.2).size) (HC0.out.keep (M.out.2.2)) HOK.out HZ.out (by omega) (by omega) (by omega) (by rw [HN0.out]; exact hle)).mono ?_
  rintro e w6 ⟨a_7, n_8, c_9, l_10, x_11, x_12, x_13, x_14, rfl, hd16, hu17, hd18, hb⟩
  rw [← eq15] at hd18
  have Eq15 := Lib.hid eq15; clear eq15
  replace M := Lib.hid (And.intro hd16 (And.intro hd18 (Goes.go M.out hb)))
  clear hb hd16 hd18
  replace hu17 := Lib.hid hu17
  have ys_x_11 := TQ.st (M.out.2.1); have st_x_11 := ys_x_11.1; have st_x_12 := ys_x_11.2.1; have st_x_13 := ys_x_11.2.2.1; have st_x_14 := ys_x_11.2.2.2; clear ys_x_11
  go_upto_region 6 with fail
  clear st_x_11 st_x_12 st_x_13 st_x_14
  obtain ⟨w7, hv⟩ : ∃ w_ : World, w_ = (w6.alloc (.cells #[x_11, x_12, x_13, x_14] 29)) := ⟨_, rfl⟩
  rw [← hv]
  have ow1_ : w4.heap.size < w6.heap.size := ((M.out.2.2.1)).lt
  replace M := Lib.hid (And.intro (hv ▸ bx1 w6 29 #[x_11, x_12, x_13, x_14]) (Goes.go M.out (hv ▸ below_alloc _ _ : Below w6.heap.size w6 w7)))
  clear hv
  have hdl_ := draw_left (N := 3) HOK.out HZ3.out ha0 (show am ≤ sumN (l.map LC.ly) by rw [HN0.out]; exact hle) hu17.out
  have HOK2 := Lib.hid hdl_.1
  have HZ2 := Lib.hid hdl_.2.1
  have HZG := Lib.hid hdl_.2.2.1
  obtain ⟨M0, hM0⟩ : ∃ M, sumN (l_10.map LC.ly) = M := ⟨_, rfl⟩
  have hMN : M0 + am = N0 := by rw [← hM0, hdl_.2.2.2.1]; exact HN0.out
  have HM0 := Lib.hid hM0; clear hM0
  have HSB := Lib.hid hdl_.2.2.2.2.1
  have hge_ := hdl_.2.2.2.2.2.1
  have hlen_ : n_8 ≤ n := by have h_ := hdl_.2.2.2.2.2.2; rw [(M.out.2.1).len, HL.out.len] at h_; exact h_
  have hM1 : M0 ≤ 1099511627776 := by have h_ := HOK2.out.sum; rw [HM0.out] at h_; exact h_
  have hM2 : 0 ≤ M0 := by omega
  have hMb : (M0 + am == N0) = true := beq_iff_eq.2 hMN
  obtain ⟨sx, hsx⟩ : ∃ s, sg (nu q15) = s := ⟨_, rfl⟩
  have hs5 := sg_ge hsx (by rw [Eq15.out]; exact hge_)
  have HSX := Lib.hid hsx; clear hsx hge_ hdl_
  have e7 : decide (0 ≤ sx) = true := decide_eq_true (by omega)
  have e7i : 0 ≤ sx := by omega
  have e8_0 : decide (n_8 ≤ n) = true := decide_eq_true (by omega)
  have e8_1 : decide ((n_8 : Int) ≤ (n : Int)) = true := decide_eq_true (by omega)
  have e8_i : (n_8 : Int) ≤ (n : Int) := by omega
  go_wp2_with fail
  obtain ⟨q23, eq23⟩ : ∃ v_ : Rat, v_ = (sumB (l_10.map LC.ly)) := ⟨_, rfl⟩
  refine (stTotal_is (G := G) (N := M0) (l := l_10) (Nat.le_trans hG (M.out.2.2.2.2.2).size) (M.out.2.1) HOK2.out (HZ2.out.mono (by omega)) HM0.out).mono ?_
  rintro e w8 ⟨x_19, x_20, x_21, x_22, rfl, hd24, hb⟩
  rw [← eq23] at hd24
  have Sq23 : Hid (Fz q23 800000) := by show Fz q23 800000; rw [eq23]; exact ((fz_sum HZ2.out).mono (by have h_ := HOK2.out.len; omega))
  have Eq23 := Lib.hid eq23; clear eq23
  replace M := Lib.hid (And.intro hd24 (Goes.go M.out hb))
  clear hb hd24
  have ys_x_19 := TQ.st (M.out.1); have st_x_19 := ys_x_19.1; have st_x_20 := ys_x_19.2.1; have st_x_21 := ys_x_19.2.2.1; have st_x_22 := ys_x_19.2.2.2; clear ys_x_19
  go_upto_region 11 with fail
  clear st_x_19 st_x_20 st_x_21 st_x_22
  obtain ⟨w9, hv⟩ : ∃ w_ : World, w_ = (w8.alloc (.cells #[x_19, x_20, x_21, x_22] 29)) := ⟨_, rfl⟩
  rw [← hv]
  have ow2_ : w6.heap.size < w8.heap.size := ((M.out.2.1)).lt
  replace M := Lib.hid (And.intro (hv ▸ bx1 w8 29 #[x_19, x_20, x_21, x_22]) (Goes.go M.out (hv ▸ below_alloc _ _ : Below w8.heap.size w8 w9)))
  clear hv
  have y2 := (M.out.1).d4; have p2_0 := y2.1; have p2_1 := y2.2.1; have p2_2 := y2.2.2.1; have p2_3 := y2.2.2.2; clear y2
  have y1 := (M.out.2.2.1).d4; have p1_0 := y1.1; have p1_1 := y1.2.1; have p1_2 := y1.2.2.1; have p1_3 := y1.2.2.2; clear y1
  go_wp2_with fail
  clear p2_0 p2_1 p2_2 p2_3 p1_0 p1_1 p1_2 p1_3
  obtain ⟨q29, eq29⟩ : ∃ v_ : Rat, v_ = (q23 + q15) := ⟨_, rfl⟩
  refine (fqAdd (G := G) (q := q23) (r := q15) (M.out.2.1) (M.out.2.2.2.2.1) (Fz.mono Sq23.out (by omega)) (Fz.mono (show Fz q15 3220 by rw [Eq15.out]; exact HZG.out) (by omega))).mono ?_
  rintro e w10 ⟨x_25, x_26, x_27, x_28, rfl, hd30, hb⟩
  rw [← eq29] at hd30
  have Sq29 : Hid (Fz q29 803221) := by show Fz q29 803221; rw [eq29]; exact (Fz.add Sq23.out (show Fz q15 3220 by rw [Eq15.out]; exact HZG.out))
  have Eq29 := Lib.hid eq29; clear eq29
  replace M := Lib.hid (And.intro hd30 (Goes.go M.out hb))
  clear hb hd30
  have ys_x_25 := TQ.st (M.out.1); have st_x_25 := ys_x_25.1; have st_x_26 := ys_x_25.2.1; have st_x_27 := ys_x_25.2.2.1; have st_x_28 := ys_x_25.2.2.2; clear ys_x_25
  go_upto_region 12 with fail
  clear st_x_25 st_x_26 st_x_27 st_x_28
  obtain ⟨w11, hv⟩ : ∃ w_ : World, w_ = (w10.alloc (.cells #[x_25, x_26, x_27, x_28] 29)) := ⟨_, rfl⟩
  rw [← hv]
  have ow3_ : w8.heap.size < w10.heap.size := ((M.out.2.1)).lt
  replace M := Lib.hid (And.intro (hv ▸ bx1 w10 29 #[x_25, x_26, x_27, x_28]) (Goes.go M.out (hv ▸ below_alloc _ _ : Below w10.heap.size w10 w11)))
  clear hv
  go_wp2_with fail
  refine (stRight_c (G := G) (l := l_10) (Nat.le_trans hG (M.out.2.2.2.2.2.2.2.2.2).size) (M.out.2.2.2.2.2.1) HOK2.out (HZ2.out.mono (by omega))).mono ?_
  rintro e w12 ⟨rfl, hb⟩
  replace M := Lib.hid (Goes.go M.out hb)
  clear hb
  have y3 := (M.out.1).d4; have p3_0 := y3.1; have p3_1 := y3.2.1; have p3_2 := y3.2.2.1; have p3_3 := y3.2.2.2; clear y3
  have y0 := (M.out.2.2.2.2.2.2.2.1).d4; have p0_0 := y0.1; have p0_1 := y0.2.1; have p0_2 := y0.2.2.1; have p0_3 := y0.2.2.2; clear y0
  go_wp2_with fail
  clear p3_0 p3_1 p3_2 p3_3 p0_0 p0_1 p0_2 p0_3
  replace M := Lib.hid (And.intro (M.out.2.1) (And.intro (M.out.2.2.2.2.1) (And.intro (M.out.2.2.2.2.2.1) (And.intro (M.out.2.2.2.2.2.2.1) (And.intro (M.out.2.2.2.2.2.2.2.2.1) (M.out.2.2.2.2.2.2.2.2.2))))))
  refine (fsame_o (G := G) (o := (some q29)) (p := (some q5)) (b_ := true) (M.out.1) (M.out.2.2.2.2.1) (Oz.mono (Oz.some_ Sq29.out) (by omega)) (Oz.mono (Oz.some_ Sq5.out) (by omega)) (decide_eq_true (congrArg some (by rw [Eq29.out, Eq23.out, Eq15.out, Eq5.out]; exact HSB.out)))).mono ?_
  rintro e w13 ⟨rfl, hb⟩
  replace M := Lib.hid (Goes.go M.out hb)
  clear hb
  have y1 := (M.out.2.1).d4; have p1_0 := y1.1; have p1_1 := y1.2.1; have p1_2 := y1.2.2.1; have p1_3 := y1.2.2.2; clear y1
  go_wp2_with fail
  clear p1_0 p1_1 p1_2 p1_3
  refine (fqRight (G := G) (q := q15) (M.out.2.2.2.1) (Fz.mono (show Fz q15 3220 by rw [Eq15.out]; exact HZG.out) (by omega))).mono ?_
  rintro e w14 ⟨rfl, hb⟩
  replace M := Lib.hid (Goes.go M.out hb)
  clear hb
  have y1 := (M.out.2.1).d4; have p1_0 := y1.1; have p1_1 := y1.2.1; have p1_2 := y1.2.2.1; have p1_3 := y1.2.2.2; clear y1
  go_wp2_with fail
  clear p1_0 p1_1 p1_2 p1_3
  refine (fqSign (G := G) (q := q15) (k := sx) (Nat.le_trans hG (M.out.2.2.2.2.2).size) (M.out.2.2.2.1) (Fz.mono (show Fz q15 3220 by rw [Eq15.out]; exact HZG.out) (by omega)) HSX.out).mono ?_
  rintro e w15 ⟨rfl, hb⟩
  replace M := Lib.hid (Goes.go M.out hb)
  clear hb
  go_wp2_with fail
  go_ret
  exact ⟨rfl, (M.out.2.2.2.2.2)⟩
theorem keeps_walk {ls : List LR} {a : Option Addr} {n c : Nat} {rl am : Int} {w : World} (h : RdR w.heap.size w a n c ls) (hn0 : n ≤ 9223372036854775807) :
    Calls Try.prog 3 #[.slice a n c, .int .i64 rl, .int .i64 am] w fun e w' => e = .returned (.bool true) ∧ Below w.heap.size w w' := by
  cases hf : fewL ls with
  | false => exact keeps_few h hn0 hf
  | true =>
    cases hr : rightL ls with
    | false => exact keeps_right h hn0 hf hr
    | true =>
      by_cases h1 : rl < 0
      · exact keeps_rl1 h hn0 hf hr h1
      by_cases h2 : 3 ≤ rl
      · exact keeps_rl2 h hn0 hf hr h2
      by_cases h3 : am < 1
      · exact keeps_low h hn0 hf hr (by omega) (by omega) h3
      by_cases h4 : 1099511627776 < am
      · exact keeps_high h hn0 hf hr (by omega) (by omega) h4
      by_cases h5 : sumN ((ls.map toC).map LC.ly) < am
      · exact keeps_over h hn0 hf hr (by omega) (by omega) (by omega) (by omega) h5
      · exact keeps_ok h hn0 hf hr (by omega) (by omega) (by omega) (by omega)
end Go.Proofs.Ytgmngkbocpadaaa
