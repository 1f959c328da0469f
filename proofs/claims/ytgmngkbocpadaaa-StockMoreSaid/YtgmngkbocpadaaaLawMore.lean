/- StockMore: whatever the arguments, it returns true. -/
import Derived.Test.YtgmngkbocpadaaaBase
import Derived.Test.YtgmngkbocpadaaaBigSpec
import Derived.Test.YtgmngkbocpadaaaBigB
import Derived.Test.YtgmngkbocpadaaaBigC
import Derived.Test.YtgmngkbocpadaaaBigD
import Derived.Test.YtgmngkbocpadaaaBigK
import Derived.Test.YtgmngkbocpadaaaBigL
import Derived.Test.YtgmngkbocpadaaaBigQ
import Derived.Test.YtgmngkbocpadaaaFracA
import Derived.Test.YtgmngkbocpadaaaFracC
import Derived.Test.YtgmngkbocpadaaaFz
import Derived.Test.YtgmngkbocpadaaaHeld
import Derived.Test.YtgmngkbocpadaaaAw
import Derived.Test.YtgmngkbocpadaaaFracR
import Derived.Test.YtgmngkbocpadaaaRw
import Derived.Test.YtgmngkbocpadaaaStockPlain
import Derived.Test.YtgmngkbocpadaaaStB
import Derived.Test.YtgmngkbocpadaaaStH
import Derived.Test.YtgmngkbocpadaaaStI
import Derived.Test.YtgmngkbocpadaaaLawKeeps
import Derived.Test.YtgmngkbocpadaaaLawTwice
import Derived.Test.YtgmngkbocpadaaaProg
import Derived.Test.YtgmngkbocpadaaaShelf
import Derived.WalkKit
import Derived.WalkSpells
import Derived.WalkLawsBesides
import Derived.Handy
import Derived.Lib.Hide
import Derived.Lib.Strings
import Derived.Lib.Builder
import Derived.BigQuiet
import Derived.OwnWalk
import Derived.Laws.BitsLemmas
import Derived.WalkSmall
import Derived.Deep.QuietTactic
import Derived.StillTailTactics
import Derived.Maps.AppendAt
import Derived.IntWalk
import Derived.Deep.RegionHeld3
import Derived.Deep.DeepFit
import Derived.Deep.LoopGhost
import Derived.Deep.DeepCutAuto
import Derived.Lib.ItoaNum
import Derived.Lib.Repeat
import Derived.Lib.AppendIntMem
import Derived.Sort.OwnSorted
import Derived.Shelf.Strings.SlTrimAscii
import Derived.Lib.ConvBytes
import Derived.Lib.CutLaws
namespace Go.Proofs.Ytgmngkbocpadaaa
open Go.RowKit Go.Lib
variable {G : Nat}

/-- An unsigned number of 16 bits. -/
structure U16 where
  v : Int
instance : El U16 where
  cells x := [.int .u16 x.v]
  sz := 1
  T := 50
  deep := []
  ok _ _ x := 0 ≤ x.v ∧ x.v ≤ 65535
  len := fun _ => rfl
  one := by rintro _ _ x - u hu; simp at hu; subst hu; rfl
  keep := fun h _ => h
  far := fun h _ _ _ _ => h
abbrev RdU (G : Nat) (w : World) (a : Option Addr) (n c : Nat) (l : List U16) : Prop := RdL G w a n c l
abbrev OwVC (G B : Nat) (w : World) (v : Value) (l : List LC) : Prop := OwV G B w v l
theorem le_next {l gl : List LC} {k : Nat} {x y : LC} (hx : l[k]? = some x) (h : leL ((l.take k).map LC.ly) (gl.map LC.ly)) (hn : x.n = y.n) (hq : x.q ≤ y.q) : leL ((l.take (k + 1)).map LC.ly) ((gl ++ [y]).map LC.ly) := by
  rw [List.take_add_one, hx, List.map_append, List.map_append]
  exact leL_app h ⟨hn, hq, trivial⟩
theorem FzL.app {l : List LC} {x : LC} {N : Nat} (h : FzL l N) (hx : Fz x.q N) : FzL (l ++ [x]) N := fun y hy => by
  rcases List.mem_append.1 hy with hy | hy
  · exact h y hy
  · simp at hy; subst hy; exact hx
theorem le_okC {l gl : List LC} (h : OkC l) (hl : leL (l.map LC.ly) (gl.map LC.ly)) : OkC gl ∧ sumN (gl.map LC.ly) = sumN (l.map LC.ly) ∧ gl.length = l.length := by
  have h1 := leL_len hl
  rw [List.length_map, List.length_map] at h1
  have h2 := (leL_sum hl).1
  refine ⟨⟨fun y hy => ?_, by rw [← h2]; exact h.sum, by rw [← h1]; exact h.len⟩, h2.symm, h1.symm⟩
  obtain ⟨k, hk⟩ := List.getElem?_of_mem hy
  have hkl : k < l.length := by rw [h1]; exact (List.getElem?_eq_some_iff.1 hk).1
  have h3 := leL_get hl k l[k].ly y.ly (by rw [List.getElem?_map, List.getElem?_eq_getElem hkl]; rfl) (by rw [List.getElem?_map, hk]; rfl)
  have h4 := h.ok _ (List.getElem_mem hkl)
  have h5 : l[k].ly.n = l[k].n := rfl
  have h6 : y.ly.n = y.n := rfl
  have h7 : l[k].ly.b = l[k].q := rfl
  have h8 : y.ly.b = y.q := rfl
  refine ⟨by omega, ?_⟩
  rw [h7, h8] at h3
  exact Rat.le_trans h4.2 h3.2
theorem ord_le {q r : Rat} {k : Int} (h : q ≤ r) (hk : ordQ q r = k) : k ≤ 0 := by
  rw [← hk]; unfold ordQ; split
  · omega
  · split
    · grind
    · omega
theorem add_nn {q : Rat} {u : Int} (hu : 0 ≤ u) : q ≤ q + ((u : Int) : Rat) := by
  have : (0 : Rat) ≤ ((u : Int) : Rat) := Rat.intCast_nonneg.2 hu
  grind
theorem OwV.no {α : Type} [El α] {w : World} {B : Nat} {v : Value} {l : List α} (h : OwV G B w v l) : v.ownBlock ≠ some w.heap.size := by
  rcases own_block h.own with h2 | ⟨g', cur, h2, -, h3⟩
  · rw [h2]; simp
  · rw [h2]; have := h3.lt; simp; omega
theorem OwV.far_no {α : Type} [El α] {w w' : World} {B g : Nat} {v : Value} {l : List α} {T' : TypeId} {ys : Array Value} (h : OwV G B w v l) (k : Bx w g T' ys) (hn : v.ownBlock ≠ some g) (hT : (El.deep α).contains T' = false) (hG : G ≤ g) (hg : w.grownBy w' (some g)) : OwV G B w' v l := by
  refine ⟨h.leG, h.own.kept hg ?_, fun x hx => El.far (h.oks x hx) k hT hG hg⟩
  rcases own_block h.own with h2 | ⟨g', cur, h2, -, h3⟩
  · exact .inl h2
  · exact .inr hn
theorem le_at {l m : List LC} {k : Nat} {x y : LC} (h : leL (l.map LC.ly) (m.map LC.ly)) (hx : l[k]? = some x) (hy : m[k]? = some y) : x.n = y.n ∧ x.q ≤ y.q :=
  leL_get h k x.ly y.ly (by rw [List.getElem?_map, hx]; rfl) (by rw [List.getElem?_map, hy]; rfl)
set_option maxRecDepth 100000 in
set_option maxHeartbeats 4000000 in
theorem more_1 {ls : List LR} {a : Option Addr} {n c : Nat} {w : World} (h : RdR w.heap.size w a n c ls) (_hn0 : n ≤ 9223372036854775807) {rl am : Int} {us : List U16} {a2 : Option Addr} {n2 c2 : Nat} (_h2 : RdU w.heap.size w a2 n2 c2 us) (_hn2 : n2 ≤ 9223372036854775807) (hf : fewL ls = false) :
    Calls Try.prog 5 #[.slice a n c, .int .i64 rl, .int .i64 am, .slice a2 n2 c2] w fun e w' => e = .returned (.bool true) ∧ Below w.heap.size w w' := by
  obtain ⟨G, hG0⟩ : ∃ G : Nat, G = w.heap.size := ⟨_, rfl⟩
  have hG : G ≤ w.heap.size := by omega
  have HL0 : Hid (RdR G w a n c ls) := by show RdR _ _ _ _ _ _; rw [hG0]; exact h
  have HF := Lib.hid hf
  clear hf
  have HR0 : Hid (RdR G w a n c ls) := HL0.out
  clear h
  have M : Hid (Below w.heap.size w w) := Below.refl _ _
  go_enter Try.func5, Try.ntmps5
  go_wp2_with fail
  refine (stSmall (G := G) (Nat.le_trans hG M.out.size)).mono ?_
  rintro e w1 ⟨rfl, hb⟩
  replace M := Lib.hid (Goes.go M.out hb)
  clear hb
  go_wp2_with fail
  refine (stFew_ok (G := G) (l := ls) (b_ := false) (HR0.out.keep M.out) (by omega) HF.out).mono ?_
  rintro e w2 ⟨rfl, hb⟩
  replace M := Lib.hid (Goes.go M.out hb)
  clear hb
  go_wp2_with fail
  go_ret
  exact ⟨rfl, M.out⟩
set_option maxRecDepth 100000 in
set_option maxHeartbeats 4000000 in
theorem more_2 {ls : List LR} {a : Option Addr} {n c : Nat} {w : World} (h : RdR w.heap.size w a n c ls) (_hn0 : n ≤ 9223372036854775807) {rl am : Int} {us : List U16} {a2 : Option Addr} {n2 c2 : Nat} (_h2 : RdU w.heap.size w a2 n2 c2 us) (_hn2 : n2 ≤ 9223372036854775807) (hf : fewL ls = true) (_h20 : 20 < n) :
    Calls Try.prog 5 #[.slice a n c, .int .i64 rl, .int .i64 am, .slice a2 n2 c2] w fun e w' => e = .returned (.bool true) ∧ Below w.heap.size w w' := by
  obtain ⟨G, hG0⟩ : ∃ G : Nat, G = w.heap.size := ⟨_, rfl⟩
  have hG : G ≤ w.heap.size := by omega
  have HL0 : Hid (RdR G w a n c ls) := by show RdR _ _ _ _ _ _; rw [hG0]; exact h
  have hs_ := few_all hf
  have HSM := Lib.hid hs_.1
  have hn : n ≤ 202 := by have h_ := HL0.out.len; omega
  have HF := Lib.hid hf
  clear hf hs_
  have ek0 : decide (20 < (n : Int)) = true := decide_eq_true (by omega)
  have ek1 : decide (20 < n) = true := decide_eq_true (by omega)
  have ek2 : 20 < (n : Int) := by omega
  have HR0 : Hid (RdR G w a n c ls) := HL0.out
  clear h
  have M : Hid (Below w.heap.size w w) := Below.refl _ _
  go_enter Try.func5, Try.ntmps5
  go_wp2_with fail
  refine (stSmall (G := G) (Nat.le_trans hG M.out.size)).mono ?_
  rintro e w1 ⟨rfl, hb⟩
  replace M := Lib.hid (Goes.go M.out hb)
  clear hb
  go_wp2_with fail
  refine (stFew_ok (G := G) (l := ls) (b_ := true) (HR0.out.keep M.out) (by omega) HF.out).mono ?_
  rintro e w2 ⟨rfl, hb⟩
  replace M := Lib.hid (Goes.go M.out hb)
  clear hb
  go_wp2_with fail
  go_ret
  exact ⟨rfl, M.out⟩
set_option maxRecDepth 100000 in
set_option maxHeartbeats 4000000 in
theorem more_3 {ls : List LR} {a : Option Addr} {n c : Nat} {w : World} (h : RdR w.heap.size w a n c ls) (_hn0 : n ≤ 9223372036854775807) {rl am : Int} {us : List U16} {a2 : Option Addr} {n2 c2 : Nat} (_h2 : RdU w.heap.size w a2 n2 c2 us) (_hn2 : n2 ≤ 9223372036854775807) (hf : fewL ls = true) (_h20 : n ≤ 20) (hr : rightL ls = false) :
    Calls Try.prog 5 #[.slice a n c, .int .i64 rl, .int .i64 am, .slice a2 n2 c2] w fun e w' => e = .returned (.bool true) ∧ Below w.heap.size w w' := by
  obtain ⟨G, hG0⟩ : ∃ G : Nat, G = w.heap.size := ⟨_, rfl⟩
  have hG : G ≤ w.heap.size := by omega
  have HL0 : Hid (RdR G w a n c ls) := by show RdR _ _ _ _ _ _; rw [hG0]; exact h
  have hs_ := few_all hf
  have HSM := Lib.hid hs_.1
  have hn : n ≤ 202 := by have h_ := HL0.out.len; omega
  have HF := Lib.hid hf
  have HR := Lib.hid hr
  clear hf hs_ hr
  have ek0 : decide (20 < (n : Int)) = false := decide_eq_false (by omega)
  have ek1 : decide (20 < n) = false := decide_eq_false (by omega)
  have ek2 : ¬ 20 < (n : Int) := by omega
  have HR0 : Hid (RdR G w a n c ls) := HL0.out
  clear h
  have M : Hid (Below w.heap.size w w) := Below.refl _ _
  go_enter Try.func5, Try.ntmps5
  go_wp2_with fail
  refine (stSmall (G := G) (Nat.le_trans hG M.out.size)).mono ?_
  rintro e w1 ⟨rfl, hb⟩
  replace M := Lib.hid (Goes.go M.out hb)
  clear hb
  go_wp2_with fail
  refine (stFew_ok (G := G) (l := ls) (b_ := true) (HR0.out.keep M.out) (by omega) HF.out).mono ?_
  rintro e w2 ⟨rfl, hb⟩
  replace M := Lib.hid (Goes.go M.out hb)
  clear hb
  go_wp2_with fail
  refine (stRight_raw (G := G) (l := ls) (b_ := false) (HR0.out.keep M.out) (by omega) HSM.out HR.out).mono ?_
  rintro e w3 ⟨rfl, hb⟩
  replace M := Lib.hid (Goes.go M.out hb)
  clear hb
  go_wp2_with fail
  go_ret
  exact ⟨rfl, M.out⟩
set_option maxRecDepth 100000 in
set_option maxHeartbeats 4000000 in
theorem more_bad {ls : List LR} {a : Option Addr} {n c : Nat} {w : World} (h : RdR w.heap.size w a n c ls) (_hn0 : n ≤ 9223372036854775807) {rl am : Int} {us : List U16} {a2 : Option Addr} {n2 c2 : Nat} (h2 : RdU w.heap.size w a2 n2 c2 us) (_hn2 : n2 ≤ 9223372036854775807) (hf : fewL ls = true) (_h20 : n ≤ 20) (hr : rightL ls = true) (hv : drErr rl am (sumN ((ls.map toC).map LC.ly)) ≠ 0)  :
    Calls Try.prog 5 #[.slice a n c, .int .i64 rl, .int .i64 am, .slice a2 n2 c2] w fun e w' => e = .returned (.bool true) ∧ Below w.heap.size w w' := by
  obtain ⟨G, hG0⟩ : ∃ G : Nat, G = w.heap.size := ⟨_, rfl⟩
  have hG : G ≤ w.heap.size := by omega
  have HL0 : Hid (RdR G w a n c ls) := by show RdR _ _ _ _ _ _; rw [hG0]; exact h
  have hs_ := few_all hf
  have hr_ := rightL_ok hr
  obtain ⟨l, hl⟩ : ∃ l, l = ls.map toC := ⟨_, rfl⟩
  have HL : Hid (RdC G w a n c l) := by show RdC _ _ _ _ _ _; rw [hG0, hl]; exact h.toC hr_.1
  have HOK : Hid (OkC l) := by show OkC _; rw [hl]; exact hr_.2
  have HZ3 : Hid (FzL l 3) := by show FzL _ _; rw [hl]; exact fz_toC h hr_.1 hs_.1
  have HZ : Hid (FzL l 100000000) := Lib.hid (HZ3.out.mono (by omega))
  have HSM := Lib.hid hs_.1
  have hn : n ≤ 202 := by have h_ := HL0.out.len; omega
  obtain ⟨N0, hN0⟩ : ∃ N, sumN (l.map LC.ly) = N := ⟨_, rfl⟩
  have hN1 : N0 ≤ 1099511627776 := by have h_ := HOK.out.sum; omega
  have HN0 := Lib.hid hN0
  have HF := Lib.hid hf
  have HR := Lib.hid hr
  have HU : Hid (RdU G w a2 n2 c2 us) := by show RdU _ _ _ _ _ _; rw [hG0]; exact h2
  rw [← hl, hN0] at hv
  obtain ⟨er1, he1⟩ : ∃ e, drErr rl am N0 = e := ⟨_, rfl⟩
  rw [he1] at hv
  have HE1 := Lib.hid he1; have HV := Lib.hid hv; clear he1 hv
  clear hN0 hf hr hs_ hr_ h2
  have ek0 : decide (20 < (n : Int)) = false := decide_eq_false (by omega)
  have ek1 : decide (20 < n) = false := decide_eq_false (by omega)
  have ek2 : ¬ 20 < (n : Int) := by omega
  have HR0 : Hid (RdR G w a n c ls) := HL0.out
  have HC0 : Hid (RdC G w a n c l) := HL.out
  clear h
  have M : Hid (Below w.heap.size w w) := Below.refl _ _
  go_enter Try.func5, Try.ntmps5
  go_wp2_with fail
  refine (stSmall (G := G) (Nat.le_trans hG M.out.size)).mono ?_
  rintro e w1 ⟨rfl, hb⟩
  replace M := Lib.hid (Goes.go M.out hb)
  clear hb
  go_wp2_with fail
  refine (stFew_ok (G := G) (l := ls) (b_ := true) (HR0.out.keep M.out) (by omega) HF.out).mono ?_
  rintro e w2 ⟨rfl, hb⟩
  replace M := Lib.hid (Goes.go M.out hb)
  clear hb
  go_wp2_with fail
  refine (stRight_raw (G := G) (l := ls) (b_ := true) (HR0.out.keep M.out) (by omega) HSM.out HR.out).mono ?_
  rintro e w3 ⟨rfl, hb⟩
  replace M := Lib.hid (Goes.go M.out hb)
  clear hb
  go_wp2_with fail
  go_loopw [10, 11] (fun i10 i11 wr => ∃ (k : Nat) (gl : List LC) (vg : Value), vg = i10 ∧ i11 = .int .i64 (k : Int) ∧ Hid (k ≤ n) ∧ Hid (gl.length = k) ∧ Hid (leL ((l.take k).map LC.ly) (gl.map LC.ly)) ∧ Hid (FzL gl 8) ∧ Hid (OwVC G w.heap.size wr vg gl ∧ Below w.heap.size w wr)) (fun i10 i11 _ => n - (RowKit.intOf i11).toNat)
  case atStart =>
    exact ⟨0, [], (.slice none 0 0), rfl, rfl, (by show _ ≤ _; omega), (Lib.hid rfl), (Lib.hid trivial), (Lib.hid (fun y_ hy_ => by simp at hy_)), Lib.hid (And.intro (OwV.nil _ hG) M.out)⟩
  case round =>
    obtain ⟨w4, rfl⟩ : ∃ x, x = wr := ⟨_, rfl⟩
    clear M
    obtain ⟨k, gl, vg, rfl, rfl, hk, HGL, HLE, HZg, M⟩ := hrel
    have hk := hk.out
    have hgk : gl.length = k := HGL.out
    clear hgk
    have hw_ : (k < n ∧ k < n2) ∨ (k < n ∧ n2 ≤ k) ∨ n ≤ k := by omega
    rcases hw_ with hw_ | hw_ | hlt
    ·
      have hlt := hw_.1; have hlt2 := hw_.2; clear hw_
      have f1_0 : decide (k < n) = true := decide_eq_true (by omega)
      have f1_1 : decide ((k : Int) < (n : Int)) = true := decide_eq_true (by omega)
      have f1_i : (k : Int) < (n : Int) := by omega
      obtain ⟨b, off, rfl, hb_⟩ := RdL.ptr HC0.out (by omega : 0 < n)
      have hkl_ : k < l.length := by rw [HC0.out.len]; exact hlt
      obtain ⟨x_, hx_⟩ : ∃ x, l[k]? = some x := ⟨l[k], List.getElem?_eq_getElem hkl_⟩
      obtain ⟨xn, xu0, xu1, xu2, xu3, xq⟩ := x_
      have HRx : Hid (Row w b (off + k * 5) [.int .i64 xn, xu0, xu1, xu2, xu3]) := hb_.row hx_
      have HQx : Hid (FQ G w xu0 xu1 xu2 xu3 xq) := hb_.ok hx_
      have HEx := Lib.hid hx_; clear hx_ hkl_ hb_
      have HZx : Hid (Fz xq 3) := HZ3.out _ (List.mem_of_getElem? HEx.out)
      have f4_0 : decide (k < n2) = true := decide_eq_true (by omega)
      have f4_1 : decide ((k : Int) < (n2 : Int)) = true := decide_eq_true (by omega)
      have f4_i : (k : Int) < (n2 : Int) := by omega
      obtain ⟨b2, off2, rfl, hb_⟩ := RdL.ptr HU.out (by omega : 0 < n2)
      have hkl_ : k < us.length := by rw [HU.out.len]; exact hlt2
      obtain ⟨u_, hu_⟩ : ∃ x, us[k]? = some x := ⟨us[k], List.getElem?_eq_getElem hkl_⟩
      obtain ⟨uv⟩ := u_
      have HRu : Hid (Row w b2 (off2 + k * 1) [.int .u16 uv]) := hb_.row hu_
      have hub_ : 0 ≤ uv ∧ uv ≤ 65535 := hb_.ok hu_
      have hu0 := hub_.1
      have hu1 := hub_.2
      have hw1u : IntKind.i64.wrap uv = uv := IntWalk.i64_in _ (by omega)
      clear hub_ hu_ hkl_ hb_
      rw [Nat.mul_one] at HRu
      have ys_xu0 := TQ.st (HQx.out.keep (M.out.2)); have st_xu0 := ys_xu0.1; have st_xu1 := ys_xu0.2.1; have st_xu2 := ys_xu0.2.2.1; have st_xu3 := ys_xu0.2.2.2; clear ys_xu0
      have yr0 := (HRx.out.keep (M.out.2)).c5; have r0_0 := yr0.1; have r0_1 := yr0.2.1; have r0_2 := yr0.2.2.1; have r0_3 := yr0.2.2.2.1; have r0_4 := yr0.2.2.2.2; clear yr0
      go_upto_region 9 with fail
      clear st_xu0 st_xu1 st_xu2 st_xu3 r0_0 r0_1 r0_2 r0_3 r0_4
      obtain ⟨w5, hv⟩ : ∃ w_ : World, w_ = (w4.alloc (.cells #[.int .i64 xn, xu0, xu1, xu2, xu3] 48)) := ⟨_, rfl⟩
      rw [← hv]
      have ow0_ : w.heap.size ≤ w4.heap.size := ((M.out.2)).size
      have no_b0 := OwV.no (M.out.1)
      replace M := Lib.hid (And.intro (hv ▸ bx1 w4 48 #[.int .i64 xn, xu0, xu1, xu2, xu3]) (Goes.go M.out (hv ▸ below_alloc _ _ : Below w4.heap.size w4 w5)))
      clear hv
      go_upto_region 10 with fail
      go_cut [] (fun wx => ∃ (x_1 : Value), ∃ (x_2 : Value), ∃ (x_3 : Value), ∃ (x_4 : Value), ∃ (q5 : Rat), ∃ (x_7 : Value), ∃ (x_8 : Value), ∃ (x_9 : Value), ∃ (x_10 : Value), ∃ (q11 : Rat), Hid (q5 = (uv : Rat)) ∧ Hid (q11 = (xq + q5)) ∧ Hid (Fz q5 4) ∧ Hid (Fz q11 8) ∧ Hid (FQ G wx x_7 x_8 x_9 x_10 q11 ∧ FQ G wx x_1 x_2 x_3 x_4 q5 ∧ OwVC G w.heap.size wx vg gl ∧ Bx wx w4.heap.size 48 #[.int .i64 xn, x_7, x_8, x_9, x_10] ∧ Below w.heap.size w wx))
      case first =>
        obtain ⟨w6, hv⟩ : ∃ w_ : World, w_ = w5.drew := ⟨_, rfl⟩
        replace M := Lib.hid (Goes.go M.out (hv ▸ below_drew _ : Below w5.heap.size w5 w6))
        refine wp_region_held_drew (S := (fun w' => w'.cell? ⟨b2, off2 + k, none⟩ = some (.int .u16 uv))) (by kernel_rfl) (by rw [← hv]; exact (HRu.out.keep (M.out.2.2)).2 0 _ rfl) (fun hH13 => ?_)
        rw [← hv] at hH13 ⊢
        clear hv
        refine tk at0 ?_
        refine tk at2 ?_
        refine tk at3 ?_
        refine tk at4 ?_
        refine tk at5 ?_
        refine tk at6 ?_
        refine wpAnyH_ready (rs := [1, 7]) (by kernel_rfl) (by simp) ?_
        refine AllReadyH.cons at1 (fun K hK => ?_) ?_
        ·
          have y0 := (M.out.1).d5; have p0_0 := y0.1; have p0_1 := y0.2.1; have p0_2 := y0.2.2.1; have p0_3 := y0.2.2.2.1; have p0_4 := y0.2.2.2.2; clear y0
          go_simp
          clear p0_0 p0_1 p0_2 p0_3 p0_4
          refine hK.out _ _ ((HRu.out.keep (M.out.2.2)).2 0 _ rfl) (fun hH14 => ?_)
          clear hK K hH13
          (try simp only [Act.put, List.setIfInBounds_toArray, List.set_cons_zero, List.set_cons_succ])
          refine wpAnyH_ready (rs := [7]) (by kernel_rfl) (by simp) ?_
          refine AllReadyH.cons at7 (fun K hK => ?_) AllReadyH.nil
          go_simp
          obtain ⟨q19, eq19⟩ : ∃ v_ : Rat, v_ = (uv : Rat) := ⟨_, rfl⟩
          refine (fqInt (G := G) (x := uv) (by omega)).mono ?_
          rintro e w7 ⟨x_15, x_16, x_17, x_18, rfl, hd20, hb⟩
          rw [← eq19] at hd20
          have Sq19 : Hid (Fz q19 4) := by show Fz q19 4; rw [eq19]; exact (Fz.int64 (by omega))
          have Eq19 := Lib.hid eq19; clear eq19
          replace M := Lib.hid (And.intro hd20 (Goes.go M.out hb))
          clear hb hd20
          (try go_wp2_with fail)
          refine hK.out _ _ ((HRu.out.keep (M.out.2.2.2)).2 0 _ rfl) (fun hH21 => ?_)
          clear hK K hH14
          (try simp only [Act.put, List.setIfInBounds_toArray, List.set_cons_zero, List.set_cons_succ])
          refine wpAnyH_ready (rs := [8]) (by kernel_rfl) (by simp) ?_
          refine AllReadyH.cons at8 (fun K hK => ?_) AllReadyH.nil
          go_simp
          obtain ⟨q26, eq26⟩ : ∃ v_ : Rat, v_ = (xq + q19) := ⟨_, rfl⟩
          refine (fqAdd (G := G) (q := xq) (r := q19) (HQx.out.keep (M.out.2.2.2)) (M.out.1) (Fz.mono HZx.out (by omega)) (Fz.mono Sq19.out (by omega))).mono ?_
          rintro e w8 ⟨x_22, x_23, x_24, x_25, rfl, hd27, hb⟩
          rw [← eq26] at hd27
          have Sq26 : Hid (Fz q26 8) := by show Fz q26 8; rw [eq26]; exact (Fz.add HZx.out Sq19.out)
          have Eq26 := Lib.hid eq26; clear eq26
          replace M := Lib.hid (And.intro hd27 (Goes.go M.out hb))
          clear hb hd27
          (try go_wp2_with fail)
          refine hK.out _ _ ((HRu.out.keep (M.out.2.2.2.2)).2 0 _ rfl) (fun hH28 => ?_)
          clear hK K hH21
          (try simp only [Act.put, List.setIfInBounds_toArray, List.set_cons_zero, List.set_cons_succ])
          refine tk at9 ?_
          refine tk at10 ?_
          refine tk at11 ?_
          refine tk at12 ?_
          refine wpAnyH_ready (rs := [13]) (by kernel_rfl) (by simp) ?_
          refine AllReadyH.cons at13 (fun K hK => ?_) AllReadyH.nil
          have y0 := (M.out.2.2.1).c5; have p0_0 := y0.1; have q0_0 := y0.2.1; have p0_1 := y0.2.2.1; have q0_1 := y0.2.2.2.1; have p0_2 := y0.2.2.2.2.1; have q0_2 := y0.2.2.2.2.2.1; have p0_3 := y0.2.2.2.2.2.2.1; have q0_3 := y0.2.2.2.2.2.2.2.1; have p0_4 := y0.2.2.2.2.2.2.2.2.1; have q0_4 := y0.2.2.2.2.2.2.2.2.2; clear y0
          have ys_x_22 := TQ.st (M.out.1); have st_x_22 := ys_x_22.1; have st_x_23 := ys_x_22.2.1; have st_x_24 := ys_x_22.2.2.1; have st_x_25 := ys_x_22.2.2.2; clear ys_x_22
          go_simp
          clear p0_0 q0_0 p0_1 q0_1 p0_2 q0_2 p0_3 q0_3 p0_4 q0_4 st_x_22 st_x_23 st_x_24 st_x_25
          obtain ⟨w9, hv⟩ : ∃ w_ : World, w_ = ((((w8.setCell ⟨w4.heap.size, 1, none⟩ (x_22)).setCell ⟨w4.heap.size, 2, none⟩ (x_23)).setCell ⟨w4.heap.size, 3, none⟩ (x_24)).setCell ⟨w4.heap.size, 4, none⟩ (x_25)) := ⟨_, rfl⟩
          rw [← hv]
          have og : w8.grownBy w9 (some w4.heap.size) := by rw [hv]; exact (only_setCell (only_setCell (only_setCell (only_setCell (World.grownBy.refl _ _) _) _) _) _)
          have hz : w.heap.size ≤ w4.heap.size := by omega
          have hk : Bx w9 w4.heap.size 48 #[.int .i64 xn, x_22, x_23, x_24, x_25] := by rw [hv]; exact (((((M.out.2.2.1).set 1 _).set 2 _).set 3 _).set 4 _)
          have hbw : Below w.heap.size w w9 := by rw [hv]; exact (Below.setCell (Below.setCell (Below.setCell (Below.setCell (M.out.2.2.2.2) (by omega) _) (by omega) _) (by omega) _) (by omega) _)
          replace M := Lib.hid (And.intro ((M.out.1).far (M.out.2.2.1) (by rfl) (by omega) og) (And.intro ((M.out.2.1).far (M.out.2.2.1) (by rfl) (by omega) og) (And.intro hk (And.intro (OwV.far_no (M.out.2.2.2.1) (M.out.2.2.1) no_b0 (by rfl) (by omega) og) hbw))))
          clear hk hbw og hv hz
          refine hK.out _ _ ((HRu.out.keep (M.out.2.2.2.2)).2 0 _ rfl) (fun hH29 => ?_)
          clear hK K hH28
          (try simp only [Act.put, List.setIfInBounds_toArray, List.set_cons_zero, List.set_cons_succ])
          refine wpAnyH_done (by kernel_rfl) ?_ _
          clear hH29
          go_wp2_with fail
          go_meet
          exact ⟨x_15, x_16, x_17, x_18, q19, x_22, x_23, x_24, x_25, q26, Eq19, Eq26, Sq19, Sq26, (M.out.1), (M.out.2.1), (M.out.2.2.2.1), (M.out.2.2.1), (M.out.2.2.2.2)⟩
        refine AllReadyH.cons at7 (fun K hK => ?_) AllReadyH.nil
        go_simp
        obtain ⟨q34, eq34⟩ : ∃ v_ : Rat, v_ = (uv : Rat) := ⟨_, rfl⟩
        refine (fqInt (G := G) (x := uv) (by omega)).mono ?_
        rintro e w7 ⟨x_30, x_31, x_32, x_33, rfl, hd35, hb⟩
        rw [← eq34] at hd35
        have Sq34 : Hid (Fz q34 4) := by show Fz q34 4; rw [eq34]; exact (Fz.int64 (by omega))
        have Eq34 := Lib.hid eq34; clear eq34
        replace M := Lib.hid (And.intro hd35 (Goes.go M.out hb))
        clear hb hd35
        (try go_wp2_with fail)
        refine hK.out _ _ ((HRu.out.keep (M.out.2.2.2)).2 0 _ rfl) (fun hH36 => ?_)
        clear hK K hH13
        (try simp only [Act.put, List.setIfInBounds_toArray, List.set_cons_zero, List.set_cons_succ])
        refine wpAnyH_ready (rs := [1]) (by kernel_rfl) (by simp) ?_
        refine AllReadyH.cons at1 (fun K hK => ?_) AllReadyH.nil
        have y0 := (M.out.2.1).d5; have p0_0 := y0.1; have p0_1 := y0.2.1; have p0_2 := y0.2.2.1; have p0_3 := y0.2.2.2.1; have p0_4 := y0.2.2.2.2; clear y0
        go_simp
        clear p0_0 p0_1 p0_2 p0_3 p0_4
        refine hK.out _ _ ((HRu.out.keep (M.out.2.2.2)).2 0 _ rfl) (fun hH37 => ?_)
        clear hK K hH36
        (try simp only [Act.put, List.setIfInBounds_toArray, List.set_cons_zero, List.set_cons_succ])
        refine wpAnyH_ready (rs := [8]) (by kernel_rfl) (by simp) ?_
        refine AllReadyH.cons at8 (fun K hK => ?_) AllReadyH.nil
        go_simp
        obtain ⟨q42, eq42⟩ : ∃ v_ : Rat, v_ = (xq + q34) := ⟨_, rfl⟩
        refine (fqAdd (G := G) (q := xq) (r := q34) (HQx.out.keep (M.out.2.2.2)) (M.out.1) (Fz.mono HZx.out (by omega)) (Fz.mono Sq34.out (by omega))).mono ?_
        rintro e w8 ⟨x_38, x_39, x_40, x_41, rfl, hd43, hb⟩
        rw [← eq42] at hd43
        have Sq42 : Hid (Fz q42 8) := by show Fz q42 8; rw [eq42]; exact (Fz.add HZx.out Sq34.out)
        have Eq42 := Lib.hid eq42; clear eq42
        replace M := Lib.hid (And.intro hd43 (Goes.go M.out hb))
        clear hb hd43
        (try go_wp2_with fail)
        refine hK.out _ _ ((HRu.out.keep (M.out.2.2.2.2)).2 0 _ rfl) (fun hH44 => ?_)
        clear hK K hH37
        (try simp only [Act.put, List.setIfInBounds_toArray, List.set_cons_zero, List.set_cons_succ])
        refine tk at9 ?_
        refine tk at10 ?_
        refine tk at11 ?_
        refine tk at12 ?_
        refine wpAnyH_ready (rs := [13]) (by kernel_rfl) (by simp) ?_
        refine AllReadyH.cons at13 (fun K hK => ?_) AllReadyH.nil
        have y0 := (M.out.2.2.1).c5; have p0_0 := y0.1; have q0_0 := y0.2.1; have p0_1 := y0.2.2.1; have q0_1 := y0.2.2.2.1; have p0_2 := y0.2.2.2.2.1; have q0_2 := y0.2.2.2.2.2.1; have p0_3 := y0.2.2.2.2.2.2.1; have q0_3 := y0.2.2.2.2.2.2.2.1; have p0_4 := y0.2.2.2.2.2.2.2.2.1; have q0_4 := y0.2.2.2.2.2.2.2.2.2; clear y0
        have ys_x_38 := TQ.st (M.out.1); have st_x_38 := ys_x_38.1; have st_x_39 := ys_x_38.2.1; have st_x_40 := ys_x_38.2.2.1; have st_x_41 := ys_x_38.2.2.2; clear ys_x_38
        go_simp
        clear p0_0 q0_0 p0_1 q0_1 p0_2 q0_2 p0_3 q0_3 p0_4 q0_4 st_x_38 st_x_39 st_x_40 st_x_41
        obtain ⟨w9, hv⟩ : ∃ w_ : World, w_ = ((((w8.setCell ⟨w4.heap.size, 1, none⟩ (x_38)).setCell ⟨w4.heap.size, 2, none⟩ (x_39)).setCell ⟨w4.heap.size, 3, none⟩ (x_40)).setCell ⟨w4.heap.size, 4, none⟩ (x_41)) := ⟨_, rfl⟩
        rw [← hv]
        have og : w8.grownBy w9 (some w4.heap.size) := by rw [hv]; exact (only_setCell (only_setCell (only_setCell (only_setCell (World.grownBy.refl _ _) _) _) _) _)
        have hz : w.heap.size ≤ w4.heap.size := by omega
        have hk : Bx w9 w4.heap.size 48 #[.int .i64 xn, x_38, x_39, x_40, x_41] := by rw [hv]; exact (((((M.out.2.2.1).set 1 _).set 2 _).set 3 _).set 4 _)
        have hbw : Below w.heap.size w w9 := by rw [hv]; exact (Below.setCell (Below.setCell (Below.setCell (Below.setCell (M.out.2.2.2.2) (by omega) _) (by omega) _) (by omega) _) (by omega) _)
        replace M := Lib.hid (And.intro ((M.out.1).far (M.out.2.2.1) (by rfl) (by omega) og) (And.intro ((M.out.2.1).far (M.out.2.2.1) (by rfl) (by omega) og) (And.intro hk (And.intro (OwV.far_no (M.out.2.2.2.1) (M.out.2.2.1) no_b0 (by rfl) (by omega) og) hbw))))
        clear hk hbw og hv hz
        refine hK.out _ _ ((HRu.out.keep (M.out.2.2.2.2)).2 0 _ rfl) (fun hH45 => ?_)
        clear hK K hH44
        (try simp only [Act.put, List.setIfInBounds_toArray, List.set_cons_zero, List.set_cons_succ])
        refine wpAnyH_done (by kernel_rfl) ?_ _
        clear hH45
        go_wp2_with fail
        go_meet
        exact ⟨x_30, x_31, x_32, x_33, q34, x_38, x_39, x_40, x_41, q42, Eq34, Eq42, Sq34, Sq42, (M.out.1), (M.out.2.1), (M.out.2.2.2.1), (M.out.2.2.1), (M.out.2.2.2.2)⟩
      case rest =>
        obtain ⟨x_1, x_2, x_3, x_4, q5, x_7, x_8, x_9, x_10, q11, Eq5, Eq11, Sq5, Sq11, M⟩ := hcut
        obtain ⟨w6, rfl⟩ : ∃ w_ : World, w_ = wc := ⟨_, rfl⟩
        clear hw1u
        have y0 := (M.out.2.2.2.1).d5; have p0_0 := y0.1; have p0_1 := y0.2.1; have p0_2 := y0.2.2.1; have p0_3 := y0.2.2.2.1; have p0_4 := y0.2.2.2.2; clear y0
        have z0 : w4.heap.size < w6.heap.size := (M.out.2.2.2.1).lt
        go_upto_region 7 with (at_builtin; go_must (refine wpList_pushV rfl _ _ elemLy rfl w6 (M.out.2.2.1) HGL.out (⟨xn, x_7, x_8, x_9, x_10, q11⟩ : LC) (M.out.1) rfl rfl rfl rfl (by rfl) (by omega) (by omega) (M.out.2.2.2.2).size ?_; intro vv_46 w7 ho_ hg_))
        clear p0_0 p0_1 p0_2 p0_3 p0_4 z0
        replace M := Lib.hid (And.intro ho_ (And.intro ((M.out.1).grown (M.out.2.2.1).own (by rfl) (M.out.2.2.1).leG hg_) (And.intro ((M.out.2.1).grown (M.out.2.2.1).own (by rfl) (M.out.2.2.1).leG hg_) (below_grown (M.out.2.2.2.2) (M.out.2.2.1).own (Nat.le_refl _) (M.out.2.2.2.2).size hg_))))
        clear ho_ hg_
        go_wp2_with fail
        go_roundw
        case rel => exact ⟨(k + 1), (gl ++ [(⟨xn, x_7, x_8, x_9, x_10, q11⟩ : LC)]), vv_46, rfl, by go_num, (by show _ ≤ _; omega), (Lib.hid (by rw [List.length_append]; show _ + 1 = _; rw [HGL.out])), (Lib.hid (le_next HEx.out HLE.out rfl (by show xq ≤ q11; rw [Eq11.out, Eq5.out]; exact add_nn hu0))), (Lib.hid (HZg.out.app (by show Fz q11 8; exact (Sq11.out.mono (by omega))))), Lib.hid (And.intro (M.out.1) (M.out.2.2.2))⟩
        case measure => simp [RowKit.intOf] <;> omega
    ·
      have hlt := hw_.1; have hlt2 := hw_.2; clear hw_
      have f1_0 : decide (k < n) = true := decide_eq_true (by omega)
      have f1_1 : decide ((k : Int) < (n : Int)) = true := decide_eq_true (by omega)
      have f1_i : (k : Int) < (n : Int) := by omega
      obtain ⟨b, off, rfl, hb_⟩ := RdL.ptr HC0.out (by omega : 0 < n)
      have hkl_ : k < l.length := by rw [HC0.out.len]; exact hlt
      obtain ⟨x_, hx_⟩ : ∃ x, l[k]? = some x := ⟨l[k], List.getElem?_eq_getElem hkl_⟩
      obtain ⟨xn, xu0, xu1, xu2, xu3, xq⟩ := x_
      have HRx : Hid (Row w b (off + k * 5) [.int .i64 xn, xu0, xu1, xu2, xu3]) := hb_.row hx_
      have HQx : Hid (FQ G w xu0 xu1 xu2 xu3 xq) := hb_.ok hx_
      have HEx := Lib.hid hx_; clear hx_ hkl_ hb_
      have HZx : Hid (Fz xq 3) := HZ3.out _ (List.mem_of_getElem? HEx.out)
      have f4_0 : decide (k < n2) = false := decide_eq_false (by omega)
      have f4_1 : decide ((k : Int) < (n2 : Int)) = false := decide_eq_false (by omega)
      have f4_i : ¬ (k : Int) < (n2 : Int) := by omega
      have ys_xu0 := TQ.st (HQx.out.keep (M.out.2)); have st_xu0 := ys_xu0.1; have st_xu1 := ys_xu0.2.1; have st_xu2 := ys_xu0.2.2.1; have st_xu3 := ys_xu0.2.2.2; clear ys_xu0
      have yr0 := (HRx.out.keep (M.out.2)).c5; have r0_0 := yr0.1; have r0_1 := yr0.2.1; have r0_2 := yr0.2.2.1; have r0_3 := yr0.2.2.2.1; have r0_4 := yr0.2.2.2.2; clear yr0
      go_upto_region 9 with fail
      clear st_xu0 st_xu1 st_xu2 st_xu3 r0_0 r0_1 r0_2 r0_3 r0_4
      obtain ⟨w5, hv⟩ : ∃ w_ : World, w_ = (w4.alloc (.cells #[.int .i64 xn, xu0, xu1, xu2, xu3] 48)) := ⟨_, rfl⟩
      rw [← hv]
      have ow0_ : w.heap.size ≤ w4.heap.size := ((M.out.2)).size
      have no_b0 := OwV.no (M.out.1)
      replace M := Lib.hid (And.intro (hv ▸ bx1 w4 48 #[.int .i64 xn, xu0, xu1, xu2, xu3]) (Goes.go M.out (hv ▸ below_alloc _ _ : Below w4.heap.size w4 w5)))
      clear hv
      have y0 := (M.out.1).d5; have p0_0 := y0.1; have p0_1 := y0.2.1; have p0_2 := y0.2.2.1; have p0_3 := y0.2.2.2.1; have p0_4 := y0.2.2.2.2; clear y0
      have z0 : w4.heap.size < w5.heap.size := (M.out.1).lt
      go_upto_region 7 with (at_builtin; go_must (refine wpList_pushV rfl _ _ elemLy rfl w5 (M.out.2.1) HGL.out (⟨xn, xu0, xu1, xu2, xu3, xq⟩ : LC) (HQx.out.keep (M.out.2.2)) rfl rfl rfl rfl (by rfl) (by omega) (by omega) (M.out.2.2).size ?_; intro vv_47 w6 ho_ hg_))
      clear p0_0 p0_1 p0_2 p0_3 p0_4 z0
      replace M := Lib.hid (And.intro ho_ (below_grown (M.out.2.2) (M.out.2.1).own (Nat.le_refl _) (M.out.2.2).size hg_))
      clear ho_ hg_
      go_wp2_with fail
      go_roundw
      case rel => exact ⟨(k + 1), (gl ++ [(⟨xn, xu0, xu1, xu2, xu3, xq⟩ : LC)]), vv_47, rfl, by go_num, (by show _ ≤ _; omega), (Lib.hid (by rw [List.length_append]; show _ + 1 = _; rw [HGL.out])), (Lib.hid (le_next HEx.out HLE.out rfl Rat.le_refl)), (Lib.hid (HZg.out.app (by show Fz xq 8; exact (HZx.out.mono (by omega))))), Lib.hid (And.intro (M.out.1) (M.out.2))⟩
      case measure => simp [RowKit.intOf] <;> omega
    ·
      have f1_0 : decide (k < n) = false := decide_eq_false (by omega)
      have f1_1 : decide ((k : Int) < (n : Int)) = false := decide_eq_false (by omega)
      have f1_i : ¬ (k : Int) < (n : Int) := by omega
      have hall_ : leL (l.map LC.ly) (gl.map LC.ly) := by have h_ := HLE.out; rw [List.take_of_length_le (by rw [HL.out.len]; omega)] at h_; exact h_
      have HALL := Lib.hid hall_
      have hg3_ := le_okC HOK.out hall_
      have HOKg := Lib.hid hg3_.1
      have HSNg : Hid (sumN (gl.map LC.ly) = N0) := by show _ = _; rw [hg3_.2.1]; exact HN0.out
      have hgl_ : gl.length = n := by rw [hg3_.2.2]; exact HL.out.len
      clear hall_ hg3_
      obtain ⟨ag, cg, hvg_, hrd_⟩ := OwV.rdl (M.out.1) hgl_
      subst hvg_
      replace M := Lib.hid (And.intro hrd_ (M.out.2))
      clear hrd_ hgl_
      go_wp2_with fail
      refine (draw_err (G := G) (l := l) (er := er1) (rl := rl) (am0 := am) (Nat.le_trans hG (M.out.2).size) (HC0.out.keep (M.out.2)) HOK.out HZ.out (by rw [HN0.out]; exact HE1.out) HV.out).mono ?_
      rintro e w5 ⟨rfl, hb⟩
      replace M := Lib.hid (Goes.go M.out hb)
      clear hb
      have en1_er1 : (er1 == 0) = false := beq_false_of_ne HV.out
      have en2_er1 : (er1 != 0) = true := bne_iff_ne.2 HV.out
      have en3_er1 : ¬ er1 = 0 := HV.out
      go_upto_region 13 with fail
      obtain ⟨w6, hv⟩ : ∃ w_ : World, w_ = (w5.alloc (.cells #[.int .i64 0, .slice none 0 0, .int .i64 0, .slice none 0 0] 29)) := ⟨_, rfl⟩
      rw [← hv]
      have ow0_ : w.heap.size ≤ w5.heap.size := ((M.out.2)).size
      replace M := Lib.hid (And.intro (hv ▸ bx1 w5 29 #[.int .i64 0, .slice none 0 0, .int .i64 0, .slice none 0 0]) (Goes.go M.out (hv ▸ below_alloc _ _ : Below w5.heap.size w5 w6)))
      clear hv
      go_wp2_with fail
      refine (draw_err (G := G) (l := gl) (er := er1) (rl := rl) (am0 := am) (Nat.le_trans hG (M.out.2.2).size) (M.out.2.1) HOKg.out (HZg.out.mono (by omega)) (by rw [HSNg.out]; exact HE1.out) HV.out).mono ?_
      rintro e w7 ⟨rfl, hb⟩
      replace M := Lib.hid (Goes.go M.out hb)
      clear hb
      go_upto_region 14 with fail
      obtain ⟨w8, hv⟩ : ∃ w_ : World, w_ = (w7.alloc (.cells #[.int .i64 0, .slice none 0 0, .int .i64 0, .slice none 0 0] 29)) := ⟨_, rfl⟩
      rw [← hv]
      have ow1_ : w5.heap.size < w7.heap.size := ((M.out.1)).lt
      replace M := Lib.hid (And.intro (hv ▸ bx1 w7 29 #[.int .i64 0, .slice none 0 0, .int .i64 0, .slice none 0 0]) (Goes.go M.out (hv ▸ below_alloc _ _ : Below w7.heap.size w7 w8)))
      clear hv
      go_wp2_with fail
      replace M := Lib.hid (And.intro (M.out.2.2.1) (M.out.2.2.2))
      go_loopw [19] (fun i19 wr => ∃ (k2 : Nat), i19 = .int .i64 (k2 : Int) ∧ Hid (k2 ≤ 0) ∧ Hid (RdC G wr ag n cg gl ∧ Below w.heap.size w wr)) (fun i19 _ => 0 - (RowKit.intOf i19).toNat)
      case atStart =>
        exact ⟨0, rfl, (by show _ ≤ _; omega), Lib.hid (And.intro (M.out.1) (M.out.2))⟩
      case round =>
        obtain ⟨w9, rfl⟩ : ∃ x, x = wr := ⟨_, rfl⟩
        clear M
        obtain ⟨k2, rfl, hk2, M⟩ := hrel
        have hk2 := hk2.out
        obtain rfl : k2 = 0 := by omega
        go_wp2_with fail
        go_ret
        exact ⟨rfl, (M.out.2)⟩
set_option maxRecDepth 100000 in
set_option maxHeartbeats 4000000 in
theorem more_ok {ls : List LR} {a : Option Addr} {n c : Nat} {w : World} (h : RdR w.heap.size w a n c ls) (_hn0 : n ≤ 9223372036854775807) {rl am : Int} {us : List U16} {a2 : Option Addr} {n2 c2 : Nat} (h2 : RdU w.heap.size w a2 n2 c2 us) (_hn2 : n2 ≤ 9223372036854775807) (hf : fewL ls = true) (_h20 : n ≤ 20) (hr : rightL ls = true) (hv : drErr rl am (sumN ((ls.map toC).map LC.ly)) = 0)  :
    Calls Try.prog 5 #[.slice a n c, .int .i64 rl, .int .i64 am, .slice a2 n2 c2] w fun e w' => e = .returned (.bool true) ∧ Below w.heap.size w w' := by
  obtain ⟨G, hG0⟩ : ∃ G : Nat, G = w.heap.size := ⟨_, rfl⟩
  have hG : G ≤ w.heap.size := by omega
  have HL0 : Hid (RdR G w a n c ls) := by show RdR _ _ _ _ _ _; rw [hG0]; exact h
  have hs_ := few_all hf
  have hr_ := rightL_ok hr
  obtain ⟨l, hl⟩ : ∃ l, l = ls.map toC := ⟨_, rfl⟩
  have HL : Hid (RdC G w a n c l) := by show RdC _ _ _ _ _ _; rw [hG0, hl]; exact h.toC hr_.1
  have HOK : Hid (OkC l) := by show OkC _; rw [hl]; exact hr_.2
  have HZ3 : Hid (FzL l 3) := by show FzL _ _; rw [hl]; exact fz_toC h hr_.1 hs_.1
  have HZ : Hid (FzL l 100000000) := Lib.hid (HZ3.out.mono (by omega))
  have HSM := Lib.hid hs_.1
  have hn : n ≤ 202 := by have h_ := HL0.out.len; omega
  obtain ⟨N0, hN0⟩ : ∃ N, sumN (l.map LC.ly) = N := ⟨_, rfl⟩
  have hN1 : N0 ≤ 1099511627776 := by have h_ := HOK.out.sum; omega
  have HN0 := Lib.hid hN0
  have HF := Lib.hid hf
  have HR := Lib.hid hr
  have HU : Hid (RdU G w a2 n2 c2 us) := by show RdU _ _ _ _ _ _; rw [hG0]; exact h2
  rw [← hl, hN0] at hv
  obtain ⟨hr0, hr1, ha, ha1, haN⟩ := drErr_ok hv
  clear hv
  clear hN0 hf hr hs_ hr_ h2
  have ek0 : decide (20 < (n : Int)) = false := decide_eq_false (by omega)
  have ek1 : decide (20 < n) = false := decide_eq_false (by omega)
  have ek2 : ¬ 20 < (n : Int) := by omega
  have HR0 : Hid (RdR G w a n c ls) := HL0.out
  have HC0 : Hid (RdC G w a n c l) := HL.out
  clear h
  have M : Hid (Below w.heap.size w w) := Below.refl _ _
  go_enter Try.func5, Try.ntmps5
  go_wp2_with fail
  refine (stSmall (G := G) (Nat.le_trans hG M.out.size)).mono ?_
  rintro e w1 ⟨rfl, hb⟩
  replace M := Lib.hid (Goes.go M.out hb)
  clear hb
  go_wp2_with fail
  refine (stFew_ok (G := G) (l := ls) (b_ := true) (HR0.out.keep M.out) (by omega) HF.out).mono ?_
  rintro e w2 ⟨rfl, hb⟩
  replace M := Lib.hid (Goes.go M.out hb)
  clear hb
  go_wp2_with fail
  refine (stRight_raw (G := G) (l := ls) (b_ := true) (HR0.out.keep M.out) (by omega) HSM.out HR.out).mono ?_
  rintro e w3 ⟨rfl, hb⟩
  replace M := Lib.hid (Goes.go M.out hb)
  clear hb
  go_wp2_with fail
  go_loopw [10, 11] (fun i10 i11 wr => ∃ (k : Nat) (gl : List LC) (vg : Value), vg = i10 ∧ i11 = .int .i64 (k : Int) ∧ Hid (k ≤ n) ∧ Hid (gl.length = k) ∧ Hid (leL ((l.take k).map LC.ly) (gl.map LC.ly)) ∧ Hid (FzL gl 8) ∧ Hid (OwVC G w.heap.size wr vg gl ∧ Below w.heap.size w wr)) (fun i10 i11 _ => n - (RowKit.intOf i11).toNat)
  case atStart =>
    exact ⟨0, [], (.slice none 0 0), rfl, rfl, (by show _ ≤ _; omega), (Lib.hid rfl), (Lib.hid trivial), (Lib.hid (fun y_ hy_ => by simp at hy_)), Lib.hid (And.intro (OwV.nil _ hG) M.out)⟩
  case round =>
    obtain ⟨w4, rfl⟩ : ∃ x, x = wr := ⟨_, rfl⟩
    clear M
    obtain ⟨k, gl, vg, rfl, rfl, hk, HGL, HLE, HZg, M⟩ := hrel
    have hk := hk.out
    have hgk : gl.length = k := HGL.out
    clear hgk
    have hw_ : (k < n ∧ k < n2) ∨ (k < n ∧ n2 ≤ k) ∨ n ≤ k := by omega
    rcases hw_ with hw_ | hw_ | hlt
    ·
      have hlt := hw_.1; have hlt2 := hw_.2; clear hw_
      have f1_0 : decide (k < n) = true := decide_eq_true (by omega)
      have f1_1 : decide ((k : Int) < (n : Int)) = true := decide_eq_true (by omega)
      have f1_i : (k : Int) < (n : Int) := by omega
      obtain ⟨b, off, rfl, hb_⟩ := RdL.ptr HC0.out (by omega : 0 < n)
      have hkl_ : k < l.length := by rw [HC0.out.len]; exact hlt
      obtain ⟨x_, hx_⟩ : ∃ x, l[k]? = some x := ⟨l[k], List.getElem?_eq_getElem hkl_⟩
      obtain ⟨xn, xu0, xu1, xu2, xu3, xq⟩ := x_
      have HRx : Hid (Row w b (off + k * 5) [.int .i64 xn, xu0, xu1, xu2, xu3]) := hb_.row hx_
      have HQx : Hid (FQ G w xu0 xu1 xu2 xu3 xq) := hb_.ok hx_
      have HEx := Lib.hid hx_; clear hx_ hkl_ hb_
      have HZx : Hid (Fz xq 3) := HZ3.out _ (List.mem_of_getElem? HEx.out)
      have f4_0 : decide (k < n2) = true := decide_eq_true (by omega)
      have f4_1 : decide ((k : Int) < (n2 : Int)) = true := decide_eq_true (by omega)
      have f4_i : (k : Int) < (n2 : Int) := by omega
      obtain ⟨b2, off2, rfl, hb_⟩ := RdL.ptr HU.out (by omega : 0 < n2)
      have hkl_ : k < us.length := by rw [HU.out.len]; exact hlt2
      obtain ⟨u_, hu_⟩ : ∃ x, us[k]? = some x := ⟨us[k], List.getElem?_eq_getElem hkl_⟩
      obtain ⟨uv⟩ := u_
      have HRu : Hid (Row w b2 (off2 + k * 1) [.int .u16 uv]) := hb_.row hu_
      have hub_ : 0 ≤ uv ∧ uv ≤ 65535 := hb_.ok hu_
      have hu0 := hub_.1
      have hu1 := hub_.2
      have hw1u : IntKind.i64.wrap uv = uv := IntWalk.i64_in _ (by omega)
      clear hub_ hu_ hkl_ hb_
      rw [Nat.mul_one] at HRu
      have ys_xu0 := TQ.st (HQx.out.keep (M.out.2)); have st_xu0 := ys_xu0.1; have st_xu1 := ys_xu0.2.1; have st_xu2 := ys_xu0.2.2.1; have st_xu3 := ys_xu0.2.2.2; clear ys_xu0
      have yr0 := (HRx.out.keep (M.out.2)).c5; have r0_0 := yr0.1; have r0_1 := yr0.2.1; have r0_2 := yr0.2.2.1; have r0_3 := yr0.2.2.2.1; have r0_4 := yr0.2.2.2.2; clear yr0
      go_upto_region 9 with fail
      clear st_xu0 st_xu1 st_xu2 st_xu3 r0_0 r0_1 r0_2 r0_3 r0_4
      obtain ⟨w5, hv⟩ : ∃ w_ : World, w_ = (w4.alloc (.cells #[.int .i64 xn, xu0, xu1, xu2, xu3] 48)) := ⟨_, rfl⟩
      rw [← hv]
      have ow0_ : w.heap.size ≤ w4.heap.size := ((M.out.2)).size
      have no_b0 := OwV.no (M.out.1)
      replace M := Lib.hid (And.intro (hv ▸ bx1 w4 48 #[.int .i64 xn, xu0, xu1, xu2, xu3]) (Goes.go M.out (hv ▸ below_alloc _ _ : Below w4.heap.size w4 w5)))
      clear hv
      go_upto_region 10 with fail
      go_cut [] (fun wx => ∃ (x_1 : Value), ∃ (x_2 : Value), ∃ (x_3 : Value), ∃ (x_4 : Value), ∃ (q5 : Rat), ∃ (x_7 : Value), ∃ (x_8 : Value), ∃ (x_9 : Value), ∃ (x_10 : Value), ∃ (q11 : Rat), Hid (q5 = (uv : Rat)) ∧ Hid (q11 = (xq + q5)) ∧ Hid (Fz q5 4) ∧ Hid (Fz q11 8) ∧ Hid (FQ G wx x_7 x_8 x_9 x_10 q11 ∧ FQ G wx x_1 x_2 x_3 x_4 q5 ∧ OwVC G w.heap.size wx vg gl ∧ Bx wx w4.heap.size 48 #[.int .i64 xn, x_7, x_8, x_9, x_10] ∧ Below w.heap.size w wx))
      case first =>
        obtain ⟨w6, hv⟩ : ∃ w_ : World, w_ = w5.drew := ⟨_, rfl⟩
        replace M := Lib.hid (Goes.go M.out (hv ▸ below_drew _ : Below w5.heap.size w5 w6))
        refine wp_region_held_drew (S := (fun w' => w'.cell? ⟨b2, off2 + k, none⟩ = some (.int .u16 uv))) (by kernel_rfl) (by rw [← hv]; exact (HRu.out.keep (M.out.2.2)).2 0 _ rfl) (fun hH13 => ?_)
        rw [← hv] at hH13 ⊢
        clear hv
        refine tk at0 ?_
        refine tk at2 ?_
        refine tk at3 ?_
        refine tk at4 ?_
        refine tk at5 ?_
        refine tk at6 ?_
        refine wpAnyH_ready (rs := [1, 7]) (by kernel_rfl) (by simp) ?_
        refine AllReadyH.cons at1 (fun K hK => ?_) ?_
        ·
          have y0 := (M.out.1).d5; have p0_0 := y0.1; have p0_1 := y0.2.1; have p0_2 := y0.2.2.1; have p0_3 := y0.2.2.2.1; have p0_4 := y0.2.2.2.2; clear y0
          go_simp
          clear p0_0 p0_1 p0_2 p0_3 p0_4
          refine hK.out _ _ ((HRu.out.keep (M.out.2.2)).2 0 _ rfl) (fun hH14 => ?_)
          clear hK K hH13
          (try simp only [Act.put, List.setIfInBounds_toArray, List.set_cons_zero, List.set_cons_succ])
          refine wpAnyH_ready (rs := [7]) (by kernel_rfl) (by simp) ?_
          refine AllReadyH.cons at7 (fun K hK => ?_) AllReadyH.nil
          go_simp
          obtain ⟨q19, eq19⟩ : ∃ v_ : Rat, v_ = (uv : Rat) := ⟨_, rfl⟩
          refine (fqInt (G := G) (x := uv) (by omega)).mono ?_
          rintro e w7 ⟨x_15, x_16, x_17, x_18, rfl, hd20, hb⟩
          rw [← eq19] at hd20
          have Sq19 : Hid (Fz q19 4) := by show Fz q19 4; rw [eq19]; exact (Fz.int64 (by omega))
          have Eq19 := Lib.hid eq19; clear eq19
          replace M := Lib.hid (And.intro hd20 (Goes.go M.out hb))
          clear hb hd20
          (try go_wp2_with fail)
          refine hK.out _ _ ((HRu.out.keep (M.out.2.2.2)).2 0 _ rfl) (fun hH21 => ?_)
          clear hK K hH14
          (try simp only [Act.put, List.setIfInBounds_toArray, List.set_cons_zero, List.set_cons_succ])
          refine wpAnyH_ready (rs := [8]) (by kernel_rfl) (by simp) ?_
          refine AllReadyH.cons at8 (fun K hK => ?_) AllReadyH.nil
          go_simp
          obtain ⟨q26, eq26⟩ : ∃ v_ : Rat, v_ = (xq + q19) := ⟨_, rfl⟩
          refine (fqAdd (G := G) (q := xq) (r := q19) (HQx.out.keep (M.out.2.2.2)) (M.out.1) (Fz.mono HZx.out (by omega)) (Fz.mono Sq19.out (by omega))).mono ?_
          rintro e w8 ⟨x_22, x_23, x_24, x_25, rfl, hd27, hb⟩
          rw [← eq26] at hd27
          have Sq26 : Hid (Fz q26 8) := by show Fz q26 8; rw [eq26]; exact (Fz.add HZx.out Sq19.out)
          have Eq26 := Lib.hid eq26; clear eq26
          replace M := Lib.hid (And.intro hd27 (Goes.go M.out hb))
          clear hb hd27
          (try go_wp2_with fail)
          refine hK.out _ _ ((HRu.out.keep (M.out.2.2.2.2)).2 0 _ rfl) (fun hH28 => ?_)
          clear hK K hH21
          (try simp only [Act.put, List.setIfInBounds_toArray, List.set_cons_zero, List.set_cons_succ])
          refine tk at9 ?_
          refine tk at10 ?_
          refine tk at11 ?_
          refine tk at12 ?_
          refine wpAnyH_ready (rs := [13]) (by kernel_rfl) (by simp) ?_
          refine AllReadyH.cons at13 (fun K hK => ?_) AllReadyH.nil
          have y0 := (M.out.2.2.1).c5; have p0_0 := y0.1; have q0_0 := y0.2.1; have p0_1 := y0.2.2.1; have q0_1 := y0.2.2.2.1; have p0_2 := y0.2.2.2.2.1; have q0_2 := y0.2.2.2.2.2.1; have p0_3 := y0.2.2.2.2.2.2.1; have q0_3 := y0.2.2.2.2.2.2.2.1; have p0_4 := y0.2.2.2.2.2.2.2.2.1; have q0_4 := y0.2.2.2.2.2.2.2.2.2; clear y0
          have ys_x_22 := TQ.st (M.out.1); have st_x_22 := ys_x_22.1; have st_x_23 := ys_x_22.2.1; have st_x_24 := ys_x_22.2.2.1; have st_x_25 := ys_x_22.2.2.2; clear ys_x_22
          go_simp
          clear p0_0 q0_0 p0_1 q0_1 p0_2 q0_2 p0_3 q0_3 p0_4 q0_4 st_x_22 st_x_23 st_x_24 st_x_25
          obtain ⟨w9, hv⟩ : ∃ w_ : World, w_ = ((((w8.setCell ⟨w4.heap.size, 1, none⟩ (x_22)).setCell ⟨w4.heap.size, 2, none⟩ (x_23)).setCell ⟨w4.heap.size, 3, none⟩ (x_24)).setCell ⟨w4.heap.size, 4, none⟩ (x_25)) := ⟨_, rfl⟩
          rw [← hv]
          have og : w8.grownBy w9 (some w4.heap.size) := by rw [hv]; exact (only_setCell (only_setCell (only_setCell (only_setCell (World.grownBy.refl _ _) _) _) _) _)
          have hz : w.heap.size ≤ w4.heap.size := by omega
          have hk : Bx w9 w4.heap.size 48 #[.int .i64 xn, x_22, x_23, x_24, x_25] := by rw [hv]; exact (((((M.out.2.2.1).set 1 _).set 2 _).set 3 _).set 4 _)
          have hbw : Below w.heap.size w w9 := by rw [hv]; exact (Below.setCell (Below.setCell (Below.setCell (Below.setCell (M.out.2.2.2.2) (by omega) _) (by omega) _) (by omega) _) (by omega) _)
          replace M := Lib.hid (And.intro ((M.out.1).far (M.out.2.2.1) (by rfl) (by omega) og) (And.intro ((M.out.2.1).far (M.out.2.2.1) (by rfl) (by omega) og) (And.intro hk (And.intro (OwV.far_no (M.out.2.2.2.1) (M.out.2.2.1) no_b0 (by rfl) (by omega) og) hbw))))
          clear hk hbw og hv hz
          refine hK.out _ _ ((HRu.out.keep (M.out.2.2.2.2)).2 0 _ rfl) (fun hH29 => ?_)
          clear hK K hH28
          (try simp only [Act.put, List.setIfInBounds_toArray, List.set_cons_zero, List.set_cons_succ])
          refine wpAnyH_done (by kernel_rfl) ?_ _
          clear hH29
          go_wp2_with fail
          go_meet
          exact ⟨x_15, x_16, x_17, x_18, q19, x_22, x_23, x_24, x_25, q26, Eq19, Eq26, Sq19, Sq26, (M.out.1), (M.out.2.1), (M.out.2.2.2.1), (M.out.2.2.1), (M.out.2.2.2.2)⟩
        refine AllReadyH.cons at7 (fun K hK => ?_) AllReadyH.nil
        go_simp
        obtain ⟨q34, eq34⟩ : ∃ v_ : Rat, v_ = (uv : Rat) := ⟨_, rfl⟩
        refine (fqInt (G := G) (x := uv) (by omega)).mono ?_
        rintro e w7 ⟨x_30, x_31, x_32, x_33, rfl, hd35, hb⟩
        rw [← eq34] at hd35
        have Sq34 : Hid (Fz q34 4) := by show Fz q34 4; rw [eq34]; exact (Fz.int64 (by omega))
        have Eq34 := Lib.hid eq34; clear eq34
        replace M := Lib.hid (And.intro hd35 (Goes.go M.out hb))
        clear hb hd35
        (try go_wp2_with fail)
        refine hK.out _ _ ((HRu.out.keep (M.out.2.2.2)).2 0 _ rfl) (fun hH36 => ?_)
        clear hK K hH13
        (try simp only [Act.put, List.setIfInBounds_toArray, List.set_cons_zero, List.set_cons_succ])
        refine wpAnyH_ready (rs := [1]) (by kernel_rfl) (by simp) ?_
        refine AllReadyH.cons at1 (fun K hK => ?_) AllReadyH.nil
        have y0 := (M.out.2.1).d5; have p0_0 := y0.1; have p0_1 := y0.2.1; have p0_2 := y0.2.2.1; have p0_3 := y0.2.2.2.1; have p0_4 := y0.2.2.2.2; clear y0
        go_simp
        clear p0_0 p0_1 p0_2 p0_3 p0_4
        refine hK.out _ _ ((HRu.out.keep (M.out.2.2.2)).2 0 _ rfl) (fun hH37 => ?_)
        clear hK K hH36
        (try simp only [Act.put, List.setIfInBounds_toArray, List.set_cons_zero, List.set_cons_succ])
        refine wpAnyH_ready (rs := [8]) (by kernel_rfl) (by simp) ?_
        refine AllReadyH.cons at8 (fun K hK => ?_) AllReadyH.nil
        go_simp
        obtain ⟨q42, eq42⟩ : ∃ v_ : Rat, v_ = (xq + q34) := ⟨_, rfl⟩
        refine (fqAdd (G := G) (q := xq) (r := q34) (HQx.out.keep (M.out.2.2.2)) (M.out.1) (Fz.mono HZx.out (by omega)) (Fz.mono Sq34.out (by omega))).mono ?_
        rintro e w8 ⟨x_38, x_39, x_40, x_41, rfl, hd43, hb⟩
        rw [← eq42] at hd43
        have Sq42 : Hid (Fz q42 8) := by show Fz q42 8; rw [eq42]; exact (Fz.add HZx.out Sq34.out)
        have Eq42 := Lib.hid eq42; clear eq42
        replace M := Lib.hid (And.intro hd43 (Goes.go M.out hb))
        clear hb hd43
        (try go_wp2_with fail)
        refine hK.out _ _ ((HRu.out.keep (M.out.2.2.2.2)).2 0 _ rfl) (fun hH44 => ?_)
        clear hK K hH37
        (try simp only [Act.put, List.setIfInBounds_toArray, List.set_cons_zero, List.set_cons_succ])
        refine tk at9 ?_
        refine tk at10 ?_
        refine tk at11 ?_
        refine tk at12 ?_
        refine wpAnyH_ready (rs := [13]) (by kernel_rfl) (by simp) ?_
        refine AllReadyH.cons at13 (fun K hK => ?_) AllReadyH.nil
        have y0 := (M.out.2.2.1).c5; have p0_0 := y0.1; have q0_0 := y0.2.1; have p0_1 := y0.2.2.1; have q0_1 := y0.2.2.2.1; have p0_2 := y0.2.2.2.2.1; have q0_2 := y0.2.2.2.2.2.1; have p0_3 := y0.2.2.2.2.2.2.1; have q0_3 := y0.2.2.2.2.2.2.2.1; have p0_4 := y0.2.2.2.2.2.2.2.2.1; have q0_4 := y0.2.2.2.2.2.2.2.2.2; clear y0
        have ys_x_38 := TQ.st (M.out.1); have st_x_38 := ys_x_38.1; have st_x_39 := ys_x_38.2.1; have st_x_40 := ys_x_38.2.2.1; have st_x_41 := ys_x_38.2.2.2; clear ys_x_38
        go_simp
        clear p0_0 q0_0 p0_1 q0_1 p0_2 q0_2 p0_3 q0_3 p0_4 q0_4 st_x_38 st_x_39 st_x_40 st_x_41
        obtain ⟨w9, hv⟩ : ∃ w_ : World, w_ = ((((w8.setCell ⟨w4.heap.size, 1, none⟩ (x_38)).setCell ⟨w4.heap.size, 2, none⟩ (x_39)).setCell ⟨w4.heap.size, 3, none⟩ (x_40)).setCell ⟨w4.heap.size, 4, none⟩ (x_41)) := ⟨_, rfl⟩
        rw [← hv]
        have og : w8.grownBy w9 (some w4.heap.size) := by rw [hv]; exact (only_setCell (only_setCell (only_setCell (only_setCell (World.grownBy.refl _ _) _) _) _) _)
        have hz : w.heap.size ≤ w4.heap.size := by omega
        have hk : Bx w9 w4.heap.size 48 #[.int .i64 xn, x_38, x_39, x_40, x_41] := by rw [hv]; exact (((((M.out.2.2.1).set 1 _).set 2 _).set 3 _).set 4 _)
        have hbw : Below w.heap.size w w9 := by rw [hv]; exact (Below.setCell (Below.setCell (Below.setCell (Below.setCell (M.out.2.2.2.2) (by omega) _) (by omega) _) (by omega) _) (by omega) _)
        replace M := Lib.hid (And.intro ((M.out.1).far (M.out.2.2.1) (by rfl) (by omega) og) (And.intro ((M.out.2.1).far (M.out.2.2.1) (by rfl) (by omega) og) (And.intro hk (And.intro (OwV.far_no (M.out.2.2.2.1) (M.out.2.2.1) no_b0 (by rfl) (by omega) og) hbw))))
        clear hk hbw og hv hz
        refine hK.out _ _ ((HRu.out.keep (M.out.2.2.2.2)).2 0 _ rfl) (fun hH45 => ?_)
        clear hK K hH44
        (try simp only [Act.put, List.setIfInBounds_toArray, List.set_cons_zero, List.set_cons_succ])
        refine wpAnyH_done (by kernel_rfl) ?_ _
        clear hH45
        go_wp2_with fail
        go_meet
        exact ⟨x_30, x_31, x_32, x_33, q34, x_38, x_39, x_40, x_41, q42, Eq34, Eq42, Sq34, Sq42, (M.out.1), (M.out.2.1), (M.out.2.2.2.1), (M.out.2.2.1), (M.out.2.2.2.2)⟩
      case rest =>
        obtain ⟨x_1, x_2, x_3, x_4, q5, x_7, x_8, x_9, x_10, q11, Eq5, Eq11, Sq5, Sq11, M⟩ := hcut
        obtain ⟨w6, rfl⟩ : ∃ w_ : World, w_ = wc := ⟨_, rfl⟩
        clear hw1u
        have y0 := (M.out.2.2.2.1).d5; have p0_0 := y0.1; have p0_1 := y0.2.1; have p0_2 := y0.2.2.1; have p0_3 := y0.2.2.2.1; have p0_4 := y0.2.2.2.2; clear y0
        have z0 : w4.heap.size < w6.heap.size := (M.out.2.2.2.1).lt
        go_upto_region 7 with (at_builtin; go_must (refine wpList_pushV rfl _ _ elemLy rfl w6 (M.out.2.2.1) HGL.out (⟨xn, x_7, x_8, x_9, x_10, q11⟩ : LC) (M.out.1) rfl rfl rfl rfl (by rfl) (by omega) (by omega) (M.out.2.2.2.2).size ?_; intro vv_46 w7 ho_ hg_))
        clear p0_0 p0_1 p0_2 p0_3 p0_4 z0
        replace M := Lib.hid (And.intro ho_ (And.intro ((M.out.1).grown (M.out.2.2.1).own (by rfl) (M.out.2.2.1).leG hg_) (And.intro ((M.out.2.1).grown (M.out.2.2.1).own (by rfl) (M.out.2.2.1).leG hg_) (below_grown (M.out.2.2.2.2) (M.out.2.2.1).own (Nat.le_refl _) (M.out.2.2.2.2).size hg_))))
        clear ho_ hg_
        go_wp2_with fail
        go_roundw
        case rel => exact ⟨(k + 1), (gl ++ [(⟨xn, x_7, x_8, x_9, x_10, q11⟩ : LC)]), vv_46, rfl, by go_num, (by show _ ≤ _; omega), (Lib.hid (by rw [List.length_append]; show _ + 1 = _; rw [HGL.out])), (Lib.hid (le_next HEx.out HLE.out rfl (by show xq ≤ q11; rw [Eq11.out, Eq5.out]; exact add_nn hu0))), (Lib.hid (HZg.out.app (by show Fz q11 8; exact (Sq11.out.mono (by omega))))), Lib.hid (And.intro (M.out.1) (M.out.2.2.2))⟩
        case measure => simp [RowKit.intOf] <;> omega
    ·
      have hlt := hw_.1; have hlt2 := hw_.2; clear hw_
      have f1_0 : decide (k < n) = true := decide_eq_true (by omega)
      have f1_1 : decide ((k : Int) < (n : Int)) = true := decide_eq_true (by omega)
      have f1_i : (k : Int) < (n : Int) := by omega
      obtain ⟨b, off, rfl, hb_⟩ := RdL.ptr HC0.out (by omega : 0 < n)
      have hkl_ : k < l.length := by rw [HC0.out.len]; exact hlt
      obtain ⟨x_, hx_⟩ : ∃ x, l[k]? = some x := ⟨l[k], List.getElem?_eq_getElem hkl_⟩
      obtain ⟨xn, xu0, xu1, xu2, xu3, xq⟩ := x_
      have HRx : Hid (Row w b (off + k * 5) [.int .i64 xn, xu0, xu1, xu2, xu3]) := hb_.row hx_
      have HQx : Hid (FQ G w xu0 xu1 xu2 xu3 xq) := hb_.ok hx_
      have HEx := Lib.hid hx_; clear hx_ hkl_ hb_
      have HZx : Hid (Fz xq 3) := HZ3.out _ (List.mem_of_getElem? HEx.out)
      have f4_0 : decide (k < n2) = false := decide_eq_false (by omega)
      have f4_1 : decide ((k : Int) < (n2 : Int)) = false := decide_eq_false (by omega)
      have f4_i : ¬ (k : Int) < (n2 : Int) := by omega
      have ys_xu0 := TQ.st (HQx.out.keep (M.out.2)); have st_xu0 := ys_xu0.1; have st_xu1 := ys_xu0.2.1; have st_xu2 := ys_xu0.2.2.1; have st_xu3 := ys_xu0.2.2.2; clear ys_xu0
      have yr0 := (HRx.out.keep (M.out.2)).c5; have r0_0 := yr0.1; have r0_1 := yr0.2.1; have r0_2 := yr0.2.2.1; have r0_3 := yr0.2.2.2.1; have r0_4 := yr0.2.2.2.2; clear yr0
      go_upto_region 9 with fail
      clear st_xu0 st_xu1 st_xu2 st_xu3 r0_0 r0_1 r0_2 r0_3 r0_4
      obtain ⟨w5, hv⟩ : ∃ w_ : World, w_ = (w4.alloc (.cells #[.int .i64 xn, xu0, xu1, xu2, xu3] 48)) := ⟨_, rfl⟩
      rw [← hv]
      have ow0_ : w.heap.size ≤ w4.heap.size := ((M.out.2)).size
      have no_b0 := OwV.no (M.out.1)
      replace M := Lib.hid (And.intro (hv ▸ bx1 w4 48 #[.int .i64 xn, xu0, xu1, xu2, xu3]) (Goes.go M.out (hv ▸ below_alloc _ _ : Below w4.heap.size w4 w5)))
      clear hv
      have y0 := (M.out.1).d5; have p0_0 := y0.1; have p0_1 := y0.2.1; have p0_2 := y0.2.2.1; have p0_3 := y0.2.2.2.1; have p0_4 := y0.2.2.2.2; clear y0
      have z0 : w4.heap.size < w5.heap.size := (M.out.1).lt
      go_upto_region 7 with (at_builtin; go_must (refine wpList_pushV rfl _ _ elemLy rfl w5 (M.out.2.1) HGL.out (⟨xn, xu0, xu1, xu2, xu3, xq⟩ : LC) (HQx.out.keep (M.out.2.2)) rfl rfl rfl rfl (by rfl) (by omega) (by omega) (M.out.2.2).size ?_; intro vv_47 w6 ho_ hg_))
      clear p0_0 p0_1 p0_2 p0_3 p0_4 z0
      replace M := Lib.hid (And.intro ho_ (below_grown (M.out.2.2) (M.out.2.1).own (Nat.le_refl _) (M.out.2.2).size hg_))
      clear ho_ hg_
      go_wp2_with fail
      go_roundw
      case rel => exact ⟨(k + 1), (gl ++ [(⟨xn, xu0, xu1, xu2, xu3, xq⟩ : LC)]), vv_47, rfl, by go_num, (by show _ ≤ _; omega), (Lib.hid (by rw [List.length_append]; show _ + 1 = _; rw [HGL.out])), (Lib.hid (le_next HEx.out HLE.out rfl Rat.le_refl)), (Lib.hid (HZg.out.app (by show Fz xq 8; exact (HZx.out.mono (by omega))))), Lib.hid (And.intro (M.out.1) (M.out.2))⟩
      case measure => simp [RowKit.intOf] <;> omega
    ·
      have f1_0 : decide (k < n) = false := decide_eq_false (by omega)
      have f1_1 : decide ((k : Int) < (n : Int)) = false := decide_eq_false (by omega)
      have f1_i : ¬ (k : Int) < (n : Int) := by omega
      have hall_ : leL (l.map LC.ly) (gl.map LC.ly) := by have h_ := HLE.out; rw [List.take_of_length_le (by rw [HL.out.len]; omega)] at h_; exact h_
      have HALL := Lib.hid hall_
      have hg3_ := le_okC HOK.out hall_
      have HOKg := Lib.hid hg3_.1
      have HSNg : Hid (sumN (gl.map LC.ly) = N0) := by show _ = _; rw [hg3_.2.1]; exact HN0.out
      have hgl_ : gl.length = n := by rw [hg3_.2.2]; exact HL.out.len
      clear hall_ hg3_
      obtain ⟨ag, cg, hvg_, hrd_⟩ := OwV.rdl (M.out.1) hgl_
      subst hvg_
      replace M := Lib.hid (And.intro hrd_ (M.out.2))
      clear hrd_ hgl_
      go_wp2_with fail
      obtain ⟨q56, eq56⟩ : ∃ v_ : Rat, v_ = ((drawR rl (l.map LC.ly) am).2) := ⟨_, rfl⟩
      refine (draw_ok (G := G) (l := l) (rl := rl) (am0 := am) (Nat.le_trans hG (M.out.2).size) (HC0.out.keep (M.out.2)) HOK.out HZ.out (by omega) (by omega) (by omega) (by rw [HN0.out]; exact haN)).mono ?_
      rintro e w5 ⟨a_48, n_49, c_50, l_51, x_52, x_53, x_54, x_55, rfl, hd57, hu58, hd59, hb⟩
      rw [← eq56] at hd59
      have Eq56 := Lib.hid eq56; clear eq56
      replace M := Lib.hid (And.intro hd57 (And.intro hd59 (Goes.go M.out hb)))
      clear hb hd57 hd59
      replace hu58 := Lib.hid hu58
      have hd_ := draw_left (N := 3) HOK.out HZ3.out ha (show am ≤ sumN (l.map LC.ly) by rw [HN0.out]; exact haN) hu58.out
      have HOKb := Lib.hid hd_.1; have HZb := Lib.hid hd_.2.1; have HZGb := Lib.hid hd_.2.2.1; have HSNb := Lib.hid hd_.2.2.2.1; have HSBb := Lib.hid hd_.2.2.2.2.1; have HGEb := Lib.hid hd_.2.2.2.2.2.1; have HLEb := Lib.hid hd_.2.2.2.2.2.2; clear hd_
      have hnb_ : n_49 ≤ 200 := by have h_ := HLEb.out; rw [(M.out.1).len, HL.out.len] at h_; omega
      have ys_x_52 := TQ.st (M.out.2.1); have st_x_52 := ys_x_52.1; have st_x_53 := ys_x_52.2.1; have st_x_54 := ys_x_52.2.2.1; have st_x_55 := ys_x_52.2.2.2; clear ys_x_52
      go_upto_region 13 with fail
      clear st_x_52 st_x_53 st_x_54 st_x_55
      obtain ⟨w6, hv⟩ : ∃ w_ : World, w_ = (w5.alloc (.cells #[x_52, x_53, x_54, x_55] 29)) := ⟨_, rfl⟩
      rw [← hv]
      have ow0_ : w.heap.size ≤ w5.heap.size := ((M.out.2.2.2)).size
      replace M := Lib.hid (And.intro (hv ▸ bx1 w5 29 #[x_52, x_53, x_54, x_55]) (Goes.go M.out (hv ▸ below_alloc _ _ : Below w5.heap.size w5 w6)))
      clear hv
      go_wp2_with fail
      obtain ⟨q68, eq68⟩ : ∃ v_ : Rat, v_ = ((drawR rl (gl.map LC.ly) am).2) := ⟨_, rfl⟩
      refine (draw_ok (G := G) (l := gl) (rl := rl) (am0 := am) (Nat.le_trans hG (M.out.2.2.2.2).size) (M.out.2.2.2.1) HOKg.out (HZg.out.mono (by omega)) (by omega) (by omega) (by omega) (by rw [HSNg.out]; exact haN)).mono ?_
      rintro e w7 ⟨a_60, n_61, c_62, l_63, x_64, x_65, x_66, x_67, rfl, hd69, hu70, hd71, hb⟩
      rw [← eq68] at hd71
      have Eq68 := Lib.hid eq68; clear eq68
      replace M := Lib.hid (And.intro hd69 (And.intro hd71 (Goes.go M.out hb)))
      clear hb hd69 hd71
      replace hu70 := Lib.hid hu70
      have hd_ := draw_left (N := 8) HOKg.out HZg.out ha (show am ≤ sumN (gl.map LC.ly) by rw [HSNg.out]; exact haN) hu70.out
      have HOKc := Lib.hid hd_.1; have HZc := Lib.hid hd_.2.1; have HZGc := Lib.hid hd_.2.2.1; have HSNc := Lib.hid hd_.2.2.2.1; have HSBc := Lib.hid hd_.2.2.2.2.1; have HGEc := Lib.hid hd_.2.2.2.2.2.1; have HLEc := Lib.hid hd_.2.2.2.2.2.2; clear hd_
      have hm_ := R_more (k := rl) HOK.out.ly HALL.out ha (show am ≤ sumN (l.map LC.ly) by rw [HN0.out]; exact haN)
      rw [← hu58.out, ← hu70.out] at hm_
      have HRES := Lib.hid hm_.1; have HGOT := Lib.hid hm_.2; clear hm_
      obtain rfl : n_49 = n_61 := by have h_ := leL_len HRES.out; rw [List.length_map, List.length_map, (M.out.2.2.2.1).len, (M.out.1).len] at h_; exact h_
      obtain ⟨k0, hk0⟩ : ∃ k, ordQ q56 q68 = k := ⟨_, rfl⟩
      have hk0n := ord_le (by rw [Eq56.out, Eq68.out]; exact HGOT.out) hk0
      have e8 : decide (0 < k0) = false := decide_eq_false (by omega)
      have e8i : ¬ 0 < k0 := by omega
      have HK0 := Lib.hid hk0; clear hk0
      have ys_x_64 := TQ.st (M.out.2.1); have st_x_64 := ys_x_64.1; have st_x_65 := ys_x_64.2.1; have st_x_66 := ys_x_64.2.2.1; have st_x_67 := ys_x_64.2.2.2; clear ys_x_64
      go_upto_region 14 with fail
      clear st_x_64 st_x_65 st_x_66 st_x_67
      obtain ⟨w8, hv⟩ : ∃ w_ : World, w_ = (w7.alloc (.cells #[x_64, x_65, x_66, x_67] 29)) := ⟨_, rfl⟩
      rw [← hv]
      have ow1_ : w5.heap.size < w7.heap.size := ((M.out.2.2.1)).lt
      replace M := Lib.hid (And.intro (hv ▸ bx1 w7 29 #[x_64, x_65, x_66, x_67]) (Goes.go M.out (hv ▸ below_alloc _ _ : Below w7.heap.size w7 w8)))
      clear hv
      have y0 := (M.out.2.2.2.1).d4; have p0_0 := y0.1; have p0_1 := y0.2.1; have p0_2 := y0.2.2.1; have p0_3 := y0.2.2.2; clear y0
      have y1 := (M.out.1).d4; have p1_0 := y1.1; have p1_1 := y1.2.1; have p1_2 := y1.2.2.1; have p1_3 := y1.2.2.2; clear y1
      go_wp2_with fail
      clear p0_0 p0_1 p0_2 p0_3 p1_0 p1_1 p1_2 p1_3
      refine (fqCompare (G := G) (q := q56) (r := q68) (k := k0) (M.out.2.2.2.2.2.1) (M.out.2.2.1) (Fz.mono (show Fz q56 3220 by rw [Eq56.out]; exact HZGb.out) (by omega)) (Fz.mono (show Fz q68 5220 by rw [Eq68.out]; exact HZGc.out) (by omega)) HK0.out).mono ?_
      rintro e w9 ⟨rfl, hb⟩
      replace M := Lib.hid (Goes.go M.out hb)
      clear hb
      go_wp2_with fail
      replace M := Lib.hid (And.intro (M.out.2.1) (And.intro (M.out.2.2.2.2.1) (And.intro (M.out.2.2.2.2.2.2.1) (M.out.2.2.2.2.2.2.2))))
      go_loopw [19] (fun i19 wr => ∃ (k2 : Nat), i19 = .int .i64 (k2 : Int) ∧ Hid (k2 ≤ n_49) ∧ Hid (RdC G wr a_60 n_49 c_62 l_63 ∧ RdC G wr a_48 n_49 c_50 l_51 ∧ RdC G wr ag n cg gl ∧ Below w.heap.size w wr)) (fun i19 _ => n_49 - (RowKit.intOf i19).toNat)
      case atStart =>
        exact ⟨0, rfl, (by show _ ≤ _; omega), Lib.hid (And.intro (M.out.1) (And.intro (M.out.2.1) (And.intro (M.out.2.2.1) (M.out.2.2.2))))⟩
      case round =>
        obtain ⟨w10, rfl⟩ : ∃ x, x = wr := ⟨_, rfl⟩
        clear M
        obtain ⟨k2, rfl, hk2, M⟩ := hrel
        have hk2 := hk2.out
        by_cases hlt : k2 < n_49
        ·
          have f5_0 : decide (k2 < n_49) = true := decide_eq_true (by omega)
          have f5_1 : decide ((k2 : Int) < (n_49 : Int)) = true := decide_eq_true (by omega)
          have f5_i : (k2 : Int) < (n_49 : Int) := by omega
          obtain ⟨b, off, rfl, hb_⟩ := RdL.ptr (M.out.2.1) (by omega : 0 < n_49)
          have hkl_ : k2 < l_51.length := by rw [(M.out.2.1).len]; exact hlt
          obtain ⟨x_, hx_⟩ : ∃ x, l_51[k2]? = some x := ⟨l_51[k2], List.getElem?_eq_getElem hkl_⟩
          obtain ⟨xn, xu0, xu1, xu2, xu3, xq⟩ := x_
          have hr_ := hb_.row hx_
          have hq_ := hb_.ok hx_
          have HEx := Lib.hid hx_; clear hx_ hkl_ hb_
          replace M := Lib.hid (show Row w10 b (off + k2 * 5) [.int .i64 xn, xu0, xu1, xu2, xu3] ∧ FQ G w10 xu0 xu1 xu2 xu3 xq ∧ RdC G w10 a_60 n_49 c_62 l_63 ∧ RdC G w10 (some ⟨b, off, none⟩) n_49 c_50 l_51 ∧ RdC G w10 ag n cg gl ∧ Below w.heap.size w w10 from And.intro hr_ (And.intro hq_ M.out))
          clear hr_ hq_
          obtain ⟨b2, off2, rfl, hb_⟩ := RdL.ptr (M.out.2.2.1) (by omega : 0 < n_49)
          have hkl_ : k2 < l_63.length := by rw [(M.out.2.2.1).len]; exact hlt
          obtain ⟨y_, hx_⟩ : ∃ x, l_63[k2]? = some x := ⟨l_63[k2], List.getElem?_eq_getElem hkl_⟩
          obtain ⟨yn, yu0, yu1, yu2, yu3, yq⟩ := y_
          have hr_ := hb_.row hx_
          have hq_ := hb_.ok hx_
          have HEy := Lib.hid hx_; clear hx_ hkl_ hb_
          replace M := Lib.hid (show Row w10 b2 (off2 + k2 * 5) [.int .i64 yn, yu0, yu1, yu2, yu3] ∧ FQ G w10 yu0 yu1 yu2 yu3 yq ∧ Row w10 b (off + k2 * 5) [.int .i64 xn, xu0, xu1, xu2, xu3] ∧ FQ G w10 xu0 xu1 xu2 xu3 xq ∧ RdC G w10 (some ⟨b2, off2, none⟩) n_49 c_62 l_63 ∧ RdC G w10 (some ⟨b, off, none⟩) n_49 c_50 l_51 ∧ RdC G w10 ag n cg gl ∧ Below w.heap.size w w10 from And.intro hr_ (And.intro hq_ M.out))
          clear hr_ hq_
          have hle_ := le_at HRES.out HEx.out HEy.out
          obtain rfl : xn = yn := hle_.1
          have HXY : Hid (xq ≤ yq) := Lib.hid hle_.2
          clear hle_
          have HZx : Hid (Fz xq 3220) := HZb.out _ (List.mem_of_getElem? HEx.out)
          have HZy : Hid (Fz yq 5220) := HZc.out _ (List.mem_of_getElem? HEy.out)
          obtain ⟨k1, hk1⟩ : ∃ k, ordQ xq yq = k := ⟨_, rfl⟩
          have hk1n := ord_le HXY.out hk1
          have e9 : decide (0 < k1) = false := decide_eq_false (by omega)
          have e9i : ¬ 0 < k1 := by omega
          have HK1 := Lib.hid hk1; clear hk1
          go_wp2_with fail
          obtain ⟨w11, hv⟩ : ∃ w_ : World, w_ = w10.drew := ⟨_, rfl⟩
          replace M := Lib.hid (Goes.go M.out (hv ▸ below_drew _ : Below w10.heap.size w10 w11))
          refine wp_region_held_drew (S := (fun w' => w'.cell? ⟨b, off + k2 * 5, none⟩ = some (.int .i64 xn) ∧ w'.cell? ⟨b, off + k2 * 5 + 1, none⟩ = some (xu0) ∧ w'.cell? ⟨b, off + k2 * 5 + 2, none⟩ = some (xu1) ∧ w'.cell? ⟨b, off + k2 * 5 + 3, none⟩ = some (xu2) ∧ w'.cell? ⟨b, off + k2 * 5 + 4, none⟩ = some (xu3) ∧ w'.cell? ⟨b2, off2 + k2 * 5, none⟩ = some (.int .i64 xn) ∧ w'.cell? ⟨b2, off2 + k2 * 5 + 1, none⟩ = some (yu0) ∧ w'.cell? ⟨b2, off2 + k2 * 5 + 2, none⟩ = some (yu1) ∧ w'.cell? ⟨b2, off2 + k2 * 5 + 3, none⟩ = some (yu2) ∧ w'.cell? ⟨b2, off2 + k2 * 5 + 4, none⟩ = some (yu3))) (by kernel_rfl) (by rw [← hv]; exact ⟨(M.out.2.2.1).2 0 _ rfl, (M.out.2.2.1).2 1 _ rfl, (M.out.2.2.1).2 2 _ rfl, (M.out.2.2.1).2 3 _ rfl, (M.out.2.2.1).2 4 _ rfl, (M.out.1).2 0 _ rfl, (M.out.1).2 1 _ rfl, (M.out.1).2 2 _ rfl, (M.out.1).2 3 _ rfl, (M.out.1).2 4 _ rfl⟩) (fun hH72 => ?_)
          rw [← hv] at hH72 ⊢
          clear hv
          refine tk at0 ?_
          refine tk at1 ?_
          refine tk at2 ?_
          refine tk at3 ?_
          refine tk at4 ?_
          refine tk at5 ?_
          refine tk at6 ?_
          refine tk at7 ?_
          refine tk at8 ?_
          refine tk at9 ?_
          refine tk at10 ?_
          refine tk at11 ?_
          refine tk at12 ?_
          refine tk at13 ?_
          refine tk at14 ?_
          refine tk at15 ?_
          refine tk at16 ?_
          refine tk at17 ?_
          refine tk at18 ?_
          refine tk at19 ?_
          refine tk at20 ?_
          refine tk at21 ?_
          refine wpAnyH_ready (rs := [22]) (by kernel_rfl) (by simp) ?_
          refine AllReadyH.cons at22 (fun K hK => ?_) AllReadyH.nil
          go_simp
          refine (fqCompare (G := G) (q := xq) (r := yq) (k := k1) (M.out.2.2.2.1) (M.out.2.1) (Fz.mono HZx.out (by omega)) (Fz.mono HZy.out (by omega)) HK1.out).mono ?_
          rintro e w12 ⟨rfl, hb⟩
          replace M := Lib.hid (Goes.go M.out hb)
          clear hb
          (try go_wp2_with fail)
          refine hK.out _ _ (⟨(M.out.2.2.1).2 0 _ rfl, (M.out.2.2.1).2 1 _ rfl, (M.out.2.2.1).2 2 _ rfl, (M.out.2.2.1).2 3 _ rfl, (M.out.2.2.1).2 4 _ rfl, (M.out.1).2 0 _ rfl, (M.out.1).2 1 _ rfl, (M.out.1).2 2 _ rfl, (M.out.1).2 3 _ rfl, (M.out.1).2 4 _ rfl⟩) (fun hH73 => ?_)
          clear hK K hH72
          (try simp only [Act.put, List.setIfInBounds_toArray, List.set_cons_zero, List.set_cons_succ])
          refine tk at23 ?_
          refine tk at24 ?_
          refine wpAnyH_done (by kernel_rfl) ?_ _
          clear hH73
          go_wp2_with fail
          go_roundw
          case rel => exact ⟨(k2 + 1), by go_num, (by show _ ≤ _; omega), Lib.hid (And.intro (M.out.2.2.2.2.1) (And.intro (M.out.2.2.2.2.2.1) (And.intro (M.out.2.2.2.2.2.2.1) (M.out.2.2.2.2.2.2.2))))⟩
          case measure => simp [RowKit.intOf] <;> omega
        ·
          have f5_0 : decide (k2 < n_49) = false := decide_eq_false (by omega)
          have f5_1 : decide ((k2 : Int) < (n_49 : Int)) = false := decide_eq_false (by omega)
          have f5_i : ¬ (k2 : Int) < (n_49 : Int) := by omega
          go_wp2_with fail
          go_ret
          exact ⟨rfl, (M.out.2.2.2)⟩
theorem more_walk {ls : List LR} {a : Option Addr} {n c : Nat} {w : World} (h : RdR w.heap.size w a n c ls) (hn0 : n ≤ 9223372036854775807) {rl am : Int} {us : List U16} {a2 : Option Addr} {n2 c2 : Nat} (h2 : RdU w.heap.size w a2 n2 c2 us) (hn2 : n2 ≤ 9223372036854775807) :
    Calls Try.prog 5 #[.slice a n c, .int .i64 rl, .int .i64 am, .slice a2 n2 c2] w fun e w' => e = .returned (.bool true) ∧ Below w.heap.size w w' := by
  cases hf : fewL ls with
  | false => exact more_1 h hn0 h2 hn2 hf
  | true =>
    by_cases h20 : 20 < n
    · exact more_2 h hn0 h2 hn2 hf h20
    cases hr : rightL ls with
    | false => exact more_3 h hn0 h2 hn2 hf (by omega) hr
    | true =>
      by_cases hv : drErr rl am (sumN ((ls.map toC).map LC.ly)) = 0
      · exact more_ok h hn0 h2 hn2 hf (by omega) hr hv
      · exact more_bad h hn0 h2 hn2 hf (by omega) hr hv
end Go.Proofs.Ytgmngkbocpadaaa
