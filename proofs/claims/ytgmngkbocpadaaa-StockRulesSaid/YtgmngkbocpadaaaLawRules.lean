/- StockRules: whatever the arguments, it returns true. -/
import Derived.Test.YtgmngkbocpadaaaBase
import Derived.Test.YtgmngkbocpadaaaBigSpec
import Derived.Test.YtgmngkbocpadaaaBigB
import Derived.Test.YtgmngkbocpadaaaBigC
import Derived.Test.YtgmngkbocpadaaaBigD
import Derived.Test.YtgmngkbocpadaaaBigK
import Derived.Test.YtgmngkbocpadaaaBigL
import Derived.Test.YtgmngkbocpadaaaBigQ
import Derived.Test.YtgmngkbocpadaaaFracA
import Derived.Test.YtgmngkbocpadaaaFracC
import Derived.Test.YtgmngkbocpadaaaFz
import Derived.Test.YtgmngkbocpadaaaHeld
import Derived.Test.YtgmngkbocpadaaaAw
import Derived.Test.YtgmngkbocpadaaaFracD
import Derived.Test.YtgmngkbocpadaaaFracR
import Derived.Test.YtgmngkbocpadaaaRw
import Derived.Test.YtgmngkbocpadaaaStockPlain
import Derived.Test.YtgmngkbocpadaaaStB
import Derived.Test.YtgmngkbocpadaaaStH
import Derived.Test.YtgmngkbocpadaaaStI
import Derived.Test.YtgmngkbocpadaaaLawKeeps
import Derived.Test.YtgmngkbocpadaaaLawTwice
import Derived.Test.YtgmngkbocpadaaaProg
import Derived.Test.YtgmngkbocpadaaaShelf
import Derived.WalkKit
import Derived.WalkSpells
import Derived.WalkLawsBesides
import Derived.Handy
import Derived.Lib.Hide
import Derived.Lib.Strings
import Derived.Lib.Builder
import Derived.BigQuiet
import Derived.OwnWalk
import Derived.Laws.BitsLemmas
import Derived.WalkSmall
import Derived.Deep.QuietTactic
import Derived.StillTailTactics
import Derived.Maps.AppendAt
import Derived.IntWalk
import Derived.Deep.RegionHeld3
import Derived.Deep.DeepFit
import Derived.Deep.LoopGhost
import Derived.Deep.DeepCutAuto
import Derived.Lib.ItoaNum
import Derived.Lib.Repeat
import Derived.Lib.AppendIntMem
import Derived.Sort.OwnSorted
import Derived.Shelf.Strings.SlTrimAscii
import Derived.Lib.ConvBytes
import Derived.Lib.CutLaws
namespace Go.Proofs.Ytgmngkbocpadaaa
open Go.RowKit Go.Lib
variable {G : Nat}

theorem cast_ne {n : Int} (h : 1 ≤ n) : ((n : Int) : Rat) ≠ 0 := by have := cast_pos h; grind
theorem div_lt_ {q v : Rat} {n : Int} (h : 1 ≤ n) (hv : v < q / (n : Rat)) : v * (n : Rat) < q := by
  have h1 := cast_pos h
  have h2 := Rat.mul_lt_mul_of_pos_right hv h1
  rwa [Rat.div_mul_cancel (cast_ne h)] at h2
theorem lt_div_ {q v : Rat} {n : Int} (h : 1 ≤ n) (hv : q / (n : Rat) < v) : q < v * (n : Rat) := by
  have h1 := cast_pos h
  have h2 := Rat.mul_lt_mul_of_pos_right hv h1
  rwa [Rat.div_mul_cancel (cast_ne h)] at h2
theorem eq_div_ {q v : Rat} {n : Int} (h : 1 ≤ n) (hv : q / (n : Rat) = v) : q = v * (n : Rat) := by
  rw [← hv, Rat.div_mul_cancel (cast_ne h)]
theorem mem_next {l : List LC} {k : Nat} {x : LC} {p : LC → Prop} (hx : l[k]? = some x) (h : ∀ y ∈ l.take k, p y) (h1 : p x) : ∀ y ∈ l.take (k + 1), p y := fun y hy => by
  rw [List.take_add_one, hx] at hy
  rcases List.mem_append.1 hy with hy | hy
  · exact h y hy
  · simp at hy; subst hy; exact h1
theorem ord_pos {q r : Rat} {c : Int} (h : ordQ q r = c) (hc : ¬ c ≤ 0) : r < q := by
  unfold ordQ at h
  split at h
  · omega
  · rename_i h1
    split at h
    · omega
    · rename_i h2; grind
theorem ord_neg {q r : Rat} {c : Int} (h : ordQ q r = c) (hc : ¬ 0 ≤ c) : q < r := by
  unfold ordQ at h
  split at h
  · assumption
  · split at h <;> omega
def LowQ (l : List LC) (k : Nat) (v : Rat) (b : Bool) : Prop := b = false → ∀ x ∈ l.take k, v * (x.n : Rat) < x.q
def HighQ (l : List LC) (k : Nat) (v : Rat) (b : Bool) : Prop := b = false → ∀ x ∈ l.take k, x.q < v * (x.n : Rat)
def SameQ (l : List LC) (k : Nat) (v : Rat) (b : Bool) : Prop := b = true → ∀ x ∈ l.take k, x.q = v * (x.n : Rat)
theorem LowQ.next {l : List LC} {k : Nat} {v : Rat} {b b2 : Bool} {x : LC} {c : Int} (h : LowQ l k v b) (hx : l[k]? = some x) (hn : 1 ≤ x.n) (hc : ordQ (x.q / (x.n : Rat)) v = c) (hb : b2 = (b || decide (c ≤ 0))) : LowQ l (k + 1) v b2 := by
  intro h0
  rw [hb, Bool.or_eq_false_iff, decide_eq_false_iff_not] at h0
  exact mem_next hx (h h0.1) (div_lt_ hn (ord_pos hc h0.2))
theorem HighQ.next {l : List LC} {k : Nat} {v : Rat} {b b2 : Bool} {x : LC} {c : Int} (h : HighQ l k v b) (hx : l[k]? = some x) (hn : 1 ≤ x.n) (hc : ordQ (x.q / (x.n : Rat)) v = c) (hb : b2 = (b || decide (0 ≤ c))) : HighQ l (k + 1) v b2 := by
  intro h0
  rw [hb, Bool.or_eq_false_iff, decide_eq_false_iff_not] at h0
  exact mem_next hx (h h0.1) (lt_div_ hn (ord_neg hc h0.2))
theorem SameQ.next {l : List LC} {k : Nat} {v : Rat} {b b2 bs : Bool} {x : LC} (h : SameQ l k v b) (hx : l[k]? = some x) (hn : 1 ≤ x.n) (hs : decide (x.q / (x.n : Rat) = v) = bs) (hb : b2 = (b && bs)) : SameQ l (k + 1) v b2 := by
  intro h0
  rw [hb, Bool.and_eq_true] at h0
  rw [← hs, decide_eq_true_eq] at h0
  exact mem_next hx (h h0.1) (eq_div_ hn h0.2)
theorem LowQ.all {l : List LC} {k : Int} {n : Nat} {v : Rat} {b : Bool} {a : Int} (h : LowQ l n v b) (ok : OkC l) (hn : l.length ≤ n) (h0 : 1 ≤ a) (ha : a ≤ sumN (l.map LC.ly)) (hv : v = (drawR k (l.map LC.ly) a).2 / (a : Rat)) : b = true := by
  cases b with
  | true => rfl
  | false =>
    exfalso
    have h1 := h rfl
    rw [List.take_of_length_le hn] at h1
    have h2 := R_gt (k := k) (v := v) ok.ly (fun x hx => by obtain ⟨y, hy, rfl⟩ := List.mem_map.1 hx; exact h1 y hy) h0 ha
    rw [hv, Rat.div_mul_cancel (cast_ne h0)] at h2
    exact Rat.lt_irrefl h2
theorem HighQ.all {l : List LC} {k : Int} {n : Nat} {v : Rat} {b : Bool} {a : Int} (h : HighQ l n v b) (ok : OkC l) (hn : l.length ≤ n) (h0 : 1 ≤ a) (ha : a ≤ sumN (l.map LC.ly)) (hv : v = (drawR k (l.map LC.ly) a).2 / (a : Rat)) : b = true := by
  cases b with
  | true => rfl
  | false =>
    exfalso
    have h1 := h rfl
    rw [List.take_of_length_le hn] at h1
    have h2 := R_lt (k := k) (v := v) ok.ly (fun x hx => by obtain ⟨y, hy, rfl⟩ := List.mem_map.1 hx; exact h1 y hy) h0 ha
    rw [hv, Rat.div_mul_cancel (cast_ne h0)] at h2
    exact Rat.lt_irrefl h2
theorem SameQ.all {l : List LC} {k k' : Int} {n : Nat} {v : Rat} {a : Int} (h : SameQ l n v true) (ok : OkC l) (hn : l.length ≤ n) (h0 : 1 ≤ a) (ha : a ≤ sumN (l.map LC.ly)) : (drawR k (l.map LC.ly) a).2 = (drawR k' (l.map LC.ly) a).2 := by
  have h1 := h rfl
  rw [List.take_of_length_le hn] at h1
  have hx : ∀ x ∈ l.map LC.ly, x.b = v * (x.n : Rat) := fun x hx => by obtain ⟨y, hy, rfl⟩ := List.mem_map.1 hx; exact h1 y hy
  rw [R_eq (k := k) ok.ly hx h0 ha, R_eq (k := k') ok.ly hx h0 ha]
theorem all_of {l l2 : List LC} {k : Int} {N : Int} (ok : OkC l) (hN : sumN (l.map LC.ly) = N) (h1 : 1 ≤ N) (e : l2.map LC.ly = (drawR k (l.map LC.ly) N).1) : l2.length = 0 ∧ (drawR k (l.map LC.ly) N).2 = sumB (l.map LC.ly) := by
  subst hN
  rw [R_all ok.ly h1] at e ⊢
  refine ⟨?_, rfl⟩
  have := congrArg List.length e; simpa using this
set_option maxRecDepth 100000 in
set_option maxHeartbeats 4000000 in
theorem rules_1 {ls : List LR} {a : Option Addr} {n c : Nat} {w : World} (h : RdR w.heap.size w a n c ls) (_hn0 : n ≤ 9223372036854775807) {rl am : Int} (hf : fewL ls = false) :
    Calls Try.prog 6 #[.slice a n c, .int .i64 rl, .int .i64 am] w fun e w' => e = .returned (.bool true) ∧ Below w.heap.size w w' := by
  obtain ⟨G, hG0⟩ : ∃ G : Nat, G = w.heap.size := ⟨_, rfl⟩
  have hG : G ≤ w.heap.size := by omega
  have HL0 : Hid (RdR G w a n c ls) := by show RdR _ _ _ _ _ _; rw [hG0]; exact h
  have HF := Lib.hid hf
  clear hf
  have HR0 : Hid (RdR G w a n c ls) := HL0.out
  clear h
  have M : Hid (Below w.heap.size w w) := Below.refl _ _
  go_enter Try.func6, Try.ntmps6
  go_wp2_with fail
  refine (stSmall (G := G) (Nat.le_trans hG M.out.size)).mono ?_
  rintro e w1 ⟨rfl, hb⟩
  replace M := Lib.hid (Goes.go M.out hb)
  clear hb
  go_wp2_with fail
  refine (stFew_ok (G := G) (l := ls) (b_ := false) (HR0.out.keep M.out) (by omega) HF.out).mono ?_
  rintro e w2 ⟨rfl, hb⟩
  replace M := Lib.hid (Goes.go M.out hb)
  clear hb
  go_wp2_with fail
  go_ret
  exact ⟨rfl, M.out⟩
set_option maxRecDepth 100000 in
set_option maxHeartbeats 4000000 in
theorem rules_2 {ls : List LR} {a : Option Addr} {n c : Nat} {w : World} (h : RdR w.heap.size w a n c ls) (_hn0 : n ≤ 9223372036854775807) {rl am : Int} (hf : fewL ls = true) (_h20 : 20 < n) :
    Calls Try.prog 6 #[.slice a n c, .int .i64 rl, .int .i64 am] w fun e w' => e = .returned (.bool true) ∧ Below w.heap.size w w' := by
  obtain ⟨G, hG0⟩ : ∃ G : Nat, G = w.heap.size := ⟨_, rfl⟩
  have hG : G ≤ w.heap.size := by omega
  have HL0 : Hid (RdR G w a n c ls) := by show RdR _ _ _ _ _ _; rw [hG0]; exact h
  have hs_ := few_all hf
  have HSM := Lib.hid hs_.1
  have hn : n ≤ 202 := by have h_ := HL0.out.len; omega
  have HF := Lib.hid hf
  clear hf hs_
  have ek0 : decide (20 < (n : Int)) = true := decide_eq_true (by omega)
  have ek1 : decide (20 < n) = true := decide_eq_true (by omega)
  have ek2 : 20 < (n : Int) := by omega
  have HR0 : Hid (RdR G w a n c ls) := HL0.out
  clear h
  have M : Hid (Below w.heap.size w w) := Below.refl _ _
  go_enter Try.func6, Try.ntmps6
  go_wp2_with fail
  refine (stSmall (G := G) (Nat.le_trans hG M.out.size)).mono ?_
  rintro e w1 ⟨rfl, hb⟩
  replace M := Lib.hid (Goes.go M.out hb)
  clear hb
  go_wp2_with fail
  refine (stFew_ok (G := G) (l := ls) (b_ := true) (HR0.out.keep M.out) (by omega) HF.out).mono ?_
  rintro e w2 ⟨rfl, hb⟩
  replace M := Lib.hid (Goes.go M.out hb)
  clear hb
  go_wp2_with fail
  go_ret
  exact ⟨rfl, M.out⟩
set_option maxRecDepth 100000 in
set_option maxHeartbeats 4000000 in
theorem rules_3 {ls : List LR} {a : Option Addr} {n c : Nat} {w : World} (h : RdR w.heap.size w a n c ls) (_hn0 : n ≤ 9223372036854775807) {rl am : Int} (hf : fewL ls = true) (_h20 : n ≤ 20) (hr : rightL ls = false) :
    Calls Try.prog 6 #[.slice a n c, .int .i64 rl, .int .i64 am] w fun e w' => e = .returned (.bool true) ∧ Below w.heap.size w w' := by
  obtain ⟨G, hG0⟩ : ∃ G : Nat, G = w.heap.size := ⟨_, rfl⟩
  have hG : G ≤ w.heap.size := by omega
  have HL0 : Hid (RdR G w a n c ls) := by show RdR _ _ _ _ _ _; rw [hG0]; exact h
  have hs_ := few_all hf
  have HSM := Lib.hid hs_.1
  have hn : n ≤ 202 := by have h_ := HL0.out.len; omega
  have HF := Lib.hid hf
  have HR := Lib.hid hr
  clear hf hs_ hr
  have ek0 : decide (20 < (n : Int)) = false := decide_eq_false (by omega)
  have ek1 : decide (20 < n) = false := decide_eq_false (by omega)
  have ek2 : ¬ 20 < (n : Int) := by omega
  have HR0 : Hid (RdR G w a n c ls) := HL0.out
  clear h
  have M : Hid (Below w.heap.size w w) := Below.refl _ _
  go_enter Try.func6, Try.ntmps6
  go_wp2_with fail
  refine (stSmall (G := G) (Nat.le_trans hG M.out.size)).mono ?_
  rintro e w1 ⟨rfl, hb⟩
  replace M := Lib.hid (Goes.go M.out hb)
  clear hb
  go_wp2_with fail
  refine (stFew_ok (G := G) (l := ls) (b_ := true) (HR0.out.keep M.out) (by omega) HF.out).mono ?_
  rintro e w2 ⟨rfl, hb⟩
  replace M := Lib.hid (Goes.go M.out hb)
  clear hb
  go_wp2_with fail
  refine (stRight_raw (G := G) (l := ls) (b_ := false) (HR0.out.keep M.out) (by omega) HSM.out HR.out).mono ?_
  rintro e w3 ⟨rfl, hb⟩
  replace M := Lib.hid (Goes.go M.out hb)
  clear hb
  go_wp2_with fail
  go_ret
  exact ⟨rfl, M.out⟩
set_option maxRecDepth 100000 in
set_option maxHeartbeats 4000000 in
theorem rules_bad {ls : List LR} {a : Option Addr} {n c : Nat} {w : World} (h : RdR w.heap.size w a n c ls) (_hn0 : n ≤ 9223372036854775807) {rl am : Int} (hf : fewL ls = true) (_h20 : n ≤ 20) (hr : rightL ls = true) (hv : drErr rl am (sumN ((ls.map toC).map LC.ly)) ≠ 0)  :
    Calls Try.prog 6 #[.slice a n c, .int .i64 rl, .int .i64 am] w fun e w' => e = .returned (.bool true) ∧ Below w.heap.size w w' := by
  obtain ⟨G, hG0⟩ : ∃ G : Nat, G = w.heap.size := ⟨_, rfl⟩
  have hG : G ≤ w.heap.size := by omega
  have HL0 : Hid (RdR G w a n c ls) := by show RdR _ _ _ _ _ _; rw [hG0]; exact h
  have hs_ := few_all hf
  have hr_ := rightL_ok hr
  obtain ⟨l, hl⟩ : ∃ l, l = ls.map toC := ⟨_, rfl⟩
  have HL : Hid (RdC G w a n c l) := by show RdC _ _ _ _ _ _; rw [hG0, hl]; exact h.toC hr_.1
  have HOK : Hid (OkC l) := by show OkC _; rw [hl]; exact hr_.2
  have HZ3 : Hid (FzL l 3) := by show FzL _ _; rw [hl]; exact fz_toC h hr_.1 hs_.1
  have HZ : Hid (FzL l 100000000) := Lib.hid (HZ3.out.mono (by omega))
  have HSM := Lib.hid hs_.1
  have hn : n ≤ 202 := by have h_ := HL0.out.len; omega
  obtain ⟨N0, hN0⟩ : ∃ N, sumN (l.map LC.ly) = N := ⟨_, rfl⟩
  have hN1 : N0 ≤ 1099511627776 := by have h_ := HOK.out.sum; omega
  have HN0 := Lib.hid hN0
  have HF := Lib.hid hf
  have HR := Lib.hid hr
  rw [← hl, hN0] at hv
  obtain ⟨er1, he1⟩ : ∃ e, drErr rl am N0 = e := ⟨_, rfl⟩
  rw [he1] at hv
  have HE1 := Lib.hid he1; have HV := Lib.hid hv; clear he1 hv
  clear hN0 hf hr hs_ hr_
  have ek0 : decide (20 < (n : Int)) = false := decide_eq_false (by omega)
  have ek1 : decide (20 < n) = false := decide_eq_false (by omega)
  have ek2 : ¬ 20 < (n : Int) := by omega
  have HR0 : Hid (RdR G w a n c ls) := HL0.out
  have HC0 : Hid (RdC G w a n c l) := HL.out
  clear h
  have M : Hid (Below w.heap.size w w) := Below.refl _ _
  go_enter Try.func6, Try.ntmps6
  go_wp2_with fail
  refine (stSmall (G := G) (Nat.le_trans hG M.out.size)).mono ?_
  rintro e w1 ⟨rfl, hb⟩
  replace M := Lib.hid (Goes.go M.out hb)
  clear hb
  go_wp2_with fail
  refine (stFew_ok (G := G) (l := ls) (b_ := true) (HR0.out.keep M.out) (by omega) HF.out).mono ?_
  rintro e w2 ⟨rfl, hb⟩
  replace M := Lib.hid (Goes.go M.out hb)
  clear hb
  go_wp2_with fail
  refine (stRight_raw (G := G) (l := ls) (b_ := true) (HR0.out.keep M.out) (by omega) HSM.out HR.out).mono ?_
  rintro e w3 ⟨rfl, hb⟩
  replace M := Lib.hid (Goes.go M.out hb)
  clear hb
  go_wp2_with fail
  obtain ⟨q5, eq5⟩ : ∃ v_ : Rat, v_ = (sumB (l.map LC.ly)) := ⟨_, rfl⟩
  refine (stTotal_is (G := G) (N := N0) (l := l) (Nat.le_trans hG M.out.size) (HC0.out.keep M.out) HOK.out HZ.out HN0.out).mono ?_
  rintro e w4 ⟨x_1, x_2, x_3, x_4, rfl, hd6, hb⟩
  rw [← eq5] at hd6
  have Eq5 := Lib.hid eq5; clear eq5
  replace M := Lib.hid (And.intro hd6 (Goes.go M.out hb))
  clear hb hd6
  have ys_x_1 := TQ.st (M.out.1); have st_x_1 := ys_x_1.1; have st_x_2 := ys_x_1.2.1; have st_x_3 := ys_x_1.2.2.1; have st_x_4 := ys_x_1.2.2.2; clear ys_x_1
  go_upto_region 5 with fail
  clear st_x_1 st_x_2 st_x_3 st_x_4
  obtain ⟨w5, hv⟩ : ∃ w_ : World, w_ = (w4.alloc (.cells #[x_1, x_2, x_3, x_4] 29)) := ⟨_, rfl⟩
  rw [← hv]
  have ow0_ : w.heap.size ≤ w4.heap.size := ((M.out.2)).size
  replace M := Lib.hid (And.intro (hv ▸ bx1 w4 29 #[x_1, x_2, x_3, x_4]) (Goes.go M.out (hv ▸ below_alloc _ _ : Below w4.heap.size w4 w5)))
  clear hv
  go_wp2_with fail
  refine (draw_err (G := G) (l := l) (er := er1) (rl := rl) (am0 := am) (Nat.le_trans hG (M.out.2.2).size) (HC0.out.keep (M.out.2.2)) HOK.out HZ.out (by rw [HN0.out]; exact HE1.out) HV.out).mono ?_
  rintro e w6 ⟨rfl, hb⟩
  replace M := Lib.hid (Goes.go M.out hb)
  clear hb
  have en1_er1 : (er1 == 0) = false := beq_false_of_ne HV.out
  have en2_er1 : (er1 != 0) = true := bne_iff_ne.2 HV.out
  have en3_er1 : ¬ er1 = 0 := HV.out
  go_upto_region 6 with fail
  obtain ⟨w7, hv⟩ : ∃ w_ : World, w_ = (w6.alloc (.cells #[.int .i64 0, .slice none 0 0, .int .i64 0, .slice none 0 0] 29)) := ⟨_, rfl⟩
  rw [← hv]
  have ow1_ : w4.heap.size < w6.heap.size := ((M.out.1)).lt
  replace M := Lib.hid (And.intro (hv ▸ bx1 w6 29 #[.int .i64 0, .slice none 0 0, .int .i64 0, .slice none 0 0]) (Goes.go M.out (hv ▸ below_alloc _ _ : Below w6.heap.size w6 w7)))
  clear hv
  go_wp2_with fail
  go_ret
  exact ⟨rfl, (M.out.2.2.2)⟩
set_option maxRecDepth 100000 in
set_option maxHeartbeats 4000000 in
theorem rules_ok {ls : List LR} {a : Option Addr} {n c : Nat} {w : World} (h : RdR w.heap.size w a n c ls) (_hn0 : n ≤ 9223372036854775807) {rl am : Int} (hf : fewL ls = true) (_h20 : n ≤ 20) (hr : rightL ls = true) (hv : drErr rl am (sumN ((ls.map toC).map LC.ly)) = 0)  :
    Calls Try.prog 6 #[.slice a n c, .int .i64 rl, .int .i64 am] w fun e w' => e = .returned (.bool true) ∧ Below w.heap.size w w' := by
  obtain ⟨G, hG0⟩ : ∃ G : Nat, G = w.heap.size := ⟨_, rfl⟩
  have hG : G ≤ w.heap.size := by omega
  have HL0 : Hid (RdR G w a n c ls) := by show RdR _ _ _ _ _ _; rw [hG0]; exact h
  have hs_ := few_all hf
  have hr_ := rightL_ok hr
  obtain ⟨l, hl⟩ : ∃ l, l = ls.map toC := ⟨_, rfl⟩
  have HL : Hid (RdC G w a n c l) := by show RdC _ _ _ _ _ _; rw [hG0, hl]; exact h.toC hr_.1
  have HOK : Hid (OkC l) := by show OkC _; rw [hl]; exact hr_.2
  have HZ3 : Hid (FzL l 3) := by show FzL _ _; rw [hl]; exact fz_toC h hr_.1 hs_.1
  have HZ : Hid (FzL l 100000000) := Lib.hid (HZ3.out.mono (by omega))
  have HSM := Lib.hid hs_.1
  have hn : n ≤ 202 := by have h_ := HL0.out.len; omega
  obtain ⟨N0, hN0⟩ : ∃ N, sumN (l.map LC.ly) = N := ⟨_, rfl⟩
  have hN1 : N0 ≤ 1099511627776 := by have h_ := HOK.out.sum; omega
  have HN0 := Lib.hid hN0
  have HF := Lib.hid hf
  have HR := Lib.hid hr
  rw [← hl, hN0] at hv
  obtain ⟨hr0, hr1, ha, ha1, haN⟩ := drErr_ok hv
  clear hN0 hf hr hs_ hr_ hv
  have ek0 : decide (20 < (n : Int)) = false := decide_eq_false (by omega)
  have ek1 : decide (20 < n) = false := decide_eq_false (by omega)
  have ek2 : ¬ 20 < (n : Int) := by omega
  have HR0 : Hid (RdR G w a n c ls) := HL0.out
  have HC0 : Hid (RdC G w a n c l) := HL.out
  clear h
  have M : Hid (Below w.heap.size w w) := Below.refl _ _
  go_enter Try.func6, Try.ntmps6
  go_wp2_with fail
  refine (stSmall (G := G) (Nat.le_trans hG M.out.size)).mono ?_
  rintro e w1 ⟨rfl, hb⟩
  replace M := Lib.hid (Goes.go M.out hb)
  clear hb
  go_wp2_with fail
  refine (stFew_ok (G := G) (l := ls) (b_ := true) (HR0.out.keep M.out) (by omega) HF.out).mono ?_
  rintro e w2 ⟨rfl, hb⟩
  replace M := Lib.hid (Goes.go M.out hb)
  clear hb
  go_wp2_with fail
  refine (stRight_raw (G := G) (l := ls) (b_ := true) (HR0.out.keep M.out) (by omega) HSM.out HR.out).mono ?_
  rintro e w3 ⟨rfl, hb⟩
  replace M := Lib.hid (Goes.go M.out hb)
  clear hb
  go_wp2_with fail
  obtain ⟨q5, eq5⟩ : ∃ v_ : Rat, v_ = (sumB (l.map LC.ly)) := ⟨_, rfl⟩
  refine (stTotal_is (G := G) (N := N0) (l := l) (Nat.le_trans hG M.out.size) (HC0.out.keep M.out) HOK.out HZ.out HN0.out).mono ?_
  rintro e w4 ⟨x_1, x_2, x_3, x_4, rfl, hd6, hb⟩
  rw [← eq5] at hd6
  have Sq5 : Hid (Fz q5 1000) := by show Fz q5 1000; rw [eq5]; exact ((fz_sum HZ3.out).mono (by have h_ := HL.out.len; omega))
  have Eq5 := Lib.hid eq5; clear eq5
  replace M := Lib.hid (And.intro hd6 (Goes.go M.out hb))
  clear hb hd6
  have ys_x_1 := TQ.st (M.out.1); have st_x_1 := ys_x_1.1; have st_x_2 := ys_x_1.2.1; have st_x_3 := ys_x_1.2.2.1; have st_x_4 := ys_x_1.2.2.2; clear ys_x_1
  go_upto_region 5 with fail
  clear st_x_1 st_x_2 st_x_3 st_x_4
  obtain ⟨w5, hv⟩ : ∃ w_ : World, w_ = (w4.alloc (.cells #[x_1, x_2, x_3, x_4] 29)) := ⟨_, rfl⟩
  rw [← hv]
  have ow0_ : w.heap.size ≤ w4.heap.size := ((M.out.2)).size
  replace M := Lib.hid (And.intro (hv ▸ bx1 w4 29 #[x_1, x_2, x_3, x_4]) (Goes.go M.out (hv ▸ below_alloc _ _ : Below w4.heap.size w4 w5)))
  clear hv
  go_wp2_with fail
  obtain ⟨q15, eq15⟩ : ∃ v_ : Rat, v_ = ((drawR rl (l.map LC.ly) am).2) := ⟨_, rfl⟩
  refine (draw_ok (G := G) (l := l) (rl := rl) (am0 := am) (Nat.le_trans hG (M.out.2.2).size) (HC0.out.keep (M.out.2.2)) HOK.out HZ.out (by omega) (by omega) (by omega) (by rw [HN0.out]; exact haN)).mono ?_
  rintro e w6 ⟨a_7, n_8, c_9, l_10, x_11, x_12, x_13, x_14, rfl, hd16, hu17, hd18, hb⟩
  rw [← eq15] at hd18
  have Eq15 := Lib.hid eq15; clear eq15
  replace M := Lib.hid (And.intro hd16 (And.intro hd18 (Goes.go M.out hb)))
  clear hb hd16 hd18
  replace hu17 := Lib.hid hu17
  have hd_ := draw_left (N := 3) HOK.out HZ3.out ha (show am ≤ sumN (l.map LC.ly) by rw [HN0.out]; exact haN) hu17.out
  have HOKb := Lib.hid hd_.1; have HZb := Lib.hid hd_.2.1; have HZGb := Lib.hid hd_.2.2.1; have HSNb := Lib.hid hd_.2.2.2.1; have HSBb := Lib.hid hd_.2.2.2.2.1; have HGEb := Lib.hid hd_.2.2.2.2.2.1; have HLEb := Lib.hid hd_.2.2.2.2.2.2; clear hd_
  have ys_x_11 := TQ.st (M.out.2.1); have st_x_11 := ys_x_11.1; have st_x_12 := ys_x_11.2.1; have st_x_13 := ys_x_11.2.2.1; have st_x_14 := ys_x_11.2.2.2; clear ys_x_11
  go_upto_region 6 with fail
  clear st_x_11 st_x_12 st_x_13 st_x_14
  obtain ⟨w7, hv⟩ : ∃ w_ : World, w_ = (w6.alloc (.cells #[x_11, x_12, x_13, x_14] 29)) := ⟨_, rfl⟩
  rw [← hv]
  have ow1_ : w4.heap.size < w6.heap.size := ((M.out.2.2.1)).lt
  replace M := Lib.hid (And.intro (hv ▸ bx1 w6 29 #[x_11, x_12, x_13, x_14]) (Goes.go M.out (hv ▸ below_alloc _ _ : Below w6.heap.size w6 w7)))
  clear hv
  go_upto_region 8 with fail
  go_cut [13, 14] (fun s13 s14 wx => ∃ (A31 : Nat), ∃ (x_19 : Value), ∃ (x_20 : Value), ∃ (x_21 : Value), ∃ (x_22 : Value), ∃ (q23 : Rat), ∃ (x_25 : Value), ∃ (x_26 : Value), ∃ (x_27 : Value), ∃ (x_28 : Value), ∃ (q29 : Rat), s13 = .pointer (some ⟨A31, 0, none⟩) ∧ s14 = .int .i64 0 ∧ Hid (q23 = (am : Rat)) ∧ Hid (q29 = (q15 / q23)) ∧ Hid (Fz q23 4) ∧ Hid (Fz q29 3224) ∧ w6.heap.size < A31 ∧ Hid (Bx wx A31 29 #[x_25, x_26, x_27, x_28] ∧ FQ G wx x_25 x_26 x_27 x_28 q29 ∧ FQ G wx x_19 x_20 x_21 x_22 q23 ∧ RdC G wx a_7 n_8 c_9 l_10 ∧ FQ G wx x_11 x_12 x_13 x_14 q15 ∧ FQ G wx x_1 x_2 x_3 x_4 q5 ∧ Bx wx w4.heap.size 29 #[x_1, x_2, x_3, x_4] ∧ Bx wx w6.heap.size 29 #[x_11, x_12, x_13, x_14] ∧ Below w.heap.size w wx))
  case first =>
    obtain ⟨w8, hv⟩ : ∃ w_ : World, w_ = w7.drew := ⟨_, rfl⟩
    replace M := Lib.hid (Goes.go M.out (hv ▸ below_drew _ : Below w7.heap.size w7 w8))
    refine wp_region_held_drew (S := (fun w' => w'.cell? ⟨w6.heap.size, 0, none⟩ = some (x_11) ∧ w'.cell? ⟨w6.heap.size, 1, none⟩ = some (x_12) ∧ w'.cell? ⟨w6.heap.size, 2, none⟩ = some (x_13) ∧ w'.cell? ⟨w6.heap.size, 3, none⟩ = some (x_14))) (by kernel_rfl) (by rw [← hv]; exact ⟨(M.out.1).at.1 0, (M.out.1).at.1 1, (M.out.1).at.1 2, (M.out.1).at.1 3⟩) (fun hH32 => ?_)
    rw [← hv] at hH32 ⊢
    clear hv
    refine tk at0 ?_
    refine tk at1 ?_
    refine wpAnyH_ready (rs := [2, 7]) (by kernel_rfl) (by simp) ?_
    refine AllReadyH.cons at2 (fun K hK => ?_) ?_
    ·
      go_simp
      obtain ⟨q37, eq37⟩ : ∃ v_ : Rat, v_ = (am : Rat) := ⟨_, rfl⟩
      refine (fqInt (G := G) (x := am) (by omega)).mono ?_
      rintro e w9 ⟨x_33, x_34, x_35, x_36, rfl, hd38, hb⟩
      rw [← eq37] at hd38
      have Sq37 : Hid (Fz q37 4) := by show Fz q37 4; rw [eq37]; exact (Fz.int64 (by omega))
      have Eq37 := Lib.hid eq37; clear eq37
      replace M := Lib.hid (And.intro hd38 (Goes.go M.out hb))
      clear hb hd38
      (try go_wp2_with fail)
      refine hK.out _ _ (⟨(M.out.2.1).at.1 0, (M.out.2.1).at.1 1, (M.out.2.1).at.1 2, (M.out.2.1).at.1 3⟩) (fun hH39 => ?_)
      clear hK K hH32
      (try simp only [Act.put, List.setIfInBounds_toArray, List.set_cons_zero, List.set_cons_succ])
      refine wpAnyH_ready (rs := [3, 7]) (by kernel_rfl) (by simp) ?_
      refine AllReadyH.cons at3 (fun K hK => ?_) ?_
      ·
        go_simp
        obtain ⟨q44, eq44⟩ : ∃ v_ : Rat, v_ = (q15 / q37) := ⟨_, rfl⟩
        refine (fqDiv (G := G) (q := q15) (r := q37) (Nat.le_trans hG (M.out.2.2.2.2.2.2).size) (M.out.2.2.2.1) (M.out.1) (Fz.mono (show Fz q15 3220 by rw [Eq15.out]; exact HZGb.out) (by omega)) (Fz.mono Sq37.out (by omega)) (by rw [Eq37.out]; exact cast_ne (by omega))).mono ?_
        rintro e w10 ⟨x_40, x_41, x_42, x_43, rfl, hd45, hb⟩
        rw [← eq44] at hd45
        have Sq44 : Hid (Fz q44 3224) := by show Fz q44 3224; rw [eq44]; exact (Fz.div (show Fz q15 3220 by rw [Eq15.out]; exact HZGb.out) Sq37.out (by rw [Eq37.out]; exact cast_ne (by omega)))
        have Eq44 := Lib.hid eq44; clear eq44
        replace M := Lib.hid (And.intro hd45 (Goes.go M.out hb))
        clear hb hd45
        (try go_wp2_with fail)
        refine hK.out _ _ (⟨(M.out.2.2.1).at.1 0, (M.out.2.2.1).at.1 1, (M.out.2.2.1).at.1 2, (M.out.2.2.1).at.1 3⟩) (fun hH46 => ?_)
        clear hK K hH39
        (try simp only [Act.put, List.setIfInBounds_toArray, List.set_cons_zero, List.set_cons_succ])
        refine tk at4 ?_
        refine tk at5 ?_
        refine tk at6 ?_
        refine wpAnyH_ready (rs := [7]) (by kernel_rfl) (by simp) ?_
        refine AllReadyH.cons at7 (fun K hK => ?_) AllReadyH.nil
        go_simp
        obtain ⟨w11, hv⟩ : ∃ w_ : World, w_ = (w10.alloc (.cells #[.int .i64 0, .slice none 0 0, .int .i64 0, .slice none 0 0] 29)) := ⟨_, rfl⟩
        rw [← hv]
        have ow2_ : w6.heap.size < w10.heap.size := ((M.out.2.2.1)).lt
        replace M := Lib.hid (And.intro (hv ▸ bx1 w10 29 #[.int .i64 0, .slice none 0 0, .int .i64 0, .slice none 0 0]) (Goes.go M.out (hv ▸ below_alloc _ _ : Below w10.heap.size w10 w11)))
        clear hv
        refine hK.out _ _ (⟨(M.out.2.2.2.1).at.1 0, (M.out.2.2.2.1).at.1 1, (M.out.2.2.2.1).at.1 2, (M.out.2.2.2.1).at.1 3⟩) (fun hH47 => ?_)
        clear hK K hH46
        (try simp only [Act.put, List.setIfInBounds_toArray, List.set_cons_zero, List.set_cons_succ])
        refine wpAnyH_ready (rs := [8]) (by kernel_rfl) (by simp) ?_
        refine AllReadyH.cons at8 (fun K hK => ?_) AllReadyH.nil
        have y2 := (M.out.1).c4; have p2_0 := y2.1; have q2_0 := y2.2.1; have p2_1 := y2.2.2.1; have q2_1 := y2.2.2.2.1; have p2_2 := y2.2.2.2.2.1; have q2_2 := y2.2.2.2.2.2.1; have p2_3 := y2.2.2.2.2.2.2.1; have q2_3 := y2.2.2.2.2.2.2.2; clear y2
        have ys_x_40 := TQ.st (M.out.2.1); have st_x_40 := ys_x_40.1; have st_x_41 := ys_x_40.2.1; have st_x_42 := ys_x_40.2.2.1; have st_x_43 := ys_x_40.2.2.2; clear ys_x_40
        go_simp
        clear p2_0 q2_0 p2_1 q2_1 p2_2 q2_2 p2_3 q2_3 st_x_40 st_x_41 st_x_42 st_x_43
        obtain ⟨w12, hv⟩ : ∃ w_ : World, w_ = ((((w11.setCell ⟨w10.heap.size, 0, none⟩ (x_40)).setCell ⟨w10.heap.size, 1, none⟩ (x_41)).setCell ⟨w10.heap.size, 2, none⟩ (x_42)).setCell ⟨w10.heap.size, 3, none⟩ (x_43)) := ⟨_, rfl⟩
        rw [← hv]
        have og : w11.grownBy w12 (some w10.heap.size) := by rw [hv]; exact (only_setCell (only_setCell (only_setCell (only_setCell (World.grownBy.refl _ _) _) _) _) _)
        have hz : w.heap.size ≤ w10.heap.size := by omega
        have hk : Bx w12 w10.heap.size 29 #[x_40, x_41, x_42, x_43] := by rw [hv]; exact (((((M.out.1).set 0 _).set 1 _).set 2 _).set 3 _)
        have hbw : Below w.heap.size w w12 := by rw [hv]; exact (Below.setCell (Below.setCell (Below.setCell (Below.setCell (M.out.2.2.2.2.2.2.2.2) (by omega) _) (by omega) _) (by omega) _) (by omega) _)
        replace M := Lib.hid (And.intro hk (And.intro ((M.out.2.1).far (M.out.1) (by rfl) (by omega) og) (And.intro ((M.out.2.2.1).far (M.out.1) (by rfl) (by omega) og) (And.intro ((M.out.2.2.2.1).only og (by omega)) (And.intro ((M.out.2.2.2.2.1).far (M.out.1) (by rfl) (by omega) og) (And.intro ((M.out.2.2.2.2.2.1).far (M.out.1) (by rfl) (by omega) og) (And.intro ((M.out.2.2.2.2.2.2.1).only og (by omega)) (And.intro ((M.out.2.2.2.2.2.2.2.1).far (M.out.1) (by rfl) (by omega) og) hbw))))))))
        clear hk hbw og hv hz
        refine hK.out _ _ (⟨(M.out.2.2.2.1).at.1 0, (M.out.2.2.2.1).at.1 1, (M.out.2.2.2.1).at.1 2, (M.out.2.2.2.1).at.1 3⟩) (fun hH48 => ?_)
        clear hK K hH47
        (try simp only [Act.put, List.setIfInBounds_toArray, List.set_cons_zero, List.set_cons_succ])
        refine tk at9 ?_
        refine wpAnyH_done (by kernel_rfl) ?_ _
        clear hH48
        go_wp2_with fail
        go_meet
        exact ⟨w10.heap.size, x_33, x_34, x_35, x_36, q37, x_40, x_41, x_42, x_43, q44, rfl, rfl, Eq37, Eq44, Sq37, Sq44, (by omega), (M.out.1), (M.out.2.1), (M.out.2.2.1), (M.out.2.2.2.2.1), (M.out.2.2.2.2.2.1), (M.out.2.2.2.2.2.2.2.1), (M.out.2.2.2.2.2.2.1), (M.out.2.2.2.1), (M.out.2.2.2.2.2.2.2.2)⟩
      refine AllReadyH.cons at7 (fun K hK => ?_) AllReadyH.nil
      go_simp
      obtain ⟨w10, hv⟩ : ∃ w_ : World, w_ = (w9.alloc (.cells #[.int .i64 0, .slice none 0 0, .int .i64 0, .slice none 0 0] 29)) := ⟨_, rfl⟩
      rw [← hv]
      have ow2_ : w6.heap.size < w9.heap.size := ((M.out.2.1)).lt
      replace M := Lib.hid (And.intro (hv ▸ bx1 w9 29 #[.int .i64 0, .slice none 0 0, .int .i64 0, .slice none 0 0]) (Goes.go M.out (hv ▸ below_alloc _ _ : Below w9.heap.size w9 w10)))
      clear hv
      refine hK.out _ _ (⟨(M.out.2.2.1).at.1 0, (M.out.2.2.1).at.1 1, (M.out.2.2.1).at.1 2, (M.out.2.2.1).at.1 3⟩) (fun hH49 => ?_)
      clear hK K hH39
      (try simp only [Act.put, List.setIfInBounds_toArray, List.set_cons_zero, List.set_cons_succ])
      refine wpAnyH_ready (rs := [3]) (by kernel_rfl) (by simp) ?_
      refine AllReadyH.cons at3 (fun K hK => ?_) AllReadyH.nil
      go_simp
      obtain ⟨q54, eq54⟩ : ∃ v_ : Rat, v_ = (q15 / q37) := ⟨_, rfl⟩
      refine (fqDiv (G := G) (q := q15) (r := q37) (Nat.le_trans hG (M.out.2.2.2.2.2.2.2).size) (M.out.2.2.2.2.1) (M.out.2.1) (Fz.mono (show Fz q15 3220 by rw [Eq15.out]; exact HZGb.out) (by omega)) (Fz.mono Sq37.out (by omega)) (by rw [Eq37.out]; exact cast_ne (by omega))).mono ?_
      rintro e w11 ⟨x_50, x_51, x_52, x_53, rfl, hd55, hb⟩
      rw [← eq54] at hd55
      have Sq54 : Hid (Fz q54 3224) := by show Fz q54 3224; rw [eq54]; exact (Fz.div (show Fz q15 3220 by rw [Eq15.out]; exact HZGb.out) Sq37.out (by rw [Eq37.out]; exact cast_ne (by omega)))
      have Eq54 := Lib.hid eq54; clear eq54
      replace M := Lib.hid (And.intro hd55 (Goes.go M.out hb))
      clear hb hd55
      (try go_wp2_with fail)
      refine hK.out _ _ (⟨(M.out.2.2.2.1).at.1 0, (M.out.2.2.2.1).at.1 1, (M.out.2.2.2.1).at.1 2, (M.out.2.2.2.1).at.1 3⟩) (fun hH56 => ?_)
      clear hK K hH49
      (try simp only [Act.put, List.setIfInBounds_toArray, List.set_cons_zero, List.set_cons_succ])
      refine tk at4 ?_
      refine tk at5 ?_
      refine tk at6 ?_
      refine wpAnyH_ready (rs := [8]) (by kernel_rfl) (by simp) ?_
      refine AllReadyH.cons at8 (fun K hK => ?_) AllReadyH.nil
      have y2 := (M.out.2.1).c4; have p2_0 := y2.1; have q2_0 := y2.2.1; have p2_1 := y2.2.2.1; have q2_1 := y2.2.2.2.1; have p2_2 := y2.2.2.2.2.1; have q2_2 := y2.2.2.2.2.2.1; have p2_3 := y2.2.2.2.2.2.2.1; have q2_3 := y2.2.2.2.2.2.2.2; clear y2
      have ys_x_50 := TQ.st (M.out.1); have st_x_50 := ys_x_50.1; have st_x_51 := ys_x_50.2.1; have st_x_52 := ys_x_50.2.2.1; have st_x_53 := ys_x_50.2.2.2; clear ys_x_50
      go_simp
      clear p2_0 q2_0 p2_1 q2_1 p2_2 q2_2 p2_3 q2_3 st_x_50 st_x_51 st_x_52 st_x_53
      obtain ⟨w12, hv⟩ : ∃ w_ : World, w_ = ((((w11.setCell ⟨w9.heap.size, 0, none⟩ (x_50)).setCell ⟨w9.heap.size, 1, none⟩ (x_51)).setCell ⟨w9.heap.size, 2, none⟩ (x_52)).setCell ⟨w9.heap.size, 3, none⟩ (x_53)) := ⟨_, rfl⟩
      rw [← hv]
      have og : w11.grownBy w12 (some w9.heap.size) := by rw [hv]; exact (only_setCell (only_setCell (only_setCell (only_setCell (World.grownBy.refl _ _) _) _) _) _)
      have hz : w.heap.size ≤ w9.heap.size := by omega
      have hk : Bx w12 w9.heap.size 29 #[x_50, x_51, x_52, x_53] := by rw [hv]; exact (((((M.out.2.1).set 0 _).set 1 _).set 2 _).set 3 _)
      have hbw : Below w.heap.size w w12 := by rw [hv]; exact (Below.setCell (Below.setCell (Below.setCell (Below.setCell (M.out.2.2.2.2.2.2.2.2) (by omega) _) (by omega) _) (by omega) _) (by omega) _)
      replace M := Lib.hid (And.intro ((M.out.1).far (M.out.2.1) (by rfl) (by omega) og) (And.intro hk (And.intro ((M.out.2.2.1).far (M.out.2.1) (by rfl) (by omega) og) (And.intro ((M.out.2.2.2.1).only og (by omega)) (And.intro ((M.out.2.2.2.2.1).far (M.out.2.1) (by rfl) (by omega) og) (And.intro ((M.out.2.2.2.2.2.1).far (M.out.2.1) (by rfl) (by omega) og) (And.intro ((M.out.2.2.2.2.2.2.1).only og (by omega)) (And.intro ((M.out.2.2.2.2.2.2.2.1).far (M.out.2.1) (by rfl) (by omega) og) hbw))))))))
      clear hk hbw og hv hz
      refine hK.out _ _ (⟨(M.out.2.2.2.1).at.1 0, (M.out.2.2.2.1).at.1 1, (M.out.2.2.2.1).at.1 2, (M.out.2.2.2.1).at.1 3⟩) (fun hH57 => ?_)
      clear hK K hH56
      (try simp only [Act.put, List.setIfInBounds_toArray, List.set_cons_zero, List.set_cons_succ])
      refine tk at9 ?_
      refine wpAnyH_done (by kernel_rfl) ?_ _
      clear hH57
      go_wp2_with fail
      go_meet
      exact ⟨w9.heap.size, x_33, x_34, x_35, x_36, q37, x_50, x_51, x_52, x_53, q54, rfl, rfl, Eq37, Eq54, Sq37, Sq54, (by omega), (M.out.2.1), (M.out.1), (M.out.2.2.1), (M.out.2.2.2.2.1), (M.out.2.2.2.2.2.1), (M.out.2.2.2.2.2.2.2.1), (M.out.2.2.2.2.2.2.1), (M.out.2.2.2.1), (M.out.2.2.2.2.2.2.2.2)⟩
    refine AllReadyH.cons at7 (fun K hK => ?_) AllReadyH.nil
    go_simp
    obtain ⟨w9, hv⟩ : ∃ w_ : World, w_ = (w8.alloc (.cells #[.int .i64 0, .slice none 0 0, .int .i64 0, .slice none 0 0] 29)) := ⟨_, rfl⟩
    rw [← hv]
    have ow2_ : w6.heap.size < w8.heap.size := ((M.out.1)).lt
    replace M := Lib.hid (And.intro (hv ▸ bx1 w8 29 #[.int .i64 0, .slice none 0 0, .int .i64 0, .slice none 0 0]) (Goes.go M.out (hv ▸ below_alloc _ _ : Below w8.heap.size w8 w9)))
    clear hv
    refine hK.out _ _ (⟨(M.out.2.1).at.1 0, (M.out.2.1).at.1 1, (M.out.2.1).at.1 2, (M.out.2.1).at.1 3⟩) (fun hH58 => ?_)
    clear hK K hH32
    (try simp only [Act.put, List.setIfInBounds_toArray, List.set_cons_zero, List.set_cons_succ])
    refine wpAnyH_ready (rs := [2]) (by kernel_rfl) (by simp) ?_
    refine AllReadyH.cons at2 (fun K hK => ?_) AllReadyH.nil
    go_simp
    obtain ⟨q63, eq63⟩ : ∃ v_ : Rat, v_ = (am : Rat) := ⟨_, rfl⟩
    refine (fqInt (G := G) (x := am) (by omega)).mono ?_
    rintro e w10 ⟨x_59, x_60, x_61, x_62, rfl, hd64, hb⟩
    rw [← eq63] at hd64
    have Sq63 : Hid (Fz q63 4) := by show Fz q63 4; rw [eq63]; exact (Fz.int64 (by omega))
    have Eq63 := Lib.hid eq63; clear eq63
    replace M := Lib.hid (And.intro hd64 (Goes.go M.out hb))
    clear hb hd64
    (try go_wp2_with fail)
    refine hK.out _ _ (⟨(M.out.2.2.1).at.1 0, (M.out.2.2.1).at.1 1, (M.out.2.2.1).at.1 2, (M.out.2.2.1).at.1 3⟩) (fun hH65 => ?_)
    clear hK K hH58
    (try simp only [Act.put, List.setIfInBounds_toArray, List.set_cons_zero, List.set_cons_succ])
    refine wpAnyH_ready (rs := [3]) (by kernel_rfl) (by simp) ?_
    refine AllReadyH.cons at3 (fun K hK => ?_) AllReadyH.nil
    go_simp
    obtain ⟨q70, eq70⟩ : ∃ v_ : Rat, v_ = (q15 / q63) := ⟨_, rfl⟩
    refine (fqDiv (G := G) (q := q15) (r := q63) (Nat.le_trans hG (M.out.2.2.2.2.2.2.2).size) (M.out.2.2.2.2.1) (M.out.1) (Fz.mono (show Fz q15 3220 by rw [Eq15.out]; exact HZGb.out) (by omega)) (Fz.mono Sq63.out (by omega)) (by rw [Eq63.out]; exact cast_ne (by omega))).mono ?_
    rintro e w11 ⟨x_66, x_67, x_68, x_69, rfl, hd71, hb⟩
    rw [← eq70] at hd71
    have Sq70 : Hid (Fz q70 3224) := by show Fz q70 3224; rw [eq70]; exact (Fz.div (show Fz q15 3220 by rw [Eq15.out]; exact HZGb.out) Sq63.out (by rw [Eq63.out]; exact cast_ne (by omega)))
    have Eq70 := Lib.hid eq70; clear eq70
    replace M := Lib.hid (And.intro hd71 (Goes.go M.out hb))
    clear hb hd71
    (try go_wp2_with fail)
    refine hK.out _ _ (⟨(M.out.2.2.2.1).at.1 0, (M.out.2.2.2.1).at.1 1, (M.out.2.2.2.1).at.1 2, (M.out.2.2.2.1).at.1 3⟩) (fun hH72 => ?_)
    clear hK K hH65
    (try simp only [Act.put, List.setIfInBounds_toArray, List.set_cons_zero, List.set_cons_succ])
    refine tk at4 ?_
    refine tk at5 ?_
    refine tk at6 ?_
    refine wpAnyH_ready (rs := [8]) (by kernel_rfl) (by simp) ?_
    refine AllReadyH.cons at8 (fun K hK => ?_) AllReadyH.nil
    have y2 := (M.out.2.2.1).c4; have p2_0 := y2.1; have q2_0 := y2.2.1; have p2_1 := y2.2.2.1; have q2_1 := y2.2.2.2.1; have p2_2 := y2.2.2.2.2.1; have q2_2 := y2.2.2.2.2.2.1; have p2_3 := y2.2.2.2.2.2.2.1; have q2_3 := y2.2.2.2.2.2.2.2; clear y2
    have ys_x_66 := TQ.st (M.out.1); have st_x_66 := ys_x_66.1; have st_x_67 := ys_x_66.2.1; have st_x_68 := ys_x_66.2.2.1; have st_x_69 := ys_x_66.2.2.2; clear ys_x_66
    go_simp
    clear p2_0 q2_0 p2_1 q2_1 p2_2 q2_2 p2_3 q2_3 st_x_66 st_x_67 st_x_68 st_x_69
    obtain ⟨w12, hv⟩ : ∃ w_ : World, w_ = ((((w11.setCell ⟨w8.heap.size, 0, none⟩ (x_66)).setCell ⟨w8.heap.size, 1, none⟩ (x_67)).setCell ⟨w8.heap.size, 2, none⟩ (x_68)).setCell ⟨w8.heap.size, 3, none⟩ (x_69)) := ⟨_, rfl⟩
    rw [← hv]
    have og : w11.grownBy w12 (some w8.heap.size) := by rw [hv]; exact (only_setCell (only_setCell (only_setCell (only_setCell (World.grownBy.refl _ _) _) _) _) _)
    have hz : w.heap.size ≤ w8.heap.size := by omega
    have hk : Bx w12 w8.heap.size 29 #[x_66, x_67, x_68, x_69] := by rw [hv]; exact (((((M.out.2.2.1).set 0 _).set 1 _).set 2 _).set 3 _)
    have hbw : Below w.heap.size w w12 := by rw [hv]; exact (Below.setCell (Below.setCell (Below.setCell (Below.setCell (M.out.2.2.2.2.2.2.2.2) (by omega) _) (by omega) _) (by omega) _) (by omega) _)
    replace M := Lib.hid (And.intro ((M.out.1).far (M.out.2.2.1) (by rfl) (by omega) og) (And.intro ((M.out.2.1).far (M.out.2.2.1) (by rfl) (by omega) og) (And.intro hk (And.intro ((M.out.2.2.2.1).only og (by omega)) (And.intro ((M.out.2.2.2.2.1).far (M.out.2.2.1) (by rfl) (by omega) og) (And.intro ((M.out.2.2.2.2.2.1).far (M.out.2.2.1) (by rfl) (by omega) og) (And.intro ((M.out.2.2.2.2.2.2.1).only og (by omega)) (And.intro ((M.out.2.2.2.2.2.2.2.1).far (M.out.2.2.1) (by rfl) (by omega) og) hbw))))))))
    clear hk hbw og hv hz
    refine hK.out _ _ (⟨(M.out.2.2.2.1).at.1 0, (M.out.2.2.2.1).at.1 1, (M.out.2.2.2.1).at.1 2, (M.out.2.2.2.1).at.1 3⟩) (fun hH73 => ?_)
    clear hK K hH72
    (try simp only [Act.put, List.setIfInBounds_toArray, List.set_cons_zero, List.set_cons_succ])
    refine tk at9 ?_
    refine wpAnyH_done (by kernel_rfl) ?_ _
    clear hH73
    go_wp2_with fail
    go_meet
    exact ⟨w8.heap.size, x_59, x_60, x_61, x_62, q63, x_66, x_67, x_68, x_69, q70, rfl, rfl, Eq63, Eq70, Sq63, Sq70, (by omega), (M.out.2.2.1), (M.out.1), (M.out.2.1), (M.out.2.2.2.2.1), (M.out.2.2.2.2.2.1), (M.out.2.2.2.2.2.2.2.1), (M.out.2.2.2.2.2.2.1), (M.out.2.2.2.1), (M.out.2.2.2.2.2.2.2.2)⟩
  case rest =>
    obtain ⟨A31, x_19, x_20, x_21, x_22, q23, x_25, x_26, x_27, x_28, q29, rfl, rfl, Eq23, Eq29, Sq23, Sq29, oA31, M⟩ := hcut
    obtain ⟨w8, rfl⟩ : ∃ w_ : World, w_ = wc := ⟨_, rfl⟩
    go_wp2_with fail
    replace M := Lib.hid (And.intro (M.out.1) (And.intro (M.out.2.1) (And.intro (M.out.2.2.2.1) (And.intro (M.out.2.2.2.2.1) (And.intro (M.out.2.2.2.2.2.1) (And.intro (M.out.2.2.2.2.2.2.1) (And.intro (M.out.2.2.2.2.2.2.2.1) (M.out.2.2.2.2.2.2.2.2))))))))
    obtain ⟨mv, hmv⟩ : ∃ m : Rat, m = sumB (l.map LC.ly) / ((N0 : Int) : Rat) := ⟨_, rfl⟩
    have HMV := Lib.hid hmv; clear hmv
    go_loopw [15, 16, 17, 18] (fun i15 i16 i17 i18 wr => ∃ (k : Nat) (b15 : Bool) (b16 : Bool) (b17 : Bool), i15 = .bool b15 ∧ i16 = .bool b16 ∧ i17 = .bool b17 ∧ i18 = .int .i64 (k : Int) ∧ Hid (k ≤ n) ∧ Hid (LowQ l k q29 b15) ∧ Hid (HighQ l k q29 b16) ∧ Hid (SameQ l k mv b17) ∧ Hid (Bx wr A31 29 #[x_25, x_26, x_27, x_28] ∧ FQ G wr x_25 x_26 x_27 x_28 q29 ∧ RdC G wr a_7 n_8 c_9 l_10 ∧ FQ G wr x_11 x_12 x_13 x_14 q15 ∧ FQ G wr x_1 x_2 x_3 x_4 q5 ∧ Bx wr w4.heap.size 29 #[x_1, x_2, x_3, x_4] ∧ Bx wr w6.heap.size 29 #[x_11, x_12, x_13, x_14] ∧ Below w.heap.size w wr)) (fun i15 i16 i17 i18 _ => n - (RowKit.intOf i18).toNat)
    case atStart =>
      exact ⟨0, false, false, true, rfl, rfl, rfl, rfl, (by show _ ≤ _; omega), (Lib.hid (fun _ y_ hy_ => by simp at hy_)), (Lib.hid (fun _ y_ hy_ => by simp at hy_)), (Lib.hid (fun _ y_ hy_ => by simp at hy_)), Lib.hid (And.intro (M.out.1) (And.intro (M.out.2.1) (And.intro (M.out.2.2.1) (And.intro (M.out.2.2.2.1) (And.intro (M.out.2.2.2.2.1) (And.intro (M.out.2.2.2.2.2.1) (And.intro (M.out.2.2.2.2.2.2.1) (M.out.2.2.2.2.2.2.2))))))))⟩
    case round =>
      obtain ⟨w9, rfl⟩ : ∃ x, x = wr := ⟨_, rfl⟩
      clear M
      obtain ⟨k, b15, b16, b17, rfl, rfl, rfl, rfl, hk, HL1, HM1, HS1, M⟩ := hrel
      have hk := hk.out
      by_cases hlt : k < n
      ·
        have f1_0 : decide (k < n) = true := decide_eq_true (by omega)
        have f1_1 : decide ((k : Int) < (n : Int)) = true := decide_eq_true (by omega)
        have f1_i : (k : Int) < (n : Int) := by omega
        obtain ⟨b, off, rfl, hb_⟩ := RdL.ptr HC0.out (by omega : 0 < n)
        have hkl_ : k < l.length := by rw [HC0.out.len]; exact hlt
        obtain ⟨x_, hx_⟩ : ∃ x, l[k]? = some x := ⟨l[k], List.getElem?_eq_getElem hkl_⟩
        obtain ⟨xn, xu0, xu1, xu2, xu3, xq⟩ := x_
        have HRx : Hid (Row w b (off + k * 5) [.int .i64 xn, xu0, xu1, xu2, xu3]) := hb_.row hx_
        have HQx : Hid (FQ G w xu0 xu1 xu2 xu3 xq) := hb_.ok hx_
        have HEx := Lib.hid hx_; clear hx_ hkl_ hb_
        have HZx : Hid (Fz xq 3) := HZ3.out _ (List.mem_of_getElem? HEx.out)
        have hx1 : 1 ≤ xn := (HOK.out.ok _ (List.mem_of_getElem? HEx.out)).1
        have hx2 : xn ≤ 1099511627776 := (HOK.out.ns _ (List.mem_of_getElem? HEx.out)).2
        obtain ⟨k1, hk1⟩ : ∃ k, ordQ (xq / ((xn : Int) : Rat)) q29 = k := ⟨_, rfl⟩
        have HK1 := Lib.hid hk1; clear hk1
        obtain ⟨bs, hbs⟩ : ∃ b, decide (xq / ((xn : Int) : Rat) = mv) = b := ⟨_, rfl⟩
        have HBS := Lib.hid hbs; clear hbs
        go_upto_region 15 with fail
        go_cut [19, 20] (fun s19 s20 wx => ∃ (A86 : Nat), ∃ (x_74 : Value), ∃ (x_75 : Value), ∃ (x_76 : Value), ∃ (x_77 : Value), ∃ (q78 : Rat), ∃ (x_80 : Value), ∃ (x_81 : Value), ∃ (x_82 : Value), ∃ (x_83 : Value), ∃ (q84 : Rat), s19 = .pointer (some ⟨A86, 0, none⟩) ∧ s20 = .int .i64 0 ∧ Hid (q78 = (xn : Rat)) ∧ Hid (q84 = (xq / q78)) ∧ Hid (Fz q78 4) ∧ Hid (Fz q84 7) ∧ A31 < A86 ∧ Hid (Bx wx A86 29 #[x_80, x_81, x_82, x_83] ∧ FQ G wx x_80 x_81 x_82 x_83 q84 ∧ FQ G wx x_74 x_75 x_76 x_77 q78 ∧ FQ G wx x_25 x_26 x_27 x_28 q29 ∧ RdC G wx a_7 n_8 c_9 l_10 ∧ FQ G wx x_11 x_12 x_13 x_14 q15 ∧ FQ G wx x_1 x_2 x_3 x_4 q5 ∧ Bx wx w4.heap.size 29 #[x_1, x_2, x_3, x_4] ∧ Bx wx w6.heap.size 29 #[x_11, x_12, x_13, x_14] ∧ Bx wx A31 29 #[x_25, x_26, x_27, x_28] ∧ Below w.heap.size w wx))
        case first =>
          obtain ⟨w10, hv⟩ : ∃ w_ : World, w_ = w9.drew := ⟨_, rfl⟩
          replace M := Lib.hid (Goes.go M.out (hv ▸ below_drew _ : Below w9.heap.size w9 w10))
          refine wp_region_held_drew (S := (fun w' => w'.cell? ⟨b, off + k * 5, none⟩ = some (.int .i64 xn) ∧ w'.cell? ⟨b, off + k * 5 + 1, none⟩ = some (xu0) ∧ w'.cell? ⟨b, off + k * 5 + 2, none⟩ = some (xu1) ∧ w'.cell? ⟨b, off + k * 5 + 3, none⟩ = some (xu2) ∧ w'.cell? ⟨b, off + k * 5 + 4, none⟩ = some (xu3))) (by kernel_rfl) (by rw [← hv]; exact ⟨(HRx.out.keep (M.out.2.2.2.2.2.2.2)).2 0 _ rfl, (HRx.out.keep (M.out.2.2.2.2.2.2.2)).2 1 _ rfl, (HRx.out.keep (M.out.2.2.2.2.2.2.2)).2 2 _ rfl, (HRx.out.keep (M.out.2.2.2.2.2.2.2)).2 3 _ rfl, (HRx.out.keep (M.out.2.2.2.2.2.2.2)).2 4 _ rfl⟩) (fun hH87 => ?_)
          rw [← hv] at hH87 ⊢
          clear hv
          refine tk at0 ?_
          refine tk at1 ?_
          refine tk at2 ?_
          refine tk at3 ?_
          refine tk at4 ?_
          refine tk at5 ?_
          refine tk at6 ?_
          refine tk at7 ?_
          refine tk at8 ?_
          refine tk at9 ?_
          refine wpAnyH_ready (rs := [10, 15]) (by kernel_rfl) (by simp) ?_
          refine AllReadyH.cons at10 (fun K hK => ?_) ?_
          ·
            go_simp
            obtain ⟨q92, eq92⟩ : ∃ v_ : Rat, v_ = (xn : Rat) := ⟨_, rfl⟩
            refine (fqInt (G := G) (x := xn) (by omega)).mono ?_
            rintro e w11 ⟨x_88, x_89, x_90, x_91, rfl, hd93, hb⟩
            rw [← eq92] at hd93
            have Sq92 : Hid (Fz q92 4) := by show Fz q92 4; rw [eq92]; exact (Fz.int64 (by omega))
            have Eq92 := Lib.hid eq92; clear eq92
            replace M := Lib.hid (And.intro hd93 (Goes.go M.out hb))
            clear hb hd93
            (try go_wp2_with fail)
            refine hK.out _ _ (⟨(HRx.out.keep (M.out.2.2.2.2.2.2.2.2)).2 0 _ rfl, (HRx.out.keep (M.out.2.2.2.2.2.2.2.2)).2 1 _ rfl, (HRx.out.keep (M.out.2.2.2.2.2.2.2.2)).2 2 _ rfl, (HRx.out.keep (M.out.2.2.2.2.2.2.2.2)).2 3 _ rfl, (HRx.out.keep (M.out.2.2.2.2.2.2.2.2)).2 4 _ rfl⟩) (fun hH94 => ?_)
            clear hK K hH87
            (try simp only [Act.put, List.setIfInBounds_toArray, List.set_cons_zero, List.set_cons_succ])
            refine wpAnyH_ready (rs := [11, 15]) (by kernel_rfl) (by simp) ?_
            refine AllReadyH.cons at11 (fun K hK => ?_) ?_
            ·
              go_simp
              obtain ⟨q99, eq99⟩ : ∃ v_ : Rat, v_ = (xq / q92) := ⟨_, rfl⟩
              refine (fqDiv (G := G) (q := xq) (r := q92) (Nat.le_trans hG (M.out.2.2.2.2.2.2.2.2).size) (HQx.out.keep (M.out.2.2.2.2.2.2.2.2)) (M.out.1) (Fz.mono HZx.out (by omega)) (Fz.mono Sq92.out (by omega)) (by rw [Eq92.out]; exact cast_ne (by omega))).mono ?_
              rintro e w12 ⟨x_95, x_96, x_97, x_98, rfl, hd100, hb⟩
              rw [← eq99] at hd100
              have Sq99 : Hid (Fz q99 7) := by show Fz q99 7; rw [eq99]; exact (Fz.div HZx.out Sq92.out (by rw [Eq92.out]; exact cast_ne (by omega)))
              have Eq99 := Lib.hid eq99; clear eq99
              replace M := Lib.hid (And.intro hd100 (Goes.go M.out hb))
              clear hb hd100
              (try go_wp2_with fail)
              refine hK.out _ _ (⟨(HRx.out.keep (M.out.2.2.2.2.2.2.2.2.2)).2 0 _ rfl, (HRx.out.keep (M.out.2.2.2.2.2.2.2.2.2)).2 1 _ rfl, (HRx.out.keep (M.out.2.2.2.2.2.2.2.2.2)).2 2 _ rfl, (HRx.out.keep (M.out.2.2.2.2.2.2.2.2.2)).2 3 _ rfl, (HRx.out.keep (M.out.2.2.2.2.2.2.2.2.2)).2 4 _ rfl⟩) (fun hH101 => ?_)
              clear hK K hH94
              (try simp only [Act.put, List.setIfInBounds_toArray, List.set_cons_zero, List.set_cons_succ])
              refine tk at12 ?_
              refine tk at13 ?_
              refine tk at14 ?_
              refine wpAnyH_ready (rs := [15]) (by kernel_rfl) (by simp) ?_
              refine AllReadyH.cons at15 (fun K hK => ?_) AllReadyH.nil
              go_simp
              obtain ⟨w13, hv⟩ : ∃ w_ : World, w_ = (w12.alloc (.cells #[.int .i64 0, .slice none 0 0, .int .i64 0, .slice none 0 0] 29)) := ⟨_, rfl⟩
              rw [← hv]
              have ow3_ : A31 < w12.heap.size := ((M.out.2.2.1)).lt
              replace M := Lib.hid (And.intro (hv ▸ bx1 w12 29 #[.int .i64 0, .slice none 0 0, .int .i64 0, .slice none 0 0]) (Goes.go M.out (hv ▸ below_alloc _ _ : Below w12.heap.size w12 w13)))
              clear hv
              refine hK.out _ _ (⟨(HRx.out.keep (M.out.2.2.2.2.2.2.2.2.2.2)).2 0 _ rfl, (HRx.out.keep (M.out.2.2.2.2.2.2.2.2.2.2)).2 1 _ rfl, (HRx.out.keep (M.out.2.2.2.2.2.2.2.2.2.2)).2 2 _ rfl, (HRx.out.keep (M.out.2.2.2.2.2.2.2.2.2.2)).2 3 _ rfl, (HRx.out.keep (M.out.2.2.2.2.2.2.2.2.2.2)).2 4 _ rfl⟩) (fun hH102 => ?_)
              clear hK K hH101
              (try simp only [Act.put, List.setIfInBounds_toArray, List.set_cons_zero, List.set_cons_succ])
              refine wpAnyH_ready (rs := [16]) (by kernel_rfl) (by simp) ?_
              refine AllReadyH.cons at16 (fun K hK => ?_) AllReadyH.nil
              have y3 := (M.out.1).c4; have p3_0 := y3.1; have q3_0 := y3.2.1; have p3_1 := y3.2.2.1; have q3_1 := y3.2.2.2.1; have p3_2 := y3.2.2.2.2.1; have q3_2 := y3.2.2.2.2.2.1; have p3_3 := y3.2.2.2.2.2.2.1; have q3_3 := y3.2.2.2.2.2.2.2; clear y3
              have ys_x_95 := TQ.st (M.out.2.1); have st_x_95 := ys_x_95.1; have st_x_96 := ys_x_95.2.1; have st_x_97 := ys_x_95.2.2.1; have st_x_98 := ys_x_95.2.2.2; clear ys_x_95
              go_simp
              clear p3_0 q3_0 p3_1 q3_1 p3_2 q3_2 p3_3 q3_3 st_x_95 st_x_96 st_x_97 st_x_98
              obtain ⟨w14, hv⟩ : ∃ w_ : World, w_ = ((((w13.setCell ⟨w12.heap.size, 0, none⟩ (x_95)).setCell ⟨w12.heap.size, 1, none⟩ (x_96)).setCell ⟨w12.heap.size, 2, none⟩ (x_97)).setCell ⟨w12.heap.size, 3, none⟩ (x_98)) := ⟨_, rfl⟩
              rw [← hv]
              have og : w13.grownBy w14 (some w12.heap.size) := by rw [hv]; exact (only_setCell (only_setCell (only_setCell (only_setCell (World.grownBy.refl _ _) _) _) _) _)
              have hz : w.heap.size ≤ w12.heap.size := by omega
              have hk : Bx w14 w12.heap.size 29 #[x_95, x_96, x_97, x_98] := by rw [hv]; exact (((((M.out.1).set 0 _).set 1 _).set 2 _).set 3 _)
              have hbw : Below w.heap.size w w14 := by rw [hv]; exact (Below.setCell (Below.setCell (Below.setCell (Below.setCell (M.out.2.2.2.2.2.2.2.2.2.2) (by omega) _) (by omega) _) (by omega) _) (by omega) _)
              replace M := Lib.hid (And.intro hk (And.intro ((M.out.2.1).far (M.out.1) (by rfl) (by omega) og) (And.intro ((M.out.2.2.1).far (M.out.1) (by rfl) (by omega) og) (And.intro ((M.out.2.2.2.1).only og (by omega)) (And.intro ((M.out.2.2.2.2.1).far (M.out.1) (by rfl) (by omega) og) (And.intro ((M.out.2.2.2.2.2.1).far (M.out.1) (by rfl) (by omega) og) (And.intro ((M.out.2.2.2.2.2.2.1).far (M.out.1) (by rfl) (by omega) og) (And.intro ((M.out.2.2.2.2.2.2.2.1).far (M.out.1) (by rfl) (by omega) og) (And.intro ((M.out.2.2.2.2.2.2.2.2.1).only og (by omega)) (And.intro ((M.out.2.2.2.2.2.2.2.2.2.1).only og (by omega)) hbw))))))))))
              clear hk hbw og hv hz
              refine hK.out _ _ (⟨(HRx.out.keep (M.out.2.2.2.2.2.2.2.2.2.2)).2 0 _ rfl, (HRx.out.keep (M.out.2.2.2.2.2.2.2.2.2.2)).2 1 _ rfl, (HRx.out.keep (M.out.2.2.2.2.2.2.2.2.2.2)).2 2 _ rfl, (HRx.out.keep (M.out.2.2.2.2.2.2.2.2.2.2)).2 3 _ rfl, (HRx.out.keep (M.out.2.2.2.2.2.2.2.2.2.2)).2 4 _ rfl⟩) (fun hH103 => ?_)
              clear hK K hH102
              (try simp only [Act.put, List.setIfInBounds_toArray, List.set_cons_zero, List.set_cons_succ])
              refine tk at17 ?_
              refine wpAnyH_done (by kernel_rfl) ?_ _
              clear hH103
              go_wp2_with fail
              go_meet
              exact ⟨w12.heap.size, x_88, x_89, x_90, x_91, q92, x_95, x_96, x_97, x_98, q99, rfl, rfl, Eq92, Eq99, Sq92, Sq99, (by omega), (M.out.1), (M.out.2.1), (M.out.2.2.1), (M.out.2.2.2.2.1), (M.out.2.2.2.2.2.1), (M.out.2.2.2.2.2.2.1), (M.out.2.2.2.2.2.2.2.1), (M.out.2.2.2.2.2.2.2.2.1), (M.out.2.2.2.2.2.2.2.2.2.1), (M.out.2.2.2.1), (M.out.2.2.2.2.2.2.2.2.2.2)⟩
            refine AllReadyH.cons at15 (fun K hK => ?_) AllReadyH.nil
            go_simp
            obtain ⟨w12, hv⟩ : ∃ w_ : World, w_ = (w11.alloc (.cells #[.int .i64 0, .slice none 0 0, .int .i64 0, .slice none 0 0] 29)) := ⟨_, rfl⟩
            rw [← hv]
            have ow3_ : A31 < w11.heap.size := ((M.out.2.1)).lt
            replace M := Lib.hid (And.intro (hv ▸ bx1 w11 29 #[.int .i64 0, .slice none 0 0, .int .i64 0, .slice none 0 0]) (Goes.go M.out (hv ▸ below_alloc _ _ : Below w11.heap.size w11 w12)))
            clear hv
            refine hK.out _ _ (⟨(HRx.out.keep (M.out.2.2.2.2.2.2.2.2.2)).2 0 _ rfl, (HRx.out.keep (M.out.2.2.2.2.2.2.2.2.2)).2 1 _ rfl, (HRx.out.keep (M.out.2.2.2.2.2.2.2.2.2)).2 2 _ rfl, (HRx.out.keep (M.out.2.2.2.2.2.2.2.2.2)).2 3 _ rfl, (HRx.out.keep (M.out.2.2.2.2.2.2.2.2.2)).2 4 _ rfl⟩) (fun hH104 => ?_)
            clear hK K hH94
            (try simp only [Act.put, List.setIfInBounds_toArray, List.set_cons_zero, List.set_cons_succ])
            refine wpAnyH_ready (rs := [11]) (by kernel_rfl) (by simp) ?_
            refine AllReadyH.cons at11 (fun K hK => ?_) AllReadyH.nil
            go_simp
            obtain ⟨q109, eq109⟩ : ∃ v_ : Rat, v_ = (xq / q92) := ⟨_, rfl⟩
            refine (fqDiv (G := G) (q := xq) (r := q92) (Nat.le_trans hG (M.out.2.2.2.2.2.2.2.2.2).size) (HQx.out.keep (M.out.2.2.2.2.2.2.2.2.2)) (M.out.2.1) (Fz.mono HZx.out (by omega)) (Fz.mono Sq92.out (by omega)) (by rw [Eq92.out]; exact cast_ne (by omega))).mono ?_
            rintro e w13 ⟨x_105, x_106, x_107, x_108, rfl, hd110, hb⟩
            rw [← eq109] at hd110
            have Sq109 : Hid (Fz q109 7) := by show Fz q109 7; rw [eq109]; exact (Fz.div HZx.out Sq92.out (by rw [Eq92.out]; exact cast_ne (by omega)))
            have Eq109 := Lib.hid eq109; clear eq109
            replace M := Lib.hid (And.intro hd110 (Goes.go M.out hb))
            clear hb hd110
            (try go_wp2_with fail)
            refine hK.out _ _ (⟨(HRx.out.keep (M.out.2.2.2.2.2.2.2.2.2.2)).2 0 _ rfl, (HRx.out.keep (M.out.2.2.2.2.2.2.2.2.2.2)).2 1 _ rfl, (HRx.out.keep (M.out.2.2.2.2.2.2.2.2.2.2)).2 2 _ rfl, (HRx.out.keep (M.out.2.2.2.2.2.2.2.2.2.2)).2 3 _ rfl, (HRx.out.keep (M.out.2.2.2.2.2.2.2.2.2.2)).2 4 _ rfl⟩) (fun hH111 => ?_)
            clear hK K hH104
            (try simp only [Act.put, List.setIfInBounds_toArray, List.set_cons_zero, List.set_cons_succ])
            refine tk at12 ?_
            refine tk at13 ?_
            refine tk at14 ?_
            refine wpAnyH_ready (rs := [16]) (by kernel_rfl) (by simp) ?_
            refine AllReadyH.cons at16 (fun K hK => ?_) AllReadyH.nil
            have y3 := (M.out.2.1).c4; have p3_0 := y3.1; have q3_0 := y3.2.1; have p3_1 := y3.2.2.1; have q3_1 := y3.2.2.2.1; have p3_2 := y3.2.2.2.2.1; have q3_2 := y3.2.2.2.2.2.1; have p3_3 := y3.2.2.2.2.2.2.1; have q3_3 := y3.2.2.2.2.2.2.2; clear y3
            have ys_x_105 := TQ.st (M.out.1); have st_x_105 := ys_x_105.1; have st_x_106 := ys_x_105.2.1; have st_x_107 := ys_x_105.2.2.1; have st_x_108 := ys_x_105.2.2.2; clear ys_x_105
            go_simp
            clear p3_0 q3_0 p3_1 q3_1 p3_2 q3_2 p3_3 q3_3 st_x_105 st_x_106 st_x_107 st_x_108
            obtain ⟨w14, hv⟩ : ∃ w_ : World, w_ = ((((w13.setCell ⟨w11.heap.size, 0, none⟩ (x_105)).setCell ⟨w11.heap.size, 1, none⟩ (x_106)).setCell ⟨w11.heap.size, 2, none⟩ (x_107)).setCell ⟨w11.heap.size, 3, none⟩ (x_108)) := ⟨_, rfl⟩
            rw [← hv]
            have og : w13.grownBy w14 (some w11.heap.size) := by rw [hv]; exact (only_setCell (only_setCell (only_setCell (only_setCell (World.grownBy.refl _ _) _) _) _) _)
            have hz : w.heap.size ≤ w11.heap.size := by omega
            have hk : Bx w14 w11.heap.size 29 #[x_105, x_106, x_107, x_108] := by rw [hv]; exact (((((M.out.2.1).set 0 _).set 1 _).set 2 _).set 3 _)
            have hbw : Below w.heap.size w w14 := by rw [hv]; exact (Below.setCell (Below.setCell (Below.setCell (Below.setCell (M.out.2.2.2.2.2.2.2.2.2.2) (by omega) _) (by omega) _) (by omega) _) (by omega) _)
            replace M := Lib.hid (And.intro ((M.out.1).far (M.out.2.1) (by rfl) (by omega) og) (And.intro hk (And.intro ((M.out.2.2.1).far (M.out.2.1) (by rfl) (by omega) og) (And.intro ((M.out.2.2.2.1).only og (by omega)) (And.intro ((M.out.2.2.2.2.1).far (M.out.2.1) (by rfl) (by omega) og) (And.intro ((M.out.2.2.2.2.2.1).far (M.out.2.1) (by rfl) (by omega) og) (And.intro ((M.out.2.2.2.2.2.2.1).far (M.out.2.1) (by rfl) (by omega) og) (And.intro ((M.out.2.2.2.2.2.2.2.1).far (M.out.2.1) (by rfl) (by omega) og) (And.intro ((M.out.2.2.2.2.2.2.2.2.1).only og (by omega)) (And.intro ((M.out.2.2.2.2.2.2.2.2.2.1).only og (by omega)) hbw))))))))))
            clear hk hbw og hv hz
            refine hK.out _ _ (⟨(HRx.out.keep (M.out.2.2.2.2.2.2.2.2.2.2)).2 0 _ rfl, (HRx.out.keep (M.out.2.2.2.2.2.2.2.2.2.2)).2 1 _ rfl, (HRx.out.keep (M.out.2.2.2.2.2.2.2.2.2.2)).2 2 _ rfl, (HRx.out.keep (M.out.2.2.2.2.2.2.2.2.2.2)).2 3 _ rfl, (HRx.out.keep (M.out.2.2.2.2.2.2.2.2.2.2)).2 4 _ rfl⟩) (fun hH112 => ?_)
            clear hK K hH111
            (try simp only [Act.put, List.setIfInBounds_toArray, List.set_cons_zero, List.set_cons_succ])
            refine tk at17 ?_
            refine wpAnyH_done (by kernel_rfl) ?_ _
            clear hH112
            go_wp2_with fail
            go_meet
            exact ⟨w11.heap.size, x_88, x_89, x_90, x_91, q92, x_105, x_106, x_107, x_108, q109, rfl, rfl, Eq92, Eq109, Sq92, Sq109, (by omega), (M.out.2.1), (M.out.1), (M.out.2.2.1), (M.out.2.2.2.2.1), (M.out.2.2.2.2.2.1), (M.out.2.2.2.2.2.2.1), (M.out.2.2.2.2.2.2.2.1), (M.out.2.2.2.2.2.2.2.2.1), (M.out.2.2.2.2.2.2.2.2.2.1), (M.out.2.2.2.1), (M.out.2.2.2.2.2.2.2.2.2.2)⟩
          refine AllReadyH.cons at15 (fun K hK => ?_) AllReadyH.nil
          go_simp
          obtain ⟨w11, hv⟩ : ∃ w_ : World, w_ = (w10.alloc (.cells #[.int .i64 0, .slice none 0 0, .int .i64 0, .slice none 0 0] 29)) := ⟨_, rfl⟩
          rw [← hv]
          have ow3_ : A31 < w10.heap.size := ((M.out.1)).lt
          replace M := Lib.hid (And.intro (hv ▸ bx1 w10 29 #[.int .i64 0, .slice none 0 0, .int .i64 0, .slice none 0 0]) (Goes.go M.out (hv ▸ below_alloc _ _ : Below w10.heap.size w10 w11)))
          clear hv
          refine hK.out _ _ (⟨(HRx.out.keep (M.out.2.2.2.2.2.2.2.2)).2 0 _ rfl, (HRx.out.keep (M.out.2.2.2.2.2.2.2.2)).2 1 _ rfl, (HRx.out.keep (M.out.2.2.2.2.2.2.2.2)).2 2 _ rfl, (HRx.out.keep (M.out.2.2.2.2.2.2.2.2)).2 3 _ rfl, (HRx.out.keep (M.out.2.2.2.2.2.2.2.2)).2 4 _ rfl⟩) (fun hH113 => ?_)
          clear hK K hH87
          (try simp only [Act.put, List.setIfInBounds_toArray, List.set_cons_zero, List.set_cons_succ])
          refine wpAnyH_ready (rs := [10]) (by kernel_rfl) (by simp) ?_
          refine AllReadyH.cons at10 (fun K hK => ?_) AllReadyH.nil
          go_simp
          obtain ⟨q118, eq118⟩ : ∃ v_ : Rat, v_ = (xn : Rat) := ⟨_, rfl⟩
          refine (fqInt (G := G) (x := xn) (by omega)).mono ?_
          rintro e w12 ⟨x_114, x_115, x_116, x_117, rfl, hd119, hb⟩
          rw [← eq118] at hd119
          have Sq118 : Hid (Fz q118 4) := by show Fz q118 4; rw [eq118]; exact (Fz.int64 (by omega))
          have Eq118 := Lib.hid eq118; clear eq118
          replace M := Lib.hid (And.intro hd119 (Goes.go M.out hb))
          clear hb hd119
          (try go_wp2_with fail)
          refine hK.out _ _ (⟨(HRx.out.keep (M.out.2.2.2.2.2.2.2.2.2)).2 0 _ rfl, (HRx.out.keep (M.out.2.2.2.2.2.2.2.2.2)).2 1 _ rfl, (HRx.out.keep (M.out.2.2.2.2.2.2.2.2.2)).2 2 _ rfl, (HRx.out.keep (M.out.2.2.2.2.2.2.2.2.2)).2 3 _ rfl, (HRx.out.keep (M.out.2.2.2.2.2.2.2.2.2)).2 4 _ rfl⟩) (fun hH120 => ?_)
          clear hK K hH113
          (try simp only [Act.put, List.setIfInBounds_toArray, List.set_cons_zero, List.set_cons_succ])
          refine wpAnyH_ready (rs := [11]) (by kernel_rfl) (by simp) ?_
          refine AllReadyH.cons at11 (fun K hK => ?_) AllReadyH.nil
          go_simp
          obtain ⟨q125, eq125⟩ : ∃ v_ : Rat, v_ = (xq / q118) := ⟨_, rfl⟩
          refine (fqDiv (G := G) (q := xq) (r := q118) (Nat.le_trans hG (M.out.2.2.2.2.2.2.2.2.2).size) (HQx.out.keep (M.out.2.2.2.2.2.2.2.2.2)) (M.out.1) (Fz.mono HZx.out (by omega)) (Fz.mono Sq118.out (by omega)) (by rw [Eq118.out]; exact cast_ne (by omega))).mono ?_
          rintro e w13 ⟨x_121, x_122, x_123, x_124, rfl, hd126, hb⟩
          rw [← eq125] at hd126
          have Sq125 : Hid (Fz q125 7) := by show Fz q125 7; rw [eq125]; exact (Fz.div HZx.out Sq118.out (by rw [Eq118.out]; exact cast_ne (by omega)))
          have Eq125 := Lib.hid eq125; clear eq125
          replace M := Lib.hid (And.intro hd126 (Goes.go M.out hb))
          clear hb hd126
          (try go_wp2_with fail)
          refine hK.out _ _ (⟨(HRx.out.keep (M.out.2.2.2.2.2.2.2.2.2.2)).2 0 _ rfl, (HRx.out.keep (M.out.2.2.2.2.2.2.2.2.2.2)).2 1 _ rfl, (HRx.out.keep (M.out.2.2.2.2.2.2.2.2.2.2)).2 2 _ rfl, (HRx.out.keep (M.out.2.2.2.2.2.2.2.2.2.2)).2 3 _ rfl, (HRx.out.keep (M.out.2.2.2.2.2.2.2.2.2.2)).2 4 _ rfl⟩) (fun hH127 => ?_)
          clear hK K hH120
          (try simp only [Act.put, List.setIfInBounds_toArray, List.set_cons_zero, List.set_cons_succ])
          refine tk at12 ?_
          refine tk at13 ?_
          refine tk at14 ?_
          refine wpAnyH_ready (rs := [16]) (by kernel_rfl) (by simp) ?_
          refine AllReadyH.cons at16 (fun K hK => ?_) AllReadyH.nil
          have y3 := (M.out.2.2.1).c4; have p3_0 := y3.1; have q3_0 := y3.2.1; have p3_1 := y3.2.2.1; have q3_1 := y3.2.2.2.1; have p3_2 := y3.2.2.2.2.1; have q3_2 := y3.2.2.2.2.2.1; have p3_3 := y3.2.2.2.2.2.2.1; have q3_3 := y3.2.2.2.2.2.2.2; clear y3
          have ys_x_121 := TQ.st (M.out.1); have st_x_121 := ys_x_121.1; have st_x_122 := ys_x_121.2.1; have st_x_123 := ys_x_121.2.2.1; have st_x_124 := ys_x_121.2.2.2; clear ys_x_121
          go_simp
          clear p3_0 q3_0 p3_1 q3_1 p3_2 q3_2 p3_3 q3_3 st_x_121 st_x_122 st_x_123 st_x_124
          obtain ⟨w14, hv⟩ : ∃ w_ : World, w_ = ((((w13.setCell ⟨w10.heap.size, 0, none⟩ (x_121)).setCell ⟨w10.heap.size, 1, none⟩ (x_122)).setCell ⟨w10.heap.size, 2, none⟩ (x_123)).setCell ⟨w10.heap.size, 3, none⟩ (x_124)) := ⟨_, rfl⟩
          rw [← hv]
          have og : w13.grownBy w14 (some w10.heap.size) := by rw [hv]; exact (only_setCell (only_setCell (only_setCell (only_setCell (World.grownBy.refl _ _) _) _) _) _)
          have hz : w.heap.size ≤ w10.heap.size := by omega
          have hk : Bx w14 w10.heap.size 29 #[x_121, x_122, x_123, x_124] := by rw [hv]; exact (((((M.out.2.2.1).set 0 _).set 1 _).set 2 _).set 3 _)
          have hbw : Below w.heap.size w w14 := by rw [hv]; exact (Below.setCell (Below.setCell (Below.setCell (Below.setCell (M.out.2.2.2.2.2.2.2.2.2.2) (by omega) _) (by omega) _) (by omega) _) (by omega) _)
          replace M := Lib.hid (And.intro ((M.out.1).far (M.out.2.2.1) (by rfl) (by omega) og) (And.intro ((M.out.2.1).far (M.out.2.2.1) (by rfl) (by omega) og) (And.intro hk (And.intro ((M.out.2.2.2.1).only og (by omega)) (And.intro ((M.out.2.2.2.2.1).far (M.out.2.2.1) (by rfl) (by omega) og) (And.intro ((M.out.2.2.2.2.2.1).far (M.out.2.2.1) (by rfl) (by omega) og) (And.intro ((M.out.2.2.2.2.2.2.1).far (M.out.2.2.1) (by rfl) (by omega) og) (And.intro ((M.out.2.2.2.2.2.2.2.1).far (M.out.2.2.1) (by rfl) (by omega) og) (And.intro ((M.out.2.2.2.2.2.2.2.2.1).only og (by omega)) (And.intro ((M.out.2.2.2.2.2.2.2.2.2.1).only og (by omega)) hbw))))))))))
          clear hk hbw og hv hz
          refine hK.out _ _ (⟨(HRx.out.keep (M.out.2.2.2.2.2.2.2.2.2.2)).2 0 _ rfl, (HRx.out.keep (M.out.2.2.2.2.2.2.2.2.2.2)).2 1 _ rfl, (HRx.out.keep (M.out.2.2.2.2.2.2.2.2.2.2)).2 2 _ rfl, (HRx.out.keep (M.out.2.2.2.2.2.2.2.2.2.2)).2 3 _ rfl, (HRx.out.keep (M.out.2.2.2.2.2.2.2.2.2.2)).2 4 _ rfl⟩) (fun hH128 => ?_)
          clear hK K hH127
          (try simp only [Act.put, List.setIfInBounds_toArray, List.set_cons_zero, List.set_cons_succ])
          refine tk at17 ?_
          refine wpAnyH_done (by kernel_rfl) ?_ _
          clear hH128
          go_wp2_with fail
          go_meet
          exact ⟨w10.heap.size, x_114, x_115, x_116, x_117, q118, x_121, x_122, x_123, x_124, q125, rfl, rfl, Eq118, Eq125, Sq118, Sq125, (by omega), (M.out.2.2.1), (M.out.1), (M.out.2.1), (M.out.2.2.2.2.1), (M.out.2.2.2.2.2.1), (M.out.2.2.2.2.2.2.1), (M.out.2.2.2.2.2.2.2.1), (M.out.2.2.2.2.2.2.2.2.1), (M.out.2.2.2.2.2.2.2.2.2.1), (M.out.2.2.2.1), (M.out.2.2.2.2.2.2.2.2.2.2)⟩
        case rest =>
          obtain ⟨A86, x_74, x_75, x_76, x_77, q78, x_80, x_81, x_82, x_83, q84, rfl, rfl, Eq78, Eq84, Sq78, Sq84, oA86, M⟩ := hcut
          obtain ⟨w10, rfl⟩ : ∃ w_ : World, w_ = wc := ⟨_, rfl⟩
          have y3 := (M.out.1).d4; have p3_0 := y3.1; have p3_1 := y3.2.1; have p3_2 := y3.2.2.1; have p3_3 := y3.2.2.2; clear y3
          have y2 := (M.out.2.2.2.2.2.2.2.2.2.1).d4; have p2_0 := y2.1; have p2_1 := y2.2.1; have p2_2 := y2.2.2.1; have p2_3 := y2.2.2.2; clear y2
          go_wp2_with fail
          clear p3_0 p3_1 p3_2 p3_3 p2_0 p2_1 p2_2 p2_3
          refine (fqCompare (G := G) (q := q84) (r := q29) (k := k1) (M.out.2.1) (M.out.2.2.2.1) (Fz.mono Sq84.out (by omega)) (Fz.mono Sq29.out (by omega)) (by rw [Eq84.out, Eq78.out]; exact HK1.out)).mono ?_
          rintro e w11 ⟨rfl, hb⟩
          replace M := Lib.hid (Goes.go M.out hb)
          clear hb
          go_upto_region 17 with fail
          go_cut [15] (fun s_ wx => ∃ (nb15 : Bool), s_ = .bool nb15 ∧ Hid (nb15 = (b15 || decide (k1 ≤ 0))) ∧ Hid (Bx wx A86 29 #[x_80, x_81, x_82, x_83] ∧ FQ G wx x_80 x_81 x_82 x_83 q84 ∧ FQ G wx x_74 x_75 x_76 x_77 q78 ∧ FQ G wx x_25 x_26 x_27 x_28 q29 ∧ RdC G wx a_7 n_8 c_9 l_10 ∧ FQ G wx x_11 x_12 x_13 x_14 q15 ∧ FQ G wx x_1 x_2 x_3 x_4 q5 ∧ Bx wx w4.heap.size 29 #[x_1, x_2, x_3, x_4] ∧ Bx wx w6.heap.size 29 #[x_11, x_12, x_13, x_14] ∧ Bx wx A31 29 #[x_25, x_26, x_27, x_28] ∧ Below w.heap.size w wx))
          case first =>
            cases b15 with
            | false =>
              go_wp2_with fail
              go_meet
              exact ⟨_, rfl, Lib.hid rfl, Lib.hid ⟨(M.out.1), (M.out.2.1), (M.out.2.2.1), (M.out.2.2.2.1), (M.out.2.2.2.2.1), (M.out.2.2.2.2.2.1), (M.out.2.2.2.2.2.2.1), (M.out.2.2.2.2.2.2.2.1), (M.out.2.2.2.2.2.2.2.2.1), (M.out.2.2.2.2.2.2.2.2.2.1), (M.out.2.2.2.2.2.2.2.2.2.2)⟩⟩
            | true =>
              go_wp2_with fail
              go_meet
              exact ⟨_, rfl, Lib.hid rfl, Lib.hid ⟨(M.out.1), (M.out.2.1), (M.out.2.2.1), (M.out.2.2.2.1), (M.out.2.2.2.2.1), (M.out.2.2.2.2.2.1), (M.out.2.2.2.2.2.2.1), (M.out.2.2.2.2.2.2.2.1), (M.out.2.2.2.2.2.2.2.2.1), (M.out.2.2.2.2.2.2.2.2.2.1), (M.out.2.2.2.2.2.2.2.2.2.2)⟩⟩
          case rest =>
            obtain ⟨nb15, rfl, Enb15, M⟩ := hcut
            obtain ⟨w12, rfl⟩ : ∃ w_ : World, w_ = wc := ⟨_, rfl⟩
            go_upto_region 18 with fail
            go_cut [16] (fun s_ wx => ∃ (nb16 : Bool), s_ = .bool nb16 ∧ Hid (nb16 = (b16 || decide (0 ≤ k1))) ∧ Hid (Bx wx A86 29 #[x_80, x_81, x_82, x_83] ∧ FQ G wx x_80 x_81 x_82 x_83 q84 ∧ FQ G wx x_74 x_75 x_76 x_77 q78 ∧ FQ G wx x_25 x_26 x_27 x_28 q29 ∧ RdC G wx a_7 n_8 c_9 l_10 ∧ FQ G wx x_11 x_12 x_13 x_14 q15 ∧ FQ G wx x_1 x_2 x_3 x_4 q5 ∧ Bx wx w4.heap.size 29 #[x_1, x_2, x_3, x_4] ∧ Bx wx w6.heap.size 29 #[x_11, x_12, x_13, x_14] ∧ Bx wx A31 29 #[x_25, x_26, x_27, x_28] ∧ Below w.heap.size w wx))
            case first =>
              cases b16 with
              | false =>
                go_wp2_with fail
                go_meet
                exact ⟨_, rfl, Lib.hid rfl, Lib.hid ⟨(M.out.1), (M.out.2.1), (M.out.2.2.1), (M.out.2.2.2.1), (M.out.2.2.2.2.1), (M.out.2.2.2.2.2.1), (M.out.2.2.2.2.2.2.1), (M.out.2.2.2.2.2.2.2.1), (M.out.2.2.2.2.2.2.2.2.1), (M.out.2.2.2.2.2.2.2.2.2.1), (M.out.2.2.2.2.2.2.2.2.2.2)⟩⟩
              | true =>
                go_wp2_with fail
                go_meet
                exact ⟨_, rfl, Lib.hid rfl, Lib.hid ⟨(M.out.1), (M.out.2.1), (M.out.2.2.1), (M.out.2.2.2.1), (M.out.2.2.2.2.1), (M.out.2.2.2.2.2.1), (M.out.2.2.2.2.2.2.1), (M.out.2.2.2.2.2.2.2.1), (M.out.2.2.2.2.2.2.2.2.1), (M.out.2.2.2.2.2.2.2.2.2.1), (M.out.2.2.2.2.2.2.2.2.2.2)⟩⟩
            case rest =>
              obtain ⟨nb16, rfl, Enb16, M⟩ := hcut
              obtain ⟨w13, rfl⟩ : ∃ w_ : World, w_ = wc := ⟨_, rfl⟩
              go_upto_region 19 with fail
              go_cut [22, 23] (fun s22 s23 wx => ∃ (A141 : Nat), ∃ (x_129 : Value), ∃ (x_130 : Value), ∃ (x_131 : Value), ∃ (x_132 : Value), ∃ (q133 : Rat), ∃ (x_135 : Value), ∃ (x_136 : Value), ∃ (x_137 : Value), ∃ (x_138 : Value), ∃ (q139 : Rat), s22 = .pointer (some ⟨A141, 0, none⟩) ∧ s23 = .int .i64 0 ∧ Hid (q133 = (N0 : Rat)) ∧ Hid (q139 = (q5 / q133)) ∧ Hid (Fz q133 4) ∧ Hid (Fz q139 1004) ∧ A86 < A141 ∧ Hid (Bx wx A141 29 #[x_135, x_136, x_137, x_138] ∧ FQ G wx x_135 x_136 x_137 x_138 q139 ∧ FQ G wx x_129 x_130 x_131 x_132 q133 ∧ FQ G wx x_80 x_81 x_82 x_83 q84 ∧ FQ G wx x_74 x_75 x_76 x_77 q78 ∧ FQ G wx x_25 x_26 x_27 x_28 q29 ∧ RdC G wx a_7 n_8 c_9 l_10 ∧ FQ G wx x_11 x_12 x_13 x_14 q15 ∧ FQ G wx x_1 x_2 x_3 x_4 q5 ∧ Bx wx w4.heap.size 29 #[x_1, x_2, x_3, x_4] ∧ Bx wx w6.heap.size 29 #[x_11, x_12, x_13, x_14] ∧ Bx wx A31 29 #[x_25, x_26, x_27, x_28] ∧ Bx wx A86 29 #[x_80, x_81, x_82, x_83] ∧ Below w.heap.size w wx))
              case first =>
                obtain ⟨w14, hv⟩ : ∃ w_ : World, w_ = w13.drew := ⟨_, rfl⟩
                replace M := Lib.hid (Goes.go M.out (hv ▸ below_drew _ : Below w13.heap.size w13 w14))
                refine wp_region_held_drew (S := (fun w' => w'.cell? ⟨w4.heap.size, 0, none⟩ = some (x_1) ∧ w'.cell? ⟨w4.heap.size, 1, none⟩ = some (x_2) ∧ w'.cell? ⟨w4.heap.size, 2, none⟩ = some (x_3) ∧ w'.cell? ⟨w4.heap.size, 3, none⟩ = some (x_4))) (by kernel_rfl) (by rw [← hv]; exact ⟨(M.out.2.2.2.2.2.2.2.1).at.1 0, (M.out.2.2.2.2.2.2.2.1).at.1 1, (M.out.2.2.2.2.2.2.2.1).at.1 2, (M.out.2.2.2.2.2.2.2.1).at.1 3⟩) (fun hH142 => ?_)
                rw [← hv] at hH142 ⊢
                clear hv
                refine tk at0 ?_
                refine tk at1 ?_
                refine wpAnyH_ready (rs := [2, 7]) (by kernel_rfl) (by simp) ?_
                refine AllReadyH.cons at2 (fun K hK => ?_) ?_
                ·
                  go_simp
                  obtain ⟨q147, eq147⟩ : ∃ v_ : Rat, v_ = (N0 : Rat) := ⟨_, rfl⟩
                  refine (fqInt (G := G) (x := N0) (by omega)).mono ?_
                  rintro e w15 ⟨x_143, x_144, x_145, x_146, rfl, hd148, hb⟩
                  rw [← eq147] at hd148
                  have Sq147 : Hid (Fz q147 4) := by show Fz q147 4; rw [eq147]; exact (Fz.int64 (by omega))
                  have Eq147 := Lib.hid eq147; clear eq147
                  replace M := Lib.hid (And.intro hd148 (Goes.go M.out hb))
                  clear hb hd148
                  (try go_wp2_with fail)
                  refine hK.out _ _ (⟨(M.out.2.2.2.2.2.2.2.2.1).at.1 0, (M.out.2.2.2.2.2.2.2.2.1).at.1 1, (M.out.2.2.2.2.2.2.2.2.1).at.1 2, (M.out.2.2.2.2.2.2.2.2.1).at.1 3⟩) (fun hH149 => ?_)
                  clear hK K hH142
                  (try simp only [Act.put, List.setIfInBounds_toArray, List.set_cons_zero, List.set_cons_succ])
                  refine wpAnyH_ready (rs := [3, 7]) (by kernel_rfl) (by simp) ?_
                  refine AllReadyH.cons at3 (fun K hK => ?_) ?_
                  ·
                    go_simp
                    obtain ⟨q154, eq154⟩ : ∃ v_ : Rat, v_ = (q5 / q147) := ⟨_, rfl⟩
                    refine (fqDiv (G := G) (q := q5) (r := q147) (Nat.le_trans hG (M.out.2.2.2.2.2.2.2.2.2.2.2).size) (M.out.2.2.2.2.2.2.2.1) (M.out.1) (Fz.mono Sq5.out (by omega)) (Fz.mono Sq147.out (by omega)) (by rw [Eq147.out]; exact cast_ne (by omega))).mono ?_
                    rintro e w16 ⟨x_150, x_151, x_152, x_153, rfl, hd155, hb⟩
                    rw [← eq154] at hd155
                    have Sq154 : Hid (Fz q154 1004) := by show Fz q154 1004; rw [eq154]; exact (Fz.div Sq5.out Sq147.out (by rw [Eq147.out]; exact cast_ne (by omega)))
                    have Eq154 := Lib.hid eq154; clear eq154
                    replace M := Lib.hid (And.intro hd155 (Goes.go M.out hb))
                    clear hb hd155
                    (try go_wp2_with fail)
                    refine hK.out _ _ (⟨(M.out.2.2.2.2.2.2.2.2.2.1).at.1 0, (M.out.2.2.2.2.2.2.2.2.2.1).at.1 1, (M.out.2.2.2.2.2.2.2.2.2.1).at.1 2, (M.out.2.2.2.2.2.2.2.2.2.1).at.1 3⟩) (fun hH156 => ?_)
                    clear hK K hH149
                    (try simp only [Act.put, List.setIfInBounds_toArray, List.set_cons_zero, List.set_cons_succ])
                    refine tk at4 ?_
                    refine tk at5 ?_
                    refine tk at6 ?_
                    refine wpAnyH_ready (rs := [7]) (by kernel_rfl) (by simp) ?_
                    refine AllReadyH.cons at7 (fun K hK => ?_) AllReadyH.nil
                    go_simp
                    obtain ⟨w17, hv⟩ : ∃ w_ : World, w_ = (w16.alloc (.cells #[.int .i64 0, .slice none 0 0, .int .i64 0, .slice none 0 0] 29)) := ⟨_, rfl⟩
                    rw [← hv]
                    have ow4_ : A86 < w16.heap.size := ((M.out.2.2.1)).lt
                    replace M := Lib.hid (And.intro (hv ▸ bx1 w16 29 #[.int .i64 0, .slice none 0 0, .int .i64 0, .slice none 0 0]) (Goes.go M.out (hv ▸ below_alloc _ _ : Below w16.heap.size w16 w17)))
                    clear hv
                    refine hK.out _ _ (⟨(M.out.2.2.2.2.2.2.2.2.2.2.1).at.1 0, (M.out.2.2.2.2.2.2.2.2.2.2.1).at.1 1, (M.out.2.2.2.2.2.2.2.2.2.2.1).at.1 2, (M.out.2.2.2.2.2.2.2.2.2.2.1).at.1 3⟩) (fun hH157 => ?_)
                    clear hK K hH156
                    (try simp only [Act.put, List.setIfInBounds_toArray, List.set_cons_zero, List.set_cons_succ])
                    refine wpAnyH_ready (rs := [8]) (by kernel_rfl) (by simp) ?_
                    refine AllReadyH.cons at8 (fun K hK => ?_) AllReadyH.nil
                    have y4 := (M.out.1).c4; have p4_0 := y4.1; have q4_0 := y4.2.1; have p4_1 := y4.2.2.1; have q4_1 := y4.2.2.2.1; have p4_2 := y4.2.2.2.2.1; have q4_2 := y4.2.2.2.2.2.1; have p4_3 := y4.2.2.2.2.2.2.1; have q4_3 := y4.2.2.2.2.2.2.2; clear y4
                    have ys_x_150 := TQ.st (M.out.2.1); have st_x_150 := ys_x_150.1; have st_x_151 := ys_x_150.2.1; have st_x_152 := ys_x_150.2.2.1; have st_x_153 := ys_x_150.2.2.2; clear ys_x_150
                    go_simp
                    clear p4_0 q4_0 p4_1 q4_1 p4_2 q4_2 p4_3 q4_3 st_x_150 st_x_151 st_x_152 st_x_153
                    obtain ⟨w18, hv⟩ : ∃ w_ : World, w_ = ((((w17.setCell ⟨w16.heap.size, 0, none⟩ (x_150)).setCell ⟨w16.heap.size, 1, none⟩ (x_151)).setCell ⟨w16.heap.size, 2, none⟩ (x_152)).setCell ⟨w16.heap.size, 3, none⟩ (x_153)) := ⟨_, rfl⟩
                    rw [← hv]
                    have og : w17.grownBy w18 (some w16.heap.size) := by rw [hv]; exact (only_setCell (only_setCell (only_setCell (only_setCell (World.grownBy.refl _ _) _) _) _) _)
                    have hz : w.heap.size ≤ w16.heap.size := by omega
                    have hk : Bx w18 w16.heap.size 29 #[x_150, x_151, x_152, x_153] := by rw [hv]; exact (((((M.out.1).set 0 _).set 1 _).set 2 _).set 3 _)
                    have hbw : Below w.heap.size w w18 := by rw [hv]; exact (Below.setCell (Below.setCell (Below.setCell (Below.setCell (M.out.2.2.2.2.2.2.2.2.2.2.2.2.2) (by omega) _) (by omega) _) (by omega) _) (by omega) _)
                    replace M := Lib.hid (And.intro hk (And.intro ((M.out.2.1).far (M.out.1) (by rfl) (by omega) og) (And.intro ((M.out.2.2.1).far (M.out.1) (by rfl) (by omega) og) (And.intro ((M.out.2.2.2.1).only og (by omega)) (And.intro ((M.out.2.2.2.2.1).far (M.out.1) (by rfl) (by omega) og) (And.intro ((M.out.2.2.2.2.2.1).far (M.out.1) (by rfl) (by omega) og) (And.intro ((M.out.2.2.2.2.2.2.1).far (M.out.1) (by rfl) (by omega) og) (And.intro ((M.out.2.2.2.2.2.2.2.1).far (M.out.1) (by rfl) (by omega) og) (And.intro ((M.out.2.2.2.2.2.2.2.2.1).far (M.out.1) (by rfl) (by omega) og) (And.intro ((M.out.2.2.2.2.2.2.2.2.2.1).far (M.out.1) (by rfl) (by omega) og) (And.intro ((M.out.2.2.2.2.2.2.2.2.2.2.1).only og (by omega)) (And.intro ((M.out.2.2.2.2.2.2.2.2.2.2.2.1).only og (by omega)) (And.intro ((M.out.2.2.2.2.2.2.2.2.2.2.2.2.1).only og (by omega)) hbw)))))))))))))
                    clear hk hbw og hv hz
                    refine hK.out _ _ (⟨(M.out.2.2.2.2.2.2.2.2.2.2.1).at.1 0, (M.out.2.2.2.2.2.2.2.2.2.2.1).at.1 1, (M.out.2.2.2.2.2.2.2.2.2.2.1).at.1 2, (M.out.2.2.2.2.2.2.2.2.2.2.1).at.1 3⟩) (fun hH158 => ?_)
                    clear hK K hH157
                    (try simp only [Act.put, List.setIfInBounds_toArray, List.set_cons_zero, List.set_cons_succ])
                    refine tk at9 ?_
                    refine wpAnyH_done (by kernel_rfl) ?_ _
                    clear hH158
                    go_wp2_with fail
                    go_meet
                    exact ⟨w16.heap.size, x_143, x_144, x_145, x_146, q147, x_150, x_151, x_152, x_153, q154, rfl, rfl, Eq147, Eq154, Sq147, Sq154, (by omega), (M.out.1), (M.out.2.1), (M.out.2.2.1), (M.out.2.2.2.2.1), (M.out.2.2.2.2.2.1), (M.out.2.2.2.2.2.2.1), (M.out.2.2.2.2.2.2.2.1), (M.out.2.2.2.2.2.2.2.2.1), (M.out.2.2.2.2.2.2.2.2.2.1), (M.out.2.2.2.2.2.2.2.2.2.2.1), (M.out.2.2.2.2.2.2.2.2.2.2.2.1), (M.out.2.2.2.2.2.2.2.2.2.2.2.2.1), (M.out.2.2.2.1), (M.out.2.2.2.2.2.2.2.2.2.2.2.2.2)⟩
                  refine AllReadyH.cons at7 (fun K hK => ?_) AllReadyH.nil
                  go_simp
                  obtain ⟨w16, hv⟩ : ∃ w_ : World, w_ = (w15.alloc (.cells #[.int .i64 0, .slice none 0 0, .int .i64 0, .slice none 0 0] 29)) := ⟨_, rfl⟩
                  rw [← hv]
                  have ow4_ : A86 < w15.heap.size := ((M.out.2.1)).lt
                  replace M := Lib.hid (And.intro (hv ▸ bx1 w15 29 #[.int .i64 0, .slice none 0 0, .int .i64 0, .slice none 0 0]) (Goes.go M.out (hv ▸ below_alloc _ _ : Below w15.heap.size w15 w16)))
                  clear hv
                  refine hK.out _ _ (⟨(M.out.2.2.2.2.2.2.2.2.2.1).at.1 0, (M.out.2.2.2.2.2.2.2.2.2.1).at.1 1, (M.out.2.2.2.2.2.2.2.2.2.1).at.1 2, (M.out.2.2.2.2.2.2.2.2.2.1).at.1 3⟩) (fun hH159 => ?_)
                  clear hK K hH149
                  (try simp only [Act.put, List.setIfInBounds_toArray, List.set_cons_zero, List.set_cons_succ])
                  refine wpAnyH_ready (rs := [3]) (by kernel_rfl) (by simp) ?_
                  refine AllReadyH.cons at3 (fun K hK => ?_) AllReadyH.nil
                  go_simp
                  obtain ⟨q164, eq164⟩ : ∃ v_ : Rat, v_ = (q5 / q147) := ⟨_, rfl⟩
                  refine (fqDiv (G := G) (q := q5) (r := q147) (Nat.le_trans hG (M.out.2.2.2.2.2.2.2.2.2.2.2.2).size) (M.out.2.2.2.2.2.2.2.2.1) (M.out.2.1) (Fz.mono Sq5.out (by omega)) (Fz.mono Sq147.out (by omega)) (by rw [Eq147.out]; exact cast_ne (by omega))).mono ?_
                  rintro e w17 ⟨x_160, x_161, x_162, x_163, rfl, hd165, hb⟩
                  rw [← eq164] at hd165
                  have Sq164 : Hid (Fz q164 1004) := by show Fz q164 1004; rw [eq164]; exact (Fz.div Sq5.out Sq147.out (by rw [Eq147.out]; exact cast_ne (by omega)))
                  have Eq164 := Lib.hid eq164; clear eq164
                  replace M := Lib.hid (And.intro hd165 (Goes.go M.out hb))
                  clear hb hd165
                  (try go_wp2_with fail)
                  refine hK.out _ _ (⟨(M.out.2.2.2.2.2.2.2.2.2.2.1).at.1 0, (M.out.2.2.2.2.2.2.2.2.2.2.1).at.1 1, (M.out.2.2.2.2.2.2.2.2.2.2.1).at.1 2, (M.out.2.2.2.2.2.2.2.2.2.2.1).at.1 3⟩) (fun hH166 => ?_)
                  clear hK K hH159
                  (try simp only [Act.put, List.setIfInBounds_toArray, List.set_cons_zero, List.set_cons_succ])
                  refine tk at4 ?_
                  refine tk at5 ?_
                  refine tk at6 ?_
                  refine wpAnyH_ready (rs := [8]) (by kernel_rfl) (by simp) ?_
                  refine AllReadyH.cons at8 (fun K hK => ?_) AllReadyH.nil
                  have y4 := (M.out.2.1).c4; have p4_0 := y4.1; have q4_0 := y4.2.1; have p4_1 := y4.2.2.1; have q4_1 := y4.2.2.2.1; have p4_2 := y4.2.2.2.2.1; have q4_2 := y4.2.2.2.2.2.1; have p4_3 := y4.2.2.2.2.2.2.1; have q4_3 := y4.2.2.2.2.2.2.2; clear y4
                  have ys_x_160 := TQ.st (M.out.1); have st_x_160 := ys_x_160.1; have st_x_161 := ys_x_160.2.1; have st_x_162 := ys_x_160.2.2.1; have st_x_163 := ys_x_160.2.2.2; clear ys_x_160
                  go_simp
                  clear p4_0 q4_0 p4_1 q4_1 p4_2 q4_2 p4_3 q4_3 st_x_160 st_x_161 st_x_162 st_x_163
                  obtain ⟨w18, hv⟩ : ∃ w_ : World, w_ = ((((w17.setCell ⟨w15.heap.size, 0, none⟩ (x_160)).setCell ⟨w15.heap.size, 1, none⟩ (x_161)).setCell ⟨w15.heap.size, 2, none⟩ (x_162)).setCell ⟨w15.heap.size, 3, none⟩ (x_163)) := ⟨_, rfl⟩
                  rw [← hv]
                  have og : w17.grownBy w18 (some w15.heap.size) := by rw [hv]; exact (only_setCell (only_setCell (only_setCell (only_setCell (World.grownBy.refl _ _) _) _) _) _)
                  have hz : w.heap.size ≤ w15.heap.size := by omega
                  have hk : Bx w18 w15.heap.size 29 #[x_160, x_161, x_162, x_163] := by rw [hv]; exact (((((M.out.2.1).set 0 _).set 1 _).set 2 _).set 3 _)
                  have hbw : Below w.heap.size w w18 := by rw [hv]; exact (Below.setCell (Below.setCell (Below.setCell (Below.setCell (M.out.2.2.2.2.2.2.2.2.2.2.2.2.2) (by omega) _) (by omega) _) (by omega) _) (by omega) _)
                  replace M := Lib.hid (And.intro ((M.out.1).far (M.out.2.1) (by rfl) (by omega) og) (And.intro hk (And.intro ((M.out.2.2.1).far (M.out.2.1) (by rfl) (by omega) og) (And.intro ((M.out.2.2.2.1).only og (by omega)) (And.intro ((M.out.2.2.2.2.1).far (M.out.2.1) (by rfl) (by omega) og) (And.intro ((M.out.2.2.2.2.2.1).far (M.out.2.1) (by rfl) (by omega) og) (And.intro ((M.out.2.2.2.2.2.2.1).far (M.out.2.1) (by rfl) (by omega) og) (And.intro ((M.out.2.2.2.2.2.2.2.1).far (M.out.2.1) (by rfl) (by omega) og) (And.intro ((M.out.2.2.2.2.2.2.2.2.1).far (M.out.2.1) (by rfl) (by omega) og) (And.intro ((M.out.2.2.2.2.2.2.2.2.2.1).far (M.out.2.1) (by rfl) (by omega) og) (And.intro ((M.out.2.2.2.2.2.2.2.2.2.2.1).only og (by omega)) (And.intro ((M.out.2.2.2.2.2.2.2.2.2.2.2.1).only og (by omega)) (And.intro ((M.out.2.2.2.2.2.2.2.2.2.2.2.2.1).only og (by omega)) hbw)))))))))))))
                  clear hk hbw og hv hz
                  refine hK.out _ _ (⟨(M.out.2.2.2.2.2.2.2.2.2.2.1).at.1 0, (M.out.2.2.2.2.2.2.2.2.2.2.1).at.1 1, (M.out.2.2.2.2.2.2.2.2.2.2.1).at.1 2, (M.out.2.2.2.2.2.2.2.2.2.2.1).at.1 3⟩) (fun hH167 => ?_)
                  clear hK K hH166
                  (try simp only [Act.put, List.setIfInBounds_toArray, List.set_cons_zero, List.set_cons_succ])
                  refine tk at9 ?_
                  refine wpAnyH_done (by kernel_rfl) ?_ _
                  clear hH167
                  go_wp2_with fail
                  go_meet
                  exact ⟨w15.heap.size, x_143, x_144, x_145, x_146, q147, x_160, x_161, x_162, x_163, q164, rfl, rfl, Eq147, Eq164, Sq147, Sq164, (by omega), (M.out.2.1), (M.out.1), (M.out.2.2.1), (M.out.2.2.2.2.1), (M.out.2.2.2.2.2.1), (M.out.2.2.2.2.2.2.1), (M.out.2.2.2.2.2.2.2.1), (M.out.2.2.2.2.2.2.2.2.1), (M.out.2.2.2.2.2.2.2.2.2.1), (M.out.2.2.2.2.2.2.2.2.2.2.1), (M.out.2.2.2.2.2.2.2.2.2.2.2.1), (M.out.2.2.2.2.2.2.2.2.2.2.2.2.1), (M.out.2.2.2.1), (M.out.2.2.2.2.2.2.2.2.2.2.2.2.2)⟩
                refine AllReadyH.cons at7 (fun K hK => ?_) AllReadyH.nil
                go_simp
                obtain ⟨w15, hv⟩ : ∃ w_ : World, w_ = (w14.alloc (.cells #[.int .i64 0, .slice none 0 0, .int .i64 0, .slice none 0 0] 29)) := ⟨_, rfl⟩
                rw [← hv]
                have ow4_ : A86 < w14.heap.size := ((M.out.1)).lt
                replace M := Lib.hid (And.intro (hv ▸ bx1 w14 29 #[.int .i64 0, .slice none 0 0, .int .i64 0, .slice none 0 0]) (Goes.go M.out (hv ▸ below_alloc _ _ : Below w14.heap.size w14 w15)))
                clear hv
                refine hK.out _ _ (⟨(M.out.2.2.2.2.2.2.2.2.1).at.1 0, (M.out.2.2.2.2.2.2.2.2.1).at.1 1, (M.out.2.2.2.2.2.2.2.2.1).at.1 2, (M.out.2.2.2.2.2.2.2.2.1).at.1 3⟩) (fun hH168 => ?_)
                clear hK K hH142
                (try simp only [Act.put, List.setIfInBounds_toArray, List.set_cons_zero, List.set_cons_succ])
                refine wpAnyH_ready (rs := [2]) (by kernel_rfl) (by simp) ?_
                refine AllReadyH.cons at2 (fun K hK => ?_) AllReadyH.nil
                go_simp
                obtain ⟨q173, eq173⟩ : ∃ v_ : Rat, v_ = (N0 : Rat) := ⟨_, rfl⟩
                refine (fqInt (G := G) (x := N0) (by omega)).mono ?_
                rintro e w16 ⟨x_169, x_170, x_171, x_172, rfl, hd174, hb⟩
                rw [← eq173] at hd174
                have Sq173 : Hid (Fz q173 4) := by show Fz q173 4; rw [eq173]; exact (Fz.int64 (by omega))
                have Eq173 := Lib.hid eq173; clear eq173
                replace M := Lib.hid (And.intro hd174 (Goes.go M.out hb))
                clear hb hd174
                (try go_wp2_with fail)
                refine hK.out _ _ (⟨(M.out.2.2.2.2.2.2.2.2.2.1).at.1 0, (M.out.2.2.2.2.2.2.2.2.2.1).at.1 1, (M.out.2.2.2.2.2.2.2.2.2.1).at.1 2, (M.out.2.2.2.2.2.2.2.2.2.1).at.1 3⟩) (fun hH175 => ?_)
                clear hK K hH168
                (try simp only [Act.put, List.setIfInBounds_toArray, List.set_cons_zero, List.set_cons_succ])
                refine wpAnyH_ready (rs := [3]) (by kernel_rfl) (by simp) ?_
                refine AllReadyH.cons at3 (fun K hK => ?_) AllReadyH.nil
                go_simp
                obtain ⟨q180, eq180⟩ : ∃ v_ : Rat, v_ = (q5 / q173) := ⟨_, rfl⟩
                refine (fqDiv (G := G) (q := q5) (r := q173) (Nat.le_trans hG (M.out.2.2.2.2.2.2.2.2.2.2.2.2).size) (M.out.2.2.2.2.2.2.2.2.1) (M.out.1) (Fz.mono Sq5.out (by omega)) (Fz.mono Sq173.out (by omega)) (by rw [Eq173.out]; exact cast_ne (by omega))).mono ?_
                rintro e w17 ⟨x_176, x_177, x_178, x_179, rfl, hd181, hb⟩
                rw [← eq180] at hd181
                have Sq180 : Hid (Fz q180 1004) := by show Fz q180 1004; rw [eq180]; exact (Fz.div Sq5.out Sq173.out (by rw [Eq173.out]; exact cast_ne (by omega)))
                have Eq180 := Lib.hid eq180; clear eq180
                replace M := Lib.hid (And.intro hd181 (Goes.go M.out hb))
                clear hb hd181
                (try go_wp2_with fail)
                refine hK.out _ _ (⟨(M.out.2.2.2.2.2.2.2.2.2.2.1).at.1 0, (M.out.2.2.2.2.2.2.2.2.2.2.1).at.1 1, (M.out.2.2.2.2.2.2.2.2.2.2.1).at.1 2, (M.out.2.2.2.2.2.2.2.2.2.2.1).at.1 3⟩) (fun hH182 => ?_)
                clear hK K hH175
                (try simp only [Act.put, List.setIfInBounds_toArray, List.set_cons_zero, List.set_cons_succ])
                refine tk at4 ?_
                refine tk at5 ?_
                refine tk at6 ?_
                refine wpAnyH_ready (rs := [8]) (by kernel_rfl) (by simp) ?_
                refine AllReadyH.cons at8 (fun K hK => ?_) AllReadyH.nil
                have y4 := (M.out.2.2.1).c4; have p4_0 := y4.1; have q4_0 := y4.2.1; have p4_1 := y4.2.2.1; have q4_1 := y4.2.2.2.1; have p4_2 := y4.2.2.2.2.1; have q4_2 := y4.2.2.2.2.2.1; have p4_3 := y4.2.2.2.2.2.2.1; have q4_3 := y4.2.2.2.2.2.2.2; clear y4
                have ys_x_176 := TQ.st (M.out.1); have st_x_176 := ys_x_176.1; have st_x_177 := ys_x_176.2.1; have st_x_178 := ys_x_176.2.2.1; have st_x_179 := ys_x_176.2.2.2; clear ys_x_176
                go_simp
                clear p4_0 q4_0 p4_1 q4_1 p4_2 q4_2 p4_3 q4_3 st_x_176 st_x_177 st_x_178 st_x_179
                obtain ⟨w18, hv⟩ : ∃ w_ : World, w_ = ((((w17.setCell ⟨w14.heap.size, 0, none⟩ (x_176)).setCell ⟨w14.heap.size, 1, none⟩ (x_177)).setCell ⟨w14.heap.size, 2, none⟩ (x_178)).setCell ⟨w14.heap.size, 3, none⟩ (x_179)) := ⟨_, rfl⟩
                rw [← hv]
                have og : w17.grownBy w18 (some w14.heap.size) := by rw [hv]; exact (only_setCell (only_setCell (only_setCell (only_setCell (World.grownBy.refl _ _) _) _) _) _)
                have hz : w.heap.size ≤ w14.heap.size := by omega
                have hk : Bx w18 w14.heap.size 29 #[x_176, x_177, x_178, x_179] := by rw [hv]; exact (((((M.out.2.2.1).set 0 _).set 1 _).set 2 _).set 3 _)
                have hbw : Below w.heap.size w w18 := by rw [hv]; exact (Below.setCell (Below.setCell (Below.setCell (Below.setCell (M.out.2.2.2.2.2.2.2.2.2.2.2.2.2) (by omega) _) (by omega) _) (by omega) _) (by omega) _)
                replace M := Lib.hid (And.intro ((M.out.1).far (M.out.2.2.1) (by rfl) (by omega) og) (And.intro ((M.out.2.1).far (M.out.2.2.1) (by rfl) (by omega) og) (And.intro hk (And.intro ((M.out.2.2.2.1).only og (by omega)) (And.intro ((M.out.2.2.2.2.1).far (M.out.2.2.1) (by rfl) (by omega) og) (And.intro ((M.out.2.2.2.2.2.1).far (M.out.2.2.1) (by rfl) (by omega) og) (And.intro ((M.out.2.2.2.2.2.2.1).far (M.out.2.2.1) (by rfl) (by omega) og) (And.intro ((M.out.2.2.2.2.2.2.2.1).far (M.out.2.2.1) (by rfl) (by omega) og) (And.intro ((M.out.2.2.2.2.2.2.2.2.1).far (M.out.2.2.1) (by rfl) (by omega) og) (And.intro ((M.out.2.2.2.2.2.2.2.2.2.1).far (M.out.2.2.1) (by rfl) (by omega) og) (And.intro ((M.out.2.2.2.2.2.2.2.2.2.2.1).only og (by omega)) (And.intro ((M.out.2.2.2.2.2.2.2.2.2.2.2.1).only og (by omega)) (And.intro ((M.out.2.2.2.2.2.2.2.2.2.2.2.2.1).only og (by omega)) hbw)))))))))))))
                clear hk hbw og hv hz
                refine hK.out _ _ (⟨(M.out.2.2.2.2.2.2.2.2.2.2.1).at.1 0, (M.out.2.2.2.2.2.2.2.2.2.2.1).at.1 1, (M.out.2.2.2.2.2.2.2.2.2.2.1).at.1 2, (M.out.2.2.2.2.2.2.2.2.2.2.1).at.1 3⟩) (fun hH183 => ?_)
                clear hK K hH182
                (try simp only [Act.put, List.setIfInBounds_toArray, List.set_cons_zero, List.set_cons_succ])
                refine tk at9 ?_
                refine wpAnyH_done (by kernel_rfl) ?_ _
                clear hH183
                go_wp2_with fail
                go_meet
                exact ⟨w14.heap.size, x_169, x_170, x_171, x_172, q173, x_176, x_177, x_178, x_179, q180, rfl, rfl, Eq173, Eq180, Sq173, Sq180, (by omega), (M.out.2.2.1), (M.out.1), (M.out.2.1), (M.out.2.2.2.2.1), (M.out.2.2.2.2.2.1), (M.out.2.2.2.2.2.2.1), (M.out.2.2.2.2.2.2.2.1), (M.out.2.2.2.2.2.2.2.2.1), (M.out.2.2.2.2.2.2.2.2.2.1), (M.out.2.2.2.2.2.2.2.2.2.2.1), (M.out.2.2.2.2.2.2.2.2.2.2.2.1), (M.out.2.2.2.2.2.2.2.2.2.2.2.2.1), (M.out.2.2.2.1), (M.out.2.2.2.2.2.2.2.2.2.2.2.2.2)⟩
              case rest =>
                obtain ⟨A141, x_129, x_130, x_131, x_132, q133, x_135, x_136, x_137, x_138, q139, rfl, rfl, Eq133, Eq139, Sq133, Sq139, oA141, M⟩ := hcut
                obtain ⟨w14, rfl⟩ : ∃ w_ : World, w_ = wc := ⟨_, rfl⟩
                cases b17 with
                | false =>
                  go_wp2_with fail
                  go_roundw
                  case rel => exact ⟨(k + 1), nb15, nb16, false, rfl, rfl, rfl, by go_num, (by show _ ≤ _; omega), (Lib.hid (HL1.out.next HEx.out hx1 HK1.out Enb15.out)), (Lib.hid (HM1.out.next HEx.out hx1 HK1.out Enb16.out)), (Lib.hid (HS1.out.next HEx.out hx1 HBS.out rfl)), Lib.hid (And.intro (M.out.2.2.2.2.2.2.2.2.2.2.2.1) (And.intro (M.out.2.2.2.2.2.1) (And.intro (M.out.2.2.2.2.2.2.1) (And.intro (M.out.2.2.2.2.2.2.2.1) (And.intro (M.out.2.2.2.2.2.2.2.2.1) (And.intro (M.out.2.2.2.2.2.2.2.2.2.1) (And.intro (M.out.2.2.2.2.2.2.2.2.2.2.1) (M.out.2.2.2.2.2.2.2.2.2.2.2.2.2))))))))⟩
                  case measure => simp [RowKit.intOf] <;> omega
                | true =>
                  have y3 := (M.out.2.2.2.2.2.2.2.2.2.2.2.2.1).d4; have p3_0 := y3.1; have p3_1 := y3.2.1; have p3_2 := y3.2.2.1; have p3_3 := y3.2.2.2; clear y3
                  have y4 := (M.out.1).d4; have p4_0 := y4.1; have p4_1 := y4.2.1; have p4_2 := y4.2.2.1; have p4_3 := y4.2.2.2; clear y4
                  go_wp2_with fail
                  clear p3_0 p3_1 p3_2 p3_3 p4_0 p4_1 p4_2 p4_3
                  refine (fsame_o (G := G) (o := (some q84)) (p := (some q139)) (b_ := bs) (M.out.2.2.2.1) (M.out.2.1) (Oz.mono (Oz.some_ Sq84.out) (by omega)) (Oz.mono (Oz.some_ Sq139.out) (by omega)) (by rw [Eq84.out, Eq78.out, Eq139.out, Eq5.out, Eq133.out, ← HMV.out]; rw [← HBS.out]; exact decide_eq_decide.2 ⟨fun h_ => Option.some.inj h_, fun h_ => congrArg some h_⟩)).mono ?_
                  rintro e w15 ⟨rfl, hb⟩
                  replace M := Lib.hid (Goes.go M.out hb)
                  clear hb
                  go_wp2_with fail
                  go_roundw
                  case rel => exact ⟨(k + 1), nb15, nb16, bs, rfl, rfl, rfl, by go_num, (by show _ ≤ _; omega), (Lib.hid (HL1.out.next HEx.out hx1 HK1.out Enb15.out)), (Lib.hid (HM1.out.next HEx.out hx1 HK1.out Enb16.out)), (Lib.hid (HS1.out.next HEx.out hx1 HBS.out rfl)), Lib.hid (And.intro (M.out.2.2.2.2.2.2.2.2.2.2.2.1) (And.intro (M.out.2.2.2.2.2.1) (And.intro (M.out.2.2.2.2.2.2.1) (And.intro (M.out.2.2.2.2.2.2.2.1) (And.intro (M.out.2.2.2.2.2.2.2.2.1) (And.intro (M.out.2.2.2.2.2.2.2.2.2.1) (And.intro (M.out.2.2.2.2.2.2.2.2.2.2.1) (M.out.2.2.2.2.2.2.2.2.2.2.2.2.2))))))))⟩
                  case measure => simp [RowKit.intOf] <;> omega
      ·
        have f1_0 : decide (k < n) = false := decide_eq_false (by omega)
        have f1_1 : decide ((k : Int) < (n : Int)) = false := decide_eq_false (by omega)
        have f1_i : ¬ (k : Int) < (n : Int) := by omega
        have hb1_ : b15 = true := HL1.out.all HOK.out (by rw [HL.out.len]; omega) ha (by rw [HN0.out]; exact haN) (k := rl) (by rw [Eq29.out, Eq15.out, Eq23.out])
        subst hb1_
        have hb2_ : b16 = true := HM1.out.all HOK.out (by rw [HL.out.len]; omega) ha (by rw [HN0.out]; exact haN) (k := rl) (by rw [Eq29.out, Eq15.out, Eq23.out])
        subst hb2_
        go_wp2_with fail
        replace M := Lib.hid (And.intro (M.out.2.2.1) (And.intro (M.out.2.2.2.1) (And.intro (M.out.2.2.2.2.1) (And.intro (M.out.2.2.2.2.2.1) (And.intro (M.out.2.2.2.2.2.2.1) (M.out.2.2.2.2.2.2.2))))))
        go_loopw [24] (fun i24 wr => ∃ (k2 : Nat), i24 = .int .i64 (k2 : Int) ∧ Hid (k2 ≤ 3) ∧ Hid (RdC G wr a_7 n_8 c_9 l_10 ∧ FQ G wr x_11 x_12 x_13 x_14 q15 ∧ FQ G wr x_1 x_2 x_3 x_4 q5 ∧ Bx wr w4.heap.size 29 #[x_1, x_2, x_3, x_4] ∧ Bx wr w6.heap.size 29 #[x_11, x_12, x_13, x_14] ∧ Below w.heap.size w wr)) (fun i24 _ => 3 - (RowKit.intOf i24).toNat)
        case atStart =>
          exact ⟨0, rfl, (by show _ ≤ _; omega), Lib.hid (And.intro (M.out.1) (And.intro (M.out.2.1) (And.intro (M.out.2.2.1) (And.intro (M.out.2.2.2.1) (And.intro (M.out.2.2.2.2.1) (M.out.2.2.2.2.2))))))⟩
        case round =>
          obtain ⟨w10, rfl⟩ : ∃ x, x = wr := ⟨_, rfl⟩
          clear M
          obtain ⟨k2, rfl, hk2, M⟩ := hrel
          have hk2 := hk2.out
          by_cases hlt2 : k2 < 3
          ·
            have f2_0 : decide (k2 < 3) = true := decide_eq_true (by omega)
            have f2_1 : decide ((k2 : Int) < 3) = true := decide_eq_true (by omega)
            have f2_i : (k2 : Int) < 3 := by omega
            have hk20 : (0 : Int) ≤ (k2 : Int) := by omega
            go_wp2_with fail
            obtain ⟨q192, eq192⟩ : ∃ v_ : Rat, v_ = ((drawR (k2 : Int) (l.map LC.ly) am).2) := ⟨_, rfl⟩
            refine (draw_ok (G := G) (l := l) (rl := (k2 : Int)) (am0 := am) (Nat.le_trans hG (M.out.2.2.2.2.2).size) (HC0.out.keep (M.out.2.2.2.2.2)) HOK.out HZ.out (by omega) (by omega) (by omega) (by rw [HN0.out]; exact haN)).mono ?_
            rintro e w11 ⟨a_184, n_185, c_186, l_187, x_188, x_189, x_190, x_191, rfl, hd193, hu194, hd195, hb⟩
            rw [← eq192] at hd195
            have Eq192 := Lib.hid eq192; clear eq192
            replace M := Lib.hid (And.intro hd193 (And.intro hd195 (Goes.go M.out hb)))
            clear hb hd193 hd195
            replace hu194 := Lib.hid hu194
            have hd_ := draw_left (N := 3) HOK.out HZ3.out ha (show am ≤ sumN (l.map LC.ly) by rw [HN0.out]; exact haN) hu194.out
            have HOKc := Lib.hid hd_.1; have HZc := Lib.hid hd_.2.1; have HZGc := Lib.hid hd_.2.2.1; have HSNc := Lib.hid hd_.2.2.2.1; have HSBc := Lib.hid hd_.2.2.2.2.1; have HGEc := Lib.hid hd_.2.2.2.2.2.1; have HLEc := Lib.hid hd_.2.2.2.2.2.2; clear hd_
            have ys_x_188 := TQ.st (M.out.2.1); have st_x_188 := ys_x_188.1; have st_x_189 := ys_x_188.2.1; have st_x_190 := ys_x_188.2.2.1; have st_x_191 := ys_x_188.2.2.2; clear ys_x_188
            go_upto_region 25 with fail
            clear st_x_188 st_x_189 st_x_190 st_x_191
            obtain ⟨w12, hv⟩ : ∃ w_ : World, w_ = (w11.alloc (.cells #[x_188, x_189, x_190, x_191] 29)) := ⟨_, rfl⟩
            rw [← hv]
            have ow3_ : w6.heap.size < w11.heap.size := ((M.out.2.2.2.2.2.2.1)).lt
            replace M := Lib.hid (And.intro (hv ▸ bx1 w11 29 #[x_188, x_189, x_190, x_191]) (Goes.go M.out (hv ▸ below_alloc _ _ : Below w11.heap.size w11 w12)))
            clear hv
            go_wp2_with fail
            obtain ⟨q204, eq204⟩ : ∃ v_ : Rat, v_ = ((drawR (k2 : Int) (l.map LC.ly) N0).2) := ⟨_, rfl⟩
            refine (draw_ok (G := G) (l := l) (rl := (k2 : Int)) (am0 := N0) (Nat.le_trans hG (M.out.2.2.2.2.2.2.2.2).size) (HC0.out.keep (M.out.2.2.2.2.2.2.2.2)) HOK.out HZ.out (by omega) (by omega) (by omega) (by rw [HN0.out]; exact Int.le_refl _)).mono ?_
            rintro e w13 ⟨a_196, n_197, c_198, l_199, x_200, x_201, x_202, x_203, rfl, hd205, hu206, hd207, hb⟩
            rw [← eq204] at hd207
            have Eq204 := Lib.hid eq204; clear eq204
            replace M := Lib.hid (And.intro hd205 (And.intro hd207 (Goes.go M.out hb)))
            clear hb hd205 hd207
            replace hu206 := Lib.hid hu206
            have hd_ := draw_left (N := 3) HOK.out HZ3.out (by omega) (show N0 ≤ sumN (l.map LC.ly) by rw [HN0.out]; exact Int.le_refl _) hu206.out
            have HOKd := Lib.hid hd_.1; have HZd := Lib.hid hd_.2.1; have HZGd := Lib.hid hd_.2.2.1; have HSNd := Lib.hid hd_.2.2.2.1; have HSBd := Lib.hid hd_.2.2.2.2.1; have HGEd := Lib.hid hd_.2.2.2.2.2.1; have HLEd := Lib.hid hd_.2.2.2.2.2.2; clear hd_
            have hall_ := all_of HOK.out HN0.out (by omega) hu206.out
            obtain rfl : n_197 = 0 := by have h_ := hall_.1; rw [(M.out.1).len] at h_; exact h_
            have HAL := Lib.hid hall_.2; clear hall_
            have ys_x_200 := TQ.st (M.out.2.1); have st_x_200 := ys_x_200.1; have st_x_201 := ys_x_200.2.1; have st_x_202 := ys_x_200.2.2.1; have st_x_203 := ys_x_200.2.2.2; clear ys_x_200
            go_upto_region 26 with fail
            clear st_x_200 st_x_201 st_x_202 st_x_203
            obtain ⟨w14, hv⟩ : ∃ w_ : World, w_ = (w13.alloc (.cells #[x_200, x_201, x_202, x_203] 29)) := ⟨_, rfl⟩
            rw [← hv]
            have ow4_ : w11.heap.size < w13.heap.size := ((M.out.2.2.1)).lt
            replace M := Lib.hid (And.intro (hv ▸ bx1 w13 29 #[x_200, x_201, x_202, x_203]) (Goes.go M.out (hv ▸ below_alloc _ _ : Below w13.heap.size w13 w14)))
            clear hv
            cases b17 with
            | false =>
              have y4 := (M.out.1).d4; have p4_0 := y4.1; have p4_1 := y4.2.1; have p4_2 := y4.2.2.1; have p4_3 := y4.2.2.2; clear y4
              have y0 := (M.out.2.2.2.2.2.2.2.2.2.1).d4; have p0_0 := y0.1; have p0_1 := y0.2.1; have p0_2 := y0.2.2.1; have p0_3 := y0.2.2.2; clear y0
              go_wp2_with fail
              clear p4_0 p4_1 p4_2 p4_3 p0_0 p0_1 p0_2 p0_3
              refine (fsame_o (G := G) (o := (some q204)) (p := (some q5)) (b_ := true) (M.out.2.2.1) (M.out.2.2.2.2.2.2.2.2.1) (Oz.mono (Oz.some_ (show Fz q204 3220 by rw [Eq204.out]; exact HZGd.out)) (by omega)) (Oz.mono (Oz.some_ Sq5.out) (by omega)) (decide_eq_true (congrArg some (by rw [Eq204.out, Eq5.out]; exact HAL.out)))).mono ?_
              rintro e w15 ⟨rfl, hb⟩
              replace M := Lib.hid (Goes.go M.out hb)
              clear hb
              go_wp2_with fail
              go_roundw
              case rel => exact ⟨(k2 + 1), by go_num, (by show _ ≤ _; omega), Lib.hid (And.intro (M.out.2.2.2.2.2.2.1) (And.intro (M.out.2.2.2.2.2.2.2.1) (And.intro (M.out.2.2.2.2.2.2.2.2.1) (And.intro (M.out.2.2.2.2.2.2.2.2.2.1) (And.intro (M.out.2.2.2.2.2.2.2.2.2.2.1) (M.out.2.2.2.2.2.2.2.2.2.2.2))))))⟩
              case measure => simp [RowKit.intOf] <;> omega
            | true =>
              have y3 := (M.out.2.2.2.1).d4; have p3_0 := y3.1; have p3_1 := y3.2.1; have p3_2 := y3.2.2.1; have p3_3 := y3.2.2.2; clear y3
              have y1 := (M.out.2.2.2.2.2.2.2.2.2.2.1).d4; have p1_0 := y1.1; have p1_1 := y1.2.1; have p1_2 := y1.2.2.1; have p1_3 := y1.2.2.2; clear y1
              go_wp2_with fail
              clear p3_0 p3_1 p3_2 p3_3 p1_0 p1_1 p1_2 p1_3
              refine (fsame_o (G := G) (o := (some q192)) (p := (some q15)) (b_ := true) (M.out.2.2.2.2.2.1) (M.out.2.2.2.2.2.2.2.1) (Oz.mono (Oz.some_ (show Fz q192 3220 by rw [Eq192.out]; exact HZGc.out)) (by omega)) (Oz.mono (Oz.some_ (show Fz q15 3220 by rw [Eq15.out]; exact HZGb.out)) (by omega)) (decide_eq_true (congrArg some (by rw [Eq192.out, Eq15.out]; exact SameQ.all HS1.out HOK.out (by rw [HL.out.len]; omega) ha (by rw [HN0.out]; exact haN))))).mono ?_
              rintro e w15 ⟨rfl, hb⟩
              replace M := Lib.hid (Goes.go M.out hb)
              clear hb
              have y4 := (M.out.1).d4; have p4_0 := y4.1; have p4_1 := y4.2.1; have p4_2 := y4.2.2.1; have p4_3 := y4.2.2.2; clear y4
              have y0 := (M.out.2.2.2.2.2.2.2.2.2.1).d4; have p0_0 := y0.1; have p0_1 := y0.2.1; have p0_2 := y0.2.2.1; have p0_3 := y0.2.2.2; clear y0
              go_wp2_with fail
              clear p4_0 p4_1 p4_2 p4_3 p0_0 p0_1 p0_2 p0_3
              refine (fsame_o (G := G) (o := (some q204)) (p := (some q5)) (b_ := true) (M.out.2.2.1) (M.out.2.2.2.2.2.2.2.2.1) (Oz.mono (Oz.some_ (show Fz q204 3220 by rw [Eq204.out]; exact HZGd.out)) (by omega)) (Oz.mono (Oz.some_ Sq5.out) (by omega)) (decide_eq_true (congrArg some (by rw [Eq204.out, Eq5.out]; exact HAL.out)))).mono ?_
              rintro e w16 ⟨rfl, hb⟩
              replace M := Lib.hid (Goes.go M.out hb)
              clear hb
              go_wp2_with fail
              go_roundw
              case rel => exact ⟨(k2 + 1), by go_num, (by show _ ≤ _; omega), Lib.hid (And.intro (M.out.2.2.2.2.2.2.1) (And.intro (M.out.2.2.2.2.2.2.2.1) (And.intro (M.out.2.2.2.2.2.2.2.2.1) (And.intro (M.out.2.2.2.2.2.2.2.2.2.1) (And.intro (M.out.2.2.2.2.2.2.2.2.2.2.1) (M.out.2.2.2.2.2.2.2.2.2.2.2))))))⟩
              case measure => simp [RowKit.intOf] <;> omega
          ·
            have f2_0 : decide (k2 < 3) = false := decide_eq_false (by omega)
            have f2_1 : decide ((k2 : Int) < 3) = false := decide_eq_false (by omega)
            have f2_i : ¬ (k2 : Int) < 3 := by omega
            go_wp2_with fail
            go_ret
            exact ⟨rfl, (M.out.2.2.2.2.2)⟩
theorem rules_walk {ls : List LR} {a : Option Addr} {n c : Nat} {w : World} (h : RdR w.heap.size w a n c ls) (hn0 : n ≤ 9223372036854775807) {rl am : Int} :
    Calls Try.prog 6 #[.slice a n c, .int .i64 rl, .int .i64 am] w fun e w' => e = .returned (.bool true) ∧ Below w.heap.size w w' := by
  cases hf : fewL ls with
  | false => exact rules_1 h hn0 hf
  | true =>
    by_cases h20 : 20 < n
    · exact rules_2 h hn0 hf h20
    cases hr : rightL ls with
    | false => exact rules_3 h hn0 hf (by omega) hr
    | true =>
      by_cases hv : drErr rl am (sumN ((ls.map toC).map LC.ly)) = 0
      · exact rules_ok h hn0 hf (by omega) hr hv
      · exact rules_bad h hn0 hf (by omega) hr hv
end Go.Proofs.Ytgmngkbocpadaaa
