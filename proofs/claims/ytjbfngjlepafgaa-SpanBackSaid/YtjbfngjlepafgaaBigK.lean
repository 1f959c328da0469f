/- Walk: quotient and remainder of digits: the short ways; the laws of a guessed digit. -/
import Derived.Test.YtjbfngjlepafgaaProg
import Derived.WalkKit
import Derived.WalkSpells
import Derived.WalkLawsBesides
import Derived.Handy
import Derived.Lib.Hide
import Derived.Lib.Strings
import Derived.Lib.Builder
import Derived.BigQuiet
import Derived.OwnWalk
import Derived.Laws.BitsLemmas
import Derived.WalkSmall
import Derived.Deep.QuietTactic
import Derived.StillTailTactics
import Derived.Maps.AppendAt
namespace Go.Proofs.Ytjbfngjlepafgaa
open Go.RowKit

/-- The element type's row of the program's table. -/
structure ElemT (P : Program) (t e : TypeId) (z : Value) (size bytes : Nat) : Prop where
  under : P.underlying t = some (.slice e)
  info : (P.info? e).map (fun i => (i.zero, i.size, i.bytes)) = some (some z, size, bytes)
  cells : z.cells.size = size
  pos : 0 < size
theorem grown_below {B : Nat} {w w' : World} {e : TypeId} {size n : Nat} {v : Value} {xs : List Value} (h : w.ownsRow B e size v n xs) (hg : w.grownBy w' v.ownBlock) (hB : B ≤ w.heap.size) : Below B w w' :=
  (Below.refl B w).grown hg hB fun k hk => (h.lt k hk).1
theorem add_off (b o j : Nat) : (⟨b, o, none⟩ : Addr).add j = ⟨b, o + j, none⟩ := by unfold Addr.add; split <;> simp_all
theorem below_new {w w' : World} {o : Obj} (hb : Below (w.alloc o).heap.size (w.alloc o) w') : Below w.heap.size w w' :=
  ((Below.refl _ w).alloc (Nat.le_refl _) o).trans (hb.mono (by simp))
theorem results_box2 {P : Program} {fn : Func} {p u : Tmp} {ty : TypeId} (h : fn.results = #[.cell p ty, .tmp u]) (tmps : Array Value) (w : World) (g : Nat) (t : TypeId) (cs : Array Value) (fr : Nat × Nat) (d : TypeDesc)
    (hp : tmps.getD p undef = .pointer (some ⟨g, 0, none⟩)) (hg : w.heap[g]? = some (.cells cs t fr))
    (hu : P.underlying ty = some d) (hd : (match d with | .struct _ | .array _ _ => true | _ => false) = true) (hi : (P.info? ty).map (·.size) = some cs.size) :
    (results fn tmps).run P w = .ok (.tuple #[.agg cs, tmps.getD u undef]) w := by
  have hp' : tmps[p]?.getD undef = .pointer (some ⟨g, 0, none⟩) := by simpa using hp
  simp [results, h, hp', asAddr, run_loadVar_row w g t ty cs fr d hg hu hd hi]
theorem own_below {B : Nat} {w w' : World} {e : TypeId} {size n : Nat} {v : Value} {xs : List Value} (h : w.ownsRow B e size v n xs) (hb : Below w.heap.size w w') : w'.ownsRow B e size v n xs := by
  obtain ⟨h1, h2⟩ := h
  refine ⟨h1, ?_⟩
  rcases h2 with h2 | ⟨g, cap, cur, hv, hg, hh, r⟩
  · exact .inl h2
  · exact .inr ⟨g, cap, cur, hv, hg, by rw [hb.block g (lt_of_block hh)]; exact hh, r⟩
theorem own_mono {B B' : Nat} {w : World} {e : TypeId} {size n : Nat} {v : Value} {xs : List Value} (h : w.ownsRow B e size v n xs) (hB : B' ≤ B) : w.ownsRow B' e size v n xs := by
  obtain ⟨h1, h2⟩ := h
  refine ⟨h1, ?_⟩
  rcases h2 with h2 | ⟨g, cap, cur, hv, hg, r⟩
  · exact .inl h2
  · exact .inr ⟨g, cap, cur, hv, by omega, r⟩
/-- A slice of n elements of sz cells each reads as the cells 'cs k' at index k. -/
def RdS (w : World) (v : Value) (n sz : Nat) (cs : Nat → List Value) : Prop :=
  ∃ a cap, v = .slice a n cap ∧ ∀ k, k < n → ∃ b off, a = some ⟨b, off, none⟩ ∧ b < w.heap.size ∧ ∀ j u, (cs k)[j]? = some u → w.cell? ⟨b, off + k * sz + j, none⟩ = some u
theorem RdS.keep {w w' : World} {v : Value} {n sz : Nat} {cs : Nat → List Value} (h : RdS w v n sz cs) (hb : Below w.heap.size w w') : RdS w' v n sz cs := by
  obtain ⟨a, cap, hv, hc⟩ := h
  refine ⟨a, cap, hv, fun k hk => ?_⟩
  obtain ⟨b, off, ha, hlt, hcell⟩ := hc k hk
  exact ⟨b, off, ha, Nat.lt_of_lt_of_le hlt hb.size, fun j u hj => by rw [hb.cell hlt]; exact hcell j u hj⟩
theorem flat_get {α : Type} (f : α → List Value) (sz : Nat) : ∀ (l : List α), (∀ x ∈ l, (f x).length = sz) → ∀ (k : Nat) (x : α), l[k]? = some x → ∀ j, j < sz → (l.flatMap f)[k * sz + j]? = (f x)[j]?
  | [], _, k, x, h, _, _ => by simp at h
  | y :: l, hl, 0, x, h, j, hj => by
    simp at h; subst h
    have := hl y (by simp)
    rw [List.flatMap_cons, Nat.zero_mul, Nat.zero_add, List.getElem?_append_left (by omega)]
  | y :: l, hl, k + 1, x, h, j, hj => by
    have h1 := hl y (by simp)
    have ih := flat_get f sz l (fun z hz => hl z (by simp [hz])) k x (by simpa using h) j hj
    rw [List.flatMap_cons, List.getElem?_append_right (by rw [h1, Nat.succ_mul]; omega), h1, show (k + 1) * sz + j - sz = k * sz + j by rw [Nat.succ_mul]; omega]
    exact ih
/-- What the call owns reads so. -/
theorem rds_of_own {α : Type} {w : World} {B : Nat} {e : TypeId} {sz : Nat} {v : Value} (f : α → List Value) (l : List α) (hf : ∀ x ∈ l, (f x).length = sz)
    (h : w.ownsRow B e sz v l.length (l.flatMap f)) : RdS w v l.length sz (fun k => (l[k]?.map f).getD []) := by
  rcases h.2 with ⟨rfl, h0⟩ | ⟨g, cap, cur, rfl, hg, hh, r⟩
  · exact ⟨none, 0, by rw [h0], fun k hk => by omega⟩
  · refine ⟨_, cap, rfl, fun k hk => ⟨g, 0, rfl, lt_of_block hh, fun j u hj => ?_⟩⟩
    have hx : l[k]? = some (l[k]'hk) := List.getElem?_eq_getElem hk
    dsimp only at hj
    rw [hx] at hj
    simp only [Option.map_some, Option.getD_some] at hj
    have hjs : j < sz := by
      have := hf _ (List.getElem_mem hk)
      rcases Nat.lt_or_ge j sz with h' | h'
      · exact h'
      · rw [List.getElem?_eq_none (by omega)] at hj; cases hj
    have hlt : k * sz + j < l.length * sz := by
      have : (k + 1) * sz ≤ l.length * sz := Nat.mul_le_mul_right sz hk
      rw [Nat.succ_mul] at this; omega
    rw [Nat.zero_add, h.cellAt (j := k * sz + j) hlt, flat_get f sz l hf k _ hx j hjs]
    exact hj
end Go.Proofs.Ytjbfngjlepafgaa
namespace Go.Proofs.Ytjbfngjlepafgaa

abbrev Digs := List Nat
def val : Digs → Nat | [] => 0 | d :: r => d + 1048576 * val r
def small (l : Digs) : Prop := ∀ d ∈ l, d < 1048576
def digsF : Nat → Nat → Digs | 0, _ => [] | f + 1, n => if n = 0 then [] else n % 1048576 :: digsF f (n / 1048576)
/-- The digits of a number, the least one first, without zeros at the end. -/
def digs (n : Nat) : Digs := digsF n n
def canon (l : Digs) : Prop := small l ∧ l.getLast? ≠ some 0
theorem digsF_enough : ∀ (f g n : Nat), n ≤ f → n ≤ g → digsF f n = digsF g n
  | 0, 0, _, _, _ => rfl
  | 0, g + 1, n, h, _ => by obtain rfl : n = 0 := by omega
                            simp [digsF]
  | f + 1, 0, n, _, h => by obtain rfl : n = 0 := by omega
                            simp [digsF]
  | f + 1, g + 1, n, h, h' => by
    simp only [digsF]
    by_cases h0 : n = 0
    · rw [if_pos h0, if_pos h0]
    · rw [if_neg h0, if_neg h0, digsF_enough f g (n / 1048576) (by omega) (by omega)]
theorem digs_zero : digs 0 = [] := rfl
theorem digs_step {n : Nat} (h : n ≠ 0) : digs n = n % 1048576 :: digs (n / 1048576) := by
  unfold digs
  match n, h with
  | n + 1, h => rw [digsF, if_neg h, digsF_enough n _ _ (by omega) (Nat.le_refl _)]
theorem digs_mk {d n : Nat} (hd : d < 1048576) (h : d + 1048576 * n ≠ 0) : digs (d + 1048576 * n) = d :: digs n := by
  rw [digs_step h]
  have h1 : (d + 1048576 * n) % 1048576 = d := by omega
  have h2 : (d + 1048576 * n) / 1048576 = n := by omega
  rw [h1, h2]
theorem val_digs (n : Nat) : val (digs n) = n := by
  induction n using Nat.strongRecOn with
  | ind n ih =>
    by_cases h : n = 0
    · subst h; rfl
    · rw [digs_step h, val, ih (n / 1048576) (by omega)]; omega
theorem digs_small (n : Nat) : small (digs n) := by
  induction n using Nat.strongRecOn with
  | ind n ih =>
    by_cases h : n = 0
    · subst h; intro d hd; simp [digs_zero] at hd
    · rw [digs_step h]
      intro d hd
      rcases List.mem_cons.1 hd with rfl | hd
      · exact Nat.mod_lt _ (by omega)
      · exact ih _ (by omega) d hd
theorem digs_last (n : Nat) : (digs n).getLast? ≠ some 0 := by
  induction n using Nat.strongRecOn with
  | ind n ih =>
    by_cases h : n = 0
    · subst h; simp [digs_zero]
    · rw [digs_step h]
      by_cases h1 : n / 1048576 = 0
      · rw [h1, digs_zero]; simp; omega
      · have := ih (n / 1048576) (by omega)
        rw [digs_step h1] at this ⊢
        rw [List.getLast?_cons_cons]; exact this
theorem canon_tail {d : Nat} {r : Digs} (h : canon (d :: r)) : canon r := by
  refine ⟨fun x hx => h.1 x (by simp [hx]), ?_⟩
  cases r with
  | nil => simp
  | cons e q => have := h.2; rw [List.getLast?_cons_cons] at this; exact this
theorem digs_val {l : Digs} (h : canon l) : digs (val l) = l := by
  induction l with
  | nil => rfl
  | cons d r ih =>
    have hr := ih (canon_tail h)
    have hd := h.1 d (by simp)
    rw [val, digs_mk hd, hr]
    intro h0
    have hv : val r = 0 := by omega
    rw [hv] at hr
    have : r = [] := by rw [← hr]; rfl
    subst this
    have := h.2
    simp at this; omega
theorem digs_nil {n : Nat} : digs n = [] ↔ n = 0 := by
  constructor
  · intro h; have := val_digs n; rw [h] at this; exact this.symm
  · rintro rfl; rfl
theorem val_append (a b : Digs) : val (a ++ b) = val a + 1048576 ^ a.length * val b := by
  induction a with
  | nil => simp [val]
  | cons d r ih => rw [List.cons_append, val, ih, val, List.length_cons, Nat.pow_succ, Nat.mul_add, Nat.mul_comm (1048576 ^ r.length) 1048576, Nat.mul_assoc]; omega
theorem val_lt {l : Digs} (h : small l) : val l < 1048576 ^ l.length := by
  induction l with
  | nil => simp [val]
  | cons d r ih =>
    have h1 := ih (fun x hx => h x (by simp [hx]))
    have h2 := h d (by simp)
    rw [val, List.length_cons, Nat.pow_succ]; omega
theorem val_zeros {l : Digs} (h : ∀ d ∈ l, d = 0) : val l = 0 := by
  induction l with
  | nil => rfl
  | cons d r ih => rw [val, ih (fun x hx => h x (by simp [hx])), h d (by simp)]
theorem val_split (l : Digs) (k : Nat) (hk : k ≤ l.length) : val l = val (l.take k) + 1048576 ^ k * val (l.drop k) := by
  conv => lhs; rw [← List.take_append_drop k l]
  rw [val_append, List.length_take, Nat.min_eq_left hk]
theorem val_take_succ (l : Digs) (k : Nat) (hk : k < l.length) : val (l.take (k + 1)) = val (l.take k) + 1048576 ^ k * l[k] := by
  rw [List.take_succ_eq_append_getElem hk, val_append, List.length_take, Nat.min_eq_left (by omega)]; simp [val]
theorem val_snoc (l : Digs) (d : Nat) : val (l ++ [d]) = val l + 1048576 ^ l.length * d := by rw [val_append]; simp [val]
theorem small_take {l : Digs} (h : small l) (k : Nat) : small (l.take k) := fun d hd => h d (List.mem_of_mem_take hd)
theorem small_drop {l : Digs} (h : small l) (k : Nat) : small (l.drop k) := fun d hd => h d (List.mem_of_mem_drop hd)
theorem small_append {a b : Digs} (ha : small a) (hb : small b) : small (a ++ b) := by intro d hd; rcases List.mem_append.1 hd with h | h; exact ha d h; exact hb d h
theorem small_nil : small [] := by intro d hd; simp at hd
theorem small_one {d : Nat} (h : d < 1048576) : small [d] := by intro x hx; simp at hx; omega
theorem small_get {l : Digs} (h : small l) (k : Nat) (hk : k < l.length) : l[k] < 1048576 := h _ (List.getElem_mem hk)
/-- Where trimming ends. -/
theorem trim_take {l : Digs} (hs : small l) {n : Nat} (hn : n ≤ l.length) (hz : ∀ j (h : j < l.length), n ≤ j → l[j] = 0) (hl : n = 0 ∨ ∃ h : n - 1 < l.length, l[n - 1] ≠ 0) : l.take n = digs (val l) := by
  have hv : val l = val (l.take n) := by
    rw [val_split l n hn, val_zeros (l := l.drop n)]; rfl
    intro d hd
    obtain ⟨i, hi, rfl⟩ := List.getElem_of_mem hd
    rw [List.getElem_drop]
    exact hz _ _ (by omega)
  rw [hv]
  refine (digs_val ⟨small_take hs n, ?_⟩).symm
  rcases hl with rfl | ⟨h, hne⟩
  · simp
  · rw [List.getLast?_eq_getElem?, List.length_take, Nat.min_eq_left hn, List.getElem?_take]
    by_cases h0 : n = 0
    · subst h0; simp
    · rw [if_pos (by omega), List.getElem?_eq_getElem h]
      simpa using hne
theorem digs_len_lt (n : Nat) : n < 1048576 ^ (digs n).length := by have := val_lt (digs_small n); rwa [val_digs] at this
theorem digs_len_ge {n : Nat} (h : n ≠ 0) : 1048576 ^ ((digs n).length - 1) ≤ n := by
  induction n using Nat.strongRecOn with
  | ind n ih =>
    rw [digs_step h]
    by_cases h1 : n / 1048576 = 0
    · rw [h1, digs_zero]; simp; omega
    · have := ih (n / 1048576) (by omega) h1
      have hne : (digs (n / 1048576)).length ≠ 0 := by
        intro h0; exact h1 (digs_nil.1 (List.length_eq_zero_iff.1 h0))
      rw [List.length_cons, Nat.add_sub_cancel]
      obtain ⟨m, hm⟩ : ∃ m, (digs (n / 1048576)).length = m + 1 := ⟨(digs (n / 1048576)).length - 1, by omega⟩
      rw [hm] at this ⊢
      rw [Nat.add_sub_cancel] at this
      rw [Nat.pow_succ]
      have h2 := Nat.mul_le_mul_right 1048576 this
      omega
theorem digs_len_mono {a b : Nat} (h : a ≤ b) : (digs a).length ≤ (digs b).length := by
  rcases Nat.lt_or_ge (digs b).length (digs a).length with hlt | hge
  · exfalso
    have ha : a ≠ 0 := by rintro rfl; simp [digs_zero] at hlt
    have h1 := digs_len_ge ha
    have h2 := digs_len_lt b
    have h3 : 1048576 ^ (digs b).length ≤ 1048576 ^ ((digs a).length - 1) := Nat.pow_le_pow_right (by omega) (by omega)
    omega
  · exact hge
theorem digs_inj {a b : Nat} (h : digs a = digs b) : a = b := by rw [← val_digs a, h, val_digs]
end Go.Proofs.Ytjbfngjlepafgaa
namespace Go.Proofs.Ytjbfngjlepafgaa
open Go.RowKit

/-- A slice of ints reads as these numbers. -/
def RdZ (w : World) (v : Value) (l : List Int) : Prop := RdS w v l.length 1 (fun k => (l[k]?.map fun d => [Value.int .i64 d]).getD [])
def ints (l : Digs) : List Int := List.map (fun d : Nat => (d : Int)) l
/-- A slice of ints reads as these digits. -/
def RdN (w : World) (v : Value) (l : Digs) : Prop := RdZ w v (ints l)
theorem ints_len (l : Digs) : (ints l).length = l.length := by simp [ints]
theorem ints_get (l : Digs) (k : Nat) (h : k < l.length) : (ints l)[k]'(by rw [ints_len]; exact h) = (l[k] : Int) := by simp [ints]
theorem RdZ.keep {w w' : World} {v : Value} {l : List Int} (h : RdZ w v l) (hb : Below w.heap.size w w') : RdZ w' v l := RdS.keep h hb
theorem RdN.keep {w w' : World} {v : Value} {l : Digs} (h : RdN w v l) (hb : Below w.heap.size w w') : RdN w' v l := RdZ.keep h hb
theorem RdZ.at {w : World} {a : Option Addr} {n cap : Nat} {l : List Int} (h : RdZ w (.slice a n cap) l) {k : Nat} (hk : k < l.length) :
    ∃ b off, a = some ⟨b, off, none⟩ ∧ b < w.heap.size ∧ w.cell? ⟨b, off + k, none⟩ = some (.int .i64 l[k]) := by
  obtain ⟨a', cap', hv, hc⟩ := h
  cases hv
  obtain ⟨b, off, ha, hlt, hcell⟩ := hc k hk
  refine ⟨b, off, ha, hlt, ?_⟩
  have := hcell 0 (.int .i64 l[k]) (by show ((l[k]?.map fun d => [Value.int .i64 d]).getD [])[0]? = _; rw [List.getElem?_eq_getElem hk]; rfl)
  rwa [Nat.mul_one, Nat.add_zero] at this
theorem RdZ.shape {w : World} {v : Value} {l : List Int} (h : RdZ w v l) : ∃ a cap, v = .slice a l.length cap := by
  obtain ⟨a, cap, hv, _⟩ := h; exact ⟨a, cap, hv⟩
theorem RdN.shape {w : World} {v : Value} {l : Digs} (h : RdN w v l) : ∃ a cap, v = .slice a l.length cap := by
  obtain ⟨a, cap, hv⟩ := RdZ.shape h; rw [ints_len] at hv; exact ⟨a, cap, hv⟩
theorem RdN.at {w : World} {a : Option Addr} {n cap : Nat} {l : Digs} (h : RdN w (.slice a n cap) l) {k : Nat} (hk : k < l.length) :
    ∃ b off, a = some ⟨b, off, none⟩ ∧ b < w.heap.size ∧ w.cell? ⟨b, off + k, none⟩ = some (.int .i64 (l[k] : Int)) := by
  obtain ⟨b, off, ha, hlt, hc⟩ := RdZ.at h (k := k) (by rw [ints_len]; exact hk)
  rw [ints_get l k hk] at hc
  exact ⟨b, off, ha, hlt, hc⟩
theorem rdZ_nil (w : World) (cap : Nat) (a : Option Addr) : RdZ w (.slice a 0 cap) [] := ⟨a, cap, rfl, fun k hk => by simp at hk⟩
theorem rdN_nil (w : World) (cap : Nat) (a : Option Addr) : RdN w (.slice a 0 cap) [] := rdZ_nil w cap a
/-- The cells of digits. -/
def cellsZ (l : List Int) : List Value := l.map fun d => Value.int .i64 d
def cellsN (l : Digs) : List Value := cellsZ (ints l)
theorem cellsZ_flat (l : List Int) : List.flatMap (fun d => [Value.int .i64 d]) l = cellsZ l := by
  induction l with
  | nil => rfl
  | cons d r ih => rw [List.flatMap_cons, ih]; rfl
theorem rdZ_own {w : World} {B : Nat} {v : Value} {l : List Int} {n : Nat} (h : w.ownsRow B 3 1 v n (cellsZ l)) (hn : n = l.length) : RdZ w v l := by
  subst hn
  exact rds_of_own (fun d => [Value.int .i64 d]) l (fun _ _ => rfl) (by rw [cellsZ_flat]; exact h)
theorem rdN_own {w : World} {B : Nat} {v : Value} {l : Digs} {n : Nat} (h : w.ownsRow B 3 1 v n (cellsN l)) (hn : n = l.length) : RdN w v l := rdZ_own h (by rw [ints_len]; exact hn)
/-- Part of a slice. -/
theorem RdN.take {w : World} {a : Option Addr} {n cap : Nat} {l : Digs} (h : RdN w (.slice a n cap) l) {m cap' : Nat} (hm : m ≤ l.length) : RdN w (.slice a m cap') (l.take m) := by
  have hlen : (l.take m).length = m := by rw [List.length_take]; omega
  refine ⟨a, cap', by rw [ints_len, hlen], fun k hk => ?_⟩
  rw [ints_len, hlen] at hk
  obtain ⟨b, off, ha, hlt, hc⟩ := h.at (k := k) (by omega)
  refine ⟨b, off, ha, hlt, fun j u hj => ?_⟩
  have hg : (ints (l.take m))[k]? = some (l[k]'(by omega) : Int) := by
    rw [List.getElem?_eq_getElem (by rw [ints_len, hlen]; exact hk), ints_get _ _ (by rw [hlen]; exact hk), List.getElem_take]
  dsimp only at hj
  rw [hg] at hj
  match j, hj with
  | 0, hj => simp at hj; subst hj; rw [Nat.mul_one, Nat.add_zero]; exact hc
  | j + 1, hj => simp at hj
end Go.Proofs.Ytjbfngjlepafgaa
namespace Go.Proofs.Ytjbfngjlepafgaa
open Go.RowKit

theorem ret_bool {a b : Bool} (h : a = b) : Ending.returned (.bool a) = .returned (.bool b) := by rw [h]
theorem ret_int {k : IntKind} {a b : Int} (h : a = b) : Ending.returned (.int k a) = .returned (.int k b) := by rw [h]
def digitOk (d : Int) : Bool := decide (0 ≤ d) && decide (d ≤ 1048575)
def rightB (s : Int) (l : List Int) : Bool := l.all digitOk && (if l = [] then s == 0 else (s == 1 || s == -1) && decide (l.getLast? ≠ some 0))
theorem ztake_snoc (l : List Int) (k : Nat) (h : k < l.length) : l.take (k + 1) = l.take k ++ [l[k]] := List.take_succ_eq_append_getElem h
theorem digitOk_yes {d : Int} (h : 0 ≤ d) (h' : d ≤ 1048575) : digitOk d = true := by simp [digitOk, h, h']
theorem digitOk_no {d : Int} (h : d < 0 ∨ 1048575 < d) : digitOk d = false := by simp [digitOk]; omega
theorem all_ztake (l : List Int) (k : Nat) (h : k < l.length) : (l.take (k + 1)).all digitOk = ((l.take k).all digitOk && digitOk l[k]) := by rw [ztake_snoc l k h, List.all_append, List.all_cons, List.all_nil, Bool.and_true]
set_option maxHeartbeats 4000000 in
theorem bigRight_any (s : Int) (v : Value) (l : List Int) (w : World) (hv : RdZ w v l) (hn : l.length ≤ 1099511627776) :
    Calls Try.prog 61 #[.agg #[.int .i64 s, v]] w fun e w' => e = .returned (.bool (rightB s l)) ∧ Below w.heap.size w w' := by
  obtain ⟨a, cap, rfl⟩ := hv.shape
  have HV := Lib.hid (hv.keep ((Below.refl _ w).alloc (Nat.le_refl _) (.cells #[.int .i64 s, .slice a l.length cap] 24))); clear hv
  have HB : Hid (Below w.heap.size w (w.alloc (.cells #[.int .i64 s, .slice a l.length cap] 24))) := (Below.refl _ w).alloc (Nat.le_refl _) _
  go_enter Try.func61, Try.ntmps61
  go_wp2_with fail
  go_loop [12] (fun i => ∃ k : Nat, k ≤ l.length ∧ i = .int .i64 k ∧ Hid ((l.take k).all digitOk = true)) (fun i => l.length - (intOf i).toNat)
  case atStart => exact ⟨0, Nat.zero_le _, rfl, rfl⟩
  case round =>
    obtain ⟨k, hk, rfl, HA⟩ := hrel
    by_cases hlt : k < l.length
    · obtain ⟨b, off, rfl, hb, hcell⟩ := HV.out.at hlt
      obtain ⟨d, hd⟩ : ∃ d, d = l[k] := ⟨_, rfl⟩
      rw [← hd] at hcell
      have hsn := all_ztake l k hlt
      rw [← hd] at hsn
      have HS := Lib.hid hsn
      have hmem : d ∈ l := by rw [hd]; exact List.getElem_mem _
      have HM := Lib.hid hmem
      clear hd hsn hmem
      by_cases h1 : 0 ≤ d
      · by_cases h2 : d ≤ 1048575
        · have HO := Lib.hid (digitOk_yes h1 h2)
          go_wp2_with fail
          go_round
          case rel => exact ⟨k + 1, by omega, by go_num, by show _ = _; rw [HS.out, HA.out, HO.out]; rfl⟩
          case measure => simp [intOf]; omega
        · have hno : Hid (rightB s l = false) := by
            show _ = _
            have : l.all digitOk = false := by
              rw [Bool.eq_false_iff]; intro hh
              have := List.all_eq_true.1 hh _ HM.out
              rw [digitOk_no (.inr (by omega))] at this; cases this
            rw [rightB, this]; rfl
          go_wp2_with fail
          go_ret
          exact ⟨ret_bool (by rw [hno.out]), HB.out⟩
      · have hno : Hid (rightB s l = false) := by
          show _ = _
          have : l.all digitOk = false := by
            rw [Bool.eq_false_iff]; intro hh
            have := List.all_eq_true.1 hh _ HM.out
            rw [digitOk_no (.inl (by omega))] at this; cases this
          rw [rightB, this]; rfl
        go_wp2_with fail
        go_ret
        exact ⟨ret_bool (by rw [hno.out]), HB.out⟩
    · have hall : Hid (l.all digitOk = true) := by have := HA.out; rw [List.take_of_length_le (by omega)] at this; exact this
      by_cases h0 : l.length = 0
      · have hl : Hid (rightB s l = (s == 0)) := by
          show _ = _
          rw [rightB, hall.out, if_pos (List.length_eq_zero_iff.1 h0)]; rfl
        have e0 : ((l.length : Int) == 0) = true := by rw [beq_iff_eq]; omega
        have H0 := Lib.hid h0; clear h0
        go_wp2_with fail
        go_ret
        exact ⟨ret_bool (by rw [hl.out]), HB.out⟩
      · have hlast : l.length - 1 < l.length := by omega
        obtain ⟨b, off, rfl, hb, hcell⟩ := HV.out.at hlast
        obtain ⟨d, hd⟩ : ∃ d, d = l[l.length - 1] := ⟨_, rfl⟩
        rw [← hd] at hcell
        have e0 : ((l.length : Int) == 0) = false := by rw [beq_eq_false_iff_ne]; omega
        have hl : Hid (rightB s l = ((s == 1 || s == -1) && (d != 0))) := by
          show _ = _
          have hne : l ≠ [] := fun h => h0 (by rw [h]; rfl)
          rw [rightB, hall.out, if_neg hne, Bool.true_and, List.getLast?_eq_getElem?, List.getElem?_eq_getElem hlast, ← hd]
          by_cases hd0 : d = 0 <;> simp [hd0]
        clear hd
        cases e1 : (s == 1) with
        | true =>
          go_wp2_with fail
          go_ret
          exact ⟨ret_bool (by rw [hl.out, e1]; rfl), HB.out⟩
        | false =>
          cases e2 : (s == -1) with
          | true =>
            go_wp2_with fail
            go_ret
            exact ⟨ret_bool (by rw [hl.out, e1, e2]; rfl), HB.out⟩
          | false =>
            go_wp2_with fail
            go_ret
            exact ⟨ret_bool (by rw [hl.out, e1, e2]; rfl), HB.out⟩
end Go.Proofs.Ytjbfngjlepafgaa
namespace Go.Proofs.Ytjbfngjlepafgaa
open Go.RowKit

/-- A slice of the call's own that holds these digits. -/
def OwnN (w : World) (B : Nat) (v : Value) (l : Digs) : Prop := w.ownsRow B 3 1 v l.length (cellsN l)
theorem OwnN.rd {w : World} {B : Nat} {v : Value} {l : Digs} (h : OwnN w B v l) : RdN w v l := rdN_own h rfl
theorem OwnN.keep {w w' : World} {B : Nat} {v : Value} {l : Digs} (h : OwnN w B v l) (hb : Below w.heap.size w w') : OwnN w' B v l := own_below h hb
theorem OwnN.mono {w : World} {B B' : Nat} {v : Value} {l : Digs} (h : OwnN w B v l) (hB : B' ≤ B) : OwnN w B' v l := own_mono h hB
theorem cellsN_len (l : Digs) : (cellsN l).length = l.length := by simp [cellsN, cellsZ, ints]
theorem cellsN_take (l : Digs) (m : Nat) : (cellsN l).take m = cellsN (l.take m) := by simp [cellsN, cellsZ, ints, List.map_take]
theorem cellsN_get (l : Digs) (k : Nat) (h : k < l.length) : (cellsN l)[k]? = some (.int .i64 (l[k] : Int)) := by simp [cellsN, cellsZ, ints, h]
theorem ownN_nil (w : World) (B : Nat) : OwnN w B (.slice none 0 0) [] := World.ownsRow_nil _ _ _ _
/-- Either nothing, or a row in a block of the call's own. -/
theorem OwnN.shape {w : World} {B : Nat} {v : Value} {l : Digs} (h : OwnN w B v l) : (v = .slice none 0 0 ∧ l = []) ∨ ∃ g cap, v = .slice (some ⟨g, 0, none⟩) l.length cap ∧ B ≤ g ∧ g < w.heap.size ∧ l.length ≤ cap := by
  rcases h.2 with ⟨h1, h2⟩ | ⟨g, cap, cur, h1, h2, h3, h4, h5⟩
  · exact .inl ⟨h1, List.length_eq_zero_iff.1 h2⟩
  · exact .inr ⟨g, cap, h1, h2, lt_of_block h3, h4⟩
theorem OwnN.cut {w : World} {B g cap : Nat} {l : Digs} (h : OwnN w B (.slice (some ⟨g, 0, none⟩) l.length cap) l) (m : Nat) (hm : m ≤ l.length) : OwnN w B (.slice (some ⟨g, 0, none⟩) m cap) (l.take m) := by
  have hlen : (l.take m).length = m := by rw [List.length_take]; omega
  refine ⟨by rw [cellsN_len, Nat.mul_one], .inr ?_⟩
  rcases h.2 with ⟨h1, h2⟩ | ⟨g', cap', cur, h1, h2, h3, h4, h5, h6, h7⟩
  · cases h1
  · simp only [Value.slice.injEq, Option.some.injEq, Addr.mk.injEq, and_true, true_and] at h1
    obtain ⟨rfl, rfl⟩ := h1
    refine ⟨g, cap, cur, by rw [hlen], h2, h3, by omega, h5, h6, ?_⟩
    rw [hlen, Nat.mul_one, ← cellsN_take, ← h7, List.take_take, Nat.mul_one, Nat.min_eq_left hm]
/-- One value is a part of another in whatever world. -/
def Cuts (v v' : Value) (l l' : Digs) : Prop := ∀ wx Bx, OwnN wx Bx v l → OwnN wx Bx v' l'
set_option maxHeartbeats 2000000 in
theorem bigTrim_all (B : Nat) (v : Value) (l : Digs) (w : World) (h : OwnN w B v l) (hs : small l) (hn : l.length ≤ 8796093022208) :
    Calls Try.prog 83 #[v] w fun e w' => ∃ v', e = .returned v' ∧ Cuts v v' l (digs (val l)) ∧ w = w' := by
  rcases h.shape with ⟨rfl, rfl⟩ | ⟨g, cap, rfl, hg, hlt, hcap⟩
  · go_enter Try.func83, Try.ntmps83
    go_wp2_with fail
    go_loop [3] (fun i => i = .int .i64 0) (fun _ => 0)
    case atStart => rfl
    case round =>
      obtain rfl := hrel
      go_wp2_with fail
      go_ret
      exact ⟨_, rfl, fun _ _ _ => ownN_nil _ _, rfl⟩
  · have HR := Lib.hid h.rd; clear h
    go_enter Try.func83, Try.ntmps83
    go_wp2_with fail
    go_loop [3] (fun i => ∃ k : Nat, k ≤ l.length ∧ i = .int .i64 k ∧ Hid (∀ j (h : j < l.length), k ≤ j → l[j] = 0)) (fun i => (intOf i).toNat)
    case atStart => exact ⟨l.length, Nat.le_refl _, rfl, fun j h hj => by omega⟩
    case round =>
      obtain ⟨k, hk, rfl, HZ⟩ := hrel
      by_cases h0 : 0 < k
      · have hk1 : k - 1 < l.length := by omega
        obtain ⟨b, off, ha, hb, hcell⟩ := HR.out.at hk1
        cases ha
        obtain ⟨d, hd⟩ : ∃ d, d = l[k - 1] := ⟨_, rfl⟩
        rw [← hd, Nat.zero_add] at hcell
        obtain ⟨m, rfl⟩ : ∃ m, k = m + 1 := ⟨k - 1, by omega⟩
        rw [Nat.add_sub_cancel] at hcell
        have hd' : d = l[m] := hd
        have HD := Lib.hid hd'
        clear hd hd'
        by_cases hd0 : d = 0
        · have e1 : ((d : Int) == 0) = true := by rw [beq_iff_eq]; omega
          have H0 := Lib.hid hd0; clear hd0
          go_wp2_with fail
          go_round
          case rel => exact ⟨m, by omega, by go_num, fun j hj hjm => by
            rcases Nat.lt_or_ge m j with h' | h'
            · exact HZ.out j hj (by omega)
            · obtain rfl : j = m := by omega
              rw [← HD.out]; exact H0.out⟩
          case measure => simp [intOf]
        · have e1 : ((d : Int) == 0) = false := by rw [beq_eq_false_iff_ne]; omega
          have H0 := Lib.hid hd0; clear hd0
          have ht := Lib.hid (trim_take hs hk HZ.out (.inr ⟨by simpa using hk1, by simp only [Nat.add_sub_cancel]; rw [← HD.out]; exact H0.out⟩))
          go_wp2_with fail
          go_ret
          exact ⟨_, rfl, fun wx Bx hx => by rw [← ht.out]; exact hx.cut _ hk, rfl⟩
      · obtain rfl : k = 0 := by omega
        have ht := Lib.hid (trim_take hs hk HZ.out (.inl rfl))
        go_wp2_with fail
        go_ret
        exact ⟨_, rfl, fun wx Bx hx => by rw [← ht.out]; exact hx.cut 0 hk, rfl⟩
theorem bigTrim_own (B : Nat) (v : Value) (l : Digs) (w : World) (h : OwnN w B v l) (hs : small l) (hn : l.length ≤ 8796093022208) :
    Calls Try.prog 83 #[v] w fun e w' => ∃ v', e = .returned v' ∧ OwnN w' B v' (digs (val l)) ∧ w = w' :=
  (bigTrim_all B v l w h hs hn).mono fun _ _ ⟨v', he, ha, hw⟩ => ⟨v', he, by rw [← hw]; exact ha _ _ h, hw⟩
end Go.Proofs.Ytjbfngjlepafgaa
namespace Go.Proofs.Ytjbfngjlepafgaa

theorem mask20_plain (n : Int) : ((BitVec.ofInt 64 n &&& BitVec.ofInt 64 1048575).toNat : Int) = n % 1048576 := by
  have h1 : (BitVec.ofInt 64 n).toNat = (n % 18446744073709551616).toNat := by rw [BitVec.toNat_ofInt]; rfl
  have h2 : (BitVec.ofInt 64 1048575).toNat = 2 ^ 20 - 1 := by decide
  rw [BitVec.toNat_and, h1, h2, Nat.and_two_pow_sub_one_eq_mod]; omega
theorem wrap_mod20 (n : Int) : IntKind.i64.wrap (n % 1048576) = n % 1048576 := by rw [IntKind.wrap_i64]; omega
theorem mask20 (n : Int) : bits .and .i64 n 1048575 = n % 1048576 :=
  (congrArg IntKind.i64.wrap (mask20_plain n)).trans (wrap_mod20 n)
theorem mask1_plain (n : Int) : ((BitVec.ofInt 64 n &&& BitVec.ofInt 64 1).toNat : Int) = n % 2 := by
  have h1 : (BitVec.ofInt 64 n).toNat = (n % 18446744073709551616).toNat := by rw [BitVec.toNat_ofInt]; rfl
  have h2 : (BitVec.ofInt 64 1).toNat = 2 ^ 1 - 1 := by decide
  rw [BitVec.toNat_and, h1, h2, Nat.and_two_pow_sub_one_eq_mod]; omega
theorem wrap_mod2 (n : Int) : IntKind.i64.wrap (n % 2) = n % 2 := by rw [IntKind.wrap_i64]; omega
theorem mask1 (n : Int) : bits .and .i64 n 1 = n % 2 := (congrArg IntKind.i64.wrap (mask1_plain n)).trans (wrap_mod2 n)
theorem wraps_i64 (n : Int) (h₀ : 0 ≤ n) (h₁ : n < 2 ^ 63) : IntKind.i64.wrap n = n := by rw [IntKind.wrap_i64]; omega
theorem or20 {r x : Nat} (hr : r < 1099511627776) (hx : x < 1048576) : bits .or .i64 ((r : Int) * 1048576) (x : Int) = ((r * 1048576 + x : Nat) : Int) := by
  rw [bits_join .i64 63 (by decide) wraps_i64 20 _ _ (by omega) (by omega) (by omega) (by omega) (by omega) (by omega)]; omega
end Go.Proofs.Ytjbfngjlepafgaa
namespace Go.Proofs.Ytjbfngjlepafgaa
open Go.RowKit

theorem made_zeros (n : Nat) : (madeCells (Value.int .i64 0).cells (n * 1)).toList = cellsN (List.replicate n 0) := by
  rw [Nat.mul_one]
  show (madeCells #[Value.int .i64 0] n).toList = _
  rw [toList_madeCells_one]
  simp [cellsN, cellsZ, ints]
theorem intInfo : ∃ i : TypeInfo, Try.prog.info? 3 = some i ∧ i.zero = some (.int .i64 0) ∧ i.size = 1 ∧ i.bytes = 8 := by
  obtain ⟨i, hi, h1, h2, h3⟩ := info_parts (show (Try.prog.info? 3).map (fun i => (i.zero, i.size, i.bytes)) = some (some (.int .i64 0), 1, 8) from by kernel_rfl)
  exact ⟨i, hi, h1, h2, h3⟩
/-- make([]int, n): n zeros of the call's own. -/
theorem wpList_mkints {ops : Array Oper} {rest : List Oper} {o : Oper} {a : Act} {Q : Exit → Act → World → Prop} (hg : o.guard = none) (l c : Operand) (hop : o.op = Op.makeSlice 22 l c)
    (w : World) (B n : Nat) (L C : Int) (hl : a.eval l = .int .i64 L) (hc : a.eval c = .int .i64 C) (hL : L = (n : Int)) (hC : C = (n : Int)) (hn : n ≤ 17592186044416) (hB : B ≤ w.heap.size)
    (hK : ∀ w', OwnN w' B (.slice (some ⟨w.heap.size, 0, none⟩) n n) (List.replicate n 0) → Below B w w' → wpList Try.prog ops Q rest (a.put o.dst (.slice (some ⟨w.heap.size, 0, none⟩) n n)) w') :
    wpList Try.prog ops Q (o :: rest) a w := by
  obtain ⟨i, hi, hz, hs, hb⟩ := intInfo
  refine wpList_make_full w hg l c 22 hop B 3 i (.int .i64 0) 1 Try.underlying22 hi hz hs .i64 .i64 L C n hl hc hL hC (by rw [hb]; omega) (by unfold maxLen; omega) hB ?_
  intro w' ho hgr
  rw [made_zeros] at ho
  refine hK w' ?_ ((Below.refl _ w).grown hgr hB (by simp))
  show w'.ownsRow _ _ _ _ _ _
  rw [List.length_replicate]; exact ho
theorem OwnN.cell {w : World} {B g n cap : Nat} {l : Digs} (h : OwnN w B (.slice (some ⟨g, 0, none⟩) n cap) l) {k : Nat} (hk : k < l.length) : w.cell? ⟨g, k, none⟩ = some (.int .i64 (l[k] : Int)) := by
  rcases h.shape with ⟨h1, -⟩ | ⟨g', cap', h1, -⟩
  · cases h1
  · simp only [Value.slice.injEq, Option.some.injEq, Addr.mk.injEq, and_true] at h1
    obtain ⟨rfl, rfl, rfl⟩ := h1
    rw [World.ownsRow.cellAt h k (by omega), cellsN_get l k hk]
theorem OwnN.live {w : World} {B g n cap : Nat} {l : Digs} (h : OwnN w B (.slice (some ⟨g, 0, none⟩) n cap) l) (k : Nat) : w.frozen? ⟨g, k, none⟩ = false := by
  rcases h.shape with ⟨h1, -⟩ | ⟨g', cap', h1, -⟩
  · cases h1
  · simp only [Value.slice.injEq, Option.some.injEq, Addr.mk.injEq, and_true] at h1
    obtain ⟨rfl, rfl, rfl⟩ := h1
    exact World.ownsRow.frozenAt h k
theorem cellsN_set (l : Digs) (k d : Nat) : (cellsN l).set k (.int .i64 (d : Int)) = cellsN (l.set k d) := by simp [cellsN, cellsZ, ints, List.map_set]
theorem OwnN.set {w : World} {B g n cap : Nat} {l : Digs} (h : OwnN w B (.slice (some ⟨g, 0, none⟩) n cap) l) (k d : Nat) :
    OwnN (w.setCell ⟨g, k, none⟩ (.int .i64 (d : Int))) B (.slice (some ⟨g, 0, none⟩) n cap) (l.set k d) := by
  rcases h.shape with ⟨h1, -⟩ | ⟨g', cap', h1, -⟩
  · cases h1
  · simp only [Value.slice.injEq, Option.some.injEq, Addr.mk.injEq, and_true] at h1
    obtain ⟨rfl, rfl, rfl⟩ := h1
    have := (World.ownsRow.stored h k (.int .i64 (d : Int))).1
    rw [cellsN_set] at this
    show World.ownsRow _ _ _ _ _ _ _
    rw [List.length_set]; exact this
theorem take_set_succ (l : Digs) (k m : Nat) (hk : k < l.length) : (l.set k m).take (k + 1) = l.take k ++ [m] := by
  rw [List.take_succ_eq_append_getElem (by rw [List.length_set]; exact hk), List.getElem_set_self, List.take_set_of_le (Nat.le_refl k)]
theorem val_take_set (l : Digs) (k m : Nat) (hk : k < l.length) : val ((l.set k m).take (k + 1)) = val (l.take k) + 1048576 ^ k * m := by
  rw [take_set_succ l k m hk, val_snoc, List.length_take, Nat.min_eq_left (by omega)]
theorem small_set {l : Digs} (h : small l) {k m : Nat} (hm : m < 1048576) : small (l.set k m) := by
  intro d hd
  rcases List.mem_or_eq_of_mem_set hd with h' | rfl
  · exact h d h'
  · exact hm
theorem add_step {b v p q cy x y m c : Nat} (h : v + b * cy = p + q) (hm : m + 1048576 * c = cy + x + y) : (v + b * m) + (b * 1048576) * c = (p + b * x) + (q + b * y) := by
  have h2 := congrArg (fun z => b * z) hm
  simp only [Nat.mul_add] at h2
  rw [Nat.mul_assoc b 1048576 c]; omega
theorem val_take_all {l : Digs} {k : Nat} (h : l.length ≤ k) : val (l.take k) = val l := by rw [List.take_of_length_le h]
set_option maxHeartbeats 4000000 in
theorem bigAdd_ge (p q : Value) (P Q : Digs) (w : World) (hp : RdN w p P) (hq : RdN w q Q) (sp : small P) (sq : small Q) (hl : Q.length ≤ P.length) (hn : P.length ≤ 1099511627776) :
    Calls Try.prog 67 #[p, q] w fun e w' => ∃ v, e = .returned v ∧ OwnN w' w.heap.size v (digs (val P + val Q)) ∧ Below w.heap.size w w' := by
  obtain ⟨a, cap, rfl⟩ := hp.shape
  obtain ⟨a2, cap2, rfl⟩ := hq.shape
  have HP := Lib.hid hp; clear hp
  have HQ := Lib.hid hq; clear hq
  go_enter Try.func67, Try.ntmps67
  go_wp2_with (at_make; go_must (refine wpList_mkints rfl _ _ rfl w w.heap.size (P.length + 1) _ _ rfl rfl (by simp) (by simp) (by omega) (Nat.le_refl _) ?_; intro w1 ho hb))
  have HO := Lib.hid ho; clear ho
  have HB0 := Lib.hid hb; clear hb
  go_loopw [6, 22] (fun c i wr => ∃ (k cy : Nat) (os : Digs), k ≤ P.length ∧ cy ≤ 1 ∧ os.length = P.length + 1 ∧ c = .int .i64 cy ∧ i = .int .i64 k ∧ Hid (small os) ∧ Hid (val (os.take k) + 1048576 ^ k * cy = val (P.take k) + val (Q.take k)) ∧ Hid (OwnN wr w.heap.size (.slice (some ⟨w.heap.size, 0, none⟩) (P.length + 1) (P.length + 1)) os) ∧ Hid (Below w.heap.size w wr)) (fun _ i _ => P.length - (intOf i).toNat)
  case atStart => exact ⟨0, 0, _, Nat.zero_le _, by omega, List.length_replicate .., rfl, rfl, fun d hd => by rw [(List.mem_replicate.1 hd).2]; omega, by show _ = _; simp [val], HO, HB0⟩
  case round =>
    obtain ⟨k, cy, os, hk, hcy, hlo, rfl, rfl, HSm, HE, HW, HB⟩ := hrel
    have HLo := Lib.hid hlo
    by_cases hlt : k < P.length
    · obtain ⟨b, off, rfl, hbb, hcell⟩ := (HP.out.keep HB.out).at hlt
      obtain ⟨x, hx⟩ : ∃ x, x = P[k] := ⟨_, rfl⟩
      rw [← hx] at hcell
      have hxs : x < 1048576 := by rw [hx]; exact small_get sp k hlt
      have HX := Lib.hid hx; clear hx
      have hko : k < os.length := by omega
      obtain ⟨old, hold⟩ : ∃ old : Nat, wr.cell? ⟨w.heap.size, k, none⟩ = some (.int .i64 (old : Int)) := ⟨_, HW.out.cell hko⟩
      have hfr := HW.out.live k
      clear hlo
      by_cases hq : k < Q.length
      · obtain ⟨b2, off2, rfl, hb2, hcell2⟩ := (HQ.out.keep HB.out).at hq
        obtain ⟨y, hy⟩ : ∃ y, y = Q[k] := ⟨_, rfl⟩
        rw [← hy] at hcell2
        have hys : y < 1048576 := by rw [hy]; exact small_get sq k hq
        have HY := Lib.hid hy; clear hy
        obtain ⟨m, hm⟩ : ∃ m : Nat, m = (cy + x + y) % 1048576 := ⟨_, rfl⟩
        obtain ⟨c, hc⟩ : ∃ c : Nat, c = (cy + x + y) / 1048576 := ⟨_, rfl⟩
        have hmask : bits .and .i64 ((cy : Int) + x + y) 1048575 = (m : Int) := by rw [mask20, hm]; omega
        have hsum : m + 1048576 * c = cy + x + y := by omega
        have hms : m < 1048576 := by omega
        have hcs : c ≤ 1 := by omega
        have hdiv : ((cy : Int) + x + y) / 1048576 = (c : Int) := by omega
        have HS := Lib.hid hsum
        clear hm hc hsum
        go_wp2_with fail
        go_roundw
        case rel => exact ⟨k + 1, c, os.set k m, by omega, hcs, by rw [List.length_set]; exact HLo.out, by rfl, by go_num, small_set HSm.out hms, by
          show _ = _
          rw [val_take_set _ _ _ hko, val_take_succ P k hlt, val_take_succ Q k hq, ← HX.out, ← HY.out, Nat.pow_succ]
          exact add_step HE.out HS.out, HW.out.set k m, HB.out.setCell (Nat.le_refl _) _⟩
        case measure => simp [intOf]; omega
      · obtain ⟨m, hm⟩ : ∃ m : Nat, m = (cy + x) % 1048576 := ⟨_, rfl⟩
        obtain ⟨c, hc⟩ : ∃ c : Nat, c = (cy + x) / 1048576 := ⟨_, rfl⟩
        have hmask : bits .and .i64 ((cy : Int) + x) 1048575 = (m : Int) := by rw [mask20, hm]; omega
        have hsum : m + 1048576 * c = cy + x + 0 := by omega
        have hms : m < 1048576 := by omega
        have hcs : c ≤ 1 := by omega
        have hdiv : ((cy : Int) + x) / 1048576 = (c : Int) := by omega
        have HS := Lib.hid hsum
        clear hm hc hsum
        go_wp2_with fail
        go_roundw
        case rel => exact ⟨k + 1, c, os.set k m, by omega, hcs, by rw [List.length_set]; exact HLo.out, by rfl, by go_num, small_set HSm.out hms, by
          show _ = _
          have := add_step HE.out HS.out
          rw [val_take_set _ _ _ hko, val_take_succ P k hlt, ← HX.out, val_take_all (l := Q) (k := k + 1) (by omega), Nat.pow_succ]
          rw [val_take_all (l := Q) (k := k) (by omega)] at this
          simpa using this, HW.out.set k m, HB.out.setCell (Nat.le_refl _) _⟩
        case measure => simp [intOf]; omega
    · obtain rfl : k = P.length := by omega
      have hko : P.length < os.length := by omega
      obtain ⟨old, hold⟩ : ∃ old : Nat, wr.cell? ⟨w.heap.size, P.length, none⟩ = some (.int .i64 (old : Int)) := ⟨_, HW.out.cell hko⟩
      have hfr := HW.out.live P.length
      have HW2 := Lib.hid (HW.out.set P.length cy)
      have HB2 := Lib.hid (HB.out.setCell (p := ⟨w.heap.size, P.length, none⟩) (Nat.le_refl _) (.int .i64 (cy : Int)))
      have HV : Hid (val (os.set P.length cy) = val P + val Q) := by
        show _ = _
        have h1 := val_take_set os P.length cy hko
        rw [val_take_all (l := os.set P.length cy) (by rw [List.length_set, HLo.out]; exact Nat.le_refl _)] at h1
        rw [h1, HE.out, val_take_all (Nat.le_refl _), val_take_all hl]
      have HS2 := Lib.hid (small_set (k := P.length) HSm.out (show cy < 1048576 by omega))
      have hol : (os.set P.length cy).length ≤ 8796093022208 := by rw [List.length_set, HLo.out]; omega
      have HOL := Lib.hid hol
      clear hlo hol hlt
      go_wp2_with fail
      refine (bigTrim_own w.heap.size _ (os.set P.length cy) _ ?_ HS2.out HOL.out).mono ?_
      · exact HW2.out
      rintro e w2 ⟨v', rfl, ho, rfl⟩
      have HO2 := Lib.hid ho; clear ho
      rw [HV.out] at HO2
      go_wp2_with fail
      go_ret
      exact ⟨v', rfl, HO2.out, HB2.out⟩
set_option maxHeartbeats 4000000 in
theorem bigAdd_lt (p q : Value) (P Q : Digs) (w : World) (hp : RdN w p P) (hq : RdN w q Q) (sp : small P) (sq : small Q) (hlt0 : Q.length < P.length) (hn : P.length ≤ 1099511627776) :
    Calls Try.prog 67 #[q, p] w fun e w' => ∃ v, e = .returned v ∧ OwnN w' w.heap.size v (digs (val P + val Q)) ∧ Below w.heap.size w w' := by
  have hl : Q.length ≤ P.length := by omega
  obtain ⟨a, cap, rfl⟩ := hp.shape
  obtain ⟨a2, cap2, rfl⟩ := hq.shape
  have HP := Lib.hid hp; clear hp
  have HQ := Lib.hid hq; clear hq
  go_enter Try.func67, Try.ntmps67
  go_wp2_with (at_make; go_must (refine wpList_mkints rfl _ _ rfl w w.heap.size (P.length + 1) _ _ rfl rfl (by simp) (by simp) (by omega) (Nat.le_refl _) ?_; intro w1 ho hb))
  have HO := Lib.hid ho; clear ho
  have HB0 := Lib.hid hb; clear hb
  go_loopw [6, 22] (fun c i wr => ∃ (k cy : Nat) (os : Digs), k ≤ P.length ∧ cy ≤ 1 ∧ os.length = P.length + 1 ∧ c = .int .i64 cy ∧ i = .int .i64 k ∧ Hid (small os) ∧ Hid (val (os.take k) + 1048576 ^ k * cy = val (P.take k) + val (Q.take k)) ∧ Hid (OwnN wr w.heap.size (.slice (some ⟨w.heap.size, 0, none⟩) (P.length + 1) (P.length + 1)) os) ∧ Hid (Below w.heap.size w wr)) (fun _ i _ => P.length - (intOf i).toNat)
  case atStart => exact ⟨0, 0, _, Nat.zero_le _, by omega, List.length_replicate .., rfl, rfl, fun d hd => by rw [(List.mem_replicate.1 hd).2]; omega, by show _ = _; simp [val], HO, HB0⟩
  case round =>
    obtain ⟨k, cy, os, hk, hcy, hlo, rfl, rfl, HSm, HE, HW, HB⟩ := hrel
    have HLo := Lib.hid hlo
    by_cases hlt : k < P.length
    · obtain ⟨b, off, rfl, hbb, hcell⟩ := (HP.out.keep HB.out).at hlt
      obtain ⟨x, hx⟩ : ∃ x, x = P[k] := ⟨_, rfl⟩
      rw [← hx] at hcell
      have hxs : x < 1048576 := by rw [hx]; exact small_get sp k hlt
      have HX := Lib.hid hx; clear hx
      have hko : k < os.length := by omega
      obtain ⟨old, hold⟩ : ∃ old : Nat, wr.cell? ⟨w.heap.size, k, none⟩ = some (.int .i64 (old : Int)) := ⟨_, HW.out.cell hko⟩
      have hfr := HW.out.live k
      clear hlo
      by_cases hq : k < Q.length
      · obtain ⟨b2, off2, rfl, hb2, hcell2⟩ := (HQ.out.keep HB.out).at hq
        obtain ⟨y, hy⟩ : ∃ y, y = Q[k] := ⟨_, rfl⟩
        rw [← hy] at hcell2
        have hys : y < 1048576 := by rw [hy]; exact small_get sq k hq
        have HY := Lib.hid hy; clear hy
        obtain ⟨m, hm⟩ : ∃ m : Nat, m = (cy + x + y) % 1048576 := ⟨_, rfl⟩
        obtain ⟨c, hc⟩ : ∃ c : Nat, c = (cy + x + y) / 1048576 := ⟨_, rfl⟩
        have hmask : bits .and .i64 ((cy : Int) + x + y) 1048575 = (m : Int) := by rw [mask20, hm]; omega
        have hsum : m + 1048576 * c = cy + x + y := by omega
        have hms : m < 1048576 := by omega
        have hcs : c ≤ 1 := by omega
        have hdiv : ((cy : Int) + x + y) / 1048576 = (c : Int) := by omega
        have HS := Lib.hid hsum
        clear hm hc hsum
        go_wp2_with fail
        go_roundw
        case rel => exact ⟨k + 1, c, os.set k m, by omega, hcs, by rw [List.length_set]; exact HLo.out, by rfl, by go_num, small_set HSm.out hms, by
          show _ = _
          rw [val_take_set _ _ _ hko, val_take_succ P k hlt, val_take_succ Q k hq, ← HX.out, ← HY.out, Nat.pow_succ]
          exact add_step HE.out HS.out, HW.out.set k m, HB.out.setCell (Nat.le_refl _) _⟩
        case measure => simp [intOf]; omega
      · obtain ⟨m, hm⟩ : ∃ m : Nat, m = (cy + x) % 1048576 := ⟨_, rfl⟩
        obtain ⟨c, hc⟩ : ∃ c : Nat, c = (cy + x) / 1048576 := ⟨_, rfl⟩
        have hmask : bits .and .i64 ((cy : Int) + x) 1048575 = (m : Int) := by rw [mask20, hm]; omega
        have hsum : m + 1048576 * c = cy + x + 0 := by omega
        have hms : m < 1048576 := by omega
        have hcs : c ≤ 1 := by omega
        have hdiv : ((cy : Int) + x) / 1048576 = (c : Int) := by omega
        have HS := Lib.hid hsum
        clear hm hc hsum
        go_wp2_with fail
        go_roundw
        case rel => exact ⟨k + 1, c, os.set k m, by omega, hcs, by rw [List.length_set]; exact HLo.out, by rfl, by go_num, small_set HSm.out hms, by
          show _ = _
          have := add_step HE.out HS.out
          rw [val_take_set _ _ _ hko, val_take_succ P k hlt, ← HX.out, val_take_all (l := Q) (k := k + 1) (by omega), Nat.pow_succ]
          rw [val_take_all (l := Q) (k := k) (by omega)] at this
          simpa using this, HW.out.set k m, HB.out.setCell (Nat.le_refl _) _⟩
        case measure => simp [intOf]; omega
    · obtain rfl : k = P.length := by omega
      have hko : P.length < os.length := by omega
      obtain ⟨old, hold⟩ : ∃ old : Nat, wr.cell? ⟨w.heap.size, P.length, none⟩ = some (.int .i64 (old : Int)) := ⟨_, HW.out.cell hko⟩
      have hfr := HW.out.live P.length
      have HW2 := Lib.hid (HW.out.set P.length cy)
      have HB2 := Lib.hid (HB.out.setCell (p := ⟨w.heap.size, P.length, none⟩) (Nat.le_refl _) (.int .i64 (cy : Int)))
      have HV : Hid (val (os.set P.length cy) = val P + val Q) := by
        show _ = _
        have h1 := val_take_set os P.length cy hko
        rw [val_take_all (l := os.set P.length cy) (by rw [List.length_set, HLo.out]; exact Nat.le_refl _)] at h1
        rw [h1, HE.out, val_take_all (Nat.le_refl _), val_take_all hl]
      have HS2 := Lib.hid (small_set (k := P.length) HSm.out (show cy < 1048576 by omega))
      have hol : (os.set P.length cy).length ≤ 8796093022208 := by rw [List.length_set, HLo.out]; omega
      have HOL := Lib.hid hol
      clear hlo hol hlt
      go_wp2_with fail
      refine (bigTrim_own w.heap.size _ (os.set P.length cy) _ ?_ HS2.out HOL.out).mono ?_
      · exact HW2.out
      rintro e w2 ⟨v', rfl, ho, rfl⟩
      have HO2 := Lib.hid ho; clear ho
      rw [HV.out] at HO2
      go_wp2_with fail
      go_ret
      exact ⟨v', rfl, HO2.out, HB2.out⟩
theorem bigAdd_any (p q : Value) (P Q : Digs) (w : World) (hp : RdN w p P) (hq : RdN w q Q) (sp : small P) (sq : small Q) (hn : P.length ≤ 1099511627776) (hm : Q.length ≤ 1099511627776) :
    Calls Try.prog 67 #[p, q] w fun e w' => ∃ v, e = .returned v ∧ OwnN w' w.heap.size v (digs (val P + val Q)) ∧ Below w.heap.size w w' := by
  rcases Nat.lt_or_ge P.length Q.length with h | h
  · rw [Nat.add_comm]; exact bigAdd_lt q p Q P w hq hp sq sp h hm
  · exact bigAdd_ge p q P Q w hp hq sp sq h hn
end Go.Proofs.Ytjbfngjlepafgaa
namespace Go.Proofs.Ytjbfngjlepafgaa
open Go.RowKit

theorem elemInt : ElemT Try.prog 22 3 (.int .i64 0) 1 8 := ⟨Try.underlying22, by kernel_rfl, rfl, by decide⟩
theorem cellsN_app (a b : Digs) : cellsN (a ++ b) = cellsN a ++ cellsN b := by simp [cellsN, cellsZ, ints]
theorem cellsN_one (l : Digs) : ∀ u ∈ cellsN l, u.oneCell' = true := by
  intro u hu
  simp only [cellsN, cellsZ, List.mem_map] at hu
  obtain ⟨d, -, rfl⟩ := hu; rfl
/-- append(own digits, digits...), the second ones anywhere in memory. -/
theorem wpList_appendN {ops : Array Oper} {rest : List Oper} {o : Oper} {a : Act} {Q : Exit → Act → World → Prop} (hgd : o.guard = none) (s x : Operand)
    (ho : o.op = .call { callee := .builtin .append, args := #[s, x], argTypes := #[22, 22] }) (w : World) (B : Nat) (v : Value) (l : Digs) (hs : a.eval s = v) (hown : OwnN w B v l)
    (ad : Addr) (m c : Nat) (k : Digs) (hx : a.eval x = .slice (some ad) m c) (hm : m = k.length) (hk : RdN w (.slice (some ad) m c) k) (hn : l.length + k.length ≤ 17592186044416) (hB : B ≤ w.heap.size)
    (h : ∀ v' w', OwnN w' B v' (l ++ k) → w.grownBy w' v.ownBlock → Below B w w' → wpList Try.prog ops Q rest (a.put o.dst v') w') :
    wpList Try.prog ops Q (o :: rest) a w := by
  subst hm
  obtain ⟨i0, hi, hz0, hz1, hz2⟩ := info_parts elemInt.info
  refine wpList_append_own _ hgd s x 22 ho B 3 i0 (.int .i64 0) 1 8 elemInt.under hi hz0 hz1 hz2 elemInt.cells elemInt.pos v l.length (cellsN l) hs hown ad k.length c (cellsN k) hx (by rw [cellsN_len, Nat.mul_one]) ?_ (cellsN_one k) (by unfold maxLen; omega) (by omega) hB ?_
  · intro j u hj
    have hlt : j < k.length := by
      rcases Nat.lt_or_ge j k.length with hh | hh
      · exact hh
      · rw [List.getElem?_eq_none (by rw [cellsN_len]; exact hh)] at hj; cases hj
    rw [cellsN_get k j hlt] at hj
    cases hj
    obtain ⟨b', off', ha, -, hc⟩ := hk.at hlt
    cases ha
    rw [add_off]; exact hc
  · intro v' w' h2 h3 _
    rw [← cellsN_app] at h2
    refine h v' w' ?_ h3 (grown_below hown h3 hB)
    show w'.ownsRow _ _ _ _ _ _
    rw [List.length_append]; exact h2
set_option maxHeartbeats 4000000 in
/-- A copy of digits. -/
theorem clone_any (p : Value) (P : Digs) (w : World) (hp : RdN w p P) (hn : P.length ≤ 1099511627776) :
    Calls Try.prog 79 #[p] w fun e w' => ∃ v, e = .returned v ∧ OwnN w' w.heap.size v P ∧ Below w.heap.size w w' := by
  obtain ⟨a, cap, rfl⟩ := hp.shape
  cases a with
  | none =>
    have hP : P = [] := by
      cases P with
      | nil => rfl
      | cons d r => obtain ⟨b, off, ha, -⟩ := hp.at (k := 0) (by simp); cases ha
    subst hP
    have heq : ∀ w : World, (binOp BinOp.eql 22 (Value.slice none 0 cap) (Value.slice none 0 0)).run Try.prog w = .ok (.bool true) w := fun w => Lib.run_eql_slice_nil w 22 3 none _ _ _ _ Try.underlying22
    go_enter Try.func79, Try.ntmps79
    go_wp2_with fail
    go_ret
    exact ⟨_, rfl, ownN_nil _ _, Below.refl _ _⟩
  | some ad =>
    have HP := Lib.hid hp; clear hp
    have heq : ∀ w : World, (binOp BinOp.eql 22 (Value.slice (some ad) P.length cap) (Value.slice none 0 0)).run Try.prog w = .ok (.bool false) w := fun w => Lib.run_eql_slice_nil w 22 3 (some ad) _ _ _ _ Try.underlying22
    go_enter Try.func79, Try.ntmps79
    have h0 : OwnN (w.alloc (.cells #[] 3)) w.heap.size (.slice (some ⟨w.heap.size, 0, none⟩) 0 0) [] := World.ownsRow_lit w #[] 0 (Nat.le_refl _) (by unfold maxLen; omega) rfl
    have H0 := Lib.hid h0; clear h0
    have HB := Lib.hid ((Below.refl w.heap.size w).alloc (Nat.le_refl _) (.cells #[] 3))
    go_wp2_with (at_builtin; go_must (refine wpList_appendN rfl _ _ rfl (w.alloc (.cells #[] 3)) w.heap.size (.slice (some ⟨w.heap.size, 0, none⟩) 0 0) [] rfl H0.out ad P.length cap P rfl rfl (HP.out.keep HB.out) (by simp; omega) (by simp) ?_; intro v' w1 ho hg hb))
    go_ret
    exact ⟨v', rfl, ho, HB.out.trans hb⟩
end Go.Proofs.Ytjbfngjlepafgaa
namespace Go.Proofs.Ytjbfngjlepafgaa
open Go.RowKit

theorem sub_step {b v p q bw x y m c : Nat} (h : p + b * bw = v + q) (hm : x + 1048576 * c = m + bw + y) : (p + b * x) + (b * 1048576) * c = (v + b * m) + (q + b * y) := by
  have h2 := congrArg (fun z => b * z) hm
  simp only [Nat.mul_add] at h2
  rw [Nat.mul_assoc b 1048576 c]; omega
theorem drop_set_succ (l : Digs) (k m : Nat) : (l.set k m).drop (k + 1) = l.drop (k + 1) := by
  rw [List.drop_set_of_lt (by omega)]
theorem sub_end {p v q B bw : Nat} (h : p + B * bw = v + q) (hv : v < B) (hq : q ≤ p) (hb : bw ≤ 1) : v = p - q := by
  obtain rfl | rfl : bw = 0 ∨ bw = 1 := by omega
  · omega
  · omega
set_option maxHeartbeats 4000000 in
theorem bigSub_any (p q : Value) (P Q : Digs) (w : World) (hp : RdN w p P) (hq : RdN w q Q) (sp : small P) (sq : small Q) (hl : Q.length ≤ P.length) (hle : val Q ≤ val P) (hn : P.length ≤ 1099511627776) :
    Calls Try.prog 69 #[p, q] w fun e w' => ∃ v, e = .returned v ∧ OwnN w' w.heap.size v (digs (val P - val Q)) ∧ Below w.heap.size w w' := by
  obtain ⟨a2, cap2, rfl⟩ := hq.shape
  have HQ := Lib.hid hq; clear hq
  go_enter Try.func69, Try.ntmps69
  go_wp2_with fail
  refine (clone_any p P w hp hn).mono ?_
  rintro e w1 ⟨v1, rfl, ho, hb⟩
  have HB0 := Lib.hid hb; clear hb
  rcases ho.shape with ⟨rfl, rfl⟩ | ⟨g, cap, rfl, hg, hlt, hcap⟩
  · have hq0 : val Q = 0 := by simp [val] at hle; exact hle
    have HV : Hid (digs (val ([] : Digs) - val Q) = []) := by show _ = _; rw [hq0]; rfl
    clear hle hq0 hl
    go_wp2_with fail
    go_loopw [6, 13] (fun b i wr => i = .int .i64 0 ∧ b = .int .i64 0 ∧ wr = w1) (fun _ _ _ => 0)
    case atStart => exact ⟨rfl, rfl, rfl⟩
    case round =>
      obtain ⟨rfl, rfl, rfl⟩ := hrel
      go_wp2_with fail
      refine (bigTrim_own w.heap.size _ [] _ (ownN_nil _ _) small_nil (by simp)).mono ?_
      rintro e w2 ⟨v', rfl, ho2, rfl⟩
      have HO2 := Lib.hid ho2; clear ho2
      go_wp2_with fail
      go_ret
      exact ⟨v', rfl, by rw [HV.out]; exact HO2.out, HB0.out⟩
  · have HO := Lib.hid ho; clear ho
    go_wp2_with fail
    go_loopw [6, 13] (fun b i wr => ∃ (k bw : Nat) (os : Digs), k ≤ P.length ∧ bw ≤ 1 ∧ os.length = P.length ∧ b = .int .i64 bw ∧ i = .int .i64 k ∧ Hid (small os) ∧ Hid (os.drop k = P.drop k) ∧ Hid (val (P.take k) + 1048576 ^ k * bw = val (os.take k) + val (Q.take k)) ∧ Hid (OwnN wr w.heap.size (.slice (some ⟨g, 0, none⟩) P.length cap) os) ∧ Hid (Below w.heap.size w wr)) (fun _ i _ => P.length - (intOf i).toNat)
    case atStart => exact ⟨0, 0, P, Nat.zero_le _, by omega, rfl, rfl, rfl, sp, rfl, by show _ = _; simp [val], HO, HB0⟩
    case round =>
      obtain ⟨k, bw, os, hk, hbw, hlo, rfl, rfl, HSm, HD, HE, HW, HB⟩ := hrel
      have HLo := Lib.hid hlo
      by_cases hlt : k < P.length
      · have hko : k < os.length := by omega
        obtain ⟨x, hx⟩ : ∃ x, x = os[k] := ⟨_, rfl⟩
        have hcell := HW.out.cell hko
        rw [← hx] at hcell
        have hxs : x < 1048576 := by rw [hx]; exact small_get HSm.out k hko
        have hxp : x = P[k] := by
          have h1 := HD.out
          rw [List.drop_eq_getElem_cons hko, List.drop_eq_getElem_cons hlt] at h1
          rw [hx]; exact (List.cons.inj h1).1
        have hdp : os.drop (k + 1) = P.drop (k + 1) := by
          have h1 := HD.out
          rw [List.drop_eq_getElem_cons hko, List.drop_eq_getElem_cons hlt] at h1
          exact (List.cons.inj h1).2
        have HX := Lib.hid hxp
        have HDP := Lib.hid hdp
        have hfr := HW.out.live k
        clear hlo hx hxp hdp
        by_cases hq : k < Q.length
        · obtain ⟨b2, off2, rfl, hb2, hcell2⟩ := (HQ.out.keep HB.out).at hq
          obtain ⟨y, hy⟩ : ∃ y, y = Q[k] := ⟨_, rfl⟩
          rw [← hy] at hcell2
          have hys : y < 1048576 := by rw [hy]; exact small_get sq k hq
          have HY := Lib.hid hy; clear hy
          obtain ⟨m, hm⟩ : ∃ m : Nat, (m : Int) = ((x : Int) - bw - y) % 1048576 := ⟨(((x : Int) - bw - y) % 1048576).toNat, by omega⟩
          obtain ⟨c, hc⟩ : ∃ c : Nat, (c : Int) = (((x : Int) - bw - y) / 1048576) % 2 := ⟨((((x : Int) - bw - y) / 1048576) % 2).toNat, by omega⟩
          have hmask : bits .and .i64 ((x : Int) - bw - y) 1048575 = (m : Int) := by rw [mask20, hm]
          have hbor : bits .and .i64 (((x : Int) - bw - y) / 1048576) 1 = (c : Int) := by rw [mask1, hc]
          have hsum : x + 1048576 * c = m + bw + y := by omega
          have hms : m < 1048576 := by omega
          have hcs : c ≤ 1 := by omega
          have HE2 : Hid (val (P.take (k + 1)) + 1048576 ^ (k + 1) * c = val ((os.set k m).take (k + 1)) + val (Q.take (k + 1))) := by
            show _ = _
            rw [val_take_set _ _ _ hko, val_take_succ P k hlt, val_take_succ Q k hq, ← HX.out, ← HY.out, Nat.pow_succ]
            exact sub_step HE.out hsum
          clear hm hc hsum
          go_wp2_with fail
          go_roundw
          case rel => exact ⟨k + 1, c, os.set k m, by omega, hcs, by rw [List.length_set]; exact HLo.out, by rfl, by go_num, small_set HSm.out hms, by show _ = _; rw [drop_set_succ]; exact HDP.out, HE2, HW.out.set k m, HB.out.setCell hg _⟩
          case measure => simp [intOf]; omega
        · obtain ⟨m, hm⟩ : ∃ m : Nat, (m : Int) = ((x : Int) - bw) % 1048576 := ⟨(((x : Int) - bw) % 1048576).toNat, by omega⟩
          obtain ⟨c, hc⟩ : ∃ c : Nat, (c : Int) = (((x : Int) - bw) / 1048576) % 2 := ⟨((((x : Int) - bw) / 1048576) % 2).toNat, by omega⟩
          have hmask : bits .and .i64 ((x : Int) - bw) 1048575 = (m : Int) := by rw [mask20, hm]
          have hbor : bits .and .i64 (((x : Int) - bw) / 1048576) 1 = (c : Int) := by rw [mask1, hc]
          have hsum : x + 1048576 * c = m + bw + 0 := by omega
          have hms : m < 1048576 := by omega
          have hcs : c ≤ 1 := by omega
          have HE2 : Hid (val (P.take (k + 1)) + 1048576 ^ (k + 1) * c = val ((os.set k m).take (k + 1)) + val (Q.take (k + 1))) := by
            show _ = _
            have h1 := sub_step HE.out hsum
            rw [val_take_set _ _ _ hko, val_take_succ P k hlt, ← HX.out, val_take_all (l := Q) (k := k + 1) (by omega), Nat.pow_succ]
            rw [val_take_all (l := Q) (k := k) (by omega)] at h1
            simpa using h1
          clear hm hc hsum
          go_wp2_with fail
          go_roundw
          case rel => exact ⟨k + 1, c, os.set k m, by omega, hcs, by rw [List.length_set]; exact HLo.out, by rfl, by go_num, small_set HSm.out hms, by show _ = _; rw [drop_set_succ]; exact HDP.out, HE2, HW.out.set k m, HB.out.setCell hg _⟩
          case measure => simp [intOf]; omega
      · obtain rfl : k = P.length := by omega
        have HV : Hid (val os = val P - val Q) := by
          show _ = _
          have h1 := HE.out
          rw [val_take_all (Nat.le_refl _), val_take_all (l := os) (by omega), val_take_all hl] at h1
          have h2 := val_lt HSm.out
          rw [HLo.out] at h2
          exact sub_end h1 h2 hle hbw
        have hol : os.length ≤ 8796093022208 := by omega
        have HOL := Lib.hid hol
        have HW2 : Hid (OwnN wr w.heap.size (.slice (some ⟨g, 0, none⟩) P.length cap) os) := HW
        clear hlo hol hlt hle
        go_wp2_with fail
        refine (bigTrim_own w.heap.size _ os _ HW2.out HSm.out HOL.out).mono ?_
        rintro e w2 ⟨v', rfl, ho2, rfl⟩
        have HO2 := Lib.hid ho2; clear ho2
        rw [HV.out] at HO2
        go_wp2_with fail
        go_ret
        exact ⟨v', rfl, HO2.out, HB.out⟩
end Go.Proofs.Ytjbfngjlepafgaa
namespace Go.Proofs.Ytjbfngjlepafgaa
open Go.RowKit

theorem below_drewN {B : Nat} {a w : World} (h : Below B a w) (n : Nat) : Below B a (w.drewN n) := h.trans ⟨rfl, rfl, rfl, Nat.le_refl _, fun _ _ => rfl⟩
theorem quiet_same {P : Program} {f : FuncId} {args : Array Value} {w : World} {n : Nat} {v : Value}
    (h : Calls P f args (w.drewN n) fun e w' => e = .returned v ∧ w.drewN n = w') : Calls P f args (w.drewN n) fun e w'' => e = .returned v ∧ ∃ m, w'' = w.drewN m :=
  h.mono fun _ _ ⟨he, hm⟩ => ⟨he, n, hm.symm⟩
theorem quiet_add_left {P : Program} {f : FuncId} {args : Array Value} {w : World} {a n : Nat} {v : Value}
    (h : Calls P f args (w.drewN (a + n)) fun e w' => e = .returned v ∧ w.drewN (a + n) = w') :
    Calls P f args (w.drewN (a + n)) fun e w'' => e = .returned v ∧ ∃ m, w'' = w.drewN (a + m) :=
  h.mono fun _ _ ⟨he, hm⟩ => ⟨he, n, hm.symm⟩
/-- -1, 0 or 1: how two ints are ordered. -/
def ord (a b : Int) : Int := if a < b then -1 else if b < a then 1 else 0
theorem ord_lt {a b : Int} (h : a < b) : ord a b = -1 := by rw [ord, if_pos h]
theorem ord_gt {a b : Int} (h : b < a) : ord a b = 1 := by rw [ord, if_neg (by omega), if_pos h]
theorem ord_eq (a : Int) : ord a a = 0 := by rw [ord, if_neg (by omega), if_neg (by omega)]
theorem isNaN_any (x : Int) (w : World) : Calls Try.prog 89 #[.int .i64 x] w fun e w' => e = .returned (.bool false) ∧ w = w' := by
  go_enter Try.func89, Try.ntmps89
  go_wp2
  go_ret
  exact ⟨ret_bool (by simp), rfl⟩
theorem cmpCompare_any (x y : Int) (w : World) : Calls Try.prog 80 #[.int .i64 x, .int .i64 y] w fun e w' => e = .returned (.int .i64 (ord x y)) ∧ w = w' := by
  rcases Int.lt_trichotomy x y with h | h | h
  · have h' : ¬ y < x := by omega
    have HO := Lib.hid (ord_lt h)
    go_enter Try.func80, Try.ntmps80
    go_wp2_with (go_at_call 89; refine (isNaN_any _ _).mono ?_; rintro e w' ⟨rfl, rfl⟩)
    go_ret
    exact ⟨ret_int HO.out.symm, rfl⟩
  · subst h
    have HO := Lib.hid (ord_eq x)
    go_enter Try.func80, Try.ntmps80
    go_wp2_with (go_at_call 89; refine (isNaN_any _ _).mono ?_; rintro e w' ⟨rfl, rfl⟩)
    go_ret
    exact ⟨ret_int HO.out.symm, rfl⟩
  · have h' : ¬ x < y := by omega
    have HO := Lib.hid (ord_gt h)
    go_enter Try.func80, Try.ntmps80
    go_wp2_with (go_at_call 89; refine (isNaN_any _ _).mono ?_; rintro e w' ⟨rfl, rfl⟩)
    go_ret
    exact ⟨ret_int HO.out.symm, rfl⟩
/-! ### order of digits -/
theorem digs_len_le_of_lt {a b : Nat} (h : (digs a).length < (digs b).length) : a < b := by
  rcases Nat.lt_or_ge a b with h' | h'
  · exact h'
  · have := digs_len_mono h'; omega
theorem val_drop_lt {P Q : Digs} (sp : small P) {k : Nat} (h1 : k < P.length) (h2 : k < Q.length) (hd : P.drop (k + 1) = Q.drop (k + 1)) (hlt : P[k] < Q[k]) : val P < val Q := by
  have a1 := val_split P k (by omega)
  have a2 := val_split Q k (by omega)
  rw [List.drop_eq_getElem_cons h1, val] at a1
  rw [List.drop_eq_getElem_cons h2, val, ← hd] at a2
  have b1 := val_lt (small_take sp k)
  rw [List.length_take, Nat.min_eq_left (by omega)] at b1
  have b2 : 1048576 ^ k * (P[k] + 1 + 1048576 * val (P.drop (k + 1))) ≤ 1048576 ^ k * (Q[k] + 1048576 * val (P.drop (k + 1))) := Nat.mul_le_mul_left _ (by omega)
  rw [show P[k] + 1 + 1048576 * val (P.drop (k + 1)) = (P[k] + 1048576 * val (P.drop (k + 1))) + 1 by omega, Nat.mul_add] at b2
  omega
set_option maxHeartbeats 4000000 in
theorem bigcmp_any (p q : Value) (a b : Nat) (w : World) (hp : RdN w p (digs a)) (hq : RdN w q (digs b)) (hn : (digs a).length ≤ 1099511627776) (_hm : (digs b).length ≤ 1099511627776) :
    Calls Try.prog 68 #[p, q] w fun e w' => e = .returned (.int .i64 (ord a b)) ∧ Below w.heap.size w w' := by
  obtain ⟨P, HP⟩ : ∃ P, Hid (P = digs a) := ⟨_, rfl⟩
  obtain ⟨Q, HQ⟩ : ∃ Q, Hid (Q = digs b) := ⟨_, rfl⟩
  rw [← HP.out] at hp hn
  rw [← HQ.out] at hq
  obtain ⟨a1, cap1, rfl⟩ := hp.shape
  obtain ⟨a2, cap2, rfl⟩ := hq.shape
  have H1 := Lib.hid hp; clear hp
  have H2 := Lib.hid hq; clear hq
  by_cases hl : P.length = Q.length
  · rw [← hl]
    have HL := Lib.hid hl; clear hl
    go_enter Try.func68, Try.ntmps68
    go_wp2_with fail
    go_loopw [5] (fun i wr => ∃ k : Nat, k ≤ P.length ∧ i = .int .i64 ((k : Int) - 1) ∧ Hid (P.drop k = Q.drop k) ∧ Hid (Below w.heap.size w wr)) (fun i _ => (intOf i + 1).toNat)
    case atStart => exact ⟨P.length, Nat.le_refl _, rfl, by show _ = _; rw [List.drop_of_length_le (Nat.le_refl _), List.drop_of_length_le (by rw [HL.out]; exact Nat.le_refl _)], Below.refl _ _⟩
    case round =>
      obtain ⟨k, hk, rfl, HD, HB⟩ := hrel
      by_cases h0 : 0 < k
      · obtain ⟨m, rfl⟩ : ∃ m, k = m + 1 := ⟨k - 1, by omega⟩
        have em : (((m + 1 : Nat) : Int) - 1) = (m : Int) := by omega
        rw [em]; clear em
        have hm1 : m < P.length := by omega
        have hm2 : m < Q.length := by rw [← HL.out]; exact hm1
        obtain ⟨b1, off1, rfl, hb1, hcell⟩ := (H1.out.keep HB.out).at hm1
        obtain ⟨b2, off2, rfl, hb2, hcell2⟩ := (H2.out.keep HB.out).at hm2
        obtain ⟨x, hx⟩ : ∃ x, x = P[m] := ⟨_, rfl⟩
        obtain ⟨y, hy⟩ : ∃ y, y = Q[m] := ⟨_, rfl⟩
        rw [← hx] at hcell
        rw [← hy] at hcell2
        have HX := Lib.hid hx
        have HY := Lib.hid hy
        clear hx hy
        have hI : (m : Int) < (P.length : Int) := by omega
        by_cases hxy : x = y
        · have HD2 : Hid (P.drop m = Q.drop m) := by
            show _ = _
            rw [List.drop_eq_getElem_cons hm1, List.drop_eq_getElem_cons hm2, ← HX.out, ← HY.out, HD.out, hxy]
          have e1 : ((x : Int) != (y : Int)) = false := by simp [hxy]
          have HXY := Lib.hid hxy; clear hxy
          go_wp2_with fail
          go_quiet (fail)
          go_wp2_with fail
          go_roundw
          case rel => exact ⟨m, by omega, rfl, HD2, below_drewN HB.out _⟩
          case measure => simp [intOf]
        · have HO : Hid (ord x y = ord a b) := by
            show _ = _
            have va := val_digs a
            have vb := val_digs b
            rw [← HP.out] at va
            rw [← HQ.out] at vb
            have sP : small P := by rw [HP.out]; exact digs_small a
            have sQ : small Q := by rw [HQ.out]; exact digs_small b
            rcases Nat.lt_or_ge x y with h | h
            · have := val_drop_lt sP hm1 hm2 HD.out (by rw [← HX.out, ← HY.out]; exact h)
              rw [ord_lt (by omega), ord_lt (by omega)]
            · have := val_drop_lt sQ hm2 hm1 HD.out.symm (by rw [← HX.out, ← HY.out]; omega)
              rw [ord_gt (by omega), ord_gt (by omega)]
          have e1 : ((x : Int) != (y : Int)) = true := by simp; omega
          clear hxy
          go_wp2_with fail
          go_quiet (fail)
          go_wp2_with fail
          go_quiet ((go_at_call 80; exact quiet_add_left (cmpCompare_any _ _ _)))
          go_wp2_with fail
          go_ret
          exact ⟨ret_int HO.out, below_drewN (below_drewN HB.out _) _⟩
      · obtain rfl : k = 0 := by omega
        have em : ((0 : Nat) : Int) - 1 = -1 := rfl
        rw [em]; clear em
        have HO : Hid (ord a b = 0) := by
          show _ = _
          have h1 := HD.out
          rw [List.drop_zero, List.drop_zero, HP.out, HQ.out] at h1
          rw [digs_inj h1, ord_eq]
        go_wp2_with fail
        go_ret
        exact ⟨ret_int HO.out.symm, HB.out⟩
  · have HO : Hid (ord P.length Q.length = ord a b) := by
      show _ = _
      rcases Nat.lt_or_ge P.length Q.length with h | h
      · have := digs_len_le_of_lt (a := a) (b := b) (by rw [← HP.out, ← HQ.out]; exact h)
        rw [ord_lt (by omega), ord_lt (by omega)]
      · have := digs_len_le_of_lt (a := b) (b := a) (by rw [← HP.out, ← HQ.out]; omega)
        rw [ord_gt (by omega), ord_gt (by omega)]
    have e1 : ((P.length : Int) != (Q.length : Int)) = true := by simp; omega
    clear hl
    go_enter Try.func68, Try.ntmps68
    go_wp2_with (go_at_call 80; refine (cmpCompare_any _ _ _).mono ?_; rintro e w' ⟨rfl, rfl⟩)
    go_ret
    exact ⟨ret_int HO.out, Below.refl _ _⟩
end Go.Proofs.Ytjbfngjlepafgaa
namespace Go.Proofs.Ytjbfngjlepafgaa
open Go.RowKit
variable {G : Nat}

/-- The sign of a big integer; how many digits it has. -/
def sg (z : Int) : Int := z.sign
def ln (z : Int) : Nat := (digs z.natAbs).length
/-- Where a slice of ints lies: below block number G, or in a block of ints. -/
def Ty (G : Nat) (w : World) (a : Option Addr) (n : Nat) : Prop := n = 0 ∨ ∀ b off, a = some ⟨b, off, none⟩ → b < G ∨ ∃ cs fr, w.heap[b]? = some (.cells cs 3 fr)
theorem Ty.keep {w w' : World} {a : Option Addr} {n : Nat} (h : Ty G w a n) (hb : Below w.heap.size w w') : Ty G w' a n := by
  rcases h with h | h
  · exact .inl h
  · refine .inr fun b off ha => ?_
    rcases h b off ha with h1 | ⟨cs, fr, h1⟩
    · exact .inl h1
    · refine .inr ⟨cs, fr, ?_⟩
      rw [hb.block b (lt_of_block h1)]; exact h1
theorem Ty.mono {G' : Nat} {w : World} {a : Option Addr} {n : Nat} (h : Ty G w a n) (hG : G ≤ G') : Ty G' w a n := by
  rcases h with h | h
  · exact .inl h
  · exact .inr fun b off ha => (h b off ha).imp (fun h1 => by omega) id
theorem OwnN.ty {w : World} {B : Nat} {a : Option Addr} {n c : Nat} {l : Digs} (h : OwnN w B (.slice a n c) l) : Ty G w a n := by
  rcases h.2 with ⟨h1, h2⟩ | ⟨g, cap, cur, h1, h2, h3, h4⟩
  · simp only [Value.slice.injEq] at h1; exact .inl h1.2.1
  · simp only [Value.slice.injEq] at h1
    refine .inr fun b off ha => ?_
    rw [h1.1] at ha
    cases ha
    exact .inr ⟨cur, (0, 0), h3⟩
/-- A slice of ints reads as an integer's digits. -/
structure BD (G : Nat) (w : World) (a : Option Addr) (c : Nat) (z : Int) : Prop where
  rd : RdN w (.slice a (ln z) c) (digs z.natAbs)
  le : ln z ≤ c
  ty : Ty G w a (ln z)
theorem BD.up {G' : Nat} {w : World} {a : Option Addr} {c : Nat} {z : Int} (h : BD G w a c z) (hG : G ≤ G') : BD G' w a c z := ⟨h.rd, h.le, h.ty.mono hG⟩
theorem BD.keep {w w' : World} {a : Option Addr} {c : Nat} {z : Int} (h : BD G w a c z) (hb : Below w.heap.size w w') : BD G w' a c z := ⟨h.rd.keep hb, h.le, h.ty.keep hb⟩
theorem bd_zero (w : World) (a : Option Addr) (c : Nat) : BD G w a c 0 := ⟨rdN_nil w c a, Nat.zero_le _, .inl rfl⟩
/-- A value reads as this integer: its sign, and its digits without zeros at the end. -/
def BigIs (G : Nat) (w : World) (v : Value) (z : Int) : Prop := ∃ a c, v = .agg #[.int .i64 (sg z), .slice a (ln z) c] ∧ BD G w a c z
theorem BigIs.keep {w w' : World} {v : Value} {z : Int} (h : BigIs G w v z) (hb : Below w.heap.size w w') : BigIs G w' v z := by
  obtain ⟨a, c, hv, hd⟩ := h; exact ⟨a, c, hv, hd.keep hb⟩
theorem bigIs_zero (w : World) (c : Nat) (a : Option Addr) : BigIs G w (.agg #[.int .i64 0, .slice a 0 c]) 0 := ⟨_, _, rfl, bd_zero w a c⟩
theorem bigIs_mk {w : World} {a : Option Addr} {c m : Nat} {s : Int} {n : Nat} (h : RdN w (.slice a m c) (digs n)) (hy : Ty G w a m) (hm : m = (digs n).length) (hc : m ≤ c) (hn : n ≠ 0) (hs : s = 1 ∨ s = -1) : BigIs G w (.agg #[.int .i64 s, .slice a m c]) (s * n) := by
  have h1 : sg (s * (n : Int)) = s := by rcases hs with rfl | rfl <;> simp [sg] <;> omega
  have h2 : (s * (n : Int)).natAbs = n := by rcases hs with rfl | rfl <;> simp
  subst hm
  exact ⟨a, c, by rw [h1, ln, h2], by unfold ln; rw [h2]; exact h, by unfold ln; rw [h2]; exact hc, by unfold ln; rw [h2]; exact hy⟩
set_option maxHeartbeats 4000000 in
theorem signed_any (B : Nat) (s : Int) (v : Value) (l : Digs) (w : World) (h : OwnN w B v l) (hs : small l) (hn : l.length ≤ 8796093022208) (h1 : val l ≠ 0 → s = 1 ∨ s = -1) :
    Calls Try.prog 65 #[.int .i64 s, v] w fun e w' => ∃ r, e = .returned r ∧ BigIs G w' r (s * val l) ∧ Below w.heap.size w w' := by
  have HO := Lib.hid h; clear h
  have HS := Lib.hid hs; clear hs
  have H1 := Lib.hid h1; clear h1
  go_enter Try.func65, Try.ntmps65
  go_wp2_with fail
  refine (bigTrim_all B v l _ ?_ HS.out hn).mono ?_
  · exact HO.out.keep ((Below.refl _ _).alloc (Nat.le_refl _) _)
  rintro e w1 ⟨v', rfl, ha, rfl⟩
  have ho := ha _ _ HO.out
  clear ha
  rcases ho.shape with ⟨rfl, hl⟩ | ⟨g, cap, rfl, hg, hlt, hcap⟩
  · have hv : val l = 0 := digs_nil.1 hl
    have HV := Lib.hid hv; clear hv hl ho
    go_wp2_with fail
    go_returns
    exact ⟨_, rfl, by rw [HV.out, Int.natCast_zero, Int.mul_zero]; exact bigIs_zero _ _ _, by go_grown⟩
  · have HO2 := Lib.hid ho; clear ho
    by_cases hv : (digs (val l)).length = 0
    · have hv0 : Hid (val l = 0) := digs_nil.1 (List.length_eq_zero_iff.1 hv)
      have e0 : (((digs (val l)).length : Int) == 0) = true := by rw [beq_iff_eq]; omega
      clear hv
      go_wp2_with fail
      go_returns
      exact ⟨_, rfl, by rw [hv0.out, Int.natCast_zero, Int.mul_zero]; exact bigIs_zero _ _ _, by go_grown⟩
    · have hv0 : val l ≠ 0 := fun h => hv (by rw [h]; rfl)
      have HV := Lib.hid hv0
      have HS1 := Lib.hid (H1.out hv0); clear hv0
      have e0 : (((digs (val l)).length : Int) == 0) = false := by rw [beq_eq_false_iff_ne]; omega
      clear hv
      go_wp2_with fail
      go_returns
      exact ⟨_, rfl, bigIs_mk (m := (digs (val l)).length) (HO2.out.rd.keep ((Below.refl _ _).alloc (Nat.le_refl _) _)) (HO2.out.ty.keep ((Below.refl _ _).alloc (Nat.le_refl _) _)) rfl hcap HV.out HS1.out, by go_grown⟩
end Go.Proofs.Ytjbfngjlepafgaa
namespace Go.Proofs.Ytjbfngjlepafgaa
open Go.RowKit

theorem val_set (l : Digs) (k d : Nat) (h : k < l.length) : val (l.set k d) + 1048576 ^ k * l[k] = val l + 1048576 ^ k * d := by
  have h1 := val_split l k (by omega)
  have h2 := val_split (l.set k d) k (by rw [List.length_set]; omega)
  rw [List.take_set_of_le (Nat.le_refl k), List.drop_eq_getElem_cons (by rw [List.length_set]; exact h), drop_set_succ, List.getElem_set_self, val] at h2
  rw [List.drop_eq_getElem_cons h, val] at h1
  rw [h1, h2, Nat.mul_add, Nat.mul_add]; omega
theorem mul_step {k j a v q x y o z cy m c V : Nat} (h1 : a + 1048576 ^ (k + j) * o = v + 1048576 ^ (k + j) * m) (h2 : v + 1048576 ^ (k + j) * cy = q + 1048576 ^ k * (x * V)) (h3 : m + 1048576 * c = o + z + cy) (h4 : z = x * y) :
    a + 1048576 ^ (k + (j + 1)) * c = q + 1048576 ^ k * (x * (V + 1048576 ^ j * y)) := by
  rw [← Nat.add_assoc, Nat.pow_succ, Nat.pow_add] at *
  generalize 1048576 ^ k = e at *
  generalize 1048576 ^ j = f at *
  grind
def zerosFrom (l : Digs) (n : Nat) : Prop := ∀ j (h : j < l.length), n ≤ j → l[j] = 0
theorem small_replicate (n : Nat) : small (List.replicate n 0) := by intro d hd; rw [List.mem_replicate] at hd; omega
theorem zerosFrom_set {l : Digs} {n k d : Nat} (h : zerosFrom l n) (hk : k < n) : zerosFrom (l.set k d) n := by
  intro j hj hn
  rw [List.getElem_set, if_neg (by omega)]
  exact h j (by simpa using hj) hn
theorem zerosFrom_mono {l : Digs} {n m : Nat} (h : zerosFrom l n) (hm : n ≤ m) : zerosFrom l m := fun j hj hn => h j hj (by omega)
set_option maxHeartbeats 4000000 in
theorem bigMul_any (p q : Value) (P Q : Digs) (w : World) (hp : RdN w p P) (hq : RdN w q Q) (sp : small P) (sq : small Q) (hn : P.length ≤ 1099511627776) (hm : Q.length ≤ 1099511627776) :
    Calls Try.prog 84 #[p, q] w fun e w' => ∃ v, e = .returned v ∧ OwnN w' w.heap.size v (digs (val P * val Q)) ∧ Below w.heap.size w w' := by
  obtain ⟨a1, cap1, rfl⟩ := hp.shape
  obtain ⟨a2, cap2, rfl⟩ := hq.shape
  have HP := Lib.hid hp; clear hp
  have HQ := Lib.hid hq; clear hq
  go_enter Try.func84, Try.ntmps84
  go_wp2_with (at_make; go_must (refine wpList_mkints rfl _ _ rfl w w.heap.size (P.length + Q.length) _ _ rfl rfl (by simp) (by simp) (by omega) (Nat.le_refl _) ?_; intro w1 ho hb))
  have HO := Lib.hid ho; clear ho
  have HB0 := Lib.hid hb; clear hb
  go_loopw [20] (fun i wr => ∃ (k : Nat) (os : Digs), k ≤ P.length ∧ os.length = P.length + Q.length ∧ i = .int .i64 k ∧ Hid (small os) ∧ Hid (zerosFrom os (k + Q.length)) ∧ Hid (val os = val (P.take k) * val Q) ∧ Hid (OwnN wr w.heap.size (.slice (some ⟨w.heap.size, 0, none⟩) (P.length + Q.length) (P.length + Q.length)) os) ∧ Hid (Below w.heap.size w wr)) (fun i _ => P.length - (intOf i).toNat)
  case atStart => exact ⟨0, List.replicate (P.length + Q.length) 0, Nat.zero_le _, by simp, rfl, small_replicate _, by show zerosFrom _ _; intro j h _; simp, by show _ = _; rw [val_zeros (by simp)]; simp [val], HO, HB0⟩
  case round =>
    obtain ⟨k, os, hk, hlo, rfl, HSm, HZ, HE, HW, HB⟩ := hrel
    have HLo := Lib.hid hlo
    by_cases hlt : k < P.length
    · obtain ⟨b1, off1, rfl, hb1, hcell⟩ := (HP.out.keep HB.out).at hlt
      obtain ⟨x, hx⟩ : ∃ x, x = P[k] := ⟨_, rfl⟩
      rw [← hx] at hcell
      have hxs : x < 1048576 := by rw [hx]; exact small_get sp k hlt
      have HX := Lib.hid hx
      clear hx hlo
      go_wp2_with fail
      obtain ⟨wo, rfl⟩ : ∃ wo : World, wo = wr := ⟨_, rfl⟩
      go_loopw [8, 27] (fun c i wr => ∃ (j cy : Nat) (ot : Digs), j ≤ Q.length ∧ cy < 1048576 ∧ ot.length = P.length + Q.length ∧ c = .int .i64 cy ∧ i = .int .i64 j ∧ Hid (small ot) ∧ Hid (zerosFrom ot (k + Q.length)) ∧ Hid (val ot + 1048576 ^ (k + j) * cy = val os + 1048576 ^ k * (x * val (Q.take j))) ∧ Hid (OwnN wr w.heap.size (.slice (some ⟨w.heap.size, 0, none⟩) (P.length + Q.length) (P.length + Q.length)) ot) ∧ Hid (Below w.heap.size w wr)) (fun _ i _ => Q.length - (intOf i).toNat)
      case atStart => exact ⟨0, 0, os, Nat.zero_le _, by omega, HLo.out, rfl, rfl, HSm, HZ, by show _ = _; simp [val], HW, HB⟩
      case round =>
        obtain ⟨j, cy, ot, hj, hcy, hlt2, rfl, rfl, HSm2, HZ2, HE2, HW2, HB2⟩ := hrel
        have HLt := Lib.hid hlt2
        by_cases hjl : j < Q.length
        · obtain ⟨b2, off2, rfl, hb2, hcell2⟩ := (HQ.out.keep HB2.out).at hjl
          obtain ⟨y, hy⟩ : ∃ y, y = Q[j] := ⟨_, rfl⟩
          rw [← hy] at hcell2
          have hys : y < 1048576 := by rw [hy]; exact small_get sq j hjl
          have HY := Lib.hid hy
          clear hy
          have hkj : k + j < ot.length := by omega
          have hold := HW2.out.cell hkj
          obtain ⟨o, ho⟩ : ∃ o, o = ot[k + j] := ⟨_, rfl⟩
          rw [← ho] at hold
          have hos : o < 1048576 := by rw [ho]; exact small_get HSm2.out _ hkj
          have HO2 := Lib.hid ho
          have hfr := HW2.out.live (k + j)
          clear ho hlt2
          obtain ⟨z, hz⟩ : ∃ z : Nat, z = x * y := ⟨_, rfl⟩
          have hzb : z ≤ 1099509530625 := by rw [hz]; exact Nat.mul_le_mul (show x ≤ 1048575 by omega) (show y ≤ 1048575 by omega)
          have hzi : ((x : Int) * (y : Int)) = (z : Int) := by rw [hz]; simp
          have HZ3 := Lib.hid hz; clear hz
          obtain ⟨m, hm1⟩ : ∃ m : Nat, m = (o + z + cy) % 1048576 := ⟨_, rfl⟩
          obtain ⟨c, hc1⟩ : ∃ c : Nat, c = (o + z + cy) / 1048576 := ⟨_, rfl⟩
          have hmask : bits .and .i64 ((o : Int) + z + cy) 1048575 = (m : Int) := by rw [mask20]; omega
          have hdiv : ((o : Int) + z + cy) / 1048576 = (c : Int) := by omega
          have hsum : m + 1048576 * c = o + z + cy := by omega
          have hms : m < 1048576 := by omega
          have hcs : c < 1048576 := by omega
          have HE3 : Hid (val (ot.set (k + j) m) + 1048576 ^ (k + (j + 1)) * c = val os + 1048576 ^ k * (x * val (Q.take (j + 1)))) := by
            show _ = _
            rw [val_take_succ Q j hjl, ← HY.out]
            have h1 := val_set ot (k + j) m hkj
            rw [← HO2.out] at h1
            exact mul_step h1 HE2.out hsum HZ3.out
          clear hm1 hc1 hsum
          go_wp2_with fail
          go_roundw
          case rel => exact ⟨j + 1, c, ot.set (k + j) m, by omega, hcs, by rw [List.length_set]; exact HLt.out, rfl, by go_num, small_set HSm2.out hms, zerosFrom_set HZ2.out (by omega), HE3, HW2.out.set (k + j) m, HB2.out.setCell (Nat.le_refl _) _⟩
          case measure => simp [intOf]; omega
        · obtain rfl : j = Q.length := by omega
          have hkj : k + Q.length < ot.length := by omega
          have hold := HW2.out.cell hkj
          rw [HZ2.out _ hkj (Nat.le_refl _)] at hold
          have hfr := HW2.out.live (k + Q.length)
          have HE3 : Hid (val (ot.set (k + Q.length) cy) = val (P.take (k + 1)) * val Q) := by
            show _ = _
            have h1 := val_set ot (k + Q.length) cy hkj
            rw [HZ2.out _ hkj (Nat.le_refl _), Nat.mul_zero, Nat.add_zero] at h1
            rw [h1, HE2.out, HE.out, List.take_of_length_le (Nat.le_refl _), val_take_succ P k hlt, ← HX.out, Nat.add_mul, Nat.mul_assoc]
          clear hlt2
          go_wp2_with fail
          go_roundw
          case rel => exact ⟨k + 1, ot.set (k + Q.length) cy, by omega, by rw [List.length_set]; exact HLt.out, by go_num, small_set HSm2.out hcy, zerosFrom_set (zerosFrom_mono HZ2.out (by omega)) (by omega), HE3, HW2.out.set (k + Q.length) cy, HB2.out.setCell (Nat.le_refl _) _⟩
          case measure => simp [intOf]; omega
    · obtain rfl : k = P.length := by omega
      have HV : Hid (val os = val P * val Q) := by show _ = _; rw [HE.out, List.take_of_length_le (Nat.le_refl _)]
      have hol : os.length ≤ 8796093022208 := by omega
      have HOL := Lib.hid hol
      clear hlo hol hlt
      go_wp2_with fail
      refine (bigTrim_own w.heap.size _ os _ ?_ HSm.out HOL.out).mono ?_
      · exact HW.out
      rintro e w2 ⟨v', rfl, ho, rfl⟩
      have HO2 := Lib.hid ho; clear ho
      rw [HV.out] at HO2
      go_wp2_with fail
      go_ret
      exact ⟨v', rfl, HO2.out, HB.out⟩
end Go.Proofs.Ytjbfngjlepafgaa
namespace Go.Proofs.Ytjbfngjlepafgaa
open Go.RowKit

theorem short_step {a q d r n rm x : Nat} (h1 : q * d + r = n) (h2 : n = rm * 1048576 + x) : (q + 1048576 * a) * d + r = x + 1048576 * (a * d + rm) := by grind
set_option maxHeartbeats 4000000 in
theorem bigShort_any (p : Value) (P : Digs) (d : Nat) (w : World) (hp : RdN w p P) (sp : small P) (hd0 : 0 < d) (hd : d < 1048576) (hn : P.length ≤ 2199023255552) :
    Calls Try.prog 90 #[p, .int .i64 d] w fun e w' => ∃ v, e = .returned (.tuple #[v, .int .i64 (val P % d : Nat)]) ∧ OwnN w' w.heap.size v (digs (val P / d)) ∧ Below w.heap.size w w' := by
  obtain ⟨a1, cap1, rfl⟩ := hp.shape
  have HP := Lib.hid hp; clear hp
  go_enter Try.func90, Try.ntmps90
  go_wp2_with (at_make; go_must (refine wpList_mkints rfl _ _ rfl w w.heap.size P.length _ _ rfl rfl (by simp) (by simp) (by omega) (Nat.le_refl _) ?_; intro w1 ho hb))
  have HO := Lib.hid ho; clear ho
  have HB0 := Lib.hid hb; clear hb
  go_loopw [7, 8] (fun r i wr => ∃ (k rm : Nat) (os : Digs), k ≤ P.length ∧ rm < d ∧ os.length = P.length ∧ r = .int .i64 rm ∧ i = .int .i64 ((k : Int) - 1) ∧ Hid (small os) ∧ Hid (val (os.drop k) * d + rm = val (P.drop k)) ∧ Hid (OwnN wr w.heap.size (.slice (some ⟨w.heap.size, 0, none⟩) P.length P.length) os) ∧ Hid (Below w.heap.size w wr)) (fun _ i _ => (intOf i + 1).toNat)
  case atStart => exact ⟨P.length, 0, List.replicate P.length 0, Nat.le_refl _, hd0, by simp, rfl, rfl, small_replicate _, by show _ = _; rw [List.drop_of_length_le (by simp), List.drop_of_length_le (by simp)]; simp [val], HO, HB0⟩
  case round =>
    obtain ⟨k, rm, os, hk, hrm, hlo, rfl, rfl, HSm, HE, HW, HB⟩ := hrel
    have HLo := Lib.hid hlo
    by_cases h0 : 0 < k
    · obtain ⟨m, rfl⟩ : ∃ m, k = m + 1 := ⟨k - 1, by omega⟩
      have em : (((m + 1 : Nat) : Int) - 1) = (m : Int) := by omega
      rw [em]; clear em
      have hm1 : m < P.length := by omega
      obtain ⟨b1, off1, rfl, hb1, hcell⟩ := (HP.out.keep HB.out).at hm1
      obtain ⟨x, hx⟩ : ∃ x, x = P[m] := ⟨_, rfl⟩
      rw [← hx] at hcell
      have hxs : x < 1048576 := by rw [hx]; exact small_get sp m hm1
      have HX := Lib.hid hx
      clear hx
      have hmo : m < os.length := by omega
      obtain ⟨o, ho⟩ : ∃ o, o = os[m] := ⟨_, rfl⟩
      have hold := HW.out.cell hmo
      rw [← ho] at hold
      have hfr := HW.out.live m
      have HOo := Lib.hid ho
      clear ho hlo
      obtain ⟨n, hn1⟩ : ∃ n : Nat, n = rm * 1048576 + x := ⟨_, rfl⟩
      have hor : bits .or .i64 ((rm : Int) * 1048576) (x : Int) = (n : Int) := by rw [or20 (by omega) hxs, hn1]
      obtain ⟨q, hq⟩ : ∃ q : Nat, q = n / d := ⟨_, rfl⟩
      obtain ⟨r, hr⟩ : ∃ r : Nat, r = n % d := ⟨_, rfl⟩
      have hnb : n < 1099511627776 := by omega
      have hqn : q ≤ n := by rw [hq]; exact Nat.div_le_self _ _
      have hrd : r < d := by rw [hr]; exact Nat.mod_lt _ hd0
      have hqr : q * d + r = n := by rw [hq, hr, Nat.mul_comm]; exact Nat.div_add_mod n d
      have hqs : q < 1048576 := by
        have : q * d < 1048576 * d := by
          have : rm * 1048576 + 1048576 ≤ d * 1048576 := by have := Nat.mul_le_mul_right 1048576 (show rm + 1 ≤ d by omega); omega
          omega
        exact Nat.lt_of_mul_lt_mul_right this
      have htd : ((n : Int).tdiv (d : Int)) = (q : Int) := by rw [hq, Int.tdiv_eq_ediv_of_nonneg (by omega)]; rfl
      have htm : ((n : Int).tmod (d : Int)) = (r : Int) := by rw [hr, Int.tmod_eq_emod_of_nonneg (by omega)]; rfl
      have HE2 : Hid (val ((os.set m q).drop m) * d + r = val (P.drop m)) := by
        show _ = _
        have e1 : (os.set m q).drop m = q :: os.drop (m + 1) := by
          rw [List.drop_eq_getElem_cons (by rw [List.length_set]; exact hmo), List.getElem_set_self, drop_set_succ]
        rw [e1, List.drop_eq_getElem_cons hm1, val, val, ← HX.out, ← HE.out]
        exact short_step hqr hn1
      clear hn1 hq hr hqr
      go_wp2_with fail
      go_roundw
      case rel => exact ⟨m, r, os.set m q, by omega, hrd, by rw [List.length_set]; exact HLo.out, by rfl, rfl, small_set HSm.out hqs, HE2, HW.out.set m q, HB.out.setCell (Nat.le_refl _) _⟩
      case measure => simp [intOf]
    · obtain rfl : k = 0 := by omega
      have em : ((0 : Nat) : Int) - 1 = -1 := rfl
      rw [em]; clear em
      have hV := HE.out
      rw [List.drop_zero, List.drop_zero] at hV
      have HV : Hid (val os = val P / d ∧ rm = val P % d) := by
        rw [← hV, Nat.mul_comm]
        exact ⟨by rw [Nat.mul_add_div hd0, Nat.div_eq_of_lt hrm, Nat.add_zero], by rw [Nat.mul_add_mod, Nat.mod_eq_of_lt hrm]⟩
      have hol : os.length ≤ 8796093022208 := by omega
      have HOL := Lib.hid hol
      clear hlo hol hV
      go_wp2_with fail
      refine (bigTrim_own w.heap.size _ os _ ?_ HSm.out HOL.out).mono ?_
      · exact HW.out
      rintro e w2 ⟨v', rfl, ho, rfl⟩
      have HO2 := Lib.hid ho; clear ho
      rw [HV.out.1] at HO2
      go_wp2_with fail
      go_ret2
      exact ⟨v', by rw [HV.out.2]; rfl, HO2.out, HB.out⟩
end Go.Proofs.Ytjbfngjlepafgaa
namespace Go.Proofs.Ytjbfngjlepafgaa
open Go.RowKit

theorem only_setCell {a w : World} {g : Nat} (h : a.grownBy w (some g)) {o : Nat} (u : Value) : a.grownBy (w.setCell ⟨g, o, none⟩ u) (some g) :=
  ⟨h.os, h.tape, h.output, by simpa [World.setCell] using h.size, fun i hi hne => (Below.heap_setCell w ⟨g, o, none⟩ u i (by
    rintro rfl; exact hne rfl)).trans (h.block i hi hne)⟩
theorem OwnN.far {w w' : World} {B g gv n cap : Nat} {l : Digs} (h : OwnN w B (.slice (some ⟨gv, 0, none⟩) n cap) l) (hg : w.grownBy w' (some g)) (hne : gv ≠ g) : OwnN w' B (.slice (some ⟨gv, 0, none⟩) n cap) l := by
  refine ⟨h.1, ?_⟩
  rcases h.2 with h2 | ⟨g', cap', cur, hv, hg', hh, r⟩
  · exact .inl h2
  · have : g' = gv := by simp only [Value.slice.injEq, Option.some.injEq, Addr.mk.injEq, and_true] at hv; exact hv.1.symm
    subst this
    exact .inr ⟨g', cap', cur, hv, hg', by rw [hg.block g' (lt_of_block hh) (by simp; exact hne)]; exact hh, r⟩
theorem mid_set (A W C : Digs) (k d : Nat) (hk : k < W.length) : (A ++ W ++ C).set (A.length + k) d = A ++ W.set k d ++ C := by
  rw [List.append_assoc, List.set_append_right _ _ (by omega), Nat.add_sub_cancel_left, List.set_append_left _ _ hk, List.append_assoc]
theorem mid_get (A W C : Digs) (k : Nat) (hk : k < W.length) (h : A.length + k < (A ++ W ++ C).length) : (A ++ W ++ C)[A.length + k] = W[k] := by
  rw [List.getElem_append_left (by simp; omega), List.getElem_append_right (by omega)]
  congr 1; omega
theorem drop_step {W W0 : Digs} {k : Nat} (h : W.drop k = W0.drop k) (h1 : k < W.length) (h2 : k < W0.length) : W[k] = W0[k] ∧ W.drop (k + 1) = W0.drop (k + 1) := by
  rw [List.drop_eq_getElem_cons h1, List.drop_eq_getElem_cons h2] at h
  exact List.cons.inj h
theorem sub_mul_step {B a v w g b x y m c : Nat} (h : a + g * v = w + B * b) (h2 : m + g * y + b = x + 1048576 * c) : (a + B * m) + g * (v + B * y) = (w + B * x) + B * 1048576 * c := by grind
theorem add_back_step {B a v w b x y m c : Nat} (h : a + B * b = w + v) (h2 : m + 1048576 * c = x + y + b) : (a + B * m) + B * 1048576 * c = (w + B * x) + (v + B * y) := by grind
theorem settle_end {M wu cy wt v w g : Nat} (h3 : wu + M * cy = wt + v) (h5 : wu < M) (hs : wt + v = (w + v - g * v) + M) (h1 : g * v ≤ w + v) (hw : w < g * v) (hg : 1 ≤ g) (hc : cy ≤ 1) :
    (g - 1) * v + wu = w ∧ wu < v := by
  obtain ⟨k, rfl⟩ : ∃ k, g = k + 1 := ⟨g - 1, by omega⟩
  rw [Nat.add_mul, Nat.one_mul] at *
  rw [Nat.add_sub_cancel]
  obtain rfl | rfl : cy = 0 ∨ cy = 1 := by omega
  · omega
  · omega
/-- What settling leaves. -/
structure Settled (w w' : World) (B g i n cap : Nat) (A W C V : Digs) (q : Nat) : Prop where
  left : ∃ W', OwnN w' B (.slice (some ⟨g, 0, none⟩) n cap) (A ++ W' ++ C) ∧ W'.length = W.length ∧ small W' ∧ q * val V + val W' = val W ∧ val W' < val V
  frame : w.grownBy w' (some g)
  idx : A.length = i
set_option maxHeartbeats 8000000 in
theorem bigSettle_any (B g gv i n cap c capv guess : Nat) (A W C V : Digs) (w : World) (hu : OwnN w B (.slice (some ⟨g, 0, none⟩) n cap) (A ++ W ++ C)) (hv : OwnN w B (.slice (some ⟨gv, 0, none⟩) V.length capv) V)
    (hne : gv ≠ g) (hA : A.length = i) (sW : small W) (sV : small V) (hl : V.length ≤ W.length) (hn : W.length ≤ 2199023255552) (hguess : guess < 1048576)
    (h1 : guess * val V ≤ val W + val V) (h2 : val W < guess * val V + val V) :
    Calls Try.prog 91 #[.slice (some ⟨g, i, none⟩) W.length c, .slice (some ⟨gv, 0, none⟩) V.length capv, .int .i64 guess] w fun e w' => ∃ q : Nat, e = .returned (.int .i64 q) ∧ Settled w w' B g i n cap A W C V q := by
  have HU := Lib.hid hu; clear hu
  have HV := Lib.hid hv; clear hv
  have HA := Lib.hid hA; clear hA
  have H1 := Lib.hid h1; clear h1
  have H2 := Lib.hid h2; clear h2
  go_enter Try.func91, Try.ntmps91
  go_wp2_with fail
  go_loopw [7, 14] (fun b j wr => ∃ (k bw : Nat) (Wt : Digs), k ≤ W.length ∧ bw < 1048576 ∧ Wt.length = W.length ∧ b = .int .i64 bw ∧ j = .int .i64 k ∧ Hid (small Wt) ∧ Hid (Wt.drop k = W.drop k) ∧ Hid (val (Wt.take k) + guess * val (V.take k) = val (W.take k) + 1048576 ^ k * bw) ∧ Hid (OwnN wr B (.slice (some ⟨g, 0, none⟩) n cap) (A ++ Wt ++ C)) ∧ Hid (w.grownBy wr (some g))) (fun _ j _ => W.length - (intOf j).toNat)
  case atStart => exact ⟨0, 0, W, Nat.zero_le _, by omega, rfl, rfl, rfl, sW, rfl, by show _ = _; simp [val], HU, World.grownBy.refl _ _⟩
  case round =>
    obtain ⟨k, bw, Wt, hk, hbw, hlo, rfl, rfl, HSm, HD, HE, HW, HG⟩ := hrel
    have HLo := Lib.hid hlo
    by_cases hlt : k < W.length
    · have hkt : k < Wt.length := by omega
      have hki : A.length + k < (A ++ Wt ++ C).length := by simp; omega
      obtain ⟨x, hx⟩ : ∃ x, x = Wt[k] := ⟨_, rfl⟩
      have hcell := HW.out.cell hki
      rw [mid_get A Wt C k hkt, ← hx, HA.out] at hcell
      have hxs : x < 1048576 := by rw [hx]; exact small_get HSm.out k hkt
      have hds := drop_step HD.out hkt hlt
      have HX : Hid (x = W[k]) := by show _ = _; rw [hx]; exact hds.1
      have HDP := Lib.hid hds.2
      have hfr := HW.out.live (i + k)
      have HNW : Hid (∀ d : Nat, OwnN (wr.setCell ⟨g, i + k, none⟩ (.int .i64 (d : Int))) B (.slice (some ⟨g, 0, none⟩) n cap) (A ++ Wt.set k d ++ C)) := by
        intro d
        have := HW.out.set (A.length + k) d
        rw [mid_set A Wt C k d hkt, HA.out] at this
        exact this
      clear hlo hx hds hki
      by_cases hkv : k < V.length
      · obtain ⟨y, hy⟩ : ∃ y, y = V[k] := ⟨_, rfl⟩
        have hcell2 := (HV.out.far HG.out hne).cell hkv
        rw [← hy] at hcell2
        have hys : y < 1048576 := by rw [hy]; exact small_get sV k hkv
        have HY := Lib.hid hy; clear hy
        obtain ⟨z, hz⟩ : ∃ z : Nat, z = guess * y := ⟨_, rfl⟩
        have hzb : z ≤ 1099509530625 := by rw [hz]; exact Nat.mul_le_mul (show guess ≤ 1048575 by omega) (show y ≤ 1048575 by omega)
        have hzi : ((guess : Int) * (y : Int)) = (z : Int) := by rw [hz]; simp
        have HZ := Lib.hid hz; clear hz
        obtain ⟨m, hm⟩ : ∃ m : Nat, (m : Int) = ((x : Int) - bw - z) % 1048576 := ⟨(((x : Int) - bw - z) % 1048576).toNat, by omega⟩
        obtain ⟨c, hc⟩ : ∃ c : Nat, (c : Int) = -(((x : Int) - bw - z) / 1048576) := ⟨(-(((x : Int) - bw - z) / 1048576)).toNat, by omega⟩
        have hmask : bits .and .i64 ((x : Int) - bw - z) 1048575 = (m : Int) := by rw [mask20, hm]
        have hneg : -(((x : Int) - bw - z) / 1048576) = (c : Int) := hc.symm
        have hsum : m + z + bw = x + 1048576 * c := by omega
        have hms : m < 1048576 := by omega
        have hcs : c < 1048576 := by omega
        have HE2 : Hid (val ((Wt.set k m).take (k + 1)) + guess * val (V.take (k + 1)) = val (W.take (k + 1)) + 1048576 ^ (k + 1) * c) := by
          show _ = _
          rw [val_take_set _ _ _ hkt, val_take_succ W k hlt, val_take_succ V k hkv, ← HX.out, ← HY.out, Nat.pow_succ]
          exact sub_mul_step HE.out (by rw [← HZ.out]; exact hsum)
        clear hm hc hsum
        go_wp2_with fail
        go_roundw
        case rel => exact ⟨k + 1, c, Wt.set k m, by omega, hcs, by rw [List.length_set]; exact HLo.out, by rfl, by go_num, small_set HSm.out hms, by show _ = _; rw [drop_set_succ]; exact HDP.out, HE2, HNW.out m, only_setCell HG.out _⟩
        case measure => simp [intOf]; omega
      · obtain ⟨m, hm⟩ : ∃ m : Nat, (m : Int) = ((x : Int) - bw) % 1048576 := ⟨(((x : Int) - bw) % 1048576).toNat, by omega⟩
        obtain ⟨c, hc⟩ : ∃ c : Nat, (c : Int) = -(((x : Int) - bw) / 1048576) := ⟨(-(((x : Int) - bw) / 1048576)).toNat, by omega⟩
        have hmask : bits .and .i64 ((x : Int) - bw) 1048575 = (m : Int) := by rw [mask20, hm]
        have hneg : -(((x : Int) - bw) / 1048576) = (c : Int) := hc.symm
        have hsum : m + guess * 0 + bw = x + 1048576 * c := by omega
        have hms : m < 1048576 := by omega
        have hcs : c < 1048576 := by omega
        have HE2 : Hid (val ((Wt.set k m).take (k + 1)) + guess * val (V.take (k + 1)) = val (W.take (k + 1)) + 1048576 ^ (k + 1) * c) := by
          show _ = _
          have e1 := val_take_all (l := V) (k := k) (by omega)
          have e2 := val_take_all (l := V) (k := k + 1) (by omega)
          have h3 := sub_mul_step HE.out hsum
          rw [val_take_set _ _ _ hkt, val_take_succ W k hlt, ← HX.out, e2, Nat.pow_succ]
          rw [e1, Nat.mul_zero, Nat.add_zero] at h3
          exact h3
        clear hm hc hsum
        go_wp2_with fail
        go_roundw
        case rel => exact ⟨k + 1, c, Wt.set k m, by omega, hcs, by rw [List.length_set]; exact HLo.out, by rfl, by go_num, small_set HSm.out hms, by show _ = _; rw [drop_set_succ]; exact HDP.out, HE2, HNW.out m, only_setCell HG.out _⟩
        case measure => simp [intOf]; omega
    · obtain rfl : k = W.length := by omega
      have hE := HE.out
      rw [List.take_of_length_le (by omega), val_take_all hl, List.take_of_length_le (Nat.le_refl _)] at hE
      have hWt : val Wt < 1048576 ^ W.length := by have := val_lt HSm.out; rwa [hlo] at this
      have hVl : val V < 1048576 ^ W.length := Nat.lt_of_lt_of_le (val_lt sV) (Nat.pow_le_pow_right (by omega) hl)
      have HWt := Lib.hid hWt
      have HVl := Lib.hid hVl
      have HEE := Lib.hid hE
      clear hWt hVl hE
      by_cases hb0 : bw = 0
      · have hfin : Hid (guess * val V + val Wt = val W ∧ val Wt < val V) := by
          have h3 := HEE.out
          have h4 := H2.out
          rw [hb0, Nat.mul_zero] at h3
          exact ⟨by omega, by omega⟩
        have e0 : ((bw : Int) == 0) = true := by rw [beq_iff_eq]; omega
        clear hb0 hlo hlt
        go_wp2_with fail
        go_ret
        exact ⟨guess, rfl, ⟨Wt, HW.out, HLo.out, HSm.out, hfin.out.1, hfin.out.2⟩, HG.out, HA.out⟩
      · have hb1 : bw = 1 ∧ 1 ≤ guess ∧ val W < guess * val V ∧ val Wt + val V = (val W + val V - guess * val V) + 1048576 ^ W.length := by
          have h3 := HEE.out
          have h4 := H1.out
          have h5 := HWt.out
          have h6 := HVl.out
          generalize 1048576 ^ W.length = M at *
          have hb2 : bw < 2 := by
            have : M * bw < M * 2 := by omega
            exact Nat.lt_of_mul_lt_mul_left this
          have hb3 : bw = 1 := by omega
          refine ⟨hb3, ?_, ?_, ?_⟩
          · rcases Nat.eq_zero_or_pos guess with h | h
            · rw [h, hb3] at h3; omega
            · exact h
          · rw [hb3] at h3; omega
          · rw [hb3] at h3; omega
        obtain ⟨hb1, hg1, hwl, hsum1⟩ := hb1
        have HWL := Lib.hid hwl; clear hwl
        have HS1 := Lib.hid hsum1
        have e0 : ((bw : Int) == 0) = false := by rw [beq_eq_false_iff_ne]; omega
        clear hb0 hlo hlt hsum1 hb1
        obtain ⟨wo, rfl⟩ : ∃ wo : World, wo = wr := ⟨_, rfl⟩
        go_wp2_with fail
        have hol : Wt.length = W.length := HLo.out
        go_loopw [10, 49] (fun b j wr => ∃ (k cy : Nat) (Wu : Digs), k ≤ W.length ∧ cy ≤ 1 ∧ Wu.length = W.length ∧ b = .int .i64 cy ∧ j = .int .i64 k ∧ Hid (small Wu) ∧ Hid (Wu.drop k = Wt.drop k) ∧ Hid (val (Wu.take k) + 1048576 ^ k * cy = val (Wt.take k) + val (V.take k)) ∧ Hid (OwnN wr B (.slice (some ⟨g, 0, none⟩) n cap) (A ++ Wu ++ C)) ∧ Hid (w.grownBy wr (some g))) (fun _ j _ => W.length - (intOf j).toNat)
        case atStart => exact ⟨0, 0, Wt, Nat.zero_le _, by omega, hol, rfl, rfl, HSm, rfl, by show _ = _; simp [val], HW, HG⟩
        case round =>
          obtain ⟨j, cy, Wu, hj, hcy, hlu, rfl, rfl, HSu, HD2, HE3, HW2, HG2⟩ := hrel
          have HLu := Lib.hid hlu
          by_cases hlt : j < W.length
          · have hkt : j < Wu.length := by omega
            have hltt : j < Wt.length := by omega
            have hki : A.length + j < (A ++ Wu ++ C).length := by simp; omega
            obtain ⟨x, hx⟩ : ∃ x, x = Wu[j] := ⟨_, rfl⟩
            have hcell := HW2.out.cell hki
            rw [mid_get A Wu C j hkt, ← hx, HA.out] at hcell
            have hxs : x < 1048576 := by rw [hx]; exact small_get HSu.out j hkt
            have hds := drop_step HD2.out hkt hltt
            have HX : Hid (x = Wt[j]) := by show _ = _; rw [hx]; exact hds.1
            have HDP := Lib.hid hds.2
            have hfr := HW2.out.live (i + j)
            have HNW : Hid (∀ d : Nat, OwnN (wr.setCell ⟨g, i + j, none⟩ (.int .i64 (d : Int))) B (.slice (some ⟨g, 0, none⟩) n cap) (A ++ Wu.set j d ++ C)) := by
              intro d
              have := HW2.out.set (A.length + j) d
              rw [mid_set A Wu C j d hkt, HA.out] at this
              exact this
            clear hlu hx hds hki hol
            by_cases hkv : j < V.length
            · obtain ⟨y, hy⟩ : ∃ y, y = V[j] := ⟨_, rfl⟩
              have hcell2 := (HV.out.far HG2.out hne).cell hkv
              rw [← hy] at hcell2
              have hys : y < 1048576 := by rw [hy]; exact small_get sV j hkv
              have HY := Lib.hid hy; clear hy
              obtain ⟨m, hm⟩ : ∃ m : Nat, m = (cy + x + y) % 1048576 := ⟨_, rfl⟩
              obtain ⟨d, hd⟩ : ∃ d : Nat, d = (cy + x + y) / 1048576 := ⟨_, rfl⟩
              have hmask : bits .and .i64 ((cy : Int) + x + y) 1048575 = (m : Int) := by rw [mask20]; omega
              have hdiv : ((cy : Int) + x + y) / 1048576 = (d : Int) := by omega
              have hsum : m + 1048576 * d = x + y + cy := by omega
              have hms : m < 1048576 := by omega
              have hds : d ≤ 1 := by omega
              have HE4 : Hid (val ((Wu.set j m).take (j + 1)) + 1048576 ^ (j + 1) * d = val (Wt.take (j + 1)) + val (V.take (j + 1))) := by
                show _ = _
                rw [val_take_set _ _ _ hkt, val_take_succ Wt j hltt, val_take_succ V j hkv, ← HX.out, ← HY.out, Nat.pow_succ]
                exact add_back_step HE3.out hsum
              clear hm hd hsum
              go_wp2_with fail
              go_roundw
              case rel => exact ⟨j + 1, d, Wu.set j m, by omega, hds, by rw [List.length_set]; exact HLu.out, by rfl, by go_num, small_set HSu.out hms, by show _ = _; rw [drop_set_succ]; exact HDP.out, HE4, HNW.out m, only_setCell HG2.out _⟩
              case measure => simp [intOf]; omega
            · obtain ⟨m, hm⟩ : ∃ m : Nat, m = (cy + x) % 1048576 := ⟨_, rfl⟩
              obtain ⟨d, hd⟩ : ∃ d : Nat, d = (cy + x) / 1048576 := ⟨_, rfl⟩
              have hmask : bits .and .i64 ((cy : Int) + x) 1048575 = (m : Int) := by rw [mask20]; omega
              have hdiv : ((cy : Int) + x) / 1048576 = (d : Int) := by omega
              have hsum : m + 1048576 * d = x + 0 + cy := by omega
              have hms : m < 1048576 := by omega
              have hds : d ≤ 1 := by omega
              have HE4 : Hid (val ((Wu.set j m).take (j + 1)) + 1048576 ^ (j + 1) * d = val (Wt.take (j + 1)) + val (V.take (j + 1))) := by
                show _ = _
                have e1 := val_take_all (l := V) (k := j) (by omega)
                have e2 := val_take_all (l := V) (k := j + 1) (by omega)
                have h3 := add_back_step HE3.out hsum
                rw [val_take_set _ _ _ hkt, val_take_succ Wt j hltt, ← HX.out, e2, Nat.pow_succ]
                rw [e1, Nat.mul_zero, Nat.add_zero] at h3
                exact h3
              clear hm hd hsum
              go_wp2_with fail
              go_roundw
              case rel => exact ⟨j + 1, d, Wu.set j m, by omega, hds, by rw [List.length_set]; exact HLu.out, by rfl, by go_num, small_set HSu.out hms, by show _ = _; rw [drop_set_succ]; exact HDP.out, HE4, HNW.out m, only_setCell HG2.out _⟩
              case measure => simp [intOf]; omega

          · obtain rfl : j = W.length := by omega
            have hfin : Hid ((guess - 1) * val V + val Wu = val W ∧ val Wu < val V) := by
              have h3 := HE3.out
              rw [List.take_of_length_le (by omega), val_take_all hl, List.take_of_length_le (l := Wt) (by omega)] at h3
              have h5 := val_lt HSu.out
              rw [HLu.out] at h5
              exact settle_end h3 h5 HS1.out H1.out HWL.out hg1 hcy
            have HLu2 := Lib.hid hlu
            clear hlu hol hlt
            go_wp2_with fail
            go_ret
            exact ⟨guess - 1, ret_int (show ((guess : Int) - 1) = ((guess - 1 : Nat) : Int) by omega), ⟨Wu, HW2.out, HLu2.out, HSu.out, hfin.out.1, hfin.out.2⟩, HG2.out, HA.out⟩
end Go.Proofs.Ytjbfngjlepafgaa
namespace Go.Proofs.Ytjbfngjlepafgaa
open Go.RowKit

/-! ### a digit guessed from the first digits -/
theorem guess_start {e B V U vl wl v1 v2 w2 top g : Nat} (hB : B = 1048576) (hV : V = vl + e * (v2 + B * v1)) (hU : U = wl + e * (w2 + B * top)) (hw : wl < e) (h2 : w2 < B) (hg : top < (g + 1) * v1) : U < g * V + V := by
  have h1 : e * (w2 + B * top) + e ≤ e * (B * (top + 1)) := by
    rw [← Nat.mul_succ]; exact Nat.mul_le_mul_left _ (by rw [Nat.mul_add]; omega)
  have h3 : e * (B * (top + 1)) ≤ e * (B * ((g + 1) * v1)) := Nat.mul_le_mul_left _ (Nat.mul_le_mul_left _ hg)
  have h4 : e * (B * ((g + 1) * v1)) ≤ g * V + V := by
    subst hV
    have : g * (vl + e * (v2 + B * v1)) + (vl + e * (v2 + B * v1)) = e * (B * ((g + 1) * v1)) + (g + 1) * (vl + e * v2) := by grind
    omega
  omega
theorem guess_big {B V U g : Nat} (hU : U < B * V) (hg : B ≤ g) : U < (g - 1) * V + V := by
  have h1 : B * V ≤ g * V := Nat.mul_le_mul_right _ hg
  rcases Nat.eq_zero_or_pos g with h | h
  · subst h; omega
  · obtain ⟨k, rfl⟩ : ∃ k, g = k + 1 := ⟨g - 1, by omega⟩
    rw [Nat.add_sub_cancel]; rw [Nat.add_mul] at h1; omega
theorem guess_down {e B V U vl wl v1 v2 w2 top g rest : Nat} (hV : V = vl + e * (v2 + B * v1)) (hU : U = wl + e * (w2 + B * top)) (hw : wl < e) (hr : g * v1 + rest = top) (hg : rest * B + w2 < g * v2) : U < (g - 1) * V + V := by
  have h1 : w2 + B * top + 1 ≤ g * (v2 + B * v1) := by
    subst hr
    have : g * (v2 + B * v1) = g * v2 + B * (g * v1) := by grind
    have h3 : B * (g * v1 + rest) = B * (g * v1) + rest * B := by grind
    omega
  have h2 := Nat.mul_le_mul_left e h1
  have h3 : g * V = g * vl + e * (g * (v2 + B * v1)) := by subst hV; grind
  rw [Nat.mul_add, Nat.mul_one] at h2
  rcases Nat.eq_zero_or_pos g with h | h
  · subst h; omega
  · obtain ⟨k, rfl⟩ : ∃ k, g = k + 1 := ⟨g - 1, by omega⟩
    rw [Nat.add_sub_cancel]; rw [Nat.add_mul, Nat.one_mul] at h3; omega
theorem guess_end {e B V U vl wl v1 v2 w2 top g rest : Nat} (hV : V = vl + e * (v2 + B * v1)) (hU : U = wl + e * (w2 + B * top)) (hv : vl < e) (hr : g * v1 + rest = top) (h1 : 1 ≤ v1) (hgB : g < B) (hx : B ≤ rest ∨ g * v2 ≤ rest * B + w2) (h2 : v2 < B) : g * V ≤ U + V := by
  have h3 : g * v2 ≤ rest * B + w2 := by
    rcases hx with hx | hx
    · have a1 : g * v2 ≤ B * B := Nat.mul_le_mul (by omega) (by omega)
      have a2 : B * B ≤ rest * B := Nat.mul_le_mul_right _ hx
      omega
    · exact hx
  have h4 : g * (v2 + B * v1) ≤ w2 + B * top := by
    subst hr
    have : g * (v2 + B * v1) = g * v2 + B * (g * v1) := by grind
    have h3 : B * (g * v1 + rest) = B * (g * v1) + rest * B := by grind
    omega
  have h5 := Nat.mul_le_mul_left e h4
  have h6 : g * V = g * vl + e * (g * (v2 + B * v1)) := by subst hV; grind
  have h7 : g * vl ≤ B * e := Nat.mul_le_mul (by omega) (by omega)
  have h8 : B * e ≤ e * (v2 + B * v1) := by
    have : e * (B * 1) ≤ e * (v2 + B * v1) := Nat.mul_le_mul_left _ (by have := Nat.mul_le_mul_left B h1; omega)
    rw [Nat.mul_one, Nat.mul_comm] at this; exact this
  omega
theorem own_lit1 (w : World) (B d : Nat) (hB : B ≤ w.heap.size) : OwnN (w.alloc (.cells #[.int .i64 (d : Int)] 3)) B (.slice (some ⟨w.heap.size, 0, none⟩) 1 1) [d] :=
  World.ownsRow_lit w #[.int .i64 (d : Int)] 1 hB (by unfold maxLen; omega) rfl
theorem digs_len_of_lt {n k : Nat} (h : n < 1048576 ^ k) : (digs n).length ≤ k := by
  rcases Nat.lt_or_ge k (digs n).length with h1 | h1
  · exfalso
    have h0 : n ≠ 0 := by rintro rfl; simp [digs_zero] at h1
    have h2 := digs_len_ge h0
    have h3 : 1048576 ^ k ≤ 1048576 ^ ((digs n).length - 1) := Nat.pow_le_pow_right (by omega) (by omega)
    omega
  · exact h1
theorem digs_len_mul (a b : Nat) : (digs (a * b)).length ≤ (digs a).length + (digs b).length := by
  refine digs_len_of_lt ?_
  rw [Nat.pow_add]
  exact Nat.mul_lt_mul'' (digs_len_lt a) (digs_len_lt b)
theorem digs_len_mul_one {a b : Nat} (h : b < 1048576) : (digs (a * b)).length ≤ (digs a).length + 1 := by
  have h1 := digs_len_mul a b
  have h2 : (digs b).length ≤ 1 := digs_len_of_lt (by rw [Nat.pow_one]; exact h)
  omega
theorem digs_len_add (a b : Nat) : (digs (a + b)).length ≤ max (digs a).length (digs b).length + 1 := by
  refine digs_len_of_lt ?_
  have h1 : a < 1048576 ^ max (digs a).length (digs b).length := Nat.lt_of_lt_of_le (digs_len_lt a) (Nat.pow_le_pow_right (by omega) (Nat.le_max_left _ _))
  have h2 : b < 1048576 ^ max (digs a).length (digs b).length := Nat.lt_of_lt_of_le (digs_len_lt b) (Nat.pow_le_pow_right (by omega) (Nat.le_max_right _ _))
  rw [Nat.pow_succ]; omega
/-- The first two digits of digits, and the rest. -/
theorem top2 (V : Digs) (n : Nat) (hn : V.length = n + 2) : val V = val (V.take n) + 1048576 ^ n * (V[n]'(by omega) + 1048576 * V[n + 1]'(by omega)) := by
  rw [val_split V n (by omega), List.drop_eq_getElem_cons (by omega), List.drop_eq_getElem_cons (by omega), List.drop_of_length_le (by omega)]
  simp [val]
theorem top3 (W : Digs) (n : Nat) (hn : W.length = n + 3) : val W = val (W.take n) + 1048576 ^ n * (W[n]'(by omega) + 1048576 * (W[n + 2]'(by omega) * 1048576 + W[n + 1]'(by omega))) := by
  rw [val_split W n (by omega), List.drop_eq_getElem_cons (by omega), List.drop_eq_getElem_cons (by omega), List.drop_eq_getElem_cons (by omega), List.drop_of_length_le (by omega)]
  simp only [val, Nat.mul_zero, Nat.add_zero]
  rw [Nat.add_comm (W[n + 2] * 1048576), Nat.mul_comm W[n + 2]]
set_option maxRecDepth 100000 in
set_option maxHeartbeats 4000000 in
theorem bigDiv_lt (p q : Value) (a b : Nat) (w : World) (hp : RdN w p (digs a)) (hq : RdN w q (digs b)) (hab : a < b) (hn : (digs a).length ≤ 1099511627776) (hm : (digs b).length ≤ 1099511627776) :
    Calls Try.prog 81 #[p, q] w fun e w' => ∃ v r, e = .returned (.tuple #[v, r]) ∧ OwnN w' w.heap.size v (digs (a / b)) ∧ OwnN w' w.heap.size r (digs (a % b)) ∧ Below w.heap.size w w' := by
  have HO := Lib.hid (ord_lt (a := a) (b := b) (by omega))
  have HD : Hid (digs (a / b) = [] ∧ a % b = a) := ⟨by rw [Nat.div_eq_of_lt hab]; rfl, Nat.mod_eq_of_lt hab⟩
  have HP := Lib.hid hp
  have HQ := Lib.hid hq
  clear hp hq hab
  go_enter Try.func81, Try.ntmps81
  go_wp2_with fail
  refine (bigcmp_any p q a b w HP.out HQ.out hn hm).mono ?_
  rintro e w1 ⟨rfl, hb⟩
  rw [HO.out]
  have HB := Lib.hid hb; clear hb
  go_wp2_with fail
  refine (clone_any p _ w1 (HP.out.keep HB.out) hn).mono ?_
  rintro e w2 ⟨v, rfl, ho, hb⟩
  have HB2 := Lib.hid hb; clear hb
  have HO2 := Lib.hid ho; clear ho
  go_wp2_with fail
  go_ret2
  exact ⟨_, v, rfl, by rw [HD.out.1]; exact ownN_nil _ _, by rw [HD.out.2]; exact HO2.out.mono HB.out.size, HB.out.trans (HB2.out.mono HB.out.size)⟩
set_option maxRecDepth 100000 in
set_option maxHeartbeats 4000000 in
theorem bigDiv_one (p q : Value) (a d : Nat) (w : World) (hp : RdN w p (digs a)) (hq : RdN w q (digs d)) (hab : d ≤ a) (h0 : 0 < d) (hd : d < 1048576) (hn : (digs a).length ≤ 1099511627776) :
    Calls Try.prog 81 #[p, q] w fun e w' => ∃ v r, e = .returned (.tuple #[v, r]) ∧ OwnN w' w.heap.size v (digs (a / d)) ∧ OwnN w' w.heap.size r (digs (a % d)) ∧ Below w.heap.size w w' := by
  have HO : Hid (¬ ord a d < 0) := by
    show ¬ _
    rcases Nat.lt_or_ge d a with h | h
    · rw [ord_gt (by omega)]; omega
    · obtain rfl : a = d := by omega
      rw [ord_eq]; omega
  obtain ⟨o, ho⟩ : ∃ o, o = ord a d := ⟨_, rfl⟩
  have hon : ¬ o < 0 := by rw [ho]; exact HO.out
  have HOO := Lib.hid ho; clear ho
  have hdd : digs d = [d] := by
    have := digs_mk (n := 0) hd (by omega)
    rw [Nat.mul_zero, Nat.add_zero] at this; exact this
  have HP := Lib.hid hp
  have HQ : Hid (RdN w q [d]) := by rw [← hdd]; exact hq
  have HDD := Lib.hid hdd
  clear hp hq hab hdd
  obtain ⟨a2, cap2, rfl⟩ := HQ.out.shape
  go_enter Try.func81, Try.ntmps81
  go_wp2_with fail
  refine (bigcmp_any p _ a d w HP.out (by rw [HDD.out]; exact HQ.out) hn (by rw [HDD.out]; simp)).mono ?_
  rintro e w1 ⟨rfl, hb⟩
  rw [← HOO.out]
  have HB := Lib.hid hb; clear hb
  obtain ⟨b1, off1, rfl, hb1, hcell⟩ := (HQ.out.keep HB.out).at (k := 0) (by simp)
  rw [Nat.add_zero] at hcell
  simp only [List.getElem_cons_zero] at hcell
  go_wp2_with fail
  refine (bigShort_any p _ d w1 (HP.out.keep HB.out) (digs_small a) h0 hd (by omega)).mono ?_
  rintro e w2 ⟨v, rfl, ho, hb⟩
  have HB2 := Lib.hid hb; clear hb
  rw [val_digs] at ho
  have HO2 := Lib.hid ho; clear ho
  rw [val_digs]
  obtain ⟨r, hr⟩ : ∃ r, r = a % d := ⟨_, rfl⟩
  rw [← hr]
  have hrd : r < d := by rw [hr]; exact Nat.mod_lt _ h0
  have HR := Lib.hid hr; clear hr
  have HB12 := Lib.hid (HB.out.trans (HB2.out.mono HB.out.size))
  go_wp2_with fail
  refine (bigTrim_own w.heap.size _ [r] _ ?_ (small_one (by omega)) (by simp)).mono ?_
  · exact own_lit1 _ _ _ HB12.out.size
  rintro e w3 ⟨v', rfl, ho, rfl⟩
  have HO3 := Lib.hid ho; clear ho
  have hv1 : val [r] = r := by simp [val]
  rw [hv1] at HO3
  go_wp2_with fail
  go_ret2
  exact ⟨v, v', rfl, (HO2.out.keep ((Below.refl _ _).alloc (Nat.le_refl _) _)).mono HB.out.size, by rw [← HR.out]; exact HO3.out, HB12.out.alloc HB12.out.size _⟩
end Go.Proofs.Ytjbfngjlepafgaa
