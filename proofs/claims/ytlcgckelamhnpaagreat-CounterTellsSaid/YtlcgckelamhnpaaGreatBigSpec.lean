/- Natural numbers as digits to the base 2^20, plain: no Go in sight. -/
import Derived.Test.YtlcgckelamhnpaaGreatBase
import Derived.BigQuiet
namespace Go.Proofs.YtlcgckelamhnpaaGreat
abbrev Digs := List Nat
def val : Digs → Nat | [] => 0 | d :: r => d + 1048576 * val r
def small (l : Digs) : Prop := ∀ d ∈ l, d < 1048576
def digsF : Nat → Nat → Digs | 0, _ => [] | f + 1, n => if n = 0 then [] else n % 1048576 :: digsF f (n / 1048576)
def digs (n : Nat) : Digs := digsF n n
def canon (l : Digs) : Prop := small l ∧ l.getLast? ≠ some 0
theorem digsF_enough : ∀ (f g n : Nat), n ≤ f → n ≤ g → digsF f n = digsF g n
 | 0, 0, _, _, _ => rfl
 | 0, g + 1, n, h, _ => by obtain rfl : n = 0 := by omega
                           simp [digsF]
 | f + 1, 0, n, _, h => by obtain rfl : n = 0 := by omega
                           simp [digsF]
 | f + 1, g + 1, n, h, h' => by
  simp only [digsF]
  by_cases h0 : n = 0
  · rw [if_pos h0, if_pos h0]
  · rw [if_neg h0, if_neg h0, digsF_enough f g (n / 1048576) (by omega) (by omega)]
theorem digs_zero : digs 0 = [] := rfl
theorem digs_step {n : Nat} (h : n ≠ 0) : digs n = n % 1048576 :: digs (n / 1048576) := by
 unfold digs
 match n, h with
 | n + 1, h => rw [digsF, if_neg h, digsF_enough n _ _ (by omega) (Nat.le_refl _)]
theorem digs_mk {d n : Nat} (hd : d < 1048576) (h : d + 1048576 * n ≠ 0) : digs (d + 1048576 * n) = d :: digs n := by
 rw [digs_step h]; have h1 : (d + 1048576 * n) % 1048576 = d := by omega
 have h2 : (d + 1048576 * n) / 1048576 = n := by omega
 rw [h1, h2]
theorem val_digs (n : Nat) : val (digs n) = n := by
 induction n using Nat.strongRecOn with
 | ind n ih =>
  by_cases h : n = 0
  · subst h; rfl
  · rw [digs_step h, val, ih (n / 1048576) (by omega)]; omega
theorem digs_small (n : Nat) : small (digs n) := by
 induction n using Nat.strongRecOn with
 | ind n ih =>
  by_cases h : n = 0
  · subst h; intro d hd; simp [digs_zero] at hd
  · rw [digs_step h]
    intro d hd
    rcases List.mem_cons.1 hd with rfl | hd
    · exact Nat.mod_lt _ (by omega)
    · exact ih _ (by omega) d hd
theorem digs_last (n : Nat) : (digs n).getLast? ≠ some 0 := by
 induction n using Nat.strongRecOn with
 | ind n ih =>
  by_cases h : n = 0
  · subst h; simp [digs_zero]
  · rw [digs_step h]
    by_cases h1 : n / 1048576 = 0
    · rw [h1, digs_zero]; simp; omega
    · have := ih (n / 1048576) (by omega)
      rw [digs_step h1] at this ⊢; rw [List.getLast?_cons_cons]; exact this
theorem canon_tail {d : Nat} {r : Digs} (h : canon (d :: r)) : canon r := by
 refine ⟨fun x hx => h.1 x (by simp [hx]), ?_⟩
 cases r with
 | nil => simp
 | cons e q => have := h.2; rw [List.getLast?_cons_cons] at this; exact this
theorem digs_val {l : Digs} (h : canon l) : digs (val l) = l := by
 induction l with
 | nil => rfl
 | cons d r ih =>
  have hr := ih (canon_tail h); have hd := h.1 d (by simp); rw [val, digs_mk hd, hr]
  intro h0
  have hv : val r = 0 := by omega
  rw [hv] at hr; have : r = [] := by rw [← hr]; rfl
  subst this; have := h.2
  simp at this; omega
theorem digs_nil {n : Nat} : digs n = [] ↔ n = 0 := by
 constructor
 · intro h; have := val_digs n; rw [h] at this; exact this.symm
 · rintro rfl; rfl
theorem val_append (a b : Digs) : val (a ++ b) = val a + 1048576 ^ a.length * val b := by
 induction a with
 | nil => simp [val]
 | cons d r ih => rw [List.cons_append, val, ih, val, List.length_cons, Nat.pow_succ, Nat.mul_add, Nat.mul_comm (1048576 ^ r.length) 1048576, Nat.mul_assoc]; omega
theorem val_lt {l : Digs} (h : small l) : val l < 1048576 ^ l.length := by
 induction l with
 | nil => simp [val]
 | cons d r ih =>
  have h1 := ih (fun x hx => h x (by simp [hx])); have h2 := h d (by simp); rw [val, List.length_cons, Nat.pow_succ]; omega
theorem val_zeros {l : Digs} (h : ∀ d ∈ l, d = 0) : val l = 0 := by
 induction l with
 | nil => rfl
 | cons d r ih => rw [val, ih (fun x hx => h x (by simp [hx])), h d (by simp)]
theorem val_split (l : Digs) (k : Nat) (hk : k ≤ l.length) : val l = val (l.take k) + 1048576 ^ k * val (l.drop k) := by
 conv => lhs; rw [← List.take_append_drop k l]
 rw [val_append, List.length_take, Nat.min_eq_left hk]
theorem val_take_succ (l : Digs) (k : Nat) (hk : k < l.length) : val (l.take (k + 1)) = val (l.take k) + 1048576 ^ k * l[k] := by
 rw [List.take_succ_eq_append_getElem hk, val_append, List.length_take, Nat.min_eq_left (by omega)]; simp [val]
theorem val_snoc (l : Digs) (d : Nat) : val (l ++ [d]) = val l + 1048576 ^ l.length * d := by rw [val_append]; simp [val]
theorem small_take {l : Digs} (h : small l) (k : Nat) : small (l.take k) := fun d hd => h d (List.mem_of_mem_take hd)
theorem small_drop {l : Digs} (h : small l) (k : Nat) : small (l.drop k) := fun d hd => h d (List.mem_of_mem_drop hd)
theorem small_append {a b : Digs} (ha : small a) (hb : small b) : small (a ++ b) := by intro d hd; rcases List.mem_append.1 hd with h | h; exact ha d h; exact hb d h
theorem small_nil : small [] := by intro d hd; simp at hd
theorem small_one {d : Nat} (h : d < 1048576) : small [d] := by intro x hx; simp at hx; omega
theorem small_get {l : Digs} (h : small l) (k : Nat) (hk : k < l.length) : l[k] < 1048576 := h _ (List.getElem_mem hk)
theorem trim_take {l : Digs} (hs : small l) {n : Nat} (hn : n ≤ l.length) (hz : ∀ j (h : j < l.length), n ≤ j → l[j] = 0) (hl : n = 0 ∨ ∃ h : n - 1 < l.length, l[n - 1] ≠ 0) : l.take n = digs (val l) := by
 have hv : val l = val (l.take n) := by
  rw [val_split l n hn, val_zeros (l := l.drop n)]; rfl
  intro d hd
  obtain ⟨i, hi, rfl⟩ := List.getElem_of_mem hd; rw [List.getElem_drop]; exact hz _ _ (by omega)
 rw [hv]; refine (digs_val ⟨small_take hs n, ?_⟩).symm; rcases hl with rfl | ⟨h, hne⟩
 · simp
 · rw [List.getLast?_eq_getElem?, List.length_take, Nat.min_eq_left hn, List.getElem?_take]
   by_cases h0 : n = 0
   · subst h0; simp
   · rw [if_pos (by omega), List.getElem?_eq_getElem h]
     simpa using hne
theorem digs_len_lt (n : Nat) : n < 1048576 ^ (digs n).length := by have := val_lt (digs_small n); rwa [val_digs] at this
theorem digs_len_ge {n : Nat} (h : n ≠ 0) : 1048576 ^ ((digs n).length - 1) ≤ n := by
 induction n using Nat.strongRecOn with
 | ind n ih =>
  rw [digs_step h]
  by_cases h1 : n / 1048576 = 0
  · rw [h1, digs_zero]; simp; omega
  · have := ih (n / 1048576) (by omega) h1
    have hne : (digs (n / 1048576)).length ≠ 0 := by
     intro h0; exact h1 (digs_nil.1 (List.length_eq_zero_iff.1 h0))
    rw [List.length_cons, Nat.add_sub_cancel]; obtain ⟨m, hm⟩ : ∃ m, (digs (n / 1048576)).length = m + 1 := ⟨(digs (n / 1048576)).length - 1, by omega⟩; rw [hm] at this ⊢; rw [Nat.add_sub_cancel] at this; rw [Nat.pow_succ]; have h2 := Nat.mul_le_mul_right 1048576 this
    omega
theorem digs_len_mono {a b : Nat} (h : a ≤ b) : (digs a).length ≤ (digs b).length := by
 rcases Nat.lt_or_ge (digs b).length (digs a).length with hlt | hge
 · exfalso
   have ha : a ≠ 0 := by rintro rfl; simp [digs_zero] at hlt
   have h1 := digs_len_ge ha; have h2 := digs_len_lt b; have h3 : 1048576 ^ (digs b).length ≤ 1048576 ^ ((digs a).length - 1) := Nat.pow_le_pow_right (by omega) (by omega)
   omega
 · exact hge
theorem digs_inj {a b : Nat} (h : digs a = digs b) : a = b := by rw [← val_digs a, h, val_digs]
end Go.Proofs.YtlcgckelamhnpaaGreat
namespace Go.Proofs.YtlcgckelamhnpaaGreat
open Go.RowKit
def RdZ (w : World) (v : Value) (l : List Int) : Prop := RdS w v l.length 1 (fun k => (l[k]?.map fun d => [Value.int .i64 d]).getD [])
def ints (l : Digs) : List Int := List.map (fun d : Nat => (d : Int)) l
def RdN (w : World) (v : Value) (l : Digs) : Prop := RdZ w v (ints l)
theorem ints_len (l : Digs) : (ints l).length = l.length := by simp [ints]
theorem ints_get (l : Digs) (k : Nat) (h : k < l.length) : (ints l)[k]'(by rw [ints_len]; exact h) = (l[k] : Int) := by simp [ints]
theorem RdZ.keep {w w' : World} {v : Value} {l : List Int} (h : RdZ w v l) (hb : Below w.heap.size w w') : RdZ w' v l := RdS.keep h hb
theorem RdN.keep {w w' : World} {v : Value} {l : Digs} (h : RdN w v l) (hb : Below w.heap.size w w') : RdN w' v l := RdZ.keep h hb
theorem RdZ.at {w : World} {a : Option Addr} {n cap : Nat} {l : List Int} (h : RdZ w (.slice a n cap) l) {k : Nat} (hk : k < l.length) :
 ∃ b off, a = some ⟨b, off, none⟩ ∧ b < w.heap.size ∧ w.cell? ⟨b, off + k, none⟩ = some (.int .i64 l[k]) := by
 obtain ⟨a', cap', hv, hc⟩ := h
 cases hv
 obtain ⟨b, off, ha, hlt, hcell⟩ := hc k hk; refine ⟨b, off, ha, hlt, ?_⟩; have := hcell 0 (.int .i64 l[k]) (by show ((l[k]?.map fun d => [Value.int .i64 d]).getD [])[0]? = _; rw [List.getElem?_eq_getElem hk]; rfl)
 rwa [Nat.mul_one, Nat.add_zero] at this
theorem RdZ.shape {w : World} {v : Value} {l : List Int} (h : RdZ w v l) : ∃ a cap, v = .slice a l.length cap := by
 obtain ⟨a, cap, hv, _⟩ := h; exact ⟨a, cap, hv⟩
theorem RdN.shape {w : World} {v : Value} {l : Digs} (h : RdN w v l) : ∃ a cap, v = .slice a l.length cap := by
 obtain ⟨a, cap, hv⟩ := RdZ.shape h; rw [ints_len] at hv; exact ⟨a, cap, hv⟩
theorem RdN.at {w : World} {a : Option Addr} {n cap : Nat} {l : Digs} (h : RdN w (.slice a n cap) l) {k : Nat} (hk : k < l.length) :
 ∃ b off, a = some ⟨b, off, none⟩ ∧ b < w.heap.size ∧ w.cell? ⟨b, off + k, none⟩ = some (.int .i64 (l[k] : Int)) := by
 obtain ⟨b, off, ha, hlt, hc⟩ := RdZ.at h (k := k) (by rw [ints_len]; exact hk); rw [ints_get l k hk] at hc; exact ⟨b, off, ha, hlt, hc⟩
theorem rdZ_nil (w : World) (cap : Nat) (a : Option Addr) : RdZ w (.slice a 0 cap) [] := ⟨a, cap, rfl, fun k hk => by simp at hk⟩
theorem rdN_nil (w : World) (cap : Nat) (a : Option Addr) : RdN w (.slice a 0 cap) [] := rdZ_nil w cap a
def cellsZ (l : List Int) : List Value := l.map fun d => Value.int .i64 d
def cellsN (l : Digs) : List Value := cellsZ (ints l)
theorem cellsZ_flat (l : List Int) : List.flatMap (fun d => [Value.int .i64 d]) l = cellsZ l := by
 induction l with
 | nil => rfl
 | cons d r ih => rw [List.flatMap_cons, ih]; rfl
theorem rdZ_own {w : World} {B : Nat} {v : Value} {l : List Int} {n : Nat} (h : w.ownsRow B 3 1 v n (cellsZ l)) (hn : n = l.length) : RdZ w v l := by
 subst hn; exact rds_of_own (fun d => [Value.int .i64 d]) l (fun _ _ => rfl) (by rw [cellsZ_flat]; exact h)
theorem rdN_own {w : World} {B : Nat} {v : Value} {l : Digs} {n : Nat} (h : w.ownsRow B 3 1 v n (cellsN l)) (hn : n = l.length) : RdN w v l := rdZ_own h (by rw [ints_len]; exact hn)
theorem RdN.take {w : World} {a : Option Addr} {n cap : Nat} {l : Digs} (h : RdN w (.slice a n cap) l) {m cap' : Nat} (hm : m ≤ l.length) : RdN w (.slice a m cap') (l.take m) := by
 have hlen : (l.take m).length = m := by rw [List.length_take]; omega
 refine ⟨a, cap', by rw [ints_len, hlen], fun k hk => ?_⟩; rw [ints_len, hlen] at hk; obtain ⟨b, off, ha, hlt, hc⟩ := h.at (k := k) (by omega); refine ⟨b, off, ha, hlt, fun j u hj => ?_⟩
 have hg : (ints (l.take m))[k]? = some (l[k]'(by omega) : Int) := by
  rw [List.getElem?_eq_getElem (by rw [ints_len, hlen]; exact hk), ints_get _ _ (by rw [hlen]; exact hk), List.getElem_take]
 dsimp only at hj
 rw [hg] at hj
 match j, hj with
 | 0, hj => simp at hj; subst hj; rw [Nat.mul_one, Nat.add_zero]; exact hc
 | j + 1, hj => simp at hj
end Go.Proofs.YtlcgckelamhnpaaGreat
