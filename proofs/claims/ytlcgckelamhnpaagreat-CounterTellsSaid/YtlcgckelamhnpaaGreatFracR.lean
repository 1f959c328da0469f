/- Walks: fractions whatever they are: few digits, which are right; plain laws. -/
import Derived.Test.YtlcgckelamhnpaaGreatFracT
set_option maxRecDepth 100000
set_option maxHeartbeats 4000000
namespace Go.Proofs.YtlcgckelamhnpaaGreat
open Go.RowKit Go.Lib
variable {G : Nat}
theorem fracMin_1 {q r : Rat} (h : q ≤ r) : pick q r (-1) = q := by
 unfold pick ordQ; rw [if_neg]; split
 · decide
 · split
   · exfalso; grind
   · decide
theorem fracMin_2 {q r : Rat} (h : r < q) : pick q r (-1) = r := by
 unfold pick ordQ; rw [if_pos]; rw [if_neg (by grind), if_pos h]; decide
theorem fracMax_1 {q r : Rat} (h : q ≤ r) : pick q r 1 = if q = r then q else r := by
 unfold pick ordQ
 by_cases h1 : q = r
 · subst h1; rw [if_pos rfl, if_neg]; rw [if_neg (by grind), if_neg (by grind)]; decide
 · rw [if_neg h1, if_pos]; rw [if_pos (by grind)]; decide
theorem fracMax_2 {q r : Rat} (h : r < q) : pick q r 1 = q := by
 unfold pick ordQ; rw [if_neg]; rw [if_neg (by grind), if_pos h]; decide
theorem fracMax_3 {q r : Rat} (h : q ≤ r) : pick q r 1 = r := by
 rw [fracMax_1 h]; split
 · assumption
 · rfl
theorem rfFew_ok {s t m : Int} {n k : Nat} {a b : Option Addr} {c d : Nat} {r : Bool} {w : World} (hr : (decide ((n : Int) ≤ m) && decide ((k : Int) ≤ m)) = r) :
 Calls Tryz.prog 16 #[.agg #[.int .i64 s, .slice a n c, .int .i64 t, .slice b k d], .int .i64 m] w fun e w' => e = .returned (.bool r) ∧ Below w.heap.size w w' := by
 obtain ⟨r1, h1⟩ : ∃ b, decide ((n : Int) ≤ m) = b := ⟨_, rfl⟩; obtain ⟨r2, h2⟩ : ∃ b, decide ((k : Int) ≤ m) = b := ⟨_, rfl⟩; rw [h1, h2] at hr; have HR := hI hr; clear hr; have M : Hid (Below w.heap.size w w) := Below.refl _ _; go_enter Tryz.func16, Tryz.ntmps16
 go_upto_region 1 with fail
 generalize hv : World.alloc w _ = w1; replace M := alM hv.symm M; clear hv
 cases r1 with
 | false =>
  refine cj8 (Y0 M).c4 fun aa ab ac ad ae af ag ah => ?_; go_wp2_with fail
  clear aa ab ac ad ae af ag ah; go_ret
  exact ⟨by rw [← HR.out]; rfl, (J1 M)⟩
 | true =>
  refine cj8 (Y0 M).c4 fun aa ab ac ad ae af ag ah => ?_; go_wp2_with fail
  clear aa ab ac ad ae af ag ah; go_ret
  exact ⟨by rw [← HR.out]; rfl, (J1 M)⟩
def zOf (s : Int) (l : List Int) : Int := s * (val (l.map Int.toNat) : Int)
def rightF (s : Int) (l : List Int) (t : Int) (m : List Int) : Bool := rightB s l && rightB t m && rightP (zOf s l) (zOf t m)
theorem zOf_right {s : Int} {l : List Int} {z : Int} (h : s = sg z) (hl : l = ints (digs z.natAbs)) : zOf s l = z := by
 subst h hl; unfold zOf
 have : (ints (digs z.natAbs)).map Int.toNat = digs z.natAbs := by
  unfold ints; rw [List.map_map]
  conv => rhs; rw [← List.map_id (digs z.natAbs)]
  exact List.map_congr_left fun d _ => by simp
 rw [this, val_digs]; exact (abs_sg z).symm
theorem bigRight_len {s : Int} {a : Option Addr} {n c : Nat} {l : List Int} {b : Bool} {w : World} (h : RdZ w (.slice a n c) l) (hn : n ≤ 1099511627776) (hb : rightB s l = b) :
 Calls Tryz.prog 67 #[.agg #[.int .i64 s, .slice a n c]] w fun e w' => e = .returned (.bool b) ∧ Below w.heap.size w w' := by
 obtain ⟨a', c', hv, hc⟩ := h
 cases hv
 exact bigRight_raw ⟨_, _, rfl, hc⟩ hn hb
theorem fracRight_n1 {s t : Int} {l m : List Int} {a b : Option Addr} {c d : Nat} {w : World} (h1 : RdZ w (.slice a l.length c) l) (k1 : RdZ w (.slice b m.length d) m) (hl : l.length ≤ 1099511627776) (hm : m.length ≤ 1099511627776) (hrl : rightB s l = false) :
 Calls Tryz.prog 37 #[.agg #[.int .i64 s, .slice a l.length c, .int .i64 t, .slice b m.length d]] w fun e w' => e = .returned (.bool false) ∧ Below w.heap.size w w' := by
 have HL := hI hl; have HM := hI hm; have HRl := hI hrl; clear hl hm hrl; have H1 : Hid (RdZ w (.slice a l.length c) l) := h1; have K1 : Hid (RdZ w (.slice b m.length d) m) := k1; clear h1 k1; have M : Hid (Below w.heap.size w w) := Below.refl _ _; go_enter Tryz.func37, Tryz.ntmps37
 go_upto_region 1 with fail
 generalize hv : World.alloc w _ = w1; replace M := alM hv.symm M; clear hv; refine cj8 (Y0 M).c4 fun aa ab ac ad ae af ag ah => ?_; go_wp2_with fail
 clear aa ab ac ad ae af ag ah; refine (bigRight_len (s := s) (l := l) (b := false) (H1.out.keep (J1 M)) HL.out HRl.out).mono ?_; rintro e w2 ⟨rfl, hb⟩; replace M := gnM hb M; clear hb; go_wp2_with fail
 go_ret
 exact ⟨rfl, (J1 M)⟩
theorem fracRight_n2 {s t : Int} {l m : List Int} {a b : Option Addr} {c d : Nat} {w : World} (h1 : RdZ w (.slice a l.length c) l) (k1 : RdZ w (.slice b m.length d) m) (hl : l.length ≤ 1099511627776) (hm : m.length ≤ 1099511627776) (hrl : rightB s l = true) (hrm : rightB t m = false) :
 Calls Tryz.prog 37 #[.agg #[.int .i64 s, .slice a l.length c, .int .i64 t, .slice b m.length d]] w fun e w' => e = .returned (.bool false) ∧ Below w.heap.size w w' := by
 have HL := hI hl; have HM := hI hm; have HRl := hI hrl; have HRm := hI hrm; clear hl hm hrl hrm; have H1 : Hid (RdZ w (.slice a l.length c) l) := h1; have K1 : Hid (RdZ w (.slice b m.length d) m) := k1; clear h1 k1; have M : Hid (Below w.heap.size w w) := Below.refl _ _; go_enter Tryz.func37, Tryz.ntmps37
 go_upto_region 1 with fail
 generalize hv : World.alloc w _ = w1; replace M := alM hv.symm M; clear hv; refine cj8 (Y0 M).c4 fun aa ab ac ad ae af ag ah => ?_; go_wp2_with fail
 clear aa ab ac ad ae af ag ah; refine (bigRight_len (s := s) (l := l) (b := true) (H1.out.keep (J1 M)) HL.out HRl.out).mono ?_; rintro e w2 ⟨rfl, hb⟩; replace M := gnM hb M; clear hb; refine cj8 (Y0 M).c4 fun aa ab ac ad ae af ag ah => ?_; go_wp2_with fail
 clear aa ab ac ad ae af ag ah; refine (bigRight_len (s := t) (l := m) (b := false) (K1.out.keep (J1 M)) HM.out HRm.out).mono ?_; rintro e w3 ⟨rfl, hb⟩; replace M := gnM hb M; clear hb; go_wp2_with fail
 go_ret
 exact ⟨rfl, (J1 M)⟩
structure FR (w : World) (a : Option Addr) (c : Nat) (b : Option Addr) (d : Nat) (l m : List Int) : Prop where
 n1 : RdZ w (.slice a l.length c) l
 d1 : RdZ w (.slice b m.length d) m
 n2 : l.length ≤ c
 d2 : m.length ≤ d
theorem FR.keep {w w' : World} {a b : Option Addr} {c d : Nat} {l m : List Int} (h : FR w a c b d l m) (hb : Below w.heap.size w w') : FR w' a c b d l m := ⟨h.n1.keep hb, h.d1.keep hb, h.n2, h.d2⟩
instance {w w' : World} {a b : Option Addr} {c d : Nat} {l m : List Int} : Goes (FR w a c b d l m) w w' (FR w' a c b d l m) := ⟨fun h hb => h.keep hb⟩
theorem bd_of_right' {s : Int} {a : Option Addr} {c : Nat} {l : List Int} {w : World} (h : RdZ w (.slice a l.length c) l) (hc : l.length ≤ c) (hr : rightB s l = true) : s = sg (zOf s l) ∧ l.length = Go.Proofs.YtlcgckelamhnpaaGreat.ln (zOf s l) ∧ BD w.heap.size w a c (zOf s l) := by
 obtain ⟨z, h1, h2⟩ := right_parts hr; have hz := zOf_right h1 h2; have hl : l.length = Go.Proofs.YtlcgckelamhnpaaGreat.ln z := by rw [h2, ints_len]; rfl
 rw [hz]; refine ⟨h1, hl, ?_, by omega, ?_⟩
 · rw [← hl]; unfold RdN; rw [← h2]; exact h
 · rcases Nat.eq_zero_or_pos (Go.Proofs.YtlcgckelamhnpaaGreat.ln z) with h0 | h0
   · exact .inl h0
   · refine .inr fun b off hb => .inl ?_
     obtain ⟨b', off', he, hlt, -⟩ := h.at (k := 0) (by omega); rw [he] at hb; cases hb; exact hlt
theorem fracRight_raw {s t : Int} {l m : List Int} {a b : Option Addr} {c d : Nat} {r : Bool} {w : World} (h : FR w a c b d l m) (hl : l.length ≤ 549755813888) (hm : m.length ≤ 549755813888) (hr : rightF s l t m = r) :
 Calls Tryz.prog 37 #[.agg #[.int .i64 s, .slice a l.length c, .int .i64 t, .slice b m.length d]] w fun e w' => e = .returned (.bool r) ∧ Below w.heap.size w w' := by
 subst hr; unfold rightF
 cases h1 : rightB s l with
 | false => exact fracRight_n1 h.n1 h.d1 (by omega) (by omega) h1
 | true =>
  cases h2 : rightB t m with
  | false => exact fracRight_n2 h.n1 h.d1 (by omega) (by omega) h1 h2
  | true =>
   obtain ⟨ex, lx, bx⟩ := bd_of_right' h.n1 h.n2 h1; obtain ⟨ey, ly, by_⟩ := bd_of_right' h.d1 h.d2 h2; have := fracRight_bd bx by_ (show Go.Proofs.YtlcgckelamhnpaaGreat.ln _ ≤ _ by omega) (show Go.Proofs.YtlcgckelamhnpaaGreat.ln _ ≤ _ by omega) rfl; rw [← ex, ← lx, ← ey, ← ly] at this; exact this
theorem fd_of_right {s t : Int} {l m : List Int} {a b : Option Addr} {c d : Nat} {w : World} (h : FR w a c b d l m) (hr : rightF s l t m = true) :
 ∃ q : Rat, s = sg (nu q) ∧ l.length = Go.Proofs.YtlcgckelamhnpaaGreat.ln (nu q) ∧ t = sg (de q) ∧ m.length = Go.Proofs.YtlcgckelamhnpaaGreat.ln (de q) ∧ FD w.heap.size w a c b d q := by
 unfold rightF at hr; rw [Bool.and_eq_true, Bool.and_eq_true] at hr; obtain ⟨⟨h1, h2⟩, h3⟩ := hr; obtain ⟨ex, lx, bx⟩ := bd_of_right' h.n1 h.n2 h1; obtain ⟨ey, ly, by_⟩ := bd_of_right' h.d1 h.d2 h2; obtain ⟨e1, e2⟩ := rightP_parts h3; exact ⟨Rat.divInt (zOf s l) (zOf t m), by rw [e1]; exact ex, by rw [e1]; exact lx, by rw [e2]; exact ey, by rw [e2]; exact ly, ⟨by rw [e1]; exact bx, by rw [e2]; exact by_⟩⟩
theorem fracRight_len {s t : Int} {l m : List Int} {n k : Nat} {a b : Option Addr} {c d : Nat} {r : Bool} {w : World} (h : FR w a c b d l m) (hn : l.length = n) (hk : m.length = k) (hl : n ≤ 549755813888) (hm : k ≤ 549755813888) (hr : rightF s l t m = r) :
 Calls Tryz.prog 37 #[.agg #[.int .i64 s, .slice a n c, .int .i64 t, .slice b k d]] w fun e w' => e = .returned (.bool r) ∧ Below w.heap.size w w' := by
 subst hn hk; exact fracRight_raw h hl hm hr
theorem ordQ_swap (q r : Rat) : ordQ r q = -ordQ q r := by
 unfold ordQ
 by_cases h : q < r
 · rw [if_pos h, if_neg (by grind), if_pos h]; rfl
 · by_cases h' : r < q
   · rw [if_pos h', if_neg h, if_pos h']
   · rw [if_neg h, if_neg h', if_neg h', if_neg h]; rfl
theorem ordQ_ge {q r : Rat} (h : r < q) : ordQ q r = 1 := by unfold ordQ; rw [if_neg (by grind), if_pos h]
theorem ordQ_up {q r : Rat} (h : q ≤ r) : ¬ 0 < ordQ q r := by
 unfold ordQ; split
 · decide
 · rw [if_neg (by grind)]; decide
end Go.Proofs.YtlcgckelamhnpaaGreat
