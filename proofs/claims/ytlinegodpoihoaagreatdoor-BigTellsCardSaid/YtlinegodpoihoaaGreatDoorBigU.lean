/- Walks: comparing and subtracting big integers. -/
import Derived.Test.YtlinegodpoihoaaGreatDoorBase
import Derived.Test.YtlinegodpoihoaaGreatDoorBigSpec
import Derived.Test.YtlinegodpoihoaaGreatDoorBigA
import Derived.Test.YtlinegodpoihoaaGreatDoorBigB
import Derived.Test.YtlinegodpoihoaaGreatDoorBigD
import Derived.Test.YtlinegodpoihoaaGreatDoorBigQ
import Derived.Test.YtlinegodpoihoaaGreatDoorRefS
import Derived.Test.YtlinegodpoihoaaGreatDoorAw
import Derived.Test.YtlinegodpoihoaaGreatDoorProg
import Derived.Test.YtlinegodpoihoaaGreatDoorShelf
import Derived.WalkKit
import Derived.WalkSpells
import Derived.WalkLawsBesides
import Derived.Handy
import Derived.Lib.Hide
import Derived.Lib.Strings
import Derived.Lib.Builder
import Derived.BigQuiet
import Derived.OwnWalk
import Derived.Laws.BitsLemmas
import Derived.WalkSmall
import Derived.Deep.QuietTactic
import Derived.StillTailTactics
import Derived.Maps.AppendAt
import Derived.IntWalk
import Derived.Deep.RegionHeld3
import Derived.Deep.DeepFit
import Derived.Deep.LoopGhost
import Derived.Deep.DeepCutAuto
namespace Go.Proofs.YtlinegodpoihoaaGreatDoor
open Go.RowKit
variable {G : Nat}

theorem getD_eq (l : List Int) {j : Nat} (h : j < l.length) : l.getD j 0 = l[j] := by rw [List.getD_eq_getElem?_getD, List.getElem?_eq_getElem h]; rfl
/-- slices.Equal at []int, whatever the slices. -/
theorem sEqual_any (v u : Value) (l m : List Int) (w : World) (hv : RdZ w v l) (hu : RdZ w u m) (hl : l.length ≤ 1099511627776) (hm : m.length ≤ 1099511627776) :
    Calls Tryz.prog 53 #[v, u] w fun e w' => e = .returned (.bool (l == m)) ∧ Below w.heap.size w w' := by
  obtain ⟨a1, c1, rfl⟩ := hv.shape
  obtain ⟨a2, c2, rfl⟩ := hu.shape
  by_cases hn : l.length = m.length
  · cases l with
    | nil =>
      refine (Tryz.slices_Equal_int_empty a1 a2 c1 m.length c2 w (by omega)).mono ?_
      rintro e w' ⟨rfl, rfl⟩
      refine ⟨?_, Below.refl _ _⟩
      have : m = [] := List.length_eq_zero_iff.1 hn.symm
      subst this; rfl
    | cons x l =>
      obtain ⟨b, o, rfl, -, -⟩ := hv.at (k := 0) (by simp)
      obtain ⟨b2, o2, rfl, -, -⟩ := hu.at (k := 0) (by rw [← hn]; simp)
      refine (Tryz.slices_Equal_int b o (x :: l).length c1 b2 o2 m.length c2 (x :: l) m w (Nat.le_refl _) (Nat.le_refl _) (by omega) (by omega) ?_ ?_).mono ?_
      · intro j hj
        obtain ⟨b', o', h1, -, h2⟩ := hv.at hj
        cases h1; rw [getD_eq _ hj]; exact h2
      · intro j hj
        obtain ⟨b', o', h1, -, h2⟩ := hu.at hj
        cases h1; rw [getD_eq _ hj]; exact h2
      · rintro e w' ⟨rfl, q, rfl⟩
        rw [List.take_length, List.take_length]
        exact ⟨rfl, below_drewN (Below.refl _ _) q⟩
  · refine (Tryz.slices_Equal_int_lens a1 a2 l.length c1 m.length c2 w hn).mono ?_
    rintro e w' ⟨rfl, rfl⟩
    refine ⟨?_, Below.refl _ _⟩
    have : (l == m) = false := by rw [beq_eq_false_iff_ne]; intro h; exact hn (by rw [h])
    rw [this]
theorem ints_inj {l m : Digs} (h : ints l = ints m) : l = m := by
 unfold ints at h
 exact (List.map_inj_right (fun x y h => by omega)).1 h
theorem sEqual_n {x y : Int} {a1 a2 : Option Addr} {c1 c2 : Nat} {bd : Bool} {w : World} (h1 : BD G w a1 c1 x) (h2 : BD G w a2 c2 y) (hx : Sz x 1099511627776) (hy : Sz y 1099511627776) (hd : decide (x.natAbs = y.natAbs) = bd) :
    Calls Tryz.prog 53 #[.slice a1 (ln x) c1, .slice a2 (ln y) c2] w fun e w' => e = .returned (.bool bd) ∧ Below w.heap.size w w' := by
  refine (sEqual_any _ _ (ints (digs x.natAbs)) (ints (digs y.natAbs)) w h1.rd h2.rd (by rw [ints_len]; exact hx) (by rw [ints_len]; exact hy)).mono ?_
  rintro e w' ⟨rfl, hb⟩
  refine ⟨?_, hb⟩
  rw [← hd]
  congr 2
  by_cases h : x.natAbs = y.natAbs
  · rw [h]; simp
  · rw [decide_eq_false h, beq_eq_false_iff_ne]
    intro h'; exact h (digs_inj (ints_inj h'))
theorem same_parts {x y : Int} : ((sg x == sg y) && decide (x.natAbs = y.natAbs)) = eqZ x y := by
  unfold eqZ
  by_cases h : x = y
  · subst h; simp
  · rw [decide_eq_false h]
    by_cases h1 : sg x = sg y
    · by_cases h2 : x.natAbs = y.natAbs
      · exfalso; apply h
        rw [abs_sg x, abs_sg y, h1, h2]
      · simp [h2]
    · have : (sg x == sg y) = false := by rw [beq_eq_false_iff_ne]; exact h1
      rw [this]; rfl
set_option maxRecDepth 100000 in
set_option maxHeartbeats 4000000 in
theorem bigSame_ok {x y : Int} {a1 a2 : Option Addr} {c1 c2 : Nat} {w : World} (h1 : BD G w a1 c1 x) (h2 : BD G w a2 c2 y) (hx : Sz x 1099511627776) (hy : Sz y 1099511627776) :
  Calls Tryz.prog 25 #[.agg #[.int .i64 (sg x), .slice a1 (ln x) c1], .agg #[.int .i64 (sg y), .slice a2 (ln y) c2]] w fun e w' => e = .returned (.bool (eqZ x y)) ∧ Below w.heap.size w w' := by
 obtain ⟨bs, hbs⟩ : ∃ b, (sg x == sg y) = b := ⟨_, rfl⟩
 obtain ⟨bd, hbd⟩ : ∃ b, decide (x.natAbs = y.natAbs) = b := ⟨_, rfl⟩
 have HR : Hid (eqZ x y = (bs && bd)) := by show _ = _; rw [← same_parts, hbs, hbd]
 have HBD := Lib.hid hbd; clear hbd
 have HX := Lib.hid hx; have HY := Lib.hid hy; clear hx hy
 have H1 : Hid (BD G w a1 c1 x) := h1
 have H2 : Hid (BD G w a2 c2 y) := h2
 clear h1 h2
 have M : Hid (Below w.heap.size w w) := Below.refl _ _
 go_enter Tryz.func25, Tryz.ntmps25
 go_upto_region 1 with fail
 refine nmW ((w.alloc (.cells #[.int .i64 (sg x), .slice a1 (ln x) c1] 24)).alloc (.cells #[.int .i64 (sg y), .slice a2 (ln y) c2] 24)) fun w1 hv => ?_
 rw [← hv]
 replace M := al2W hv M
 clear hv
 cases bs with
 | false =>
  obtain ⟨aa, ab, ac, ad⟩ := (J1 M).1.c2
  obtain ⟨ae, af, ag, ah⟩ := (M.out.1).c2
  go_wp2_with fail
  clear aa ab ac ad ae af ag ah
  go_ret
  exact ⟨by rw [HR.out]; cases bd <;> rfl, (J2 M)⟩
 | true =>
  obtain ⟨aa, ab, ac, ad⟩ := (J1 M).1.c2
  obtain ⟨ae, af, ag, ah⟩ := (M.out.1).c2
  go_wp2_with fail
  clear aa ab ac ad ae af ag ah
  refine (sEqual_n (G := G) (x := x) (y := y) (bd := bd) (H1.out.keep (J2 M)) (H2.out.keep (J2 M)) HX.out HY.out HBD.out).mono ?_
  rintro e w2 ⟨rfl, hb⟩
  replace M := gnM hb M
  clear hb
  go_wp2_with fail
  go_ret
  exact ⟨by rw [HR.out]; cases bd <;> rfl, (J2 M)⟩
theorem bigSame_is {x y : Int} {a1 a2 : Option Addr} {c1 c2 : Nat} {b : Bool} {w : World} (h1 : BD G w a1 c1 x) (h2 : BD G w a2 c2 y) (hx : Sz x 1099511627776) (hy : Sz y 1099511627776) (he : eqZ x y = b) :
  Calls Tryz.prog 25 #[.agg #[.int .i64 (sg x), .slice a1 (ln x) c1], .agg #[.int .i64 (sg y), .slice a2 (ln y) c2]] w fun e w' => e = .returned (.bool b) ∧ Below w.heap.size w w' := by
 rw [← he]; exact bigSame_ok h1 h2 hx hy
theorem rsame_is {x y : Int} {a1 a2 : Option Addr} {c1 c2 : Nat} {b : Bool} {w : World} (h1 : BD G w a1 c1 x) (h2 : BD G w a2 c2 y) (hx : Sz x 1099511627776) (hy : Sz y 1099511627776) (he : eqZ x y = b) :
  Calls Tryz.prog 12 #[.agg #[.int .i64 (sg x), .slice a1 (ln x) c1], .agg #[.int .i64 (sg y), .slice a2 (ln y) c2]] w fun e w' => e = .returned (.bool b) ∧ Below w.heap.size w w' := by
 rw [← he]; exact rsame_ok h1 h2 hx hy
/-- Whatever the big integer. -/
theorem bigRight_raw {s : Int} {a : Option Addr} {c : Nat} {l : List Int} {b : Bool} {w : World} (h : RdZ w (.slice a l.length c) l) (hn : l.length ≤ 1099511627776) (hb : rightB s l = b) :
  Calls Tryz.prog 21 #[.agg #[.int .i64 s, .slice a l.length c]] w fun e w' => e = .returned (.bool b) ∧ Below w.heap.size w w' := by
 rw [← hb]; exact bigRight_any s _ l w h hn
theorem eqZ_of {x y : Int} (h : x = y) : eqZ x y = true := by unfold eqZ; exact decide_eq_true h
/-- A right big integer is an integer's digits. -/
theorem ints_toNat {l : List Int} (h : l.all digitOk = true) : ints (l.map Int.toNat) = l ∧ small (l.map Int.toNat) := by
  have hd : ∀ d ∈ l, 0 ≤ d ∧ d ≤ 1048575 := fun d hd => by
    have := List.all_eq_true.1 h d hd
    simpa [digitOk] using this
  constructor
  · unfold ints
    rw [List.map_map]
    conv => rhs; rw [← List.map_id l]
    exact List.map_congr_left fun d hm => by have := hd d hm; simp; omega
  · intro d hm
    obtain ⟨e, he, rfl⟩ := List.mem_map.1 hm
    have := hd e he; omega
theorem right_parts {s : Int} {l : List Int} (hr : rightB s l = true) : ∃ z : Int, s = sg z ∧ l = ints (digs z.natAbs) := by
  unfold rightB at hr
  rw [Bool.and_eq_true] at hr
  obtain ⟨h1, h2⟩ := hr
  obtain ⟨e1, e2⟩ := ints_toNat h1
  by_cases h0 : l = []
  · subst h0
    rw [if_pos rfl] at h2
    exact ⟨0, by simpa [sg] using h2, rfl⟩
  · rw [if_neg h0, Bool.and_eq_true, Bool.or_eq_true] at h2
    obtain ⟨h3, h4⟩ := h2
    have h4 := of_decide_eq_true h4
    obtain ⟨P, hP⟩ : ∃ P, P = l.map Int.toNat := ⟨_, rfl⟩
    rw [← hP] at e1 e2
    have hc : canon P := by
      refine ⟨e2, fun h => h4 ?_⟩
      rw [← e1]; unfold ints
      rw [List.getLast?_map, h]; rfl
    have hv : val P ≠ 0 := by
      intro h
      have : P = [] := by rw [← digs_val hc, h]; rfl
      rw [this] at e1; exact h0 e1.symm
    have hs : s = 1 ∨ s = -1 := by
      rcases h3 with h | h
      · exact .inl (by simpa using h)
      · exact .inr (by simpa using h)
    refine ⟨s * (val P : Int), ?_, ?_⟩
    · rcases hs with rfl | rfl
      · rw [Int.one_mul]; exact (Int.sign_eq_one_of_pos (by omega)).symm
      · unfold sg; rw [Int.sign_eq_neg_one_of_neg (by omega)]
    · have : (s * (val P : Int)).natAbs = val P := by rcases hs with rfl | rfl <;> omega
      rw [this, digs_val hc, e1]
theorem bd_of_right {s : Int} {a : Option Addr} {c : Nat} {l : List Int} {w : World} (h : RdZ w (.slice a l.length c) l) (hc : l.length ≤ c) (hr : rightB s l = true) : ∃ z : Int, s = sg z ∧ l.length = ln z ∧ BD w.heap.size w a c z := by
  obtain ⟨z, h1, h2⟩ := right_parts hr
  have hl : l.length = ln z := by rw [h2, ints_len]; rfl
  refine ⟨z, h1, hl, ?_, by omega, ?_⟩
  · rw [← hl]; unfold RdN; rw [← h2]; exact h
  · rcases Nat.eq_zero_or_pos (ln z) with h0 | h0
    · exact .inl h0
    · refine .inr fun b off hb => .inl ?_
      obtain ⟨b', off', he, hlt, -⟩ := h.at (k := 0) (by omega)
      rw [he] at hb; cases hb; exact hlt
end Go.Proofs.YtlinegodpoihoaaGreatDoor
