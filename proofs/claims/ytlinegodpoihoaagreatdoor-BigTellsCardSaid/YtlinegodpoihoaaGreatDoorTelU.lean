/- One contract for each function on big integers, whether they are right or not. -/
import Derived.Test.YtlinegodpoihoaaGreatDoorBase
import Derived.Test.YtlinegodpoihoaaGreatDoorBigSpec
import Derived.Test.YtlinegodpoihoaaGreatDoorBigA
import Derived.Test.YtlinegodpoihoaaGreatDoorBigB
import Derived.Test.YtlinegodpoihoaaGreatDoorBigC
import Derived.Test.YtlinegodpoihoaaGreatDoorBigD
import Derived.Test.YtlinegodpoihoaaGreatDoorBigQ
import Derived.Test.YtlinegodpoihoaaGreatDoorRefS
import Derived.Test.YtlinegodpoihoaaGreatDoorAw
import Derived.Test.YtlinegodpoihoaaGreatDoorBigU
import Derived.Test.YtlinegodpoihoaaGreatDoorBigDec
import Derived.Test.YtlinegodpoihoaaGreatDoorBigRead
import Derived.Test.YtlinegodpoihoaaGreatDoorBigV
import Derived.Test.YtlinegodpoihoaaGreatDoorRefH
import Derived.Test.YtlinegodpoihoaaGreatDoorTelX
import Derived.Test.YtlinegodpoihoaaGreatDoorRefK
import Derived.Test.YtlinegodpoihoaaGreatDoorTelY
import Derived.Test.YtlinegodpoihoaaGreatDoorTelI
import Derived.Test.YtlinegodpoihoaaGreatDoorProg
import Derived.Test.YtlinegodpoihoaaGreatDoorShelf
import Derived.WalkKit
import Derived.WalkSpells
import Derived.WalkLawsBesides
import Derived.Handy
import Derived.Lib.Hide
import Derived.Lib.Strings
import Derived.Lib.Builder
import Derived.BigQuiet
import Derived.OwnWalk
import Derived.Laws.BitsLemmas
import Derived.WalkSmall
import Derived.Deep.QuietTactic
import Derived.StillTailTactics
import Derived.Maps.AppendAt
import Derived.IntWalk
import Derived.Deep.RegionHeld3
import Derived.Deep.DeepFit
import Derived.Deep.LoopGhost
import Derived.Deep.DeepCutAuto
import Derived.Lib.ItoaNum
import Derived.Lib.Repeat
import Derived.Lib.AppendIntMem
import Derived.Sort.OwnSorted
import Derived.Shelf.Strings.SlTrimAscii
import Derived.Lib.ConvBytes
import Derived.Lib.CutLaws
namespace Go.Proofs.YtlinegodpoihoaaGreatDoor
open Go.RowKit
variable {G : Nat}

instance {w w' : World} {v : Value} {l : List Int} : Goes (RdZ w v l) w w' (RdZ w' v l) := ⟨fun h hb => h.keep hb⟩
set_option maxRecDepth 100000 in
set_option maxHeartbeats 8000000 in
theorem rsame_raw {s t : Int} {l m : List Int} {a1 a2 : Option Addr} {c1 c2 : Nat} {w : World} (h1 : RdZ w (.slice a1 l.length c1) l) (h2 : RdZ w (.slice a2 m.length c2) m) (hx : l.length ≤ 1099511627776) (hy : m.length ≤ 1099511627776) :
    Calls Tryz.prog 12 #[.agg #[.int .i64 s, .slice a1 l.length c1], .agg #[.int .i64 t, .slice a2 m.length c2]] w fun e w' => e = .returned (.bool (s == t && l == m)) ∧ Below w.heap.size w w' := by
  have H1 := Lib.hid h1
  have H2 := Lib.hid h2
  clear h1 h2
  go_enter Tryz.func12, Tryz.ntmps12
  by_cases hs : s = t
  · by_cases hl : l.length = m.length
    · have e1 : (s != t) = false := by rw [hs]; simp
      have e2 : ((l.length : Int) != (m.length : Int)) = false := by rw [hl]; simp
      have HS := Lib.hid hs
      have HL := Lib.hid hl
      clear hs hl
      go_wp2_with fail
      obtain ⟨w0, hw0⟩ : ∃ w0, w0 = (w.alloc (.cells #[.int .i64 s, .slice a1 l.length c1] 24)).alloc (.cells #[.int .i64 t, .slice a2 m.length c2] 24) := ⟨_, rfl⟩
      have hbx := bx2 w 24 24 #[.int .i64 s, .slice a1 l.length c1] #[.int .i64 t, .slice a2 m.length c2]
      have HB : Hid (Below w.heap.size w w0) := by show Below _ _ _; rw [hw0]; go_grown
      rw [← hw0] at hbx ⊢
      have K0 := Lib.hid hbx.1
      have K1 := Lib.hid hbx.2
      clear hw0 hbx
      have p1 : w0.cell? ⟨w.heap.size, 1, none⟩ = some (.slice a1 l.length c1) := K0.out.at.1 1
      have p2 : w0.cell? ⟨w.heap.size + 1, 1, none⟩ = some (.slice a2 m.length c2) := K1.out.at.1 1
      go_loopw [5] (fun i wr => ∃ k nd : Nat, k ≤ l.length ∧ i = .int .i64 k ∧ wr = w0.drewN nd ∧ Hid (l.take k = m.take k)) (fun i _ => l.length - (RowKit.intOf i).toNat)
      case atStart => exact ⟨0, 0, Nat.zero_le _, rfl, rfl, rfl⟩
      case round =>
        obtain ⟨k, nd, hk, rfl, rfl, HT⟩ := hrel
        by_cases hlt : k < l.length
        · have hlt2 : k < m.length := by rw [← HL.out]; exact hlt
          obtain ⟨b, off, rfl, hb, hcell⟩ := (H1.out.keep HB.out).at (k := k) hlt
          obtain ⟨b2, off2, rfl, hb2, hcell2⟩ := (H2.out.keep HB.out).at (k := k) hlt2
          obtain ⟨d, hd⟩ : ∃ d, d = l[k]'hlt := ⟨_, rfl⟩
          obtain ⟨d2, hd2⟩ : ∃ d, d = m[k]'hlt2 := ⟨_, rfl⟩
          rw [← hd] at hcell
          rw [← hd2] at hcell2
          have hki : (k : Int) < (l.length : Int) := by omega
          have hki2 : (k : Int) < (m.length : Int) := by omega
          by_cases hdd : d = d2
          · have e3 : (d != d2) = false := by rw [hdd]; simp
            have HT2 : Hid (l.take (k + 1) = m.take (k + 1)) := by
              show _ = _
              rw [List.take_succ_eq_append_getElem hlt, List.take_succ_eq_append_getElem hlt2, HT.out, ← hd, ← hd2, hdd]
            clear hd hd2 hdd
            go_wp2_with fail
            go_quiet (fail)
            go_wp2_with fail
            go_roundw
            case rel => exact ⟨k + 1, _, by omega, by go_num, rfl, HT2⟩
            case measure => simp [RowKit.intOf]; omega
          · have e3 : (d != d2) = true := by rw [bne_iff_ne]; exact hdd
            have HO : Hid ((s == t && l == m) = false) := by
              show _ = _
              have : (l == m) = false := by
                rw [beq_eq_false_iff_ne]
                intro h; subst h; exact hdd (hd.trans hd2.symm)
              rw [this, Bool.and_false]
            clear hd hd2 hdd
            go_wp2_with fail
            go_quiet (fail)
            go_wp2_with fail
            go_ret
            exact ⟨ret_bool HO.out.symm, by first | exact below_drewN HB.out _ | exact below_drewN (below_drewN HB.out _) _⟩
        · have HO : Hid ((s == t && l == m) = true) := by
            show _ = _
            have := HT.out
            rw [List.take_of_length_le (by omega), List.take_of_length_le (by rw [← HL.out]; omega)] at this
            rw [this, HS.out]; simp
          go_wp2_with fail
          go_ret
          exact ⟨ret_bool HO.out.symm, below_drewN HB.out _⟩
    · have HO : Hid ((s == t && l == m) = false) := by
        show _ = _
        have : (l == m) = false := by rw [beq_eq_false_iff_ne]; intro h; exact hl (by rw [h])
        rw [this, Bool.and_false]
      have e1 : (s != t) = false := by rw [hs]; simp
      have e2 : ((l.length : Int) != (m.length : Int)) = true := by rw [bne_iff_ne]; omega
      clear hs hl
      go_wp2_with fail
      go_ret
      exact ⟨ret_bool HO.out.symm, by go_grown⟩
  · have HO : Hid ((s == t && l == m) = false) := by
      show _ = _
      have : (s == t) = false := by rw [beq_eq_false_iff_ne]; exact hs
      rw [this, Bool.false_and]
    have e1 : (s != t) = true := by rw [bne_iff_ne]; exact hs
    clear hs
    go_wp2_with fail
    go_ret
    exact ⟨ret_bool HO.out.symm, by go_grown⟩
theorem sEqual_b {l m : List Int} {a1 a2 : Option Addr} {c1 c2 : Nat} {bd : Bool} {w : World} (h1 : RdZ w (.slice a1 l.length c1) l) (h2 : RdZ w (.slice a2 m.length c2) m) (hx : l.length ≤ 1099511627776) (hy : m.length ≤ 1099511627776) (hd : (l == m) = bd) :
  Calls Tryz.prog 53 #[.slice a1 l.length c1, .slice a2 m.length c2] w fun e w' => e = .returned (.bool bd) ∧ Below w.heap.size w w' := by
 subst hd; exact sEqual_any _ _ l m w h1 h2 hx hy
set_option maxRecDepth 100000 in
set_option maxHeartbeats 4000000 in
theorem bigSame_raw {s t : Int} {l m : List Int} {a1 a2 : Option Addr} {c1 c2 : Nat} {w : World} (h1 : RdZ w (.slice a1 l.length c1) l) (h2 : RdZ w (.slice a2 m.length c2) m) (hx : l.length ≤ 1099511627776) (hy : m.length ≤ 1099511627776)  :
  Calls Tryz.prog 25 #[.agg #[.int .i64 s, .slice a1 l.length c1], .agg #[.int .i64 t, .slice a2 m.length c2]] w fun e w' => e = .returned (.bool (s == t && l == m)) ∧ Below w.heap.size w w' := by
 obtain ⟨bs, hbs⟩ : ∃ b, (s == t) = b := ⟨_, rfl⟩
 obtain ⟨bd, hbd⟩ : ∃ b, (l == m) = b := ⟨_, rfl⟩
 have HR : Hid ((s == t && l == m) = (bs && bd)) := by show _ = _; rw [hbs, hbd]
 have HBD := Lib.hid hbd; have HX := Lib.hid hx; have HY := Lib.hid hy; clear hbd hx hy
 have H1 : Hid (RdZ w (.slice a1 l.length c1) l) := h1
 have H2 : Hid (RdZ w (.slice a2 m.length c2) m) := h2
 clear h1 h2
 have M : Hid (Below w.heap.size w w) := Below.refl _ _
 go_enter Tryz.func25, Tryz.ntmps25
 go_upto_region 1 with fail
 refine nmW ((w.alloc (.cells #[.int .i64 s, .slice a1 l.length c1] 24)).alloc (.cells #[.int .i64 t, .slice a2 m.length c2] 24)) fun w1 hv => ?_
 rw [← hv]
 replace M := al2W hv M
 clear hv
 cases bs with
 | false =>
  refine cj2 (J1 M).1.d2 fun aa ab => ?_
  refine cj2 (M.out.1).d2 fun ac ad => ?_
  go_wp2_with fail
  clear aa ab ac ad
  go_ret
  exact ⟨by rw [HR.out]; cases bd <;> rfl, (J2 M)⟩
 | true =>
  refine cj2 (J1 M).1.d2 fun aa ab => ?_
  refine cj2 (M.out.1).d2 fun ac ad => ?_
  go_wp2_with fail
  clear aa ab ac ad
  refine (sEqual_b (l := l) (m := m) (bd := bd) (H1.out.keep (J2 M)) (H2.out.keep (J2 M)) HX.out HY.out HBD.out).mono ?_
  rintro e w2 ⟨rfl, hb⟩
  replace M := gnM hb M
  clear hb
  go_wp2_with fail
  go_ret
  exact ⟨by rw [HR.out]; cases bd <;> rfl, (J2 M)⟩
end Go.Proofs.YtlinegodpoihoaaGreatDoor
namespace Go.Proofs.YtlinegodpoihoaaGreatDoor
open Go.RowKit Go.Lib
variable {G : Nat}

/-- The integer of parts; zero, if they are not right. -/
def zR (s : Int) (l : List Int) : Int := if rightB s l = true then s * (val (l.map Int.toNat) : Int) else 0
theorem zR_right {s : Int} {l : List Int} {z : Int} (h : s = sg z) (hl : l = ints (digs z.natAbs)) (hr : rightB s l = true) : zR s l = z := by
 unfold zR
 rw [if_pos hr]
 have : l.map Int.toNat = digs z.natAbs := by
  rw [hl]; unfold ints; rw [List.map_map]
  conv => rhs; rw [← List.map_id (digs z.natAbs)]
  exact List.map_congr_left fun d _ => by simp
 rw [this, val_digs, h]
 exact Int.sign_mul_natAbs z
/-- The parts of a big integer in memory that was there at the level G. -/
structure RB (G : Nat) (w : World) (a : Option Addr) (n c : Nat) (s : Int) (l : List Int) : Prop where
 rd : RdZ w (.slice a n c) l
 len : l.length = n
 bd : rightB s l = true → s = sg (zR s l) ∧ n = Go.Proofs.YtlinegodpoihoaaGreatDoor.ln (zR s l) ∧ BD G w a c (zR s l)
theorem RB.keep {w w' : World} {a : Option Addr} {n c : Nat} {s : Int} {l : List Int} (h : RB G w a n c s l) (hb : Below w.heap.size w w') : RB G w' a n c s l :=
 ⟨h.rd.keep hb, h.len, fun hr => ⟨(h.bd hr).1, (h.bd hr).2.1, (h.bd hr).2.2.keep hb⟩⟩
instance {w w' : World} {a : Option Addr} {n c : Nat} {s : Int} {l : List Int} : Goes (RB G w a n c s l) w w' (RB G w' a n c s l) := ⟨fun h hb => h.keep hb⟩
theorem RB.of {w : World} {a : Option Addr} {c : Nat} {s : Int} {l : List Int} (h : RdZ w (.slice a l.length c) l) (hc : l.length ≤ c) : RB w.heap.size w a l.length c s l := by
  refine ⟨h, rfl, fun hr => ?_⟩
  obtain ⟨z, h1, h2⟩ := right_parts hr
  have hz := zR_right h1 h2 hr
  obtain ⟨z', e1, e2, e3⟩ := bd_of_right h hc hr
  have hl : l.length = Go.Proofs.YtlinegodpoihoaaGreatDoor.ln z := by rw [h2, ints_len]; rfl
  refine ⟨by rw [hz]; exact h1, by rw [hz]; exact hl, ?_⟩
  rw [hz]
  refine ⟨?_, by omega, ?_⟩
  · unfold RdN; rw [← h2, ← hl]; exact h
  · have := e3.ty; rw [← e2, hl] at this; exact this
def opZ (r q : Bool) (z : Int) : Int := if (r && q) = true then z else 0
def opE (r q : Bool) : Int := if (r && q) = true then 0 else 1
def opD (r q : Bool) (y z : Int) : Int := if (r && q) = true then (if y = 0 then 0 else z) else 0
def opDE (r q : Bool) (y : Int) : Int := if (r && q) = true then (if y = 0 then 15 else 0) else 1
def intZ (r : Bool) (x : Int) : Int := if r = true ∧ -9223372036854775808 ≤ x ∧ x ≤ 9223372036854775807 then x else 0
def intB (r : Bool) (x : Int) : Bool := r && decide (-9223372036854775808 ≤ x ∧ x ≤ 9223372036854775807)
theorem intRes_is (x : Int) : intRes x = .tuple #[.int .i64 (intZ true x), .bool (intB true x)] := by
  unfold intRes intZ intB
  by_cases h : -9223372036854775808 ≤ x ∧ x ≤ 9223372036854775807
  · rw [if_pos h, if_pos ⟨rfl, h⟩, decide_eq_true h]; rfl
  · rw [if_neg h, if_neg (fun h' => h h'.2), decide_eq_false h]; rfl
theorem opZ_sz {r q : Bool} {z : Int} {n : Nat} (h : Sz z n) : Sz (opZ r q z) n := by
  unfold opZ; split
  · exact h
  · show (digs 0).length ≤ n; simp [digs_zero]
theorem opD_sz {r q : Bool} {y z : Int} {n : Nat} (h : y ≠ 0 → Sz z n) : Sz (opD r q y z) n := by
  unfold opD; split
  · split
    · show (digs 0).length ≤ n; simp [digs_zero]
    · rename_i h0; exact h h0
  · show (digs 0).length ≤ n; simp [digs_zero]
theorem zR_sz {G : Nat} {w : World} {a : Option Addr} {n c k : Nat} {s : Int} {l : List Int} (h : RB G w a n c s l) (hn : n ≤ k) : Sz (zR s l) k := by
 cases hr : rightB s l with
 | true => exact Nat.le_trans (Nat.le_of_eq (h.bd hr).2.1.symm) hn
 | false => unfold zR; rw [hr]; show (digs 0).length ≤ k; simp [digs_zero]
theorem rb_sz {z : Int} {n k : Nat} (h : n = Go.Proofs.YtlinegodpoihoaaGreatDoor.ln z) (hn : n ≤ k) : Sz z k := by show Go.Proofs.YtlinegodpoihoaaGreatDoor.ln z ≤ k; omega
theorem bAdd_u {s t z er : Int} {n k : Nat} {a1 a2 : Option Addr} {c1 c2 : Nat} {l m : List Int} {w : World} (h1 : RB G w a1 n c1 s l) (h2 : RB G w a2 k c2 t m) (hn : n ≤ 549755813888) (hk : k ≤ 549755813888) (hz : opZ (rightB s l) (rightB t m) ((zR s l) + (zR t m)) = z) (he : opE (rightB s l) (rightB t m) = er) :
  Calls Tryz.prog 6 #[.agg #[.int .i64 s, .slice a1 n c1], .agg #[.int .i64 t, .slice a2 k c2]] w fun e w' => ∃ a c, e = .returned (.tuple #[.agg #[.int .i64 (sg z), .slice a (ln z) c], .int .i64 er]) ∧ BD G w' a c z ∧ Below w.heap.size w w' := by
 cases hr : rightB s l with
 | false =>
  rw [hr] at hz he
  obtain rfl : (0 : Int) = z := hz
  obtain rfl : (1 : Int) = er := he
  refine (bAdd_n1 h1.rd (Nat.le_trans hn (by decide)) hr).mono fun e w' ⟨he, hb⟩ => ?_
  exact ⟨none, 0, he, bd_zero _ _ _, hb⟩
 | true =>
  cases hq : rightB t m with
  | false =>
   rw [hr, hq] at hz he
   obtain rfl : (0 : Int) = z := hz
   obtain rfl : (1 : Int) = er := he
   refine (bAdd_n2 h1.rd (Nat.le_trans hn (by decide)) hr h2.rd (Nat.le_trans hk (by decide)) hq).mono fun e w' ⟨he, hb⟩ => ?_
   exact ⟨none, 0, he, bd_zero _ _ _, hb⟩
  | true =>
   obtain ⟨e1, e2, b1⟩ := h1.bd hr
   obtain ⟨e3, e4, b2⟩ := h2.bd hq
   rw [hr, hq] at hz he
   clear h1 h2
   obtain ⟨x, hx⟩ : ∃ x, zR s l = x := ⟨_, rfl⟩
   obtain ⟨y, hy⟩ : ∃ y, zR t m = y := ⟨_, rfl⟩
   rw [hx] at e1 e2 b1 hz
   rw [hy] at e3 e4 b2 hz
   clear hx hy hr hq
   subst e1 e2 e3 e4
   obtain rfl : (0 : Int) = er := he
   obtain rfl : x + y = z := hz
   have := bigAdd_ok b1 b2 (rb_sz rfl hn) (rb_sz rfl hk)
   exact this
theorem bMul_u {s t z er : Int} {n k : Nat} {a1 a2 : Option Addr} {c1 c2 : Nat} {l m : List Int} {w : World} (h1 : RB G w a1 n c1 s l) (h2 : RB G w a2 k c2 t m) (hn : n ≤ 549755813888) (hk : k ≤ 549755813888) (hz : opZ (rightB s l) (rightB t m) ((zR s l) * (zR t m)) = z) (he : opE (rightB s l) (rightB t m) = er) :
  Calls Tryz.prog 10 #[.agg #[.int .i64 s, .slice a1 n c1], .agg #[.int .i64 t, .slice a2 k c2]] w fun e w' => ∃ a c, e = .returned (.tuple #[.agg #[.int .i64 (sg z), .slice a (ln z) c], .int .i64 er]) ∧ BD G w' a c z ∧ Below w.heap.size w w' := by
 cases hr : rightB s l with
 | false =>
  rw [hr] at hz he
  obtain rfl : (0 : Int) = z := hz
  obtain rfl : (1 : Int) = er := he
  refine (bMul_n1 h1.rd (Nat.le_trans hn (by decide)) hr).mono fun e w' ⟨he, hb⟩ => ?_
  exact ⟨none, 0, he, bd_zero _ _ _, hb⟩
 | true =>
  cases hq : rightB t m with
  | false =>
   rw [hr, hq] at hz he
   obtain rfl : (0 : Int) = z := hz
   obtain rfl : (1 : Int) = er := he
   refine (bMul_n2 h1.rd (Nat.le_trans hn (by decide)) hr h2.rd (Nat.le_trans hk (by decide)) hq).mono fun e w' ⟨he, hb⟩ => ?_
   exact ⟨none, 0, he, bd_zero _ _ _, hb⟩
  | true =>
   obtain ⟨e1, e2, b1⟩ := h1.bd hr
   obtain ⟨e3, e4, b2⟩ := h2.bd hq
   rw [hr, hq] at hz he
   clear h1 h2
   obtain ⟨x, hx⟩ : ∃ x, zR s l = x := ⟨_, rfl⟩
   obtain ⟨y, hy⟩ : ∃ y, zR t m = y := ⟨_, rfl⟩
   rw [hx] at e1 e2 b1 hz
   rw [hy] at e3 e4 b2 hz
   clear hx hy hr hq
   subst e1 e2 e3 e4
   obtain rfl : (0 : Int) = er := he
   obtain rfl : x * y = z := hz
   have := bigMul_ok b1 b2 (rb_sz rfl hn) (rb_sz rfl hk)
   exact this
theorem bGcd_u {s t z er : Int} {n k : Nat} {a1 a2 : Option Addr} {c1 c2 : Nat} {l m : List Int} {w : World} (h1 : RB G w a1 n c1 s l) (h2 : RB G w a2 k c2 t m) (hn : n ≤ 549755813888) (hk : k ≤ 549755813888) (hz : opZ (rightB s l) (rightB t m) (((Nat.gcd ((zR s l)).natAbs ((zR t m)).natAbs : Nat) : Int)) = z) (he : opE (rightB s l) (rightB t m) = er) :
  Calls Tryz.prog 19 #[.agg #[.int .i64 s, .slice a1 n c1], .agg #[.int .i64 t, .slice a2 k c2]] w fun e w' => ∃ a c, e = .returned (.tuple #[.agg #[.int .i64 (sg z), .slice a (ln z) c], .int .i64 er]) ∧ BD G w' a c z ∧ Below w.heap.size w w' := by
 cases hr : rightB s l with
 | false =>
  rw [hr] at hz he
  obtain rfl : (0 : Int) = z := hz
  obtain rfl : (1 : Int) = er := he
  refine (bGcd_n1 h1.rd (Nat.le_trans hn (by decide)) hr).mono fun e w' ⟨he, hb⟩ => ?_
  exact ⟨none, 0, he, bd_zero _ _ _, hb⟩
 | true =>
  cases hq : rightB t m with
  | false =>
   rw [hr, hq] at hz he
   obtain rfl : (0 : Int) = z := hz
   obtain rfl : (1 : Int) = er := he
   refine (bGcd_n2 h1.rd (Nat.le_trans hn (by decide)) hr h2.rd (Nat.le_trans hk (by decide)) hq).mono fun e w' ⟨he, hb⟩ => ?_
   exact ⟨none, 0, he, bd_zero _ _ _, hb⟩
  | true =>
   obtain ⟨e1, e2, b1⟩ := h1.bd hr
   obtain ⟨e3, e4, b2⟩ := h2.bd hq
   rw [hr, hq] at hz he
   clear h1 h2
   obtain ⟨x, hx⟩ : ∃ x, zR s l = x := ⟨_, rfl⟩
   obtain ⟨y, hy⟩ : ∃ y, zR t m = y := ⟨_, rfl⟩
   rw [hx] at e1 e2 b1 hz
   rw [hy] at e3 e4 b2 hz
   clear hx hy hr hq
   subst e1 e2 e3 e4
   obtain rfl : (0 : Int) = er := he
   obtain rfl : ((Nat.gcd (x).natAbs (y).natAbs : Nat) : Int) = z := hz
   have := bigGcd_ok b1 b2 (rb_sz rfl hn) (rb_sz rfl hk)
   exact this
theorem rAdd_u {s t z er : Int} {n k : Nat} {a1 a2 : Option Addr} {c1 c2 : Nat} {l m : List Int} {w : World} (h1 : RB G w a1 n c1 s l) (h2 : RB G w a2 k c2 t m) (hn : n ≤ 549755813888) (hk : k ≤ 549755813888) (hz : opZ (rightB s l) (rightB t m) ((zR s l) + (zR t m)) = z) (he : opE (rightB s l) (rightB t m) = er) :
  Calls Tryz.prog 7 #[.agg #[.int .i64 s, .slice a1 n c1], .agg #[.int .i64 t, .slice a2 k c2]] w fun e w' => ∃ a c, e = .returned (.tuple #[.agg #[.int .i64 (sg z), .slice a (ln z) c], .int .i64 er]) ∧ BD G w' a c z ∧ Below w.heap.size w w' := by
 cases hr : rightB s l with
 | false =>
  rw [hr] at hz he
  obtain rfl : (0 : Int) = z := hz
  obtain rfl : (1 : Int) = er := he
  refine (rAdd_n1 h1.rd (Nat.le_trans hn (by decide)) hr).mono fun e w' ⟨he, hb⟩ => ?_
  exact ⟨none, 0, he, bd_zero _ _ _, hb⟩
 | true =>
  cases hq : rightB t m with
  | false =>
   rw [hr, hq] at hz he
   obtain rfl : (0 : Int) = z := hz
   obtain rfl : (1 : Int) = er := he
   refine (rAdd_n2 h1.rd (Nat.le_trans hn (by decide)) hr h2.rd (Nat.le_trans hk (by decide)) hq).mono fun e w' ⟨he, hb⟩ => ?_
   exact ⟨none, 0, he, bd_zero _ _ _, hb⟩
  | true =>
   obtain ⟨e1, e2, b1⟩ := h1.bd hr
   obtain ⟨e3, e4, b2⟩ := h2.bd hq
   rw [hr, hq] at hz he
   clear h1 h2
   obtain ⟨x, hx⟩ : ∃ x, zR s l = x := ⟨_, rfl⟩
   obtain ⟨y, hy⟩ : ∃ y, zR t m = y := ⟨_, rfl⟩
   rw [hx] at e1 e2 b1 hz
   rw [hy] at e3 e4 b2 hz
   clear hx hy hr hq
   subst e1 e2 e3 e4
   obtain rfl : (0 : Int) = er := he
   obtain rfl : x + y = z := hz
   have := radd_ok b1 b2 (rb_sz rfl hn) (rb_sz rfl hk)
   exact this
theorem rMul_u {s t z er : Int} {n k : Nat} {a1 a2 : Option Addr} {c1 c2 : Nat} {l m : List Int} {w : World} (h1 : RB G w a1 n c1 s l) (h2 : RB G w a2 k c2 t m) (hn : n ≤ 549755813888) (hk : k ≤ 549755813888) (hz : opZ (rightB s l) (rightB t m) ((zR s l) * (zR t m)) = z) (he : opE (rightB s l) (rightB t m) = er) :
  Calls Tryz.prog 11 #[.agg #[.int .i64 s, .slice a1 n c1], .agg #[.int .i64 t, .slice a2 k c2]] w fun e w' => ∃ a c, e = .returned (.tuple #[.agg #[.int .i64 (sg z), .slice a (ln z) c], .int .i64 er]) ∧ BD G w' a c z ∧ Below w.heap.size w w' := by
 cases hr : rightB s l with
 | false =>
  rw [hr] at hz he
  obtain rfl : (0 : Int) = z := hz
  obtain rfl : (1 : Int) = er := he
  refine (rMul_n1 h1.rd (Nat.le_trans hn (by decide)) hr).mono fun e w' ⟨he, hb⟩ => ?_
  exact ⟨none, 0, he, bd_zero _ _ _, hb⟩
 | true =>
  cases hq : rightB t m with
  | false =>
   rw [hr, hq] at hz he
   obtain rfl : (0 : Int) = z := hz
   obtain rfl : (1 : Int) = er := he
   refine (rMul_n2 h1.rd (Nat.le_trans hn (by decide)) hr h2.rd (Nat.le_trans hk (by decide)) hq).mono fun e w' ⟨he, hb⟩ => ?_
   exact ⟨none, 0, he, bd_zero _ _ _, hb⟩
  | true =>
   obtain ⟨e1, e2, b1⟩ := h1.bd hr
   obtain ⟨e3, e4, b2⟩ := h2.bd hq
   rw [hr, hq] at hz he
   clear h1 h2
   obtain ⟨x, hx⟩ : ∃ x, zR s l = x := ⟨_, rfl⟩
   obtain ⟨y, hy⟩ : ∃ y, zR t m = y := ⟨_, rfl⟩
   rw [hx] at e1 e2 b1 hz
   rw [hy] at e3 e4 b2 hz
   clear hx hy hr hq
   subst e1 e2 e3 e4
   obtain rfl : (0 : Int) = er := he
   obtain rfl : x * y = z := hz
   have := rmul_ok b1 b2 (rb_sz rfl hn) (rb_sz rfl hk)
   exact this
theorem rGcd_u {s t z er : Int} {n k : Nat} {a1 a2 : Option Addr} {c1 c2 : Nat} {l m : List Int} {w : World} (h1 : RB G w a1 n c1 s l) (h2 : RB G w a2 k c2 t m) (hn : n ≤ 549755813888) (hk : k ≤ 549755813888) (hz : opZ (rightB s l) (rightB t m) (((Nat.gcd ((zR s l)).natAbs ((zR t m)).natAbs : Nat) : Int)) = z) (he : opE (rightB s l) (rightB t m) = er) :
  Calls Tryz.prog 20 #[.agg #[.int .i64 s, .slice a1 n c1], .agg #[.int .i64 t, .slice a2 k c2]] w fun e w' => ∃ a c, e = .returned (.tuple #[.agg #[.int .i64 (sg z), .slice a (ln z) c], .int .i64 er]) ∧ BD G w' a c z ∧ Below w.heap.size w w' := by
 cases hr : rightB s l with
 | false =>
  rw [hr] at hz he
  obtain rfl : (0 : Int) = z := hz
  obtain rfl : (1 : Int) = er := he
  refine (rGcd_n1 h1.rd (Nat.le_trans hn (by decide)) hr).mono fun e w' ⟨he, hb⟩ => ?_
  exact ⟨none, 0, he, bd_zero _ _ _, hb⟩
 | true =>
  cases hq : rightB t m with
  | false =>
   rw [hr, hq] at hz he
   obtain rfl : (0 : Int) = z := hz
   obtain rfl : (1 : Int) = er := he
   refine (rGcd_n2 h1.rd (Nat.le_trans hn (by decide)) hr h2.rd (Nat.le_trans hk (by decide)) hq).mono fun e w' ⟨he, hb⟩ => ?_
   exact ⟨none, 0, he, bd_zero _ _ _, hb⟩
  | true =>
   obtain ⟨e1, e2, b1⟩ := h1.bd hr
   obtain ⟨e3, e4, b2⟩ := h2.bd hq
   rw [hr, hq] at hz he
   clear h1 h2
   obtain ⟨x, hx⟩ : ∃ x, zR s l = x := ⟨_, rfl⟩
   obtain ⟨y, hy⟩ : ∃ y, zR t m = y := ⟨_, rfl⟩
   rw [hx] at e1 e2 b1 hz
   rw [hy] at e3 e4 b2 hz
   clear hx hy hr hq
   subst e1 e2 e3 e4
   obtain rfl : (0 : Int) = er := he
   obtain rfl : ((Nat.gcd (x).natAbs (y).natAbs : Nat) : Int) = z := hz
   have := rgcd_ok b1 b2 (rb_sz rfl hn) (rb_sz rfl hk)
   exact this
theorem bSub_u {s t z er : Int} {n k : Nat} {a1 a2 : Option Addr} {c1 c2 : Nat} {l m : List Int} {w : World} (hG : G ≤ w.heap.size) (h1 : RB G w a1 n c1 s l) (h2 : RB G w a2 k c2 t m) (hn : n ≤ 549755813888) (hk : k ≤ 549755813888) (hz : opZ (rightB s l) (rightB t m) (zR s l - zR t m) = z) (he : opE (rightB s l) (rightB t m) = er) :
  Calls Tryz.prog 8 #[.agg #[.int .i64 s, .slice a1 n c1], .agg #[.int .i64 t, .slice a2 k c2]] w fun e w' => ∃ a c, e = .returned (.tuple #[.agg #[.int .i64 (sg z), .slice a (ln z) c], .int .i64 er]) ∧ BD G w' a c z ∧ Below w.heap.size w w' := by
 cases hr : rightB s l with
 | false =>
  rw [hr] at hz he
  obtain rfl : (0 : Int) = z := hz
  obtain rfl : (1 : Int) = er := he
  cases hq : rightB t m with
  | false =>
   refine (bSub_n3 (s := s) (a1 := a1) (n := n) (c1 := c1) h2.rd (Nat.le_trans hk (by decide)) hq).mono fun e w' ⟨he, hb⟩ => ?_
   exact ⟨none, 0, he, bd_zero _ _ _, hb⟩
  | true =>
   obtain ⟨e3, e4, b2⟩ := h2.bd hq
   obtain ⟨y, hy⟩ : ∃ y, zR t m = y := ⟨_, rfl⟩
   rw [hy] at e3 e4 b2
   clear hy hq h2
   subst e3 e4
   refine (bSub_n4 hG h1.rd (Nat.le_trans hn (by decide)) hr b2 (rb_sz rfl hk)).mono fun e w' ⟨he, hb⟩ => ?_
   exact ⟨none, 0, he, bd_zero _ _ _, hb⟩
 | true =>
  cases hq : rightB t m with
  | false =>
   rw [hr, hq] at hz he
   obtain rfl : (0 : Int) = z := hz
   obtain rfl : (1 : Int) = er := he
   refine (bSub_n3 (s := s) (a1 := a1) (n := n) (c1 := c1) h2.rd (Nat.le_trans hk (by decide)) hq).mono fun e w' ⟨he, hb⟩ => ?_
   exact ⟨none, 0, he, bd_zero _ _ _, hb⟩
  | true =>
   obtain ⟨e1, e2, b1⟩ := h1.bd hr
   obtain ⟨e3, e4, b2⟩ := h2.bd hq
   rw [hr, hq] at hz he
   clear h1 h2
   obtain ⟨x, hx⟩ : ∃ x, zR s l = x := ⟨_, rfl⟩
   obtain ⟨y, hy⟩ : ∃ y, zR t m = y := ⟨_, rfl⟩
   rw [hx] at e1 e2 b1 hz
   rw [hy] at e3 e4 b2 hz
   clear hx hy hr hq
   subst e1 e2 e3 e4
   obtain rfl : (0 : Int) = er := he
   obtain rfl : x - y = z := hz
   have := bigSub_ok b1 b2 hG (rb_sz rfl hn) (rb_sz rfl hk)
   exact this
theorem bDiv_u {s t z v er : Int} {n k : Nat} {a1 a2 : Option Addr} {c1 c2 : Nat} {l m : List Int} {w : World} (hG : G ≤ w.heap.size) (h1 : RB G w a1 n c1 s l) (h2 : RB G w a2 k c2 t m) (hn : n ≤ 549755813888) (hk : k ≤ 549755813888) (hz : opD (rightB s l) (rightB t m) (zR t m) (dv (zR s l) (zR t m)) = z) (hv : opD (rightB s l) (rightB t m) (zR t m) (md (zR s l) (zR t m)) = v) (he : opDE (rightB s l) (rightB t m) (zR t m) = er) :
    Calls Tryz.prog 13 #[.agg #[.int .i64 s, .slice a1 n c1], .agg #[.int .i64 t, .slice a2 k c2]] w fun e w' => ∃ a c b d, e = .returned (.tuple #[.agg #[.int .i64 (sg z), .slice a (ln z) c], .agg #[.int .i64 (sg v), .slice b (ln v) d], .int .i64 er]) ∧ BD G w' a c z ∧ BD G w' b d v ∧ Below w.heap.size w w' := by
  cases hr : rightB s l with
  | false =>
    rw [hr] at hz hv he
    obtain rfl : (0 : Int) = z := hz
    obtain rfl : (0 : Int) = v := hv
    obtain rfl : (1 : Int) = er := he
    refine (bDiv_n1 h1.rd (Nat.le_trans hn (by decide)) hr).mono fun e w' ⟨he, hb⟩ => ?_
    exact ⟨none, 0, none, 0, he, bd_zero _ _ _, bd_zero _ _ _, hb⟩
  | true =>
    cases hq : rightB t m with
    | false =>
      rw [hr, hq] at hz hv he
      obtain rfl : (0 : Int) = z := hz
      obtain rfl : (0 : Int) = v := hv
      obtain rfl : (1 : Int) = er := he
      refine (bDiv_n2 h1.rd (Nat.le_trans hn (by decide)) hr h2.rd (Nat.le_trans hk (by decide)) hq).mono fun e w' ⟨he, hb⟩ => ?_
      exact ⟨none, 0, none, 0, he, bd_zero _ _ _, bd_zero _ _ _, hb⟩
    | true =>
      obtain ⟨e1, e2, b1⟩ := h1.bd hr
      obtain ⟨e3, e4, b2⟩ := h2.bd hq
      rw [hr, hq] at hz hv he
      clear h1 h2
      obtain ⟨x, hx⟩ : ∃ x, zR s l = x := ⟨_, rfl⟩
      obtain ⟨y, hy⟩ : ∃ y, zR t m = y := ⟨_, rfl⟩
      rw [hx] at e1 e2 b1 hz hv
      rw [hy] at e3 e4 b2 hz hv he
      clear hx hy hr hq
      subst e1 e2 e3 e4
      by_cases hy0 : y = 0
      · subst hy0
        obtain rfl : (15 : Int) = er := he
        obtain rfl : (0 : Int) = z := hz
        obtain rfl : (0 : Int) = v := hv
        refine (bDiv_z hG b1 b2 (rb_sz rfl hn) (rb_sz rfl hk) rfl).mono fun e w' ⟨he, hb⟩ => ?_
        exact ⟨none, 0, none, 0, he, bd_zero _ _ _, bd_zero _ _ _, hb⟩
      · unfold opD at hz hv; unfold opDE at he
        rw [if_pos (show (true && true) = true from rfl), if_neg hy0] at hz hv he
        obtain rfl : (0 : Int) = er := he
        subst hz hv
        exact bigDiv_ok b1 b2 (rb_sz rfl hn) (rb_sz rfl hk) hy0
theorem bCompare_u {s t z : Int} {n k : Nat} {a1 a2 : Option Addr} {c1 c2 : Nat} {l m : List Int} {w : World} (h1 : RB G w a1 n c1 s l) (h2 : RB G w a2 k c2 t m) (hn : n ≤ 549755813888) (hk : k ≤ 549755813888) (hz : opZ (rightB s l) (rightB t m) (ord (zR s l) (zR t m)) = z) :
  Calls Tryz.prog 23 #[.agg #[.int .i64 s, .slice a1 n c1], .agg #[.int .i64 t, .slice a2 k c2]] w fun e w' => e = .returned (.int .i64 z) ∧ Below w.heap.size w w' := by
 cases hr : rightB s l with
 | false =>
  rw [hr] at hz
  obtain rfl : (0 : Int) = z := hz
  refine (bCompare_n1 h1.rd (Nat.le_trans hn (by decide)) hr).mono fun e w' ⟨he, hb⟩ => ?_
  exact ⟨he, hb⟩
 | true =>
  cases hq : rightB t m with
  | false =>
   rw [hr, hq] at hz
   obtain rfl : (0 : Int) = z := hz
   refine (bCompare_n2 h1.rd (Nat.le_trans hn (by decide)) hr h2.rd (Nat.le_trans hk (by decide)) hq).mono fun e w' ⟨he, hb⟩ => ?_
   exact ⟨he, hb⟩
  | true =>
   obtain ⟨e1, e2, b1⟩ := h1.bd hr
   obtain ⟨e3, e4, b2⟩ := h2.bd hq
   rw [hr, hq] at hz
   clear h1 h2
   obtain ⟨x, hx⟩ : ∃ x, zR s l = x := ⟨_, rfl⟩
   obtain ⟨y, hy⟩ : ∃ y, zR t m = y := ⟨_, rfl⟩
   rw [hx] at e1 e2 b1 hz
   rw [hy] at e3 e4 b2 hz
   clear hx hy hr hq
   subst e1 e2 e3 e4
   obtain rfl : ord x y = z := hz
   have := bigCompare_ok b1 b2 (rb_sz rfl hn) (rb_sz rfl hk)
   exact this
theorem bNeg_u {s z : Int} {n : Nat} {a1 : Option Addr} {c1 : Nat} {l : List Int} {w : World} (h1 : RB G w a1 n c1 s l) (hn : n ≤ 549755813888) (hz : -zR s l = z) :
  Calls Tryz.prog 28 #[.agg #[.int .i64 s, .slice a1 n c1]] w fun e w' => ∃ a c, e = .returned (.agg #[.int .i64 (sg z), .slice a (ln z) c]) ∧ BD G w' a c z ∧ Below w.heap.size w w' := by
 cases hr : rightB s l with
 | false =>
  have hz0 : zR s l = 0 := by unfold zR; rw [hr]; rfl
  rw [hz0] at hz
  obtain rfl : (0 : Int) = z := hz
  refine (bNeg_n h1.rd (Nat.le_trans hn (by decide)) hr).mono fun e w' ⟨he, hb⟩ => ?_
  exact ⟨none, 0, he, bd_zero _ _ _, hb⟩
 | true =>
  obtain ⟨e1, e2, b1⟩ := h1.bd hr
  clear h1
  obtain ⟨x, hx⟩ : ∃ x, zR s l = x := ⟨_, rfl⟩
  rw [hx] at e1 e2 b1 hz
  subst e1 e2
  subst hz
  exact bigNeg_ok b1 (rb_sz rfl hn)
theorem bInt_u {s z : Int} {q : Bool} {n : Nat} {a1 : Option Addr} {c1 : Nat} {l : List Int} {w : World} (h1 : RB G w a1 n c1 s l) (hn : n ≤ 549755813888) (hz : intZ (rightB s l) (zR s l) = z) (hq : intB (rightB s l) (zR s l) = q) :
  Calls Tryz.prog 15 #[.agg #[.int .i64 s, .slice a1 n c1]] w fun e w' => e = .returned (.tuple #[.int .i64 z, .bool q]) ∧ Below w.heap.size w w' := by
 cases hr : rightB s l with
 | false =>
  rw [hr] at hz hq
  obtain rfl : (0 : Int) = z := by rw [← hz]; unfold intZ; rw [if_neg (fun h => by cases h.1)]
  obtain rfl : false = q := hq
  refine (bInt_n h1.rd (Nat.le_trans hn (by decide)) hr).mono fun e w' ⟨he, hb⟩ => ?_
  exact ⟨he, hb⟩
 | true =>
  obtain ⟨e1, e2, b1⟩ := h1.bd hr
  clear h1
  obtain ⟨x, hx⟩ : ∃ x, zR s l = x := ⟨_, rfl⟩
  rw [hx] at e1 e2 b1 hz hq
  rw [hr] at hz hq
  subst e1 e2
  subst hz hq
  have := bigInt_ok b1 (rb_sz rfl (Nat.le_trans hn (by decide)))
  rw [intRes_is] at this
  exact this
theorem bText_u {s : Int} {z : List UInt8} {n : Nat} {a1 : Option Addr} {c1 : Nat} {l : List Int} {w : World} (h1 : RB G w a1 n c1 s l) (hn : n ≤ 1000000) (ht : Tab w) (hz : (if rightB s l = true then textZ (zR s l) else []) = z) :
  Calls Tryz.prog 26 #[.agg #[.int .i64 s, .slice a1 n c1]] w fun e w' => e = .returned (.string ⟨z.toArray⟩) ∧ Below w.heap.size w w' := by
 cases hr : rightB s l with
 | false =>
  rw [hr] at hz
  obtain rfl : [] = z := hz
  refine (bText_n h1.rd (Nat.le_trans hn (by decide)) hr).mono fun e w' ⟨he, hb⟩ => ?_
  exact ⟨he, hb⟩
 | true =>
  obtain ⟨e1, e2, b1⟩ := h1.bd hr
  clear h1
  obtain ⟨x, hx⟩ : ∃ x, zR s l = x := ⟨_, rfl⟩
  rw [hx] at e1 e2 b1 hz
  rw [hr, if_pos rfl] at hz
  subst e1 e2
  subst hz
  exact bigText_ok b1 (rb_sz rfl (Nat.le_trans hn (by decide))) ht
theorem rSub_u {s t z er : Int} {n k : Nat} {a1 a2 : Option Addr} {c1 c2 : Nat} {l m : List Int} {w : World} (hG : G ≤ w.heap.size) (h1 : RB G w a1 n c1 s l) (h2 : RB G w a2 k c2 t m) (hn : n ≤ 549755813888) (hk : k ≤ 549755813888) (hz : opZ (rightB s l) (rightB t m) (zR s l - zR t m) = z) (he : opE (rightB s l) (rightB t m) = er) :
  Calls Tryz.prog 9 #[.agg #[.int .i64 s, .slice a1 n c1], .agg #[.int .i64 t, .slice a2 k c2]] w fun e w' => ∃ a c, e = .returned (.tuple #[.agg #[.int .i64 (sg z), .slice a (ln z) c], .int .i64 er]) ∧ BD G w' a c z ∧ Below w.heap.size w w' := by
 cases hr : rightB s l with
 | false =>
  rw [hr] at hz he
  obtain rfl : (0 : Int) = z := hz
  obtain rfl : (1 : Int) = er := he
  cases hq : rightB t m with
  | false =>
   refine (rSub_n3 (s := s) (a1 := a1) (n := n) (c1 := c1) h2.rd (Nat.le_trans hk (by decide)) hq).mono fun e w' ⟨he, hb⟩ => ?_
   exact ⟨none, 0, he, bd_zero _ _ _, hb⟩
  | true =>
   obtain ⟨e3, e4, b2⟩ := h2.bd hq
   obtain ⟨y, hy⟩ : ∃ y, zR t m = y := ⟨_, rfl⟩
   rw [hy] at e3 e4 b2
   clear hy hq h2
   subst e3 e4
   refine (rSub_n4 hG h1.rd (Nat.le_trans hn (by decide)) hr b2 (rb_sz rfl hk)).mono fun e w' ⟨he, hb⟩ => ?_
   exact ⟨none, 0, he, bd_zero _ _ _, hb⟩
 | true =>
  cases hq : rightB t m with
  | false =>
   rw [hr, hq] at hz he
   obtain rfl : (0 : Int) = z := hz
   obtain rfl : (1 : Int) = er := he
   refine (rSub_n3 (s := s) (a1 := a1) (n := n) (c1 := c1) h2.rd (Nat.le_trans hk (by decide)) hq).mono fun e w' ⟨he, hb⟩ => ?_
   exact ⟨none, 0, he, bd_zero _ _ _, hb⟩
  | true =>
   obtain ⟨e1, e2, b1⟩ := h1.bd hr
   obtain ⟨e3, e4, b2⟩ := h2.bd hq
   rw [hr, hq] at hz he
   clear h1 h2
   obtain ⟨x, hx⟩ : ∃ x, zR s l = x := ⟨_, rfl⟩
   obtain ⟨y, hy⟩ : ∃ y, zR t m = y := ⟨_, rfl⟩
   rw [hx] at e1 e2 b1 hz
   rw [hy] at e3 e4 b2 hz
   clear hx hy hr hq
   subst e1 e2 e3 e4
   obtain rfl : (0 : Int) = er := he
   obtain rfl : x - y = z := hz
   have := rsub_ok b1 b2 (rb_sz rfl hn) (rb_sz rfl hk)
   exact this
theorem rDiv_u {s t z v er : Int} {n k : Nat} {a1 a2 : Option Addr} {c1 c2 : Nat} {l m : List Int} {w : World} (hG : G ≤ w.heap.size) (h1 : RB G w a1 n c1 s l) (h2 : RB G w a2 k c2 t m) (hn : n ≤ 549755813888) (hk : k ≤ 549755813888) (hz : opD (rightB s l) (rightB t m) (zR t m) (dv (zR s l) (zR t m)) = z) (hv : opD (rightB s l) (rightB t m) (zR t m) (md (zR s l) (zR t m)) = v) (he : opDE (rightB s l) (rightB t m) (zR t m) = er) :
    Calls Tryz.prog 14 #[.agg #[.int .i64 s, .slice a1 n c1], .agg #[.int .i64 t, .slice a2 k c2]] w fun e w' => ∃ a c b d, e = .returned (.tuple #[.agg #[.int .i64 (sg z), .slice a (ln z) c], .agg #[.int .i64 (sg v), .slice b (ln v) d], .int .i64 er]) ∧ BD G w' a c z ∧ BD G w' b d v ∧ Below w.heap.size w w' := by
  cases hr : rightB s l with
  | false =>
    rw [hr] at hz hv he
    obtain rfl : (0 : Int) = z := hz
    obtain rfl : (0 : Int) = v := hv
    obtain rfl : (1 : Int) = er := he
    refine (rDiv_n1 h1.rd (Nat.le_trans hn (by decide)) hr).mono fun e w' ⟨he, hb⟩ => ?_
    exact ⟨none, 0, none, 0, he, bd_zero _ _ _, bd_zero _ _ _, hb⟩
  | true =>
    cases hq : rightB t m with
    | false =>
      rw [hr, hq] at hz hv he
      obtain rfl : (0 : Int) = z := hz
      obtain rfl : (0 : Int) = v := hv
      obtain rfl : (1 : Int) = er := he
      refine (rDiv_n2 h1.rd (Nat.le_trans hn (by decide)) hr h2.rd (Nat.le_trans hk (by decide)) hq).mono fun e w' ⟨he, hb⟩ => ?_
      exact ⟨none, 0, none, 0, he, bd_zero _ _ _, bd_zero _ _ _, hb⟩
    | true =>
      obtain ⟨e1, e2, b1⟩ := h1.bd hr
      obtain ⟨e3, e4, b2⟩ := h2.bd hq
      rw [hr, hq] at hz hv he
      clear h1 h2
      obtain ⟨x, hx⟩ : ∃ x, zR s l = x := ⟨_, rfl⟩
      obtain ⟨y, hy⟩ : ∃ y, zR t m = y := ⟨_, rfl⟩
      rw [hx] at e1 e2 b1 hz hv
      rw [hy] at e3 e4 b2 hz hv he
      clear hx hy hr hq
      subst e1 e2 e3 e4
      by_cases hy0 : y = 0
      · subst hy0
        obtain rfl : (15 : Int) = er := he
        obtain rfl : (0 : Int) = z := hz
        obtain rfl : (0 : Int) = v := hv
        refine (rDiv_z hG b1 b2 (rb_sz rfl hn) (rb_sz rfl hk) rfl).mono fun e w' ⟨he, hb⟩ => ?_
        exact ⟨none, 0, none, 0, he, bd_zero _ _ _, bd_zero _ _ _, hb⟩
      · unfold opD at hz hv; unfold opDE at he
        rw [if_pos (show (true && true) = true from rfl), if_neg hy0] at hz hv he
        obtain rfl : (0 : Int) = er := he
        subst hz hv
        exact rdiv_ok b1 b2 (rb_sz rfl hn) (rb_sz rfl hk) hy0
theorem rCompare_u {s t z : Int} {n k : Nat} {a1 a2 : Option Addr} {c1 c2 : Nat} {l m : List Int} {w : World} (h1 : RB G w a1 n c1 s l) (h2 : RB G w a2 k c2 t m) (hn : n ≤ 549755813888) (hk : k ≤ 549755813888) (hz : opZ (rightB s l) (rightB t m) (ord (zR s l) (zR t m)) = z) :
  Calls Tryz.prog 24 #[.agg #[.int .i64 s, .slice a1 n c1], .agg #[.int .i64 t, .slice a2 k c2]] w fun e w' => e = .returned (.int .i64 z) ∧ Below w.heap.size w w' := by
 cases hr : rightB s l with
 | false =>
  rw [hr] at hz
  obtain rfl : (0 : Int) = z := hz
  refine (rCompare_n1 h1.rd (Nat.le_trans hn (by decide)) hr).mono fun e w' ⟨he, hb⟩ => ?_
  exact ⟨he, hb⟩
 | true =>
  cases hq : rightB t m with
  | false =>
   rw [hr, hq] at hz
   obtain rfl : (0 : Int) = z := hz
   refine (rCompare_n2 h1.rd (Nat.le_trans hn (by decide)) hr h2.rd (Nat.le_trans hk (by decide)) hq).mono fun e w' ⟨he, hb⟩ => ?_
   exact ⟨he, hb⟩
  | true =>
   obtain ⟨e1, e2, b1⟩ := h1.bd hr
   obtain ⟨e3, e4, b2⟩ := h2.bd hq
   rw [hr, hq] at hz
   clear h1 h2
   obtain ⟨x, hx⟩ : ∃ x, zR s l = x := ⟨_, rfl⟩
   obtain ⟨y, hy⟩ : ∃ y, zR t m = y := ⟨_, rfl⟩
   rw [hx] at e1 e2 b1 hz
   rw [hy] at e3 e4 b2 hz
   clear hx hy hr hq
   subst e1 e2 e3 e4
   obtain rfl : ord x y = z := hz
   have := rcompare_ok b1 b2 (rb_sz rfl hn) (rb_sz rfl hk)
   exact this
theorem rNeg_u {s z : Int} {n : Nat} {a1 : Option Addr} {c1 : Nat} {l : List Int} {w : World} (h1 : RB G w a1 n c1 s l) (hn : n ≤ 549755813888) (hz : -zR s l = z) :
  Calls Tryz.prog 29 #[.agg #[.int .i64 s, .slice a1 n c1]] w fun e w' => ∃ a c, e = .returned (.agg #[.int .i64 (sg z), .slice a (ln z) c]) ∧ BD G w' a c z ∧ Below w.heap.size w w' := by
 cases hr : rightB s l with
 | false =>
  have hz0 : zR s l = 0 := by unfold zR; rw [hr]; rfl
  rw [hz0] at hz
  obtain rfl : (0 : Int) = z := hz
  refine (rNeg_n h1.rd (Nat.le_trans hn (by decide)) hr).mono fun e w' ⟨he, hb⟩ => ?_
  exact ⟨none, 0, he, bd_zero _ _ _, hb⟩
 | true =>
  obtain ⟨e1, e2, b1⟩ := h1.bd hr
  clear h1
  obtain ⟨x, hx⟩ : ∃ x, zR s l = x := ⟨_, rfl⟩
  rw [hx] at e1 e2 b1 hz
  subst e1 e2
  subst hz
  exact rneg_ok b1 (rb_sz rfl hn)
theorem rInt_u {s z : Int} {q : Bool} {n : Nat} {a1 : Option Addr} {c1 : Nat} {l : List Int} {w : World} (h1 : RB G w a1 n c1 s l) (hn : n ≤ 549755813888) (hz : intZ (rightB s l) (zR s l) = z) (hq : intB (rightB s l) (zR s l) = q) :
  Calls Tryz.prog 16 #[.agg #[.int .i64 s, .slice a1 n c1]] w fun e w' => e = .returned (.tuple #[.int .i64 z, .bool q]) ∧ Below w.heap.size w w' := by
 cases hr : rightB s l with
 | false =>
  rw [hr] at hz hq
  obtain rfl : (0 : Int) = z := by rw [← hz]; unfold intZ; rw [if_neg (fun h => by cases h.1)]
  obtain rfl : false = q := hq
  refine (rInt_n h1.rd (Nat.le_trans hn (by decide)) hr).mono fun e w' ⟨he, hb⟩ => ?_
  exact ⟨he, hb⟩
 | true =>
  obtain ⟨e1, e2, b1⟩ := h1.bd hr
  clear h1
  obtain ⟨x, hx⟩ : ∃ x, zR s l = x := ⟨_, rfl⟩
  rw [hx] at e1 e2 b1 hz hq
  rw [hr] at hz hq
  subst e1 e2
  subst hz hq
  have := rInt_ok b1 (rb_sz rfl (Nat.le_trans hn (by decide)))
  rw [intRes_is] at this
  exact this
theorem rText_u {s : Int} {z : List UInt8} {n : Nat} {a1 : Option Addr} {c1 : Nat} {l : List Int} {w : World} (h1 : RB G w a1 n c1 s l) (hn : n ≤ 1000000) (hz : (if rightB s l = true then textZ (zR s l) else []) = z) :
  Calls Tryz.prog 27 #[.agg #[.int .i64 s, .slice a1 n c1]] w fun e w' => e = .returned (.string ⟨z.toArray⟩) ∧ Below w.heap.size w w' := by
 cases hr : rightB s l with
 | false =>
  rw [hr] at hz
  obtain rfl : [] = z := hz
  refine (rText_n h1.rd (Nat.le_trans hn (by decide)) hr).mono fun e w' ⟨he, hb⟩ => ?_
  exact ⟨he, hb⟩
 | true =>
  obtain ⟨e1, e2, b1⟩ := h1.bd hr
  clear h1
  obtain ⟨x, hx⟩ : ∃ x, zR s l = x := ⟨_, rfl⟩
  rw [hx] at e1 e2 b1 hz
  rw [hr, if_pos rfl] at hz
  subst e1 e2
  subst hz
  exact rText_ok b1 (rb_sz rfl (Nat.le_trans hn (by decide)))
end Go.Proofs.YtlinegodpoihoaaGreatDoor
