/- Comparing big integers and fractions, whatever they are. -/
import Derived.Test.YtjbfngjlepafgaaGreatBase
import Derived.Test.YtjbfngjlepafgaaGreatBigSpec
import Derived.Test.YtjbfngjlepafgaaGreatBigA
import Derived.Test.YtjbfngjlepafgaaGreatBigB
import Derived.Test.YtjbfngjlepafgaaGreatBigC
import Derived.Test.YtjbfngjlepafgaaGreatBigD
import Derived.Test.YtjbfngjlepafgaaGreatBigQ
import Derived.Test.YtjbfngjlepafgaaGreatFracA
import Derived.Test.YtjbfngjlepafgaaGreatFz
import Derived.Test.YtjbfngjlepafgaaGreatAw
import Derived.Test.YtjbfngjlepafgaaGreatFracD
import Derived.Test.YtjbfngjlepafgaaGreatRefO
import Derived.Test.YtjbfngjlepafgaaGreatFq
import Derived.Test.YtjbfngjlepafgaaGreatProg
import Derived.Test.YtjbfngjlepafgaaGreatShelf
import Derived.WalkKit
import Derived.WalkSpells
import Derived.WalkLawsBesides
import Derived.Handy
import Derived.Lib.Hide
import Derived.Lib.Strings
import Derived.Lib.Builder
import Derived.BigQuiet
import Derived.OwnWalk
import Derived.Laws.BitsLemmas
import Derived.WalkSmall
import Derived.Deep.QuietTactic
import Derived.StillTailTactics
import Derived.Maps.AppendAt
import Derived.IntWalk
import Derived.Deep.RegionHeld3
import Derived.Deep.DeepFit
import Derived.Deep.LoopGhost
import Derived.Deep.DeepCutAuto
import Derived.Lib.ItoaNum
import Derived.Lib.Repeat
import Derived.Lib.AppendIntMem
import Derived.Sort.OwnSorted
import Derived.Shelf.Strings.SlTrimAscii
import Derived.Lib.ConvBytes
import Derived.Lib.CutLaws
namespace Go.Proofs.YtjbfngjlepafgaaGreat
open Go.RowKit
variable {G : Nat}

instance {w w' : World} {v : Value} {l : List Int} : Goes (RdZ w v l) w w' (RdZ w' v l) := ⟨fun h hb => h.keep hb⟩
set_option maxHeartbeats 8000000 in
theorem samebig_raw {s t : Int} {l m : List Int} {a1 a2 : Option Addr} {c1 c2 : Nat} {w : World} (h1 : RdZ w (.slice a1 l.length c1) l) (h2 : RdZ w (.slice a2 m.length c2) m) (hx : l.length ≤ 1099511627776) (hy : m.length ≤ 1099511627776) :
    Calls Tryz.prog 51 #[.agg #[.int .i64 s, .slice a1 l.length c1], .agg #[.int .i64 t, .slice a2 m.length c2]] w fun e w' => e = .returned (.bool (s == t && l == m)) ∧ Below w.heap.size w w' := by
  have H1 := Lib.hid h1
  have H2 := Lib.hid h2
  clear h1 h2
  go_enter Tryz.func51, Tryz.ntmps51
  by_cases hs : s = t
  · by_cases hl : l.length = m.length
    · have e1 : (s != t) = false := by rw [hs]; simp
      have e2 : ((l.length : Int) != (m.length : Int)) = false := by rw [hl]; simp
      have HS := Lib.hid hs
      have HL := Lib.hid hl
      clear hs hl
      go_wp2_with fail
      obtain ⟨w0, hw0⟩ : ∃ w0, w0 = (w.alloc (.cells #[.int .i64 s, .slice a1 l.length c1] 24)).alloc (.cells #[.int .i64 t, .slice a2 m.length c2] 24) := ⟨_, rfl⟩
      have hbx := bx2 w 24 24 #[.int .i64 s, .slice a1 l.length c1] #[.int .i64 t, .slice a2 m.length c2]
      have HB : Hid (Below w.heap.size w w0) := by show Below _ _ _; rw [hw0]; go_grown
      rw [← hw0] at hbx ⊢
      have K0 := Lib.hid hbx.1
      have K1 := Lib.hid hbx.2
      clear hw0 hbx
      have p1 : w0.cell? ⟨w.heap.size, 1, none⟩ = some (.slice a1 l.length c1) := K0.out.at.1 1
      have p2 : w0.cell? ⟨w.heap.size + 1, 1, none⟩ = some (.slice a2 m.length c2) := K1.out.at.1 1
      go_loopw [5] (fun i wr => ∃ k nd : Nat, k ≤ l.length ∧ i = .int .i64 k ∧ wr = w0.drewN nd ∧ Hid (l.take k = m.take k)) (fun i _ => l.length - (RowKit.intOf i).toNat)
      case atStart => exact ⟨0, 0, Nat.zero_le _, rfl, rfl, rfl⟩
      case round =>
        obtain ⟨k, nd, hk, rfl, rfl, HT⟩ := hrel
        by_cases hlt : k < l.length
        · have hlt2 : k < m.length := by rw [← HL.out]; exact hlt
          obtain ⟨b, off, rfl, hb, hcell⟩ := (H1.out.keep HB.out).at (k := k) hlt
          obtain ⟨b2, off2, rfl, hb2, hcell2⟩ := (H2.out.keep HB.out).at (k := k) hlt2
          obtain ⟨d, hd⟩ : ∃ d, d = l[k]'hlt := ⟨_, rfl⟩
          obtain ⟨d2, hd2⟩ : ∃ d, d = m[k]'hlt2 := ⟨_, rfl⟩
          rw [← hd] at hcell
          rw [← hd2] at hcell2
          have hki : (k : Int) < (l.length : Int) := by omega
          have hki2 : (k : Int) < (m.length : Int) := by omega
          by_cases hdd : d = d2
          · have e3 : (d != d2) = false := by rw [hdd]; simp
            have HT2 : Hid (l.take (k + 1) = m.take (k + 1)) := by
              show _ = _
              rw [List.take_succ_eq_append_getElem hlt, List.take_succ_eq_append_getElem hlt2, HT.out, ← hd, ← hd2, hdd]
            clear hd hd2 hdd
            go_wp2_with fail
            go_quiet (fail)
            go_wp2_with fail
            go_roundw
            case rel => exact ⟨k + 1, _, by omega, by go_num, rfl, HT2⟩
            case measure => simp [RowKit.intOf]; omega
          · have e3 : (d != d2) = true := by rw [bne_iff_ne]; exact hdd
            have HO : Hid ((s == t && l == m) = false) := by
              show _ = _
              have : (l == m) = false := by
                rw [beq_eq_false_iff_ne]
                intro h; subst h; exact hdd (hd.trans hd2.symm)
              rw [this, Bool.and_false]
            clear hd hd2 hdd
            go_wp2_with fail
            go_quiet (fail)
            go_wp2_with fail
            go_ret
            exact ⟨ret_bool HO.out.symm, by first | exact below_drewN HB.out _ | exact below_drewN (below_drewN HB.out _) _⟩
        · have HO : Hid ((s == t && l == m) = true) := by
            show _ = _
            have := HT.out
            rw [List.take_of_length_le (by omega), List.take_of_length_le (by rw [← HL.out]; omega)] at this
            rw [this, HS.out]; simp
          go_wp2_with fail
          go_ret
          exact ⟨ret_bool HO.out.symm, below_drewN HB.out _⟩
    · have HO : Hid ((s == t && l == m) = false) := by
        show _ = _
        have : (l == m) = false := by rw [beq_eq_false_iff_ne]; intro h; exact hl (by rw [h])
        rw [this, Bool.and_false]
      have e1 : (s != t) = false := by rw [hs]; simp
      have e2 : ((l.length : Int) != (m.length : Int)) = true := by rw [bne_iff_ne]; omega
      clear hs hl
      go_wp2_with fail
      go_ret
      exact ⟨ret_bool HO.out.symm, by go_grown⟩
  · have HO : Hid ((s == t && l == m) = false) := by
      show _ = _
      have : (s == t) = false := by rw [beq_eq_false_iff_ne]; exact hs
      rw [this, Bool.false_and]
    have e1 : (s != t) = true := by rw [bne_iff_ne]; exact hs
    clear hs
    go_wp2_with fail
    go_ret
    exact ⟨ret_bool HO.out.symm, by go_grown⟩
theorem sEqual_b {l m : List Int} {a1 a2 : Option Addr} {c1 c2 : Nat} {bd : Bool} {w : World} (h1 : RdZ w (.slice a1 l.length c1) l) (h2 : RdZ w (.slice a2 m.length c2) m) (hx : l.length ≤ 1099511627776) (hy : m.length ≤ 1099511627776) (hd : (l == m) = bd) :
  Calls Tryz.prog 100 #[.slice a1 l.length c1, .slice a2 m.length c2] w fun e w' => e = .returned (.bool bd) ∧ Below w.heap.size w w' := by
 subst hd; exact sEqual_any _ _ l m w h1 h2 hx hy
set_option maxRecDepth 100000 in
set_option maxHeartbeats 4000000 in
theorem bigSame_raw {s t : Int} {l m : List Int} {a1 a2 : Option Addr} {c1 c2 : Nat} {w : World} (h1 : RdZ w (.slice a1 l.length c1) l) (h2 : RdZ w (.slice a2 m.length c2) m) (hx : l.length ≤ 1099511627776) (hy : m.length ≤ 1099511627776)  :
  Calls Tryz.prog 76 #[.agg #[.int .i64 s, .slice a1 l.length c1], .agg #[.int .i64 t, .slice a2 m.length c2]] w fun e w' => e = .returned (.bool (s == t && l == m)) ∧ Below w.heap.size w w' := by
 obtain ⟨bs, hbs⟩ : ∃ b, (s == t) = b := ⟨_, rfl⟩
 obtain ⟨bd, hbd⟩ : ∃ b, (l == m) = b := ⟨_, rfl⟩
 have HR : Hid ((s == t && l == m) = (bs && bd)) := by show _ = _; rw [hbs, hbd]
 have HBD := Lib.hid hbd; have HX := Lib.hid hx; have HY := Lib.hid hy; clear hbd hx hy
 have H1 : Hid (RdZ w (.slice a1 l.length c1) l) := h1
 have H2 : Hid (RdZ w (.slice a2 m.length c2) m) := h2
 clear h1 h2
 have M : Hid (Below w.heap.size w w) := Below.refl _ _
 go_enter Tryz.func76, Tryz.ntmps76
 go_upto_region 1 with fail
 refine nmW ((w.alloc (.cells #[.int .i64 s, .slice a1 l.length c1] 24)).alloc (.cells #[.int .i64 t, .slice a2 m.length c2] 24)) fun w1 hv => ?_
 rw [← hv]
 replace M := al2W hv M
 clear hv
 cases bs with
 | false =>
  refine cj2 (J1 M).1.d2 fun aa ab => ?_
  refine cj2 (M.out.1).d2 fun ac ad => ?_
  go_wp2_with fail
  clear aa ab ac ad
  go_ret
  exact ⟨by rw [HR.out]; cases bd <;> rfl, (J2 M)⟩
 | true =>
  refine cj2 (J1 M).1.d2 fun aa ab => ?_
  refine cj2 (M.out.1).d2 fun ac ad => ?_
  go_wp2_with fail
  clear aa ab ac ad
  refine (sEqual_b (l := l) (m := m) (bd := bd) (H1.out.keep (J2 M)) (H2.out.keep (J2 M)) HX.out HY.out HBD.out).mono ?_
  rintro e w2 ⟨rfl, hb⟩
  replace M := gnM hb M
  clear hb
  go_wp2_with fail
  go_ret
  exact ⟨by rw [HR.out]; cases bd <;> rfl, (J2 M)⟩
/-- Both functions find two big integers the same, or both not. -/
def Sb (w : World) (u0 u1 v0 v1 : Value) (b : Bool) : Prop := ∀ w', Below w.heap.size w w' →
 (Calls Tryz.prog 76 #[.agg #[u0, u1], .agg #[v0, v1]] w' fun e w'' => e = .returned (.bool b) ∧ Below w'.heap.size w' w'') ∧
 (Calls Tryz.prog 51 #[.agg #[u0, u1], .agg #[v0, v1]] w' fun e w'' => e = .returned (.bool b) ∧ Below w'.heap.size w' w'')
theorem Sb.keep {w w' : World} {u0 u1 v0 v1 : Value} {b : Bool} (h : Sb w u0 u1 v0 v1 b) (hb : Below w.heap.size w w') : Sb w' u0 u1 v0 v1 b := fun w'' h2 => h w'' (below_call hb h2)
instance {w w' : World} {u0 u1 v0 v1 : Value} {b : Bool} : Goes (Sb w u0 u1 v0 v1 b) w w' (Sb w' u0 u1 v0 v1 b) := ⟨fun h hb => h.keep hb⟩
theorem sb_of {s t : Int} {l m : List Int} {a1 a2 : Option Addr} {c1 c2 n k : Nat} {w : World} (h1 : RdZ w (.slice a1 n c1) l) (h2 : RdZ w (.slice a2 k c2) m) (hn : l.length = n) (hk : m.length = k) (hx : n ≤ 1099511627776) (hy : k ≤ 1099511627776) : Sb w (.int .i64 s) (.slice a1 n c1) (.int .i64 t) (.slice a2 k c2) (s == t && l == m) := by
 subst hn hk
 exact fun w' hb => ⟨bigSame_raw (h1.keep hb) (h2.keep hb) hx hy, samebig_raw (h1.keep hb) (h2.keep hb) hx hy⟩
theorem bigSame_sb {u0 u1 v0 v1 : Value} {b_ : Bool} {w : World} (h : Sb w u0 u1 v0 v1 b_) :
  Calls Tryz.prog 76 #[.agg #[u0, u1], .agg #[v0, v1]] w fun e w' => e = .returned (.bool b_) ∧ Below w.heap.size w w' := (h w (Below.refl _ _)).1
theorem samebig_sb {u0 u1 v0 v1 : Value} {b_ : Bool} {w : World} (h : Sb w u0 u1 v0 v1 b_) :
  Calls Tryz.prog 51 #[.agg #[u0, u1], .agg #[v0, v1]] w fun e w' => e = .returned (.bool b_) ∧ Below w.heap.size w w' := (h w (Below.refl _ _)).2
set_option maxRecDepth 100000 in
set_option maxHeartbeats 4000000 in
theorem fsame_raw {u0 u1 u2 u3 v0 v1 v2 v3 : Value} {x1 x2 : Bool} {w : World} (h1 : Sb w u0 u1 v0 v1 x1) (h2 : Sb w u2 u3 v2 v3 x2)  :
  Calls Tryz.prog 49 #[.agg #[u0, u1, u2, u3], .agg #[v0, v1, v2, v3]] w fun e w' => e = .returned (.bool (x1 && x2)) ∧ Below w.heap.size w w' := by
 have H1 : Hid (Sb w u0 u1 v0 v1 x1) := h1
 have H2 : Hid (Sb w u2 u3 v2 v3 x2) := h2
 clear h1 h2
 have M : Hid (Below w.heap.size w w) := Below.refl _ _
 go_enter Tryz.func49, Tryz.ntmps49
 go_upto_region 1 with fail
 refine nmW ((w.alloc (.cells #[u0, u1, u2, u3] 26)).alloc (.cells #[v0, v1, v2, v3] 26)) fun w1 hv => ?_
 rw [← hv]
 replace M := al2W hv M
 clear hv
 refine cj4 (J1 M).1.d4 fun aa ab ac ad => ?_
 refine cj4 (M.out.1).d4 fun ae af ag ah => ?_
 go_wp2_with fail
 clear aa ab ac ad ae af ag ah
 refine (bigSame_sb (b_ := x1) (H1.out.keep (J2 M))).mono ?_
 rintro e w2 ⟨rfl, hb⟩
 replace M := gnM hb M
 clear hb
 cases x1 with
 | false =>
  go_wp2_with fail
  go_ret
  exact ⟨rfl, (J2 M)⟩
 | true =>
  refine cj4 (J1 M).1.d4 fun aa ab ac ad => ?_
  refine cj4 (M.out.1).d4 fun ae af ag ah => ?_
  go_wp2_with fail
  clear aa ab ac ad ae af ag ah
  refine (bigSame_sb (b_ := x2) (H2.out.keep (J2 M))).mono ?_
  rintro e w3 ⟨rfl, hb⟩
  replace M := gnM hb M
  clear hb
  go_wp2_with fail
  go_ret
  exact ⟨rfl, (J2 M)⟩
set_option maxRecDepth 100000 in
set_option maxHeartbeats 4000000 in
theorem rfsame_raw {u0 u1 u2 u3 v0 v1 v2 v3 : Value} {x1 x2 : Bool} {w : World} (h1 : Sb w u0 u1 v0 v1 x1) (h2 : Sb w u2 u3 v2 v3 x2)  :
  Calls Tryz.prog 23 #[.agg #[u0, u1, u2, u3], .agg #[v0, v1, v2, v3]] w fun e w' => e = .returned (.bool (x1 && x2)) ∧ Below w.heap.size w w' := by
 have H1 : Hid (Sb w u0 u1 v0 v1 x1) := h1
 have H2 : Hid (Sb w u2 u3 v2 v3 x2) := h2
 clear h1 h2
 have M : Hid (Below w.heap.size w w) := Below.refl _ _
 go_enter Tryz.func23, Tryz.ntmps23
 go_upto_region 1 with fail
 refine nmW ((w.alloc (.cells #[u0, u1, u2, u3] 26)).alloc (.cells #[v0, v1, v2, v3] 26)) fun w1 hv => ?_
 rw [← hv]
 replace M := al2W hv M
 clear hv
 refine cj4 (J1 M).1.d4 fun aa ab ac ad => ?_
 refine cj4 (M.out.1).d4 fun ae af ag ah => ?_
 go_wp2_with fail
 clear aa ab ac ad ae af ag ah
 refine (samebig_sb (b_ := x1) (H1.out.keep (J2 M))).mono ?_
 rintro e w2 ⟨rfl, hb⟩
 replace M := gnM hb M
 clear hb
 cases x1 with
 | false =>
  go_wp2_with fail
  go_ret
  exact ⟨rfl, (J2 M)⟩
 | true =>
  refine cj4 (J1 M).1.d4 fun aa ab ac ad => ?_
  refine cj4 (M.out.1).d4 fun ae af ag ah => ?_
  go_wp2_with fail
  clear aa ab ac ad ae af ag ah
  refine (samebig_sb (b_ := x2) (H2.out.keep (J2 M))).mono ?_
  rintro e w3 ⟨rfl, hb⟩
  replace M := gnM hb M
  clear hb
  go_wp2_with fail
  go_ret
  exact ⟨rfl, (J2 M)⟩
/-- Both functions find two fractions the same, or both not. -/
def Sm (w : World) (u0 u1 u2 u3 v0 v1 v2 v3 : Value) (b : Bool) : Prop := ∀ w', Below w.heap.size w w' →
 (Calls Tryz.prog 49 #[.agg #[u0, u1, u2, u3], .agg #[v0, v1, v2, v3]] w' fun e w'' => e = .returned (.bool b) ∧ Below w'.heap.size w' w'') ∧
 (Calls Tryz.prog 23 #[.agg #[u0, u1, u2, u3], .agg #[v0, v1, v2, v3]] w' fun e w'' => e = .returned (.bool b) ∧ Below w'.heap.size w' w'')
theorem Sm.keep {w w' : World} {u0 u1 u2 u3 v0 v1 v2 v3 : Value} {b : Bool} (h : Sm w u0 u1 u2 u3 v0 v1 v2 v3 b) (hb : Below w.heap.size w w') : Sm w' u0 u1 u2 u3 v0 v1 v2 v3 b := fun w'' h2 => h w'' (below_call hb h2)
instance {w w' : World} {u0 u1 u2 u3 v0 v1 v2 v3 : Value} {b : Bool} : Goes (Sm w u0 u1 u2 u3 v0 v1 v2 v3 b) w w' (Sm w' u0 u1 u2 u3 v0 v1 v2 v3 b) := ⟨fun h hb => h.keep hb⟩
theorem sm_of {w : World} {u0 u1 u2 u3 v0 v1 v2 v3 : Value} {n1 m1 n2 m2 : Nat} {o1 o2 : Option Rat} (h1 : FX w u0 u1 u2 u3 n1 m1 o1) (h2 : FX w v0 v1 v2 v3 n2 m2 o2) (k1 : n1 ≤ 1099511627776 ∧ m1 ≤ 1099511627776) (k2 : n2 ≤ 1099511627776 ∧ m2 ≤ 1099511627776) : ∃ b, Sm w u0 u1 u2 u3 v0 v1 v2 v3 b := by
 obtain ⟨s, a, c, t, b, d, l, k, rfl, rfl, rfl, rfl, rfl, rfl, h6, -⟩ := h1
 obtain ⟨s', a', c', t', b', d', l', k', rfl, rfl, rfl, rfl, rfl, rfl, h6', -⟩ := h2
 have e1 := sb_of (s := s) (t := s') h6.n1 h6'.n1 rfl rfl k1.1 k2.1
 have e2 := sb_of (s := t) (t := t') h6.d1 h6'.d1 rfl rfl k1.2 k2.2
 exact ⟨_, fun w' hb => aI (fsame_raw (e1.keep hb) (e2.keep hb)) (rfsame_raw (e1.keep hb) (e2.keep hb))⟩
theorem fsame_sm {w : World} {u0 u1 u2 u3 v0 v1 v2 v3 : Value} {b_ : Bool} (h : Sm w u0 u1 u2 u3 v0 v1 v2 v3 b_) :
  Calls Tryz.prog 49 #[.agg #[u0, u1, u2, u3], .agg #[v0, v1, v2, v3]] w fun e w' => e = .returned (.bool b_) ∧ Below w.heap.size w w' := (h w (Below.refl _ _)).1
theorem rfsame_sm {w : World} {u0 u1 u2 u3 v0 v1 v2 v3 : Value} {b_ : Bool} (h : Sm w u0 u1 u2 u3 v0 v1 v2 v3 b_) :
  Calls Tryz.prog 23 #[.agg #[u0, u1, u2, u3], .agg #[v0, v1, v2, v3]] w fun e w' => e = .returned (.bool b_) ∧ Below w.heap.size w w' := (h w (Below.refl _ _)).2
end Go.Proofs.YtjbfngjlepafgaaGreat
