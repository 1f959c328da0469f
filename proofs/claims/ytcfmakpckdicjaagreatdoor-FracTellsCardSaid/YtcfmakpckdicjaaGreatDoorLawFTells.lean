/- The walk of FracTells: whatever the arguments, it returns true. -/
import Derived.Test.YtcfmakpckdicjaaGreatDoorBase
import Derived.Test.YtcfmakpckdicjaaGreatDoorBigSpec
import Derived.Test.YtcfmakpckdicjaaGreatDoorBigA
import Derived.Test.YtcfmakpckdicjaaGreatDoorBigB
import Derived.Test.YtcfmakpckdicjaaGreatDoorBigC
import Derived.Test.YtcfmakpckdicjaaGreatDoorBigD
import Derived.Test.YtcfmakpckdicjaaGreatDoorBigK
import Derived.Test.YtcfmakpckdicjaaGreatDoorBigQ
import Derived.Test.YtcfmakpckdicjaaGreatDoorFracA
import Derived.Test.YtcfmakpckdicjaaGreatDoorRefE
import Derived.Test.YtcfmakpckdicjaaGreatDoorRefB5
import Derived.Test.YtcfmakpckdicjaaGreatDoorFz
import Derived.Test.YtcfmakpckdicjaaGreatDoorHeld
import Derived.Test.YtcfmakpckdicjaaGreatDoorAw
import Derived.Test.YtcfmakpckdicjaaGreatDoorFracD
import Derived.Test.YtcfmakpckdicjaaGreatDoorBigRead
import Derived.Test.YtcfmakpckdicjaaGreatDoorRefO
import Derived.Test.YtcfmakpckdicjaaGreatDoorFtX
import Derived.Test.YtcfmakpckdicjaaGreatDoorTelP
import Derived.Test.YtcfmakpckdicjaaGreatDoorTelV
import Derived.Test.YtcfmakpckdicjaaGreatDoorFtU
import Derived.Test.YtcfmakpckdicjaaGreatDoorLaw05a
import Derived.Test.YtcfmakpckdicjaaGreatDoorProg
import Derived.Test.YtcfmakpckdicjaaGreatDoorShelf
import Derived.WalkKit
import Derived.WalkSpells
import Derived.WalkLawsBesides
import Derived.Handy
import Derived.Lib.Hide
import Derived.Lib.Strings
import Derived.Lib.Builder
import Derived.BigQuiet
import Derived.OwnWalk
import Derived.Laws.BitsLemmas
import Derived.WalkSmall
import Derived.Deep.QuietTactic
import Derived.StillTailTactics
import Derived.Maps.AppendAt
import Derived.IntWalk
import Derived.Deep.RegionHeld3
import Derived.Deep.DeepFit
import Derived.Deep.LoopGhost
import Derived.Deep.DeepCutAuto
import Derived.Lib.ItoaNum
import Derived.Lib.Repeat
import Derived.Lib.AppendIntMem
import Derived.Sort.OwnSorted
import Derived.Shelf.Strings.SlTrimAscii
import Derived.Lib.ConvBytes
import Derived.Lib.CutLaws
namespace Go.Proofs.YtcfmakpckdicjaaGreatDoor
open Go.RowKit
variable {G : Nat}

instance {w w' : World} {v : Value} {l : List Int} : Goes (RdZ w v l) w w' (RdZ w' v l) := ⟨fun h hb => h.keep hb⟩
set_option maxRecDepth 100000 in
set_option maxHeartbeats 8000000 in
theorem samebig_raw {s t : Int} {l m : List Int} {a1 a2 : Option Addr} {c1 c2 : Nat} {w : World} (h1 : RdZ w (.slice a1 l.length c1) l) (h2 : RdZ w (.slice a2 m.length c2) m) (hx : l.length ≤ 1099511627776) (hy : m.length ≤ 1099511627776) :
    Calls Tryz.prog 42 #[.agg #[.int .i64 s, .slice a1 l.length c1], .agg #[.int .i64 t, .slice a2 m.length c2]] w fun e w' => e = .returned (.bool (s == t && l == m)) ∧ Below w.heap.size w w' := by
  have H1 := Lib.hid h1
  have H2 := Lib.hid h2
  clear h1 h2
  go_enter Tryz.func42, Tryz.ntmps42
  by_cases hs : s = t
  · by_cases hl : l.length = m.length
    · have e1 : (s != t) = false := by rw [hs]; simp
      have e2 : ((l.length : Int) != (m.length : Int)) = false := by rw [hl]; simp
      have HS := Lib.hid hs
      have HL := Lib.hid hl
      clear hs hl
      go_wp2_with fail
      obtain ⟨w0, hw0⟩ : ∃ w0, w0 = (w.alloc (.cells #[.int .i64 s, .slice a1 l.length c1] 24)).alloc (.cells #[.int .i64 t, .slice a2 m.length c2] 24) := ⟨_, rfl⟩
      have hbx := bx2 w 24 24 #[.int .i64 s, .slice a1 l.length c1] #[.int .i64 t, .slice a2 m.length c2]
      have HB : Hid (Below w.heap.size w w0) := by show Below _ _ _; rw [hw0]; go_grown
      rw [← hw0] at hbx ⊢
      have K0 := Lib.hid hbx.1
      have K1 := Lib.hid hbx.2
      clear hw0 hbx
      have p1 : w0.cell? ⟨w.heap.size, 1, none⟩ = some (.slice a1 l.length c1) := K0.out.at.1 1
      have p2 : w0.cell? ⟨w.heap.size + 1, 1, none⟩ = some (.slice a2 m.length c2) := K1.out.at.1 1
      go_loopw [5] (fun i wr => ∃ k nd : Nat, k ≤ l.length ∧ i = .int .i64 k ∧ wr = w0.drewN nd ∧ Hid (l.take k = m.take k)) (fun i _ => l.length - (RowKit.intOf i).toNat)
      case atStart => exact ⟨0, 0, Nat.zero_le _, rfl, rfl, rfl⟩
      case round =>
        obtain ⟨k, nd, hk, rfl, rfl, HT⟩ := hrel
        by_cases hlt : k < l.length
        · have hlt2 : k < m.length := by rw [← HL.out]; exact hlt
          obtain ⟨b, off, rfl, hb, hcell⟩ := (H1.out.keep HB.out).at (k := k) hlt
          obtain ⟨b2, off2, rfl, hb2, hcell2⟩ := (H2.out.keep HB.out).at (k := k) hlt2
          obtain ⟨d, hd⟩ : ∃ d, d = l[k]'hlt := ⟨_, rfl⟩
          obtain ⟨d2, hd2⟩ : ∃ d, d = m[k]'hlt2 := ⟨_, rfl⟩
          rw [← hd] at hcell
          rw [← hd2] at hcell2
          have hki : (k : Int) < (l.length : Int) := by omega
          have hki2 : (k : Int) < (m.length : Int) := by omega
          by_cases hdd : d = d2
          · have e3 : (d != d2) = false := by rw [hdd]; simp
            have HT2 : Hid (l.take (k + 1) = m.take (k + 1)) := by
              show _ = _
              rw [List.take_succ_eq_append_getElem hlt, List.take_succ_eq_append_getElem hlt2, HT.out, ← hd, ← hd2, hdd]
            clear hd hd2 hdd
            go_wp2_with fail
            go_quiet (fail)
            go_wp2_with fail
            go_roundw
            case rel => exact ⟨k + 1, _, by omega, by go_num, rfl, HT2⟩
            case measure => simp [RowKit.intOf]; omega
          · have e3 : (d != d2) = true := by rw [bne_iff_ne]; exact hdd
            have HO : Hid ((s == t && l == m) = false) := by
              show _ = _
              have : (l == m) = false := by
                rw [beq_eq_false_iff_ne]
                intro h; subst h; exact hdd (hd.trans hd2.symm)
              rw [this, Bool.and_false]
            clear hd hd2 hdd
            go_wp2_with fail
            go_quiet (fail)
            go_wp2_with fail
            go_ret
            exact ⟨ret_bool HO.out.symm, by first | exact below_drewN HB.out _ | exact below_drewN (below_drewN HB.out _) _⟩
        · have HO : Hid ((s == t && l == m) = true) := by
            show _ = _
            have := HT.out
            rw [List.take_of_length_le (by omega), List.take_of_length_le (by rw [← HL.out]; omega)] at this
            rw [this, HS.out]; simp
          go_wp2_with fail
          go_ret
          exact ⟨ret_bool HO.out.symm, below_drewN HB.out _⟩
    · have HO : Hid ((s == t && l == m) = false) := by
        show _ = _
        have : (l == m) = false := by rw [beq_eq_false_iff_ne]; intro h; exact hl (by rw [h])
        rw [this, Bool.and_false]
      have e1 : (s != t) = false := by rw [hs]; simp
      have e2 : ((l.length : Int) != (m.length : Int)) = true := by rw [bne_iff_ne]; omega
      clear hs hl
      go_wp2_with fail
      go_ret
      exact ⟨ret_bool HO.out.symm, by go_grown⟩
  · have HO : Hid ((s == t && l == m) = false) := by
      show _ = _
      have : (s == t) = false := by rw [beq_eq_false_iff_ne]; exact hs
      rw [this, Bool.false_and]
    have e1 : (s != t) = true := by rw [bne_iff_ne]; exact hs
    clear hs
    go_wp2_with fail
    go_ret
    exact ⟨ret_bool HO.out.symm, by go_grown⟩
theorem sEqual_b {l m : List Int} {a1 a2 : Option Addr} {c1 c2 : Nat} {bd : Bool} {w : World} (h1 : RdZ w (.slice a1 l.length c1) l) (h2 : RdZ w (.slice a2 m.length c2) m) (hx : l.length ≤ 1099511627776) (hy : m.length ≤ 1099511627776) (hd : (l == m) = bd) :
  Calls Tryz.prog 98 #[.slice a1 l.length c1, .slice a2 m.length c2] w fun e w' => e = .returned (.bool bd) ∧ Below w.heap.size w w' := by
 subst hd; exact sEqual_any _ _ l m w h1 h2 hx hy
set_option maxRecDepth 100000 in
set_option maxHeartbeats 4000000 in
theorem bigSame_raw {s t : Int} {l m : List Int} {a1 a2 : Option Addr} {c1 c2 : Nat} {w : World} (h1 : RdZ w (.slice a1 l.length c1) l) (h2 : RdZ w (.slice a2 m.length c2) m) (hx : l.length ≤ 1099511627776) (hy : m.length ≤ 1099511627776)  :
  Calls Tryz.prog 70 #[.agg #[.int .i64 s, .slice a1 l.length c1], .agg #[.int .i64 t, .slice a2 m.length c2]] w fun e w' => e = .returned (.bool (s == t && l == m)) ∧ Below w.heap.size w w' := by
 obtain ⟨bs, hbs⟩ : ∃ b, (s == t) = b := ⟨_, rfl⟩
 obtain ⟨bd, hbd⟩ : ∃ b, (l == m) = b := ⟨_, rfl⟩
 have HR : Hid ((s == t && l == m) = (bs && bd)) := by show _ = _; rw [hbs, hbd]
 have HBD := Lib.hid hbd; have HX := Lib.hid hx; have HY := Lib.hid hy; clear hbd hx hy
 have H1 : Hid (RdZ w (.slice a1 l.length c1) l) := h1
 have H2 : Hid (RdZ w (.slice a2 m.length c2) m) := h2
 clear h1 h2
 have M : Hid (Below w.heap.size w w) := Below.refl _ _
 go_enter Tryz.func70, Tryz.ntmps70
 go_upto_region 1 with fail
 refine nmW ((w.alloc (.cells #[.int .i64 s, .slice a1 l.length c1] 24)).alloc (.cells #[.int .i64 t, .slice a2 m.length c2] 24)) fun w1 hv => ?_
 rw [← hv]
 replace M := al2W hv M
 clear hv
 cases bs with
 | false =>
  refine cj2 (J1 M).1.d2 fun aa ab => ?_
  refine cj2 (M.out.1).d2 fun ac ad => ?_
  go_wp2_with fail
  clear aa ab ac ad
  go_ret
  exact ⟨by rw [HR.out]; cases bd <;> rfl, (J2 M)⟩
 | true =>
  refine cj2 (J1 M).1.d2 fun aa ab => ?_
  refine cj2 (M.out.1).d2 fun ac ad => ?_
  go_wp2_with fail
  clear aa ab ac ad
  refine (sEqual_b (l := l) (m := m) (bd := bd) (H1.out.keep (J2 M)) (H2.out.keep (J2 M)) HX.out HY.out HBD.out).mono ?_
  rintro e w2 ⟨rfl, hb⟩
  replace M := gnM hb M
  clear hb
  go_wp2_with fail
  go_ret
  exact ⟨by rw [HR.out]; cases bd <;> rfl, (J2 M)⟩
/-- Both functions find two big integers the same, or both not. -/
def Sb (w : World) (u0 u1 v0 v1 : Value) (b : Bool) : Prop := ∀ w', Below w.heap.size w w' →
 (Calls Tryz.prog 70 #[.agg #[u0, u1], .agg #[v0, v1]] w' fun e w'' => e = .returned (.bool b) ∧ Below w'.heap.size w' w'') ∧
 (Calls Tryz.prog 42 #[.agg #[u0, u1], .agg #[v0, v1]] w' fun e w'' => e = .returned (.bool b) ∧ Below w'.heap.size w' w'')
theorem Sb.keep {w w' : World} {u0 u1 v0 v1 : Value} {b : Bool} (h : Sb w u0 u1 v0 v1 b) (hb : Below w.heap.size w w') : Sb w' u0 u1 v0 v1 b := fun w'' h2 => h w'' (below_call hb h2)
instance {w w' : World} {u0 u1 v0 v1 : Value} {b : Bool} : Goes (Sb w u0 u1 v0 v1 b) w w' (Sb w' u0 u1 v0 v1 b) := ⟨fun h hb => h.keep hb⟩
theorem sb_of {s t : Int} {l m : List Int} {a1 a2 : Option Addr} {c1 c2 n k : Nat} {w : World} (h1 : RdZ w (.slice a1 n c1) l) (h2 : RdZ w (.slice a2 k c2) m) (hn : l.length = n) (hk : m.length = k) (hx : n ≤ 1099511627776) (hy : k ≤ 1099511627776) : Sb w (.int .i64 s) (.slice a1 n c1) (.int .i64 t) (.slice a2 k c2) (s == t && l == m) := by
 subst hn hk
 exact fun w' hb => ⟨bigSame_raw (h1.keep hb) (h2.keep hb) hx hy, samebig_raw (h1.keep hb) (h2.keep hb) hx hy⟩
theorem bigSame_sb {u0 u1 v0 v1 : Value} {b_ : Bool} {w : World} (h : Sb w u0 u1 v0 v1 b_) :
  Calls Tryz.prog 70 #[.agg #[u0, u1], .agg #[v0, v1]] w fun e w' => e = .returned (.bool b_) ∧ Below w.heap.size w w' := (h w (Below.refl _ _)).1
theorem samebig_sb {u0 u1 v0 v1 : Value} {b_ : Bool} {w : World} (h : Sb w u0 u1 v0 v1 b_) :
  Calls Tryz.prog 42 #[.agg #[u0, u1], .agg #[v0, v1]] w fun e w' => e = .returned (.bool b_) ∧ Below w.heap.size w w' := (h w (Below.refl _ _)).2
set_option maxRecDepth 100000 in
set_option maxHeartbeats 4000000 in
theorem fsame_raw {u0 u1 u2 u3 v0 v1 v2 v3 : Value} {x1 x2 : Bool} {w : World} (h1 : Sb w u0 u1 v0 v1 x1) (h2 : Sb w u2 u3 v2 v3 x2)  :
  Calls Tryz.prog 29 #[.agg #[u0, u1, u2, u3], .agg #[v0, v1, v2, v3]] w fun e w' => e = .returned (.bool (x1 && x2)) ∧ Below w.heap.size w w' := by
 have H1 : Hid (Sb w u0 u1 v0 v1 x1) := h1
 have H2 : Hid (Sb w u2 u3 v2 v3 x2) := h2
 clear h1 h2
 have M : Hid (Below w.heap.size w w) := Below.refl _ _
 go_enter Tryz.func29, Tryz.ntmps29
 go_upto_region 1 with fail
 refine nmW ((w.alloc (.cells #[u0, u1, u2, u3] 26)).alloc (.cells #[v0, v1, v2, v3] 26)) fun w1 hv => ?_
 rw [← hv]
 replace M := al2W hv M
 clear hv
 refine cj4 (J1 M).1.d4 fun aa ab ac ad => ?_
 refine cj4 (M.out.1).d4 fun ae af ag ah => ?_
 go_wp2_with fail
 clear aa ab ac ad ae af ag ah
 refine (bigSame_sb (b_ := x1) (H1.out.keep (J2 M))).mono ?_
 rintro e w2 ⟨rfl, hb⟩
 replace M := gnM hb M
 clear hb
 cases x1 with
 | false =>
  go_wp2_with fail
  go_ret
  exact ⟨rfl, (J2 M)⟩
 | true =>
  refine cj4 (J1 M).1.d4 fun aa ab ac ad => ?_
  refine cj4 (M.out.1).d4 fun ae af ag ah => ?_
  go_wp2_with fail
  clear aa ab ac ad ae af ag ah
  refine (bigSame_sb (b_ := x2) (H2.out.keep (J2 M))).mono ?_
  rintro e w3 ⟨rfl, hb⟩
  replace M := gnM hb M
  clear hb
  go_wp2_with fail
  go_ret
  exact ⟨rfl, (J2 M)⟩
set_option maxRecDepth 100000 in
set_option maxHeartbeats 4000000 in
theorem rfsame_raw {u0 u1 u2 u3 v0 v1 v2 v3 : Value} {x1 x2 : Bool} {w : World} (h1 : Sb w u0 u1 v0 v1 x1) (h2 : Sb w u2 u3 v2 v3 x2)  :
  Calls Tryz.prog 14 #[.agg #[u0, u1, u2, u3], .agg #[v0, v1, v2, v3]] w fun e w' => e = .returned (.bool (x1 && x2)) ∧ Below w.heap.size w w' := by
 have H1 : Hid (Sb w u0 u1 v0 v1 x1) := h1
 have H2 : Hid (Sb w u2 u3 v2 v3 x2) := h2
 clear h1 h2
 have M : Hid (Below w.heap.size w w) := Below.refl _ _
 go_enter Tryz.func14, Tryz.ntmps14
 go_upto_region 1 with fail
 refine nmW ((w.alloc (.cells #[u0, u1, u2, u3] 26)).alloc (.cells #[v0, v1, v2, v3] 26)) fun w1 hv => ?_
 rw [← hv]
 replace M := al2W hv M
 clear hv
 refine cj4 (J1 M).1.d4 fun aa ab ac ad => ?_
 refine cj4 (M.out.1).d4 fun ae af ag ah => ?_
 go_wp2_with fail
 clear aa ab ac ad ae af ag ah
 refine (samebig_sb (b_ := x1) (H1.out.keep (J2 M))).mono ?_
 rintro e w2 ⟨rfl, hb⟩
 replace M := gnM hb M
 clear hb
 cases x1 with
 | false =>
  go_wp2_with fail
  go_ret
  exact ⟨rfl, (J2 M)⟩
 | true =>
  refine cj4 (J1 M).1.d4 fun aa ab ac ad => ?_
  refine cj4 (M.out.1).d4 fun ae af ag ah => ?_
  go_wp2_with fail
  clear aa ab ac ad ae af ag ah
  refine (samebig_sb (b_ := x2) (H2.out.keep (J2 M))).mono ?_
  rintro e w3 ⟨rfl, hb⟩
  replace M := gnM hb M
  clear hb
  go_wp2_with fail
  go_ret
  exact ⟨rfl, (J2 M)⟩
/-- Both functions find two fractions the same, or both not. -/
def Sm (w : World) (u0 u1 u2 u3 v0 v1 v2 v3 : Value) (b : Bool) : Prop := ∀ w', Below w.heap.size w w' →
 (Calls Tryz.prog 29 #[.agg #[u0, u1, u2, u3], .agg #[v0, v1, v2, v3]] w' fun e w'' => e = .returned (.bool b) ∧ Below w'.heap.size w' w'') ∧
 (Calls Tryz.prog 14 #[.agg #[u0, u1, u2, u3], .agg #[v0, v1, v2, v3]] w' fun e w'' => e = .returned (.bool b) ∧ Below w'.heap.size w' w'')
theorem Sm.keep {w w' : World} {u0 u1 u2 u3 v0 v1 v2 v3 : Value} {b : Bool} (h : Sm w u0 u1 u2 u3 v0 v1 v2 v3 b) (hb : Below w.heap.size w w') : Sm w' u0 u1 u2 u3 v0 v1 v2 v3 b := fun w'' h2 => h w'' (below_call hb h2)
instance {w w' : World} {u0 u1 u2 u3 v0 v1 v2 v3 : Value} {b : Bool} : Goes (Sm w u0 u1 u2 u3 v0 v1 v2 v3 b) w w' (Sm w' u0 u1 u2 u3 v0 v1 v2 v3 b) := ⟨fun h hb => h.keep hb⟩
theorem sm_of {w : World} {u0 u1 u2 u3 v0 v1 v2 v3 : Value} {n1 m1 n2 m2 : Nat} {o1 o2 : Option Rat} (h1 : FX w u0 u1 u2 u3 n1 m1 o1) (h2 : FX w v0 v1 v2 v3 n2 m2 o2) (k1 : n1 ≤ 1099511627776 ∧ m1 ≤ 1099511627776) (k2 : n2 ≤ 1099511627776 ∧ m2 ≤ 1099511627776) : ∃ b, Sm w u0 u1 u2 u3 v0 v1 v2 v3 b := by
 obtain ⟨s, a, c, t, b, d, l, k, rfl, rfl, rfl, rfl, rfl, rfl, h6, -⟩ := h1
 obtain ⟨s', a', c', t', b', d', l', k', rfl, rfl, rfl, rfl, rfl, rfl, h6', -⟩ := h2
 have e1 := sb_of (s := s) (t := s') h6.n1 h6'.n1 rfl rfl k1.1 k2.1
 have e2 := sb_of (s := t) (t := t') h6.d1 h6'.d1 rfl rfl k1.2 k2.2
 exact ⟨_, fun w' hb => aI (fsame_raw (e1.keep hb) (e2.keep hb)) (rfsame_raw (e1.keep hb) (e2.keep hb))⟩
theorem fsame_sm {w : World} {u0 u1 u2 u3 v0 v1 v2 v3 : Value} {b_ : Bool} (h : Sm w u0 u1 u2 u3 v0 v1 v2 v3 b_) :
  Calls Tryz.prog 29 #[.agg #[u0, u1, u2, u3], .agg #[v0, v1, v2, v3]] w fun e w' => e = .returned (.bool b_) ∧ Below w.heap.size w w' := (h w (Below.refl _ _)).1
theorem rfsame_sm {w : World} {u0 u1 u2 u3 v0 v1 v2 v3 : Value} {b_ : Bool} (h : Sm w u0 u1 u2 u3 v0 v1 v2 v3 b_) :
  Calls Tryz.prog 14 #[.agg #[u0, u1, u2, u3], .agg #[v0, v1, v2, v3]] w fun e w' => e = .returned (.bool b_) ∧ Below w.heap.size w w' := (h w (Below.refl _ _)).2
end Go.Proofs.YtcfmakpckdicjaaGreatDoor
namespace Go.Proofs.YtcfmakpckdicjaaGreatDoor
open Go.RowKit Go.Lib
variable {G : Nat}

theorem small_05 {w : World} (hG : G ≤ w.heap.size) (ht : Tab w) (hm : Mx w) :
  Calls Tryz.prog 8 #[] w fun e w' => e = .returned (.bool true) ∧ Below w.heap.size w w' := small_ok (G := G) hG ht hm
theorem bx_sz {w : World} {u0 u1 : Value} {o : Option Int} (h : BX G w u0 u1 o) : ∀ x, o = some x → Sz x 549755813888 := by
  rintro x rfl
  obtain ⟨s, a, n, c, l, -, -, hn, -, h4⟩ := h
  rcases h4 with ⟨h, -⟩ | ⟨z, e, -, -, hl, -⟩
  · cases h
  · have e := Option.some.inj e
    show Go.Proofs.YtcfmakpckdicjaaGreatDoor.ln x ≤ _; rw [e]; omega
theorem i64_sz (x : Int) (h : -9223372036854775808 ≤ x ∧ x ≤ 9223372036854775807) : ∀ z, some x = some z → Sz z 4 := by
 rintro z e; cases e; exact sz_int (n := 0) h
theorem few_1 {n m : Nat} (h : (decide ((n : Int) ≤ 40) && decide ((m : Int) ≤ 40)) = true) : n ≤ 40 ∧ m ≤ 40 := by
 simp only [Bool.and_eq_true, decide_eq_true_eq] at h; omega
set_option maxRecDepth 100000 in
set_option maxHeartbeats 4000000 in
theorem ftells_far {S : ByteArray} {i1 i2 : Int} {u0 u1 u2 u3 v0 v1 v2 v3 : Value} {n1 m1 n2 m2 : Nat} {o1 o2 : Option Rat} {c1 c2 : Bool} {w : World} (hG : G ≤ w.heap.size) (ht : Tab w) (hm : Mx w) (h1 : FY G w u0 u1 u2 u3 n1 m1 o1) (h2 : FY G w v0 v1 v2 v3 n2 m2 o2) (hc1_ : (decide ((n1 : Int) ≤ 40) && decide ((m1 : Int) ≤ 40)) = c1) (hc2_ : (decide ((n2 : Int) ≤ 40) && decide ((m2 : Int) ≤ 40)) = c2) (hn : (c1 && (c2 && !decide (300 < S.size))) = false) :
  Calls Tryz.prog 3 #[.agg #[u0, u1, u2, u3], .agg #[v0, v1, v2, v3], .int .i64 i1, .int .i64 i2, .string S] w fun e w' => e = .returned (.bool true) ∧ Below w.heap.size w w' := by
 obtain ⟨bl, hbl⟩ : ∃ b, decide (300 < S.size) = b := ⟨_, rfl⟩
 rw [hbl] at hn
 have hbl2 : decide ((300 : Int) < (S.size : Int)) = bl := by rw [← hbl]; congr 1; simp; omega
 have HC1 := Lib.hid hc1_; have HC2 := Lib.hid hc2_; have HN := Lib.hid hn; clear hn hc1_ hc2_
 have HT : Hid (Tab w) := ht
 have HM : Hid (Mx w) := hm
 have H1 : Hid (FY G w u0 u1 u2 u3 n1 m1 o1) := h1
 have H2 : Hid (FY G w v0 v1 v2 v3 n2 m2 o2) := h2
 clear ht hm h1 h2
 have M : Hid (Below w.heap.size w w) := Below.refl _ _
 go_enter Tryz.func3, Tryz.ntmps3
 go_upto_region 1 with fail
 refine nmW ((w.alloc (.cells #[u0, u1, u2, u3] 26)).alloc (.cells #[v0, v1, v2, v3] 26)) fun w1 hv => ?_
 rw [← hv]
 replace M := al2W hv M
 clear hv
 go_wp2_with fail
 refine (small_05 (G := G) (Nat.le_trans hG (J2 M).size) (HT.out.keep (J2 M)) (HM.out.keep (J2 M))).mono ?_
 rintro e w2 ⟨rfl, hb⟩
 replace M := gnM hb M
 clear hb
 refine cj4 (J1 M).1.d4 fun aa ab ac ad => ?_
 go_wp2_with fail
 clear aa ab ac ad
 refine (fxFew_ok (o := o1) (k := 40) (r := c1) ((H1.out.keep (J2 M))).1 HC1.out).mono ?_
 rintro e w3 ⟨rfl, hb⟩
 replace M := gnM hb M
 clear hb
 cases c1 with
 | false =>
  go_wp2_with fail
  go_ret
  exact ⟨rfl, (J2 M)⟩
 | true =>
  refine cj4 (M.out.1).d4 fun ae af ag ah => ?_
  go_wp2_with fail
  clear ae af ag ah
  refine (fxFew_ok (o := o2) (k := 40) (r := c2) ((H2.out.keep (J2 M))).1 HC2.out).mono ?_
  rintro e w4 ⟨rfl, hb⟩
  replace M := gnM hb M
  clear hb
  cases c2 with
  | false =>
   go_wp2_with fail
   go_ret
   exact ⟨rfl, (J2 M)⟩
  | true =>
   cases bl with
   | false =>
    go_upto_region 4 with fail
    exact absurd HN.out (by decide)
   | true =>
    go_wp2_with fail
    go_ret
    exact ⟨rfl, (J2 M)⟩
set_option maxRecDepth 100000 in
set_option maxHeartbeats 40000000 in
theorem ftells_near {S : ByteArray} {i1 i2 : Int} {u0 u1 u2 u3 v0 v1 v2 v3 : Value} {n1 m1 n2 m2 : Nat} {o1 o2 : Option Rat} {pA pB : Option Int} {bS : Bool} {l : List UInt8} {w : World} (hG : G ≤ w.heap.size) (ht : Tab w) (hm : Mx w) (h1 : FY G w u0 u1 u2 u3 n1 m1 o1) (h2 : FY G w v0 v1 v2 v3 n2 m2 o2) (k1 : BX G w u0 u1 pA) (k2 : BX G w v0 v1 pB) (sm : Sm w u0 u1 u2 u3 v0 v1 v2 v3 bS) (hS : S = ⟨l.toArray⟩) (hlen : l.length ≤ 300) (hc1 : (decide ((n1 : Int) ≤ 40) && decide ((m1 : Int) ≤ 40)) = true) (hc2 : (decide ((n2 : Int) ≤ 40) && decide ((m2 : Int) ≤ 40)) = true) (hbl_ : decide (300 < S.size) = false) (hi1 : -9223372036854775808 ≤ i1 ∧ i1 ≤ 9223372036854775807) (hi2 : -9223372036854775808 ≤ i2 ∧ i2 ≤ 9223372036854775807) :
  Calls Tryz.prog 3 #[.agg #[u0, u1, u2, u3], .agg #[v0, v1, v2, v3], .int .i64 i1, .int .i64 i2, .string S] w fun e w' => e = .returned (.bool true) ∧ Below w.heap.size w w' := by
 have hbl : decide (300 < S.size) = false := hbl_
 have hbl2 : decide ((300 : Int) < (S.size : Int)) = false := by have := of_decide_eq_false hbl_; exact decide_eq_false (by omega)
 clear hbl_
 have hk1 := few_1 hc1; have hk2 := few_1 hc2
 have z1 := h1.fz hk1.1 hk1.2; have z2 := h2.fz hk2.1 hk2.2
 obtain ⟨zA, hzA⟩ : ∃ z : Option Rat, op2 (fun x y => x + y) o1 o2 = z := ⟨_, rfl⟩
 have SzA : Hid (Oz zA 81) := by show Oz _ _; rw [← hzA]; exact op2_oz z1 z2 (fun q r h h' => h.add h')
 obtain ⟨zS, hzS⟩ : ∃ z : Option Rat, op2 (fun x y => x - y) o1 o2 = z := ⟨_, rfl⟩
 have SzS : Hid (Oz zS 81) := by show Oz _ _; rw [← hzS]; exact op2_oz z1 z2 (fun q r h h' => h.sub h')
 obtain ⟨zM, hzM⟩ : ∃ z : Option Rat, op2 (fun x y => x * y) o1 o2 = z := ⟨_, rfl⟩
 have SzM : Hid (Oz zM 80) := by show Oz _ _; rw [← hzM]; exact op2_oz z1 z2 (fun q r h h' => h.mul h')
 obtain ⟨zD, hzD⟩ : ∃ z : Option Rat, opDv o1 o2 = z := ⟨_, rfl⟩
 have SzD : Hid (Oz zD 80) := by show Oz _ _; rw [← hzD]; exact opDv_oz z1 z2
 obtain ⟨zI, hzI⟩ : ∃ z : Option Rat, op2 (fun x y => pick x y (-1)) o1 o2 = z := ⟨_, rfl⟩
 have SzI : Hid (Oz zI 40) := by show Oz _ _; rw [← hzI]; exact op2_oz z1 z2 (fun q r h h' => pick_fz h h')
 obtain ⟨zX, hzX⟩ : ∃ z : Option Rat, op2 (fun x y => pick x y 1) o1 o2 = z := ⟨_, rfl⟩
 have SzX : Hid (Oz zX 40) := by show Oz _ _; rw [← hzX]; exact op2_oz z1 z2 (fun q r h h' => pick_fz h h')
 obtain ⟨eO, heO⟩ : ∃ z : Int, opE2 o1 o2 = z := ⟨_, rfl⟩
 obtain ⟨eD, heD⟩ : ∃ z : Int, opDvE o1 o2 = z := ⟨_, rfl⟩
 obtain ⟨zF, hzF⟩ : ∃ z : Option Rat, newO (some i1) (some i2) = z := ⟨_, rfl⟩
 have SzF : Hid (Oz zF 4) := by show Oz _ _; rw [← hzF]; exact newO_oz (i64_sz _ hi1) (i64_sz _ hi2)
 obtain ⟨eF, heF⟩ : ∃ z : Int, newE (some i1) (some i2) = z := ⟨_, rfl⟩
 obtain ⟨zR, hzR⟩ : ∃ z : Option Rat, readF l = z := ⟨_, rfl⟩
 have SzR : Hid (Oz zR 300) := by show Oz _ _; rw [← hzR]; exact Oz.of (fun q hq => readF_fz hlen hq)
 obtain ⟨eR, heR⟩ : ∃ z : Int, rfE l = z := ⟨_, rfl⟩
 obtain ⟨zN, hzN⟩ : ∃ z : Option Rat, newO pA pB = z := ⟨_, rfl⟩
 have SzN : Hid (Oz zN 549755813888) := by show Oz _ _; rw [← hzN]; exact newO_oz (bx_sz k1) (bx_sz k2)
 obtain ⟨eN, heN⟩ : ∃ z : Int, newE pA pB = z := ⟨_, rfl⟩
 obtain ⟨rA, hrA⟩ : ∃ z : Bool, o1.isSome = z := ⟨_, rfl⟩
 obtain ⟨kC, hkC⟩ : ∃ z : Int, opCm o1 o2 = z := ⟨_, rfl⟩
 obtain ⟨zG, hzG⟩ : ∃ z : Option Rat, ngO o1 = z := ⟨_, rfl⟩
 have SzG : Hid (Oz zG 40) := by show Oz _ _; rw [← hzG]; exact ngO_oz z1
 obtain ⟨sS, hsS⟩ : ∃ z : Int, sgO o1 = z := ⟨_, rfl⟩
 obtain ⟨zQ, hzQ⟩ : ∃ z : Option Rat, some (i1 : Rat) = z := ⟨_, rfl⟩
 have SzQ : Hid (Oz zQ 4) := by show Oz _ _; rw [← hzQ]; exact Oz.some_ (Fz.int64 hi1)
 obtain ⟨tx, htx⟩ : ∃ z : ByteArray, (⟨(txO o1).toArray⟩ : ByteArray) = z := ⟨_, rfl⟩
 obtain ⟨zL, hzL⟩ : ∃ z : Int, floO o1 = z := ⟨_, rfl⟩
 have SzL : Hid (Sz zL 40) := by show Sz _ _; rw [← hzL]; exact floO_sz z1
 have HzA := Lib.hid hzA; have HzS := Lib.hid hzS; have HzM := Lib.hid hzM; have HzD := Lib.hid hzD; have HzI := Lib.hid hzI; have HzX := Lib.hid hzX; have HeO := Lib.hid heO; have HeD := Lib.hid heD; have HzF := Lib.hid hzF; have HeF := Lib.hid heF; have HzR := Lib.hid hzR; have HeR := Lib.hid heR; have HzN := Lib.hid hzN; have HeN := Lib.hid heN; have HrA := Lib.hid hrA; have HkC := Lib.hid hkC; have HzG := Lib.hid hzG; have HsS := Lib.hid hsS; have HzQ := Lib.hid hzQ; have Htx := Lib.hid htx; have HzL := Lib.hid hzL
 have HC1 := Lib.hid hc1; have HC2 := Lib.hid hc2; have HS := Lib.hid hS; have HI1 := Lib.hid hi1; have HI2 := Lib.hid hi2; have HLN : Hid (l.length ≤ 1000) := by show _ ≤ _; omega
 have HK1 := Lib.hid hk1; have HK2 := Lib.hid hk2
 clear hc1 hc2 hS hi1 hi2 hlen hk1 hk2 z1 z2 hzA hzS hzM hzD hzI hzX heO heD hzF heF hzR heR hzN heN hrA hkC hzG hsS hzQ htx hzL
 have HT : Hid (Tab w) := ht
 have HM : Hid (Mx w) := hm
 have H1 : Hid (FY G w u0 u1 u2 u3 n1 m1 o1) := h1
 have H2 : Hid (FY G w v0 v1 v2 v3 n2 m2 o2) := h2
 have HP1 : Hid (BX G w u0 u1 pA) := k1
 have HP2 : Hid (BX G w v0 v1 pB) := k2
 have HSM : Hid (Sm w u0 u1 u2 u3 v0 v1 v2 v3 bS) := sm
 clear ht hm h1 h2 k1 k2 sm
 have M : Hid (Below w.heap.size w w) := Below.refl _ _
 go_enter Tryz.func3, Tryz.ntmps3
 go_upto_region 1 with fail
 refine nmW ((w.alloc (.cells #[u0, u1, u2, u3] 26)).alloc (.cells #[v0, v1, v2, v3] 26)) fun w1 hv => ?_
 rw [← hv]
 replace M := al2W hv M
 clear hv
 go_wp2_with fail
 refine (small_05 (G := G) (Nat.le_trans hG (J2 M).size) (HT.out.keep (J2 M)) (HM.out.keep (J2 M))).mono ?_
 rintro e w2 ⟨rfl, hb⟩
 replace M := gnM hb M
 clear hb
 refine cj4 (J1 M).1.d4 fun aa ab ac ad => ?_
 go_wp2_with fail
 clear aa ab ac ad
 refine (fxFew_ok (o := o1) (k := 40) (r := true) ((H1.out.keep (J2 M))).1 HC1.out).mono ?_
 rintro e w3 ⟨rfl, hb⟩
 replace M := gnM hb M
 clear hb
 refine cj4 (M.out.1).d4 fun ae af ag ah => ?_
 go_wp2_with fail
 clear ae af ag ah
 refine (fxFew_ok (o := o2) (k := 40) (r := true) ((H2.out.keep (J2 M))).1 HC2.out).mono ?_
 rintro e w4 ⟨rfl, hb⟩
 replace M := gnM hb M
 clear hb
 refine cj4 (J1 M).1.d4 fun aa ab ac ad => ?_
 refine cj4 (M.out.1).d4 fun ae af ag ah => ?_
 go_wp2_with fail
 clear aa ab ac ad ae af ag ah
 refine (fAdd_u (G := G) (o1 := o1) (o2 := o2) (o := zA) (er := eO) (Nat.le_trans hG (J2 M).size) (H1.out.keep (J2 M)) (H2.out.keep (J2 M)) (Nat.le_trans HK1.out.1 (by decide)) (Nat.le_trans HK1.out.2 (by decide)) (Nat.le_trans HK2.out.1 (by decide)) (Nat.le_trans HK2.out.2 (by decide)) HzA.out HeO.out).mono ?_
 rintro e w5 ⟨x_1, x_2, x_3, x_4, rfl, hd5, hb⟩
 replace M := adM hd5 hb M
 clear hb hd5
 refine cj4 (TQ.st (M.out.1)) fun ai aj ak al => ?_
 go_upto_region 5 with fail
 clear ai aj ak al
 refine nmW (w5.alloc (.cells #[x_1, x_2, x_3, x_4] 26)) fun w6 hv => ?_
 rw [← hv]
 have ow2_ : w.heap.size + 1 < w5.heap.size := ((J1 M).1).lt
 replace M := alM hv M
 clear hv
 refine cj4 (J3 M).1.d4 fun aa ab ac ad => ?_
 refine cj4 (J2 M).1.d4 fun ae af ag ah => ?_
 go_wp2_with fail
 clear aa ab ac ad ae af ag ah
 refine (gAdd_u (G := G) (o1 := o1) (o2 := o2) (o := zA) (er := eO) (Nat.le_trans hG (J4 M).size) (H1.out.keep (J4 M)) (H2.out.keep (J4 M)) (Nat.le_trans HK1.out.1 (by decide)) (Nat.le_trans HK1.out.2 (by decide)) (Nat.le_trans HK2.out.1 (by decide)) (Nat.le_trans HK2.out.2 (by decide)) HzA.out HeO.out).mono ?_
 rintro e w7 ⟨x_6, x_7, x_8, x_9, rfl, hd10, hb⟩
 replace M := adM hd10 hb M
 clear hb hd10
 refine cj4 (TQ.st (M.out.1)) fun am ao ap aq => ?_
 go_upto_region 6 with fail
 clear am ao ap aq
 refine nmW (w7.alloc (.cells #[x_6, x_7, x_8, x_9] 26)) fun w8 hv => ?_
 rw [← hv]
 have ow3_ : w5.heap.size < w7.heap.size := ((J1 M).1).lt
 replace M := alM hv M
 clear hv
 refine cj4 (J5 M).1.d4 fun aa ab ac ad => ?_
 refine cj4 (J4 M).1.d4 fun ae af ag ah => ?_
 go_wp2_with fail
 clear aa ab ac ad ae af ag ah
 refine (fSub_u (G := G) (o1 := o1) (o2 := o2) (o := zS) (er := eO) (Nat.le_trans hG (J6 M).size) (H1.out.keep (J6 M)) (H2.out.keep (J6 M)) (Nat.le_trans HK1.out.1 (by decide)) (Nat.le_trans HK1.out.2 (by decide)) (Nat.le_trans HK2.out.1 (by decide)) (Nat.le_trans HK2.out.2 (by decide)) HzS.out HeO.out).mono ?_
 rintro e w9 ⟨x_11, x_12, x_13, x_14, rfl, hd15, hb⟩
 replace M := adM hd15 hb M
 clear hb hd15
 refine cj4 (TQ.st (M.out.1)) fun ar au av aw => ?_
 go_upto_region 7 with fail
 clear ar au av aw
 refine nmW (w9.alloc (.cells #[x_11, x_12, x_13, x_14] 26)) fun w10 hv => ?_
 rw [← hv]
 have ow4_ : w7.heap.size < w9.heap.size := ((J1 M).1).lt
 replace M := alM hv M
 clear hv
 refine cj4 (J7 M).1.d4 fun aa ab ac ad => ?_
 refine cj4 (J6 M).1.d4 fun ae af ag ah => ?_
 go_wp2_with fail
 clear aa ab ac ad ae af ag ah
 refine (gSub_u (G := G) (o1 := o1) (o2 := o2) (o := zS) (er := eO) (Nat.le_trans hG (J8 M).size) (H1.out.keep (J8 M)) (H2.out.keep (J8 M)) (Nat.le_trans HK1.out.1 (by decide)) (Nat.le_trans HK1.out.2 (by decide)) (Nat.le_trans HK2.out.1 (by decide)) (Nat.le_trans HK2.out.2 (by decide)) HzS.out HeO.out).mono ?_
 rintro e w11 ⟨x_16, x_17, x_18, x_19, rfl, hd20, hb⟩
 replace M := adM hd20 hb M
 clear hb hd20
 refine cj4 (TQ.st (M.out.1)) fun ax ay az ba => ?_
 go_upto_region 8 with fail
 clear ax ay az ba
 refine nmW (w11.alloc (.cells #[x_16, x_17, x_18, x_19] 26)) fun w12 hv => ?_
 rw [← hv]
 have ow5_ : w9.heap.size < w11.heap.size := ((J1 M).1).lt
 replace M := alM hv M
 clear hv
 refine cj4 (J6 M).1.d4 fun bb bc bd bf => ?_
 refine cj4 (J4 M).1.d4 fun bg bh bi bj => ?_
 go_wp2_with fail
 clear bb bc bd bf bg bh bi bj
 refine (rfsame_o (G := G) (o := zA) (p := zA) (b_ := true) (J7 M).1 (J5 M).1 (Oz.mono SzA.out (by omega)) (Oz.mono SzA.out (by omega)) (by simp)).mono ?_
 rintro e w13 ⟨rfl, hb⟩
 replace M := gnM hb M
 clear hb
 refine cj4 (J2 M).1.d4 fun bk bl bm bn => ?_
 refine cj4 (M.out.1).d4 fun bo bp bq br => ?_
 go_wp2_with fail
 clear bk bl bm bn bo bp bq br
 refine (rfsame_o (G := G) (o := zS) (p := zS) (b_ := true) (J3 M).1 (J1 M).1 (Oz.mono SzS.out (by omega)) (Oz.mono SzS.out (by omega)) (by simp)).mono ?_
 rintro e w14 ⟨rfl, hb⟩
 replace M := gnM hb M
 clear hb
 refine cj4 (J9 M).1.d4 fun aa ab ac ad => ?_
 refine cj4 (J8 M).1.d4 fun ae af ag ah => ?_
 go_wp2_with fail
 clear aa ab ac ad ae af ag ah
 refine (fMul_u (G := G) (o1 := o1) (o2 := o2) (o := zM) (er := eO) (Nat.le_trans hG (J10 M).size) (H1.out.keep (J10 M)) (H2.out.keep (J10 M)) (Nat.le_trans HK1.out.1 (by decide)) (Nat.le_trans HK1.out.2 (by decide)) (Nat.le_trans HK2.out.1 (by decide)) (Nat.le_trans HK2.out.2 (by decide)) HzM.out HeO.out).mono ?_
 rintro e w15 ⟨x_21, x_22, x_23, x_24, rfl, hd25, hb⟩
 replace M := adM hd25 hb M
 clear hb hd25
 refine cj8 (J7 M).1.c4 fun bb bs bc bt bd bu bf bv => ?_
 refine cj4 (TQ.st (M.out.1)) fun bw bx bz ca => ?_
 go_upto_region 10 with fail
 clear bb bs bc bt bd bu bf bv bw bx bz ca
 have hz : w.heap.size ≤ w5.heap.size := by omega
 refine st4W (x_21) (x_22) (x_23) (x_24) (J7 M).1 (J11 M) hz fun w16 hv og hk hbw => ?_
 rw [← hv]
 replace M := Lib.hid (aI ((M.out.1).far (J7 M).1 (by rfl) (by omega) og) (aI ((J1 M).1.only og (by omega)) (aI ((J2 M).1.far (J7 M).1 (by rfl) (by omega) og) (aI ((J3 M).1.only og (by omega)) (aI ((J4 M).1.far (J7 M).1 (by rfl) (by omega) og) (aI ((J5 M).1.only og (by omega)) (aI ((J6 M).1.far (J7 M).1 (by rfl) (by omega) og) (aI hk (aI ((J8 M).1.far (J7 M).1 (by rfl) (by omega) og) (aI ((J9 M).1.only og (by omega)) (aI ((J10 M).1.only og (by omega)) hbw)))))))))))
 clear hk hbw og hv hz
 refine cj4 (J10 M).1.d4 fun aa ab ac ad => ?_
 refine cj4 (J9 M).1.d4 fun ae af ag ah => ?_
 go_wp2_with fail
 clear aa ab ac ad ae af ag ah
 refine (gMul_u (G := G) (o1 := o1) (o2 := o2) (o := zM) (er := eO) (Nat.le_trans hG (J11 M).size) (H1.out.keep (J11 M)) (H2.out.keep (J11 M)) (Nat.le_trans HK1.out.1 (by decide)) (Nat.le_trans HK1.out.2 (by decide)) (Nat.le_trans HK2.out.1 (by decide)) (Nat.le_trans HK2.out.2 (by decide)) HzM.out HeO.out).mono ?_
 rintro e w17 ⟨x_26, x_27, x_28, x_29, rfl, hd30, hb⟩
 replace M := adM hd30 hb M
 clear hb hd30
 refine cj8 (J6 M).1.c4 fun bg cb bh cc bi cd bj ce => ?_
 refine cj4 (TQ.st (M.out.1)) fun cf cg ch ci => ?_
 go_upto_region 11 with fail
 clear bg cb bh cc bi cd bj ce cf cg ch ci
 have hz : w.heap.size ≤ w7.heap.size := by omega
 refine st4W (x_26) (x_27) (x_28) (x_29) (J6 M).1 (J12 M) hz fun w18 hv og hk hbw => ?_
 rw [← hv]
 replace M := Lib.hid (aI ((M.out.1).far (J6 M).1 (by rfl) (by omega) og) (aI ((J1 M).1.far (J6 M).1 (by rfl) (by omega) og) (aI ((J2 M).1.only og (by omega)) (aI ((J3 M).1.far (J6 M).1 (by rfl) (by omega) og) (aI ((J4 M).1.only og (by omega)) (aI ((J5 M).1.far (J6 M).1 (by rfl) (by omega) og) (aI hk (aI ((J7 M).1.far (J6 M).1 (by rfl) (by omega) og) (aI ((J8 M).1.only og (by omega)) (aI ((J9 M).1.far (J6 M).1 (by rfl) (by omega) og) (aI ((J10 M).1.only og (by omega)) (aI ((J11 M).1.only og (by omega)) hbw))))))))))))
 clear hk hbw og hv hz
 refine cj4 (J11 M).1.d4 fun aa ab ac ad => ?_
 refine cj4 (J10 M).1.d4 fun ae af ag ah => ?_
 go_wp2_with fail
 clear aa ab ac ad ae af ag ah
 refine (fDiv_u (G := G) (o1 := o1) (o2 := o2) (o := zD) (er := eD) (Nat.le_trans hG (J12 M).size) (H1.out.keep (J12 M)) (H2.out.keep (J12 M)) (Nat.le_trans HK1.out.1 (by decide)) (Nat.le_trans HK1.out.2 (by decide)) (Nat.le_trans HK2.out.1 (by decide)) (Nat.le_trans HK2.out.2 (by decide)) HzD.out HeD.out).mono ?_
 rintro e w19 ⟨x_31, x_32, x_33, x_34, rfl, hd35, hb⟩
 replace M := adM hd35 hb M
 clear hb hd35
 refine cj8 (J5 M).1.c4 fun bk cj bl ck bm cl bn cm => ?_
 refine cj4 (TQ.st (M.out.1)) fun cn co cp cq => ?_
 go_upto_region 12 with fail
 clear bk cj bl ck bm cl bn cm cn co cp cq
 have hz : w.heap.size ≤ w9.heap.size := by omega
 refine st4W (x_31) (x_32) (x_33) (x_34) (J5 M).1 (J13 M) hz fun w20 hv og hk hbw => ?_
 rw [← hv]
 replace M := Lib.hid (aI ((M.out.1).far (J5 M).1 (by rfl) (by omega) og) (aI ((J1 M).1.far (J5 M).1 (by rfl) (by omega) og) (aI ((J2 M).1.far (J5 M).1 (by rfl) (by omega) og) (aI ((J3 M).1.only og (by omega)) (aI ((J4 M).1.far (J5 M).1 (by rfl) (by omega) og) (aI hk (aI ((J6 M).1.far (J5 M).1 (by rfl) (by omega) og) (aI ((J7 M).1.only og (by omega)) (aI ((J8 M).1.far (J5 M).1 (by rfl) (by omega) og) (aI ((J9 M).1.only og (by omega)) (aI ((J10 M).1.far (J5 M).1 (by rfl) (by omega) og) (aI ((J11 M).1.only og (by omega)) (aI ((J12 M).1.only og (by omega)) hbw)))))))))))))
 clear hk hbw og hv hz
 refine cj4 (J12 M).1.d4 fun aa ab ac ad => ?_
 refine cj4 (J11 M).1.d4 fun ae af ag ah => ?_
 go_wp2_with fail
 clear aa ab ac ad ae af ag ah
 refine (gDiv_u (G := G) (o1 := o1) (o2 := o2) (o := zD) (er := eD) (Nat.le_trans hG (J13 M).size) (H1.out.keep (J13 M)) (H2.out.keep (J13 M)) (Nat.le_trans HK1.out.1 (by decide)) (Nat.le_trans HK1.out.2 (by decide)) (Nat.le_trans HK2.out.1 (by decide)) (Nat.le_trans HK2.out.2 (by decide)) HzD.out HeD.out).mono ?_
 rintro e w21 ⟨x_36, x_37, x_38, x_39, rfl, hd40, hb⟩
 replace M := adM hd40 hb M
 clear hb hd40
 refine cj8 (J4 M).1.c4 fun bo cr bp cs bq ct br cu => ?_
 refine cj4 (TQ.st (M.out.1)) fun cv cw cx cy => ?_
 go_upto_region 13 with fail
 clear bo cr bp cs bq ct br cu cv cw cx cy
 have hz : w.heap.size ≤ w11.heap.size := by omega
 refine st4W (x_36) (x_37) (x_38) (x_39) (J4 M).1 (J14 M) hz fun w22 hv og hk hbw => ?_
 rw [← hv]
 replace M := Lib.hid (aI ((M.out.1).far (J4 M).1 (by rfl) (by omega) og) (aI ((J1 M).1.far (J4 M).1 (by rfl) (by omega) og) (aI ((J2 M).1.far (J4 M).1 (by rfl) (by omega) og) (aI ((J3 M).1.far (J4 M).1 (by rfl) (by omega) og) (aI hk (aI ((J5 M).1.far (J4 M).1 (by rfl) (by omega) og) (aI ((J6 M).1.only og (by omega)) (aI ((J7 M).1.far (J4 M).1 (by rfl) (by omega) og) (aI ((J8 M).1.only og (by omega)) (aI ((J9 M).1.far (J4 M).1 (by rfl) (by omega) og) (aI ((J10 M).1.only og (by omega)) (aI ((J11 M).1.far (J4 M).1 (by rfl) (by omega) og) (aI ((J12 M).1.only og (by omega)) (aI ((J13 M).1.only og (by omega)) hbw))))))))))))))
 clear hk hbw og hv hz
 refine cj4 (J10 M).1.d4 fun bb bc bd bf => ?_
 refine cj4 (J8 M).1.d4 fun bg bh bi bj => ?_
 go_wp2_with fail
 clear bb bc bd bf bg bh bi bj
 replace M := Lib.hid (aI (M.out.1) (aI (J1 M).1 (aI (J2 M).1 (aI (J3 M).1 (aI (J4 M).1 (aI (J6 M).1 (aI (J8 M).1 (aI (J10 M).1 (aI (J12 M).1 (aI (J13 M).1 (J14 M)))))))))))
 refine (rfsame_o (G := G) (o := zM) (p := zM) (b_ := true) (J3 M).1 (J2 M).1 (Oz.mono SzM.out (by omega)) (Oz.mono SzM.out (by omega)) (by simp)).mono ?_
 rintro e w23 ⟨rfl, hb⟩
 replace M := gnM hb M
 clear hb
 refine cj4 (J5 M).1.d4 fun bk bl bm bn => ?_
 refine cj4 (J4 M).1.d4 fun bo bp bq br => ?_
 go_wp2_with fail
 clear bk bl bm bn bo bp bq br
 refine (rfsame_o (G := G) (o := zD) (p := zD) (b_ := true) (J1 M).1 (M.out.1) (Oz.mono SzD.out (by omega)) (Oz.mono SzD.out (by omega)) (by simp)).mono ?_
 rintro e w24 ⟨rfl, hb⟩
 replace M := gnM hb M
 clear hb
 go_wp2_with fail
 refine (fOf_u (G := G) (x := i1) (y := i2) (o := zF) (er := eF) (Nat.le_trans hG (J10 M).size) HI1.out HI2.out HzF.out HeF.out).mono ?_
 rintro e w25 ⟨x_41, x_42, x_43, x_44, rfl, hd45, hb⟩
 replace M := adM hd45 hb M
 clear hb hd45
 refine cj8 (J8 M).1.c4 fun bb bs bc bt bd bu bf bv => ?_
 refine cj4 (TQ.st (M.out.1)) fun cz da db dc => ?_
 go_upto_region 15 with fail
 clear bb bs bc bt bd bu bf bv cz da db dc
 have hz : w.heap.size ≤ w5.heap.size := by omega
 refine st4W (x_41) (x_42) (x_43) (x_44) (J8 M).1 (J11 M) hz fun w26 hv og hk hbw => ?_
 rw [← hv]
 replace M := Lib.hid (aI ((M.out.1).far (J8 M).1 (by rfl) (by omega) og) (aI ((J1 M).1.far (J8 M).1 (by rfl) (by omega) og) (aI ((J2 M).1.far (J8 M).1 (by rfl) (by omega) og) (aI ((J3 M).1.far (J8 M).1 (by rfl) (by omega) og) (aI ((J4 M).1.far (J8 M).1 (by rfl) (by omega) og) (aI ((J5 M).1.only og (by omega)) (aI ((J6 M).1.only og (by omega)) (aI ((J7 M).1.only og (by omega)) (aI hk (aI ((J9 M).1.only og (by omega)) (aI ((J10 M).1.only og (by omega)) hbw)))))))))))
 clear hk hbw og hv hz
 go_wp2_with fail
 refine (gOf_u (G := G) (x := i1) (y := i2) (o := zF) (er := eF) (Nat.le_trans hG (J11 M).size) HI1.out HI2.out HzF.out HeF.out).mono ?_
 rintro e w27 ⟨x_46, x_47, x_48, x_49, rfl, hd50, hb⟩
 replace M := adM hd50 hb M
 clear hb hd50
 refine cj8 (J8 M).1.c4 fun bg cb bh cc bi cd bj ce => ?_
 refine cj4 (TQ.st (M.out.1)) fun dd de df dg => ?_
 go_upto_region 16 with fail
 clear bg cb bh cc bi cd bj ce dd de df dg
 have hz : w.heap.size ≤ w7.heap.size := by omega
 refine st4W (x_46) (x_47) (x_48) (x_49) (J8 M).1 (J12 M) hz fun w28 hv og hk hbw => ?_
 rw [← hv]
 replace M := Lib.hid (aI ((M.out.1).far (J8 M).1 (by rfl) (by omega) og) (aI ((J1 M).1.far (J8 M).1 (by rfl) (by omega) og) (aI ((J2 M).1.far (J8 M).1 (by rfl) (by omega) og) (aI ((J3 M).1.far (J8 M).1 (by rfl) (by omega) og) (aI ((J4 M).1.far (J8 M).1 (by rfl) (by omega) og) (aI ((J5 M).1.far (J8 M).1 (by rfl) (by omega) og) (aI ((J6 M).1.only og (by omega)) (aI ((J7 M).1.only og (by omega)) (aI hk (aI ((J9 M).1.only og (by omega)) (aI ((J10 M).1.only og (by omega)) (aI ((J11 M).1.only og (by omega)) hbw))))))))))))
 clear hk hbw og hv hz
 go_wp2_with fail
 refine (fRead_u (G := G) (S := S) (l := l) (o := zR) (er := eR) (Nat.le_trans hG (J12 M).size) (HT.out.keep (J12 M)) (HM.out.keep (J12 M)) HS.out HLN.out HzR.out HeR.out).mono ?_
 rintro e w29 ⟨x_51, x_52, x_53, x_54, rfl, hd55, hb⟩
 replace M := adM hd55 hb M
 clear hb hd55
 refine cj8 (J8 M).1.c4 fun bk cj bl ck bm cl bn cm => ?_
 refine cj4 (TQ.st (M.out.1)) fun dh di dj dk => ?_
 go_upto_region 17 with fail
 clear bk cj bl ck bm cl bn cm dh di dj dk
 have hz : w.heap.size ≤ w9.heap.size := by omega
 refine st4W (x_51) (x_52) (x_53) (x_54) (J8 M).1 (J13 M) hz fun w30 hv og hk hbw => ?_
 rw [← hv]
 replace M := Lib.hid (aI ((M.out.1).far (J8 M).1 (by rfl) (by omega) og) (aI ((J1 M).1.far (J8 M).1 (by rfl) (by omega) og) (aI ((J2 M).1.far (J8 M).1 (by rfl) (by omega) og) (aI ((J3 M).1.far (J8 M).1 (by rfl) (by omega) og) (aI ((J4 M).1.far (J8 M).1 (by rfl) (by omega) og) (aI ((J5 M).1.far (J8 M).1 (by rfl) (by omega) og) (aI ((J6 M).1.far (J8 M).1 (by rfl) (by omega) og) (aI ((J7 M).1.only og (by omega)) (aI hk (aI ((J9 M).1.only og (by omega)) (aI ((J10 M).1.only og (by omega)) (aI ((J11 M).1.only og (by omega)) (aI ((J12 M).1.only og (by omega)) hbw)))))))))))))
 clear hk hbw og hv hz
 go_wp2_with fail
 refine (gRead_u (G := G) (S := S) (l := l) (o := zR) (er := eR) (Nat.le_trans hG (J13 M).size) HS.out HLN.out HzR.out HeR.out).mono ?_
 rintro e w31 ⟨x_56, x_57, x_58, x_59, rfl, hd60, hb⟩
 replace M := adM hd60 hb M
 clear hb hd60
 refine cj8 (J8 M).1.c4 fun bo cr bp cs bq ct br cu => ?_
 refine cj4 (TQ.st (M.out.1)) fun dl dm dn dp => ?_
 go_upto_region 18 with fail
 clear bo cr bp cs bq ct br cu dl dm dn dp
 have hz : w.heap.size ≤ w11.heap.size := by omega
 refine st4W (x_56) (x_57) (x_58) (x_59) (J8 M).1 (J14 M) hz fun w32 hv og hk hbw => ?_
 rw [← hv]
 replace M := Lib.hid (aI ((M.out.1).far (J8 M).1 (by rfl) (by omega) og) (aI ((J1 M).1.far (J8 M).1 (by rfl) (by omega) og) (aI ((J2 M).1.far (J8 M).1 (by rfl) (by omega) og) (aI ((J3 M).1.far (J8 M).1 (by rfl) (by omega) og) (aI ((J4 M).1.far (J8 M).1 (by rfl) (by omega) og) (aI ((J5 M).1.far (J8 M).1 (by rfl) (by omega) og) (aI ((J6 M).1.far (J8 M).1 (by rfl) (by omega) og) (aI ((J7 M).1.far (J8 M).1 (by rfl) (by omega) og) (aI hk (aI ((J9 M).1.only og (by omega)) (aI ((J10 M).1.only og (by omega)) (aI ((J11 M).1.only og (by omega)) (aI ((J12 M).1.only og (by omega)) (aI ((J13 M).1.only og (by omega)) hbw))))))))))))))
 clear hk hbw og hv hz
 refine cj4 (J11 M).1.d4 fun bb bc bd bf => ?_
 refine cj4 (J10 M).1.d4 fun bg bh bi bj => ?_
 go_wp2_with fail
 clear bb bc bd bf bg bh bi bj
 replace M := Lib.hid (aI (M.out.1) (aI (J1 M).1 (aI (J2 M).1 (aI (J3 M).1 (aI (J8 M).1 (aI (J9 M).1 (aI (J10 M).1 (aI (J11 M).1 (aI (J12 M).1 (aI (J13 M).1 (J14 M)))))))))))
 refine (rfsame_o (G := G) (o := zF) (p := zF) (b_ := true) (J3 M).1 (J2 M).1 (Oz.mono SzF.out (by omega)) (Oz.mono SzF.out (by omega)) (by simp)).mono ?_
 rintro e w33 ⟨rfl, hb⟩
 replace M := gnM hb M
 clear hb
 refine cj4 (J5 M).1.d4 fun bk bl bm bn => ?_
 refine cj4 (J4 M).1.d4 fun bo bp bq br => ?_
 go_wp2_with fail
 clear bk bl bm bn bo bp bq br
 refine (rfsame_o (G := G) (o := zR) (p := zR) (b_ := true) (J1 M).1 (M.out.1) (Oz.mono SzR.out (by omega)) (Oz.mono SzR.out (by omega)) (by simp)).mono ?_
 rintro e w34 ⟨rfl, hb⟩
 replace M := gnM hb M
 clear hb
 refine cj4 (J9 M).1.d4 fun aa ab ac ad => ?_
 refine cj4 (J8 M).1.d4 fun ae af ag ah => ?_
 go_wp2_with fail
 clear aa ab ac ad ae af ag ah
 refine (fNew_u (G := G) (o := zN) (er := eN) (Nat.le_trans hG (J10 M).size) (HP1.out.keep (J10 M)) (HP2.out.keep (J10 M)) HzN.out HeN.out).mono ?_
 rintro e w35 ⟨x_61, x_62, x_63, x_64, rfl, hd65, hb⟩
 replace M := adM hd65 hb M
 clear hb hd65
 refine cj8 (J8 M).1.c4 fun bb bs bc bt bd bu bf bv => ?_
 refine cj4 (TQ.st (M.out.1)) fun dq dr ds dt => ?_
 go_upto_region 20 with fail
 clear bb bs bc bt bd bu bf bv dq dr ds dt
 have hz : w.heap.size ≤ w5.heap.size := by omega
 refine st4W (x_61) (x_62) (x_63) (x_64) (J8 M).1 (J11 M) hz fun w36 hv og hk hbw => ?_
 rw [← hv]
 replace M := Lib.hid (aI ((M.out.1).far (J8 M).1 (by rfl) (by omega) og) (aI ((J1 M).1.far (J8 M).1 (by rfl) (by omega) og) (aI ((J2 M).1.far (J8 M).1 (by rfl) (by omega) og) (aI ((J3 M).1.far (J8 M).1 (by rfl) (by omega) og) (aI ((J4 M).1.far (J8 M).1 (by rfl) (by omega) og) (aI ((J5 M).1.only og (by omega)) (aI ((J6 M).1.only og (by omega)) (aI ((J7 M).1.only og (by omega)) (aI hk (aI ((J9 M).1.only og (by omega)) (aI ((J10 M).1.only og (by omega)) hbw)))))))))))
 clear hk hbw og hv hz
 refine cj4 (J10 M).1.d4 fun aa ab ac ad => ?_
 refine cj4 (J9 M).1.d4 fun ae af ag ah => ?_
 go_wp2_with fail
 clear aa ab ac ad ae af ag ah
 refine (gNew_u (G := G) (o := zN) (er := eN) (Nat.le_trans hG (J11 M).size) (HP1.out.keep (J11 M)) (HP2.out.keep (J11 M)) HzN.out HeN.out).mono ?_
 rintro e w37 ⟨x_66, x_67, x_68, x_69, rfl, hd70, hb⟩
 replace M := adM hd70 hb M
 clear hb hd70
 refine cj8 (J8 M).1.c4 fun bg cb bh cc bi cd bj ce => ?_
 refine cj4 (TQ.st (M.out.1)) fun du dv dw dx => ?_
 go_wp2_with fail
 clear bg cb bh cc bi cd bj ce du dv dw dx
 have hz : w.heap.size ≤ w7.heap.size := by omega
 refine st4W (x_66) (x_67) (x_68) (x_69) (J8 M).1 (J12 M) hz fun w38 hv og hk hbw => ?_
 rw [← hv]
 replace M := Lib.hid (aI ((M.out.1).far (J8 M).1 (by rfl) (by omega) og) (aI ((J1 M).1.far (J8 M).1 (by rfl) (by omega) og) (aI ((J2 M).1.far (J8 M).1 (by rfl) (by omega) og) (aI ((J3 M).1.far (J8 M).1 (by rfl) (by omega) og) (aI ((J4 M).1.far (J8 M).1 (by rfl) (by omega) og) (aI ((J5 M).1.far (J8 M).1 (by rfl) (by omega) og) (aI ((J6 M).1.only og (by omega)) (aI ((J7 M).1.only og (by omega)) (aI hk (aI ((J9 M).1.only og (by omega)) (aI ((J10 M).1.only og (by omega)) (aI ((J11 M).1.only og (by omega)) hbw))))))))))))
 clear hk hbw og hv hz
 replace M := Lib.hid (aI (M.out.1) (aI (J1 M).1 (aI (J2 M).1 (aI (J3 M).1 (aI (J6 M).1 (aI (J7 M).1 (aI (J8 M).1 (aI (J9 M).1 (aI (J10 M).1 (aI (J11 M).1 (J12 M)))))))))))
 refine nmW w38.drew fun w39 hv => ?_
 replace M := drM hv M
 refine wp_region_held_drew (S := (fun w' => w'.cell? ⟨w.heap.size, 0, none⟩ = some (u0) ∧ w'.cell? ⟨w.heap.size, 1, none⟩ = some (u1) ∧ w'.cell? ⟨w.heap.size, 2, none⟩ = some (u2) ∧ w'.cell? ⟨w.heap.size, 3, none⟩ = some (u3) ∧ w'.cell? ⟨w.heap.size + 1, 0, none⟩ = some (v0) ∧ w'.cell? ⟨w.heap.size + 1, 1, none⟩ = some (v1) ∧ w'.cell? ⟨w.heap.size + 1, 2, none⟩ = some (v2) ∧ w'.cell? ⟨w.heap.size + 1, 3, none⟩ = some (v3) ∧ w'.cell? ⟨w5.heap.size, 0, none⟩ = some (x_61) ∧ w'.cell? ⟨w5.heap.size, 1, none⟩ = some (x_62) ∧ w'.cell? ⟨w5.heap.size, 2, none⟩ = some (x_63) ∧ w'.cell? ⟨w5.heap.size, 3, none⟩ = some (x_64) ∧ w'.cell? ⟨w7.heap.size, 0, none⟩ = some (x_66) ∧ w'.cell? ⟨w7.heap.size, 1, none⟩ = some (x_67) ∧ w'.cell? ⟨w7.heap.size, 2, none⟩ = some (x_68) ∧ w'.cell? ⟨w7.heap.size, 3, none⟩ = some (x_69))) (by kernel_rfl) (by rw [← hv]; exact ((J9 M).1.t4 ((J8 M).1.t4 ((J7 M).1.t4 ((J6 M).1.d4))))) (fun hH71 => ?_)
 rw [← hv] at hH71 ⊢
 clear hv
 refine tk at0 ?_
 refine tk at1 ?_
 refine tk at2 ?_
 refine tk at3 ?_
 refine tk at4 ?_
 refine tk at5 ?_
 refine wpAnyH_ready (rs := [6]) (by kernel_rfl) (by simp) ?_
 refine AllReadyH.cons at6 (fun K hK => ?_) AllReadyH.nil
 go_simp
 refine (rfsame_o (G := G) (o := zN) (p := zN) (b_ := true) (J1 M).1 (M.out.1) (Oz.mono SzN.out (by omega)) (Oz.mono SzN.out (by omega)) (by simp)).mono ?_
 rintro e w40 ⟨rfl, hb⟩
 replace M := gnM hb M
 clear hb
 (try go_wp2_with fail)
 refine hK.out _ _ (((J9 M).1.t4 ((J8 M).1.t4 ((J7 M).1.t4 ((J6 M).1.d4))))) (fun hH72 => ?_)
 clear hK K hH71
 (try simp only [Act.put, List.setIfInBounds_toArray, List.set_cons_zero, List.set_cons_succ])
 refine tk at7 ?_
 refine tk at8 ?_
 refine tk at9 ?_
 refine tk at11 ?_
 refine wpAnyH_ready (rs := [10]) (by kernel_rfl) (by simp) ?_
 refine AllReadyH.cons at10 (fun K hK => ?_) AllReadyH.nil
 go_simp
 refine (fxRight_ok (o := o1) (b_ := rA) ((H1.out.keep (J10 M))).1 (Nat.le_trans HK1.out.1 (by decide)) (Nat.le_trans HK1.out.2 (by decide)) HrA.out).mono ?_
 rintro e w41 ⟨rfl, hb⟩
 replace M := gnM hb M
 clear hb
 (try go_wp2_with fail)
 refine hK.out _ _ (((J9 M).1.t4 ((J8 M).1.t4 ((J7 M).1.t4 ((J6 M).1.d4))))) (fun hH73 => ?_)
 clear hK K hH72
 (try simp only [Act.put, List.setIfInBounds_toArray, List.set_cons_zero, List.set_cons_succ])
 refine wpAnyH_ready (rs := [12]) (by kernel_rfl) (by simp) ?_
 refine AllReadyH.cons at12 (fun K hK => ?_) AllReadyH.nil
 go_simp
 refine (fyRight_ok (o := o1) (b_ := rA) ((H1.out.keep (J10 M))).1 (Nat.le_trans HK1.out.1 (by decide)) (Nat.le_trans HK1.out.2 (by decide)) HrA.out).mono ?_
 rintro e w42 ⟨rfl, hb⟩
 replace M := gnM hb M
 clear hb
 (try go_wp2_with fail)
 refine hK.out _ _ (((J9 M).1.t4 ((J8 M).1.t4 ((J7 M).1.t4 ((J6 M).1.d4))))) (fun hH74 => ?_)
 clear hK K hH73
 (try simp only [Act.put, List.setIfInBounds_toArray, List.set_cons_zero, List.set_cons_succ])
 refine tk at13 ?_
 refine tk at14 ?_
 refine tk at15 ?_
 refine tk at16 ?_
 refine tk at17 ?_
 refine tk at19 ?_
 refine tk at20 ?_
 refine wpAnyH_ready (rs := [18]) (by kernel_rfl) (by simp) ?_
 refine AllReadyH.cons at18 (fun K hK => ?_) AllReadyH.nil
 go_simp
 refine (fCompare_u (G := G) (o1 := o1) (o2 := o2) (k := kC) (Nat.le_trans hG (J10 M).size) (H1.out.keep (J10 M)) (H2.out.keep (J10 M)) (Nat.le_trans HK1.out.1 (by decide)) (Nat.le_trans HK1.out.2 (by decide)) (Nat.le_trans HK2.out.1 (by decide)) (Nat.le_trans HK2.out.2 (by decide)) HkC.out).mono ?_
 rintro e w43 ⟨rfl, hb⟩
 replace M := gnM hb M
 clear hb
 (try go_wp2_with fail)
 refine hK.out _ _ (((J9 M).1.t4 ((J8 M).1.t4 ((J7 M).1.t4 ((J6 M).1.d4))))) (fun hH75 => ?_)
 clear hK K hH74
 (try simp only [Act.put, List.setIfInBounds_toArray, List.set_cons_zero, List.set_cons_succ])
 refine wpAnyH_ready (rs := [21]) (by kernel_rfl) (by simp) ?_
 refine AllReadyH.cons at21 (fun K hK => ?_) AllReadyH.nil
 go_simp
 refine (gCompare_u (G := G) (o1 := o1) (o2 := o2) (k := kC) (Nat.le_trans hG (J10 M).size) (H1.out.keep (J10 M)) (H2.out.keep (J10 M)) (Nat.le_trans HK1.out.1 (by decide)) (Nat.le_trans HK1.out.2 (by decide)) (Nat.le_trans HK2.out.1 (by decide)) (Nat.le_trans HK2.out.2 (by decide)) HkC.out).mono ?_
 rintro e w44 ⟨rfl, hb⟩
 replace M := gnM hb M
 clear hb
 (try go_wp2_with fail)
 refine hK.out _ _ (((J9 M).1.t4 ((J8 M).1.t4 ((J7 M).1.t4 ((J6 M).1.d4))))) (fun hH76 => ?_)
 clear hK K hH75
 (try simp only [Act.put, List.setIfInBounds_toArray, List.set_cons_zero, List.set_cons_succ])
 refine tk at22 ?_
 refine tk at23 ?_
 refine tk at24 ?_
 refine tk at25 ?_
 refine tk at26 ?_
 refine tk at28 ?_
 refine tk at29 ?_
 refine wpAnyH_ready (rs := [27]) (by kernel_rfl) (by simp) ?_
 refine AllReadyH.cons at27 (fun K hK => ?_) AllReadyH.nil
 go_simp
 refine (fsame_sm (b_ := bS) (HSM.out.keep (J10 M))).mono ?_
 rintro e w45 ⟨rfl, hb⟩
 replace M := gnM hb M
 clear hb
 (try go_wp2_with fail)
 refine hK.out _ _ (((J9 M).1.t4 ((J8 M).1.t4 ((J7 M).1.t4 ((J6 M).1.d4))))) (fun hH77 => ?_)
 clear hK K hH76
 (try simp only [Act.put, List.setIfInBounds_toArray, List.set_cons_zero, List.set_cons_succ])
 refine wpAnyH_ready (rs := [30]) (by kernel_rfl) (by simp) ?_
 refine AllReadyH.cons at30 (fun K hK => ?_) AllReadyH.nil
 go_simp
 refine (rfsame_sm (b_ := bS) (HSM.out.keep (J10 M))).mono ?_
 rintro e w46 ⟨rfl, hb⟩
 replace M := gnM hb M
 clear hb
 (try go_wp2_with fail)
 refine hK.out _ _ (((J9 M).1.t4 ((J8 M).1.t4 ((J7 M).1.t4 ((J6 M).1.d4))))) (fun hH78 => ?_)
 clear hK K hH77
 (try simp only [Act.put, List.setIfInBounds_toArray, List.set_cons_zero, List.set_cons_succ])
 refine tk at31 ?_
 refine tk at32 ?_
 refine tk at33 ?_
 refine wpAnyH_done (by kernel_rfl) ?_ _
 clear hH78
 refine cj4 (J9 M).1.d4 fun aa ab ac ad => ?_
 refine cj4 (J8 M).1.d4 fun ae af ag ah => ?_
 go_wp2_with fail
 clear aa ab ac ad ae af ag ah
 refine (fMin_u (G := G) (o1 := o1) (o2 := o2) (o := zI) (er := eO) (Nat.le_trans hG (J10 M).size) (H1.out.keep (J10 M)) (H2.out.keep (J10 M)) (Nat.le_trans HK1.out.1 (by decide)) (Nat.le_trans HK1.out.2 (by decide)) (Nat.le_trans HK2.out.1 (by decide)) (Nat.le_trans HK2.out.2 (by decide)) HzI.out HeO.out).mono ?_
 rintro e w47 ⟨x_79, x_80, x_81, x_82, rfl, hd83, hb⟩
 replace M := adM hd83 hb M
 clear hb hd83
 refine cj8 (J8 M).1.c4 fun bb bs bc bt bd bu bf bv => ?_
 refine cj4 (TQ.st (M.out.1)) fun dy dz ea eb => ?_
 go_upto_region 23 with fail
 clear bb bs bc bt bd bu bf bv dy dz ea eb
 have hz : w.heap.size ≤ w5.heap.size := by omega
 refine st4W (x_79) (x_80) (x_81) (x_82) (J8 M).1 (J11 M) hz fun w48 hv og hk hbw => ?_
 rw [← hv]
 replace M := Lib.hid (aI ((M.out.1).far (J8 M).1 (by rfl) (by omega) og) (aI ((J1 M).1.far (J8 M).1 (by rfl) (by omega) og) (aI ((J2 M).1.far (J8 M).1 (by rfl) (by omega) og) (aI ((J3 M).1.far (J8 M).1 (by rfl) (by omega) og) (aI ((J4 M).1.far (J8 M).1 (by rfl) (by omega) og) (aI ((J5 M).1.only og (by omega)) (aI ((J6 M).1.only og (by omega)) (aI ((J7 M).1.only og (by omega)) (aI hk (aI ((J9 M).1.only og (by omega)) (aI ((J10 M).1.only og (by omega)) hbw)))))))))))
 clear hk hbw og hv hz
 refine cj4 (J10 M).1.d4 fun aa ab ac ad => ?_
 refine cj4 (J9 M).1.d4 fun ae af ag ah => ?_
 go_wp2_with fail
 clear aa ab ac ad ae af ag ah
 refine (gMin_u (G := G) (o1 := o1) (o2 := o2) (o := zI) (er := eO) (Nat.le_trans hG (J11 M).size) (H1.out.keep (J11 M)) (H2.out.keep (J11 M)) (Nat.le_trans HK1.out.1 (by decide)) (Nat.le_trans HK1.out.2 (by decide)) (Nat.le_trans HK2.out.1 (by decide)) (Nat.le_trans HK2.out.2 (by decide)) HzI.out HeO.out).mono ?_
 rintro e w49 ⟨x_84, x_85, x_86, x_87, rfl, hd88, hb⟩
 replace M := adM hd88 hb M
 clear hb hd88
 refine cj8 (J8 M).1.c4 fun bg cb bh cc bi cd bj ce => ?_
 refine cj4 (TQ.st (M.out.1)) fun ec ed ee ef => ?_
 go_upto_region 24 with fail
 clear bg cb bh cc bi cd bj ce ec ed ee ef
 have hz : w.heap.size ≤ w7.heap.size := by omega
 refine st4W (x_84) (x_85) (x_86) (x_87) (J8 M).1 (J12 M) hz fun w50 hv og hk hbw => ?_
 rw [← hv]
 replace M := Lib.hid (aI ((M.out.1).far (J8 M).1 (by rfl) (by omega) og) (aI ((J1 M).1.far (J8 M).1 (by rfl) (by omega) og) (aI ((J2 M).1.far (J8 M).1 (by rfl) (by omega) og) (aI ((J3 M).1.far (J8 M).1 (by rfl) (by omega) og) (aI ((J4 M).1.far (J8 M).1 (by rfl) (by omega) og) (aI ((J5 M).1.far (J8 M).1 (by rfl) (by omega) og) (aI ((J6 M).1.only og (by omega)) (aI ((J7 M).1.only og (by omega)) (aI hk (aI ((J9 M).1.only og (by omega)) (aI ((J10 M).1.only og (by omega)) (aI ((J11 M).1.only og (by omega)) hbw))))))))))))
 clear hk hbw og hv hz
 refine cj4 (J11 M).1.d4 fun aa ab ac ad => ?_
 refine cj4 (J10 M).1.d4 fun ae af ag ah => ?_
 go_wp2_with fail
 clear aa ab ac ad ae af ag ah
 refine (fMax_u (G := G) (o1 := o1) (o2 := o2) (o := zX) (er := eO) (Nat.le_trans hG (J12 M).size) (H1.out.keep (J12 M)) (H2.out.keep (J12 M)) (Nat.le_trans HK1.out.1 (by decide)) (Nat.le_trans HK1.out.2 (by decide)) (Nat.le_trans HK2.out.1 (by decide)) (Nat.le_trans HK2.out.2 (by decide)) HzX.out HeO.out).mono ?_
 rintro e w51 ⟨x_89, x_90, x_91, x_92, rfl, hd93, hb⟩
 replace M := adM hd93 hb M
 clear hb hd93
 refine cj8 (J8 M).1.c4 fun bk cj bl ck bm cl bn cm => ?_
 refine cj4 (TQ.st (M.out.1)) fun eg eh ei ej => ?_
 go_upto_region 25 with fail
 clear bk cj bl ck bm cl bn cm eg eh ei ej
 have hz : w.heap.size ≤ w9.heap.size := by omega
 refine st4W (x_89) (x_90) (x_91) (x_92) (J8 M).1 (J13 M) hz fun w52 hv og hk hbw => ?_
 rw [← hv]
 replace M := Lib.hid (aI ((M.out.1).far (J8 M).1 (by rfl) (by omega) og) (aI ((J1 M).1.far (J8 M).1 (by rfl) (by omega) og) (aI ((J2 M).1.far (J8 M).1 (by rfl) (by omega) og) (aI ((J3 M).1.far (J8 M).1 (by rfl) (by omega) og) (aI ((J4 M).1.far (J8 M).1 (by rfl) (by omega) og) (aI ((J5 M).1.far (J8 M).1 (by rfl) (by omega) og) (aI ((J6 M).1.far (J8 M).1 (by rfl) (by omega) og) (aI ((J7 M).1.only og (by omega)) (aI hk (aI ((J9 M).1.only og (by omega)) (aI ((J10 M).1.only og (by omega)) (aI ((J11 M).1.only og (by omega)) (aI ((J12 M).1.only og (by omega)) hbw)))))))))))))
 clear hk hbw og hv hz
 refine cj4 (J12 M).1.d4 fun aa ab ac ad => ?_
 refine cj4 (J11 M).1.d4 fun ae af ag ah => ?_
 go_wp2_with fail
 clear aa ab ac ad ae af ag ah
 replace M := Lib.hid (aI (M.out.1) (aI (J1 M).1 (aI (J2 M).1 (aI (J5 M).1 (aI (J7 M).1 (aI (J8 M).1 (aI (J9 M).1 (aI (J10 M).1 (aI (J12 M).1 (J13 M))))))))))
 refine (gMax_u (G := G) (o1 := o1) (o2 := o2) (o := zX) (er := eO) (Nat.le_trans hG (J9 M).size) (H1.out.keep (J9 M)) (H2.out.keep (J9 M)) (Nat.le_trans HK1.out.1 (by decide)) (Nat.le_trans HK1.out.2 (by decide)) (Nat.le_trans HK2.out.1 (by decide)) (Nat.le_trans HK2.out.2 (by decide)) HzX.out HeO.out).mono ?_
 rintro e w53 ⟨x_94, x_95, x_96, x_97, rfl, hd98, hb⟩
 replace M := adM hd98 hb M
 clear hb hd98
 refine cj8 (J5 M).1.c4 fun bo cr bp cs bq ct br cu => ?_
 refine cj4 (TQ.st (M.out.1)) fun ek el em en => ?_
 go_wp2_with fail
 clear bo cr bp cs bq ct br cu ek el em en
 have hz : w.heap.size ≤ w11.heap.size := by omega
 refine st4W (x_94) (x_95) (x_96) (x_97) (J5 M).1 (J10 M) hz fun w54 hv og hk hbw => ?_
 rw [← hv]
 replace M := Lib.hid (aI ((M.out.1).far (J5 M).1 (by rfl) (by omega) og) (aI ((J1 M).1.far (J5 M).1 (by rfl) (by omega) og) (aI ((J2 M).1.far (J5 M).1 (by rfl) (by omega) og) (aI ((J3 M).1.far (J5 M).1 (by rfl) (by omega) og) (aI ((J4 M).1.far (J5 M).1 (by rfl) (by omega) og) (aI hk (aI ((J6 M).1.only og (by omega)) (aI ((J7 M).1.only og (by omega)) (aI ((J8 M).1.only og (by omega)) (aI ((J9 M).1.only og (by omega)) hbw))))))))))
 clear hk hbw og hv hz
 replace M := Lib.hid (aI (M.out.1) (aI (J1 M).1 (aI (J2 M).1 (aI (J3 M).1 (aI (J5 M).1 (aI (J6 M).1 (aI (J7 M).1 (aI (J8 M).1 (aI (J9 M).1 (J10 M))))))))))
 refine nmW w54.drew fun w55 hv => ?_
 replace M := drM hv M
 refine wp_region_held_drew (S := (fun w' => w'.cell? ⟨w.heap.size, 0, none⟩ = some (u0) ∧ w'.cell? ⟨w.heap.size, 1, none⟩ = some (u1) ∧ w'.cell? ⟨w.heap.size, 2, none⟩ = some (u2) ∧ w'.cell? ⟨w.heap.size, 3, none⟩ = some (u3) ∧ w'.cell? ⟨w5.heap.size, 0, none⟩ = some (x_79) ∧ w'.cell? ⟨w5.heap.size, 1, none⟩ = some (x_80) ∧ w'.cell? ⟨w5.heap.size, 2, none⟩ = some (x_81) ∧ w'.cell? ⟨w5.heap.size, 3, none⟩ = some (x_82) ∧ w'.cell? ⟨w7.heap.size, 0, none⟩ = some (x_84) ∧ w'.cell? ⟨w7.heap.size, 1, none⟩ = some (x_85) ∧ w'.cell? ⟨w7.heap.size, 2, none⟩ = some (x_86) ∧ w'.cell? ⟨w7.heap.size, 3, none⟩ = some (x_87) ∧ w'.cell? ⟨w9.heap.size, 0, none⟩ = some (x_89) ∧ w'.cell? ⟨w9.heap.size, 1, none⟩ = some (x_90) ∧ w'.cell? ⟨w9.heap.size, 2, none⟩ = some (x_91) ∧ w'.cell? ⟨w9.heap.size, 3, none⟩ = some (x_92) ∧ w'.cell? ⟨w11.heap.size, 0, none⟩ = some (x_94) ∧ w'.cell? ⟨w11.heap.size, 1, none⟩ = some (x_95) ∧ w'.cell? ⟨w11.heap.size, 2, none⟩ = some (x_96) ∧ w'.cell? ⟨w11.heap.size, 3, none⟩ = some (x_97))) (by kernel_rfl) (by rw [← hv]; exact ((J8 M).1.t4 ((J7 M).1.t4 ((J6 M).1.t4 ((J5 M).1.t4 ((J4 M).1.d4)))))) (fun hH119 => ?_)
 rw [← hv] at hH119 ⊢
 clear hv
 refine tk at0 ?_
 refine tk at1 ?_
 refine tk at2 ?_
 refine tk at3 ?_
 refine tk at4 ?_
 refine tk at5 ?_
 refine tk at6 ?_
 refine tk at7 ?_
 refine tk at8 ?_
 refine tk at9 ?_
 refine tk at10 ?_
 refine wpAnyH_ready (rs := [11]) (by kernel_rfl) (by simp) ?_
 refine AllReadyH.cons at11 (fun K hK => ?_) AllReadyH.nil
 go_simp
 refine (rfsame_o (G := G) (o := zI) (p := zI) (b_ := true) (J3 M).1 (J2 M).1 (Oz.mono SzI.out (by omega)) (Oz.mono SzI.out (by omega)) (by simp)).mono ?_
 rintro e w56 ⟨rfl, hb⟩
 replace M := gnM hb M
 clear hb
 (try go_wp2_with fail)
 refine hK.out _ _ (((J8 M).1.t4 ((J7 M).1.t4 ((J6 M).1.t4 ((J5 M).1.t4 ((J4 M).1.d4)))))) (fun hH120 => ?_)
 clear hK K hH119
 (try simp only [Act.put, List.setIfInBounds_toArray, List.set_cons_zero, List.set_cons_succ])
 refine tk at12 ?_
 refine tk at13 ?_
 refine tk at14 ?_
 refine tk at15 ?_
 refine wpAnyH_ready (rs := [16]) (by kernel_rfl) (by simp) ?_
 refine AllReadyH.cons at16 (fun K hK => ?_) AllReadyH.nil
 go_simp
 refine (rfsame_o (G := G) (o := zX) (p := zX) (b_ := true) (J1 M).1 (M.out.1) (Oz.mono SzX.out (by omega)) (Oz.mono SzX.out (by omega)) (by simp)).mono ?_
 rintro e w57 ⟨rfl, hb⟩
 replace M := gnM hb M
 clear hb
 (try go_wp2_with fail)
 refine hK.out _ _ (((J8 M).1.t4 ((J7 M).1.t4 ((J6 M).1.t4 ((J5 M).1.t4 ((J4 M).1.d4)))))) (fun hH121 => ?_)
 clear hK K hH120
 (try simp only [Act.put, List.setIfInBounds_toArray, List.set_cons_zero, List.set_cons_succ])
 refine tk at17 ?_
 refine tk at18 ?_
 refine tk at19 ?_
 refine tk at21 ?_
 refine wpAnyH_ready (rs := [20]) (by kernel_rfl) (by simp) ?_
 refine AllReadyH.cons at20 (fun K hK => ?_) AllReadyH.nil
 go_simp
 refine (fNeg_u (G := G) (o1 := o1) (o := zG) (Nat.le_trans hG (J9 M).size) (H1.out.keep (J9 M)) (Nat.le_trans HK1.out.1 (by decide)) (Nat.le_trans HK1.out.2 (by decide)) HzG.out).mono ?_
 rintro e w58 ⟨x_122, x_123, x_124, x_125, rfl, hd126, hb⟩
 replace M := adM hd126 hb M
 clear hb hd126
 (try go_wp2_with fail)
 refine hK.out _ _ (((J9 M).1.t4 ((J8 M).1.t4 ((J7 M).1.t4 ((J6 M).1.t4 ((J5 M).1.d4)))))) (fun hH127 => ?_)
 clear hK K hH121
 (try simp only [Act.put, List.setIfInBounds_toArray, List.set_cons_zero, List.set_cons_succ])
 refine wpAnyH_ready (rs := [22]) (by kernel_rfl) (by simp) ?_
 refine AllReadyH.cons at22 (fun K hK => ?_) AllReadyH.nil
 go_simp
 refine (gNeg_u (G := G) (o1 := o1) (o := zG) (Nat.le_trans hG (J10 M).size) (H1.out.keep (J10 M)) (Nat.le_trans HK1.out.1 (by decide)) (Nat.le_trans HK1.out.2 (by decide)) HzG.out).mono ?_
 rintro e w59 ⟨x_128, x_129, x_130, x_131, rfl, hd132, hb⟩
 replace M := adM hd132 hb M
 clear hb hd132
 (try go_wp2_with fail)
 refine hK.out _ _ (((J10 M).1.t4 ((J9 M).1.t4 ((J8 M).1.t4 ((J7 M).1.t4 ((J6 M).1.d4)))))) (fun hH133 => ?_)
 clear hK K hH127
 (try simp only [Act.put, List.setIfInBounds_toArray, List.set_cons_zero, List.set_cons_succ])
 refine wpAnyH_ready (rs := [23]) (by kernel_rfl) (by simp) ?_
 refine AllReadyH.cons at23 (fun K hK => ?_) AllReadyH.nil
 go_simp
 refine (rfsame_o (G := G) (o := zG) (p := zG) (b_ := true) (J1 M).1 (M.out.1) (Oz.mono SzG.out (by omega)) (Oz.mono SzG.out (by omega)) (by simp)).mono ?_
 rintro e w60 ⟨rfl, hb⟩
 replace M := gnM hb M
 clear hb
 (try go_wp2_with fail)
 refine hK.out _ _ (((J10 M).1.t4 ((J9 M).1.t4 ((J8 M).1.t4 ((J7 M).1.t4 ((J6 M).1.d4)))))) (fun hH134 => ?_)
 clear hK K hH133
 (try simp only [Act.put, List.setIfInBounds_toArray, List.set_cons_zero, List.set_cons_succ])
 refine tk at24 ?_
 refine tk at25 ?_
 refine tk at26 ?_
 refine tk at28 ?_
 refine wpAnyH_ready (rs := [27]) (by kernel_rfl) (by simp) ?_
 refine AllReadyH.cons at27 (fun K hK => ?_) AllReadyH.nil
 go_simp
 refine (fSign_u (G := G) (o1 := o1) (k := sS) (Nat.le_trans hG (J11 M).size) (H1.out.keep (J11 M)) (Nat.le_trans HK1.out.1 (by decide)) (Nat.le_trans HK1.out.2 (by decide)) HsS.out).mono ?_
 rintro e w61 ⟨rfl, hb⟩
 replace M := gnM hb M
 clear hb
 (try go_wp2_with fail)
 refine hK.out _ _ (((J10 M).1.t4 ((J9 M).1.t4 ((J8 M).1.t4 ((J7 M).1.t4 ((J6 M).1.d4)))))) (fun hH135 => ?_)
 clear hK K hH134
 (try simp only [Act.put, List.setIfInBounds_toArray, List.set_cons_zero, List.set_cons_succ])
 refine wpAnyH_ready (rs := [29]) (by kernel_rfl) (by simp) ?_
 refine AllReadyH.cons at29 (fun K hK => ?_) AllReadyH.nil
 go_simp
 refine (gSign_u (G := G) (o1 := o1) (k := sS) (Nat.le_trans hG (J11 M).size) (H1.out.keep (J11 M)) (Nat.le_trans HK1.out.1 (by decide)) (Nat.le_trans HK1.out.2 (by decide)) HsS.out).mono ?_
 rintro e w62 ⟨rfl, hb⟩
 replace M := gnM hb M
 clear hb
 (try go_wp2_with fail)
 refine hK.out _ _ (((J10 M).1.t4 ((J9 M).1.t4 ((J8 M).1.t4 ((J7 M).1.t4 ((J6 M).1.d4)))))) (fun hH136 => ?_)
 clear hK K hH135
 (try simp only [Act.put, List.setIfInBounds_toArray, List.set_cons_zero, List.set_cons_succ])
 refine tk at30 ?_
 refine tk at31 ?_
 refine tk at32 ?_
 refine tk at33 ?_
 refine tk at35 ?_
 refine wpAnyH_ready (rs := [34]) (by kernel_rfl) (by simp) ?_
 refine AllReadyH.cons at34 (fun K hK => ?_) AllReadyH.nil
 go_simp
 refine (fInt_u (G := G) (x := i1) (o := zQ) HI1.out HzQ.out).mono ?_
 rintro e w63 ⟨x_137, x_138, x_139, x_140, rfl, hd141, hb⟩
 replace M := adM hd141 hb M
 clear hb hd141
 (try go_wp2_with fail)
 refine hK.out _ _ (((J11 M).1.t4 ((J10 M).1.t4 ((J9 M).1.t4 ((J8 M).1.t4 ((J7 M).1.d4)))))) (fun hH142 => ?_)
 clear hK K hH136
 (try simp only [Act.put, List.setIfInBounds_toArray, List.set_cons_zero, List.set_cons_succ])
 refine wpAnyH_ready (rs := [36]) (by kernel_rfl) (by simp) ?_
 refine AllReadyH.cons at36 (fun K hK => ?_) AllReadyH.nil
 go_simp
 refine (gInt_u (G := G) (x := i1) (o := zQ) HI1.out HzQ.out).mono ?_
 rintro e w64 ⟨x_143, x_144, x_145, x_146, rfl, hd147, hb⟩
 replace M := adM hd147 hb M
 clear hb hd147
 (try go_wp2_with fail)
 refine hK.out _ _ (((J12 M).1.t4 ((J11 M).1.t4 ((J10 M).1.t4 ((J9 M).1.t4 ((J8 M).1.d4)))))) (fun hH148 => ?_)
 clear hK K hH142
 (try simp only [Act.put, List.setIfInBounds_toArray, List.set_cons_zero, List.set_cons_succ])
 refine wpAnyH_ready (rs := [37]) (by kernel_rfl) (by simp) ?_
 refine AllReadyH.cons at37 (fun K hK => ?_) AllReadyH.nil
 go_simp
 refine (rfsame_o (G := G) (o := zQ) (p := zQ) (b_ := true) (J1 M).1 (M.out.1) (Oz.mono SzQ.out (by omega)) (Oz.mono SzQ.out (by omega)) (by simp)).mono ?_
 rintro e w65 ⟨rfl, hb⟩
 replace M := gnM hb M
 clear hb
 (try go_wp2_with fail)
 refine hK.out _ _ (((J12 M).1.t4 ((J11 M).1.t4 ((J10 M).1.t4 ((J9 M).1.t4 ((J8 M).1.d4)))))) (fun hH149 => ?_)
 clear hK K hH148
 (try simp only [Act.put, List.setIfInBounds_toArray, List.set_cons_zero, List.set_cons_succ])
 refine tk at38 ?_
 refine tk at39 ?_
 refine wpAnyH_done (by kernel_rfl) ?_ _
 clear hH149
 go_wp2_with fail
 replace M := Lib.hid (aI (J12 M).1 (J13 M))
 refine nmW w65.drew fun w66 hv => ?_
 replace M := drM hv M
 refine wp_region_held_drew (S := (fun w' => w'.cell? ⟨w.heap.size, 0, none⟩ = some (u0) ∧ w'.cell? ⟨w.heap.size, 1, none⟩ = some (u1) ∧ w'.cell? ⟨w.heap.size, 2, none⟩ = some (u2) ∧ w'.cell? ⟨w.heap.size, 3, none⟩ = some (u3))) (by kernel_rfl) (by rw [← hv]; exact (M.out.1).d4) (fun hH156 => ?_)
 rw [← hv] at hH156 ⊢
 clear hv
 refine tk at0 ?_
 refine tk at1 ?_
 refine tk at2 ?_
 refine tk at3 ?_
 refine tk at4 ?_
 refine tk at5 ?_
 refine tk at6 ?_
 refine tk at7 ?_
 refine tk at8 ?_
 refine tk at9 ?_
 refine tk at10 ?_
 refine tk at11 ?_
 refine tk at12 ?_
 refine tk at13 ?_
 refine tk at14 ?_
 refine tk at15 ?_
 refine tk at16 ?_
 refine tk at17 ?_
 refine tk at19 ?_
 refine wpAnyH_ready (rs := [18]) (by kernel_rfl) (by simp) ?_
 refine AllReadyH.cons at18 (fun K hK => ?_) AllReadyH.nil
 go_simp
 refine (fText_u (G := G) (o1 := o1) (s := tx) (Nat.le_trans hG (J1 M).size) (H1.out.keep (J1 M)) (Nat.le_trans HK1.out.1 (by decide)) (Nat.le_trans HK1.out.2 (by decide)) (HT.out.keep (J1 M)) Htx.out).mono ?_
 rintro e w67 ⟨rfl, hb⟩
 replace M := gnM hb M
 clear hb
 (try go_wp2_with fail)
 refine hK.out _ _ ((M.out.1).d4) (fun hH157 => ?_)
 clear hK K hH156
 (try simp only [Act.put, List.setIfInBounds_toArray, List.set_cons_zero, List.set_cons_succ])
 refine wpAnyH_ready (rs := [20]) (by kernel_rfl) (by simp) ?_
 refine AllReadyH.cons at20 (fun K hK => ?_) AllReadyH.nil
 go_simp
 refine (gText_u (G := G) (o1 := o1) (s := tx) (Nat.le_trans hG (J1 M).size) (H1.out.keep (J1 M)) (Nat.le_trans HK1.out.1 (by decide)) (Nat.le_trans HK1.out.2 (by decide)) Htx.out).mono ?_
 rintro e w68 ⟨rfl, hb⟩
 replace M := gnM hb M
 clear hb
 (try go_wp2_with fail)
 refine hK.out _ _ ((M.out.1).d4) (fun hH158 => ?_)
 clear hK K hH157
 (try simp only [Act.put, List.setIfInBounds_toArray, List.set_cons_zero, List.set_cons_succ])
 refine tk at21 ?_
 refine tk at22 ?_
 refine tk at23 ?_
 refine tk at24 ?_
 refine tk at26 ?_
 refine wpAnyH_ready (rs := [25]) (by kernel_rfl) (by simp) ?_
 refine AllReadyH.cons at25 (fun K hK => ?_) AllReadyH.nil
 go_simp
 refine (fFloor_u (G := G) (o1 := o1) (z := zL) (Nat.le_trans hG (J1 M).size) (H1.out.keep (J1 M)) (Nat.le_trans HK1.out.1 (by decide)) (Nat.le_trans HK1.out.2 (by decide)) HzL.out).mono ?_
 rintro e w69 ⟨a_159, c_160, rfl, hd161, hb⟩
 replace M := adM hd161 hb M
 clear hb hd161
 (try go_wp2_with fail)
 refine hK.out _ _ ((J1 M).1.d4) (fun hH162 => ?_)
 clear hK K hH158
 (try simp only [Act.put, List.setIfInBounds_toArray, List.set_cons_zero, List.set_cons_succ])
 refine wpAnyH_ready (rs := [27]) (by kernel_rfl) (by simp) ?_
 refine AllReadyH.cons at27 (fun K hK => ?_) AllReadyH.nil
 go_simp
 refine (gFloor_u (G := G) (o1 := o1) (z := zL) (Nat.le_trans hG (J2 M).size) (H1.out.keep (J2 M)) (Nat.le_trans HK1.out.1 (by decide)) (Nat.le_trans HK1.out.2 (by decide)) HzL.out).mono ?_
 rintro e w70 ⟨a_163, c_164, rfl, hd165, hb⟩
 replace M := adM hd165 hb M
 clear hb hd165
 (try go_wp2_with fail)
 refine hK.out _ _ ((J2 M).1.d4) (fun hH166 => ?_)
 clear hK K hH162
 (try simp only [Act.put, List.setIfInBounds_toArray, List.set_cons_zero, List.set_cons_succ])
 refine wpAnyH_ready (rs := [28]) (by kernel_rfl) (by simp) ?_
 refine AllReadyH.cons at28 (fun K hK => ?_) AllReadyH.nil
 go_simp
 refine (samebig_is (G := G) (x := zL) (y := zL) (b := true) (J1 M).1 (M.out.1) (Sz.mono SzL.out (by omega)) (Sz.mono SzL.out (by omega)) (eqZ_of rfl)).mono ?_
 rintro e w71 ⟨rfl, hb⟩
 replace M := gnM hb M
 clear hb
 (try go_wp2_with fail)
 refine hK.out _ _ ((J2 M).1.d4) (fun hH167 => ?_)
 clear hK K hH166
 (try simp only [Act.put, List.setIfInBounds_toArray, List.set_cons_zero, List.set_cons_succ])
 refine tk at29 ?_
 refine tk at30 ?_
 refine wpAnyH_done (by kernel_rfl) ?_ _
 clear hH167
 go_wp2_with fail
 go_ret
 exact ⟨rfl, (J3 M)⟩
theorem ftells_walk {S : ByteArray} {i1 i2 s t s' t' : Int} {la ma lb mb : List Int} {a1 b1 a2 b2 : Option Addr} {c1 d1 c2 d2 : Nat} {w : World} (hi1_ : (Lit.int .i64 i1).wf = true) (hi2_ : (Lit.int .i64 i2).wf = true) (ht : Tab w) (hm : Mx w) (h1 : FR w a1 c1 b1 d1 la ma) (h2 : FR w a2 c2 b2 d2 lb mb) :
  Calls Tryz.prog 3 #[.agg #[.int .i64 s, .slice a1 la.length c1, .int .i64 t, .slice b1 ma.length d1], .agg #[.int .i64 s', .slice a2 lb.length c2, .int .i64 t', .slice b2 mb.length d2], .int .i64 i1, .int .i64 i2, .string S] w fun e w' => e = .returned (.bool true) ∧ Below w.heap.size w w' := by
 have hi1 : -9223372036854775808 ≤ i1 ∧ i1 ≤ 9223372036854775807 := by simpa [Lit.wf, IntKind.min, IntKind.max, IntKind.signed, IntKind.bits] using hi1_
 have hi2 : -9223372036854775808 ≤ i2 ∧ i2 ≤ 9223372036854775807 := by simpa [Lit.wf, IntKind.min, IntKind.max, IntKind.signed, IntKind.bits] using hi2_
 obtain ⟨o1, x1⟩ := fx_of (s := s) (t := t) h1
 obtain ⟨o2, x2⟩ := fx_of (s := s') (t := t') h2
 cases hq : ((decide ((la.length : Int) ≤ 40) && decide ((ma.length : Int) ≤ 40)) && ((decide ((lb.length : Int) ≤ 40) && decide ((mb.length : Int) ≤ 40)) && !decide (300 < S.size))) with
 | false => exact ftells_far (G := w.heap.size) (Nat.le_refl _) ht hm (fy_of x1) (fy_of x2) rfl rfl hq
 | true =>
  obtain ⟨hc1, hq⟩ := Bool.and_eq_true _ _ ▸ hq
  obtain ⟨hc2, hq⟩ := Bool.and_eq_true _ _ ▸ hq
  have e1 := few_1 hc1; have e2 := few_1 hc2
  have hbl : decide (300 < S.size) = false := by simpa using hq
  obtain ⟨pA, g1⟩ := bx_of (s := s) h1.n1 h1.n2 (by omega)
  obtain ⟨pB, g2⟩ := bx_of (s := s') h2.n1 h2.n2 (by omega)
  obtain ⟨bS, sm⟩ := sm_of x1 x2 (by omega) (by omega)
  have hl : S.data.toList.length ≤ 300 := by
   have := of_decide_eq_false hbl
   have : S.data.toList.length = S.size := rfl
   omega
  exact ftells_near (G := w.heap.size) (Nat.le_refl _) ht hm (fy_of x1) (fy_of x2) g1 g2 sm (str_eta S) hl hc1 hc2 hbl hi1 hi2
end Go.Proofs.YtcfmakpckdicjaaGreatDoor
