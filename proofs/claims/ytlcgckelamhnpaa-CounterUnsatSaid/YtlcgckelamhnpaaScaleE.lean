/- Scale: recalls. -/
import Derived.Test.YtlcgckelamhnpaaBase
import Derived.Test.YtlcgckelamhnpaaBigSpec
import Derived.Test.YtlcgckelamhnpaaBigA
import Derived.Test.YtlcgckelamhnpaaBigB
import Derived.Test.YtlcgckelamhnpaaBigC
import Derived.Test.YtlcgckelamhnpaaBigD
import Derived.Test.YtlcgckelamhnpaaBigQ
import Derived.Test.YtlcgckelamhnpaaHeld
import Derived.Test.YtlcgckelamhnpaaProg
import Derived.WalkKit
import Derived.WalkSpells
import Derived.WalkLawsBesides
import Derived.Handy
import Derived.Lib.Hide
import Derived.Lib.Strings
import Derived.Lib.Builder
import Derived.BigQuiet
import Derived.OwnWalk
import Derived.Laws.BitsLemmas
import Derived.WalkSmall
import Derived.Deep.QuietTactic
import Derived.StillTailTactics
import Derived.Maps.AppendAt
import Derived.IntWalk
import Derived.Deep.RegionHeld3
import Derived.Deep.DeepFit
namespace Go.Proofs.Ytlcgckelamhnpaa
open Go.RowKit

/-- A certificate: its scale, its first and its last day, its units, its share in thousandths, its drift. -/
structure Ct where
 s : Int
 f : Int
 u : Int
 n : Int
 p : Int
 d : Int
/-- A recall: its scale, its day. -/
structure Rc where
 s : Int
 t : Int
def cCells (c : Ct) : List Value := [.int .i64 c.s, .int .i64 c.f, .int .i64 c.u, .int .i64 c.n, .int .i64 c.p, .int .i64 c.d]
def rcCells (r : Rc) : List Value := [.int .i64 r.s, .int .i64 r.t]
def inR (n lo hi : Int) : Bool := decide (lo ≤ n) && decide (n ≤ hi)
def daysC (c : Ct) : Bool := decide (0 ≤ c.f) && decide (c.f ≤ c.u) && decide (c.u ≤ 100000)
def rightC (c : Ct) : Bool := daysC c && decide (0 ≤ c.s) && inR c.n 0 1099511627776 && inR c.p 0 1000 && inR c.d 0 10000000
def coversC (c : Ct) (day : Int) : Bool := rightC c && decide (c.f ≤ day) && decide (day ≤ c.u)
theorem within_ok (n m : Int) (w : World) : Calls Try.prog 71 #[.int .i64 n, .int .i64 m] w fun e w' => e = .returned (.bool (inR n 0 m)) ∧ w = w' := by
  unfold inR
  obtain ⟨b1, h1⟩ : ∃ b, b = decide (0 ≤ n) := ⟨_, rfl⟩
  obtain ⟨b2, h2⟩ : ∃ b, b = decide (n ≤ m) := ⟨_, rfl⟩
  rw [← h1, ← h2]
  replace h1 := h1.symm
  replace h2 := h2.symm
  go_enter Try.func71, Try.ntmps71
  cases b1
  · go_wp2_with fail
    go_ret
    exact ⟨rfl, rfl⟩
  · go_wp2_with fail
    go_ret
    exact ⟨rfl, rfl⟩
set_option maxRecDepth 100000 in
set_option maxHeartbeats 4000000 in
theorem scRight_ok (c : Ct) (w : World) : Calls Try.prog 87 #[.agg (cCells c).toArray] w fun e w' => e = .returned (.bool (rightC c)) ∧ Below w.heap.size w w' := by
 obtain ⟨s, f, u, n, p, d⟩ := c
 unfold rightC daysC cCells
 show Calls _ _ #[.agg #[.int .i64 s, .int .i64 f, .int .i64 u, .int .i64 n, .int .i64 p, .int .i64 d]] _ _
 obtain ⟨b1, h1⟩ : ∃ b, b = decide (0 ≤ f) := ⟨_, rfl⟩
 obtain ⟨b2, h2⟩ : ∃ b, b = decide (f ≤ u) := ⟨_, rfl⟩
 obtain ⟨b3, h3⟩ : ∃ b, b = decide (u ≤ 100000) := ⟨_, rfl⟩
 obtain ⟨b4, h4⟩ : ∃ b, b = decide (0 ≤ s) := ⟨_, rfl⟩
 obtain ⟨b5, h5⟩ : ∃ b, b = inR n 0 1099511627776 := ⟨_, rfl⟩
 obtain ⟨b6, h6⟩ : ∃ b, b = inR p 0 1000 := ⟨_, rfl⟩
 obtain ⟨b7, h7⟩ : ∃ b, b = inR d 0 10000000 := ⟨_, rfl⟩
 rw [← h1, ← h2, ← h3, ← h4, ← h5, ← h6, ← h7]
 replace h1 := h1.symm
 replace h2 := h2.symm
 replace h3 := h3.symm
 replace h4 := h4.symm
 have H5 := Lib.hid h5
 have H6 := Lib.hid h6
 have H7 := Lib.hid h7
 clear h5 h6 h7
 go_enter Try.func87, Try.ntmps87
 go_wp2_with (go_at_call 71; refine (within_ok _ _ _).mono ?_; rintro e w' ⟨rfl, rfl⟩; first | rw [← H5.out] | rw [← H6.out] | rw [← H7.out])
 all_goals (go_ret; exact ⟨ret_bool (by simp [*]), by go_grown⟩)
set_option maxRecDepth 100000 in
set_option maxHeartbeats 4000000 in
theorem covers_ok (c : Ct) (day : Int) (w : World) : Calls Try.prog 68 #[.agg (cCells c).toArray, .int .i64 day] w fun e w' => e = .returned (.bool (coversC c day)) ∧ Below w.heap.size w w' := by
 obtain ⟨s, f, u, n, p, d⟩ := c
 unfold coversC cCells
 show Calls _ _ #[.agg #[.int .i64 s, .int .i64 f, .int .i64 u, .int .i64 n, .int .i64 p, .int .i64 d], .int .i64 day] _ _
 obtain ⟨b1, h1⟩ : ∃ b, b = rightC ⟨s, f, u, n, p, d⟩ := ⟨_, rfl⟩
 obtain ⟨b2, h2⟩ : ∃ b, b = decide (f ≤ day) := ⟨_, rfl⟩
 obtain ⟨b3, h3⟩ : ∃ b, b = decide (day ≤ u) := ⟨_, rfl⟩
 rw [← h1, ← h2, ← h3]
 replace h2 := h2.symm
 replace h3 := h3.symm
 have H1 := Lib.hid h1
 clear h1
 go_enter Try.func68, Try.ntmps68
 go_wp2_with fail
 refine (scRight_ok ⟨s, f, u, n, p, d⟩ _).mono ?_
 rintro e w1 ⟨rfl, hb⟩
 rw [← H1.out]
 have K0 := Lib.hid ((bx1 w 94 #[.int .i64 s, .int .i64 f, .int .i64 u, .int .i64 n, .int .i64 p, .int .i64 d]).keep hb)
 have HB : Hid (Below w.heap.size w w1) := below_call (by go_grown) hb
 clear hb
 have p1 : w1.cell? ⟨w.heap.size, 1, none⟩ = some (.int .i64 f) := K0.out.at.1 1
 have p2 : w1.cell? ⟨w.heap.size, 2, none⟩ = some (.int .i64 u) := K0.out.at.1 2
 go_wp2_with fail
 all_goals (go_ret; exact ⟨ret_bool (by simp [*]), HB.out⟩)
end Go.Proofs.Ytlcgckelamhnpaa
namespace Go.Proofs.Ytlcgckelamhnpaa
open Go.RowKit

def CtIn (w : World) (v : Value) (cs : List Ct) : Prop := RdS w v cs.length 6 (fun k => (cs[k]?.map cCells).getD [])
theorem CtIn.keep {w w' : World} {v : Value} {cs : List Ct} (h : CtIn w v cs) (hb : Below w.heap.size w w') : CtIn w' v cs := RdS.keep h hb
theorem CtIn.at {w : World} {a : Option Addr} {n cap : Nat} {cs : List Ct} (h : CtIn w (.slice a n cap) cs) {k : Nat} (hk : k < cs.length) :
  ∃ b off, a = some ⟨b, off, none⟩ ∧ b < w.heap.size ∧ ∀ j u, (cCells cs[k])[j]? = some u → w.cell? ⟨b, off + k * 6 + j, none⟩ = some u := by
 obtain ⟨a', cap', hv, hc⟩ := h
 cases hv
 obtain ⟨b, off, ha, hlt, hcell⟩ := hc k hk
 refine ⟨b, off, ha, hlt, fun j u hj => hcell j u ?_⟩
 show ((cs[k]?.map cCells).getD [])[j]? = some u
 rw [List.getElem?_eq_getElem hk]; exact hj
theorem CtIn.shape {w : World} {v : Value} {cs : List Ct} (h : CtIn w v cs) : ∃ a cap, v = .slice a cs.length cap := by
 obtain ⟨a, cap, hv, _⟩ := h; exact ⟨a, cap, hv⟩
def RcIn (w : World) (v : Value) (rs : List Rc) : Prop := RdS w v rs.length 2 (fun k => (rs[k]?.map rcCells).getD [])
theorem RcIn.keep {w w' : World} {v : Value} {rs : List Rc} (h : RcIn w v rs) (hb : Below w.heap.size w w') : RcIn w' v rs := RdS.keep h hb
theorem RcIn.at {w : World} {a : Option Addr} {n cap : Nat} {rs : List Rc} (h : RcIn w (.slice a n cap) rs) {k : Nat} (hk : k < rs.length) :
  ∃ b off, a = some ⟨b, off, none⟩ ∧ b < w.heap.size ∧ ∀ j u, (rcCells rs[k])[j]? = some u → w.cell? ⟨b, off + k * 2 + j, none⟩ = some u := by
 obtain ⟨a', cap', hv, hc⟩ := h
 cases hv
 obtain ⟨b, off, ha, hlt, hcell⟩ := hc k hk
 refine ⟨b, off, ha, hlt, fun j u hj => hcell j u ?_⟩
 show ((rs[k]?.map rcCells).getD [])[j]? = some u
 rw [List.getElem?_eq_getElem hk]; exact hj
theorem RcIn.shape {w : World} {v : Value} {rs : List Rc} (h : RcIn w v rs) : ∃ a cap, v = .slice a rs.length cap := by
 obtain ⟨a, cap, hv, _⟩ := h; exact ⟨a, cap, hv⟩
/-- The certificate in force among the first ones. -/
def laterB (cs : List Ct) (r : Option Nat) (c : Ct) : Bool := match r with | none => true | some b => (match cs[b]? with | none => false | some x => decide (x.f ≤ c.f))
def findS (cs : List Ct) (sc day : Int) : Nat → Option Nat
 | 0 => none
 | k + 1 => match cs[k]? with
  | none => findS cs sc day k
  | some c => if (c.s == sc && coversC c day && laterB cs (findS cs sc day k) c) = true then some k else findS cs sc day k
theorem findS_lt (cs : List Ct) (sc day : Int) : ∀ k b, findS cs sc day k = some b → b < k
  | 0, b, h => by simp [findS] at h
  | k + 1, b, h => by
    have ih := findS_lt cs sc day k b
    simp only [findS] at h
    split at h
    · have := ih h; omega
    · split at h
      · cases h; omega
      · have := ih h; omega
theorem findS_yes {cs : List Ct} {sc day : Int} {k : Nat} (hk : k < cs.length) (h : (cs[k].s == sc && coversC cs[k] day && laterB cs (findS cs sc day k) cs[k]) = true) : findS cs sc day (k + 1) = some k := by
 simp only [findS, List.getElem?_eq_getElem hk]; rw [if_pos h]
theorem findS_no {cs : List Ct} {sc day : Int} {k : Nat} (hk : k < cs.length) (h : (cs[k].s == sc && coversC cs[k] day && laterB cs (findS cs sc day k) cs[k]) = false) : findS cs sc day (k + 1) = findS cs sc day k := by
 simp only [findS, List.getElem?_eq_getElem hk]; rw [if_neg (by simp [h])]
def findC (cs : List Ct) (sc day : Int) : Option Nat := findS cs sc day cs.length
set_option maxRecDepth 100000 in
set_option maxHeartbeats 8000000 in
theorem scFind_ok (v : Value) (cs : List Ct) (sc day : Int) (w : World) (h : CtIn w v cs) (hn : cs.length ≤ 1099511627776) :
    Calls Try.prog 45 #[v, .int .i64 sc, .int .i64 day] w fun e w' => e = .returned (.tuple #[.int .i64 ((findC cs sc day).getD 0 : Nat), .bool (findC cs sc day).isSome]) ∧ Below w.heap.size w w' := by
  obtain ⟨a1, cap1, rfl⟩ := h.shape
  have H1 := Lib.hid h; clear h
  go_enter Try.func45, Try.ntmps45
  go_wp2_with fail
  go_loopw [8, 9, 14] (fun b fd i wr => ∃ (k : Nat) (r : Option Nat), k ≤ cs.length ∧ b = .int .i64 (r.getD 0 : Nat) ∧ fd = .bool r.isSome ∧ i = .int .i64 k ∧ Hid (findS cs sc day k = r) ∧ Hid (Below w.heap.size w wr)) (fun _ _ i _ => cs.length - (intOf i).toNat)
  case atStart => exact ⟨0, none, Nat.zero_le _, rfl, rfl, rfl, rfl, Below.refl _ _⟩
  case round =>
    obtain ⟨k, r, hk, hbest, hfound, rfl, HR, HB⟩ := hrel
    by_cases hlt : k < cs.length
    · have hI : (k : Int) < (cs.length : Int) := by omega
      obtain ⟨b, off, rfl, hb, hcell⟩ := (H1.out.keep HB.out).at hlt
      have HY := Lib.hid (findS_yes (cs := cs) (sc := sc) (day := day) hlt)
      have HN := Lib.hid (findS_no (cs := cs) (sc := sc) (day := day) hlt)
      obtain ⟨c, hc⟩ : ∃ c, c = cs[k] := ⟨_, rfl⟩
      rw [← hc] at hcell HY HN
      rw [HR.out] at HY HN
      obtain ⟨s, f, u, n, p, d⟩ := c
      have c0 : wr.cell? ⟨b, off + k * 6, none⟩ = some (.int .i64 s) := hcell 0 _ rfl
      have c1 : wr.cell? ⟨b, off + k * 6 + 1, none⟩ = some (.int .i64 f) := hcell 1 _ rfl
      have c2 : wr.cell? ⟨b, off + k * 6 + 2, none⟩ = some (.int .i64 u) := hcell 2 _ rfl
      have c3 : wr.cell? ⟨b, off + k * 6 + 3, none⟩ = some (.int .i64 n) := hcell 3 _ rfl
      have c4 : wr.cell? ⟨b, off + k * 6 + 4, none⟩ = some (.int .i64 p) := hcell 4 _ rfl
      have c5 : wr.cell? ⟨b, off + k * 6 + 5, none⟩ = some (.int .i64 d) := hcell 5 _ rfl
      have HD := Lib.hid hcell
      clear hcell hc
      obtain ⟨b1, h1⟩ : ∃ b, b = (s == sc) := ⟨_, rfl⟩
      obtain ⟨b2, h2⟩ : ∃ b, b = coversC ⟨s, f, u, n, p, d⟩ day := ⟨_, rfl⟩
      have H2 := Lib.hid h2
      have H3 := Lib.hid h1
      replace h1 := h1.symm
      clear h2
      go_wp2_with fail
      obtain ⟨w0, hw0⟩ : ∃ x, x = wr.alloc (.cells #[.int .i64 s, .int .i64 f, .int .i64 u, .int .i64 n, .int .i64 p, .int .i64 d] 94) := ⟨_, rfl⟩
      rw [← hw0]
      have K0 : Hid (Bx w0 wr.heap.size 94 #[.int .i64 s, .int .i64 f, .int .i64 u, .int .i64 n, .int .i64 p, .int .i64 d]) := by show Bx _ _ _ _; rw [hw0]; exact bx1 wr _ _
      have HB0 : Hid (Below wr.heap.size wr w0) := by show Below _ _ _; rw [hw0]; exact below_alloc _ _
      clear hw0 c0 c1 c2 c3 c4 c5
      cases r with
      | none =>
        replace hbest : u8 = .int .i64 0 := hbest
        replace hfound : u9 = .bool false := hfound
        subst hbest hfound
        cases b1
        · have mk : Hid (∀ w', Below w0.heap.size w0 w' → w'.cell? ⟨wr.heap.size, 0, none⟩ = some (.int .i64 s) ∧ w'.cell? ⟨wr.heap.size, 1, none⟩ = some (.int .i64 f) ∧ w'.cell? ⟨wr.heap.size, 2, none⟩ = some (.int .i64 u) ∧ w'.cell? ⟨wr.heap.size, 3, none⟩ = some (.int .i64 n) ∧ w'.cell? ⟨wr.heap.size, 4, none⟩ = some (.int .i64 p) ∧ w'.cell? ⟨wr.heap.size, 5, none⟩ = some (.int .i64 d) ∧ Below w0.heap.size w0 w') := fun w' h => ((K0.out.keep h).t6 (h))
          have hs0 : Below w0.heap.size w0 w0.drew := (Below.refl _ _).drew
          refine wp_region_held_drew (S := fun w' => w'.cell? ⟨wr.heap.size, 0, none⟩ = some (.int .i64 s) ∧ w'.cell? ⟨wr.heap.size, 1, none⟩ = some (.int .i64 f) ∧ w'.cell? ⟨wr.heap.size, 2, none⟩ = some (.int .i64 u) ∧ w'.cell? ⟨wr.heap.size, 3, none⟩ = some (.int .i64 n) ∧ w'.cell? ⟨wr.heap.size, 4, none⟩ = some (.int .i64 p) ∧ w'.cell? ⟨wr.heap.size, 5, none⟩ = some (.int .i64 d) ∧ Below w0.heap.size w0 w') (by kernel_rfl) (mk.out _ hs0) (fun hHeld => ?_)
          refine tk at0 ?_
          refine tk at1 ?_
          refine tk at2 ?_
          refine tk at3 ?_
          refine tk at4 ?_
          refine tu at5 ?_
          refine tu at6 ?_
          refine wpAnyH_ready (rs := [7]) (by kernel_rfl) (by simp) ?_
          refine AllReadyH.cons at7 (fun K hK => ?_) AllReadyH.nil
          rw [if_neg]
          rotate_left
          focus (intro h; exact Bool.noConfusion h)
          refine hK.out _ _ hHeld (fun _ => ?_)
          clear hK K
          (try simp only [Act.put, List.setIfInBounds_toArray, List.set_cons_zero, List.set_cons_succ])
          refine tk at8 ?_
          refine tk at9 ?_
          refine tu at10 ?_
          refine tu at11 ?_
          refine tu at12 ?_
          refine tu at13 ?_
          refine tu at14 ?_
          refine tu at15 ?_
          refine tu at16 ?_
          refine tu at17 ?_
          refine tu at18 ?_
          refine tu at19 ?_
          refine tu at20 ?_
          refine tu at21 ?_
          refine tk at22 ?_
          refine wpAnyH_done (by kernel_rfl) ?_ _
          go_wp2_with fail
          go_roundw
          case rel => exact ⟨k + 1, none, by omega, rfl, rfl, by go_num, HN.out (by rw [← H3.out, ← H2.out]; rfl), below_call HB.out (below_call HB0.out hs0)⟩
          case measure => simp [intOf]; omega
        · cases b2
          · have mk : Hid (∀ w', Below w0.heap.size w0 w' → w'.cell? ⟨wr.heap.size, 0, none⟩ = some (.int .i64 s) ∧ w'.cell? ⟨wr.heap.size, 1, none⟩ = some (.int .i64 f) ∧ w'.cell? ⟨wr.heap.size, 2, none⟩ = some (.int .i64 u) ∧ w'.cell? ⟨wr.heap.size, 3, none⟩ = some (.int .i64 n) ∧ w'.cell? ⟨wr.heap.size, 4, none⟩ = some (.int .i64 p) ∧ w'.cell? ⟨wr.heap.size, 5, none⟩ = some (.int .i64 d) ∧ Below w0.heap.size w0 w') := fun w' h => ((K0.out.keep h).t6 (h))
            have hs0 : Below w0.heap.size w0 w0.drew := (Below.refl _ _).drew
            refine wp_region_held_drew (S := fun w' => w'.cell? ⟨wr.heap.size, 0, none⟩ = some (.int .i64 s) ∧ w'.cell? ⟨wr.heap.size, 1, none⟩ = some (.int .i64 f) ∧ w'.cell? ⟨wr.heap.size, 2, none⟩ = some (.int .i64 u) ∧ w'.cell? ⟨wr.heap.size, 3, none⟩ = some (.int .i64 n) ∧ w'.cell? ⟨wr.heap.size, 4, none⟩ = some (.int .i64 p) ∧ w'.cell? ⟨wr.heap.size, 5, none⟩ = some (.int .i64 d) ∧ Below w0.heap.size w0 w') (by kernel_rfl) (mk.out _ hs0) (fun hHeld => ?_)
            refine tk at0 ?_
            refine tk at1 ?_
            refine tk at2 ?_
            refine tk at3 ?_
            refine tk at4 ?_
            refine tk at5 ?_
            refine tk at6 ?_
            refine wpAnyH_ready (rs := [7]) (by kernel_rfl) (by simp) ?_
            refine AllReadyH.cons at7 (fun K hK => ?_) AllReadyH.nil
            go_simp
            (go_at_call 68; refine (covers_ok ⟨s, f, u, n, p, d⟩ day _).mono ?_; rintro e w1 ⟨rfl, hb1⟩; have hs1 := below_call hs0 hb1; rw [← H2.out]; clear hb1)
            (try go_wp2_with fail)
            refine hK.out _ _ (mk.out _ hs1) (fun hHeld1 => ?_)
            clear hK K hHeld
            (try simp only [Act.put, List.setIfInBounds_toArray, List.set_cons_zero, List.set_cons_succ])
            refine tk at8 ?_
            refine tk at9 ?_
            refine tu at10 ?_
            refine tu at11 ?_
            refine tu at12 ?_
            refine tu at13 ?_
            refine tu at14 ?_
            refine tu at15 ?_
            refine tu at16 ?_
            refine tu at17 ?_
            refine tu at18 ?_
            refine tu at19 ?_
            refine tu at20 ?_
            refine tu at21 ?_
            refine tk at22 ?_
            refine wpAnyH_done (by kernel_rfl) ?_ _
            go_wp2_with fail
            go_roundw
            case rel => exact ⟨k + 1, none, by omega, rfl, rfl, by go_num, HN.out (by rw [← H3.out, ← H2.out]; rfl), below_call HB.out (below_call HB0.out hs1)⟩
            case measure => simp [intOf]; omega
          · have mk : Hid (∀ w', Below w0.heap.size w0 w' → w'.cell? ⟨wr.heap.size, 0, none⟩ = some (.int .i64 s) ∧ w'.cell? ⟨wr.heap.size, 1, none⟩ = some (.int .i64 f) ∧ w'.cell? ⟨wr.heap.size, 2, none⟩ = some (.int .i64 u) ∧ w'.cell? ⟨wr.heap.size, 3, none⟩ = some (.int .i64 n) ∧ w'.cell? ⟨wr.heap.size, 4, none⟩ = some (.int .i64 p) ∧ w'.cell? ⟨wr.heap.size, 5, none⟩ = some (.int .i64 d) ∧ Below w0.heap.size w0 w') := fun w' h => ((K0.out.keep h).t6 (h))
            have hs0 : Below w0.heap.size w0 w0.drew := (Below.refl _ _).drew
            refine wp_region_held_drew (S := fun w' => w'.cell? ⟨wr.heap.size, 0, none⟩ = some (.int .i64 s) ∧ w'.cell? ⟨wr.heap.size, 1, none⟩ = some (.int .i64 f) ∧ w'.cell? ⟨wr.heap.size, 2, none⟩ = some (.int .i64 u) ∧ w'.cell? ⟨wr.heap.size, 3, none⟩ = some (.int .i64 n) ∧ w'.cell? ⟨wr.heap.size, 4, none⟩ = some (.int .i64 p) ∧ w'.cell? ⟨wr.heap.size, 5, none⟩ = some (.int .i64 d) ∧ Below w0.heap.size w0 w') (by kernel_rfl) (mk.out _ hs0) (fun hHeld => ?_)
            refine tk at0 ?_
            refine tk at1 ?_
            refine tk at2 ?_
            refine tk at3 ?_
            refine tk at4 ?_
            refine tk at5 ?_
            refine tk at6 ?_
            refine wpAnyH_ready (rs := [7]) (by kernel_rfl) (by simp) ?_
            refine AllReadyH.cons at7 (fun K hK => ?_) AllReadyH.nil
            go_simp
            (go_at_call 68; refine (covers_ok ⟨s, f, u, n, p, d⟩ day _).mono ?_; rintro e w1 ⟨rfl, hb1⟩; have hs1 := below_call hs0 hb1; rw [← H2.out]; clear hb1)
            (try go_wp2_with fail)
            refine hK.out _ _ (mk.out _ hs1) (fun hHeld1 => ?_)
            clear hK K hHeld
            (try simp only [Act.put, List.setIfInBounds_toArray, List.set_cons_zero, List.set_cons_succ])
            refine tk at8 ?_
            refine tk at9 ?_
            refine tk at10 ?_
            refine tk at11 ?_
            refine tk at12 ?_
            refine tu at13 ?_
            refine tu at14 ?_
            refine tu at15 ?_
            refine tu at16 ?_
            refine tu at17 ?_
            refine tu at18 ?_
            refine tu at19 ?_
            refine tu at20 ?_
            refine tk at21 ?_
            refine tk at22 ?_
            refine wpAnyH_done (by kernel_rfl) ?_ _
            go_wp2_with fail
            go_roundw
            case rel => exact ⟨k + 1, some k, by omega, rfl, rfl, by go_num, HY.out (by rw [← H3.out, ← H2.out]; simp [laterB]), below_call HB.out (below_call HB0.out hs1)⟩
            case measure => simp [intOf]; omega
      | some g =>
        have hgk := findS_lt cs sc day k g HR.out
        have hgl : g < cs.length := by omega
        have hI2 : (g : Int) < (cs.length : Int) := by omega
        obtain ⟨b', off', hab, hb', hcell'⟩ := (H1.out.keep HB.out).at hgl
        cases hab
        obtain ⟨c', hc'⟩ : ∃ c, c = cs[g] := ⟨_, rfl⟩
        rw [← hc'] at hcell'
        have HGk : Hid (cs[g]? = some c') := by show _ = _; rw [List.getElem?_eq_getElem hgl, hc']
        obtain ⟨sg_, fg, ug_, ng_, pg_, dg_⟩ := c'
        have Hg1 : Hid (w0.cell? ⟨b, off + g * 6 + 1, none⟩ = some (.int .i64 fg)) := (HB0.out.cell hb').trans (hcell' 1 _ rfl)
        have HgB : Hid (b < w0.heap.size) := Nat.lt_of_lt_of_le hb' HB0.out.size
        clear hcell' hc'
        obtain ⟨b4, h4⟩ : ∃ b, b = decide (fg ≤ f) := ⟨_, rfl⟩
        replace h4 := h4.symm
        have H4 := Lib.hid h4
        replace hbest : u8 = .int .i64 (g : Int) := hbest
        replace hfound : u9 = .bool true := hfound
        subst hbest hfound
        cases b1
        · have mk : Hid (∀ w', Below w0.heap.size w0 w' → w'.cell? ⟨wr.heap.size, 0, none⟩ = some (.int .i64 s) ∧ w'.cell? ⟨wr.heap.size, 1, none⟩ = some (.int .i64 f) ∧ w'.cell? ⟨wr.heap.size, 2, none⟩ = some (.int .i64 u) ∧ w'.cell? ⟨wr.heap.size, 3, none⟩ = some (.int .i64 n) ∧ w'.cell? ⟨wr.heap.size, 4, none⟩ = some (.int .i64 p) ∧ w'.cell? ⟨wr.heap.size, 5, none⟩ = some (.int .i64 d) ∧ w'.cell? ⟨b, off + g * 6 + 1, none⟩ = some (.int .i64 fg) ∧ Below w0.heap.size w0 w') := fun w' h => ⟨(K0.out.keep h).at.1 0, (K0.out.keep h).at.1 1, (K0.out.keep h).at.1 2, (K0.out.keep h).at.1 3, (K0.out.keep h).at.1 4, (K0.out.keep h).at.1 5, (h.cell HgB.out).trans Hg1.out, h⟩
          have hs0 : Below w0.heap.size w0 w0.drew := (Below.refl _ _).drew
          refine wp_region_held_drew (S := fun w' => w'.cell? ⟨wr.heap.size, 0, none⟩ = some (.int .i64 s) ∧ w'.cell? ⟨wr.heap.size, 1, none⟩ = some (.int .i64 f) ∧ w'.cell? ⟨wr.heap.size, 2, none⟩ = some (.int .i64 u) ∧ w'.cell? ⟨wr.heap.size, 3, none⟩ = some (.int .i64 n) ∧ w'.cell? ⟨wr.heap.size, 4, none⟩ = some (.int .i64 p) ∧ w'.cell? ⟨wr.heap.size, 5, none⟩ = some (.int .i64 d) ∧ w'.cell? ⟨b, off + g * 6 + 1, none⟩ = some (.int .i64 fg) ∧ Below w0.heap.size w0 w') (by kernel_rfl) (mk.out _ hs0) (fun hHeld => ?_)
          refine tk at0 ?_
          refine tk at1 ?_
          refine tk at2 ?_
          refine tk at3 ?_
          refine tk at4 ?_
          refine tu at5 ?_
          refine tu at6 ?_
          refine wpAnyH_ready (rs := [7]) (by kernel_rfl) (by simp) ?_
          refine AllReadyH.cons at7 (fun K hK => ?_) AllReadyH.nil
          rw [if_neg]
          rotate_left
          focus (intro h; exact Bool.noConfusion h)
          refine hK.out _ _ hHeld (fun _ => ?_)
          clear hK K
          (try simp only [Act.put, List.setIfInBounds_toArray, List.set_cons_zero, List.set_cons_succ])
          refine tk at8 ?_
          refine tk at9 ?_
          refine tu at10 ?_
          refine tu at11 ?_
          refine tu at12 ?_
          refine tu at13 ?_
          refine tu at14 ?_
          refine tu at15 ?_
          refine tu at16 ?_
          refine tu at17 ?_
          refine tu at18 ?_
          refine tu at19 ?_
          refine tu at20 ?_
          refine tu at21 ?_
          refine tk at22 ?_
          refine wpAnyH_done (by kernel_rfl) ?_ _
          go_wp2_with fail
          go_roundw
          case rel => exact ⟨k + 1, some g, by omega, rfl, rfl, by go_num, HN.out (by rw [← H3.out, ← H2.out]; rfl), below_call HB.out (below_call HB0.out hs0)⟩
          case measure => simp [intOf]; omega
        · cases b2
          · have mk : Hid (∀ w', Below w0.heap.size w0 w' → w'.cell? ⟨wr.heap.size, 0, none⟩ = some (.int .i64 s) ∧ w'.cell? ⟨wr.heap.size, 1, none⟩ = some (.int .i64 f) ∧ w'.cell? ⟨wr.heap.size, 2, none⟩ = some (.int .i64 u) ∧ w'.cell? ⟨wr.heap.size, 3, none⟩ = some (.int .i64 n) ∧ w'.cell? ⟨wr.heap.size, 4, none⟩ = some (.int .i64 p) ∧ w'.cell? ⟨wr.heap.size, 5, none⟩ = some (.int .i64 d) ∧ w'.cell? ⟨b, off + g * 6 + 1, none⟩ = some (.int .i64 fg) ∧ Below w0.heap.size w0 w') := fun w' h => ⟨(K0.out.keep h).at.1 0, (K0.out.keep h).at.1 1, (K0.out.keep h).at.1 2, (K0.out.keep h).at.1 3, (K0.out.keep h).at.1 4, (K0.out.keep h).at.1 5, (h.cell HgB.out).trans Hg1.out, h⟩
            have hs0 : Below w0.heap.size w0 w0.drew := (Below.refl _ _).drew
            refine wp_region_held_drew (S := fun w' => w'.cell? ⟨wr.heap.size, 0, none⟩ = some (.int .i64 s) ∧ w'.cell? ⟨wr.heap.size, 1, none⟩ = some (.int .i64 f) ∧ w'.cell? ⟨wr.heap.size, 2, none⟩ = some (.int .i64 u) ∧ w'.cell? ⟨wr.heap.size, 3, none⟩ = some (.int .i64 n) ∧ w'.cell? ⟨wr.heap.size, 4, none⟩ = some (.int .i64 p) ∧ w'.cell? ⟨wr.heap.size, 5, none⟩ = some (.int .i64 d) ∧ w'.cell? ⟨b, off + g * 6 + 1, none⟩ = some (.int .i64 fg) ∧ Below w0.heap.size w0 w') (by kernel_rfl) (mk.out _ hs0) (fun hHeld => ?_)
            refine tk at0 ?_
            refine tk at1 ?_
            refine tk at2 ?_
            refine tk at3 ?_
            refine tk at4 ?_
            refine tk at5 ?_
            refine tk at6 ?_
            refine wpAnyH_ready (rs := [7]) (by kernel_rfl) (by simp) ?_
            refine AllReadyH.cons at7 (fun K hK => ?_) AllReadyH.nil
            go_simp
            (go_at_call 68; refine (covers_ok ⟨s, f, u, n, p, d⟩ day _).mono ?_; rintro e w1 ⟨rfl, hb1⟩; have hs1 := below_call hs0 hb1; rw [← H2.out]; clear hb1)
            (try go_wp2_with fail)
            refine hK.out _ _ (mk.out _ hs1) (fun hHeld1 => ?_)
            clear hK K hHeld
            (try simp only [Act.put, List.setIfInBounds_toArray, List.set_cons_zero, List.set_cons_succ])
            refine tk at8 ?_
            refine tk at9 ?_
            refine tu at10 ?_
            refine tu at11 ?_
            refine tu at12 ?_
            refine tu at13 ?_
            refine tu at14 ?_
            refine tu at15 ?_
            refine tu at16 ?_
            refine tu at17 ?_
            refine tu at18 ?_
            refine tu at19 ?_
            refine tu at20 ?_
            refine tu at21 ?_
            refine tk at22 ?_
            refine wpAnyH_done (by kernel_rfl) ?_ _
            go_wp2_with fail
            go_roundw
            case rel => exact ⟨k + 1, some g, by omega, rfl, rfl, by go_num, HN.out (by rw [← H3.out, ← H2.out]; rfl), below_call HB.out (below_call HB0.out hs1)⟩
            case measure => simp [intOf]; omega
          · cases b4
            · have mk : Hid (∀ w', Below w0.heap.size w0 w' → w'.cell? ⟨wr.heap.size, 0, none⟩ = some (.int .i64 s) ∧ w'.cell? ⟨wr.heap.size, 1, none⟩ = some (.int .i64 f) ∧ w'.cell? ⟨wr.heap.size, 2, none⟩ = some (.int .i64 u) ∧ w'.cell? ⟨wr.heap.size, 3, none⟩ = some (.int .i64 n) ∧ w'.cell? ⟨wr.heap.size, 4, none⟩ = some (.int .i64 p) ∧ w'.cell? ⟨wr.heap.size, 5, none⟩ = some (.int .i64 d) ∧ w'.cell? ⟨b, off + g * 6 + 1, none⟩ = some (.int .i64 fg) ∧ Below w0.heap.size w0 w') := fun w' h => ⟨(K0.out.keep h).at.1 0, (K0.out.keep h).at.1 1, (K0.out.keep h).at.1 2, (K0.out.keep h).at.1 3, (K0.out.keep h).at.1 4, (K0.out.keep h).at.1 5, (h.cell HgB.out).trans Hg1.out, h⟩
              have hs0 : Below w0.heap.size w0 w0.drew := (Below.refl _ _).drew
              refine wp_region_held_drew (S := fun w' => w'.cell? ⟨wr.heap.size, 0, none⟩ = some (.int .i64 s) ∧ w'.cell? ⟨wr.heap.size, 1, none⟩ = some (.int .i64 f) ∧ w'.cell? ⟨wr.heap.size, 2, none⟩ = some (.int .i64 u) ∧ w'.cell? ⟨wr.heap.size, 3, none⟩ = some (.int .i64 n) ∧ w'.cell? ⟨wr.heap.size, 4, none⟩ = some (.int .i64 p) ∧ w'.cell? ⟨wr.heap.size, 5, none⟩ = some (.int .i64 d) ∧ w'.cell? ⟨b, off + g * 6 + 1, none⟩ = some (.int .i64 fg) ∧ Below w0.heap.size w0 w') (by kernel_rfl) (mk.out _ hs0) (fun hHeld => ?_)
              refine tk at0 ?_
              refine tk at1 ?_
              refine tk at2 ?_
              refine tk at3 ?_
              refine tk at4 ?_
              refine tk at5 ?_
              refine tk at6 ?_
              refine wpAnyH_ready (rs := [7]) (by kernel_rfl) (by simp) ?_
              refine AllReadyH.cons at7 (fun K hK => ?_) AllReadyH.nil
              go_simp
              (go_at_call 68; refine (covers_ok ⟨s, f, u, n, p, d⟩ day _).mono ?_; rintro e w1 ⟨rfl, hb1⟩; have hs1 := below_call hs0 hb1; rw [← H2.out]; clear hb1)
              (try go_wp2_with fail)
              refine hK.out _ _ (mk.out _ hs1) (fun hHeld1 => ?_)
              clear hK K hHeld
              (try simp only [Act.put, List.setIfInBounds_toArray, List.set_cons_zero, List.set_cons_succ])
              refine tk at8 ?_
              refine tk at9 ?_
              refine tk at10 ?_
              refine tk at11 ?_
              refine tk at12 ?_
              refine tk at13 ?_
              refine tk at14 ?_
              refine tk at15 ?_
              refine tk at16 ?_
              refine tk at17 ?_
              refine tk at18 ?_
              refine tk at19 ?_
              refine tk at20 ?_
              refine tk at21 ?_
              refine tk at22 ?_
              refine wpAnyH_done (by kernel_rfl) ?_ _
              go_wp2_with fail
              go_roundw
              case rel => exact ⟨k + 1, some g, by omega, rfl, rfl, by go_num, HN.out (by rw [← H3.out, ← H2.out]; simp [laterB, HGk.out, H4.out]), below_call HB.out (below_call HB0.out hs1)⟩
              case measure => simp [intOf]; omega
            · have mk : Hid (∀ w', Below w0.heap.size w0 w' → w'.cell? ⟨wr.heap.size, 0, none⟩ = some (.int .i64 s) ∧ w'.cell? ⟨wr.heap.size, 1, none⟩ = some (.int .i64 f) ∧ w'.cell? ⟨wr.heap.size, 2, none⟩ = some (.int .i64 u) ∧ w'.cell? ⟨wr.heap.size, 3, none⟩ = some (.int .i64 n) ∧ w'.cell? ⟨wr.heap.size, 4, none⟩ = some (.int .i64 p) ∧ w'.cell? ⟨wr.heap.size, 5, none⟩ = some (.int .i64 d) ∧ w'.cell? ⟨b, off + g * 6 + 1, none⟩ = some (.int .i64 fg) ∧ Below w0.heap.size w0 w') := fun w' h => ⟨(K0.out.keep h).at.1 0, (K0.out.keep h).at.1 1, (K0.out.keep h).at.1 2, (K0.out.keep h).at.1 3, (K0.out.keep h).at.1 4, (K0.out.keep h).at.1 5, (h.cell HgB.out).trans Hg1.out, h⟩
              have hs0 : Below w0.heap.size w0 w0.drew := (Below.refl _ _).drew
              refine wp_region_held_drew (S := fun w' => w'.cell? ⟨wr.heap.size, 0, none⟩ = some (.int .i64 s) ∧ w'.cell? ⟨wr.heap.size, 1, none⟩ = some (.int .i64 f) ∧ w'.cell? ⟨wr.heap.size, 2, none⟩ = some (.int .i64 u) ∧ w'.cell? ⟨wr.heap.size, 3, none⟩ = some (.int .i64 n) ∧ w'.cell? ⟨wr.heap.size, 4, none⟩ = some (.int .i64 p) ∧ w'.cell? ⟨wr.heap.size, 5, none⟩ = some (.int .i64 d) ∧ w'.cell? ⟨b, off + g * 6 + 1, none⟩ = some (.int .i64 fg) ∧ Below w0.heap.size w0 w') (by kernel_rfl) (mk.out _ hs0) (fun hHeld => ?_)
              refine tk at0 ?_
              refine tk at1 ?_
              refine tk at2 ?_
              refine tk at3 ?_
              refine tk at4 ?_
              refine tk at5 ?_
              refine tk at6 ?_
              refine wpAnyH_ready (rs := [7]) (by kernel_rfl) (by simp) ?_
              refine AllReadyH.cons at7 (fun K hK => ?_) AllReadyH.nil
              go_simp
              (go_at_call 68; refine (covers_ok ⟨s, f, u, n, p, d⟩ day _).mono ?_; rintro e w1 ⟨rfl, hb1⟩; have hs1 := below_call hs0 hb1; rw [← H2.out]; clear hb1)
              (try go_wp2_with fail)
              refine hK.out _ _ (mk.out _ hs1) (fun hHeld1 => ?_)
              clear hK K hHeld
              (try simp only [Act.put, List.setIfInBounds_toArray, List.set_cons_zero, List.set_cons_succ])
              refine tk at8 ?_
              refine tk at9 ?_
              refine tk at10 ?_
              refine tk at11 ?_
              refine tk at12 ?_
              refine tk at13 ?_
              refine tk at14 ?_
              refine tk at15 ?_
              refine tk at16 ?_
              refine tk at17 ?_
              refine tk at18 ?_
              refine tk at19 ?_
              refine tk at20 ?_
              refine tk at21 ?_
              refine tk at22 ?_
              refine wpAnyH_done (by kernel_rfl) ?_ _
              go_wp2_with fail
              go_roundw
              case rel => exact ⟨k + 1, some k, by omega, rfl, rfl, by go_num, HY.out (by rw [← H3.out, ← H2.out]; simp [laterB, HGk.out, H4.out]), below_call HB.out (below_call HB0.out hs1)⟩
              case measure => simp [intOf]; omega
    · have HF : Hid (findC cs sc day = r) := by show _ = _; rw [findC, show cs.length = k by omega]; exact HR.out
      subst hbest hfound
      go_wp2_with fail
      go_ret2
      rw [HF.out]
      exact ⟨rfl, HB.out⟩
end Go.Proofs.Ytlcgckelamhnpaa
namespace Go.Proofs.Ytlcgckelamhnpaa
open Go.RowKit

def recB (sc day : Int) (r : Rc) : Bool := (r.s == sc) && decide (r.t ≤ day)
def recalledB (rs : List Rc) (sc day : Int) : Bool := rs.any (recB sc day)
theorem rec_take (rs : List Rc) (sc day : Int) {k : Nat} (h : k < rs.length) (h0 : (rs.take k).any (recB sc day) = false) : (rs.take (k + 1)).any (recB sc day) = recB sc day rs[k] := by
 rw [List.take_succ_eq_append_getElem h, List.any_append, h0, List.any_cons, List.any_nil, Bool.or_false, Bool.false_or]
theorem rec_yes {rs : List Rc} {sc day : Int} {k : Nat} (h : k < rs.length) (h1 : recB sc day rs[k] = true) : recalledB rs sc day = true := by
 rw [recalledB, List.any_eq_true]; exact ⟨_, List.getElem_mem h, h1⟩
theorem lam_ok (x t sc day : Int) (b1 b2 : Bool) (h1 : (x == sc) = b1) (h2 : decide (t ≤ day) = b2) {A B : Nat} {w : World} {TA TB : TypeId} (hA : Bx w A TA #[.int .i64 sc]) (hB : Bx w B TB #[.int .i64 day]) :
    Calls Try.prog 70 #[.agg #[.int .i64 x, .int .i64 t], .pointer (some ⟨A, 0, none⟩), .pointer (some ⟨B, 0, none⟩)] w fun e w' => e = .returned (.bool (b1 && b2)) ∧ Below w.heap.size w w' := by
  have p1 : (w.alloc (.cells #[.int .i64 x, .int .i64 t] 31)).cell? ⟨A, 0, none⟩ = some (.int .i64 sc) := (hA.keep (below_alloc _ _)).at.1 0
  have p2 : (w.alloc (.cells #[.int .i64 x, .int .i64 t] 31)).cell? ⟨B, 0, none⟩ = some (.int .i64 day) := (hB.keep (below_alloc _ _)).at.1 0
  have HA := Lib.hid hA; have HB := Lib.hid hB; clear hA hB
  go_enter Try.func70, Try.ntmps70
  cases b1
  · go_wp2_with fail
    go_ret
    exact ⟨rfl, by go_grown⟩
  · go_wp2_with fail
    go_ret
    exact ⟨rfl, by go_grown⟩
set_option maxRecDepth 100000 in
set_option maxHeartbeats 4000000 in
theorem idxRec_ok (v : Value) (rs : List Rc) (sc day : Int) {A B : Nat} {TA TB : TypeId} (w : World) (h : RcIn w v rs) (hn : rs.length ≤ 1099511627776) (hA : Bx w A TA #[.int .i64 sc]) (hB : Bx w B TB #[.int .i64 day]) :
    Calls Try.prog 88 #[v, .func (Fn.func 70) #[] #[.pointer (some ⟨A, 0, none⟩), .pointer (some ⟨B, 0, none⟩)]] w fun e w' => ∃ i, e = .returned (.int .i64 i) ∧ Hid (decide (0 ≤ i) = recalledB rs sc day) ∧ Below w.heap.size w w' := by
  obtain ⟨a1, cap1, rfl⟩ := h.shape
  have H1 := Lib.hid h; clear h
  have HA := Lib.hid hA; have HB := Lib.hid hB; clear hA hB
  go_enter Try.func88, Try.ntmps88
  go_wp2_with fail
  go_loopw [8] (fun i wr => ∃ k : Nat, k ≤ rs.length ∧ i = .int .i64 k ∧ Hid ((rs.take k).any (recB sc day) = false) ∧ Hid (Below w.heap.size w wr)) (fun i _ => rs.length - (intOf i).toNat)
  case atStart => exact ⟨0, Nat.zero_le _, rfl, rfl, Below.refl _ _⟩
  case round =>
    obtain ⟨k, hk, rfl, HN, HW⟩ := hrel
    by_cases hlt : k < rs.length
    · have hI : (k : Int) < (rs.length : Int) := by omega
      obtain ⟨b, off, rfl, hb, hcell⟩ := (H1.out.keep HW.out).at hlt
      have HT := Lib.hid (rec_take rs sc day hlt HN.out)
      have HY := Lib.hid (rec_yes (rs := rs) (sc := sc) (day := day) hlt)
      obtain ⟨c, hc⟩ : ∃ c, c = rs[k] := ⟨_, rfl⟩
      rw [← hc] at hcell HT HY
      obtain ⟨s, t⟩ := c
      have c0 : wr.cell? ⟨b, off + k * 2, none⟩ = some (.int .i64 s) := hcell 0 _ rfl
      have c1 : wr.cell? ⟨b, off + k * 2 + 1, none⟩ = some (.int .i64 t) := hcell 1 _ rfl
      clear hcell hc
      go_wp2_with fail
      clear c0 c1
      refine (lam_ok s t sc day _ _ rfl rfl (HA.out.keep HW.out) (HB.out.keep HW.out)).mono ?_
      rintro e w1 ⟨rfl, hb1⟩
      have HW1 := Lib.hid (below_call HW.out hb1); clear hb1
      obtain ⟨bb, hbb⟩ : ∃ x, x = (s == sc && decide (t ≤ day)) := ⟨_, rfl⟩
      have HBB : Hid (recB sc day ⟨s, t⟩ = bb) := by show _ = _; rw [hbb]; rfl
      rw [← hbb]
      clear hbb
      cases bb
      · go_wp2_with fail
        go_roundw
        case rel => exact ⟨k + 1, by omega, by go_num, HT.out.trans HBB.out, HW1.out⟩
        case measure => simp [intOf]; omega
      · go_wp2_with fail
        go_ret
        exact ⟨k, rfl, by show _ = _; rw [HY.out HBB.out]; exact decide_eq_true (by omega), HW1.out⟩
    · have HF : Hid (recalledB rs sc day = false) := by
        show _ = _
        have := HN.out
        rwa [List.take_of_length_le (by omega)] at this
      go_wp2_with fail
      go_ret
      exact ⟨-1, rfl, by show _ = _; rw [HF.out]; rfl, HW.out⟩
theorem ctRec_ok (v : Value) (rs : List Rc) (sc day : Int) {A B : Nat} {TA TB : TypeId} (w : World) (h : RcIn w v rs) (hn : rs.length ≤ 1099511627776) (hA : Bx w A TA #[.int .i64 sc]) (hB : Bx w B TB #[.int .i64 day]) :
  Calls Try.prog 69 #[v, .func (Fn.func 70) #[] #[.pointer (some ⟨A, 0, none⟩), .pointer (some ⟨B, 0, none⟩)]] w fun e w' => e = .returned (.bool (recalledB rs sc day)) ∧ Below w.heap.size w w' := by
 have H1 := Lib.hid h; clear h
 have HA := Lib.hid hA; have HB := Lib.hid hB; clear hA hB
 go_enter Try.func69, Try.ntmps69
 go_wp2_with fail
 refine (idxRec_ok v rs sc day _ H1.out hn HA.out HB.out).mono ?_
 rintro e w1 ⟨i, rfl, hi, hb⟩
 have HW := Lib.hid hb; clear hb
 have HI := hi; clear hi
 go_wp2_with fail
 go_ret
 exact ⟨ret_bool HI.out, HW.out⟩
theorem scRecalled_ok (v : Value) (rs : List Rc) (sc day : Int) (w : World) (h : RcIn w v rs) (hn : rs.length ≤ 1099511627776) :
  Calls Try.prog 46 #[v, .int .i64 sc, .int .i64 day] w fun e w' => e = .returned (.bool (recalledB rs sc day)) ∧ Below w.heap.size w w' := by
 obtain ⟨a1, cap1, rfl⟩ := h.shape
 have H1 := Lib.hid h; clear h
 go_enter Try.func46, Try.ntmps46
 go_wp2_with fail
 refine (ctRec_ok _ rs sc day _ (H1.out.keep (by go_grown)) hn (bx2 w 3 3 #[.int .i64 sc] #[.int .i64 day]).1 (bx2 w 3 3 #[.int .i64 sc] #[.int .i64 day]).2).mono ?_
 rintro e w1 ⟨rfl, hb⟩
 have HW : Hid (Below w.heap.size w w1) := below_call (by go_grown) hb
 clear hb
 go_wp2_with fail
 go_ret
 exact ⟨rfl, HW.out⟩
end Go.Proofs.Ytlcgckelamhnpaa
