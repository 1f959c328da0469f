/- Scale: the reference's certificate in force. -/
import Derived.Test.YtlcgckelamhnpaaGreatBigQ
import Derived.Test.YtlcgckelamhnpaaGreatDag
set_option maxRecDepth 100000
set_option maxHeartbeats 8000000
namespace Go.Proofs.YtlcgckelamhnpaaGreat
open Go.RowKit
structure Ct where
 s : Int
 f : Int
 u : Int
 n : Int
 p : Int
 d : Int
structure Rc where
 s : Int
 t : Int
def cCells (c : Ct) : List Value := [.int .i64 c.s, .int .i64 c.f, .int .i64 c.u, .int .i64 c.n, .int .i64 c.p, .int .i64 c.d]
def rcCells (r : Rc) : List Value := [.int .i64 r.s, .int .i64 r.t]
def inR (n lo hi : Int) : Bool := decide (lo ≤ n) && decide (n ≤ hi)
def daysC (c : Ct) : Bool := decide (0 ≤ c.f) && decide (c.f ≤ c.u) && decide (c.u ≤ 100000)
def rightC (c : Ct) : Bool := daysC c && decide (0 ≤ c.s) && inR c.n 0 1099511627776 && inR c.p 0 1000 && inR c.d 0 10000000
def coversC (c : Ct) (day : Int) : Bool := rightC c && decide (c.f ≤ day) && decide (day ≤ c.u)
theorem within_ok (n m : Int) (w : World) : Calls Tryz.prog 109 #[.int .i64 n, .int .i64 m] w fun e w' => e = .returned (.bool (inR n 0 m)) ∧ w = w' := by
 unfold inR; obtain ⟨b1, h1⟩ : ∃ b, b = decide (0 ≤ n) := ⟨_, rfl⟩; obtain ⟨b2, h2⟩ : ∃ b, b = decide (n ≤ m) := ⟨_, rfl⟩; rw [← h1, ← h2]; replace h1 := h1.symm; replace h2 := h2.symm; go_enter Tryz.func109, Tryz.ntmps109
 cases b1
 · go_wp2_with fail
   go_ret
   exact ⟨rfl, rfl⟩
 · go_wp2_with fail
   go_ret
   exact ⟨rfl, rfl⟩
theorem in_ok (n lo hi : Int) (w : World) : Calls Tryz.prog 95 #[.int .i64 n, .int .i64 lo, .int .i64 hi] w fun e w' => e = .returned (.bool (inR n lo hi)) ∧ w = w' := by
 unfold inR; obtain ⟨b1, h1⟩ : ∃ b, b = decide (lo ≤ n) := ⟨_, rfl⟩; obtain ⟨b2, h2⟩ : ∃ b, b = decide (n ≤ hi) := ⟨_, rfl⟩; rw [← h1, ← h2]; replace h1 := h1.symm; replace h2 := h2.symm; go_enter Tryz.func95, Tryz.ntmps95
 cases b1
 · go_wp2_with fail
   go_ret
   exact ⟨rfl, rfl⟩
 · go_wp2_with fail
   go_ret
   exact ⟨rfl, rfl⟩
theorem scRight_ok (c : Ct) (w : World) : Calls Tryz.prog 124 #[.agg (cCells c).toArray] w fun e w' => e = .returned (.bool (rightC c)) ∧ Below w.heap.size w w' := by
 obtain ⟨s, f, u, n, p, d⟩ := c; unfold rightC daysC cCells
 show Calls _ _ #[.agg #[.int .i64 s, .int .i64 f, .int .i64 u, .int .i64 n, .int .i64 p, .int .i64 d]] _ _
 obtain ⟨b1, h1⟩ : ∃ b, b = decide (0 ≤ f) := ⟨_, rfl⟩; obtain ⟨b2, h2⟩ : ∃ b, b = decide (f ≤ u) := ⟨_, rfl⟩; obtain ⟨b3, h3⟩ : ∃ b, b = decide (u ≤ 100000) := ⟨_, rfl⟩; obtain ⟨b4, h4⟩ : ∃ b, b = decide (0 ≤ s) := ⟨_, rfl⟩; obtain ⟨b5, h5⟩ : ∃ b, b = inR n 0 1099511627776 := ⟨_, rfl⟩; obtain ⟨b6, h6⟩ : ∃ b, b = inR p 0 1000 := ⟨_, rfl⟩; obtain ⟨b7, h7⟩ : ∃ b, b = inR d 0 10000000 := ⟨_, rfl⟩; rw [← h1, ← h2, ← h3, ← h4, ← h5, ← h6, ← h7]; replace h1 := h1.symm; replace h2 := h2.symm; replace h3 := h3.symm; replace h4 := h4.symm; have H5 := hI h5; have H6 := hI h6; have H7 := hI h7; clear h5 h6 h7; go_enter Tryz.func124, Tryz.ntmps124
 go_wp2_with (go_at_call 109; refine (within_ok _ _ _).mono ?_; rintro e w' ⟨rfl, rfl⟩; first | rw [← H5.out] | rw [← H6.out] | rw [← H7.out])
 all_goals (go_ret; exact ⟨ret_bool (by simp [*]), by go_grown⟩)
theorem rcRight_ok (c : Ct) (w : World) : Calls Tryz.prog 119 #[.agg (cCells c).toArray] w fun e w' => e = .returned (.bool (rightC c)) ∧ Below w.heap.size w w' := by
 obtain ⟨s, f, u, n, p, d⟩ := c; unfold rightC daysC cCells
 show Calls _ _ #[.agg #[.int .i64 s, .int .i64 f, .int .i64 u, .int .i64 n, .int .i64 p, .int .i64 d]] _ _
 obtain ⟨b1, h1⟩ : ∃ b, b = decide (0 ≤ f) := ⟨_, rfl⟩; obtain ⟨b2, h2⟩ : ∃ b, b = decide (f ≤ u) := ⟨_, rfl⟩; obtain ⟨b3, h3⟩ : ∃ b, b = decide (u ≤ 100000) := ⟨_, rfl⟩; obtain ⟨b4, h4⟩ : ∃ b, b = decide (0 ≤ s) := ⟨_, rfl⟩; obtain ⟨b5, h5⟩ : ∃ b, b = inR n 0 1099511627776 := ⟨_, rfl⟩; obtain ⟨b6, h6⟩ : ∃ b, b = inR p 0 1000 := ⟨_, rfl⟩; obtain ⟨b7, h7⟩ : ∃ b, b = inR d 0 10000000 := ⟨_, rfl⟩; rw [← h1, ← h2, ← h3, ← h4, ← h5, ← h6, ← h7]; replace h1 := h1.symm; replace h2 := h2.symm; replace h3 := h3.symm; replace h4 := h4.symm; have H5 := hI h5; have H6 := hI h6; have H7 := hI h7; clear h5 h6 h7; go_enter Tryz.func119, Tryz.ntmps119
 go_wp2_with (go_at_call 95; refine (in_ok _ _ _ _).mono ?_; rintro e w' ⟨rfl, rfl⟩; first | rw [← H5.out] | rw [← H6.out] | rw [← H7.out])
 all_goals (go_ret; exact ⟨ret_bool (by simp [*]), by go_grown⟩)
theorem covers_ok (c : Ct) (day : Int) (w : World) : Calls Tryz.prog 106 #[.agg (cCells c).toArray, .int .i64 day] w fun e w' => e = .returned (.bool (coversC c day)) ∧ Below w.heap.size w w' := by
 obtain ⟨s, f, u, n, p, d⟩ := c; unfold coversC cCells
 show Calls _ _ #[.agg #[.int .i64 s, .int .i64 f, .int .i64 u, .int .i64 n, .int .i64 p, .int .i64 d], .int .i64 day] _ _
 obtain ⟨b1, h1⟩ : ∃ b, b = rightC ⟨s, f, u, n, p, d⟩ := ⟨_, rfl⟩; obtain ⟨b2, h2⟩ : ∃ b, b = decide (f ≤ day) := ⟨_, rfl⟩; obtain ⟨b3, h3⟩ : ∃ b, b = decide (day ≤ u) := ⟨_, rfl⟩; rw [← h1, ← h2, ← h3]; replace h2 := h2.symm; replace h3 := h3.symm; have H1 := hI h1; clear h1; go_enter Tryz.func106, Tryz.ntmps106
 go_wp2_with fail
 refine (scRight_ok ⟨s, f, u, n, p, d⟩ _).mono ?_; rintro e w1 ⟨rfl, hb⟩; rw [← H1.out]; have K0 := hI ((bx1 w 76 #[.int .i64 s, .int .i64 f, .int .i64 u, .int .i64 n, .int .i64 p, .int .i64 d]).keep hb); have HB : Hid (Below w.heap.size w w1) := below_call (by go_grown) hb; clear hb; have p1 : w1.cell? ⟨w.heap.size, 1, none⟩ = some (.int .i64 f) := K0.out.at.1 1; have p2 : w1.cell? ⟨w.heap.size, 2, none⟩ = some (.int .i64 u) := K0.out.at.1 2; go_wp2_with fail
 all_goals (go_ret; exact ⟨ret_bool (by simp [*]), HB.out⟩)
def CtIn (w : World) (v : Value) (cs : List Ct) : Prop := RdS w v cs.length 6 (fun k => (cs[k]?.map cCells).getD [])
theorem CtIn.keep {w w' : World} {v : Value} {cs : List Ct} (h : CtIn w v cs) (hb : Below w.heap.size w w') : CtIn w' v cs := RdS.keep h hb
theorem CtIn.at {w : World} {a : Option Addr} {n cap : Nat} {cs : List Ct} (h : CtIn w (.slice a n cap) cs) {k : Nat} (hk : k < cs.length) :
 ∃ b off, a = some ⟨b, off, none⟩ ∧ b < w.heap.size ∧ ∀ j u, (cCells cs[k])[j]? = some u → w.cell? ⟨b, off + k * 6 + j, none⟩ = some u := by
 obtain ⟨a', cap', hv, hc⟩ := h
 cases hv
 obtain ⟨b, off, ha, hlt, hcell⟩ := hc k hk; refine ⟨b, off, ha, hlt, fun j u hj => hcell j u ?_⟩
 show ((cs[k]?.map cCells).getD [])[j]? = some u
 rw [List.getElem?_eq_getElem hk]; exact hj
theorem CtIn.shape {w : World} {v : Value} {cs : List Ct} (h : CtIn w v cs) : ∃ a cap, v = .slice a cs.length cap := by
 obtain ⟨a, cap, hv, _⟩ := h; exact ⟨a, cap, hv⟩
def RcIn (w : World) (v : Value) (rs : List Rc) : Prop := RdS w v rs.length 2 (fun k => (rs[k]?.map rcCells).getD [])
theorem RcIn.keep {w w' : World} {v : Value} {rs : List Rc} (h : RcIn w v rs) (hb : Below w.heap.size w w') : RcIn w' v rs := RdS.keep h hb
theorem RcIn.at {w : World} {a : Option Addr} {n cap : Nat} {rs : List Rc} (h : RcIn w (.slice a n cap) rs) {k : Nat} (hk : k < rs.length) :
 ∃ b off, a = some ⟨b, off, none⟩ ∧ b < w.heap.size ∧ ∀ j u, (rcCells rs[k])[j]? = some u → w.cell? ⟨b, off + k * 2 + j, none⟩ = some u := by
 obtain ⟨a', cap', hv, hc⟩ := h
 cases hv
 obtain ⟨b, off, ha, hlt, hcell⟩ := hc k hk; refine ⟨b, off, ha, hlt, fun j u hj => hcell j u ?_⟩
 show ((rs[k]?.map rcCells).getD [])[j]? = some u
 rw [List.getElem?_eq_getElem hk]; exact hj
theorem RcIn.shape {w : World} {v : Value} {rs : List Rc} (h : RcIn w v rs) : ∃ a cap, v = .slice a rs.length cap := by
 obtain ⟨a, cap, hv, _⟩ := h; exact ⟨a, cap, hv⟩
def laterB (cs : List Ct) (r : Option Nat) (c : Ct) : Bool := match r with | none => true | some b => (match cs[b]? with | none => false | some x => decide (x.f ≤ c.f))
def findS (cs : List Ct) (sc day : Int) : Nat → Option Nat
 | 0 => none
 | k + 1 => match cs[k]? with
  | none => findS cs sc day k
  | some c => if (c.s == sc && coversC c day && laterB cs (findS cs sc day k) c) = true then some k else findS cs sc day k
theorem findS_lt (cs : List Ct) (sc day : Int) : ∀ k b, findS cs sc day k = some b → b < k
 | 0, b, h => by simp [findS] at h
 | k + 1, b, h => by
  have ih := findS_lt cs sc day k b; simp only [findS] at h
  split at h
  · have := ih h; omega
  · split at h
    · cases h; omega
    · have := ih h; omega
theorem findS_yes {cs : List Ct} {sc day : Int} {k : Nat} (hk : k < cs.length) (h : (cs[k].s == sc && coversC cs[k] day && laterB cs (findS cs sc day k) cs[k]) = true) : findS cs sc day (k + 1) = some k := by
 simp only [findS, List.getElem?_eq_getElem hk]; rw [if_pos h]
theorem findS_no {cs : List Ct} {sc day : Int} {k : Nat} (hk : k < cs.length) (h : (cs[k].s == sc && coversC cs[k] day && laterB cs (findS cs sc day k) cs[k]) = false) : findS cs sc day (k + 1) = findS cs sc day k := by
 simp only [findS, List.getElem?_eq_getElem hk]; rw [if_neg (by simp [h])]
def findC (cs : List Ct) (sc day : Int) : Option Nat := findS cs sc day cs.length
theorem scFind_ok (v : Value) (cs : List Ct) (sc day : Int) (w : World) (h : CtIn w v cs) (hn : cs.length ≤ 1099511627776) :
 Calls Tryz.prog 72 #[v, .int .i64 sc, .int .i64 day] w fun e w' => e = .returned (.tuple #[.int .i64 ((findC cs sc day).getD 0 : Nat), .bool (findC cs sc day).isSome]) ∧ Below w.heap.size w w' := by
 obtain ⟨a1, cap1, rfl⟩ := h.shape; have H1 := hI h; clear h; go_enter Tryz.func72, Tryz.ntmps72
 go_wp2_with fail
 go_loopw [8, 9, 14] (fun b fd i wr => ∃ (k : Nat) (r : Option Nat), k ≤ cs.length ∧ b = .int .i64 (r.getD 0 : Nat) ∧ fd = .bool r.isSome ∧ i = .int .i64 k ∧ Hid (findS cs sc day k = r) ∧ Hid (Below w.heap.size w wr)) (fun _ _ i _ => cs.length - (intOf i).toNat)
 case atStart => exact ⟨0, none, Nat.zero_le _, rfl, rfl, rfl, rfl, Below.refl _ _⟩
 case round =>
  obtain ⟨k, r, hk, hbest, hfound, rfl, HR, HB⟩ := hrel
  by_cases hlt : k < cs.length
  · have hIx : (k : Int) < (cs.length : Int) := by omega
    obtain ⟨b, off, rfl, hb, hcell⟩ := (H1.out.keep HB.out).at hlt; have HY := hI (findS_yes (cs := cs) (sc := sc) (day := day) hlt); have HN := hI (findS_no (cs := cs) (sc := sc) (day := day) hlt); obtain ⟨c, hc⟩ : ∃ c, c = cs[k] := ⟨_, rfl⟩; rw [← hc] at hcell HY HN; rw [HR.out] at HY HN; obtain ⟨s, f, u, n, p, d⟩ := c; have c0 : wr.cell? ⟨b, off + k * 6, none⟩ = some (.int .i64 s) := hcell 0 _ rfl; have c1 : wr.cell? ⟨b, off + k * 6 + 1, none⟩ = some (.int .i64 f) := hcell 1 _ rfl; have c2 : wr.cell? ⟨b, off + k * 6 + 2, none⟩ = some (.int .i64 u) := hcell 2 _ rfl; have c3 : wr.cell? ⟨b, off + k * 6 + 3, none⟩ = some (.int .i64 n) := hcell 3 _ rfl; have c4 : wr.cell? ⟨b, off + k * 6 + 4, none⟩ = some (.int .i64 p) := hcell 4 _ rfl; have c5 : wr.cell? ⟨b, off + k * 6 + 5, none⟩ = some (.int .i64 d) := hcell 5 _ rfl; have HD := hI hcell; clear hcell hc; obtain ⟨b1, h1⟩ : ∃ b, b = (s == sc) := ⟨_, rfl⟩; obtain ⟨b2, h2⟩ : ∃ b, b = coversC ⟨s, f, u, n, p, d⟩ day := ⟨_, rfl⟩; have H2 := hI h2; have H3 := hI h1; replace h1 := h1.symm; clear h2; go_wp2_with fail
    generalize hw0 : World.alloc wr _ = w0; have K0 : Hid (Bx w0 wr.heap.size 76 #[.int .i64 s, .int .i64 f, .int .i64 u, .int .i64 n, .int .i64 p, .int .i64 d]) := by show Bx _ _ _ _; rw [← hw0]; exact bx1 wr _ _
    have HB0 : Hid (Below wr.heap.size wr w0) := by show Below _ _ _; rw [← hw0]; exact below_alloc _ _
    clear hw0 c0 c1 c2 c3 c4 c5
    cases r with
    | none =>
     replace hbest : u8 = .int .i64 0 := hbest; replace hfound : u9 = .bool false := hfound; subst hbest hfound
     cases b1
     · have mk := Lib.hid fun w' (h : Below w0.heap.size w0 w') => (K0.out.keep h).t6 h
       have hs0 : Below w0.heap.size w0 w0.drew := (Below.refl _ _).drew; refine rmW mk.out hs0 fun hHeld => ?_; refine tk4 at0 at1 at2 at3 ?_; refine tk at4 ?_; refine tu2 at5 at6 ?_; refine roW at7 fun K hK => ?_; rw [if_neg]
       rotate_left
       focus (intro h; exact Bool.noConfusion h)
       refine hK.out _ _ hHeld (fun _ => ?_); clear hK K; (try simp only [Act.put, kq])
       refine tk2 at8 at9 ?_; refine tu8 at10 at11 at12 at13 at14 at15 at16 at17 ?_; refine tu4 at18 at19 at20 at21 ?_; refine tk at22 ?_; refine dnW ?_; go_wp2_with fail
       go_roundw
       case rel => exact ⟨k + 1, none, by omega, rfl, rfl, by go_num, HN.out (by rw [← H3.out, ← H2.out]; rfl), below_call HB.out (below_call HB0.out hs0)⟩
       case measure => simp [intOf]; omega
     · cases b2
       · have mk := Lib.hid fun w' (h : Below w0.heap.size w0 w') => (K0.out.keep h).t6 h
         have hs0 : Below w0.heap.size w0 w0.drew := (Below.refl _ _).drew; refine rmW mk.out hs0 fun hHeld => ?_; refine tk4 at0 at1 at2 at3 ?_; refine tk2 at4 at5 ?_; refine tk at6 ?_; refine roW at7 fun K hK => ?_; go_simp
         (go_at_call 106; refine (covers_ok ⟨s, f, u, n, p, d⟩ day _).mono ?_; rintro e w1 ⟨rfl, hb1⟩; have hs1 := below_call hs0 hb1; rw [← H2.out]; clear hb1)
         (try go_wp2_with fail)
         refine hK.out _ _ (mk.out _ hs1) (fun hHeld1 => ?_); clear hK K hHeld; (try simp only [Act.put, kq])
         refine tk2 at8 at9 ?_; refine tu8 at10 at11 at12 at13 at14 at15 at16 at17 ?_; refine tu4 at18 at19 at20 at21 ?_; refine tk at22 ?_; refine dnW ?_; go_wp2_with fail
         go_roundw
         case rel => exact ⟨k + 1, none, by omega, rfl, rfl, by go_num, HN.out (by rw [← H3.out, ← H2.out]; rfl), below_call HB.out (below_call HB0.out hs1)⟩
         case measure => simp [intOf]; omega
       · have mk := Lib.hid fun w' (h : Below w0.heap.size w0 w') => (K0.out.keep h).t6 h
         have hs0 : Below w0.heap.size w0 w0.drew := (Below.refl _ _).drew; refine rmW mk.out hs0 fun hHeld => ?_; refine tk4 at0 at1 at2 at3 ?_; refine tk2 at4 at5 ?_; refine tk at6 ?_; refine roW at7 fun K hK => ?_; go_simp
         (go_at_call 106; refine (covers_ok ⟨s, f, u, n, p, d⟩ day _).mono ?_; rintro e w1 ⟨rfl, hb1⟩; have hs1 := below_call hs0 hb1; rw [← H2.out]; clear hb1)
         (try go_wp2_with fail)
         refine hK.out _ _ (mk.out _ hs1) (fun hHeld1 => ?_); clear hK K hHeld; (try simp only [Act.put, kq])
         refine tk4 at8 at9 at10 at11 ?_; refine tk at12 ?_; refine tu8 at13 at14 at15 at16 at17 at18 at19 at20 ?_; refine tk2 at21 at22 ?_; refine dnW ?_; go_wp2_with fail
         go_roundw
         case rel => exact ⟨k + 1, some k, by omega, rfl, rfl, by go_num, HY.out (by rw [← H3.out, ← H2.out]; simp [laterB]), below_call HB.out (below_call HB0.out hs1)⟩
         case measure => simp [intOf]; omega
    | some g =>
     have hgk := findS_lt cs sc day k g HR.out; have hgl : g < cs.length := by omega
     have hI2 : (g : Int) < (cs.length : Int) := by omega
     obtain ⟨b', off', hab, hb', hcell'⟩ := (H1.out.keep HB.out).at hgl
     cases hab
     obtain ⟨c', hc'⟩ : ∃ c, c = cs[g] := ⟨_, rfl⟩; rw [← hc'] at hcell'; have HGk : Hid (cs[g]? = some c') := by show _ = _; rw [List.getElem?_eq_getElem hgl, hc']
     obtain ⟨sg_, fg, ug_, ng_, pg_, dg_⟩ := c'; have Hg1 : Hid (w0.cell? ⟨b, off + g * 6 + 1, none⟩ = some (.int .i64 fg)) := (HB0.out.cell hb').trans (hcell' 1 _ rfl); have HgB : Hid (b < w0.heap.size) := Nat.lt_of_lt_of_le hb' HB0.out.size; clear hcell' hc'; obtain ⟨b4, h4⟩ : ∃ b, b = decide (fg ≤ f) := ⟨_, rfl⟩; replace h4 := h4.symm; have H4 := hI h4; replace hbest : u8 = .int .i64 (g : Int) := hbest; replace hfound : u9 = .bool true := hfound; subst hbest hfound
     cases b1
     · have mk := Lib.hid fun w' (h : Below w0.heap.size w0 w') => (K0.out.keep h).t6 (And.intro ((h.cell HgB.out).trans Hg1.out) h)
       have hs0 : Below w0.heap.size w0 w0.drew := (Below.refl _ _).drew; refine rmW mk.out hs0 fun hHeld => ?_; refine tk4 at0 at1 at2 at3 ?_; refine tk at4 ?_; refine tu2 at5 at6 ?_; refine roW at7 fun K hK => ?_; rw [if_neg]
       rotate_left
       focus (intro h; exact Bool.noConfusion h)
       refine hK.out _ _ hHeld (fun _ => ?_); clear hK K; (try simp only [Act.put, kq])
       refine tk2 at8 at9 ?_; refine tu8 at10 at11 at12 at13 at14 at15 at16 at17 ?_; refine tu4 at18 at19 at20 at21 ?_; refine tk at22 ?_; refine dnW ?_; go_wp2_with fail
       go_roundw
       case rel => exact ⟨k + 1, some g, by omega, rfl, rfl, by go_num, HN.out (by rw [← H3.out, ← H2.out]; rfl), below_call HB.out (below_call HB0.out hs0)⟩
       case measure => simp [intOf]; omega
     · cases b2
       · have mk := Lib.hid fun w' (h : Below w0.heap.size w0 w') => (K0.out.keep h).t6 (And.intro ((h.cell HgB.out).trans Hg1.out) h)
         have hs0 : Below w0.heap.size w0 w0.drew := (Below.refl _ _).drew; refine rmW mk.out hs0 fun hHeld => ?_; refine tk4 at0 at1 at2 at3 ?_; refine tk2 at4 at5 ?_; refine tk at6 ?_; refine roW at7 fun K hK => ?_; go_simp
         (go_at_call 106; refine (covers_ok ⟨s, f, u, n, p, d⟩ day _).mono ?_; rintro e w1 ⟨rfl, hb1⟩; have hs1 := below_call hs0 hb1; rw [← H2.out]; clear hb1)
         (try go_wp2_with fail)
         refine hK.out _ _ (mk.out _ hs1) (fun hHeld1 => ?_); clear hK K hHeld; (try simp only [Act.put, kq])
         refine tk2 at8 at9 ?_; refine tu8 at10 at11 at12 at13 at14 at15 at16 at17 ?_; refine tu4 at18 at19 at20 at21 ?_; refine tk at22 ?_; refine dnW ?_; go_wp2_with fail
         go_roundw
         case rel => exact ⟨k + 1, some g, by omega, rfl, rfl, by go_num, HN.out (by rw [← H3.out, ← H2.out]; rfl), below_call HB.out (below_call HB0.out hs1)⟩
         case measure => simp [intOf]; omega
       · cases b4
         · have mk := Lib.hid fun w' (h : Below w0.heap.size w0 w') => (K0.out.keep h).t6 (And.intro ((h.cell HgB.out).trans Hg1.out) h)
           have hs0 : Below w0.heap.size w0 w0.drew := (Below.refl _ _).drew; refine rmW mk.out hs0 fun hHeld => ?_; refine tk4 at0 at1 at2 at3 ?_; refine tk2 at4 at5 ?_; refine tk at6 ?_; refine roW at7 fun K hK => ?_; go_simp
           (go_at_call 106; refine (covers_ok ⟨s, f, u, n, p, d⟩ day _).mono ?_; rintro e w1 ⟨rfl, hb1⟩; have hs1 := below_call hs0 hb1; rw [← H2.out]; clear hb1)
           (try go_wp2_with fail)
           refine hK.out _ _ (mk.out _ hs1) (fun hHeld1 => ?_); clear hK K hHeld; (try simp only [Act.put, kq])
           refine tk8 at8 at9 at10 at11 at12 at13 at14 at15 ?_; refine tk4 at16 at17 at18 at19 ?_; refine tk2 at20 at21 ?_; refine tk at22 ?_; refine dnW ?_; go_wp2_with fail
           go_roundw
           case rel => exact ⟨k + 1, some g, by omega, rfl, rfl, by go_num, HN.out (by rw [← H3.out, ← H2.out]; simp [laterB, HGk.out, H4.out]), below_call HB.out (below_call HB0.out hs1)⟩
           case measure => simp [intOf]; omega
         · have mk := Lib.hid fun w' (h : Below w0.heap.size w0 w') => (K0.out.keep h).t6 (And.intro ((h.cell HgB.out).trans Hg1.out) h)
           have hs0 : Below w0.heap.size w0 w0.drew := (Below.refl _ _).drew; refine rmW mk.out hs0 fun hHeld => ?_; refine tk4 at0 at1 at2 at3 ?_; refine tk2 at4 at5 ?_; refine tk at6 ?_; refine roW at7 fun K hK => ?_; go_simp
           (go_at_call 106; refine (covers_ok ⟨s, f, u, n, p, d⟩ day _).mono ?_; rintro e w1 ⟨rfl, hb1⟩; have hs1 := below_call hs0 hb1; rw [← H2.out]; clear hb1)
           (try go_wp2_with fail)
           refine hK.out _ _ (mk.out _ hs1) (fun hHeld1 => ?_); clear hK K hHeld; (try simp only [Act.put, kq])
           refine tk8 at8 at9 at10 at11 at12 at13 at14 at15 ?_; refine tk4 at16 at17 at18 at19 ?_; refine tk2 at20 at21 ?_; refine tk at22 ?_; refine dnW ?_; go_wp2_with fail
           go_roundw
           case rel => exact ⟨k + 1, some k, by omega, rfl, rfl, by go_num, HY.out (by rw [← H3.out, ← H2.out]; simp [laterB, HGk.out, H4.out]), below_call HB.out (below_call HB0.out hs1)⟩
           case measure => simp [intOf]; omega
  · have HF : Hid (findC cs sc day = r) := by show _ = _; rw [findC, show cs.length = k by omega]; exact HR.out
    subst hbest hfound; go_wp2_with fail
    go_ret2
    rw [HF.out]; exact ⟨rfl, HB.out⟩
theorem covers_in (c : Ct) (day : Int) : coversC c day = (rightC c && inR day c.f c.u) := by unfold coversC inR; rw [Bool.and_assoc]
def outI : Option Nat → Int
 | none => -1
 | some g => g
theorem outI_is (r : Option Nat) : decide (0 ≤ outI r) = r.isSome := by cases r <;> simp [outI] <;> omega
theorem rcFind_ok (v : Value) (cs : List Ct) (sc day : Int) (w : World) (h : CtIn w v cs) (hn : cs.length ≤ 1099511627776) :
 Calls Tryz.prog 93 #[v, .int .i64 sc, .int .i64 day] w fun e w' => e = .returned (.tuple #[.int .i64 ((findC cs sc day).getD 0 : Nat), .bool (findC cs sc day).isSome]) ∧ Below w.heap.size w w' := by
 obtain ⟨a1, cap1, rfl⟩ := h.shape; have H1 := hI h; clear h; go_enter Tryz.func93, Tryz.ntmps93
 go_wp2_with fail
 go_loopw [8, 9] (fun b i wr => ∃ (k : Nat) (r : Option Nat), k ≤ cs.length ∧ b = .int .i64 (outI r) ∧ i = .int .i64 k ∧ Hid (findS cs sc day k = r) ∧ Hid (Below w.heap.size w wr)) (fun _ i _ => cs.length - (intOf i).toNat)
 case atStart => exact ⟨0, none, Nat.zero_le _, rfl, rfl, rfl, Below.refl _ _⟩
 case round =>
  obtain ⟨k, r, hk, hbest, rfl, HR, HB⟩ := hrel
  by_cases hlt : k < cs.length
  · have hIx : (k : Int) < (cs.length : Int) := by omega
    obtain ⟨b, off, rfl, hb, hcell⟩ := (H1.out.keep HB.out).at hlt; have HY := hI (findS_yes (cs := cs) (sc := sc) (day := day) hlt); have HN := hI (findS_no (cs := cs) (sc := sc) (day := day) hlt); obtain ⟨c, hc⟩ : ∃ c, c = cs[k] := ⟨_, rfl⟩; rw [← hc] at hcell HY HN; rw [HR.out] at HY HN; obtain ⟨s, f, u, n, p, d⟩ := c; have c0 : wr.cell? ⟨b, off + k * 6, none⟩ = some (.int .i64 s) := hcell 0 _ rfl; have c1 : wr.cell? ⟨b, off + k * 6 + 1, none⟩ = some (.int .i64 f) := hcell 1 _ rfl; have c2 : wr.cell? ⟨b, off + k * 6 + 2, none⟩ = some (.int .i64 u) := hcell 2 _ rfl; have c3 : wr.cell? ⟨b, off + k * 6 + 3, none⟩ = some (.int .i64 n) := hcell 3 _ rfl; have c4 : wr.cell? ⟨b, off + k * 6 + 4, none⟩ = some (.int .i64 p) := hcell 4 _ rfl; have c5 : wr.cell? ⟨b, off + k * 6 + 5, none⟩ = some (.int .i64 d) := hcell 5 _ rfl; clear hcell hc; obtain ⟨b1, h1⟩ : ∃ b, b = rightC ⟨s, f, u, n, p, d⟩ := ⟨_, rfl⟩; obtain ⟨b2, h2⟩ : ∃ b, b = (s == sc) := ⟨_, rfl⟩; obtain ⟨b3, h3⟩ : ∃ b, b = inR day f u := ⟨_, rfl⟩; have H1_ := hI h1; have H2_ := hI h2; have H3_ := hI h3; replace h2 := h2.symm; clear h1 h3; go_wp2_with fail
    generalize hw0 : World.alloc wr _ = w0; have K0 : Hid (Bx w0 wr.heap.size 76 #[.int .i64 s, .int .i64 f, .int .i64 u, .int .i64 n, .int .i64 p, .int .i64 d]) := by show Bx _ _ _ _; rw [← hw0]; exact bx1 wr _ _
    have HB0 : Hid (Below wr.heap.size wr w0) := by show Below _ _ _; rw [← hw0]; exact below_alloc _ _
    clear hw0 c0 c1 c2 c3 c4 c5
    cases r with
    | none =>
     replace hbest : u8 = .int .i64 (-1) := hbest; subst hbest
     cases b1
     · have mk := Lib.hid fun w' (h : Below w0.heap.size w0 w') => (K0.out.keep h).t6 h
       have hs0 : Below w0.heap.size w0 w0.drew := (Below.refl _ _).drew; refine rmW mk.out hs0 fun hHeld => ?_; refine tk at0 ?_; refine roW at1 fun K hK => ?_; go_simp
       (go_at_call 119; refine (rcRight_ok ⟨s, f, u, n, p, d⟩ _).mono ?_; rintro e w1 ⟨rfl, hb1⟩; have hs1 := below_call hs0 hb1; rw [← H1_.out]; clear hb1)
       (try go_wp2_with fail)
       refine hK.out _ _ (mk.out _ hs1) (fun hHeld1 => ?_); clear hK K hHeld; (try simp only [Act.put, kq])
       refine tk at2 ?_; refine tu4 at3 at4 at5 at6 ?_; refine tk2 at7 at8 ?_; refine tu4 at9 at10 at11 at12 ?_; refine tu at13 ?_; refine roW at14 fun K hK => ?_; rw [if_neg]
       rotate_left
       focus (intro h; exact Bool.noConfusion h)
       refine hK.out _ _ hHeld1 (fun _ => ?_); clear hK K; (try simp only [Act.put, kq])
       refine tk2 at15 at16 ?_; refine tu8 at17 at18 at19 at20 at21 at22 at23 at24 ?_; refine tu4 at25 at26 at27 at28 ?_; refine tu at29 ?_; refine tk at30 ?_; refine dnW ?_; go_wp2_with fail
       go_roundw
       case rel => exact ⟨k + 1, none, by omega, rfl, by go_num, HN.out (by rw [covers_in, ← H2_.out, ← H1_.out, ← H3_.out]; simp), below_call HB.out (below_call HB0.out hs1)⟩
       case measure => simp [intOf]; omega
     · cases b2
       · have mk := Lib.hid fun w' (h : Below w0.heap.size w0 w') => (K0.out.keep h).t6 h
         have hs0 : Below w0.heap.size w0 w0.drew := (Below.refl _ _).drew; refine rmW mk.out hs0 fun hHeld => ?_; refine tk at0 ?_; refine roW at1 fun K hK => ?_; go_simp
         (go_at_call 119; refine (rcRight_ok ⟨s, f, u, n, p, d⟩ _).mono ?_; rintro e w1 ⟨rfl, hb1⟩; have hs1 := below_call hs0 hb1; rw [← H1_.out]; clear hb1)
         (try go_wp2_with fail)
         refine hK.out _ _ (mk.out _ hs1) (fun hHeld1 => ?_); clear hK K hHeld; (try simp only [Act.put, kq])
         refine tk4 at2 at3 at4 at5 ?_; refine tk2 at6 at7 ?_; refine tk at8 ?_; refine tu4 at9 at10 at11 at12 ?_; refine tu at13 ?_; refine roW at14 fun K hK => ?_; rw [if_neg]
         rotate_left
         focus (intro h; exact Bool.noConfusion h)
         refine hK.out _ _ hHeld1 (fun _ => ?_); clear hK K; (try simp only [Act.put, kq])
         refine tk2 at15 at16 ?_; refine tu8 at17 at18 at19 at20 at21 at22 at23 at24 ?_; refine tu4 at25 at26 at27 at28 ?_; refine tu at29 ?_; refine tk at30 ?_; refine dnW ?_; go_wp2_with fail
         go_roundw
         case rel => exact ⟨k + 1, none, by omega, rfl, by go_num, HN.out (by rw [covers_in, ← H2_.out, ← H1_.out, ← H3_.out]; simp), below_call HB.out (below_call HB0.out hs1)⟩
         case measure => simp [intOf]; omega
       · cases b3
         · have mk := Lib.hid fun w' (h : Below w0.heap.size w0 w') => (K0.out.keep h).t6 h
           have hs0 : Below w0.heap.size w0 w0.drew := (Below.refl _ _).drew; refine rmW mk.out hs0 fun hHeld => ?_; refine tk at0 ?_; refine roW at1 fun K hK => ?_; go_simp
           (go_at_call 119; refine (rcRight_ok ⟨s, f, u, n, p, d⟩ _).mono ?_; rintro e w1 ⟨rfl, hb1⟩; have hs1 := below_call hs0 hb1; rw [← H1_.out]; clear hb1)
           (try go_wp2_with fail)
           refine hK.out _ _ (mk.out _ hs1) (fun hHeld1 => ?_); clear hK K hHeld; (try simp only [Act.put, kq])
           refine tk8 at2 at3 at4 at5 at6 at7 at8 at9 ?_; refine tk4 at10 at11 at12 at13 ?_; refine roW at14 fun K hK => ?_; go_simp
           (go_at_call 95; refine (in_ok _ _ _ _).mono ?_; rintro e w2 ⟨rfl, rfl⟩; rw [← H3_.out])
           (try go_wp2_with fail)
           refine hK.out _ _ (mk.out _ hs1) (fun hHeld2 => ?_); clear hK K hHeld1; (try simp only [Act.put, kq])
           refine tk2 at15 at16 ?_; refine tu8 at17 at18 at19 at20 at21 at22 at23 at24 ?_; refine tu4 at25 at26 at27 at28 ?_; refine tu at29 ?_; refine tk at30 ?_; refine dnW ?_; go_wp2_with fail
           go_roundw
           case rel => exact ⟨k + 1, none, by omega, rfl, by go_num, HN.out (by rw [covers_in, ← H2_.out, ← H1_.out, ← H3_.out]; simp), below_call HB.out (below_call HB0.out hs1)⟩
           case measure => simp [intOf]; omega
         · have mk := Lib.hid fun w' (h : Below w0.heap.size w0 w') => (K0.out.keep h).t6 h
           have hs0 : Below w0.heap.size w0 w0.drew := (Below.refl _ _).drew; refine rmW mk.out hs0 fun hHeld => ?_; refine tk at0 ?_; refine roW at1 fun K hK => ?_; go_simp
           (go_at_call 119; refine (rcRight_ok ⟨s, f, u, n, p, d⟩ _).mono ?_; rintro e w1 ⟨rfl, hb1⟩; have hs1 := below_call hs0 hb1; rw [← H1_.out]; clear hb1)
           (try go_wp2_with fail)
           refine hK.out _ _ (mk.out _ hs1) (fun hHeld1 => ?_); clear hK K hHeld; (try simp only [Act.put, kq])
           refine tk8 at2 at3 at4 at5 at6 at7 at8 at9 ?_; refine tk4 at10 at11 at12 at13 ?_; refine roW at14 fun K hK => ?_; go_simp
           (go_at_call 95; refine (in_ok _ _ _ _).mono ?_; rintro e w2 ⟨rfl, rfl⟩; rw [← H3_.out])
           (try go_wp2_with fail)
           refine hK.out _ _ (mk.out _ hs1) (fun hHeld2 => ?_); clear hK K hHeld1; (try simp only [Act.put, kq])
           refine tk4 at15 at16 at17 at18 ?_; refine tk at19 ?_; refine tu8 at20 at21 at22 at23 at24 at25 at26 at27 ?_; refine tu at28 ?_; refine tk2 at29 at30 ?_; refine dnW ?_; go_wp2_with fail
           go_roundw
           case rel => exact ⟨k + 1, some k, by omega, rfl, by go_num, HY.out (by rw [covers_in, ← H2_.out, ← H1_.out, ← H3_.out]; simp [laterB]), below_call HB.out (below_call HB0.out hs1)⟩
           case measure => simp [intOf]; omega
    | some g =>
     have hgk := findS_lt cs sc day k g HR.out; have hgl : g < cs.length := by omega
     have hI2 : (g : Int) < (cs.length : Int) := by omega
     have e0 : decide ((g : Int) < 0) = false := by rw [decide_eq_false_iff_not]; omega
     obtain ⟨b', off', hab, hb', hcell'⟩ := (H1.out.keep HB.out).at hgl
     cases hab
     obtain ⟨c', hc'⟩ : ∃ c, c = cs[g] := ⟨_, rfl⟩; rw [← hc'] at hcell'; have HGk : Hid (cs[g]? = some c') := by show _ = _; rw [List.getElem?_eq_getElem hgl, hc']
     obtain ⟨sg_, fg, ug_, ng_, pg_, dg_⟩ := c'; have Hg1 : Hid (w0.cell? ⟨b, off + g * 6 + 1, none⟩ = some (.int .i64 fg)) := (HB0.out.cell hb').trans (hcell' 1 _ rfl); have HgB : Hid (b < w0.heap.size) := Nat.lt_of_lt_of_le hb' HB0.out.size; clear hcell' hc'; obtain ⟨b4, h4⟩ : ∃ b, b = decide (fg ≤ f) := ⟨_, rfl⟩; replace h4 := h4.symm; have H4_ := hI h4; have hmx : (if outI (some g) < 0 then (0 : Int) else outI (some g)) = (g : Int) := by show (if (g : Int) < 0 then (0 : Int) else (g : Int)) = g; rw [if_neg (by omega)]
     replace hbest : u8 = .int .i64 (g : Int) := hbest; subst hbest
     cases b1
     · have mk := Lib.hid fun w' (h : Below w0.heap.size w0 w') => (K0.out.keep h).t6 (And.intro ((h.cell HgB.out).trans Hg1.out) h)
       have hs0 : Below w0.heap.size w0 w0.drew := (Below.refl _ _).drew; refine rmW mk.out hs0 fun hHeld => ?_; refine tk at0 ?_; refine roW at1 fun K hK => ?_; go_simp
       (go_at_call 119; refine (rcRight_ok ⟨s, f, u, n, p, d⟩ _).mono ?_; rintro e w1 ⟨rfl, hb1⟩; have hs1 := below_call hs0 hb1; rw [← H1_.out]; clear hb1)
       (try go_wp2_with fail)
       refine hK.out _ _ (mk.out _ hs1) (fun hHeld1 => ?_); clear hK K hHeld; (try simp only [Act.put, kq])
       refine tk at2 ?_; refine tu4 at3 at4 at5 at6 ?_; refine tk2 at7 at8 ?_; refine tu4 at9 at10 at11 at12 ?_; refine tu at13 ?_; refine roW at14 fun K hK => ?_; rw [if_neg]
       rotate_left
       focus (intro h; exact Bool.noConfusion h)
       refine hK.out _ _ hHeld1 (fun _ => ?_); clear hK K; (try simp only [Act.put, kq])
       refine tk2 at15 at16 ?_; refine tu8 at17 at18 at19 at20 at21 at22 at23 at24 ?_; refine tu4 at25 at26 at27 at28 ?_; refine tu at29 ?_; refine tk at30 ?_; refine dnW ?_; go_wp2_with fail
       go_roundw
       case rel => exact ⟨k + 1, some g, by omega, rfl, by go_num, HN.out (by rw [covers_in, ← H2_.out, ← H1_.out, ← H3_.out]; simp), below_call HB.out (below_call HB0.out hs1)⟩
       case measure => simp [intOf]; omega
     · cases b2
       · have mk := Lib.hid fun w' (h : Below w0.heap.size w0 w') => (K0.out.keep h).t6 (And.intro ((h.cell HgB.out).trans Hg1.out) h)
         have hs0 : Below w0.heap.size w0 w0.drew := (Below.refl _ _).drew; refine rmW mk.out hs0 fun hHeld => ?_; refine tk at0 ?_; refine roW at1 fun K hK => ?_; go_simp
         (go_at_call 119; refine (rcRight_ok ⟨s, f, u, n, p, d⟩ _).mono ?_; rintro e w1 ⟨rfl, hb1⟩; have hs1 := below_call hs0 hb1; rw [← H1_.out]; clear hb1)
         (try go_wp2_with fail)
         refine hK.out _ _ (mk.out _ hs1) (fun hHeld1 => ?_); clear hK K hHeld; (try simp only [Act.put, kq])
         refine tk4 at2 at3 at4 at5 ?_; refine tk2 at6 at7 ?_; refine tk at8 ?_; refine tu4 at9 at10 at11 at12 ?_; refine tu at13 ?_; refine roW at14 fun K hK => ?_; rw [if_neg]
         rotate_left
         focus (intro h; exact Bool.noConfusion h)
         refine hK.out _ _ hHeld1 (fun _ => ?_); clear hK K; (try simp only [Act.put, kq])
         refine tk2 at15 at16 ?_; refine tu8 at17 at18 at19 at20 at21 at22 at23 at24 ?_; refine tu4 at25 at26 at27 at28 ?_; refine tu at29 ?_; refine tk at30 ?_; refine dnW ?_; go_wp2_with fail
         go_roundw
         case rel => exact ⟨k + 1, some g, by omega, rfl, by go_num, HN.out (by rw [covers_in, ← H2_.out, ← H1_.out, ← H3_.out]; simp), below_call HB.out (below_call HB0.out hs1)⟩
         case measure => simp [intOf]; omega
       · cases b3
         · have mk := Lib.hid fun w' (h : Below w0.heap.size w0 w') => (K0.out.keep h).t6 (And.intro ((h.cell HgB.out).trans Hg1.out) h)
           have hs0 : Below w0.heap.size w0 w0.drew := (Below.refl _ _).drew; refine rmW mk.out hs0 fun hHeld => ?_; refine tk at0 ?_; refine roW at1 fun K hK => ?_; go_simp
           (go_at_call 119; refine (rcRight_ok ⟨s, f, u, n, p, d⟩ _).mono ?_; rintro e w1 ⟨rfl, hb1⟩; have hs1 := below_call hs0 hb1; rw [← H1_.out]; clear hb1)
           (try go_wp2_with fail)
           refine hK.out _ _ (mk.out _ hs1) (fun hHeld1 => ?_); clear hK K hHeld; (try simp only [Act.put, kq])
           refine tk8 at2 at3 at4 at5 at6 at7 at8 at9 ?_; refine tk4 at10 at11 at12 at13 ?_; refine roW at14 fun K hK => ?_; go_simp
           (go_at_call 95; refine (in_ok _ _ _ _).mono ?_; rintro e w2 ⟨rfl, rfl⟩; rw [← H3_.out])
           (try go_wp2_with fail)
           refine hK.out _ _ (mk.out _ hs1) (fun hHeld2 => ?_); clear hK K hHeld1; (try simp only [Act.put, kq])
           refine tk2 at15 at16 ?_; refine tu8 at17 at18 at19 at20 at21 at22 at23 at24 ?_; refine tu4 at25 at26 at27 at28 ?_; refine tu at29 ?_; refine tk at30 ?_; refine dnW ?_; go_wp2_with fail
           go_roundw
           case rel => exact ⟨k + 1, some g, by omega, rfl, by go_num, HN.out (by rw [covers_in, ← H2_.out, ← H1_.out, ← H3_.out]; simp), below_call HB.out (below_call HB0.out hs1)⟩
           case measure => simp [intOf]; omega
         · cases b4
           · have mk := Lib.hid fun w' (h : Below w0.heap.size w0 w') => (K0.out.keep h).t6 (And.intro ((h.cell HgB.out).trans Hg1.out) h)
             have hs0 : Below w0.heap.size w0 w0.drew := (Below.refl _ _).drew; refine rmW mk.out hs0 fun hHeld => ?_; refine tk at0 ?_; refine roW at1 fun K hK => ?_; go_simp
             (go_at_call 119; refine (rcRight_ok ⟨s, f, u, n, p, d⟩ _).mono ?_; rintro e w1 ⟨rfl, hb1⟩; have hs1 := below_call hs0 hb1; rw [← H1_.out]; clear hb1)
             (try go_wp2_with fail)
             refine hK.out _ _ (mk.out _ hs1) (fun hHeld1 => ?_); clear hK K hHeld; (try simp only [Act.put, kq])
             refine tk8 at2 at3 at4 at5 at6 at7 at8 at9 ?_; refine tk4 at10 at11 at12 at13 ?_; refine roW at14 fun K hK => ?_; go_simp
             (go_at_call 95; refine (in_ok _ _ _ _).mono ?_; rintro e w2 ⟨rfl, rfl⟩; rw [← H3_.out])
             (try go_wp2_with fail)
             refine hK.out _ _ (mk.out _ hs1) (fun hHeld2 => ?_); clear hK K hHeld1; (try simp only [Act.put, kq])
             refine tk8 at15 at16 at17 at18 at19 at20 at21 at22 ?_; refine tk8 at23 at24 at25 at26 at27 at28 at29 at30 ?_; refine dnW ?_; go_wp2_with fail
             go_roundw
             case rel => exact ⟨k + 1, some g, by omega, rfl, by go_num, HN.out (by rw [covers_in, ← H2_.out, ← H1_.out, ← H3_.out]; simp [laterB, HGk.out, H4_.out]), below_call HB.out (below_call HB0.out hs1)⟩
             case measure => simp [intOf]; omega
           · have mk := Lib.hid fun w' (h : Below w0.heap.size w0 w') => (K0.out.keep h).t6 (And.intro ((h.cell HgB.out).trans Hg1.out) h)
             have hs0 : Below w0.heap.size w0 w0.drew := (Below.refl _ _).drew; refine rmW mk.out hs0 fun hHeld => ?_; refine tk at0 ?_; refine roW at1 fun K hK => ?_; go_simp
             (go_at_call 119; refine (rcRight_ok ⟨s, f, u, n, p, d⟩ _).mono ?_; rintro e w1 ⟨rfl, hb1⟩; have hs1 := below_call hs0 hb1; rw [← H1_.out]; clear hb1)
             (try go_wp2_with fail)
             refine hK.out _ _ (mk.out _ hs1) (fun hHeld1 => ?_); clear hK K hHeld; (try simp only [Act.put, kq])
             refine tk8 at2 at3 at4 at5 at6 at7 at8 at9 ?_; refine tk4 at10 at11 at12 at13 ?_; refine roW at14 fun K hK => ?_; go_simp
             (go_at_call 95; refine (in_ok _ _ _ _).mono ?_; rintro e w2 ⟨rfl, rfl⟩; rw [← H3_.out])
             (try go_wp2_with fail)
             refine hK.out _ _ (mk.out _ hs1) (fun hHeld2 => ?_); clear hK K hHeld1; (try simp only [Act.put, kq])
             refine tk8 at15 at16 at17 at18 at19 at20 at21 at22 ?_; refine tk8 at23 at24 at25 at26 at27 at28 at29 at30 ?_; refine dnW ?_; go_wp2_with fail
             go_roundw
             case rel => exact ⟨k + 1, some k, by omega, rfl, by go_num, HY.out (by rw [covers_in, ← H2_.out, ← H1_.out, ← H3_.out]; simp [laterB, HGk.out, H4_.out]), below_call HB.out (below_call HB0.out hs1)⟩
             case measure => simp [intOf]; omega
  · have HF : Hid (findC cs sc day = r) := by show _ = _; rw [findC, show cs.length = k by omega]; exact HR.out
    have HS := hI (outI_is r); subst hbest
    cases r with
    | none =>
     have hlo : outI none < 0 := by decide
     go_wp2_with fail
     go_ret2
     rw [HF.out]; exact ⟨rfl, HB.out⟩
    | some g =>
     have hlo : 0 ≤ outI (some g) := by show (0 : Int) ≤ (g : Int); omega
     go_wp2_with fail
     go_ret2
     rw [HF.out]; exact ⟨by first | rfl | (show Ending.returned (.tuple #[.int .i64 (outI (some g)), .bool (decide (0 ≤ outI (some g)))]) = _; rw [HS.out]; rfl), HB.out⟩
end Go.Proofs.YtlcgckelamhnpaaGreat
