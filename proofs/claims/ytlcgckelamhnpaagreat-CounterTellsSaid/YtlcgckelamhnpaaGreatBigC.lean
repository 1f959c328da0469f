/- Walk: sums of digits. -/
import Derived.Test.YtlcgckelamhnpaaGreatBigB
import Derived.Test.YtlcgckelamhnpaaGreatBits
set_option maxRecDepth 100000
set_option maxHeartbeats 4000000
namespace Go.Proofs.YtlcgckelamhnpaaGreat
open Go.RowKit
theorem made_zeros (n : Nat) : (madeCells (Value.int .i64 0).cells (n * 1)).toList = cellsN (List.replicate n 0) := by
 rw [Nat.mul_one]
 show (madeCells #[Value.int .i64 0] n).toList = _
 rw [toList_madeCells_one]
 simp [cellsN, cellsZ, ints]
theorem intInfo : ∃ i : TypeInfo, Tryz.prog.info? 3 = some i ∧ i.zero = some (.int .i64 0) ∧ i.size = 1 ∧ i.bytes = 8 := by
 obtain ⟨i, hi, h1, h2, h3⟩ := info_parts (show (Tryz.prog.info? 3).map (fun i => (i.zero, i.size, i.bytes)) = some (some (.int .i64 0), 1, 8) from by kernel_rfl); exact ⟨i, hi, h1, h2, h3⟩
theorem wpList_mkints {ops : Array Oper} {rest : List Oper} {o : Oper} {a : Act} {Q : Exit → Act → World → Prop} (hg : o.guard = none) (l c : Operand) (hop : o.op = Op.makeSlice 32 l c)
 (w : World) (B n : Nat) (L C : Int) (hl : a.eval l = .int .i64 L) (hc : a.eval c = .int .i64 C) (hL : L = (n : Int)) (hC : C = (n : Int)) (hn : n ≤ 17592186044416) (hB : B ≤ w.heap.size)
 (hK : ∀ w', OwnN w' B (.slice (some ⟨w.heap.size, 0, none⟩) n n) (List.replicate n 0) → Below B w w' → wpList Tryz.prog ops Q rest (a.put o.dst (.slice (some ⟨w.heap.size, 0, none⟩) n n)) w') :
 wpList Tryz.prog ops Q (o :: rest) a w := by
 obtain ⟨i, hi, hz, hs, hb⟩ := intInfo; refine wpList_make_full w hg l c 32 hop B 3 i (.int .i64 0) 1 Tryz.underlying32 hi hz hs .i64 .i64 L C n hl hc hL hC (by rw [hb]; omega) (by unfold maxLen; omega) hB ?_
 intro w' ho hgr
 rw [made_zeros] at ho; refine hK w' ?_ ((Below.refl _ w).grown hgr hB (by simp))
 show w'.ownsRow _ _ _ _ _ _
 rw [List.length_replicate]; exact ho
theorem OwnN.cell {w : World} {B g n cap : Nat} {l : Digs} (h : OwnN w B (.slice (some ⟨g, 0, none⟩) n cap) l) {k : Nat} (hk : k < l.length) : w.cell? ⟨g, k, none⟩ = some (.int .i64 (l[k] : Int)) := by
 rcases h.shape with ⟨h1, -⟩ | ⟨g', cap', h1, -⟩
 · cases h1
 · simp only [Value.slice.injEq, Option.some.injEq, Addr.mk.injEq, and_true] at h1
   obtain ⟨rfl, rfl, rfl⟩ := h1; rw [World.ownsRow.cellAt h k (by omega), cellsN_get l k hk]
theorem OwnN.live {w : World} {B g n cap : Nat} {l : Digs} (h : OwnN w B (.slice (some ⟨g, 0, none⟩) n cap) l) (k : Nat) : w.frozen? ⟨g, k, none⟩ = false := by
 rcases h.shape with ⟨h1, -⟩ | ⟨g', cap', h1, -⟩
 · cases h1
 · simp only [Value.slice.injEq, Option.some.injEq, Addr.mk.injEq, and_true] at h1
   obtain ⟨rfl, rfl, rfl⟩ := h1; exact World.ownsRow.frozenAt h k
theorem cellsN_set (l : Digs) (k d : Nat) : (cellsN l).set k (.int .i64 (d : Int)) = cellsN (l.set k d) := by simp [cellsN, cellsZ, ints, List.map_set]
theorem OwnN.set {w : World} {B g n cap : Nat} {l : Digs} (h : OwnN w B (.slice (some ⟨g, 0, none⟩) n cap) l) (k d : Nat) :
 OwnN (w.setCell ⟨g, k, none⟩ (.int .i64 (d : Int))) B (.slice (some ⟨g, 0, none⟩) n cap) (l.set k d) := by
 rcases h.shape with ⟨h1, -⟩ | ⟨g', cap', h1, -⟩
 · cases h1
 · simp only [Value.slice.injEq, Option.some.injEq, Addr.mk.injEq, and_true] at h1
   obtain ⟨rfl, rfl, rfl⟩ := h1; have := (World.ownsRow.stored h k (.int .i64 (d : Int))).1; rw [cellsN_set] at this
   show World.ownsRow _ _ _ _ _ _ _
   rw [List.length_set]; exact this
theorem take_set_succ (l : Digs) (k m : Nat) (hk : k < l.length) : (l.set k m).take (k + 1) = l.take k ++ [m] := by
 rw [List.take_succ_eq_append_getElem (by rw [List.length_set]; exact hk), List.getElem_set_self, List.take_set_of_le (Nat.le_refl k)]
theorem val_take_set (l : Digs) (k m : Nat) (hk : k < l.length) : val ((l.set k m).take (k + 1)) = val (l.take k) + 1048576 ^ k * m := by
 rw [take_set_succ l k m hk, val_snoc, List.length_take, Nat.min_eq_left (by omega)]
theorem small_set {l : Digs} (h : small l) {k m : Nat} (hm : m < 1048576) : small (l.set k m) := by
 intro d hd
 rcases List.mem_or_eq_of_mem_set hd with h' | rfl
 · exact h d h'
 · exact hm
theorem add_step {b v p q cy x y m c : Nat} (h : v + b * cy = p + q) (hm : m + 1048576 * c = cy + x + y) : (v + b * m) + (b * 1048576) * c = (p + b * x) + (q + b * y) := by
 have h2 := congrArg (fun z => b * z) hm; simp only [Nat.mul_add] at h2; rw [Nat.mul_assoc b 1048576 c]; omega
theorem val_take_all {l : Digs} {k : Nat} (h : l.length ≤ k) : val (l.take k) = val l := by rw [List.take_of_length_le h]
theorem bigAdd_ge (p q : Value) (P Q : Digs) (w : World) (hp : RdN w p P) (hq : RdN w q Q) (sp : small P) (sq : small Q) (hl : Q.length ≤ P.length) (hn : P.length ≤ 1099511627776) :
 Calls Tryz.prog 113 #[p, q] w fun e w' => ∃ v, e = .returned v ∧ OwnN w' w.heap.size v (digs (val P + val Q)) ∧ Below w.heap.size w w' := by
 obtain ⟨a, cap, rfl⟩ := hp.shape; obtain ⟨a2, cap2, rfl⟩ := hq.shape; have HP := Lib.hid hp; clear hp; have HQ := Lib.hid hq; clear hq; go_enter Tryz.func113, Tryz.ntmps113
 go_wp2_with (at_make; go_must (refine wpList_mkints rfl _ _ rfl w w.heap.size (P.length + 1) _ _ rfl rfl (by simp) (by simp) (by omega) (Nat.le_refl _) ?_; intro w1 ho hb))
 have HO := Lib.hid ho; clear ho; have HB0 := Lib.hid hb; clear hb; go_loopw [6, 22] (fun c i wr => ∃ (k cy : Nat) (os : Digs), k ≤ P.length ∧ cy ≤ 1 ∧ os.length = P.length + 1 ∧ c = .int .i64 cy ∧ i = .int .i64 k ∧ Hid (small os) ∧ Hid (val (os.take k) + 1048576 ^ k * cy = val (P.take k) + val (Q.take k)) ∧ Hid (OwnN wr w.heap.size (.slice (some ⟨w.heap.size, 0, none⟩) (P.length + 1) (P.length + 1)) os) ∧ Hid (Below w.heap.size w wr)) (fun _ i _ => P.length - (intOf i).toNat)
 case atStart => exact ⟨0, 0, _, Nat.zero_le _, by omega, List.length_replicate .., rfl, rfl, fun d hd => by rw [(List.mem_replicate.1 hd).2]; omega, by show _ = _; simp [val], HO, HB0⟩
 case round =>
  obtain ⟨k, cy, os, hk, hcy, hlo, rfl, rfl, HSm, HE, HW, HB⟩ := hrel; have HLo := Lib.hid hlo
  by_cases hlt : k < P.length
  · obtain ⟨b, off, rfl, hbb, hcell⟩ := (HP.out.keep HB.out).at hlt
    obtain ⟨x, hx⟩ : ∃ x, x = P[k] := ⟨_, rfl⟩; rw [← hx] at hcell; have hxs : x < 1048576 := by rw [hx]; exact small_get sp k hlt
    have HX := Lib.hid hx; clear hx; have hko : k < os.length := by omega
    obtain ⟨old, hold⟩ : ∃ old : Nat, wr.cell? ⟨w.heap.size, k, none⟩ = some (.int .i64 (old : Int)) := ⟨_, HW.out.cell hko⟩; have hfr := HW.out.live k; clear hlo
    by_cases hq : k < Q.length
    · obtain ⟨b2, off2, rfl, hb2, hcell2⟩ := (HQ.out.keep HB.out).at hq
      obtain ⟨y, hy⟩ : ∃ y, y = Q[k] := ⟨_, rfl⟩; rw [← hy] at hcell2; have hys : y < 1048576 := by rw [hy]; exact small_get sq k hq
      have HY := Lib.hid hy; clear hy; obtain ⟨m, hm⟩ : ∃ m : Nat, m = (cy + x + y) % 1048576 := ⟨_, rfl⟩; obtain ⟨c, hc⟩ : ∃ c : Nat, c = (cy + x + y) / 1048576 := ⟨_, rfl⟩; have hmask : bits .and .i64 ((cy : Int) + x + y) 1048575 = (m : Int) := by rw [mask20, hm]; omega
      have hsum : m + 1048576 * c = cy + x + y := by omega
      have hms : m < 1048576 := by omega
      have hcs : c ≤ 1 := by omega
      have hdiv : ((cy : Int) + x + y) / 1048576 = (c : Int) := by omega
      have HS := Lib.hid hsum; clear hm hc hsum; go_wp2_with fail
      go_roundw
      case rel => exact ⟨k + 1, c, os.set k m, by omega, hcs, by rw [List.length_set]; exact HLo.out, by rfl, by go_num, small_set HSm.out hms, by
       show _ = _
       rw [val_take_set _ _ _ hko, val_take_succ P k hlt, val_take_succ Q k hq, ← HX.out, ← HY.out, Nat.pow_succ]; exact add_step HE.out HS.out, HW.out.set k m, HB.out.setCell (Nat.le_refl _) _⟩
      case measure => simp [intOf]; omega
    · obtain ⟨m, hm⟩ : ∃ m : Nat, m = (cy + x) % 1048576 := ⟨_, rfl⟩
      obtain ⟨c, hc⟩ : ∃ c : Nat, c = (cy + x) / 1048576 := ⟨_, rfl⟩; have hmask : bits .and .i64 ((cy : Int) + x) 1048575 = (m : Int) := by rw [mask20, hm]; omega
      have hsum : m + 1048576 * c = cy + x + 0 := by omega
      have hms : m < 1048576 := by omega
      have hcs : c ≤ 1 := by omega
      have hdiv : ((cy : Int) + x) / 1048576 = (c : Int) := by omega
      have HS := Lib.hid hsum; clear hm hc hsum; go_wp2_with fail
      go_roundw
      case rel => exact ⟨k + 1, c, os.set k m, by omega, hcs, by rw [List.length_set]; exact HLo.out, by rfl, by go_num, small_set HSm.out hms, by
       show _ = _
       have := add_step HE.out HS.out; rw [val_take_set _ _ _ hko, val_take_succ P k hlt, ← HX.out, val_take_all (l := Q) (k := k + 1) (by omega), Nat.pow_succ]; rw [val_take_all (l := Q) (k := k) (by omega)] at this
       simpa using this, HW.out.set k m, HB.out.setCell (Nat.le_refl _) _⟩
      case measure => simp [intOf]; omega
  · obtain rfl : k = P.length := by omega
    have hko : P.length < os.length := by omega
    obtain ⟨old, hold⟩ : ∃ old : Nat, wr.cell? ⟨w.heap.size, P.length, none⟩ = some (.int .i64 (old : Int)) := ⟨_, HW.out.cell hko⟩; have hfr := HW.out.live P.length; have HW2 := Lib.hid (HW.out.set P.length cy); have HB2 := Lib.hid (HB.out.setCell (p := ⟨w.heap.size, P.length, none⟩) (Nat.le_refl _) (.int .i64 (cy : Int)))
    have HV : Hid (val (os.set P.length cy) = val P + val Q) := by
     show _ = _
     have h1 := val_take_set os P.length cy hko; rw [val_take_all (l := os.set P.length cy) (by rw [List.length_set, HLo.out]; exact Nat.le_refl _)] at h1; rw [h1, HE.out, val_take_all (Nat.le_refl _), val_take_all hl]
    have HS2 := Lib.hid (small_set (k := P.length) HSm.out (show cy < 1048576 by omega)); have hol : (os.set P.length cy).length ≤ 8796093022208 := by rw [List.length_set, HLo.out]; omega
    have HOL := Lib.hid hol; clear hlo hol hlt; go_wp2_with fail
    refine (bigTrim_own w.heap.size _ (os.set P.length cy) _ ?_ HS2.out HOL.out).mono ?_
    · exact HW2.out
    rintro e w2 ⟨v', rfl, ho, rfl⟩; have HO2 := Lib.hid ho; clear ho; rw [HV.out] at HO2; go_wp2_with fail
    go_ret
    exact ⟨v', rfl, HO2.out, HB2.out⟩
theorem bigAdd_lt (p q : Value) (P Q : Digs) (w : World) (hp : RdN w p P) (hq : RdN w q Q) (sp : small P) (sq : small Q) (hlt0 : Q.length < P.length) (hn : P.length ≤ 1099511627776) :
 Calls Tryz.prog 113 #[q, p] w fun e w' => ∃ v, e = .returned v ∧ OwnN w' w.heap.size v (digs (val P + val Q)) ∧ Below w.heap.size w w' := by
 have hl : Q.length ≤ P.length := by omega
 obtain ⟨a, cap, rfl⟩ := hp.shape; obtain ⟨a2, cap2, rfl⟩ := hq.shape; have HP := Lib.hid hp; clear hp; have HQ := Lib.hid hq; clear hq; go_enter Tryz.func113, Tryz.ntmps113
 go_wp2_with (at_make; go_must (refine wpList_mkints rfl _ _ rfl w w.heap.size (P.length + 1) _ _ rfl rfl (by simp) (by simp) (by omega) (Nat.le_refl _) ?_; intro w1 ho hb))
 have HO := Lib.hid ho; clear ho; have HB0 := Lib.hid hb; clear hb; go_loopw [6, 22] (fun c i wr => ∃ (k cy : Nat) (os : Digs), k ≤ P.length ∧ cy ≤ 1 ∧ os.length = P.length + 1 ∧ c = .int .i64 cy ∧ i = .int .i64 k ∧ Hid (small os) ∧ Hid (val (os.take k) + 1048576 ^ k * cy = val (P.take k) + val (Q.take k)) ∧ Hid (OwnN wr w.heap.size (.slice (some ⟨w.heap.size, 0, none⟩) (P.length + 1) (P.length + 1)) os) ∧ Hid (Below w.heap.size w wr)) (fun _ i _ => P.length - (intOf i).toNat)
 case atStart => exact ⟨0, 0, _, Nat.zero_le _, by omega, List.length_replicate .., rfl, rfl, fun d hd => by rw [(List.mem_replicate.1 hd).2]; omega, by show _ = _; simp [val], HO, HB0⟩
 case round =>
  obtain ⟨k, cy, os, hk, hcy, hlo, rfl, rfl, HSm, HE, HW, HB⟩ := hrel; have HLo := Lib.hid hlo
  by_cases hlt : k < P.length
  · obtain ⟨b, off, rfl, hbb, hcell⟩ := (HP.out.keep HB.out).at hlt
    obtain ⟨x, hx⟩ : ∃ x, x = P[k] := ⟨_, rfl⟩; rw [← hx] at hcell; have hxs : x < 1048576 := by rw [hx]; exact small_get sp k hlt
    have HX := Lib.hid hx; clear hx; have hko : k < os.length := by omega
    obtain ⟨old, hold⟩ : ∃ old : Nat, wr.cell? ⟨w.heap.size, k, none⟩ = some (.int .i64 (old : Int)) := ⟨_, HW.out.cell hko⟩; have hfr := HW.out.live k; clear hlo
    by_cases hq : k < Q.length
    · obtain ⟨b2, off2, rfl, hb2, hcell2⟩ := (HQ.out.keep HB.out).at hq
      obtain ⟨y, hy⟩ : ∃ y, y = Q[k] := ⟨_, rfl⟩; rw [← hy] at hcell2; have hys : y < 1048576 := by rw [hy]; exact small_get sq k hq
      have HY := Lib.hid hy; clear hy; obtain ⟨m, hm⟩ : ∃ m : Nat, m = (cy + x + y) % 1048576 := ⟨_, rfl⟩; obtain ⟨c, hc⟩ : ∃ c : Nat, c = (cy + x + y) / 1048576 := ⟨_, rfl⟩; have hmask : bits .and .i64 ((cy : Int) + x + y) 1048575 = (m : Int) := by rw [mask20, hm]; omega
      have hsum : m + 1048576 * c = cy + x + y := by omega
      have hms : m < 1048576 := by omega
      have hcs : c ≤ 1 := by omega
      have hdiv : ((cy : Int) + x + y) / 1048576 = (c : Int) := by omega
      have HS := Lib.hid hsum; clear hm hc hsum; go_wp2_with fail
      go_roundw
      case rel => exact ⟨k + 1, c, os.set k m, by omega, hcs, by rw [List.length_set]; exact HLo.out, by rfl, by go_num, small_set HSm.out hms, by
       show _ = _
       rw [val_take_set _ _ _ hko, val_take_succ P k hlt, val_take_succ Q k hq, ← HX.out, ← HY.out, Nat.pow_succ]; exact add_step HE.out HS.out, HW.out.set k m, HB.out.setCell (Nat.le_refl _) _⟩
      case measure => simp [intOf]; omega
    · obtain ⟨m, hm⟩ : ∃ m : Nat, m = (cy + x) % 1048576 := ⟨_, rfl⟩
      obtain ⟨c, hc⟩ : ∃ c : Nat, c = (cy + x) / 1048576 := ⟨_, rfl⟩; have hmask : bits .and .i64 ((cy : Int) + x) 1048575 = (m : Int) := by rw [mask20, hm]; omega
      have hsum : m + 1048576 * c = cy + x + 0 := by omega
      have hms : m < 1048576 := by omega
      have hcs : c ≤ 1 := by omega
      have hdiv : ((cy : Int) + x) / 1048576 = (c : Int) := by omega
      have HS := Lib.hid hsum; clear hm hc hsum; go_wp2_with fail
      go_roundw
      case rel => exact ⟨k + 1, c, os.set k m, by omega, hcs, by rw [List.length_set]; exact HLo.out, by rfl, by go_num, small_set HSm.out hms, by
       show _ = _
       have := add_step HE.out HS.out; rw [val_take_set _ _ _ hko, val_take_succ P k hlt, ← HX.out, val_take_all (l := Q) (k := k + 1) (by omega), Nat.pow_succ]; rw [val_take_all (l := Q) (k := k) (by omega)] at this
       simpa using this, HW.out.set k m, HB.out.setCell (Nat.le_refl _) _⟩
      case measure => simp [intOf]; omega
  · obtain rfl : k = P.length := by omega
    have hko : P.length < os.length := by omega
    obtain ⟨old, hold⟩ : ∃ old : Nat, wr.cell? ⟨w.heap.size, P.length, none⟩ = some (.int .i64 (old : Int)) := ⟨_, HW.out.cell hko⟩; have hfr := HW.out.live P.length; have HW2 := Lib.hid (HW.out.set P.length cy); have HB2 := Lib.hid (HB.out.setCell (p := ⟨w.heap.size, P.length, none⟩) (Nat.le_refl _) (.int .i64 (cy : Int)))
    have HV : Hid (val (os.set P.length cy) = val P + val Q) := by
     show _ = _
     have h1 := val_take_set os P.length cy hko; rw [val_take_all (l := os.set P.length cy) (by rw [List.length_set, HLo.out]; exact Nat.le_refl _)] at h1; rw [h1, HE.out, val_take_all (Nat.le_refl _), val_take_all hl]
    have HS2 := Lib.hid (small_set (k := P.length) HSm.out (show cy < 1048576 by omega)); have hol : (os.set P.length cy).length ≤ 8796093022208 := by rw [List.length_set, HLo.out]; omega
    have HOL := Lib.hid hol; clear hlo hol hlt; go_wp2_with fail
    refine (bigTrim_own w.heap.size _ (os.set P.length cy) _ ?_ HS2.out HOL.out).mono ?_
    · exact HW2.out
    rintro e w2 ⟨v', rfl, ho, rfl⟩; have HO2 := Lib.hid ho; clear ho; rw [HV.out] at HO2; go_wp2_with fail
    go_ret
    exact ⟨v', rfl, HO2.out, HB2.out⟩
theorem bigAdd_any (p q : Value) (P Q : Digs) (w : World) (hp : RdN w p P) (hq : RdN w q Q) (sp : small P) (sq : small Q) (hn : P.length ≤ 1099511627776) (hm : Q.length ≤ 1099511627776) :
 Calls Tryz.prog 113 #[p, q] w fun e w' => ∃ v, e = .returned v ∧ OwnN w' w.heap.size v (digs (val P + val Q)) ∧ Below w.heap.size w w' := by
 rcases Nat.lt_or_ge P.length Q.length with h | h
 · rw [Nat.add_comm]; exact bigAdd_lt q p Q P w hq hp sq sp h hm
 · exact bigAdd_ge p q P Q w hp hq sp sq h hn
end Go.Proofs.YtlcgckelamhnpaaGreat
