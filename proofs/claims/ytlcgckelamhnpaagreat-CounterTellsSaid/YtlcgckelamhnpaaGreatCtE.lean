/- Slices of slices of marks that the call owns: a block of headers, and a row behind each of them. -/
import Derived.Test.YtlcgckelamhnpaaGreatCtA
namespace Go.Proofs.YtlcgckelamhnpaaGreat
open Go.RowKit Go.Lib
variable {G : Nat}
theorem iv_r {ac ar : Option Addr} {cc cr : Nat} {cs : List Ct} {rr : List Rc} {sc rd day : Int} {lo hi : Option Rat} {b_ : Bool} {w : World} (hG : G ≤ w.heap.size) (h1 : CtIn w (.slice ac cs.length cc) cs) (h2 : RcIn w (.slice ar rr.length cr) rr) (hn1 : cs.length ≤ 1099511627776) (hn2 : rr.length ≤ 1099511627776) (hlo : loO cs rr sc rd day = lo) (hhi : hiO cs rr sc rd day = hi) (hb : hasI cs rr sc rd day = b_) :
 Calls Tryz.prog 58 #[.slice ac cs.length cc, .slice ar rr.length cr, .int .i64 sc, .int .i64 rd, .int .i64 day] w fun e w' => ∃ x0 x1 x2 x3 x4 x5 x6 x7, e = .returned (.tuple #[.agg #[x0, x1, x2, x3], .agg #[x4, x5, x6, x7], .bool b_]) ∧ OQ G w' x0 x1 x2 x3 lo ∧ OQ G w' x4 x5 x6 x7 hi ∧ Below w.heap.size w w' := by
 subst hlo hhi hb; refine (rcInterval_all (G := G) h1 h2 hn1 hn2 hG).mono ?_; rintro e w' ⟨a, c, b, d, a', c', b', d', rfl, k1, k2, k3, k4, hb⟩; exact ⟨_, _, _, _, _, _, _, _, rfl, OQ.of k1 k2, OQ.of k3 k4, hb⟩
structure HV where
 v : Value
instance : El HV where
 cells x := [x.v]
 sz := 1
 T := 59
 deep := []
 ok _ _ x := x.v.oneCell' = true
 len := fun _ => rfl
 one := by
  rintro G w x h u hu
  simp at hu; subst hu; exact h
 keep := fun h _ => h
 far := fun h _ _ _ _ => h
abbrev OwH (G B : Nat) (w : World) (g off : Nat) (l : List HV) : Prop := OwB G B w g off l
theorem hdInfo : ∃ i : TypeInfo, Tryz.prog.info? 59 = some i ∧ i.zero = some (.slice none 0 0) ∧ i.size = 1 ∧ i.bytes = 24 := by
 obtain ⟨i, hi, h1, h2, h3⟩ := info_parts (show (Tryz.prog.info? 59).map (fun i => (i.zero, i.size, i.bytes)) = some (some (.slice none 0 0), 1, 24) from by kernel_rfl); exact ⟨i, hi, h1, h2, h3⟩
theorem flat_hv (l : List HV) : l.flatMap El.cells = l.map HV.v := by
 induction l with
 | nil => rfl
 | cons x r ih => rw [List.flatMap_cons, ih]; rfl
theorem wpList_mkhd {ops : Array Oper} {rest : List Oper} {o : Oper} {a : Act} {Q : Exit → Act → World → Prop} (hg : o.guard = none) (l c : Operand) (hop : o.op = Op.makeSlice 57 l c)
 (w : World) (n : Nat) (L C : Int) (hl : a.eval l = .int .i64 L) (hc : a.eval c = .int .i64 C) (hL : L = (n : Int)) (hC : C = (n : Int)) (hn : n ≤ 1000) (hG : G ≤ w.heap.size)
 (hK : ∀ w', OwH G w.heap.size w' w.heap.size 0 (List.replicate n ⟨.slice none 0 0⟩) → Below w.heap.size w w' → wpList Tryz.prog ops Q rest (a.put o.dst (.slice (some ⟨w.heap.size, 0, none⟩) n n)) w') :
 wpList Tryz.prog ops Q (o :: rest) a w := by
 obtain ⟨i, hi, hz, hs, hb⟩ := hdInfo; refine wpList_make_full w hg l c 57 hop w.heap.size 59 i (.slice none 0 0) 1 Tryz.underlying57 hi hz hs .i64 .i64 L C n hl hc hL hC (by rw [hb]; omega) (by unfold maxLen; omega) (Nat.le_refl _) ?_
 intro w' ho hgr
 refine hK w' ?_ ((Below.refl _ w).grown hgr (Nat.le_refl _) (by simp))
 have hl2 : (List.replicate n (⟨.slice none 0 0⟩ : HV)).flatMap El.cells = (madeCells (Value.slice none 0 0).cells (n * 1)).toList := by
  rw [flat_hv, List.map_replicate]
  show _ = (madeCells #[Value.slice none 0 0] (n * 1)).toList
  rw [Nat.mul_one, toList_madeCells_one]
 have ho2 : w'.ownsRow w.heap.size (El.T HV) (El.sz HV) (.slice (some ⟨w.heap.size, 0, none⟩) n n) (List.replicate n (⟨.slice none 0 0⟩ : HV)).length ((List.replicate n (⟨.slice none 0 0⟩ : HV)).flatMap El.cells) := by
  rw [hl2, List.length_replicate]; exact ho
 rcases OwB.of_own (G := G) ho2 hG (fun x hx => by rw [(List.mem_replicate.1 hx).2]; rfl) with ⟨h1, -⟩ | ⟨g, c', h1, -, -, h4⟩
 · cases h1
 · simp only [Value.slice.injEq, Option.some.injEq, Addr.mk.injEq, and_true] at h1
   obtain ⟨rfl, -, -⟩ := h1; exact h4
structure RwsM (G B : Nat) (w : World) (hs : List HV) (ls : List (List MkC)) : Prop where
 leG : G ≤ B
 len : hs.length = ls.length
 own : ∀ (i : Nat) (x : HV) (l : List MkC), hs[i]? = some x → ls[i]? = some l → OwVM G B w x.v l
 dis : ∀ (i j : Nat) (x y : HV), i ≠ j → hs[i]? = some x → hs[j]? = some y → x.v.ownBlock = none ∨ x.v.ownBlock ≠ y.v.ownBlock
theorem RwsM.keep {w w' : World} {B : Nat} {hs : List HV} {ls : List (List MkC)} (h : RwsM G B w hs ls) (hb : Below w.heap.size w w') : RwsM G B w' hs ls :=
 ⟨h.leG, h.len, fun i x l h1 h2 => (h.own i x l h1 h2).keep hb, h.dis⟩
instance {w w' : World} {B : Nat} {hs : List HV} {ls : List (List MkC)} : Goes (RwsM G B w hs ls) w w' (RwsM G B w' hs ls) := ⟨fun h hb => h.keep hb⟩
theorem RwsM.far {w w' : World} {B g : Nat} {hs : List HV} {ls : List (List MkC)} {T' : TypeId} {ys : Array Value} (h : RwsM G B w hs ls) (k : Bx w g T' ys) (hT : ([81, 3] : List TypeId).contains T' = false) (hG : G ≤ g) (hg : w.grownBy w' (some g)) : RwsM G B w' hs ls :=
 ⟨h.leG, h.len, fun i x l h1 h2 => OwV.far (h.own i x l h1 h2) k hT hG hg, h.dis⟩
theorem RwsM.nil {B n : Nat} (w : World) (hG : G ≤ B) : RwsM G B w (List.replicate n ⟨.slice none 0 0⟩) (List.replicate n []) :=
 ⟨hG, by simp, fun i x l h1 h2 => by
  obtain ⟨_, rfl⟩ := List.getElem?_eq_some_iff.1 h1; obtain ⟨_, rfl⟩ := List.getElem?_eq_some_iff.1 h2; simp only [List.getElem_replicate]; exact OwV.nil w hG, fun i j x y _ h1 _ => by
  obtain ⟨_, rfl⟩ := List.getElem?_eq_some_iff.1 h1; simp only [List.getElem_replicate]; exact .inl rfl⟩
theorem OwVM.kept2 {w w' : World} {B : Nat} {v1 v2 : Value} {l1 l2 : List MkC} (h : OwVM G B w v2 l2) (ho : OwVM G B w v1 l1) (hn : v2.ownBlock = none ∨ v2.ownBlock ≠ v1.ownBlock) (hg : w.grownBy w' v1.ownBlock) : OwVM G B w' v2 l2 :=
 ⟨h.leG, h.own.kept hg hn, fun x hx => El.grown (h.oks x hx) ho.own (by rfl) h.leG hg⟩
theorem ne_nextM {B : Nat} {w : World} {v1 v1' v2 : Value} {l2 : List MkC} (h : OwVM G B w v2 l2) (hn : v2.ownBlock = none ∨ v2.ownBlock ≠ v1.ownBlock) (hv : v1'.ownBlock = v1.ownBlock ∨ v1'.ownBlock = some w.heap.size) : v2.ownBlock = none ∨ v2.ownBlock ≠ v1'.ownBlock := by
 rcases hv with hv | hv
 · rw [hv]; exact hn
 · rw [hv]
   rcases own_block h.own with h2 | ⟨g, cur, h2, -, h3⟩
   · exact .inl h2
   · rw [h2]; right; have := h3.lt; simp; omega
theorem ne_symM {a b : Option Nat} (h : a = none ∨ a ≠ b) : b = none ∨ b ≠ a := by
 rcases h with rfl | h
 · cases b
   · exact .inl rfl
   · exact .inr (by simp)
 · exact .inr (Ne.symm h)
theorem RwsM.push {w w' : World} {B q : Nat} {hs : List HV} {ls : List (List MkC)} {x : HV} {l l' : List MkC} {v' : Value} (h : RwsM G B w hs ls) (hx : hs[q]? = some x) (hl : ls[q]? = some l) (ho : OwVM G B w' v' l') (hg : w.grownBy w' x.v.ownBlock) (hv : v'.ownBlock = x.v.ownBlock ∨ v'.ownBlock = some w.heap.size) :
 RwsM G B w' (hs.set q ⟨v'⟩) (ls.set q l') := by
 have hq := (List.getElem?_eq_some_iff.1 hx).1; have hq' := (List.getElem?_eq_some_iff.1 hl).1; have ex := h.own q x l hx hl; refine ⟨h.leG, by simp [h.len], fun i y m h1 h2 => ?_, fun i j y z hij h1 h2 => ?_⟩
 · by_cases e : q = i
   · subst e
     rw [List.getElem?_set_self hq] at h1; rw [List.getElem?_set_self hq'] at h2
     cases h1; cases h2; exact ho
   · rw [List.getElem?_set_ne e] at h1 h2
     exact (h.own i y m h1 h2).kept2 ex (h.dis i q y x (Ne.symm e) h1 hx) hg
 · by_cases ei : q = i
   · subst ei
     have ej : q ≠ j := hij; rw [List.getElem?_set_self hq] at h1; rw [List.getElem?_set_ne ej] at h2
     cases h1
     have hj : ∃ m, ls[j]? = some m := ⟨ls[j]'(by have := (List.getElem?_eq_some_iff.1 h2).1; have := h.len; omega), List.getElem?_eq_getElem _⟩; obtain ⟨m, hm⟩ := hj; exact ne_symM (ne_nextM (h.own j z m h2 hm) (h.dis j q z x (Ne.symm ej) h2 hx) hv)
   · rw [List.getElem?_set_ne ei] at h1
     have hi : ∃ m, ls[i]? = some m := ⟨ls[i]'(by have := (List.getElem?_eq_some_iff.1 h1).1; have := h.len; omega), List.getElem?_eq_getElem _⟩; obtain ⟨m, hm⟩ := hi
     by_cases ej : q = j
     · subst ej
       rw [List.getElem?_set_self hq] at h2; cases h2; exact ne_nextM (h.own i y m h1 hm) (h.dis i q y x (Ne.symm ei) h1 hx) hv
     · rw [List.getElem?_set_ne ej] at h2
       exact h.dis i j y z hij h1 h2
theorem OwB.openH {w : World} {B g q : Nat} {hs : List HV} {x : HV} (h : OwH G B w g 0 hs) (hx : hs[q]? = some x) : ∃ P R : List Value, Bo w g q P R 59 [x.v] ∧
 ∀ (w' : World) (v' : Value), Bo w' g q P R 59 [v'] → v'.oneCell' = true → OwH G B w' g 0 (hs.set q ⟨v'⟩) := by
 obtain ⟨hq, rfl⟩ := List.getElem?_eq_some_iff.1 hx; have e : hs = hs.take q ++ hs[q] :: hs.drop (q + 1) := by simp
 have hl : (hs.take q).length = q := by simp; omega
 have h' : OwH G B w g 0 (hs.take q ++ hs[q] :: hs.drop (q + 1)) := by rw [← e]; exact h
 obtain ⟨P, R, h1, -, h3, -, h5⟩ := OwB.open h'; rw [hl, show 0 + q * El.sz HV = q by show 0 + q * 1 = q; omega] at h1 h5; refine ⟨P, R, h1, fun w' v' hb ho => ?_⟩; have := h5 w' ⟨v'⟩ hb ho h3; rw [show hs.set q ⟨v'⟩ = hs.take q ++ ⟨v'⟩ :: hs.drop (q + 1) by rw [List.set_eq_take_append_cons_drop, if_pos hq]]; exact this
theorem elemMk : ElemT Tryz.prog 59 81 (.agg #[.int .i64 0, .int .i64 0, .slice none 0 0, .int .i64 0, .slice none 0 0, .int .i64 0, .slice none 0 0, .int .i64 0, .slice none 0 0]) 9 136 := ⟨Tryz.underlying59, by kernel_rfl, rfl, by decide⟩
theorem wp_push_atM {P : Program} {o : Oper} {a : Act} {K : Act → World → Prop} {Q : Exit → Act → World → Prop} {s y : Operand} {t : TypeId} {z : Value} {bytes B n : Nat} {v : Value} {l : List MkC} {w : World}
 (h : OwVM G B w v l) (hl : l.length = n) (E : ElemT P t (El.T MkC) z (El.sz MkC) bytes) (x : MkC) {b : Nat} {cs : Array Value} (hb : Bx w b (El.T MkC) cs) (hc : cs = (El.cells x).toArray) (hx : El.ok G w x)
 (hd : (El.deep MkC).contains (El.T MkC) = false) (hbytes : (n + 1) * bytes ≤ 140737488355328) (h63 : n + 1 ≤ 140737488355328) (hB : B ≤ w.heap.size)
 (ho : o.op = .call { callee := .builtin .append, args := #[s, y], argTypes := #[t, t] }) (hs : a.eval s = v) (hy : a.eval y = .slice (some ⟨b, 0, none⟩) 1 1)
 (hK : ∀ v' w', OwVM G B w' v' (l ++ [x]) → w.grownBy w' v.ownBlock → (v'.ownBlock = v.ownBlock ∨ v'.ownBlock = some w.heap.size) → K (a.put o.dst v') w') : o.wp P a w K Q := by
 subst hl; obtain ⟨i0, hi, hz0, hz1, hz2⟩ := info_parts E.info
 obtain ⟨v', w', hr, h2, h3, -, h5⟩ := run_append_own_at (P := P) w B t o.type (El.T MkC) i0 z (El.sz MkC) bytes E.under hi hz0 hz1 hz2 E.cells E.pos v l.length (l.flatMap El.cells) h.own ⟨b, 0, none⟩ 1 1 (El.cells x) (by rw [El.len, Nat.one_mul])
   (fun j u hj => by rw [add_off, Nat.zero_add, hb.at.1, hc]; simpa using hj) (El.one hx) (by unfold maxLen; omega) hbytes hB
 unfold Oper.wp execOp; simp only [ho, resolve, invoke, builtin, Sem.run_bind, Sem.run_pure, Result.andThen_ok, List.map_toArray, List.map_cons, List.map_nil, hs, hy, hr]; refine hK _ _ ⟨h.leG, ?_, fun y hy => ?_⟩ h3 h5
 · rw [List.length_append, List.flatMap_append]; simpa using h2
 · rcases List.mem_append.1 hy with hy | hy
   · exact El.grown (h.oks y hy) h.own hd h.leG h3
   · simp at hy; subst hy; exact El.grown hx h.own hd h.leG h3
theorem Bo.d1 {w : World} {g o : Nat} {P R : List Value} {T : TypeId} {u0 : Value} (h : Bo w g o P R T [u0]) : w.cell? ⟨g, o, none⟩ = some u0 := by
 have := (h.at 0 (by simp)).1; simpa using this
theorem Bo.c1 {w : World} {g o : Nat} {P R : List Value} {T : TypeId} {u0 : Value} (h : Bo w g o P R T [u0]) : w.cell? ⟨g, o, none⟩ = some u0 ∧ w.frozen? ⟨g, o, none⟩ = false := by
 have := h.at 0 (by simp); simpa using this
theorem Bo.grownT {w w' : World} {g o : Nat} {P R : List Value} {T : TypeId} {cs : List Value} {B : Nat} {e : TypeId} {size n : Nat} {v : Value} {xs : List Value} (h : Bo w g o P R T cs) (ho : w.ownsRow B e size v n xs) (hT : (T == e) = false) (hg : w.grownBy w' v.ownBlock) : Bo w' g o P R T cs :=
 ⟨h.bx.grownT ho hT hg, h.len⟩
def RgIn (n : Nat) (rs : List Rg) : Prop := ∀ (i : Nat) (x : Rg), rs[i]? = some x → 0 ≤ x.m ∧ x.m < (n : Int)
def MksOk (iv : Iv) (ms : List Mt) (rs : List Rg) (k : Nat) (ls : List (List MkC)) : Prop := ∀ (i : Nat) (l : List MkC), ls[i]? = some l → l.map MkC.mk' = marksL iv ms (rs.take k) (i : Nat) ∧ l.length ≤ k ∧ MkZ l 60
theorem marks_snoc {iv : Iv} {ms : List Mt} {rs : List Rg} {x : Rg} {m : Int} : marksL iv ms (rs ++ [x]) m = marksL iv ms rs m ++ (if x.m = m then (mkOf iv ms x).toList else []) := by
 unfold marksL; rw [List.filter_append, List.filterMap_append]
 congr 1
 by_cases h : x.m = m
 · rw [if_pos h, List.filter_cons, if_pos (by simpa using h), List.filter_nil]
   cases e : mkOf iv ms x <;> simp [e]
 · rw [if_neg h, List.filter_cons, if_neg (by simpa using h), List.filter_nil]; rfl
theorem take_snoc_at {α : Type} {l : List α} {k : Nat} {x : α} (h : l[k]? = some x) : l.take (k + 1) = l.take k ++ [x] := by
 obtain ⟨hk, rfl⟩ := List.getElem?_eq_some_iff.1 h; exact List.take_succ_eq_append_getElem hk
theorem MksOk.zero {iv : Iv} {ms : List Mt} {rs : List Rg} {n : Nat} : MksOk iv ms rs 0 (List.replicate n []) := fun i l h => by
 obtain ⟨_, rfl⟩ := List.getElem?_eq_some_iff.1 h; simp only [List.getElem_replicate]; exact ⟨rfl, Nat.le_refl _, fun x hx => by cases hx⟩
theorem MksOk.no {iv : Iv} {ms : List Mt} {rs : List Rg} {k q : Nat} {ls : List (List MkC)} {d c : Int} {y : Mt} (h : MksOk iv ms rs k ls) (hx : rs[k]? = some ⟨(q : Int), d, c⟩) (hy : ms[q]? = some y) (hi : iv y.s c d = none) : MksOk iv ms rs (k + 1) ls := fun i l hl => by
 obtain ⟨h1, h2, h3⟩ := h i l hl; refine ⟨?_, by omega, h3⟩; rw [take_snoc_at hx, marks_snoc, h1]
 have : mkOf iv ms ⟨(q : Int), d, c⟩ = none := by
  unfold mkOf rIv mtAt
  show Option.map _ (iv (ms.getD ((q : Int).toNat) ⟨0, 0, 0⟩).s c d) = none
  rw [Int.toNat_natCast, List.getD_eq_getElem?_getD, hy]
  show Option.map _ (iv y.s c d) = none
  rw [hi]; rfl
 rw [this]
 split <;> simp
theorem MksOk.yes {iv : Iv} {ms : List Mt} {rs : List Rg} {k q : Nat} {ls : List (List MkC)} {lq : List MkC} {d c : Int} {y : Mt} {x : MkC} (h : MksOk iv ms rs k ls) (hx : rs[k]? = some ⟨(q : Int), d, c⟩) (hy : ms[q]? = some y) (hi : iv y.s c d = some (x.lo, x.hi)) (hd : x.d = d) (hz : Fz x.lo 60 ∧ Fz x.hi 60) (hl : ls[q]? = some lq) :
 MksOk iv ms rs (k + 1) (ls.set q (lq ++ [x])) := fun i l hli => by
 have hq := (List.getElem?_eq_some_iff.1 hl).1
 have hm : mkOf iv ms ⟨(q : Int), d, c⟩ = some x.mk' := by
  unfold mkOf rIv mtAt
  show Option.map _ (iv (ms.getD ((q : Int).toNat) ⟨0, 0, 0⟩).s c d) = _
  rw [Int.toNat_natCast, List.getD_eq_getElem?_getD, hy]
  show Option.map _ (iv y.s c d) = _
  rw [hi, ← hd]; rfl
 rw [take_snoc_at hx, marks_snoc]
 by_cases e : q = i
 · subst e
   rw [List.getElem?_set_self hq] at hli
   cases hli
   obtain ⟨h1, h2, h3⟩ := h q lq hl; refine ⟨?_, by simp; omega, fun z hz2 => ?_⟩
   · rw [if_pos rfl, hm, List.map_append, h1]; rfl
   · rcases List.mem_append.1 hz2 with hz2 | hz2
     · exact h3 z hz2
     · simp at hz2; subst hz2; exact hz
 · rw [List.getElem?_set_ne e] at hli
   obtain ⟨h1, h2, h3⟩ := h i l hli; refine ⟨?_, by omega, h3⟩; rw [if_neg (by show ¬ ((q : Int) = (i : Int)); omega), List.append_nil, h1]
theorem rws_rd {w : World} {B n : Nat} {hs : List HV} {ls : List (List MkC)} (h : RwsM G B w hs ls) : ∀ k, k ≤ hs.length → ∃ L : List HdM, L.length = k ∧ L.map HdM.l = ls.take k ∧ ∀ (i : Nat) (y : HdM), L[i]? = some y → El.ok G w y ∧ ∃ x : HV, hs[i]? = some x ∧ x.v = .slice y.a y.n y.c
 | 0, _ => ⟨[], rfl, rfl, fun i y hy => by cases hy⟩
 | k + 1, hk => by
  obtain ⟨L, h1, h2, h3⟩ := rws_rd (n := n) h k (by omega); have hx : hs[k]? = some hs[k] := List.getElem?_eq_getElem (by omega); have hkl : k < ls.length := by have := h.len; omega
  have hl : ls[k]? = some ls[k] := List.getElem?_eq_getElem hkl; obtain ⟨a, c, hv, hr⟩ := OwV.rdl (h.own k _ _ hx hl) rfl; refine ⟨L ++ [⟨a, ls[k].length, c, ls[k]⟩], by simp [h1], ?_, fun i y hy => ?_⟩
  · rw [List.map_append, h2, List.take_succ_eq_append_getElem hkl]; rfl
  · by_cases hi : i < L.length
    · rw [List.getElem?_append_left hi] at hy; exact h3 i y hy
    · rw [List.getElem?_append_right (by omega)] at hy
      have h0 : i - L.length = 0 := by
       rcases Nat.eq_zero_or_pos (i - L.length) with h0 | h0
       · exact h0
       · rw [List.getElem?_eq_none (by simp; omega)] at hy; cases hy
      rw [h0] at hy; have hik : i = k := by omega
      subst hik
      cases hy
      exact ⟨hr, _, hx, hv⟩
theorem marks_end {w : World} {B n g : Nat} {iv : Iv} {ms : List Mt} {rs : List Rg} {hs : List HV} {ls : List (List MkC)} (ho : OwH G B w g 0 hs) (h : RwsM G B w hs ls) (hn : hs.length = n) (hm : MksOk iv ms rs rs.length ls) :
 ∃ L : List HdM, RdH G w (some ⟨g, 0, none⟩) n n L ∧ L.map (fun x => x.l.map MkC.mk') = (List.range n).map (fun i => marksL iv ms rs (i : Nat)) ∧ ∀ x ∈ L, MkZ x.l 60 := by
 obtain ⟨L, h1, h2, h3⟩ := rws_rd (n := n) h hs.length (Nat.le_refl _); have hll : ls.length = n := by rw [← h.len, hn]
 rw [List.take_of_length_le (by have := h.len; omega)] at h2
 have hget : ∀ (i : Nat) (x : HdM), L[i]? = some x → x.l.map MkC.mk' = marksL iv ms rs (i : Nat) ∧ MkZ x.l 60 := by
  intro i x hx
  have h4 : ls[i]? = some x.l := by rw [← h2, List.getElem?_map, hx]; rfl
  have h5 := hm i x.l h4; rw [List.take_length] at h5; exact ⟨h5.1, h5.2.2⟩
 refine ⟨L, RdL.of (RdB.conv (OwB.rd ho) rfl rfl fun k y hk => ?_) (by rw [h1, hn]) (Nat.le_refl _), ?_, fun x hx => ?_⟩
 · obtain ⟨hok, x, hx, hv⟩ := h3 k y hk
   exact ⟨x, hx, by show [x.v] = [Value.slice y.a y.n y.c]; rw [hv], hok⟩
 · apply List.ext_getElem?
   intro i
   rw [List.getElem?_map, List.getElem?_map]
   by_cases hi : i < n
   · have hx : L[i]? = some L[i] := List.getElem?_eq_getElem (by omega)
     rw [hx, List.getElem?_range hi]; exact congrArg some (hget i _ hx).1
   · rw [List.getElem?_eq_none (by omega), List.getElem?_eq_none (by simp; omega)]; rfl
 · obtain ⟨i, hi, rfl⟩ := List.getElem_of_mem hx
   exact (hget i _ (List.getElem?_eq_getElem hi)).2
theorem RwsM.f {w v : World} {B g : Nat} {hs : List HV} {ls : List (List MkC)} {T : TypeId} {ys : Array Value} (h : RwsM G B w hs ls) (k : Bx w g T ys) (hg : w.grownBy v (some g)) (hT : ([81, 3] : List TypeId).contains T = false := by rfl) (hG : G ≤ g := by omega) : RwsM G B v hs ls := h.far k hT hG hg
end Go.Proofs.YtlcgckelamhnpaaGreat
