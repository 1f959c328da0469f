/- The walk of ScaleOthers: whatever the arguments, it returns true. -/
import Derived.Test.YtpjpkcelajbfnaaScaleK
namespace Go.Proofs.Ytpjpkcelajbfnaa
open Go.RowKit
variable {G : Nat}

/-- The certificate in force, itself. -/
def bestC (cs : List Ct) (sc day : Int) : Option Ct := match findC cs sc day with | none => none | some g => cs[g]?
def nearC (sc day : Int) (c : Ct) : Bool := c.s == sc && coversC c day
def lateC (o : Option Ct) (c : Ct) : Bool := match o with | none => true | some x => decide (x.f ≤ c.f)
theorem findS_app (cs ds : List Ct) (sc day : Int) : ∀ k, k ≤ cs.length → findS (cs ++ ds) sc day k = findS cs sc day k
  | 0, _ => rfl
  | k + 1, hk => by
    have ih := findS_app cs ds sc day k (by omega)
    simp only [findS, List.getElem?_append_left (show k < cs.length by omega), ih]
    have hl : ∀ c, laterB (cs ++ ds) (findS cs sc day k) c = laterB cs (findS cs sc day k) c := fun c => by
      unfold laterB
      cases hb : findS cs sc day k with
      | none => rfl
      | some b =>
        have := findS_lt cs sc day k b hb
        simp only [List.getElem?_append_left (show b < cs.length by omega)]
    simp only [hl]
theorem findC_snoc (cs : List Ct) (c : Ct) (sc day : Int) : findC (cs ++ [c]) sc day = if (nearC sc day c && lateC (bestC cs sc day) c) = true then some cs.length else findC cs sc day := by
  unfold findC
  rw [List.length_append]
  show findS (cs ++ [c]) sc day (cs.length + 1) = _
  have h := findS_app cs [c] sc day cs.length (Nat.le_refl _)
  simp only [findS, List.getElem?_append_right (Nat.le_refl _), Nat.sub_self, List.getElem?_cons_zero, h]
  have hl : laterB (cs ++ [c]) (findS cs sc day cs.length) c = lateC (bestC cs sc day) c := by
    unfold laterB lateC bestC findC
    cases hb : findS cs sc day cs.length with
    | none => rfl
    | some b =>
      have := findS_lt cs sc day _ b hb
      simp only [List.getElem?_append_left this, List.getElem?_eq_getElem this]
  rw [hl]; rfl
theorem bestC_snoc (cs : List Ct) (c : Ct) (sc day : Int) : bestC (cs ++ [c]) sc day = if (nearC sc day c && lateC (bestC cs sc day) c) = true then some c else bestC cs sc day := by
  rw [bestC, findC_snoc]
  by_cases h : (nearC sc day c && lateC (bestC cs sc day) c) = true
  · rw [if_pos h, if_pos h]; simp
  · rw [if_neg h, if_neg h, bestC]
    cases hb : findC cs sc day with
    | none => rfl
    | some b => exact List.getElem?_append_left (findS_lt cs sc day _ b hb)
theorem bestC_near {cs : List Ct} {sc day : Int} : ∀ {k : Nat}, k ≤ cs.length → bestC ((cs.take k).filter (nearC sc day)) sc day = bestC (cs.take k) sc day
  | 0, _ => rfl
  | k + 1, hk => by
    have ih := bestC_near (cs := cs) (sc := sc) (day := day) (k := k) (by omega)
    rw [List.take_succ_eq_append_getElem (show k < cs.length by omega), List.filter_append, bestC_snoc]
    by_cases h : nearC sc day cs[k] = true
    · rw [show List.filter (nearC sc day) [cs[k]] = [cs[k]] by simp [h], bestC_snoc, ih]
    · rw [show List.filter (nearC sc day) [cs[k]] = [] by simp [h], List.append_nil, ih]
      rw [if_neg (by simp [h])]
theorem bestC_all (cs : List Ct) (sc day : Int) : bestC (cs.filter (nearC sc day)) sc day = bestC cs sc day := by
  have := bestC_near (cs := cs) (sc := sc) (day := day) (k := cs.length) (Nat.le_refl _)
  rwa [List.take_length] at this
theorem recalled_all (rs : List Rc) (sc day : Int) : recalledB (rs.filter fun r => r.s == sc) sc day = recalledB rs sc day := by
  unfold recalledB
  rw [List.any_filter]
  congr 1; funext r; unfold recB; cases (r.s == sc) <;> simp
theorem ivl_best (cs : List Ct) (rs : List Rc) (sc rd day : Int) : ivl cs rs sc rd day = match bestC cs sc day with | none => none | some c => if recalledB rs sc day = true then none else if inR rd 0 1099511627776 = true then some (loQ (errQ c rd day) rd, hiQ (errQ c rd day) rd) else none := by
  unfold ivl bestC
  cases findC cs sc day with
  | none => rfl
  | some g => rfl
theorem ivl_own (cs : List Ct) (rs : List Rc) (sc rd day : Int) : ivl (cs.filter (nearC sc day)) (rs.filter fun r => r.s == sc) sc rd day = ivl cs rs sc rd day := by
  rw [ivl_best, ivl_best, bestC_all, recalled_all]
theorem findC_near {cs : List Ct} {sc day : Int} : ∀ {k : Nat}, k ≤ cs.length → (findC (cs.take k) sc day).isSome = decide (0 < ((cs.take k).filter (nearC sc day)).length)
  | 0, _ => rfl
  | k + 1, hk => by
    have ih := findC_near (cs := cs) (sc := sc) (day := day) (k := k) (by omega)
    rw [List.take_succ_eq_append_getElem (show k < cs.length by omega), List.filter_append, findC_snoc]
    by_cases h : nearC sc day cs[k] = true
    · rw [show List.filter (nearC sc day) [cs[k]] = [cs[k]] by simp [h]]
      by_cases h2 : lateC (bestC (cs.take k) sc day) cs[k] = true
      · rw [if_pos (by rw [h, h2]; rfl)]; simp
      · rw [if_neg (by rw [h]; simpa using h2)]
        have : (findC (cs.take k) sc day).isSome = true := by
          cases hb : findC (cs.take k) sc day with
          | none => exact absurd (show lateC (bestC (cs.take k) sc day) cs[k] = true by unfold bestC; rw [hb]; rfl) h2
          | some b => rfl
        rw [this]; simp
    · rw [show List.filter (nearC sc day) [cs[k]] = [] by simp [h], List.append_nil, if_neg (by simp [h]), ih]
theorem findC_all (cs : List Ct) (sc day : Int) : (findC cs sc day).isSome = decide (0 < (cs.filter (nearC sc day)).length) := by
  have := findC_near (cs := cs) (sc := sc) (day := day) (k := cs.length) (Nat.le_refl _)
  rwa [List.take_length] at this
theorem near_parts (c : Ct) (sc day : Int) : nearC sc day c = (rightC c && ((c.s == sc) && (decide (c.f ≤ day) && decide (day ≤ c.u)))) := by
  unfold nearC coversC
  cases rightC c <;> cases (c.s == sc) <;> simp
/-- One more recall. -/
theorem recalled_more (rs : List Rc) (x : Rc) (sc day : Int) : recalledB (rs ++ [x]) sc day = (recalledB rs sc day || recB sc day x) := by
  unfold recalledB; simp
theorem ivl_stop {cs : List Ct} {rs : List Rc} {x : Rc} {sc rd day : Int} (h : recB sc day x = true) : ivl cs (rs ++ [x]) sc rd day = none := by
  rw [ivl_best, recalled_more, h, Bool.or_true]
  cases bestC cs sc day <;> rfl
theorem ivl_go {cs : List Ct} {rs : List Rc} {x : Rc} {sc rd day : Int} (h : recB sc day x = false) : ivl cs (rs ++ [x]) sc rd day = ivl cs rs sc rd day := by
  rw [ivl_best, ivl_best, recalled_more, h, Bool.or_false]
theorem find_new {cs : List Ct} {c : Ct} {sc day : Int} (h : nearC sc day c = true) (h2 : lateC (bestC cs sc day) c = true) : findC (cs ++ [c]) sc day = some cs.length := by
  rw [findC_snoc, if_pos (by rw [h, h2]; rfl)]

theorem filter_yes {α : Type} {p : α → Bool} {l : List α} {k : Nat} {c : α} (hk : k < l.length) (hc : c = l[k]) (h : p c = true) : (l.take (k + 1)).filter p = (l.take k).filter p ++ [c] := by
  subst hc; rw [List.take_succ_eq_append_getElem hk, List.filter_append]; simp [h]
theorem filter_no {α : Type} {p : α → Bool} {l : List α} {k : Nat} {c : α} (hk : k < l.length) (hc : c = l[k]) (h : p c = false) : (l.take (k + 1)).filter p = (l.take k).filter p := by
  subst hc; rw [List.take_succ_eq_append_getElem hk, List.filter_append]; simp [h]
theorem filter_len {α : Type} (p : α → Bool) (l : List α) (k : Nat) : ((l.take k).filter p).length ≤ l.length := Nat.le_trans (List.length_filter_le _ _) (List.length_take_le' _ _)
/-- The elements kept so far, in memory of the call's own. -/
def Kept {α : Type} (w : World) (B : Nat) (T : TypeId) (size : Nat) (cells : α → List Value) (v : Value) (l : List α) : Prop := w.ownsRow B T size v l.length (l.flatMap cells)
theorem Kept.nil {α : Type} (w : World) (T : TypeId) (size : Nat) (cells : α → List Value) : Kept (w.alloc (.cells #[] T)) w.heap.size T size cells (.slice (some ⟨w.heap.size, 0, none⟩) 0 0) [] :=
  World.ownsRow_made w #[] 0 (Nat.le_refl _) (Nat.zero_le _) (by simp)
theorem Kept.keep {α : Type} {w w' : World} {B : Nat} {T : TypeId} {size : Nat} {cells : α → List Value} {v : Value} {l : List α} (h : Kept w B T size cells v l) (hb : Below w.heap.size w w') : Kept w' B T size cells v l := own_below h hb
theorem Kept.no {α : Type} {p : α → Bool} {l : List α} {k : Nat} {c : α} {w : World} {B : Nat} {T : TypeId} {size : Nat} {cells : α → List Value} {v : Value} (h : Kept w B T size cells v ((l.take k).filter p)) (hk : k < l.length) (hc : c = l[k]) (hp : p c = false) : Kept w B T size cells v ((l.take (k + 1)).filter p) := by
  rw [filter_no hk hc hp]; exact h
theorem Kept.yes {α : Type} {p : α → Bool} {l : List α} {k : Nat} {c : α} {w : World} {B : Nat} {T : TypeId} {size : Nat} {cells : α → List Value} {v : Value} (h : w.ownsRow B T size v (((l.take k).filter p).length + 1) (((l.take k).filter p).flatMap cells ++ cells c)) (hk : k < l.length) (hc : c = l[k]) (hp : p c = true) : Kept w B T size cells v ((l.take (k + 1)).filter p) := by
  unfold Kept; rw [filter_yes hk hc hp]; simpa using h
theorem Kept.end_ {α : Type} {p : α → Bool} {l own : List α} {k : Nat} {w : World} {B : Nat} {T : TypeId} {size : Nat} {cells : α → List Value} {v : Value} (h : Kept w B T size cells v ((l.take k).filter p)) (hk : l.length ≤ k) (ho : own = l.filter p) : Kept w B T size cells v own := by
  rw [List.take_of_length_le hk, ← ho] at h; exact h
theorem lo_own {cs own : List Ct} {rs calls : List Rc} {sc rd day : Int} (h1 : own = cs.filter (nearC sc day)) (h2 : calls = rs.filter fun r => r.s == sc) : loO own calls sc rd day = loO cs rs sc rd day := by
  subst h1 h2; unfold loO; rw [ivl_own]
theorem hi_own {cs own : List Ct} {rs calls : List Rc} {sc rd day : Int} (h1 : own = cs.filter (nearC sc day)) (h2 : calls = rs.filter fun r => r.s == sc) : hiO own calls sc rd day = hiO cs rs sc rd day := by
  subst h1 h2; unfold hiO; rw [ivl_own]
theorem has_own {cs own : List Ct} {rs calls : List Rc} {sc rd day : Int} (h1 : own = cs.filter (nearC sc day)) (h2 : calls = rs.filter fun r => r.s == sc) : hasI own calls sc rd day = hasI cs rs sc rd day := by
  subst h1 h2; unfold hasI; rw [ivl_own]

set_option maxRecDepth 100000 in
set_option maxHeartbeats 4000000 in
theorem others_few {cs : List Ct} {rs : List Rc} {sc rd day : Int} {a1 a2 : Option Addr} {cap1 cap2 : Nat} {w : World} (hG : G ≤ w.heap.size) (h1 : CtIn w (.slice a1 cs.length cap1) cs) (h2 : RcIn w (.slice a2 rs.length cap2) rs) (hf : fewB cs.length rs.length = false) :
    Calls Try.prog 6 #[.slice a1 cs.length cap1, .slice a2 rs.length cap2, .int .i64 sc, .int .i64 rd, .int .i64 day] w fun e w' => e = .returned (.bool true) ∧ Below w.heap.size w w' := by
  have HF := Lib.hid hf; clear hf
  have H1 : Hid (CtIn w (.slice a1 cs.length cap1) cs) := h1
  have H2 : Hid (RcIn w (.slice a2 rs.length cap2) rs) := h2
  clear h1 h2
  have M : Hid (Below w.heap.size w w) := Below.refl _ _
  go_enter Try.func6, Try.ntmps6
  go_wp2_with fail
  refine (sane_ok (G := G) _ (Nat.le_trans hG M.out.size)).mono ?_
  rintro e w1 ⟨rfl, hb⟩
  replace M := Lib.hid (Goes.go M.out hb)
  clear hb
  go_wp2_with fail
  refine (few_is (b := false) (H1.out.keep M.out) (H2.out.keep M.out) HF.out).mono ?_
  rintro e _ ⟨rfl, rfl⟩
  go_wp2_with fail
  go_ret
  exact ⟨rfl, M.out⟩

set_option maxRecDepth 100000 in
set_option maxHeartbeats 4000000 in
theorem others_all {cs : List Ct} {rs : List Rc} {sc rd day : Int} {a1 a2 : Option Addr} {cap1 cap2 : Nat} {w : World} (hG : G ≤ w.heap.size) (h1 : CtIn w (.slice a1 cs.length cap1) cs) (h2 : RcIn w (.slice a2 rs.length cap2) rs) (hf : fewB cs.length rs.length = true) :
    Calls Try.prog 6 #[.slice a1 cs.length cap1, .slice a2 rs.length cap2, .int .i64 sc, .int .i64 rd, .int .i64 day] w fun e w' => e = .returned (.bool true) ∧ Below w.heap.size w w' := by
  have hl := few_len hf
  have HF := Lib.hid hf; clear hf
  obtain ⟨own, hown⟩ : ∃ x, x = cs.filter (nearC sc day) := ⟨_, rfl⟩
  obtain ⟨calls, hcalls⟩ : ∃ x, x = rs.filter (fun r => r.s == sc) := ⟨_, rfl⟩
  have hlo : own.length ≤ cs.length := by rw [hown]; exact List.length_filter_le _ _
  have hlc : calls.length ≤ rs.length := by rw [hcalls]; exact List.length_filter_le _ _
  obtain ⟨fi, hfi⟩ : ∃ x : Int, (((findC cs sc day).getD 0 : Nat) : Int) = x := ⟨_, rfl⟩
  obtain ⟨fb, hfb⟩ : ∃ x : Bool, (findC cs sc day).isSome = x := ⟨_, rfl⟩
  obtain ⟨ib, hib⟩ : ∃ x : Bool, hasI cs rs sc rd day = x := ⟨_, rfl⟩
  have hfo : decide (0 < own.length) = fb := by rw [← hfb, findC_all, ← hown]
  have HIC := Lib.hid ((has_own (rd := rd) hown hcalls).trans hib)
  have HLO := Lib.hid (lo_own (rd := rd) hown hcalls)
  have HHI := Lib.hid (hi_own (rd := rd) hown hcalls)
  have HFI := Lib.hid hfi; have HFB := Lib.hid hfb; have HIB := Lib.hid hib
  have HDown := Lib.hid hown; have HDcalls := Lib.hid hcalls
  clear hfi hfb hib hown hcalls
  have H1 : Hid (CtIn w (.slice a1 cs.length cap1) cs) := h1
  have H2 : Hid (RcIn w (.slice a2 rs.length cap2) rs) := h2
  clear h1 h2
  have M : Hid (Below w.heap.size w w) := Below.refl _ _
  go_enter Try.func6, Try.ntmps6
  go_wp2_with fail
  refine (sane_ok (G := G) _ (Nat.le_trans hG M.out.size)).mono ?_
  rintro e w1 ⟨rfl, hb⟩
  replace M := Lib.hid (Goes.go M.out hb)
  clear hb
  go_wp2_with fail
  refine (few_is (b := true) (H1.out.keep M.out) (H2.out.keep M.out) HF.out).mono ?_
  rintro e _ ⟨rfl, rfl⟩
  go_upto_region 4 with fail
  have hsx : w.heap.size ≤ w1.heap.size := (M.out).size
  go_wp2_with fail
  go_loopw [12, 13] (fun own_ i wr => ∃ k : Nat, k ≤ cs.length ∧ i = .int .i64 k ∧ Hid (Kept wr w1.heap.size 25 6 cCells own_ ((cs.take k).filter (nearC sc day))) ∧ Hid (Below w1.heap.size w1 wr)) (fun _ i _ => cs.length - (intOf i).toNat)
  case atStart => exact ⟨0, Nat.zero_le _, rfl, Kept.nil _ _ _ _, below_alloc _ _⟩
  case round =>
    obtain ⟨wx, rfl⟩ : ∃ x, x = wr := ⟨_, rfl⟩
    obtain ⟨k, hk, rfl, HO, HB⟩ := hrel
    replace M := Lib.hid (Goes.go M.out HB.out)
    by_cases hlt : k < cs.length
    ·
      have hI : (k : Int) < (cs.length : Int) := by omega
      obtain ⟨b, off, rfl, hb, hcell⟩ := (H1.out.keep M.out).at hlt
      have HN := Lib.hid (fun (c : Ct) (hc : c = cs[k]) (hp : (nearC sc day) c = false) => HO.out.no hlt hc hp)
      obtain ⟨c, hc⟩ : ∃ c, c = cs[k] := ⟨_, rfl⟩
      rw [← hc] at hcell
      obtain ⟨s, f, u, n, p, d⟩ := c
      have HC := Lib.hid hc; clear hc
      have HR : Hid (Row wx b (off + k * 6) [.int .i64 s, .int .i64 f, .int .i64 u, .int .i64 n, .int .i64 p, .int .i64 d]) := ⟨hb, hcell⟩
      clear hcell hb
      have hcl : ((cs.take k).filter (nearC sc day)).length ≤ cs.length := filter_len _ _ _
      obtain ⟨br, hbr⟩ : ∃ x, rightC ⟨s, f, u, n, p, d⟩ = x := ⟨_, rfl⟩
      obtain ⟨b1, hb1⟩ : ∃ x, (s == sc) = x := ⟨_, rfl⟩
      obtain ⟨b2, hb2⟩ : ∃ x, decide (f ≤ day) = x := ⟨_, rfl⟩
      obtain ⟨b3, hb3⟩ : ∃ x, decide (day ≤ u) = x := ⟨_, rfl⟩
      have HP : Hid (nearC sc day ⟨s, f, u, n, p, d⟩ = (br && (b1 && (b2 && b3)))) := by show _ = _; rw [near_parts, hbr, hb1, hb2, hb3]
      have HBR := Lib.hid hbr; clear hbr
      obtain ⟨p0, p1, p2, p3, p4, p5⟩ := HR.out.c6
      go_wp2_with fail
      clear p0 p1 p2 p3 p4 p5
      refine (scRight_is HBR.out _).mono ?_
      rintro e wq ⟨rfl, hbw⟩
      have HBW := Lib.hid (below_call HB.out hbw)
      have HO1 := Lib.hid (HO.out.keep hbw)
      have HN1 := Lib.hid (fun hp => (HN.out _ HC.out hp).keep hbw)
      replace HR : Hid (Row wq _ _ _) := HR.out.keep hbw
      have hs1 : w1.heap.size ≤ wq.heap.size := HBW.out.size
      clear hbw
      obtain ⟨p0, p1, p2, p3, p4, p5⟩ := HR.out.c6
      cases br
      ·
        go_wp2_with fail
        go_roundw
        case rel => exact ⟨k + 1, by omega, by go_num, HN1.out (by rw [HP.out]; rfl), HBW.out⟩
        case measure => simp [intOf]; omega
      cases b1
      ·
        go_wp2_with fail
        go_roundw
        case rel => exact ⟨k + 1, by omega, by go_num, HN1.out (by rw [HP.out]; rfl), HBW.out⟩
        case measure => simp [intOf]; omega
      cases b2
      ·
        go_wp2_with fail
        go_roundw
        case rel => exact ⟨k + 1, by omega, by go_num, HN1.out (by rw [HP.out]; rfl), HBW.out⟩
        case measure => simp [intOf]; omega
      cases b3
      ·
        go_wp2_with fail
        go_roundw
        case rel => exact ⟨k + 1, by omega, by go_num, HN1.out (by rw [HP.out]; rfl), HBW.out⟩
        case measure => simp [intOf]; omega
      go_wp2_with (at_builtin; go_must (refine wpList_push rfl _ _ elemCert rfl wq w1.heap.size u12 _ _ rfl HO1.out [.int .i64 s, .int .i64 f, .int .i64 u, .int .i64 n, .int .i64 p, .int .i64 d] rfl rfl rfl rfl (by intro v_ hv_; simp at hv_; rcases hv_ with rfl | rfl | rfl | rfl | rfl | rfl <;> rfl) (by omega) (by omega) (by omega) ?_; intro v2 w2 ho hg2 hb2))
      go_roundw
      case rel => exact ⟨k + 1, by omega, by go_num, Kept.yes (c := Ct.mk s f u n p d) (cells := cCells) ho hlt HC.out (by rw [HP.out]; rfl), HBW.out.trans hb2⟩
      case measure => simp [intOf]; omega
    ·
      have HO1 := Lib.hid (HO.out.end_ (own := own) (by omega) HDown.out)
      have HEown := Lib.hid (ctin_own HO1.out rfl)
      obtain ⟨aown, capown, rfl⟩ := HEown.out.shape
      replace M := Lib.hid (And.intro HEown.out M.out)
      clear HO HO1 HEown HB
      go_upto_region 10 with fail
      have hsy : w.heap.size ≤ wx.heap.size := ((M.out.2)).size
      go_wp2_with fail
      go_loopw [14, 15] (fun own_ i wr => ∃ k : Nat, k ≤ rs.length ∧ i = .int .i64 k ∧ Hid (Kept wr wx.heap.size 52 2 rcCells own_ ((rs.take k).filter (fun r => r.s == sc))) ∧ Hid (Below wx.heap.size wx wr)) (fun _ i _ => rs.length - (intOf i).toNat)
      case atStart => exact ⟨0, Nat.zero_le _, rfl, Kept.nil _ _ _ _, below_alloc _ _⟩
      case round =>
        obtain ⟨wy, rfl⟩ : ∃ x, x = wr := ⟨_, rfl⟩
        obtain ⟨k, hk, rfl, HO, HB⟩ := hrel
        replace M := Lib.hid (Goes.go M.out HB.out)
        by_cases hlt : k < rs.length
        ·
          have hI : (k : Int) < (rs.length : Int) := by omega
          obtain ⟨b, off, rfl, hb, hcell⟩ := (H2.out.keep (M.out.2)).at hlt
          have HN := Lib.hid (fun (c : Rc) (hc : c = rs[k]) (hp : (fun r => r.s == sc) c = false) => HO.out.no hlt hc hp)
          obtain ⟨c, hc⟩ : ∃ c, c = rs[k] := ⟨_, rfl⟩
          rw [← hc] at hcell
          obtain ⟨s, t⟩ := c
          have HC := Lib.hid hc; clear hc
          have HR : Hid (Row wy b (off + k * 2) [.int .i64 s, .int .i64 t]) := ⟨hb, hcell⟩
          clear hcell hb
          have hcl : ((rs.take k).filter (fun r => r.s == sc)).length ≤ rs.length := filter_len _ _ _
          obtain ⟨b1, hb1⟩ : ∃ x, (s == sc) = x := ⟨_, rfl⟩
          have HP : Hid ((fun r : Rc => r.s == sc) ⟨s, t⟩ = b1) := by show _ = _; exact hb1
          have hs1 : wx.heap.size ≤ wy.heap.size := HB.out.size
          obtain ⟨p0, p1⟩ := HR.out.c2
          cases b1
          ·
            go_wp2_with fail
            go_roundw
            case rel => exact ⟨k + 1, by omega, by go_num, HN.out _ HC.out HP.out, HB.out⟩
            case measure => simp [intOf]; omega
          go_wp2_with (at_builtin; go_must (refine wpList_push rfl _ _ elemRecall rfl wy wx.heap.size u14 _ _ rfl HO.out [.int .i64 s, .int .i64 t] rfl rfl rfl rfl (by intro v_ hv_; simp at hv_; rcases hv_ with rfl | rfl <;> rfl) (by omega) (by omega) (by omega) ?_; intro v2 w2 ho hg2 hb2))
          go_roundw
          case rel => exact ⟨k + 1, by omega, by go_num, Kept.yes (c := Rc.mk s t) (cells := rcCells) ho hlt HC.out HP.out, HB.out.trans hb2⟩
          case measure => simp [intOf]; omega
        ·
          have HO1 := Lib.hid (HO.out.end_ (own := calls) (by omega) HDcalls.out)
          have HEcalls := Lib.hid (rcin_own HO1.out rfl)
          obtain ⟨acalls, capcalls, rfl⟩ := HEcalls.out.shape
          replace M := Lib.hid (And.intro HEcalls.out M.out)
          clear HO HO1 HEcalls HB
          go_wp2_with fail
          obtain ⟨z9, ez9⟩ : ∃ x : Int, x = (oN (loO cs rs sc rd day)) := ⟨_, rfl⟩
          obtain ⟨z10, ez10⟩ : ∃ x : Int, x = (oD (loO cs rs sc rd day)) := ⟨_, rfl⟩
          obtain ⟨z11, ez11⟩ : ∃ x : Int, x = (oN (hiO cs rs sc rd day)) := ⟨_, rfl⟩
          obtain ⟨z12, ez12⟩ : ∃ x : Int, x = (oD (hiO cs rs sc rd day)) := ⟨_, rfl⟩
          refine (scInterval_v (G := G) (sc := sc) (rd := rd) (day := day) (b_ := ib) (H1.out.keep (M.out.2.2)) (H2.out.keep (M.out.2.2)) (by omega) (by omega) (Nat.le_trans hG (M.out.2.2).size) HIB.out).mono ?_
          rintro e w4 ⟨a_1, c_2, b_3, d_4, a_5, c_6, b_7, d_8, rfl, hd13, hd14, hd15, hd16, hb⟩
          rw [← ez9] at hd13 ⊢
          have Sz9 : Hid (Sz z9 14) := by show Sz z9 14; rw [ez9]; exact (lo_sizes _ _ _ _ _).1
          have Ez9 := Lib.hid ez9; clear ez9
          rw [← ez10] at hd14 ⊢
          have Sz10 : Hid (Sz z10 14) := by show Sz z10 14; rw [ez10]; exact (lo_sizes _ _ _ _ _).2
          have Ez10 := Lib.hid ez10; clear ez10
          rw [← ez11] at hd15 ⊢
          have Sz11 : Hid (Sz z11 14) := by show Sz z11 14; rw [ez11]; exact (hi_sizes _ _ _ _ _).1
          have Ez11 := Lib.hid ez11; clear ez11
          rw [← ez12] at hd16 ⊢
          have Sz12 : Hid (Sz z12 14) := by show Sz z12 14; rw [ez12]; exact (hi_sizes _ _ _ _ _).2
          have Ez12 := Lib.hid ez12; clear ez12
          replace M := Lib.hid (And.intro hd13 (And.intro hd14 (And.intro hd15 (And.intro hd16 (Goes.go M.out hb)))))
          clear hb hd13 hd14 hd15 hd16
          go_upto_region 17 with fail
          obtain ⟨w5, hv⟩ : ∃ x, x = ((w4.alloc (.cells #[.int .i64 (sg z9), .slice a_1 (ln z9) c_2, .int .i64 (sg z10), .slice b_3 (ln z10) d_4] 34)).alloc (.cells #[.int .i64 (sg z11), .slice a_5 (ln z11) c_6, .int .i64 (sg z12), .slice b_7 (ln z12) d_8] 34)) := ⟨_, rfl⟩
          rw [← hv]
          have o0 : w.heap.size ≤ w4.heap.size := ((M.out.2.2.2.2.2.2)).size
          have hbx := bx2 w4 34 34 #[.int .i64 (sg z9), .slice a_1 (ln z9) c_2, .int .i64 (sg z10), .slice b_3 (ln z10) d_4] #[.int .i64 (sg z11), .slice a_5 (ln z11) c_6, .int .i64 (sg z12), .slice b_7 (ln z12) d_8]
          rw [← hv] at hbx
          have hbn : Below w4.heap.size w4 w5 := by rw [hv]; exact (Below.alloc (Below.alloc (Below.refl _ _) (by simp) _) (by simp) _)
          replace M := Lib.hid (And.intro hbx.2 (And.intro hbx.1 (Goes.go M.out hbn)))
          clear hbx hbn
          clear hv
          go_wp2_with fail
          obtain ⟨z25, ez25⟩ : ∃ x : Int, x = (oN (loO own calls sc rd day)) := ⟨_, rfl⟩
          obtain ⟨z26, ez26⟩ : ∃ x : Int, x = (oD (loO own calls sc rd day)) := ⟨_, rfl⟩
          obtain ⟨z27, ez27⟩ : ∃ x : Int, x = (oN (hiO own calls sc rd day)) := ⟨_, rfl⟩
          obtain ⟨z28, ez28⟩ : ∃ x : Int, x = (oD (hiO own calls sc rd day)) := ⟨_, rfl⟩
          refine (scInterval_v (G := G) (sc := sc) (rd := rd) (day := day) (b_ := ib) (M.out.2.2.2.2.2.2.2.1) (M.out.2.2.2.2.2.2.1) (by omega) (by omega) (Nat.le_trans hG (M.out.2.2.2.2.2.2.2.2).size) HIC.out).mono ?_
          rintro e w6 ⟨a_17, c_18, b_19, d_20, a_21, c_22, b_23, d_24, rfl, hd29, hd30, hd31, hd32, hb⟩
          rw [← ez25] at hd29 ⊢
          have Sz25 : Hid (Sz z25 14) := by show Sz z25 14; rw [ez25]; exact (lo_sizes _ _ _ _ _).1
          have Ez25 := Lib.hid ez25; clear ez25
          rw [← ez26] at hd30 ⊢
          have Sz26 : Hid (Sz z26 14) := by show Sz z26 14; rw [ez26]; exact (lo_sizes _ _ _ _ _).2
          have Ez26 := Lib.hid ez26; clear ez26
          rw [← ez27] at hd31 ⊢
          have Sz27 : Hid (Sz z27 14) := by show Sz z27 14; rw [ez27]; exact (hi_sizes _ _ _ _ _).1
          have Ez27 := Lib.hid ez27; clear ez27
          rw [← ez28] at hd32 ⊢
          have Sz28 : Hid (Sz z28 14) := by show Sz z28 14; rw [ez28]; exact (hi_sizes _ _ _ _ _).2
          have Ez28 := Lib.hid ez28; clear ez28
          replace M := Lib.hid (And.intro hd29 (And.intro hd30 (And.intro hd31 (And.intro hd32 (Goes.go M.out hb)))))
          clear hb hd29 hd30 hd31 hd32
          go_upto_region 18 with fail
          obtain ⟨w7, hv⟩ : ∃ x, x = ((w6.alloc (.cells #[.int .i64 (sg z25), .slice a_17 (ln z25) c_18, .int .i64 (sg z26), .slice b_19 (ln z26) d_20] 34)).alloc (.cells #[.int .i64 (sg z27), .slice a_21 (ln z27) c_22, .int .i64 (sg z28), .slice b_23 (ln z28) d_24] 34)) := ⟨_, rfl⟩
          rw [← hv]
          have o2 : w4.heap.size + 1 < w6.heap.size := ((M.out.2.2.2.2.1)).lt
          have hbx := bx2 w6 34 34 #[.int .i64 (sg z25), .slice a_17 (ln z25) c_18, .int .i64 (sg z26), .slice b_19 (ln z26) d_20] #[.int .i64 (sg z27), .slice a_21 (ln z27) c_22, .int .i64 (sg z28), .slice b_23 (ln z28) d_24]
          rw [← hv] at hbx
          have hbn : Below w6.heap.size w6 w7 := by rw [hv]; exact (Below.alloc (Below.alloc (Below.refl _ _) (by simp) _) (by simp) _)
          replace M := Lib.hid (And.intro hbx.2 (And.intro hbx.1 (Goes.go M.out hbn)))
          clear hbx hbn
          clear hv
          go_wp2_with fail
          refine (scFind_v (sc := sc) (day := day) (i := fi) (b := fb) (H1.out.keep (M.out.2.2.2.2.2.2.2.2.2.2.2.2.2.2)) (by omega) HFI.out HFB.out).mono ?_
          rintro e w8 ⟨rfl, hb⟩
          replace M := Lib.hid (Goes.go M.out hb)
          clear hb
          obtain ⟨p0_0, q0_0, p0_1, q0_1, p0_2, q0_2, p0_3, q0_3⟩ := (M.out.2.2.2.2.2.2.2.1).c4
          obtain ⟨p2_0, q2_0, p2_1, q2_1, p2_2, q2_2, p2_3, q2_3⟩ := (M.out.2.1).c4
          go_wp2_with fail
          clear p0_0 q0_0 p0_1 q0_1 p0_2 q0_2 p0_3 q0_3 p2_0 q2_0 p2_1 q2_1 p2_2 q2_2 p2_3 q2_3
          refine (rfsame_two (G := G) (x := z9) (y := z10) (u := z25) (v := z26) (M.out.2.2.2.2.2.2.2.2.1) (M.out.2.2.2.2.2.2.2.2.2.1) (M.out.2.2.1) (M.out.2.2.2.1) (Sz.mono Sz9.out (by omega)) (Sz.mono Sz10.out (by omega)) (by first | rw [Ez9.out, Ez25.out, HLO.out] | rw [Ez9.out, Ez25.out, HHI.out]) (by first | rw [Ez10.out, Ez26.out, HLO.out] | rw [Ez10.out, Ez26.out, HHI.out])).mono ?_
          rintro e w9 ⟨rfl, hb⟩
          replace M := Lib.hid (Goes.go M.out hb)
          clear hb
          obtain ⟨p1_0, q1_0, p1_1, q1_1, p1_2, q1_2, p1_3, q1_3⟩ := (M.out.2.2.2.2.2.2.1).c4
          obtain ⟨p3_0, q3_0, p3_1, q3_1, p3_2, q3_2, p3_3, q3_3⟩ := (M.out.1).c4
          go_wp2_with fail
          clear p1_0 q1_0 p1_1 q1_1 p1_2 q1_2 p1_3 q1_3 p3_0 q3_0 p3_1 q3_1 p3_2 q3_2 p3_3 q3_3
          refine (rfsame_two (G := G) (x := z11) (y := z12) (u := z27) (v := z28) (M.out.2.2.2.2.2.2.2.2.2.2.1) (M.out.2.2.2.2.2.2.2.2.2.2.2.1) (M.out.2.2.2.2.1) (M.out.2.2.2.2.2.1) (Sz.mono Sz11.out (by omega)) (Sz.mono Sz12.out (by omega)) (by first | rw [Ez11.out, Ez27.out, HLO.out] | rw [Ez11.out, Ez27.out, HHI.out]) (by first | rw [Ez12.out, Ez28.out, HLO.out] | rw [Ez12.out, Ez28.out, HHI.out])).mono ?_
          rintro e w10 ⟨rfl, hb⟩
          replace M := Lib.hid (Goes.go M.out hb)
          clear hb
          go_wp2_with fail
          go_ret
          exact ⟨rfl, (M.out.2.2.2.2.2.2.2.2.2.2.2.2.2.2)⟩

theorem others_walk {v1 v2 : Value} {cs : List Ct} {rs : List Rc} {sc rd day : Int} {w : World} (h1 : CtIn w v1 cs) (h2 : RcIn w v2 rs) :
    Calls Try.prog 6 #[v1, v2, .int .i64 sc, .int .i64 rd, .int .i64 day] w fun e w' => e = .returned (.bool true) ∧ Below w.heap.size w w' := by
  obtain ⟨a1, cap1, rfl⟩ := h1.shape
  obtain ⟨a2, cap2, rfl⟩ := h2.shape
  cases hf : fewB cs.length rs.length with
  | false => exact others_few (G := 0) (Nat.zero_le _) h1 h2 hf
  | true => exact others_all (G := 0) (Nat.zero_le _) h1 h2 hf

end Go.Proofs.Ytpjpkcelajbfnaa
