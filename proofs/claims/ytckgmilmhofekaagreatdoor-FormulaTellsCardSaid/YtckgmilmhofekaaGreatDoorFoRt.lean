/- Formulas, plain: positions do not matter to a reader; a right expression's tokens are read as it, and its text as well. -/
import Derived.Test.YtckgmilmhofekaaGreatDoorLexLaws
import Derived.Test.YtckgmilmhofekaaGreatDoorFoBack
import Derived.Test.YtckgmilmhofekaaGreatDoorBigDec
import Derived.WalkKit
import Derived.Lib.ItoaNum
import Derived.Lib.Repeat
namespace Go.Proofs.YtckgmilmhofekaaGreatDoor

/-! ### positions do not matter -/
/-! ### a right expression's tokens are read as it -/
structure Rw (x : Ex) : Prop where
 rt : Rt x
 hd : ∀ z, isT 0 wNot (wT x ++ z) = false ∧ isT 0 wIf (wT x ++ z) = false
def wrapped (x : Ex) : Prop := (opName x.op).isSome = true ∨ x.op = 4 ∨ x.op = 5
theorem wrap_ops {x : Ex} (h : wrapped x) : 4 ≤ x.op ∧ x.op ≠ 10 ∧ x.op ≠ 11 := by
  rcases h with h | h | h
  · have := opName_cases h; omega
  · omega
  · omega
theorem wT_yes {x : Ex} (h : wrapped x) : wT x = tkS [40] :: (toksX x ++ [tkS [41]]) := if_pos h
theorem wT_no {x : Ex} (h : ¬ wrapped x) : wT x = toksX x := if_neg h
theorem bin_toks {op : Int} (h : op = 6 ∨ op = 7 ∨ op = 8 ∨ op = 9 ∨ op = 12 ∨ op = 13 ∨ op = 14 ∨ op = 15) (as ts : List (List Tok)) : exT op 0 [] [] as ts = as.getD 0 [] ++ tkO op :: as.getD 1 [] := by
 rcases h with rfl | rfl | rfl | rfl | rfl | rfl | rfl | rfl <;> rfl
theorem rw_node {x : Ex} (hn : nodeB x.op x.n x.unit x.name x.args.len = true) (h : ∀ y ∈ x.args.list, Rw y) : Rw x := by
  have h' : ∀ y ∈ x.args.list, Rt y := fun y hy => (h y hy).rt
  by_cases hw : wrapped x
  · have hex : ∀ f z, (toksX x).length < f → exprEnd z → exprP f (toksX x ++ z) = .ok (x, z) := by
      intro f z hf hz
      cases f with
      | zero => omega
      | succ f =>
        show exprW (atomP (exprP f)) (toksX x ++ z) = .ok (x, z)
        rw [toksX_is] at hf ⊢
        obtain ⟨op, n, u, m, a⟩ := x
        dsimp only at hn h h' hw hf ⊢
        have ha : a = Fo.of a.list := (Fo.of_list a).symm
        rw [← Fo.len_list] at hn
        generalize a.list = l at *
        subst ha
        rcases node_cases hn with ⟨rfl, -⟩ | ⟨rfl, rfl, ⟨rfl, -⟩ | ⟨rfl, -⟩ | ⟨rfl, -⟩ | ⟨rfl, rfl, hk⟩ | ⟨rfl, rfl, hk⟩ | ⟨rfl | rfl, -⟩ | ⟨hop, rfl, hk⟩⟩
        · have hq := wrap_ops hw; dsimp only at hq; omega
        · have hq := wrap_ops hw; dsimp only at hq; omega
        · have hq := wrap_ops hw; dsimp only at hq; omega
        · have hq := wrap_ops hw; dsimp only at hq; omega
        · obtain ⟨y, rfl⟩ : ∃ y, l = [y] := List.length_eq_one_iff.1 hk
          have hl : (wT y).length + 1 ≤ f + 1 := by
            have : (tkN wNot :: wT y).length < f + 1 := hf
            rw [List.length_cons] at this; omega
          show exprW (atomP (exprP f)) (tkN wNot :: (wT y ++ z)) = _
          unfold exprW
          rw [if_pos (by rfl), List.tail_cons, (h' y (List.mem_singleton.2 rfl)).at_ f z (by omega) hz.1]
          rfl
        · obtain ⟨y0, y1, y2, rfl⟩ : ∃ y0 y1 y2, l = [y0, y1, y2] := by
            match l, hk with
            | [y0, y1, y2], _ => exact ⟨y0, y1, y2, rfl⟩
          have hl : (wT y0).length + (wT y1).length + (wT y2).length + 3 ≤ f := by
            have : (tkN wIf :: (wT y0 ++ tkN wThen :: (wT y1 ++ tkN wElse :: wT y2))).length < f + 1 := hf
            simp only [List.length_cons, List.length_append] at this; omega
          show exprW (atomP (exprP f)) (tkN wIf :: ((wT y0 ++ tkN wThen :: (wT y1 ++ tkN wElse :: wT y2)) ++ z)) = _
          rw [show (wT y0 ++ tkN wThen :: (wT y1 ++ tkN wElse :: wT y2)) ++ z = wT y0 ++ tkN wThen :: (wT y1 ++ tkN wElse :: (wT y2 ++ z)) by simp]
          unfold exprW
          rw [if_neg (by rw [isN_false (by decide)]; decide), if_pos (by rfl), List.tail_cons]
          unfold ifP
          rw [(h' y0 (by simp)).at_ f _ (by omega) (atomEnd_tk (by decide) (by decide))]
          dsimp only
          rw [needP_N]
          dsimp only
          rw [(h' y1 (by simp)).at_ f _ (by omega) (atomEnd_tk (by decide) (by decide))]
          dsimp only
          rw [needP_N]
          dsimp only
          rw [(h' y2 (by simp)).at_ f _ (by omega) hz.1]
          rfl
        · have hq := wrap_ops hw; dsimp only at hq; omega
        · have hq := wrap_ops hw; dsimp only at hq; omega
        · obtain ⟨y, y', rfl⟩ : ∃ y y', l = [y, y'] := len_two hk
          rw [bin_toks hop] at hf ⊢
          have hl : (wT y).length + (wT y').length + 1 ≤ f := by
            have : (wT y ++ tkO op :: wT y').length < f + 1 := hf
            simp only [List.length_cons, List.length_append] at this; omega
          show exprW (atomP (exprP f)) ((wT y ++ tkO op :: wT y') ++ z) = _
          rw [show (wT y ++ tkO op :: wT y') ++ z = wT y ++ tkO op :: (wT y' ++ z) by simp]
          obtain ⟨d1, d2⟩ := (h y (by simp)).hd (tkO op :: (wT y' ++ z))
          obtain ⟨o1, o2⟩ := opAt_tkO hop (wT y' ++ z)
          unfold exprW
          rw [if_neg (by rw [d1]; decide), if_neg (by rw [d2]; decide), (h' y (by simp)).at_ f _ (by omega) o2]
          dsimp only
          unfold restP
          rw [o1]
          dsimp only
          rw [List.tail_cons, (h' y' (by simp)).at_ f _ (by omega) hz.1]
          rfl
    refine ⟨⟨hex, fun f z hf hz => ?_⟩, fun z => ?_⟩
    · rw [wT_yes hw] at hf ⊢
      have hl : (toksX x).length + 2 ≤ f := by simp only [List.length_cons, List.length_append, List.length_nil] at hf; omega
      rw [show (tkS [40] :: (toksX x ++ [tkS [41]])) ++ z = tkS [40] :: (toksX x ++ tkS [41] :: z) by simp]
      rw [atomP_cons, if_neg (by decide), if_pos (by rfl)]
      unfold parenP
      rw [hex f _ (by omega) (exprEnd_shut _)]
      dsimp only
      rw [needP_S]
    · rw [wT_yes hw]; exact ⟨rfl, rfl⟩
  · have hs : (opName x.op).isSome = false := by
      cases hq : (opName x.op).isSome with
      | false => rfl
      | true => exact absurd (.inl hq) hw
    have h4 : x.op ≠ 4 := fun h => hw (.inr (.inl h))
    have h5 : x.op ≠ 5 := fun h => hw (.inr (.inr h))
    have at_ := fun f z hl hz => rt_atom hn h' hs h4 h5 f z hl hz
    refine ⟨⟨fun f z hf hz => ?_, fun f z hf hz => ?_⟩, fun z => ?_⟩
    · cases f with
      | zero => omega
      | succ f =>
        obtain ⟨a1, a2, a3⟩ := at_ f z (by omega) hz.1
        show exprW (atomP (exprP f)) (toksX x ++ z) = .ok (x, z)
        unfold exprW
        rw [if_neg (by rw [a2]; decide), if_neg (by rw [a3]; decide), a1]
        dsimp only
        unfold restP
        rw [hz.2]
    · rw [wT_no hw] at hf ⊢
      exact (at_ f z hf hz).1
    · rw [wT_no hw]
      obtain ⟨a1, a2, a3⟩ := at_ _ [] (Nat.le_refl _) atomEnd_nil
      cases ht : toksX x with
      | nil => rw [ht] at a1; cases a1
      | cons t r => rw [ht] at a2 a3; exact ⟨a2, a3⟩
theorem rw_all : ∀ a : Fo, shF a = true → ∀ x ∈ a.list, Rw x
  | .nil, _, x, hx => by cases hx
  | .cons op n u m a r, h, x, hx => by
    have h : (nodeB op n u m a.len && shF a && shF r) = true := h
    rw [Bool.and_eq_true, Bool.and_eq_true] at h
    rcases List.mem_cons.1 hx with rfl | hx
    · exact rw_node h.1.1 (rw_all a h.1.2)
    · exact rw_all r h.2 x hx
/-! ### its tokens are good ones -/
structure okT (t : Tok) : Prop where
 good : GoodT t
 len : (tokText t).length ≤ 1000
 pos : t.pos = 0
theorem okT_one {l : Bytes} {t : Tok} (h : scanAll l = .ok [t]) (hl : (tokText t).length ≤ 1000) (hp : t.pos = 0) : okT t :=
 ⟨(scan_good (scanAll_scan l) _ h).1 t (List.mem_singleton.2 rfl), hl, hp⟩
theorem okT_S {c : UInt8} (h : c = 40 ∨ c = 41 ∨ c = 44 ∨ c = 43 ∨ c = 45 ∨ c = 42 ∨ c = 47 ∨ c = 60 ∨ c = 61) : okT (tkS [c]) := by
 refine okT_one (l := [c]) ?_ (by show 1 ≤ 1000; decide) rfl
 rcases h with rfl | rfl | rfl | rfl | rfl | rfl | rfl | rfl | rfl <;> rfl
theorem nameOk_len {m : Bytes} (h : nameOk m = true) : m.length ≤ 20 := by
 unfold nameOk at h
 cases m with
 | nil => cases h
 | cons c r => simp only [Bool.and_eq_true, decide_eq_true_eq] at h; exact h.1.2
theorem okT_N {m : Bytes} (h : nameOk m = true) : okT (tkN m) :=
 okT_one (scan_name m h) (by have := nameOk_len h; show m.length ≤ 1000; omega) rfl
theorem esc_len2 (l : Bytes) : (escBody l).length ≤ 2 * l.length := by
 induction l with
 | nil => exact Nat.le_refl _
 | cons c r ih =>
  rw [escBody_cons, List.length_append, List.length_cons]
  split <;> simp only [List.length_cons, List.length_nil] <;> omega
theorem okT_Q {u : Bytes} (h : quoteOk u = true) : okT ⟨2, u, 0, 0⟩ := by
 refine okT_one (scan_quote u h) ?_ rfl
 unfold quoteOk at h
 rw [Bool.and_eq_true, decide_eq_true_eq] at h
 have := esc_len2 u
 show (34 :: (escBody u ++ [34])).length ≤ 1000
 rw [List.length_cons, List.length_append, List.length_singleton]; omega
theorem numVal_dec (l : Bytes) : numVal l = decVal l := by
 unfold numVal decVal dgv
 simp only [Nat.mul_comm]
theorem isDg_digit {c : UInt8} (h : isDg c = true) : isDigit c = true := by
 unfold isDg at h
 rw [Bool.and_eq_true, decide_eq_true_eq, decide_eq_true_eq] at h
 unfold isDigit
 rw [Bool.and_eq_true, decide_eq_true_eq, decide_eq_true_eq]
 exact ⟨UInt8.le_iff_toNat_le.1 h.1, UInt8.le_iff_toNat_le.1 h.2⟩
theorem numOf_dec {n : Nat} (h : n ≤ 1099511627776) : numOf (Lib.decDigits n) = some n := by
  have hl : (Lib.decDigits n).length ≤ 13 := by
    rw [Lib.decDigits_length]; exact nDigits_le (by omega) (by omega)
  have h0 : ¬ ((Lib.decDigits n).head? = some 48 ∧ Lib.decDigits n ≠ [48]) := by
    rintro ⟨h1, h2⟩
    rcases Nat.eq_zero_or_pos n with rfl | hp
    · exact h2 (by rw [Lib.decDigits_one (by omega)]; rfl)
    · exact dec_head hp h1
  have ha : (Lib.decDigits n).all isDigit = true := List.all_eq_true.2 fun c hc => isDg_digit (dec_digits n c hc)
  unfold numOf
  rw [if_neg (by
    rintro (h1 | h1 | h1 | h1)
    · exact dec_ne n h1
    · rw [ha] at h1; cases h1
    · exact h0 h1
    · omega), numVal_dec, decVal_dec, if_neg (by omega)]
theorem okT_D {n : Nat} (h : n ≤ 1099511627776) : okT ⟨1, Lib.decDigits n, n, 0⟩ := by
 refine okT_one (scan_number _ (numOf_dec h)) ?_ rfl
 have hl : (Lib.decDigits n).length ≤ 13 := by
  rw [Lib.decDigits_length]; exact nDigits_le (by omega) (by omega)
 show (Lib.decDigits n).length ≤ 1000
 omega
theorem okT_O {op : Int} (h : op = 6 ∨ op = 7 ∨ op = 8 ∨ op = 9 ∨ op = 12 ∨ op = 13 ∨ op = 14 ∨ op = 15) : okT (tkO op) := by
  rcases h with rfl | rfl | rfl | rfl | rfl | rfl | rfl | rfl
  · exact okT_S (by decide)
  · exact okT_S (by decide)
  · exact okT_S (by decide)
  · exact okT_S (by decide)
  · exact okT_S (by decide)
  · exact okT_S (by decide)
  · exact okT_N (m := wAnd) (by decide)
  · exact okT_N (m := wOr) (by decide)
theorem okT_wrap {x : Ex} (h : ∀ t ∈ toksX x, okT t) : ∀ t ∈ wT x, okT t := by
  intro t ht
  unfold wT wrapT at ht
  split at ht
  · simp only [List.mem_cons, List.mem_append, List.not_mem_nil, or_false] at ht
    rcases ht with rfl | ht | rfl
    · exact okT_S (by decide)
    · exact h t ht
    · exact okT_S (by decide)
  · exact h t ht
theorem okT_comma {l : List Ex} (h : ∀ y ∈ l, ∀ t ∈ toksX y, okT t) : ∀ t ∈ commaT (l.map toksX), okT t := by
  induction l with
  | nil => intro t ht; cases ht
  | cons y r ih =>
    intro t ht
    rw [List.map_cons, commaT] at ht
    simp only [List.mem_cons, List.mem_append] at ht
    rcases ht with rfl | ht | ht
    · exact okT_S (by decide)
    · exact h y (List.mem_cons_self ..) t ht
    · exact ih (fun y hy => h y (List.mem_cons_of_mem _ hy)) t ht
theorem okT_list {l : List Ex} (h : ∀ y ∈ l, ∀ t ∈ toksX y, okT t) : ∀ t ∈ listT (l.map toksX), okT t := by
  intro t ht
  cases l with
  | nil =>
    obtain rfl := List.mem_singleton.1 (show t ∈ [tkS [41]] from ht)
    exact okT_S (by decide)
  | cons y r =>
    rw [List.map_cons, listT] at ht
    simp only [List.mem_append, List.mem_cons, List.not_mem_nil, or_false] at ht
    rcases ht with ht | ht | rfl
    · exact h y (List.mem_cons_self ..) t ht
    · exact okT_comma (fun y hy => h y (List.mem_cons_of_mem _ hy)) t ht
    · exact okT_S (by decide)
def sumT (l : List Ex) : Nat := (l.map fun y => (toksX y).length).sum
theorem sumT_cons (y : Ex) (r : List Ex) : sumT (y :: r) = (toksX y).length + sumT r := by unfold sumT; rw [List.map_cons, List.sum_cons]
theorem wT_len (x : Ex) : (wT x).length ≤ (toksX x).length + 2 := by
  unfold wT wrapT
  split
  · simp only [List.length_cons, List.length_append, List.length_nil]; omega
  · omega
theorem comma_len (l : List Ex) : (commaT (l.map toksX)).length = sumT l + l.length := by
 induction l with
 | nil => rfl
 | cons y r ih => rw [List.map_cons, commaT, List.length_cons, List.length_append, ih, sumT_cons, List.length_cons]; omega
theorem list_len (l : List Ex) : (listT (l.map toksX)).length ≤ sumT l + l.length + 1 := by
 cases l with
 | nil => exact Nat.le_refl _
 | cons y r => rw [List.map_cons, listT_len, comma_len, sumT_cons, List.length_cons]; omega
theorem node_toks {x : Ex} (hn : nodeB x.op x.n x.unit x.name x.args.len = true) (h : ∀ y ∈ x.args.list, ∀ t ∈ toksX y, okT t) : (∀ t ∈ toksX x, okT t) ∧ (toksX x).length ≤ sumT x.args.list + 9 := by
  rw [toksX_is]
  obtain ⟨op, n, u, m, a⟩ := x
  dsimp only at hn h ⊢
  rw [← Fo.len_list] at hn
  generalize a.list = l at *
  clear a
  have hw : ∀ y ∈ l, ∀ t ∈ wT y, okT t := fun y hy => okT_wrap (h y hy)
  rcases node_cases hn with ⟨rfl, hu, h0, h1, rfl, hk⟩ | ⟨rfl, rfl, ⟨rfl, hm, hk⟩ | ⟨rfl, hm, hk⟩ | ⟨rfl, hm, hk, hk6⟩ | ⟨rfl, rfl, hk⟩ | ⟨rfl, rfl, hk⟩ | ⟨hop, rfl, hk⟩ | ⟨hop, rfl, hk⟩⟩
  · have hnn : n.toNat ≤ 1099511627776 := by omega
    show (∀ t ∈ (⟨1, Lib.decDigits n.toNat, n.toNat, 0⟩ : Tok) :: (if u = [] then [] else [⟨2, u, 0, 0⟩]), okT t) ∧ ((⟨1, Lib.decDigits n.toNat, n.toNat, 0⟩ : Tok) :: (if u = [] then [] else [⟨2, u, 0, 0⟩])).length ≤ _
    split
    · refine ⟨fun t ht => ?_, by rw [List.length_cons, List.length_nil]; omega⟩
      obtain rfl := List.mem_singleton.1 ht
      exact okT_D hnn
    · refine ⟨fun t ht => ?_, by rw [List.length_cons, List.length_cons, List.length_nil]; omega⟩
      simp only [List.mem_cons, List.not_mem_nil, or_false] at ht
      rcases ht with rfl | rfl
      · exact okT_D hnn
      · exact okT_Q hu
  · refine ⟨fun t ht => ?_, by show 1 ≤ _; omega⟩
    obtain rfl := List.mem_singleton.1 (show t ∈ [tkN m] from ht)
    exact okT_N (named_ok hm).1
  · have hl := list_len l
    refine ⟨fun t ht => ?_, by show (tkN wLook :: tkS [40] :: tkN m :: tkS [44] :: listT (l.map toksX)).length ≤ _; simp only [List.length_cons]; omega⟩
    have ht : t ∈ tkN wLook :: tkS [40] :: tkN m :: tkS [44] :: listT (l.map toksX) := ht
    simp only [List.mem_cons] at ht
    rcases ht with rfl | rfl | rfl | rfl | ht
    · exact okT_N (by decide)
    · exact okT_S (by decide)
    · exact okT_N (named_ok hm).1
    · exact okT_S (by decide)
    · exact okT_list h t ht
  · have hl := list_len l
    refine ⟨fun t ht => ?_, by show (tkN m :: tkS [40] :: listT (l.map toksX)).length ≤ _; simp only [List.length_cons]; omega⟩
    have ht : t ∈ tkN m :: tkS [40] :: listT (l.map toksX) := ht
    simp only [List.mem_cons] at ht
    rcases ht with rfl | rfl | ht
    · exact okT_N (named_ok hm).1
    · exact okT_S (by decide)
    · exact okT_list h t ht
  · obtain ⟨y, rfl⟩ : ∃ y, l = [y] := List.length_eq_one_iff.1 hk
    have hl := wT_len y
    refine ⟨fun t ht => ?_, by show (tkN wNot :: wT y).length ≤ _; rw [sumT_cons]; simp only [List.length_cons]; omega⟩
    have ht : t ∈ tkN wNot :: wT y := ht
    simp only [List.mem_cons] at ht
    rcases ht with rfl | ht
    · exact okT_N (by decide)
    · exact hw y (by simp) t ht
  · obtain ⟨y0, y1, y2, rfl⟩ : ∃ y0 y1 y2, l = [y0, y1, y2] := by
      match l, hk with
      | [y0, y1, y2], _ => exact ⟨y0, y1, y2, rfl⟩
    have l0 := wT_len y0
    have l1 := wT_len y1
    have l2 := wT_len y2
    refine ⟨fun t ht => ?_, by show (tkN wIf :: (wT y0 ++ tkN wThen :: (wT y1 ++ tkN wElse :: wT y2))).length ≤ _; rw [sumT_cons, sumT_cons, sumT_cons]; simp only [List.length_cons, List.length_append]; omega⟩
    have ht : t ∈ tkN wIf :: (wT y0 ++ tkN wThen :: (wT y1 ++ tkN wElse :: wT y2)) := ht
    simp only [List.mem_cons, List.mem_append] at ht
    rcases ht with rfl | ht | rfl | ht | rfl | ht
    · exact okT_N (by decide)
    · exact hw y0 (by simp) t ht
    · exact okT_N (by decide)
    · exact hw y1 (by simp) t ht
    · exact okT_N (by decide)
    · exact hw y2 (by simp) t ht
  · have hl := list_len l
    rcases hop with rfl | rfl
    · refine ⟨fun t ht => ?_, by show (tkN wMin :: tkS [40] :: listT (l.map toksX)).length ≤ _; simp only [List.length_cons]; omega⟩
      have ht : t ∈ tkN wMin :: tkS [40] :: listT (l.map toksX) := ht
      simp only [List.mem_cons] at ht
      rcases ht with rfl | rfl | ht
      · exact okT_N (by decide)
      · exact okT_S (by decide)
      · exact okT_list h t ht
    · refine ⟨fun t ht => ?_, by show (tkN wMax :: tkS [40] :: listT (l.map toksX)).length ≤ _; simp only [List.length_cons]; omega⟩
      have ht : t ∈ tkN wMax :: tkS [40] :: listT (l.map toksX) := ht
      simp only [List.mem_cons] at ht
      rcases ht with rfl | rfl | ht
      · exact okT_N (by decide)
      · exact okT_S (by decide)
      · exact okT_list h t ht
  · obtain ⟨y, y', rfl⟩ : ∃ y y', l = [y, y'] := len_two hk
    have l0 := wT_len y
    have l1 := wT_len y'
    rw [bin_toks hop]
    refine ⟨fun t ht => ?_, by show (wT y ++ tkO op :: wT y').length ≤ _; rw [sumT_cons, sumT_cons]; simp only [List.length_cons, List.length_append]; omega⟩
    have ht : t ∈ wT y ++ tkO op :: wT y' := ht
    simp only [List.mem_cons, List.mem_append] at ht
    rcases ht with ht | rfl | ht
    · exact hw y (by simp) t ht
    · exact okT_O hop
    · exact hw y' (by simp) t ht
theorem toks_all : ∀ a : Fo, shF a = true → (∀ y ∈ a.list, ∀ t ∈ toksX y, okT t) ∧ sumT a.list ≤ 9 * nodesF a
  | .nil, _ => ⟨fun y hy => (by cases hy), Nat.zero_le _⟩
  | .cons op n u m a r, h => by
    have h : (nodeB op n u m a.len && shF a && shF r) = true := h
    rw [Bool.and_eq_true, Bool.and_eq_true] at h
    obtain ⟨i1, i2⟩ := toks_all a h.1.2
    obtain ⟨j1, j2⟩ := toks_all r h.2
    obtain ⟨k1, k2⟩ := node_toks (x := ⟨op, n, u, m, a⟩) h.1.1 i1
    have e1 : nodesF (.cons op n u m a r) = 1 + nodesF a + nodesF r := rfl
    refine ⟨fun y hy => ?_, ?_⟩
    · rcases List.mem_cons.1 hy with rfl | hy
      · exact k1
      · exact j1 y hy
    · show sumT (⟨op, n, u, m, a⟩ :: r.list) ≤ _
      rw [sumT_cons, e1]
      have k2 : (toksX ⟨op, n, u, m, a⟩).length ≤ sumT a.list + 9 := k2
      omega
theorem printL_len : ∀ ts : List Tok, (∀ t ∈ ts, okT t) → (printL ts).length ≤ 1001 * ts.length
 | [], _ => Nat.zero_le _
 | [t], h => by have := (h t (by simp)).len; show (tokText t).length ≤ 1001 * 1; omega
 | t :: u :: r, h => by
  have h1 := (h t (by simp)).len
  have h2 := printL_len (u :: r) (fun x hx => h x (List.mem_cons_of_mem _ hx))
  show (tokText t ++ 32 :: printL (u :: r)).length ≤ _
  rw [List.length_append, List.length_cons]
  rw [List.length_cons] at h2 ⊢
  rw [List.length_cons]
  omega
/-! ### round trip -/
theorem right_sh {x : Ex} (h : rightX x = true) : nodeB x.op x.n x.unit x.name x.args.len = true ∧ shF x.args = true := by
 unfold rightX at h
 rw [Bool.and_eq_true] at h
 have h2 : (nodeB x.op x.n x.unit x.name x.args.len && shF x.args && shF .nil) = true := h.2
 rw [Bool.and_eq_true, Bool.and_eq_true] at h2
 exact h2.1
theorem right_toks {x : Ex} (h : rightX x = true) : (∀ t ∈ toksX x, okT t) ∧ (toksX x).length ≤ 9 * nodesF x.args + 9 := by
 obtain ⟨h1, h2⟩ := right_sh h
 obtain ⟨i1, i2⟩ := toks_all x.args h2
 obtain ⟨k1, k2⟩ := node_toks h1 i1
 exact ⟨k1, by omega⟩
theorem readR_facts (l : List Tok) : ((readR l).2.2 = 0 → rightX (readR l).1 = true) ∧ ((readR l).2.2 ≠ 0 → (readR l).1 = Ex.zero) := by
  unfold readR
  split
  · exact ⟨fun h => (by cases h), fun _ => rfl⟩
  · split
    · rename_i hr; exact ⟨fun _ => hr, fun h => absurd rfl h⟩
    · exact ⟨fun h => (by cases h), fun _ => rfl⟩
theorem scan_err_ne {l : Bytes} {p e : Nat} (h : scanAll l = .error (p, e)) : e ≠ 0 := by
 have := (err_facts h).2.1; omega
theorem parse_facts {s : Bytes} {x : Ex} {p e : Nat} (h : parseX s = (x, p, e)) : (e = 0 → rightX x = true ∧ p = 0) ∧ (e ≠ 0 → x = Ex.zero) := by
  unfold parseX at h
  split at h
  · rename_i p' e' hq
    cases h
    refine ⟨fun h0 => ?_, fun _ => rfl⟩
    subst h0
    split at hq
    · cases hq
    · exact absurd rfl (scan_err_ne hq)
  · rename_i ts hq
    unfold parseR at h
    obtain ⟨f1, f2⟩ := readR_facts ts
    split at h
    · rename_i hc
      cases h
      exact ⟨fun _ => ⟨f1 hc.1, rfl⟩, fun h => absurd rfl h⟩
    · rename_i hc
      cases h
      refine ⟨fun h0 => ?_, fun _ => rfl⟩
      split at h0
      · cases h0
      · rename_i h1; exact absurd h0 h1
/-! ### blanks and parentheses around -/
end Go.Proofs.YtckgmilmhofekaaGreatDoor
