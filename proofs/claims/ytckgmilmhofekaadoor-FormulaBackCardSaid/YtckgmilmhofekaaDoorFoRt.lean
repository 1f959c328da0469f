/- Formulas, plain: positions do not matter to a reader; a right expression's tokens are read as it, and its text as well. -/
import Derived.Test.YtckgmilmhofekaaDoorLexLaws
import Derived.Test.YtckgmilmhofekaaDoorFoBack
import Derived.Test.YtckgmilmhofekaaDoorBigDec
import Derived.WalkKit
import Derived.Lib.ItoaNum
import Derived.Lib.Repeat
namespace Go.Proofs.YtckgmilmhofekaaDoor

/-! ### positions do not matter -/
def z0 (t : Tok) : Tok := t.at 0
abbrev zL (l : List Tok) : List Tok := l.map z0
def zR {α : Type} : Except (List Tok) (α × List Tok) → Except (List Tok) (α × List Tok)
 | .error r => .error (zL r)
 | .ok (x, r) => .ok (x, zL r)
def zN : Except (List Tok) (List Tok) → Except (List Tok) (List Tok)
 | .error r => .error (zL r)
 | .ok r => .ok (zL r)
theorem isT_z (k : Nat) (s : Bytes) (l : List Tok) : isT k s (zL l) = isT k s l := by cases l <;> rfl
theorem tail_z (l : List Tok) : (zL l).tail = zL l.tail := by cases l <;> rfl
theorem needP_z (k : Nat) (s : Bytes) (l : List Tok) : needP k s (zL l) = zN (needP k s l) := by
 unfold needP
 rw [isT_z, tail_z]
 split <;> rfl
theorem nameP_z (l : List Tok) : nameP (zL l) = zR (nameP l) := by
 cases l with
 | nil => rfl
 | cons t r =>
  show nameP (z0 t :: zL r) = _
  rw [nameP_cons, nameP_cons]
  show (if t.kind = 0 ∧ wordB t.text = false then _ else _) = _
  split <;> rfl
def Zs (E : List Tok → PR) : Prop := ∀ l, E (zL l) = zR (E l)
theorem moreP_z {E : List Tok → PR} (h : Zs E) : ∀ (k : Nat) (l : List Tok), moreP E k (zL l) = zR (moreP E k l) := by
 intro k
 induction k with
 | zero =>
  intro l
  unfold moreP
  rw [needP_z]
  cases needP 3 [41] l <;> rfl
 | succ k ih =>
  intro l
  unfold moreP
  rw [needP_z]
  cases needP 3 [44] l with
  | error r => rfl
  | ok l1 =>
   dsimp only [zN]
   rw [h l1]
   cases E l1 with
   | error r => rfl
   | ok p =>
    obtain ⟨x, l2⟩ := p
    dsimp only [zR]
    rw [ih l2]
    cases moreP E k l2 with
    | error r => rfl
    | ok p => rfl
theorem someP_z {E : List Tok → PR} (h : Zs E) (k : Nat) (l : List Tok) : someP E k (zL l) = zR (someP E k l) := by
 unfold someP
 rw [h l]
 cases E l with
 | error r => rfl
 | ok p =>
  obtain ⟨x, l2⟩ := p
  dsimp only [zR]
  rw [moreP_z h k l2]
  cases moreP E k l2 with
  | error r => rfl
  | ok p => rfl
theorem anyP_z {E : List Tok → PR} (h : Zs E) : ∀ (k : Nat) (l : List Tok), anyP E k (zL l) = zR (anyP E k l) := by
  intro k
  induction k with
  | zero => intro l; rfl
  | succ k ih =>
    intro l
    unfold anyP
    rw [isT_z, needP_z, tail_z, h l.tail]
    by_cases hi : isT 3 [44] l = true
    · rw [if_pos hi, if_pos hi]
      cases E l.tail with
      | error r => rfl
      | ok p =>
        obtain ⟨x, l2⟩ := p
        dsimp only [zR]
        rw [ih l2]
        cases anyP E k l2 with
        | error r => rfl
        | ok p => rfl
    · rw [if_neg hi, if_neg hi]
      cases needP 3 [41] l <;> rfl
theorem opensP_z {E : List Tok → PR} (h : Zs E) (op : Int) (k : Nat) (l : List Tok) : opensP E op k (zL l) = zR (opensP E op k l) := by
 unfold opensP
 rw [needP_z]
 cases needP 3 [40] l with
 | error r => rfl
 | ok l1 =>
  dsimp only [zN]
  rw [someP_z h k l1]
  cases someP E k l1 with
  | error r => rfl
  | ok p => rfl
theorem lookP_z {E : List Tok → PR} (h : Zs E) (l : List Tok) : lookP E (zL l) = zR (lookP E l) := by
 unfold lookP
 rw [needP_z]
 cases needP 3 [40] l with
 | error r => rfl
 | ok l1 =>
  dsimp only [zN]
  rw [nameP_z l1]
  cases nameP l1 with
  | error r => rfl
  | ok p =>
   obtain ⟨m, l2⟩ := p
   dsimp only [zR]
   rw [needP_z]
   cases needP 3 [44] l2 with
   | error r => rfl
   | ok l3 =>
    dsimp only [zN]
    rw [someP_z h 0 l3]
    cases someP E 0 l3 with
    | error r => rfl
    | ok p => rfl
theorem callP_z {E : List Tok → PR} (h : Zs E) (m : Bytes) (l : List Tok) : callP E m (zL l) = zR (callP E m l) := by
 unfold callP
 rw [h l]
 cases E l with
 | error r => rfl
 | ok p =>
  obtain ⟨x, l1⟩ := p
  dsimp only [zR]
  rw [List.length_map, anyP_z h _ l1]
  cases anyP E (l1.length + 1) l1 with
  | error r => rfl
  | ok p => rfl
theorem parenP_z {E : List Tok → PR} (h : Zs E) (l : List Tok) : parenP E (zL l) = zR (parenP E l) := by
 unfold parenP
 rw [h l]
 cases E l with
 | error r => rfl
 | ok p =>
  obtain ⟨x, l1⟩ := p
  dsimp only [zR]
  rw [needP_z]
  cases needP 3 [41] l1 <;> rfl
theorem numP_z (t : Tok) (r : List Tok) : numP (z0 t) (zL r) = ((numP t r).1, zL (numP t r).2) := by
 cases r with
 | nil => rfl
 | cons u r =>
  show (if u.kind = 2 then _ else _) = ((if u.kind = 2 then _ else _ : Ex × List Tok).1, zL (if u.kind = 2 then _ else _ : Ex × List Tok).2)
  split <;> rfl
theorem atomP_z {E : List Tok → PR} (h : Zs E) : Zs (atomP E) := by
  intro l
  cases l with
  | nil => rfl
  | cons t r =>
    show atomP E (z0 t :: zL r) = _
    rw [atomP_cons, atomP_cons]
    have hi : ∀ k s, isT k s (z0 t :: zL r) = isT k s (t :: r) := fun _ _ => rfl
    rw [hi, hi, hi, hi]
    show (if t.kind = 1 then _ else _) = _
    by_cases h1 : t.kind = 1
    · rw [if_pos h1, if_pos h1, numP_z]; rfl
    rw [if_neg h1, if_neg h1]
    by_cases h2 : isT 3 [40] (t :: r) = true
    · rw [if_pos h2, if_pos h2, parenP_z h]
    rw [if_neg h2, if_neg h2]
    by_cases h3 : isT 0 wLook (t :: r) = true
    · rw [if_pos h3, if_pos h3, lookP_z h]
    rw [if_neg h3, if_neg h3]
    by_cases h4 : isT 0 wMin (t :: r) = true
    · rw [if_pos h4, if_pos h4, opensP_z h]
    rw [if_neg h4, if_neg h4]
    by_cases h5 : isT 0 wMax (t :: r) = true
    · rw [if_pos h5, if_pos h5, opensP_z h]
    rw [if_neg h5, if_neg h5]
    show (if t.kind = 0 ∧ wordB t.text = false then _ else _) = _
    by_cases h6 : t.kind = 0 ∧ wordB t.text = false
    · rw [if_pos h6, if_pos h6, isT_z]
      by_cases h7 : isT 3 [40] r = true
      · rw [if_pos h7, if_pos h7, tail_z]
        exact callP_z h _ _
      · rw [if_neg h7, if_neg h7]; rfl
    · rw [if_neg h6, if_neg h6]; rfl
theorem opAt_z (l : List Tok) : opAt (zL l) = opAt l := by
 unfold opAt
 simp only [isT_z]
theorem exprW_z {A : List Tok → PR} (h : Zs A) : Zs (exprW A) := by
  intro l
  unfold exprW
  rw [isT_z, isT_z, tail_z, h l.tail, h l]
  by_cases h1 : isT 0 wNot l = true
  · rw [if_pos h1, if_pos h1]
    cases A l.tail with
    | error r => rfl
    | ok p => rfl
  rw [if_neg h1, if_neg h1]
  by_cases h2 : isT 0 wIf l = true
  · rw [if_pos h2, if_pos h2]
    unfold ifP
    rw [h l.tail]
    cases A l.tail with
    | error r => rfl
    | ok p =>
      obtain ⟨a, l1⟩ := p
      dsimp only [zR]
      rw [needP_z]
      cases needP 0 wThen l1 with
      | error r => rfl
      | ok l2 =>
        dsimp only [zN]
        rw [h l2]
        cases A l2 with
        | error r => rfl
        | ok p =>
          obtain ⟨b, l3⟩ := p
          dsimp only [zR]
          rw [needP_z]
          cases needP 0 wElse l3 with
          | error r => rfl
          | ok l4 =>
            dsimp only [zN]
            rw [h l4]
            cases A l4 with
            | error r => rfl
            | ok p => rfl
  rw [if_neg h2, if_neg h2]
  cases A l with
  | error r => rfl
  | ok p =>
    obtain ⟨x, l1⟩ := p
    dsimp only [zR]
    unfold restP
    rw [opAt_z, tail_z, h l1.tail]
    cases opAt l1 with
    | none => rfl
    | some op =>
      dsimp only
      cases A l1.tail with
      | error r => rfl
      | ok p => rfl
theorem exprP_z : ∀ f : Nat, Zs (exprP f)
 | 0 => fun _ => rfl
 | f + 1 => exprW_z (atomP_z (exprP_z f))
/-- Lists of tokens that are equal but for their positions are read alike. -/
theorem exprP_like {f : Nat} {l m : List Tok} (h : zL l = zL m) : zR (exprP f l) = zR (exprP f m) := by
 rw [← exprP_z f l, ← exprP_z f m, h]
/-! ### a right expression's tokens are read as it -/
structure Rw (x : Ex) : Prop where
 rt : Rt x
 hd : ∀ z, isT 0 wNot (wT x ++ z) = false ∧ isT 0 wIf (wT x ++ z) = false
def wrapped (x : Ex) : Prop := (opName x.op).isSome = true ∨ x.op = 4 ∨ x.op = 5
theorem wrap_ops {x : Ex} (h : wrapped x) : 4 ≤ x.op ∧ x.op ≠ 10 ∧ x.op ≠ 11 := by
  rcases h with h | h | h
  · have := opName_cases h; omega
  · omega
  · omega
theorem wT_yes {x : Ex} (h : wrapped x) : wT x = tkS [40] :: (toksX x ++ [tkS [41]]) := if_pos h
theorem wT_no {x : Ex} (h : ¬ wrapped x) : wT x = toksX x := if_neg h
theorem bin_toks {op : Int} (h : op = 6 ∨ op = 7 ∨ op = 8 ∨ op = 9 ∨ op = 12 ∨ op = 13 ∨ op = 14 ∨ op = 15) (as ts : List (List Tok)) : exT op 0 [] [] as ts = as.getD 0 [] ++ tkO op :: as.getD 1 [] := by
 rcases h with rfl | rfl | rfl | rfl | rfl | rfl | rfl | rfl <;> rfl
theorem rw_node {x : Ex} (hn : nodeB x.op x.n x.unit x.name x.args.len = true) (h : ∀ y ∈ x.args.list, Rw y) : Rw x := by
  have h' : ∀ y ∈ x.args.list, Rt y := fun y hy => (h y hy).rt
  by_cases hw : wrapped x
  · have hex : ∀ f z, (toksX x).length < f → exprEnd z → exprP f (toksX x ++ z) = .ok (x, z) := by
      intro f z hf hz
      cases f with
      | zero => omega
      | succ f =>
        show exprW (atomP (exprP f)) (toksX x ++ z) = .ok (x, z)
        rw [toksX_is] at hf ⊢
        obtain ⟨op, n, u, m, a⟩ := x
        dsimp only at hn h h' hw hf ⊢
        have ha : a = Fo.of a.list := (Fo.of_list a).symm
        rw [← Fo.len_list] at hn
        generalize a.list = l at *
        subst ha
        rcases node_cases hn with ⟨rfl, -⟩ | ⟨rfl, rfl, ⟨rfl, -⟩ | ⟨rfl, -⟩ | ⟨rfl, -⟩ | ⟨rfl, rfl, hk⟩ | ⟨rfl, rfl, hk⟩ | ⟨rfl | rfl, -⟩ | ⟨hop, rfl, hk⟩⟩
        · have hq := wrap_ops hw; dsimp only at hq; omega
        · have hq := wrap_ops hw; dsimp only at hq; omega
        · have hq := wrap_ops hw; dsimp only at hq; omega
        · have hq := wrap_ops hw; dsimp only at hq; omega
        · obtain ⟨y, rfl⟩ : ∃ y, l = [y] := List.length_eq_one_iff.1 hk
          have hl : (wT y).length + 1 ≤ f + 1 := by
            have : (tkN wNot :: wT y).length < f + 1 := hf
            rw [List.length_cons] at this; omega
          show exprW (atomP (exprP f)) (tkN wNot :: (wT y ++ z)) = _
          unfold exprW
          rw [if_pos (by rfl), List.tail_cons, (h' y (List.mem_singleton.2 rfl)).at_ f z (by omega) hz.1]
          rfl
        · obtain ⟨y0, y1, y2, rfl⟩ : ∃ y0 y1 y2, l = [y0, y1, y2] := by
            match l, hk with
            | [y0, y1, y2], _ => exact ⟨y0, y1, y2, rfl⟩
          have hl : (wT y0).length + (wT y1).length + (wT y2).length + 3 ≤ f := by
            have : (tkN wIf :: (wT y0 ++ tkN wThen :: (wT y1 ++ tkN wElse :: wT y2))).length < f + 1 := hf
            simp only [List.length_cons, List.length_append] at this; omega
          show exprW (atomP (exprP f)) (tkN wIf :: ((wT y0 ++ tkN wThen :: (wT y1 ++ tkN wElse :: wT y2)) ++ z)) = _
          rw [show (wT y0 ++ tkN wThen :: (wT y1 ++ tkN wElse :: wT y2)) ++ z = wT y0 ++ tkN wThen :: (wT y1 ++ tkN wElse :: (wT y2 ++ z)) by simp]
          unfold exprW
          rw [if_neg (by rw [isN_false (by decide)]; decide), if_pos (by rfl), List.tail_cons]
          unfold ifP
          rw [(h' y0 (by simp)).at_ f _ (by omega) (atomEnd_tk (by decide) (by decide))]
          dsimp only
          rw [needP_N]
          dsimp only
          rw [(h' y1 (by simp)).at_ f _ (by omega) (atomEnd_tk (by decide) (by decide))]
          dsimp only
          rw [needP_N]
          dsimp only
          rw [(h' y2 (by simp)).at_ f _ (by omega) hz.1]
          rfl
        · have hq := wrap_ops hw; dsimp only at hq; omega
        · have hq := wrap_ops hw; dsimp only at hq; omega
        · obtain ⟨y, y', rfl⟩ : ∃ y y', l = [y, y'] := len_two hk
          rw [bin_toks hop] at hf ⊢
          have hl : (wT y).length + (wT y').length + 1 ≤ f := by
            have : (wT y ++ tkO op :: wT y').length < f + 1 := hf
            simp only [List.length_cons, List.length_append] at this; omega
          show exprW (atomP (exprP f)) ((wT y ++ tkO op :: wT y') ++ z) = _
          rw [show (wT y ++ tkO op :: wT y') ++ z = wT y ++ tkO op :: (wT y' ++ z) by simp]
          obtain ⟨d1, d2⟩ := (h y (by simp)).hd (tkO op :: (wT y' ++ z))
          obtain ⟨o1, o2⟩ := opAt_tkO hop (wT y' ++ z)
          unfold exprW
          rw [if_neg (by rw [d1]; decide), if_neg (by rw [d2]; decide), (h' y (by simp)).at_ f _ (by omega) o2]
          dsimp only
          unfold restP
          rw [o1]
          dsimp only
          rw [List.tail_cons, (h' y' (by simp)).at_ f _ (by omega) hz.1]
          rfl
    refine ⟨⟨hex, fun f z hf hz => ?_⟩, fun z => ?_⟩
    · rw [wT_yes hw] at hf ⊢
      have hl : (toksX x).length + 2 ≤ f := by simp only [List.length_cons, List.length_append, List.length_nil] at hf; omega
      rw [show (tkS [40] :: (toksX x ++ [tkS [41]])) ++ z = tkS [40] :: (toksX x ++ tkS [41] :: z) by simp]
      rw [atomP_cons, if_neg (by decide), if_pos (by rfl)]
      unfold parenP
      rw [hex f _ (by omega) (exprEnd_shut _)]
      dsimp only
      rw [needP_S]
    · rw [wT_yes hw]; exact ⟨rfl, rfl⟩
  · have hs : (opName x.op).isSome = false := by
      cases hq : (opName x.op).isSome with
      | false => rfl
      | true => exact absurd (.inl hq) hw
    have h4 : x.op ≠ 4 := fun h => hw (.inr (.inl h))
    have h5 : x.op ≠ 5 := fun h => hw (.inr (.inr h))
    have at_ := fun f z hl hz => rt_atom hn h' hs h4 h5 f z hl hz
    refine ⟨⟨fun f z hf hz => ?_, fun f z hf hz => ?_⟩, fun z => ?_⟩
    · cases f with
      | zero => omega
      | succ f =>
        obtain ⟨a1, a2, a3⟩ := at_ f z (by omega) hz.1
        show exprW (atomP (exprP f)) (toksX x ++ z) = .ok (x, z)
        unfold exprW
        rw [if_neg (by rw [a2]; decide), if_neg (by rw [a3]; decide), a1]
        dsimp only
        unfold restP
        rw [hz.2]
    · rw [wT_no hw] at hf ⊢
      exact (at_ f z hf hz).1
    · rw [wT_no hw]
      obtain ⟨a1, a2, a3⟩ := at_ _ [] (Nat.le_refl _) atomEnd_nil
      cases ht : toksX x with
      | nil => rw [ht] at a1; cases a1
      | cons t r => rw [ht] at a2 a3; exact ⟨a2, a3⟩
theorem rw_all : ∀ a : Fo, shF a = true → ∀ x ∈ a.list, Rw x
  | .nil, _, x, hx => by cases hx
  | .cons op n u m a r, h, x, hx => by
    have h : (nodeB op n u m a.len && shF a && shF r) = true := h
    rw [Bool.and_eq_true, Bool.and_eq_true] at h
    rcases List.mem_cons.1 hx with rfl | hx
    · exact rw_node h.1.1 (rw_all a h.1.2)
    · exact rw_all r h.2 x hx
theorem rt_right {x : Ex} (h : rightX x = true) : Rt x := by
 unfold rightX at h
 rw [Bool.and_eq_true] at h
 exact (rw_all _ h.2 x (List.mem_cons_self ..)).rt
/-! ### its tokens are good ones -/
structure okT (t : Tok) : Prop where
 good : GoodT t
 len : (tokText t).length ≤ 1000
 pos : t.pos = 0
theorem okT_one {l : Bytes} {t : Tok} (h : scanAll l = .ok [t]) (hl : (tokText t).length ≤ 1000) (hp : t.pos = 0) : okT t :=
 ⟨(scan_good (scanAll_scan l) _ h).1 t (List.mem_singleton.2 rfl), hl, hp⟩
theorem okT_S {c : UInt8} (h : c = 40 ∨ c = 41 ∨ c = 44 ∨ c = 43 ∨ c = 45 ∨ c = 42 ∨ c = 47 ∨ c = 60 ∨ c = 61) : okT (tkS [c]) := by
 refine okT_one (l := [c]) ?_ (by show 1 ≤ 1000; decide) rfl
 rcases h with rfl | rfl | rfl | rfl | rfl | rfl | rfl | rfl | rfl <;> rfl
theorem nameOk_len {m : Bytes} (h : nameOk m = true) : m.length ≤ 20 := by
 unfold nameOk at h
 cases m with
 | nil => cases h
 | cons c r => simp only [Bool.and_eq_true, decide_eq_true_eq] at h; exact h.1.2
theorem okT_N {m : Bytes} (h : nameOk m = true) : okT (tkN m) :=
 okT_one (scan_name m h) (by have := nameOk_len h; show m.length ≤ 1000; omega) rfl
theorem esc_len2 (l : Bytes) : (escBody l).length ≤ 2 * l.length := by
 induction l with
 | nil => exact Nat.le_refl _
 | cons c r ih =>
  rw [escBody_cons, List.length_append, List.length_cons]
  split <;> simp only [List.length_cons, List.length_nil] <;> omega
theorem okT_Q {u : Bytes} (h : quoteOk u = true) : okT ⟨2, u, 0, 0⟩ := by
 refine okT_one (scan_quote u h) ?_ rfl
 unfold quoteOk at h
 rw [Bool.and_eq_true, decide_eq_true_eq] at h
 have := esc_len2 u
 show (34 :: (escBody u ++ [34])).length ≤ 1000
 rw [List.length_cons, List.length_append, List.length_singleton]; omega
theorem numVal_dec (l : Bytes) : numVal l = decVal l := by
 unfold numVal decVal dgv
 simp only [Nat.mul_comm]
theorem isDg_digit {c : UInt8} (h : isDg c = true) : isDigit c = true := by
 unfold isDg at h
 rw [Bool.and_eq_true, decide_eq_true_eq, decide_eq_true_eq] at h
 unfold isDigit
 rw [Bool.and_eq_true, decide_eq_true_eq, decide_eq_true_eq]
 exact ⟨UInt8.le_iff_toNat_le.1 h.1, UInt8.le_iff_toNat_le.1 h.2⟩
theorem numOf_dec {n : Nat} (h : n ≤ 1099511627776) : numOf (Lib.decDigits n) = some n := by
  have hl : (Lib.decDigits n).length ≤ 13 := by
    rw [Lib.decDigits_length]; exact nDigits_le (by omega) (by omega)
  have h0 : ¬ ((Lib.decDigits n).head? = some 48 ∧ Lib.decDigits n ≠ [48]) := by
    rintro ⟨h1, h2⟩
    rcases Nat.eq_zero_or_pos n with rfl | hp
    · exact h2 (by rw [Lib.decDigits_one (by omega)]; rfl)
    · exact dec_head hp h1
  have ha : (Lib.decDigits n).all isDigit = true := List.all_eq_true.2 fun c hc => isDg_digit (dec_digits n c hc)
  unfold numOf
  rw [if_neg (by
    rintro (h1 | h1 | h1 | h1)
    · exact dec_ne n h1
    · rw [ha] at h1; cases h1
    · exact h0 h1
    · omega), numVal_dec, decVal_dec, if_neg (by omega)]
theorem okT_D {n : Nat} (h : n ≤ 1099511627776) : okT ⟨1, Lib.decDigits n, n, 0⟩ := by
 refine okT_one (scan_number _ (numOf_dec h)) ?_ rfl
 have hl : (Lib.decDigits n).length ≤ 13 := by
  rw [Lib.decDigits_length]; exact nDigits_le (by omega) (by omega)
 show (Lib.decDigits n).length ≤ 1000
 omega
theorem okT_O {op : Int} (h : op = 6 ∨ op = 7 ∨ op = 8 ∨ op = 9 ∨ op = 12 ∨ op = 13 ∨ op = 14 ∨ op = 15) : okT (tkO op) := by
  rcases h with rfl | rfl | rfl | rfl | rfl | rfl | rfl | rfl
  · exact okT_S (by decide)
  · exact okT_S (by decide)
  · exact okT_S (by decide)
  · exact okT_S (by decide)
  · exact okT_S (by decide)
  · exact okT_S (by decide)
  · exact okT_N (m := wAnd) (by decide)
  · exact okT_N (m := wOr) (by decide)
theorem okT_wrap {x : Ex} (h : ∀ t ∈ toksX x, okT t) : ∀ t ∈ wT x, okT t := by
  intro t ht
  unfold wT wrapT at ht
  split at ht
  · simp only [List.mem_cons, List.mem_append, List.not_mem_nil, or_false] at ht
    rcases ht with rfl | ht | rfl
    · exact okT_S (by decide)
    · exact h t ht
    · exact okT_S (by decide)
  · exact h t ht
theorem okT_comma {l : List Ex} (h : ∀ y ∈ l, ∀ t ∈ toksX y, okT t) : ∀ t ∈ commaT (l.map toksX), okT t := by
  induction l with
  | nil => intro t ht; cases ht
  | cons y r ih =>
    intro t ht
    rw [List.map_cons, commaT] at ht
    simp only [List.mem_cons, List.mem_append] at ht
    rcases ht with rfl | ht | ht
    · exact okT_S (by decide)
    · exact h y (List.mem_cons_self ..) t ht
    · exact ih (fun y hy => h y (List.mem_cons_of_mem _ hy)) t ht
theorem okT_list {l : List Ex} (h : ∀ y ∈ l, ∀ t ∈ toksX y, okT t) : ∀ t ∈ listT (l.map toksX), okT t := by
  intro t ht
  cases l with
  | nil =>
    obtain rfl := List.mem_singleton.1 (show t ∈ [tkS [41]] from ht)
    exact okT_S (by decide)
  | cons y r =>
    rw [List.map_cons, listT] at ht
    simp only [List.mem_append, List.mem_cons, List.not_mem_nil, or_false] at ht
    rcases ht with ht | ht | rfl
    · exact h y (List.mem_cons_self ..) t ht
    · exact okT_comma (fun y hy => h y (List.mem_cons_of_mem _ hy)) t ht
    · exact okT_S (by decide)
def sumT (l : List Ex) : Nat := (l.map fun y => (toksX y).length).sum
theorem sumT_cons (y : Ex) (r : List Ex) : sumT (y :: r) = (toksX y).length + sumT r := by unfold sumT; rw [List.map_cons, List.sum_cons]
theorem wT_len (x : Ex) : (wT x).length ≤ (toksX x).length + 2 := by
  unfold wT wrapT
  split
  · simp only [List.length_cons, List.length_append, List.length_nil]; omega
  · omega
theorem comma_len (l : List Ex) : (commaT (l.map toksX)).length = sumT l + l.length := by
 induction l with
 | nil => rfl
 | cons y r ih => rw [List.map_cons, commaT, List.length_cons, List.length_append, ih, sumT_cons, List.length_cons]; omega
theorem list_len (l : List Ex) : (listT (l.map toksX)).length ≤ sumT l + l.length + 1 := by
 cases l with
 | nil => exact Nat.le_refl _
 | cons y r => rw [List.map_cons, listT_len, comma_len, sumT_cons, List.length_cons]; omega
theorem node_toks {x : Ex} (hn : nodeB x.op x.n x.unit x.name x.args.len = true) (h : ∀ y ∈ x.args.list, ∀ t ∈ toksX y, okT t) : (∀ t ∈ toksX x, okT t) ∧ (toksX x).length ≤ sumT x.args.list + 9 := by
  rw [toksX_is]
  obtain ⟨op, n, u, m, a⟩ := x
  dsimp only at hn h ⊢
  rw [← Fo.len_list] at hn
  generalize a.list = l at *
  clear a
  have hw : ∀ y ∈ l, ∀ t ∈ wT y, okT t := fun y hy => okT_wrap (h y hy)
  rcases node_cases hn with ⟨rfl, hu, h0, h1, rfl, hk⟩ | ⟨rfl, rfl, ⟨rfl, hm, hk⟩ | ⟨rfl, hm, hk⟩ | ⟨rfl, hm, hk, hk6⟩ | ⟨rfl, rfl, hk⟩ | ⟨rfl, rfl, hk⟩ | ⟨hop, rfl, hk⟩ | ⟨hop, rfl, hk⟩⟩
  · have hnn : n.toNat ≤ 1099511627776 := by omega
    show (∀ t ∈ (⟨1, Lib.decDigits n.toNat, n.toNat, 0⟩ : Tok) :: (if u = [] then [] else [⟨2, u, 0, 0⟩]), okT t) ∧ ((⟨1, Lib.decDigits n.toNat, n.toNat, 0⟩ : Tok) :: (if u = [] then [] else [⟨2, u, 0, 0⟩])).length ≤ _
    split
    · refine ⟨fun t ht => ?_, by rw [List.length_cons, List.length_nil]; omega⟩
      obtain rfl := List.mem_singleton.1 ht
      exact okT_D hnn
    · refine ⟨fun t ht => ?_, by rw [List.length_cons, List.length_cons, List.length_nil]; omega⟩
      simp only [List.mem_cons, List.not_mem_nil, or_false] at ht
      rcases ht with rfl | rfl
      · exact okT_D hnn
      · exact okT_Q hu
  · refine ⟨fun t ht => ?_, by show 1 ≤ _; omega⟩
    obtain rfl := List.mem_singleton.1 (show t ∈ [tkN m] from ht)
    exact okT_N (named_ok hm).1
  · have hl := list_len l
    refine ⟨fun t ht => ?_, by show (tkN wLook :: tkS [40] :: tkN m :: tkS [44] :: listT (l.map toksX)).length ≤ _; simp only [List.length_cons]; omega⟩
    have ht : t ∈ tkN wLook :: tkS [40] :: tkN m :: tkS [44] :: listT (l.map toksX) := ht
    simp only [List.mem_cons] at ht
    rcases ht with rfl | rfl | rfl | rfl | ht
    · exact okT_N (by decide)
    · exact okT_S (by decide)
    · exact okT_N (named_ok hm).1
    · exact okT_S (by decide)
    · exact okT_list h t ht
  · have hl := list_len l
    refine ⟨fun t ht => ?_, by show (tkN m :: tkS [40] :: listT (l.map toksX)).length ≤ _; simp only [List.length_cons]; omega⟩
    have ht : t ∈ tkN m :: tkS [40] :: listT (l.map toksX) := ht
    simp only [List.mem_cons] at ht
    rcases ht with rfl | rfl | ht
    · exact okT_N (named_ok hm).1
    · exact okT_S (by decide)
    · exact okT_list h t ht
  · obtain ⟨y, rfl⟩ : ∃ y, l = [y] := List.length_eq_one_iff.1 hk
    have hl := wT_len y
    refine ⟨fun t ht => ?_, by show (tkN wNot :: wT y).length ≤ _; rw [sumT_cons]; simp only [List.length_cons]; omega⟩
    have ht : t ∈ tkN wNot :: wT y := ht
    simp only [List.mem_cons] at ht
    rcases ht with rfl | ht
    · exact okT_N (by decide)
    · exact hw y (by simp) t ht
  · obtain ⟨y0, y1, y2, rfl⟩ : ∃ y0 y1 y2, l = [y0, y1, y2] := by
      match l, hk with
      | [y0, y1, y2], _ => exact ⟨y0, y1, y2, rfl⟩
    have l0 := wT_len y0
    have l1 := wT_len y1
    have l2 := wT_len y2
    refine ⟨fun t ht => ?_, by show (tkN wIf :: (wT y0 ++ tkN wThen :: (wT y1 ++ tkN wElse :: wT y2))).length ≤ _; rw [sumT_cons, sumT_cons, sumT_cons]; simp only [List.length_cons, List.length_append]; omega⟩
    have ht : t ∈ tkN wIf :: (wT y0 ++ tkN wThen :: (wT y1 ++ tkN wElse :: wT y2)) := ht
    simp only [List.mem_cons, List.mem_append] at ht
    rcases ht with rfl | ht | rfl | ht | rfl | ht
    · exact okT_N (by decide)
    · exact hw y0 (by simp) t ht
    · exact okT_N (by decide)
    · exact hw y1 (by simp) t ht
    · exact okT_N (by decide)
    · exact hw y2 (by simp) t ht
  · have hl := list_len l
    rcases hop with rfl | rfl
    · refine ⟨fun t ht => ?_, by show (tkN wMin :: tkS [40] :: listT (l.map toksX)).length ≤ _; simp only [List.length_cons]; omega⟩
      have ht : t ∈ tkN wMin :: tkS [40] :: listT (l.map toksX) := ht
      simp only [List.mem_cons] at ht
      rcases ht with rfl | rfl | ht
      · exact okT_N (by decide)
      · exact okT_S (by decide)
      · exact okT_list h t ht
    · refine ⟨fun t ht => ?_, by show (tkN wMax :: tkS [40] :: listT (l.map toksX)).length ≤ _; simp only [List.length_cons]; omega⟩
      have ht : t ∈ tkN wMax :: tkS [40] :: listT (l.map toksX) := ht
      simp only [List.mem_cons] at ht
      rcases ht with rfl | rfl | ht
      · exact okT_N (by decide)
      · exact okT_S (by decide)
      · exact okT_list h t ht
  · obtain ⟨y, y', rfl⟩ : ∃ y y', l = [y, y'] := len_two hk
    have l0 := wT_len y
    have l1 := wT_len y'
    rw [bin_toks hop]
    refine ⟨fun t ht => ?_, by show (wT y ++ tkO op :: wT y').length ≤ _; rw [sumT_cons, sumT_cons]; simp only [List.length_cons, List.length_append]; omega⟩
    have ht : t ∈ wT y ++ tkO op :: wT y' := ht
    simp only [List.mem_cons, List.mem_append] at ht
    rcases ht with ht | rfl | ht
    · exact hw y (by simp) t ht
    · exact okT_O hop
    · exact hw y' (by simp) t ht
theorem toks_all : ∀ a : Fo, shF a = true → (∀ y ∈ a.list, ∀ t ∈ toksX y, okT t) ∧ sumT a.list ≤ 9 * nodesF a
  | .nil, _ => ⟨fun y hy => (by cases hy), Nat.zero_le _⟩
  | .cons op n u m a r, h => by
    have h : (nodeB op n u m a.len && shF a && shF r) = true := h
    rw [Bool.and_eq_true, Bool.and_eq_true] at h
    obtain ⟨i1, i2⟩ := toks_all a h.1.2
    obtain ⟨j1, j2⟩ := toks_all r h.2
    obtain ⟨k1, k2⟩ := node_toks (x := ⟨op, n, u, m, a⟩) h.1.1 i1
    have e1 : nodesF (.cons op n u m a r) = 1 + nodesF a + nodesF r := rfl
    refine ⟨fun y hy => ?_, ?_⟩
    · rcases List.mem_cons.1 hy with rfl | hy
      · exact k1
      · exact j1 y hy
    · show sumT (⟨op, n, u, m, a⟩ :: r.list) ≤ _
      rw [sumT_cons, e1]
      have k2 : (toksX ⟨op, n, u, m, a⟩).length ≤ sumT a.list + 9 := k2
      omega
theorem printL_len : ∀ ts : List Tok, (∀ t ∈ ts, okT t) → (printL ts).length ≤ 1001 * ts.length
 | [], _ => Nat.zero_le _
 | [t], h => by have := (h t (by simp)).len; show (tokText t).length ≤ 1001 * 1; omega
 | t :: u :: r, h => by
  have h1 := (h t (by simp)).len
  have h2 := printL_len (u :: r) (fun x hx => h x (List.mem_cons_of_mem _ hx))
  show (tokText t ++ 32 :: printL (u :: r)).length ≤ _
  rw [List.length_append, List.length_cons]
  rw [List.length_cons] at h2 ⊢
  rw [List.length_cons]
  omega
/-! ### round trip -/
theorem parse_same {s : Bytes} {ts us : List Tok} {x : Ex} (hs : s.length ≤ 4000) (hu : scanAll s = .ok us) (he : zL us = zL ts) (hp : exprP (ts.length + 1) ts = .ok (x, [])) (hr : rightX x = true) : parseX s = (x, 0, 0) := by
 have hlen : us.length = ts.length := by have := congrArg List.length he; simpa using this
 have h1 : exprP (us.length + 1) us = .ok (x, []) := by
  have h2 := exprP_like (f := ts.length + 1) he
  rw [hp] at h2
  rw [hlen]
  cases hq : exprP (ts.length + 1) us with
  | error r => rw [hq] at h2; cases h2
  | ok p =>
   obtain ⟨y, r⟩ := p
   rw [hq] at h2
   have h3 : (Except.ok (y, zL r) : PR) = .ok (x, []) := h2
   have h4 := Prod.mk.inj (Except.ok.inj h3)
   have h5 : r = [] := List.map_eq_nil_iff.1 h4.2
   rw [h4.1, h5]
 have h6 : readR us = (x, us.length, 0) := by
  unfold readR parseL
  rw [h1]
  dsimp only
  rw [if_pos hr]
  rfl
 unfold parseX
 rw [if_neg (by omega), hu]
 dsimp only
 unfold parseR
 rw [h6]
 rw [if_pos ⟨rfl, rfl⟩]
theorem right_sh {x : Ex} (h : rightX x = true) : nodeB x.op x.n x.unit x.name x.args.len = true ∧ shF x.args = true := by
 unfold rightX at h
 rw [Bool.and_eq_true] at h
 have h2 : (nodeB x.op x.n x.unit x.name x.args.len && shF x.args && shF .nil) = true := h.2
 rw [Bool.and_eq_true, Bool.and_eq_true] at h2
 exact h2.1
theorem right_toks {x : Ex} (h : rightX x = true) : (∀ t ∈ toksX x, okT t) ∧ (toksX x).length ≤ 9 * nodesF x.args + 9 := by
 obtain ⟨h1, h2⟩ := right_sh h
 obtain ⟨i1, i2⟩ := toks_all x.args h2
 obtain ⟨k1, k2⟩ := node_toks h1 i1
 exact ⟨k1, by omega⟩
theorem back_print {x : Ex} {t : Bytes} (h : printX x = some t) : rightX x = true ∧ t.length ≤ 4000 ∧ parseX t = (x, 0, 0) := by
  unfold printX at h
  split at h
  · rename_i hc
    cases h
    obtain ⟨g1, -⟩ := right_toks hc.1
    obtain ⟨us, hs, hu⟩ := scan_print (toksX x) (fun t ht => (g1 t ht).good) 0
    refine ⟨hc.1, hc.2, parse_same hc.2 (scanAll_of hs) hu ?_ hc.1⟩
    have := (rt_right hc.1).ex ((toksX x).length + 1) [] (Nat.lt_succ_self _) exprEnd_nil
    rw [List.append_nil] at this; exact this
  · cases h
theorem readR_facts (l : List Tok) : ((readR l).2.2 = 0 → rightX (readR l).1 = true) ∧ ((readR l).2.2 ≠ 0 → (readR l).1 = Ex.zero) := by
  unfold readR
  split
  · exact ⟨fun h => (by cases h), fun _ => rfl⟩
  · split
    · rename_i hr; exact ⟨fun _ => hr, fun h => absurd rfl h⟩
    · exact ⟨fun h => (by cases h), fun _ => rfl⟩
theorem scan_err_ne {l : Bytes} {p e : Nat} (h : scanAll l = .error (p, e)) : e ≠ 0 := by
 have := (err_facts h).2.1; omega
theorem parse_facts {s : Bytes} {x : Ex} {p e : Nat} (h : parseX s = (x, p, e)) : (e = 0 → rightX x = true ∧ p = 0) ∧ (e ≠ 0 → x = Ex.zero) := by
  unfold parseX at h
  split at h
  · rename_i p' e' hq
    cases h
    refine ⟨fun h0 => ?_, fun _ => rfl⟩
    subst h0
    split at hq
    · cases hq
    · exact absurd rfl (scan_err_ne hq)
  · rename_i ts hq
    unfold parseR at h
    obtain ⟨f1, f2⟩ := readR_facts ts
    split at h
    · rename_i hc
      cases h
      exact ⟨fun _ => ⟨f1 hc.1, rfl⟩, fun h => absurd rfl h⟩
    · rename_i hc
      cases h
      refine ⟨fun h0 => ?_, fun _ => rfl⟩
      split at h0
      · cases h0
      · rename_i h1; exact absurd h0 h1
/-! ### blanks and parentheses around -/
theorem gap_sp (n : Nat) (s : Bytes) : gapC false (List.replicate n 32 ++ s) = n + gapC false s := by
 induction n with
 | zero => simp
 | succ n ih =>
  rw [List.replicate_succ, List.cons_append]
  have h : ∀ l : Bytes, gapC false (32 :: l) = gapC false l + 1 := fun l => by
   rw [gapC, if_neg (by decide), if_neg (by decide), if_pos (by decide)]
  rw [h, ih]; omega
theorem scan_pre (n : Nat) (s : Bytes) {p : Nat} {a : Except (Nat × Nat) (List Tok)} (h : Scan (p + n) s a) : Scan p (List.replicate n 32 ++ s) a := by
 have hd : (List.replicate n (32 : UInt8) ++ s).drop n = s := by
  rw [List.drop_append_of_le_length (by rw [List.length_replicate]; exact Nat.le_refl _), List.drop_of_length_le (by rw [List.length_replicate]; exact Nat.le_refl _), List.nil_append]
 refine scan_shift_gap (d := n) (by rw [hd]; exact gap_sp n s) (by rw [hd]; exact h) (by rw [List.length_append, List.length_replicate]; omega)
theorem scan_blank_shift (n : Nat) (s : Bytes) : scanAll (List.replicate n 32 ++ s) = shifted n (scanAll s) := by
 have h := scan_shift (scanAll_scan s) n
 exact scanAll_of (scan_pre n s h)
theorem z_shift (n : Nat) (l : List Tok) : zL (l.map fun t => t.at (t.pos + n)) = zL l := by
 show List.map z0 (List.map _ l) = List.map z0 l
 rw [List.map_map]; rfl
theorem zL_app (l m : List Tok) : zL (l ++ m) = zL l ++ zL m := List.map_append
theorem readR_like {l m : List Tok} (h : zL l = zL m) : readR l = readR m := by
 have hlen : l.length = m.length := by have := congrArg List.length h; simpa using this
 have h2 := exprP_like (f := m.length + 1) h
 unfold readR parseL
 rw [hlen]
 have lz : ∀ {r r' : List Tok}, zL r = zL r' → r.length = r'.length := fun h => by have := congrArg List.length h; simpa using this
 cases hq : exprP (m.length + 1) l with
 | error r =>
  rw [hq] at h2
  cases hq2 : exprP (m.length + 1) m with
  | error r' =>
   rw [hq2] at h2
   have h3 : (Except.error (zL r) : PR) = .error (zL r') := h2
   dsimp only
   rw [lz (Except.error.inj h3)]
  | ok p => rw [hq2] at h2; cases h2
 | ok p =>
  obtain ⟨x, r⟩ := p
  rw [hq] at h2
  cases hq2 : exprP (m.length + 1) m with
  | error r' => rw [hq2] at h2; cases h2
  | ok p' =>
   obtain ⟨x', r'⟩ := p'
   rw [hq2] at h2
   have h3 : (Except.ok (x, zL r) : PR) = .ok (x', zL r') := h2
   have h4 := Prod.mk.inj (Except.ok.inj h3)
   dsimp only
   rw [h4.1, lz h4.2]
theorem parse_blanks {s : Bytes} {n : Nat} (hs : s.length + n ≤ 4000) {x : Ex} {p e : Nat} (h : parseX s = (x, p, e)) : parseX (List.replicate n 32 ++ s) = (x, if e = 0 then 0 else p + n, e) := by
  have hf := parse_facts h
  unfold parseX at h ⊢
  rw [if_neg (by omega)] at h
  rw [if_neg (by rw [List.length_append, List.length_replicate]; omega), scan_blank_shift]
  cases hq : scanAll s with
  | error pe =>
    obtain ⟨p', e'⟩ := pe
    rw [hq] at h
    cases h
    show (Ex.zero, p + n, e) = _
    rw [if_neg (scan_err_ne hq)]
  | ok ts =>
    rw [hq] at h
    show parseR (ts.map fun t => t.at (t.pos + n)) (List.replicate n 32 ++ s).length = _
    have h : parseR ts s.length = (x, p, e) := h
    unfold parseR at h ⊢
    rw [readR_like (z_shift n ts), List.length_map]
    by_cases hc : (readR ts).2.2 = 0 ∧ (readR ts).2.1 = ts.length
    · rw [if_pos hc] at h ⊢
      cases h; rfl
    · rw [if_neg hc] at h ⊢
      cases h
      have he : (if (readR ts).2.2 = 0 then 12 else (readR ts).2.2) ≠ 0 := by split <;> omega
      rw [if_neg he]
      congr 2
      rw [← List.map_drop]
      cases ts.drop (readR ts).2.1 with
      | nil => show (List.replicate n 32 ++ s).length = s.length + n; rw [List.length_append, List.length_replicate]; omega
      | cons t r => rfl
theorem scan_open (n : Nat) (y : Bytes) {us : List Tok} (h : scanAll y = .ok us) : ∃ vs, scanAll (List.replicate n 32 ++ 40 :: 32 :: y) = .ok vs ∧ zL vs = tkS [40] :: zL us := by
 have h1 : scanAll (40 :: 32 :: y) = .ok (⟨3, [40], 0, 0⟩ :: (us.map fun t => t.at (t.pos + 2))) := by
  have h2 : Scan 2 y (.ok (us.map fun t => t.at (t.pos + 2))) := by have := scan_shift (scanAll_scan y) 2; rw [h] at this; exact this
  have h3 : Scan 1 (32 :: y) (.ok (us.map fun t => t.at (t.pos + 2))) := scan_pre 1 y h2
  have := Scan.tok 0 (40 :: 32 :: y) 40 (32 :: y) ⟨3, [40], 0, 0⟩ 1 _ (by rw [gapC_zero (by decide) (by decide)]; rfl) (by rfl) (by
   rw [gapC_zero (by decide) (by decide)]; exact h3)
  rw [gapC_zero (by decide) (by decide)] at this
  exact scanAll_of this
 rw [scan_blank_shift, h1]
 refine ⟨_, rfl, ?_⟩
 rw [z_shift]
 show z0 ⟨3, [40], 0, 0⟩ :: zL (us.map fun t => t.at (t.pos + 2)) = _
 rw [z_shift]; rfl
theorem scan_close {s : Bytes} {ts : List Tok} (h : scanAll s = .ok ts) : ∃ us, scanAll (s ++ [10, 41, 32, 35, 32, 120]) = .ok us ∧ zL us = zL ts ++ [tkS [41]] := by
 have h2 := join_ok (x := s) (y := [41, 32, 35, 32, 120]) h
 have h3 : scanAll [41, 32, 35, 32, 120] = .ok [⟨3, [41], 0, 0⟩] := by rfl
 rw [h3] at h2
 refine ⟨_, h2, ?_⟩
 rw [zL_app]; rfl
theorem parse_wrap (hsr : ∀ (l : List Tok) (x : Ex) (r : List Tok), exprP (l.length + 1) l = .ok (x, r) → r.length < l.length) {s : Bytes} {n : Nat} (hs : s.length + n ≤ 3900) {x : Ex} {p : Nat} (h : parseX s = (x, p, 0)) : parseX (List.replicate n 32 ++ 40 :: 32 :: (s ++ [10, 41, 32, 35, 32, 120])) = (x, 0, 0) := by
  obtain ⟨hr, -⟩ := (parse_facts h).1 rfl
  unfold parseX at h
  rw [if_neg (by omega)] at h
  cases hq : scanAll s with
  | error pe =>
    obtain ⟨p', e'⟩ := pe
    rw [hq] at h
    have h : (Ex.zero, p', e') = (x, p, 0) := h
    cases h
    exact absurd rfl (scan_err_ne hq)
  | ok ts =>
    rw [hq] at h
    have h : parseR ts s.length = (x, p, 0) := h
    unfold parseR at h
    by_cases hc : (readR ts).2.2 = 0 ∧ (readR ts).2.1 = ts.length
    · rw [if_pos hc] at h
      have hx : (readR ts).1 = x := (Prod.mk.inj h).1
      obtain ⟨c1, c2⟩ := hc
      obtain ⟨us, u1, u2⟩ := scan_close hq
      obtain ⟨vs, v1, v2⟩ := scan_open n _ u1
      have he : exprP (ts.length + 1) ts = .ok (x, []) := by
        unfold readR parseL at c1 c2 hx
        cases hq2 : exprP (ts.length + 1) ts with
        | error r => rw [hq2] at c1; cases c1
        | ok q =>
          obtain ⟨x', r⟩ := q
          have hm := hsr ts x' r hq2
          rw [hq2] at c1 c2 hx
          dsimp only at c1 c2 hx
          split at c2
          · rename_i hr2
            rw [if_pos hr2] at hx
            have hx : x' = x := hx
            have c2 : ts.length - r.length = ts.length := c2
            have hr0 : r = [] := List.length_eq_zero_iff.1 (by omega)
            rw [hx, hr0]
          · rename_i hr2; rw [if_neg hr2] at c1; cases c1
      refine parse_same (ts := tkS [40] :: (ts ++ [tkS [41]])) ?_ v1 ?_ ?_ hr
      · rw [List.length_append, List.length_replicate, List.length_cons, List.length_cons, List.length_append]
        show n + (s.length + 6 + 1 + 1) ≤ 4000
        omega
      · rw [v2, u2]
        show _ = z0 (tkS [40]) :: zL (ts ++ [tkS [41]])
        rw [zL_app]; rfl
      · have hsh : Shuts [tkS [41]] := .inr ⟨tkS [41], [], rfl, rfl, rfl⟩
        have h3 := exprP_app hsh (ts.length + 1) (ts.length + 2) (by omega) ts x [] he
        show exprP ((ts ++ [tkS [41]]).length + 1 + 1) (tkS [40] :: (ts ++ [tkS [41]])) = _
        rw [show (ts ++ [tkS [41]]).length + 1 = ts.length + 2 by rw [List.length_append]; rfl]
        show exprW (atomP (exprP (ts.length + 2))) (tkS [40] :: (ts ++ [tkS [41]])) = _
        unfold exprW
        rw [if_neg (show ¬ isT 0 wNot (tkS [40] :: (ts ++ [tkS [41]])) = true from fun h => (by cases h)), if_neg (show ¬ isT 0 wIf (tkS [40] :: (ts ++ [tkS [41]])) = true from fun h => (by cases h)), atomP_cons, if_neg (show ¬ (tkS [40]).kind = 1 by decide), if_pos (by rfl)]
        unfold parenP
        rw [h3, List.nil_append]
        dsimp only
        rw [needP_S]
        rfl
    · rw [if_neg hc] at h
      have h : (if (readR ts).2.2 = 0 then 12 else (readR ts).2.2) = 0 := (Prod.mk.inj (Prod.mk.inj h).2).2
      split at h <;> omega
end Go.Proofs.YtckgmilmhofekaaDoor
