/- Formulas, plain: the tokens of a right expression are read as it. -/
import Derived.Test.YtckgmilmhofekaaGreatDoorLexLaws
import Derived.WalkKit
import Derived.Lib.ItoaNum
namespace Go.Proofs.YtckgmilmhofekaaGreatDoor

/-- A list of expressions: the first one's own parts, its arguments, and the other expressions. -/
inductive Fo where
 | nil
 | cons (op n : Int) (unit name : Bytes) (args rest : Fo)
structure Ex where
 op : Int
 n : Int
 unit : Bytes
 name : Bytes
 args : Fo
def Ex.zero : Ex := ⟨0, 0, [], [], .nil⟩
def Ex.then (x : Ex) (r : Fo) : Fo := .cons x.op x.n x.unit x.name x.args r
def Fo.len : Fo → Nat
 | .nil => 0
 | .cons _ _ _ _ _ r => r.len + 1
def Fo.list : Fo → List Ex
 | .nil => []
 | .cons op n u m a r => ⟨op, n, u, m, a⟩ :: r.list
def Fo.of : List Ex → Fo
 | [] => .nil
 | x :: r => x.then (Fo.of r)
theorem Fo.list_of (l : List Ex) : (Fo.of l).list = l := by
 induction l with
 | nil => rfl
 | cons x r ih => show x :: (Fo.of r).list = _; rw [ih]
theorem Fo.of_list (f : Fo) : Fo.of f.list = f := by
 induction f with
 | nil => rfl
 | cons op n u m a r iha ihr => show Fo.cons op n u m a (Fo.of r.list) = _; rw [ihr]
theorem Fo.len_list (f : Fo) : f.list.length = f.len := by
 induction f with
 | nil => rfl
 | cons op n u m a r iha ihr => show r.list.length + 1 = r.len + 1; rw [ihr]
def wNot : Bytes := [110, 111, 116]
def wIf : Bytes := [105, 102]
def wThen : Bytes := [116, 104, 101, 110]
def wElse : Bytes := [101, 108, 115, 101]
def wAnd : Bytes := [97, 110, 100]
def wOr : Bytes := [111, 114]
def wLook : Bytes := [108, 111, 111, 107]
def wMin : Bytes := [109, 105, 110]
def wMax : Bytes := [109, 97, 120]
def wInto : Bytes := [105, 110, 116, 111]
def wTo : Bytes := [116, 111]
def wAs : Bytes := [97, 115]
def wordsL : List Bytes := [wNot, wIf, wThen, wElse, wAnd, wOr, wLook, wMin, wMax, wInto, wTo, wAs]
def wordB (s : Bytes) : Bool := wordsL.contains s
def opName (op : Int) : Option Bytes :=
 if op = 6 then some [43] else if op = 7 then some [45] else if op = 8 then some [42] else if op = 9 then some [47]
 else if op = 12 then some [60] else if op = 13 then some [61] else if op = 14 then some wAnd else if op = 15 then some wOr else none
def namedB (s : Bytes) : Bool := nameOk s && !wordB s
/-- How many nodes there are, as long as there are not too many of them, and of levels. -/
def cntF : Fo → Nat → Nat → Option Nat
 | .nil, k, _ => some k
 | .cons _ _ _ _ a r, k, lv =>
  if 200 < k + 1 ∨ 20 < lv then none
  else match cntF a (k + 1) (lv + 1) with
   | none => none
   | some k' => cntF r k' lv
def nodesF : Fo → Nat
 | .nil => 0
 | .cons _ _ _ _ a r => 1 + nodesF a + nodesF r
def depF : Fo → Nat
 | .nil => 0
 | .cons _ _ _ _ a r => max (1 + depF a) (depF r)
def nodeB (op n : Int) (u m : Bytes) (k : Nat) : Bool :=
 if op = 0 then quoteOk u && decide (0 ≤ n) && decide (n ≤ 1099511627776) && m.isEmpty && (k == 0)
 else if n ≠ 0 ∨ u ≠ [] then false
 else if op = 1 then namedB m && (k == 0)
 else if op = 2 then namedB m && (k == 1)
 else if op = 3 then namedB m && decide (1 ≤ k) && decide (k ≤ 6)
 else if op = 4 then m.isEmpty && (k == 1)
 else if op = 5 then m.isEmpty && (k == 3)
 else if op = 10 ∨ op = 11 then m.isEmpty && (k == 2)
 else (opName op).isSome && m.isEmpty && (k == 2)
def shF : Fo → Bool
 | .nil => true
 | .cons op n u m a r => nodeB op n u m a.len && shF a && shF r
def rightX (x : Ex) : Bool := (cntF (x.then .nil) 0 1).isSome && shF (x.then .nil)
/-! ### The tokens of an expression -/

def tkN (s : Bytes) : Tok := ⟨0, s, 0, 0⟩
def tkS (s : Bytes) : Tok := ⟨3, s, 0, 0⟩
def tkO (op : Int) : Tok := if op = 14 ∨ op = 15 then tkN ((opName op).getD []) else tkS ((opName op).getD [])
def wrapT (op : Int) (ts : List Tok) : List Tok := if (opName op).isSome ∨ op = 4 ∨ op = 5 then tkS [40] :: (ts ++ [tkS [41]]) else ts
def commaT : List (List Tok) → List Tok
 | [] => []
 | t :: r => tkS [44] :: (t ++ commaT r)
/-- Lists of tokens with commas between them, and a closing parenthesis. -/
def listT : List (List Tok) → List Tok
 | [] => [tkS [41]]
 | t :: r => t ++ (commaT r ++ [tkS [41]])
/-- An expression's tokens; 'as': its arguments' at the place of an atom; 'ts': its arguments'. -/
def exT (op n : Int) (u m : Bytes) (as ts : List (List Tok)) : List Tok :=
 if op = 0 then ⟨1, Lib.decDigits n.toNat, n.toNat, 0⟩ :: (if u = [] then [] else [⟨2, u, 0, 0⟩])
 else if op = 1 then [tkN m]
 else if op = 2 then tkN wLook :: tkS [40] :: tkN m :: tkS [44] :: listT ts
 else if op = 3 then tkN m :: tkS [40] :: listT ts
 else if op = 10 then tkN wMin :: tkS [40] :: listT ts
 else if op = 11 then tkN wMax :: tkS [40] :: listT ts
 else if op = 4 then tkN wNot :: as.getD 0 []
 else if op = 5 then tkN wIf :: (as.getD 0 [] ++ tkN wThen :: (as.getD 1 [] ++ tkN wElse :: as.getD 2 []))
 else as.getD 0 [] ++ tkO op :: as.getD 1 []
def opsF : Fo → List Int
 | .nil => []
 | .cons op _ _ _ _ r => op :: opsF r
def tokF : Fo → List (List Tok)
 | .nil => []
 | .cons op n u m a r => exT op n u m (List.zipWith wrapT (opsF a) (tokF a)) (tokF a) :: tokF r
def toksX (x : Ex) : List Tok := exT x.op x.n x.unit x.name (List.zipWith wrapT (opsF x.args) (tokF x.args)) (tokF x.args)
def printX (x : Ex) : Option Bytes := if rightX x = true ∧ (printL (toksX x)).length ≤ 4000 then some (printL (toksX x)) else none
/-! ### How tokens are read -/

abbrev PR := Except (List Tok) (Ex × List Tok)
abbrev PL := Except (List Tok) (Fo × List Tok)
def isT (k : Nat) (s : Bytes) : List Tok → Bool
 | [] => false
 | t :: _ => t.kind == k && t.text == s
def needP (k : Nat) (s : Bytes) (l : List Tok) : Except (List Tok) (List Tok) := if isT k s l = true then .ok l.tail else .error l
def nameP : List Tok → Except (List Tok) (Bytes × List Tok)
 | [] => .error []
 | t :: r => if t.kind = 0 ∧ wordB t.text = false then .ok (t.text, r) else .error (t :: r)
/-- After an expression: so many more of them, with commas ahead, and a closing parenthesis. -/
def moreP (E : List Tok → PR) : Nat → List Tok → PL
 | 0, l => match needP 3 [41] l with | .ok r => .ok (.nil, r) | .error r => .error r
 | k + 1, l => match needP 3 [44] l with
  | .error r => .error r
  | .ok l1 => match E l1 with
   | .error r => .error r
   | .ok (x, l2) => match moreP E k l2 with
    | .error r => .error r
    | .ok (f, l3) => .ok (x.then f, l3)
def someP (E : List Tok → PR) (k : Nat) (l : List Tok) : PL := match E l with
 | .error r => .error r
 | .ok (x, l1) => match moreP E k l1 with
  | .error r => .error r
  | .ok (f, l2) => .ok (x.then f, l2)
/-- After an expression: any number more of them, with commas ahead, and a closing parenthesis. -/
def anyP (E : List Tok → PR) : Nat → List Tok → PL
 | 0, l => .error l
 | k + 1, l => if isT 3 [44] l = true then match E l.tail with
   | .error r => .error r
   | .ok (x, l2) => match anyP E k l2 with
    | .error r => .error r
    | .ok (f, l3) => .ok (x.then f, l3)
  else match needP 3 [41] l with | .ok r => .ok (.nil, r) | .error r => .error r
def opensP (E : List Tok → PR) (op : Int) (k : Nat) (l : List Tok) : PR := match needP 3 [40] l with
 | .error r => .error r
 | .ok l1 => match someP E k l1 with
  | .error r => .error r
  | .ok (f, l2) => .ok (⟨op, 0, [], [], f⟩, l2)
def lookP (E : List Tok → PR) (l : List Tok) : PR := match needP 3 [40] l with
 | .error r => .error r
 | .ok l1 => match nameP l1 with
  | .error r => .error r
  | .ok (m, l2) => match needP 3 [44] l2 with
   | .error r => .error r
   | .ok l3 => match someP E 0 l3 with
    | .error r => .error r
    | .ok (f, l4) => .ok (⟨2, 0, [], m, f⟩, l4)
def callP (E : List Tok → PR) (m : Bytes) (l : List Tok) : PR := match E l with
 | .error r => .error r
 | .ok (x, l1) => match anyP E (l1.length + 1) l1 with
  | .error r => .error r
  | .ok (f, l2) => .ok (⟨3, 0, [], m, x.then f⟩, l2)
def numP (t : Tok) : List Tok → Ex × List Tok
 | [] => (⟨0, t.n, [], [], .nil⟩, [])
 | u :: r => if u.kind = 2 then (⟨0, t.n, u.text, [], .nil⟩, r) else (⟨0, t.n, [], [], .nil⟩, u :: r)
def parenP (E : List Tok → PR) (l : List Tok) : PR := match E l with
 | .error r => .error r
 | .ok (x, l1) => match needP 3 [41] l1 with
  | .error r => .error r
  | .ok l2 => .ok (x, l2)
def atomP (E : List Tok → PR) : List Tok → PR
 | [] => .error []
 | t :: r =>
  if t.kind = 1 then .ok (numP t r)
  else if isT 3 [40] (t :: r) = true then parenP E r
  else if isT 0 wLook (t :: r) = true then lookP E r
  else if isT 0 wMin (t :: r) = true then opensP E 10 1 r
  else if isT 0 wMax (t :: r) = true then opensP E 11 1 r
  else if t.kind = 0 ∧ wordB t.text = false then (if isT 3 [40] r = true then callP E t.text r.tail else .ok (⟨1, 0, [], t.text, .nil⟩, r))
  else .error (t :: r)
def opAt (l : List Tok) : Option Int :=
 if isT 3 [43] l = true then some 6 else if isT 3 [45] l = true then some 7 else if isT 3 [42] l = true then some 8 else if isT 3 [47] l = true then some 9
 else if isT 3 [60] l = true then some 12 else if isT 3 [61] l = true then some 13 else if isT 0 wAnd l = true then some 14 else if isT 0 wOr l = true then some 15 else none
def restP (A : List Tok → PR) (x : Ex) (l : List Tok) : PR := match opAt l with
 | none => .ok (x, l)
 | some op => match A l.tail with
  | .error r => .error r
  | .ok (y, l2) => .ok (⟨op, 0, [], [], x.then (y.then .nil)⟩, l2)
def ifP (A : List Tok → PR) (l : List Tok) : PR := match A l with
 | .error r => .error r
 | .ok (a, l1) => match needP 0 wThen l1 with
  | .error r => .error r
  | .ok l2 => match A l2 with
   | .error r => .error r
   | .ok (b, l3) => match needP 0 wElse l3 with
    | .error r => .error r
    | .ok l4 => match A l4 with
     | .error r => .error r
     | .ok (c, l5) => .ok (⟨5, 0, [], [], a.then (b.then (c.then .nil))⟩, l5)
def exprW (A : List Tok → PR) (l : List Tok) : PR :=
 if isT 0 wNot l = true then (match A l.tail with
  | .error r => .error r
  | .ok (a, l1) => .ok (⟨4, 0, [], [], a.then .nil⟩, l1))
 else if isT 0 wIf l = true then ifP A l.tail
 else match A l with
  | .error r => .error r
  | .ok (x, l1) => restP A x l1
def exprP : Nat → List Tok → PR
 | 0, l => .error l
 | f + 1, l => exprW (atomP (exprP f)) l
def parseL (l : List Tok) : PR := exprP (l.length + 1) l
/-- What Read returns: the expression, how many tokens were read, the error. -/
def readR (l : List Tok) : Ex × Nat × Nat := match parseL l with
 | .error r => (Ex.zero, l.length - r.length, 12)
 | .ok (x, r) => if rightX x = true then (x, l.length - r.length, 0) else (Ex.zero, l.length - r.length, 6)
def parseR (ts : List Tok) (n : Nat) : Ex × Nat × Nat :=
 if (readR ts).2.2 = 0 ∧ (readR ts).2.1 = ts.length then ((readR ts).1, 0, 0)
 else (Ex.zero, (match ts.drop (readR ts).2.1 with | t :: _ => t.pos | [] => n), if (readR ts).2.2 = 0 then 12 else (readR ts).2.2)
def parseX (s : Bytes) : Ex × Nat × Nat :=
 match (if 4000 < s.length then Except.error (0, 6) else scanAll s) with
 | .error (p, e) => (Ex.zero, p, e)
 | .ok ts => parseR ts s.length
end Go.Proofs.YtckgmilmhofekaaGreatDoor
namespace Go.Proofs.YtckgmilmhofekaaGreatDoor

theorem isT_cons {k : Nat} {s : Bytes} {l : List Tok} (h : isT k s l = true) : ∃ t r, l = t :: r ∧ t.kind = k ∧ t.text = s := by
 cases l with
 | nil => cases h
 | cons t r =>
  have h' : (t.kind == k && t.text == s) = true := h
  simp only [Bool.and_eq_true, beq_iff_eq] at h'
  exact ⟨t, r, rfl, h'.1, h'.2⟩
theorem nameP_cons (t : Tok) (r : List Tok) : nameP (t :: r) = if t.kind = 0 ∧ wordB t.text = false then .ok (t.text, r) else .error (t :: r) := rfl
theorem atomP_cons (E : List Tok → PR) (t : Tok) (r : List Tok) : atomP E (t :: r) =
  if t.kind = 1 then .ok (numP t r)
  else if isT 3 [40] (t :: r) = true then parenP E r
  else if isT 0 wLook (t :: r) = true then lookP E r
  else if isT 0 wMin (t :: r) = true then opensP E 10 1 r
  else if isT 0 wMax (t :: r) = true then opensP E 11 1 r
  else if t.kind = 0 ∧ wordB t.text = false then (if isT 3 [40] r = true then callP E t.text r.tail else .ok (⟨1, 0, [], t.text, .nil⟩, r))
  else .error (t :: r) := rfl
theorem opAt_cons {l : List Tok} {op : Int} (h : opAt l = some op) : ∃ t r, l = t :: r := by
 cases l with
 | nil => cases h
 | cons t r => exact ⟨t, r, rfl⟩
end Go.Proofs.YtckgmilmhofekaaGreatDoor
namespace Go.Proofs.YtckgmilmhofekaaGreatDoor

theorem named_ok {m : Bytes} (h : namedB m = true) : nameOk m = true ∧ wordB m = false := by
 unfold namedB at h; simpa using h
theorem opName_cases {op : Int} (h : (opName op).isSome = true) : op = 6 ∨ op = 7 ∨ op = 8 ∨ op = 9 ∨ op = 12 ∨ op = 13 ∨ op = 14 ∨ op = 15 := by
 unfold opName at h
 repeat' split at h
 all_goals first | omega | cases h
theorem node_cases {op n : Int} {u m : Bytes} {k : Nat} (h : nodeB op n u m k = true) :
    (op = 0 ∧ quoteOk u = true ∧ 0 ≤ n ∧ n ≤ 1099511627776 ∧ m = [] ∧ k = 0) ∨
    (n = 0 ∧ u = [] ∧ ((op = 1 ∧ namedB m = true ∧ k = 0) ∨ (op = 2 ∧ namedB m = true ∧ k = 1) ∨ (op = 3 ∧ namedB m = true ∧ 1 ≤ k ∧ k ≤ 6) ∨ (op = 4 ∧ m = [] ∧ k = 1) ∨ (op = 5 ∧ m = [] ∧ k = 3) ∨ ((op = 10 ∨ op = 11) ∧ m = [] ∧ k = 2) ∨
      ((op = 6 ∨ op = 7 ∨ op = 8 ∨ op = 9 ∨ op = 12 ∨ op = 13 ∨ op = 14 ∨ op = 15) ∧ m = [] ∧ k = 2))) := by
  unfold nodeB at h
  split at h
  · rename_i h0
    simp only [Bool.and_eq_true, decide_eq_true_eq, beq_iff_eq, List.isEmpty_iff] at h
    exact .inl ⟨h0, h.1.1.1.1, h.1.1.1.2, h.1.1.2, h.1.2, h.2⟩
  split at h
  · cases h
  rename_i h0 h1
  have hn : n = 0 ∧ u = [] := by
    constructor
    · exact Classical.byContradiction fun h => h1 (.inl h)
    · exact Classical.byContradiction fun h => h1 (.inr h)
  refine .inr ⟨hn.1, hn.2, ?_⟩
  repeat' split at h
  all_goals simp only [Bool.and_eq_true, decide_eq_true_eq, beq_iff_eq, List.isEmpty_iff] at h
  · rename_i e; exact .inl ⟨e, h.1, h.2⟩
  · rename_i e; exact .inr (.inl ⟨e, h.1, h.2⟩)
  · rename_i e; exact .inr (.inr (.inl ⟨e, h.1.1, h.1.2, h.2⟩))
  · rename_i e; exact .inr (.inr (.inr (.inl ⟨e, h.1, h.2⟩)))
  · rename_i e; exact .inr (.inr (.inr (.inr (.inl ⟨e, h.1, h.2⟩))))
  · rename_i e; exact .inr (.inr (.inr (.inr (.inr (.inl ⟨e, h.1, h.2⟩)))))
  · exact .inr (.inr (.inr (.inr (.inr (.inr ⟨opName_cases h.1.1, h.1.2, h.2⟩)))))
/-- What may stand behind an atom; behind an expression. -/
def atomEnd (z : List Tok) : Prop := isT 3 [40] z = false ∧ ∀ t z', z = t :: z' → t.kind ≠ 2
def exprEnd (z : List Tok) : Prop := atomEnd z ∧ opAt z = none
theorem atomEnd_nil : atomEnd [] := ⟨rfl, fun _ _ h => by cases h⟩
theorem exprEnd_nil : exprEnd [] := ⟨atomEnd_nil, rfl⟩
theorem atomEnd_tk {t : Tok} {z : List Tok} (hk : t.kind ≠ 2) (h : isT 3 [40] [t] = false) : atomEnd (t :: z) := ⟨h, fun u z' e => by cases e; exact hk⟩
theorem exprEnd_comma (z : List Tok) : exprEnd (tkS [44] :: z) := ⟨atomEnd_tk (by decide) (by decide), by rfl⟩
theorem exprEnd_shut (z : List Tok) : exprEnd (tkS [41] :: z) := ⟨atomEnd_tk (by decide) (by decide), by rfl⟩
theorem needP_S (s : Bytes) (z : List Tok) : needP 3 s (tkS s :: z) = .ok z := by
 unfold needP; rw [if_pos (show isT 3 s (tkS s :: z) = true by simp [isT, tkS])]; rfl
theorem needP_N (s : Bytes) (z : List Tok) : needP 0 s (tkN s :: z) = .ok z := by
 unfold needP; rw [if_pos (show isT 0 s (tkN s :: z) = true by simp [isT, tkN])]; rfl
def wT (x : Ex) : List Tok := wrapT x.op (toksX x)
theorem tokF_map (a : Fo) : tokF a = a.list.map toksX := by
 induction a with
 | nil => rfl
 | cons op n u m a r iha ihr => show _ :: tokF r = toksX ⟨op, n, u, m, a⟩ :: r.list.map toksX; rw [ihr]; rfl
theorem opsF_map (a : Fo) : opsF a = a.list.map Ex.op := by
 induction a with
 | nil => rfl
 | cons op n u m a r iha ihr => show op :: opsF r = op :: r.list.map Ex.op; rw [ihr]
theorem atF_map (a : Fo) : List.zipWith wrapT (opsF a) (tokF a) = a.list.map wT := by
 rw [tokF_map, opsF_map]
 induction a.list with
 | nil => rfl
 | cons x r ih => show wrapT x.op (toksX x) :: List.zipWith wrapT (r.map Ex.op) (r.map toksX) = wT x :: r.map wT; rw [ih]; rfl
theorem toksX_is (x : Ex) : toksX x = exT x.op x.n x.unit x.name (x.args.list.map wT) (x.args.list.map toksX) := by
 show exT _ _ _ _ (List.zipWith wrapT (opsF x.args) (tokF x.args)) (tokF x.args) = _
 rw [atF_map, tokF_map]
/-- An expression's tokens are read as it. -/
structure Rt (x : Ex) : Prop where
 ex : ∀ f z, (toksX x).length < f → exprEnd z → exprP f (toksX x ++ z) = .ok (x, z)
 at_ : ∀ f z, (wT x).length ≤ f → atomEnd z → atomP (exprP f) (wT x ++ z) = .ok (x, z)
theorem rt_more {l : List Ex} (h : ∀ x ∈ l, Rt x) (f : Nat) (z : List Tok) (hl : (commaT (l.map toksX)).length < f) : moreP (exprP f) l.length (commaT (l.map toksX) ++ tkS [41] :: z) = .ok (Fo.of l, z) := by
 induction l with
 | nil =>
  show moreP (exprP f) 0 (tkS [41] :: z) = _
  unfold moreP; rw [needP_S]; rfl
 | cons x r ih =>
  have hl' : (commaT (r.map toksX)).length < f ∧ (toksX x).length < f := by
   rw [List.map_cons, commaT] at hl; simp at hl; omega
  rw [List.length_cons, List.map_cons, commaT, moreP]
  rw [show (tkS [44] :: (toksX x ++ commaT (r.map toksX))) ++ tkS [41] :: z = tkS [44] :: (toksX x ++ (commaT (r.map toksX) ++ tkS [41] :: z)) by simp]
  rw [needP_S]; dsimp only
  rw [(h x (List.mem_cons_self ..)).ex f _ hl'.2 (by
   cases r with
   | nil => exact exprEnd_shut _
   | cons y r => exact exprEnd_comma _)]
  dsimp only
  rw [ih (fun y hy => h y (List.mem_cons_of_mem _ hy)) hl'.1]
  rfl
theorem rt_any {l : List Ex} (h : ∀ x ∈ l, Rt x) (f k : Nat) (z : List Tok) (hl : (commaT (l.map toksX)).length < f) (hk : l.length < k) : anyP (exprP f) k (commaT (l.map toksX) ++ tkS [41] :: z) = .ok (Fo.of l, z) := by
 induction l generalizing k with
 | nil =>
  cases k with
  | zero => exact absurd hk (by simp)
  | succ k =>
   show anyP (exprP f) (k + 1) (tkS [41] :: z) = _
   unfold anyP
   rw [if_neg (show ¬ isT 3 [44] (tkS [41] :: z) = true by simp [isT, tkS]), needP_S]; rfl
 | cons x r ih =>
  have hl' : (commaT (r.map toksX)).length < f ∧ (toksX x).length < f := by
   rw [List.map_cons, commaT] at hl; simp at hl; omega
  cases k with
  | zero => exact absurd hk (by simp)
  | succ k =>
   rw [List.map_cons, commaT]
   rw [show (tkS [44] :: (toksX x ++ commaT (r.map toksX))) ++ tkS [41] :: z = tkS [44] :: (toksX x ++ (commaT (r.map toksX) ++ tkS [41] :: z)) by simp]
   unfold anyP
   rw [if_pos (show isT 3 [44] (tkS [44] :: (toksX x ++ (commaT (r.map toksX) ++ tkS [41] :: z))) = true by simp [isT, tkS])]
   rw [List.tail_cons, (h x (List.mem_cons_self ..)).ex f _ hl'.2 (by
    cases r with
    | nil => exact exprEnd_shut _
    | cons y r => exact exprEnd_comma _)]
   dsimp only
   rw [ih (fun y hy => h y (List.mem_cons_of_mem _ hy)) k hl'.1 (by simp at hk; omega)]
   rfl
theorem listT_cons (t : List Tok) (r : List (List Tok)) (z : List Tok) : listT (t :: r) ++ z = t ++ (commaT r ++ tkS [41] :: z) := by
 rw [listT]; simp
theorem comma_end (r : List (List Tok)) (z : List Tok) : exprEnd (commaT r ++ tkS [41] :: z) := by
 cases r with
 | nil => exact exprEnd_shut _
 | cons y r => exact exprEnd_comma _
theorem listT_len (t : List Tok) (r : List (List Tok)) : (listT (t :: r)).length = t.length + (commaT r).length + 1 := by
 rw [listT]; simp; omega
theorem rt_some {x : Ex} {r : List Ex} (h : ∀ y ∈ x :: r, Rt y) (f : Nat) (z : List Tok) (hl : (listT ((x :: r).map toksX)).length ≤ f) : someP (exprP f) r.length (listT ((x :: r).map toksX) ++ z) = .ok (Fo.of (x :: r), z) := by
 rw [List.map_cons] at hl ⊢
 rw [listT_len] at hl
 rw [listT_cons]
 unfold someP
 rw [(h x (List.mem_cons_self ..)).ex f _ (by omega) (comma_end _ _)]
 dsimp only
 rw [rt_more (fun y hy => h y (List.mem_cons_of_mem _ hy)) f z (by omega)]
 rfl
theorem rt_call {x : Ex} {r : List Ex} {m : Bytes} (h : ∀ y ∈ x :: r, Rt y) (f : Nat) (z : List Tok) (hl : (listT ((x :: r).map toksX)).length ≤ f) : callP (exprP f) m (listT ((x :: r).map toksX) ++ z) = .ok (⟨3, 0, [], m, Fo.of (x :: r)⟩, z) := by
 rw [List.map_cons] at hl ⊢
 rw [listT_len] at hl
 rw [listT_cons]
 unfold callP
 rw [(h x (List.mem_cons_self ..)).ex f _ (by omega) (comma_end _ _)]
 dsimp only
 have hc : ∀ r : List Ex, r.length ≤ (commaT (r.map toksX)).length := by
  intro r
  induction r with
  | nil => exact Nat.zero_le _
  | cons y r ih => rw [List.map_cons, commaT, List.length_cons, List.length_cons, List.length_append]; omega
 rw [rt_any (fun y hy => h y (List.mem_cons_of_mem _ hy)) f _ z (by omega) (by have := hc r; rw [List.length_append]; omega)]
 rfl
theorem opAt_tkO {op : Int} (h : op = 6 ∨ op = 7 ∨ op = 8 ∨ op = 9 ∨ op = 12 ∨ op = 13 ∨ op = 14 ∨ op = 15) (z : List Tok) : opAt (tkO op :: z) = some op ∧ atomEnd (tkO op :: z) := by
 rcases h with rfl | rfl | rfl | rfl | rfl | rfl | rfl | rfl
 all_goals exact ⟨by rfl, atomEnd_tk (by decide) (by decide)⟩
theorem word_ne {m : Bytes} (h : wordB m = false) : m ≠ wNot ∧ m ≠ wIf ∧ m ≠ wLook ∧ m ≠ wMin ∧ m ≠ wMax := by
 refine ⟨?_, ?_, ?_, ?_, ?_⟩ <;> (rintro rfl; exact absurd h (by decide))
theorem isN_false {k : Nat} {s m : Bytes} {z : List Tok} (h : m ≠ s) : isT k s (tkN m :: z) = false := by
 show ((0 : Nat) == k && m == s) = false
 rw [show (m == s) = false from beq_eq_false_iff_ne.2 h, Bool.and_false]
theorem isS_N (s m : Bytes) (z : List Tok) : isT 3 s (tkN m :: z) = false := rfl
theorem kindN (m : Bytes) : ¬ (tkN m).kind = 1 := by show ¬ (0 : Nat) = 1; decide
theorem len_two {α : Type} {l : List α} (h : l.length = 2) : ∃ y y', l = [y, y'] := by
 match l, h with
 | [y, y'], _ => exact ⟨y, y', rfl⟩
/-- What is no operator, 'not' or 'if', stands as it is at the place of an atom. -/
theorem rt_atom {x : Ex} (hn : nodeB x.op x.n x.unit x.name x.args.len = true) (h : ∀ y ∈ x.args.list, Rt y) (ho : (opName x.op).isSome = false) (h4 : x.op ≠ 4) (h5 : x.op ≠ 5) (f : Nat) (z : List Tok) (hl : (toksX x).length ≤ f) (hz : atomEnd z) :
    atomP (exprP f) (toksX x ++ z) = .ok (x, z) ∧ isT 0 wNot (toksX x ++ z) = false ∧ isT 0 wIf (toksX x ++ z) = false := by
  obtain ⟨op, n, u, m, a⟩ := x
  dsimp only at hn h ho h4 h5
  rw [toksX_is] at hl ⊢
  dsimp only at hl ⊢
  have ha : a = Fo.of a.list := (Fo.of_list a).symm
  rw [← Fo.len_list] at hn
  generalize a.list = l at *
  subst ha
  rcases node_cases hn with ⟨rfl, -, h0, h1, rfl, hk⟩ | ⟨rfl, rfl, ⟨rfl, hm, hk⟩ | ⟨rfl, hm, hk⟩ | ⟨rfl, hm, hk, -⟩ | ⟨rfl, -⟩ | ⟨rfl, -⟩ | ⟨rfl | rfl, rfl, hk⟩ | ⟨hop, -⟩⟩
  · obtain rfl : l = [] := List.length_eq_zero_iff.1 hk
    refine ⟨?_, rfl, rfl⟩
    have hnn : ((n.toNat : Nat) : Int) = n := Int.toNat_of_nonneg h0
    show atomP (exprP f) (⟨1, Lib.decDigits n.toNat, n.toNat, 0⟩ :: ((if u = [] then [] else [⟨2, u, 0, 0⟩]) ++ z)) = _
    rw [atomP_cons, if_pos rfl]
    split
    · rename_i hu
      subst hu
      cases z with
      | nil => show Except.ok ((⟨0, ((n.toNat : Nat) : Int), [], [], .nil⟩ : Ex), ([] : List Tok)) = _; rw [hnn]; rfl
      | cons t z' =>
        show Except.ok (if t.kind = 2 then _ else _) = _
        rw [if_neg (hz.2 t z' rfl)]
        show Except.ok ((⟨0, ((n.toNat : Nat) : Int), [], [], .nil⟩ : Ex), _) = _; rw [hnn]; rfl
    · show Except.ok ((⟨0, ((n.toNat : Nat) : Int), u, [], .nil⟩ : Ex), z) = _; rw [hnn]; rfl
  · obtain rfl : l = [] := List.length_eq_zero_iff.1 hk
    obtain ⟨w1, w2, w3, w4, w5⟩ := word_ne (named_ok hm).2
    refine ⟨?_, isN_false w1, isN_false w2⟩
    show atomP (exprP f) (tkN m :: z) = _
    rw [atomP_cons, if_neg (kindN _), if_neg (by rw [isS_N]; decide), if_neg (by rw [isN_false w3]; decide), if_neg (by rw [isN_false w4]; decide), if_neg (by rw [isN_false w5]; decide), if_pos ⟨rfl, (named_ok hm).2⟩, if_neg (by rw [hz.1]; decide)]
    rfl
  · obtain ⟨y, rfl⟩ : ∃ y, l = [y] := List.length_eq_one_iff.1 hk
    refine ⟨?_, rfl, rfl⟩
    have hl' : (listT ([y].map toksX)).length ≤ f := by
      have : (tkN wLook :: tkS [40] :: tkN m :: tkS [44] :: listT ([y].map toksX)).length ≤ f := hl
      simp only [List.length_cons] at this; omega
    show atomP (exprP f) (tkN wLook :: tkS [40] :: tkN m :: tkS [44] :: (listT ([y].map toksX) ++ z)) = _
    rw [atomP_cons, if_neg (kindN _), if_neg (by rw [isS_N]; decide), if_pos (by rfl)]
    unfold lookP
    rw [needP_S]; dsimp only
    rw [nameP_cons, if_pos ⟨rfl, (named_ok hm).2⟩]; dsimp only
    rw [needP_S]; dsimp only
    rw [show (0 : Nat) = ([] : List Ex).length from rfl, rt_some h f z hl']
    rfl
  · obtain ⟨y, r, rfl⟩ : ∃ y r, l = y :: r := by
      cases l with
      | nil => simp at hk
      | cons y r => exact ⟨y, r, rfl⟩
    obtain ⟨w1, w2, w3, w4, w5⟩ := word_ne (named_ok hm).2
    refine ⟨?_, isN_false w1, isN_false w2⟩
    have hl' : (listT ((y :: r).map toksX)).length ≤ f := by
      have : (tkN m :: tkS [40] :: listT ((y :: r).map toksX)).length ≤ f := hl
      simp only [List.length_cons] at this; omega
    show atomP (exprP f) (tkN m :: tkS [40] :: (listT ((y :: r).map toksX) ++ z)) = _
    rw [atomP_cons, if_neg (kindN _), if_neg (by rw [isS_N]; decide), if_neg (by rw [isN_false w3]; decide), if_neg (by rw [isN_false w4]; decide), if_neg (by rw [isN_false w5]; decide), if_pos ⟨rfl, (named_ok hm).2⟩, if_pos (by rfl), List.tail_cons]
    exact rt_call h f z hl'
  · exact absurd rfl h4
  · exact absurd rfl h5
  · obtain ⟨y, y', rfl⟩ : ∃ y y', l = [y, y'] := len_two hk
    refine ⟨?_, rfl, rfl⟩
    have hl' : (listT ([y, y'].map toksX)).length ≤ f := by
      have : (tkN wMin :: tkS [40] :: listT ([y, y'].map toksX)).length ≤ f := hl
      simp only [List.length_cons] at this; omega
    show atomP (exprP f) (tkN wMin :: tkS [40] :: (listT ([y, y'].map toksX) ++ z)) = _
    rw [atomP_cons, if_neg (kindN _), if_neg (by rw [isS_N]; decide), if_neg (by rw [isN_false (by decide)]; decide), if_pos (by rfl)]
    unfold opensP
    rw [needP_S]; dsimp only
    rw [show (1 : Nat) = [y'].length from rfl, rt_some h f z hl']
  · obtain ⟨y, y', rfl⟩ : ∃ y y', l = [y, y'] := len_two hk
    refine ⟨?_, rfl, rfl⟩
    have hl' : (listT ([y, y'].map toksX)).length ≤ f := by
      have : (tkN wMax :: tkS [40] :: listT ([y, y'].map toksX)).length ≤ f := hl
      simp only [List.length_cons] at this; omega
    show atomP (exprP f) (tkN wMax :: tkS [40] :: (listT ([y, y'].map toksX) ++ z)) = _
    rw [atomP_cons, if_neg (kindN _), if_neg (by rw [isS_N]; decide), if_neg (by rw [isN_false (by decide)]; decide), if_neg (by rw [isN_false (by decide)]; decide), if_pos (by rfl)]
    unfold opensP
    rw [needP_S]; dsimp only
    rw [show (1 : Nat) = [y'].length from rfl, rt_some h f z hl']
  · rcases hop with rfl | rfl | rfl | rfl | rfl | rfl | rfl | rfl <;> exact absurd ho (by decide)
end Go.Proofs.YtckgmilmhofekaaGreatDoor
