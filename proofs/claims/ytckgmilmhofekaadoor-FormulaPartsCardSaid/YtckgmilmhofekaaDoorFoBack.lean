/- Formulas, plain: the tokens of a right expression are read as it. -/
import Derived.Test.YtckgmilmhofekaaDoorLexLaws
import Derived.WalkKit
import Derived.Lib.ItoaNum
namespace Go.Proofs.YtckgmilmhofekaaDoor

/-- A list of expressions: the first one's own parts, its arguments, and the other expressions. -/
inductive Fo where
 | nil
 | cons (op n : Int) (unit name : Bytes) (args rest : Fo)
structure Ex where
 op : Int
 n : Int
 unit : Bytes
 name : Bytes
 args : Fo
def Ex.zero : Ex := ⟨0, 0, [], [], .nil⟩
def Ex.then (x : Ex) (r : Fo) : Fo := .cons x.op x.n x.unit x.name x.args r
def Fo.len : Fo → Nat
 | .nil => 0
 | .cons _ _ _ _ _ r => r.len + 1
def Fo.list : Fo → List Ex
 | .nil => []
 | .cons op n u m a r => ⟨op, n, u, m, a⟩ :: r.list
def Fo.of : List Ex → Fo
 | [] => .nil
 | x :: r => x.then (Fo.of r)
theorem Fo.list_of (l : List Ex) : (Fo.of l).list = l := by
 induction l with
 | nil => rfl
 | cons x r ih => show x :: (Fo.of r).list = _; rw [ih]
theorem Fo.of_list (f : Fo) : Fo.of f.list = f := by
 induction f with
 | nil => rfl
 | cons op n u m a r iha ihr => show Fo.cons op n u m a (Fo.of r.list) = _; rw [ihr]
theorem Fo.len_list (f : Fo) : f.list.length = f.len := by
 induction f with
 | nil => rfl
 | cons op n u m a r iha ihr => show r.list.length + 1 = r.len + 1; rw [ihr]
def wNot : Bytes := [110, 111, 116]
def wIf : Bytes := [105, 102]
def wThen : Bytes := [116, 104, 101, 110]
def wElse : Bytes := [101, 108, 115, 101]
def wAnd : Bytes := [97, 110, 100]
def wOr : Bytes := [111, 114]
def wLook : Bytes := [108, 111, 111, 107]
def wMin : Bytes := [109, 105, 110]
def wMax : Bytes := [109, 97, 120]
def wInto : Bytes := [105, 110, 116, 111]
def wTo : Bytes := [116, 111]
def wAs : Bytes := [97, 115]
def wordsL : List Bytes := [wNot, wIf, wThen, wElse, wAnd, wOr, wLook, wMin, wMax, wInto, wTo, wAs]
def wordB (s : Bytes) : Bool := wordsL.contains s
def opName (op : Int) : Option Bytes :=
 if op = 6 then some [43] else if op = 7 then some [45] else if op = 8 then some [42] else if op = 9 then some [47]
 else if op = 12 then some [60] else if op = 13 then some [61] else if op = 14 then some wAnd else if op = 15 then some wOr else none
def namedB (s : Bytes) : Bool := nameOk s && !wordB s
/-- How many nodes there are, as long as there are not too many of them, and of levels. -/
def cntF : Fo → Nat → Nat → Option Nat
 | .nil, k, _ => some k
 | .cons _ _ _ _ a r, k, lv =>
  if 200 < k + 1 ∨ 20 < lv then none
  else match cntF a (k + 1) (lv + 1) with
   | none => none
   | some k' => cntF r k' lv
def nodesF : Fo → Nat
 | .nil => 0
 | .cons _ _ _ _ a r => 1 + nodesF a + nodesF r
def depF : Fo → Nat
 | .nil => 0
 | .cons _ _ _ _ a r => max (1 + depF a) (depF r)
def nodeB (op n : Int) (u m : Bytes) (k : Nat) : Bool :=
 if op = 0 then quoteOk u && decide (0 ≤ n) && decide (n ≤ 1099511627776) && m.isEmpty && (k == 0)
 else if n ≠ 0 ∨ u ≠ [] then false
 else if op = 1 then namedB m && (k == 0)
 else if op = 2 then namedB m && (k == 1)
 else if op = 3 then namedB m && decide (1 ≤ k) && decide (k ≤ 6)
 else if op = 4 then m.isEmpty && (k == 1)
 else if op = 5 then m.isEmpty && (k == 3)
 else if op = 10 ∨ op = 11 then m.isEmpty && (k == 2)
 else (opName op).isSome && m.isEmpty && (k == 2)
def shF : Fo → Bool
 | .nil => true
 | .cons op n u m a r => nodeB op n u m a.len && shF a && shF r
def rightX (x : Ex) : Bool := (cntF (x.then .nil) 0 1).isSome && shF (x.then .nil)
/-! ### The tokens of an expression -/

def tkN (s : Bytes) : Tok := ⟨0, s, 0, 0⟩
def tkS (s : Bytes) : Tok := ⟨3, s, 0, 0⟩
def tkO (op : Int) : Tok := if op = 14 ∨ op = 15 then tkN ((opName op).getD []) else tkS ((opName op).getD [])
def wrapT (op : Int) (ts : List Tok) : List Tok := if (opName op).isSome ∨ op = 4 ∨ op = 5 then tkS [40] :: (ts ++ [tkS [41]]) else ts
def commaT : List (List Tok) → List Tok
 | [] => []
 | t :: r => tkS [44] :: (t ++ commaT r)
/-- Lists of tokens with commas between them, and a closing parenthesis. -/
def listT : List (List Tok) → List Tok
 | [] => [tkS [41]]
 | t :: r => t ++ (commaT r ++ [tkS [41]])
/-- An expression's tokens; 'as': its arguments' at the place of an atom; 'ts': its arguments'. -/
def exT (op n : Int) (u m : Bytes) (as ts : List (List Tok)) : List Tok :=
 if op = 0 then ⟨1, Lib.decDigits n.toNat, n.toNat, 0⟩ :: (if u = [] then [] else [⟨2, u, 0, 0⟩])
 else if op = 1 then [tkN m]
 else if op = 2 then tkN wLook :: tkS [40] :: tkN m :: tkS [44] :: listT ts
 else if op = 3 then tkN m :: tkS [40] :: listT ts
 else if op = 10 then tkN wMin :: tkS [40] :: listT ts
 else if op = 11 then tkN wMax :: tkS [40] :: listT ts
 else if op = 4 then tkN wNot :: as.getD 0 []
 else if op = 5 then tkN wIf :: (as.getD 0 [] ++ tkN wThen :: (as.getD 1 [] ++ tkN wElse :: as.getD 2 []))
 else as.getD 0 [] ++ tkO op :: as.getD 1 []
def opsF : Fo → List Int
 | .nil => []
 | .cons op _ _ _ _ r => op :: opsF r
def tokF : Fo → List (List Tok)
 | .nil => []
 | .cons op n u m a r => exT op n u m (List.zipWith wrapT (opsF a) (tokF a)) (tokF a) :: tokF r
def toksX (x : Ex) : List Tok := exT x.op x.n x.unit x.name (List.zipWith wrapT (opsF x.args) (tokF x.args)) (tokF x.args)
def printX (x : Ex) : Option Bytes := if rightX x = true ∧ (printL (toksX x)).length ≤ 4000 then some (printL (toksX x)) else none
/-! ### How tokens are read -/

abbrev PR := Except (List Tok) (Ex × List Tok)
abbrev PL := Except (List Tok) (Fo × List Tok)
def isT (k : Nat) (s : Bytes) : List Tok → Bool
 | [] => false
 | t :: _ => t.kind == k && t.text == s
def needP (k : Nat) (s : Bytes) (l : List Tok) : Except (List Tok) (List Tok) := if isT k s l = true then .ok l.tail else .error l
def nameP : List Tok → Except (List Tok) (Bytes × List Tok)
 | [] => .error []
 | t :: r => if t.kind = 0 ∧ wordB t.text = false then .ok (t.text, r) else .error (t :: r)
/-- After an expression: so many more of them, with commas ahead, and a closing parenthesis. -/
def moreP (E : List Tok → PR) : Nat → List Tok → PL
 | 0, l => match needP 3 [41] l with | .ok r => .ok (.nil, r) | .error r => .error r
 | k + 1, l => match needP 3 [44] l with
  | .error r => .error r
  | .ok l1 => match E l1 with
   | .error r => .error r
   | .ok (x, l2) => match moreP E k l2 with
    | .error r => .error r
    | .ok (f, l3) => .ok (x.then f, l3)
def someP (E : List Tok → PR) (k : Nat) (l : List Tok) : PL := match E l with
 | .error r => .error r
 | .ok (x, l1) => match moreP E k l1 with
  | .error r => .error r
  | .ok (f, l2) => .ok (x.then f, l2)
/-- After an expression: any number more of them, with commas ahead, and a closing parenthesis. -/
def anyP (E : List Tok → PR) : Nat → List Tok → PL
 | 0, l => .error l
 | k + 1, l => if isT 3 [44] l = true then match E l.tail with
   | .error r => .error r
   | .ok (x, l2) => match anyP E k l2 with
    | .error r => .error r
    | .ok (f, l3) => .ok (x.then f, l3)
  else match needP 3 [41] l with | .ok r => .ok (.nil, r) | .error r => .error r
def opensP (E : List Tok → PR) (op : Int) (k : Nat) (l : List Tok) : PR := match needP 3 [40] l with
 | .error r => .error r
 | .ok l1 => match someP E k l1 with
  | .error r => .error r
  | .ok (f, l2) => .ok (⟨op, 0, [], [], f⟩, l2)
def lookP (E : List Tok → PR) (l : List Tok) : PR := match needP 3 [40] l with
 | .error r => .error r
 | .ok l1 => match nameP l1 with
  | .error r => .error r
  | .ok (m, l2) => match needP 3 [44] l2 with
   | .error r => .error r
   | .ok l3 => match someP E 0 l3 with
    | .error r => .error r
    | .ok (f, l4) => .ok (⟨2, 0, [], m, f⟩, l4)
def callP (E : List Tok → PR) (m : Bytes) (l : List Tok) : PR := match E l with
 | .error r => .error r
 | .ok (x, l1) => match anyP E (l1.length + 1) l1 with
  | .error r => .error r
  | .ok (f, l2) => .ok (⟨3, 0, [], m, x.then f⟩, l2)
def numP (t : Tok) : List Tok → Ex × List Tok
 | [] => (⟨0, t.n, [], [], .nil⟩, [])
 | u :: r => if u.kind = 2 then (⟨0, t.n, u.text, [], .nil⟩, r) else (⟨0, t.n, [], [], .nil⟩, u :: r)
def parenP (E : List Tok → PR) (l : List Tok) : PR := match E l with
 | .error r => .error r
 | .ok (x, l1) => match needP 3 [41] l1 with
  | .error r => .error r
  | .ok l2 => .ok (x, l2)
def atomP (E : List Tok → PR) : List Tok → PR
 | [] => .error []
 | t :: r =>
  if t.kind = 1 then .ok (numP t r)
  else if isT 3 [40] (t :: r) = true then parenP E r
  else if isT 0 wLook (t :: r) = true then lookP E r
  else if isT 0 wMin (t :: r) = true then opensP E 10 1 r
  else if isT 0 wMax (t :: r) = true then opensP E 11 1 r
  else if t.kind = 0 ∧ wordB t.text = false then (if isT 3 [40] r = true then callP E t.text r.tail else .ok (⟨1, 0, [], t.text, .nil⟩, r))
  else .error (t :: r)
def opAt (l : List Tok) : Option Int :=
 if isT 3 [43] l = true then some 6 else if isT 3 [45] l = true then some 7 else if isT 3 [42] l = true then some 8 else if isT 3 [47] l = true then some 9
 else if isT 3 [60] l = true then some 12 else if isT 3 [61] l = true then some 13 else if isT 0 wAnd l = true then some 14 else if isT 0 wOr l = true then some 15 else none
def restP (A : List Tok → PR) (x : Ex) (l : List Tok) : PR := match opAt l with
 | none => .ok (x, l)
 | some op => match A l.tail with
  | .error r => .error r
  | .ok (y, l2) => .ok (⟨op, 0, [], [], x.then (y.then .nil)⟩, l2)
def ifP (A : List Tok → PR) (l : List Tok) : PR := match A l with
 | .error r => .error r
 | .ok (a, l1) => match needP 0 wThen l1 with
  | .error r => .error r
  | .ok l2 => match A l2 with
   | .error r => .error r
   | .ok (b, l3) => match needP 0 wElse l3 with
    | .error r => .error r
    | .ok l4 => match A l4 with
     | .error r => .error r
     | .ok (c, l5) => .ok (⟨5, 0, [], [], a.then (b.then (c.then .nil))⟩, l5)
def exprW (A : List Tok → PR) (l : List Tok) : PR :=
 if isT 0 wNot l = true then (match A l.tail with
  | .error r => .error r
  | .ok (a, l1) => .ok (⟨4, 0, [], [], a.then .nil⟩, l1))
 else if isT 0 wIf l = true then ifP A l.tail
 else match A l with
  | .error r => .error r
  | .ok (x, l1) => restP A x l1
def exprP : Nat → List Tok → PR
 | 0, l => .error l
 | f + 1, l => exprW (atomP (exprP f)) l
def parseL (l : List Tok) : PR := exprP (l.length + 1) l
/-- What Read returns: the expression, how many tokens were read, the error. -/
def readR (l : List Tok) : Ex × Nat × Nat := match parseL l with
 | .error r => (Ex.zero, l.length - r.length, 12)
 | .ok (x, r) => if rightX x = true then (x, l.length - r.length, 0) else (Ex.zero, l.length - r.length, 6)
def parseR (ts : List Tok) (n : Nat) : Ex × Nat × Nat :=
 if (readR ts).2.2 = 0 ∧ (readR ts).2.1 = ts.length then ((readR ts).1, 0, 0)
 else (Ex.zero, (match ts.drop (readR ts).2.1 with | t :: _ => t.pos | [] => n), if (readR ts).2.2 = 0 then 12 else (readR ts).2.2)
def parseX (s : Bytes) : Ex × Nat × Nat :=
 match (if 4000 < s.length then Except.error (0, 6) else scanAll s) with
 | .error (p, e) => (Ex.zero, p, e)
 | .ok ts => parseR ts s.length
end Go.Proofs.YtckgmilmhofekaaDoor
namespace Go.Proofs.YtckgmilmhofekaaDoor

theorem isT_cons {k : Nat} {s : Bytes} {l : List Tok} (h : isT k s l = true) : ∃ t r, l = t :: r ∧ t.kind = k ∧ t.text = s := by
 cases l with
 | nil => cases h
 | cons t r =>
  have h' : (t.kind == k && t.text == s) = true := h
  simp only [Bool.and_eq_true, beq_iff_eq] at h'
  exact ⟨t, r, rfl, h'.1, h'.2⟩
theorem nameP_cons (t : Tok) (r : List Tok) : nameP (t :: r) = if t.kind = 0 ∧ wordB t.text = false then .ok (t.text, r) else .error (t :: r) := rfl
theorem atomP_cons (E : List Tok → PR) (t : Tok) (r : List Tok) : atomP E (t :: r) =
  if t.kind = 1 then .ok (numP t r)
  else if isT 3 [40] (t :: r) = true then parenP E r
  else if isT 0 wLook (t :: r) = true then lookP E r
  else if isT 0 wMin (t :: r) = true then opensP E 10 1 r
  else if isT 0 wMax (t :: r) = true then opensP E 11 1 r
  else if t.kind = 0 ∧ wordB t.text = false then (if isT 3 [40] r = true then callP E t.text r.tail else .ok (⟨1, 0, [], t.text, .nil⟩, r))
  else .error (t :: r) := rfl
theorem opAt_cons {l : List Tok} {op : Int} (h : opAt l = some op) : ∃ t r, l = t :: r := by
 cases l with
 | nil => cases h
 | cons t r => exact ⟨t, r, rfl⟩
end Go.Proofs.YtckgmilmhofekaaDoor
namespace Go.Proofs.YtckgmilmhofekaaDoor

theorem opName_cases {op : Int} (h : (opName op).isSome = true) : op = 6 ∨ op = 7 ∨ op = 8 ∨ op = 9 ∨ op = 12 ∨ op = 13 ∨ op = 14 ∨ op = 15 := by
 unfold opName at h
 repeat' split at h
 all_goals first | omega | cases h
theorem node_cases {op n : Int} {u m : Bytes} {k : Nat} (h : nodeB op n u m k = true) :
    (op = 0 ∧ quoteOk u = true ∧ 0 ≤ n ∧ n ≤ 1099511627776 ∧ m = [] ∧ k = 0) ∨
    (n = 0 ∧ u = [] ∧ ((op = 1 ∧ namedB m = true ∧ k = 0) ∨ (op = 2 ∧ namedB m = true ∧ k = 1) ∨ (op = 3 ∧ namedB m = true ∧ 1 ≤ k ∧ k ≤ 6) ∨ (op = 4 ∧ m = [] ∧ k = 1) ∨ (op = 5 ∧ m = [] ∧ k = 3) ∨ ((op = 10 ∨ op = 11) ∧ m = [] ∧ k = 2) ∨
      ((op = 6 ∨ op = 7 ∨ op = 8 ∨ op = 9 ∨ op = 12 ∨ op = 13 ∨ op = 14 ∨ op = 15) ∧ m = [] ∧ k = 2))) := by
  unfold nodeB at h
  split at h
  · rename_i h0
    simp only [Bool.and_eq_true, decide_eq_true_eq, beq_iff_eq, List.isEmpty_iff] at h
    exact .inl ⟨h0, h.1.1.1.1, h.1.1.1.2, h.1.1.2, h.1.2, h.2⟩
  split at h
  · cases h
  rename_i h0 h1
  have hn : n = 0 ∧ u = [] := by
    constructor
    · exact Classical.byContradiction fun h => h1 (.inl h)
    · exact Classical.byContradiction fun h => h1 (.inr h)
  refine .inr ⟨hn.1, hn.2, ?_⟩
  repeat' split at h
  all_goals simp only [Bool.and_eq_true, decide_eq_true_eq, beq_iff_eq, List.isEmpty_iff] at h
  · rename_i e; exact .inl ⟨e, h.1, h.2⟩
  · rename_i e; exact .inr (.inl ⟨e, h.1, h.2⟩)
  · rename_i e; exact .inr (.inr (.inl ⟨e, h.1.1, h.1.2, h.2⟩))
  · rename_i e; exact .inr (.inr (.inr (.inl ⟨e, h.1, h.2⟩)))
  · rename_i e; exact .inr (.inr (.inr (.inr (.inl ⟨e, h.1, h.2⟩))))
  · rename_i e; exact .inr (.inr (.inr (.inr (.inr (.inl ⟨e, h.1, h.2⟩)))))
  · exact .inr (.inr (.inr (.inr (.inr (.inr ⟨opName_cases h.1.1, h.1.2, h.2⟩)))))
end Go.Proofs.YtckgmilmhofekaaDoor
