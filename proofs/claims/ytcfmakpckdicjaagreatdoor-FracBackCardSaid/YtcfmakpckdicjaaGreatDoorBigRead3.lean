/- Reading a big integer, in one contract; what it reads; the text of none. -/
import Derived.Test.YtcfmakpckdicjaaGreatDoorBigRead2
namespace Go.Proofs.YtcfmakpckdicjaaGreatDoor
open Go.RowKit Go.Lib Go.Sort
variable {G : Nat}

/-- What a text is read as. -/
def readO (l : List UInt8) : Option Int :=
  if l = [48] then some 0
  else match Lib.trimPrefix l [45] with
    | [] => none
    | c :: r => if c = 48 then none else if (c :: r).all isDg = true then some (if Lib.hasPrefix l [45] = true then -((decVal (c :: r) : Nat) : Int) else ((decVal (c :: r) : Nat) : Int)) else none
def rdZ (l : List UInt8) : Int := (readO l).getD 0
def rdE (l : List UInt8) : Int := if (readO l).isSome = true then 0 else 2

set_option maxRecDepth 100000 in
set_option maxHeartbeats 4000000 in
theorem bigRead_zero {w : World} :
    Calls Tryz.prog 58 #[.string ⟨#[48]⟩] w fun e w' => e = .returned (.tuple #[.agg #[.int .i64 0, .slice none 0 0], .int .i64 0]) ∧ Below w.heap.size w w' := by
  go_enter Tryz.func58, Tryz.ntmps58
  go_upto_region 1 with fail
  obtain ⟨w1, hv⟩ : ∃ w_ : World, w_ = w.alloc (.cells #[.int .i64 0, .slice none 0 0] 24) := ⟨_, rfl⟩
  rw [← hv]
  have K : Hid (Bx w1 w.heap.size 24 #[.int .i64 0, .slice none 0 0]) := by show Bx _ _ _ _; rw [hv]; exact bx1 w _ _
  have HB1 : Hid (Below w.heap.size w w1) := by show Below _ _ _; rw [hv]; exact below_alloc _ _
  clear hv
  go_wp2_with fail
  refine (Tryz.strings_CutPrefix ⟨#[48]⟩ ⟨#[45]⟩ w1).mono ?_
  rintro e w' ⟨rfl, rfl⟩
  obtain ⟨T, hT⟩ : ∃ T, Lib.trimPrefix (⟨#[48]⟩ : ByteArray).data.toList (⟨#[45]⟩ : ByteArray).data.toList = T := ⟨_, rfl⟩
  obtain ⟨b, hb⟩ : ∃ T, Lib.hasPrefix (⟨#[48]⟩ : ByteArray).data.toList (⟨#[45]⟩ : ByteArray).data.toList = T := ⟨_, rfl⟩
  rw [hT, hb]
  clear hT hb
  obtain ⟨p0, q0, p1, q1⟩ := K.out.c2
  go_wp2_with fail
  refine bodyPost_ret (results_box2 rfl _ _ w.heap.size 24 _ _ _ rfl (K.out.set2 _ _) Tryz.underlying24 rfl (by kernel_rfl)) rfl ?_
  exact ⟨rfl, (HB1.out.setCell (Nat.le_refl _) _).setCell (Nat.le_refl _) _⟩
theorem bigRead_v {S : ByteArray} {l : List UInt8} {z er : Int} {w : World} (hl : S = ⟨l.toArray⟩) (hn : l.length ≤ 1000000) (hz : rdZ l = z) (he : rdE l = er) :
    Calls Tryz.prog 58 #[.string S] w fun e w' => ∃ a c, e = .returned (.tuple #[.agg #[.int .i64 (sg z), .slice a (ln z) c], .int .i64 er]) ∧ BD G w' a c z ∧ Below w.heap.size w w' := by
  subst hl
  have none_ : ∀ {w' : World}, readO l = none → z = 0 ∧ er = 2 := fun h => by
    unfold rdZ rdE at *; rw [h] at hz he; exact ⟨hz.symm, by simpa using he.symm⟩
  have hlen : (Lib.trimPrefix l [45]).length ≤ l.length := by unfold Lib.trimPrefix; split <;> simp
  by_cases h48 : l = [48]
  · subst h48
    have e1 : z = 0 := by rw [← hz]; rfl
    have e2 : er = 0 := by rw [← he]; rfl
    subst e1 e2
    exact bigRead_zero.mono fun e w' ⟨he, hb⟩ => ⟨none, 0, he, bd_zero _ _ _, hb⟩
  · cases ht : Lib.trimPrefix l [45] with
    | nil =>
      have h0 : readO l = none := by unfold readO; rw [if_neg h48, ht]
      obtain ⟨rfl, rfl⟩ := none_ (w' := w) h0
      exact (bigRead_bad ht h48 (.inl rfl)).mono fun e w' ⟨he, hb⟩ => ⟨none, 0, he, bd_zero _ _ _, hb⟩
    | cons c r =>
      by_cases hc : c = 48
      · have h0 : readO l = none := by unfold readO; rw [if_neg h48, ht]; simp [hc]
        obtain ⟨rfl, rfl⟩ := none_ (w' := w) h0
        exact (bigRead_bad ht h48 (.inr ⟨r, by rw [hc]⟩)).mono fun e w' ⟨he, hb⟩ => ⟨none, 0, he, bd_zero _ _ _, hb⟩
      · cases hd : (c :: r).all isDg with
        | false =>
          have h0 : readO l = none := by unfold readO; rw [if_neg h48, ht]; simp only [if_neg hc, hd]; rfl
          obtain ⟨rfl, rfl⟩ := none_ (w' := w) h0
          exact (bigRead_no ht h48 rfl hc hd (by rw [← ht]; omega)).mono fun e w' ⟨he, hb⟩ => ⟨none, 0, he, bd_zero _ _ _, hb⟩
        | true =>
          have h0 : readO l = some (if Lib.hasPrefix l [45] = true then -((decVal (c :: r) : Nat) : Int) else ((decVal (c :: r) : Nat) : Int)) := by
            unfold readO; rw [if_neg h48, ht]; simp only [if_neg hc, hd, if_true]
          have hz' : z = (if Lib.hasPrefix l [45] = true then -((decVal (c :: r) : Nat) : Int) else ((decVal (c :: r) : Nat) : Int)) := by rw [← hz, rdZ, h0]; rfl
          have e2 : er = 0 := by rw [← he, rdE, h0]; rfl
          subst e2
          exact bigRead_yes ht h48 rfl hc hd (by rw [← ht]; omega) rfl hz'
theorem pre_cons {c : UInt8} {r : List UInt8} (h : c ≠ 45) : Lib.hasPrefix (c :: r) [45] = false ∧ Lib.trimPrefix (c :: r) [45] = c :: r := by
  have : Lib.hasPrefix (c :: r) [45] = false := by unfold Lib.hasPrefix; simp [List.isPrefixOf]; exact fun h' => h h'.symm
  exact ⟨this, by unfold Lib.trimPrefix; rw [this]; rfl⟩
theorem pre_minus (r : List UInt8) : Lib.hasPrefix (45 :: r) [45] = true ∧ Lib.trimPrefix (45 :: r) [45] = r := by
  have : Lib.hasPrefix (45 :: r) [45] = true := by unfold Lib.hasPrefix; simp [List.isPrefixOf]
  exact ⟨this, by unfold Lib.trimPrefix; rw [this]; rfl⟩
/-- Digits with a sign ahead. -/
theorem readO_digits {n : Nat} {l : List UInt8} (hd : l.all isDg = true) (hn : l ≠ []) (h0 : l.head? ≠ some 48) (hv : decVal l = n) : readO l = some (n : Int) ∧ readO (45 :: l) = some (-(n : Int)) := by
  cases l with
  | nil => exact absurd rfl hn
  | cons c r =>
    have hc : c ≠ 48 := by simpa using h0
    have hdc : isDg c = true := by rw [List.all_cons, Bool.and_eq_true] at hd; exact hd.1
    have hc2 : c ≠ 45 := by intro h; subst h; simp [isDg] at hdc
    have h48 : c :: r ≠ [48] := by intro h; exact hc (List.cons.inj h).1
    constructor
    · unfold readO; rw [if_neg h48, (pre_cons hc2).2, (pre_cons hc2).1]; simp only [if_neg hc, hd, if_true, hv]; rfl
    · unfold readO; rw [if_neg (by simp), (pre_minus _).2, (pre_minus _).1]; simp only [if_neg hc, hd, if_true, hv]
theorem all_dec (n : Nat) : (decDigits n).all isDg = true := List.all_eq_true.2 (dec_digits n)
theorem readO_text (x : Int) : readO (textZ x) = some x := by
  by_cases hx : x = 0
  · subst hx
    have : textZ 0 = [48] := by show decDigits 0 = _; rw [decDigits_one (by omega)]; rfl
    rw [this]; rfl
  · have := readO_digits (all_dec x.natAbs) (dec_ne _) (dec_head (by omega)) (decVal_dec x.natAbs)
    unfold textZ
    split
    · rw [this.2]; congr 1; omega
    · rw [this.1]; congr 1; omega
theorem readO_seven {x : Int} (hx : x ≠ 0) : readO (textZ x ++ [55]) = some (x * 10 + 7 * sg x) := by
  have h1 := dec_head (n := x.natAbs) (by omega)
  have hne := dec_ne x.natAbs
  have h2 : (decDigits x.natAbs ++ [55]).head? ≠ some 48 := by
    cases hq : decDigits x.natAbs with
    | nil => exact absurd hq hne
    | cons a b => rw [hq] at h1; simpa using h1
  have := readO_digits (n := x.natAbs * 10 + 7) (l := decDigits x.natAbs ++ [55]) (by rw [List.all_append, all_dec]; rfl) (by simp) h2 (by rw [decVal_snoc, decVal_dec]; rfl)
  unfold textZ
  split
  · rename_i h
    rw [List.cons_append, this.2, sg_neg h]; congr 1; omega
  · rw [this.1, sg_pos (by omega)]; congr 1; omega
theorem text_read {l : List UInt8} (h : rdE l = 0) : textZ (rdZ l) = l := by
  unfold rdE at h
  cases ho : readO l with
  | none => rw [ho] at h; simp at h
  | some z =>
    have hz : rdZ l = z := by unfold rdZ; rw [ho]; rfl
    rw [hz]
    unfold readO at ho
    by_cases h48 : l = [48]
    · rw [if_pos h48] at ho; cases ho; rw [h48]; show decDigits 0 = _; rw [decDigits_one (by omega)]; rfl
    · rw [if_neg h48] at ho
      cases ht : Lib.trimPrefix l [45] with
      | nil => rw [ht] at ho; cases ho
      | cons c r =>
        rw [ht] at ho
        by_cases hc : c = 48
        · simp only [if_pos hc] at ho; cases ho
        · simp only [if_neg hc] at ho
          cases hd : (c :: r).all isDg with
          | false => rw [hd] at ho; simp at ho
          | true =>
            rw [hd] at ho
            simp only [if_true, Option.some.injEq] at ho
            have hdd := dec_decVal (l := c :: r) (fun x hx => List.all_eq_true.1 hd x hx) (by simp) (by simpa using hc)
            have hp := decVal_pos (l := c :: r) (fun x hx => List.all_eq_true.1 hd x hx) (by simp) (by simpa using hc)
            cases hg : Lib.hasPrefix l [45] with
            | true =>
              rw [hg] at ho
              simp only [if_true] at ho
              have hl : l = 45 :: (c :: r) := by
                unfold Lib.trimPrefix at ht; rw [hg] at ht
                simp only [if_true] at ht
                cases l with
                | nil => simp at ht
                | cons a b =>
                  have : a = 45 := by unfold Lib.hasPrefix at hg; simp [List.isPrefixOf] at hg; exact hg.symm
                  rw [this]; congr 1
              rw [← ho]; unfold textZ; rw [if_pos (by omega), show (-((decVal (c :: r) : Nat) : Int)).natAbs = decVal (c :: r) by omega, hdd, hl]
            | false =>
              rw [hg] at ho
              have hl : l = c :: r := by unfold Lib.trimPrefix at ht; rw [hg] at ht; simpa using ht
              rw [← show ((decVal (c :: r) : Nat) : Int) = z by simpa using ho]; unfold textZ; rw [if_neg (by omega), Int.natAbs_natCast, hdd, hl]
theorem read_cases (l : List UInt8) : rdE l = 0 ∨ (rdE l = 2 ∧ rdZ l = 0) := by
  unfold rdE rdZ
  cases readO l with
  | none => right; exact ⟨rfl, rfl⟩
  | some z => left; rfl
end Go.Proofs.YtcfmakpckdicjaaGreatDoor
