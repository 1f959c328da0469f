/- Walk: tokens as text. -/
import Derived.Test.YtekaplogeogbjaaDoorLexScan
namespace Go.Proofs.YtekaplogeogbjaaDoor
open Go.RowKit

/-- A slice reads as tokens. -/
def ToksIn (w : World) (v : Value) (ts : List Tok) : Prop := RdS w v ts.length 4 (fun k => (ts[k]?.map tokCells).getD [])
theorem toksIn_own {w : World} {B : Nat} {v : Value} {ts : List Tok} (h : w.ownsRow B 32 4 v ts.length (toksCells ts)) : ToksIn w v ts := rds_of_own tokCells ts (fun _ _ => rfl) h
theorem ToksIn.keep {w w' : World} {v : Value} {ts : List Tok} (h : ToksIn w v ts) (hb : Below w.heap.size w w') : ToksIn w' v ts := RdS.keep h hb
theorem ToksIn.at {w : World} {a : Option Addr} {n cap : Nat} {ts : List Tok} (h : ToksIn w (.slice a n cap) ts) {k : Nat} (hk : k < ts.length) :
    ∃ b off, a = some ⟨b, off, none⟩ ∧ b < w.heap.size ∧ ∀ j u, (tokCells ts[k])[j]? = some u → w.cell? ⟨b, off + k * 4 + j, none⟩ = some u := by
  obtain ⟨a', cap', hv, hc⟩ := h
  cases hv
  obtain ⟨b, off, ha, hlt, hcell⟩ := hc k hk
  refine ⟨b, off, ha, hlt, fun j u hj => hcell j u ?_⟩
  show ((ts[k]?.map tokCells).getD [])[j]? = some u
  rw [List.getElem?_eq_getElem hk]; exact hj
theorem ToksIn.shape {w : World} {v : Value} {ts : List Tok} (h : ToksIn w v ts) : ∃ a cap, v = .slice a ts.length cap := by
  obtain ⟨a, cap, hv, _⟩ := h; exact ⟨a, cap, hv⟩

theorem elemStr : ElemT Tryd.prog 43 9 (.string ⟨#[]⟩) 1 16 := ⟨Tryd.underlying43, by kernel_rfl, rfl, by decide⟩
theorem one_str (s : ByteArray) : ∀ u ∈ [Value.string s], u.oneCell' = true := by intro u hu; simp at hu; subst hu; rfl
def strVals (l : List Bytes) : List Value := l.map fun b => Value.string ⟨b.toArray⟩

theorem join_print : ∀ ts : List Tok, Lib.join (ts.map tokText) [32] = printL ts
  | [] => rfl
  | [t] => by simp [Lib.join_one, printL]
  | t :: u :: r => by
    have ih := join_print (u :: r)
    rw [List.map_cons, Lib.join_cons] at ih
    rw [List.map_cons, List.map_cons, Lib.join_cons]
    simp only [printL, Lib.joinTail, List.map_cons, List.flatten_cons] at *
    rw [← ih]; simp

theorem own_strs {w1 : World} {B n : Nat} {v' : Value} {l : List Bytes} {b : Bytes} (ho : w1.ownsRow B 9 1 v' (n + 1) (strVals l ++ [.string ⟨b.toArray⟩])) (hn : n = l.length) :
    w1.ownsRow B 9 1 v' (l ++ [b]).length (strVals (l ++ [b])) := by
  subst hn; simpa [strVals] using ho

theorem tokText_len {ts : List Tok} {k : Nat} (hk : k < ts.length) : ((ts.take (k + 1)).map tokText) = ((ts.take k).map tokText) ++ [tokText ts[k]] := by
  rw [List.take_succ_eq_append_getElem hk, List.map_append]; rfl

theorem own_ne {w : World} {B : Nat} {e : TypeId} {size n : Nat} {v : Value} {xs : List Value} (h : w.ownsRow B e size v n xs) {j : Nat} : v.ownBlock ≠ some (⟨w.heap.size, j, none⟩ : Addr).block := by
  intro hh; have := (h.lt _ hh).2; simp at this

/-- strings.Join of what the call owns, with a blank. -/
theorem join_any (B : Nat) (v : Value) (l : List Bytes) (w : World) (h : w.ownsRow B 9 1 v l.length (strVals l)) (hn : l.length ≤ 1099511627776) (hl : (Lib.join l [32]).length ≤ 137438953472) :
    Calls Tryd.prog 28 #[v, .string ⟨#[32]⟩] w fun e w' => e = .returned (.string ⟨(Lib.join l [32]).toArray⟩) ∧ Below w.heap.size w w' := by
  rcases h.2 with ⟨rfl, h0⟩ | ⟨g, cap, cur, rfl, hg, hh, hcap, _⟩
  · have : l = [] := List.length_eq_zero_iff.1 h0
    subst this
    refine (Tryd.strings_Join_none none 0 ⟨#[32]⟩ w).mono ?_
    rintro e w' ⟨rfl, rfl⟩
    exact ⟨rfl, Below.refl _ _⟩
  · have hm : (l.map fun b => (⟨b.toArray⟩ : ByteArray)).map (·.data.toList) = l := by simp [Function.comp_def]
    have := Tryd.strings_Join g 0 cap (l.map fun b => ⟨b.toArray⟩) ⟨#[32]⟩ w ?_ (lt_of_block hh) (by simp; omega) (by simpa using hcap) (by rw [hm]; simp only []; omega)
    · rw [hm] at this
      simpa using this
    · intro j x hj
      have hjl : j < l.length := by
        rcases Nat.lt_or_ge j l.length with h' | h'
        · exact h'
        · rw [List.getElem?_eq_none (by simpa using h')] at hj; cases hj
      rw [Nat.zero_add, h.cellAt (j := j) (by omega)]
      simp [strVals, List.getElem?_eq_getElem hjl] at hj ⊢
      exact hj

set_option maxHeartbeats 4000000 in
theorem print_any (v : Value) (ts : List Tok) (w : World) (hin : ToksIn w v ts) (hn : ts.length ≤ 1099511627776) (ht : ∀ t ∈ ts, t.text.length ≤ 137438953472) (hl : (printL ts).length ≤ 137438953472) :
    Calls Tryd.prog 12 #[v] w fun e w' => e = .returned (.string ⟨(printL ts).toArray⟩) ∧ Below w.heap.size w w' := by
  obtain ⟨a, cap, rfl⟩ := hin.shape
  have HI := Lib.hid hin; clear hin
  have HT := Lib.hid ht; clear ht
  go_enter Tryd.func12, Tryd.ntmps12
  go_wp2_with fail
  go_loopw [3, 8] (fun p i wr => ∃ k : Nat, k ≤ ts.length ∧ i = .int .i64 k ∧ Hid (wr.ownsRow w.heap.size 9 1 p ((ts.take k).map tokText).length (strVals ((ts.take k).map tokText))) ∧ Hid (Below w.heap.size w wr)) (fun _ i _ => ts.length - (intOf i).toNat)
  case atStart => exact ⟨0, Nat.zero_le _, rfl, World.ownsRow_nil _ _ _ _, Below.refl _ _⟩
  case round =>
    obtain ⟨k, hk, rfl, HO, HB⟩ := hrel
    have hBs := HB.out.size
    by_cases hlt : k < ts.length
    · obtain ⟨b, off, rfl, hb, hcell⟩ := (HI.out.keep HB.out).at hlt
      obtain ⟨t, htk⟩ : ∃ t, t = ts[k] := ⟨_, rfl⟩
      rw [← htk] at hcell
      have c0 : wr.cell? ⟨b, off + k * 4, none⟩ = some (.int .i64 t.kind) := hcell 0 _ rfl
      have c1 : wr.cell? ⟨b, off + k * 4 + 1, none⟩ = some (.string ⟨t.text.toArray⟩) := hcell 1 _ rfl
      have c2 : wr.cell? ⟨b, off + k * 4 + 2, none⟩ = some (.int .i64 t.n) := hcell 2 _ rfl
      have c3 : wr.cell? ⟨b, off + k * 4 + 3, none⟩ = some (.int .i64 t.pos) := hcell 3 _ rfl
      have HLT : Hid ((⟨t.text.toArray⟩ : ByteArray).size ≤ 137438953472) := by
        have := HT.out t (by rw [htk]; exact List.getElem_mem _)
        show _ ≤ _; rw [← bytes_len]; exact this
      have HTK := Lib.hid htk; clear htk hcell
      by_cases h2 : t.kind = 2
      · have e1 : ((t.kind : Int) == 2) = true := by rw [beq_iff_eq]; omega
        have HTX : Hid (tokText t = escL t.text) := by show _ = _; rw [tokText, if_pos h2]
        have H2 := Lib.hid h2; clear h2
        go_wp2_with fail
        refine (escaped_any ⟨t.text.toArray⟩ _ (HLT.out)).mono ?_
        rintro e w1 ⟨rfl, hb1⟩
        have hk1 := hb1.block wr.heap.size (by simp)
        rw [heap_new] at hk1
        obtain ⟨q1, q2⟩ := box_new hb1
        have hsz := size_new hb1
        have HB1 := Lib.hid (HB.out.trans ((below_new hb1).mono hBs))
        have HO1 := Lib.hid (own_below HO.out (below_new hb1))
        clear hb1 hk1 c0 c1 c2 c3 hb
        have q20 := q2 1
        have q10 : w1.cell? ⟨wr.heap.size, 1, none⟩ = some (.string ⟨t.text.toArray⟩) := (q1 1).trans rfl
        clear q1 q2
        go_wp2_with (at_builtin; go_must (refine wpList_push rfl (.tmp 19) (.tmp 22) elemStr rfl (w1.setCell ⟨wr.heap.size, 1, none⟩ (.string ⟨(escL t.text).toArray⟩)) w.heap.size _ _ _ rfl (ownsRow_setCell_other HO1.out (own_ne HO.out) _) [.string ⟨(escL t.text).toArray⟩] rfl rfl (by simp) rfl (one_str _) (by simp; omega) (by simp; omega) (by simp; omega) ?_; intro v' w2 ho hg2 hb2))
        go_roundw
        case rel => exact ⟨k + 1, by omega, by go_num, by rw [tokText_len hlt, ← HTK.out]; exact own_strs (by rw [HTX.out]; exact ho) rfl, (HB1.out.setCell (by simpa using hBs) _).trans hb2⟩
        case measure => simp [intOf]; omega
      · have e1 : ((t.kind : Int) == 2) = false := by rw [beq_eq_false_iff_ne]; omega
        have HTX : Hid (tokText t = t.text) := by show _ = _; rw [tokText, if_neg h2]
        have H2 := Lib.hid h2; clear h2
        go_wp2_with (at_builtin; go_must (refine wpList_push rfl (.tmp 19) (.tmp 22) elemStr rfl (wr.alloc (.cells #[.int .i64 t.kind, .string ⟨t.text.toArray⟩, .int .i64 t.n, .int .i64 t.pos] 32)) w.heap.size _ _ _ rfl (HO.out.alloc _) [.string ⟨t.text.toArray⟩] rfl rfl (by simp) rfl (one_str _) (by simp; omega) (by simp; omega) (by simp; omega) ?_; intro v' w2 ho hg2 hb2))
        go_roundw
        case rel => exact ⟨k + 1, by omega, by go_num, by rw [tokText_len hlt, ← HTK.out]; exact own_strs (by rw [HTX.out]; exact ho) rfl, (HB.out.alloc (by omega) _).trans hb2⟩
        case measure => simp [intOf]; omega
    · have hall : Hid (ts.take k = ts) := List.take_of_length_le (by omega)
      have HO2 : Hid (wr.ownsRow w.heap.size 9 1 u3 (ts.map tokText).length (strVals (ts.map tokText))) := by have := HO.out; rw [hall.out] at this; exact this
      clear HO
      go_wp2_with fail
      refine (join_any _ _ _ _ HO2.out (by simpa using hn) (by rw [join_print]; exact hl)).mono ?_
      rintro e w1 ⟨rfl, hb1⟩
      have HB1 := Lib.hid (HB.out.trans (hb1.mono hBs))
      clear hb1
      go_wp2_with fail
      go_ret
      exact ⟨by rw [← join_print]; rfl, HB1.out⟩
end Go.Proofs.YtekaplogeogbjaaDoor
