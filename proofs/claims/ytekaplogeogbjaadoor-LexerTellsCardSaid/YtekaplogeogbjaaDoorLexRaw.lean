/- Walks: the text of any list of tokens, valid or not, by the lexer and by the reference: the same bytes. -/
import Derived.Test.YtekaplogeogbjaaDoorLexRef4
namespace Go.Proofs.YtekaplogeogbjaaDoor
open Go.RowKit

/-- A token as it lies in memory, valid or not. -/
structure RTok where
  kind : Int
  text : ByteArray
  n : Int
  pos : Int

def rCells (t : RTok) : List Value := [.int .i64 t.kind, .string t.text, .int .i64 t.n, .int .i64 t.pos]
def rText (t : RTok) : Bytes := if t.kind = 2 then escL t.text.data.toList else t.text.data.toList
def printR (ts : List RTok) : Bytes := Lib.join (ts.map rText) [32]

def RawIn (w : World) (v : Value) (ts : List RTok) : Prop := RdS w v ts.length 4 (fun k => (ts[k]?.map rCells).getD [])
theorem RawIn.keep {w w' : World} {v : Value} {ts : List RTok} (h : RawIn w v ts) (hb : Below w.heap.size w w') : RawIn w' v ts := RdS.keep h hb
theorem RawIn.at {w : World} {a : Option Addr} {n cap : Nat} {ts : List RTok} (h : RawIn w (.slice a n cap) ts) {k : Nat} (hk : k < ts.length) :
    ∃ b off, a = some ⟨b, off, none⟩ ∧ b < w.heap.size ∧ ∀ j u, (rCells ts[k])[j]? = some u → w.cell? ⟨b, off + k * 4 + j, none⟩ = some u := by
  obtain ⟨a', cap', hv, hc⟩ := h
  cases hv
  obtain ⟨b, off, ha, hlt, hcell⟩ := hc k hk
  refine ⟨b, off, ha, hlt, fun j u hj => hcell j u ?_⟩
  show ((ts[k]?.map rCells).getD [])[j]? = some u
  rw [List.getElem?_eq_getElem hk]; exact hj
theorem RawIn.shape {w : World} {v : Value} {ts : List RTok} (h : RawIn w v ts) : ∃ a cap, v = .slice a ts.length cap := by
  obtain ⟨a, cap, hv, _⟩ := h; exact ⟨a, cap, hv⟩
theorem rText_len {ts : List RTok} {k : Nat} (hk : k < ts.length) : ((ts.take (k + 1)).map rText) = ((ts.take k).map rText) ++ [rText ts[k]] := by
  rw [List.take_succ_eq_append_getElem hk, List.map_append]; rfl

theorem joinTail_app (sep : Bytes) (a b : List Bytes) : Lib.joinTail sep (a ++ b) = Lib.joinTail sep a ++ Lib.joinTail sep b := by simp [Lib.joinTail]
theorem join_snoc (l : List Bytes) (b sep : Bytes) : Lib.join (l ++ [b]) sep = if l = [] then b else Lib.join l sep ++ (sep ++ b) := by
  cases l with
  | nil => simp [Lib.join_one]
  | cons x r => rw [if_neg (by simp), List.cons_append, Lib.join_cons, Lib.join_cons, joinTail_app, List.append_assoc]; simp [Lib.joinTail]

theorem rText_le (t : RTok) : (rText t).length ≤ 2 * t.text.data.toList.length + 2 := by
  unfold rText; split
  · have := escBody_len t.text.data.toList
    simp only [escL, List.length_cons, List.length_append, List.length_nil]; omega
  · omega
theorem printR_le (ts : List RTok) (M : Nat) (h : ∀ t ∈ ts, t.text.size ≤ M) : (printR ts).length ≤ ts.length * (2 * M + 3) := by
  unfold printR
  cases ts with
  | nil => simp [Lib.join_nil]
  | cons x r =>
    have hl : ∀ t : RTok, t.text.size ≤ M → (rText t).length ≤ 2 * M + 2 := by
      intro t ht; have := rText_le t; rw [bytes_len] at this; omega
    have hx := hl x (h x (by simp))
    have hr : ∀ r : List RTok, (∀ t ∈ r, t.text.size ≤ M) → (Lib.joinTail [32] (r.map rText)).length ≤ r.length * (2 * M + 3) := by
      intro r
      induction r with
      | nil => intro _; simp [Lib.joinTail]
      | cons y q ih =>
        intro hq
        have h1 := ih (fun t ht => hq t (by simp [ht]))
        have h2 := hl y (hq y (by simp))
        have : Lib.joinTail [32] ((y :: q).map rText) = 32 :: (rText y ++ Lib.joinTail [32] (q.map rText)) := by simp [Lib.joinTail]
        rw [this, List.length_cons, List.length_append, List.length_cons, Nat.succ_mul]; omega
    have := hr r (fun t ht => h t (by simp [ht]))
    rw [List.map_cons, Lib.join_cons, List.length_append, List.length_cons, Nat.succ_mul]; omega

set_option maxHeartbeats 4000000 in
theorem printRaw_any (v : Value) (ts : List RTok) (w : World) (hin : RawIn w v ts) (hn : ts.length ≤ 1099511627776) (ht : ∀ t ∈ ts, t.text.size ≤ 137438953472) (hl : (printR ts).length ≤ 137438953472) :
    Calls Tryd.prog 12 #[v] w fun e w' => e = .returned (.string ⟨(printR ts).toArray⟩) ∧ Below w.heap.size w w' := by
  obtain ⟨a, cap, rfl⟩ := hin.shape
  have HI := Lib.hid hin; clear hin
  have HT := Lib.hid ht; clear ht
  go_enter Tryd.func12, Tryd.ntmps12
  go_wp2_with fail
  go_loopw [3, 8] (fun p i wr => ∃ k : Nat, k ≤ ts.length ∧ i = .int .i64 k ∧ Hid (wr.ownsRow w.heap.size 9 1 p ((ts.take k).map rText).length (strVals ((ts.take k).map rText))) ∧ Hid (Below w.heap.size w wr)) (fun _ i _ => ts.length - (intOf i).toNat)
  case atStart => exact ⟨0, Nat.zero_le _, rfl, World.ownsRow_nil _ _ _ _, Below.refl _ _⟩
  case round =>
    obtain ⟨k, hk, rfl, HO, HB⟩ := hrel
    have hBs := HB.out.size
    by_cases hlt : k < ts.length
    · obtain ⟨b, off, rfl, hb, hcell⟩ := (HI.out.keep HB.out).at hlt
      obtain ⟨t, htk⟩ : ∃ t, t = ts[k] := ⟨_, rfl⟩
      rw [← htk] at hcell
      have c0 : wr.cell? ⟨b, off + k * 4, none⟩ = some (.int .i64 t.kind) := hcell 0 _ rfl
      have c1 : wr.cell? ⟨b, off + k * 4 + 1, none⟩ = some (.string t.text) := hcell 1 _ rfl
      have c2 : wr.cell? ⟨b, off + k * 4 + 2, none⟩ = some (.int .i64 t.n) := hcell 2 _ rfl
      have c3 : wr.cell? ⟨b, off + k * 4 + 3, none⟩ = some (.int .i64 t.pos) := hcell 3 _ rfl
      have HLT : Hid (t.text.size ≤ 137438953472) := HT.out t (by rw [htk]; exact List.getElem_mem _)
      have HTK := Lib.hid htk; clear htk hcell
      by_cases h2 : t.kind = 2
      · have e1 : (t.kind == 2) = true := by rw [beq_iff_eq]; exact h2
        have HTX : Hid (rText t = escL t.text.data.toList) := by show _ = _; rw [rText, if_pos h2]
        have H2 := Lib.hid h2; clear h2
        go_wp2_with fail
        refine (escaped_any t.text _ (HLT.out)).mono ?_
        rintro e w1 ⟨rfl, hb1⟩
        have hk1 := hb1.block wr.heap.size (by simp)
        rw [heap_new] at hk1
        obtain ⟨q1, q2⟩ := box_new hb1
        have hsz := size_new hb1
        have HB1 := Lib.hid (HB.out.trans ((below_new hb1).mono hBs))
        have HO1 := Lib.hid (own_below HO.out (below_new hb1))
        clear hb1 hk1 c0 c1 c2 c3 hb
        have q20 := q2 1
        have q10 : w1.cell? ⟨wr.heap.size, 1, none⟩ = some (.string t.text) := (q1 1).trans rfl
        clear q1 q2
        go_wp2_with (at_builtin; go_must (refine wpList_push rfl (.tmp 19) (.tmp 22) elemStr rfl (w1.setCell ⟨wr.heap.size, 1, none⟩ (.string ⟨(escL t.text.data.toList).toArray⟩)) w.heap.size _ _ _ rfl (ownsRow_setCell_other HO1.out (own_ne HO.out) _) [.string ⟨(escL t.text.data.toList).toArray⟩] rfl rfl (by simp) rfl (one_str _) (by simp; omega) (by simp; omega) (by simp; omega) ?_; intro v' w2 ho hg2 hb2))
        go_roundw
        case rel => exact ⟨k + 1, by omega, by go_num, by rw [rText_len hlt, ← HTK.out]; exact own_strs (by rw [HTX.out]; exact ho) rfl, (HB1.out.setCell (by simpa using hBs) _).trans hb2⟩
        case measure => simp [intOf]; omega
      · have e1 : (t.kind == 2) = false := by rw [beq_eq_false_iff_ne]; exact h2
        have HTX : Hid (rText t = t.text.data.toList) := by show _ = _; rw [rText, if_neg h2]
        have H2 := Lib.hid h2; clear h2
        have HS : Hid ((⟨t.text.data.toList.toArray⟩ : ByteArray) = t.text) := by show _ = _; simp
        go_wp2_with (at_builtin; go_must (refine wpList_push rfl (.tmp 19) (.tmp 22) elemStr rfl (wr.alloc (.cells #[.int .i64 t.kind, .string t.text, .int .i64 t.n, .int .i64 t.pos] 32)) w.heap.size _ _ _ rfl (HO.out.alloc _) [.string t.text] rfl rfl (by simp) rfl (one_str _) (by simp; omega) (by simp; omega) (by simp; omega) ?_; intro v' w2 ho hg2 hb2))
        go_roundw
        case rel => exact ⟨k + 1, by omega, by go_num, by rw [rText_len hlt, ← HTK.out]; exact own_strs (by rw [HTX.out, HS.out]; exact ho) rfl, (HB.out.alloc (by omega) _).trans hb2⟩
        case measure => simp [intOf]; omega
    · have hall : Hid (ts.take k = ts) := List.take_of_length_le (by omega)
      have HO2 : Hid (wr.ownsRow w.heap.size 9 1 u3 (ts.map rText).length (strVals (ts.map rText))) := by have := HO.out; rw [hall.out] at this; exact this
      clear HO
      go_wp2_with fail
      refine (join_any _ _ _ _ HO2.out (by simpa using hn) hl).mono ?_
      rintro e w1 ⟨rfl, hb1⟩
      have HB1 := Lib.hid (HB.out.trans (hb1.mono hBs))
      clear hb1
      go_wp2_with fail
      go_ret
      exact ⟨rfl, HB1.out⟩

theorem printR_snoc {ts : List RTok} {k : Nat} (hk : k < ts.length) : printR (ts.take (k + 1)) = if k = 0 then rText ts[k] else printR (ts.take k) ++ (32 :: rText ts[k]) := by
  unfold printR
  rw [rText_len hk, join_snoc]
  by_cases h0 : k = 0
  · subst h0; rfl
  · rw [if_neg h0, if_neg ?_]; rfl
    intro h
    have := congrArg List.length h
    rw [List.length_map, List.length_take, List.length_nil] at this; omega

set_option maxHeartbeats 4000000 in
theorem refPrint_any (v : Value) (ts : List RTok) (w : World) (hin : RawIn w v ts) (hn : ts.length ≤ 100) (ht : ∀ t ∈ ts, t.text.size ≤ 100) :
    Calls Tryd.prog 24 #[v] w fun e w' => e = .returned (.string ⟨(printR ts).toArray⟩) ∧ w = w' := by
  obtain ⟨a, cap, rfl⟩ := hin.shape
  have HI := Lib.hid hin; clear hin
  have HT := Lib.hid ht
  go_enter Tryd.func24, Tryd.ntmps24
  go_wp2_with fail
  go_loop [3, 4] (fun p i => ∃ (k : Nat) (x : ByteArray), k ≤ ts.length ∧ i = .int .i64 k ∧ p = .string x ∧ Hid (x.data.toList = printR (ts.take k))) (fun _ i => ts.length - (intOf i).toNat)
  case atStart => exact ⟨0, ⟨#[]⟩, Nat.zero_le _, rfl, rfl, rfl⟩
  case round =>
    obtain ⟨k, x, hk, rfl, rfl, HX⟩ := hrel
    have hxs : x.size ≤ 100000 := by
      rw [← bytes_len, HX.out]
      have := printR_le (ts.take k) 100 (fun t h => HT.out t (List.mem_of_mem_take h))
      rw [List.length_take] at this; omega
    by_cases hlt : k < ts.length
    · obtain ⟨b, off, rfl, hb, hcell⟩ := HI.out.at hlt
      obtain ⟨t, htk⟩ : ∃ t, t = ts[k] := ⟨_, rfl⟩
      rw [← htk] at hcell
      have c0 : w.cell? ⟨b, off + k * 4, none⟩ = some (.int .i64 t.kind) := hcell 0 _ rfl
      have c1 : w.cell? ⟨b, off + k * 4 + 1, none⟩ = some (.string t.text) := hcell 1 _ rfl
      have c2 : w.cell? ⟨b, off + k * 4 + 2, none⟩ = some (.int .i64 t.n) := hcell 2 _ rfl
      have c3 : w.cell? ⟨b, off + k * 4 + 3, none⟩ = some (.int .i64 t.pos) := hcell 3 _ rfl
      have hls : t.text.size ≤ 100 := HT.out t (by rw [htk]; exact List.getElem_mem _)
      have HLT : Hid (t.text.size ≤ 137438953472) := by show _ ≤ _; omega
      have hes : (escL t.text.data.toList).length ≤ 100000 := by
        have := escBody_len t.text.data.toList
        rw [bytes_len] at this
        simp only [escL, List.length_cons, List.length_append, List.length_nil]; omega
      have hsp : (⟨#[32]⟩ : ByteArray).size = 1 := rfl
      have HTK := Lib.hid htk; clear htk hcell
      by_cases h2 : t.kind = 2
      · have e1 : (t.kind == 2) = true := by rw [beq_iff_eq]; exact h2
        have HTX : Hid (rText t = escL t.text.data.toList) := by show _ = _; rw [rText, if_pos h2]
        have H2 := Lib.hid h2; clear h2
        by_cases h0 : k = 0
        · have HP : Hid (printR (ts.take (k + 1)) = rText t) := by show _ = _; rw [printR_snoc hlt, if_pos h0, HTK.out]
          have hx0 : Hid (x.data.toList = []) := by show _ = _; rw [HX.out, h0]; rfl
          have e0 : ¬ (0 : Int) < (k : Int) := by omega
          have H0 := Lib.hid h0; clear h0
          go_wp2_with (go_at_call 14; refine (refEscaped_any t.text _ HLT.out).mono ?_; rintro e w' ⟨rfl, rfl⟩)
          go_round
          case rel => exact ⟨k + 1, _, by omega, by go_num, rfl, by show _ = _; rw [HP.out]; simp only [ByteArray.data_append, Array.toList_append, hx0.out, HTX.out]; simp⟩
          case measure => simp [intOf]; omega
        · have HP : Hid (printR (ts.take (k + 1)) = printR (ts.take k) ++ (32 :: rText t)) := by show _ = _; rw [printR_snoc hlt, if_neg h0, HTK.out]
          have e0 : (0 : Int) < (k : Int) := by omega
          go_wp2_with (go_at_call 14; refine (refEscaped_any t.text _ HLT.out).mono ?_; rintro e w' ⟨rfl, rfl⟩)
          go_round
          case rel => exact ⟨k + 1, _, by omega, by go_num, rfl, by show _ = _; rw [HP.out]; simp only [ByteArray.data_append, Array.toList_append, HX.out, HTX.out]; simp⟩
          case measure => simp [intOf]; omega
      · have e1 : (t.kind == 2) = false := by rw [beq_eq_false_iff_ne]; exact h2
        have HTX : Hid (rText t = t.text.data.toList) := by show _ = _; rw [rText, if_neg h2]
        have H2 := Lib.hid h2; clear h2
        by_cases h0 : k = 0
        · have HP : Hid (printR (ts.take (k + 1)) = rText t) := by show _ = _; rw [printR_snoc hlt, if_pos h0, HTK.out]
          have hx0 : Hid (x.data.toList = []) := by show _ = _; rw [HX.out, h0]; rfl
          have e0 : ¬ (0 : Int) < (k : Int) := by omega
          have H0 := Lib.hid h0; clear h0
          go_wp2_with (go_at_call 14; refine (refEscaped_any t.text _ HLT.out).mono ?_; rintro e w' ⟨rfl, rfl⟩)
          go_round
          case rel => exact ⟨k + 1, _, by omega, by go_num, rfl, by show _ = _; rw [HP.out]; simp only [ByteArray.data_append, Array.toList_append, hx0.out, HTX.out]; simp⟩
          case measure => simp [intOf]; omega
        · have HP : Hid (printR (ts.take (k + 1)) = printR (ts.take k) ++ (32 :: rText t)) := by show _ = _; rw [printR_snoc hlt, if_neg h0, HTK.out]
          have e0 : (0 : Int) < (k : Int) := by omega
          go_wp2_with (go_at_call 14; refine (refEscaped_any t.text _ HLT.out).mono ?_; rintro e w' ⟨rfl, rfl⟩)
          go_round
          case rel => exact ⟨k + 1, _, by omega, by go_num, rfl, by show _ = _; rw [HP.out]; simp only [ByteArray.data_append, Array.toList_append, HX.out, HTX.out]; simp⟩
          case measure => simp [intOf]; omega
    · have hall : Hid (x = ⟨(printR ts).toArray⟩) := mk_bytes _ (by rw [HX.out, List.take_of_length_le (by omega)])
      go_wp2_with fail
      go_ret
      exact ⟨by rw [← hall.out]; rfl, rfl⟩
end Go.Proofs.YtekaplogeogbjaaDoor
