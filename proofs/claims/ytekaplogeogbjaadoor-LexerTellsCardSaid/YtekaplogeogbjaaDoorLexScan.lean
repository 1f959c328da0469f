/- Walk: the tokens of a text. -/
import Derived.Test.YtekaplogeogbjaaDoorLexNext
namespace Go.Proofs.YtekaplogeogbjaaDoor
open Go.RowKit

theorem elemTok : ElemT Tryd.prog 23 32 noTok 4 40 := ⟨Tryd.underlying23, by kernel_rfl, rfl, by decide⟩

def scanOut (l : Bytes) : Except (Nat × Nat) (List Tok) := if 4000 < l.length then .error (0, 6) else scanAll l
def toksOf : Except (Nat × Nat) (List Tok) → List Tok | .ok ts => ts | .error _ => []
def posOf : Except (Nat × Nat) (List Tok) → Nat | .ok _ => 0 | .error e => e.1
def errOf : Except (Nat × Nat) (List Tok) → Nat | .ok _ => 0 | .error e => e.2
def toksCells (ts : List Tok) : List Value := ts.flatMap tokCells

/-- What 'Scan' hands back: a slice of its own with the tokens, a place and an error. -/
def ScanPost (r : Except (Nat × Nat) (List Tok)) (w : World) (e : Ending) (w' : World) : Prop :=
  ∃ v, e = .returned (.tuple #[v, .int .i64 (posOf r), .int .i64 (errOf r)]) ∧ w'.ownsRow w.heap.size 32 4 v (toksOf r).length (toksCells (toksOf r)) ∧ Below w.heap.size w w'

/-- After some rounds: what is still to be scanned decides the whole. -/
def ScanAt (l : Bytes) (k : Nat) (done : List Tok) : Prop := ∀ a, Scan k (l.drop k) a → Scan 0 l (sewn done a)
theorem scanAt_start (l : Bytes) : ScanAt l 0 [] := by intro a h; cases a <;> exact h
theorem scanAt_done {l : Bytes} {k : Nat} {done : List Tok} (h : ScanAt l k done) (hg : gapC false (l.drop k) = (l.drop k).length) : scanAll l = .ok done := by
  have := h _ (Scan.done k (l.drop k) hg)
  rw [sewn, List.append_nil] at this; exact scanAll_of this
theorem scanAt_bad {l : Bytes} {k g e : Nat} {done : List Tok} {c : UInt8} {r : Bytes} (h : ScanAt l k done) (hg : gapC false (l.drop k) = g) (hd : l.drop (k + g) = c :: r) (hn : nextT (c :: r) = .error e) : scanAll l = .error (k + g, e) := by
  have := h _ (Scan.bad k (l.drop k) c r e (by rw [hg, List.drop_drop]; exact hd) hn)
  rw [hg] at this; exact scanAll_of this
theorem scanAt_tok {l : Bytes} {k g n : Nat} {t : Tok} {done : List Tok} {c : UInt8} {r : Bytes} (h : ScanAt l k done) (hg : gapC false (l.drop k) = g) (hd : l.drop (k + g) = c :: r) (hn : nextT (c :: r) = .ok (t, n)) : ScanAt l (k + g + n) (done ++ [t.at (k + g)]) := by
  intro a ha
  have hdd : (l.drop k).drop (gapC false (l.drop k)) = c :: r := by rw [hg, List.drop_drop]; exact hd
  have hl : l.drop (k + g + n) = (c :: r).drop n := by rw [← hd, List.drop_drop]
  rw [hl] at ha
  cases a with
  | ok ts =>
    have := h _ (Scan.tok k (l.drop k) c r t n ts hdd hn (by rw [hg]; exact ha))
    rw [hg] at this
    simpa [sewn] using this
  | error x =>
    have := h _ (Scan.late k (l.drop k) c r t n x hdd hn (by rw [hg]; exact ha))
    exact this

theorem own_tok {w1 : World} {B n : Nat} {v' : Value} {done : List Tok} {t : Tok} {p : Nat} (ho : w1.ownsRow B 32 4 v' (n + 1) (toksCells done ++ [.int .i64 t.kind, .string ⟨t.text.toArray⟩, .int .i64 t.n, .int .i64 p])) (hn : n = done.length) :
    w1.ownsRow B 32 4 v' (done ++ [t.at p]).length (toksCells (done ++ [t.at p])) := by
  subst hn
  simpa [toksCells, tokCells, Tok.at] using ho
theorem one_tok (a b c : Int) (s : ByteArray) : ∀ u ∈ [Value.int .i64 a, .string s, .int .i64 b, .int .i64 c], u.oneCell' = true := by
  intro u hu; simp at hu; rcases hu with rfl | rfl | rfl | rfl <;> rfl

set_option maxHeartbeats 4000000 in
theorem scan_any (s : ByteArray) (w : World) (hs : s.size ≤ 137438953472) (hsig : SignsIn w) :
    Calls Tryd.prog 10 #[.string s] w (ScanPost (scanOut s.data.toList) w) := by
  have HL : Hid (s.data.toList.length = s.size) := bytes_len s
  by_cases h4 : s.size ≤ 4000
  · have HO : Hid (scanOut s.data.toList = scanAll s.data.toList) := by show _ = _; rw [scanOut, if_neg (by rw [HL.out]; omega)]
    have HS := Lib.hid hsig; clear hsig
    go_enter Tryd.func10, Tryd.ntmps10
    go_wp2_with fail
    go_loopw [5, 6] (fun v n wr => ∃ (k : Nat) (done : List Tok), k ≤ s.size ∧ done.length ≤ k ∧ n = .int .i64 k ∧ Hid (ScanAt s.data.toList k done) ∧ Hid (wr.ownsRow w.heap.size 32 4 v done.length (toksCells done)) ∧ Hid (Below w.heap.size w wr)) (fun _ n _ => s.size - (intOf n).toNat)
    case atStart => exact ⟨0, [], by omega, by simp, rfl, scanAt_start _, World.ownsRow_nil _ _ _ _, Below.refl _ _⟩
    case round =>
      obtain ⟨k, done, hk, hdk, rfl, HK, HW, HB⟩ := hrel
      have hBs := HB.out.size
      go_wp2_with fail
      obtain ⟨g, hg⟩ : ∃ g, g = gapC false (s.data.toList.drop k) := ⟨_, rfl⟩
      have hgl : g ≤ s.size - k := by have := gapC_le false (s.data.toList.drop k); rw [List.length_drop, HL.out] at this; omega
      have HG : Hid (gapC false (s.data.toList.drop k) = g) := hg.symm
      clear hg
      refine (gap_any (s.extract k s.size) _ (by unfold maxLen; simp; omega)).mono ?_
      rintro e w' ⟨rfl, rfl⟩
      rw [ext_end, HG.out]
      by_cases hend : k + g = s.size
      · have hr : Hid (scanOut s.data.toList = .ok done) := HO.out.trans (scanAt_done HK.out (by rw [HG.out, List.length_drop, HL.out]; omega))
        have e1 : (((k : Int) + (g : Int)) == (s.size : Int)) = true := by rw [beq_iff_eq]; omega
        have hend' := Lib.hid hend; clear hend
        go_wp2_with fail
        go_ret3
        refine ⟨u5, ?_, ?_, HB.out⟩
        · rw [hr.out]; rfl
        · rw [hr.out]; exact HW.out
      · have hlt : k + g < s.size := by omega
        have e1 : (((k : Int) + (g : Int)) == (s.size : Int)) = false := by rw [beq_eq_false_iff_ne]; omega
        have hd := Lib.hid (bytes_drop s (k + g) hlt)
        clear hend
        go_wp2_with fail
        refine (next_any (s.extract (k + g) s.size) _ (by simp; omega) (by simp; omega) (HS.out.keep HB.out)).mono ?_
        rintro e w1 ⟨rfl, hb1⟩
        rw [ext_end]
        cases hn : nextT (s.data.toList.drop (k + g)) with
        | error e =>
          have hr : Hid (scanOut s.data.toList = .error (k + g, e)) := HO.out.trans (scanAt_bad HK.out HG.out hd.out (by rw [← hd.out]; exact hn))
          rw [nextRes_err hn]
          have hee : e = 2 ∨ e = 3 ∨ e = 10 := nextT_err hd.out hn
          have e2 : ((e : Int) != 0) = true := by rw [bne_iff_ne]; omega
          clear hn hee
          have HB1 := Lib.hid (HB.out.trans (hb1.mono hBs))
          have hs1 := hb1.size
          clear hb1
          unfold noTok
          go_wp2_with fail
          refine bodyPost_ret (results_tmp3 rfl _ _ _) rfl ⟨.slice none 0 0, ?_, ?_, ?_⟩
          · rw [hr.out]; rfl
          · rw [hr.out]; exact World.ownsRow_nil _ _ _ _
          · exact HB1.out.alloc (by omega) _
        | ok x =>
          obtain ⟨t, n⟩ := x
          have hns := nextT_ok hn
          have hn1 := hns.1
          have hn2 := hns.2.1
          rw [List.length_drop, HL.out] at hn2
          have HT := Lib.hid (scanAt_tok HK.out HG.out hd.out (by rw [← hd.out]; exact hn))
          rw [nextRes_ok hn]
          clear hn hns
          have HW1 := Lib.hid (own_below HW.out hb1)
          have HB1 := Lib.hid (HB.out.trans (hb1.mono hBs))
          have hs1 := hb1.size
          clear hb1
          unfold tokVal tokCells
          go_wp2_with (at_builtin; go_must (refine wpList_push rfl (.tmp 38) (.tmp 40) elemTok rfl (w1.alloc (.cells #[.int .i64 t.kind, .string ⟨t.text.toArray⟩, .int .i64 t.n, .int .i64 ((k : Int) + (g : Int))] 32)) w.heap.size _ _ _ rfl (HW1.out.alloc _) [.int .i64 t.kind, .string ⟨t.text.toArray⟩, .int .i64 t.n, .int .i64 ((k : Int) + (g : Int))] rfl rfl (by simp) rfl (one_tok _ _ _ _) (by omega) (by omega) (by simp; omega) ?_; intro v' w2 ho hg2 hb2))
          go_roundw
          case rel => exact ⟨k + g + n, done ++ [t.at (k + g)], by omega, by simp; omega, by go_num, HT, own_tok (p := k + g) ho rfl, (HB1.out.alloc (by omega) _).trans hb2⟩
          case measure => simp [intOf]; omega
  · have HO : Hid (scanOut s.data.toList = .error (0, 6)) := by show _ = _; rw [scanOut, if_pos (by rw [HL.out]; omega)]
    go_enter Tryd.func10, Tryd.ntmps10
    go_wp2_with fail
    refine bodyPost_ret (results_tmp3 rfl _ _ _) rfl ⟨.slice none 0 0, ?_, ?_, Below.refl _ _⟩
    · rw [HO.out]; rfl
    · rw [HO.out]; exact World.ownsRow_nil _ _ _ _
end Go.Proofs.YtekaplogeogbjaaDoor
