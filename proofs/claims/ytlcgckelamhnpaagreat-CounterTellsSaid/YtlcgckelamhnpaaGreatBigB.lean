/- Walks: digits of the call's own; trimming. -/
import Derived.Test.YtlcgckelamhnpaaGreatBigSpec
import Derived.Test.YtlcgckelamhnpaaGreatProg
import Derived.OwnWalk
set_option maxRecDepth 100000
set_option maxHeartbeats 2000000
namespace Go.Proofs.YtlcgckelamhnpaaGreat
open Go.RowKit
def OwnN (w : World) (B : Nat) (v : Value) (l : Digs) : Prop := w.ownsRow B 3 1 v l.length (cellsN l)
theorem OwnN.rd {w : World} {B : Nat} {v : Value} {l : Digs} (h : OwnN w B v l) : RdN w v l := rdN_own h rfl
theorem OwnN.keep {w w' : World} {B : Nat} {v : Value} {l : Digs} (h : OwnN w B v l) (hb : Below w.heap.size w w') : OwnN w' B v l := own_below h hb
theorem OwnN.mono {w : World} {B B' : Nat} {v : Value} {l : Digs} (h : OwnN w B v l) (hB : B' ≤ B) : OwnN w B' v l := own_mono h hB
theorem cellsN_len (l : Digs) : (cellsN l).length = l.length := by simp [cellsN, cellsZ, ints]
theorem cellsN_take (l : Digs) (m : Nat) : (cellsN l).take m = cellsN (l.take m) := by simp [cellsN, cellsZ, ints, List.map_take]
theorem cellsN_get (l : Digs) (k : Nat) (h : k < l.length) : (cellsN l)[k]? = some (.int .i64 (l[k] : Int)) := by simp [cellsN, cellsZ, ints, h]
theorem ownN_nil (w : World) (B : Nat) : OwnN w B (.slice none 0 0) [] := World.ownsRow_nil _ _ _ _
theorem OwnN.shape {w : World} {B : Nat} {v : Value} {l : Digs} (h : OwnN w B v l) : (v = .slice none 0 0 ∧ l = []) ∨ ∃ g cap, v = .slice (some ⟨g, 0, none⟩) l.length cap ∧ B ≤ g ∧ g < w.heap.size ∧ l.length ≤ cap := by
 rcases h.2 with ⟨h1, h2⟩ | ⟨g, cap, cur, h1, h2, h3, h4, h5⟩
 · exact .inl ⟨h1, List.length_eq_zero_iff.1 h2⟩
 · exact .inr ⟨g, cap, h1, h2, lt_of_block h3, h4⟩
theorem OwnN.cut {w : World} {B g cap : Nat} {l : Digs} (h : OwnN w B (.slice (some ⟨g, 0, none⟩) l.length cap) l) (m : Nat) (hm : m ≤ l.length) : OwnN w B (.slice (some ⟨g, 0, none⟩) m cap) (l.take m) := by
 have hlen : (l.take m).length = m := by rw [List.length_take]; omega
 refine ⟨by rw [cellsN_len, Nat.mul_one], .inr ?_⟩; rcases h.2 with ⟨h1, h2⟩ | ⟨g', cap', cur, h1, h2, h3, h4, h5, h6, h7⟩
 · cases h1
 · simp only [Value.slice.injEq, Option.some.injEq, Addr.mk.injEq, and_true, true_and] at h1
   obtain ⟨rfl, rfl⟩ := h1; refine ⟨g, cap, cur, by rw [hlen], h2, h3, by omega, h5, h6, ?_⟩; rw [hlen, Nat.mul_one, ← cellsN_take, ← h7, List.take_take, Nat.mul_one, Nat.min_eq_left hm]
def Cuts (v v' : Value) (l l' : Digs) : Prop := ∀ wx Bx, OwnN wx Bx v l → OwnN wx Bx v' l'
theorem bigTrim_all (B : Nat) (v : Value) (l : Digs) (w : World) (h : OwnN w B v l) (hs : small l) (hn : l.length ≤ 8796093022208) :
 Calls Tryz.prog 105 #[v] w fun e w' => ∃ v', e = .returned v' ∧ Cuts v v' l (digs (val l)) ∧ w = w' := by
 rcases h.shape with ⟨rfl, rfl⟩ | ⟨g, cap, rfl, hg, hlt, hcap⟩
 · go_enter Tryz.func105, Tryz.ntmps105
   go_wp2_with fail
   go_loop [3] (fun i => i = .int .i64 0) (fun _ => 0)
   case atStart => rfl
   case round =>
    obtain rfl := hrel; go_wp2_with fail
    go_ret
    exact ⟨_, rfl, fun _ _ _ => ownN_nil _ _, rfl⟩
 · have HR := Lib.hid h.rd; clear h
   go_enter Tryz.func105, Tryz.ntmps105
   go_wp2_with fail
   go_loop [3] (fun i => ∃ k : Nat, k ≤ l.length ∧ i = .int .i64 k ∧ Hid (∀ j (h : j < l.length), k ≤ j → l[j] = 0)) (fun i => (intOf i).toNat)
   case atStart => exact ⟨l.length, Nat.le_refl _, rfl, fun j h hj => by omega⟩
   case round =>
    obtain ⟨k, hk, rfl, HZ⟩ := hrel
    by_cases h0 : 0 < k
    · have hk1 : k - 1 < l.length := by omega
      obtain ⟨b, off, ha, hb, hcell⟩ := HR.out.at hk1
      cases ha
      obtain ⟨d, hd⟩ : ∃ d, d = l[k - 1] := ⟨_, rfl⟩; rw [← hd, Nat.zero_add] at hcell; obtain ⟨m, rfl⟩ : ∃ m, k = m + 1 := ⟨k - 1, by omega⟩; rw [Nat.add_sub_cancel] at hcell; have hd' : d = l[m] := hd; have HD := Lib.hid hd'; clear hd hd'
      by_cases hd0 : d = 0
      · have e1 : ((d : Int) == 0) = true := by rw [beq_iff_eq]; omega
        have H0 := Lib.hid hd0; clear hd0; go_wp2_with fail
        go_round
        case rel => exact ⟨m, by omega, by go_num, fun j hj hjm => by
         rcases Nat.lt_or_ge m j with h' | h'
         · exact HZ.out j hj (by omega)
         · obtain rfl : j = m := by omega
           rw [← HD.out]; exact H0.out⟩
        case measure => simp [intOf]
      · have e1 : ((d : Int) == 0) = false := by rw [beq_eq_false_iff_ne]; omega
        have H0 := Lib.hid hd0; clear hd0; have ht := Lib.hid (trim_take hs hk HZ.out (.inr ⟨by simpa using hk1, by simp only [Nat.add_sub_cancel]; rw [← HD.out]; exact H0.out⟩)); go_wp2_with fail
        go_ret
        exact ⟨_, rfl, fun wx Bx hx => by rw [← ht.out]; exact hx.cut _ hk, rfl⟩
    · obtain rfl : k = 0 := by omega
      have ht := Lib.hid (trim_take hs hk HZ.out (.inl rfl)); go_wp2_with fail
      go_ret
      exact ⟨_, rfl, fun wx Bx hx => by rw [← ht.out]; exact hx.cut 0 hk, rfl⟩
theorem bigTrim_own (B : Nat) (v : Value) (l : Digs) (w : World) (h : OwnN w B v l) (hs : small l) (hn : l.length ≤ 8796093022208) :
 Calls Tryz.prog 105 #[v] w fun e w' => ∃ v', e = .returned v' ∧ OwnN w' B v' (digs (val l)) ∧ w = w' :=
 (bigTrim_all B v l w h hs hn).mono fun _ _ ⟨v', he, ha, hw⟩ => ⟨v', he, by rw [← hw]; exact ha _ _ h, hw⟩
end Go.Proofs.YtlcgckelamhnpaaGreat
