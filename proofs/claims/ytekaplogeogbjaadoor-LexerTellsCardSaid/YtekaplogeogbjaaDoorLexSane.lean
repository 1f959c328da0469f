/- Walk: the small examples. -/
import Derived.Test.YtekaplogeogbjaaDoorLexSame
namespace Go.Proofs.YtekaplogeogbjaaDoor
open Go.RowKit

theorem scan_ok (s : ByteArray) (w : World) (hs : s.size ≤ 137438953472) (hsig : SignsIn w) {ts : List Tok} (h : scanOut s.data.toList = .ok ts) :
    Calls Tryd.prog 10 #[.string s] w fun e w' => ∃ v, e = .returned (.tuple #[v, .int .i64 0, .int .i64 0]) ∧ ToksIn w' v ts ∧ Below w.heap.size w w' := by
  refine (scan_any s w hs hsig).mono ?_
  rw [h]
  rintro e w' ⟨v, rfl, ho, hb⟩
  exact ⟨v, rfl, toksIn_own ho, hb⟩
theorem scan_err' (s : ByteArray) (w : World) (hs : s.size ≤ 137438953472) (hsig : SignsIn w) {p x : Nat} (h : scanOut s.data.toList = .error (p, x)) (pi xi : Int) (hp : pi = p) (hx : xi = x) :
    Calls Tryd.prog 10 #[.string s] w fun e w' => ∃ a cap, e = .returned (.tuple #[.slice a 0 cap, .int .i64 pi, .int .i64 xi]) ∧ Below w.heap.size w w' := by
  subst hp hx
  refine (scan_any s w hs hsig).mono ?_
  rw [h]
  rintro e w' ⟨v, rfl, ho, hb⟩
  rcases ho.2 with ⟨rfl, h0⟩ | ⟨g, cap, cur, rfl, _⟩
  · exact ⟨none, 0, rfl, hb⟩
  · exact ⟨_, cap, rfl, hb⟩

theorem toksIn_lit (w : World) (ts : List Tok) : ToksIn (w.alloc (.cells (toksCells ts).toArray 32)) (.slice (some ⟨w.heap.size, 0, none⟩) ts.length ts.length) ts := by
  refine ⟨_, _, rfl, fun k hk => ⟨w.heap.size, 0, rfl, by simp, fun j u hj => ?_⟩⟩
  have hx : ts[k]? = some (ts[k]'hk) := List.getElem?_eq_getElem hk
  dsimp only at hj
  rw [hx] at hj
  simp only [Option.map_some, Option.getD_some] at hj
  have hjs : j < 4 := by
    rcases Nat.lt_or_ge j 4 with h' | h'
    · exact h'
    · rw [List.getElem?_eq_none (by simpa [tokCells] using h')] at hj; cases hj
  rw [Nat.zero_add, Lib.cell_of_heap (heap_new w _)]
  show (toksCells ts).toArray[k * 4 + j]? = some u
  rw [List.getElem?_toArray, toksCells, flat_get tokCells 4 ts (fun _ _ => rfl) k _ hx j hjs]
  exact hj

def exA : Bytes := [97, 49, 32, 61, 32, 34, 120, 92, 34, 121, 34, 59, 32, 35, 32, 122]
def exWant : List Tok := [⟨0, [97, 49], 0, 0⟩, ⟨3, [61], 0, 3⟩, ⟨2, [120, 34, 121], 0, 5⟩, ⟨3, [59], 0, 11⟩]
def exB : List Tok := [⟨0, [102], 0, 0⟩, ⟨3, [40], 0, 1⟩, ⟨1, [50], 2, 2⟩, ⟨3, [44], 0, 3⟩, ⟨2, [97], 0, 4⟩, ⟨3, [41], 0, 7⟩]
theorem r1 : scanOut exA = .ok exWant := by kernel_rfl
theorem r2 : scanOut [120, 32, 48, 48, 55] = .error (2, 3) := by kernel_rfl
theorem r3 : scanOut [97, 32, 62, 32, 98] = .error (2, 10) := by kernel_rfl
theorem r4 : scanOut [34, 97, 98] = .error (0, 2) := by kernel_rfl
theorem r5 : scanOut [102, 40, 50, 44, 34, 97, 34, 41] = .ok exB := by kernel_rfl
theorem n1 : numRes [49, 50] = .tuple #[.int .i64 12, .bool true] := by kernel_rfl
theorem n2 : numRes [48, 49, 50] = .tuple #[.int .i64 0, .bool false] := by kernel_rfl
theorem m1 : nameOk [97, 95, 49] = true := by kernel_rfl
theorem m2 : nameOk [49, 97] = false := by kernel_rfl
theorem p1 : printL exB = [102, 32, 40, 32, 50, 32, 44, 32, 34, 97, 34, 32, 41] := by kernel_rfl

set_option maxHeartbeats 4000000 in
set_option maxRecDepth 100000 in
theorem sane_any (w : World) (hsig : SignsIn w) :
    Calls Tryd.prog 9 #[] w fun e w' => e = .returned (.bool true) ∧ Below w.heap.size w w' := by
  have HS := Lib.hid hsig; clear hsig
  go_enter Tryd.func9, Tryd.ntmps9
  go_wp2_with fail
  refine (scan_ok ⟨#[97, 49, 32, 61, 32, 34, 120, 92, 34, 121, 34, 59, 32, 35, 32, 122]⟩ _ (by decide) HS.out r1).mono ?_
  rintro e w1 ⟨va, rfl, ha, b1⟩
  have HA := Lib.hid ha; clear ha
  have B1 := Lib.hid b1; clear b1
  go_wp2_with fail
  refine (scan_err' ⟨#[120, 32, 48, 48, 55]⟩ _ (by decide) (HS.out.keep B1.out) r2 2 3 rfl rfl).mono ?_
  rintro e w2 ⟨a2, c2, rfl, b2⟩
  have HA2 := Lib.hid (HA.out.keep b2); clear HA
  have B2 := Lib.hid (B1.out.trans (b2.mono B1.out.size)); clear b2 B1
  go_wp2_with fail
  refine (scan_err' ⟨#[97, 32, 62, 32, 98]⟩ _ (by decide) (HS.out.keep B2.out) r3 2 10 rfl rfl).mono ?_
  rintro e w3 ⟨a3, c3, rfl, b3⟩
  have HA3 := Lib.hid (HA2.out.keep b3); clear HA2
  have B3 := Lib.hid (B2.out.trans (b3.mono B2.out.size)); clear b3 B2
  go_wp2_with fail
  refine (scan_err' ⟨#[34, 97, 98]⟩ _ (by decide) (HS.out.keep B3.out) r4 0 2 rfl rfl).mono ?_
  rintro e w4 ⟨a4, c4, rfl, b4⟩
  have HA4 := Lib.hid (HA3.out.keep b4); clear HA3
  have B4 := Lib.hid (B3.out.trans (b4.mono B3.out.size)); clear b4 B3
  go_wp2_with fail
  refine (scan_ok ⟨#[102, 40, 50, 44, 34, 97, 34, 41]⟩ _ (by decide) (HS.out.keep B4.out) r5).mono ?_
  rintro e w5 ⟨vb, rfl, hb, b5⟩
  have HB := Lib.hid hb; clear hb
  have HA5 := Lib.hid (HA4.out.keep b5); clear HA4
  have B5 := Lib.hid (B4.out.trans (b5.mono B4.out.size)); clear b5 B4
  go_wp2_with fail
  refine (number_any ⟨#[49, 50]⟩ _ (by unfold maxLen; decide)).mono ?_
  rintro e w6 ⟨rfl, rfl⟩
  rw [show (⟨#[49, 50]⟩ : ByteArray).data.toList = [49, 50] from rfl, n1]
  go_wp2_with fail
  refine (number_any ⟨#[48, 49, 50]⟩ _ (by unfold maxLen; decide)).mono ?_
  rintro e w6 ⟨rfl, rfl⟩
  rw [show (⟨#[48, 49, 50]⟩ : ByteArray).data.toList = [48, 49, 50] from rfl, n2]
  go_wp2_with fail
  have b6 := (Below.refl _ w5).alloc (Nat.le_refl _) (.cells (toksCells exWant).toArray 32)
  refine (same_true _ _ exWant _ (HA5.out.keep b6) (toksIn_lit w5 exWant) (by decide)).mono ?_
  rintro e w6 ⟨rfl, b7⟩
  have HB6 := Lib.hid ((HB.out.keep b6).keep b7); clear HB HA5
  have B6 := Lib.hid ((B5.out.trans (b6.mono B5.out.size)).trans (b7.mono (Nat.le_trans B5.out.size b6.size))); clear b6 b7 B5
  go_wp2_with fail
  refine (print_any _ exB _ HB6.out (by decide) (by decide) (by rw [p1]; decide)).mono ?_
  rintro e w7 ⟨rfl, b7⟩
  rw [p1]
  have B7 := Lib.hid (B6.out.trans (b7.mono B6.out.size)); clear b7 B6
  go_wp2_with fail
  refine (name_any ⟨#[97, 95, 49]⟩ _ (by unfold maxLen; decide)).mono ?_
  rintro e w8 ⟨rfl, rfl⟩
  rw [show (⟨#[97, 95, 49]⟩ : ByteArray).data.toList = [97, 95, 49] from rfl, m1]
  go_wp2_with fail
  refine (name_any ⟨#[49, 97]⟩ _ (by unfold maxLen; decide)).mono ?_
  rintro e w8 ⟨rfl, rfl⟩
  rw [show (⟨#[49, 97]⟩ : ByteArray).data.toList = [49, 97] from rfl, m2]
  go_wp2_with fail
  go_ret
  exact ⟨rfl, B7.out⟩
end Go.Proofs.YtekaplogeogbjaaDoor
