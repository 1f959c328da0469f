/- Contracts for the laws of big integers -/
import Derived.Test.YtlinegodpoihoaaDoorLaw04a
namespace Go.Proofs.YtlinegodpoihoaaDoor
open Go.RowKit Go.Lib
variable {G : Nat}

theorem bigRight_len {s : Int} {a : Option Addr} {n c : Nat} {l : List Int} {b : Bool} {w : World} (h : RdZ w (.slice a n c) l) (hn : n ≤ 1099511627776) (hb : rightB s l = b) :
    Calls Tryd.prog 11 #[.agg #[.int .i64 s, .slice a n c]] w fun e w' => e = .returned (.bool b) ∧ Below w.heap.size w w' := by
  obtain ⟨a', c', hv, hc⟩ := h
  cases hv
  exact bigRight_raw ⟨_, _, rfl, hc⟩ hn hb
theorem few_sz {x m : Int} {n : Nat} (h : Sz x n) (hm : m = (n : Int)) : decide ((ln x : Int) ≤ m) = true := by
  have : ln x ≤ n := h
  exact decide_eq_true (by omega)
theorem few_sz_of {x m : Int} {n : Nat} (h : decide ((ln x : Int) ≤ m) = true) (hm : m = (n : Int)) : Sz x n := by
  have := of_decide_eq_true h
  show ln x ≤ n; omega
theorem bigCompare_is {x y k : Int} {a1 a2 : Option Addr} {c1 c2 : Nat} {w : World} (h1 : BD G w a1 c1 x) (h2 : BD G w a2 c2 y) (hx : Sz x 549755813888) (hy : Sz y 549755813888) (hk : ord x y = k) :
    Calls Tryd.prog 23 #[.agg #[.int .i64 (sg x), .slice a1 (ln x) c1], .agg #[.int .i64 (sg y), .slice a2 (ln y) c2]] w fun e w' => e = .returned (.int .i64 k) ∧ Below w.heap.size w w' := by
  rw [← hk]; exact bigCompare_ok h1 h2 hx hy
theorem bigSub_k {x y k : Int} {a1 a2 : Option Addr} {c1 c2 : Nat} {w : World} (h1 : BD G w a1 c1 x) (h2 : BD G w a2 c2 y) (hG : G ≤ w.heap.size) (hx : Sz x 549755813888) (hy : Sz y 549755813888) (hk : sg (x - y) = k) :
    Calls Tryd.prog 22 #[.agg #[.int .i64 (sg x), .slice a1 (ln x) c1], .agg #[.int .i64 (sg y), .slice a2 (ln y) c2]] w fun e w' => ∃ a c, e = .returned (.tuple #[.agg #[.int .i64 k, .slice a (ln (x - y)) c], .int .i64 0]) ∧ BD G w' a c (x - y) ∧ Below w.heap.size w w' := by
  have := bigSub_ok h1 h2 hG hx hy
  rw [hk] at this; exact this

end Go.Proofs.YtlinegodpoihoaaDoor
