/- Two integers in memory that are a fraction's parts. -/
import Derived.Test.YtcfmakpckdicjaaGreatDoorBigS
namespace Go.Proofs.YtcfmakpckdicjaaGreatDoor
open Go.RowKit
variable {G : Nat}

open Rat in
/-- The two parts of a fraction. -/
def nu (q : Rat) : Int := q.num
def de (q : Rat) : Int := (q.den : Int)
/-- Two slices read as a fraction's parts. -/
structure FD (G : Nat) (w : World) (a : Option Addr) (c : Nat) (b : Option Addr) (d : Nat) (q : Rat) : Prop where
  n : BD G w a c (nu q)
  d : BD G w b d (de q)
theorem FD.keep {w w' : World} {a b : Option Addr} {c d : Nat} {q : Rat} (h : FD G w a c b d q) (hb : Below w.heap.size w w') : FD G w' a c b d q := ⟨h.n.keep hb, h.d.keep hb⟩
theorem FD.far0 {w w' : World} {g : Nat} {T : TypeId} {cs : Array Value} {a b : Option Addr} {c d : Nat} {q : Rat} (h : FD G w a c b d q) (k : Bx w g T cs) (hz : Zb cs) (hg : w.grownBy w' (some g)) : FD G w' a c b d q := ⟨h.n.far0 k hz hg, h.d.far0 k hz hg⟩
theorem FD.far {w w' : World} {g : Nat} {T : TypeId} {cs : Array Value} {a b : Option Addr} {c d : Nat} {q : Rat} (h : FD G w a c b d q) (k : Bx w g T cs) (hT : (T == 3) = false) (hG : G ≤ g) (hg : w.grownBy w' (some g)) : FD G w' a c b d q := ⟨h.n.far k hT hG hg, h.d.far k hT hG hg⟩
theorem FD.up {G' : Nat} {w : World} {a b : Option Addr} {c d : Nat} {q : Rat} (h : FD G w a c b d q) (hG : G ≤ G') : FD G' w a c b d q := ⟨h.n.up hG, h.d.up hG⟩
def Fz (q : Rat) (n : Nat) : Prop := Sz (nu q) n ∧ Sz (de q) n
theorem Fz.mono {q : Rat} {n m : Nat} (h : Fz q n) (hm : n ≤ m) : Fz q m := ⟨h.1.mono hm, h.2.mono hm⟩
theorem de_pos (q : Rat) : 0 < de q := by have := q.den_pos; unfold de; omega
theorem sg_de (q : Rat) : sg (de q) = 1 := sg_pos (de_pos q)
theorem gcd_parts (q : Rat) : Nat.gcd (nu q).natAbs (de q).natAbs = 1 := q.reduced

theorem new_parts {x y : Int} (hy : 0 < y) : ∃ g : Int, 0 < g ∧ ((Nat.gcd x.natAbs y.natAbs : Nat) : Int) = g ∧ x = g * nu (Rat.divInt x y) ∧ y = g * de (Rat.divInt x y) := by
  refine ⟨(Nat.gcd x.natAbs y.natAbs : Nat), ?_, rfl, ?_, ?_⟩
  · have := Nat.gcd_pos_of_pos_right x.natAbs (show 0 < y.natAbs by omega); omega
  · unfold nu
    rw [Rat.num_divInt, Int.sign_eq_one_of_pos hy, Int.one_mul]
    have h : ((y.gcd x : Nat) : Int) ∣ x := Int.gcd_dvd_right ..
    rw [show Nat.gcd x.natAbs y.natAbs = y.gcd x by rw [Nat.gcd_comm]; rfl]
    rw [Int.mul_ediv_cancel' h]
  · unfold de
    rw [Rat.den_divInt, if_neg (by omega)]
    have h : y.gcd x ∣ y.natAbs := Nat.gcd_dvd_left ..
    rw [show Nat.gcd x.natAbs y.natAbs = y.gcd x by rw [Nat.gcd_comm]; rfl]
    have := Nat.mul_div_cancel' h
    have h2 : ((y.gcd x * (y.natAbs / y.gcd x) : Nat) : Int) = (y.natAbs : Int) := by rw [this]
    rw [Int.natCast_mul] at h2
    omega
theorem sz_factor {x g q : Int} {n : Nat} (h : x = g * q) (hg : 0 < g) (hx : Sz x n) : Sz q n := by
  refine hx.le ?_
  rw [h, Int.natAbs_mul]
  exact Nat.le_mul_of_pos_left _ (by omega)
theorem new_size {x y : Int} {n : Nat} (hy : 0 < y) (hx : Sz x n) (hy' : Sz y n) : Fz (Rat.divInt x y) n := by
  obtain ⟨g, hg, -, h1, h2⟩ := new_parts (x := x) hy
  exact ⟨sz_factor h1 hg hx, sz_factor h2 hg hy'⟩
end Go.Proofs.YtcfmakpckdicjaaGreatDoor
