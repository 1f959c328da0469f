/- Walks: the writer writes lists of expressions. -/
import Derived.Test.YtckgmilmhofekaaGreatDoorLexLaws
import Derived.Test.YtckgmilmhofekaaGreatDoorFoBack
import Derived.Test.YtckgmilmhofekaaGreatDoorBase
import Derived.Test.YtckgmilmhofekaaGreatDoorLexBytes
import Derived.Test.YtckgmilmhofekaaGreatDoorLexPrint
import Derived.Test.YtckgmilmhofekaaGreatDoorBigSpec
import Derived.Test.YtckgmilmhofekaaGreatDoorBigD
import Derived.Test.YtckgmilmhofekaaGreatDoorBigQ
import Derived.Test.YtckgmilmhofekaaGreatDoorFd
import Derived.Test.YtckgmilmhofekaaGreatDoorHeld
import Derived.Test.YtckgmilmhofekaaGreatDoorOwn
import Derived.Test.YtckgmilmhofekaaGreatDoorFoWd
import Derived.Test.YtckgmilmhofekaaGreatDoorFoOx
import Derived.Test.YtckgmilmhofekaaGreatDoorFoCn
import Derived.Test.YtckgmilmhofekaaGreatDoorProg
import Derived.Test.YtckgmilmhofekaaGreatDoorShelf
import Derived.WalkKit
import Derived.Lib.ItoaNum
import Derived.WalkSpells
import Derived.WalkLawsBesides
import Derived.Handy
import Derived.Lib.Hide
import Derived.Lib.Strings
import Derived.Lib.Builder
import Derived.Shelf.Strings.Builder1
import Derived.BigQuiet
import Derived.OwnWalk
import Derived.Laws.BitsLemmas
import Derived.WalkSmall
import Derived.Deep.QuietTactic
import Derived.StillTailTactics
import Derived.Maps.AppendAt
import Derived.IntWalk
import Derived.Deep.RegionHeld3
import Derived.Deep.DeepFit
import Derived.Deep.LoopGhost
import Derived.Deep.DeepCutAuto
import Derived.Lib.Repeat
import Derived.Lib.AppendIntMem
import Derived.Sort.OwnSorted
import Derived.Shelf.Strings.SlTrimAscii
import Derived.Lib.ConvBytes
import Derived.Lib.CutLaws
import Derived.ArgAppend
namespace Go.Proofs.YtckgmilmhofekaaGreatDoor
open Go.RowKit

theorem shF_cons (x : Ex) (r : Fo) : shF (x.then r) = (shF (x.then .nil) && shF r) := by
 unfold Ex.then; rw [shF, shF]; simp [shF]
theorem shF_one (x : Ex) : shF (x.then .nil) = (nodeB x.op x.n x.unit x.name x.args.len && shF x.args) := by
 unfold Ex.then; rw [shF]; simp [shF]
/-- How 'shaped' answers for expressions with these arguments. -/
def ShOK (a : Fo) : Prop := ∀ (D : Nat → Prop) (w : World) (op n : Int) (u m : Bytes) (q : Option Addr) (d : Nat), u.length ≤ 9223372036854775807 → m.length ≤ 9223372036854775807 → smF a → a.len ≤ 9223372036854775807 → FoS D w q d a →
 Calls Tryz.prog 37 #[.agg (hdC ⟨op, n, u, m, a⟩ q d).toArray] w fun e w' => e = .returned (.bool (shF ((Ex.mk op n u m a).then .nil))) ∧ Below w.heap.size w w'
set_option maxRecDepth 100000 in
set_option maxHeartbeats 4000000 in
theorem wrong_ok {D : Nat → Prop} {w : World} {op n : Int} {u m : Bytes} {a : Fo} {q : Option Addr} {d : Nat} (hi : ShOK a) (hu : u.length ≤ 9223372036854775807) (hm : m.length ≤ 9223372036854775807) (hsm : smF a) (hal : a.len ≤ 9223372036854775807) (hS : FoS D w q d a) :
  Calls Tryz.prog 71 #[.agg (hdC ⟨op, n, u, m, a⟩ q d).toArray] w fun e w' => e = .returned (.bool (!shF ((Ex.mk op n u m a).then .nil))) ∧ Below w.heap.size w w' := by
 have S := Lib.hid hS; have HI := Lib.hid hi
 have G : Hid (Below w.heap.size w w) := be_refl w
 clear hS hi
 unfold hdC
 go_enter Tryz.func71, Tryz.ntmps71
 go_upto_region 1 with fail
 refine nmW (w.alloc (.cells #[.int .i64 op, .int .i64 n, .string ⟨u.toArray⟩, .string ⟨m.toArray⟩, .slice q a.len d] 24)) fun w1 hv => ?_
 rw [← hv]
 have K := bxh hv
 have hb_ := bah hv
 clear hv
 replace S := Lib.hid (S.out.keep hb_)
 replace G := Lib.hid (be_call G.out hb_)
 clear hb_
 have c0 := K.out.at.1 0; have c1 := K.out.at.1 1; have c2 := K.out.at.1 2; have c3 := K.out.at.1 3; have c4 := K.out.at.1 4
 have HC := Lib.hid (HI.out D w1 op n u m q d hu hm hsm hal S.out)
 unfold hdC at HC
 go_wp2_with fail
 clear c0 c1 c2 c3 c4
 refine HC.out.mono ?_
 rintro e w2 ⟨rfl, b2⟩
 replace G := Lib.hid (be_call G.out b2)
 clear b2
 go_wp2_with fail
 go_ret
 exact ⟨rfl, G.out⟩
set_option maxRecDepth 100000 in
set_option maxHeartbeats 4000000 in
theorem index_ok {a : Fo} (hi : ∀ x ∈ a.list, ShOK x.args) (hsm : smF a) (hal : a.len ≤ 9223372036854775807) {D : Nat → Prop} {w : World} {q : Option Addr} {d : Nat} (hS : FoS D w q d a) :
    Calls Tryz.prog 104 #[.slice q a.len d, .func (.func 71) #[] #[]] w fun e w' => (∃ j : Int, e = .returned (.int .i64 j) ∧ (decide (0 ≤ j) = !shF a)) ∧ Below w.heap.size w w' := by
  have S := Lib.hid hS; have HI := Lib.hid hi; have SM := Lib.hid hsm
  have G : Hid (Below w.heap.size w w) := be_refl w
  clear hS hi hsm
  go_enter Tryz.func104, Tryz.ntmps104
  go_wp2_with fail
  have hR0 : Hid (shF a = shF (Fo.of (a.list.drop 0))) := by show _ = _; rw [List.drop_zero, Fo.of_list]
  go_loopw [8] (fun i wr => ∃ (j : Nat), i = .int .i64 (j : Int) ∧ j ≤ a.len ∧ Hid (shF a = shF (Fo.of (a.list.drop j))) ∧ Hid (FoS D wr q d a) ∧ Hid (Below w.heap.size w wr)) (fun i _ => a.len - (intOf i).toNat)
  case atStart => exact ⟨0, rfl, Nat.zero_le _, hR0, S, G⟩
  case round =>
    obtain ⟨j, rfl, hj, HR, S, G⟩ := hrel
    clear hR0
    have hz := G.out.size
    by_cases hlt : j < a.len
    · obtain ⟨x, hx⟩ : ∃ x, a.list[j]? = some x := ⟨_, List.getElem?_eq_getElem (by rw [Fo.len_list]; exact hlt)⟩
      obtain ⟨b, o, q2, d2, rfl, hb, hcell, hs⟩ := S.out.at hx
      have HX := Lib.hid hx; have HS2 := Lib.hid hs; clear hx hs
      have c0 : wr.cell? ⟨b, o + j * 5, none⟩ = some (.int .i64 x.op) := by have := hcell 0 _ rfl; rw [Nat.mul_comm] at this; exact this
      have c1 : wr.cell? ⟨b, o + j * 5 + 1, none⟩ = some (.int .i64 x.n) := by have := hcell 1 _ rfl; rw [Nat.mul_comm] at this; exact this
      have c2 : wr.cell? ⟨b, o + j * 5 + 2, none⟩ = some (.string ⟨x.unit.toArray⟩) := by have := hcell 2 _ rfl; rw [Nat.mul_comm] at this; exact this
      have c3 : wr.cell? ⟨b, o + j * 5 + 3, none⟩ = some (.string ⟨x.name.toArray⟩) := by have := hcell 3 _ rfl; rw [Nat.mul_comm] at this; exact this
      have c4 : wr.cell? ⟨b, o + j * 5 + 4, none⟩ = some (.slice q2 x.args.len d2) := by have := hcell 4 _ rfl; rw [Nat.mul_comm] at this; exact this
      clear hcell
      have hjl : (j : Int) < (a.len : Int) := by omega
      have HLT := Lib.hid hlt
      have hsx := SM.out.mem (List.mem_of_getElem? HX.out)
      obtain ⟨sb, hsb⟩ : ∃ sb, shF (x.then .nil) = sb := ⟨_, rfl⟩
      have HC := Lib.hid (wrong_ok (D := D) (w := wr) (op := x.op) (n := x.n) (HI.out x (List.mem_of_getElem? HX.out)) hsx.1 hsx.2.1 hsx.2.2.2 hsx.2.2.1 HS2.out)
      rw [show shF ((Ex.mk x.op x.n x.unit x.name x.args).then .nil) = sb from hsb] at HC
      have HSB := Lib.hid hsb; clear hsb hsx
      unfold hdC at HC
      go_wp2_with fail
      clear c0 c1 c2 c3 c4
      refine HC.out.mono ?_
      rintro e w4 ⟨rfl, b2⟩
      replace S := Lib.hid (S.out.keep b2)
      replace G := Lib.hid (be_call G.out b2)
      clear b2 HS2 HC
      have HRN : Hid (shF a = (sb && shF (Fo.of (a.list.drop (j + 1))))) := by
        show _ = _; rw [HR.out, drop_list HX.out, shF_cons, HSB.out]
      cases sb with
      | false =>
        have HF : Hid (shF a = false) := by show _ = _; rw [HRN.out]; rfl
        go_wp2_with fail
        go_ret
        exact ⟨⟨j, rfl, by rw [HF.out]; simp⟩, G.out⟩
      | true =>
        have HT : Hid (shF a = shF (Fo.of (a.list.drop (j + 1)))) := by show _ = _; rw [HRN.out]; rfl
        go_wp2_with fail
        go_roundw
        case rel => exact ⟨j + 1, by go_num, HLT.out, HT, S, G⟩
        case measure => have := HLT.out; simp [intOf]; omega
    · have hje : j = a.len := by omega
      have hjl : ¬ (j : Int) < (a.len : Int) := by omega
      have HT : Hid (shF a = true) := by show _ = _; rw [HR.out, hje, ← Fo.len_list, List.drop_length]; rfl
      go_wp2_with fail
      go_ret
      exact ⟨⟨-1, rfl, by rw [HT.out]; rfl⟩, G.out⟩
set_option maxRecDepth 100000 in
set_option maxHeartbeats 4000000 in
theorem contains_ok {a : Fo} (hi : ∀ x ∈ a.list, ShOK x.args) (hsm : smF a) (hal : a.len ≤ 9223372036854775807) {D : Nat → Prop} {w : World} {q : Option Addr} {d : Nat} (hS : FoS D w q d a) :
  Calls Tryz.prog 73 #[.slice q a.len d, .func (.func 71) #[] #[]] w fun e w' => e = .returned (.bool (!shF a)) ∧ Below w.heap.size w w' := by
 have HC := Lib.hid (index_ok hi hsm hal hS)
 obtain ⟨r, hr⟩ : ∃ r, (!shF a) = r := ⟨_, rfl⟩
 rw [hr] at HC
 rw [hr]
 clear hS hi hsm hr
 go_enter Tryz.func73, Tryz.ntmps73
 go_wp2_with fail
 refine HC.out.mono ?_
 rintro e w1 ⟨⟨j, rfl, hj⟩, hb⟩
 have HJ := Lib.hid hj; have HB := Lib.hid hb
 clear hj hb HC
 go_wp2_with fail
 go_ret
 exact ⟨by rw [← HJ.out]; rfl, HB.out⟩
set_option maxRecDepth 100000 in
set_option maxHeartbeats 4000000 in
theorem shaped_step {a : Fo} (hi : ∀ x ∈ a.list, ShOK x.args) {D : Nat → Prop} {w : World} {op n : Int} {u m : Bytes} {q : Option Addr} {d : Nat} (hu : u.length ≤ 9223372036854775807) (hm : m.length ≤ 9223372036854775807) (hsm : smF a) (hal : a.len ≤ 9223372036854775807) (hS : FoS D w q d a) :
  Calls Tryz.prog 37 #[.agg (hdC ⟨op, n, u, m, a⟩ q d).toArray] w fun e w' => e = .returned (.bool (shF ((Ex.mk op n u m a).then .nil))) ∧ Below w.heap.size w w' := by
 rw [shF_one]
 show Calls _ _ _ _ fun e w' => e = .returned (.bool (nodeB op n u m a.len && shF a)) ∧ Below w.heap.size w w'
 obtain ⟨nb, hnb⟩ : ∃ nb, nodeB op n u m a.len = nb := ⟨_, rfl⟩
 have HNB := Lib.hid hnb
 rw [hnb]
 have S := Lib.hid hS; have HI := Lib.hid hi; have SM := Lib.hid hsm
 have G : Hid (Below w.heap.size w w) := be_refl w
 clear hS hi hsm hnb
 unfold hdC
 go_enter Tryz.func37, Tryz.ntmps37
 go_upto_region 1 with fail
 refine nmW (w.alloc (.cells #[.int .i64 op, .int .i64 n, .string ⟨u.toArray⟩, .string ⟨m.toArray⟩, .slice q a.len d] 24)) fun w1 hv => ?_
 rw [← hv]
 have K := bxh hv
 have hb_ := bah hv
 clear hv
 replace S := Lib.hid (S.out.keep hb_)
 replace G := Lib.hid (be_call G.out hb_)
 clear hb_
 have c0 := K.out.at.1 0; have c1 := K.out.at.1 1; have c2 := K.out.at.1 2; have c3 := K.out.at.1 3; have c4 := K.out.at.1 4
 go_wp2_with fail
 clear c0 c1 c2 c3 c4
 refine (node_ok hu hm).mono ?_
 rintro e w2 ⟨rfl, b2⟩
 rw [HNB.out]
 replace S := Lib.hid (S.out.keep b2)
 replace G := Lib.hid (be_call G.out b2)
 replace K := Lib.hid (K.out.keep b2)
 clear b2
 have c4 := K.out.at.1 4
 cases nb with
 | false =>
  go_wp2_with fail
  go_ret
  exact ⟨rfl, G.out⟩
 | true =>
  go_wp2_with fail
  clear c4
  refine (contains_ok HI.out SM.out hal S.out).mono ?_
  rintro e w3 ⟨rfl, b3⟩
  replace G := Lib.hid (be_call G.out b3)
  clear b3
  go_wp2_with fail
  go_ret
  exact ⟨by simp, G.out⟩
theorem shaped_all (a : Fo) : ShOK a := Fo.ind (fun _ hi _ _ _ _ _ _ _ _ hu hm hsm hal hS => shaped_step hi hu hm hsm hal hS) a
theorem FoS.inH {D : Nat → Prop} {w : World} {p : Option Addr} {c : Nat} {a : Fo} (h : FoS D w p c a) : FoS (fun b => b < w.heap.size) w p c a :=
 ⟨h.1, h.2.imp id fun ⟨b, o, e, k1, k2, k3⟩ => ⟨b, o, e, k2, k2, FoC.move (fun _ h => h.1) (Nat.le_refl _) (fun _ _ _ _ _ h => h) ⟨k2, k1⟩ k2 (FoC.inHeap k1 k2 k3)⟩⟩
/-- An expression that is not longer than anything can be. -/
def smX (x : Ex) : Prop := x.unit.length ≤ 9223372036854775807 ∧ x.name.length ≤ 9223372036854775807 ∧ x.args.len ≤ 9223372036854775807 ∧ smF x.args
set_option maxRecDepth 100000 in
set_option maxHeartbeats 4000000 in
theorem right_ok {x : Ex} {D : Nat → Prop} {w : World} {q : Option Addr} {d : Nat} (hsm : smX x) (hS : FoS D w q d x.args) :
  Calls Tryz.prog 17 #[.agg (hdC x q d).toArray] w fun e w' => e = .returned (.bool (rightX x)) ∧ Below w.heap.size w w' := by
 obtain ⟨op, n, u, m, a⟩ := x
 unfold rightX
 obtain ⟨hu, hm, hal, hsm⟩ := hsm
 have hu : u.length ≤ 9223372036854775807 := hu
 have hm : m.length ≤ 9223372036854775807 := hm
 have hal : a.len ≤ 9223372036854775807 := hal
 have hsm : smF a := hsm
 have S := Lib.hid hS.inH; have SM := Lib.hid hsm
 have G : Hid (Below w.heap.size w w) := be_refl w
 clear hS hsm
 obtain ⟨R, hR⟩ : ∃ R, cntF ((Ex.mk op n u m a).then .nil) 0 1 = R := ⟨_, rfl⟩
 have HR := Lib.hid hR
 rw [hR]; clear hR
 unfold hdC
 go_enter Tryz.func17, Tryz.ntmps17
 go_upto_region 1 with fail
 refine nmW (w.alloc (.cells #[.int .i64 op, .int .i64 n, .string ⟨u.toArray⟩, .string ⟨m.toArray⟩, .slice q a.len d] 24)) fun w1 hv => ?_
 rw [← hv]
 have K := bxh hv
 have hb_ := bah hv
 have hz1 : w1.heap.size = w.heap.size + 1 := by rw [hv]; simp
 clear hv
 replace S := Lib.hid (S.out.keep hb_)
 replace G := Lib.hid (be_call G.out hb_)
 clear hb_
 go_upto_region 2 with fail
 refine nmW (w1.alloc (.cells #[.int .i64 0] 3)) fun w2 hv => ?_
 rw [← hv]
 have N : Hid (Bx w2 (w.heap.size + 1) 3 #[.int .i64 0]) := by show Bx _ _ _ _; rw [hv, ← hz1]; exact bx1 w1 _ _
 have hb_ := bah hv
 clear hv
 replace S := Lib.hid (S.out.keep hb_)
 replace G := Lib.hid (be_call G.out hb_)
 replace K := Lib.hid (K.out.keep hb_)
 clear hb_
 have c0 := K.out.at.1 0; have c1 := K.out.at.1 1; have c2 := K.out.at.1 2; have c3 := K.out.at.1 3; have c4 := K.out.at.1 4
 have HC := Lib.hid (count_all a _ w2 op n u m q d (w.heap.size + 1) 0 1 SM.out hal S.out (by omega) N.out (by omega) (by omega))
 rw [HR.out, show ((1 : Nat) : Int) = 1 from rfl] at HC
 unfold hdC at HC
 go_wp2_with fail
 clear c0 c1 c2 c3 c4
 refine HC.out.mono ?_
 rintro e w3 ⟨k2, rfl, n3, g3, -⟩
 replace S := Lib.hid (S.out.grown g3 (by omega))
 replace K := Lib.hid (K.out.only g3 (by omega))
 have hB3 := gr_to g3 (G := w.heap.size) (by omega) G.out.size
 have G3 : Hid (Below w.heap.size w w3) := G.out.trans hB3
 clear n3 g3 HC G hB3
 have c0 := K.out.at.1 0; have c1 := K.out.at.1 1; have c2 := K.out.at.1 2; have c3 := K.out.at.1 3; have c4 := K.out.at.1 4
 cases R with
 | none =>
  simp only [Option.isSome_none]
  go_wp2_with fail
  go_ret
  exact ⟨by simp, G3.out⟩
 | some k3 =>
  simp only [Option.isSome_some]
  have HC := Lib.hid (shaped_all a _ w3 op n u m q d hu hm SM.out hal S.out)
  unfold hdC at HC
  go_wp2_with fail
  clear c0 c1 c2 c3 c4
  refine HC.out.mono ?_
  rintro e w4 ⟨rfl, b4⟩
  replace G3 := Lib.hid (be_call G3.out b4)
  clear b4
  go_wp2_with fail
  go_ret
  exact ⟨by simp, G3.out⟩
end Go.Proofs.YtckgmilmhofekaaGreatDoor
namespace Go.Proofs.YtckgmilmhofekaaGreatDoor
open Go.RowKit

def hvT : List Tok → Nat
 | [] => 0
 | t :: r => t.text.length + 1 + hvT r
def hvF : Fo → Nat
 | .nil => 0
 | .cons _ _ u m a r => u.length + m.length + hvF a + 1 + hvF r
def hvX (x : Ex) : Nat := x.unit.length + x.name.length + hvF x.args + 1
theorem hvX_mk (op n : Int) (u m : Bytes) (a : Fo) : hvX ⟨op, n, u, m, a⟩ = u.length + m.length + hvF a + 1 := rfl
theorem hvF_nil : hvF .nil = 0 := rfl
theorem hvF_then (x : Ex) (f : Fo) : hvF (x.then f) = hvX x + hvF f := rfl
theorem hvT_cons (t : Tok) (r : List Tok) : hvT (t :: r) = t.text.length + 1 + hvT r := rfl
/-- What is read, together with what is left, is not heavier than what there was. -/
def LiX (l : List Tok) (R : PR) : Prop := ∀ x r, R = .ok (x, r) → hvX x + hvT r ≤ hvT l
def LiF (l : List Tok) (k : Nat) (R : PL) : Prop := ∀ f r, R = .ok (f, r) → hvF f + hvT r + k ≤ hvT l
def Light (E : List Tok → PR) : Prop := ∀ l, LiX l (E l)
theorem need_w {q : Nat} {s : Bytes} {l r : List Tok} (h : needP q s l = .ok r) : hvT r + 1 ≤ hvT l := by
  unfold needP at h
  split at h
  · rename_i h2
    obtain ⟨t, r', rfl, -, -⟩ := isT_cons h2
    have h := Except.ok.inj h
    rw [← h, List.tail_cons, hvT_cons]; omega
  · cases h
theorem isT_w {q : Nat} {s : Bytes} {l : List Tok} (h : isT q s l = true) : hvT l.tail + 1 ≤ hvT l := by
 obtain ⟨t, r', rfl, -, -⟩ := isT_cons h
 rw [List.tail_cons, hvT_cons]; omega
theorem name_w {l r : List Tok} {m : Bytes} (h : nameP l = .ok (m, r)) : m.length + 1 + hvT r ≤ hvT l := by
  cases l with
  | nil => cases h
  | cons t l =>
    rw [nameP_cons] at h
    split at h
    · have h := Prod.mk.inj (Except.ok.inj h)
      rw [← h.1, ← h.2, hvT_cons]; exact Nat.le_refl _
    · cases h
theorem more_w {E : List Tok → PR} (h : Light E) : ∀ (k : Nat) (l : List Tok), LiF l 1 (moreP E k l) := by
  intro k
  induction k with
  | zero =>
    intro l f r hr
    unfold moreP at hr
    split at hr
    · rename_i r' hn; cases hr; have := need_w hn; rw [hvF_nil]; omega
    · cases hr
  | succ k ih =>
    intro l f r hr
    unfold moreP at hr
    split at hr
    · cases hr
    rename_i l1 hn
    have h1 := need_w hn
    split at hr
    · cases hr
    rename_i x l2 hq
    have h2 := h l1 _ _ hq
    split at hr
    · cases hr
    rename_i f' l3 hm
    have := ih l2 _ _ hm
    cases hr; rw [hvF_then]; omega
theorem some_w {E : List Tok → PR} (h : Light E) (k : Nat) (l : List Tok) : LiF l 1 (someP E k l) := by
  intro f r hr
  unfold someP at hr
  split at hr
  · cases hr
  rename_i x l2 hq
  have h2 := h l _ _ hq
  split at hr
  · cases hr
  rename_i f' l3 hm
  have := more_w h k l2 _ _ hm
  cases hr; rw [hvF_then]; omega
theorem any_w {E : List Tok → PR} (h : Light E) : ∀ (k : Nat) (l : List Tok), LiF l 1 (anyP E k l) := by
  intro k
  induction k with
  | zero => intro l f r hr; cases hr
  | succ k ih =>
    intro l f r hr
    unfold anyP at hr
    split at hr
    · rename_i hi
      have h1 := isT_w hi
      split at hr
      · cases hr
      rename_i x l2 hq
      have h2 := h _ _ _ hq
      split at hr
      · cases hr
      rename_i f' l3 hm
      have := ih l2 _ _ hm
      cases hr; rw [hvF_then]; omega
    · split at hr
      · rename_i r' hn; cases hr; have := need_w hn; rw [hvF_nil]; omega
      · cases hr
theorem opens_w {E : List Tok → PR} (h : Light E) (op : Int) (k : Nat) (l : List Tok) : LiX l (opensP E op k l) := by
  intro x r hr
  unfold opensP at hr
  split at hr
  · cases hr
  rename_i l1 hn
  have h1 := need_w hn
  split at hr
  · cases hr
  rename_i f l2 hq
  have := some_w h k l1 _ _ hq
  cases hr; rw [hvX_mk]; simp; omega
theorem look_w {E : List Tok → PR} (h : Light E) (l : List Tok) : LiX l (lookP E l) := by
  intro x r hr
  unfold lookP at hr
  split at hr
  · cases hr
  rename_i l1 hn
  have h1 := need_w hn
  split at hr
  · cases hr
  rename_i m l2 hm
  have h2 := name_w hm
  split at hr
  · cases hr
  rename_i l3 hn
  have h3 := need_w hn
  split at hr
  · cases hr
  rename_i f l4 hq
  have := some_w h 0 l3 _ _ hq
  cases hr; rw [hvX_mk]; simp; omega
theorem call_w {E : List Tok → PR} (h : Light E) (m : Bytes) (l : List Tok) : ∀ x r, callP E m l = .ok (x, r) → hvX x + hvT r ≤ m.length + hvT l := by
  intro x r hr
  unfold callP at hr
  split at hr
  · cases hr
  rename_i y l1 hq
  have h1 := h l _ _ hq
  split at hr
  · cases hr
  rename_i f l2 hm
  have := any_w h _ l1 _ _ hm
  cases hr; rw [hvX_mk, hvF_then]; simp; omega
theorem num_w (t : Tok) (r : List Tok) : hvX (numP t r).1 + hvT (numP t r).2 ≤ 1 + hvT r := by
  cases r with
  | nil => exact Nat.le_refl _
  | cons u r =>
    show hvX (if u.kind = 2 then _ else _ : Ex × List Tok).1 + hvT (if u.kind = 2 then _ else _ : Ex × List Tok).2 ≤ _
    split
    · rw [hvX_mk, hvT_cons, hvF_nil]; simp <;> omega
    · rw [hvX_mk, hvF_nil]; simp <;> omega
theorem light_atom {E : List Tok → PR} (h : Light E) : Light (atomP E) := by
  intro l x r hr
  cases l with
  | nil => cases hr
  | cons t l =>
    rw [hvT_cons]
    rw [atomP_cons] at hr
    split at hr
    · have := num_w t l
      have h := Except.ok.inj hr
      rw [h] at this
      have h5 : hvX x + hvT r ≤ 1 + hvT l := this
      omega
    split at hr
    · unfold parenP at hr
      split at hr
      · cases hr
      rename_i x' l1 hq
      have h1 := h _ _ _ hq
      split at hr
      · cases hr
      rename_i l2 hn
      have := need_w hn
      cases hr; omega
    split at hr
    · have := look_w h l _ _ hr; omega
    split at hr
    · have := opens_w h _ _ l _ _ hr; omega
    split at hr
    · have := opens_w h _ _ l _ _ hr; omega
    split at hr
    · split at hr
      · rename_i hi
        have h1 := isT_w hi
        have := call_w h _ _ _ _ hr
        omega
      · have h := Prod.mk.inj (Except.ok.inj hr)
        rw [← h.1, ← h.2, hvX_mk, hvF_nil]; simp <;> omega
    · cases hr
theorem light_expr {A : List Tok → PR} (h : Light A) : Light (exprW A) := by
  intro l x r hr
  unfold exprW at hr
  split at hr
  · rename_i hi
    have h0 := isT_w hi
    split at hr
    · cases hr
    rename_i y l1 hq
    have := h _ _ _ hq
    cases hr; rw [hvX_mk, hvF_then, hvF_nil]; simp; omega
  split at hr
  · rename_i hi
    have h0 := isT_w hi
    unfold ifP at hr
    split at hr
    · cases hr
    rename_i a l1 hq1
    have h1 := h _ _ _ hq1
    split at hr
    · cases hr
    rename_i l2 hn1
    have h2 := need_w hn1
    split at hr
    · cases hr
    rename_i b l3 hq2
    have h3 := h _ _ _ hq2
    split at hr
    · cases hr
    rename_i l4 hn2
    have h4 := need_w hn2
    split at hr
    · cases hr
    rename_i c l5 hq3
    have h5 := h _ _ _ hq3
    cases hr; rw [hvX_mk, hvF_then, hvF_then, hvF_then, hvF_nil]; simp; omega
  split at hr
  · cases hr
  rename_i y l1 hq
  have h1 := h l _ _ hq
  unfold restP at hr
  split at hr
  · cases hr; exact h1
  rename_i op ho
  obtain ⟨t, l2, rfl⟩ := opAt_cons ho
  rw [List.tail_cons] at hr
  rw [hvT_cons] at h1
  split at hr
  · cases hr
  rename_i z l3 hq
  have := h l2 _ _ hq
  cases hr; rw [hvX_mk, hvF_then, hvF_then, hvF_nil]; simp; omega
theorem light_exprP : ∀ f : Nat, Light (exprP f)
 | 0 => fun l x r hr => by cases hr
 | f + 1 => light_expr (light_atom (light_exprP f))
theorem len_hvF : ∀ f : Fo, f.len ≤ hvF f
 | .nil => Nat.le_refl _
 | .cons op n u m a r => by have := len_hvF r; show r.len + 1 ≤ u.length + m.length + hvF a + 1 + hvF r; omega
theorem smF_of : ∀ f : Fo, hvF f ≤ 9223372036854775807 → smF f
 | .nil, _ => trivial
 | .cons op n u m a r, h => by
  have h : u.length + m.length + hvF a + 1 + hvF r ≤ 9223372036854775807 := h
  have := len_hvF a
  exact ⟨⟨by omega, by omega, by omega, smF_of a (by omega)⟩, smF_of r (by omega)⟩
theorem smX_of {x : Ex} (h : hvX x ≤ 9223372036854775807) : smX x := by
 obtain ⟨op, n, u, m, a⟩ := x
 have h : u.length + m.length + hvF a + 1 ≤ 9223372036854775807 := h
 have := len_hvF a
 have h1 : u.length ≤ 9223372036854775807 := by omega
 have h2 : m.length ≤ 9223372036854775807 := by omega
 have h3 : a.len ≤ 9223372036854775807 := by omega
 exact ⟨h1, h2, h3, smF_of a (by omega)⟩
theorem hvT_drop (ts : List Tok) (k : Nat) : hvT (ts.drop k) ≤ hvT ts := by
 induction ts generalizing k with
 | nil => simp
 | cons t r ih => cases k with
  | zero => exact Nat.le_refl _
  | succ k => rw [List.drop_succ_cons, hvT_cons]; have := ih k; omega
theorem hvT_print : ∀ ts : List Tok, hvT ts ≤ (printL ts).length + 1
 | [] => Nat.zero_le _
 | [t] => by have := text_le t; show t.text.length + 1 + 0 ≤ (tokText t).length + 1; omega
 | t :: u :: r => by
  have := hvT_print (u :: r)
  have h2 := text_le t
  show t.text.length + 1 + hvT (u :: r) ≤ (tokText t ++ 32 :: printL (u :: r)).length + 1
  simp; omega
end Go.Proofs.YtckgmilmhofekaaGreatDoor
namespace Go.Proofs.YtckgmilmhofekaaGreatDoor
open Go.RowKit

/-- What Read returns, from the token k on: the expression, the index, the error. -/
def RdRes (ts : List Tok) (k : Nat) (x : Ex) (k' e' : Nat) : Prop := match exprP ((ts.drop k).length + 1) (ts.drop k) with
 | .error r => x = Ex.zero ∧ e' = 12 ∧ r = ts.drop k' ∧ k' ≤ ts.length
 | .ok (y, r) => r = ts.drop k' ∧ k' ≤ ts.length ∧ ((rightX y = true ∧ x = y ∧ e' = 0) ∨ (rightX y = false ∧ x = Ex.zero ∧ e' = 6))
def ReadPost (ts : List Tok) (k : Nat) (w : World) (e : Ending) (w' : World) : Prop :=
 ∃ (x : Ex) (q : Option Addr) (d k' e' : Nat), e = .returned (.tuple #[.agg (hdC x q d).toArray, .int .i64 k', .int .i64 e']) ∧ FoS (mid w w') w' q d x.args ∧ Below w.heap.size w w' ∧ RdRes ts k x k' e'
theorem rdRes_bad {ts : List Tok} {k k1 : Nat} {x : Ex} (h : outR ts (gate false (ts.drop k) (exprP ((ts.drop k).length + 1) (ts.drop k))) x k1 true) (hk : k1 ≤ ts.length) : RdRes ts k Ex.zero k1 12 := by
 rw [gate_false] at h
 unfold outR at h; unfold RdRes
 cases hq : exprP ((ts.drop k).length + 1) (ts.drop k) with
 | error r => rw [hq] at h; exact ⟨rfl, rfl, h.2, hk⟩
 | ok y => obtain ⟨y, r⟩ := y; rw [hq] at h; exact absurd h.2.1 (by decide)
theorem rdRes_full {ts : List Tok} {k k1 : Nat} {x : Ex} (h : outR ts (gate false (ts.drop k) (exprP ((ts.drop k).length + 1) (ts.drop k))) x k1 false) (hk : k1 ≤ ts.length) (hr : rightX x = false) : RdRes ts k Ex.zero k1 6 := by
 rw [gate_false] at h
 unfold outR at h; unfold RdRes
 cases hq : exprP ((ts.drop k).length + 1) (ts.drop k) with
 | error r => rw [hq] at h; exact absurd h.1 (by decide)
 | ok y => obtain ⟨y, r⟩ := y; rw [hq] at h; obtain ⟨rfl, -, h⟩ := h; exact ⟨h, hk, .inr ⟨hr, rfl, rfl⟩⟩
theorem rdRes_ok {ts : List Tok} {k k1 : Nat} {x : Ex} (h : outR ts (gate false (ts.drop k) (exprP ((ts.drop k).length + 1) (ts.drop k))) x k1 false) (hk : k1 ≤ ts.length) (hr : rightX x = true) : RdRes ts k x k1 0 := by
 rw [gate_false] at h
 unfold outR at h; unfold RdRes
 cases hq : exprP ((ts.drop k).length + 1) (ts.drop k) with
 | error r => rw [hq] at h; exact absurd h.1 (by decide)
 | ok y => obtain ⟨y, r⟩ := y; rw [hq] at h; obtain ⟨rfl, -, h⟩ := h; exact ⟨h, hk, .inl ⟨hr, rfl, rfl⟩⟩
theorem out_heavy {ts : List Tok} {k k1 : Nat} {x : Ex} (h : outR ts (gate false (ts.drop k) (exprP ((ts.drop k).length + 1) (ts.drop k))) x k1 false) (hw : hvT ts ≤ 9223372036854775807) : smX x := by
 rw [gate_false] at h
 unfold outR at h
 cases hq : exprP ((ts.drop k).length + 1) (ts.drop k) with
 | error r => rw [hq] at h; exact absurd h.1 (by decide)
 | ok y =>
  obtain ⟨y, r⟩ := y; rw [hq] at h; obtain ⟨rfl, -, h⟩ := h
  have h1 := light_exprP _ _ _ _ hq
  have h2 := hvT_drop ts k
  exact smX_of (by omega)
set_option maxRecDepth 100000 in
set_option maxHeartbeats 4000000 in
theorem read_ok {w : World} {p : Option Addr} {c : Nat} {ts : List Tok} {k : Nat} (hT : ToksIn w (.slice p ts.length c) ts) (hp : ∀ b o, p = some ⟨b, o, none⟩ → b < w.heap.size) (hn : ts.length ≤ 1099511627776) (hk : k ≤ ts.length) (hw : hvT ts ≤ 9223372036854775807) :
  Calls Tryz.prog 15 #[.slice p ts.length c, .int .i64 k] w (ReadPost ts k w) := by
 have T := Lib.hid hT; have HP := Lib.hid hp; have HW := Lib.hid hw
 have B : Hid (Below w.heap.size w w) := be_refl w
 clear hT hp hw
 go_enter Tryz.func15, Tryz.ntmps15
 go_upto_region 1 with fail
 refine nmW (w.alloc (.cells #[.int .i64 0, .int .i64 0, .string ⟨#[]⟩, .string ⟨#[]⟩, .slice none 0 0] 24)) fun w1 hv => ?_
 rw [← hv]
 have K := bxh hv
 have hb_ := bah hv
 clear hv
 have z1_ := K.out.lt
 replace T := Lib.hid (T.out.keep hb_)
 replace B := Lib.hid (be_call B.out hb_)
 have z2_ := hb_.size
 clear hb_
 have h1 : ¬ ((ts.length : Int) < (k : Int)) := by omega
 have h2 : ¬ ((k : Int) < 0) := by omega
 go_upto_region 4 with fail
 clear h1 h2
 refine nmW (w1.alloc (.cells #[.slice p ts.length c, .int .i64 k, .bool false] 61)) fun w2 hv => ?_
 rw [← hv]
 have H0 := bxh hv
 have hb_ := bah hv
 clear hv
 have z3_ := H0.out.lt
 replace T := Lib.hid (T.out.keep hb_)
 replace B := Lib.hid (be_call B.out hb_)
 replace K := Lib.hid (K.out.keep hb_)
 have z4_ := hb_.size
 clear hb_
 have H : Hid (Rd w2 w1.heap.size p c ts k false) := ⟨H0.out, T.out, fun b o e => by have := HP.out b o e; omega, hn, hk⟩
 clear H0
 clear T
 go_wp2_with fail
 refine (eok_all ((ts.drop k).length + 1) _ _ _ H.out (fun _ => Nat.lt_succ_self _)).mono ?_
 rintro e w3 ⟨x, q, d, k1, b1, rfl, hf_, h2_, g2_, ho_⟩
 replace B := Lib.hid (B.out.trans (gr_to g2_ (by omega) B.out.size))
 replace K := Lib.hid (K.out.only g2_ (by omega))
 replace H := Lib.hid h2_
 have z5_ := g2_.size
 clear h2_ g2_
 have F := Lib.hid hf_; have ho := Lib.hid ho_; clear hf_ ho_
 unfold hdC
 go_upto_region 5 with fail
 refine nmW (w3.alloc (.cells #[.int .i64 x.op, .int .i64 x.n, .string ⟨x.unit.toArray⟩, .string ⟨x.name.toArray⟩, .slice q x.args.len d] 24)) fun w4 hv => ?_
 rw [← hv]
 have L := bxh hv
 have hb_ := bah hv
 clear hv
 have z6_ := L.out.lt
 replace B := Lib.hid (be_call B.out hb_)
 replace K := Lib.hid (K.out.keep hb_)
 replace H := Lib.hid (H.out.keep hb_)
 replace F := Lib.hid (F.out.keep hb_)
 have z7_ := hb_.size
 clear hb_
 have HK1 := Lib.hid H.out.le
 have R := Lib.hid H.out.bx
 clear H
 refine R.out.q3 fun pR_0 pR_1 pR_2 => ?_
 cases b1 with
 | true =>
  go_upto_region 6 with fail
  clear pR_0 pR_1 pR_2
  refine nmW w4.drew fun w5 hW => ?_
  have hb_ := bdh hW
  replace B := Lib.hid (be_call B.out hb_)
  replace K := Lib.hid (K.out.keep hb_)
  replace F := Lib.hid (F.out.keep hb_)
  replace L := Lib.hid (L.out.keep hb_)
  replace R := Lib.hid (R.out.keep hb_)
  have z8_ := hb_.size
  clear hb_
  refine wp_region_held_drew (S := (fun w' => w'.cell? ⟨w1.heap.size, 1, none⟩ = some (.int .i64 k1))) (by kernel_rfl) (by rw [← hW]; exact R.out.at.1 1) (fun hH => ?_)
  rw [← hW] at hH ⊢
  clear hW
  refine tk at0 ?_
  refine tk at1 ?_
  refine tk at2 ?_
  refine tk at3 ?_
  refine tk at4 (v := .int .i64 k1) ?_
  refine wpAnyH_ready (rs := [5]) (by kernel_rfl) (by simp) ?_
  refine AllReadyH.cons at5 (fun K_ hK => ?_) AllReadyH.nil
  refine K.out.e5 fun pK_0 qK_0 pK_1 qK_1 pK_2 qK_2 pK_3 qK_3 pK_4 qK_4 => ?_
  go_simp
  clear pK_0 qK_0 pK_1 qK_1 pK_2 qK_2 pK_3 qK_3 pK_4 qK_4
  refine nmW (((((w5.setCell ⟨w.heap.size, 0, none⟩ (.int .i64 0)).setCell ⟨w.heap.size, 1, none⟩ (.int .i64 0)).setCell ⟨w.heap.size, 2, none⟩ (.string ⟨#[]⟩)).setCell ⟨w.heap.size, 3, none⟩ (.string ⟨#[]⟩)).setCell ⟨w.heap.size, 4, none⟩ (.slice none 0 0)) fun w6 hv => ?_
  rw [← hv]
  have og_ : w5.grownBy w6 (some w.heap.size) := by rw [hv]; exact gs5
  have kb_ : Bx w6 w.heap.size 24 #[.int .i64 0, .int .i64 0, .string ⟨#[]⟩, .string ⟨#[]⟩, .slice none 0 0] := by rw [hv]; exact (((((K.out.set 0 _).set 1 _).set 2 _).set 3 _).set 4 _)
  clear hv
  replace B := Lib.hid (B.out.trans (gr_to og_ (by omega) B.out.size))
  replace K := Lib.hid kb_
  replace F := Lib.hid (F.out.grown og_ (fun hd => by have := hd.1; have := hd.2; omega))
  replace L := Lib.hid (L.out.only og_ (by omega))
  replace R := Lib.hid (R.out.only og_ (by omega))
  have z9_ := og_.size
  clear og_ kb_
  refine hK.out _ _ (R.out.at.1 1) (fun hH2 => ?_)
  clear hK K_ hH
  have hH := hH2; clear hH2
  (try simp only [Act.put, kS, kZ, kC])
  refine tk at6 ?_
  refine tk at7 ?_
  refine wpAnyH_done (by kernel_rfl) ?_ _
  clear hH
  go_wp2_with fail
  refine bodyPost_ret (results_box3 rfl _ _ w.heap.size 24 _ _ _ rfl K.out Tryz.underlying24 rfl (by kernel_rfl)) rfl ?_
  exact ⟨Ex.zero, none, 0, k1, 12, rfl, FoS.nil, B.out, rdRes_bad ho.out HK1.out⟩
 | false =>
  have HSX := Lib.hid (out_heavy ho.out HW.out)
  go_upto_region 7 with fail
  clear pR_0 pR_1 pR_2
  refine L.out.q5 fun pL_0 pL_1 pL_2 pL_3 pL_4 => ?_
  go_wp2_with fail
  clear pL_0 pL_1 pL_2 pL_3 pL_4
  obtain ⟨rb, hrb⟩ : ∃ rb, rightX x = rb := ⟨_, rfl⟩
  have HRB := Lib.hid hrb; clear hrb
  have HC := Lib.hid (right_ok HSX.out F.out)
  rw [HRB.out] at HC
  unfold hdC at HC
  refine (HC.out).mono ?_
  rintro e w7 ⟨rfl, hb⟩
  clear HC
  replace B := Lib.hid (be_call B.out hb)
  replace K := Lib.hid (K.out.keep hb)
  replace F := Lib.hid (F.out.keep hb)
  replace L := Lib.hid (L.out.keep hb)
  replace R := Lib.hid (R.out.keep hb)
  have z10_ := hb.size
  clear hb
  cases rb with
  | false =>
   go_upto_region 8 with fail
   refine nmW w7.drew fun w8 hW => ?_
   have hb_ := bdh hW
   replace B := Lib.hid (be_call B.out hb_)
   replace K := Lib.hid (K.out.keep hb_)
   replace F := Lib.hid (F.out.keep hb_)
   replace L := Lib.hid (L.out.keep hb_)
   replace R := Lib.hid (R.out.keep hb_)
   have z11_ := hb_.size
   clear hb_
   refine wp_region_held_drew (S := (fun w' => w'.cell? ⟨w1.heap.size, 1, none⟩ = some (.int .i64 k1))) (by kernel_rfl) (by rw [← hW]; exact R.out.at.1 1) (fun hH => ?_)
   rw [← hW] at hH ⊢
   clear hW
   refine tk at0 ?_
   refine tk at1 ?_
   refine tk at2 ?_
   refine tk at3 ?_
   refine tk at4 (v := .int .i64 k1) ?_
   refine wpAnyH_ready (rs := [5]) (by kernel_rfl) (by simp) ?_
   refine AllReadyH.cons at5 (fun K_ hK => ?_) AllReadyH.nil
   refine K.out.e5 fun pK_0 qK_0 pK_1 qK_1 pK_2 qK_2 pK_3 qK_3 pK_4 qK_4 => ?_
   go_simp
   clear pK_0 qK_0 pK_1 qK_1 pK_2 qK_2 pK_3 qK_3 pK_4 qK_4
   refine nmW (((((w8.setCell ⟨w.heap.size, 0, none⟩ (.int .i64 0)).setCell ⟨w.heap.size, 1, none⟩ (.int .i64 0)).setCell ⟨w.heap.size, 2, none⟩ (.string ⟨#[]⟩)).setCell ⟨w.heap.size, 3, none⟩ (.string ⟨#[]⟩)).setCell ⟨w.heap.size, 4, none⟩ (.slice none 0 0)) fun w9 hv => ?_
   rw [← hv]
   have og_ : w8.grownBy w9 (some w.heap.size) := by rw [hv]; exact gs5
   have kb_ : Bx w9 w.heap.size 24 #[.int .i64 0, .int .i64 0, .string ⟨#[]⟩, .string ⟨#[]⟩, .slice none 0 0] := by rw [hv]; exact (((((K.out.set 0 _).set 1 _).set 2 _).set 3 _).set 4 _)
   clear hv
   replace B := Lib.hid (B.out.trans (gr_to og_ (by omega) B.out.size))
   replace K := Lib.hid kb_
   replace F := Lib.hid (F.out.grown og_ (fun hd => by have := hd.1; have := hd.2; omega))
   replace L := Lib.hid (L.out.only og_ (by omega))
   replace R := Lib.hid (R.out.only og_ (by omega))
   have z12_ := og_.size
   clear og_ kb_
   refine hK.out _ _ (R.out.at.1 1) (fun hH2 => ?_)
   clear hK K_ hH
   have hH := hH2; clear hH2
   (try simp only [Act.put, kS, kZ, kC])
   refine tk at6 ?_
   refine tk at7 ?_
   refine wpAnyH_done (by kernel_rfl) ?_ _
   clear hH
   go_wp2_with fail
   refine bodyPost_ret (results_box3 rfl _ _ w.heap.size 24 _ _ _ rfl K.out Tryz.underlying24 rfl (by kernel_rfl)) rfl ?_
   exact ⟨Ex.zero, none, 0, k1, 6, rfl, FoS.nil, B.out, rdRes_full ho.out HK1.out HRB.out⟩
  | true =>
   go_upto_region 9 with fail
   refine nmW w7.drew fun w10 hW => ?_
   have hb_ := bdh hW
   replace B := Lib.hid (be_call B.out hb_)
   replace K := Lib.hid (K.out.keep hb_)
   replace F := Lib.hid (F.out.keep hb_)
   replace L := Lib.hid (L.out.keep hb_)
   replace R := Lib.hid (R.out.keep hb_)
   have z13_ := hb_.size
   clear hb_
   refine wp_region_held_drew (S := (fun w' => w'.cell? ⟨w1.heap.size, 1, none⟩ = some (.int .i64 k1) ∧ w'.cell? ⟨w3.heap.size, 0, none⟩ = some (.int .i64 x.op) ∧ w'.cell? ⟨w3.heap.size, 1, none⟩ = some (.int .i64 x.n) ∧ w'.cell? ⟨w3.heap.size, 2, none⟩ = some (.string ⟨x.unit.toArray⟩) ∧ w'.cell? ⟨w3.heap.size, 3, none⟩ = some (.string ⟨x.name.toArray⟩) ∧ w'.cell? ⟨w3.heap.size, 4, none⟩ = some (.slice q x.args.len d))) (by kernel_rfl) (by rw [← hW]; exact ⟨R.out.at.1 1, L.out.at.1 0, L.out.at.1 1, L.out.at.1 2, L.out.at.1 3, L.out.at.1 4⟩) (fun hH => ?_)
   rw [← hW] at hH ⊢
   clear hW
   refine tk at0 (v := .agg #[.int .i64 x.op, .int .i64 x.n, .string ⟨x.unit.toArray⟩, .string ⟨x.name.toArray⟩, .slice q x.args.len d]) ?_
   refine tk at1 ?_
   refine tk at2 ?_
   refine tk at3 ?_
   refine tk at4 (v := .int .i64 k1) ?_
   refine wpAnyH_ready (rs := [5]) (by kernel_rfl) (by simp) ?_
   refine AllReadyH.cons at5 (fun K_ hK => ?_) AllReadyH.nil
   refine K.out.e5 fun pK_0 qK_0 pK_1 qK_1 pK_2 qK_2 pK_3 qK_3 pK_4 qK_4 => ?_
   go_simp
   clear pK_0 qK_0 pK_1 qK_1 pK_2 qK_2 pK_3 qK_3 pK_4 qK_4
   refine nmW (((((w10.setCell ⟨w.heap.size, 0, none⟩ (.int .i64 x.op)).setCell ⟨w.heap.size, 1, none⟩ (.int .i64 x.n)).setCell ⟨w.heap.size, 2, none⟩ (.string ⟨x.unit.toArray⟩)).setCell ⟨w.heap.size, 3, none⟩ (.string ⟨x.name.toArray⟩)).setCell ⟨w.heap.size, 4, none⟩ (.slice q x.args.len d)) fun w11 hv => ?_
   rw [← hv]
   have og_ : w10.grownBy w11 (some w.heap.size) := by rw [hv]; exact gs5
   have kb_ : Bx w11 w.heap.size 24 #[.int .i64 x.op, .int .i64 x.n, .string ⟨x.unit.toArray⟩, .string ⟨x.name.toArray⟩, .slice q x.args.len d] := by rw [hv]; exact (((((K.out.set 0 _).set 1 _).set 2 _).set 3 _).set 4 _)
   clear hv
   replace B := Lib.hid (B.out.trans (gr_to og_ (by omega) B.out.size))
   replace K := Lib.hid kb_
   replace F := Lib.hid (F.out.grown og_ (fun hd => by have := hd.1; have := hd.2; omega))
   replace L := Lib.hid (L.out.only og_ (by omega))
   replace R := Lib.hid (R.out.only og_ (by omega))
   have z14_ := og_.size
   clear og_ kb_
   refine hK.out _ _ (⟨R.out.at.1 1, L.out.at.1 0, L.out.at.1 1, L.out.at.1 2, L.out.at.1 3, L.out.at.1 4⟩) (fun hH2 => ?_)
   clear hK K_ hH
   have hH := hH2; clear hH2
   (try simp only [Act.put, kS, kZ, kC])
   refine tk at6 ?_
   refine tk at7 ?_
   refine wpAnyH_done (by kernel_rfl) ?_ _
   clear hH
   go_wp2_with fail
   refine bodyPost_ret (results_box3 rfl _ _ w.heap.size 24 _ _ _ rfl K.out Tryz.underlying24 rfl (by kernel_rfl)) rfl ?_
   exact ⟨x, q, d, k1, 0, rfl, (F.out.mono (fun b hb => ⟨by have := hb.1; omega, by have := hb.2; omega⟩)), B.out, rdRes_ok ho.out HK1.out HRB.out⟩
end Go.Proofs.YtckgmilmhofekaaGreatDoor
namespace Go.Proofs.YtckgmilmhofekaaGreatDoor
open Go.RowKit

def ParsePost (s : Bytes) (w : World) (e : Ending) (w' : World) : Prop :=
 ∃ (x : Ex) (q : Option Addr) (d p' e' : Nat), e = .returned (.tuple #[.agg (hdC x q d).toArray, .int .i64 p', .int .i64 e']) ∧ FoS (mid w w') w' q d x.args ∧ Below w.heap.size w w' ∧ parseX s = (x, p', e')
theorem scan_two (s : ByteArray) (w : World) (hs : s.size ≤ 137438953472) (hsig : SignsIn w) :
    (∀ ts, scanOut s.data.toList = .ok ts → Calls Tryz.prog 31 #[.string s] w fun e w' => ∃ p c, e = .returned (.tuple #[.slice p ts.length c, .int .i64 0, .int .i64 0]) ∧ ToksIn w' (.slice p ts.length c) ts ∧ Below w.heap.size w w' ∧ ∀ b o, p = some ⟨b, o, none⟩ → w.heap.size ≤ b ∧ b < w'.heap.size) ∧
    ∀ p x : Nat, scanOut s.data.toList = .error (p, x) → Calls Tryz.prog 31 #[.string s] w fun e w' => ∃ v, e = .returned (.tuple #[v, .int .i64 p, .int .i64 x]) ∧ Below w.heap.size w w' := by
  refine ⟨fun ts h => ?_, fun p x h => ?_⟩
  · refine (scan_any s w hs hsig).mono ?_
    rw [h]
    rintro e w' ⟨v, rfl, ho, hb⟩
    obtain ⟨a, cap, rfl⟩ := (toksIn_own ho).shape
    refine ⟨a, cap, rfl, toksIn_own ho, hb, fun b o ha => ?_⟩
    rcases ho.2 with ⟨h1, h0⟩ | ⟨g, cap', cur, h1, hg, hh, _⟩
    · injection h1 with e1 e2 e3; subst e1; cases ha
    · injection h1 with e1 e2 e3; subst e1; cases ha; exact ⟨hg, lt_of_block hh⟩
  · refine (scan_any s w hs hsig).mono ?_
    rw [h]
    rintro e w' ⟨v, rfl, ho, hb⟩
    exact ⟨v, rfl, hb⟩
theorem rdRes_read {ts : List Tok} {x : Ex} {k e : Nat} (h : RdRes ts 0 x k e) : readR ts = (x, k, e) ∧ k ≤ ts.length ∧ (e = 0 ∨ e = 6 ∨ e = 12) ∧ (e ≠ 0 → x = Ex.zero) := by
  unfold RdRes at h; unfold readR parseL
  rw [List.drop_zero] at h
  cases hq : exprP (ts.length + 1) ts with
  | error r =>
    rw [hq] at h; obtain ⟨rfl, rfl, rfl, hk⟩ := h
    refine ⟨?_, hk, .inr (.inr rfl), fun _ => rfl⟩
    show (Ex.zero, ts.length - (ts.drop k).length, 12) = _
    rw [List.length_drop, show ts.length - (ts.length - k) = k by omega]
  | ok y =>
    obtain ⟨y, r⟩ := y; rw [hq] at h
    obtain ⟨rfl, hk, ⟨h1, rfl, rfl⟩ | ⟨h1, rfl, rfl⟩⟩ := h
    · refine ⟨?_, hk, .inl rfl, fun h => absurd rfl h⟩
      show (if rightX x = true then (x, ts.length - (ts.drop k).length, 0) else _) = _
      rw [if_pos h1, List.length_drop, show ts.length - (ts.length - k) = k by omega]
    · refine ⟨?_, hk, .inr (.inl rfl), fun _ => rfl⟩
      show (if rightX y = true then _ else (Ex.zero, ts.length - (ts.drop k).length, 6)) = _
      rw [if_neg (by rw [h1]; decide), List.length_drop, show ts.length - (ts.length - k) = k by omega]
theorem parseX_err {s : Bytes} {p x : Nat} (h : scanOut s = .error (p, x)) : parseX s = (Ex.zero, p, x) := by
 show (match scanOut s with | .error (p, e) => (Ex.zero, p, e) | .ok ts => parseR ts s.length) = _
 rw [h]
theorem parseX_ok {s : Bytes} {ts : List Tok} (h : scanOut s = .ok ts) : parseX s = parseR ts s.length := by
 show (match scanOut s with | .error (p, e) => (Ex.zero, p, e) | .ok ts => parseR ts s.length) = _
 rw [h]
theorem parseR_ok {ts : List Tok} {n : Nat} {x : Ex} (h : readR ts = (x, ts.length, 0)) : parseR ts n = (x, 0, 0) := by
 unfold parseR; rw [h, if_pos ⟨rfl, rfl⟩]
theorem parseR_in {ts : List Tok} {n k e e' : Nat} {x : Ex} (h : readR ts = (x, k, e)) (hk : k < ts.length) (he : (if e = 0 then 12 else e) = e') : parseR ts n = (Ex.zero, ts[k].pos, e') := by
 unfold parseR; rw [h, if_neg (fun h => by have := h.2; dsimp only at this; omega)]
 dsimp only
 rw [drop_tok hk, he]
theorem parseR_end {ts : List Tok} {n k e : Nat} {x : Ex} (h : readR ts = (x, k, e)) (hk : ts.length ≤ k) (he : e ≠ 0) : parseR ts n = (Ex.zero, n, e) := by
 unfold parseR; rw [h, if_neg (fun h => he h.1)]
 dsimp only
 rw [List.drop_eq_nil_of_le hk, if_neg he]
theorem scanOut_facts {l : Bytes} : (∀ ts, scanOut l = .ok ts → l.length ≤ 4000 ∧ scanAll l = .ok ts ∧ ts.length ≤ 4000 ∧ hvT ts ≤ 8001) ∧ ∀ p x, scanOut l = .error (p, x) → x ≠ 0 := by
  unfold scanOut
  by_cases h : 4000 < l.length
  · rw [if_pos h]; exact ⟨fun ts h => (by cases h), fun p x h => by cases h; decide⟩
  · rw [if_neg h]
    refine ⟨fun ts hs => ⟨by omega, hs, ?_, ?_⟩, fun p x hs => ?_⟩
    · have := count_le hs; omega
    · have := (back_facts hs).1; have := hvT_print ts; omega
    · rcases (err_facts hs).2.1 with rfl | rfl | rfl <;> decide
theorem toks_pos {w : World} {b o n c : Nat} {ts : List Tok} {k : Nat} (h : ToksIn w (.slice (some ⟨b, o, none⟩) n c) ts) (hk : k < ts.length) : w.cell? ⟨b, o + k * 4 + 3, none⟩ = some (.int .i64 ts[k].pos) := by
 obtain ⟨b', o', e, -, hc⟩ := h.at hk
 cases e
 exact hc 3 _ rfl
set_option maxRecDepth 100000 in
set_option maxHeartbeats 4000000 in
theorem parse_err (s : ByteArray) {w : World} (hs : s.size ≤ 137438953472) (hsig : SignsIn w) {p x : Nat} (h : scanOut s.data.toList = .error (p, x)) :
  Calls Tryz.prog 10 #[.string s] w (ParsePost s.data.toList w) := by
 have hx := scanOut_facts.2 _ _ h
 have HH := Lib.hid (parseX_err h)
 have h1 : ((x : Int) == 0) = false := by rw [beq_eq_false_iff_ne]; omega
 have HSC := Lib.hid h; clear h
 have HG := Lib.hid hsig
 have B : Hid (Below w.heap.size w w) := be_refl w
 clear hsig
 go_enter Tryz.func10, Tryz.ntmps10
 go_upto_region 1 with fail
 refine nmW (w.alloc (.cells #[.int .i64 0, .int .i64 0, .string ⟨#[]⟩, .string ⟨#[]⟩, .slice none 0 0] 24)) fun w1 hv => ?_
 rw [← hv]
 have K := bxh hv
 have hb_ := bah hv
 clear hv
 have z1_ := K.out.lt
 replace B := Lib.hid (be_call B.out hb_)
 replace HG := Lib.hid (HG.out.keep hb_)
 have z2_ := hb_.size
 clear hb_
 go_wp2_with fail
 refine ((scan_two s _ hs HG.out).2 _ _ HSC.out).mono ?_
 rintro e w2 ⟨v, rfl, hb⟩
 replace B := Lib.hid (be_call B.out hb)
 replace HG := Lib.hid (HG.out.keep hb)
 replace K := Lib.hid (K.out.keep hb)
 have z3_ := hb.size
 clear hb
 clear HG
 refine K.out.e5 fun pK_0 qK_0 pK_1 qK_1 pK_2 qK_2 pK_3 qK_3 pK_4 qK_4 => ?_
 go_wp2_with fail
 clear pK_0 qK_0 pK_1 qK_1 pK_2 qK_2 pK_3 qK_3 pK_4 qK_4
 refine nmW (((((w2.setCell ⟨w.heap.size, 0, none⟩ (.int .i64 0)).setCell ⟨w.heap.size, 1, none⟩ (.int .i64 0)).setCell ⟨w.heap.size, 2, none⟩ (.string ⟨#[]⟩)).setCell ⟨w.heap.size, 3, none⟩ (.string ⟨#[]⟩)).setCell ⟨w.heap.size, 4, none⟩ (.slice none 0 0)) fun w3 hv => ?_
 rw [← hv]
 have og_ : w2.grownBy w3 (some w.heap.size) := by rw [hv]; exact gs5
 have kb_ : Bx w3 w.heap.size 24 #[.int .i64 0, .int .i64 0, .string ⟨#[]⟩, .string ⟨#[]⟩, .slice none 0 0] := by rw [hv]; exact (((((K.out.set 0 _).set 1 _).set 2 _).set 3 _).set 4 _)
 clear hv
 replace B := Lib.hid (B.out.trans (gr_to og_ (by omega) B.out.size))
 replace K := Lib.hid kb_
 have z4_ := og_.size
 clear og_ kb_
 refine bodyPost_ret (results_box3 rfl _ _ w.heap.size 24 _ _ _ rfl K.out Tryz.underlying24 rfl (by kernel_rfl)) rfl ?_
 exact ⟨Ex.zero, none, 0, p, x, rfl, FoS.nil, B.out, HH.out⟩
set_option maxRecDepth 100000 in
set_option maxHeartbeats 4000000 in
theorem parse_ok (s : ByteArray) {w : World} (hs : s.size ≤ 137438953472) (hsig : SignsIn w) {ts : List Tok} (h : scanOut s.data.toList = .ok ts) :
    Calls Tryz.prog 10 #[.string s] w (ParsePost s.data.toList w) := by
  have hts := (scanOut_facts.1 _ h).2.2.1
  have HWT := Lib.hid (scanOut_facts.1 _ h).2.2.2
  have HPX := Lib.hid (parseX_ok h)
  have HSL : Hid (s.data.toList.length = s.size) := bytes_len s
  have HSC := Lib.hid h; clear h
  have HG := Lib.hid hsig
  have B : Hid (Below w.heap.size w w) := be_refl w
  clear hsig
  go_enter Tryz.func10, Tryz.ntmps10
  go_upto_region 1 with fail
  refine nmW (w.alloc (.cells #[.int .i64 0, .int .i64 0, .string ⟨#[]⟩, .string ⟨#[]⟩, .slice none 0 0] 24)) fun w1 hv => ?_
  rw [← hv]
  have K := bxh hv
  have hb_ := bah hv
  clear hv
  have z1_ := K.out.lt
  replace B := Lib.hid (be_call B.out hb_)
  replace HG := Lib.hid (HG.out.keep hb_)
  have z2_ := hb_.size
  clear hb_
  go_wp2_with fail
  refine ((scan_two s _ hs HG.out).1 _ HSC.out).mono ?_
  rintro e w2 ⟨p, c, rfl, ht, hb, hp⟩
  replace B := Lib.hid (be_call B.out hb)
  replace HG := Lib.hid (HG.out.keep hb)
  replace K := Lib.hid (K.out.keep hb)
  have z3_ := hb.size
  clear hb
  clear HG
  have T := Lib.hid ht; have HP := Lib.hid hp; clear ht hp
  have hp0 : ∀ b o, p = some ⟨b, o, none⟩ → b < w2.heap.size := fun b o e => (HP.out b o e).2
  have HP0 := Lib.hid hp0; clear hp0
  have HC := Lib.hid (read_ok (k := 0) T.out HP0.out (by omega) (Nat.zero_le _) (by have := HWT.out; omega))
  rw [show ((0 : Nat) : Int) = 0 from rfl] at HC
  go_wp2_with fail
  refine (HC.out).mono ?_
  rintro e w3 ⟨x, q, d, k1, e1, rfl, hf, hb, hr⟩
  clear HC
  replace B := Lib.hid (be_call B.out hb)
  replace K := Lib.hid (K.out.keep hb)
  replace T := Lib.hid (T.out.keep hb)
  have z4_ := hb.size
  clear hb
  have F := Lib.hid hf; have HR := Lib.hid hr; clear hf hr
  unfold hdC
  go_upto_region 5 with fail
  refine nmW (w3.alloc (.cells #[.int .i64 x.op, .int .i64 x.n, .string ⟨x.unit.toArray⟩, .string ⟨x.name.toArray⟩, .slice q x.args.len d] 24)) fun w4 hv => ?_
  rw [← hv]
  have L := bxh hv
  have hb_ := bah hv
  clear hv
  have z5_ := L.out.lt
  replace B := Lib.hid (be_call B.out hb_)
  replace K := Lib.hid (K.out.keep hb_)
  replace T := Lib.hid (T.out.keep hb_)
  replace F := Lib.hid (F.out.keep hb_)
  have z6_ := hb_.size
  clear hb_
  obtain ⟨hrr, hk1, he1, hx1⟩ := rdRes_read HR.out
  have HRR := Lib.hid hrr; clear hrr
  by_cases hkl : k1 = ts.length
  · subst hkl
    rcases he1 with rfl | rfl | rfl
    · skip
      refine L.out.q5 fun pL_0 pL_1 pL_2 pL_3 pL_4 => ?_
      refine K.out.e5 fun pK_0 qK_0 pK_1 qK_1 pK_2 qK_2 pK_3 qK_3 pK_4 qK_4 => ?_
      go_wp2_with fail
      clear pL_0 pL_1 pL_2 pL_3 pL_4 pK_0 qK_0 pK_1 qK_1 pK_2 qK_2 pK_3 qK_3 pK_4 qK_4
      refine nmW (((((w4.setCell ⟨w.heap.size, 0, none⟩ (.int .i64 x.op)).setCell ⟨w.heap.size, 1, none⟩ (.int .i64 x.n)).setCell ⟨w.heap.size, 2, none⟩ (.string ⟨x.unit.toArray⟩)).setCell ⟨w.heap.size, 3, none⟩ (.string ⟨x.name.toArray⟩)).setCell ⟨w.heap.size, 4, none⟩ (.slice q x.args.len d)) fun w5 hv => ?_
      rw [← hv]
      have og_ : w4.grownBy w5 (some w.heap.size) := by rw [hv]; exact gs5
      have kb_ : Bx w5 w.heap.size 24 #[.int .i64 x.op, .int .i64 x.n, .string ⟨x.unit.toArray⟩, .string ⟨x.name.toArray⟩, .slice q x.args.len d] := by rw [hv]; exact (((((K.out.set 0 _).set 1 _).set 2 _).set 3 _).set 4 _)
      clear hv
      replace B := Lib.hid (B.out.trans (gr_to og_ (by omega) B.out.size))
      replace K := Lib.hid kb_
      replace T := Lib.hid (T.out.only og_ (fun b o e => by have := HP.out b o e; omega))
      replace F := Lib.hid (F.out.grown og_ (fun hd => by have := hd.1; have := hd.2; omega))
      replace L := Lib.hid (L.out.only og_ (by omega))
      have z7_ := og_.size
      clear og_ kb_
      refine bodyPost_ret (results_box3 rfl _ _ w.heap.size 24 _ _ _ rfl K.out Tryz.underlying24 rfl (by kernel_rfl)) rfl ?_
      exact ⟨x, q, d, 0, 0, rfl, (F.out.mono (fun b hb => ⟨by have := hb.1; omega, by have := hb.2; omega⟩)), B.out, by rw [HPX.out]; exact parseR_ok HRR.out⟩
    · skip
      refine K.out.e5 fun pK_0 qK_0 pK_1 qK_1 pK_2 qK_2 pK_3 qK_3 pK_4 qK_4 => ?_
      go_wp2_with fail
      clear pK_0 qK_0 pK_1 qK_1 pK_2 qK_2 pK_3 qK_3 pK_4 qK_4
      refine nmW (((((w4.setCell ⟨w.heap.size, 0, none⟩ (.int .i64 0)).setCell ⟨w.heap.size, 1, none⟩ (.int .i64 0)).setCell ⟨w.heap.size, 2, none⟩ (.string ⟨#[]⟩)).setCell ⟨w.heap.size, 3, none⟩ (.string ⟨#[]⟩)).setCell ⟨w.heap.size, 4, none⟩ (.slice none 0 0)) fun w6 hv => ?_
      rw [← hv]
      have og_ : w4.grownBy w6 (some w.heap.size) := by rw [hv]; exact gs5
      have kb_ : Bx w6 w.heap.size 24 #[.int .i64 0, .int .i64 0, .string ⟨#[]⟩, .string ⟨#[]⟩, .slice none 0 0] := by rw [hv]; exact (((((K.out.set 0 _).set 1 _).set 2 _).set 3 _).set 4 _)
      clear hv
      replace B := Lib.hid (B.out.trans (gr_to og_ (by omega) B.out.size))
      replace K := Lib.hid kb_
      replace T := Lib.hid (T.out.only og_ (fun b o e => by have := HP.out b o e; omega))
      replace F := Lib.hid (F.out.grown og_ (fun hd => by have := hd.1; have := hd.2; omega))
      replace L := Lib.hid (L.out.only og_ (by omega))
      have z8_ := og_.size
      clear og_ kb_
      refine bodyPost_ret (results_box3 rfl _ _ w.heap.size 24 _ _ _ rfl K.out Tryz.underlying24 rfl (by kernel_rfl)) rfl ?_
      exact ⟨Ex.zero, none, 0, s.size, 6, rfl, FoS.nil, B.out, by rw [HPX.out, HSL.out]; exact parseR_end HRR.out (Nat.le_refl _) (by decide)⟩
    · skip
      refine K.out.e5 fun pK_0 qK_0 pK_1 qK_1 pK_2 qK_2 pK_3 qK_3 pK_4 qK_4 => ?_
      go_wp2_with fail
      clear pK_0 qK_0 pK_1 qK_1 pK_2 qK_2 pK_3 qK_3 pK_4 qK_4
      refine nmW (((((w4.setCell ⟨w.heap.size, 0, none⟩ (.int .i64 0)).setCell ⟨w.heap.size, 1, none⟩ (.int .i64 0)).setCell ⟨w.heap.size, 2, none⟩ (.string ⟨#[]⟩)).setCell ⟨w.heap.size, 3, none⟩ (.string ⟨#[]⟩)).setCell ⟨w.heap.size, 4, none⟩ (.slice none 0 0)) fun w7 hv => ?_
      rw [← hv]
      have og_ : w4.grownBy w7 (some w.heap.size) := by rw [hv]; exact gs5
      have kb_ : Bx w7 w.heap.size 24 #[.int .i64 0, .int .i64 0, .string ⟨#[]⟩, .string ⟨#[]⟩, .slice none 0 0] := by rw [hv]; exact (((((K.out.set 0 _).set 1 _).set 2 _).set 3 _).set 4 _)
      clear hv
      replace B := Lib.hid (B.out.trans (gr_to og_ (by omega) B.out.size))
      replace K := Lib.hid kb_
      replace T := Lib.hid (T.out.only og_ (fun b o e => by have := HP.out b o e; omega))
      replace F := Lib.hid (F.out.grown og_ (fun hd => by have := hd.1; have := hd.2; omega))
      replace L := Lib.hid (L.out.only og_ (by omega))
      have z9_ := og_.size
      clear og_ kb_
      refine bodyPost_ret (results_box3 rfl _ _ w.heap.size 24 _ _ _ rfl K.out Tryz.underlying24 rfl (by kernel_rfl)) rfl ?_
      exact ⟨Ex.zero, none, 0, s.size, 12, rfl, FoS.nil, B.out, by rw [HPX.out, HSL.out]; exact parseR_end HRR.out (Nat.le_refl _) (by decide)⟩
  · have hlt : k1 < ts.length := by omega
    obtain ⟨b, o, hpe, -, -⟩ := T.out.at hlt
    subst hpe
    have hkn : ((k1 : Int) == (ts.length : Int)) = false := by rw [beq_eq_false_iff_ne]; omega
    have hki : (k1 : Int) < (ts.length : Int) := by omega
    rcases he1 with rfl | rfl | rfl
    · skip
      go_upto_region 10 with fail
      refine nmW w4.drew fun w8 hW => ?_
      have hb_ := bdh hW
      replace B := Lib.hid (be_call B.out hb_)
      replace K := Lib.hid (K.out.keep hb_)
      replace T := Lib.hid (T.out.keep hb_)
      replace F := Lib.hid (F.out.keep hb_)
      replace L := Lib.hid (L.out.keep hb_)
      have z10_ := hb_.size
      clear hb_
      refine wp_region_held_drew (S := (fun w' => w'.cell? ⟨b, o + k1 * 4 + 3, none⟩ = some (.int .i64 ts[k1].pos))) (by kernel_rfl) (by rw [← hW]; exact toks_pos T.out hlt) (fun hH => ?_)
      rw [← hW] at hH ⊢
      clear hW
      refine tk at0 ?_
      refine tk at1 ?_
      refine tk at2 ?_
      refine tk at3 ?_
      refine tk at4 ?_
      refine tk at5 (v := .int .i64 ts[k1].pos) ?_
      refine tk at6 ?_
      refine wpAnyH_ready (rs := [7]) (by kernel_rfl) (by simp) ?_
      refine AllReadyH.cons at7 (fun K_ hK => ?_) AllReadyH.nil
      refine K.out.e5 fun pK_0 qK_0 pK_1 qK_1 pK_2 qK_2 pK_3 qK_3 pK_4 qK_4 => ?_
      go_simp
      clear pK_0 qK_0 pK_1 qK_1 pK_2 qK_2 pK_3 qK_3 pK_4 qK_4
      refine nmW (((((w8.setCell ⟨w.heap.size, 0, none⟩ (.int .i64 0)).setCell ⟨w.heap.size, 1, none⟩ (.int .i64 0)).setCell ⟨w.heap.size, 2, none⟩ (.string ⟨#[]⟩)).setCell ⟨w.heap.size, 3, none⟩ (.string ⟨#[]⟩)).setCell ⟨w.heap.size, 4, none⟩ (.slice none 0 0)) fun w9 hv => ?_
      rw [← hv]
      have og_ : w8.grownBy w9 (some w.heap.size) := by rw [hv]; exact gs5
      have kb_ : Bx w9 w.heap.size 24 #[.int .i64 0, .int .i64 0, .string ⟨#[]⟩, .string ⟨#[]⟩, .slice none 0 0] := by rw [hv]; exact (((((K.out.set 0 _).set 1 _).set 2 _).set 3 _).set 4 _)
      clear hv
      replace B := Lib.hid (B.out.trans (gr_to og_ (by omega) B.out.size))
      replace K := Lib.hid kb_
      replace T := Lib.hid (T.out.only og_ (fun b o e => by have := HP.out b o e; omega))
      replace F := Lib.hid (F.out.grown og_ (fun hd => by have := hd.1; have := hd.2; omega))
      replace L := Lib.hid (L.out.only og_ (by omega))
      have z11_ := og_.size
      clear og_ kb_
      refine hK.out _ _ (toks_pos T.out hlt) (fun hH2 => ?_)
      clear hK K_ hH
      have hH := hH2; clear hH2
      (try simp only [Act.put, kS, kZ, kC])
      refine tk at8 ?_
      refine tk at9 ?_
      refine wpAnyH_done (by kernel_rfl) ?_ _
      clear hH
      go_wp2_with fail
      refine bodyPost_ret (results_box3 rfl _ _ w.heap.size 24 _ _ _ rfl K.out Tryz.underlying24 rfl (by kernel_rfl)) rfl ?_
      exact ⟨Ex.zero, none, 0, ts[k1].pos, 12, rfl, FoS.nil, B.out, by rw [HPX.out]; exact parseR_in HRR.out hlt rfl⟩
    · skip
      go_upto_region 10 with fail
      refine nmW w4.drew fun w10 hW => ?_
      have hb_ := bdh hW
      replace B := Lib.hid (be_call B.out hb_)
      replace K := Lib.hid (K.out.keep hb_)
      replace T := Lib.hid (T.out.keep hb_)
      replace F := Lib.hid (F.out.keep hb_)
      replace L := Lib.hid (L.out.keep hb_)
      have z12_ := hb_.size
      clear hb_
      refine wp_region_held_drew (S := (fun w' => w'.cell? ⟨b, o + k1 * 4 + 3, none⟩ = some (.int .i64 ts[k1].pos))) (by kernel_rfl) (by rw [← hW]; exact toks_pos T.out hlt) (fun hH => ?_)
      rw [← hW] at hH ⊢
      clear hW
      refine tk at0 ?_
      refine tk at1 ?_
      refine tk at2 ?_
      refine tk at3 ?_
      refine tk at4 ?_
      refine tk at5 (v := .int .i64 ts[k1].pos) ?_
      refine tk at6 ?_
      refine wpAnyH_ready (rs := [7]) (by kernel_rfl) (by simp) ?_
      refine AllReadyH.cons at7 (fun K_ hK => ?_) AllReadyH.nil
      refine K.out.e5 fun pK_0 qK_0 pK_1 qK_1 pK_2 qK_2 pK_3 qK_3 pK_4 qK_4 => ?_
      go_simp
      clear pK_0 qK_0 pK_1 qK_1 pK_2 qK_2 pK_3 qK_3 pK_4 qK_4
      refine nmW (((((w10.setCell ⟨w.heap.size, 0, none⟩ (.int .i64 0)).setCell ⟨w.heap.size, 1, none⟩ (.int .i64 0)).setCell ⟨w.heap.size, 2, none⟩ (.string ⟨#[]⟩)).setCell ⟨w.heap.size, 3, none⟩ (.string ⟨#[]⟩)).setCell ⟨w.heap.size, 4, none⟩ (.slice none 0 0)) fun w11 hv => ?_
      rw [← hv]
      have og_ : w10.grownBy w11 (some w.heap.size) := by rw [hv]; exact gs5
      have kb_ : Bx w11 w.heap.size 24 #[.int .i64 0, .int .i64 0, .string ⟨#[]⟩, .string ⟨#[]⟩, .slice none 0 0] := by rw [hv]; exact (((((K.out.set 0 _).set 1 _).set 2 _).set 3 _).set 4 _)
      clear hv
      replace B := Lib.hid (B.out.trans (gr_to og_ (by omega) B.out.size))
      replace K := Lib.hid kb_
      replace T := Lib.hid (T.out.only og_ (fun b o e => by have := HP.out b o e; omega))
      replace F := Lib.hid (F.out.grown og_ (fun hd => by have := hd.1; have := hd.2; omega))
      replace L := Lib.hid (L.out.only og_ (by omega))
      have z13_ := og_.size
      clear og_ kb_
      refine hK.out _ _ (toks_pos T.out hlt) (fun hH2 => ?_)
      clear hK K_ hH
      have hH := hH2; clear hH2
      (try simp only [Act.put, kS, kZ, kC])
      refine tk at8 ?_
      refine tk at9 ?_
      refine wpAnyH_done (by kernel_rfl) ?_ _
      clear hH
      go_wp2_with fail
      refine bodyPost_ret (results_box3 rfl _ _ w.heap.size 24 _ _ _ rfl K.out Tryz.underlying24 rfl (by kernel_rfl)) rfl ?_
      exact ⟨Ex.zero, none, 0, ts[k1].pos, 6, rfl, FoS.nil, B.out, by rw [HPX.out]; exact parseR_in HRR.out hlt rfl⟩
    · skip
      go_upto_region 10 with fail
      refine nmW w4.drew fun w12 hW => ?_
      have hb_ := bdh hW
      replace B := Lib.hid (be_call B.out hb_)
      replace K := Lib.hid (K.out.keep hb_)
      replace T := Lib.hid (T.out.keep hb_)
      replace F := Lib.hid (F.out.keep hb_)
      replace L := Lib.hid (L.out.keep hb_)
      have z14_ := hb_.size
      clear hb_
      refine wp_region_held_drew (S := (fun w' => w'.cell? ⟨b, o + k1 * 4 + 3, none⟩ = some (.int .i64 ts[k1].pos))) (by kernel_rfl) (by rw [← hW]; exact toks_pos T.out hlt) (fun hH => ?_)
      rw [← hW] at hH ⊢
      clear hW
      refine tk at0 ?_
      refine tk at1 ?_
      refine tk at2 ?_
      refine tk at3 ?_
      refine tk at4 ?_
      refine tk at5 (v := .int .i64 ts[k1].pos) ?_
      refine tk at6 ?_
      refine wpAnyH_ready (rs := [7]) (by kernel_rfl) (by simp) ?_
      refine AllReadyH.cons at7 (fun K_ hK => ?_) AllReadyH.nil
      refine K.out.e5 fun pK_0 qK_0 pK_1 qK_1 pK_2 qK_2 pK_3 qK_3 pK_4 qK_4 => ?_
      go_simp
      clear pK_0 qK_0 pK_1 qK_1 pK_2 qK_2 pK_3 qK_3 pK_4 qK_4
      refine nmW (((((w12.setCell ⟨w.heap.size, 0, none⟩ (.int .i64 0)).setCell ⟨w.heap.size, 1, none⟩ (.int .i64 0)).setCell ⟨w.heap.size, 2, none⟩ (.string ⟨#[]⟩)).setCell ⟨w.heap.size, 3, none⟩ (.string ⟨#[]⟩)).setCell ⟨w.heap.size, 4, none⟩ (.slice none 0 0)) fun w13 hv => ?_
      rw [← hv]
      have og_ : w12.grownBy w13 (some w.heap.size) := by rw [hv]; exact gs5
      have kb_ : Bx w13 w.heap.size 24 #[.int .i64 0, .int .i64 0, .string ⟨#[]⟩, .string ⟨#[]⟩, .slice none 0 0] := by rw [hv]; exact (((((K.out.set 0 _).set 1 _).set 2 _).set 3 _).set 4 _)
      clear hv
      replace B := Lib.hid (B.out.trans (gr_to og_ (by omega) B.out.size))
      replace K := Lib.hid kb_
      replace T := Lib.hid (T.out.only og_ (fun b o e => by have := HP.out b o e; omega))
      replace F := Lib.hid (F.out.grown og_ (fun hd => by have := hd.1; have := hd.2; omega))
      replace L := Lib.hid (L.out.only og_ (by omega))
      have z15_ := og_.size
      clear og_ kb_
      refine hK.out _ _ (toks_pos T.out hlt) (fun hH2 => ?_)
      clear hK K_ hH
      have hH := hH2; clear hH2
      (try simp only [Act.put, kS, kZ, kC])
      refine tk at8 ?_
      refine tk at9 ?_
      refine wpAnyH_done (by kernel_rfl) ?_ _
      clear hH
      go_wp2_with fail
      refine bodyPost_ret (results_box3 rfl _ _ w.heap.size 24 _ _ _ rfl K.out Tryz.underlying24 rfl (by kernel_rfl)) rfl ?_
      exact ⟨Ex.zero, none, 0, ts[k1].pos, 12, rfl, FoS.nil, B.out, by rw [HPX.out]; exact parseR_in HRR.out hlt rfl⟩
theorem parse_any (s : ByteArray) {w : World} (hs : s.size ≤ 137438953472) (hsig : SignsIn w) :
  Calls Tryz.prog 10 #[.string s] w (ParsePost s.data.toList w) := by
 cases h : scanOut s.data.toList with
 | error pe => obtain ⟨p, x⟩ := pe; exact parse_err s hs hsig h
 | ok ts => exact parse_ok s hs hsig h
end Go.Proofs.YtckgmilmhofekaaGreatDoor
namespace Go.Proofs.YtckgmilmhofekaaGreatDoor
open Go.RowKit

/-- A writer at g that has collected these tokens, in an own slice. -/
structure Wr (w : World) (g : Nat) (v : Value) (ts : List Tok) : Prop where
 bx : Bx w g 50 #[v]
 own : w.ownsRow (g + 1) 55 4 v ts.length (toksCells ts)
/-- Nothing but the writer at g and its slice is written. -/
structure Wg (g : Nat) (v v' : Value) (w w' : World) : Prop where
 os : w'.os = w.os
 tape : w'.tape = w.tape
 output : w'.output = w.output
 size : w.heap.size ≤ w'.heap.size
 lo : ∀ k, v.ownBlock = some k → g < k
 block : ∀ b, b < w.heap.size → b ≠ g → some b ≠ v.ownBlock → w'.heap[b]? = w.heap[b]?
 low : ∀ b, b < w.heap.size → some b ≠ v.ownBlock → some b ≠ v'.ownBlock
theorem Wr.lo {w : World} {g : Nat} {v : Value} {ts : List Tok} (h : Wr w g v ts) : ∀ k, v.ownBlock = some k → g < k := fun _ hk => (h.own.lt _ hk).1
theorem Wr.keep {w w' : World} {g : Nat} {v : Value} {ts : List Tok} (h : Wr w g v ts) (hb : Below w.heap.size w w') : Wr w' g v ts := ⟨h.bx.keep hb, own_below h.own hb⟩
theorem Wr.wg {w : World} {g : Nat} {v : Value} {ts : List Tok} (h : Wr w g v ts) : Wg g v v w w := ⟨rfl, rfl, rfl, Nat.le_refl _, h.lo, fun _ _ _ _ => rfl, fun _ _ h => h⟩
theorem Wg.trans {g : Nat} {v0 v1 v2 : Value} {a b c : World} (h : Wg g v0 v1 a b) (k : Wg g v1 v2 b c) : Wg g v0 v2 a c :=
 ⟨k.os.trans h.os, k.tape.trans h.tape, k.output.trans h.output, Nat.le_trans h.size k.size, h.lo,
  fun i hi h1 h2 => (k.block i (Nat.lt_of_lt_of_le hi h.size) h1 (h.low i hi h2)).trans (h.block i hi h1 h2), fun i hi h2 => k.low i (Nat.lt_of_lt_of_le hi h.size) (h.low i hi h2)⟩
theorem Wg.call {g : Nat} {v0 v1 : Value} {a b c : World} (h : Wg g v0 v1 a b) (k : Below b.heap.size b c) : Wg g v0 v1 a c :=
 ⟨k.os.trans h.os, k.tape.trans h.tape, k.output.trans h.output, Nat.le_trans h.size k.size, h.lo,
  fun i hi h1 h2 => (k.block i (Nat.lt_of_lt_of_le hi h.size)).trans (h.block i hi h1 h2), h.low⟩
/-- All that lies below the writer is kept. -/
theorem Wg.below {g : Nat} {v v' : Value} {w w' : World} (h : Wg g v v' w w') {G : Nat} (hG : G ≤ g) (hw : G ≤ w.heap.size) : Below G w w' :=
 ⟨h.os, h.tape, h.output, h.size, fun k hk => h.block k (by omega) (by omega) (fun e => by have := h.lo k e.symm; omega)⟩
theorem FoS.wg {g : Nat} {v v' : Value} {w w' : World} {p : Option Addr} {c : Nat} {a : Fo} (h : FoS (fun b => b < g) w p c a) (k : Wg g v v' w w') : FoS (fun b => b < g) w' p c a :=
 h.move (fun _ h => h) k.size fun b o x hb hlt hv => by
  have := k.block b hlt (by omega) (fun e => by have := k.lo b e.symm; omega)
  unfold World.cell? at hv ⊢
  rw [this]; exact hv
/-- A box that is neither the writer nor its slice. -/
structure BxW (w : World) (g : Nat) (v : Value) (A : Nat) (T : TypeId) (cs : Array Value) : Prop where
 bx : Bx w A T cs
 ne : A ≠ g
 own : some A ≠ v.ownBlock
theorem BxW.wg {w w' : World} {g A : Nat} {v v' : Value} {T : TypeId} {cs : Array Value} (h : BxW w g v A T cs) (k : Wg g v v' w w') : BxW w' g v' A T cs :=
 ⟨(k.block A h.bx.lt h.ne h.own).trans h.bx, h.ne, k.low A h.bx.lt h.own⟩
theorem BxW.keep {w w' : World} {g A : Nat} {v : Value} {T : TypeId} {cs : Array Value} (h : BxW w g v A T cs) (k : Below w.heap.size w w') : BxW w' g v A T cs := ⟨h.bx.keep k, h.ne, h.own⟩
/-- What append of one token leaves. -/
structure PushT (g : Nat) (v v' : Value) (w w' : World) (ts : List Tok) (t : Tok) : Prop where
 own : w'.ownsRow (g + 1) 55 4 v' (ts.length + 1) (toksCells ts ++ tokCells t)
 gr : w.grownBy w' v.ownBlock
 fr : v'.ownBlock = v.ownBlock ∨ ∀ k, v'.ownBlock = some k → w.heap.size ≤ k
theorem one_tokC (t : Tok) : ∀ u ∈ tokCells t, u.oneCell' = true := one_tok _ _ _ _
theorem wpList_pushT {P : Program} {ops : Array Oper} {rest : List Oper} {o : Oper} {a : Act} {Q : Exit → Act → World → Prop} (hgd : o.guard = none) (s x : Operand)
    {t : TypeId} {z : Value} {bytes : Nat} (E : ElemT P t 55 z 4 bytes)
    (ho : o.op = .call { callee := .builtin .append, args := #[s, x], argTypes := #[t, t] }) {wx : World} (wr : World) {g : Nat} {v : Value} {ts : List Tok} (h : Wr wr g v ts) (t0 : Tok) (hs : a.eval s = v)
    (hwx : wx = wr.alloc (.cells (tokCells t0).toArray 55)) {b : Nat} (hx : a.eval x = .slice (some ⟨b, 0, .none⟩) 1 1) (hbn : b = wr.heap.size)
    (hbytes : (ts.length + 1) * bytes ≤ 140737488355328) (h63 : ts.length + 1 ≤ 140737488355328)
    (hK : ∀ v' w', PushT g v v' wr w' ts t0 → wpList P ops Q rest (a.put o.dst v') w') : wpList P ops Q (o :: rest) a wx := by
  subst hwx hbn
  have hg := h.bx.lt
  obtain ⟨v', w', hrun, r2, r3, r4⟩ := run_push_fresh (P := P) (w := wr.alloc (.cells (tokCells t0).toArray 55)) E o.type (h.own.alloc _) (tokCells t0) ⟨wr.heap.size, 0, none⟩ 1 rfl (fun j u hj => by
      rw [add_off, Nat.zero_add, Lib.cell_of_heap (show (wr.heap.push _)[wr.heap.size]? = some (.cells (tokCells t0).toArray 55 (0, 0)) by simp)]; simpa using hj) (one_tokC t0) hbytes h63 (by simp; omega)
  refine wpList_plain hgd fun K hK' => ?_
  unfold Oper.wp
  simp [execOp, ho, resolve, invoke, builtin, hs, hx, hrun, Result.andThen]
  have ha := World.grownBy_alloc wr (.cells (tokCells t0).toArray 55) v.ownBlock
  refine hK' _ _ (hK v' w' ⟨r2, ⟨r3.os.trans ha.os, r3.tape.trans ha.tape, r3.output.trans ha.output, Nat.le_trans ha.size r3.size, fun k hk hne => (r3.block k (by simp; omega) hne).trans (ha.block k hk hne)⟩, r4.imp id fun h k hk => ?_⟩)
  have := h k hk
  simp at this; omega
/-- The same in a region that draws. -/
theorem wp_pushT {P : Program} {o : Oper} {a : Act} {K : Act → World → Prop} {Q : Exit → Act → World → Prop} {s y : Operand} {t : TypeId} {z : Value} {bytes g : Nat} {v : Value} {ts : List Tok} {w : World}
    (h : Wr w g v ts) (E : ElemT P t 55 z 4 bytes) (t0 : Tok) {b : Nat} (hb : Bx w b 55 (tokCells t0).toArray)
    (hbytes : (ts.length + 1) * bytes ≤ 140737488355328) (h63 : ts.length + 1 ≤ 140737488355328)
    (ho : o.op = .call { callee := .builtin .append, args := #[s, y], argTypes := #[t, t] }) (hs : a.eval s = v) (hy : a.eval y = .slice (some ⟨b, 0, none⟩) 1 1)
    (hK : ∀ v' w', PushT g v v' w w' ts t0 → K (a.put o.dst v') w') : o.wp P a w K Q := by
  have hg := h.bx.lt
  obtain ⟨v', w', hrun, r2, r3, r4⟩ := run_push_fresh (P := P) (w := w) E o.type h.own (tokCells t0) ⟨b, 0, none⟩ 1 rfl (fun j u hj => by rw [add_off, Nat.zero_add, hb.at.1]; simpa using hj) (one_tokC t0) hbytes h63 (by omega)
  unfold Oper.wp
  simp [execOp, ho, resolve, invoke, builtin, hs, hy, hrun, Result.andThen]
  exact hK v' w' ⟨r2, r3, r4⟩
theorem PushT.shape {g : Nat} {v v' : Value} {w w' : World} {ts : List Tok} {t : Tok} (h : PushT g v v' w w' ts t) : ∃ a n c, v' = .slice a n c := by
  rcases h.own.2 with ⟨rfl, h0⟩ | ⟨g, cap, cur, rfl, _⟩
  · omega
  · exact ⟨_, _, _, rfl⟩
theorem PushT.cell {g : Nat} {v v' : Value} {w w' : World} {ts : List Tok} {t : Tok} (h : PushT g v v' w w' ts t) (hw : Wr w g v ts) : w'.cell? ⟨g, 0, none⟩ = some v ∧ w'.frozen? ⟨g, 0, none⟩ = false := by
 have hb : Bx w' g 50 #[v] := (h.gr.block g hw.bx.lt (fun e => by have := hw.lo g e.symm; omega)).trans hw.bx
 exact (hb.t1 (hb.at.2 0))
/-- The slice is stored. -/
theorem PushT.done {g : Nat} {v v' : Value} {w w' : World} {ts : List Tok} {t : Tok} (h : PushT g v v' w w' ts t) (hw : Wr w g v ts) : Wr (w'.setCell ⟨g, 0, none⟩ v') g v' (ts ++ [t]) ∧ Wg g v v' w (w'.setCell ⟨g, 0, none⟩ v') := by
  have hb : Bx w' g 50 #[v] := (h.gr.block g hw.bx.lt (fun e => by have := hw.lo g e.symm; omega)).trans hw.bx
  have hgw := hw.bx.lt
  refine ⟨⟨by simpa using hb.set 0 v', ?_⟩, ⟨h.gr.os, h.gr.tape, h.gr.output, by have := h.gr.size; simp [World.setCell]; exact this, hw.lo, fun b hlt h1 h2 => ?_, fun b hlt h2 => ?_⟩⟩
  · have h1 := ownsRow_setCell_other (a := ⟨g, 0, none⟩) h.own (fun hh => by have := (h.own.lt _ hh).1; simp at this; omega) v'
    rw [List.length_append, show toksCells (ts ++ [t]) = toksCells ts ++ tokCells t by simp [toksCells]]
    exact h1
  · rw [Below.heap_setCell w' ⟨g, 0, none⟩ v' b h1]
    exact h.gr.block b hlt h2
  · rcases h.fr with e | e
    · rw [e]; exact h2
    · intro hh; have := e b hh.symm; omega
theorem PushT.other {g A : Nat} {v v' : Value} {w w' : World} {ts : List Tok} {t : Tok} {T : TypeId} {cs : Array Value} (_ : PushT g v v' w w' ts t) (k : Bx w' A T cs) (hne : A ≠ g) : Bx (w'.setCell ⟨g, 0, none⟩ v') A T cs := k.only (gr_set g 0 w' v') hne
theorem PushT.done2 {g : Nat} {v v' : Value} {w w' : World} {ts : List Tok} {t : Tok} (h : PushT g v v' w w' ts t) (hw : Wr w g v ts) : ∃ w6 : World, w6 = w'.setCell ⟨g, 0, none⟩ v' ∧ Wr w6 g v' (ts ++ [t]) ∧ Wg g v v' w w6 := ⟨_, rfl, (h.done hw).1, (h.done hw).2⟩
/-- What the writer's functions leave: these tokens more. -/
def WP (g : Nat) (v : Value) (w : World) (ts l : List Tok) (e : Ending) (w' : World) : Prop := e = .returned (.tuple #[]) ∧ ∃ v', Wr w' g v' (ts ++ l) ∧ Wg g v v' w w'
theorem tokS_cells (s : ByteArray) : tokCells (tkS s.toList) = [.int .i64 3, .string s, .int .i64 0, .int .i64 0] := by
 show [Value.int .i64 3, .string ⟨s.toList.toArray⟩, .int .i64 0, .int .i64 0] = _
 rw [Lib.toList_data]
theorem tokN_cells (s : ByteArray) : tokCells (tkN s.toList) = [.int .i64 0, .string s, .int .i64 0, .int .i64 0] := by
 show [Value.int .i64 0, .string ⟨s.toList.toArray⟩, .int .i64 0, .int .i64 0] = _
 rw [Lib.toList_data]
set_option maxRecDepth 100000 in
set_option maxHeartbeats 4000000 in
theorem wsign_ok {w : World} {g : Nat} {v : Value} {ts : List Tok} (h : Wr w g v ts) (hn : ts.length ≤ 1000000000) (s : ByteArray) :
  Calls Tryz.prog 42 #[.pointer (some ⟨g, 0, none⟩), .string s] w (WP g v w ts [tkS s.toList]) := by
 have H := Lib.hid h
 have p0 : w.cell? ⟨g, 0, none⟩ = some v := h.bx.at.1 0
 clear h
 go_enter Tryz.func42, Tryz.ntmps42
 go_wp2_with (at_builtin; go_must (refine wpList_pushT rfl _ _ elemTok rfl w H.out (tkS s.toList) rfl (by rw [tokS_cells]) rfl rfl (by omega) (by omega) ?_; intro v' w' hp; obtain ⟨a', n', c', rfl⟩ := hp.shape; have pf := hp.cell H.out; have p1 := pf.1; have p2 := pf.2; have HP := Lib.hid hp; clear hp pf p0))
 refine bodyPost_end (results_none rfl _ _ _) rfl ?_
 exact ⟨rfl, _, (HP.out.done H.out).1, (HP.out.done H.out).2⟩
set_option maxRecDepth 100000 in
set_option maxHeartbeats 4000000 in
theorem wname_ok {w : World} {g : Nat} {v : Value} {ts : List Tok} (h : Wr w g v ts) (hn : ts.length ≤ 1000000000) (s : ByteArray) :
  Calls Tryz.prog 40 #[.pointer (some ⟨g, 0, none⟩), .string s] w (WP g v w ts [tkN s.toList]) := by
 have H := Lib.hid h
 have p0 : w.cell? ⟨g, 0, none⟩ = some v := h.bx.at.1 0
 clear h
 go_enter Tryz.func40, Tryz.ntmps40
 go_wp2_with (at_builtin; go_must (refine wpList_pushT rfl _ _ elemTok rfl w H.out (tkN s.toList) rfl (by rw [tokN_cells]) rfl rfl (by omega) (by omega) ?_; intro v' w' hp; obtain ⟨a', n', c', rfl⟩ := hp.shape; have pf := hp.cell H.out; have p1 := pf.1; have p2 := pf.2; have HP := Lib.hid hp; clear hp pf p0))
 refine bodyPost_end (results_none rfl _ _ _) rfl ?_
 exact ⟨rfl, _, (HP.out.done H.out).1, (HP.out.done H.out).2⟩
theorem WP.then {g : Nat} {v v1 : Value} {w w1 w2 : World} {ts l1 l2 : List Tok} {e : Ending} (k : Wg g v v1 w w1) (h : WP g v1 w1 (ts ++ l1) l2 e w2) : WP g v w ts (l1 ++ l2) e w2 := by
 obtain ⟨rfl, v2, h1, h2⟩ := h
 exact ⟨rfl, v2, by rw [← List.append_assoc]; exact h1, k.trans h2⟩
set_option maxRecDepth 100000 in
set_option maxHeartbeats 4000000 in
theorem whead_ok {w : World} {g : Nat} {v : Value} {ts : List Tok} (h : Wr w g v ts) (hn : ts.length + 1 ≤ 1000000000) (s : ByteArray) :
  Calls Tryz.prog 41 #[.pointer (some ⟨g, 0, none⟩), .string s] w (WP g v w ts [tkN s.toList, tkS [40]]) := by
 have H := Lib.hid h; clear h
 go_enter Tryz.func41, Tryz.ntmps41
 go_wp2_with fail
 refine (wname_ok H.out (by omega) s).mono ?_
 rintro e w1 ⟨rfl, v1, h1, g1⟩
 have H1 := Lib.hid h1; have G1 := Lib.hid g1; clear h1 g1
 go_wp2_with fail
 refine (wsign_ok H1.out (by simp; omega) ⟨#[40]⟩).mono ?_
 rintro e w2 ⟨rfl, v2, h2, g2⟩
 have H2 := Lib.hid h2; have G2 := Lib.hid (G1.out.trans g2); clear h2 g2
 go_wp2_with fail
 refine bodyPost_end (results_none rfl _ _ _) rfl ?_
 exact ⟨rfl, v2, by have := H2.out; rw [List.append_assoc, show (ByteArray.mk #[40]).toList = [40] by rw [Lib.toList_data]] at this; exact this, G2.out⟩
end Go.Proofs.YtckgmilmhofekaaGreatDoor
namespace Go.Proofs.YtckgmilmhofekaaGreatDoor
open Go.RowKit

/-- The library's table of powers of ten, below a block. -/
def PowT (G : Nat) (w : World) : Prop := Lib.TabIs Tryz.prog w "internal/strconv.uint64pow10" .u64 Lib.pow10Tab ∧ ∀ i, Tryz.prog.globalNamed "internal/strconv.uint64pow10" = some i → i < G
theorem PowT.keepG {G : Nat} {w w' : World} (h : PowT G w) (hb : Below G w w') : PowT G w' := by
 refine ⟨?_, h.2⟩
 obtain ⟨h, hlt⟩ := h
 unfold Lib.TabIs World.var? at *
 cases hg : Tryz.prog.globalNamed "internal/strconv.uint64pow10" with
 | none => rw [hg] at h; cases h
 | some g =>
  rw [hg] at h
  simp only [Option.bind_some] at h ⊢
  rw [hb.block g (hlt g hg)]; exact h
theorem PowT.of {w : World} (h : Lib.TabIs Tryz.prog w "internal/strconv.uint64pow10" .u64 Lib.pow10Tab) : PowT w.heap.size w := by
  refine ⟨h, fun g hg => ?_⟩
  unfold Lib.TabIs World.var? at h
  rw [hg] at h
  simp only [Option.bind_some] at h
  rcases Nat.lt_or_ge g w.heap.size with h' | h'
  · exact h'
  · rw [Array.getElem?_eq_none h'] at h; cases h
theorem PowT.mono {G G' : Nat} {w : World} (h : PowT G w) (hG : G ≤ G') : PowT G' w := ⟨h.1, fun i hi => Nat.lt_of_lt_of_le (h.2 i hi) hG⟩
theorem itoa_f (r : Int) (h0 : 0 ≤ r) (hr : r ≤ 1099511627776) (w : World) {G : Nat} (ht : PowT G w) :
  Calls Tryz.prog 39 #[.int .i64 r] w fun e w' => e = .returned (.string ⟨(Lib.decDigits r.toNat).toArray⟩) ∧ Below w.heap.size w w' := by
 obtain ⟨n, rfl⟩ : ∃ n : Nat, r = n := ⟨r.toNat, by omega⟩
 refine (Tryz.strconv_Itoa (n : Int) (by omega) (by omega) w ht.1).mono ?_
 rintro e w' ⟨rfl, k, os, rfl⟩
 rw [Lib.itoa_nonneg]
 exact ⟨by simp, Go.Lib.below_grow _ w (Nat.le_refl _) k os⟩
/-- Lists of tokens with commas between them. -/
def sepT : List (List Tok) → List Tok
 | [] => []
 | t :: r => t ++ commaT r
theorem listT_sep (l : List (List Tok)) : listT l = sepT l ++ [tkS [41]] := by
 cases l with
 | nil => rfl
 | cons t r => show t ++ (commaT r ++ [tkS [41]]) = t ++ commaT r ++ [tkS [41]]; rw [List.append_assoc]
theorem commaT_app (l r : List (List Tok)) : commaT (l ++ r) = commaT l ++ commaT r := by
 induction l with
 | nil => rfl
 | cons t l ih => show tkS [44] :: (t ++ commaT (l ++ r)) = tkS [44] :: (t ++ commaT l) ++ commaT r; rw [ih]; simp
theorem sepT_app (l r : List (List Tok)) (h : l ≠ []) : sepT (l ++ r) = sepT l ++ commaT r := by
 cases l with
 | nil => exact absurd rfl h
 | cons t l => show t ++ commaT (l ++ r) = t ++ commaT l ++ commaT r; rw [commaT_app, List.append_assoc]
theorem sepT_take (l : List (List Tok)) (j : Nat) : (sepT (l.take j)).length ≤ (sepT l).length := by
 cases hj : l.take j with
 | nil => exact Nat.zero_le _
 | cons t r =>
  have h := List.take_append_drop j l
  rw [hj] at h
  rw [← h, sepT_app _ _ (by simp)]; simp
theorem take_next {α : Type} {l : List α} {j : Nat} {t : α} (h : l[j]? = some t) : l.take (j + 1) = l.take j ++ [t] := by
 obtain ⟨hj, rfl⟩ := List.getElem?_eq_some_iff.1 h
 rw [List.take_succ_eq_append_getElem hj]
theorem tokF_list (a : Fo) : tokF a = a.list.map toksX := by
 induction a with
 | nil => rfl
 | cons op n u m a r iha ihr => show toksX ⟨op, n, u, m, a⟩ :: tokF r = toksX ⟨op, n, u, m, a⟩ :: r.list.map toksX; rw [ihr]
theorem opsF_list (a : Fo) : opsF a = a.list.map Ex.op := by
 induction a with
 | nil => rfl
 | cons op n u m a r iha ihr => show op :: opsF r = op :: r.list.map Ex.op; rw [ihr]
theorem shF_mem : ∀ {a : Fo} {x : Ex}, shF a = true → x ∈ a.list → shF (x.then .nil) = true
  | .nil, _, _, h => by cases h
  | .cons op n u m a r, x, h, hx => by
    have h : shF ((Ex.mk op n u m a).then r) = true := h
    rw [shF_cons, Bool.and_eq_true] at h
    rcases List.mem_cons.1 hx with rfl | hx
    · exact h.1
    · exact shF_mem h.2 hx
/-- How the writer writes expressions with these arguments. -/
def WxOK (a : Fo) : Prop := ∀ (w : World) (op n : Int) (u m : Bytes) (q : Option Addr) (d g : Nat) (v : Value) (ts : List Tok), shF ((Ex.mk op n u m a).then .nil) = true → FoS (fun b => b < g) w q d a → Wr w g v ts → PowT g w →
 ts.length + (toksX ⟨op, n, u, m, a⟩).length ≤ 1000000000 → Calls Tryz.prog 27 #[.pointer (some ⟨g, 0, none⟩), .agg (hdC ⟨op, n, u, m, a⟩ q d).toArray] w (WP g v w ts (toksX ⟨op, n, u, m, a⟩))
theorem bxW_new {w : World} {g : Nat} {v : Value} {ts : List Tok} (h : Wr w g v ts) {T : TypeId} {cs : Array Value} {w' : World} (hv : w' = w.alloc (.cells cs T)) : BxW w' g v w.heap.size T cs :=
 ⟨by rw [hv]; exact bx1 w T cs, by have := h.bx.lt; omega, fun e => by have := (h.own.lt _ e.symm).2; omega⟩
set_option maxRecDepth 100000 in
set_option maxHeartbeats 4000000 in
theorem watom_no {x : Ex} (hx : WxOK x.args) {w : World} {q : Option Addr} {d g : Nat} {v : Value} {ts : List Tok} (hs : shF (x.then .nil) = true) (hS : FoS (fun b => b < g) w q d x.args) (hW : Wr w g v ts) (hT : PowT g w) (hn : ts.length + (wrapT x.op (toksX x)).length ≤ 1000000000) (h0 : opName x.op = none) (h4 : ¬ x.op = 4) (h5 : ¬ x.op = 5) :
  Calls Tryz.prog 44 #[.pointer (some ⟨g, 0, none⟩), .agg (hdC x q d).toArray] w (WP g v w ts (wrapT x.op (toksX x))) := by
 obtain ⟨op, n, u, m, a⟩ := x
 have H := Lib.hid hW; have F := Lib.hid hS; have T := Lib.hid hT
 have hgw := hW.bx.lt
 have G := Lib.hid hW.wg
 have HX := Lib.hid hx; have HS := Lib.hid hs; clear hx hs hW hS hT
 have HWR : Hid (wrapT op (toksX ⟨op, n, u, m, a⟩) = toksX ⟨op, n, u, m, a⟩) := by show _ = _; unfold wrapT; rw [if_neg (by simp_all)]
 rw [HWR.out] at hn ⊢
 have e4 : (op != 4) = true := by rw [bne_iff_ne]; exact h4
 have e5 : (op != 5) = true := by rw [bne_iff_ne]; exact h5
 unfold hdC
 go_enter Tryz.func44, Tryz.ntmps44
 go_upto_region 1 with fail
 refine nmW (w.alloc (.cells #[.int .i64 op, .int .i64 n, .string ⟨u.toArray⟩, .string ⟨m.toArray⟩, .slice q a.len d] 24)) fun w1 hv => ?_
 rw [← hv]
 have K : Hid (BxW w1 g _ w.heap.size 24 #[.int .i64 op, .int .i64 n, .string ⟨u.toArray⟩, .string ⟨m.toArray⟩, .slice q a.len d]) := bxW_new H.out hv
 have hb_ := bah hv
 clear hv
 replace H := Lib.hid (H.out.keep hb_)
 replace G := Lib.hid (G.out.call hb_)
 replace F := Lib.hid (F.out.keep hb_)
 replace T := Lib.hid (T.out.keepG (hb_.mono (Nat.le_of_lt hgw)))
 replace hgw := Nat.lt_of_lt_of_le hgw hb_.size
 have z1_ := hb_.size
 clear hb_
 refine K.out.bx.q5 fun pK_0 pK_1 pK_2 pK_3 pK_4 => ?_
 go_wp2_with fail
 clear pK_0 pK_1 pK_2 pK_3 pK_4
 refine (operator_ok op).mono ?_
 rintro e w1 ⟨rfl, rfl⟩
 rw [show opRes op = _ from opName_no h0]
 refine K.out.bx.q5 fun pK_0 pK_1 pK_2 pK_3 pK_4 => ?_
 go_wp2_with fail
 clear pK_0 pK_1 pK_2 pK_3 pK_4
 have HC := Lib.hid (HX.out _ op n u m q d g _ _ HS.out F.out H.out T.out (by (try simp at hn ⊢); omega))
 unfold hdC at HC
 refine (HC.out).mono ?_
 rintro e w2 ⟨rfl, v1, h2_, g2_⟩
 replace H := Lib.hid h2_
 replace G := Lib.hid (G.out.trans g2_)
 replace F := Lib.hid (F.out.wg g2_)
 replace T := Lib.hid (T.out.keepG (g2_.below (Nat.le_refl _) (Nat.le_of_lt hgw)))
 replace K := Lib.hid (K.out.wg g2_)
 replace hgw := Nat.lt_of_lt_of_le hgw g2_.size
 clear h2_ g2_
 clear HC
 go_wp2_with fail
 refine bodyPost_end (results_none rfl _ _ _) rfl ?_
 exact ⟨rfl, _, by exact H.out, G.out⟩
set_option maxRecDepth 100000 in
set_option maxHeartbeats 4000000 in
theorem watom_op {x : Ex} (hx : WxOK x.args) {w : World} {q : Option Addr} {d g : Nat} {v : Value} {ts : List Tok} (hs : shF (x.then .nil) = true) (hS : FoS (fun b => b < g) w q d x.args) (hW : Wr w g v ts) (hT : PowT g w) (hn : ts.length + (wrapT x.op (toksX x)).length ≤ 1000000000) (h0 : (opName x.op).isSome = true) :
  Calls Tryz.prog 44 #[.pointer (some ⟨g, 0, none⟩), .agg (hdC x q d).toArray] w (WP g v w ts (wrapT x.op (toksX x))) := by
 obtain ⟨op, n, u, m, a⟩ := x
 have H := Lib.hid hW; have F := Lib.hid hS; have T := Lib.hid hT
 have hgw := hW.bx.lt
 have G := Lib.hid hW.wg
 have HX := Lib.hid hx; have HS := Lib.hid hs; clear hx hs hW hS hT
 have HWR : Hid (wrapT op (toksX ⟨op, n, u, m, a⟩) = tkS [40] :: (toksX ⟨op, n, u, m, a⟩ ++ [tkS [41]])) := by show _ = _; unfold wrapT; rw [if_pos (.inl h0)]
 rw [HWR.out] at hn ⊢
 unfold hdC
 go_enter Tryz.func44, Tryz.ntmps44
 go_upto_region 1 with fail
 refine nmW (w.alloc (.cells #[.int .i64 op, .int .i64 n, .string ⟨u.toArray⟩, .string ⟨m.toArray⟩, .slice q a.len d] 24)) fun w1 hv => ?_
 rw [← hv]
 have K : Hid (BxW w1 g _ w.heap.size 24 #[.int .i64 op, .int .i64 n, .string ⟨u.toArray⟩, .string ⟨m.toArray⟩, .slice q a.len d]) := bxW_new H.out hv
 have hb_ := bah hv
 clear hv
 replace H := Lib.hid (H.out.keep hb_)
 replace G := Lib.hid (G.out.call hb_)
 replace F := Lib.hid (F.out.keep hb_)
 replace T := Lib.hid (T.out.keepG (hb_.mono (Nat.le_of_lt hgw)))
 replace hgw := Nat.lt_of_lt_of_le hgw hb_.size
 have z1_ := hb_.size
 clear hb_
 refine K.out.bx.q5 fun pK_0 pK_1 pK_2 pK_3 pK_4 => ?_
 go_wp2_with fail
 clear pK_0 pK_1 pK_2 pK_3 pK_4
 refine (operator_ok op).mono ?_
 rintro e w1 ⟨rfl, rfl⟩
 rw [show opRes op = _ from opName_yes h0]
 refine K.out.bx.q5 fun pK_0 pK_1 pK_2 pK_3 pK_4 => ?_
 go_wp2_with fail
 clear pK_0 pK_1 pK_2 pK_3 pK_4
 refine (wsign_ok H.out (by (try simp at hn); omega) ⟨#[40]⟩).mono ?_
 rintro e w2 ⟨rfl, v1, h2_, g2_⟩
 replace H := Lib.hid h2_
 replace G := Lib.hid (G.out.trans g2_)
 replace F := Lib.hid (F.out.wg g2_)
 replace T := Lib.hid (T.out.keepG (g2_.below (Nat.le_refl _) (Nat.le_of_lt hgw)))
 replace K := Lib.hid (K.out.wg g2_)
 replace hgw := Nat.lt_of_lt_of_le hgw g2_.size
 clear h2_ g2_
 refine K.out.bx.q5 fun pK_0 pK_1 pK_2 pK_3 pK_4 => ?_
 go_wp2_with fail
 clear pK_0 pK_1 pK_2 pK_3 pK_4
 have HC := Lib.hid (HX.out _ op n u m q d g _ _ HS.out F.out H.out T.out (by (try simp at hn ⊢); omega))
 unfold hdC at HC
 refine (HC.out).mono ?_
 rintro e w3 ⟨rfl, v2, h2_, g2_⟩
 replace H := Lib.hid h2_
 replace G := Lib.hid (G.out.trans g2_)
 replace F := Lib.hid (F.out.wg g2_)
 replace T := Lib.hid (T.out.keepG (g2_.below (Nat.le_refl _) (Nat.le_of_lt hgw)))
 replace K := Lib.hid (K.out.wg g2_)
 replace hgw := Nat.lt_of_lt_of_le hgw g2_.size
 clear h2_ g2_
 clear HC
 go_wp2_with fail
 refine (wsign_ok H.out (by (try simp at hn ⊢); omega) ⟨#[41]⟩).mono ?_
 rintro e w4 ⟨rfl, v3, h2_, g2_⟩
 replace H := Lib.hid h2_
 replace G := Lib.hid (G.out.trans g2_)
 replace F := Lib.hid (F.out.wg g2_)
 replace T := Lib.hid (T.out.keepG (g2_.below (Nat.le_refl _) (Nat.le_of_lt hgw)))
 replace K := Lib.hid (K.out.wg g2_)
 replace hgw := Nat.lt_of_lt_of_le hgw g2_.size
 clear h2_ g2_
 go_wp2_with fail
 refine bodyPost_end (results_none rfl _ _ _) rfl ?_
 exact ⟨rfl, _, by have := H.out; rw [show (ByteArray.mk #[40]).toList = [40] by rw [Lib.toList_data], show (ByteArray.mk #[41]).toList = [41] by rw [Lib.toList_data]] at this; simpa using this, G.out⟩
set_option maxRecDepth 100000 in
set_option maxHeartbeats 4000000 in
theorem watom_4 {x : Ex} (hx : WxOK x.args) {w : World} {q : Option Addr} {d g : Nat} {v : Value} {ts : List Tok} (hs : shF (x.then .nil) = true) (hS : FoS (fun b => b < g) w q d x.args) (hW : Wr w g v ts) (hT : PowT g w) (hn : ts.length + (wrapT x.op (toksX x)).length ≤ 1000000000) (h4 : x.op = 4) :
  Calls Tryz.prog 44 #[.pointer (some ⟨g, 0, none⟩), .agg (hdC x q d).toArray] w (WP g v w ts (wrapT x.op (toksX x))) := by
 obtain ⟨op, n, u, m, a⟩ := x
 have H := Lib.hid hW; have F := Lib.hid hS; have T := Lib.hid hT
 have hgw := hW.bx.lt
 have G := Lib.hid hW.wg
 obtain rfl : op = 4 := h4
 have HX := Lib.hid hx; have HS := Lib.hid hs; clear hx hs hW hS hT
 have HWR : Hid (wrapT 4 (toksX ⟨4, n, u, m, a⟩) = tkS [40] :: (toksX ⟨4, n, u, m, a⟩ ++ [tkS [41]])) := by show _ = _; unfold wrapT; rw [if_pos (.inr (.inl rfl))]
 rw [HWR.out] at hn ⊢
 unfold hdC
 go_enter Tryz.func44, Tryz.ntmps44
 go_upto_region 1 with fail
 refine nmW (w.alloc (.cells #[.int .i64 4, .int .i64 n, .string ⟨u.toArray⟩, .string ⟨m.toArray⟩, .slice q a.len d] 24)) fun w1 hv => ?_
 rw [← hv]
 have K : Hid (BxW w1 g _ w.heap.size 24 #[.int .i64 4, .int .i64 n, .string ⟨u.toArray⟩, .string ⟨m.toArray⟩, .slice q a.len d]) := bxW_new H.out hv
 have hb_ := bah hv
 clear hv
 replace H := Lib.hid (H.out.keep hb_)
 replace G := Lib.hid (G.out.call hb_)
 replace F := Lib.hid (F.out.keep hb_)
 replace T := Lib.hid (T.out.keepG (hb_.mono (Nat.le_of_lt hgw)))
 replace hgw := Nat.lt_of_lt_of_le hgw hb_.size
 have z1_ := hb_.size
 clear hb_
 refine K.out.bx.q5 fun pK_0 pK_1 pK_2 pK_3 pK_4 => ?_
 go_wp2_with fail
 clear pK_0 pK_1 pK_2 pK_3 pK_4
 refine (operator_ok 4).mono ?_
 rintro e w1 ⟨rfl, rfl⟩
 rw [show opRes 4 = _ from opName_no rfl]
 refine K.out.bx.q5 fun pK_0 pK_1 pK_2 pK_3 pK_4 => ?_
 go_wp2_with fail
 clear pK_0 pK_1 pK_2 pK_3 pK_4
 refine (wsign_ok H.out (by (try simp at hn); omega) ⟨#[40]⟩).mono ?_
 rintro e w2 ⟨rfl, v1, h2_, g2_⟩
 replace H := Lib.hid h2_
 replace G := Lib.hid (G.out.trans g2_)
 replace F := Lib.hid (F.out.wg g2_)
 replace T := Lib.hid (T.out.keepG (g2_.below (Nat.le_refl _) (Nat.le_of_lt hgw)))
 replace K := Lib.hid (K.out.wg g2_)
 replace hgw := Nat.lt_of_lt_of_le hgw g2_.size
 clear h2_ g2_
 refine K.out.bx.q5 fun pK_0 pK_1 pK_2 pK_3 pK_4 => ?_
 go_wp2_with fail
 clear pK_0 pK_1 pK_2 pK_3 pK_4
 have HC := Lib.hid (HX.out _ 4 n u m q d g _ _ HS.out F.out H.out T.out (by (try simp at hn ⊢); omega))
 unfold hdC at HC
 refine (HC.out).mono ?_
 rintro e w3 ⟨rfl, v2, h2_, g2_⟩
 replace H := Lib.hid h2_
 replace G := Lib.hid (G.out.trans g2_)
 replace F := Lib.hid (F.out.wg g2_)
 replace T := Lib.hid (T.out.keepG (g2_.below (Nat.le_refl _) (Nat.le_of_lt hgw)))
 replace K := Lib.hid (K.out.wg g2_)
 replace hgw := Nat.lt_of_lt_of_le hgw g2_.size
 clear h2_ g2_
 clear HC
 go_wp2_with fail
 refine (wsign_ok H.out (by (try simp at hn ⊢); omega) ⟨#[41]⟩).mono ?_
 rintro e w4 ⟨rfl, v3, h2_, g2_⟩
 replace H := Lib.hid h2_
 replace G := Lib.hid (G.out.trans g2_)
 replace F := Lib.hid (F.out.wg g2_)
 replace T := Lib.hid (T.out.keepG (g2_.below (Nat.le_refl _) (Nat.le_of_lt hgw)))
 replace K := Lib.hid (K.out.wg g2_)
 replace hgw := Nat.lt_of_lt_of_le hgw g2_.size
 clear h2_ g2_
 go_wp2_with fail
 refine bodyPost_end (results_none rfl _ _ _) rfl ?_
 exact ⟨rfl, _, by have := H.out; rw [show (ByteArray.mk #[40]).toList = [40] by rw [Lib.toList_data], show (ByteArray.mk #[41]).toList = [41] by rw [Lib.toList_data]] at this; simpa using this, G.out⟩
set_option maxRecDepth 100000 in
set_option maxHeartbeats 4000000 in
theorem watom_5 {x : Ex} (hx : WxOK x.args) {w : World} {q : Option Addr} {d g : Nat} {v : Value} {ts : List Tok} (hs : shF (x.then .nil) = true) (hS : FoS (fun b => b < g) w q d x.args) (hW : Wr w g v ts) (hT : PowT g w) (hn : ts.length + (wrapT x.op (toksX x)).length ≤ 1000000000) (h5 : x.op = 5) :
  Calls Tryz.prog 44 #[.pointer (some ⟨g, 0, none⟩), .agg (hdC x q d).toArray] w (WP g v w ts (wrapT x.op (toksX x))) := by
 obtain ⟨op, n, u, m, a⟩ := x
 have H := Lib.hid hW; have F := Lib.hid hS; have T := Lib.hid hT
 have hgw := hW.bx.lt
 have G := Lib.hid hW.wg
 obtain rfl : op = 5 := h5
 have HX := Lib.hid hx; have HS := Lib.hid hs; clear hx hs hW hS hT
 have HWR : Hid (wrapT 5 (toksX ⟨5, n, u, m, a⟩) = tkS [40] :: (toksX ⟨5, n, u, m, a⟩ ++ [tkS [41]])) := by show _ = _; unfold wrapT; rw [if_pos (.inr (.inr rfl))]
 rw [HWR.out] at hn ⊢
 unfold hdC
 go_enter Tryz.func44, Tryz.ntmps44
 go_upto_region 1 with fail
 refine nmW (w.alloc (.cells #[.int .i64 5, .int .i64 n, .string ⟨u.toArray⟩, .string ⟨m.toArray⟩, .slice q a.len d] 24)) fun w1 hv => ?_
 rw [← hv]
 have K : Hid (BxW w1 g _ w.heap.size 24 #[.int .i64 5, .int .i64 n, .string ⟨u.toArray⟩, .string ⟨m.toArray⟩, .slice q a.len d]) := bxW_new H.out hv
 have hb_ := bah hv
 clear hv
 replace H := Lib.hid (H.out.keep hb_)
 replace G := Lib.hid (G.out.call hb_)
 replace F := Lib.hid (F.out.keep hb_)
 replace T := Lib.hid (T.out.keepG (hb_.mono (Nat.le_of_lt hgw)))
 replace hgw := Nat.lt_of_lt_of_le hgw hb_.size
 have z1_ := hb_.size
 clear hb_
 refine K.out.bx.q5 fun pK_0 pK_1 pK_2 pK_3 pK_4 => ?_
 go_wp2_with fail
 clear pK_0 pK_1 pK_2 pK_3 pK_4
 refine (operator_ok 5).mono ?_
 rintro e w1 ⟨rfl, rfl⟩
 rw [show opRes 5 = _ from opName_no rfl]
 refine K.out.bx.q5 fun pK_0 pK_1 pK_2 pK_3 pK_4 => ?_
 go_wp2_with fail
 clear pK_0 pK_1 pK_2 pK_3 pK_4
 refine (wsign_ok H.out (by (try simp at hn); omega) ⟨#[40]⟩).mono ?_
 rintro e w2 ⟨rfl, v1, h2_, g2_⟩
 replace H := Lib.hid h2_
 replace G := Lib.hid (G.out.trans g2_)
 replace F := Lib.hid (F.out.wg g2_)
 replace T := Lib.hid (T.out.keepG (g2_.below (Nat.le_refl _) (Nat.le_of_lt hgw)))
 replace K := Lib.hid (K.out.wg g2_)
 replace hgw := Nat.lt_of_lt_of_le hgw g2_.size
 clear h2_ g2_
 refine K.out.bx.q5 fun pK_0 pK_1 pK_2 pK_3 pK_4 => ?_
 go_wp2_with fail
 clear pK_0 pK_1 pK_2 pK_3 pK_4
 have HC := Lib.hid (HX.out _ 5 n u m q d g _ _ HS.out F.out H.out T.out (by (try simp at hn ⊢); omega))
 unfold hdC at HC
 refine (HC.out).mono ?_
 rintro e w3 ⟨rfl, v2, h2_, g2_⟩
 replace H := Lib.hid h2_
 replace G := Lib.hid (G.out.trans g2_)
 replace F := Lib.hid (F.out.wg g2_)
 replace T := Lib.hid (T.out.keepG (g2_.below (Nat.le_refl _) (Nat.le_of_lt hgw)))
 replace K := Lib.hid (K.out.wg g2_)
 replace hgw := Nat.lt_of_lt_of_le hgw g2_.size
 clear h2_ g2_
 clear HC
 go_wp2_with fail
 refine (wsign_ok H.out (by (try simp at hn ⊢); omega) ⟨#[41]⟩).mono ?_
 rintro e w4 ⟨rfl, v3, h2_, g2_⟩
 replace H := Lib.hid h2_
 replace G := Lib.hid (G.out.trans g2_)
 replace F := Lib.hid (F.out.wg g2_)
 replace T := Lib.hid (T.out.keepG (g2_.below (Nat.le_refl _) (Nat.le_of_lt hgw)))
 replace K := Lib.hid (K.out.wg g2_)
 replace hgw := Nat.lt_of_lt_of_le hgw g2_.size
 clear h2_ g2_
 go_wp2_with fail
 refine bodyPost_end (results_none rfl _ _ _) rfl ?_
 exact ⟨rfl, _, by have := H.out; rw [show (ByteArray.mk #[40]).toList = [40] by rw [Lib.toList_data], show (ByteArray.mk #[41]).toList = [41] by rw [Lib.toList_data]] at this; simpa using this, G.out⟩
theorem watom_ok {x : Ex} (hx : WxOK x.args) {w : World} {q : Option Addr} {d g : Nat} {v : Value} {ts : List Tok} (hs : shF (x.then .nil) = true) (hS : FoS (fun b => b < g) w q d x.args) (hW : Wr w g v ts) (hT : PowT g w) (hn : ts.length + (wrapT x.op (toksX x)).length ≤ 1000000000) :
    Calls Tryz.prog 44 #[.pointer (some ⟨g, 0, none⟩), .agg (hdC x q d).toArray] w (WP g v w ts (wrapT x.op (toksX x))) := by
  cases h0 : (opName x.op).isSome with
  | true => exact watom_op hx hs hS hW hT hn h0
  | false =>
    by_cases h4 : x.op = 4
    · exact watom_4 hx hs hS hW hT hn h4
    by_cases h5 : x.op = 5
    · exact watom_5 hx hs hS hW hT hn h5
    have hn' : opName x.op = none := by cases hq : opName x.op with | none => rfl | some y => rw [hq] at h0; cases h0
    exact watom_no hx hs hS hW hT hn hn' h4 h5
end Go.Proofs.YtckgmilmhofekaaGreatDoor
namespace Go.Proofs.YtckgmilmhofekaaGreatDoor
open Go.RowKit

theorem tokF_at {a : Fo} {j : Nat} {x : Ex} (h : a.list[j]? = some x) : (tokF a)[j]? = some (toksX x) := by rw [tokF_list, List.getElem?_map, h]; rfl
theorem sep_first {a : Fo} {x : Ex} (h : a.list[0]? = some x) : sepT ((tokF a).take 1) = toksX x := by
 rw [take_next (tokF_at h)]; show toksX x ++ [] = _; rw [List.append_nil]
theorem sep_next {a : Fo} {j : Nat} {x : Ex} (h : a.list[j]? = some x) (h0 : j ≠ 0) : sepT ((tokF a).take (j + 1)) = sepT ((tokF a).take j) ++ tkS [44] :: toksX x := by
 have hl := (List.getElem?_eq_some_iff.1 (tokF_at h)).1
 rw [take_next (tokF_at h), sepT_app _ _ (fun e => by have := congrArg List.length e; rw [List.length_take, List.length_nil] at this; omega)]
 show _ ++ tkS [44] :: (toksX x ++ []) = _; rw [List.append_nil]
theorem sep_all (a : Fo) : sepT ((tokF a).take a.len) = sepT (tokF a) := by
 rw [List.take_of_length_le]; rw [tokF_list, List.length_map, Fo.len_list]; exact Nat.le_refl _
set_option maxRecDepth 100000 in
set_option maxHeartbeats 4000000 in
theorem wlist_ok {a : Fo} (hi : ∀ x ∈ a.list, WxOK x.args) (hal : a.len ≤ 9223372036854775807) {w : World} {q : Option Addr} {d g : Nat} {v : Value} {ts : List Tok} (hs : shF a = true) (hS : FoS (fun b => b < g) w q d a) (hW : Wr w g v ts) (hT : PowT g w) (hn : ts.length + (listT (tokF a)).length ≤ 1000000000) :
    Calls Tryz.prog 43 #[.pointer (some ⟨g, 0, none⟩), .slice q a.len d] w (WP g v w ts (listT (tokF a))) := by
  rw [listT_sep] at hn ⊢
  have HN : Hid (ts.length + (sepT (tokF a)).length + 1 ≤ 1000000000) := by show _ ≤ _; simp at hn; omega
  have H := Lib.hid hW; have F := Lib.hid hS; have T := Lib.hid hT
  have hgw := hW.bx.lt
  have G := Lib.hid hW.wg
  have HX := Lib.hid hi; have HS := Lib.hid hs; clear hi hs hW hS hT hn
  go_enter Tryz.func43, Tryz.ntmps43
  go_wp2_with fail
  go_loopw [8] (fun i wr => ∃ (j : Nat) (vv : Value), i = .int .i64 (j : Int) ∧ j ≤ a.len ∧ g < wr.heap.size ∧ Hid (Wr wr g vv (ts ++ sepT ((tokF a).take j))) ∧ Hid (Wg g v vv w wr) ∧ Hid (FoS (fun b => b < g) wr q d a) ∧ Hid (PowT g wr)) (fun i _ => a.len - (intOf i).toNat)
  case atStart => exact ⟨0, v, rfl, Nat.zero_le _, hgw, by show Wr _ _ _ _; have := H.out; rw [show ts ++ sepT ((tokF a).take 0) = ts from List.append_nil _]; exact this, G, F, T⟩
  case round =>
    clear H G F T hgw
    obtain ⟨j, vv, rfl, hj, hgw, H, G, F, T⟩ := hrel
    by_cases hlt : j < a.len
    · obtain ⟨x, hx⟩ : ∃ x, a.list[j]? = some x := ⟨_, List.getElem?_eq_getElem (by rw [Fo.len_list]; exact hlt)⟩
      obtain ⟨b, o, q2, d2, rfl, hb, hcell, hsx⟩ := F.out.at hx
      have HJ := Lib.hid hx; have F2 := Lib.hid hsx; clear hx hsx
      have c0 : wr.cell? ⟨b, o + j * 5, none⟩ = some (.int .i64 x.op) := by have := hcell 0 _ rfl; rw [Nat.mul_comm] at this; exact this
      have c1 : wr.cell? ⟨b, o + j * 5 + 1, none⟩ = some (.int .i64 x.n) := by have := hcell 1 _ rfl; rw [Nat.mul_comm] at this; exact this
      have c2 : wr.cell? ⟨b, o + j * 5 + 2, none⟩ = some (.string ⟨x.unit.toArray⟩) := by have := hcell 2 _ rfl; rw [Nat.mul_comm] at this; exact this
      have c3 : wr.cell? ⟨b, o + j * 5 + 3, none⟩ = some (.string ⟨x.name.toArray⟩) := by have := hcell 3 _ rfl; rw [Nat.mul_comm] at this; exact this
      have c4 : wr.cell? ⟨b, o + j * 5 + 4, none⟩ = some (.slice q2 x.args.len d2) := by have := hcell 4 _ rfl; rw [Nat.mul_comm] at this; exact this
      clear hcell
      have hjl : (j : Int) < (a.len : Int) := by omega
      have HLT := Lib.hid hlt
      have HMEM := Lib.hid (List.mem_of_getElem? HJ.out)
      have HLE : Hid ((sepT ((tokF a).take (j + 1))).length ≤ (sepT (tokF a)).length) := sepT_take _ _
      go_upto_region 3 with fail
      clear c0 c1 c2 c3 c4 hjl
      refine nmW (wr.alloc (.cells #[.int .i64 x.op, .int .i64 x.n, .string ⟨x.unit.toArray⟩, .string ⟨x.name.toArray⟩, .slice q2 x.args.len d2] 24)) fun w1 hv => ?_
      rw [← hv]
      have K : Hid (BxW w1 g _ wr.heap.size 24 #[.int .i64 x.op, .int .i64 x.n, .string ⟨x.unit.toArray⟩, .string ⟨x.name.toArray⟩, .slice q2 x.args.len d2]) := bxW_new H.out hv
      have hb_ := bah hv
      clear hv
      replace H := Lib.hid (H.out.keep hb_)
      replace G := Lib.hid (G.out.call hb_)
      replace F := Lib.hid (F.out.keep hb_)
      replace T := Lib.hid (T.out.keepG (hb_.mono (Nat.le_of_lt hgw)))
      replace F2 := Lib.hid (F2.out.keep hb_)
      replace hgw := Nat.lt_of_lt_of_le hgw hb_.size
      have z1_ := hb_.size
      clear hb_
      by_cases h0 : j = 0
      · subst h0
        have HSN : Hid (sepT ((tokF a).take (0 + 1)) = toksX x) := sep_first HJ.out
        have HC := Lib.hid (HX.out x HMEM.out _ x.op x.n x.unit x.name q2 d2 g _ _ (shF_mem HS.out HMEM.out) F2.out H.out T.out (by show _ + (toksX x).length ≤ _; have hnn := HN.out; have hle := HLE.out; rw [HSN.out] at hle; simp [show sepT [] = [] from rfl] at hle ⊢; omega))
        unfold hdC at HC
        refine K.out.bx.q5 fun pK_0 pK_1 pK_2 pK_3 pK_4 => ?_
        go_wp2_with fail
        clear pK_0 pK_1 pK_2 pK_3 pK_4
        refine (HC.out).mono ?_
        rintro e w2 ⟨rfl, v1, h2_, g2_⟩
        replace H := Lib.hid h2_
        replace G := Lib.hid (G.out.trans g2_)
        replace F := Lib.hid (F.out.wg g2_)
        replace T := Lib.hid (T.out.keepG (g2_.below (Nat.le_refl _) (Nat.le_of_lt hgw)))
        replace F2 := Lib.hid (F2.out.wg g2_)
        replace K := Lib.hid (K.out.wg g2_)
        replace hgw := Nat.lt_of_lt_of_le hgw g2_.size
        clear h2_ g2_
        clear HC
        go_wp2_with fail
        go_roundw
        case rel => exact ⟨1, v1, by go_num, HLT.out, hgw, by show Wr _ _ _ _; rw [show sepT ((tokF a).take 1) = _ from HSN.out]; have := H.out; rw [show ts ++ sepT ((tokF a).take 0) = ts from List.append_nil _] at this; exact this, G, F, T⟩
        case measure => have := HLT.out; simp [intOf]; omega
      · have HSN : Hid (sepT ((tokF a).take (j + 1)) = sepT ((tokF a).take j) ++ tkS [44] :: toksX x) := sep_next HJ.out h0
        have h1 : (0 : Int) < (j : Int) := by omega
        go_wp2_with fail
        refine (wsign_ok H.out (by have hnn := HN.out; have hle := HLE.out; rw [HSN.out] at hle; simp at hle ⊢; omega) ⟨#[44]⟩).mono ?_
        rintro e w3 ⟨rfl, v1, h2_, g2_⟩
        replace H := Lib.hid h2_
        replace G := Lib.hid (G.out.trans g2_)
        replace F := Lib.hid (F.out.wg g2_)
        replace T := Lib.hid (T.out.keepG (g2_.below (Nat.le_refl _) (Nat.le_of_lt hgw)))
        replace F2 := Lib.hid (F2.out.wg g2_)
        replace K := Lib.hid (K.out.wg g2_)
        replace hgw := Nat.lt_of_lt_of_le hgw g2_.size
        clear h2_ g2_
        have HC := Lib.hid (HX.out x HMEM.out _ x.op x.n x.unit x.name q2 d2 g _ _ (shF_mem HS.out HMEM.out) F2.out H.out T.out (by show _ + (toksX x).length ≤ _; have hnn := HN.out; have hle := HLE.out; rw [HSN.out] at hle; simp at hle ⊢; omega))
        unfold hdC at HC
        refine K.out.bx.q5 fun pK_0 pK_1 pK_2 pK_3 pK_4 => ?_
        go_wp2_with fail
        clear pK_0 pK_1 pK_2 pK_3 pK_4
        refine (HC.out).mono ?_
        rintro e w4 ⟨rfl, v2, h2_, g2_⟩
        replace H := Lib.hid h2_
        replace G := Lib.hid (G.out.trans g2_)
        replace F := Lib.hid (F.out.wg g2_)
        replace T := Lib.hid (T.out.keepG (g2_.below (Nat.le_refl _) (Nat.le_of_lt hgw)))
        replace F2 := Lib.hid (F2.out.wg g2_)
        replace K := Lib.hid (K.out.wg g2_)
        replace hgw := Nat.lt_of_lt_of_le hgw g2_.size
        clear h2_ g2_
        clear HC
        go_wp2_with fail
        go_roundw
        case rel => exact ⟨j + 1, v2, by go_num, HLT.out, hgw, by show Wr _ _ _ _; rw [HSN.out]; have := H.out; rw [show (ByteArray.mk #[44]).toList = [44] by rw [Lib.toList_data]] at this; simpa using this, G, F, T⟩
        case measure => have := HLT.out; simp [intOf]; omega
    · have hje : j = a.len := by omega
      have hjl : ¬ (j : Int) < (a.len : Int) := by omega
      subst hje
      have H9 : Hid (Wr wr g vv (ts ++ sepT (tokF a))) := by show Wr _ _ _ _; have := H.out; rw [sep_all] at this; exact this
      clear H
      go_wp2_with fail
      refine (wsign_ok H9.out (by have := HN.out; simp; omega) ⟨#[41]⟩).mono ?_
      rintro e w5 ⟨rfl, v1, h2_, g2_⟩
      replace G := Lib.hid (G.out.trans g2_)
      replace F := Lib.hid (F.out.wg g2_)
      replace T := Lib.hid (T.out.keepG (g2_.below (Nat.le_refl _) (Nat.le_of_lt hgw)))
      replace H9 := Lib.hid h2_
      replace hgw := Nat.lt_of_lt_of_le hgw g2_.size
      clear h2_ g2_
      go_wp2_with fail
      refine bodyPost_end (results_none rfl _ _ _) rfl ?_
      exact ⟨rfl, v1, by have := H9.out; rw [show (ByteArray.mk #[41]).toList = [41] by rw [Lib.toList_data], List.append_assoc] at this; exact this, G.out⟩
end Go.Proofs.YtckgmilmhofekaaGreatDoor
