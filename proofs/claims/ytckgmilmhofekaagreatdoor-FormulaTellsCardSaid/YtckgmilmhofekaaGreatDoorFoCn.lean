/- Walks: the nodes are counted. -/
import Derived.Test.YtckgmilmhofekaaGreatDoorLexLaws
import Derived.Test.YtckgmilmhofekaaGreatDoorFoBack
import Derived.Test.YtckgmilmhofekaaGreatDoorBase
import Derived.Test.YtckgmilmhofekaaGreatDoorLexBytes
import Derived.Test.YtckgmilmhofekaaGreatDoorLexPrint
import Derived.Test.YtckgmilmhofekaaGreatDoorBigSpec
import Derived.Test.YtckgmilmhofekaaGreatDoorBigD
import Derived.Test.YtckgmilmhofekaaGreatDoorBigQ
import Derived.Test.YtckgmilmhofekaaGreatDoorFd
import Derived.Test.YtckgmilmhofekaaGreatDoorHeld
import Derived.Test.YtckgmilmhofekaaGreatDoorAw
import Derived.Test.YtckgmilmhofekaaGreatDoorOwn
import Derived.Test.YtckgmilmhofekaaGreatDoorFoWd
import Derived.Test.YtckgmilmhofekaaGreatDoorFoOx
import Derived.Test.YtckgmilmhofekaaGreatDoorProg
import Derived.Test.YtckgmilmhofekaaGreatDoorShelf
import Derived.WalkKit
import Derived.Lib.ItoaNum
import Derived.WalkSpells
import Derived.WalkLawsBesides
import Derived.Handy
import Derived.Lib.Hide
import Derived.Lib.Strings
import Derived.Lib.Builder
import Derived.Shelf.Strings.Builder1
import Derived.BigQuiet
import Derived.OwnWalk
import Derived.Laws.BitsLemmas
import Derived.WalkSmall
import Derived.Deep.QuietTactic
import Derived.StillTailTactics
import Derived.Maps.AppendAt
import Derived.IntWalk
import Derived.Deep.RegionHeld3
import Derived.Deep.DeepFit
import Derived.Deep.LoopGhost
import Derived.Deep.DeepCutAuto
import Derived.Lib.Repeat
import Derived.Lib.AppendIntMem
import Derived.Sort.OwnSorted
import Derived.Shelf.Strings.SlTrimAscii
import Derived.Lib.ConvBytes
import Derived.Lib.CutLaws
import Derived.ArgAppend
namespace Go.Proofs.YtckgmilmhofekaaGreatDoor
open Go.RowKit

/-- The reading of an atom. -/
def AOK (g : Nat) (p : Option Addr) (c : Nat) (ts : List Tok) (A : List Tok → PR) (N : Nat) : Prop := ∀ (w : World) (k : Nat) (b : Bool), Rd w g p c ts k b → (b = false → (ts.drop k).length ≤ N) →
 Calls Tryz.prog 64 #[.pointer (some ⟨g, 0, none⟩)] w (ExPost g p c ts w (gate b (ts.drop k) (A (ts.drop k))))
/-- The rounds of 'if': the words ahead of the atoms. -/
def ifWd (i : Nat) : Bytes := if i = 0 then wThen else wElse
inductive IfS (A : List Tok → PR) (ts : List Tok) (k0 : Nat) : Nat → List Ex → Nat → Bool → Prop
 | start {x : Ex} {k : Nat} {b : Bool} (h : outR ts (A (ts.drop k0)) x k b) : IfS A ts k0 0 [x] k b
 | next {i : Nat} {l : List Ex} {k k1 k2 : Nat} {b t b1 b2 : Bool} {x : Ex} (h : IfS A ts k0 i l k b) (ht : (!b && isT 0 (ifWd i) (ts.drop k)) = t) (hk : stepK t k = k1) (hb : (!t || b) = b1) (ho : outR ts (gate b1 (ts.drop k1) (A (ts.drop k1))) x k2 b2) : IfS A ts k0 (i + 1) (l ++ [x]) k2 b2
/-- What 'if' has read so far. -/
def ifG (A : List Tok → PR) (ts : List Tok) (k0 : Nat) : Nat → List Ex → Nat → Prop
 | 0, l, k => ∃ a, l = [a] ∧ A (ts.drop k0) = .ok (a, ts.drop k)
 | 1, l, k => ∃ a b k1, l = [a, b] ∧ A (ts.drop k0) = .ok (a, ts.drop k1) ∧ isT 0 wThen (ts.drop k1) = true ∧ A (ts.drop (k1 + 1)) = .ok (b, ts.drop k)
 | _, l, k => ∃ a b c k1 k2, l = [a, b, c] ∧ A (ts.drop k0) = .ok (a, ts.drop k1) ∧ isT 0 wThen (ts.drop k1) = true ∧ A (ts.drop (k1 + 1)) = .ok (b, ts.drop k2) ∧ isT 0 wElse (ts.drop k2) = true ∧ A (ts.drop (k2 + 1)) = .ok (c, ts.drop k)
theorem outR_ok {ts : List Tok} {R : PR} {x : Ex} {k : Nat} (h : outR ts R x k false) : R = .ok (x, ts.drop k) := by
 unfold outR at h
 cases R with
 | error r => have := h.1; cases this
 | ok y => obtain ⟨y, r⟩ := y; obtain ⟨rfl, -, rfl⟩ := h; rfl
theorem outR_err {ts : List Tok} {R : PR} {x : Ex} {k : Nat} (h : outR ts R x k true) : R = .error (ts.drop k) := by
 unfold outR at h
 cases R with
 | error r => rw [h.2]
 | ok y => obtain ⟨y, r⟩ := y; have := h.2.1; cases this
theorem ifS_is {A : List Tok → PR} {ts : List Tok} {k0 i k : Nat} {l : List Ex} {b : Bool} (h : IfS A ts k0 i l k b) (hi : i ≤ 2) : if b = true then ifP A (ts.drop k0) = .error (ts.drop k) else ifG A ts k0 i l k := by
  induction h with
  | @start x k b h =>
    cases b with
    | true => rw [if_pos rfl]; unfold ifP; rw [outR_err h]
    | false => rw [if_neg (by decide)]; exact ⟨x, rfl, outR_ok h⟩
  | @next i l k k1 k2 b t b1 b2 x h ht hk hb ho ih =>
    have ih := ih (by omega)
    cases b with
    | true =>
      rw [if_pos rfl] at ih
      obtain rfl : false = t := ht
      obtain rfl : true = b1 := hb
      obtain rfl : k = k1 := hk
      have ho : b2 = true ∧ ts.drop k = ts.drop k2 := ho
      rw [ho.1, if_pos rfl, ← ho.2]; exact ih
    | false =>
      rw [if_neg (by decide)] at ih
      have ht : isT 0 (ifWd i) (ts.drop k) = t := ht
      have hi2 : i = 0 ∨ i = 1 := by omega
      cases t with
      | false =>
        obtain rfl : true = b1 := hb
        obtain rfl : k = k1 := hk
        have ho : b2 = true ∧ ts.drop k = ts.drop k2 := ho
        rw [ho.1, if_pos rfl, ← ho.2]
        rcases hi2 with rfl | rfl
        · obtain ⟨a, rfl, h1⟩ := ih
          unfold ifP; rw [h1]; dsimp only; rw [needP_not (s := wThen) ht]
        · obtain ⟨a, b, k1, rfl, h1, h2, h3⟩ := ih
          unfold ifP; rw [h1]; dsimp only; rw [needP_yes h2]; dsimp only; rw [h3]; dsimp only; rw [needP_not (s := wElse) ht]
      | true =>
        obtain rfl : false = b1 := hb
        obtain rfl : k + 1 = k1 := hk
        have ho : outR ts (A (ts.drop (k + 1))) x k2 b2 := ho
        rcases hi2 with rfl | rfl
        · obtain ⟨a, rfl, h1⟩ := ih
          cases b2 with
          | true => rw [if_pos rfl]; unfold ifP; rw [h1]; dsimp only; rw [needP_yes (s := wThen) ht]; dsimp only; rw [outR_err ho]
          | false => rw [if_neg (by decide)]; exact ⟨a, x, k, rfl, h1, ht, outR_ok ho⟩
        · obtain ⟨a, b, k1, rfl, h1, h2, h3⟩ := ih
          cases b2 with
          | true => rw [if_pos rfl]; unfold ifP; rw [h1]; dsimp only; rw [needP_yes h2]; dsimp only; rw [h3]; dsimp only; rw [needP_yes (s := wElse) ht]; dsimp only; rw [outR_err ho]
          | false => rw [if_neg (by decide)]; exact ⟨a, b, x, k1, k, rfl, h1, h2, h3, ht, outR_ok ho⟩
theorem if_end {A : List Tok → PR} {ts : List Tok} {k0 k : Nat} {l : List Ex} {b : Bool} (h : IfS A ts k0 2 l k b) : outR ts (ifP A (ts.drop k0)) ⟨5, 0, [], [], Fo.of l⟩ k b := by
 have := ifS_is h (Nat.le_refl _)
 cases b with
 | true => rw [if_pos rfl] at this; rw [this]; exact ⟨rfl, rfl⟩
 | false =>
  rw [if_neg (by decide)] at this
  obtain ⟨a, b, c, k1, k2, rfl, h1, h2, h3, h4, h5⟩ := this
  unfold ifP
  rw [h1]; dsimp only; rw [needP_yes h2]; dsimp only; rw [h3]; dsimp only; rw [needP_yes h4]; dsimp only; rw [h5]
  exact ⟨rfl, rfl, rfl⟩
theorem expr_not {A : List Tok → PR} {ts : List Tok} {k k2 : Nat} {x : Ex} {b2 : Bool} (h1 : isT 0 wNot (ts.drop k) = true) (ho : outR ts (A (ts.drop (k + 1))) x k2 b2) : outR ts (exprW A (ts.drop k)) ⟨4, 0, [], [], Fo.of [x]⟩ k2 b2 := by
 unfold exprW
 rw [if_pos h1, List.tail_drop]
 cases b2 with
 | true => rw [outR_err ho]; exact ⟨rfl, rfl⟩
 | false => rw [outR_ok ho]; exact ⟨rfl, rfl, rfl⟩
theorem expr_if {A : List Tok → PR} {ts : List Tok} {k k2 : Nat} {x : Ex} {b2 : Bool} (h1 : isT 0 wNot (ts.drop k) = false) (h2 : isT 0 wIf (ts.drop k) = true) (ho : outR ts (ifP A (ts.drop (k + 1))) x k2 b2) : outR ts (exprW A (ts.drop k)) x k2 b2 := by
 unfold exprW
 rw [if_neg (by rw [h1]; decide), if_pos h2, List.tail_drop]; exact ho
theorem expr_one {A : List Tok → PR} {ts : List Tok} {k k1 : Nat} {x : Ex} {b1 : Bool} (h1 : isT 0 wNot (ts.drop k) = false) (h2 : isT 0 wIf (ts.drop k) = false) (ho : outR ts (A (ts.drop k)) x k1 b1) (hop : (if b1 = true then none else opAt (ts.drop k1)) = none) : outR ts (exprW A (ts.drop k)) x k1 b1 := by
 unfold exprW
 rw [if_neg (by rw [h1]; decide), if_neg (by rw [h2]; decide)]
 cases b1 with
 | true => rw [outR_err ho]; exact ⟨rfl, rfl⟩
 | false =>
  rw [outR_ok ho]; dsimp only
  unfold restP
  rw [show opAt (ts.drop k1) = none from hop]; exact ⟨rfl, rfl, rfl⟩
theorem expr_two {A : List Tok → PR} {ts : List Tok} {k k1 k2 : Nat} {x y : Ex} {b1 b2 : Bool} {op : Int} (h1 : isT 0 wNot (ts.drop k) = false) (h2 : isT 0 wIf (ts.drop k) = false) (ho : outR ts (A (ts.drop k)) x k1 b1) (hop : (if b1 = true then none else opAt (ts.drop k1)) = some op) (ho2 : outR ts (A (ts.drop (k1 + 1))) y k2 b2) : outR ts (exprW A (ts.drop k)) ⟨op, 0, [], [], Fo.of [x, y]⟩ k2 b2 := by
 unfold exprW
 rw [if_neg (by rw [h1]; decide), if_neg (by rw [h2]; decide)]
 cases b1 with
 | true => cases hop
 | false =>
  rw [outR_ok ho]; dsimp only
  unfold restP
  rw [show opAt (ts.drop k1) = some op from hop]; dsimp only
  rw [List.tail_drop]
  cases b2 with
  | true => rw [outR_err ho2]; exact ⟨rfl, rfl⟩
  | false => rw [outR_ok ho2]; exact ⟨rfl, rfl, rfl⟩
theorem if_room {A : List Tok → PR} {ts : List Tok} {k k3 N : Nat} {b b3 : Bool} {y : Ex} (hS : Shrinks A) (ho : outR ts (gate b (ts.drop k) (A (ts.drop k))) y k3 b3) (h1 : k ≤ ts.length) (h2 : k3 ≤ ts.length) (hN : b = false → (ts.drop k).length ≤ N) : b3 = false → (ts.drop k3).length ≤ N := by
 intro hb
 subst hb
 cases b with
 | true => have := ho.1; cases this
 | false =>
  have h1 := (out_after hS (show outR ts (A (ts.drop k)) y k3 false from ho) h1 h2).1
  refine Nat.le_trans ?_ (hN rfl)
  simp; omega
/-- A literal slice of expressions. -/
theorem FoS.lit {w : World} {A : Nat} {D : Nat → Prop} {l : List Hd} {cs : Array Value} (hb : Bx w A 24 cs) (hc : cs = (l.flatMap Hd.cells).toArray) (hA : D A) (hd : ∀ h ∈ l, FoS D w h.p h.c h.x.args) : FoS D w (some ⟨A, 0, none⟩) l.length (Fo.of (exL l)) := by
 subst hc
 refine ⟨by rw [exL_len]; exact Nat.le_refl _, .inr ⟨A, 0, rfl, hA, hb.lt, FoC.of fun k x hk => ?_⟩⟩
 unfold exL at hk
 rw [List.getElem?_map] at hk
 cases hq : l[k]? with
 | none => rw [hq] at hk; cases hk
 | some d =>
  rw [hq] at hk; cases hk
  have hkl : k < l.length := (List.getElem?_eq_some_iff.1 hq).1
  refine ⟨d.p, d.c, fun j u hj => ?_, hd d (List.mem_of_getElem? hq)⟩
  have hj5 : j < 5 := by have := (List.getElem?_eq_some_iff.1 hj).1; exact this
  have hf : l.flatMap Hd.cells = (l.map Hd.cells).flatten := by rw [List.flatMap_def]
  rw [hb.at.1, List.getElem?_toArray, Nat.zero_add, hf, show 5 * k + j = k * 5 + j by omega]
  rw [flatten_get (n := 5) (fun y hy => by obtain ⟨z, -, rfl⟩ := List.mem_map.1 hy; exact Hd.len z) (by simpa using hkl) hj5]
  simp only [List.getElem_map]
  rw [(List.getElem?_eq_some_iff.1 hq).2]; exact hj
set_option maxRecDepth 100000 in
set_option maxHeartbeats 4000000 in
theorem expr_ok {w : World} {g : Nat} {p : Option Addr} {c : Nat} {ts : List Tok} {A : List Tok → PR} {N k : Nat} {b : Bool} (hA : AOK g p c ts A N) (hS : Shrinks A) (h : Rd w g p c ts k b) (hN : b = false → (ts.drop k).length ≤ N) :
    Calls Tryz.prog 34 #[.pointer (some ⟨g, 0, none⟩)] w (ExPost g p c ts w (gate b (ts.drop k) (exprW A (ts.drop k)))) := by
  have H := Lib.hid h; have HA := Lib.hid hA; have HS := Lib.hid hS; have HN := Lib.hid hN
  have hg := h.bx.lt
  have G : Hid (w.grownBy w (some g)) := gr_refl g w
  have hlen := h.len
  clear h hA hS hN
  go_enter Tryz.func34, Tryz.ntmps34
  go_upto_region 1 with fail
  refine nmW (w.alloc (.cells #[.int .i64 0, .int .i64 0, .string ⟨#[]⟩, .string ⟨#[]⟩, .slice none 0 0] 24)) fun w1 hv => ?_
  rw [← hv]
  have K := bxh hv
  have hb_ := bah hv
  clear hv
  have z1_ := K.out.lt
  replace H := Lib.hid (H.out.keep hb_)
  replace G := Lib.hid (gr_call G.out hb_)
  have z2_ := hb_.size
  clear hb_
  cases b with
  | true =>
    obtain ⟨r0_, r1_, r2_, s0_, s1_, s2_⟩ := H.out.bx.r3
    refine K.out.e5 fun pK_0 qK_0 pK_1 qK_1 pK_2 qK_2 pK_3 qK_3 pK_4 qK_4 => ?_
    go_wp2_with fail
    clear r0_ r1_ r2_ s0_ s1_ s2_ pK_0 qK_0 pK_1 qK_1 pK_2 qK_2 pK_3 qK_3 pK_4 qK_4
    refine nmW (((((w1.setCell ⟨w.heap.size, 0, none⟩ (.int .i64 0)).setCell ⟨w.heap.size, 1, none⟩ (.int .i64 0)).setCell ⟨w.heap.size, 2, none⟩ (.string ⟨#[]⟩)).setCell ⟨w.heap.size, 3, none⟩ (.string ⟨#[]⟩)).setCell ⟨w.heap.size, 4, none⟩ (.slice none 0 0)) fun w2 hv => ?_
    rw [← hv]
    have og_ : w1.grownBy w2 (some w.heap.size) := by rw [hv]; exact gs5
    have kb_ : Bx w2 w.heap.size 24 #[.int .i64 0, .int .i64 0, .string ⟨#[]⟩, .string ⟨#[]⟩, .slice none 0 0] := by rw [hv]; exact (((((K.out.set 0 _).set 1 _).set 2 _).set 3 _).set 4 _)
    clear hv
    replace H := Lib.hid (H.out.other og_ (by omega))
    replace G := Lib.hid (gr_new G.out og_ (by omega))
    replace K := Lib.hid kb_
    have z3_ := og_.size
    clear og_ kb_
    refine bodyPost_ret (results_box1 rfl _ _ w.heap.size 24 _ _ _ rfl K.out Tryz.underlying24 rfl (by kernel_rfl)) rfl ?_
    exact ⟨Ex.zero, none, 0, k, true, rfl, FoS.nil, H.out, G.out, outR_bad _⟩
  | false =>
    have hN1 : (ts.drop k).length ≤ N := by first | exact HN.out rfl | exact HN.out trivial
    have HN1 := Lib.hid hN1; clear hN1
    have HKL := Lib.hid H.out.le
    obtain ⟨r0_, r1_, r2_, s0_, s1_, s2_⟩ := H.out.bx.r3
    go_upto_region 3 with fail
    clear r0_ r1_ r2_ s0_ s1_ s2_
    obtain ⟨y1, hy1⟩ : ∃ t, isT 0 wNot (ts.drop k) = t := ⟨_, rfl⟩
    have Hy1 := Lib.hid hy1; clear hy1
    go_wp2_with fail
    refine (skip_ok (b_ := y1) (k' := stepK y1 k) H.out 0 ⟨#[110, 111, 116]⟩ (sl := wNot) (by rw [Lib.toList_data]; rfl) (by rw [Hy1.out]; rfl) rfl).mono ?_
    rintro e w3 ⟨rfl, h2_, g2_⟩
    replace H := Lib.hid h2_
    replace G := Lib.hid (gr_trans G.out g2_)
    replace K := Lib.hid (K.out.only g2_ (by omega))
    have z4_ := g2_.size
    clear h2_ g2_
    cases y1 with
    | true =>
      have HN2 : Hid ((ts.drop (stepK true k)).length ≤ N) := by
        show _ ≤ _; have := HN1.out; show (ts.drop (k + 1)).length ≤ N; simp at *; omega
      go_wp2_with fail
      refine (HA.out _ _ _ H.out (fun _ => HN2.out)).mono ?_
      rintro e w4 ⟨x, q, d, k2, b2, rfl, hf_, h2_, g2_, ho_⟩
      replace H := Lib.hid h2_
      replace G := Lib.hid (gr_trans G.out g2_)
      replace K := Lib.hid (K.out.only g2_ (by omega))
      have z5_ := g2_.size
      clear h2_ g2_
      have F := Lib.hid hf_; have ho := Lib.hid ho_; clear hf_ ho_
      unfold hdC
      have ka_ : Bx (w4.alloc (.cells #[.int .i64 x.op, .int .i64 x.n, .string ⟨x.unit.toArray⟩, .string ⟨x.name.toArray⟩, .slice q x.args.len d] 24)) w.heap.size 24 #[.int .i64 0, .int .i64 0, .string ⟨#[]⟩, .string ⟨#[]⟩, .slice none 0 0] := K.out.keep (below_alloc _ _)
      have paK_0 := ka_.at.1 0
      have qaK_0 := ka_.at.2 0
      have paK_1 := ka_.at.1 1
      have qaK_1 := ka_.at.2 1
      have paK_2 := ka_.at.1 2
      have qaK_2 := ka_.at.2 2
      have paK_3 := ka_.at.1 3
      have qaK_3 := ka_.at.2 3
      have paK_4 := ka_.at.1 4
      have qaK_4 := ka_.at.2 4
      go_wp2_with fail
      clear ka_ paK_0 qaK_0 paK_1 qaK_1 paK_2 qaK_2 paK_3 qaK_3 paK_4 qaK_4
      refine nmW (w4.alloc (.cells #[.int .i64 x.op, .int .i64 x.n, .string ⟨x.unit.toArray⟩, .string ⟨x.name.toArray⟩, .slice q x.args.len d] 24)) fun w5 hv => ?_
      rw [← hv]
      have J := bxh hv
      have hb_ := bah hv
      clear hv
      have z6_ := J.out.lt
      replace H := Lib.hid (H.out.keep hb_)
      replace G := Lib.hid (gr_call G.out hb_)
      replace K := Lib.hid (K.out.keep hb_)
      replace F := Lib.hid (F.out.keep hb_)
      have z7_ := hb_.size
      clear hb_
      refine nmW (((((w5.setCell ⟨w.heap.size, 0, none⟩ (.int .i64 4)).setCell ⟨w.heap.size, 1, none⟩ (.int .i64 0)).setCell ⟨w.heap.size, 2, none⟩ (.string ⟨#[]⟩)).setCell ⟨w.heap.size, 3, none⟩ (.string ⟨#[]⟩)).setCell ⟨w.heap.size, 4, none⟩ (.slice (some ⟨w4.heap.size, 0, none⟩) 1 1)) fun w6 hv => ?_
      rw [← hv]
      have og_ : w5.grownBy w6 (some w.heap.size) := by rw [hv]; exact gs5
      have kb_ : Bx w6 w.heap.size 24 #[.int .i64 4, .int .i64 0, .string ⟨#[]⟩, .string ⟨#[]⟩, .slice (some ⟨w4.heap.size, 0, none⟩) 1 1] := by rw [hv]; exact (((((K.out.set 0 _).set 1 _).set 2 _).set 3 _).set 4 _)
      clear hv
      replace H := Lib.hid (H.out.other og_ (by omega))
      replace G := Lib.hid (gr_new G.out og_ (by omega))
      replace K := Lib.hid kb_
      replace F := Lib.hid (F.out.grown og_ (fun hd => by have := hd.1; have := hd.2; omega))
      replace J := Lib.hid (J.out.only og_ (by omega))
      have z8_ := og_.size
      clear og_ kb_
      refine bodyPost_ret (results_box1 rfl _ _ w.heap.size 24 _ _ _ rfl K.out Tryz.underlying24 rfl (by kernel_rfl)) rfl ?_
      have FL : FoS (mid w w6) w6 (some ⟨w4.heap.size, 0, none⟩) (List.length ([⟨x, q, d⟩] : List Hd)) (Fo.of (exL [⟨x, q, d⟩])) := FoS.lit (l := [⟨x, q, d⟩]) J.out rfl ⟨by omega, by omega⟩ (fun h hh => by
        simp at hh
        subst hh; exact (F.out.mono (fun b hb => ⟨by have := hb.1; omega, by have := hb.2; omega⟩)))
      exact ⟨⟨4, 0, [], [], Fo.of [x]⟩, _, _, k2, b2, rfl, FL, H.out, G.out, by rw [gate_false]; exact expr_not Hy1.out ho.out⟩
    | false =>
      replace H : Hid (Rd w3 g p c ts k false) := H
      obtain ⟨y2, hy2⟩ : ∃ t, isT 0 wIf (ts.drop k) = t := ⟨_, rfl⟩
      have Hy2 := Lib.hid hy2; clear hy2
      go_wp2_with fail
      refine (skip_ok (b_ := y2) (k' := stepK y2 k) H.out 0 ⟨#[105, 102]⟩ (sl := wIf) (by rw [Lib.toList_data]; rfl) (by rw [Hy2.out]; rfl) rfl).mono ?_
      rintro e w7 ⟨rfl, h2_, g2_⟩
      replace H := Lib.hid h2_
      replace G := Lib.hid (gr_trans G.out g2_)
      replace K := Lib.hid (K.out.only g2_ (by omega))
      have z9_ := g2_.size
      clear h2_ g2_
      cases y2 with
      | true =>
        have HN2 : Hid ((ts.drop (stepK true k)).length ≤ N) := by
          show _ ≤ _; have := HN1.out; show (ts.drop (k + 1)).length ≤ N; simp at *; omega
        go_wp2_with fail
        refine (HA.out _ _ _ H.out (fun _ => HN2.out)).mono ?_
        rintro e w8 ⟨x, q, d, k2, b2, rfl, hf_, h2_, g2_, ho_⟩
        replace H := Lib.hid h2_
        replace G := Lib.hid (gr_trans G.out g2_)
        replace K := Lib.hid (K.out.only g2_ (by omega))
        have z10_ := g2_.size
        clear h2_ g2_
        have F := Lib.hid hf_; have ho := Lib.hid ho_; clear hf_ ho_
        unfold hdC
        go_upto_region 7 with fail
        refine nmW (w8.alloc (.cells #[.int .i64 x.op, .int .i64 x.n, .string ⟨x.unit.toArray⟩, .string ⟨x.name.toArray⟩, .slice q x.args.len d] 24)) fun w9 hv => ?_
        rw [← hv]
        have J := bxh hv
        have hb_ := bah hv
        have hsj_ : w9.heap.size = w8.heap.size + 1 := by rw [hv]; simp
        clear hv
        have z11_ := J.out.lt
        replace H := Lib.hid (H.out.keep hb_)
        replace G := Lib.hid (gr_call G.out hb_)
        replace K := Lib.hid (K.out.keep hb_)
        replace F := Lib.hid (F.out.keep hb_)
        have z12_ := hb_.size
        clear hb_
        refine nmW (w9.alloc (.cells #[.int .i64 5, .int .i64 0, .string ⟨#[]⟩, .string ⟨#[]⟩, .slice (some ⟨w8.heap.size, 0, none⟩) 1 1] 24)) fun w10 hv => ?_
        rw [← hv]
        have L := bxh hv
        have hb_ := bah hv
        clear hv
        have z13_ := L.out.lt
        replace H := Lib.hid (H.out.keep hb_)
        replace G := Lib.hid (gr_call G.out hb_)
        replace K := Lib.hid (K.out.keep hb_)
        replace F := Lib.hid (F.out.keep hb_)
        replace J := Lib.hid (J.out.keep hb_)
        have z14_ := hb_.size
        clear hb_
        replace L : Hid (Bx w10 (w8.heap.size + 1) 24 #[.int .i64 5, .int .i64 0, .string ⟨#[]⟩, .string ⟨#[]⟩, .slice (some ⟨w8.heap.size, 0, none⟩) 1 1]) := by rw [← hsj_]; exact L
        have HNX : Hid (b2 = false → (ts.drop k2).length ≤ N) := by
          show _ → _; intro hb; have h1 := (out_after HS.out (show outR ts (A (ts.drop (k + 1))) x k2 b2 from ho.out) (isT_lt Hy2.out) H.out.le).1; have h2 := HN1.out; simp at *; omega
        have HR0 : Hid (IfS A ts (k + 1) 0 (exL [⟨x, q, d⟩]) k2 b2) := IfS.start ho.out
        have O : Hid (OwX (fun b => w1.heap.size ≤ b ∧ b ≠ (w8.heap.size + 1)) w1.heap.size w10 (.slice (some ⟨w8.heap.size, 0, none⟩) 1 1) [⟨x, q, d⟩]) := OwX.lit (d := ⟨x, q, d⟩) J.out (by omega) (F.out.mono (fun b hb => ⟨⟨by have := hb.1; omega, by have := hb.2; omega⟩, by have := hb.2; omega⟩))
        clear J F
        go_wp2_with fail
        refine nmW (w10.alloc (.cells #[.string ⟨#[116, 104, 101, 110]⟩, .string ⟨#[101, 108, 115, 101]⟩] 9)) fun w11 hv => ?_
        rw [← hv]
        have S := bxh hv
        have hb_ := bah hv
        clear hv
        have z15_ := S.out.lt
        replace H := Lib.hid (H.out.keep hb_)
        replace G := Lib.hid (gr_call G.out hb_)
        replace K := Lib.hid (K.out.keep hb_)
        replace L := Lib.hid (L.out.keep hb_)
        replace O := Lib.hid (O.out.keep hb_)
        have z16_ := hb_.size
        clear hb_
        have Z0 : Hid (w1.heap.size ≤ (w8.heap.size + 1) ∧ g < w.heap.size) := by show _ ∧ _; omega
        go_loopw [31] (fun i wr => ∃ (j kk : Nat) (bb : Bool) (l : List Hd) (pp : Option Addr) (dd : Nat), i = .int .i64 j ∧ j ≤ 2 ∧ Hid (l.length = j + 1) ∧ Hid (IfS A ts (k + 1) j (exL l) kk bb) ∧ Hid (bb = false → (ts.drop kk).length ≤ N) ∧ Hid (Rd wr g p c ts kk bb) ∧ Hid (w.grownBy wr (some g)) ∧ Hid (Bx wr w.heap.size 24 #[.int .i64 0, .int .i64 0, .string ⟨#[]⟩, .string ⟨#[]⟩, .slice none 0 0]) ∧ Hid (Bx wr (w8.heap.size + 1) 24 #[.int .i64 5, .int .i64 0, .string ⟨#[]⟩, .string ⟨#[]⟩, .slice pp (j + 1) dd]) ∧ Hid (Bx wr w10.heap.size 9 #[.string ⟨#[116, 104, 101, 110]⟩, .string ⟨#[101, 108, 115, 101]⟩]) ∧ Hid (OwX (fun b => w1.heap.size ≤ b ∧ b ≠ (w8.heap.size + 1)) w1.heap.size wr (.slice pp (j + 1) dd) l) ∧ Hid (some (w8.heap.size + 1) ≠ (Value.slice pp (j + 1) dd).ownBlock) ∧ Hid (some w10.heap.size ≠ (Value.slice pp (j + 1) dd).ownBlock)) (fun i _ => 2 - (intOf i).toNat)
        case atStart => exact ⟨0, k2, b2, [⟨x, q, d⟩], some ⟨w8.heap.size, 0, none⟩, 1, rfl, by omega, rfl, HR0, HNX, H, G, K, L, S, O, by show some _ ≠ some _; intro h; have h2 := Option.some.inj h; dsimp only at h2; omega, by show some _ ≠ some _; intro h; have h2 := Option.some.inj h; dsimp only at h2; omega⟩
        case round =>
          clear H G K L S O HR0 HNX
          obtain ⟨j, kk, bb, l, pp, dd, rfl, hj, HL, HR, HNX, H, G, K, L, S, O, NL, NS⟩ := hrel
          have zr_ := L.out.lt
          have zs_ := S.out.lt
          by_cases hlt : j < 2
          · have hI : (j : Int) < 2 := by omega
            have hI0 : (0 : Int) ≤ (j : Int) := by omega
            have pS : wr.cell? ⟨w10.heap.size, j, none⟩ = some (.string ⟨(ifWd j).toArray⟩) := by
              rw [S.out.at.1]
              rcases (show j = 0 ∨ j = 1 by omega) with rfl | rfl <;> rfl
            obtain ⟨t, ht⟩ : ∃ t, (!bb && isT 0 (ifWd j) (ts.drop kk)) = t := ⟨_, rfl⟩
            have HT := Lib.hid ht; clear ht
            go_wp2_with fail
            clear pS
            refine (need_ok (b_ := t) (k' := stepK t kk) (bad' := !t || bb) H.out 0 ⟨(ifWd j).toArray⟩ (sl := ifWd j) (by rw [Lib.toList_data]) HT.out rfl rfl).mono ?_
            rintro e v1 ⟨rfl, h2, g2⟩
            have zv1 := g2.size
            replace H := Lib.hid h2
            replace G := Lib.hid (gr_trans G.out g2)
            replace K := Lib.hid (K.out.only g2 (by omega))
            replace L := Lib.hid (L.out.only g2 (by omega))
            replace S := Lib.hid (S.out.only g2 (by omega))
            replace O := Lib.hid (O.out.grown g2 (own_low' O.out.own (by omega)) (fun h => by have := h.1; omega))
            clear h2 g2
            obtain ⟨bq, hbq⟩ : ∃ b, (!t || bb) = b := ⟨_, rfl⟩
            have HBQ := Lib.hid hbq; clear hbq
            have HNY : Hid ((!t || bb) = false → (ts.drop (stepK t kk)).length ≤ N) := by
              show _ → _
              intro hb
              have hbb : bb = false := by cases bb with | true => simp at hb | false => rfl
              refine Nat.le_trans ?_ (HNX.out hbb)
              simp [stepK]; split <;> omega
            go_upto_region 11 with fail
            refine nmW v1.drew fun v2 hW => ?_
            have hb_ := bdh hW
            have zv2 := hb_.size
            replace H := Lib.hid (H.out.keep hb_); replace G := Lib.hid (gr_call G.out hb_); replace K := Lib.hid (K.out.keep hb_); replace L := Lib.hid (L.out.keep hb_); replace S := Lib.hid (S.out.keep hb_); replace O := Lib.hid (O.out.keep hb_)
            clear hb_
            refine wp_region_held_drew (S := (fun _ => True)) (by kernel_rfl) trivial (fun hH => ?_)
            rw [← hW]
            clear hW
            refine tk at0 ?_
            refine tk at2 ?_
            refine wpAnyH_ready (rs := [1, 3]) (by kernel_rfl) (by simp) ?_
            refine AllReadyH.cons at1 (fun K_ hK => ?_) (AllReadyH.cons at3 (fun K_ hK => ?_) AllReadyH.nil)
            · have pl4 := L.out.at.1 4
              go_simp
              clear pl4
              refine hK.out _ _ trivial (fun _ => ?_)
              clear hK K_
              (try simp only [Act.put, kS, kZ, kC])
              refine wpAnyH_ready (rs := [3]) (by kernel_rfl) (by simp) ?_
              refine AllReadyH.cons at3 (fun K_ hK => ?_) AllReadyH.nil
              go_simp
              have HLOW : Hid (∀ b, v2.heap.size ≤ b → some b ≠ (Value.slice pp (j + 1) dd).ownBlock) := fun b hb => own_low O.out.own hb
              refine (HA.out _ _ _ H.out HNY.out).mono ?_
              rintro e v3 ⟨y, q2, d2, k3, b3, rfl, hf_, h2, g2, ho2⟩
              have zv3 := g2.size
              have HR2 : Hid (IfS A ts (k + 1) (j + 1) (exL (l ++ [⟨y, q2, d2⟩])) k3 b3) := by show IfS _ _ _ _ _ _ _; rw [exL_snoc]; exact IfS.next HR.out HT.out rfl rfl ho2
              have HNZ : Hid (b3 = false → (ts.drop k3).length ≤ N) := if_room (b := bq) HS.out (by rw [← HBQ.out]; exact ho2) H.out.le h2.le (by rw [← HBQ.out]; exact HNY.out)
              replace H := Lib.hid h2
              replace G := Lib.hid (gr_trans G.out g2)
              replace K := Lib.hid (K.out.only g2 (by omega))
              replace L := Lib.hid (L.out.only g2 (by omega))
              replace S := Lib.hid (S.out.only g2 (by omega))
              replace O := Lib.hid (O.out.grown g2 (own_low' O.out.own (by omega)) (fun h => by have := h.1; omega))
              have FD : Hid (FoS (fun b => (w1.heap.size ≤ b ∧ b ≠ (w8.heap.size + 1)) ∧ some b ≠ (Value.slice pp (j + 1) dd).ownBlock) v3 q2 d2 y.args) := hf_.mono (fun b hb => ⟨⟨by have := hb.1; omega, by have := hb.1; omega⟩, HLOW.out b hb.1⟩)
              clear h2 g2 ho2 hf_ HR HT HNX HNY
              unfold hdC
              (try go_wp2_with fail)
              refine hK.out _ _ trivial (fun _ => ?_)
              clear hK K_
              (try simp only [Act.put, kS, kZ, kC])
              refine wpAnyH_ready (rs := [4]) (by kernel_rfl) (by simp) ?_
              refine AllReadyH.cons at4 (fun K_ hK => ?_) AllReadyH.nil
              go_simp
              refine nmW (v3.alloc (.cells #[.int .i64 y.op, .int .i64 y.n, .string ⟨y.unit.toArray⟩, .string ⟨y.name.toArray⟩, .slice q2 y.args.len d2] 24)) fun v4 hv => ?_
              rw [← hv]
              have J2 := bxh hv
              have hb_ := bah hv
              clear hv
              have zv4 := J2.out.lt
              replace H := Lib.hid (H.out.keep hb_); replace G := Lib.hid (gr_call G.out hb_); replace K := Lib.hid (K.out.keep hb_); replace L := Lib.hid (L.out.keep hb_); replace S := Lib.hid (S.out.keep hb_); replace O := Lib.hid (O.out.keep hb_); replace FD := Lib.hid (FD.out.keep hb_)
              have zv4_ := hb_.size
              clear hb_
              refine hK.out _ _ trivial (fun _ => ?_)
              clear hK K_
              (try simp only [Act.put, kS, kZ, kC])
              refine wpAnyH_ready (rs := [5]) (by kernel_rfl) (by simp) ?_
              refine AllReadyH.cons at5 (fun K_ hK => ?_) AllReadyH.nil
              rw [if_pos (by rfl)]
              refine wp_pushX O.out HL.out elemEx ⟨y, q2, d2⟩ FD.out J2.out (by omega) (by omega) (by omega) rfl rfl rfl (fun v' v5 ho_ hg_ hb_ hn_ => ?_)
              have zv5 := hg_.size
              have NL2 := Lib.hid (hn_ _ L.out.lt NL.out)
              have NS2 := Lib.hid (hn_ _ S.out.lt NS.out)
              replace H := Lib.hid (H.out.low hb_ (by omega))
              replace G := Lib.hid (gr_low G.out hb_ (by omega))
              replace K := Lib.hid (K.out.beside hg_ (own_low' O.out.own (by omega)))
              replace L := Lib.hid (L.out.beside hg_ NL.out)
              replace S := Lib.hid (S.out.beside hg_ NS.out)
              obtain ⟨p3, d3, hv3⟩ := ho_.shape
              have HL3 : Hid ((l ++ [(⟨y, q2, d2⟩ : Hd)]).length = j + 1 + 1) := by show _ = _; rw [List.length_append, HL.out]; rfl
              rw [HL3.out] at hv3
              subst hv3
              have O3 := Lib.hid ho_
              clear hb_ hg_ hn_ ho_ O NL NS FD J2
              refine hK.out _ _ trivial (fun _ => ?_)
              clear hK K_
              (try simp only [Act.put, kS, kZ, kC])
              refine tk at6 ?_
              refine wpAnyH_ready (rs := [7]) (by kernel_rfl) (by simp) ?_
              refine AllReadyH.cons at7 (fun K_ hK => ?_) AllReadyH.nil
              have pl4 := L.out.at.1 4
              have ql4 := L.out.at.2 4
              go_simp
              clear pl4 ql4
              refine nmW (v5.setCell ⟨(w8.heap.size + 1), 4, none⟩ (.slice p3 (j + 1 + 1) d3)) fun v6 hv => ?_
              rw [← hv]
              have og_ : v5.grownBy v6 (some ((w8.heap.size + 1))) := by rw [hv]; exact gr_set _ _ _ _
              have zv6 := og_.size
              have L6 : Hid (Bx v6 ((w8.heap.size + 1)) 24 #[.int .i64 5, .int .i64 0, .string ⟨#[]⟩, .string ⟨#[]⟩, .slice p3 (j + 1 + 1) d3]) := by show Bx _ _ _ _; rw [hv]; exact L.out.set 4 _
              clear hv
              replace H := Lib.hid (H.out.other og_ (by omega))
              replace G := Lib.hid (gr_new G.out og_ (by omega))
              replace K := Lib.hid (K.out.only og_ (by omega))
              replace S := Lib.hid (S.out.only og_ (by omega))
              replace O3 := Lib.hid (O3.out.grown og_ NL2.out (fun h => h.2 rfl))
              clear og_ L
              refine hK.out _ _ trivial (fun _ => ?_)
              clear hK K_
              refine wpAnyH_done (by kernel_rfl) ?_ _
              go_wp2_with fail
              go_roundw
              case rel => exact ⟨j + 1, k3, b3, l ++ [⟨y, q2, d2⟩], p3, d3, by go_num, by omega, HL3, HR2, HNZ, H, G, K, L6, S, O3, NL2, NS2⟩
              case measure => simp [intOf] <;> omega
            · go_simp
              have HLOW : Hid (∀ b, v2.heap.size ≤ b → some b ≠ (Value.slice pp (j + 1) dd).ownBlock) := fun b hb => own_low O.out.own hb
              refine (HA.out _ _ _ H.out HNY.out).mono ?_
              rintro e v3 ⟨y, q2, d2, k3, b3, rfl, hf_, h2, g2, ho2⟩
              have zv3 := g2.size
              have HR2 : Hid (IfS A ts (k + 1) (j + 1) (exL (l ++ [⟨y, q2, d2⟩])) k3 b3) := by show IfS _ _ _ _ _ _ _; rw [exL_snoc]; exact IfS.next HR.out HT.out rfl rfl ho2
              have HNZ : Hid (b3 = false → (ts.drop k3).length ≤ N) := if_room (b := bq) HS.out (by rw [← HBQ.out]; exact ho2) H.out.le h2.le (by rw [← HBQ.out]; exact HNY.out)
              replace H := Lib.hid h2
              replace G := Lib.hid (gr_trans G.out g2)
              replace K := Lib.hid (K.out.only g2 (by omega))
              replace L := Lib.hid (L.out.only g2 (by omega))
              replace S := Lib.hid (S.out.only g2 (by omega))
              replace O := Lib.hid (O.out.grown g2 (own_low' O.out.own (by omega)) (fun h => by have := h.1; omega))
              have FD : Hid (FoS (fun b => (w1.heap.size ≤ b ∧ b ≠ (w8.heap.size + 1)) ∧ some b ≠ (Value.slice pp (j + 1) dd).ownBlock) v3 q2 d2 y.args) := hf_.mono (fun b hb => ⟨⟨by have := hb.1; omega, by have := hb.1; omega⟩, HLOW.out b hb.1⟩)
              clear h2 g2 ho2 hf_ HR HT HNX HNY
              unfold hdC
              (try go_wp2_with fail)
              refine hK.out _ _ trivial (fun _ => ?_)
              clear hK K_
              (try simp only [Act.put, kS, kZ, kC])
              refine wpAnyH_ready (rs := [1, 4]) (by kernel_rfl) (by simp) ?_
              refine AllReadyH.cons at1 (fun K_ hK => ?_) (AllReadyH.cons at4 (fun K_ hK => ?_) AllReadyH.nil)
              · have pl4 := L.out.at.1 4
                go_simp
                clear pl4
                refine hK.out _ _ trivial (fun _ => ?_)
                clear hK K_
                (try simp only [Act.put, kS, kZ, kC])
                refine wpAnyH_ready (rs := [4]) (by kernel_rfl) (by simp) ?_
                refine AllReadyH.cons at4 (fun K_ hK => ?_) AllReadyH.nil
                go_simp
                refine nmW (v3.alloc (.cells #[.int .i64 y.op, .int .i64 y.n, .string ⟨y.unit.toArray⟩, .string ⟨y.name.toArray⟩, .slice q2 y.args.len d2] 24)) fun v4 hv => ?_
                rw [← hv]
                have J2 := bxh hv
                have hb_ := bah hv
                clear hv
                have zv4 := J2.out.lt
                replace H := Lib.hid (H.out.keep hb_); replace G := Lib.hid (gr_call G.out hb_); replace K := Lib.hid (K.out.keep hb_); replace L := Lib.hid (L.out.keep hb_); replace S := Lib.hid (S.out.keep hb_); replace O := Lib.hid (O.out.keep hb_); replace FD := Lib.hid (FD.out.keep hb_)
                have zv4_ := hb_.size
                clear hb_
                refine hK.out _ _ trivial (fun _ => ?_)
                clear hK K_
                (try simp only [Act.put, kS, kZ, kC])
                refine wpAnyH_ready (rs := [5]) (by kernel_rfl) (by simp) ?_
                refine AllReadyH.cons at5 (fun K_ hK => ?_) AllReadyH.nil
                rw [if_pos (by rfl)]
                refine wp_pushX O.out HL.out elemEx ⟨y, q2, d2⟩ FD.out J2.out (by omega) (by omega) (by omega) rfl rfl rfl (fun v' v5 ho_ hg_ hb_ hn_ => ?_)
                have zv5 := hg_.size
                have NL2 := Lib.hid (hn_ _ L.out.lt NL.out)
                have NS2 := Lib.hid (hn_ _ S.out.lt NS.out)
                replace H := Lib.hid (H.out.low hb_ (by omega))
                replace G := Lib.hid (gr_low G.out hb_ (by omega))
                replace K := Lib.hid (K.out.beside hg_ (own_low' O.out.own (by omega)))
                replace L := Lib.hid (L.out.beside hg_ NL.out)
                replace S := Lib.hid (S.out.beside hg_ NS.out)
                obtain ⟨p3, d3, hv3⟩ := ho_.shape
                have HL3 : Hid ((l ++ [(⟨y, q2, d2⟩ : Hd)]).length = j + 1 + 1) := by show _ = _; rw [List.length_append, HL.out]; rfl
                rw [HL3.out] at hv3
                subst hv3
                have O3 := Lib.hid ho_
                clear hb_ hg_ hn_ ho_ O NL NS FD J2
                refine hK.out _ _ trivial (fun _ => ?_)
                clear hK K_
                (try simp only [Act.put, kS, kZ, kC])
                refine tk at6 ?_
                refine wpAnyH_ready (rs := [7]) (by kernel_rfl) (by simp) ?_
                refine AllReadyH.cons at7 (fun K_ hK => ?_) AllReadyH.nil
                have pl4 := L.out.at.1 4
                have ql4 := L.out.at.2 4
                go_simp
                clear pl4 ql4
                refine nmW (v5.setCell ⟨(w8.heap.size + 1), 4, none⟩ (.slice p3 (j + 1 + 1) d3)) fun v6 hv => ?_
                rw [← hv]
                have og_ : v5.grownBy v6 (some ((w8.heap.size + 1))) := by rw [hv]; exact gr_set _ _ _ _
                have zv6 := og_.size
                have L6 : Hid (Bx v6 ((w8.heap.size + 1)) 24 #[.int .i64 5, .int .i64 0, .string ⟨#[]⟩, .string ⟨#[]⟩, .slice p3 (j + 1 + 1) d3]) := by show Bx _ _ _ _; rw [hv]; exact L.out.set 4 _
                clear hv
                replace H := Lib.hid (H.out.other og_ (by omega))
                replace G := Lib.hid (gr_new G.out og_ (by omega))
                replace K := Lib.hid (K.out.only og_ (by omega))
                replace S := Lib.hid (S.out.only og_ (by omega))
                replace O3 := Lib.hid (O3.out.grown og_ NL2.out (fun h => h.2 rfl))
                clear og_ L
                refine hK.out _ _ trivial (fun _ => ?_)
                clear hK K_
                refine wpAnyH_done (by kernel_rfl) ?_ _
                go_wp2_with fail
                go_roundw
                case rel => exact ⟨j + 1, k3, b3, l ++ [⟨y, q2, d2⟩], p3, d3, by go_num, by omega, HL3, HR2, HNZ, H, G, K, L6, S, O3, NL2, NS2⟩
                case measure => simp [intOf] <;> omega
              · go_simp
                refine nmW (v3.alloc (.cells #[.int .i64 y.op, .int .i64 y.n, .string ⟨y.unit.toArray⟩, .string ⟨y.name.toArray⟩, .slice q2 y.args.len d2] 24)) fun v4 hv => ?_
                rw [← hv]
                have J2 := bxh hv
                have hb_ := bah hv
                clear hv
                have zv4 := J2.out.lt
                replace H := Lib.hid (H.out.keep hb_); replace G := Lib.hid (gr_call G.out hb_); replace K := Lib.hid (K.out.keep hb_); replace L := Lib.hid (L.out.keep hb_); replace S := Lib.hid (S.out.keep hb_); replace O := Lib.hid (O.out.keep hb_); replace FD := Lib.hid (FD.out.keep hb_)
                have zv4_ := hb_.size
                clear hb_
                refine hK.out _ _ trivial (fun _ => ?_)
                clear hK K_
                (try simp only [Act.put, kS, kZ, kC])
                refine wpAnyH_ready (rs := [1]) (by kernel_rfl) (by simp) ?_
                refine AllReadyH.cons at1 (fun K_ hK => ?_) AllReadyH.nil
                have pl4 := L.out.at.1 4
                go_simp
                clear pl4
                refine hK.out _ _ trivial (fun _ => ?_)
                clear hK K_
                (try simp only [Act.put, kS, kZ, kC])
                refine wpAnyH_ready (rs := [5]) (by kernel_rfl) (by simp) ?_
                refine AllReadyH.cons at5 (fun K_ hK => ?_) AllReadyH.nil
                rw [if_pos (by rfl)]
                refine wp_pushX O.out HL.out elemEx ⟨y, q2, d2⟩ FD.out J2.out (by omega) (by omega) (by omega) rfl rfl rfl (fun v' v5 ho_ hg_ hb_ hn_ => ?_)
                have zv5 := hg_.size
                have NL2 := Lib.hid (hn_ _ L.out.lt NL.out)
                have NS2 := Lib.hid (hn_ _ S.out.lt NS.out)
                replace H := Lib.hid (H.out.low hb_ (by omega))
                replace G := Lib.hid (gr_low G.out hb_ (by omega))
                replace K := Lib.hid (K.out.beside hg_ (own_low' O.out.own (by omega)))
                replace L := Lib.hid (L.out.beside hg_ NL.out)
                replace S := Lib.hid (S.out.beside hg_ NS.out)
                obtain ⟨p3, d3, hv3⟩ := ho_.shape
                have HL3 : Hid ((l ++ [(⟨y, q2, d2⟩ : Hd)]).length = j + 1 + 1) := by show _ = _; rw [List.length_append, HL.out]; rfl
                rw [HL3.out] at hv3
                subst hv3
                have O3 := Lib.hid ho_
                clear hb_ hg_ hn_ ho_ O NL NS FD J2
                refine hK.out _ _ trivial (fun _ => ?_)
                clear hK K_
                (try simp only [Act.put, kS, kZ, kC])
                refine tk at6 ?_
                refine wpAnyH_ready (rs := [7]) (by kernel_rfl) (by simp) ?_
                refine AllReadyH.cons at7 (fun K_ hK => ?_) AllReadyH.nil
                have pl4 := L.out.at.1 4
                have ql4 := L.out.at.2 4
                go_simp
                clear pl4 ql4
                refine nmW (v5.setCell ⟨(w8.heap.size + 1), 4, none⟩ (.slice p3 (j + 1 + 1) d3)) fun v6 hv => ?_
                rw [← hv]
                have og_ : v5.grownBy v6 (some ((w8.heap.size + 1))) := by rw [hv]; exact gr_set _ _ _ _
                have zv6 := og_.size
                have L6 : Hid (Bx v6 ((w8.heap.size + 1)) 24 #[.int .i64 5, .int .i64 0, .string ⟨#[]⟩, .string ⟨#[]⟩, .slice p3 (j + 1 + 1) d3]) := by show Bx _ _ _ _; rw [hv]; exact L.out.set 4 _
                clear hv
                replace H := Lib.hid (H.out.other og_ (by omega))
                replace G := Lib.hid (gr_new G.out og_ (by omega))
                replace K := Lib.hid (K.out.only og_ (by omega))
                replace S := Lib.hid (S.out.only og_ (by omega))
                replace O3 := Lib.hid (O3.out.grown og_ NL2.out (fun h => h.2 rfl))
                clear og_ L
                refine hK.out _ _ trivial (fun _ => ?_)
                clear hK K_
                refine wpAnyH_done (by kernel_rfl) ?_ _
                go_wp2_with fail
                go_roundw
                case rel => exact ⟨j + 1, k3, b3, l ++ [⟨y, q2, d2⟩], p3, d3, by go_num, by omega, HL3, HR2, HNZ, H, G, K, L6, S, O3, NL2, NS2⟩
                case measure => simp [intOf] <;> omega
          · have hI : ¬ (j : Int) < 2 := by omega
            obtain rfl : j = 2 := by omega
            have FL := Lib.hid ((O.out.read (fun b hb => hb.1)).inMid)
            have hfl : (Fo.of (exL l)).len = 2 + 1 := by rw [exL_len]; exact HL.out
            have HFL := Lib.hid hfl; clear hfl
            have p0 := L.out.at.1 0; have p1 := L.out.at.1 1; have p2 := L.out.at.1 2; have p3 := L.out.at.1 3; have p4 := L.out.at.1 4
            have q0 := K.out.at.1 0; have q1 := K.out.at.1 1; have q2 := K.out.at.1 2; have q3 := K.out.at.1 3; have q4 := K.out.at.1 4
            have f0 := K.out.at.2 0; have f1 := K.out.at.2 1; have f2 := K.out.at.2 2; have f3 := K.out.at.2 3; have f4 := K.out.at.2 4
            go_wp2_with fail
            clear p0 p1 p2 p3 p4 q0 q1 q2 q3 q4 f0 f1 f2 f3 f4
            refine nmW (((((wr.setCell ⟨w.heap.size, 0, none⟩ (.int .i64 5)).setCell ⟨w.heap.size, 1, none⟩ (.int .i64 0)).setCell ⟨w.heap.size, 2, none⟩ (.string ⟨#[]⟩)).setCell ⟨w.heap.size, 3, none⟩ (.string ⟨#[]⟩)).setCell ⟨w.heap.size, 4, none⟩ (.slice pp (2 + 1) dd)) fun w12 hv => ?_
            rw [← hv]
            have og_ : wr.grownBy w12 (some w.heap.size) := by rw [hv]; exact gs5
            have kb_ : Bx w12 w.heap.size 24 #[.int .i64 5, .int .i64 0, .string ⟨#[]⟩, .string ⟨#[]⟩, .slice pp (2 + 1) dd] := by rw [hv]; exact (((((K.out.set 0 _).set 1 _).set 2 _).set 3 _).set 4 _)
            clear hv
            replace H := Lib.hid (H.out.other og_ (by omega))
            replace G := Lib.hid (gr_new G.out og_ (by omega))
            replace K := Lib.hid kb_
            replace L := Lib.hid (L.out.only og_ (by omega))
            replace S := Lib.hid (S.out.only og_ (by omega))
            replace FL := Lib.hid (FL.out.grown og_ (fun hd => by have := hd.1; have := hd.2; omega))
            have z17_ := og_.size
            clear og_ kb_
            refine bodyPost_ret (results_box1 rfl _ _ w.heap.size 24 _ _ _ rfl K.out Tryz.underlying24 rfl (by kernel_rfl)) rfl ?_
            exact ⟨⟨5, 0, [], [], Fo.of (exL l)⟩, pp, dd, kk, bb, by unfold hdC; rw [HFL.out], (FL.out.mono (fun b hb => ⟨by have := hb.1; omega, by have := hb.2; omega⟩)), H.out, G.out, by rw [gate_false]; exact expr_if Hy1.out Hy2.out (if_end HR.out)⟩
      | false =>
        replace H : Hid (Rd w7 g p c ts k false) := H
        go_wp2_with fail
        refine (HA.out _ _ _ H.out (fun _ => HN1.out)).mono ?_
        rintro e w13 ⟨x, q, d, k1, b1, rfl, hf_, h2_, g2_, ho_⟩
        replace H := Lib.hid h2_
        replace G := Lib.hid (gr_trans G.out g2_)
        replace K := Lib.hid (K.out.only g2_ (by omega))
        have z18_ := g2_.size
        clear h2_ g2_
        have F := Lib.hid hf_; have ho := Lib.hid ho_; clear hf_ ho_
        unfold hdC
        go_upto_region 15 with fail
        have HK1L := Lib.hid H.out.le
        refine nmW (w13.alloc (.cells #[.int .i64 x.op, .int .i64 x.n, .string ⟨x.unit.toArray⟩, .string ⟨x.name.toArray⟩, .slice q x.args.len d] 24)) fun w14 hv => ?_
        rw [← hv]
        have L := bxh hv
        have hb_ := bah hv
        clear hv
        have z19_ := L.out.lt
        replace H := Lib.hid (H.out.keep hb_)
        replace G := Lib.hid (gr_call G.out hb_)
        replace K := Lib.hid (K.out.keep hb_)
        replace F := Lib.hid (F.out.keep hb_)
        have z20_ := hb_.size
        clear hb_
        obtain ⟨o, hop⟩ : ∃ o, (if b1 = true then none else opAt (ts.drop k1)) = o := ⟨_, rfl⟩
        have HOP := Lib.hid hop; clear hop
        go_wp2_with fail
        refine (operation_ok (o := o) H.out HOP.out).mono ?_
        rintro e w15 ⟨rfl, h2_, g2_⟩
        replace H := Lib.hid h2_
        replace G := Lib.hid (gr_trans G.out g2_)
        replace K := Lib.hid (K.out.only g2_ (by omega))
        replace F := Lib.hid (F.out.grown g2_ (fun hd => by have := hd.1; omega))
        replace L := Lib.hid (L.out.only g2_ (by omega))
        have z21_ := g2_.size
        clear h2_ g2_
        unfold opV
        cases o with
        | none =>
          replace H : Hid (Rd w15 g p c ts k1 b1) := H
          refine L.out.q5 fun pL_0 pL_1 pL_2 pL_3 pL_4 => ?_
          refine K.out.e5 fun pK_0 qK_0 pK_1 qK_1 pK_2 qK_2 pK_3 qK_3 pK_4 qK_4 => ?_
          go_wp2_with fail
          clear pL_0 pL_1 pL_2 pL_3 pL_4 pK_0 qK_0 pK_1 qK_1 pK_2 qK_2 pK_3 qK_3 pK_4 qK_4
          refine nmW (((((w15.setCell ⟨w.heap.size, 0, none⟩ (.int .i64 x.op)).setCell ⟨w.heap.size, 1, none⟩ (.int .i64 x.n)).setCell ⟨w.heap.size, 2, none⟩ (.string ⟨x.unit.toArray⟩)).setCell ⟨w.heap.size, 3, none⟩ (.string ⟨x.name.toArray⟩)).setCell ⟨w.heap.size, 4, none⟩ (.slice q x.args.len d)) fun w16 hv => ?_
          rw [← hv]
          have og_ : w15.grownBy w16 (some w.heap.size) := by rw [hv]; exact gs5
          have kb_ : Bx w16 w.heap.size 24 #[.int .i64 x.op, .int .i64 x.n, .string ⟨x.unit.toArray⟩, .string ⟨x.name.toArray⟩, .slice q x.args.len d] := by rw [hv]; exact (((((K.out.set 0 _).set 1 _).set 2 _).set 3 _).set 4 _)
          clear hv
          replace H := Lib.hid (H.out.other og_ (by omega))
          replace G := Lib.hid (gr_new G.out og_ (by omega))
          replace K := Lib.hid kb_
          replace F := Lib.hid (F.out.grown og_ (fun hd => by have := hd.1; have := hd.2; omega))
          replace L := Lib.hid (L.out.only og_ (by omega))
          have z22_ := og_.size
          clear og_ kb_
          refine bodyPost_ret (results_box1 rfl _ _ w.heap.size 24 _ _ _ rfl K.out Tryz.underlying24 rfl (by kernel_rfl)) rfl ?_
          exact ⟨x, q, d, k1, b1, rfl, (F.out.mono (fun b hb => ⟨by have := hb.1; omega, by have := hb.2; omega⟩)), H.out, G.out, by rw [gate_false]; exact expr_one Hy1.out Hy2.out ho.out HOP.out⟩
        | some op =>
          have hb1 : b1 = false := by have := HOP.out; cases b1 with | true => cases this | false => rfl
          subst hb1
          replace H : Hid (Rd w15 g p c ts (k1 + 1) false) := H
          have HN3 : Hid ((ts.drop (k1 + 1)).length ≤ N) := by
            show _ ≤ _; have h1 := (out_after HS.out (show outR ts (A (ts.drop k)) x k1 false from ho.out) HKL.out (by have := H.out.le; omega)).1; have := HN1.out; simp at *; omega
          go_upto_region 17 with fail
          refine nmW w15.drew fun w17 hW => ?_
          have hb_ := bdh hW
          replace H := Lib.hid (H.out.keep hb_)
          replace G := Lib.hid (gr_call G.out hb_)
          replace K := Lib.hid (K.out.keep hb_)
          replace F := Lib.hid (F.out.keep hb_)
          replace L := Lib.hid (L.out.keep hb_)
          have z23_ := hb_.size
          clear hb_
          refine wp_region_held_drew (S := (fun w' => w'.cell? ⟨w13.heap.size, 0, none⟩ = some (.int .i64 x.op) ∧ w'.cell? ⟨w13.heap.size, 1, none⟩ = some (.int .i64 x.n) ∧ w'.cell? ⟨w13.heap.size, 2, none⟩ = some (.string ⟨x.unit.toArray⟩) ∧ w'.cell? ⟨w13.heap.size, 3, none⟩ = some (.string ⟨x.name.toArray⟩) ∧ w'.cell? ⟨w13.heap.size, 4, none⟩ = some (.slice q x.args.len d))) (by kernel_rfl) (by rw [← hW]; exact L.out.d5) (fun hH => ?_)
          rw [← hW] at hH ⊢
          clear hW
          refine tk at0 ?_
          refine tk at1 (v := .agg #[.int .i64 x.op, .int .i64 x.n, .string ⟨x.unit.toArray⟩, .string ⟨x.name.toArray⟩, .slice q x.args.len d]) ?_
          refine tk at2 ?_
          refine wpAnyH_ready (rs := [3]) (by kernel_rfl) (by simp) ?_
          refine AllReadyH.cons at3 (fun K_ hK => ?_) AllReadyH.nil
          go_simp
          refine (HA.out _ _ _ H.out (fun _ => HN3.out)).mono ?_
          rintro e w18 ⟨y, q2, d2, k2, b2, rfl, hf_, h2_, g2_, ho2_⟩
          replace H := Lib.hid h2_
          replace G := Lib.hid (gr_trans G.out g2_)
          replace K := Lib.hid (K.out.only g2_ (by omega))
          replace F := Lib.hid (F.out.grown g2_ (fun hd => by have := hd.1; omega))
          replace L := Lib.hid (L.out.only g2_ (by omega))
          have z24_ := g2_.size
          clear h2_ g2_
          have F2 := Lib.hid hf_; have ho2 := Lib.hid ho2_; clear hf_ ho2_
          unfold hdC
          (try go_wp2_with fail)
          refine hK.out _ _ (L.out.d5) (fun hH2 => ?_)
          clear hK K_ hH
          have hH := hH2; clear hH2
          (try simp only [Act.put, kS, kZ, kC])
          refine wpAnyH_ready (rs := [4]) (by kernel_rfl) (by simp) ?_
          refine AllReadyH.cons at4 (fun K_ hK => ?_) AllReadyH.nil
          go_simp
          refine nmW (w18.alloc (.cells #[.int .i64 x.op, .int .i64 x.n, .string ⟨x.unit.toArray⟩, .string ⟨x.name.toArray⟩, .slice q x.args.len d, .int .i64 y.op, .int .i64 y.n, .string ⟨y.unit.toArray⟩, .string ⟨y.name.toArray⟩, .slice q2 y.args.len d2] 24)) fun w19 hv => ?_
          rw [← hv]
          have J := bxh hv
          have hb_ := bah hv
          clear hv
          have z25_ := J.out.lt
          replace H := Lib.hid (H.out.keep hb_)
          replace G := Lib.hid (gr_call G.out hb_)
          replace K := Lib.hid (K.out.keep hb_)
          replace F := Lib.hid (F.out.keep hb_)
          replace L := Lib.hid (L.out.keep hb_)
          replace F2 := Lib.hid (F2.out.keep hb_)
          have z26_ := hb_.size
          clear hb_
          refine hK.out _ _ (L.out.d5) (fun hH2 => ?_)
          clear hK K_ hH
          have hH := hH2; clear hH2
          (try simp only [Act.put, kS, kZ, kC])
          refine tk at5 (v := .agg #[.int .i64 op, .int .i64 0, .string ⟨#[]⟩, .string ⟨#[]⟩, .slice (some ⟨w18.heap.size, 0, none⟩) 2 2]) ?_
          refine wpAnyH_ready (rs := [6]) (by kernel_rfl) (by simp) ?_
          refine AllReadyH.cons at6 (fun K_ hK => ?_) AllReadyH.nil
          refine K.out.e5 fun pK_0 qK_0 pK_1 qK_1 pK_2 qK_2 pK_3 qK_3 pK_4 qK_4 => ?_
          go_simp
          clear pK_0 qK_0 pK_1 qK_1 pK_2 qK_2 pK_3 qK_3 pK_4 qK_4
          refine nmW (((((w19.setCell ⟨w.heap.size, 0, none⟩ (.int .i64 op)).setCell ⟨w.heap.size, 1, none⟩ (.int .i64 0)).setCell ⟨w.heap.size, 2, none⟩ (.string ⟨#[]⟩)).setCell ⟨w.heap.size, 3, none⟩ (.string ⟨#[]⟩)).setCell ⟨w.heap.size, 4, none⟩ (.slice (some ⟨w18.heap.size, 0, none⟩) 2 2)) fun w20 hv => ?_
          rw [← hv]
          have og_ : w19.grownBy w20 (some w.heap.size) := by rw [hv]; exact gs5
          have kb_ : Bx w20 w.heap.size 24 #[.int .i64 op, .int .i64 0, .string ⟨#[]⟩, .string ⟨#[]⟩, .slice (some ⟨w18.heap.size, 0, none⟩) 2 2] := by rw [hv]; exact (((((K.out.set 0 _).set 1 _).set 2 _).set 3 _).set 4 _)
          clear hv
          replace H := Lib.hid (H.out.other og_ (by omega))
          replace G := Lib.hid (gr_new G.out og_ (by omega))
          replace K := Lib.hid kb_
          replace F := Lib.hid (F.out.grown og_ (fun hd => by have := hd.1; have := hd.2; omega))
          replace L := Lib.hid (L.out.only og_ (by omega))
          replace F2 := Lib.hid (F2.out.grown og_ (fun hd => by have := hd.1; have := hd.2; omega))
          replace J := Lib.hid (J.out.only og_ (by omega))
          have z27_ := og_.size
          clear og_ kb_
          refine hK.out _ _ (L.out.d5) (fun hH2 => ?_)
          clear hK K_ hH
          have hH := hH2; clear hH2
          (try simp only [Act.put, kS, kZ, kC])
          refine wpAnyH_done (by kernel_rfl) ?_ _
          clear hH
          go_wp2_with fail
          refine bodyPost_ret (results_box1 rfl _ _ w.heap.size 24 _ _ _ rfl K.out Tryz.underlying24 rfl (by kernel_rfl)) rfl ?_
          have FL : FoS (mid w w20) w20 (some ⟨w18.heap.size, 0, none⟩) (List.length ([⟨x, q, d⟩, ⟨y, q2, d2⟩] : List Hd)) (Fo.of (exL [⟨x, q, d⟩, ⟨y, q2, d2⟩])) := FoS.lit (l := [⟨x, q, d⟩, ⟨y, q2, d2⟩]) J.out rfl ⟨by omega, by omega⟩ (fun h hh => by
            simp at hh
            rcases hh with rfl | rfl
            · exact (F.out.mono (fun b hb => ⟨by have := hb.1; omega, by have := hb.2; omega⟩))
            · exact (F2.out.mono (fun b hb => ⟨by have := hb.1; omega, by have := hb.2; omega⟩)))
          exact ⟨⟨op, 0, [], [], Fo.of [x, y]⟩, _, _, k2, b2, rfl, FL, H.out, G.out, by rw [gate_false]; exact expr_two Hy1.out Hy2.out ho.out HOP.out ho2.out⟩
set_option maxRecDepth 100000 in
set_option maxHeartbeats 4000000 in
theorem expr_bad {w : World} {g : Nat} {p : Option Addr} {c : Nat} {ts : List Tok} {k : Nat} (R : PR) (h : Rd w g p c ts k true) :
  Calls Tryz.prog 34 #[.pointer (some ⟨g, 0, none⟩)] w (ExPost g p c ts w (gate true (ts.drop k) R)) := by
 have H := Lib.hid h
 have hg := h.bx.lt
 have G : Hid (w.grownBy w (some g)) := gr_refl g w
 clear h
 go_enter Tryz.func34, Tryz.ntmps34
 go_upto_region 1 with fail
 refine nmW (w.alloc (.cells #[.int .i64 0, .int .i64 0, .string ⟨#[]⟩, .string ⟨#[]⟩, .slice none 0 0] 24)) fun w1 hv => ?_
 rw [← hv]
 have K := bxh hv
 have hb_ := bah hv
 clear hv
 have z1_ := K.out.lt
 replace H := Lib.hid (H.out.keep hb_)
 replace G := Lib.hid (gr_call G.out hb_)
 have z2_ := hb_.size
 clear hb_
 obtain ⟨r0_, r1_, r2_, s0_, s1_, s2_⟩ := H.out.bx.r3
 refine K.out.e5 fun pK_0 qK_0 pK_1 qK_1 pK_2 qK_2 pK_3 qK_3 pK_4 qK_4 => ?_
 go_wp2_with fail
 clear r0_ r1_ r2_ s0_ s1_ s2_ pK_0 qK_0 pK_1 qK_1 pK_2 qK_2 pK_3 qK_3 pK_4 qK_4
 refine nmW (((((w1.setCell ⟨w.heap.size, 0, none⟩ (.int .i64 0)).setCell ⟨w.heap.size, 1, none⟩ (.int .i64 0)).setCell ⟨w.heap.size, 2, none⟩ (.string ⟨#[]⟩)).setCell ⟨w.heap.size, 3, none⟩ (.string ⟨#[]⟩)).setCell ⟨w.heap.size, 4, none⟩ (.slice none 0 0)) fun w2 hv => ?_
 rw [← hv]
 have og_ : w1.grownBy w2 (some w.heap.size) := by rw [hv]; exact gs5
 have kb_ : Bx w2 w.heap.size 24 #[.int .i64 0, .int .i64 0, .string ⟨#[]⟩, .string ⟨#[]⟩, .slice none 0 0] := by rw [hv]; exact (((((K.out.set 0 _).set 1 _).set 2 _).set 3 _).set 4 _)
 clear hv
 replace H := Lib.hid (H.out.other og_ (by omega))
 replace G := Lib.hid (gr_new G.out og_ (by omega))
 replace K := Lib.hid kb_
 have z3_ := og_.size
 clear og_ kb_
 refine bodyPost_ret (results_box1 rfl _ _ w.heap.size 24 _ _ _ rfl K.out Tryz.underlying24 rfl (by kernel_rfl)) rfl ?_
 exact ⟨Ex.zero, none, 0, k, true, rfl, FoS.nil, H.out, G.out, outR_bad _⟩
end Go.Proofs.YtckgmilmhofekaaGreatDoor
namespace Go.Proofs.YtckgmilmhofekaaGreatDoor
open Go.RowKit

/-- A reading of a list of so many tokens. -/
def SrL {α : Type} (n : Nat) (R : Except (List Tok) (α × List Tok)) : Prop := (∀ x r, R = .ok (x, r) → r.length < n) ∧ ∀ r, R = .error r → r.length ≤ n
theorem need_len {q : Nat} {s : Bytes} {l r : List Tok} : (needP q s l = .ok r → r.length < l.length) ∧ (needP q s l = .error r → r.length = l.length) := by
  unfold needP
  split
  · rename_i h
    obtain ⟨t, r', rfl, -, -⟩ := isT_cons h
    exact ⟨fun h => by have h := Except.ok.inj h; rw [← h]; simp, fun h => by cases h⟩
  · exact ⟨fun h => (by cases h), fun h => by have h := Except.error.inj h; rw [h]⟩
theorem name_len {l r : List Tok} {m : Bytes} : (nameP l = .ok (m, r) → r.length < l.length) ∧ (nameP l = .error r → r.length = l.length) := by
  cases l with
  | nil => exact ⟨fun h => (by cases h), fun h => by have h := Except.error.inj h; rw [← h]⟩
  | cons t l =>
    rw [nameP_cons]
    split
    · exact ⟨fun h => by have h := (Prod.mk.inj (Except.ok.inj h)).2; rw [← h]; simp, fun h => by cases h⟩
    · exact ⟨fun h => (by cases h), fun h => by have h := Except.error.inj h; rw [← h]⟩
theorem more_len {E : List Tok → PR} (h : Shrinks E) : ∀ (k : Nat) (l : List Tok), SrL l.length (moreP E k l) := by
  intro k
  induction k with
  | zero =>
    intro l
    unfold moreP
    split
    · rename_i r hn
      have := need_len.1 hn
      exact ⟨fun x r' h => by cases h; exact this, fun r' h => by cases h⟩
    · rename_i r hn
      have := need_len.2 hn
      exact ⟨fun x r' h => (by cases h), fun r' h => by cases h; omega⟩
  | succ k ih =>
    intro l
    unfold moreP
    split
    · rename_i r hn
      have := need_len.2 hn
      exact ⟨fun x r' h => (by cases h), fun r' h => by cases h; omega⟩
    rename_i l1 hn
    have h1 := need_len.1 hn
    split
    · rename_i r hq
      have := (h l1).2 _ hq
      exact ⟨fun x r' h => (by cases h), fun r' h => by cases h; omega⟩
    rename_i x l2 hq
    have h2 := (h l1).1 _ _ hq
    split
    · rename_i r hm
      have := (ih l2).2 _ hm
      exact ⟨fun x r' h => (by cases h), fun r' h => by cases h; omega⟩
    rename_i f l3 hm
    have := (ih l2).1 _ _ hm
    exact ⟨fun x r' h => by cases h; omega, fun r' h => by cases h⟩
theorem some_len {E : List Tok → PR} (h : Shrinks E) (k : Nat) (l : List Tok) : SrL l.length (someP E k l) := by
  unfold someP
  split
  · rename_i r hq
    have := (h l).2 _ hq
    exact ⟨fun x r' h => (by cases h), fun r' h => by cases h; omega⟩
  rename_i x l2 hq
  have h2 := (h l).1 _ _ hq
  split
  · rename_i r hm
    have := (more_len h k l2).2 _ hm
    exact ⟨fun x r' h => (by cases h), fun r' h => by cases h; omega⟩
  rename_i f l3 hm
  have := (more_len h k l2).1 _ _ hm
  exact ⟨fun x r' h => by cases h; omega, fun r' h => by cases h⟩
theorem any_len {E : List Tok → PR} (h : Shrinks E) : ∀ (k : Nat) (l : List Tok), SrL l.length (anyP E k l) := by
  intro k
  induction k with
  | zero => exact fun l => ⟨fun x r' h => (by cases h), fun r' h => by cases h; exact Nat.le_refl _⟩
  | succ k ih =>
    intro l
    unfold anyP
    split
    · rename_i hi
      obtain ⟨t, l', rfl, -, -⟩ := isT_cons hi
      rw [List.tail_cons]
      split
      · rename_i r hq
        have := (h l').2 _ hq
        exact ⟨fun x r' h => (by cases h), fun r' h => by cases h; simp; omega⟩
      rename_i x l2 hq
      have h2 := (h l').1 _ _ hq
      split
      · rename_i r hm
        have := (ih l2).2 _ hm
        exact ⟨fun x r' h => (by cases h), fun r' h => by cases h; simp; omega⟩
      rename_i f l3 hm
      have := (ih l2).1 _ _ hm
      exact ⟨fun x r' h => by cases h; simp; omega, fun r' h => by cases h⟩
    · split
      · rename_i r hn
        have := need_len.1 hn
        exact ⟨fun x r' h => by cases h; exact this, fun r' h => by cases h⟩
      · rename_i r hn
        have := need_len.2 hn
        exact ⟨fun x r' h => (by cases h), fun r' h => by cases h; omega⟩
theorem opens_len {E : List Tok → PR} (h : Shrinks E) (op : Int) (k : Nat) (l : List Tok) : SrL l.length (opensP E op k l) := by
  unfold opensP
  split
  · rename_i r hn
    have := need_len.2 hn
    exact ⟨fun x r' h => (by cases h), fun r' h => by cases h; omega⟩
  rename_i l1 hn
  have h1 := need_len.1 hn
  split
  · rename_i r hq
    have := (some_len h k l1).2 _ hq
    exact ⟨fun x r' h => (by cases h), fun r' h => by cases h; omega⟩
  rename_i f l2 hq
  have := (some_len h k l1).1 _ _ hq
  exact ⟨fun x r' h => by cases h; omega, fun r' h => by cases h⟩
theorem look_len {E : List Tok → PR} (h : Shrinks E) (l : List Tok) : SrL l.length (lookP E l) := by
  unfold lookP
  split
  · rename_i r hn
    have := need_len.2 hn
    exact ⟨fun x r' h => (by cases h), fun r' h => by cases h; omega⟩
  rename_i l1 hn
  have h1 := need_len.1 hn
  split
  · rename_i r hm
    have := (name_len (m := [])).2 hm
    exact ⟨fun x r' h => (by cases h), fun r' h => by cases h; omega⟩
  rename_i m l2 hm
  have h2 := name_len.1 hm
  split
  · rename_i r hn
    have := need_len.2 hn
    exact ⟨fun x r' h => (by cases h), fun r' h => by cases h; omega⟩
  rename_i l3 hn
  have h3 := need_len.1 hn
  split
  · rename_i r hq
    have := (some_len h 0 l3).2 _ hq
    exact ⟨fun x r' h => (by cases h), fun r' h => by cases h; omega⟩
  rename_i f l4 hq
  have := (some_len h 0 l3).1 _ _ hq
  exact ⟨fun x r' h => by cases h; omega, fun r' h => by cases h⟩
theorem call_len {E : List Tok → PR} (h : Shrinks E) (m : Bytes) (l : List Tok) : SrL l.length (callP E m l) := by
  unfold callP
  split
  · rename_i r hq
    have := (h l).2 _ hq
    exact ⟨fun x r' h => (by cases h), fun r' h => by cases h; omega⟩
  rename_i x l1 hq
  have h1 := (h l).1 _ _ hq
  split
  · rename_i r hm
    have := (any_len h _ l1).2 _ hm
    exact ⟨fun x r' h => (by cases h), fun r' h => by cases h; omega⟩
  rename_i f l2 hm
  have := (any_len h _ l1).1 _ _ hm
  exact ⟨fun x r' h => by cases h; omega, fun r' h => by cases h⟩
theorem num_len (t : Tok) (r : List Tok) : (numP t r).2.length ≤ r.length := by
  cases r with
  | nil => exact Nat.le_refl _
  | cons u r =>
    show (if u.kind = 2 then _ else _ : Ex × List Tok).2.length ≤ _
    split
    · simp
    · exact Nat.le_refl _
theorem shrinks_atom {E : List Tok → PR} (h : Shrinks E) : Shrinks (atomP E) := by
  intro l
  cases l with
  | nil => exact ⟨fun x r' h => (by cases h), fun r' h => by cases h; exact Nat.le_refl _⟩
  | cons t l =>
    have up : ∀ {R : PR}, SrL l.length R → (∀ x r, R = .ok (x, r) → r.length < (t :: l).length) ∧ ∀ r, R = .error r → r.length ≤ (t :: l).length := fun {R} h => ⟨fun x r e => by have := h.1 x r e; simp; omega, fun r e => by have := h.2 r e; simp; omega⟩
    rw [atomP_cons]
    split
    · have := num_len t l
      exact ⟨fun x r' h => by have h := Except.ok.inj h; rw [h] at this; simp; simp at this; omega, fun r' h => by cases h⟩
    split
    · refine up ?_
      unfold parenP
      split
      · rename_i r hq
        have := (h l).2 _ hq
        exact ⟨fun x r' h => (by cases h), fun r' h => by cases h; omega⟩
      rename_i x l1 hq
      have h1 := (h l).1 _ _ hq
      split
      · rename_i r hn
        have := need_len.2 hn
        exact ⟨fun x r' h => (by cases h), fun r' h => by cases h; omega⟩
      rename_i l2 hn
      have := need_len.1 hn
      exact ⟨fun x r' h => by cases h; omega, fun r' h => by cases h⟩
    split
    · exact up (look_len h l)
    split
    · exact up (opens_len h _ _ l)
    split
    · exact up (opens_len h _ _ l)
    split
    · split
      · rename_i hi
        obtain ⟨u, l', rfl, -, -⟩ := isT_cons hi
        rw [List.tail_cons]
        have := call_len h t.text l'
        exact ⟨fun x r e => by have := this.1 x r e; simp; omega, fun r e => by have := this.2 r e; simp; omega⟩
      · exact ⟨fun x r' h => by have h := (Prod.mk.inj (Except.ok.inj h)).2; rw [← h]; simp, fun r' h => by cases h⟩
    · exact ⟨fun x r' h => (by cases h), fun r' h => by have h := Except.error.inj h; rw [← h]; exact Nat.le_refl _⟩
theorem shrinks_expr {A : List Tok → PR} (h : Shrinks A) : Shrinks (exprW A) := by
  intro l
  unfold exprW
  split
  · rename_i hi
    obtain ⟨t, l', rfl, -, -⟩ := isT_cons hi
    rw [List.tail_cons]
    split
    · rename_i r hq
      have := (h l').2 _ hq
      exact ⟨fun x r' h => (by cases h), fun r' h => by cases h; simp; omega⟩
    rename_i x l1 hq
    have := (h l').1 _ _ hq
    exact ⟨fun x r' h => by cases h; simp; omega, fun r' h => by cases h⟩
  split
  · rename_i hi
    obtain ⟨t, l', rfl, -, -⟩ := isT_cons hi
    rw [List.tail_cons]
    unfold ifP
    split
    · rename_i r hq
      have := (h l').2 _ hq
      exact ⟨fun x r' h => (by cases h), fun r' h => by cases h; simp; omega⟩
    rename_i a l1 hq1
    have h1 := (h l').1 _ _ hq1
    split
    · rename_i r hn
      have := need_len.2 hn
      exact ⟨fun x r' h => (by cases h), fun r' h => by cases h; simp; omega⟩
    rename_i l2 hn1
    have h2 := need_len.1 hn1
    split
    · rename_i r hq
      have := (h l2).2 _ hq
      exact ⟨fun x r' h => (by cases h), fun r' h => by cases h; simp; omega⟩
    rename_i b l3 hq2
    have h3 := (h l2).1 _ _ hq2
    split
    · rename_i r hn
      have := need_len.2 hn
      exact ⟨fun x r' h => (by cases h), fun r' h => by cases h; simp; omega⟩
    rename_i l4 hn2
    have h4 := need_len.1 hn2
    split
    · rename_i r hq
      have := (h l4).2 _ hq
      exact ⟨fun x r' h => (by cases h), fun r' h => by cases h; simp; omega⟩
    rename_i c l5 hq3
    have h5 := (h l4).1 _ _ hq3
    exact ⟨fun x r' h => by cases h; simp; omega, fun r' h => by cases h⟩
  split
  · rename_i r hq
    have := (h l).2 _ hq
    exact ⟨fun x r' h => (by cases h), fun r' h => by cases h; omega⟩
  rename_i x l1 hq
  have h1 := (h l).1 _ _ hq
  unfold restP
  split
  · exact ⟨fun x r' h => by cases h; exact h1, fun r' h => by cases h⟩
  rename_i op ho
  obtain ⟨t, l2, rfl⟩ := opAt_cons ho
  rw [List.tail_cons]
  simp at h1
  split
  · rename_i r hq
    have := (h l2).2 _ hq
    exact ⟨fun x r' h => (by cases h), fun r' h => by cases h; omega⟩
  rename_i y l3 hq
  have := (h l2).1 _ _ hq
  exact ⟨fun x r' h => by cases h; omega, fun r' h => by cases h⟩
theorem shrinks_exprP : ∀ f : Nat, Shrinks (exprP f)
 | 0 => fun l => ⟨fun x r' h => (by cases h), fun r' h => by cases h; exact Nat.le_refl _⟩
 | f + 1 => shrinks_expr (shrinks_atom (shrinks_exprP f))
/-- The reader reads an expression. -/
theorem eok_all {g : Nat} {p : Option Addr} {c : Nat} {ts : List Tok} : ∀ f : Nat, EOK g p c ts (exprP f) f
 | 0 => fun w k b h hN => by
  cases b with
  | true => exact expr_bad _ h
  | false => exact absurd (hN rfl) (Nat.not_lt_zero _)
 | f + 1 => fun w k b h hN => by
  have ih := eok_all (g := g) (p := p) (c := c) (ts := ts) f
  exact expr_ok (A := atomP (exprP f)) (N := f) (fun w k b h hN => atom_ok ih (shrinks_exprP f) h hN) (shrinks_atom (shrinks_exprP f)) h (fun hb => Nat.lt_succ_iff.1 (hN hb))
end Go.Proofs.YtckgmilmhofekaaGreatDoor
namespace Go.Proofs.YtckgmilmhofekaaGreatDoor
open Go.RowKit

/-- The texts and the lists of expressions in memory are not longer than anything can be. -/
def smF : Fo → Prop
 | .nil => True
 | .cons _ _ u m a r => (u.length ≤ 9223372036854775807 ∧ m.length ≤ 9223372036854775807 ∧ a.len ≤ 9223372036854775807 ∧ smF a) ∧ smF r
theorem smF.mem : ∀ {f : Fo} {x : Ex}, smF f → x ∈ f.list → x.unit.length ≤ 9223372036854775807 ∧ x.name.length ≤ 9223372036854775807 ∧ x.args.len ≤ 9223372036854775807 ∧ smF x.args
  | .nil, _, _, h => by cases h
  | .cons op n u m a r, x, h, hx => by
    rcases List.mem_cons.1 hx with rfl | hx
    · exact h.1
    · exact smF.mem h.2 hx
set_option maxRecDepth 100000 in
set_option maxHeartbeats 1000000 in
theorem quote_all (s : ByteArray) (w : World) (hs : s.size ≤ 9223372036854775807) :
    Calls Tryz.prog 102 #[.string s] w fun e w' => e = .returned (quoteRes s.data.toList) ∧ Below w.heap.size w w' := by
  by_cases h4 : s.size ≤ 137438953472
  · exact quote_any s w h4
  · have HL : Hid (s.data.toList.length = s.size) := bytes_len s
    have h5 : ¬ s.size ≤ 400 := by omega
    have HQ : Hid (quoteOk s.data.toList = false) := by show _ = _; simp only [quoteOk, HL.out]; simp; omega
    go_enter Tryz.func102, Tryz.ntmps102
    go_wp2_with fail
    go_ret2
    exact ⟨by rw [quoteRes_no HQ.out]; rfl, Below.refl _ _⟩
theorem be_refl (w : World) : Below w.heap.size w w := Below.refl _ _
theorem be_call {a b c : World} (h : Below a.heap.size a b) (k : Below b.heap.size b c) : Below a.heap.size a c :=
 ⟨k.os.trans h.os, k.tape.trans h.tape, k.output.trans h.output, Nat.le_trans h.size k.size, fun i hi => (k.block i (Nat.lt_of_lt_of_le hi h.size)).trans (h.block i hi)⟩
theorem opName_no {op : Int} (h : opName op = none) : opRes op = .tuple #[.string ⟨#[]⟩, .bool false] := by unfold opRes; rw [h]; rfl
theorem opName_yes {op : Int} (h : (opName op).isSome = true) : opRes op = .tuple #[.string ⟨((opName op).getD []).toArray⟩, .bool true] := by unfold opRes; rw [h]
set_option maxRecDepth 100000 in
set_option maxHeartbeats 4000000 in
theorem fnamed_ok {w : World} (s : ByteArray) {b_ : Bool} (hs : s.size ≤ maxLen) (hb : namedB s.data.toList = b_) :
  Calls Tryz.prog 103 #[.string s] w fun e w' => e = .returned (.bool b_) ∧ w = w' := by
 cases hn : nameOk s.data.toList with
 | false =>
  have HN := Lib.hid hn
  have hb' : false = b_ := by rw [← hb]; simp [namedB, hn]
  subst hb'; clear hn hb
  go_enter Tryz.func103, Tryz.ntmps103
  go_wp2_with fail
  refine (name_any s w hs).mono ?_
  rintro e w1 ⟨rfl, rfl⟩
  rw [HN.out]
  go_wp2_with fail
  go_ret
  exact ⟨rfl, rfl⟩
 | true =>
  have HN := Lib.hid hn
  obtain ⟨c, hc⟩ : ∃ c, wordB s.toList = c := ⟨_, rfl⟩
  have hb' : (!c) = b_ := by rw [← hb, ← hc, Lib.toList_data]; simp [namedB, hn]
  subst hb'; clear hn hb
  go_enter Tryz.func103, Tryz.ntmps103
  go_wp2_with fail
  refine (name_any s w hs).mono ?_
  rintro e w1 ⟨rfl, rfl⟩
  rw [HN.out]
  go_wp2_with fail
  refine (word_ok s hc).mono ?_
  rintro e w1 ⟨rfl, rfl⟩
  go_wp2_with fail
  go_ret
  exact ⟨rfl, rfl⟩
set_option maxRecDepth 100000 in
set_option maxHeartbeats 4000000 in
theorem node_q0 {w : World} {op n : Int} {u m : Bytes} {k d : Nat} {q : Option Addr} {r : Bool} (hu : u.length ≤ 9223372036854775807) (h0 : op = 0) (hq : quoteOk u = false) (hr : nodeB op n u m k = r) :
  Calls Tryz.prog 72 #[.agg #[.int .i64 op, .int .i64 n, .string ⟨u.toArray⟩, .string ⟨m.toArray⟩, .slice q k d]] w fun e w' => e = .returned (.bool r) ∧ Below w.heap.size w w' := by
 obtain rfl : false = r := by rw [← hr, h0]; unfold nodeB; simp [*]
 subst h0
 have HQ := Lib.hid hq
 clear hr hq
 have B : Hid (Below w.heap.size w w) := be_refl w
 go_enter Tryz.func72, Tryz.ntmps72
 go_upto_region 1 with fail
 refine nmW (w.alloc (.cells #[.int .i64 0, .int .i64 n, .string ⟨u.toArray⟩, .string ⟨m.toArray⟩, .slice q k d] 24)) fun w1 hv => ?_
 rw [← hv]
 have K := bxh hv
 have hb_ := bah hv
 clear hv
 have z1_ := K.out.lt
 replace B := Lib.hid (be_call B.out hb_)
 have z2_ := hb_.size
 clear hb_
 refine K.out.q5 fun pK_0 pK_1 pK_2 pK_3 pK_4 => ?_
 go_wp2_with fail
 clear pK_0 pK_1 pK_2 pK_3 pK_4
 refine (quote_all _ _ (show u.toArray.size ≤ _ by simpa using hu)).mono ?_
 rintro e w2 ⟨rfl, hb⟩
 rw [show (ByteArray.mk u.toArray).data.toList = u by simp, show quoteRes u = _ from quoteRes_no HQ.out]
 replace B := Lib.hid (be_call B.out hb)
 replace K := Lib.hid (K.out.keep hb)
 have z3_ := hb.size
 clear hb
 refine K.out.q5 fun pK_0 pK_1 pK_2 pK_3 pK_4 => ?_
 go_wp2_with fail
 clear pK_0 pK_1 pK_2 pK_3 pK_4
 go_ret
 exact ⟨rfl, B.out⟩
set_option maxRecDepth 100000 in
set_option maxHeartbeats 4000000 in
theorem node_q1 {w : World} {op n : Int} {u m : Bytes} {k d : Nat} {q : Option Addr} {r : Bool} (hu : u.length ≤ 9223372036854775807) (h0 : op = 0) (hq : quoteOk u = true) (h1 : ¬ 0 ≤ n) (hr : nodeB op n u m k = r) :
  Calls Tryz.prog 72 #[.agg #[.int .i64 op, .int .i64 n, .string ⟨u.toArray⟩, .string ⟨m.toArray⟩, .slice q k d]] w fun e w' => e = .returned (.bool r) ∧ Below w.heap.size w w' := by
 obtain rfl : false = r := by rw [← hr, h0]; unfold nodeB; simp [*]
 subst h0
 have HQ := Lib.hid hq
 clear hr hq
 have B : Hid (Below w.heap.size w w) := be_refl w
 go_enter Tryz.func72, Tryz.ntmps72
 go_upto_region 1 with fail
 refine nmW (w.alloc (.cells #[.int .i64 0, .int .i64 n, .string ⟨u.toArray⟩, .string ⟨m.toArray⟩, .slice q k d] 24)) fun w1 hv => ?_
 rw [← hv]
 have K := bxh hv
 have hb_ := bah hv
 clear hv
 have z1_ := K.out.lt
 replace B := Lib.hid (be_call B.out hb_)
 have z2_ := hb_.size
 clear hb_
 refine K.out.q5 fun pK_0 pK_1 pK_2 pK_3 pK_4 => ?_
 go_wp2_with fail
 clear pK_0 pK_1 pK_2 pK_3 pK_4
 refine (quote_all _ _ (show u.toArray.size ≤ _ by simpa using hu)).mono ?_
 rintro e w2 ⟨rfl, hb⟩
 rw [show (ByteArray.mk u.toArray).data.toList = u by simp, show quoteRes u = _ from quoteRes_yes HQ.out]
 replace B := Lib.hid (be_call B.out hb)
 replace K := Lib.hid (K.out.keep hb)
 have z3_ := hb.size
 clear hb
 refine K.out.q5 fun pK_0 pK_1 pK_2 pK_3 pK_4 => ?_
 go_wp2_with fail
 clear pK_0 pK_1 pK_2 pK_3 pK_4
 go_ret
 exact ⟨rfl, B.out⟩
set_option maxRecDepth 100000 in
set_option maxHeartbeats 4000000 in
theorem node_q2 {w : World} {op n : Int} {u m : Bytes} {k d : Nat} {q : Option Addr} {r : Bool} (hu : u.length ≤ 9223372036854775807) (h0 : op = 0) (hq : quoteOk u = true) (h1 : 0 ≤ n) (h2 : ¬ n ≤ 1099511627776) (hr : nodeB op n u m k = r) :
  Calls Tryz.prog 72 #[.agg #[.int .i64 op, .int .i64 n, .string ⟨u.toArray⟩, .string ⟨m.toArray⟩, .slice q k d]] w fun e w' => e = .returned (.bool r) ∧ Below w.heap.size w w' := by
 obtain rfl : false = r := by rw [← hr, h0]; unfold nodeB; simp [*]
 subst h0
 have HQ := Lib.hid hq
 clear hr hq
 have B : Hid (Below w.heap.size w w) := be_refl w
 go_enter Tryz.func72, Tryz.ntmps72
 go_upto_region 1 with fail
 refine nmW (w.alloc (.cells #[.int .i64 0, .int .i64 n, .string ⟨u.toArray⟩, .string ⟨m.toArray⟩, .slice q k d] 24)) fun w1 hv => ?_
 rw [← hv]
 have K := bxh hv
 have hb_ := bah hv
 clear hv
 have z1_ := K.out.lt
 replace B := Lib.hid (be_call B.out hb_)
 have z2_ := hb_.size
 clear hb_
 refine K.out.q5 fun pK_0 pK_1 pK_2 pK_3 pK_4 => ?_
 go_wp2_with fail
 clear pK_0 pK_1 pK_2 pK_3 pK_4
 refine (quote_all _ _ (show u.toArray.size ≤ _ by simpa using hu)).mono ?_
 rintro e w2 ⟨rfl, hb⟩
 rw [show (ByteArray.mk u.toArray).data.toList = u by simp, show quoteRes u = _ from quoteRes_yes HQ.out]
 replace B := Lib.hid (be_call B.out hb)
 replace K := Lib.hid (K.out.keep hb)
 have z3_ := hb.size
 clear hb
 refine K.out.q5 fun pK_0 pK_1 pK_2 pK_3 pK_4 => ?_
 go_wp2_with fail
 clear pK_0 pK_1 pK_2 pK_3 pK_4
 go_ret
 exact ⟨rfl, B.out⟩
set_option maxRecDepth 100000 in
set_option maxHeartbeats 4000000 in
theorem node_q3 {w : World} {op n : Int} {u m : Bytes} {k d : Nat} {q : Option Addr} {r : Bool} (hu : u.length ≤ 9223372036854775807) (h0 : op = 0) (hq : quoteOk u = true) (h1 : 0 ≤ n) (h2 : n ≤ 1099511627776) (h3 : m.isEmpty = false) (hr : nodeB op n u m k = r) :
  Calls Tryz.prog 72 #[.agg #[.int .i64 op, .int .i64 n, .string ⟨u.toArray⟩, .string ⟨m.toArray⟩, .slice q k d]] w fun e w' => e = .returned (.bool r) ∧ Below w.heap.size w w' := by
 obtain rfl : false = r := by rw [← hr, h0]; unfold nodeB; simp [*]
 subst h0
 have HQ := Lib.hid hq
 clear hr hq
 have B : Hid (Below w.heap.size w w) := be_refl w
 go_enter Tryz.func72, Tryz.ntmps72
 go_upto_region 1 with fail
 refine nmW (w.alloc (.cells #[.int .i64 0, .int .i64 n, .string ⟨u.toArray⟩, .string ⟨m.toArray⟩, .slice q k d] 24)) fun w1 hv => ?_
 rw [← hv]
 have K := bxh hv
 have hb_ := bah hv
 clear hv
 have z1_ := K.out.lt
 replace B := Lib.hid (be_call B.out hb_)
 have z2_ := hb_.size
 clear hb_
 refine K.out.q5 fun pK_0 pK_1 pK_2 pK_3 pK_4 => ?_
 go_wp2_with fail
 clear pK_0 pK_1 pK_2 pK_3 pK_4
 refine (quote_all _ _ (show u.toArray.size ≤ _ by simpa using hu)).mono ?_
 rintro e w2 ⟨rfl, hb⟩
 rw [show (ByteArray.mk u.toArray).data.toList = u by simp, show quoteRes u = _ from quoteRes_yes HQ.out]
 replace B := Lib.hid (be_call B.out hb)
 replace K := Lib.hid (K.out.keep hb)
 have z3_ := hb.size
 clear hb
 refine K.out.q5 fun pK_0 pK_1 pK_2 pK_3 pK_4 => ?_
 go_wp2_with fail
 clear pK_0 pK_1 pK_2 pK_3 pK_4
 go_ret
 exact ⟨rfl, B.out⟩
set_option maxRecDepth 100000 in
set_option maxHeartbeats 4000000 in
theorem node_q4 {w : World} {op n : Int} {u m : Bytes} {k d : Nat} {q : Option Addr} {r : Bool} (hu : u.length ≤ 9223372036854775807) (h0 : op = 0) (hq : quoteOk u = true) (h1 : 0 ≤ n) (h2 : n ≤ 1099511627776) (h3 : m.isEmpty = true) (h4 : (k == 0) = false) (hr : nodeB op n u m k = r) :
  Calls Tryz.prog 72 #[.agg #[.int .i64 op, .int .i64 n, .string ⟨u.toArray⟩, .string ⟨m.toArray⟩, .slice q k d]] w fun e w' => e = .returned (.bool r) ∧ Below w.heap.size w w' := by
 have h4i : ((k : Int) == 0) = false := by rw [beq_eq_false_iff_ne] at h4 ⊢; omega
 obtain rfl : false = r := by rw [← hr, h0]; unfold nodeB; simp [*]
 subst h0
 have HQ := Lib.hid hq
 clear hr hq
 have B : Hid (Below w.heap.size w w) := be_refl w
 go_enter Tryz.func72, Tryz.ntmps72
 go_upto_region 1 with fail
 refine nmW (w.alloc (.cells #[.int .i64 0, .int .i64 n, .string ⟨u.toArray⟩, .string ⟨m.toArray⟩, .slice q k d] 24)) fun w1 hv => ?_
 rw [← hv]
 have K := bxh hv
 have hb_ := bah hv
 clear hv
 have z1_ := K.out.lt
 replace B := Lib.hid (be_call B.out hb_)
 have z2_ := hb_.size
 clear hb_
 refine K.out.q5 fun pK_0 pK_1 pK_2 pK_3 pK_4 => ?_
 go_wp2_with fail
 clear pK_0 pK_1 pK_2 pK_3 pK_4
 refine (quote_all _ _ (show u.toArray.size ≤ _ by simpa using hu)).mono ?_
 rintro e w2 ⟨rfl, hb⟩
 rw [show (ByteArray.mk u.toArray).data.toList = u by simp, show quoteRes u = _ from quoteRes_yes HQ.out]
 replace B := Lib.hid (be_call B.out hb)
 replace K := Lib.hid (K.out.keep hb)
 have z3_ := hb.size
 clear hb
 refine K.out.q5 fun pK_0 pK_1 pK_2 pK_3 pK_4 => ?_
 go_wp2_with fail
 clear pK_0 pK_1 pK_2 pK_3 pK_4
 go_ret
 exact ⟨rfl, B.out⟩
set_option maxRecDepth 100000 in
set_option maxHeartbeats 4000000 in
theorem node_q5 {w : World} {op n : Int} {u m : Bytes} {k d : Nat} {q : Option Addr} {r : Bool} (hu : u.length ≤ 9223372036854775807) (h0 : op = 0) (hq : quoteOk u = true) (h1 : 0 ≤ n) (h2 : n ≤ 1099511627776) (h3 : m.isEmpty = true) (h4 : (k == 0) = true) (hr : nodeB op n u m k = r) :
  Calls Tryz.prog 72 #[.agg #[.int .i64 op, .int .i64 n, .string ⟨u.toArray⟩, .string ⟨m.toArray⟩, .slice q k d]] w fun e w' => e = .returned (.bool r) ∧ Below w.heap.size w w' := by
 have h4i : ((k : Int) == 0) = true := by rw [beq_iff_eq] at h4 ⊢; omega
 obtain rfl : true = r := by rw [← hr, h0]; unfold nodeB; simp [*]
 subst h0
 have HQ := Lib.hid hq
 clear hr hq
 have B : Hid (Below w.heap.size w w) := be_refl w
 go_enter Tryz.func72, Tryz.ntmps72
 go_upto_region 1 with fail
 refine nmW (w.alloc (.cells #[.int .i64 0, .int .i64 n, .string ⟨u.toArray⟩, .string ⟨m.toArray⟩, .slice q k d] 24)) fun w1 hv => ?_
 rw [← hv]
 have K := bxh hv
 have hb_ := bah hv
 clear hv
 have z1_ := K.out.lt
 replace B := Lib.hid (be_call B.out hb_)
 have z2_ := hb_.size
 clear hb_
 refine K.out.q5 fun pK_0 pK_1 pK_2 pK_3 pK_4 => ?_
 go_wp2_with fail
 clear pK_0 pK_1 pK_2 pK_3 pK_4
 refine (quote_all _ _ (show u.toArray.size ≤ _ by simpa using hu)).mono ?_
 rintro e w2 ⟨rfl, hb⟩
 rw [show (ByteArray.mk u.toArray).data.toList = u by simp, show quoteRes u = _ from quoteRes_yes HQ.out]
 replace B := Lib.hid (be_call B.out hb)
 replace K := Lib.hid (K.out.keep hb)
 have z3_ := hb.size
 clear hb
 refine K.out.q5 fun pK_0 pK_1 pK_2 pK_3 pK_4 => ?_
 go_wp2_with fail
 clear pK_0 pK_1 pK_2 pK_3 pK_4
 go_ret
 exact ⟨rfl, B.out⟩
set_option maxRecDepth 100000 in
set_option maxHeartbeats 4000000 in
theorem node_n {w : World} {op n : Int} {u m : Bytes} {k d : Nat} {q : Option Addr} {r : Bool} (h0 : ¬ op = 0) (h1 : ¬ n = 0) (hr : nodeB op n u m k = r) :
  Calls Tryz.prog 72 #[.agg #[.int .i64 op, .int .i64 n, .string ⟨u.toArray⟩, .string ⟨m.toArray⟩, .slice q k d]] w fun e w' => e = .returned (.bool r) ∧ Below w.heap.size w w' := by
 obtain rfl : false = r := by rw [← hr]; unfold nodeB; simp [*]
 clear hr
 have B : Hid (Below w.heap.size w w) := be_refl w
 go_enter Tryz.func72, Tryz.ntmps72
 go_upto_region 1 with fail
 refine nmW (w.alloc (.cells #[.int .i64 op, .int .i64 n, .string ⟨u.toArray⟩, .string ⟨m.toArray⟩, .slice q k d] 24)) fun w1 hv => ?_
 rw [← hv]
 have K := bxh hv
 have hb_ := bah hv
 clear hv
 have z1_ := K.out.lt
 replace B := Lib.hid (be_call B.out hb_)
 have z2_ := hb_.size
 clear hb_
 refine K.out.q5 fun pK_0 pK_1 pK_2 pK_3 pK_4 => ?_
 go_wp2_with fail
 go_ret
 exact ⟨rfl, B.out⟩
set_option maxRecDepth 100000 in
set_option maxHeartbeats 4000000 in
theorem node_u {w : World} {op n : Int} {u m : Bytes} {k d : Nat} {q : Option Addr} {r : Bool} (h0 : ¬ op = 0) (h1 : n = 0) (h2 : ¬ u = []) (hr : nodeB op n u m k = r) :
  Calls Tryz.prog 72 #[.agg #[.int .i64 op, .int .i64 n, .string ⟨u.toArray⟩, .string ⟨m.toArray⟩, .slice q k d]] w fun e w' => e = .returned (.bool r) ∧ Below w.heap.size w w' := by
 have h2i : u.isEmpty = false := by cases u with | nil => exact absurd rfl h2 | cons a l => rfl
 have h2j : (u == []) = false := by cases u with | nil => exact absurd rfl h2 | cons a l => rfl
 obtain rfl : false = r := by rw [← hr]; unfold nodeB; simp [*]
 clear hr
 have B : Hid (Below w.heap.size w w) := be_refl w
 subst h1
 go_enter Tryz.func72, Tryz.ntmps72
 go_upto_region 1 with fail
 refine nmW (w.alloc (.cells #[.int .i64 op, .int .i64 0, .string ⟨u.toArray⟩, .string ⟨m.toArray⟩, .slice q k d] 24)) fun w1 hv => ?_
 rw [← hv]
 have K := bxh hv
 have hb_ := bah hv
 clear hv
 have z1_ := K.out.lt
 replace B := Lib.hid (be_call B.out hb_)
 have z2_ := hb_.size
 clear hb_
 refine K.out.q5 fun pK_0 pK_1 pK_2 pK_3 pK_4 => ?_
 go_wp2_with fail
 go_ret
 exact ⟨rfl, B.out⟩
set_option maxRecDepth 100000 in
set_option maxHeartbeats 4000000 in
theorem node_m10 {w : World} {op n : Int} {u m : Bytes} {k d : Nat} {q : Option Addr} {r : Bool} (h1 : n = 0) (h2 : u = []) (h0 : op = 1) (hn : namedB m = false) (hm : m.length ≤ 9223372036854775807) (hr : nodeB op n u m k = r) :
  Calls Tryz.prog 72 #[.agg #[.int .i64 op, .int .i64 n, .string ⟨u.toArray⟩, .string ⟨m.toArray⟩, .slice q k d]] w fun e w' => e = .returned (.bool r) ∧ Below w.heap.size w w' := by
 obtain rfl : false = r := by rw [← hr]; unfold nodeB; simp [*]
 clear hr
 have B : Hid (Below w.heap.size w w) := be_refl w
 subst h1
 subst h2
 go_enter Tryz.func72, Tryz.ntmps72
 go_upto_region 1 with fail
 refine nmW (w.alloc (.cells #[.int .i64 1, .int .i64 0, .string ⟨#[]⟩, .string ⟨m.toArray⟩, .slice q k d] 24)) fun w1 hv => ?_
 rw [← hv]
 have K := bxh hv
 have hb_ := bah hv
 clear hv
 have z1_ := K.out.lt
 replace B := Lib.hid (be_call B.out hb_)
 have z2_ := hb_.size
 clear hb_
 refine K.out.q5 fun pK_0 pK_1 pK_2 pK_3 pK_4 => ?_
 go_wp2_with fail
 clear pK_0 pK_1 pK_2 pK_3 pK_4
 refine (fnamed_ok (b_ := false) _ (show m.toArray.size ≤ _ by simpa [maxLen] using hm) (by simpa using hn)).mono ?_
 rintro e w1 ⟨rfl, rfl⟩
 refine K.out.q5 fun pK_0 pK_1 pK_2 pK_3 pK_4 => ?_
 go_wp2_with fail
 clear pK_0 pK_1 pK_2 pK_3 pK_4
 go_ret
 exact ⟨rfl, B.out⟩
set_option maxRecDepth 100000 in
set_option maxHeartbeats 4000000 in
theorem node_m11 {w : World} {op n : Int} {u m : Bytes} {k d : Nat} {q : Option Addr} {r : Bool} (h1 : n = 0) (h2 : u = []) (h0 : op = 1) (hn : namedB m = true) (h4 : (k == 0) = false) (hm : m.length ≤ 9223372036854775807) (hr : nodeB op n u m k = r) :
  Calls Tryz.prog 72 #[.agg #[.int .i64 op, .int .i64 n, .string ⟨u.toArray⟩, .string ⟨m.toArray⟩, .slice q k d]] w fun e w' => e = .returned (.bool r) ∧ Below w.heap.size w w' := by
 have h4i : ((k : Int) == 0) = false := by rw [beq_eq_false_iff_ne] at h4 ⊢; omega
 obtain rfl : false = r := by rw [← hr]; unfold nodeB; simp [*]
 clear hr
 have B : Hid (Below w.heap.size w w) := be_refl w
 subst h1
 subst h2
 go_enter Tryz.func72, Tryz.ntmps72
 go_upto_region 1 with fail
 refine nmW (w.alloc (.cells #[.int .i64 1, .int .i64 0, .string ⟨#[]⟩, .string ⟨m.toArray⟩, .slice q k d] 24)) fun w1 hv => ?_
 rw [← hv]
 have K := bxh hv
 have hb_ := bah hv
 clear hv
 have z1_ := K.out.lt
 replace B := Lib.hid (be_call B.out hb_)
 have z2_ := hb_.size
 clear hb_
 refine K.out.q5 fun pK_0 pK_1 pK_2 pK_3 pK_4 => ?_
 go_wp2_with fail
 clear pK_0 pK_1 pK_2 pK_3 pK_4
 refine (fnamed_ok (b_ := true) _ (show m.toArray.size ≤ _ by simpa [maxLen] using hm) (by simpa using hn)).mono ?_
 rintro e w1 ⟨rfl, rfl⟩
 refine K.out.q5 fun pK_0 pK_1 pK_2 pK_3 pK_4 => ?_
 go_wp2_with fail
 clear pK_0 pK_1 pK_2 pK_3 pK_4
 go_ret
 exact ⟨rfl, B.out⟩
set_option maxRecDepth 100000 in
set_option maxHeartbeats 4000000 in
theorem node_m12 {w : World} {op n : Int} {u m : Bytes} {k d : Nat} {q : Option Addr} {r : Bool} (h1 : n = 0) (h2 : u = []) (h0 : op = 1) (hn : namedB m = true) (h4 : (k == 0) = true) (hm : m.length ≤ 9223372036854775807) (hr : nodeB op n u m k = r) :
  Calls Tryz.prog 72 #[.agg #[.int .i64 op, .int .i64 n, .string ⟨u.toArray⟩, .string ⟨m.toArray⟩, .slice q k d]] w fun e w' => e = .returned (.bool r) ∧ Below w.heap.size w w' := by
 have h4i : ((k : Int) == 0) = true := by rw [beq_iff_eq] at h4 ⊢; omega
 obtain rfl : true = r := by rw [← hr]; unfold nodeB; simp [*]
 clear hr
 have B : Hid (Below w.heap.size w w) := be_refl w
 subst h1
 subst h2
 go_enter Tryz.func72, Tryz.ntmps72
 go_upto_region 1 with fail
 refine nmW (w.alloc (.cells #[.int .i64 1, .int .i64 0, .string ⟨#[]⟩, .string ⟨m.toArray⟩, .slice q k d] 24)) fun w1 hv => ?_
 rw [← hv]
 have K := bxh hv
 have hb_ := bah hv
 clear hv
 have z1_ := K.out.lt
 replace B := Lib.hid (be_call B.out hb_)
 have z2_ := hb_.size
 clear hb_
 refine K.out.q5 fun pK_0 pK_1 pK_2 pK_3 pK_4 => ?_
 go_wp2_with fail
 clear pK_0 pK_1 pK_2 pK_3 pK_4
 refine (fnamed_ok (b_ := true) _ (show m.toArray.size ≤ _ by simpa [maxLen] using hm) (by simpa using hn)).mono ?_
 rintro e w1 ⟨rfl, rfl⟩
 refine K.out.q5 fun pK_0 pK_1 pK_2 pK_3 pK_4 => ?_
 go_wp2_with fail
 clear pK_0 pK_1 pK_2 pK_3 pK_4
 go_ret
 exact ⟨rfl, B.out⟩
set_option maxRecDepth 100000 in
set_option maxHeartbeats 4000000 in
theorem node_m20 {w : World} {op n : Int} {u m : Bytes} {k d : Nat} {q : Option Addr} {r : Bool} (h1 : n = 0) (h2 : u = []) (h0 : op = 2) (hn : namedB m = false) (hm : m.length ≤ 9223372036854775807) (hr : nodeB op n u m k = r) :
  Calls Tryz.prog 72 #[.agg #[.int .i64 op, .int .i64 n, .string ⟨u.toArray⟩, .string ⟨m.toArray⟩, .slice q k d]] w fun e w' => e = .returned (.bool r) ∧ Below w.heap.size w w' := by
 obtain rfl : false = r := by rw [← hr]; unfold nodeB; simp [*]
 clear hr
 have B : Hid (Below w.heap.size w w) := be_refl w
 subst h1
 subst h2
 go_enter Tryz.func72, Tryz.ntmps72
 go_upto_region 1 with fail
 refine nmW (w.alloc (.cells #[.int .i64 2, .int .i64 0, .string ⟨#[]⟩, .string ⟨m.toArray⟩, .slice q k d] 24)) fun w1 hv => ?_
 rw [← hv]
 have K := bxh hv
 have hb_ := bah hv
 clear hv
 have z1_ := K.out.lt
 replace B := Lib.hid (be_call B.out hb_)
 have z2_ := hb_.size
 clear hb_
 refine K.out.q5 fun pK_0 pK_1 pK_2 pK_3 pK_4 => ?_
 go_wp2_with fail
 clear pK_0 pK_1 pK_2 pK_3 pK_4
 refine (fnamed_ok (b_ := false) _ (show m.toArray.size ≤ _ by simpa [maxLen] using hm) (by simpa using hn)).mono ?_
 rintro e w1 ⟨rfl, rfl⟩
 refine K.out.q5 fun pK_0 pK_1 pK_2 pK_3 pK_4 => ?_
 go_wp2_with fail
 clear pK_0 pK_1 pK_2 pK_3 pK_4
 go_ret
 exact ⟨rfl, B.out⟩
set_option maxRecDepth 100000 in
set_option maxHeartbeats 4000000 in
theorem node_m21 {w : World} {op n : Int} {u m : Bytes} {k d : Nat} {q : Option Addr} {r : Bool} (h1 : n = 0) (h2 : u = []) (h0 : op = 2) (hn : namedB m = true) (h4 : (k == 1) = false) (hm : m.length ≤ 9223372036854775807) (hr : nodeB op n u m k = r) :
  Calls Tryz.prog 72 #[.agg #[.int .i64 op, .int .i64 n, .string ⟨u.toArray⟩, .string ⟨m.toArray⟩, .slice q k d]] w fun e w' => e = .returned (.bool r) ∧ Below w.heap.size w w' := by
 have h4i : ((k : Int) == 1) = false := by rw [beq_eq_false_iff_ne] at h4 ⊢; omega
 obtain rfl : false = r := by rw [← hr]; unfold nodeB; simp [*]
 clear hr
 have B : Hid (Below w.heap.size w w) := be_refl w
 subst h1
 subst h2
 go_enter Tryz.func72, Tryz.ntmps72
 go_upto_region 1 with fail
 refine nmW (w.alloc (.cells #[.int .i64 2, .int .i64 0, .string ⟨#[]⟩, .string ⟨m.toArray⟩, .slice q k d] 24)) fun w1 hv => ?_
 rw [← hv]
 have K := bxh hv
 have hb_ := bah hv
 clear hv
 have z1_ := K.out.lt
 replace B := Lib.hid (be_call B.out hb_)
 have z2_ := hb_.size
 clear hb_
 refine K.out.q5 fun pK_0 pK_1 pK_2 pK_3 pK_4 => ?_
 go_wp2_with fail
 clear pK_0 pK_1 pK_2 pK_3 pK_4
 refine (fnamed_ok (b_ := true) _ (show m.toArray.size ≤ _ by simpa [maxLen] using hm) (by simpa using hn)).mono ?_
 rintro e w1 ⟨rfl, rfl⟩
 refine K.out.q5 fun pK_0 pK_1 pK_2 pK_3 pK_4 => ?_
 go_wp2_with fail
 clear pK_0 pK_1 pK_2 pK_3 pK_4
 go_ret
 exact ⟨rfl, B.out⟩
set_option maxRecDepth 100000 in
set_option maxHeartbeats 4000000 in
theorem node_m22 {w : World} {op n : Int} {u m : Bytes} {k d : Nat} {q : Option Addr} {r : Bool} (h1 : n = 0) (h2 : u = []) (h0 : op = 2) (hn : namedB m = true) (h4 : (k == 1) = true) (hm : m.length ≤ 9223372036854775807) (hr : nodeB op n u m k = r) :
  Calls Tryz.prog 72 #[.agg #[.int .i64 op, .int .i64 n, .string ⟨u.toArray⟩, .string ⟨m.toArray⟩, .slice q k d]] w fun e w' => e = .returned (.bool r) ∧ Below w.heap.size w w' := by
 have h4i : ((k : Int) == 1) = true := by rw [beq_iff_eq] at h4 ⊢; omega
 obtain rfl : true = r := by rw [← hr]; unfold nodeB; simp [*]
 clear hr
 have B : Hid (Below w.heap.size w w) := be_refl w
 subst h1
 subst h2
 go_enter Tryz.func72, Tryz.ntmps72
 go_upto_region 1 with fail
 refine nmW (w.alloc (.cells #[.int .i64 2, .int .i64 0, .string ⟨#[]⟩, .string ⟨m.toArray⟩, .slice q k d] 24)) fun w1 hv => ?_
 rw [← hv]
 have K := bxh hv
 have hb_ := bah hv
 clear hv
 have z1_ := K.out.lt
 replace B := Lib.hid (be_call B.out hb_)
 have z2_ := hb_.size
 clear hb_
 refine K.out.q5 fun pK_0 pK_1 pK_2 pK_3 pK_4 => ?_
 go_wp2_with fail
 clear pK_0 pK_1 pK_2 pK_3 pK_4
 refine (fnamed_ok (b_ := true) _ (show m.toArray.size ≤ _ by simpa [maxLen] using hm) (by simpa using hn)).mono ?_
 rintro e w1 ⟨rfl, rfl⟩
 refine K.out.q5 fun pK_0 pK_1 pK_2 pK_3 pK_4 => ?_
 go_wp2_with fail
 clear pK_0 pK_1 pK_2 pK_3 pK_4
 go_ret
 exact ⟨rfl, B.out⟩
set_option maxRecDepth 100000 in
set_option maxHeartbeats 4000000 in
theorem node_m30 {w : World} {op n : Int} {u m : Bytes} {k d : Nat} {q : Option Addr} {r : Bool} (h1 : n = 0) (h2 : u = []) (h0 : op = 3) (hn : namedB m = false) (hm : m.length ≤ 9223372036854775807) (hr : nodeB op n u m k = r) :
  Calls Tryz.prog 72 #[.agg #[.int .i64 op, .int .i64 n, .string ⟨u.toArray⟩, .string ⟨m.toArray⟩, .slice q k d]] w fun e w' => e = .returned (.bool r) ∧ Below w.heap.size w w' := by
 obtain rfl : false = r := by rw [← hr]; unfold nodeB; simp [*]
 clear hr
 have B : Hid (Below w.heap.size w w) := be_refl w
 subst h1
 subst h2
 go_enter Tryz.func72, Tryz.ntmps72
 go_upto_region 1 with fail
 refine nmW (w.alloc (.cells #[.int .i64 3, .int .i64 0, .string ⟨#[]⟩, .string ⟨m.toArray⟩, .slice q k d] 24)) fun w1 hv => ?_
 rw [← hv]
 have K := bxh hv
 have hb_ := bah hv
 clear hv
 have z1_ := K.out.lt
 replace B := Lib.hid (be_call B.out hb_)
 have z2_ := hb_.size
 clear hb_
 refine K.out.q5 fun pK_0 pK_1 pK_2 pK_3 pK_4 => ?_
 go_wp2_with fail
 clear pK_0 pK_1 pK_2 pK_3 pK_4
 refine (fnamed_ok (b_ := false) _ (show m.toArray.size ≤ _ by simpa [maxLen] using hm) (by simpa using hn)).mono ?_
 rintro e w1 ⟨rfl, rfl⟩
 refine K.out.q5 fun pK_0 pK_1 pK_2 pK_3 pK_4 => ?_
 go_wp2_with fail
 clear pK_0 pK_1 pK_2 pK_3 pK_4
 go_ret
 exact ⟨rfl, B.out⟩
set_option maxRecDepth 100000 in
set_option maxHeartbeats 4000000 in
theorem node_m31 {w : World} {op n : Int} {u m : Bytes} {k d : Nat} {q : Option Addr} {r : Bool} (h1 : n = 0) (h2 : u = []) (h0 : op = 3) (hn : namedB m = true) (h4 : ¬ 1 ≤ k) (hm : m.length ≤ 9223372036854775807) (hr : nodeB op n u m k = r) :
  Calls Tryz.prog 72 #[.agg #[.int .i64 op, .int .i64 n, .string ⟨u.toArray⟩, .string ⟨m.toArray⟩, .slice q k d]] w fun e w' => e = .returned (.bool r) ∧ Below w.heap.size w w' := by
 have h4i : ¬ (1 : Int) ≤ k := by omega
 have h4j : ¬ 0 < k := by omega
 have h4k : ((k : Int) < 1) := by omega
 have h5i : (k : Int) ≤ 6 := by omega
 obtain rfl : false = r := by rw [← hr]; unfold nodeB; simp [*]
 clear hr
 have B : Hid (Below w.heap.size w w) := be_refl w
 subst h1
 subst h2
 go_enter Tryz.func72, Tryz.ntmps72
 go_upto_region 1 with fail
 refine nmW (w.alloc (.cells #[.int .i64 3, .int .i64 0, .string ⟨#[]⟩, .string ⟨m.toArray⟩, .slice q k d] 24)) fun w1 hv => ?_
 rw [← hv]
 have K := bxh hv
 have hb_ := bah hv
 clear hv
 have z1_ := K.out.lt
 replace B := Lib.hid (be_call B.out hb_)
 have z2_ := hb_.size
 clear hb_
 refine K.out.q5 fun pK_0 pK_1 pK_2 pK_3 pK_4 => ?_
 go_wp2_with fail
 clear pK_0 pK_1 pK_2 pK_3 pK_4
 refine (fnamed_ok (b_ := true) _ (show m.toArray.size ≤ _ by simpa [maxLen] using hm) (by simpa using hn)).mono ?_
 rintro e w1 ⟨rfl, rfl⟩
 refine K.out.q5 fun pK_0 pK_1 pK_2 pK_3 pK_4 => ?_
 go_wp2_with fail
 clear pK_0 pK_1 pK_2 pK_3 pK_4
 go_ret
 exact ⟨rfl, B.out⟩
set_option maxRecDepth 100000 in
set_option maxHeartbeats 4000000 in
theorem node_m32 {w : World} {op n : Int} {u m : Bytes} {k d : Nat} {q : Option Addr} {r : Bool} (h1 : n = 0) (h2 : u = []) (h0 : op = 3) (hn : namedB m = true) (h4 : 1 ≤ k) (h5 : ¬ k ≤ 6) (hm : m.length ≤ 9223372036854775807) (hr : nodeB op n u m k = r) :
  Calls Tryz.prog 72 #[.agg #[.int .i64 op, .int .i64 n, .string ⟨u.toArray⟩, .string ⟨m.toArray⟩, .slice q k d]] w fun e w' => e = .returned (.bool r) ∧ Below w.heap.size w w' := by
 have h4i : (1 : Int) ≤ k := by omega
 have h5i : ¬ (k : Int) ≤ 6 := by omega
 obtain rfl : false = r := by rw [← hr]; unfold nodeB; simp [*]
 clear hr
 have B : Hid (Below w.heap.size w w) := be_refl w
 subst h1
 subst h2
 go_enter Tryz.func72, Tryz.ntmps72
 go_upto_region 1 with fail
 refine nmW (w.alloc (.cells #[.int .i64 3, .int .i64 0, .string ⟨#[]⟩, .string ⟨m.toArray⟩, .slice q k d] 24)) fun w1 hv => ?_
 rw [← hv]
 have K := bxh hv
 have hb_ := bah hv
 clear hv
 have z1_ := K.out.lt
 replace B := Lib.hid (be_call B.out hb_)
 have z2_ := hb_.size
 clear hb_
 refine K.out.q5 fun pK_0 pK_1 pK_2 pK_3 pK_4 => ?_
 go_wp2_with fail
 clear pK_0 pK_1 pK_2 pK_3 pK_4
 refine (fnamed_ok (b_ := true) _ (show m.toArray.size ≤ _ by simpa [maxLen] using hm) (by simpa using hn)).mono ?_
 rintro e w1 ⟨rfl, rfl⟩
 refine K.out.q5 fun pK_0 pK_1 pK_2 pK_3 pK_4 => ?_
 go_wp2_with fail
 clear pK_0 pK_1 pK_2 pK_3 pK_4
 rw [show decide ((k : Int) ≤ 6) = false by rw [decide_eq_false_iff_not]; omega]
 go_ret
 exact ⟨rfl, B.out⟩
set_option maxRecDepth 100000 in
set_option maxHeartbeats 4000000 in
theorem node_m33 {w : World} {op n : Int} {u m : Bytes} {k d : Nat} {q : Option Addr} {r : Bool} (h1 : n = 0) (h2 : u = []) (h0 : op = 3) (hn : namedB m = true) (h4 : 1 ≤ k) (h5 : k ≤ 6) (hm : m.length ≤ 9223372036854775807) (hr : nodeB op n u m k = r) :
  Calls Tryz.prog 72 #[.agg #[.int .i64 op, .int .i64 n, .string ⟨u.toArray⟩, .string ⟨m.toArray⟩, .slice q k d]] w fun e w' => e = .returned (.bool r) ∧ Below w.heap.size w w' := by
 have h4i : (1 : Int) ≤ k := by omega
 have h5i : (k : Int) ≤ 6 := by omega
 obtain rfl : true = r := by rw [← hr]; unfold nodeB; simp [*]
 clear hr
 have B : Hid (Below w.heap.size w w) := be_refl w
 subst h1
 subst h2
 go_enter Tryz.func72, Tryz.ntmps72
 go_upto_region 1 with fail
 refine nmW (w.alloc (.cells #[.int .i64 3, .int .i64 0, .string ⟨#[]⟩, .string ⟨m.toArray⟩, .slice q k d] 24)) fun w1 hv => ?_
 rw [← hv]
 have K := bxh hv
 have hb_ := bah hv
 clear hv
 have z1_ := K.out.lt
 replace B := Lib.hid (be_call B.out hb_)
 have z2_ := hb_.size
 clear hb_
 refine K.out.q5 fun pK_0 pK_1 pK_2 pK_3 pK_4 => ?_
 go_wp2_with fail
 clear pK_0 pK_1 pK_2 pK_3 pK_4
 refine (fnamed_ok (b_ := true) _ (show m.toArray.size ≤ _ by simpa [maxLen] using hm) (by simpa using hn)).mono ?_
 rintro e w1 ⟨rfl, rfl⟩
 refine K.out.q5 fun pK_0 pK_1 pK_2 pK_3 pK_4 => ?_
 go_wp2_with fail
 clear pK_0 pK_1 pK_2 pK_3 pK_4
 go_ret
 exact ⟨rfl, B.out⟩
set_option maxRecDepth 100000 in
set_option maxHeartbeats 4000000 in
theorem node_e40 {w : World} {op n : Int} {u m : Bytes} {k d : Nat} {q : Option Addr} {r : Bool} (h1 : n = 0) (h2 : u = []) (h0 : op = 4) (h3 : m.isEmpty = false) (hr : nodeB op n u m k = r) :
  Calls Tryz.prog 72 #[.agg #[.int .i64 op, .int .i64 n, .string ⟨u.toArray⟩, .string ⟨m.toArray⟩, .slice q k d]] w fun e w' => e = .returned (.bool r) ∧ Below w.heap.size w w' := by
 obtain rfl : false = r := by rw [← hr]; unfold nodeB; simp [*]
 clear hr
 have B : Hid (Below w.heap.size w w) := be_refl w
 subst h1
 subst h2
 go_enter Tryz.func72, Tryz.ntmps72
 go_upto_region 1 with fail
 refine nmW (w.alloc (.cells #[.int .i64 4, .int .i64 0, .string ⟨#[]⟩, .string ⟨m.toArray⟩, .slice q k d] 24)) fun w1 hv => ?_
 rw [← hv]
 have K := bxh hv
 have hb_ := bah hv
 clear hv
 have z1_ := K.out.lt
 replace B := Lib.hid (be_call B.out hb_)
 have z2_ := hb_.size
 clear hb_
 refine K.out.q5 fun pK_0 pK_1 pK_2 pK_3 pK_4 => ?_
 go_wp2_with fail
 clear pK_0 pK_1 pK_2 pK_3 pK_4
 go_ret
 exact ⟨rfl, B.out⟩
set_option maxRecDepth 100000 in
set_option maxHeartbeats 4000000 in
theorem node_e41 {w : World} {op n : Int} {u m : Bytes} {k d : Nat} {q : Option Addr} {r : Bool} (h1 : n = 0) (h2 : u = []) (h0 : op = 4) (h3 : m.isEmpty = true) (h4 : (k == 1) = false) (hr : nodeB op n u m k = r) :
  Calls Tryz.prog 72 #[.agg #[.int .i64 op, .int .i64 n, .string ⟨u.toArray⟩, .string ⟨m.toArray⟩, .slice q k d]] w fun e w' => e = .returned (.bool r) ∧ Below w.heap.size w w' := by
 have h4i : ((k : Int) == 1) = false := by rw [beq_eq_false_iff_ne] at h4 ⊢; omega
 obtain rfl : false = r := by rw [← hr]; unfold nodeB; simp [*]
 clear hr
 have B : Hid (Below w.heap.size w w) := be_refl w
 subst h1
 subst h2
 go_enter Tryz.func72, Tryz.ntmps72
 go_upto_region 1 with fail
 refine nmW (w.alloc (.cells #[.int .i64 4, .int .i64 0, .string ⟨#[]⟩, .string ⟨m.toArray⟩, .slice q k d] 24)) fun w1 hv => ?_
 rw [← hv]
 have K := bxh hv
 have hb_ := bah hv
 clear hv
 have z1_ := K.out.lt
 replace B := Lib.hid (be_call B.out hb_)
 have z2_ := hb_.size
 clear hb_
 refine K.out.q5 fun pK_0 pK_1 pK_2 pK_3 pK_4 => ?_
 go_wp2_with fail
 clear pK_0 pK_1 pK_2 pK_3 pK_4
 go_ret
 exact ⟨rfl, B.out⟩
set_option maxRecDepth 100000 in
set_option maxHeartbeats 4000000 in
theorem node_e42 {w : World} {op n : Int} {u m : Bytes} {k d : Nat} {q : Option Addr} {r : Bool} (h1 : n = 0) (h2 : u = []) (h0 : op = 4) (h3 : m.isEmpty = true) (h4 : (k == 1) = true) (hr : nodeB op n u m k = r) :
  Calls Tryz.prog 72 #[.agg #[.int .i64 op, .int .i64 n, .string ⟨u.toArray⟩, .string ⟨m.toArray⟩, .slice q k d]] w fun e w' => e = .returned (.bool r) ∧ Below w.heap.size w w' := by
 have h4i : ((k : Int) == 1) = true := by rw [beq_iff_eq] at h4 ⊢; omega
 obtain rfl : true = r := by rw [← hr]; unfold nodeB; simp [*]
 clear hr
 have B : Hid (Below w.heap.size w w) := be_refl w
 subst h1
 subst h2
 go_enter Tryz.func72, Tryz.ntmps72
 go_upto_region 1 with fail
 refine nmW (w.alloc (.cells #[.int .i64 4, .int .i64 0, .string ⟨#[]⟩, .string ⟨m.toArray⟩, .slice q k d] 24)) fun w1 hv => ?_
 rw [← hv]
 have K := bxh hv
 have hb_ := bah hv
 clear hv
 have z1_ := K.out.lt
 replace B := Lib.hid (be_call B.out hb_)
 have z2_ := hb_.size
 clear hb_
 refine K.out.q5 fun pK_0 pK_1 pK_2 pK_3 pK_4 => ?_
 go_wp2_with fail
 clear pK_0 pK_1 pK_2 pK_3 pK_4
 go_ret
 exact ⟨rfl, B.out⟩
set_option maxRecDepth 100000 in
set_option maxHeartbeats 4000000 in
theorem node_e50 {w : World} {op n : Int} {u m : Bytes} {k d : Nat} {q : Option Addr} {r : Bool} (h1 : n = 0) (h2 : u = []) (h0 : op = 5) (h3 : m.isEmpty = false) (hr : nodeB op n u m k = r) :
  Calls Tryz.prog 72 #[.agg #[.int .i64 op, .int .i64 n, .string ⟨u.toArray⟩, .string ⟨m.toArray⟩, .slice q k d]] w fun e w' => e = .returned (.bool r) ∧ Below w.heap.size w w' := by
 obtain rfl : false = r := by rw [← hr]; unfold nodeB; simp [*]
 clear hr
 have B : Hid (Below w.heap.size w w) := be_refl w
 subst h1
 subst h2
 go_enter Tryz.func72, Tryz.ntmps72
 go_upto_region 1 with fail
 refine nmW (w.alloc (.cells #[.int .i64 5, .int .i64 0, .string ⟨#[]⟩, .string ⟨m.toArray⟩, .slice q k d] 24)) fun w1 hv => ?_
 rw [← hv]
 have K := bxh hv
 have hb_ := bah hv
 clear hv
 have z1_ := K.out.lt
 replace B := Lib.hid (be_call B.out hb_)
 have z2_ := hb_.size
 clear hb_
 refine K.out.q5 fun pK_0 pK_1 pK_2 pK_3 pK_4 => ?_
 go_wp2_with fail
 clear pK_0 pK_1 pK_2 pK_3 pK_4
 go_ret
 exact ⟨rfl, B.out⟩
set_option maxRecDepth 100000 in
set_option maxHeartbeats 4000000 in
theorem node_e51 {w : World} {op n : Int} {u m : Bytes} {k d : Nat} {q : Option Addr} {r : Bool} (h1 : n = 0) (h2 : u = []) (h0 : op = 5) (h3 : m.isEmpty = true) (h4 : (k == 3) = false) (hr : nodeB op n u m k = r) :
  Calls Tryz.prog 72 #[.agg #[.int .i64 op, .int .i64 n, .string ⟨u.toArray⟩, .string ⟨m.toArray⟩, .slice q k d]] w fun e w' => e = .returned (.bool r) ∧ Below w.heap.size w w' := by
 have h4i : ((k : Int) == 3) = false := by rw [beq_eq_false_iff_ne] at h4 ⊢; omega
 obtain rfl : false = r := by rw [← hr]; unfold nodeB; simp [*]
 clear hr
 have B : Hid (Below w.heap.size w w) := be_refl w
 subst h1
 subst h2
 go_enter Tryz.func72, Tryz.ntmps72
 go_upto_region 1 with fail
 refine nmW (w.alloc (.cells #[.int .i64 5, .int .i64 0, .string ⟨#[]⟩, .string ⟨m.toArray⟩, .slice q k d] 24)) fun w1 hv => ?_
 rw [← hv]
 have K := bxh hv
 have hb_ := bah hv
 clear hv
 have z1_ := K.out.lt
 replace B := Lib.hid (be_call B.out hb_)
 have z2_ := hb_.size
 clear hb_
 refine K.out.q5 fun pK_0 pK_1 pK_2 pK_3 pK_4 => ?_
 go_wp2_with fail
 clear pK_0 pK_1 pK_2 pK_3 pK_4
 go_ret
 exact ⟨rfl, B.out⟩
set_option maxRecDepth 100000 in
set_option maxHeartbeats 4000000 in
theorem node_e52 {w : World} {op n : Int} {u m : Bytes} {k d : Nat} {q : Option Addr} {r : Bool} (h1 : n = 0) (h2 : u = []) (h0 : op = 5) (h3 : m.isEmpty = true) (h4 : (k == 3) = true) (hr : nodeB op n u m k = r) :
  Calls Tryz.prog 72 #[.agg #[.int .i64 op, .int .i64 n, .string ⟨u.toArray⟩, .string ⟨m.toArray⟩, .slice q k d]] w fun e w' => e = .returned (.bool r) ∧ Below w.heap.size w w' := by
 have h4i : ((k : Int) == 3) = true := by rw [beq_iff_eq] at h4 ⊢; omega
 obtain rfl : true = r := by rw [← hr]; unfold nodeB; simp [*]
 clear hr
 have B : Hid (Below w.heap.size w w) := be_refl w
 subst h1
 subst h2
 go_enter Tryz.func72, Tryz.ntmps72
 go_upto_region 1 with fail
 refine nmW (w.alloc (.cells #[.int .i64 5, .int .i64 0, .string ⟨#[]⟩, .string ⟨m.toArray⟩, .slice q k d] 24)) fun w1 hv => ?_
 rw [← hv]
 have K := bxh hv
 have hb_ := bah hv
 clear hv
 have z1_ := K.out.lt
 replace B := Lib.hid (be_call B.out hb_)
 have z2_ := hb_.size
 clear hb_
 refine K.out.q5 fun pK_0 pK_1 pK_2 pK_3 pK_4 => ?_
 go_wp2_with fail
 clear pK_0 pK_1 pK_2 pK_3 pK_4
 go_ret
 exact ⟨rfl, B.out⟩
set_option maxRecDepth 100000 in
set_option maxHeartbeats 4000000 in
theorem node_e100 {w : World} {op n : Int} {u m : Bytes} {k d : Nat} {q : Option Addr} {r : Bool} (h1 : n = 0) (h2 : u = []) (h0 : op = 10) (h3 : m.isEmpty = false) (hr : nodeB op n u m k = r) :
  Calls Tryz.prog 72 #[.agg #[.int .i64 op, .int .i64 n, .string ⟨u.toArray⟩, .string ⟨m.toArray⟩, .slice q k d]] w fun e w' => e = .returned (.bool r) ∧ Below w.heap.size w w' := by
 obtain rfl : false = r := by rw [← hr]; unfold nodeB; simp [*]
 clear hr
 have B : Hid (Below w.heap.size w w) := be_refl w
 subst h1
 subst h2
 go_enter Tryz.func72, Tryz.ntmps72
 go_upto_region 1 with fail
 refine nmW (w.alloc (.cells #[.int .i64 10, .int .i64 0, .string ⟨#[]⟩, .string ⟨m.toArray⟩, .slice q k d] 24)) fun w1 hv => ?_
 rw [← hv]
 have K := bxh hv
 have hb_ := bah hv
 clear hv
 have z1_ := K.out.lt
 replace B := Lib.hid (be_call B.out hb_)
 have z2_ := hb_.size
 clear hb_
 refine K.out.q5 fun pK_0 pK_1 pK_2 pK_3 pK_4 => ?_
 go_wp2_with fail
 clear pK_0 pK_1 pK_2 pK_3 pK_4
 go_ret
 exact ⟨rfl, B.out⟩
set_option maxRecDepth 100000 in
set_option maxHeartbeats 4000000 in
theorem node_e101 {w : World} {op n : Int} {u m : Bytes} {k d : Nat} {q : Option Addr} {r : Bool} (h1 : n = 0) (h2 : u = []) (h0 : op = 10) (h3 : m.isEmpty = true) (h4 : (k == 2) = false) (hr : nodeB op n u m k = r) :
  Calls Tryz.prog 72 #[.agg #[.int .i64 op, .int .i64 n, .string ⟨u.toArray⟩, .string ⟨m.toArray⟩, .slice q k d]] w fun e w' => e = .returned (.bool r) ∧ Below w.heap.size w w' := by
 have h4i : ((k : Int) == 2) = false := by rw [beq_eq_false_iff_ne] at h4 ⊢; omega
 obtain rfl : false = r := by rw [← hr]; unfold nodeB; simp [*]
 clear hr
 have B : Hid (Below w.heap.size w w) := be_refl w
 subst h1
 subst h2
 go_enter Tryz.func72, Tryz.ntmps72
 go_upto_region 1 with fail
 refine nmW (w.alloc (.cells #[.int .i64 10, .int .i64 0, .string ⟨#[]⟩, .string ⟨m.toArray⟩, .slice q k d] 24)) fun w1 hv => ?_
 rw [← hv]
 have K := bxh hv
 have hb_ := bah hv
 clear hv
 have z1_ := K.out.lt
 replace B := Lib.hid (be_call B.out hb_)
 have z2_ := hb_.size
 clear hb_
 refine K.out.q5 fun pK_0 pK_1 pK_2 pK_3 pK_4 => ?_
 go_wp2_with fail
 clear pK_0 pK_1 pK_2 pK_3 pK_4
 go_ret
 exact ⟨rfl, B.out⟩
set_option maxRecDepth 100000 in
set_option maxHeartbeats 4000000 in
theorem node_e102 {w : World} {op n : Int} {u m : Bytes} {k d : Nat} {q : Option Addr} {r : Bool} (h1 : n = 0) (h2 : u = []) (h0 : op = 10) (h3 : m.isEmpty = true) (h4 : (k == 2) = true) (hr : nodeB op n u m k = r) :
  Calls Tryz.prog 72 #[.agg #[.int .i64 op, .int .i64 n, .string ⟨u.toArray⟩, .string ⟨m.toArray⟩, .slice q k d]] w fun e w' => e = .returned (.bool r) ∧ Below w.heap.size w w' := by
 have h4i : ((k : Int) == 2) = true := by rw [beq_iff_eq] at h4 ⊢; omega
 obtain rfl : true = r := by rw [← hr]; unfold nodeB; simp [*]
 clear hr
 have B : Hid (Below w.heap.size w w) := be_refl w
 subst h1
 subst h2
 go_enter Tryz.func72, Tryz.ntmps72
 go_upto_region 1 with fail
 refine nmW (w.alloc (.cells #[.int .i64 10, .int .i64 0, .string ⟨#[]⟩, .string ⟨m.toArray⟩, .slice q k d] 24)) fun w1 hv => ?_
 rw [← hv]
 have K := bxh hv
 have hb_ := bah hv
 clear hv
 have z1_ := K.out.lt
 replace B := Lib.hid (be_call B.out hb_)
 have z2_ := hb_.size
 clear hb_
 refine K.out.q5 fun pK_0 pK_1 pK_2 pK_3 pK_4 => ?_
 go_wp2_with fail
 clear pK_0 pK_1 pK_2 pK_3 pK_4
 go_ret
 exact ⟨rfl, B.out⟩
set_option maxRecDepth 100000 in
set_option maxHeartbeats 4000000 in
theorem node_e110 {w : World} {op n : Int} {u m : Bytes} {k d : Nat} {q : Option Addr} {r : Bool} (h1 : n = 0) (h2 : u = []) (h0 : op = 11) (h3 : m.isEmpty = false) (hr : nodeB op n u m k = r) :
  Calls Tryz.prog 72 #[.agg #[.int .i64 op, .int .i64 n, .string ⟨u.toArray⟩, .string ⟨m.toArray⟩, .slice q k d]] w fun e w' => e = .returned (.bool r) ∧ Below w.heap.size w w' := by
 obtain rfl : false = r := by rw [← hr]; unfold nodeB; simp [*]
 clear hr
 have B : Hid (Below w.heap.size w w) := be_refl w
 subst h1
 subst h2
 go_enter Tryz.func72, Tryz.ntmps72
 go_upto_region 1 with fail
 refine nmW (w.alloc (.cells #[.int .i64 11, .int .i64 0, .string ⟨#[]⟩, .string ⟨m.toArray⟩, .slice q k d] 24)) fun w1 hv => ?_
 rw [← hv]
 have K := bxh hv
 have hb_ := bah hv
 clear hv
 have z1_ := K.out.lt
 replace B := Lib.hid (be_call B.out hb_)
 have z2_ := hb_.size
 clear hb_
 refine K.out.q5 fun pK_0 pK_1 pK_2 pK_3 pK_4 => ?_
 go_wp2_with fail
 clear pK_0 pK_1 pK_2 pK_3 pK_4
 go_ret
 exact ⟨rfl, B.out⟩
set_option maxRecDepth 100000 in
set_option maxHeartbeats 4000000 in
theorem node_e111 {w : World} {op n : Int} {u m : Bytes} {k d : Nat} {q : Option Addr} {r : Bool} (h1 : n = 0) (h2 : u = []) (h0 : op = 11) (h3 : m.isEmpty = true) (h4 : (k == 2) = false) (hr : nodeB op n u m k = r) :
  Calls Tryz.prog 72 #[.agg #[.int .i64 op, .int .i64 n, .string ⟨u.toArray⟩, .string ⟨m.toArray⟩, .slice q k d]] w fun e w' => e = .returned (.bool r) ∧ Below w.heap.size w w' := by
 have h4i : ((k : Int) == 2) = false := by rw [beq_eq_false_iff_ne] at h4 ⊢; omega
 obtain rfl : false = r := by rw [← hr]; unfold nodeB; simp [*]
 clear hr
 have B : Hid (Below w.heap.size w w) := be_refl w
 subst h1
 subst h2
 go_enter Tryz.func72, Tryz.ntmps72
 go_upto_region 1 with fail
 refine nmW (w.alloc (.cells #[.int .i64 11, .int .i64 0, .string ⟨#[]⟩, .string ⟨m.toArray⟩, .slice q k d] 24)) fun w1 hv => ?_
 rw [← hv]
 have K := bxh hv
 have hb_ := bah hv
 clear hv
 have z1_ := K.out.lt
 replace B := Lib.hid (be_call B.out hb_)
 have z2_ := hb_.size
 clear hb_
 refine K.out.q5 fun pK_0 pK_1 pK_2 pK_3 pK_4 => ?_
 go_wp2_with fail
 clear pK_0 pK_1 pK_2 pK_3 pK_4
 go_ret
 exact ⟨rfl, B.out⟩
set_option maxRecDepth 100000 in
set_option maxHeartbeats 4000000 in
theorem node_e112 {w : World} {op n : Int} {u m : Bytes} {k d : Nat} {q : Option Addr} {r : Bool} (h1 : n = 0) (h2 : u = []) (h0 : op = 11) (h3 : m.isEmpty = true) (h4 : (k == 2) = true) (hr : nodeB op n u m k = r) :
  Calls Tryz.prog 72 #[.agg #[.int .i64 op, .int .i64 n, .string ⟨u.toArray⟩, .string ⟨m.toArray⟩, .slice q k d]] w fun e w' => e = .returned (.bool r) ∧ Below w.heap.size w w' := by
 have h4i : ((k : Int) == 2) = true := by rw [beq_iff_eq] at h4 ⊢; omega
 obtain rfl : true = r := by rw [← hr]; unfold nodeB; simp [*]
 clear hr
 have B : Hid (Below w.heap.size w w) := be_refl w
 subst h1
 subst h2
 go_enter Tryz.func72, Tryz.ntmps72
 go_upto_region 1 with fail
 refine nmW (w.alloc (.cells #[.int .i64 11, .int .i64 0, .string ⟨#[]⟩, .string ⟨m.toArray⟩, .slice q k d] 24)) fun w1 hv => ?_
 rw [← hv]
 have K := bxh hv
 have hb_ := bah hv
 clear hv
 have z1_ := K.out.lt
 replace B := Lib.hid (be_call B.out hb_)
 have z2_ := hb_.size
 clear hb_
 refine K.out.q5 fun pK_0 pK_1 pK_2 pK_3 pK_4 => ?_
 go_wp2_with fail
 clear pK_0 pK_1 pK_2 pK_3 pK_4
 go_ret
 exact ⟨rfl, B.out⟩
set_option maxRecDepth 100000 in
set_option maxHeartbeats 4000000 in
theorem node_o0 {w : World} {op n : Int} {u m : Bytes} {k d : Nat} {q : Option Addr} {r : Bool} (h1 : n = 0) (h2 : u = []) (g0 : ¬ op = 0) (g1 : ¬ op = 1) (g2 : ¬ op = 2) (g3 : ¬ op = 3) (g4 : ¬ op = 4) (g5 : ¬ op = 5) (g10 : ¬ op = 10) (g11 : ¬ op = 11) (hn : opName op = none) (hr : nodeB op n u m k = r) :
  Calls Tryz.prog 72 #[.agg #[.int .i64 op, .int .i64 n, .string ⟨u.toArray⟩, .string ⟨m.toArray⟩, .slice q k d]] w fun e w' => e = .returned (.bool r) ∧ Below w.heap.size w w' := by
 obtain rfl : false = r := by rw [← hr]; unfold nodeB; simp [*]
 clear hr
 have B : Hid (Below w.heap.size w w) := be_refl w
 subst h1
 subst h2
 go_enter Tryz.func72, Tryz.ntmps72
 go_upto_region 1 with fail
 refine nmW (w.alloc (.cells #[.int .i64 op, .int .i64 0, .string ⟨#[]⟩, .string ⟨m.toArray⟩, .slice q k d] 24)) fun w1 hv => ?_
 rw [← hv]
 have K := bxh hv
 have hb_ := bah hv
 clear hv
 have z1_ := K.out.lt
 replace B := Lib.hid (be_call B.out hb_)
 have z2_ := hb_.size
 clear hb_
 refine K.out.q5 fun pK_0 pK_1 pK_2 pK_3 pK_4 => ?_
 go_wp2_with fail
 clear pK_0 pK_1 pK_2 pK_3 pK_4
 refine (operator_ok op).mono ?_
 rintro e w1 ⟨rfl, rfl⟩
 rw [show opRes op = _ from opName_no hn]
 refine K.out.q5 fun pK_0 pK_1 pK_2 pK_3 pK_4 => ?_
 go_wp2_with fail
 clear pK_0 pK_1 pK_2 pK_3 pK_4
 go_ret
 exact ⟨rfl, B.out⟩
set_option maxRecDepth 100000 in
set_option maxHeartbeats 4000000 in
theorem node_o1 {w : World} {op n : Int} {u m : Bytes} {k d : Nat} {q : Option Addr} {r : Bool} (h1 : n = 0) (h2 : u = []) (g0 : ¬ op = 0) (g1 : ¬ op = 1) (g2 : ¬ op = 2) (g3 : ¬ op = 3) (g4 : ¬ op = 4) (g5 : ¬ op = 5) (g10 : ¬ op = 10) (g11 : ¬ op = 11) (hn : (opName op).isSome = true) (h3 : m.isEmpty = false) (hr : nodeB op n u m k = r) :
  Calls Tryz.prog 72 #[.agg #[.int .i64 op, .int .i64 n, .string ⟨u.toArray⟩, .string ⟨m.toArray⟩, .slice q k d]] w fun e w' => e = .returned (.bool r) ∧ Below w.heap.size w w' := by
 obtain rfl : false = r := by rw [← hr]; unfold nodeB; simp [*]
 clear hr
 have B : Hid (Below w.heap.size w w) := be_refl w
 subst h1
 subst h2
 go_enter Tryz.func72, Tryz.ntmps72
 go_upto_region 1 with fail
 refine nmW (w.alloc (.cells #[.int .i64 op, .int .i64 0, .string ⟨#[]⟩, .string ⟨m.toArray⟩, .slice q k d] 24)) fun w1 hv => ?_
 rw [← hv]
 have K := bxh hv
 have hb_ := bah hv
 clear hv
 have z1_ := K.out.lt
 replace B := Lib.hid (be_call B.out hb_)
 have z2_ := hb_.size
 clear hb_
 refine K.out.q5 fun pK_0 pK_1 pK_2 pK_3 pK_4 => ?_
 go_wp2_with fail
 clear pK_0 pK_1 pK_2 pK_3 pK_4
 refine (operator_ok op).mono ?_
 rintro e w1 ⟨rfl, rfl⟩
 rw [show opRes op = _ from opName_yes hn]
 refine K.out.q5 fun pK_0 pK_1 pK_2 pK_3 pK_4 => ?_
 go_wp2_with fail
 clear pK_0 pK_1 pK_2 pK_3 pK_4
 go_ret
 exact ⟨rfl, B.out⟩
set_option maxRecDepth 100000 in
set_option maxHeartbeats 4000000 in
theorem node_o2 {w : World} {op n : Int} {u m : Bytes} {k d : Nat} {q : Option Addr} {r : Bool} (h1 : n = 0) (h2 : u = []) (g0 : ¬ op = 0) (g1 : ¬ op = 1) (g2 : ¬ op = 2) (g3 : ¬ op = 3) (g4 : ¬ op = 4) (g5 : ¬ op = 5) (g10 : ¬ op = 10) (g11 : ¬ op = 11) (hn : (opName op).isSome = true) (h3 : m.isEmpty = true) (h4 : (k == 2) = false) (hr : nodeB op n u m k = r) :
  Calls Tryz.prog 72 #[.agg #[.int .i64 op, .int .i64 n, .string ⟨u.toArray⟩, .string ⟨m.toArray⟩, .slice q k d]] w fun e w' => e = .returned (.bool r) ∧ Below w.heap.size w w' := by
 have h4i : ((k : Int) == 2) = false := by rw [beq_eq_false_iff_ne] at h4 ⊢; omega
 obtain rfl : false = r := by rw [← hr]; unfold nodeB; simp [*]
 clear hr
 have B : Hid (Below w.heap.size w w) := be_refl w
 subst h1
 subst h2
 go_enter Tryz.func72, Tryz.ntmps72
 go_upto_region 1 with fail
 refine nmW (w.alloc (.cells #[.int .i64 op, .int .i64 0, .string ⟨#[]⟩, .string ⟨m.toArray⟩, .slice q k d] 24)) fun w1 hv => ?_
 rw [← hv]
 have K := bxh hv
 have hb_ := bah hv
 clear hv
 have z1_ := K.out.lt
 replace B := Lib.hid (be_call B.out hb_)
 have z2_ := hb_.size
 clear hb_
 refine K.out.q5 fun pK_0 pK_1 pK_2 pK_3 pK_4 => ?_
 go_wp2_with fail
 clear pK_0 pK_1 pK_2 pK_3 pK_4
 refine (operator_ok op).mono ?_
 rintro e w1 ⟨rfl, rfl⟩
 rw [show opRes op = _ from opName_yes hn]
 refine K.out.q5 fun pK_0 pK_1 pK_2 pK_3 pK_4 => ?_
 go_wp2_with fail
 clear pK_0 pK_1 pK_2 pK_3 pK_4
 go_ret
 exact ⟨rfl, B.out⟩
set_option maxRecDepth 100000 in
set_option maxHeartbeats 4000000 in
theorem node_o3 {w : World} {op n : Int} {u m : Bytes} {k d : Nat} {q : Option Addr} {r : Bool} (h1 : n = 0) (h2 : u = []) (g0 : ¬ op = 0) (g1 : ¬ op = 1) (g2 : ¬ op = 2) (g3 : ¬ op = 3) (g4 : ¬ op = 4) (g5 : ¬ op = 5) (g10 : ¬ op = 10) (g11 : ¬ op = 11) (hn : (opName op).isSome = true) (h3 : m.isEmpty = true) (h4 : (k == 2) = true) (hr : nodeB op n u m k = r) :
  Calls Tryz.prog 72 #[.agg #[.int .i64 op, .int .i64 n, .string ⟨u.toArray⟩, .string ⟨m.toArray⟩, .slice q k d]] w fun e w' => e = .returned (.bool r) ∧ Below w.heap.size w w' := by
 have h4i : ((k : Int) == 2) = true := by rw [beq_iff_eq] at h4 ⊢; omega
 obtain rfl : true = r := by rw [← hr]; unfold nodeB; simp [*]
 clear hr
 have B : Hid (Below w.heap.size w w) := be_refl w
 subst h1
 subst h2
 go_enter Tryz.func72, Tryz.ntmps72
 go_upto_region 1 with fail
 refine nmW (w.alloc (.cells #[.int .i64 op, .int .i64 0, .string ⟨#[]⟩, .string ⟨m.toArray⟩, .slice q k d] 24)) fun w1 hv => ?_
 rw [← hv]
 have K := bxh hv
 have hb_ := bah hv
 clear hv
 have z1_ := K.out.lt
 replace B := Lib.hid (be_call B.out hb_)
 have z2_ := hb_.size
 clear hb_
 refine K.out.q5 fun pK_0 pK_1 pK_2 pK_3 pK_4 => ?_
 go_wp2_with fail
 clear pK_0 pK_1 pK_2 pK_3 pK_4
 refine (operator_ok op).mono ?_
 rintro e w1 ⟨rfl, rfl⟩
 rw [show opRes op = _ from opName_yes hn]
 refine K.out.q5 fun pK_0 pK_1 pK_2 pK_3 pK_4 => ?_
 go_wp2_with fail
 clear pK_0 pK_1 pK_2 pK_3 pK_4
 go_ret
 exact ⟨rfl, B.out⟩
theorem node_ok {w : World} {op n : Int} {u m : Bytes} {k d : Nat} {q : Option Addr} (hu : u.length ≤ 9223372036854775807) (hm : m.length ≤ 9223372036854775807) :
    Calls Tryz.prog 72 #[.agg #[.int .i64 op, .int .i64 n, .string ⟨u.toArray⟩, .string ⟨m.toArray⟩, .slice q k d]] w fun e w' => e = .returned (.bool (nodeB op n u m k)) ∧ Below w.heap.size w w' := by
  by_cases h0 : op = 0
  · cases hq : quoteOk u with
    | false => exact node_q0 hu h0 hq rfl
    | true =>
      by_cases h1 : 0 ≤ n
      · by_cases h2 : n ≤ 1099511627776
        · cases h3 : m.isEmpty with
          | false => exact node_q3 hu h0 hq h1 h2 h3 rfl
          | true => cases h4 : k == 0 with
            | false => exact node_q4 hu h0 hq h1 h2 h3 h4 rfl
            | true => exact node_q5 hu h0 hq h1 h2 h3 h4 rfl
        · exact node_q2 hu h0 hq h1 h2 rfl
      · exact node_q1 hu h0 hq h1 rfl
  by_cases h1 : n = 0
  case neg => exact node_n h0 h1 rfl
  by_cases h2 : u = []
  case neg => exact node_u h0 h1 h2 rfl
  by_cases g1 : op = 1
  · cases hn : namedB m with
    | false => exact node_m10 h1 h2 g1 hn hm rfl
    | true => cases h4 : k == 0 with
      | false => exact node_m11 h1 h2 g1 hn h4 hm rfl
      | true => exact node_m12 h1 h2 g1 hn h4 hm rfl
  by_cases g2 : op = 2
  · cases hn : namedB m with
    | false => exact node_m20 h1 h2 g2 hn hm rfl
    | true => cases h4 : k == 1 with
      | false => exact node_m21 h1 h2 g2 hn h4 hm rfl
      | true => exact node_m22 h1 h2 g2 hn h4 hm rfl
  by_cases g3 : op = 3
  · cases hn : namedB m with
    | false => exact node_m30 h1 h2 g3 hn hm rfl
    | true =>
      by_cases h4 : 1 ≤ k
      · by_cases h5 : k ≤ 6
        · exact node_m33 h1 h2 g3 hn h4 h5 hm rfl
        · exact node_m32 h1 h2 g3 hn h4 h5 hm rfl
      · exact node_m31 h1 h2 g3 hn h4 hm rfl
  by_cases g4 : op = 4
  · cases h3 : m.isEmpty with
    | false => exact node_e40 h1 h2 g4 h3 rfl
    | true => cases h4 : k == 1 with
      | false => exact node_e41 h1 h2 g4 h3 h4 rfl
      | true => exact node_e42 h1 h2 g4 h3 h4 rfl
  by_cases g5 : op = 5
  · cases h3 : m.isEmpty with
    | false => exact node_e50 h1 h2 g5 h3 rfl
    | true => cases h4 : k == 3 with
      | false => exact node_e51 h1 h2 g5 h3 h4 rfl
      | true => exact node_e52 h1 h2 g5 h3 h4 rfl
  by_cases g10 : op = 10
  · cases h3 : m.isEmpty with
    | false => exact node_e100 h1 h2 g10 h3 rfl
    | true => cases h4 : k == 2 with
      | false => exact node_e101 h1 h2 g10 h3 h4 rfl
      | true => exact node_e102 h1 h2 g10 h3 h4 rfl
  by_cases g11 : op = 11
  · cases h3 : m.isEmpty with
    | false => exact node_e110 h1 h2 g11 h3 rfl
    | true => cases h4 : k == 2 with
      | false => exact node_e111 h1 h2 g11 h3 h4 rfl
      | true => exact node_e112 h1 h2 g11 h3 h4 rfl
  cases hn : (opName op).isSome with
  | false =>
    have hn' : opName op = none := by cases hq : opName op with | none => rfl | some x => rw [hq] at hn; cases hn
    exact node_o0 h1 h2 h0 g1 g2 g3 g4 g5 g10 g11 hn' rfl
  | true => cases h3 : m.isEmpty with
    | false => exact node_o1 h1 h2 h0 g1 g2 g3 g4 g5 g10 g11 hn h3 rfl
    | true => cases h4 : k == 2 with
      | false => exact node_o2 h1 h2 h0 g1 g2 g3 g4 g5 g10 g11 hn h3 h4 rfl
      | true => exact node_o3 h1 h2 h0 g1 g2 g3 g4 g5 g10 g11 hn h3 h4 rfl
end Go.Proofs.YtckgmilmhofekaaGreatDoor
namespace Go.Proofs.YtckgmilmhofekaaGreatDoor
open Go.RowKit

theorem Fo.ind {P : Fo → Prop} (h : ∀ a : Fo, (∀ x ∈ a.list, P x.args) → P a) (a : Fo) : P a :=
  (show P a ∧ ∀ x ∈ a.list, P x.args from by
    induction a with
    | nil => exact ⟨h .nil (fun x hx => by cases hx), fun x hx => by cases hx⟩
    | cons op n u m a r iha ihr =>
      have h2 : ∀ x ∈ (Fo.cons op n u m a r).list, P x.args := fun x hx => by
        rcases List.mem_cons.1 hx with rfl | hx
        · exact iha.1
        · exact ihr.2 x hx
      exact ⟨h _ h2, h2⟩).1
theorem cntF_cons (x : Ex) (r : Fo) (k lv : Nat) : cntF (x.then r) k lv = if 200 < k + 1 ∨ 20 < lv then none else match cntF x.args (k + 1) (lv + 1) with | none => none | some k' => cntF r k' lv := rfl
theorem cntF_nil (k lv : Nat) : cntF .nil k lv = some k := rfl
theorem cntF_then (x : Ex) (r : Fo) (k lv : Nat) : cntF (x.then r) k lv = match cntF (x.then .nil) k lv with | none => none | some k' => cntF r k' lv := by
  rw [cntF_cons, cntF_cons]
  by_cases h : 200 < k + 1 ∨ 20 < lv
  · rw [if_pos h, if_pos h]
  · rw [if_neg h, if_neg h]
    cases cntF x.args (k + 1) (lv + 1) <;> rfl
theorem drop_list {a : Fo} {j : Nat} {x : Ex} (h : a.list[j]? = some x) : Fo.of (a.list.drop j) = x.then (Fo.of (a.list.drop (j + 1))) := by
 have hj := (List.getElem?_eq_some_iff.1 h)
 rw [List.drop_eq_getElem_cons hj.1, hj.2]; rfl
theorem cntF_one (x : Ex) (k lv : Nat) (h1 : k + 1 ≤ 200) (h2 : lv ≤ 20) : cntF (x.then .nil) k lv = cntF x.args (k + 1) (lv + 1) := by
 rw [cntF_cons, if_neg (by omega)]
 cases cntF x.args (k + 1) (lv + 1) <;> rfl
theorem cntF_big (x : Ex) (k lv : Nat) (h : 200 < k + 1 ∨ 20 < lv) : cntF (x.then .nil) k lv = none := by
 rw [cntF_cons, if_pos h]
def goOn (R : Option Nat) (f : Fo) (lv : Nat) : Option Nat := match R with | none => none | some k' => cntF f k' lv
def CnPost (g : Nat) (w : World) (R : Option Nat) (e : Ending) (w' : World) : Prop :=
 ∃ k' : Nat, e = .returned (.bool R.isSome) ∧ Bx w' g 3 #[.int .i64 k'] ∧ w.grownBy w' (some g) ∧ ∀ m, R = some m → k' = m ∧ m ≤ 200
/-- How 'count' counts expressions with these arguments. -/
def CnOK (a : Fo) : Prop := ∀ (D : Nat → Prop) (w : World) (op n : Int) (u m : Bytes) (q : Option Addr) (d g k lv : Nat), smF a → a.len ≤ 9223372036854775807 → FoS D w q d a → ¬ D g → Bx w g 3 #[.int .i64 k] → k ≤ 200 → lv ≤ 21 →
 Calls Tryz.prog 36 #[.agg (hdC ⟨op, n, u, m, a⟩ q d).toArray, .pointer (some ⟨g, 0, none⟩), .int .i64 lv] w (CnPost g w (cntF ((Ex.mk op n u m a).then .nil) k lv))
set_option maxRecDepth 100000 in
set_option maxHeartbeats 4000000 in
theorem count_big {w : World} {op n : Int} {u m : Bytes} {a : Fo} {q : Option Addr} {d g k lv : Nat} (hN : Bx w g 3 #[.int .i64 k]) (hk : k ≤ 200) (hl : lv ≤ 21) (hb : 200 < k + 1 ∨ 20 < lv) :
    Calls Tryz.prog 36 #[.agg (hdC ⟨op, n, u, m, a⟩ q d).toArray, .pointer (some ⟨g, 0, none⟩), .int .i64 lv] w (CnPost g w none) := by
  have N := Lib.hid hN; have HB := Lib.hid hb
  have hg := hN.lt
  have G : Hid (w.grownBy w (some g)) := gr_refl g w
  clear hN hb
  unfold hdC
  go_enter Tryz.func36, Tryz.ntmps36
  go_upto_region 1 with fail
  refine nmW (w.alloc (.cells #[.int .i64 op, .int .i64 n, .string ⟨u.toArray⟩, .string ⟨m.toArray⟩, .slice q a.len d] 24)) fun w1 hv => ?_
  rw [← hv]
  have hb_ := bah hv
  clear hv
  replace N := Lib.hid (N.out.keep hb_)
  replace G := Lib.hid (gr_call G.out hb_)
  clear hb_
  have p0 := N.out.at.1 0; have f0 := N.out.at.2 0
  go_upto_region 2 with fail
  clear p0 f0
  refine nmW (w1.setCell ⟨g, 0, none⟩ (.int .i64 ((k : Int) + 1))) fun w2 hv => ?_
  rw [← hv]
  have kb : Bx w2 g 3 #[.int .i64 ((k + 1 : Nat) : Int)] := by rw [hv]; exact N.out.set 0 _
  have gb : w1.grownBy w2 (some g) := by rw [hv]; exact gr_set _ _ _ _
  clear hv
  replace N := Lib.hid kb
  replace G := Lib.hid (gr_trans G.out gb)
  clear kb gb
  have p0 := N.out.at.1 0
  by_cases h : 200 < k + 1
  · have h1 : (200 : Int) < ((k + 1 : Nat) : Int) := by omega
    go_wp2_with fail
    go_ret
    exact ⟨k + 1, rfl, N.out, G.out, fun m hm => by cases hm⟩
  · have h1 : ¬ (200 : Int) < ((k + 1 : Nat) : Int) := by omega
    have h2 : (20 : Int) < (lv : Int) := by have := HB.out; omega
    go_wp2_with fail
    go_ret
    exact ⟨k + 1, rfl, N.out, G.out, fun m hm => by cases hm⟩
set_option maxRecDepth 100000 in
set_option maxHeartbeats 4000000 in
theorem count_step {a : Fo} (hi : ∀ x ∈ a.list, CnOK x.args) (hsm : smF a) (hal : a.len ≤ 9223372036854775807) {D : Nat → Prop} {w : World} {op n : Int} {u m : Bytes} {q : Option Addr} {d g k lv : Nat} (hS : FoS D w q d a) (hD : ¬ D g) (hN : Bx w g 3 #[.int .i64 k]) (hk : k + 1 ≤ 200) (hl : lv ≤ 20) :
    Calls Tryz.prog 36 #[.agg (hdC ⟨op, n, u, m, a⟩ q d).toArray, .pointer (some ⟨g, 0, none⟩), .int .i64 lv] w (CnPost g w (cntF a (k + 1) (lv + 1))) := by
  have N := Lib.hid hN; have S := Lib.hid hS; have HI := Lib.hid hi; have HD := Lib.hid hD
  have hg := hN.lt
  have G : Hid (w.grownBy w (some g)) := gr_refl g w
  have SM := Lib.hid hsm
  clear hN hS hi hD hsm
  unfold hdC
  go_enter Tryz.func36, Tryz.ntmps36
  go_upto_region 1 with fail
  refine nmW (w.alloc (.cells #[.int .i64 op, .int .i64 n, .string ⟨u.toArray⟩, .string ⟨m.toArray⟩, .slice q a.len d] 24)) fun w1 hv => ?_
  rw [← hv]
  have K := bxh hv
  have hb_ := bah hv
  clear hv
  replace N := Lib.hid (N.out.keep hb_)
  replace S := Lib.hid (S.out.keep hb_)
  replace G := Lib.hid (gr_call G.out hb_)
  clear hb_
  have p0 := N.out.at.1 0; have f0 := N.out.at.2 0
  go_upto_region 2 with fail
  clear p0 f0
  refine nmW (w1.setCell ⟨g, 0, none⟩ (.int .i64 ((k : Int) + 1))) fun w2 hv => ?_
  rw [← hv]
  have kb : Bx w2 g 3 #[.int .i64 ((k + 1 : Nat) : Int)] := by rw [hv]; exact N.out.set 0 _
  have gb : w1.grownBy w2 (some g) := by rw [hv]; exact gr_set _ _ _ _
  clear hv
  replace N := Lib.hid kb
  replace G := Lib.hid (gr_trans G.out gb)
  replace S := Lib.hid (S.out.grown gb HD.out)
  replace K := Lib.hid (K.out.only gb (by omega))
  clear kb gb
  have p0 := N.out.at.1 0
  have p4 := K.out.at.1 4
  have h1 : ¬ (200 : Int) < ((k + 1 : Nat) : Int) := by omega
  have h2 : ¬ (20 : Int) < (lv : Int) := by omega
  have hz := G.out.size
  go_wp2_with fail
  clear p0 p4 h1 h2
  have hR0 : Hid (cntF a (k + 1) (lv + 1) = cntF (Fo.of (a.list.drop 0)) (k + 1) (lv + 1)) := by show _ = _; rw [List.drop_zero, Fo.of_list]
  go_loopw [25] (fun i wr => ∃ (j k' : Nat), i = .int .i64 (j : Int) ∧ j ≤ a.len ∧ k' ≤ 200 ∧ Hid (cntF a (k + 1) (lv + 1) = cntF (Fo.of (a.list.drop j)) k' (lv + 1)) ∧ Hid (Bx wr g 3 #[.int .i64 k']) ∧ Hid (FoS D wr q d a) ∧ Hid (w.grownBy wr (some g))) (fun i _ => a.len - (intOf i).toNat)
  case atStart => exact ⟨0, k + 1, rfl, Nat.zero_le _, hk, hR0, N, S, G⟩
  case round =>
    obtain ⟨j, k', rfl, hj, hk', HR, N, S, G⟩ := hrel
    clear hR0 K
    have hz := G.out.size
    by_cases hlt : j < a.len
    · obtain ⟨x, hx⟩ : ∃ x, a.list[j]? = some x := ⟨_, List.getElem?_eq_getElem (by rw [Fo.len_list]; exact hlt)⟩
      obtain ⟨b, o, q2, d2, rfl, hb, hcell, hs⟩ := S.out.at hx
      have HX := Lib.hid hx; have HS2 := Lib.hid hs; clear hx hs
      have c0 : wr.cell? ⟨b, o + j * 5, none⟩ = some (.int .i64 x.op) := by have := hcell 0 _ rfl; rw [Nat.mul_comm] at this; exact this
      have c1 : wr.cell? ⟨b, o + j * 5 + 1, none⟩ = some (.int .i64 x.n) := by have := hcell 1 _ rfl; rw [Nat.mul_comm] at this; exact this
      have c2 : wr.cell? ⟨b, o + j * 5 + 2, none⟩ = some (.string ⟨x.unit.toArray⟩) := by have := hcell 2 _ rfl; rw [Nat.mul_comm] at this; exact this
      have c3 : wr.cell? ⟨b, o + j * 5 + 3, none⟩ = some (.string ⟨x.name.toArray⟩) := by have := hcell 3 _ rfl; rw [Nat.mul_comm] at this; exact this
      have c4 : wr.cell? ⟨b, o + j * 5 + 4, none⟩ = some (.slice q2 x.args.len d2) := by have := hcell 4 _ rfl; rw [Nat.mul_comm] at this; exact this
      clear hcell
      have hjl : (j : Int) < (a.len : Int) := by omega
      have HLT := Lib.hid hlt
      go_upto_region 7 with fail
      clear c0 c1 c2 c3 c4
      refine nmW (wr.alloc (.cells #[.int .i64 x.op, .int .i64 x.n, .string ⟨x.unit.toArray⟩, .string ⟨x.name.toArray⟩, .slice q2 x.args.len d2] 24)) fun w3 hv => ?_
      rw [← hv]
      have K := bxh hv
      have hb_ := bah hv
      clear hv
      replace N := Lib.hid (N.out.keep hb_)
      replace S := Lib.hid (S.out.keep hb_)
      replace HS2 := Lib.hid (HS2.out.keep hb_)
      replace G := Lib.hid (gr_call G.out hb_)
      clear hb_
      have c0 := K.out.at.1 0; have c1 := K.out.at.1 1; have c2 := K.out.at.1 2; have c3 := K.out.at.1 3; have c4 := K.out.at.1 4
      have hsx := SM.out.mem (List.mem_of_getElem? HX.out)
      have HC := Lib.hid (HI.out x (List.mem_of_getElem? HX.out) D w3 x.op x.n x.unit x.name q2 d2 g k' (lv + 1) hsx.2.2.2 hsx.2.2.1 HS2.out HD.out N.out hk' (by omega))
      obtain ⟨R, hR⟩ : ∃ R, cntF (x.then .nil) k' (lv + 1) = R := ⟨_, rfl⟩
      have HRR := Lib.hid hR; clear hR
      clear hsx
      unfold hdC at HC
      go_wp2_with fail
      clear c0 c1 c2 c3 c4
      refine HC.out.mono ?_
      rintro e w4 ⟨k2, he, n2, g2, hm⟩
      rw [show cntF ((Ex.mk x.op x.n x.unit x.name x.args).then .nil) k' (lv + 1) = R from HRR.out] at he hm
      subst he
      have HM := Lib.hid hm
      replace N := Lib.hid n2
      replace S := Lib.hid (S.out.grown g2 HD.out)
      replace G := Lib.hid (gr_trans G.out g2)
      have hz2 := g2.size
      clear n2 g2 hm K HS2 HC
      have HRN : Hid (cntF a (k + 1) (lv + 1) = goOn R (Fo.of (a.list.drop (j + 1))) (lv + 1)) := by
        show _ = _; rw [HR.out, drop_list HX.out, cntF_then, HRR.out]; rfl
      cases R with
      | none =>
        have HRM : Hid (cntF a (k + 1) (lv + 1) = none) := HRN
        simp only [Option.isSome_none]
        go_wp2_with fail
        go_ret
        exact ⟨k2, by rw [HRM.out]; rfl, N.out, G.out, fun m hm => by rw [HRM.out] at hm; cases hm⟩
      | some k3 =>
        obtain ⟨rfl, hk3⟩ := HM.out k3 rfl
        simp only [Option.isSome_some]
        go_wp2_with fail
        go_roundw
        case rel => exact ⟨j + 1, k2, by go_num, HLT.out, hk3, HRN, N, S, G⟩
        case measure => have := HLT.out; simp [intOf]; omega
    · have hje : j = a.len := by omega
      have hjl : ¬ (j : Int) < (a.len : Int) := by omega
      have hn : cntF a (k + 1) (lv + 1) = some k' := by rw [HR.out, hje, ← Fo.len_list, List.drop_length]; rfl
      have HN2 := Lib.hid hn
      clear hn
      go_wp2_with fail
      go_ret
      exact ⟨k', by rw [HN2.out]; rfl, N.out, G.out, fun m hm => by rw [HN2.out] at hm; cases hm; exact ⟨rfl, hk'⟩⟩
theorem count_all (a : Fo) : CnOK a := Fo.ind (fun _ hi _ _ _ _ _ _ _ _ _ k lv hsm hal hS hD hN hk hl => by
  by_cases h : 200 < k + 1 ∨ 20 < lv
  · rw [cntF_big _ _ _ h]; exact count_big hN hk hl h
  · rw [cntF_one _ _ _ (by omega) (by omega)]; exact count_step hi hsm hal hS hD hN (by omega) (by omega)) a
end Go.Proofs.YtckgmilmhofekaaGreatDoor
