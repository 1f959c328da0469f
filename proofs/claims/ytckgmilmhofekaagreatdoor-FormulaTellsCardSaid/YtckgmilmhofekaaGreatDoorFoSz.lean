/- Walks: the reference's size of an expression. -/
import Derived.Test.YtckgmilmhofekaaGreatDoorLexLaws
import Derived.Test.YtckgmilmhofekaaGreatDoorFoBack
import Derived.Test.YtckgmilmhofekaaGreatDoorBase
import Derived.Test.YtckgmilmhofekaaGreatDoorLexBytes
import Derived.Test.YtckgmilmhofekaaGreatDoorLexPrint
import Derived.Test.YtckgmilmhofekaaGreatDoorBigSpec
import Derived.Test.YtckgmilmhofekaaGreatDoorBigD
import Derived.Test.YtckgmilmhofekaaGreatDoorBigQ
import Derived.Test.YtckgmilmhofekaaGreatDoorFd
import Derived.Test.YtckgmilmhofekaaGreatDoorHeld
import Derived.Test.YtckgmilmhofekaaGreatDoorFoWd
import Derived.Test.YtckgmilmhofekaaGreatDoorFoOx
import Derived.Test.YtckgmilmhofekaaGreatDoorFoCn
import Derived.Test.YtckgmilmhofekaaGreatDoorFoWl
import Derived.Test.YtckgmilmhofekaaGreatDoorProg
import Derived.Test.YtckgmilmhofekaaGreatDoorShelf
import Derived.WalkKit
import Derived.Lib.ItoaNum
import Derived.WalkSpells
import Derived.WalkLawsBesides
import Derived.Handy
import Derived.Lib.Hide
import Derived.Lib.Strings
import Derived.Lib.Builder
import Derived.Shelf.Strings.Builder1
import Derived.BigQuiet
import Derived.OwnWalk
import Derived.Laws.BitsLemmas
import Derived.WalkSmall
import Derived.Deep.QuietTactic
import Derived.StillTailTactics
import Derived.Maps.AppendAt
import Derived.IntWalk
import Derived.Deep.RegionHeld3
import Derived.Deep.DeepFit
import Derived.Deep.LoopGhost
import Derived.Deep.DeepCutAuto
import Derived.Lib.Repeat
import Derived.Lib.AppendIntMem
import Derived.Sort.OwnSorted
import Derived.Shelf.Strings.SlTrimAscii
import Derived.Lib.ConvBytes
import Derived.Lib.CutLaws
import Derived.ArgAppend
namespace Go.Proofs.YtckgmilmhofekaaGreatDoor
open Go.RowKit

theorem FoS.cells {D : Nat → Prop} {w : World} {b o c k : Nat} {a : Fo} {x : Ex} (h : FoS D w (some ⟨b, o, none⟩) c a) (hk : a.list[k]? = some x) : ∃ q d, b < w.heap.size ∧ (∀ (j : Nat) (v : Value), (hdC x q d)[j]? = some v → w.cell? ⟨b, o + 5 * k + j, none⟩ = some v) ∧ FoS D w q d x.args := by
 obtain ⟨b', o', q, d, e, hb, hc, hs⟩ := h.at hk
 cases e
 exact ⟨q, d, hb, hc, hs⟩
theorem exT_look (n : Int) (u m : Bytes) (a : Fo) : toksX ⟨2, n, u, m, a⟩ = [tkN wLook, tkS [40]] ++ ([tkN m] ++ ([tkS [44]] ++ listT (tokF a))) := rfl
theorem exT_call (n : Int) (u m : Bytes) (a : Fo) : toksX ⟨3, n, u, m, a⟩ = [tkN m, tkS [40]] ++ listT (tokF a) := rfl
theorem exT_min (n : Int) (u m : Bytes) (a : Fo) : toksX ⟨10, n, u, m, a⟩ = [tkN wMin, tkS [40]] ++ listT (tokF a) := rfl
theorem exT_max (n : Int) (u m : Bytes) (a : Fo) : toksX ⟨11, n, u, m, a⟩ = [tkN wMax, tkS [40]] ++ listT (tokF a) := rfl
theorem exT_name (n : Int) (u m : Bytes) (a : Fo) : toksX ⟨1, n, u, m, a⟩ = [tkN m] := rfl
theorem zip_at {a : Fo} {k : Nat} {x : Ex} (h : a.list[k]? = some x) : (List.zipWith wrapT (opsF a) (tokF a)).getD k [] = wrapT x.op (toksX x) := by
 rw [opsF_list, tokF_list, List.getD_eq_getElem?_getD, List.getElem?_zipWith, List.getElem?_map, List.getElem?_map, h]; rfl
theorem exT_not (n : Int) (u m : Bytes) {a : Fo} {x : Ex} (h : a.list[0]? = some x) : toksX ⟨4, n, u, m, a⟩ = [tkN wNot] ++ wrapT x.op (toksX x) := by
 show tkN wNot :: (List.zipWith wrapT (opsF a) (tokF a)).getD 0 [] = _; rw [zip_at h]; rfl
theorem exT_if (n : Int) (u m : Bytes) {a : Fo} {x y z : Ex} (h0 : a.list[0]? = some x) (h1 : a.list[1]? = some y) (h2 : a.list[2]? = some z) : toksX ⟨5, n, u, m, a⟩ = [tkN wIf] ++ (wrapT x.op (toksX x) ++ ([tkN wThen] ++ (wrapT y.op (toksX y) ++ ([tkN wElse] ++ wrapT z.op (toksX z))))) := by
 show tkN wIf :: ((List.zipWith wrapT (opsF a) (tokF a)).getD 0 [] ++ tkN wThen :: ((List.zipWith wrapT (opsF a) (tokF a)).getD 1 [] ++ tkN wElse :: (List.zipWith wrapT (opsF a) (tokF a)).getD 2 [])) = _
 rw [zip_at h0, zip_at h1, zip_at h2]; rfl
theorem exT_op {op : Int} (n : Int) (u m : Bytes) {a : Fo} {x y : Ex} (ho : (opName op).isSome = true) (h0 : a.list[0]? = some x) (h1 : a.list[1]? = some y) : toksX ⟨op, n, u, m, a⟩ = wrapT x.op (toksX x) ++ ([tkO op] ++ wrapT y.op (toksX y)) := by
 have hc := opName_cases ho
 have : toksX ⟨op, n, u, m, a⟩ = (List.zipWith wrapT (opsF a) (tokF a)).getD 0 [] ++ tkO op :: (List.zipWith wrapT (opsF a) (tokF a)).getD 1 [] := by
  rcases hc with rfl | rfl | rfl | rfl | rfl | rfl | rfl | rfl <;> rfl
 rw [this, zip_at h0, zip_at h1]; rfl
set_option maxRecDepth 100000 in
set_option maxHeartbeats 4000000 in
theorem wexpr_1 {a : Fo} (hi : ∀ x ∈ a.list, WxOK x.args) (_hal : a.len ≤ 9223372036854775807) {w : World} {op n : Int} {u m : Bytes} {q : Option Addr} {d g : Nat} {v : Value} {ts : List Tok} (hs : shF a = true) (hS : FoS (fun b => b < g) w q d a) (hW : Wr w g v ts) (hT : PowT g w) (h0 : op = 1) (hn : ts.length + (toksX ⟨op, n, u, m, a⟩).length ≤ 1000000000) :
  Calls Tryz.prog 27 #[.pointer (some ⟨g, 0, none⟩), .agg (hdC ⟨op, n, u, m, a⟩ q d).toArray] w (WP g v w ts (toksX ⟨op, n, u, m, a⟩)) := by
 have H := Lib.hid hW; have F := Lib.hid hS; have T := Lib.hid hT
 have hgw := hW.bx.lt
 have G := Lib.hid hW.wg
 obtain rfl : op = 1 := h0
 rw [exT_name] at hn ⊢
 have HN := Lib.hid hn; have HX := Lib.hid hi; have HS := Lib.hid hs; clear hi hs hW hS hT hn
 unfold hdC
 go_enter Tryz.func27, Tryz.ntmps27
 go_upto_region 1 with fail
 refine nmW (w.alloc (.cells #[.int .i64 1, .int .i64 n, .string ⟨u.toArray⟩, .string ⟨m.toArray⟩, .slice q a.len d] 24)) fun w1 hv => ?_
 rw [← hv]
 have K : Hid (BxW w1 g _ w.heap.size 24 #[.int .i64 1, .int .i64 n, .string ⟨u.toArray⟩, .string ⟨m.toArray⟩, .slice q a.len d]) := bxW_new H.out hv
 have hb_ := bah hv
 clear hv
 replace H := Lib.hid (H.out.keep hb_)
 replace G := Lib.hid (G.out.call hb_)
 replace F := Lib.hid (F.out.keep hb_)
 replace T := Lib.hid (T.out.keepG (hb_.mono (Nat.le_of_lt hgw)))
 replace hgw := Nat.lt_of_lt_of_le hgw hb_.size
 have z1_ := hb_.size
 clear hb_
 refine K.out.bx.q5 fun pK_0 pK_1 pK_2 pK_3 pK_4 => ?_
 go_wp2_with fail
 clear pK_0 pK_1 pK_2 pK_3 pK_4
 refine (wname_ok H.out (by have := HN.out; simp at this ⊢; omega) ⟨m.toArray⟩).mono ?_
 rintro e w2 ⟨rfl, v1, h2_, g2_⟩
 replace H := Lib.hid h2_
 replace G := Lib.hid (G.out.trans g2_)
 replace F := Lib.hid (F.out.wg g2_)
 replace T := Lib.hid (T.out.keepG (g2_.below (Nat.le_refl _) (Nat.le_of_lt hgw)))
 replace K := Lib.hid (K.out.wg g2_)
 replace hgw := Nat.lt_of_lt_of_le hgw g2_.size
 clear h2_ g2_
 go_wp2_with fail
 refine bodyPost_end (results_none rfl _ _ _) rfl ?_
 exact ⟨rfl, _, by have := H.out; rw [show (ByteArray.mk m.toArray).toList = m by rw [Lib.toList_data]] at this; exact this, G.out⟩
set_option maxRecDepth 100000 in
set_option maxHeartbeats 4000000 in
theorem wexpr_2 {a : Fo} (hi : ∀ x ∈ a.list, WxOK x.args) (hal : a.len ≤ 9223372036854775807) {w : World} {op n : Int} {u m : Bytes} {q : Option Addr} {d g : Nat} {v : Value} {ts : List Tok} (hs : shF a = true) (hS : FoS (fun b => b < g) w q d a) (hW : Wr w g v ts) (hT : PowT g w) (h0 : op = 2) (hn : ts.length + (toksX ⟨op, n, u, m, a⟩).length ≤ 1000000000) :
  Calls Tryz.prog 27 #[.pointer (some ⟨g, 0, none⟩), .agg (hdC ⟨op, n, u, m, a⟩ q d).toArray] w (WP g v w ts (toksX ⟨op, n, u, m, a⟩)) := by
 have H := Lib.hid hW; have F := Lib.hid hS; have T := Lib.hid hT
 have hgw := hW.bx.lt
 have G := Lib.hid hW.wg
 obtain rfl : op = 2 := h0
 rw [exT_look] at hn ⊢
 have HN := Lib.hid hn; have HX := Lib.hid hi; have HS := Lib.hid hs; clear hi hs hW hS hT hn
 unfold hdC
 go_enter Tryz.func27, Tryz.ntmps27
 go_upto_region 1 with fail
 refine nmW (w.alloc (.cells #[.int .i64 2, .int .i64 n, .string ⟨u.toArray⟩, .string ⟨m.toArray⟩, .slice q a.len d] 24)) fun w1 hv => ?_
 rw [← hv]
 have K : Hid (BxW w1 g _ w.heap.size 24 #[.int .i64 2, .int .i64 n, .string ⟨u.toArray⟩, .string ⟨m.toArray⟩, .slice q a.len d]) := bxW_new H.out hv
 have hb_ := bah hv
 clear hv
 replace H := Lib.hid (H.out.keep hb_)
 replace G := Lib.hid (G.out.call hb_)
 replace F := Lib.hid (F.out.keep hb_)
 replace T := Lib.hid (T.out.keepG (hb_.mono (Nat.le_of_lt hgw)))
 replace hgw := Nat.lt_of_lt_of_le hgw hb_.size
 have z1_ := hb_.size
 clear hb_
 refine K.out.bx.q5 fun pK_0 pK_1 pK_2 pK_3 pK_4 => ?_
 go_wp2_with fail
 clear pK_0 pK_1 pK_2 pK_3 pK_4
 refine (whead_ok H.out (by have := HN.out; simp at this ⊢; omega) ⟨#[108, 111, 111, 107]⟩).mono ?_
 rintro e w2 ⟨rfl, v1, h2_, g2_⟩
 replace H := Lib.hid h2_
 replace G := Lib.hid (G.out.trans g2_)
 replace F := Lib.hid (F.out.wg g2_)
 replace T := Lib.hid (T.out.keepG (g2_.below (Nat.le_refl _) (Nat.le_of_lt hgw)))
 replace K := Lib.hid (K.out.wg g2_)
 replace hgw := Nat.lt_of_lt_of_le hgw g2_.size
 clear h2_ g2_
 refine K.out.bx.q5 fun pK_0 pK_1 pK_2 pK_3 pK_4 => ?_
 go_wp2_with fail
 clear pK_0 pK_1 pK_2 pK_3 pK_4
 refine (wname_ok H.out (by have := HN.out; simp at this ⊢; omega) ⟨m.toArray⟩).mono ?_
 rintro e w3 ⟨rfl, v2, h2_, g2_⟩
 replace H := Lib.hid h2_
 replace G := Lib.hid (G.out.trans g2_)
 replace F := Lib.hid (F.out.wg g2_)
 replace T := Lib.hid (T.out.keepG (g2_.below (Nat.le_refl _) (Nat.le_of_lt hgw)))
 replace K := Lib.hid (K.out.wg g2_)
 replace hgw := Nat.lt_of_lt_of_le hgw g2_.size
 clear h2_ g2_
 refine K.out.bx.q5 fun pK_0 pK_1 pK_2 pK_3 pK_4 => ?_
 go_wp2_with fail
 clear pK_0 pK_1 pK_2 pK_3 pK_4
 refine (wsign_ok H.out (by have := HN.out; simp at this ⊢; omega) ⟨#[44]⟩).mono ?_
 rintro e w4 ⟨rfl, v3, h2_, g2_⟩
 replace H := Lib.hid h2_
 replace G := Lib.hid (G.out.trans g2_)
 replace F := Lib.hid (F.out.wg g2_)
 replace T := Lib.hid (T.out.keepG (g2_.below (Nat.le_refl _) (Nat.le_of_lt hgw)))
 replace K := Lib.hid (K.out.wg g2_)
 replace hgw := Nat.lt_of_lt_of_le hgw g2_.size
 clear h2_ g2_
 refine K.out.bx.q5 fun pK_0 pK_1 pK_2 pK_3 pK_4 => ?_
 go_wp2_with fail
 clear pK_0 pK_1 pK_2 pK_3 pK_4
 refine (wlist_ok HX.out hal HS.out F.out H.out T.out (by have := HN.out; simp at this ⊢; omega)).mono ?_
 rintro e w5 ⟨rfl, v4, h2_, g2_⟩
 replace H := Lib.hid h2_
 replace G := Lib.hid (G.out.trans g2_)
 replace F := Lib.hid (F.out.wg g2_)
 replace T := Lib.hid (T.out.keepG (g2_.below (Nat.le_refl _) (Nat.le_of_lt hgw)))
 replace K := Lib.hid (K.out.wg g2_)
 replace hgw := Nat.lt_of_lt_of_le hgw g2_.size
 clear h2_ g2_
 go_wp2_with fail
 refine bodyPost_end (results_none rfl _ _ _) rfl ?_
 exact ⟨rfl, _, by have := H.out; rw [show (ByteArray.mk #[108, 111, 111, 107]).toList = wLook by rw [Lib.toList_data]; rfl, show (ByteArray.mk #[44]).toList = [44] by rw [Lib.toList_data], show (ByteArray.mk m.toArray).toList = m by rw [Lib.toList_data]] at this; simpa using this, G.out⟩
set_option maxRecDepth 100000 in
set_option maxHeartbeats 4000000 in
theorem wexpr_3 {a : Fo} (hi : ∀ x ∈ a.list, WxOK x.args) (hal : a.len ≤ 9223372036854775807) {w : World} {op n : Int} {u m : Bytes} {q : Option Addr} {d g : Nat} {v : Value} {ts : List Tok} (hs : shF a = true) (hS : FoS (fun b => b < g) w q d a) (hW : Wr w g v ts) (hT : PowT g w) (h0 : op = 3) (hn : ts.length + (toksX ⟨op, n, u, m, a⟩).length ≤ 1000000000) :
  Calls Tryz.prog 27 #[.pointer (some ⟨g, 0, none⟩), .agg (hdC ⟨op, n, u, m, a⟩ q d).toArray] w (WP g v w ts (toksX ⟨op, n, u, m, a⟩)) := by
 have H := Lib.hid hW; have F := Lib.hid hS; have T := Lib.hid hT
 have hgw := hW.bx.lt
 have G := Lib.hid hW.wg
 obtain rfl : op = 3 := h0
 rw [exT_call] at hn ⊢
 have HN := Lib.hid hn; have HX := Lib.hid hi; have HS := Lib.hid hs; clear hi hs hW hS hT hn
 unfold hdC
 go_enter Tryz.func27, Tryz.ntmps27
 go_upto_region 1 with fail
 refine nmW (w.alloc (.cells #[.int .i64 3, .int .i64 n, .string ⟨u.toArray⟩, .string ⟨m.toArray⟩, .slice q a.len d] 24)) fun w1 hv => ?_
 rw [← hv]
 have K : Hid (BxW w1 g _ w.heap.size 24 #[.int .i64 3, .int .i64 n, .string ⟨u.toArray⟩, .string ⟨m.toArray⟩, .slice q a.len d]) := bxW_new H.out hv
 have hb_ := bah hv
 clear hv
 replace H := Lib.hid (H.out.keep hb_)
 replace G := Lib.hid (G.out.call hb_)
 replace F := Lib.hid (F.out.keep hb_)
 replace T := Lib.hid (T.out.keepG (hb_.mono (Nat.le_of_lt hgw)))
 replace hgw := Nat.lt_of_lt_of_le hgw hb_.size
 have z1_ := hb_.size
 clear hb_
 refine K.out.bx.q5 fun pK_0 pK_1 pK_2 pK_3 pK_4 => ?_
 go_wp2_with fail
 clear pK_0 pK_1 pK_2 pK_3 pK_4
 refine (whead_ok H.out (by have := HN.out; simp at this ⊢; omega) ⟨m.toArray⟩).mono ?_
 rintro e w2 ⟨rfl, v1, h2_, g2_⟩
 replace H := Lib.hid h2_
 replace G := Lib.hid (G.out.trans g2_)
 replace F := Lib.hid (F.out.wg g2_)
 replace T := Lib.hid (T.out.keepG (g2_.below (Nat.le_refl _) (Nat.le_of_lt hgw)))
 replace K := Lib.hid (K.out.wg g2_)
 replace hgw := Nat.lt_of_lt_of_le hgw g2_.size
 clear h2_ g2_
 refine K.out.bx.q5 fun pK_0 pK_1 pK_2 pK_3 pK_4 => ?_
 go_wp2_with fail
 clear pK_0 pK_1 pK_2 pK_3 pK_4
 refine (wlist_ok HX.out hal HS.out F.out H.out T.out (by have := HN.out; simp at this ⊢; omega)).mono ?_
 rintro e w3 ⟨rfl, v2, h2_, g2_⟩
 replace H := Lib.hid h2_
 replace G := Lib.hid (G.out.trans g2_)
 replace F := Lib.hid (F.out.wg g2_)
 replace T := Lib.hid (T.out.keepG (g2_.below (Nat.le_refl _) (Nat.le_of_lt hgw)))
 replace K := Lib.hid (K.out.wg g2_)
 replace hgw := Nat.lt_of_lt_of_le hgw g2_.size
 clear h2_ g2_
 go_wp2_with fail
 refine bodyPost_end (results_none rfl _ _ _) rfl ?_
 exact ⟨rfl, _, by have := H.out; rw [show (ByteArray.mk m.toArray).toList = m by rw [Lib.toList_data]] at this; simpa using this, G.out⟩
set_option maxRecDepth 100000 in
set_option maxHeartbeats 4000000 in
theorem wexpr_10 {a : Fo} (hi : ∀ x ∈ a.list, WxOK x.args) (hal : a.len ≤ 9223372036854775807) {w : World} {op n : Int} {u m : Bytes} {q : Option Addr} {d g : Nat} {v : Value} {ts : List Tok} (hs : shF a = true) (hS : FoS (fun b => b < g) w q d a) (hW : Wr w g v ts) (hT : PowT g w) (h0 : op = 10) (hn : ts.length + (toksX ⟨op, n, u, m, a⟩).length ≤ 1000000000) :
  Calls Tryz.prog 27 #[.pointer (some ⟨g, 0, none⟩), .agg (hdC ⟨op, n, u, m, a⟩ q d).toArray] w (WP g v w ts (toksX ⟨op, n, u, m, a⟩)) := by
 have H := Lib.hid hW; have F := Lib.hid hS; have T := Lib.hid hT
 have hgw := hW.bx.lt
 have G := Lib.hid hW.wg
 obtain rfl : op = 10 := h0
 rw [exT_min] at hn ⊢
 have HN := Lib.hid hn; have HX := Lib.hid hi; have HS := Lib.hid hs; clear hi hs hW hS hT hn
 unfold hdC
 go_enter Tryz.func27, Tryz.ntmps27
 go_upto_region 1 with fail
 refine nmW (w.alloc (.cells #[.int .i64 10, .int .i64 n, .string ⟨u.toArray⟩, .string ⟨m.toArray⟩, .slice q a.len d] 24)) fun w1 hv => ?_
 rw [← hv]
 have K : Hid (BxW w1 g _ w.heap.size 24 #[.int .i64 10, .int .i64 n, .string ⟨u.toArray⟩, .string ⟨m.toArray⟩, .slice q a.len d]) := bxW_new H.out hv
 have hb_ := bah hv
 clear hv
 replace H := Lib.hid (H.out.keep hb_)
 replace G := Lib.hid (G.out.call hb_)
 replace F := Lib.hid (F.out.keep hb_)
 replace T := Lib.hid (T.out.keepG (hb_.mono (Nat.le_of_lt hgw)))
 replace hgw := Nat.lt_of_lt_of_le hgw hb_.size
 have z1_ := hb_.size
 clear hb_
 refine K.out.bx.q5 fun pK_0 pK_1 pK_2 pK_3 pK_4 => ?_
 go_wp2_with fail
 clear pK_0 pK_1 pK_2 pK_3 pK_4
 refine (whead_ok H.out (by have := HN.out; simp at this ⊢; omega) ⟨#[109, 105, 110]⟩).mono ?_
 rintro e w2 ⟨rfl, v1, h2_, g2_⟩
 replace H := Lib.hid h2_
 replace G := Lib.hid (G.out.trans g2_)
 replace F := Lib.hid (F.out.wg g2_)
 replace T := Lib.hid (T.out.keepG (g2_.below (Nat.le_refl _) (Nat.le_of_lt hgw)))
 replace K := Lib.hid (K.out.wg g2_)
 replace hgw := Nat.lt_of_lt_of_le hgw g2_.size
 clear h2_ g2_
 refine K.out.bx.q5 fun pK_0 pK_1 pK_2 pK_3 pK_4 => ?_
 go_wp2_with fail
 clear pK_0 pK_1 pK_2 pK_3 pK_4
 refine (wlist_ok HX.out hal HS.out F.out H.out T.out (by have := HN.out; simp at this ⊢; omega)).mono ?_
 rintro e w3 ⟨rfl, v2, h2_, g2_⟩
 replace H := Lib.hid h2_
 replace G := Lib.hid (G.out.trans g2_)
 replace F := Lib.hid (F.out.wg g2_)
 replace T := Lib.hid (T.out.keepG (g2_.below (Nat.le_refl _) (Nat.le_of_lt hgw)))
 replace K := Lib.hid (K.out.wg g2_)
 replace hgw := Nat.lt_of_lt_of_le hgw g2_.size
 clear h2_ g2_
 go_wp2_with fail
 refine bodyPost_end (results_none rfl _ _ _) rfl ?_
 exact ⟨rfl, _, by have := H.out; rw [show (ByteArray.mk #[109, 105, 110]).toList = wMin by rw [Lib.toList_data]; rfl] at this; simpa using this, G.out⟩
set_option maxRecDepth 100000 in
set_option maxHeartbeats 4000000 in
theorem wexpr_11 {a : Fo} (hi : ∀ x ∈ a.list, WxOK x.args) (hal : a.len ≤ 9223372036854775807) {w : World} {op n : Int} {u m : Bytes} {q : Option Addr} {d g : Nat} {v : Value} {ts : List Tok} (hs : shF a = true) (hS : FoS (fun b => b < g) w q d a) (hW : Wr w g v ts) (hT : PowT g w) (h0 : op = 11) (hn : ts.length + (toksX ⟨op, n, u, m, a⟩).length ≤ 1000000000) :
  Calls Tryz.prog 27 #[.pointer (some ⟨g, 0, none⟩), .agg (hdC ⟨op, n, u, m, a⟩ q d).toArray] w (WP g v w ts (toksX ⟨op, n, u, m, a⟩)) := by
 have H := Lib.hid hW; have F := Lib.hid hS; have T := Lib.hid hT
 have hgw := hW.bx.lt
 have G := Lib.hid hW.wg
 obtain rfl : op = 11 := h0
 rw [exT_max] at hn ⊢
 have HN := Lib.hid hn; have HX := Lib.hid hi; have HS := Lib.hid hs; clear hi hs hW hS hT hn
 unfold hdC
 go_enter Tryz.func27, Tryz.ntmps27
 go_upto_region 1 with fail
 refine nmW (w.alloc (.cells #[.int .i64 11, .int .i64 n, .string ⟨u.toArray⟩, .string ⟨m.toArray⟩, .slice q a.len d] 24)) fun w1 hv => ?_
 rw [← hv]
 have K : Hid (BxW w1 g _ w.heap.size 24 #[.int .i64 11, .int .i64 n, .string ⟨u.toArray⟩, .string ⟨m.toArray⟩, .slice q a.len d]) := bxW_new H.out hv
 have hb_ := bah hv
 clear hv
 replace H := Lib.hid (H.out.keep hb_)
 replace G := Lib.hid (G.out.call hb_)
 replace F := Lib.hid (F.out.keep hb_)
 replace T := Lib.hid (T.out.keepG (hb_.mono (Nat.le_of_lt hgw)))
 replace hgw := Nat.lt_of_lt_of_le hgw hb_.size
 have z1_ := hb_.size
 clear hb_
 refine K.out.bx.q5 fun pK_0 pK_1 pK_2 pK_3 pK_4 => ?_
 go_wp2_with fail
 clear pK_0 pK_1 pK_2 pK_3 pK_4
 refine (whead_ok H.out (by have := HN.out; simp at this ⊢; omega) ⟨#[109, 97, 120]⟩).mono ?_
 rintro e w2 ⟨rfl, v1, h2_, g2_⟩
 replace H := Lib.hid h2_
 replace G := Lib.hid (G.out.trans g2_)
 replace F := Lib.hid (F.out.wg g2_)
 replace T := Lib.hid (T.out.keepG (g2_.below (Nat.le_refl _) (Nat.le_of_lt hgw)))
 replace K := Lib.hid (K.out.wg g2_)
 replace hgw := Nat.lt_of_lt_of_le hgw g2_.size
 clear h2_ g2_
 refine K.out.bx.q5 fun pK_0 pK_1 pK_2 pK_3 pK_4 => ?_
 go_wp2_with fail
 clear pK_0 pK_1 pK_2 pK_3 pK_4
 refine (wlist_ok HX.out hal HS.out F.out H.out T.out (by have := HN.out; simp at this ⊢; omega)).mono ?_
 rintro e w3 ⟨rfl, v2, h2_, g2_⟩
 replace H := Lib.hid h2_
 replace G := Lib.hid (G.out.trans g2_)
 replace F := Lib.hid (F.out.wg g2_)
 replace T := Lib.hid (T.out.keepG (g2_.below (Nat.le_refl _) (Nat.le_of_lt hgw)))
 replace K := Lib.hid (K.out.wg g2_)
 replace hgw := Nat.lt_of_lt_of_le hgw g2_.size
 clear h2_ g2_
 go_wp2_with fail
 refine bodyPost_end (results_none rfl _ _ _) rfl ?_
 exact ⟨rfl, _, by have := H.out; rw [show (ByteArray.mk #[109, 97, 120]).toList = wMax by rw [Lib.toList_data]; rfl] at this; simpa using this, G.out⟩
set_option maxRecDepth 100000 in
set_option maxHeartbeats 4000000 in
theorem wexpr_4 {a : Fo} (hi : ∀ x ∈ a.list, WxOK x.args) (hal : a.len ≤ 9223372036854775807) {w : World} {op n : Int} {u m : Bytes} {q : Option Addr} {d g : Nat} {v : Value} {ts : List Tok} (hs : shF a = true) (hS : FoS (fun b => b < g) w q d a) (hW : Wr w g v ts) (hT : PowT g w) (h0 : op = 4) {x : Ex} (hx : a.list[0]? = some x) (hn : ts.length + (toksX ⟨op, n, u, m, a⟩).length ≤ 1000000000) :
  Calls Tryz.prog 27 #[.pointer (some ⟨g, 0, none⟩), .agg (hdC ⟨op, n, u, m, a⟩ q d).toArray] w (WP g v w ts (toksX ⟨op, n, u, m, a⟩)) := by
 have H := Lib.hid hW; have F := Lib.hid hS; have T := Lib.hid hT
 have hgw := hW.bx.lt
 have G := Lib.hid hW.wg
 obtain rfl : op = 4 := h0
 have Hx := Lib.hid hx; clear hx
 obtain ⟨b, o, _, _, rfl, _⟩ := hS.at Hx.out
 rw [exT_not n u m Hx.out] at hn ⊢
 have HN := Lib.hid hn; have HX := Lib.hid hi; have HS := Lib.hid hs; clear hi hs hW hS hT hn
 unfold hdC
 go_enter Tryz.func27, Tryz.ntmps27
 go_upto_region 1 with fail
 refine nmW (w.alloc (.cells #[.int .i64 4, .int .i64 n, .string ⟨u.toArray⟩, .string ⟨m.toArray⟩, .slice (some ⟨b, o, none⟩) a.len d] 24)) fun w1 hv => ?_
 rw [← hv]
 have K : Hid (BxW w1 g _ w.heap.size 24 #[.int .i64 4, .int .i64 n, .string ⟨u.toArray⟩, .string ⟨m.toArray⟩, .slice (some ⟨b, o, none⟩) a.len d]) := bxW_new H.out hv
 have hb_ := bah hv
 clear hv
 replace H := Lib.hid (H.out.keep hb_)
 replace G := Lib.hid (G.out.call hb_)
 replace F := Lib.hid (F.out.keep hb_)
 replace T := Lib.hid (T.out.keepG (hb_.mono (Nat.le_of_lt hgw)))
 replace hgw := Nat.lt_of_lt_of_le hgw hb_.size
 have z1_ := hb_.size
 clear hb_
 refine K.out.bx.q5 fun pK_0 pK_1 pK_2 pK_3 pK_4 => ?_
 go_wp2_with fail
 clear pK_0 pK_1 pK_2 pK_3 pK_4
 refine (wname_ok H.out (by have := HN.out; simp at this ⊢; omega) ⟨#[110, 111, 116]⟩).mono ?_
 rintro e w2 ⟨rfl, v1, h2_, g2_⟩
 replace H := Lib.hid h2_
 replace G := Lib.hid (G.out.trans g2_)
 replace F := Lib.hid (F.out.wg g2_)
 replace T := Lib.hid (T.out.keepG (g2_.below (Nat.le_refl _) (Nat.le_of_lt hgw)))
 replace K := Lib.hid (K.out.wg g2_)
 replace hgw := Nat.lt_of_lt_of_le hgw g2_.size
 clear h2_ g2_
 obtain ⟨q1, d1, hb_, hcell, hs_⟩ := F.out.cells Hx.out
 have F1 := Lib.hid hs_; clear hs_
 have c0 : w2.cell? ⟨b, o, none⟩ = some (.int .i64 x.op) := by have := hcell 0 _ rfl; simpa using this
 have c1 : w2.cell? ⟨b, o + 1, none⟩ = some (.int .i64 x.n) := by have := hcell 1 _ rfl; simpa using this
 have c2 : w2.cell? ⟨b, o + 2, none⟩ = some (.string ⟨x.unit.toArray⟩) := by have := hcell 2 _ rfl; simpa using this
 have c3 : w2.cell? ⟨b, o + 3, none⟩ = some (.string ⟨x.name.toArray⟩) := by have := hcell 3 _ rfl; simpa using this
 have c4 : w2.cell? ⟨b, o + 4, none⟩ = some (.slice q1 x.args.len d1) := by have := hcell 4 _ rfl; simpa using this
 clear hcell
 have l1 := (List.getElem?_eq_some_iff.1 Hx.out).1
 rw [Fo.len_list] at l1
 have i1 : (0 : Int) < (a.len : Int) := by omega
 refine K.out.bx.q5 fun pK_0 pK_1 pK_2 pK_3 pK_4 => ?_
 have HAT := Lib.hid (watom_ok (HX.out _ (List.mem_of_getElem? Hx.out)) (shF_mem HS.out (List.mem_of_getElem? Hx.out)) F1.out H.out T.out (by have := HN.out; simp at this ⊢; omega))
 unfold hdC at HAT
 go_wp2_with fail
 clear pK_0 pK_1 pK_2 pK_3 pK_4
 clear c0 c1 c2 c3 c4
 refine (HAT.out).mono ?_
 rintro e w3 ⟨rfl, e1, h2_, g2_⟩
 replace H := Lib.hid h2_
 replace G := Lib.hid (G.out.trans g2_)
 replace F := Lib.hid (F.out.wg g2_)
 replace T := Lib.hid (T.out.keepG (g2_.below (Nat.le_refl _) (Nat.le_of_lt hgw)))
 replace K := Lib.hid (K.out.wg g2_)
 replace F1 := Lib.hid (F1.out.wg g2_)
 replace hgw := Nat.lt_of_lt_of_le hgw g2_.size
 clear h2_ g2_
 clear HAT
 clear F1
 go_wp2_with fail
 refine bodyPost_end (results_none rfl _ _ _) rfl ?_
 exact ⟨rfl, _, by have := H.out; rw [show (ByteArray.mk #[110, 111, 116]).toList = wNot by rw [Lib.toList_data]; rfl] at this; simpa using this, G.out⟩
set_option maxRecDepth 100000 in
set_option maxHeartbeats 4000000 in
theorem wexpr_s {a : Fo} (hi : ∀ x ∈ a.list, WxOK x.args) (hal : a.len ≤ 9223372036854775807) {w : World} {op n : Int} {u m : Bytes} {q : Option Addr} {d g : Nat} {v : Value} {ts : List Tok} (hs : shF a = true) (hS : FoS (fun b => b < g) w q d a) (hW : Wr w g v ts) (hT : PowT g w) (ho : op = 6 ∨ op = 7 ∨ op = 8 ∨ op = 9 ∨ op = 12 ∨ op = 13) {x y : Ex} (hx : a.list[0]? = some x) (hy : a.list[1]? = some y) (hn : ts.length + (toksX ⟨op, n, u, m, a⟩).length ≤ 1000000000) :
  Calls Tryz.prog 27 #[.pointer (some ⟨g, 0, none⟩), .agg (hdC ⟨op, n, u, m, a⟩ q d).toArray] w (WP g v w ts (toksX ⟨op, n, u, m, a⟩)) := by
 have H := Lib.hid hW; have F := Lib.hid hS; have T := Lib.hid hT
 have hgw := hW.bx.lt
 have G := Lib.hid hW.wg
 have hos : (opName op).isSome = true := by rcases ho with rfl | rfl | rfl | rfl | rfl | rfl <;> rfl
 have Hos := Lib.hid hos; clear hos
 have HTO : Hid (tkO op = tkS ((opName op).getD [])) := by show _ = _; unfold tkO; rw [if_neg (by omega)]
 have f0 : (op == 0) = false := by rw [beq_eq_false_iff_ne]; omega
 have f1 : (op == 1) = false := by rw [beq_eq_false_iff_ne]; omega
 have f2 : (op == 2) = false := by rw [beq_eq_false_iff_ne]; omega
 have f3 : (op == 3) = false := by rw [beq_eq_false_iff_ne]; omega
 have f4 : (op == 4) = false := by rw [beq_eq_false_iff_ne]; omega
 have f5 : (op == 5) = false := by rw [beq_eq_false_iff_ne]; omega
 have f10 : (op == 10) = false := by rw [beq_eq_false_iff_ne]; omega
 have f11 : (op == 11) = false := by rw [beq_eq_false_iff_ne]; omega
 have f14 : (op == 14) = false := by rw [beq_eq_false_iff_ne]; omega
 have f15 : (op == 15) = false := by rw [beq_eq_false_iff_ne]; omega
 have HRO := Lib.hid (opName_yes Hos.out)
 obtain ⟨os, hos⟩ : ∃ os, (opName op).getD [] = os := ⟨_, rfl⟩
 rw [hos] at HTO HRO
 clear hos ho
 have Hx := Lib.hid hx; clear hx
 have Hy := Lib.hid hy; clear hy
 obtain ⟨b, o, _, _, rfl, _⟩ := hS.at Hx.out
 rw [exT_op n u m Hos.out Hx.out Hy.out] at hn ⊢
 have HN := Lib.hid hn; have HX := Lib.hid hi; have HS := Lib.hid hs; clear hi hs hW hS hT hn
 unfold hdC
 go_enter Tryz.func27, Tryz.ntmps27
 go_upto_region 1 with fail
 refine nmW (w.alloc (.cells #[.int .i64 op, .int .i64 n, .string ⟨u.toArray⟩, .string ⟨m.toArray⟩, .slice (some ⟨b, o, none⟩) a.len d] 24)) fun w1 hv => ?_
 rw [← hv]
 have K : Hid (BxW w1 g _ w.heap.size 24 #[.int .i64 op, .int .i64 n, .string ⟨u.toArray⟩, .string ⟨m.toArray⟩, .slice (some ⟨b, o, none⟩) a.len d]) := bxW_new H.out hv
 have hb_ := bah hv
 clear hv
 replace H := Lib.hid (H.out.keep hb_)
 replace G := Lib.hid (G.out.call hb_)
 replace F := Lib.hid (F.out.keep hb_)
 replace T := Lib.hid (T.out.keepG (hb_.mono (Nat.le_of_lt hgw)))
 replace hgw := Nat.lt_of_lt_of_le hgw hb_.size
 have z1_ := hb_.size
 clear hb_
 obtain ⟨q1, d1, hb_, hcell, hs_⟩ := F.out.cells Hx.out
 have F1 := Lib.hid hs_; clear hs_
 have c0 : w1.cell? ⟨b, o, none⟩ = some (.int .i64 x.op) := by have := hcell 0 _ rfl; simpa using this
 have c1 : w1.cell? ⟨b, o + 1, none⟩ = some (.int .i64 x.n) := by have := hcell 1 _ rfl; simpa using this
 have c2 : w1.cell? ⟨b, o + 2, none⟩ = some (.string ⟨x.unit.toArray⟩) := by have := hcell 2 _ rfl; simpa using this
 have c3 : w1.cell? ⟨b, o + 3, none⟩ = some (.string ⟨x.name.toArray⟩) := by have := hcell 3 _ rfl; simpa using this
 have c4 : w1.cell? ⟨b, o + 4, none⟩ = some (.slice q1 x.args.len d1) := by have := hcell 4 _ rfl; simpa using this
 clear hcell
 have l1 := (List.getElem?_eq_some_iff.1 Hx.out).1
 rw [Fo.len_list] at l1
 have i1 : (0 : Int) < (a.len : Int) := by omega
 refine K.out.bx.q5 fun pK_0 pK_1 pK_2 pK_3 pK_4 => ?_
 have HAT := Lib.hid (watom_ok (HX.out _ (List.mem_of_getElem? Hx.out)) (shF_mem HS.out (List.mem_of_getElem? Hx.out)) F1.out H.out T.out (by have := HN.out; simp at this ⊢; omega))
 unfold hdC at HAT
 go_wp2_with fail
 clear pK_0 pK_1 pK_2 pK_3 pK_4
 clear c0 c1 c2 c3 c4
 refine (HAT.out).mono ?_
 rintro e w2 ⟨rfl, e1, h2_, g2_⟩
 replace H := Lib.hid h2_
 replace G := Lib.hid (G.out.trans g2_)
 replace F := Lib.hid (F.out.wg g2_)
 replace T := Lib.hid (T.out.keepG (g2_.below (Nat.le_refl _) (Nat.le_of_lt hgw)))
 replace K := Lib.hid (K.out.wg g2_)
 replace F1 := Lib.hid (F1.out.wg g2_)
 replace hgw := Nat.lt_of_lt_of_le hgw g2_.size
 clear h2_ g2_
 clear HAT
 clear F1
 refine K.out.bx.q5 fun pK_0 pK_1 pK_2 pK_3 pK_4 => ?_
 go_wp2_with fail
 clear pK_0 pK_1 pK_2 pK_3 pK_4
 refine (operator_ok op).mono ?_
 rintro e w2 ⟨rfl, rfl⟩
 rw [show opRes op = _ from HRO.out]
 refine K.out.bx.q5 fun pK_0 pK_1 pK_2 pK_3 pK_4 => ?_
 go_wp2_with fail
 clear pK_0 pK_1 pK_2 pK_3 pK_4
 refine (wsign_ok H.out (by have := HN.out; simp at this ⊢; omega) ⟨os.toArray⟩).mono ?_
 rintro e w3 ⟨rfl, v1, h2_, g2_⟩
 replace H := Lib.hid h2_
 replace G := Lib.hid (G.out.trans g2_)
 replace F := Lib.hid (F.out.wg g2_)
 replace T := Lib.hid (T.out.keepG (g2_.below (Nat.le_refl _) (Nat.le_of_lt hgw)))
 replace K := Lib.hid (K.out.wg g2_)
 replace hgw := Nat.lt_of_lt_of_le hgw g2_.size
 clear h2_ g2_
 obtain ⟨q2, d2, hb_, hcell, hs_⟩ := F.out.cells Hy.out
 have F2 := Lib.hid hs_; clear hs_
 have c0 : w3.cell? ⟨b, o + 5, none⟩ = some (.int .i64 y.op) := by have := hcell 0 _ rfl; simpa using this
 have c1 : w3.cell? ⟨b, o + 6, none⟩ = some (.int .i64 y.n) := by have := hcell 1 _ rfl; simpa using this
 have c2 : w3.cell? ⟨b, o + 7, none⟩ = some (.string ⟨y.unit.toArray⟩) := by have := hcell 2 _ rfl; simpa using this
 have c3 : w3.cell? ⟨b, o + 8, none⟩ = some (.string ⟨y.name.toArray⟩) := by have := hcell 3 _ rfl; simpa using this
 have c4 : w3.cell? ⟨b, o + 9, none⟩ = some (.slice q2 y.args.len d2) := by have := hcell 4 _ rfl; simpa using this
 clear hcell
 have l2 := (List.getElem?_eq_some_iff.1 Hy.out).1
 rw [Fo.len_list] at l2
 have i2 : (1 : Int) < (a.len : Int) := by omega
 refine K.out.bx.q5 fun pK_0 pK_1 pK_2 pK_3 pK_4 => ?_
 have HAT := Lib.hid (watom_ok (HX.out _ (List.mem_of_getElem? Hy.out)) (shF_mem HS.out (List.mem_of_getElem? Hy.out)) F2.out H.out T.out (by have := HN.out; simp at this ⊢; omega))
 unfold hdC at HAT
 go_wp2_with fail
 clear pK_0 pK_1 pK_2 pK_3 pK_4
 clear c0 c1 c2 c3 c4
 refine (HAT.out).mono ?_
 rintro e w4 ⟨rfl, e2, h2_, g2_⟩
 replace H := Lib.hid h2_
 replace G := Lib.hid (G.out.trans g2_)
 replace F := Lib.hid (F.out.wg g2_)
 replace T := Lib.hid (T.out.keepG (g2_.below (Nat.le_refl _) (Nat.le_of_lt hgw)))
 replace K := Lib.hid (K.out.wg g2_)
 replace F2 := Lib.hid (F2.out.wg g2_)
 replace hgw := Nat.lt_of_lt_of_le hgw g2_.size
 clear h2_ g2_
 clear HAT
 clear F2
 go_wp2_with fail
 refine bodyPost_end (results_none rfl _ _ _) rfl ?_
 exact ⟨rfl, _, by rw [HTO.out]; have := H.out; rw [show (ByteArray.mk os.toArray).toList = os by rw [Lib.toList_data]] at this; simpa using this, G.out⟩
set_option maxRecDepth 100000 in
set_option maxHeartbeats 4000000 in
theorem wexpr_14 {a : Fo} (hi : ∀ x ∈ a.list, WxOK x.args) (hal : a.len ≤ 9223372036854775807) {w : World} {op n : Int} {u m : Bytes} {q : Option Addr} {d g : Nat} {v : Value} {ts : List Tok} (hs : shF a = true) (hS : FoS (fun b => b < g) w q d a) (hW : Wr w g v ts) (hT : PowT g w) (h0 : op = 14) {x y : Ex} (hx : a.list[0]? = some x) (hy : a.list[1]? = some y) (hn : ts.length + (toksX ⟨op, n, u, m, a⟩).length ≤ 1000000000) :
  Calls Tryz.prog 27 #[.pointer (some ⟨g, 0, none⟩), .agg (hdC ⟨op, n, u, m, a⟩ q d).toArray] w (WP g v w ts (toksX ⟨op, n, u, m, a⟩)) := by
 have H := Lib.hid hW; have F := Lib.hid hS; have T := Lib.hid hT
 have hgw := hW.bx.lt
 have G := Lib.hid hW.wg
 obtain rfl : op = 14 := h0
 have Hx := Lib.hid hx; clear hx
 have Hy := Lib.hid hy; clear hy
 obtain ⟨b, o, _, _, rfl, _⟩ := hS.at Hx.out
 rw [exT_op n u m rfl Hx.out Hy.out] at hn ⊢
 have HN := Lib.hid hn; have HX := Lib.hid hi; have HS := Lib.hid hs; clear hi hs hW hS hT hn
 unfold hdC
 go_enter Tryz.func27, Tryz.ntmps27
 go_upto_region 1 with fail
 refine nmW (w.alloc (.cells #[.int .i64 14, .int .i64 n, .string ⟨u.toArray⟩, .string ⟨m.toArray⟩, .slice (some ⟨b, o, none⟩) a.len d] 24)) fun w1 hv => ?_
 rw [← hv]
 have K : Hid (BxW w1 g _ w.heap.size 24 #[.int .i64 14, .int .i64 n, .string ⟨u.toArray⟩, .string ⟨m.toArray⟩, .slice (some ⟨b, o, none⟩) a.len d]) := bxW_new H.out hv
 have hb_ := bah hv
 clear hv
 replace H := Lib.hid (H.out.keep hb_)
 replace G := Lib.hid (G.out.call hb_)
 replace F := Lib.hid (F.out.keep hb_)
 replace T := Lib.hid (T.out.keepG (hb_.mono (Nat.le_of_lt hgw)))
 replace hgw := Nat.lt_of_lt_of_le hgw hb_.size
 have z1_ := hb_.size
 clear hb_
 obtain ⟨q1, d1, hb_, hcell, hs_⟩ := F.out.cells Hx.out
 have F1 := Lib.hid hs_; clear hs_
 have c0 : w1.cell? ⟨b, o, none⟩ = some (.int .i64 x.op) := by have := hcell 0 _ rfl; simpa using this
 have c1 : w1.cell? ⟨b, o + 1, none⟩ = some (.int .i64 x.n) := by have := hcell 1 _ rfl; simpa using this
 have c2 : w1.cell? ⟨b, o + 2, none⟩ = some (.string ⟨x.unit.toArray⟩) := by have := hcell 2 _ rfl; simpa using this
 have c3 : w1.cell? ⟨b, o + 3, none⟩ = some (.string ⟨x.name.toArray⟩) := by have := hcell 3 _ rfl; simpa using this
 have c4 : w1.cell? ⟨b, o + 4, none⟩ = some (.slice q1 x.args.len d1) := by have := hcell 4 _ rfl; simpa using this
 clear hcell
 have l1 := (List.getElem?_eq_some_iff.1 Hx.out).1
 rw [Fo.len_list] at l1
 have i1 : (0 : Int) < (a.len : Int) := by omega
 refine K.out.bx.q5 fun pK_0 pK_1 pK_2 pK_3 pK_4 => ?_
 have HAT := Lib.hid (watom_ok (HX.out _ (List.mem_of_getElem? Hx.out)) (shF_mem HS.out (List.mem_of_getElem? Hx.out)) F1.out H.out T.out (by have := HN.out; simp at this ⊢; omega))
 unfold hdC at HAT
 go_wp2_with fail
 clear pK_0 pK_1 pK_2 pK_3 pK_4
 clear c0 c1 c2 c3 c4
 refine (HAT.out).mono ?_
 rintro e w2 ⟨rfl, e1, h2_, g2_⟩
 replace H := Lib.hid h2_
 replace G := Lib.hid (G.out.trans g2_)
 replace F := Lib.hid (F.out.wg g2_)
 replace T := Lib.hid (T.out.keepG (g2_.below (Nat.le_refl _) (Nat.le_of_lt hgw)))
 replace K := Lib.hid (K.out.wg g2_)
 replace F1 := Lib.hid (F1.out.wg g2_)
 replace hgw := Nat.lt_of_lt_of_le hgw g2_.size
 clear h2_ g2_
 clear HAT
 clear F1
 refine K.out.bx.q5 fun pK_0 pK_1 pK_2 pK_3 pK_4 => ?_
 go_wp2_with fail
 clear pK_0 pK_1 pK_2 pK_3 pK_4
 refine (operator_ok 14).mono ?_
 rintro e w2 ⟨rfl, rfl⟩
 rw [show opRes 14 = .tuple #[.string ⟨#[97, 110, 100]⟩, .bool true] from rfl]
 refine K.out.bx.q5 fun pK_0 pK_1 pK_2 pK_3 pK_4 => ?_
 go_wp2_with fail
 clear pK_0 pK_1 pK_2 pK_3 pK_4
 refine (wname_ok H.out (by have := HN.out; simp at this ⊢; omega) ⟨#[97, 110, 100]⟩).mono ?_
 rintro e w3 ⟨rfl, v1, h2_, g2_⟩
 replace H := Lib.hid h2_
 replace G := Lib.hid (G.out.trans g2_)
 replace F := Lib.hid (F.out.wg g2_)
 replace T := Lib.hid (T.out.keepG (g2_.below (Nat.le_refl _) (Nat.le_of_lt hgw)))
 replace K := Lib.hid (K.out.wg g2_)
 replace hgw := Nat.lt_of_lt_of_le hgw g2_.size
 clear h2_ g2_
 obtain ⟨q2, d2, hb_, hcell, hs_⟩ := F.out.cells Hy.out
 have F2 := Lib.hid hs_; clear hs_
 have c0 : w3.cell? ⟨b, o + 5, none⟩ = some (.int .i64 y.op) := by have := hcell 0 _ rfl; simpa using this
 have c1 : w3.cell? ⟨b, o + 6, none⟩ = some (.int .i64 y.n) := by have := hcell 1 _ rfl; simpa using this
 have c2 : w3.cell? ⟨b, o + 7, none⟩ = some (.string ⟨y.unit.toArray⟩) := by have := hcell 2 _ rfl; simpa using this
 have c3 : w3.cell? ⟨b, o + 8, none⟩ = some (.string ⟨y.name.toArray⟩) := by have := hcell 3 _ rfl; simpa using this
 have c4 : w3.cell? ⟨b, o + 9, none⟩ = some (.slice q2 y.args.len d2) := by have := hcell 4 _ rfl; simpa using this
 clear hcell
 have l2 := (List.getElem?_eq_some_iff.1 Hy.out).1
 rw [Fo.len_list] at l2
 have i2 : (1 : Int) < (a.len : Int) := by omega
 refine K.out.bx.q5 fun pK_0 pK_1 pK_2 pK_3 pK_4 => ?_
 have HAT := Lib.hid (watom_ok (HX.out _ (List.mem_of_getElem? Hy.out)) (shF_mem HS.out (List.mem_of_getElem? Hy.out)) F2.out H.out T.out (by have := HN.out; simp at this ⊢; omega))
 unfold hdC at HAT
 go_wp2_with fail
 clear pK_0 pK_1 pK_2 pK_3 pK_4
 clear c0 c1 c2 c3 c4
 refine (HAT.out).mono ?_
 rintro e w4 ⟨rfl, e2, h2_, g2_⟩
 replace H := Lib.hid h2_
 replace G := Lib.hid (G.out.trans g2_)
 replace F := Lib.hid (F.out.wg g2_)
 replace T := Lib.hid (T.out.keepG (g2_.below (Nat.le_refl _) (Nat.le_of_lt hgw)))
 replace K := Lib.hid (K.out.wg g2_)
 replace F2 := Lib.hid (F2.out.wg g2_)
 replace hgw := Nat.lt_of_lt_of_le hgw g2_.size
 clear h2_ g2_
 clear HAT
 clear F2
 go_wp2_with fail
 refine bodyPost_end (results_none rfl _ _ _) rfl ?_
 exact ⟨rfl, _, by rw [show tkO 14 = tkN wAnd from rfl]; have := H.out; rw [show (ByteArray.mk #[97, 110, 100]).toList = wAnd by rw [Lib.toList_data]; rfl] at this; simpa using this, G.out⟩
set_option maxRecDepth 100000 in
set_option maxHeartbeats 4000000 in
theorem wexpr_15 {a : Fo} (hi : ∀ x ∈ a.list, WxOK x.args) (hal : a.len ≤ 9223372036854775807) {w : World} {op n : Int} {u m : Bytes} {q : Option Addr} {d g : Nat} {v : Value} {ts : List Tok} (hs : shF a = true) (hS : FoS (fun b => b < g) w q d a) (hW : Wr w g v ts) (hT : PowT g w) (h0 : op = 15) {x y : Ex} (hx : a.list[0]? = some x) (hy : a.list[1]? = some y) (hn : ts.length + (toksX ⟨op, n, u, m, a⟩).length ≤ 1000000000) :
  Calls Tryz.prog 27 #[.pointer (some ⟨g, 0, none⟩), .agg (hdC ⟨op, n, u, m, a⟩ q d).toArray] w (WP g v w ts (toksX ⟨op, n, u, m, a⟩)) := by
 have H := Lib.hid hW; have F := Lib.hid hS; have T := Lib.hid hT
 have hgw := hW.bx.lt
 have G := Lib.hid hW.wg
 obtain rfl : op = 15 := h0
 have Hx := Lib.hid hx; clear hx
 have Hy := Lib.hid hy; clear hy
 obtain ⟨b, o, _, _, rfl, _⟩ := hS.at Hx.out
 rw [exT_op n u m rfl Hx.out Hy.out] at hn ⊢
 have HN := Lib.hid hn; have HX := Lib.hid hi; have HS := Lib.hid hs; clear hi hs hW hS hT hn
 unfold hdC
 go_enter Tryz.func27, Tryz.ntmps27
 go_upto_region 1 with fail
 refine nmW (w.alloc (.cells #[.int .i64 15, .int .i64 n, .string ⟨u.toArray⟩, .string ⟨m.toArray⟩, .slice (some ⟨b, o, none⟩) a.len d] 24)) fun w1 hv => ?_
 rw [← hv]
 have K : Hid (BxW w1 g _ w.heap.size 24 #[.int .i64 15, .int .i64 n, .string ⟨u.toArray⟩, .string ⟨m.toArray⟩, .slice (some ⟨b, o, none⟩) a.len d]) := bxW_new H.out hv
 have hb_ := bah hv
 clear hv
 replace H := Lib.hid (H.out.keep hb_)
 replace G := Lib.hid (G.out.call hb_)
 replace F := Lib.hid (F.out.keep hb_)
 replace T := Lib.hid (T.out.keepG (hb_.mono (Nat.le_of_lt hgw)))
 replace hgw := Nat.lt_of_lt_of_le hgw hb_.size
 have z1_ := hb_.size
 clear hb_
 obtain ⟨q1, d1, hb_, hcell, hs_⟩ := F.out.cells Hx.out
 have F1 := Lib.hid hs_; clear hs_
 have c0 : w1.cell? ⟨b, o, none⟩ = some (.int .i64 x.op) := by have := hcell 0 _ rfl; simpa using this
 have c1 : w1.cell? ⟨b, o + 1, none⟩ = some (.int .i64 x.n) := by have := hcell 1 _ rfl; simpa using this
 have c2 : w1.cell? ⟨b, o + 2, none⟩ = some (.string ⟨x.unit.toArray⟩) := by have := hcell 2 _ rfl; simpa using this
 have c3 : w1.cell? ⟨b, o + 3, none⟩ = some (.string ⟨x.name.toArray⟩) := by have := hcell 3 _ rfl; simpa using this
 have c4 : w1.cell? ⟨b, o + 4, none⟩ = some (.slice q1 x.args.len d1) := by have := hcell 4 _ rfl; simpa using this
 clear hcell
 have l1 := (List.getElem?_eq_some_iff.1 Hx.out).1
 rw [Fo.len_list] at l1
 have i1 : (0 : Int) < (a.len : Int) := by omega
 refine K.out.bx.q5 fun pK_0 pK_1 pK_2 pK_3 pK_4 => ?_
 have HAT := Lib.hid (watom_ok (HX.out _ (List.mem_of_getElem? Hx.out)) (shF_mem HS.out (List.mem_of_getElem? Hx.out)) F1.out H.out T.out (by have := HN.out; simp at this ⊢; omega))
 unfold hdC at HAT
 go_wp2_with fail
 clear pK_0 pK_1 pK_2 pK_3 pK_4
 clear c0 c1 c2 c3 c4
 refine (HAT.out).mono ?_
 rintro e w2 ⟨rfl, e1, h2_, g2_⟩
 replace H := Lib.hid h2_
 replace G := Lib.hid (G.out.trans g2_)
 replace F := Lib.hid (F.out.wg g2_)
 replace T := Lib.hid (T.out.keepG (g2_.below (Nat.le_refl _) (Nat.le_of_lt hgw)))
 replace K := Lib.hid (K.out.wg g2_)
 replace F1 := Lib.hid (F1.out.wg g2_)
 replace hgw := Nat.lt_of_lt_of_le hgw g2_.size
 clear h2_ g2_
 clear HAT
 clear F1
 refine K.out.bx.q5 fun pK_0 pK_1 pK_2 pK_3 pK_4 => ?_
 go_wp2_with fail
 clear pK_0 pK_1 pK_2 pK_3 pK_4
 refine (operator_ok 15).mono ?_
 rintro e w2 ⟨rfl, rfl⟩
 rw [show opRes 15 = .tuple #[.string ⟨#[111, 114]⟩, .bool true] from rfl]
 refine K.out.bx.q5 fun pK_0 pK_1 pK_2 pK_3 pK_4 => ?_
 go_wp2_with fail
 clear pK_0 pK_1 pK_2 pK_3 pK_4
 refine (wname_ok H.out (by have := HN.out; simp at this ⊢; omega) ⟨#[111, 114]⟩).mono ?_
 rintro e w3 ⟨rfl, v1, h2_, g2_⟩
 replace H := Lib.hid h2_
 replace G := Lib.hid (G.out.trans g2_)
 replace F := Lib.hid (F.out.wg g2_)
 replace T := Lib.hid (T.out.keepG (g2_.below (Nat.le_refl _) (Nat.le_of_lt hgw)))
 replace K := Lib.hid (K.out.wg g2_)
 replace hgw := Nat.lt_of_lt_of_le hgw g2_.size
 clear h2_ g2_
 obtain ⟨q2, d2, hb_, hcell, hs_⟩ := F.out.cells Hy.out
 have F2 := Lib.hid hs_; clear hs_
 have c0 : w3.cell? ⟨b, o + 5, none⟩ = some (.int .i64 y.op) := by have := hcell 0 _ rfl; simpa using this
 have c1 : w3.cell? ⟨b, o + 6, none⟩ = some (.int .i64 y.n) := by have := hcell 1 _ rfl; simpa using this
 have c2 : w3.cell? ⟨b, o + 7, none⟩ = some (.string ⟨y.unit.toArray⟩) := by have := hcell 2 _ rfl; simpa using this
 have c3 : w3.cell? ⟨b, o + 8, none⟩ = some (.string ⟨y.name.toArray⟩) := by have := hcell 3 _ rfl; simpa using this
 have c4 : w3.cell? ⟨b, o + 9, none⟩ = some (.slice q2 y.args.len d2) := by have := hcell 4 _ rfl; simpa using this
 clear hcell
 have l2 := (List.getElem?_eq_some_iff.1 Hy.out).1
 rw [Fo.len_list] at l2
 have i2 : (1 : Int) < (a.len : Int) := by omega
 refine K.out.bx.q5 fun pK_0 pK_1 pK_2 pK_3 pK_4 => ?_
 have HAT := Lib.hid (watom_ok (HX.out _ (List.mem_of_getElem? Hy.out)) (shF_mem HS.out (List.mem_of_getElem? Hy.out)) F2.out H.out T.out (by have := HN.out; simp at this ⊢; omega))
 unfold hdC at HAT
 go_wp2_with fail
 clear pK_0 pK_1 pK_2 pK_3 pK_4
 clear c0 c1 c2 c3 c4
 refine (HAT.out).mono ?_
 rintro e w4 ⟨rfl, e2, h2_, g2_⟩
 replace H := Lib.hid h2_
 replace G := Lib.hid (G.out.trans g2_)
 replace F := Lib.hid (F.out.wg g2_)
 replace T := Lib.hid (T.out.keepG (g2_.below (Nat.le_refl _) (Nat.le_of_lt hgw)))
 replace K := Lib.hid (K.out.wg g2_)
 replace F2 := Lib.hid (F2.out.wg g2_)
 replace hgw := Nat.lt_of_lt_of_le hgw g2_.size
 clear h2_ g2_
 clear HAT
 clear F2
 go_wp2_with fail
 refine bodyPost_end (results_none rfl _ _ _) rfl ?_
 exact ⟨rfl, _, by rw [show tkO 15 = tkN wOr from rfl]; have := H.out; rw [show (ByteArray.mk #[111, 114]).toList = wOr by rw [Lib.toList_data]; rfl] at this; simpa using this, G.out⟩
end Go.Proofs.YtckgmilmhofekaaGreatDoor
namespace Go.Proofs.YtckgmilmhofekaaGreatDoor
open Go.RowKit

theorem exT_num (n : Int) (m : Bytes) (a : Fo) : toksX ⟨0, n, [], m, a⟩ = [⟨1, Lib.decDigits n.toNat, n.toNat, 0⟩] := rfl
theorem exT_unit (n : Int) {u : Bytes} (m : Bytes) (a : Fo) (hu : u ≠ []) : toksX ⟨0, n, u, m, a⟩ = [⟨1, Lib.decDigits n.toNat, n.toNat, 0⟩, ⟨2, u, 0, 0⟩] := by
 show _ :: (if u = [] then [] else _) = _; rw [if_neg hu]
set_option maxRecDepth 100000 in
set_option maxHeartbeats 4000000 in
theorem wexpr_n {a : Fo} (hi : ∀ x ∈ a.list, WxOK x.args) (_hal : a.len ≤ 9223372036854775807) {w : World} {op n : Int} {u m : Bytes} {q : Option Addr} {d g : Nat} {v : Value} {ts : List Tok} (hs : shF a = true) (hS : FoS (fun b => b < g) w q d a) (hW : Wr w g v ts) (hT : PowT g w) (h0 : op = 0) (hn0 : 0 ≤ n) (hn1 : n ≤ 1099511627776) (hu : u = []) (hn : ts.length + (toksX ⟨op, n, u, m, a⟩).length ≤ 1000000000) :
    Calls Tryz.prog 27 #[.pointer (some ⟨g, 0, none⟩), .agg (hdC ⟨op, n, u, m, a⟩ q d).toArray] w (WP g v w ts (toksX ⟨op, n, u, m, a⟩)) := by
  have H := Lib.hid hW; have F := Lib.hid hS; have T := Lib.hid hT
  have hgw := hW.bx.lt
  have G := Lib.hid hW.wg
  obtain rfl : op = 0 := h0
  have HN0 := Lib.hid hn0; have HN1 := Lib.hid hn1; clear hn0 hn1
  subst hu
  rw [exT_num n m a] at hn ⊢
  have HN := Lib.hid hn; have HX := Lib.hid hi; have HS := Lib.hid hs; clear hi hs hW hS hT hn
  unfold hdC
  go_enter Tryz.func27, Tryz.ntmps27
  go_upto_region 1 with fail
  refine nmW (w.alloc (.cells #[.int .i64 0, .int .i64 n, .string ⟨#[]⟩, .string ⟨m.toArray⟩, .slice q a.len d] 24)) fun w1 hv => ?_
  rw [← hv]
  have K : Hid (BxW w1 g _ w.heap.size 24 #[.int .i64 0, .int .i64 n, .string ⟨#[]⟩, .string ⟨m.toArray⟩, .slice q a.len d]) := bxW_new H.out hv
  have hb_ := bah hv
  clear hv
  replace H := Lib.hid (H.out.keep hb_)
  replace G := Lib.hid (G.out.call hb_)
  replace F := Lib.hid (F.out.keep hb_)
  replace T := Lib.hid (T.out.keepG (hb_.mono (Nat.le_of_lt hgw)))
  replace hgw := Nat.lt_of_lt_of_le hgw hb_.size
  have z1_ := hb_.size
  clear hb_
  refine K.out.bx.q5 fun pK_0 pK_1 pK_2 pK_3 pK_4 => ?_
  go_upto_region 9 with fail
  clear pK_0 pK_1 pK_2 pK_3 pK_4
  refine nmW w1.drew fun w2 hW => ?_
  have hb_ := bdh hW
  replace H := Lib.hid (H.out.keep hb_)
  replace G := Lib.hid (G.out.call hb_)
  replace F := Lib.hid (F.out.keep hb_)
  replace T := Lib.hid (T.out.keepG (hb_.mono (Nat.le_of_lt hgw)))
  replace K := Lib.hid (K.out.keep hb_)
  replace hgw := Nat.lt_of_lt_of_le hgw hb_.size
  have z2_ := hb_.size
  clear hb_
  refine wp_region_held_drew (S := (fun w' => w'.cell? ⟨w.heap.size, 1, none⟩ = some (.int .i64 n))) (by kernel_rfl) (by rw [← hW]; exact K.out.bx.at.1 1) (fun hH => ?_)
  rw [← hW] at hH ⊢
  clear hW
  refine tk at0 ?_
  refine tk at1 ?_
  refine tk at2 ?_
  refine tk at3 ?_
  refine tk at5 ?_
  refine tk at6 (v := .int .i64 n) ?_
  refine tk at8 ?_
  refine tk at9 (v := .int .i64 n) ?_
  refine wpAnyH_ready (rs := [4, 7]) (by kernel_rfl) (by simp) ?_
  refine AllReadyH.cons at4 (fun K_ hK => ?_) (AllReadyH.cons at7 (fun K_ hK => ?_) AllReadyH.nil)
  · skip
    have pg : w2.cell? ⟨g, 0, none⟩ = some _ := H.out.bx.at.1 0
    go_simp
    clear pg
    refine hK.out _ _ (K.out.bx.at.1 1) (fun hH2 => ?_)
    clear hK K_ hH
    have hH := hH2; clear hH2
    (try simp only [Act.put, kS, kZ, kC])
    refine wpAnyH_ready (rs := [7]) (by kernel_rfl) (by simp) ?_
    refine AllReadyH.cons at7 (fun K_ hK => ?_) AllReadyH.nil
    go_simp
    refine (itoa_f n HN0.out HN1.out _ T.out).mono ?_
    rintro e w3 ⟨rfl, hb⟩
    replace H := Lib.hid (H.out.keep hb)
    replace G := Lib.hid (G.out.call hb)
    replace F := Lib.hid (F.out.keep hb)
    replace T := Lib.hid (T.out.keepG (hb.mono (Nat.le_of_lt hgw)))
    replace K := Lib.hid (K.out.keep hb)
    replace hgw := Nat.lt_of_lt_of_le hgw hb.size
    have z3_ := hb.size
    clear hb
    (try go_wp2_with fail)
    refine hK.out _ _ (K.out.bx.at.1 1) (fun hH2 => ?_)
    clear hK K_ hH
    have hH := hH2; clear hH2
    (try simp only [Act.put, kS, kZ, kC])
    refine tk at10 ?_
    refine wpAnyH_ready (rs := [11]) (by kernel_rfl) (by simp) ?_
    refine AllReadyH.cons at11 (fun K_ hK => ?_) AllReadyH.nil
    go_simp
    refine nmW (w3.alloc (.cells #[.int .i64 1, .string ⟨(Lib.decDigits n.toNat).toArray⟩, .int .i64 n, .int .i64 0] 55)) fun w4 hv => ?_
    rw [← hv]
    have J : Hid (Bx w4 w3.heap.size 55 (tokCells (⟨1, Lib.decDigits n.toNat, n.toNat, 0⟩)).toArray) := by show Bx _ _ _ _; rw [hv, show tokCells ⟨1, Lib.decDigits n.toNat, n.toNat, 0⟩ = [.int .i64 1, .string ⟨(Lib.decDigits n.toNat).toArray⟩, .int .i64 n, .int .i64 0] by unfold tokCells; dsimp only; rw [show ((n.toNat : Nat) : Int) = n from Int.toNat_of_nonneg HN0.out]; rfl]; exact bx1 _ _ _
    have hb_ := bah hv
    clear hv
    replace H := Lib.hid (H.out.keep hb_)
    replace G := Lib.hid (G.out.call hb_)
    replace F := Lib.hid (F.out.keep hb_)
    replace T := Lib.hid (T.out.keepG (hb_.mono (Nat.le_of_lt hgw)))
    replace K := Lib.hid (K.out.keep hb_)
    replace hgw := Nat.lt_of_lt_of_le hgw hb_.size
    have z4_ := hb_.size
    clear hb_
    refine hK.out _ _ (K.out.bx.at.1 1) (fun hH2 => ?_)
    clear hK K_ hH
    have hH := hH2; clear hH2
    (try simp only [Act.put, kS, kZ, kC])
    refine wpAnyH_ready (rs := [12]) (by kernel_rfl) (by simp) ?_
    refine AllReadyH.cons at12 (fun K_ hK => ?_) AllReadyH.nil
    refine wp_pushT H.out elemTok (⟨1, Lib.decDigits n.toNat, n.toNat, 0⟩) J.out (by have := HN.out; simp at this ⊢; omega) (by have := HN.out; simp at this ⊢; omega) rfl rfl rfl (fun v_ w5 hp => ?_)
    obtain ⟨a_, n_, c_, rfl⟩ := hp.shape
    have HP := Lib.hid hp
    have K5 := Lib.hid (K.out.bx.beside hp.gr K.out.own)
    clear hp
    refine hK.out _ _ (K5.out.at.1 1) (fun hH2 => ?_)
    clear hK K_ hH
    have hH := hH2; clear hH2
    (try simp only [Act.put, kS, kZ, kC])
    refine tk at13 ?_
    refine tk at14 ?_
    refine wpAnyH_ready (rs := [15]) (by kernel_rfl) (by simp) ?_
    refine AllReadyH.cons at15 (fun K_ hK => ?_) AllReadyH.nil
    have pg := (HP.out.cell H.out).1
    have qg := (HP.out.cell H.out).2
    go_simp
    clear pg qg
    have K6 := Lib.hid (HP.out.other K5.out K.out.ne)
    refine hK.out _ _ (K6.out.at.1 1) (fun hH2 => ?_)
    clear hK K_ hH
    have hH := hH2; clear hH2
    (try simp only [Act.put, kS, kZ, kC])
    refine wpAnyH_done (by kernel_rfl) ?_ _
    clear hH
    obtain ⟨w6, hv, h2_, g2_⟩ := HP.out.done2 H.out
    rw [← hv]
    clear hv K5 K6 HP
    clear J
    replace H := Lib.hid h2_
    replace G := Lib.hid (G.out.trans g2_)
    replace F := Lib.hid (F.out.wg g2_)
    replace T := Lib.hid (T.out.keepG (g2_.below (Nat.le_refl _) (Nat.le_of_lt hgw)))
    replace K := Lib.hid (K.out.wg g2_)
    replace hgw := Nat.lt_of_lt_of_le hgw g2_.size
    clear h2_ g2_
    refine K.out.bx.q5 fun pK_0 pK_1 pK_2 pK_3 pK_4 => ?_
    go_wp2_with fail
    refine bodyPost_end (results_none rfl _ _ _) rfl ?_
    exact ⟨rfl, _, H.out, G.out⟩
  · skip
    go_simp
    refine (itoa_f n HN0.out HN1.out _ T.out).mono ?_
    rintro e w7 ⟨rfl, hb⟩
    replace H := Lib.hid (H.out.keep hb)
    replace G := Lib.hid (G.out.call hb)
    replace F := Lib.hid (F.out.keep hb)
    replace T := Lib.hid (T.out.keepG (hb.mono (Nat.le_of_lt hgw)))
    replace K := Lib.hid (K.out.keep hb)
    replace hgw := Nat.lt_of_lt_of_le hgw hb.size
    have z5_ := hb.size
    clear hb
    (try go_wp2_with fail)
    refine hK.out _ _ (K.out.bx.at.1 1) (fun hH2 => ?_)
    clear hK K_ hH
    have hH := hH2; clear hH2
    (try simp only [Act.put, kS, kZ, kC])
    refine tk at10 ?_
    refine wpAnyH_ready (rs := [4, 11]) (by kernel_rfl) (by simp) ?_
    refine AllReadyH.cons at4 (fun K_ hK => ?_) (AllReadyH.cons at11 (fun K_ hK => ?_) AllReadyH.nil)
    · skip
      have pg : w7.cell? ⟨g, 0, none⟩ = some _ := H.out.bx.at.1 0
      go_simp
      clear pg
      refine hK.out _ _ (K.out.bx.at.1 1) (fun hH2 => ?_)
      clear hK K_ hH
      have hH := hH2; clear hH2
      (try simp only [Act.put, kS, kZ, kC])
      refine wpAnyH_ready (rs := [11]) (by kernel_rfl) (by simp) ?_
      refine AllReadyH.cons at11 (fun K_ hK => ?_) AllReadyH.nil
      go_simp
      refine nmW (w7.alloc (.cells #[.int .i64 1, .string ⟨(Lib.decDigits n.toNat).toArray⟩, .int .i64 n, .int .i64 0] 55)) fun w8 hv => ?_
      rw [← hv]
      have J : Hid (Bx w8 w7.heap.size 55 (tokCells (⟨1, Lib.decDigits n.toNat, n.toNat, 0⟩)).toArray) := by show Bx _ _ _ _; rw [hv, show tokCells ⟨1, Lib.decDigits n.toNat, n.toNat, 0⟩ = [.int .i64 1, .string ⟨(Lib.decDigits n.toNat).toArray⟩, .int .i64 n, .int .i64 0] by unfold tokCells; dsimp only; rw [show ((n.toNat : Nat) : Int) = n from Int.toNat_of_nonneg HN0.out]; rfl]; exact bx1 _ _ _
      have hb_ := bah hv
      clear hv
      replace H := Lib.hid (H.out.keep hb_)
      replace G := Lib.hid (G.out.call hb_)
      replace F := Lib.hid (F.out.keep hb_)
      replace T := Lib.hid (T.out.keepG (hb_.mono (Nat.le_of_lt hgw)))
      replace K := Lib.hid (K.out.keep hb_)
      replace hgw := Nat.lt_of_lt_of_le hgw hb_.size
      have z6_ := hb_.size
      clear hb_
      refine hK.out _ _ (K.out.bx.at.1 1) (fun hH2 => ?_)
      clear hK K_ hH
      have hH := hH2; clear hH2
      (try simp only [Act.put, kS, kZ, kC])
      refine wpAnyH_ready (rs := [12]) (by kernel_rfl) (by simp) ?_
      refine AllReadyH.cons at12 (fun K_ hK => ?_) AllReadyH.nil
      refine wp_pushT H.out elemTok (⟨1, Lib.decDigits n.toNat, n.toNat, 0⟩) J.out (by have := HN.out; simp at this ⊢; omega) (by have := HN.out; simp at this ⊢; omega) rfl rfl rfl (fun v_ w9 hp => ?_)
      obtain ⟨a_, n_, c_, rfl⟩ := hp.shape
      have HP := Lib.hid hp
      have K5 := Lib.hid (K.out.bx.beside hp.gr K.out.own)
      clear hp
      refine hK.out _ _ (K5.out.at.1 1) (fun hH2 => ?_)
      clear hK K_ hH
      have hH := hH2; clear hH2
      (try simp only [Act.put, kS, kZ, kC])
      refine tk at13 ?_
      refine tk at14 ?_
      refine wpAnyH_ready (rs := [15]) (by kernel_rfl) (by simp) ?_
      refine AllReadyH.cons at15 (fun K_ hK => ?_) AllReadyH.nil
      have pg := (HP.out.cell H.out).1
      have qg := (HP.out.cell H.out).2
      go_simp
      clear pg qg
      have K6 := Lib.hid (HP.out.other K5.out K.out.ne)
      refine hK.out _ _ (K6.out.at.1 1) (fun hH2 => ?_)
      clear hK K_ hH
      have hH := hH2; clear hH2
      (try simp only [Act.put, kS, kZ, kC])
      refine wpAnyH_done (by kernel_rfl) ?_ _
      clear hH
      obtain ⟨w10, hv, h2_, g2_⟩ := HP.out.done2 H.out
      rw [← hv]
      clear hv K5 K6 HP
      clear J
      replace H := Lib.hid h2_
      replace G := Lib.hid (G.out.trans g2_)
      replace F := Lib.hid (F.out.wg g2_)
      replace T := Lib.hid (T.out.keepG (g2_.below (Nat.le_refl _) (Nat.le_of_lt hgw)))
      replace K := Lib.hid (K.out.wg g2_)
      replace hgw := Nat.lt_of_lt_of_le hgw g2_.size
      clear h2_ g2_
      refine K.out.bx.q5 fun pK_0 pK_1 pK_2 pK_3 pK_4 => ?_
      go_wp2_with fail
      refine bodyPost_end (results_none rfl _ _ _) rfl ?_
      exact ⟨rfl, _, H.out, G.out⟩
    · skip
      go_simp
      refine nmW (w7.alloc (.cells #[.int .i64 1, .string ⟨(Lib.decDigits n.toNat).toArray⟩, .int .i64 n, .int .i64 0] 55)) fun w11 hv => ?_
      rw [← hv]
      have J : Hid (Bx w11 w7.heap.size 55 (tokCells (⟨1, Lib.decDigits n.toNat, n.toNat, 0⟩)).toArray) := by show Bx _ _ _ _; rw [hv, show tokCells ⟨1, Lib.decDigits n.toNat, n.toNat, 0⟩ = [.int .i64 1, .string ⟨(Lib.decDigits n.toNat).toArray⟩, .int .i64 n, .int .i64 0] by unfold tokCells; dsimp only; rw [show ((n.toNat : Nat) : Int) = n from Int.toNat_of_nonneg HN0.out]; rfl]; exact bx1 _ _ _
      have hb_ := bah hv
      clear hv
      replace H := Lib.hid (H.out.keep hb_)
      replace G := Lib.hid (G.out.call hb_)
      replace F := Lib.hid (F.out.keep hb_)
      replace T := Lib.hid (T.out.keepG (hb_.mono (Nat.le_of_lt hgw)))
      replace K := Lib.hid (K.out.keep hb_)
      replace hgw := Nat.lt_of_lt_of_le hgw hb_.size
      have z7_ := hb_.size
      clear hb_
      refine hK.out _ _ (K.out.bx.at.1 1) (fun hH2 => ?_)
      clear hK K_ hH
      have hH := hH2; clear hH2
      (try simp only [Act.put, kS, kZ, kC])
      refine wpAnyH_ready (rs := [4]) (by kernel_rfl) (by simp) ?_
      refine AllReadyH.cons at4 (fun K_ hK => ?_) AllReadyH.nil
      have pg : w11.cell? ⟨g, 0, none⟩ = some _ := H.out.bx.at.1 0
      go_simp
      clear pg
      refine hK.out _ _ (K.out.bx.at.1 1) (fun hH2 => ?_)
      clear hK K_ hH
      have hH := hH2; clear hH2
      (try simp only [Act.put, kS, kZ, kC])
      refine wpAnyH_ready (rs := [12]) (by kernel_rfl) (by simp) ?_
      refine AllReadyH.cons at12 (fun K_ hK => ?_) AllReadyH.nil
      refine wp_pushT H.out elemTok (⟨1, Lib.decDigits n.toNat, n.toNat, 0⟩) J.out (by have := HN.out; simp at this ⊢; omega) (by have := HN.out; simp at this ⊢; omega) rfl rfl rfl (fun v_ w12 hp => ?_)
      obtain ⟨a_, n_, c_, rfl⟩ := hp.shape
      have HP := Lib.hid hp
      have K5 := Lib.hid (K.out.bx.beside hp.gr K.out.own)
      clear hp
      refine hK.out _ _ (K5.out.at.1 1) (fun hH2 => ?_)
      clear hK K_ hH
      have hH := hH2; clear hH2
      (try simp only [Act.put, kS, kZ, kC])
      refine tk at13 ?_
      refine tk at14 ?_
      refine wpAnyH_ready (rs := [15]) (by kernel_rfl) (by simp) ?_
      refine AllReadyH.cons at15 (fun K_ hK => ?_) AllReadyH.nil
      have pg := (HP.out.cell H.out).1
      have qg := (HP.out.cell H.out).2
      go_simp
      clear pg qg
      have K6 := Lib.hid (HP.out.other K5.out K.out.ne)
      refine hK.out _ _ (K6.out.at.1 1) (fun hH2 => ?_)
      clear hK K_ hH
      have hH := hH2; clear hH2
      (try simp only [Act.put, kS, kZ, kC])
      refine wpAnyH_done (by kernel_rfl) ?_ _
      clear hH
      obtain ⟨w13, hv, h2_, g2_⟩ := HP.out.done2 H.out
      rw [← hv]
      clear hv K5 K6 HP
      clear J
      replace H := Lib.hid h2_
      replace G := Lib.hid (G.out.trans g2_)
      replace F := Lib.hid (F.out.wg g2_)
      replace T := Lib.hid (T.out.keepG (g2_.below (Nat.le_refl _) (Nat.le_of_lt hgw)))
      replace K := Lib.hid (K.out.wg g2_)
      replace hgw := Nat.lt_of_lt_of_le hgw g2_.size
      clear h2_ g2_
      refine K.out.bx.q5 fun pK_0 pK_1 pK_2 pK_3 pK_4 => ?_
      go_wp2_with fail
      refine bodyPost_end (results_none rfl _ _ _) rfl ?_
      exact ⟨rfl, _, H.out, G.out⟩
set_option maxRecDepth 100000 in
set_option maxHeartbeats 4000000 in
theorem wexpr_u {a : Fo} (hi : ∀ x ∈ a.list, WxOK x.args) (_hal : a.len ≤ 9223372036854775807) {w : World} {op n : Int} {u m : Bytes} {q : Option Addr} {d g : Nat} {v : Value} {ts : List Tok} (hs : shF a = true) (hS : FoS (fun b => b < g) w q d a) (hW : Wr w g v ts) (hT : PowT g w) (h0 : op = 0) (hn0 : 0 ≤ n) (hn1 : n ≤ 1099511627776) (hu : u ≠ []) (hn : ts.length + (toksX ⟨op, n, u, m, a⟩).length ≤ 1000000000) :
    Calls Tryz.prog 27 #[.pointer (some ⟨g, 0, none⟩), .agg (hdC ⟨op, n, u, m, a⟩ q d).toArray] w (WP g v w ts (toksX ⟨op, n, u, m, a⟩)) := by
  have H := Lib.hid hW; have F := Lib.hid hS; have T := Lib.hid hT
  have hgw := hW.bx.lt
  have G := Lib.hid hW.wg
  obtain rfl : op = 0 := h0
  have HN0 := Lib.hid hn0; have HN1 := Lib.hid hn1; clear hn0 hn1
  have h2i : u.isEmpty = false := by cases u with | nil => exact absurd rfl hu | cons a l => rfl
  have h2j : (u == []) = false := by cases u with | nil => exact absurd rfl hu | cons a l => rfl
  rw [exT_unit n m a hu] at hn ⊢
  have HN := Lib.hid hn; have HX := Lib.hid hi; have HS := Lib.hid hs; clear hi hs hW hS hT hn
  unfold hdC
  go_enter Tryz.func27, Tryz.ntmps27
  go_upto_region 1 with fail
  refine nmW (w.alloc (.cells #[.int .i64 0, .int .i64 n, .string ⟨u.toArray⟩, .string ⟨m.toArray⟩, .slice q a.len d] 24)) fun w1 hv => ?_
  rw [← hv]
  have K : Hid (BxW w1 g _ w.heap.size 24 #[.int .i64 0, .int .i64 n, .string ⟨u.toArray⟩, .string ⟨m.toArray⟩, .slice q a.len d]) := bxW_new H.out hv
  have hb_ := bah hv
  clear hv
  replace H := Lib.hid (H.out.keep hb_)
  replace G := Lib.hid (G.out.call hb_)
  replace F := Lib.hid (F.out.keep hb_)
  replace T := Lib.hid (T.out.keepG (hb_.mono (Nat.le_of_lt hgw)))
  replace hgw := Nat.lt_of_lt_of_le hgw hb_.size
  have z1_ := hb_.size
  clear hb_
  refine K.out.bx.q5 fun pK_0 pK_1 pK_2 pK_3 pK_4 => ?_
  go_upto_region 9 with fail
  clear pK_0 pK_1 pK_2 pK_3 pK_4
  refine nmW w1.drew fun w2 hW => ?_
  have hb_ := bdh hW
  replace H := Lib.hid (H.out.keep hb_)
  replace G := Lib.hid (G.out.call hb_)
  replace F := Lib.hid (F.out.keep hb_)
  replace T := Lib.hid (T.out.keepG (hb_.mono (Nat.le_of_lt hgw)))
  replace K := Lib.hid (K.out.keep hb_)
  replace hgw := Nat.lt_of_lt_of_le hgw hb_.size
  have z2_ := hb_.size
  clear hb_
  refine wp_region_held_drew (S := (fun w' => w'.cell? ⟨w.heap.size, 1, none⟩ = some (.int .i64 n))) (by kernel_rfl) (by rw [← hW]; exact K.out.bx.at.1 1) (fun hH => ?_)
  rw [← hW] at hH ⊢
  clear hW
  refine tk at0 ?_
  refine tk at1 ?_
  refine tk at2 ?_
  refine tk at3 ?_
  refine tk at5 ?_
  refine tk at6 (v := .int .i64 n) ?_
  refine tk at8 ?_
  refine tk at9 (v := .int .i64 n) ?_
  refine wpAnyH_ready (rs := [4, 7]) (by kernel_rfl) (by simp) ?_
  refine AllReadyH.cons at4 (fun K_ hK => ?_) (AllReadyH.cons at7 (fun K_ hK => ?_) AllReadyH.nil)
  · skip
    have pg : w2.cell? ⟨g, 0, none⟩ = some _ := H.out.bx.at.1 0
    go_simp
    clear pg
    refine hK.out _ _ (K.out.bx.at.1 1) (fun hH2 => ?_)
    clear hK K_ hH
    have hH := hH2; clear hH2
    (try simp only [Act.put, kS, kZ, kC])
    refine wpAnyH_ready (rs := [7]) (by kernel_rfl) (by simp) ?_
    refine AllReadyH.cons at7 (fun K_ hK => ?_) AllReadyH.nil
    go_simp
    refine (itoa_f n HN0.out HN1.out _ T.out).mono ?_
    rintro e w3 ⟨rfl, hb⟩
    replace H := Lib.hid (H.out.keep hb)
    replace G := Lib.hid (G.out.call hb)
    replace F := Lib.hid (F.out.keep hb)
    replace T := Lib.hid (T.out.keepG (hb.mono (Nat.le_of_lt hgw)))
    replace K := Lib.hid (K.out.keep hb)
    replace hgw := Nat.lt_of_lt_of_le hgw hb.size
    have z3_ := hb.size
    clear hb
    (try go_wp2_with fail)
    refine hK.out _ _ (K.out.bx.at.1 1) (fun hH2 => ?_)
    clear hK K_ hH
    have hH := hH2; clear hH2
    (try simp only [Act.put, kS, kZ, kC])
    refine tk at10 ?_
    refine wpAnyH_ready (rs := [11]) (by kernel_rfl) (by simp) ?_
    refine AllReadyH.cons at11 (fun K_ hK => ?_) AllReadyH.nil
    go_simp
    refine nmW (w3.alloc (.cells #[.int .i64 1, .string ⟨(Lib.decDigits n.toNat).toArray⟩, .int .i64 n, .int .i64 0] 55)) fun w4 hv => ?_
    rw [← hv]
    have J : Hid (Bx w4 w3.heap.size 55 (tokCells (⟨1, Lib.decDigits n.toNat, n.toNat, 0⟩)).toArray) := by show Bx _ _ _ _; rw [hv, show tokCells ⟨1, Lib.decDigits n.toNat, n.toNat, 0⟩ = [.int .i64 1, .string ⟨(Lib.decDigits n.toNat).toArray⟩, .int .i64 n, .int .i64 0] by unfold tokCells; dsimp only; rw [show ((n.toNat : Nat) : Int) = n from Int.toNat_of_nonneg HN0.out]; rfl]; exact bx1 _ _ _
    have hb_ := bah hv
    clear hv
    replace H := Lib.hid (H.out.keep hb_)
    replace G := Lib.hid (G.out.call hb_)
    replace F := Lib.hid (F.out.keep hb_)
    replace T := Lib.hid (T.out.keepG (hb_.mono (Nat.le_of_lt hgw)))
    replace K := Lib.hid (K.out.keep hb_)
    replace hgw := Nat.lt_of_lt_of_le hgw hb_.size
    have z4_ := hb_.size
    clear hb_
    refine hK.out _ _ (K.out.bx.at.1 1) (fun hH2 => ?_)
    clear hK K_ hH
    have hH := hH2; clear hH2
    (try simp only [Act.put, kS, kZ, kC])
    refine wpAnyH_ready (rs := [12]) (by kernel_rfl) (by simp) ?_
    refine AllReadyH.cons at12 (fun K_ hK => ?_) AllReadyH.nil
    refine wp_pushT H.out elemTok (⟨1, Lib.decDigits n.toNat, n.toNat, 0⟩) J.out (by have := HN.out; simp at this ⊢; omega) (by have := HN.out; simp at this ⊢; omega) rfl rfl rfl (fun v_ w5 hp => ?_)
    obtain ⟨a_, n_, c_, rfl⟩ := hp.shape
    have HP := Lib.hid hp
    have K5 := Lib.hid (K.out.bx.beside hp.gr K.out.own)
    clear hp
    refine hK.out _ _ (K5.out.at.1 1) (fun hH2 => ?_)
    clear hK K_ hH
    have hH := hH2; clear hH2
    (try simp only [Act.put, kS, kZ, kC])
    refine tk at13 ?_
    refine tk at14 ?_
    refine wpAnyH_ready (rs := [15]) (by kernel_rfl) (by simp) ?_
    refine AllReadyH.cons at15 (fun K_ hK => ?_) AllReadyH.nil
    have pg := (HP.out.cell H.out).1
    have qg := (HP.out.cell H.out).2
    go_simp
    clear pg qg
    have K6 := Lib.hid (HP.out.other K5.out K.out.ne)
    refine hK.out _ _ (K6.out.at.1 1) (fun hH2 => ?_)
    clear hK K_ hH
    have hH := hH2; clear hH2
    (try simp only [Act.put, kS, kZ, kC])
    refine wpAnyH_done (by kernel_rfl) ?_ _
    clear hH
    obtain ⟨w6, hv, h2_, g2_⟩ := HP.out.done2 H.out
    rw [← hv]
    clear hv K5 K6 HP
    clear J
    replace H := Lib.hid h2_
    replace G := Lib.hid (G.out.trans g2_)
    replace F := Lib.hid (F.out.wg g2_)
    replace T := Lib.hid (T.out.keepG (g2_.below (Nat.le_refl _) (Nat.le_of_lt hgw)))
    replace K := Lib.hid (K.out.wg g2_)
    replace hgw := Nat.lt_of_lt_of_le hgw g2_.size
    clear h2_ g2_
    refine K.out.bx.q5 fun pK_0 pK_1 pK_2 pK_3 pK_4 => ?_
    go_upto_region 11 with fail
    clear pK_0 pK_1 pK_2 pK_3 pK_4
    refine nmW w6.drew fun w7 hW => ?_
    have hb_ := bdh hW
    replace H := Lib.hid (H.out.keep hb_)
    replace G := Lib.hid (G.out.call hb_)
    replace F := Lib.hid (F.out.keep hb_)
    replace T := Lib.hid (T.out.keepG (hb_.mono (Nat.le_of_lt hgw)))
    replace K := Lib.hid (K.out.keep hb_)
    replace hgw := Nat.lt_of_lt_of_le hgw hb_.size
    have z5_ := hb_.size
    clear hb_
    refine wp_region_held_drew (S := (fun w' => w'.cell? ⟨w.heap.size, 2, none⟩ = some (.string ⟨u.toArray⟩))) (by kernel_rfl) (by rw [← hW]; exact K.out.bx.at.1 2) (fun hH => ?_)
    rw [← hW] at hH ⊢
    clear hW
    refine tk at0 ?_
    refine tk at1 ?_
    refine tk at2 ?_
    refine tk at3 ?_
    refine tk at5 ?_
    refine tk at6 (v := .string ⟨u.toArray⟩) ?_
    refine tk at7 ?_
    refine wpAnyH_ready (rs := [4, 8]) (by kernel_rfl) (by simp) ?_
    refine AllReadyH.cons at4 (fun K_ hK => ?_) (AllReadyH.cons at8 (fun K_ hK => ?_) AllReadyH.nil)
    · skip
      have pg : w7.cell? ⟨g, 0, none⟩ = some _ := H.out.bx.at.1 0
      go_simp
      clear pg
      refine hK.out _ _ (K.out.bx.at.1 2) (fun hH2 => ?_)
      clear hK K_ hH
      have hH := hH2; clear hH2
      (try simp only [Act.put, kS, kZ, kC])
      refine wpAnyH_ready (rs := [8]) (by kernel_rfl) (by simp) ?_
      refine AllReadyH.cons at8 (fun K_ hK => ?_) AllReadyH.nil
      go_simp
      refine nmW (w7.alloc (.cells #[.int .i64 2, .string ⟨u.toArray⟩, .int .i64 0, .int .i64 0] 55)) fun w8 hv => ?_
      rw [← hv]
      have J : Hid (Bx w8 w7.heap.size 55 (tokCells (⟨2, u, 0, 0⟩)).toArray) := by show Bx _ _ _ _; rw [hv, show tokCells ⟨2, u, 0, 0⟩ = [.int .i64 2, .string ⟨u.toArray⟩, .int .i64 0, .int .i64 0] from rfl]; exact bx1 _ _ _
      have hb_ := bah hv
      clear hv
      replace H := Lib.hid (H.out.keep hb_)
      replace G := Lib.hid (G.out.call hb_)
      replace F := Lib.hid (F.out.keep hb_)
      replace T := Lib.hid (T.out.keepG (hb_.mono (Nat.le_of_lt hgw)))
      replace K := Lib.hid (K.out.keep hb_)
      replace hgw := Nat.lt_of_lt_of_le hgw hb_.size
      have z6_ := hb_.size
      clear hb_
      refine hK.out _ _ (K.out.bx.at.1 2) (fun hH2 => ?_)
      clear hK K_ hH
      have hH := hH2; clear hH2
      (try simp only [Act.put, kS, kZ, kC])
      refine wpAnyH_ready (rs := [9]) (by kernel_rfl) (by simp) ?_
      refine AllReadyH.cons at9 (fun K_ hK => ?_) AllReadyH.nil
      refine wp_pushT H.out elemTok (⟨2, u, 0, 0⟩) J.out (by have := HN.out; simp at this ⊢; omega) (by have := HN.out; simp at this ⊢; omega) rfl rfl rfl (fun v_ w9 hp => ?_)
      obtain ⟨a_, n_, c_, rfl⟩ := hp.shape
      have HP := Lib.hid hp
      have K5 := Lib.hid (K.out.bx.beside hp.gr K.out.own)
      clear hp
      refine hK.out _ _ (K5.out.at.1 2) (fun hH2 => ?_)
      clear hK K_ hH
      have hH := hH2; clear hH2
      (try simp only [Act.put, kS, kZ, kC])
      refine tk at10 ?_
      refine tk at11 ?_
      refine wpAnyH_ready (rs := [12]) (by kernel_rfl) (by simp) ?_
      refine AllReadyH.cons at12 (fun K_ hK => ?_) AllReadyH.nil
      have pg := (HP.out.cell H.out).1
      have qg := (HP.out.cell H.out).2
      go_simp
      clear pg qg
      have K6 := Lib.hid (HP.out.other K5.out K.out.ne)
      refine hK.out _ _ (K6.out.at.1 2) (fun hH2 => ?_)
      clear hK K_ hH
      have hH := hH2; clear hH2
      (try simp only [Act.put, kS, kZ, kC])
      refine wpAnyH_done (by kernel_rfl) ?_ _
      clear hH
      obtain ⟨w10, hv, h2_, g2_⟩ := HP.out.done2 H.out
      rw [← hv]
      clear hv K5 K6 HP
      clear J
      replace H := Lib.hid h2_
      replace G := Lib.hid (G.out.trans g2_)
      replace F := Lib.hid (F.out.wg g2_)
      replace T := Lib.hid (T.out.keepG (g2_.below (Nat.le_refl _) (Nat.le_of_lt hgw)))
      replace K := Lib.hid (K.out.wg g2_)
      replace hgw := Nat.lt_of_lt_of_le hgw g2_.size
      clear h2_ g2_
      go_wp2_with fail
      refine bodyPost_end (results_none rfl _ _ _) rfl ?_
      exact ⟨rfl, _, by have := H.out; simpa using this, G.out⟩
    · skip
      go_simp
      refine nmW (w7.alloc (.cells #[.int .i64 2, .string ⟨u.toArray⟩, .int .i64 0, .int .i64 0] 55)) fun w11 hv => ?_
      rw [← hv]
      have J : Hid (Bx w11 w7.heap.size 55 (tokCells (⟨2, u, 0, 0⟩)).toArray) := by show Bx _ _ _ _; rw [hv, show tokCells ⟨2, u, 0, 0⟩ = [.int .i64 2, .string ⟨u.toArray⟩, .int .i64 0, .int .i64 0] from rfl]; exact bx1 _ _ _
      have hb_ := bah hv
      clear hv
      replace H := Lib.hid (H.out.keep hb_)
      replace G := Lib.hid (G.out.call hb_)
      replace F := Lib.hid (F.out.keep hb_)
      replace T := Lib.hid (T.out.keepG (hb_.mono (Nat.le_of_lt hgw)))
      replace K := Lib.hid (K.out.keep hb_)
      replace hgw := Nat.lt_of_lt_of_le hgw hb_.size
      have z7_ := hb_.size
      clear hb_
      refine hK.out _ _ (K.out.bx.at.1 2) (fun hH2 => ?_)
      clear hK K_ hH
      have hH := hH2; clear hH2
      (try simp only [Act.put, kS, kZ, kC])
      refine wpAnyH_ready (rs := [4]) (by kernel_rfl) (by simp) ?_
      refine AllReadyH.cons at4 (fun K_ hK => ?_) AllReadyH.nil
      have pg : w11.cell? ⟨g, 0, none⟩ = some _ := H.out.bx.at.1 0
      go_simp
      clear pg
      refine hK.out _ _ (K.out.bx.at.1 2) (fun hH2 => ?_)
      clear hK K_ hH
      have hH := hH2; clear hH2
      (try simp only [Act.put, kS, kZ, kC])
      refine wpAnyH_ready (rs := [9]) (by kernel_rfl) (by simp) ?_
      refine AllReadyH.cons at9 (fun K_ hK => ?_) AllReadyH.nil
      refine wp_pushT H.out elemTok (⟨2, u, 0, 0⟩) J.out (by have := HN.out; simp at this ⊢; omega) (by have := HN.out; simp at this ⊢; omega) rfl rfl rfl (fun v_ w12 hp => ?_)
      obtain ⟨a_, n_, c_, rfl⟩ := hp.shape
      have HP := Lib.hid hp
      have K5 := Lib.hid (K.out.bx.beside hp.gr K.out.own)
      clear hp
      refine hK.out _ _ (K5.out.at.1 2) (fun hH2 => ?_)
      clear hK K_ hH
      have hH := hH2; clear hH2
      (try simp only [Act.put, kS, kZ, kC])
      refine tk at10 ?_
      refine tk at11 ?_
      refine wpAnyH_ready (rs := [12]) (by kernel_rfl) (by simp) ?_
      refine AllReadyH.cons at12 (fun K_ hK => ?_) AllReadyH.nil
      have pg := (HP.out.cell H.out).1
      have qg := (HP.out.cell H.out).2
      go_simp
      clear pg qg
      have K6 := Lib.hid (HP.out.other K5.out K.out.ne)
      refine hK.out _ _ (K6.out.at.1 2) (fun hH2 => ?_)
      clear hK K_ hH
      have hH := hH2; clear hH2
      (try simp only [Act.put, kS, kZ, kC])
      refine wpAnyH_done (by kernel_rfl) ?_ _
      clear hH
      obtain ⟨w13, hv, h2_, g2_⟩ := HP.out.done2 H.out
      rw [← hv]
      clear hv K5 K6 HP
      clear J
      replace H := Lib.hid h2_
      replace G := Lib.hid (G.out.trans g2_)
      replace F := Lib.hid (F.out.wg g2_)
      replace T := Lib.hid (T.out.keepG (g2_.below (Nat.le_refl _) (Nat.le_of_lt hgw)))
      replace K := Lib.hid (K.out.wg g2_)
      replace hgw := Nat.lt_of_lt_of_le hgw g2_.size
      clear h2_ g2_
      go_wp2_with fail
      refine bodyPost_end (results_none rfl _ _ _) rfl ?_
      exact ⟨rfl, _, by have := H.out; simpa using this, G.out⟩
  · skip
    go_simp
    refine (itoa_f n HN0.out HN1.out _ T.out).mono ?_
    rintro e w14 ⟨rfl, hb⟩
    replace H := Lib.hid (H.out.keep hb)
    replace G := Lib.hid (G.out.call hb)
    replace F := Lib.hid (F.out.keep hb)
    replace T := Lib.hid (T.out.keepG (hb.mono (Nat.le_of_lt hgw)))
    replace K := Lib.hid (K.out.keep hb)
    replace hgw := Nat.lt_of_lt_of_le hgw hb.size
    have z8_ := hb.size
    clear hb
    (try go_wp2_with fail)
    refine hK.out _ _ (K.out.bx.at.1 1) (fun hH2 => ?_)
    clear hK K_ hH
    have hH := hH2; clear hH2
    (try simp only [Act.put, kS, kZ, kC])
    refine tk at10 ?_
    refine wpAnyH_ready (rs := [4, 11]) (by kernel_rfl) (by simp) ?_
    refine AllReadyH.cons at4 (fun K_ hK => ?_) (AllReadyH.cons at11 (fun K_ hK => ?_) AllReadyH.nil)
    · skip
      have pg : w14.cell? ⟨g, 0, none⟩ = some _ := H.out.bx.at.1 0
      go_simp
      clear pg
      refine hK.out _ _ (K.out.bx.at.1 1) (fun hH2 => ?_)
      clear hK K_ hH
      have hH := hH2; clear hH2
      (try simp only [Act.put, kS, kZ, kC])
      refine wpAnyH_ready (rs := [11]) (by kernel_rfl) (by simp) ?_
      refine AllReadyH.cons at11 (fun K_ hK => ?_) AllReadyH.nil
      go_simp
      refine nmW (w14.alloc (.cells #[.int .i64 1, .string ⟨(Lib.decDigits n.toNat).toArray⟩, .int .i64 n, .int .i64 0] 55)) fun w15 hv => ?_
      rw [← hv]
      have J : Hid (Bx w15 w14.heap.size 55 (tokCells (⟨1, Lib.decDigits n.toNat, n.toNat, 0⟩)).toArray) := by show Bx _ _ _ _; rw [hv, show tokCells ⟨1, Lib.decDigits n.toNat, n.toNat, 0⟩ = [.int .i64 1, .string ⟨(Lib.decDigits n.toNat).toArray⟩, .int .i64 n, .int .i64 0] by unfold tokCells; dsimp only; rw [show ((n.toNat : Nat) : Int) = n from Int.toNat_of_nonneg HN0.out]; rfl]; exact bx1 _ _ _
      have hb_ := bah hv
      clear hv
      replace H := Lib.hid (H.out.keep hb_)
      replace G := Lib.hid (G.out.call hb_)
      replace F := Lib.hid (F.out.keep hb_)
      replace T := Lib.hid (T.out.keepG (hb_.mono (Nat.le_of_lt hgw)))
      replace K := Lib.hid (K.out.keep hb_)
      replace hgw := Nat.lt_of_lt_of_le hgw hb_.size
      have z9_ := hb_.size
      clear hb_
      refine hK.out _ _ (K.out.bx.at.1 1) (fun hH2 => ?_)
      clear hK K_ hH
      have hH := hH2; clear hH2
      (try simp only [Act.put, kS, kZ, kC])
      refine wpAnyH_ready (rs := [12]) (by kernel_rfl) (by simp) ?_
      refine AllReadyH.cons at12 (fun K_ hK => ?_) AllReadyH.nil
      refine wp_pushT H.out elemTok (⟨1, Lib.decDigits n.toNat, n.toNat, 0⟩) J.out (by have := HN.out; simp at this ⊢; omega) (by have := HN.out; simp at this ⊢; omega) rfl rfl rfl (fun v_ w16 hp => ?_)
      obtain ⟨a_, n_, c_, rfl⟩ := hp.shape
      have HP := Lib.hid hp
      have K5 := Lib.hid (K.out.bx.beside hp.gr K.out.own)
      clear hp
      refine hK.out _ _ (K5.out.at.1 1) (fun hH2 => ?_)
      clear hK K_ hH
      have hH := hH2; clear hH2
      (try simp only [Act.put, kS, kZ, kC])
      refine tk at13 ?_
      refine tk at14 ?_
      refine wpAnyH_ready (rs := [15]) (by kernel_rfl) (by simp) ?_
      refine AllReadyH.cons at15 (fun K_ hK => ?_) AllReadyH.nil
      have pg := (HP.out.cell H.out).1
      have qg := (HP.out.cell H.out).2
      go_simp
      clear pg qg
      have K6 := Lib.hid (HP.out.other K5.out K.out.ne)
      refine hK.out _ _ (K6.out.at.1 1) (fun hH2 => ?_)
      clear hK K_ hH
      have hH := hH2; clear hH2
      (try simp only [Act.put, kS, kZ, kC])
      refine wpAnyH_done (by kernel_rfl) ?_ _
      clear hH
      obtain ⟨w17, hv, h2_, g2_⟩ := HP.out.done2 H.out
      rw [← hv]
      clear hv K5 K6 HP
      clear J
      replace H := Lib.hid h2_
      replace G := Lib.hid (G.out.trans g2_)
      replace F := Lib.hid (F.out.wg g2_)
      replace T := Lib.hid (T.out.keepG (g2_.below (Nat.le_refl _) (Nat.le_of_lt hgw)))
      replace K := Lib.hid (K.out.wg g2_)
      replace hgw := Nat.lt_of_lt_of_le hgw g2_.size
      clear h2_ g2_
      refine K.out.bx.q5 fun pK_0 pK_1 pK_2 pK_3 pK_4 => ?_
      go_upto_region 11 with fail
      clear pK_0 pK_1 pK_2 pK_3 pK_4
      refine nmW w17.drew fun w18 hW => ?_
      have hb_ := bdh hW
      replace H := Lib.hid (H.out.keep hb_)
      replace G := Lib.hid (G.out.call hb_)
      replace F := Lib.hid (F.out.keep hb_)
      replace T := Lib.hid (T.out.keepG (hb_.mono (Nat.le_of_lt hgw)))
      replace K := Lib.hid (K.out.keep hb_)
      replace hgw := Nat.lt_of_lt_of_le hgw hb_.size
      have z10_ := hb_.size
      clear hb_
      refine wp_region_held_drew (S := (fun w' => w'.cell? ⟨w.heap.size, 2, none⟩ = some (.string ⟨u.toArray⟩))) (by kernel_rfl) (by rw [← hW]; exact K.out.bx.at.1 2) (fun hH => ?_)
      rw [← hW] at hH ⊢
      clear hW
      refine tk at0 ?_
      refine tk at1 ?_
      refine tk at2 ?_
      refine tk at3 ?_
      refine tk at5 ?_
      refine tk at6 (v := .string ⟨u.toArray⟩) ?_
      refine tk at7 ?_
      refine wpAnyH_ready (rs := [4, 8]) (by kernel_rfl) (by simp) ?_
      refine AllReadyH.cons at4 (fun K_ hK => ?_) (AllReadyH.cons at8 (fun K_ hK => ?_) AllReadyH.nil)
      · skip
        have pg : w18.cell? ⟨g, 0, none⟩ = some _ := H.out.bx.at.1 0
        go_simp
        clear pg
        refine hK.out _ _ (K.out.bx.at.1 2) (fun hH2 => ?_)
        clear hK K_ hH
        have hH := hH2; clear hH2
        (try simp only [Act.put, kS, kZ, kC])
        refine wpAnyH_ready (rs := [8]) (by kernel_rfl) (by simp) ?_
        refine AllReadyH.cons at8 (fun K_ hK => ?_) AllReadyH.nil
        go_simp
        refine nmW (w18.alloc (.cells #[.int .i64 2, .string ⟨u.toArray⟩, .int .i64 0, .int .i64 0] 55)) fun w19 hv => ?_
        rw [← hv]
        have J : Hid (Bx w19 w18.heap.size 55 (tokCells (⟨2, u, 0, 0⟩)).toArray) := by show Bx _ _ _ _; rw [hv, show tokCells ⟨2, u, 0, 0⟩ = [.int .i64 2, .string ⟨u.toArray⟩, .int .i64 0, .int .i64 0] from rfl]; exact bx1 _ _ _
        have hb_ := bah hv
        clear hv
        replace H := Lib.hid (H.out.keep hb_)
        replace G := Lib.hid (G.out.call hb_)
        replace F := Lib.hid (F.out.keep hb_)
        replace T := Lib.hid (T.out.keepG (hb_.mono (Nat.le_of_lt hgw)))
        replace K := Lib.hid (K.out.keep hb_)
        replace hgw := Nat.lt_of_lt_of_le hgw hb_.size
        have z11_ := hb_.size
        clear hb_
        refine hK.out _ _ (K.out.bx.at.1 2) (fun hH2 => ?_)
        clear hK K_ hH
        have hH := hH2; clear hH2
        (try simp only [Act.put, kS, kZ, kC])
        refine wpAnyH_ready (rs := [9]) (by kernel_rfl) (by simp) ?_
        refine AllReadyH.cons at9 (fun K_ hK => ?_) AllReadyH.nil
        refine wp_pushT H.out elemTok (⟨2, u, 0, 0⟩) J.out (by have := HN.out; simp at this ⊢; omega) (by have := HN.out; simp at this ⊢; omega) rfl rfl rfl (fun v_ w20 hp => ?_)
        obtain ⟨a_, n_, c_, rfl⟩ := hp.shape
        have HP := Lib.hid hp
        have K5 := Lib.hid (K.out.bx.beside hp.gr K.out.own)
        clear hp
        refine hK.out _ _ (K5.out.at.1 2) (fun hH2 => ?_)
        clear hK K_ hH
        have hH := hH2; clear hH2
        (try simp only [Act.put, kS, kZ, kC])
        refine tk at10 ?_
        refine tk at11 ?_
        refine wpAnyH_ready (rs := [12]) (by kernel_rfl) (by simp) ?_
        refine AllReadyH.cons at12 (fun K_ hK => ?_) AllReadyH.nil
        have pg := (HP.out.cell H.out).1
        have qg := (HP.out.cell H.out).2
        go_simp
        clear pg qg
        have K6 := Lib.hid (HP.out.other K5.out K.out.ne)
        refine hK.out _ _ (K6.out.at.1 2) (fun hH2 => ?_)
        clear hK K_ hH
        have hH := hH2; clear hH2
        (try simp only [Act.put, kS, kZ, kC])
        refine wpAnyH_done (by kernel_rfl) ?_ _
        clear hH
        obtain ⟨w21, hv, h2_, g2_⟩ := HP.out.done2 H.out
        rw [← hv]
        clear hv K5 K6 HP
        clear J
        replace H := Lib.hid h2_
        replace G := Lib.hid (G.out.trans g2_)
        replace F := Lib.hid (F.out.wg g2_)
        replace T := Lib.hid (T.out.keepG (g2_.below (Nat.le_refl _) (Nat.le_of_lt hgw)))
        replace K := Lib.hid (K.out.wg g2_)
        replace hgw := Nat.lt_of_lt_of_le hgw g2_.size
        clear h2_ g2_
        go_wp2_with fail
        refine bodyPost_end (results_none rfl _ _ _) rfl ?_
        exact ⟨rfl, _, by have := H.out; simpa using this, G.out⟩
      · skip
        go_simp
        refine nmW (w18.alloc (.cells #[.int .i64 2, .string ⟨u.toArray⟩, .int .i64 0, .int .i64 0] 55)) fun w22 hv => ?_
        rw [← hv]
        have J : Hid (Bx w22 w18.heap.size 55 (tokCells (⟨2, u, 0, 0⟩)).toArray) := by show Bx _ _ _ _; rw [hv, show tokCells ⟨2, u, 0, 0⟩ = [.int .i64 2, .string ⟨u.toArray⟩, .int .i64 0, .int .i64 0] from rfl]; exact bx1 _ _ _
        have hb_ := bah hv
        clear hv
        replace H := Lib.hid (H.out.keep hb_)
        replace G := Lib.hid (G.out.call hb_)
        replace F := Lib.hid (F.out.keep hb_)
        replace T := Lib.hid (T.out.keepG (hb_.mono (Nat.le_of_lt hgw)))
        replace K := Lib.hid (K.out.keep hb_)
        replace hgw := Nat.lt_of_lt_of_le hgw hb_.size
        have z12_ := hb_.size
        clear hb_
        refine hK.out _ _ (K.out.bx.at.1 2) (fun hH2 => ?_)
        clear hK K_ hH
        have hH := hH2; clear hH2
        (try simp only [Act.put, kS, kZ, kC])
        refine wpAnyH_ready (rs := [4]) (by kernel_rfl) (by simp) ?_
        refine AllReadyH.cons at4 (fun K_ hK => ?_) AllReadyH.nil
        have pg : w22.cell? ⟨g, 0, none⟩ = some _ := H.out.bx.at.1 0
        go_simp
        clear pg
        refine hK.out _ _ (K.out.bx.at.1 2) (fun hH2 => ?_)
        clear hK K_ hH
        have hH := hH2; clear hH2
        (try simp only [Act.put, kS, kZ, kC])
        refine wpAnyH_ready (rs := [9]) (by kernel_rfl) (by simp) ?_
        refine AllReadyH.cons at9 (fun K_ hK => ?_) AllReadyH.nil
        refine wp_pushT H.out elemTok (⟨2, u, 0, 0⟩) J.out (by have := HN.out; simp at this ⊢; omega) (by have := HN.out; simp at this ⊢; omega) rfl rfl rfl (fun v_ w23 hp => ?_)
        obtain ⟨a_, n_, c_, rfl⟩ := hp.shape
        have HP := Lib.hid hp
        have K5 := Lib.hid (K.out.bx.beside hp.gr K.out.own)
        clear hp
        refine hK.out _ _ (K5.out.at.1 2) (fun hH2 => ?_)
        clear hK K_ hH
        have hH := hH2; clear hH2
        (try simp only [Act.put, kS, kZ, kC])
        refine tk at10 ?_
        refine tk at11 ?_
        refine wpAnyH_ready (rs := [12]) (by kernel_rfl) (by simp) ?_
        refine AllReadyH.cons at12 (fun K_ hK => ?_) AllReadyH.nil
        have pg := (HP.out.cell H.out).1
        have qg := (HP.out.cell H.out).2
        go_simp
        clear pg qg
        have K6 := Lib.hid (HP.out.other K5.out K.out.ne)
        refine hK.out _ _ (K6.out.at.1 2) (fun hH2 => ?_)
        clear hK K_ hH
        have hH := hH2; clear hH2
        (try simp only [Act.put, kS, kZ, kC])
        refine wpAnyH_done (by kernel_rfl) ?_ _
        clear hH
        obtain ⟨w24, hv, h2_, g2_⟩ := HP.out.done2 H.out
        rw [← hv]
        clear hv K5 K6 HP
        clear J
        replace H := Lib.hid h2_
        replace G := Lib.hid (G.out.trans g2_)
        replace F := Lib.hid (F.out.wg g2_)
        replace T := Lib.hid (T.out.keepG (g2_.below (Nat.le_refl _) (Nat.le_of_lt hgw)))
        replace K := Lib.hid (K.out.wg g2_)
        replace hgw := Nat.lt_of_lt_of_le hgw g2_.size
        clear h2_ g2_
        go_wp2_with fail
        refine bodyPost_end (results_none rfl _ _ _) rfl ?_
        exact ⟨rfl, _, by have := H.out; simpa using this, G.out⟩
    · skip
      go_simp
      refine nmW (w14.alloc (.cells #[.int .i64 1, .string ⟨(Lib.decDigits n.toNat).toArray⟩, .int .i64 n, .int .i64 0] 55)) fun w25 hv => ?_
      rw [← hv]
      have J : Hid (Bx w25 w14.heap.size 55 (tokCells (⟨1, Lib.decDigits n.toNat, n.toNat, 0⟩)).toArray) := by show Bx _ _ _ _; rw [hv, show tokCells ⟨1, Lib.decDigits n.toNat, n.toNat, 0⟩ = [.int .i64 1, .string ⟨(Lib.decDigits n.toNat).toArray⟩, .int .i64 n, .int .i64 0] by unfold tokCells; dsimp only; rw [show ((n.toNat : Nat) : Int) = n from Int.toNat_of_nonneg HN0.out]; rfl]; exact bx1 _ _ _
      have hb_ := bah hv
      clear hv
      replace H := Lib.hid (H.out.keep hb_)
      replace G := Lib.hid (G.out.call hb_)
      replace F := Lib.hid (F.out.keep hb_)
      replace T := Lib.hid (T.out.keepG (hb_.mono (Nat.le_of_lt hgw)))
      replace K := Lib.hid (K.out.keep hb_)
      replace hgw := Nat.lt_of_lt_of_le hgw hb_.size
      have z13_ := hb_.size
      clear hb_
      refine hK.out _ _ (K.out.bx.at.1 1) (fun hH2 => ?_)
      clear hK K_ hH
      have hH := hH2; clear hH2
      (try simp only [Act.put, kS, kZ, kC])
      refine wpAnyH_ready (rs := [4]) (by kernel_rfl) (by simp) ?_
      refine AllReadyH.cons at4 (fun K_ hK => ?_) AllReadyH.nil
      have pg : w25.cell? ⟨g, 0, none⟩ = some _ := H.out.bx.at.1 0
      go_simp
      clear pg
      refine hK.out _ _ (K.out.bx.at.1 1) (fun hH2 => ?_)
      clear hK K_ hH
      have hH := hH2; clear hH2
      (try simp only [Act.put, kS, kZ, kC])
      refine wpAnyH_ready (rs := [12]) (by kernel_rfl) (by simp) ?_
      refine AllReadyH.cons at12 (fun K_ hK => ?_) AllReadyH.nil
      refine wp_pushT H.out elemTok (⟨1, Lib.decDigits n.toNat, n.toNat, 0⟩) J.out (by have := HN.out; simp at this ⊢; omega) (by have := HN.out; simp at this ⊢; omega) rfl rfl rfl (fun v_ w26 hp => ?_)
      obtain ⟨a_, n_, c_, rfl⟩ := hp.shape
      have HP := Lib.hid hp
      have K5 := Lib.hid (K.out.bx.beside hp.gr K.out.own)
      clear hp
      refine hK.out _ _ (K5.out.at.1 1) (fun hH2 => ?_)
      clear hK K_ hH
      have hH := hH2; clear hH2
      (try simp only [Act.put, kS, kZ, kC])
      refine tk at13 ?_
      refine tk at14 ?_
      refine wpAnyH_ready (rs := [15]) (by kernel_rfl) (by simp) ?_
      refine AllReadyH.cons at15 (fun K_ hK => ?_) AllReadyH.nil
      have pg := (HP.out.cell H.out).1
      have qg := (HP.out.cell H.out).2
      go_simp
      clear pg qg
      have K6 := Lib.hid (HP.out.other K5.out K.out.ne)
      refine hK.out _ _ (K6.out.at.1 1) (fun hH2 => ?_)
      clear hK K_ hH
      have hH := hH2; clear hH2
      (try simp only [Act.put, kS, kZ, kC])
      refine wpAnyH_done (by kernel_rfl) ?_ _
      clear hH
      obtain ⟨w27, hv, h2_, g2_⟩ := HP.out.done2 H.out
      rw [← hv]
      clear hv K5 K6 HP
      clear J
      replace H := Lib.hid h2_
      replace G := Lib.hid (G.out.trans g2_)
      replace F := Lib.hid (F.out.wg g2_)
      replace T := Lib.hid (T.out.keepG (g2_.below (Nat.le_refl _) (Nat.le_of_lt hgw)))
      replace K := Lib.hid (K.out.wg g2_)
      replace hgw := Nat.lt_of_lt_of_le hgw g2_.size
      clear h2_ g2_
      refine K.out.bx.q5 fun pK_0 pK_1 pK_2 pK_3 pK_4 => ?_
      go_upto_region 11 with fail
      clear pK_0 pK_1 pK_2 pK_3 pK_4
      refine nmW w27.drew fun w28 hW => ?_
      have hb_ := bdh hW
      replace H := Lib.hid (H.out.keep hb_)
      replace G := Lib.hid (G.out.call hb_)
      replace F := Lib.hid (F.out.keep hb_)
      replace T := Lib.hid (T.out.keepG (hb_.mono (Nat.le_of_lt hgw)))
      replace K := Lib.hid (K.out.keep hb_)
      replace hgw := Nat.lt_of_lt_of_le hgw hb_.size
      have z14_ := hb_.size
      clear hb_
      refine wp_region_held_drew (S := (fun w' => w'.cell? ⟨w.heap.size, 2, none⟩ = some (.string ⟨u.toArray⟩))) (by kernel_rfl) (by rw [← hW]; exact K.out.bx.at.1 2) (fun hH => ?_)
      rw [← hW] at hH ⊢
      clear hW
      refine tk at0 ?_
      refine tk at1 ?_
      refine tk at2 ?_
      refine tk at3 ?_
      refine tk at5 ?_
      refine tk at6 (v := .string ⟨u.toArray⟩) ?_
      refine tk at7 ?_
      refine wpAnyH_ready (rs := [4, 8]) (by kernel_rfl) (by simp) ?_
      refine AllReadyH.cons at4 (fun K_ hK => ?_) (AllReadyH.cons at8 (fun K_ hK => ?_) AllReadyH.nil)
      · skip
        have pg : w28.cell? ⟨g, 0, none⟩ = some _ := H.out.bx.at.1 0
        go_simp
        clear pg
        refine hK.out _ _ (K.out.bx.at.1 2) (fun hH2 => ?_)
        clear hK K_ hH
        have hH := hH2; clear hH2
        (try simp only [Act.put, kS, kZ, kC])
        refine wpAnyH_ready (rs := [8]) (by kernel_rfl) (by simp) ?_
        refine AllReadyH.cons at8 (fun K_ hK => ?_) AllReadyH.nil
        go_simp
        refine nmW (w28.alloc (.cells #[.int .i64 2, .string ⟨u.toArray⟩, .int .i64 0, .int .i64 0] 55)) fun w29 hv => ?_
        rw [← hv]
        have J : Hid (Bx w29 w28.heap.size 55 (tokCells (⟨2, u, 0, 0⟩)).toArray) := by show Bx _ _ _ _; rw [hv, show tokCells ⟨2, u, 0, 0⟩ = [.int .i64 2, .string ⟨u.toArray⟩, .int .i64 0, .int .i64 0] from rfl]; exact bx1 _ _ _
        have hb_ := bah hv
        clear hv
        replace H := Lib.hid (H.out.keep hb_)
        replace G := Lib.hid (G.out.call hb_)
        replace F := Lib.hid (F.out.keep hb_)
        replace T := Lib.hid (T.out.keepG (hb_.mono (Nat.le_of_lt hgw)))
        replace K := Lib.hid (K.out.keep hb_)
        replace hgw := Nat.lt_of_lt_of_le hgw hb_.size
        have z15_ := hb_.size
        clear hb_
        refine hK.out _ _ (K.out.bx.at.1 2) (fun hH2 => ?_)
        clear hK K_ hH
        have hH := hH2; clear hH2
        (try simp only [Act.put, kS, kZ, kC])
        refine wpAnyH_ready (rs := [9]) (by kernel_rfl) (by simp) ?_
        refine AllReadyH.cons at9 (fun K_ hK => ?_) AllReadyH.nil
        refine wp_pushT H.out elemTok (⟨2, u, 0, 0⟩) J.out (by have := HN.out; simp at this ⊢; omega) (by have := HN.out; simp at this ⊢; omega) rfl rfl rfl (fun v_ w30 hp => ?_)
        obtain ⟨a_, n_, c_, rfl⟩ := hp.shape
        have HP := Lib.hid hp
        have K5 := Lib.hid (K.out.bx.beside hp.gr K.out.own)
        clear hp
        refine hK.out _ _ (K5.out.at.1 2) (fun hH2 => ?_)
        clear hK K_ hH
        have hH := hH2; clear hH2
        (try simp only [Act.put, kS, kZ, kC])
        refine tk at10 ?_
        refine tk at11 ?_
        refine wpAnyH_ready (rs := [12]) (by kernel_rfl) (by simp) ?_
        refine AllReadyH.cons at12 (fun K_ hK => ?_) AllReadyH.nil
        have pg := (HP.out.cell H.out).1
        have qg := (HP.out.cell H.out).2
        go_simp
        clear pg qg
        have K6 := Lib.hid (HP.out.other K5.out K.out.ne)
        refine hK.out _ _ (K6.out.at.1 2) (fun hH2 => ?_)
        clear hK K_ hH
        have hH := hH2; clear hH2
        (try simp only [Act.put, kS, kZ, kC])
        refine wpAnyH_done (by kernel_rfl) ?_ _
        clear hH
        obtain ⟨w31, hv, h2_, g2_⟩ := HP.out.done2 H.out
        rw [← hv]
        clear hv K5 K6 HP
        clear J
        replace H := Lib.hid h2_
        replace G := Lib.hid (G.out.trans g2_)
        replace F := Lib.hid (F.out.wg g2_)
        replace T := Lib.hid (T.out.keepG (g2_.below (Nat.le_refl _) (Nat.le_of_lt hgw)))
        replace K := Lib.hid (K.out.wg g2_)
        replace hgw := Nat.lt_of_lt_of_le hgw g2_.size
        clear h2_ g2_
        go_wp2_with fail
        refine bodyPost_end (results_none rfl _ _ _) rfl ?_
        exact ⟨rfl, _, by have := H.out; simpa using this, G.out⟩
      · skip
        go_simp
        refine nmW (w28.alloc (.cells #[.int .i64 2, .string ⟨u.toArray⟩, .int .i64 0, .int .i64 0] 55)) fun w32 hv => ?_
        rw [← hv]
        have J : Hid (Bx w32 w28.heap.size 55 (tokCells (⟨2, u, 0, 0⟩)).toArray) := by show Bx _ _ _ _; rw [hv, show tokCells ⟨2, u, 0, 0⟩ = [.int .i64 2, .string ⟨u.toArray⟩, .int .i64 0, .int .i64 0] from rfl]; exact bx1 _ _ _
        have hb_ := bah hv
        clear hv
        replace H := Lib.hid (H.out.keep hb_)
        replace G := Lib.hid (G.out.call hb_)
        replace F := Lib.hid (F.out.keep hb_)
        replace T := Lib.hid (T.out.keepG (hb_.mono (Nat.le_of_lt hgw)))
        replace K := Lib.hid (K.out.keep hb_)
        replace hgw := Nat.lt_of_lt_of_le hgw hb_.size
        have z16_ := hb_.size
        clear hb_
        refine hK.out _ _ (K.out.bx.at.1 2) (fun hH2 => ?_)
        clear hK K_ hH
        have hH := hH2; clear hH2
        (try simp only [Act.put, kS, kZ, kC])
        refine wpAnyH_ready (rs := [4]) (by kernel_rfl) (by simp) ?_
        refine AllReadyH.cons at4 (fun K_ hK => ?_) AllReadyH.nil
        have pg : w32.cell? ⟨g, 0, none⟩ = some _ := H.out.bx.at.1 0
        go_simp
        clear pg
        refine hK.out _ _ (K.out.bx.at.1 2) (fun hH2 => ?_)
        clear hK K_ hH
        have hH := hH2; clear hH2
        (try simp only [Act.put, kS, kZ, kC])
        refine wpAnyH_ready (rs := [9]) (by kernel_rfl) (by simp) ?_
        refine AllReadyH.cons at9 (fun K_ hK => ?_) AllReadyH.nil
        refine wp_pushT H.out elemTok (⟨2, u, 0, 0⟩) J.out (by have := HN.out; simp at this ⊢; omega) (by have := HN.out; simp at this ⊢; omega) rfl rfl rfl (fun v_ w33 hp => ?_)
        obtain ⟨a_, n_, c_, rfl⟩ := hp.shape
        have HP := Lib.hid hp
        have K5 := Lib.hid (K.out.bx.beside hp.gr K.out.own)
        clear hp
        refine hK.out _ _ (K5.out.at.1 2) (fun hH2 => ?_)
        clear hK K_ hH
        have hH := hH2; clear hH2
        (try simp only [Act.put, kS, kZ, kC])
        refine tk at10 ?_
        refine tk at11 ?_
        refine wpAnyH_ready (rs := [12]) (by kernel_rfl) (by simp) ?_
        refine AllReadyH.cons at12 (fun K_ hK => ?_) AllReadyH.nil
        have pg := (HP.out.cell H.out).1
        have qg := (HP.out.cell H.out).2
        go_simp
        clear pg qg
        have K6 := Lib.hid (HP.out.other K5.out K.out.ne)
        refine hK.out _ _ (K6.out.at.1 2) (fun hH2 => ?_)
        clear hK K_ hH
        have hH := hH2; clear hH2
        (try simp only [Act.put, kS, kZ, kC])
        refine wpAnyH_done (by kernel_rfl) ?_ _
        clear hH
        obtain ⟨w34, hv, h2_, g2_⟩ := HP.out.done2 H.out
        rw [← hv]
        clear hv K5 K6 HP
        clear J
        replace H := Lib.hid h2_
        replace G := Lib.hid (G.out.trans g2_)
        replace F := Lib.hid (F.out.wg g2_)
        replace T := Lib.hid (T.out.keepG (g2_.below (Nat.le_refl _) (Nat.le_of_lt hgw)))
        replace K := Lib.hid (K.out.wg g2_)
        replace hgw := Nat.lt_of_lt_of_le hgw g2_.size
        clear h2_ g2_
        go_wp2_with fail
        refine bodyPost_end (results_none rfl _ _ _) rfl ?_
        exact ⟨rfl, _, by have := H.out; simpa using this, G.out⟩
end Go.Proofs.YtckgmilmhofekaaGreatDoor
namespace Go.Proofs.YtckgmilmhofekaaGreatDoor
open Go.RowKit

def ifW (a b c : List Tok) : Nat → List Tok
 | 0 => []
 | 1 => [tkN wIf] ++ a
 | 2 => [tkN wIf] ++ (a ++ ([tkN wThen] ++ b))
 | _ => [tkN wIf] ++ (a ++ ([tkN wThen] ++ (b ++ ([tkN wElse] ++ c))))
set_option maxRecDepth 100000 in
set_option maxHeartbeats 4000000 in
theorem wexpr_5 {a : Fo} (hi : ∀ x ∈ a.list, WxOK x.args) (hal : a.len ≤ 9223372036854775807) {w : World} {op n : Int} {u m : Bytes} {q : Option Addr} {d g : Nat} {v : Value} {ts : List Tok} (hs : shF a = true) (hS : FoS (fun b => b < g) w q d a) (hW : Wr w g v ts) (hT : PowT g w) (h0 : op = 5) {x y z : Ex} (hx : a.list[0]? = some x) (hy : a.list[1]? = some y) (hz : a.list[2]? = some z) (hn : ts.length + (toksX ⟨op, n, u, m, a⟩).length ≤ 1000000000) :
    Calls Tryz.prog 27 #[.pointer (some ⟨g, 0, none⟩), .agg (hdC ⟨op, n, u, m, a⟩ q d).toArray] w (WP g v w ts (toksX ⟨op, n, u, m, a⟩)) := by
  have H := Lib.hid hW; have F := Lib.hid hS; have T := Lib.hid hT
  have hgw := hW.bx.lt
  have G := Lib.hid hW.wg
  obtain rfl : op = 5 := h0
  have Hx := Lib.hid hx; clear hx
  have Hy := Lib.hid hy; clear hy
  have Hz := Lib.hid hz; clear hz
  obtain ⟨b, o, _, _, rfl, _⟩ := hS.at Hx.out
  rw [exT_if n u m Hx.out Hy.out Hz.out] at hn ⊢
  have HN := Lib.hid hn; have HX := Lib.hid hi; have HS := Lib.hid hs; clear hi hs hW hS hT hn
  unfold hdC
  go_enter Tryz.func27, Tryz.ntmps27
  go_upto_region 1 with fail
  refine nmW (w.alloc (.cells #[.int .i64 5, .int .i64 n, .string ⟨u.toArray⟩, .string ⟨m.toArray⟩, .slice (some ⟨b, o, none⟩) a.len d] 24)) fun w1 hv => ?_
  rw [← hv]
  have K : Hid (BxW w1 g _ w.heap.size 24 #[.int .i64 5, .int .i64 n, .string ⟨u.toArray⟩, .string ⟨m.toArray⟩, .slice (some ⟨b, o, none⟩) a.len d]) := bxW_new H.out hv
  have hb_ := bah hv
  clear hv
  replace H := Lib.hid (H.out.keep hb_)
  replace G := Lib.hid (G.out.call hb_)
  replace F := Lib.hid (F.out.keep hb_)
  replace T := Lib.hid (T.out.keepG (hb_.mono (Nat.le_of_lt hgw)))
  replace hgw := Nat.lt_of_lt_of_le hgw hb_.size
  have z1_ := hb_.size
  clear hb_
  refine K.out.bx.q5 fun pK_0 pK_1 pK_2 pK_3 pK_4 => ?_
  go_wp2_with fail
  clear pK_0 pK_1 pK_2 pK_3 pK_4
  refine nmW (w1.alloc (.cells #[.string ⟨#[105, 102]⟩, .string ⟨#[116, 104, 101, 110]⟩, .string ⟨#[101, 108, 115, 101]⟩] 9)) fun w2 hv => ?_
  rw [← hv]
  have S : Hid (BxW w2 g _ w1.heap.size 9 #[.string ⟨#[105, 102]⟩, .string ⟨#[116, 104, 101, 110]⟩, .string ⟨#[101, 108, 115, 101]⟩]) := bxW_new H.out hv
  have hb_ := bah hv
  clear hv
  replace H := Lib.hid (H.out.keep hb_)
  replace G := Lib.hid (G.out.call hb_)
  replace F := Lib.hid (F.out.keep hb_)
  replace T := Lib.hid (T.out.keepG (hb_.mono (Nat.le_of_lt hgw)))
  replace K := Lib.hid (K.out.keep hb_)
  replace hgw := Nat.lt_of_lt_of_le hgw hb_.size
  have z2_ := hb_.size
  clear hb_
  go_loopw [134] (fun i wr => ∃ (j : Nat) (vv : Value), i = .int .i64 (j : Int) ∧ j ≤ 3 ∧ g < wr.heap.size ∧ Hid (Wr wr g vv (ts ++ ifW (wrapT x.op (toksX x)) (wrapT y.op (toksX y)) (wrapT z.op (toksX z)) j)) ∧ Hid (Wg g v vv w wr) ∧ Hid (FoS (fun b => b < g) wr (some ⟨b, o, none⟩) d a) ∧ Hid (PowT g wr) ∧ Hid (BxW wr g vv w.heap.size 24 #[.int .i64 5, .int .i64 n, .string ⟨u.toArray⟩, .string ⟨m.toArray⟩, .slice (some ⟨b, o, none⟩) a.len d]) ∧ Hid (BxW wr g vv w1.heap.size 9 #[.string ⟨#[105, 102]⟩, .string ⟨#[116, 104, 101, 110]⟩, .string ⟨#[101, 108, 115, 101]⟩])) (fun i _ => 3 - (intOf i).toNat)
  case atStart => exact ⟨0, v, rfl, by omega, hgw, by show Wr _ _ _ _; have := H.out; rw [show ts ++ ifW (wrapT x.op (toksX x)) (wrapT y.op (toksX y)) (wrapT z.op (toksX z)) 0 = ts from List.append_nil _]; exact this, G, F, T, K, S⟩
  case round =>
    clear H G F T K S hgw
    obtain ⟨j, vv, rfl, hj, hgw, H, G, F, T, K, S⟩ := hrel
    obtain rfl | rfl | rfl | rfl : j = 0 ∨ j = 1 ∨ j = 2 ∨ j = 3 := by omega
    · replace H : Hid (Wr wr g vv (ts ++ ([]))) := H
      have s0 := S.out.bx.at.1 0
      refine K.out.bx.q5 fun pK_0 pK_1 pK_2 pK_3 pK_4 => ?_
      go_wp2_with fail
      clear pK_0 pK_1 pK_2 pK_3 pK_4 s0
      refine (wname_ok H.out (by have := HN.out; simp at this ⊢; omega) ⟨#[105, 102]⟩).mono ?_
      rintro e w3 ⟨rfl, v1, h2_, g2_⟩
      replace H := Lib.hid h2_
      replace G := Lib.hid (G.out.trans g2_)
      replace F := Lib.hid (F.out.wg g2_)
      replace T := Lib.hid (T.out.keepG (g2_.below (Nat.le_refl _) (Nat.le_of_lt hgw)))
      replace K := Lib.hid (K.out.wg g2_)
      replace S := Lib.hid (S.out.wg g2_)
      replace hgw := Nat.lt_of_lt_of_le hgw g2_.size
      clear h2_ g2_
      obtain ⟨q1, d1, hb_, hcell, hs_⟩ := F.out.cells Hx.out
      have F1 := Lib.hid hs_; clear hs_
      have c0 : w3.cell? ⟨b, o, none⟩ = some (.int .i64 x.op) := by have := hcell 0 _ rfl; simpa using this
      have c1 : w3.cell? ⟨b, o + 1, none⟩ = some (.int .i64 x.n) := by have := hcell 1 _ rfl; simpa using this
      have c2 : w3.cell? ⟨b, o + 2, none⟩ = some (.string ⟨x.unit.toArray⟩) := by have := hcell 2 _ rfl; simpa using this
      have c3 : w3.cell? ⟨b, o + 3, none⟩ = some (.string ⟨x.name.toArray⟩) := by have := hcell 3 _ rfl; simpa using this
      have c4 : w3.cell? ⟨b, o + 4, none⟩ = some (.slice q1 x.args.len d1) := by have := hcell 4 _ rfl; simpa using this
      clear hcell
      have l1 := (List.getElem?_eq_some_iff.1 Hx.out).1
      rw [Fo.len_list] at l1
      have i1 : (0 : Int) < (a.len : Int) := by omega
      refine K.out.bx.q5 fun pK_0 pK_1 pK_2 pK_3 pK_4 => ?_
      have HAT := Lib.hid (watom_ok (HX.out _ (List.mem_of_getElem? Hx.out)) (shF_mem HS.out (List.mem_of_getElem? Hx.out)) F1.out H.out T.out (by have := HN.out; simp at this ⊢; omega))
      unfold hdC at HAT
      go_wp2_with fail
      clear pK_0 pK_1 pK_2 pK_3 pK_4
      clear c0 c1 c2 c3 c4
      refine (HAT.out).mono ?_
      rintro e w4 ⟨rfl, e1, h2_, g2_⟩
      replace H := Lib.hid h2_
      replace G := Lib.hid (G.out.trans g2_)
      replace F := Lib.hid (F.out.wg g2_)
      replace T := Lib.hid (T.out.keepG (g2_.below (Nat.le_refl _) (Nat.le_of_lt hgw)))
      replace K := Lib.hid (K.out.wg g2_)
      replace S := Lib.hid (S.out.wg g2_)
      replace F1 := Lib.hid (F1.out.wg g2_)
      replace hgw := Nat.lt_of_lt_of_le hgw g2_.size
      clear h2_ g2_
      clear HAT
      clear F1
      go_wp2_with fail
      go_roundw
      case rel => exact ⟨1, e1, by go_num, by omega, hgw, by show Wr _ _ _ (ts ++ ([tkN wIf] ++ wrapT x.op (toksX x))); have := H.out; rw [show (ByteArray.mk #[105, 102]).toList = wIf by rw [Lib.toList_data]; rfl] at this; simpa using this, G, F, T, K, S⟩
      case measure => simp [intOf] <;> omega
    · replace H : Hid (Wr wr g vv (ts ++ ([tkN wIf] ++ wrapT x.op (toksX x)))) := H
      have s0 := S.out.bx.at.1 1
      refine K.out.bx.q5 fun pK_0 pK_1 pK_2 pK_3 pK_4 => ?_
      go_wp2_with fail
      clear pK_0 pK_1 pK_2 pK_3 pK_4 s0
      refine (wname_ok H.out (by have := HN.out; simp at this ⊢; omega) ⟨#[116, 104, 101, 110]⟩).mono ?_
      rintro e w5 ⟨rfl, v1, h2_, g2_⟩
      replace H := Lib.hid h2_
      replace G := Lib.hid (G.out.trans g2_)
      replace F := Lib.hid (F.out.wg g2_)
      replace T := Lib.hid (T.out.keepG (g2_.below (Nat.le_refl _) (Nat.le_of_lt hgw)))
      replace K := Lib.hid (K.out.wg g2_)
      replace S := Lib.hid (S.out.wg g2_)
      replace hgw := Nat.lt_of_lt_of_le hgw g2_.size
      clear h2_ g2_
      obtain ⟨q1, d1, hb_, hcell, hs_⟩ := F.out.cells Hy.out
      have F1 := Lib.hid hs_; clear hs_
      have c0 : w5.cell? ⟨b, o + 5, none⟩ = some (.int .i64 y.op) := by have := hcell 0 _ rfl; simpa using this
      have c1 : w5.cell? ⟨b, o + 6, none⟩ = some (.int .i64 y.n) := by have := hcell 1 _ rfl; simpa using this
      have c2 : w5.cell? ⟨b, o + 7, none⟩ = some (.string ⟨y.unit.toArray⟩) := by have := hcell 2 _ rfl; simpa using this
      have c3 : w5.cell? ⟨b, o + 8, none⟩ = some (.string ⟨y.name.toArray⟩) := by have := hcell 3 _ rfl; simpa using this
      have c4 : w5.cell? ⟨b, o + 9, none⟩ = some (.slice q1 y.args.len d1) := by have := hcell 4 _ rfl; simpa using this
      clear hcell
      have l1 := (List.getElem?_eq_some_iff.1 Hy.out).1
      rw [Fo.len_list] at l1
      have i1 : (1 : Int) < (a.len : Int) := by omega
      refine K.out.bx.q5 fun pK_0 pK_1 pK_2 pK_3 pK_4 => ?_
      have HAT := Lib.hid (watom_ok (HX.out _ (List.mem_of_getElem? Hy.out)) (shF_mem HS.out (List.mem_of_getElem? Hy.out)) F1.out H.out T.out (by have := HN.out; simp at this ⊢; omega))
      unfold hdC at HAT
      go_wp2_with fail
      clear pK_0 pK_1 pK_2 pK_3 pK_4
      clear c0 c1 c2 c3 c4
      refine (HAT.out).mono ?_
      rintro e w6 ⟨rfl, e1, h2_, g2_⟩
      replace H := Lib.hid h2_
      replace G := Lib.hid (G.out.trans g2_)
      replace F := Lib.hid (F.out.wg g2_)
      replace T := Lib.hid (T.out.keepG (g2_.below (Nat.le_refl _) (Nat.le_of_lt hgw)))
      replace K := Lib.hid (K.out.wg g2_)
      replace S := Lib.hid (S.out.wg g2_)
      replace F1 := Lib.hid (F1.out.wg g2_)
      replace hgw := Nat.lt_of_lt_of_le hgw g2_.size
      clear h2_ g2_
      clear HAT
      clear F1
      go_wp2_with fail
      go_roundw
      case rel => exact ⟨2, e1, by go_num, by omega, hgw, by show Wr _ _ _ (ts ++ ([tkN wIf] ++ (wrapT x.op (toksX x) ++ ([tkN wThen] ++ wrapT y.op (toksX y))))); have := H.out; rw [show (ByteArray.mk #[116, 104, 101, 110]).toList = wThen by rw [Lib.toList_data]; rfl] at this; simpa using this, G, F, T, K, S⟩
      case measure => simp [intOf] <;> omega
    · replace H : Hid (Wr wr g vv (ts ++ ([tkN wIf] ++ (wrapT x.op (toksX x) ++ ([tkN wThen] ++ wrapT y.op (toksX y)))))) := H
      have s0 := S.out.bx.at.1 2
      refine K.out.bx.q5 fun pK_0 pK_1 pK_2 pK_3 pK_4 => ?_
      go_wp2_with fail
      clear pK_0 pK_1 pK_2 pK_3 pK_4 s0
      refine (wname_ok H.out (by have := HN.out; simp at this ⊢; omega) ⟨#[101, 108, 115, 101]⟩).mono ?_
      rintro e w7 ⟨rfl, v1, h2_, g2_⟩
      replace H := Lib.hid h2_
      replace G := Lib.hid (G.out.trans g2_)
      replace F := Lib.hid (F.out.wg g2_)
      replace T := Lib.hid (T.out.keepG (g2_.below (Nat.le_refl _) (Nat.le_of_lt hgw)))
      replace K := Lib.hid (K.out.wg g2_)
      replace S := Lib.hid (S.out.wg g2_)
      replace hgw := Nat.lt_of_lt_of_le hgw g2_.size
      clear h2_ g2_
      obtain ⟨q1, d1, hb_, hcell, hs_⟩ := F.out.cells Hz.out
      have F1 := Lib.hid hs_; clear hs_
      have c0 : w7.cell? ⟨b, o + 10, none⟩ = some (.int .i64 z.op) := by have := hcell 0 _ rfl; simpa using this
      have c1 : w7.cell? ⟨b, o + 11, none⟩ = some (.int .i64 z.n) := by have := hcell 1 _ rfl; simpa using this
      have c2 : w7.cell? ⟨b, o + 12, none⟩ = some (.string ⟨z.unit.toArray⟩) := by have := hcell 2 _ rfl; simpa using this
      have c3 : w7.cell? ⟨b, o + 13, none⟩ = some (.string ⟨z.name.toArray⟩) := by have := hcell 3 _ rfl; simpa using this
      have c4 : w7.cell? ⟨b, o + 14, none⟩ = some (.slice q1 z.args.len d1) := by have := hcell 4 _ rfl; simpa using this
      clear hcell
      have l1 := (List.getElem?_eq_some_iff.1 Hz.out).1
      rw [Fo.len_list] at l1
      have i1 : (2 : Int) < (a.len : Int) := by omega
      refine K.out.bx.q5 fun pK_0 pK_1 pK_2 pK_3 pK_4 => ?_
      have HAT := Lib.hid (watom_ok (HX.out _ (List.mem_of_getElem? Hz.out)) (shF_mem HS.out (List.mem_of_getElem? Hz.out)) F1.out H.out T.out (by have := HN.out; simp at this ⊢; omega))
      unfold hdC at HAT
      go_wp2_with fail
      clear pK_0 pK_1 pK_2 pK_3 pK_4
      clear c0 c1 c2 c3 c4
      refine (HAT.out).mono ?_
      rintro e w8 ⟨rfl, e1, h2_, g2_⟩
      replace H := Lib.hid h2_
      replace G := Lib.hid (G.out.trans g2_)
      replace F := Lib.hid (F.out.wg g2_)
      replace T := Lib.hid (T.out.keepG (g2_.below (Nat.le_refl _) (Nat.le_of_lt hgw)))
      replace K := Lib.hid (K.out.wg g2_)
      replace S := Lib.hid (S.out.wg g2_)
      replace F1 := Lib.hid (F1.out.wg g2_)
      replace hgw := Nat.lt_of_lt_of_le hgw g2_.size
      clear h2_ g2_
      clear HAT
      clear F1
      go_wp2_with fail
      go_roundw
      case rel => exact ⟨3, e1, by go_num, by omega, hgw, by show Wr _ _ _ (ts ++ ([tkN wIf] ++ (wrapT x.op (toksX x) ++ ([tkN wThen] ++ (wrapT y.op (toksX y) ++ ([tkN wElse] ++ wrapT z.op (toksX z))))))); have := H.out; rw [show (ByteArray.mk #[101, 108, 115, 101]).toList = wElse by rw [Lib.toList_data]; rfl] at this; simpa using this, G, F, T, K, S⟩
      case measure => simp [intOf] <;> omega
    · replace H : Hid (Wr wr g vv (ts ++ ([tkN wIf] ++ (wrapT x.op (toksX x) ++ ([tkN wThen] ++ (wrapT y.op (toksX y) ++ ([tkN wElse] ++ wrapT z.op (toksX z)))))))) := H
      go_wp2_with fail
      refine bodyPost_end (results_none rfl _ _ _) rfl ?_
      exact ⟨rfl, vv, H.out, G.out⟩
theorem list_at {a : Fo} {k : Nat} (h : k < a.len) : ∃ x, a.list[k]? = some x := ⟨_, List.getElem?_eq_getElem (by rw [Fo.len_list]; exact h)⟩
theorem wexpr_all (a : Fo) : WxOK a := Fo.ind (fun a hi w op n u m q d g v ts hs hS hW hT hn => by
  rw [shF_one, Bool.and_eq_true] at hs
  obtain ⟨hnb, hsa⟩ := hs
  have hal : a.len ≤ 9223372036854775807 := by
    have hc : nodeB op n u m a.len = true := hnb
    rcases node_cases hc with ⟨-, -, -, -, -, h⟩ | ⟨-, -, h⟩
    · omega
    · rcases h with ⟨-, -, h⟩ | ⟨-, -, h⟩ | ⟨-, -, -, h⟩ | ⟨-, -, h⟩ | ⟨-, -, h⟩ | ⟨-, -, h⟩ | ⟨-, -, h⟩ <;> omega
  have hc : nodeB op n u m a.len = true := hnb
  rcases node_cases hc with ⟨h0, -, h1, h2, -, -⟩ | ⟨-, -, h⟩
  · by_cases hu : u = []
    · exact wexpr_n hi hal hsa hS hW hT h0 h1 h2 hu hn
    · exact wexpr_u hi hal hsa hS hW hT h0 h1 h2 hu hn
  · rcases h with ⟨h0, -, -⟩ | ⟨h0, -, -⟩ | ⟨h0, -, -, -⟩ | ⟨h0, -, h⟩ | ⟨h0, -, h⟩ | ⟨h0 | h0, -, -⟩ | ⟨h0, -, h⟩
    · exact wexpr_1 hi hal hsa hS hW hT h0 hn
    · exact wexpr_2 hi hal hsa hS hW hT h0 hn
    · exact wexpr_3 hi hal hsa hS hW hT h0 hn
    · obtain ⟨x, hx⟩ := list_at (a := a) (k := 0) (by omega)
      exact wexpr_4 hi hal hsa hS hW hT h0 hx hn
    · obtain ⟨x, hx⟩ := list_at (a := a) (k := 0) (by omega)
      obtain ⟨y, hy⟩ := list_at (a := a) (k := 1) (by omega)
      obtain ⟨z, hz⟩ := list_at (a := a) (k := 2) (by omega)
      exact wexpr_5 hi hal hsa hS hW hT h0 hx hy hz hn
    · exact wexpr_10 hi hal hsa hS hW hT h0 hn
    · exact wexpr_11 hi hal hsa hS hW hT h0 hn
    · obtain ⟨x, hx⟩ := list_at (a := a) (k := 0) (by omega)
      obtain ⟨y, hy⟩ := list_at (a := a) (k := 1) (by omega)
      rcases h0 with h0 | h0 | h0 | h0 | h0 | h0 | h0 | h0
      · exact wexpr_s hi hal hsa hS hW hT (by omega) hx hy hn
      · exact wexpr_s hi hal hsa hS hW hT (by omega) hx hy hn
      · exact wexpr_s hi hal hsa hS hW hT (by omega) hx hy hn
      · exact wexpr_s hi hal hsa hS hW hT (by omega) hx hy hn
      · exact wexpr_s hi hal hsa hS hW hT (by omega) hx hy hn
      · exact wexpr_s hi hal hsa hS hW hT (by omega) hx hy hn
      · exact wexpr_14 hi hal hsa hS hW hT h0 hx hy hn
      · exact wexpr_15 hi hal hsa hS hW hT h0 hx hy hn) a
end Go.Proofs.YtckgmilmhofekaaGreatDoor
namespace Go.Proofs.YtckgmilmhofekaaGreatDoor
open Go.RowKit

set_option maxRecDepth 100000 in
set_option maxHeartbeats 4000000 in
theorem tokens_no {x : Ex} {D : Nat → Prop} {w : World} {q : Option Addr} {d : Nat} (hsm : smX x) (hS : FoS D w q d x.args) (hT : PowT w.heap.size w) (hr : rightX x = false) :
  Calls Tryz.prog 6 #[.agg (hdC x q d).toArray] w fun e w' => e = .returned (.tuple #[.slice none 0 0, .bool false]) ∧ Below w.heap.size w w' := by
 have F := Lib.hid hS.inH; have T := Lib.hid hT; have SM := Lib.hid hsm; have HR := Lib.hid hr
 have B : Hid (Below w.heap.size w w) := be_refl w
 clear hS hT hsm hr
 unfold hdC
 go_enter Tryz.func6, Tryz.ntmps6
 go_upto_region 1 with fail
 refine nmW (w.alloc (.cells #[.int .i64 x.op, .int .i64 x.n, .string ⟨x.unit.toArray⟩, .string ⟨x.name.toArray⟩, .slice q x.args.len d] 24)) fun w1 hv => ?_
 rw [← hv]
 have K := bxh hv
 have hb_ := bah hv
 clear hv
 have z1_ := K.out.lt
 replace F := Lib.hid (F.out.keep hb_)
 replace B := Lib.hid (be_call B.out hb_)
 replace T := Lib.hid (T.out.keepG (hb_.mono (by omega)))
 have z2_ := hb_.size
 clear hb_
 have HC := Lib.hid (right_ok SM.out F.out)
 rw [HR.out] at HC
 unfold hdC at HC
 refine K.out.q5 fun pK_0 pK_1 pK_2 pK_3 pK_4 => ?_
 go_wp2_with fail
 clear pK_0 pK_1 pK_2 pK_3 pK_4
 refine (HC.out).mono ?_
 rintro e w2 ⟨rfl, hb⟩
 clear HC
 replace F := Lib.hid (F.out.keep hb)
 replace B := Lib.hid (be_call B.out hb)
 replace T := Lib.hid (T.out.keepG (hb.mono (by omega)))
 replace K := Lib.hid (K.out.keep hb)
 have z3_ := hb.size
 clear hb
 go_wp2_with fail
 go_ret2
 exact ⟨rfl, B.out⟩
set_option maxRecDepth 100000 in
set_option maxHeartbeats 4000000 in
theorem tokens_yes {x : Ex} {D : Nat → Prop} {w : World} {q : Option Addr} {d : Nat} (hsm : smX x) (hS : FoS D w q d x.args) (hT : PowT w.heap.size w) (hr : rightX x = true) (hn : (toksX x).length ≤ 1000000000) :
  Calls Tryz.prog 6 #[.agg (hdC x q d).toArray] w fun e w' => ∃ v, e = .returned (.tuple #[v, .bool true]) ∧ ToksIn w' v (toksX x) ∧ Below w.heap.size w w' := by
 have F := Lib.hid hS.inH; have T := Lib.hid hT; have SM := Lib.hid hsm; have HR := Lib.hid hr
 have B : Hid (Below w.heap.size w w) := be_refl w
 clear hS hT hsm hr
 unfold hdC
 go_enter Tryz.func6, Tryz.ntmps6
 go_upto_region 1 with fail
 refine nmW (w.alloc (.cells #[.int .i64 x.op, .int .i64 x.n, .string ⟨x.unit.toArray⟩, .string ⟨x.name.toArray⟩, .slice q x.args.len d] 24)) fun w1 hv => ?_
 rw [← hv]
 have K := bxh hv
 have hb_ := bah hv
 clear hv
 have z1_ := K.out.lt
 replace F := Lib.hid (F.out.keep hb_)
 replace B := Lib.hid (be_call B.out hb_)
 replace T := Lib.hid (T.out.keepG (hb_.mono (by omega)))
 have z2_ := hb_.size
 clear hb_
 have HC := Lib.hid (right_ok SM.out F.out)
 rw [HR.out] at HC
 unfold hdC at HC
 refine K.out.q5 fun pK_0 pK_1 pK_2 pK_3 pK_4 => ?_
 go_wp2_with fail
 clear pK_0 pK_1 pK_2 pK_3 pK_4
 refine (HC.out).mono ?_
 rintro e w2 ⟨rfl, hb⟩
 clear HC
 replace F := Lib.hid (F.out.keep hb)
 replace B := Lib.hid (be_call B.out hb)
 replace T := Lib.hid (T.out.keepG (hb.mono (by omega)))
 replace K := Lib.hid (K.out.keep hb)
 have z3_ := hb.size
 clear hb
 go_upto_region 4 with fail
 refine nmW (w2.alloc (.cells #[.slice none 0 0] 50)) fun w3 hv => ?_
 rw [← hv]
 have N : Bx w3 w2.heap.size 50 #[.slice none 0 0] := by rw [hv]; exact bx1 _ _ _
 have hb_ := bah hv
 clear hv
 replace F := Lib.hid (F.out.keep hb_)
 replace B := Lib.hid (be_call B.out hb_)
 replace T := Lib.hid (T.out.keepG (hb_.mono (by omega)))
 replace K := Lib.hid (K.out.keep hb_)
 have z4_ := hb_.size
 clear hb_
 have H : Wr w3 w2.heap.size (.slice none 0 0) [] := ⟨N, World.ownsRow_nil _ _ _ _⟩
 have hwl : w.heap.size ≤ w2.heap.size := by omega
 have HC := Lib.hid (wexpr_all x.args w3 x.op x.n x.unit x.name q d w2.heap.size _ [] (by have := HR.out; unfold rightX at this; simp at this; exact this.2) (F.out.mono (fun b hb => Nat.lt_of_lt_of_le hb hwl)) H (T.out.mono hwl) (by rw [List.length_nil, Nat.zero_add]; exact hn))
 unfold hdC at HC
 refine K.out.q5 fun pK_0 pK_1 pK_2 pK_3 pK_4 => ?_
 go_wp2_with fail
 clear pK_0 pK_1 pK_2 pK_3 pK_4
 refine HC.out.mono ?_
 rintro e w4 ⟨rfl, v1, h1, g1⟩
 replace B := Lib.hid (B.out.trans (g1.below hwl (by omega)))
 have pv : w4.cell? ⟨w2.heap.size, 0, none⟩ = some v1 := h1.bx.at.1 0
 have TI : Hid (ToksIn w4 v1 (toksX x)) := toksIn_own h1.own
 obtain ⟨a1, c1, hs1⟩ := TI.out.shape
 subst hs1
 clear g1 h1 HC
 go_wp2_with fail
 go_ret2
 exact ⟨_, rfl, TI.out, B.out⟩
set_option maxRecDepth 100000 in
set_option maxHeartbeats 4000000 in
theorem print_no {x : Ex} {D : Nat → Prop} {w : World} {q : Option Addr} {d : Nat} (hsm : smX x) (hS : FoS D w q d x.args) (hT : PowT w.heap.size w) (hr : rightX x = false) :
  Calls Tryz.prog 8 #[.agg (hdC x q d).toArray] w fun e w' => e = .returned (.tuple #[.string ⟨#[]⟩, .bool false]) ∧ Below w.heap.size w w' := by
 have F := Lib.hid hS.inH; have T := Lib.hid hT; have SM := Lib.hid hsm; have HR := Lib.hid hr
 have B : Hid (Below w.heap.size w w) := be_refl w
 clear hS hT hsm hr
 unfold hdC
 go_enter Tryz.func8, Tryz.ntmps8
 go_upto_region 1 with fail
 refine nmW (w.alloc (.cells #[.int .i64 x.op, .int .i64 x.n, .string ⟨x.unit.toArray⟩, .string ⟨x.name.toArray⟩, .slice q x.args.len d] 24)) fun w1 hv => ?_
 rw [← hv]
 have K := bxh hv
 have hb_ := bah hv
 clear hv
 have z1_ := K.out.lt
 replace F := Lib.hid (F.out.keep hb_)
 replace B := Lib.hid (be_call B.out hb_)
 replace T := Lib.hid (T.out.keepG (hb_.mono (by omega)))
 have z2_ := hb_.size
 clear hb_
 have HC := Lib.hid (tokens_no SM.out F.out (T.out.mono (by omega)) HR.out)
 unfold hdC at HC
 refine K.out.q5 fun pK_0 pK_1 pK_2 pK_3 pK_4 => ?_
 go_wp2_with fail
 clear pK_0 pK_1 pK_2 pK_3 pK_4
 refine (HC.out).mono ?_
 rintro e w2 ⟨rfl, hb⟩
 clear HC
 replace F := Lib.hid (F.out.keep hb)
 replace B := Lib.hid (be_call B.out hb)
 replace T := Lib.hid (T.out.keepG (hb.mono (by omega)))
 replace K := Lib.hid (K.out.keep hb)
 have z3_ := hb.size
 clear hb
 go_wp2_with fail
 go_ret2
 exact ⟨rfl, B.out⟩
set_option maxRecDepth 100000 in
set_option maxHeartbeats 4000000 in
theorem print_big {x : Ex} {D : Nat → Prop} {w : World} {q : Option Addr} {d : Nat} (hsm : smX x) (hS : FoS D w q d x.args) (hT : PowT w.heap.size w) (hr : rightX x = true) (hn : (toksX x).length ≤ 1000000000) (ht : ∀ t ∈ toksX x, t.text.length ≤ 137438953472) (hl : (printL (toksX x)).length ≤ 137438953472) (h4 : 4000 < (printL (toksX x)).length) :
  Calls Tryz.prog 8 #[.agg (hdC x q d).toArray] w fun e w' => e = .returned (.tuple #[.string ⟨#[]⟩, .bool false]) ∧ Below w.heap.size w w' := by
 have F := Lib.hid hS.inH; have T := Lib.hid hT; have SM := Lib.hid hsm; have HR := Lib.hid hr
 have B : Hid (Below w.heap.size w w) := be_refl w
 clear hS hT hsm hr
 unfold hdC
 go_enter Tryz.func8, Tryz.ntmps8
 go_upto_region 1 with fail
 refine nmW (w.alloc (.cells #[.int .i64 x.op, .int .i64 x.n, .string ⟨x.unit.toArray⟩, .string ⟨x.name.toArray⟩, .slice q x.args.len d] 24)) fun w1 hv => ?_
 rw [← hv]
 have K := bxh hv
 have hb_ := bah hv
 clear hv
 have z1_ := K.out.lt
 replace F := Lib.hid (F.out.keep hb_)
 replace B := Lib.hid (be_call B.out hb_)
 replace T := Lib.hid (T.out.keepG (hb_.mono (by omega)))
 have z2_ := hb_.size
 clear hb_
 have HN := Lib.hid hn; have HT := Lib.hid ht; have HL := Lib.hid hl; have H4 := Lib.hid h4; clear ht hl h4
 have HC := Lib.hid (tokens_yes SM.out F.out (T.out.mono (by omega)) HR.out HN.out)
 unfold hdC at HC
 refine K.out.q5 fun pK_0 pK_1 pK_2 pK_3 pK_4 => ?_
 go_wp2_with fail
 clear pK_0 pK_1 pK_2 pK_3 pK_4
 refine (HC.out).mono ?_
 rintro e w2 ⟨v1, rfl, ti, hb⟩
 clear HC
 have TI := Lib.hid ti; clear ti
 replace F := Lib.hid (F.out.keep hb)
 replace B := Lib.hid (be_call B.out hb)
 replace T := Lib.hid (T.out.keepG (hb.mono (by omega)))
 replace K := Lib.hid (K.out.keep hb)
 have z3_ := hb.size
 clear hb
 go_wp2_with fail
 refine (print_any _ _ _ TI.out (by have := HN.out; omega) HT.out HL.out).mono ?_
 rintro e w3 ⟨rfl, hb⟩
 replace F := Lib.hid (F.out.keep hb)
 replace B := Lib.hid (be_call B.out hb)
 replace T := Lib.hid (T.out.keepG (hb.mono (by omega)))
 replace K := Lib.hid (K.out.keep hb)
 replace TI := Lib.hid (TI.out.keep hb)
 have z4_ := hb.size
 clear hb
 obtain ⟨ps, hps⟩ : ∃ ps : ByteArray, ps = ⟨(printL (toksX x)).toArray⟩ := ⟨_, rfl⟩
 have hsz : ps.size = (printL (toksX x)).length := by rw [hps]; simp [ByteArray.size]
 rw [← hps]
 have HPS := Lib.hid hps; clear hps
 have h5 : (4000 : Int) < (ps.size : Int) := by have := H4.out; omega
 clear hsz
 go_wp2_with fail
 go_ret2
 exact ⟨rfl, B.out⟩
set_option maxRecDepth 100000 in
set_option maxHeartbeats 4000000 in
theorem print_yes {x : Ex} {D : Nat → Prop} {w : World} {q : Option Addr} {d : Nat} (hsm : smX x) (hS : FoS D w q d x.args) (hT : PowT w.heap.size w) (hr : rightX x = true) (hn : (toksX x).length ≤ 1000000000) (ht : ∀ t ∈ toksX x, t.text.length ≤ 137438953472) (hl : (printL (toksX x)).length ≤ 137438953472) (h4 : (printL (toksX x)).length ≤ 4000) :
  Calls Tryz.prog 8 #[.agg (hdC x q d).toArray] w fun e w' => e = .returned (.tuple #[.string ⟨(printL (toksX x)).toArray⟩, .bool true]) ∧ Below w.heap.size w w' := by
 have F := Lib.hid hS.inH; have T := Lib.hid hT; have SM := Lib.hid hsm; have HR := Lib.hid hr
 have B : Hid (Below w.heap.size w w) := be_refl w
 clear hS hT hsm hr
 unfold hdC
 go_enter Tryz.func8, Tryz.ntmps8
 go_upto_region 1 with fail
 refine nmW (w.alloc (.cells #[.int .i64 x.op, .int .i64 x.n, .string ⟨x.unit.toArray⟩, .string ⟨x.name.toArray⟩, .slice q x.args.len d] 24)) fun w1 hv => ?_
 rw [← hv]
 have K := bxh hv
 have hb_ := bah hv
 clear hv
 have z1_ := K.out.lt
 replace F := Lib.hid (F.out.keep hb_)
 replace B := Lib.hid (be_call B.out hb_)
 replace T := Lib.hid (T.out.keepG (hb_.mono (by omega)))
 have z2_ := hb_.size
 clear hb_
 have HN := Lib.hid hn; have HT := Lib.hid ht; have HL := Lib.hid hl; have H4 := Lib.hid h4; clear ht hl h4
 have HC := Lib.hid (tokens_yes SM.out F.out (T.out.mono (by omega)) HR.out HN.out)
 unfold hdC at HC
 refine K.out.q5 fun pK_0 pK_1 pK_2 pK_3 pK_4 => ?_
 go_wp2_with fail
 clear pK_0 pK_1 pK_2 pK_3 pK_4
 refine (HC.out).mono ?_
 rintro e w2 ⟨v1, rfl, ti, hb⟩
 clear HC
 have TI := Lib.hid ti; clear ti
 replace F := Lib.hid (F.out.keep hb)
 replace B := Lib.hid (be_call B.out hb)
 replace T := Lib.hid (T.out.keepG (hb.mono (by omega)))
 replace K := Lib.hid (K.out.keep hb)
 have z3_ := hb.size
 clear hb
 go_wp2_with fail
 refine (print_any _ _ _ TI.out (by have := HN.out; omega) HT.out HL.out).mono ?_
 rintro e w3 ⟨rfl, hb⟩
 replace F := Lib.hid (F.out.keep hb)
 replace B := Lib.hid (be_call B.out hb)
 replace T := Lib.hid (T.out.keepG (hb.mono (by omega)))
 replace K := Lib.hid (K.out.keep hb)
 replace TI := Lib.hid (TI.out.keep hb)
 have z4_ := hb.size
 clear hb
 obtain ⟨ps, hps⟩ : ∃ ps : ByteArray, ps = ⟨(printL (toksX x)).toArray⟩ := ⟨_, rfl⟩
 have hsz : ps.size = (printL (toksX x)).length := by rw [hps]; simp [ByteArray.size]
 rw [← hps]
 have HPS := Lib.hid hps; clear hps
 have h5 : ¬ (4000 : Int) < (ps.size : Int) := by have := H4.out; omega
 clear hsz
 go_wp2_with fail
 go_ret2
 exact ⟨by rw [← HPS.out]; rfl, B.out⟩
/-- What Print needs of an expression's tokens. -/
structure Prn (x : Ex) : Prop where
 n : (toksX x).length ≤ 1000000000
 t : ∀ t ∈ toksX x, t.text.length ≤ 137438953472
 l : (printL (toksX x)).length ≤ 137438953472
theorem print_x {x : Ex} {D : Nat → Prop} {w : World} {q : Option Addr} {d : Nat} (hsm : smX x) (hS : FoS D w q d x.args) (hT : PowT w.heap.size w) (hp : rightX x = true → Prn x) {o : Option Bytes} (ho : printX x = o) :
    Calls Tryz.prog 8 #[.agg (hdC x q d).toArray] w fun e w' => e = .returned (.tuple #[.string ⟨(o.getD []).toArray⟩, .bool o.isSome]) ∧ Below w.heap.size w w' := by
  subst ho
  unfold printX
  cases hr : rightX x with
  | false => rw [if_neg (by simp)]; exact print_no hsm hS hT hr
  | true =>
    have h := hp hr
    by_cases h4 : (printL (toksX x)).length ≤ 4000
    · rw [if_pos ⟨rfl, h4⟩]; exact print_yes hsm hS hT hr h.n h.t h.l h4
    · rw [if_neg (fun h => h4 h.2)]; exact print_big hsm hS hT hr h.n h.t h.l (by omega)
end Go.Proofs.YtckgmilmhofekaaGreatDoor
namespace Go.Proofs.YtckgmilmhofekaaGreatDoor
open Go.RowKit

/-- How many nodes there are, if there are not too many of them, nor of levels. -/
def szF : Fo → Nat → Nat → Option Nat
 | .nil, _, _ => some 0
 | .cons _ _ _ _ a r, b, lv =>
  if b < 1 ∨ lv < 1 then none
  else match szF a (b - 1) (lv - 1) with
   | none => none
   | some m => match szF r (b - (1 + m)) lv with
    | none => none
    | some m' => some (1 + m + m')
def addS (c : Nat) : Option Nat → Option Nat
 | none => none
 | some m => some (c + m)
def szV : Option Nat → Int
 | none => -1
 | some m => m
theorem szF_cons (x : Ex) (r : Fo) (b lv : Nat) : szF (x.then r) b lv = if b < 1 ∨ lv < 1 then none else match szF x.args (b - 1) (lv - 1) with | none => none | some m => match szF r (b - (1 + m)) lv with | none => none | some m' => some (1 + m + m') := rfl
theorem szF_one (x : Ex) (b lv : Nat) (h1 : 1 ≤ b) (h2 : 1 ≤ lv) : szF (x.then .nil) b lv = addS 1 (szF x.args (b - 1) (lv - 1)) := by
 rw [szF_cons, if_neg (by omega)]
 cases szF x.args (b - 1) (lv - 1) <;> rfl
theorem szF_no (x : Ex) (b lv : Nat) (h : b < 1 ∨ lv < 1) : szF (x.then .nil) b lv = none := by rw [szF_cons, if_pos h]
theorem szF_le : ∀ (f : Fo) (b lv m : Nat), szF f b lv = some m → m ≤ b
  | .nil, _, _, _, h => by cases h; exact Nat.zero_le _
  | .cons op n u mm a r, b, lv, m, h => by
    have h : szF ((Ex.mk op n u mm a).then r) b lv = some m := h
    rw [szF_cons] at h
    split at h
    · cases h
    rename_i hb
    cases h1 : szF a (b - 1) (lv - 1) with
    | none => rw [show szF (Ex.mk op n u mm a).args (b - 1) (lv - 1) = none from h1] at h; cases h
    | some k =>
      rw [show szF (Ex.mk op n u mm a).args (b - 1) (lv - 1) = some k from h1] at h
      dsimp only at h
      have := szF_le a _ _ _ h1
      cases h2 : szF r (b - (1 + k)) lv with
      | none => rw [h2] at h; cases h
      | some k2 => rw [h2] at h; cases h; have := szF_le r _ _ _ h2; omega
theorem szF_then (x : Ex) (r : Fo) (b lv : Nat) : szF (x.then r) b lv = match szF (x.then .nil) b lv with | none => none | some m => addS m (szF r (b - m) lv) := by
  rw [szF_cons, szF_cons]
  by_cases h : b < 1 ∨ lv < 1
  · rw [if_pos h, if_pos h]
  · rw [if_neg h, if_neg h]
    cases szF x.args (b - 1) (lv - 1) with
    | none => rfl
    | some m =>
      show (match szF r (b - (1 + m)) lv with | none => none | some m' => some (1 + m + m')) = addS (1 + m + 0) (szF r (b - (1 + m + 0)) lv)
      rw [Nat.add_zero]
      cases szF r (b - (1 + m)) lv <;> rfl
theorem addS_add (a b : Nat) (o : Option Nat) : addS a (addS b o) = addS (a + b) o := by cases o with | none => rfl | some m => show some (a + (b + m)) = some (a + b + m); rw [Nat.add_assoc]
def goS (c b lv : Nat) (f : Fo) : Option Nat → Option Nat
 | none => none
 | some m => addS (c + m) (szF f (b - m) lv)
/-- How 'size' measures expressions with these arguments. -/
def SzOK (a : Fo) : Prop := ∀ (D : Nat → Prop) (w : World) (op n : Int) (u m : Bytes) (q : Option Addr) (d b lv : Nat), smF a → a.len ≤ 9223372036854775807 → FoS D w q d a → b ≤ 100000 → lv ≤ 100000 →
 Calls Tryz.prog 26 #[.agg (hdC ⟨op, n, u, m, a⟩ q d).toArray, .int .i64 b, .int .i64 lv] w fun e w' => e = .returned (.int .i64 (szV (szF ((Ex.mk op n u m a).then .nil) b lv))) ∧ Below w.heap.size w w'
set_option maxRecDepth 100000 in
set_option maxHeartbeats 4000000 in
theorem size_no {w : World} {op n : Int} {u m : Bytes} {a : Fo} {q : Option Addr} {d b lv : Nat} (h : b < 1 ∨ lv < 1) :
    Calls Tryz.prog 26 #[.agg (hdC ⟨op, n, u, m, a⟩ q d).toArray, .int .i64 b, .int .i64 lv] w fun e w' => e = .returned (.int .i64 (-1)) ∧ Below w.heap.size w w' := by
  have G : Hid (Below w.heap.size w w) := be_refl w
  have HB := Lib.hid h
  clear h
  unfold hdC
  go_enter Tryz.func26, Tryz.ntmps26
  go_upto_region 1 with fail
  refine nmW (w.alloc (.cells #[.int .i64 op, .int .i64 n, .string ⟨u.toArray⟩, .string ⟨m.toArray⟩, .slice q a.len d] 24)) fun w1 hv => ?_
  rw [← hv]
  have hb_ := bah hv
  clear hv
  replace G := Lib.hid (be_call G.out hb_)
  clear hb_
  by_cases h1 : b < 1
  · have h2 : (b : Int) < 1 := by omega
    go_wp2_with fail
    go_ret
    exact ⟨rfl, G.out⟩
  · have h2 : ¬ (b : Int) < 1 := by omega
    have h3 : (lv : Int) < 1 := by have := HB.out; omega
    go_wp2_with fail
    go_ret
    exact ⟨rfl, G.out⟩
set_option maxRecDepth 100000 in
set_option maxHeartbeats 4000000 in
theorem size_step {a : Fo} (hi : ∀ x ∈ a.list, SzOK x.args) (hsm : smF a) (hal : a.len ≤ 9223372036854775807) {D : Nat → Prop} {w : World} {op n : Int} {u m : Bytes} {q : Option Addr} {d b lv : Nat} (hS : FoS D w q d a) (hb1 : 1 ≤ b) (hb2 : b ≤ 100000) (hl1 : 1 ≤ lv) (hl2 : lv ≤ 100000) :
    Calls Tryz.prog 26 #[.agg (hdC ⟨op, n, u, m, a⟩ q d).toArray, .int .i64 b, .int .i64 lv] w fun e w' => e = .returned (.int .i64 (szV (addS 1 (szF a (b - 1) (lv - 1))))) ∧ Below w.heap.size w w' := by
  have S := Lib.hid hS; have HI := Lib.hid hi; have SM := Lib.hid hsm
  have G : Hid (Below w.heap.size w w) := be_refl w
  clear hS hi hsm
  unfold hdC
  go_enter Tryz.func26, Tryz.ntmps26
  go_upto_region 1 with fail
  refine nmW (w.alloc (.cells #[.int .i64 op, .int .i64 n, .string ⟨u.toArray⟩, .string ⟨m.toArray⟩, .slice q a.len d] 24)) fun w1 hv => ?_
  rw [← hv]
  have K := bxh hv
  have hb_ := bah hv
  clear hv
  replace S := Lib.hid (S.out.keep hb_)
  replace G := Lib.hid (be_call G.out hb_)
  clear hb_
  have h1 : ¬ (b : Int) < 1 := by omega
  have h2 : ¬ (lv : Int) < 1 := by omega
  go_wp2_with fail
  clear h1 h2
  have hR0 : Hid (addS 1 (szF a (b - 1) (lv - 1)) = addS 1 (szF (Fo.of (a.list.drop 0)) (b - 1) (lv - 1))) := by show _ = _; rw [List.drop_zero, Fo.of_list]
  go_loopw [7, 8] (fun c i wr => ∃ (k j : Nat), c = .int .i64 (k : Int) ∧ i = .int .i64 (j : Int) ∧ j ≤ a.len ∧ 1 ≤ k ∧ k ≤ b ∧ Hid (addS 1 (szF a (b - 1) (lv - 1)) = addS k (szF (Fo.of (a.list.drop j)) (b - k) (lv - 1))) ∧ Hid (Bx wr w.heap.size 24 #[.int .i64 op, .int .i64 n, .string ⟨u.toArray⟩, .string ⟨m.toArray⟩, .slice q a.len d]) ∧ Hid (FoS D wr q d a) ∧ Hid (Below w.heap.size w wr)) (fun _ i _ => a.len - (intOf i).toNat)
  case atStart => exact ⟨1, 0, rfl, rfl, Nat.zero_le _, Nat.le_refl _, hb1, hR0, K, S, G⟩
  case round =>
    obtain ⟨k, j, rfl, rfl, hj, hk1, hk2, HR, K, S, G⟩ := hrel
    clear hR0
    have p4 := K.out.at.1 4
    by_cases hlt : j < a.len
    · obtain ⟨x, hx⟩ : ∃ x, a.list[j]? = some x := ⟨_, List.getElem?_eq_getElem (by rw [Fo.len_list]; exact hlt)⟩
      obtain ⟨bb, o, q2, d2, rfl, hb, hcell, hs⟩ := S.out.at hx
      have HX := Lib.hid hx; have HS2 := Lib.hid hs; clear hx hs
      have c0 : wr.cell? ⟨bb, o + j * 5, none⟩ = some (.int .i64 x.op) := by have := hcell 0 _ rfl; rw [Nat.mul_comm] at this; exact this
      have c1 : wr.cell? ⟨bb, o + j * 5 + 1, none⟩ = some (.int .i64 x.n) := by have := hcell 1 _ rfl; rw [Nat.mul_comm] at this; exact this
      have c2 : wr.cell? ⟨bb, o + j * 5 + 2, none⟩ = some (.string ⟨x.unit.toArray⟩) := by have := hcell 2 _ rfl; rw [Nat.mul_comm] at this; exact this
      have c3 : wr.cell? ⟨bb, o + j * 5 + 3, none⟩ = some (.string ⟨x.name.toArray⟩) := by have := hcell 3 _ rfl; rw [Nat.mul_comm] at this; exact this
      have c4 : wr.cell? ⟨bb, o + j * 5 + 4, none⟩ = some (.slice q2 x.args.len d2) := by have := hcell 4 _ rfl; rw [Nat.mul_comm] at this; exact this
      clear hcell
      have hjl : (j : Int) < (a.len : Int) := by omega
      have HLT := Lib.hid hlt
      have hsx := SM.out.mem (List.mem_of_getElem? HX.out)
      have HC := Lib.hid (HI.out x (List.mem_of_getElem? HX.out) D wr x.op x.n x.unit x.name q2 d2 (b - k) (lv - 1) hsx.2.2.2 hsx.2.2.1 HS2.out (by omega) (by omega))
      obtain ⟨R, hR⟩ : ∃ R, szF (x.then .nil) (b - k) (lv - 1) = R := ⟨_, rfl⟩
      rw [show szF ((Ex.mk x.op x.n x.unit x.name x.args).then .nil) (b - k) (lv - 1) = R from hR, show ((b - k : Nat) : Int) = (b : Int) - (k : Int) by omega, show ((lv - 1 : Nat) : Int) = (lv : Int) - 1 by omega] at HC
      have HRR := Lib.hid hR; clear hR
      clear hsx
      unfold hdC at HC
      go_wp2_with fail
      clear c0 c1 c2 c3 c4 p4
      refine HC.out.mono ?_
      rintro e w4 ⟨rfl, b2⟩
      replace K := Lib.hid (K.out.keep b2)
      replace S := Lib.hid (S.out.keep b2)
      replace G := Lib.hid (be_call G.out b2)
      clear b2 HS2 HC
      have HRN : Hid (addS 1 (szF a (b - 1) (lv - 1)) = goS k (b - k) (lv - 1) (Fo.of (a.list.drop (j + 1))) R) := by
        show _ = _; rw [HR.out, drop_list HX.out, szF_then, HRR.out]
        cases R with
        | none => rfl
        | some m' => show addS k (addS m' _) = addS (k + m') _; rw [addS_add]
      cases R with
      | none =>
        have HRM : Hid (addS 1 (szF a (b - 1) (lv - 1)) = none) := HRN
        simp only [szV]
        go_wp2_with fail
        go_ret
        exact ⟨by rw [HRM.out]; rfl, G.out⟩
      | some m' =>
        have hm' : m' ≤ b - k := szF_le _ _ _ _ HRR.out
        have HRM : Hid (addS 1 (szF a (b - 1) (lv - 1)) = addS (k + m') (szF (Fo.of (a.list.drop (j + 1))) (b - (k + m')) (lv - 1))) := by
          show _ = _; rw [HRN.out]; show addS (k + m') (szF _ (b - k - m') _) = _; rw [show b - k - m' = b - (k + m') by omega]
        have h5 : ¬ (m' : Int) < 0 := by omega
        simp only [szV]
        go_wp2_with fail
        go_roundw
        case rel => exact ⟨k + m', j + 1, by go_num, by go_num, HLT.out, by omega, by omega, HRM, K, S, G⟩
        case measure => have := HLT.out; simp [intOf]; omega
    · have hje : j = a.len := by omega
      have hjl : ¬ (j : Int) < (a.len : Int) := by omega
      have HN2 : Hid (addS 1 (szF a (b - 1) (lv - 1)) = some k) := by show _ = _; rw [HR.out, hje, ← Fo.len_list, List.drop_length]; rfl
      go_wp2_with fail
      go_ret
      exact ⟨by rw [HN2.out]; rfl, G.out⟩
theorem size_all (a : Fo) : SzOK a := Fo.ind (fun _ hi _ _ _ _ _ _ _ _ b lv hsm hal hS hb hl => by
  by_cases h : b < 1 ∨ lv < 1
  · rw [szF_no _ _ _ h]; exact size_no h
  · rw [szF_one _ _ _ (by omega) (by omega)]; exact size_step hi hsm hal hS (by omega) hb (by omega) hl) a
set_option maxRecDepth 100000 in
set_option maxHeartbeats 4000000 in
theorem few_ok {x : Ex} {D : Nat → Prop} {w : World} {q : Option Addr} {d b lv : Nat} (hsm : smX x) (hS : FoS D w q d x.args) (hb : b ≤ 100000) (hl : lv ≤ 100000) {r : Bool} (hr : (szF (x.then .nil) b lv).isSome = r) :
  Calls Tryz.prog 5 #[.agg (hdC x q d).toArray, .int .i64 b, .int .i64 lv] w fun e w' => e = .returned (.bool r) ∧ Below w.heap.size w w' := by
 obtain ⟨op, n, u, m, a⟩ := x
 have S := Lib.hid hS; have SM := Lib.hid hsm
 have G : Hid (Below w.heap.size w w) := be_refl w
 clear hS hsm
 obtain ⟨R, hR⟩ : ∃ R, szF ((Ex.mk op n u m a).then .nil) b lv = R := ⟨_, rfl⟩
 rw [hR] at hr
 have HR := Lib.hid hR; clear hR
 unfold hdC
 go_enter Tryz.func5, Tryz.ntmps5
 go_upto_region 1 with fail
 refine nmW (w.alloc (.cells #[.int .i64 op, .int .i64 n, .string ⟨u.toArray⟩, .string ⟨m.toArray⟩, .slice q a.len d] 24)) fun w1 hv => ?_
 rw [← hv]
 have K := bxh hv
 have hb_ := bah hv
 clear hv
 replace S := Lib.hid (S.out.keep hb_)
 replace G := Lib.hid (be_call G.out hb_)
 clear hb_
 have c0 := K.out.at.1 0; have c1 := K.out.at.1 1; have c2 := K.out.at.1 2; have c3 := K.out.at.1 3; have c4 := K.out.at.1 4
 have HC := Lib.hid (size_all a _ w1 op n u m q d b lv SM.out.2.2.2 SM.out.2.2.1 S.out hb hl)
 rw [HR.out] at HC
 unfold hdC at HC
 go_wp2_with fail
 clear c0 c1 c2 c3 c4
 refine HC.out.mono ?_
 rintro e w2 ⟨rfl, b2⟩
 replace G := Lib.hid (be_call G.out b2)
 clear b2 HC
 subst hr
 cases R with
 | none =>
  simp only [szV]
  go_wp2_with fail
  go_ret
  exact ⟨rfl, G.out⟩
 | some m' =>
  have h5 : (0 : Int) ≤ (m' : Int) := by omega
  simp only [szV]
  go_wp2_with fail
  go_ret
  exact ⟨by simp, G.out⟩
end Go.Proofs.YtckgmilmhofekaaGreatDoor
