/- Walks: the reference's Tokens and Print. -/
import Derived.Test.YtckgmilmhofekaaGreatDoorLexLaws
import Derived.Test.YtckgmilmhofekaaGreatDoorFoBack
import Derived.Test.YtckgmilmhofekaaGreatDoorBase
import Derived.Test.YtckgmilmhofekaaGreatDoorLexBytes
import Derived.Test.YtckgmilmhofekaaGreatDoorLexPrint
import Derived.Test.YtckgmilmhofekaaGreatDoorBigSpec
import Derived.Test.YtckgmilmhofekaaGreatDoorBigD
import Derived.Test.YtckgmilmhofekaaGreatDoorBigQ
import Derived.Test.YtckgmilmhofekaaGreatDoorFd
import Derived.Test.YtckgmilmhofekaaGreatDoorHeld
import Derived.Test.YtckgmilmhofekaaGreatDoorFoWd
import Derived.Test.YtckgmilmhofekaaGreatDoorFoOx
import Derived.Test.YtckgmilmhofekaaGreatDoorFoCn
import Derived.Test.YtckgmilmhofekaaGreatDoorFoWl
import Derived.Test.YtckgmilmhofekaaGreatDoorFoSz
import Derived.Test.YtckgmilmhofekaaGreatDoorFoPt
import Derived.Test.YtckgmilmhofekaaGreatDoorFoRt
import Derived.Test.YtckgmilmhofekaaGreatDoorLexRef2
import Derived.Test.YtckgmilmhofekaaGreatDoorLexRaw
import Derived.Test.YtckgmilmhofekaaGreatDoorFrD
import Derived.Test.YtckgmilmhofekaaGreatDoorFrH
import Derived.Test.YtckgmilmhofekaaGreatDoorFrM
import Derived.Test.YtckgmilmhofekaaGreatDoorProg
import Derived.Test.YtckgmilmhofekaaGreatDoorShelf
import Derived.WalkKit
import Derived.Lib.ItoaNum
import Derived.WalkSpells
import Derived.WalkLawsBesides
import Derived.Handy
import Derived.Lib.Hide
import Derived.Lib.Strings
import Derived.Lib.Builder
import Derived.Shelf.Strings.Builder1
import Derived.BigQuiet
import Derived.OwnWalk
import Derived.Laws.BitsLemmas
import Derived.WalkSmall
import Derived.Deep.QuietTactic
import Derived.StillTailTactics
import Derived.Maps.AppendAt
import Derived.IntWalk
import Derived.Deep.RegionHeld3
import Derived.Deep.DeepFit
import Derived.Deep.LoopGhost
import Derived.Deep.DeepCutAuto
import Derived.Lib.Repeat
import Derived.Lib.AppendIntMem
import Derived.Sort.OwnSorted
import Derived.Shelf.Strings.SlTrimAscii
import Derived.Lib.ConvBytes
import Derived.Lib.CutLaws
import Derived.ArgAppend
namespace Go.Proofs.YtckgmilmhofekaaGreatDoor
open Go.RowKit

set_option maxRecDepth 100000 in
set_option maxHeartbeats 4000000 in
theorem rtok_4 {a : Fo} (hi : ∀ x ∈ a.list, RtOK x.args) {D : Nat → Prop} {w : World} {n : Int} {u m : Bytes} {q : Option Addr} {d : Nat} (hsh : shF ((Ex.mk 4 n u m a).then .nil) = true) (hS : FoS D w q d a) (hn : (toksX ⟨4, n, u, m, a⟩).length ≤ 1000000) :
    Calls Tryz.prog 28 #[.agg (hdC ⟨4, n, u, m, a⟩ q d).toArray] w (TkPost (toksX ⟨4, n, u, m, a⟩) w) := by
  have HI := Lib.hid hi; have HN := Lib.hid hn
  rw [shF_one, Bool.and_eq_true] at hsh
  have hnd := node_cases hsh.1
  dsimp only at hnd
  have HSH := Lib.hid hsh.2
  have F := Lib.hid hS.inH; have B : Hid (Below w.heap.size w w) := be_refl w
  clear hi hS hn
  have hal : a.len = 1 ∧ m = [] := by
    rcases hnd with ⟨h, -⟩ | ⟨-, -, ⟨h, -⟩ | ⟨h, -⟩ | ⟨h, -⟩ | ⟨h, h2, h3⟩ | ⟨h, h2, h3⟩ | ⟨h, h2, h3⟩ | ⟨h, h2, h3⟩⟩
    all_goals first | exact ⟨h3, h2⟩ | (exfalso; omega)
  obtain ⟨x, hl⟩ : ∃ x, a.list = [x] := by
    have h := hal.1
    rw [← Fo.len_list] at h
    match a.list, h with
    | [x], _ => exact ⟨x, rfl⟩
  obtain ⟨b, o, _, _, hqe, _, _, _⟩ := F.out.at (k := 0) (x := x) (by rw [hl]; rfl)
  subst hqe
  obtain ⟨q1, d1, hc0, hs0⟩ := F.out.argC (Nat.le_refl _) (k := 0) (x := x) (by rw [hl]; rfl)
  have C0 : Hid (ArgC w.heap.size w b (o) x q1 d1) := hc0; have F0 := Lib.hid hs0
  clear hc0 hs0
  have HX0 : Hid (shF (x.then .nil) = true) := shF_mem HSH.out (by rw [hl]; simp); have HI0 : Hid (RtOK x.args) := HI.out x (by rw [hl]; simp)
  clear F
  have HT : Hid (toksX ⟨4, n, u, m, a⟩ = [tkN wNot] ++ wT x) := by
    show _ = _
    rw [toksX_is]
    show exT _ _ _ _ (a.list.map wT) (a.list.map toksX) = _
    rw [hl]
    rfl
  have HA0 : Hid ((toksX x).length ≤ 1000000) := by show _ ≤ _; have h1 := HN.out; rw [HT.out] at h1; have h2 := atom_len (x := x); simp at h1; omega
  have HL2 : Hid (a.len = 1) := hal.1
  clear hal hnd hsh hl HI
  unfold hdC
  go_enter Tryz.func28, Tryz.ntmps28
  go_upto_region 1 with fail
  refine nmW (w.alloc (.cells #[.int .i64 4, .int .i64 n, .string ⟨u.toArray⟩, .string ⟨m.toArray⟩, .slice (some ⟨b, o, none⟩) a.len d] 24)) fun w1 hv => ?_
  rw [← hv]
  have K := bxh hv
  have hb_ := bah hv
  clear hv
  have z1_ := K.out.lt
  replace B := Lib.hid (be_call B.out hb_)
  replace C0 := Lib.hid (C0.out.keep hb_)
  replace F0 := Lib.hid (F0.out.keep hb_)
  have z2_ := hb_.size
  clear hb_
  refine K.out.q5 fun pK_0 pK_1 pK_2 pK_3 pK_4 => ?_
  go_upto_region 18 with fail
  clear pK_0 pK_1 pK_2 pK_3 pK_4
  have hi0 : (0 : Int) < (a.len : Int) := by have := HL2.out; omega
  have hj0 : 0 < a.len := by have := HL2.out; omega
  refine nmW w1.drew fun w2 hW => ?_
  have hb_ := bdh hW
  replace B := Lib.hid (be_call B.out hb_)
  replace C0 := Lib.hid (C0.out.keep hb_)
  replace F0 := Lib.hid (F0.out.keep hb_)
  replace K := Lib.hid (K.out.keep hb_)
  have z3_ := hb_.size
  clear hb_
  refine wp_region_held_drew (S := (fun w' => w'.cell? ⟨w.heap.size, 0, none⟩ = some (.int .i64 4) ∧ w'.cell? ⟨w.heap.size, 1, none⟩ = some (.int .i64 n) ∧ w'.cell? ⟨w.heap.size, 2, none⟩ = some (.string ⟨u.toArray⟩) ∧ w'.cell? ⟨w.heap.size, 3, none⟩ = some (.string ⟨m.toArray⟩) ∧ w'.cell? ⟨w.heap.size, 4, none⟩ = some (.slice (some ⟨b, o, none⟩) a.len d) ∧ w'.cell? ⟨b, o, none⟩ = some (.int .i64 x.op) ∧ w'.cell? ⟨b, o + 1, none⟩ = some (.int .i64 x.n) ∧ w'.cell? ⟨b, o + 2, none⟩ = some (.string ⟨x.unit.toArray⟩) ∧ w'.cell? ⟨b, o + 3, none⟩ = some (.string ⟨x.name.toArray⟩) ∧ w'.cell? ⟨b, o + 4, none⟩ = some (.slice q1 x.args.len d1))) (by kernel_rfl) (by rw [← hW]; exact ⟨K.out.at.1 0, K.out.at.1 1, K.out.at.1 2, K.out.at.1 3, K.out.at.1 4, C0.out.2.2.1, C0.out.2.2.2.1, C0.out.2.2.2.2.1, C0.out.2.2.2.2.2.1, C0.out.2.2.2.2.2.2⟩) (fun hH => ?_)
  rw [← hW] at hH ⊢
  clear hW
  refine tk at2 ?_
  refine tk at3 ?_
  refine tk at4 ?_
  refine tk at5 (v := .agg #[.int .i64 x.op, .int .i64 x.n, .string ⟨x.unit.toArray⟩, .string ⟨x.name.toArray⟩, .slice q1 x.args.len d1]) ?_
  refine wpAnyH_ready (rs := [0]) (by kernel_rfl) (by simp) ?_
  refine AllReadyH.cons at0 (fun K_ hK => ?_) AllReadyH.nil
  go_simp
  refine (rNme_ok ⟨#[110, 111, 116]⟩ (sl := [110, 111, 116]) (by rw [Lib.toList_data])).mono ?_
  rintro e w3 ⟨rfl, hb_⟩
  replace B := Lib.hid (be_call B.out hb_)
  replace C0 := Lib.hid (C0.out.keep hb_)
  replace F0 := Lib.hid (F0.out.keep hb_)
  replace K := Lib.hid (K.out.keep hb_)
  have z4_ := hb_.size
  clear hb_
  rw [show tkV (tkN [110, 111, 116]) = .agg #[.int .i64 0, .string ⟨#[110, 111, 116]⟩, .int .i64 0, .int .i64 0] from rfl]
  (try go_wp2_with fail)
  refine hK.out _ _ (⟨K.out.at.1 0, K.out.at.1 1, K.out.at.1 2, K.out.at.1 3, K.out.at.1 4, C0.out.2.2.1, C0.out.2.2.2.1, C0.out.2.2.2.2.1, C0.out.2.2.2.2.2.1, C0.out.2.2.2.2.2.2⟩) (fun hH2 => ?_)
  clear hK K_ hH
  have hH := hH2; clear hH2
  (try simp only [Act.put, kS, kZ, kC])
  refine wpAnyH_ready (rs := [1, 6]) (by kernel_rfl) (by simp) ?_
  refine AllReadyH.cons at1 (fun K_ hK => ?_) (AllReadyH.cons at6 (fun K_ hK => ?_) AllReadyH.nil)
  · skip
    go_simp
    refine nmW (w3.alloc (.cells #[.int .i64 0, .string ⟨#[110, 111, 116]⟩, .int .i64 0, .int .i64 0] 55)) fun w4 hv => ?_
    rw [← hv]
    have L := bxh hv
    have hb_ := bah hv
    clear hv
    have z5_ := L.out.lt
    replace B := Lib.hid (be_call B.out hb_)
    replace C0 := Lib.hid (C0.out.keep hb_)
    replace F0 := Lib.hid (F0.out.keep hb_)
    replace K := Lib.hid (K.out.keep hb_)
    have z6_ := hb_.size
    clear hb_
    refine hK.out _ _ (⟨K.out.at.1 0, K.out.at.1 1, K.out.at.1 2, K.out.at.1 3, K.out.at.1 4, C0.out.2.2.1, C0.out.2.2.2.1, C0.out.2.2.2.2.1, C0.out.2.2.2.2.2.1, C0.out.2.2.2.2.2.2⟩) (fun hH2 => ?_)
    clear hK K_ hH
    have hH := hH2; clear hH2
    (try simp only [Act.put, kS, kZ, kC])
    refine wpAnyH_ready (rs := [6]) (by kernel_rfl) (by simp) ?_
    refine AllReadyH.cons at6 (fun K_ hK => ?_) AllReadyH.nil
    have HC := Lib.hid (ratom_ok HI0.out HX0.out F0.out HA0.out)
    unfold hdC at HC
    go_simp
    refine (HC.out).mono ?_
    rintro e w5 ⟨va2, rfl, ho_, hb_⟩
    replace B := Lib.hid (be_call B.out hb_)
    replace C0 := Lib.hid (C0.out.keep hb_)
    replace F0 := Lib.hid (F0.out.keep hb_)
    replace K := Lib.hid (K.out.keep hb_)
    replace L := Lib.hid (L.out.keep hb_)
    have z7_ := hb_.size
    clear hb_
    have O2 := Lib.hid (ho_.mono (B' := w1.heap.size) (by omega)); clear ho_
    clear HC
    (try go_wp2_with fail)
    refine hK.out _ _ (⟨K.out.at.1 0, K.out.at.1 1, K.out.at.1 2, K.out.at.1 3, K.out.at.1 4, C0.out.2.2.1, C0.out.2.2.2.1, C0.out.2.2.2.2.1, C0.out.2.2.2.2.2.1, C0.out.2.2.2.2.2.2⟩) (fun hH2 => ?_)
    clear hK K_ hH
    have hH := hH2; clear hH2
    (try simp only [Act.put, kS, kZ, kC])
    obtain ⟨g2, cap2, hv_, -, -, hc2⟩ := O2.out.at (fun h => toks_ne HX0.out (List.length_eq_zero_iff.1 (by have := atom_len (x := x); rw [h] at this; exact Nat.le_zero.1 this)))
    subst hv_
    have HC2 := Lib.hid hc2; clear hc2
    obtain ⟨nn2, hnn2⟩ : ∃ nn, (wT x).length = nn := ⟨_, rfl⟩
    rw [hnn2]
    refine wpAnyH_ready (rs := [7]) (by kernel_rfl) (by simp) ?_
    refine AllReadyH.cons at7 (fun K_ hK => ?_) AllReadyH.nil
    have hln_ : ([tkN wNot] : List Tok).length + nn2 ≤ 1000000 := by have h1 := HN.out; rw [HT.out, List.length_append, hnn2] at h1; exact h1
    rw [if_pos (by rfl)]
    refine wp_appT (OwT.lit (B := w1.heap.size) (l := [tkN wNot]) L.out rfl (by omega) (by decide)) elemTok (by omega) hnn2 HC2.out (by omega) (by omega) rfl rfl rfl (fun v6_ w6 ho_ hg_ hb_ => ?_)
    clear O2
    clear L
    clear HC2
    clear hln_ hg_
    replace B := Lib.hid (B.out.trans (hb_.mono (by omega)))
    replace C0 := Lib.hid (C0.out.low hb_ (by omega))
    replace F0 := Lib.hid (F0.out.low hb_ (fun b hb => by omega))
    replace K := Lib.hid (K.out.low hb_ (by omega))
    have z8_ := hb_.size
    clear hb_
    have O4 := Lib.hid ho_; clear ho_
    refine hK.out _ _ (⟨K.out.at.1 0, K.out.at.1 1, K.out.at.1 2, K.out.at.1 3, K.out.at.1 4, C0.out.2.2.1, C0.out.2.2.2.1, C0.out.2.2.2.2.1, C0.out.2.2.2.2.2.1, C0.out.2.2.2.2.2.2⟩) (fun hH2 => ?_)
    clear hK K_ hH
    have hH := hH2; clear hH2
    (try simp only [Act.put, kS, kZ, kC])
    refine tk at8 ?_
    refine wpAnyH_done (by kernel_rfl) ?_ _
    clear hH
    go_wp2_with fail
    go_ret
    exact ⟨_, rfl, by rw [HT.out]; exact O4.out.mono (by omega), B.out⟩
  · skip
    have HC := Lib.hid (ratom_ok HI0.out HX0.out F0.out HA0.out)
    unfold hdC at HC
    go_simp
    refine (HC.out).mono ?_
    rintro e w7 ⟨va2, rfl, ho_, hb_⟩
    replace B := Lib.hid (be_call B.out hb_)
    replace C0 := Lib.hid (C0.out.keep hb_)
    replace F0 := Lib.hid (F0.out.keep hb_)
    replace K := Lib.hid (K.out.keep hb_)
    have z9_ := hb_.size
    clear hb_
    have O2 := Lib.hid (ho_.mono (B' := w1.heap.size) (by omega)); clear ho_
    clear HC
    (try go_wp2_with fail)
    refine hK.out _ _ (⟨K.out.at.1 0, K.out.at.1 1, K.out.at.1 2, K.out.at.1 3, K.out.at.1 4, C0.out.2.2.1, C0.out.2.2.2.1, C0.out.2.2.2.2.1, C0.out.2.2.2.2.2.1, C0.out.2.2.2.2.2.2⟩) (fun hH2 => ?_)
    clear hK K_ hH
    have hH := hH2; clear hH2
    (try simp only [Act.put, kS, kZ, kC])
    refine wpAnyH_ready (rs := [1]) (by kernel_rfl) (by simp) ?_
    refine AllReadyH.cons at1 (fun K_ hK => ?_) AllReadyH.nil
    go_simp
    refine nmW (w7.alloc (.cells #[.int .i64 0, .string ⟨#[110, 111, 116]⟩, .int .i64 0, .int .i64 0] 55)) fun w8 hv => ?_
    rw [← hv]
    have L := bxh hv
    have hb_ := bah hv
    clear hv
    have z10_ := L.out.lt
    replace B := Lib.hid (be_call B.out hb_)
    replace C0 := Lib.hid (C0.out.keep hb_)
    replace F0 := Lib.hid (F0.out.keep hb_)
    replace K := Lib.hid (K.out.keep hb_)
    replace O2 := Lib.hid (O2.out.keep hb_)
    have z11_ := hb_.size
    clear hb_
    refine hK.out _ _ (⟨K.out.at.1 0, K.out.at.1 1, K.out.at.1 2, K.out.at.1 3, K.out.at.1 4, C0.out.2.2.1, C0.out.2.2.2.1, C0.out.2.2.2.2.1, C0.out.2.2.2.2.2.1, C0.out.2.2.2.2.2.2⟩) (fun hH2 => ?_)
    clear hK K_ hH
    have hH := hH2; clear hH2
    (try simp only [Act.put, kS, kZ, kC])
    obtain ⟨g2, cap2, hv_, -, -, hc2⟩ := O2.out.at (fun h => toks_ne HX0.out (List.length_eq_zero_iff.1 (by have := atom_len (x := x); rw [h] at this; exact Nat.le_zero.1 this)))
    subst hv_
    have HC2 := Lib.hid hc2; clear hc2
    obtain ⟨nn2, hnn2⟩ : ∃ nn, (wT x).length = nn := ⟨_, rfl⟩
    rw [hnn2]
    refine wpAnyH_ready (rs := [7]) (by kernel_rfl) (by simp) ?_
    refine AllReadyH.cons at7 (fun K_ hK => ?_) AllReadyH.nil
    have hln_ : ([tkN wNot] : List Tok).length + nn2 ≤ 1000000 := by have h1 := HN.out; rw [HT.out, List.length_append, hnn2] at h1; exact h1
    rw [if_pos (by rfl)]
    refine wp_appT (OwT.lit (B := w1.heap.size) (l := [tkN wNot]) L.out rfl (by omega) (by decide)) elemTok (by omega) hnn2 HC2.out (by omega) (by omega) rfl rfl rfl (fun v9_ w9 ho_ hg_ hb_ => ?_)
    clear O2
    clear L
    clear HC2
    clear hln_ hg_
    replace B := Lib.hid (B.out.trans (hb_.mono (by omega)))
    replace C0 := Lib.hid (C0.out.low hb_ (by omega))
    replace F0 := Lib.hid (F0.out.low hb_ (fun b hb => by omega))
    replace K := Lib.hid (K.out.low hb_ (by omega))
    have z12_ := hb_.size
    clear hb_
    have O4 := Lib.hid ho_; clear ho_
    refine hK.out _ _ (⟨K.out.at.1 0, K.out.at.1 1, K.out.at.1 2, K.out.at.1 3, K.out.at.1 4, C0.out.2.2.1, C0.out.2.2.2.1, C0.out.2.2.2.2.1, C0.out.2.2.2.2.2.1, C0.out.2.2.2.2.2.2⟩) (fun hH2 => ?_)
    clear hK K_ hH
    have hH := hH2; clear hH2
    (try simp only [Act.put, kS, kZ, kC])
    refine tk at8 ?_
    refine wpAnyH_done (by kernel_rfl) ?_ _
    clear hH
    go_wp2_with fail
    go_ret
    exact ⟨_, rfl, by rw [HT.out]; exact O4.out.mono (by omega), B.out⟩
set_option maxRecDepth 100000 in
set_option maxHeartbeats 4000000 in
theorem rtok_5 {a : Fo} (hi : ∀ x ∈ a.list, RtOK x.args) {D : Nat → Prop} {w : World} {n : Int} {u m : Bytes} {q : Option Addr} {d : Nat} (hsh : shF ((Ex.mk 5 n u m a).then .nil) = true) (hS : FoS D w q d a) (hn : (toksX ⟨5, n, u, m, a⟩).length ≤ 1000000) :
    Calls Tryz.prog 28 #[.agg (hdC ⟨5, n, u, m, a⟩ q d).toArray] w (TkPost (toksX ⟨5, n, u, m, a⟩) w) := by
  have HI := Lib.hid hi; have HN := Lib.hid hn
  rw [shF_one, Bool.and_eq_true] at hsh
  have hnd := node_cases hsh.1
  dsimp only at hnd
  have HSH := Lib.hid hsh.2
  have F := Lib.hid hS.inH; have B : Hid (Below w.heap.size w w) := be_refl w
  clear hi hS hn
  have hal : a.len = 3 ∧ m = [] := by
    rcases hnd with ⟨h, -⟩ | ⟨-, -, ⟨h, -⟩ | ⟨h, -⟩ | ⟨h, -⟩ | ⟨h, h2, h3⟩ | ⟨h, h2, h3⟩ | ⟨h, h2, h3⟩ | ⟨h, h2, h3⟩⟩
    all_goals first | exact ⟨h3, h2⟩ | (exfalso; omega)
  obtain ⟨x, y, z, hl⟩ : ∃ x y z, a.list = [x, y, z] := by
    have h := hal.1
    rw [← Fo.len_list] at h
    match a.list, h with
    | [x, y, z], _ => exact ⟨x, y, z, rfl⟩
  obtain ⟨b, o, _, _, hqe, _, _, _⟩ := F.out.at (k := 0) (x := x) (by rw [hl]; rfl)
  subst hqe
  obtain ⟨q1, d1, hc0, hs0⟩ := F.out.argC (Nat.le_refl _) (k := 0) (x := x) (by rw [hl]; rfl)
  have C0 : Hid (ArgC w.heap.size w b (o) x q1 d1) := hc0; have F0 := Lib.hid hs0
  clear hc0 hs0
  have HX0 : Hid (shF (x.then .nil) = true) := shF_mem HSH.out (by rw [hl]; simp); have HI0 : Hid (RtOK x.args) := HI.out x (by rw [hl]; simp)
  obtain ⟨q2, d2, hc1, hs1⟩ := F.out.argC (Nat.le_refl _) (k := 1) (x := y) (by rw [hl]; rfl)
  have C1 : Hid (ArgC w.heap.size w b (o + 5) y q2 d2) := hc1; have F1 := Lib.hid hs1
  clear hc1 hs1
  have HX1 : Hid (shF (y.then .nil) = true) := shF_mem HSH.out (by rw [hl]; simp); have HI1 : Hid (RtOK y.args) := HI.out y (by rw [hl]; simp)
  obtain ⟨q3, d3, hc2, hs2⟩ := F.out.argC (Nat.le_refl _) (k := 2) (x := z) (by rw [hl]; rfl)
  have C2 : Hid (ArgC w.heap.size w b (o + 10) z q3 d3) := hc2; have F2 := Lib.hid hs2
  clear hc2 hs2
  have HX2 : Hid (shF (z.then .nil) = true) := shF_mem HSH.out (by rw [hl]; simp); have HI2 : Hid (RtOK z.args) := HI.out z (by rw [hl]; simp)
  clear F
  have HT : Hid (toksX ⟨5, n, u, m, a⟩ = ((([tkN wIf] ++ wT x) ++ [tkN wThen]) ++ wT y) ++ [tkN wElse] ++ wT z) := by
    show _ = _
    rw [toksX_is]
    show exT _ _ _ _ (a.list.map wT) (a.list.map toksX) = _
    rw [hl]
    show tkN wIf :: (wT x ++ tkN wThen :: (wT y ++ tkN wElse :: wT z)) = _; simp
  have HA0 : Hid ((toksX x).length ≤ 1000000) := by show _ ≤ _; have h1 := HN.out; rw [HT.out] at h1; have h2 := atom_len (x := x); simp at h1; omega
  have HA1 : Hid ((toksX y).length ≤ 1000000) := by show _ ≤ _; have h1 := HN.out; rw [HT.out] at h1; have h2 := atom_len (x := y); simp at h1; omega
  have HA2 : Hid ((toksX z).length ≤ 1000000) := by show _ ≤ _; have h1 := HN.out; rw [HT.out] at h1; have h2 := atom_len (x := z); simp at h1; omega
  have HL2 : Hid (a.len = 3) := hal.1
  clear hal hnd hsh hl HI
  unfold hdC
  go_enter Tryz.func28, Tryz.ntmps28
  go_upto_region 1 with fail
  refine nmW (w.alloc (.cells #[.int .i64 5, .int .i64 n, .string ⟨u.toArray⟩, .string ⟨m.toArray⟩, .slice (some ⟨b, o, none⟩) a.len d] 24)) fun w1 hv => ?_
  rw [← hv]
  have K := bxh hv
  have hb_ := bah hv
  clear hv
  have z1_ := K.out.lt
  replace B := Lib.hid (be_call B.out hb_)
  replace C0 := Lib.hid (C0.out.keep hb_)
  replace F0 := Lib.hid (F0.out.keep hb_)
  replace C1 := Lib.hid (C1.out.keep hb_)
  replace F1 := Lib.hid (F1.out.keep hb_)
  replace C2 := Lib.hid (C2.out.keep hb_)
  replace F2 := Lib.hid (F2.out.keep hb_)
  have z2_ := hb_.size
  clear hb_
  refine K.out.q5 fun pK_0 pK_1 pK_2 pK_3 pK_4 => ?_
  go_upto_region 20 with fail
  clear pK_0 pK_1 pK_2 pK_3 pK_4
  have hi0 : (0 : Int) < (a.len : Int) := by have := HL2.out; omega
  have hj0 : 0 < a.len := by have := HL2.out; omega
  have hi1 : (1 : Int) < (a.len : Int) := by have := HL2.out; omega
  have hj1 : 1 < a.len := by have := HL2.out; omega
  have hi2 : (2 : Int) < (a.len : Int) := by have := HL2.out; omega
  have hj2 : 2 < a.len := by have := HL2.out; omega
  refine nmW w1.drew fun w2 hW => ?_
  have hb_ := bdh hW
  replace B := Lib.hid (be_call B.out hb_)
  replace C0 := Lib.hid (C0.out.keep hb_)
  replace F0 := Lib.hid (F0.out.keep hb_)
  replace C1 := Lib.hid (C1.out.keep hb_)
  replace F1 := Lib.hid (F1.out.keep hb_)
  replace C2 := Lib.hid (C2.out.keep hb_)
  replace F2 := Lib.hid (F2.out.keep hb_)
  replace K := Lib.hid (K.out.keep hb_)
  have z3_ := hb_.size
  clear hb_
  refine wp_region_held_drew (S := (fun w' => w'.cell? ⟨w.heap.size, 0, none⟩ = some (.int .i64 5) ∧ w'.cell? ⟨w.heap.size, 1, none⟩ = some (.int .i64 n) ∧ w'.cell? ⟨w.heap.size, 2, none⟩ = some (.string ⟨u.toArray⟩) ∧ w'.cell? ⟨w.heap.size, 3, none⟩ = some (.string ⟨m.toArray⟩) ∧ w'.cell? ⟨w.heap.size, 4, none⟩ = some (.slice (some ⟨b, o, none⟩) a.len d) ∧ w'.cell? ⟨b, o, none⟩ = some (.int .i64 x.op) ∧ w'.cell? ⟨b, o + 1, none⟩ = some (.int .i64 x.n) ∧ w'.cell? ⟨b, o + 2, none⟩ = some (.string ⟨x.unit.toArray⟩) ∧ w'.cell? ⟨b, o + 3, none⟩ = some (.string ⟨x.name.toArray⟩) ∧ w'.cell? ⟨b, o + 4, none⟩ = some (.slice q1 x.args.len d1))) (by kernel_rfl) (by rw [← hW]; exact ⟨K.out.at.1 0, K.out.at.1 1, K.out.at.1 2, K.out.at.1 3, K.out.at.1 4, C0.out.2.2.1, C0.out.2.2.2.1, C0.out.2.2.2.2.1, C0.out.2.2.2.2.2.1, C0.out.2.2.2.2.2.2⟩) (fun hH => ?_)
  rw [← hW] at hH ⊢
  clear hW
  refine tk at2 ?_
  refine tk at3 ?_
  refine tk at4 ?_
  refine tk at5 (v := .agg #[.int .i64 x.op, .int .i64 x.n, .string ⟨x.unit.toArray⟩, .string ⟨x.name.toArray⟩, .slice q1 x.args.len d1]) ?_
  refine wpAnyH_ready (rs := [0]) (by kernel_rfl) (by simp) ?_
  refine AllReadyH.cons at0 (fun K_ hK => ?_) AllReadyH.nil
  go_simp
  refine (rNme_ok ⟨#[105, 102]⟩ (sl := [105, 102]) (by rw [Lib.toList_data])).mono ?_
  rintro e w3 ⟨rfl, hb_⟩
  replace B := Lib.hid (be_call B.out hb_)
  replace C0 := Lib.hid (C0.out.keep hb_)
  replace F0 := Lib.hid (F0.out.keep hb_)
  replace C1 := Lib.hid (C1.out.keep hb_)
  replace F1 := Lib.hid (F1.out.keep hb_)
  replace C2 := Lib.hid (C2.out.keep hb_)
  replace F2 := Lib.hid (F2.out.keep hb_)
  replace K := Lib.hid (K.out.keep hb_)
  have z4_ := hb_.size
  clear hb_
  rw [show tkV (tkN [105, 102]) = .agg #[.int .i64 0, .string ⟨#[105, 102]⟩, .int .i64 0, .int .i64 0] from rfl]
  (try go_wp2_with fail)
  refine hK.out _ _ (⟨K.out.at.1 0, K.out.at.1 1, K.out.at.1 2, K.out.at.1 3, K.out.at.1 4, C0.out.2.2.1, C0.out.2.2.2.1, C0.out.2.2.2.2.1, C0.out.2.2.2.2.2.1, C0.out.2.2.2.2.2.2⟩) (fun hH2 => ?_)
  clear hK K_ hH
  have hH := hH2; clear hH2
  (try simp only [Act.put, kS, kZ, kC])
  refine wpAnyH_ready (rs := [1, 6]) (by kernel_rfl) (by simp) ?_
  refine AllReadyH.cons at1 (fun K_ hK => ?_) (AllReadyH.cons at6 (fun K_ hK => ?_) AllReadyH.nil)
  · skip
    go_simp
    refine nmW (w3.alloc (.cells #[.int .i64 0, .string ⟨#[105, 102]⟩, .int .i64 0, .int .i64 0] 55)) fun w4 hv => ?_
    rw [← hv]
    have L := bxh hv
    have hb_ := bah hv
    clear hv
    have z5_ := L.out.lt
    replace B := Lib.hid (be_call B.out hb_)
    replace C0 := Lib.hid (C0.out.keep hb_)
    replace F0 := Lib.hid (F0.out.keep hb_)
    replace C1 := Lib.hid (C1.out.keep hb_)
    replace F1 := Lib.hid (F1.out.keep hb_)
    replace C2 := Lib.hid (C2.out.keep hb_)
    replace F2 := Lib.hid (F2.out.keep hb_)
    replace K := Lib.hid (K.out.keep hb_)
    have z6_ := hb_.size
    clear hb_
    refine hK.out _ _ (⟨K.out.at.1 0, K.out.at.1 1, K.out.at.1 2, K.out.at.1 3, K.out.at.1 4, C0.out.2.2.1, C0.out.2.2.2.1, C0.out.2.2.2.2.1, C0.out.2.2.2.2.2.1, C0.out.2.2.2.2.2.2⟩) (fun hH2 => ?_)
    clear hK K_ hH
    have hH := hH2; clear hH2
    (try simp only [Act.put, kS, kZ, kC])
    refine wpAnyH_ready (rs := [6]) (by kernel_rfl) (by simp) ?_
    refine AllReadyH.cons at6 (fun K_ hK => ?_) AllReadyH.nil
    have HC := Lib.hid (ratom_ok HI0.out HX0.out F0.out HA0.out)
    unfold hdC at HC
    go_simp
    refine (HC.out).mono ?_
    rintro e w5 ⟨va2, rfl, ho_, hb_⟩
    replace B := Lib.hid (be_call B.out hb_)
    replace C0 := Lib.hid (C0.out.keep hb_)
    replace F0 := Lib.hid (F0.out.keep hb_)
    replace C1 := Lib.hid (C1.out.keep hb_)
    replace F1 := Lib.hid (F1.out.keep hb_)
    replace C2 := Lib.hid (C2.out.keep hb_)
    replace F2 := Lib.hid (F2.out.keep hb_)
    replace K := Lib.hid (K.out.keep hb_)
    replace L := Lib.hid (L.out.keep hb_)
    have z7_ := hb_.size
    clear hb_
    have O2 := Lib.hid (ho_.mono (B' := w1.heap.size) (by omega)); clear ho_
    clear HC
    (try go_wp2_with fail)
    refine hK.out _ _ (⟨K.out.at.1 0, K.out.at.1 1, K.out.at.1 2, K.out.at.1 3, K.out.at.1 4, C0.out.2.2.1, C0.out.2.2.2.1, C0.out.2.2.2.2.1, C0.out.2.2.2.2.2.1, C0.out.2.2.2.2.2.2⟩) (fun hH2 => ?_)
    clear hK K_ hH
    have hH := hH2; clear hH2
    (try simp only [Act.put, kS, kZ, kC])
    obtain ⟨g2, cap2, hv_, -, -, hc2⟩ := O2.out.at (fun h => toks_ne HX0.out (List.length_eq_zero_iff.1 (by have := atom_len (x := x); rw [h] at this; exact Nat.le_zero.1 this)))
    subst hv_
    have HC2 := Lib.hid hc2; clear hc2
    obtain ⟨nn2, hnn2⟩ : ∃ nn, (wT x).length = nn := ⟨_, rfl⟩
    rw [hnn2]
    refine wpAnyH_ready (rs := [7]) (by kernel_rfl) (by simp) ?_
    refine AllReadyH.cons at7 (fun K_ hK => ?_) AllReadyH.nil
    have hln_ : ([tkN wIf] : List Tok).length + nn2 ≤ 1000000 := by have h1 := HN.out; rw [HT.out] at h1; rw [← hnn2]; simp at h1 ⊢; omega
    rw [if_pos (by rfl)]
    refine wp_appT (OwT.lit (B := w1.heap.size) (l := [tkN wIf]) L.out rfl (by omega) (by decide)) elemTok (by omega) hnn2 HC2.out (by omega) (by omega) rfl rfl rfl (fun v6_ w6 ho_ hg_ hb_ => ?_)
    clear O2
    clear L
    clear HC2
    clear hln_ hg_
    replace B := Lib.hid (B.out.trans (hb_.mono (by omega)))
    replace C0 := Lib.hid (C0.out.low hb_ (by omega))
    replace F0 := Lib.hid (F0.out.low hb_ (fun b hb => by omega))
    replace C1 := Lib.hid (C1.out.low hb_ (by omega))
    replace F1 := Lib.hid (F1.out.low hb_ (fun b hb => by omega))
    replace C2 := Lib.hid (C2.out.low hb_ (by omega))
    replace F2 := Lib.hid (F2.out.low hb_ (fun b hb => by omega))
    replace K := Lib.hid (K.out.low hb_ (by omega))
    have z8_ := hb_.size
    clear hb_
    have R0 := Lib.hid ho_; clear ho_
    refine hK.out _ _ (⟨K.out.at.1 0, K.out.at.1 1, K.out.at.1 2, K.out.at.1 3, K.out.at.1 4, C0.out.2.2.1, C0.out.2.2.2.1, C0.out.2.2.2.2.1, C0.out.2.2.2.2.2.1, C0.out.2.2.2.2.2.2⟩) (fun hH2 => ?_)
    clear hK K_ hH
    have hH := hH2; clear hH2
    (try simp only [Act.put, kS, kZ, kC])
    refine tk at8 ?_
    refine wpAnyH_done (by kernel_rfl) ?_ _
    clear hH
    go_upto_region 21 with fail
    refine nmW w6.drew fun w7 hW => ?_
    have hb_ := bdh hW
    replace B := Lib.hid (be_call B.out hb_)
    replace C0 := Lib.hid (C0.out.keep hb_)
    replace F0 := Lib.hid (F0.out.keep hb_)
    replace C1 := Lib.hid (C1.out.keep hb_)
    replace F1 := Lib.hid (F1.out.keep hb_)
    replace C2 := Lib.hid (C2.out.keep hb_)
    replace F2 := Lib.hid (F2.out.keep hb_)
    replace K := Lib.hid (K.out.keep hb_)
    replace R0 := Lib.hid (R0.out.keep hb_)
    have z9_ := hb_.size
    clear hb_
    refine wp_region_held_drew (S := (fun w' => w'.cell? ⟨w.heap.size, 0, none⟩ = some (.int .i64 5) ∧ w'.cell? ⟨w.heap.size, 1, none⟩ = some (.int .i64 n) ∧ w'.cell? ⟨w.heap.size, 2, none⟩ = some (.string ⟨u.toArray⟩) ∧ w'.cell? ⟨w.heap.size, 3, none⟩ = some (.string ⟨m.toArray⟩) ∧ w'.cell? ⟨w.heap.size, 4, none⟩ = some (.slice (some ⟨b, o, none⟩) a.len d) ∧ w'.cell? ⟨b, o + 5, none⟩ = some (.int .i64 y.op) ∧ w'.cell? ⟨b, o + 6, none⟩ = some (.int .i64 y.n) ∧ w'.cell? ⟨b, o + 7, none⟩ = some (.string ⟨y.unit.toArray⟩) ∧ w'.cell? ⟨b, o + 8, none⟩ = some (.string ⟨y.name.toArray⟩) ∧ w'.cell? ⟨b, o + 9, none⟩ = some (.slice q2 y.args.len d2))) (by kernel_rfl) (by rw [← hW]; exact ⟨K.out.at.1 0, K.out.at.1 1, K.out.at.1 2, K.out.at.1 3, K.out.at.1 4, C1.out.2.2.1, C1.out.2.2.2.1, C1.out.2.2.2.2.1, C1.out.2.2.2.2.2.1, C1.out.2.2.2.2.2.2⟩) (fun hH => ?_)
    rw [← hW] at hH ⊢
    clear hW
    refine tk at0 ?_
    refine tk at4 ?_
    refine tk at5 ?_
    refine tk at6 ?_
    refine tk at7 (v := .agg #[.int .i64 y.op, .int .i64 y.n, .string ⟨y.unit.toArray⟩, .string ⟨y.name.toArray⟩, .slice q2 y.args.len d2]) ?_
    refine wpAnyH_ready (rs := [1]) (by kernel_rfl) (by simp) ?_
    refine AllReadyH.cons at1 (fun K_ hK => ?_) AllReadyH.nil
    go_simp
    refine (rNme_ok ⟨#[116, 104, 101, 110]⟩ (sl := [116, 104, 101, 110]) (by rw [Lib.toList_data])).mono ?_
    rintro e w8 ⟨rfl, hb_⟩
    replace B := Lib.hid (be_call B.out hb_)
    replace C0 := Lib.hid (C0.out.keep hb_)
    replace F0 := Lib.hid (F0.out.keep hb_)
    replace C1 := Lib.hid (C1.out.keep hb_)
    replace F1 := Lib.hid (F1.out.keep hb_)
    replace C2 := Lib.hid (C2.out.keep hb_)
    replace F2 := Lib.hid (F2.out.keep hb_)
    replace K := Lib.hid (K.out.keep hb_)
    replace R0 := Lib.hid (R0.out.keep hb_)
    have z10_ := hb_.size
    clear hb_
    rw [show tkV (tkN [116, 104, 101, 110]) = .agg #[.int .i64 0, .string ⟨#[116, 104, 101, 110]⟩, .int .i64 0, .int .i64 0] from rfl]
    (try go_wp2_with fail)
    refine hK.out _ _ (⟨K.out.at.1 0, K.out.at.1 1, K.out.at.1 2, K.out.at.1 3, K.out.at.1 4, C1.out.2.2.1, C1.out.2.2.2.1, C1.out.2.2.2.2.1, C1.out.2.2.2.2.2.1, C1.out.2.2.2.2.2.2⟩) (fun hH2 => ?_)
    clear hK K_ hH
    have hH := hH2; clear hH2
    (try simp only [Act.put, kS, kZ, kC])
    refine wpAnyH_ready (rs := [2]) (by kernel_rfl) (by simp) ?_
    refine AllReadyH.cons at2 (fun K_ hK => ?_) AllReadyH.nil
    go_simp
    refine nmW (w8.alloc (.cells #[.int .i64 0, .string ⟨#[116, 104, 101, 110]⟩, .int .i64 0, .int .i64 0] 55)) fun w9 hv => ?_
    rw [← hv]
    have L1 := bxh hv
    have hb_ := bah hv
    clear hv
    have z11_ := L1.out.lt
    replace B := Lib.hid (be_call B.out hb_)
    replace C0 := Lib.hid (C0.out.keep hb_)
    replace F0 := Lib.hid (F0.out.keep hb_)
    replace C1 := Lib.hid (C1.out.keep hb_)
    replace F1 := Lib.hid (F1.out.keep hb_)
    replace C2 := Lib.hid (C2.out.keep hb_)
    replace F2 := Lib.hid (F2.out.keep hb_)
    replace K := Lib.hid (K.out.keep hb_)
    replace R0 := Lib.hid (R0.out.keep hb_)
    have z12_ := hb_.size
    clear hb_
    refine hK.out _ _ (⟨K.out.at.1 0, K.out.at.1 1, K.out.at.1 2, K.out.at.1 3, K.out.at.1 4, C1.out.2.2.1, C1.out.2.2.2.1, C1.out.2.2.2.2.1, C1.out.2.2.2.2.2.1, C1.out.2.2.2.2.2.2⟩) (fun hH2 => ?_)
    clear hK K_ hH
    have hH := hH2; clear hH2
    (try simp only [Act.put, kS, kZ, kC])
    refine wpAnyH_ready (rs := [3]) (by kernel_rfl) (by simp) ?_
    refine AllReadyH.cons at3 (fun K_ hK => ?_) AllReadyH.nil
    have hln_ : ([tkN wIf] ++ wT x).length + 1 ≤ 1000000 := by have h1 := HN.out; rw [HT.out] at h1; simp at h1 ⊢; omega
    rw [if_pos (by rfl)]
    refine wp_appT R0.out elemTok (by omega) (show ([tkN wThen] : List Tok).length = 1 from rfl) (show Bx _ _ _ (toksCells [tkN wThen]).toArray from L1.out).toks (by omega) (by omega) rfl rfl rfl (fun v10_ w10 ho_ hg_ hb_ => ?_)
    clear R0
    clear L1
    clear hln_ hg_
    replace B := Lib.hid (B.out.trans (hb_.mono (by omega)))
    replace C0 := Lib.hid (C0.out.low hb_ (by omega))
    replace F0 := Lib.hid (F0.out.low hb_ (fun b hb => by omega))
    replace C1 := Lib.hid (C1.out.low hb_ (by omega))
    replace F1 := Lib.hid (F1.out.low hb_ (fun b hb => by omega))
    replace C2 := Lib.hid (C2.out.low hb_ (by omega))
    replace F2 := Lib.hid (F2.out.low hb_ (fun b hb => by omega))
    replace K := Lib.hid (K.out.low hb_ (by omega))
    have z13_ := hb_.size
    clear hb_
    have P1 := Lib.hid ho_; clear ho_
    refine hK.out _ _ (⟨K.out.at.1 0, K.out.at.1 1, K.out.at.1 2, K.out.at.1 3, K.out.at.1 4, C1.out.2.2.1, C1.out.2.2.2.1, C1.out.2.2.2.2.1, C1.out.2.2.2.2.2.1, C1.out.2.2.2.2.2.2⟩) (fun hH2 => ?_)
    clear hK K_ hH
    have hH := hH2; clear hH2
    (try simp only [Act.put, kS, kZ, kC])
    refine wpAnyH_ready (rs := [8]) (by kernel_rfl) (by simp) ?_
    refine AllReadyH.cons at8 (fun K_ hK => ?_) AllReadyH.nil
    have HC := Lib.hid (ratom_ok HI1.out HX1.out F1.out HA1.out)
    unfold hdC at HC
    go_simp
    refine (HC.out).mono ?_
    rintro e w11 ⟨va3, rfl, ho_, hb_⟩
    replace B := Lib.hid (be_call B.out hb_)
    replace C0 := Lib.hid (C0.out.keep hb_)
    replace F0 := Lib.hid (F0.out.keep hb_)
    replace C1 := Lib.hid (C1.out.keep hb_)
    replace F1 := Lib.hid (F1.out.keep hb_)
    replace C2 := Lib.hid (C2.out.keep hb_)
    replace F2 := Lib.hid (F2.out.keep hb_)
    replace K := Lib.hid (K.out.keep hb_)
    replace P1 := Lib.hid (P1.out.keep hb_)
    have z14_ := hb_.size
    clear hb_
    have O3 := Lib.hid (ho_.mono (B' := w1.heap.size) (by omega)); clear ho_
    clear HC
    (try go_wp2_with fail)
    refine hK.out _ _ (⟨K.out.at.1 0, K.out.at.1 1, K.out.at.1 2, K.out.at.1 3, K.out.at.1 4, C1.out.2.2.1, C1.out.2.2.2.1, C1.out.2.2.2.2.1, C1.out.2.2.2.2.2.1, C1.out.2.2.2.2.2.2⟩) (fun hH2 => ?_)
    clear hK K_ hH
    have hH := hH2; clear hH2
    (try simp only [Act.put, kS, kZ, kC])
    obtain ⟨g3, cap3, hv_, -, -, hc3⟩ := O3.out.at (fun h => toks_ne HX1.out (List.length_eq_zero_iff.1 (by have := atom_len (x := y); rw [h] at this; exact Nat.le_zero.1 this)))
    subst hv_
    have HC3 := Lib.hid hc3; clear hc3
    obtain ⟨nn3, hnn3⟩ : ∃ nn, (wT y).length = nn := ⟨_, rfl⟩
    rw [hnn3]
    refine wpAnyH_ready (rs := [9]) (by kernel_rfl) (by simp) ?_
    refine AllReadyH.cons at9 (fun K_ hK => ?_) AllReadyH.nil
    have hln_ : ([tkN wIf] ++ wT x ++ [tkN wThen]).length + nn3 ≤ 1000000 := by have h1 := HN.out; rw [HT.out] at h1; rw [← hnn3]; simp at h1 ⊢; omega
    rw [if_pos (by rfl)]
    refine wp_appT P1.out elemTok (by omega) hnn3 HC3.out (by omega) (by omega) rfl rfl rfl (fun v12_ w12 ho_ hg_ hb_ => ?_)
    clear P1
    clear O3
    clear HC3
    clear hln_ hg_
    replace B := Lib.hid (B.out.trans (hb_.mono (by omega)))
    replace C0 := Lib.hid (C0.out.low hb_ (by omega))
    replace F0 := Lib.hid (F0.out.low hb_ (fun b hb => by omega))
    replace C1 := Lib.hid (C1.out.low hb_ (by omega))
    replace F1 := Lib.hid (F1.out.low hb_ (fun b hb => by omega))
    replace C2 := Lib.hid (C2.out.low hb_ (by omega))
    replace F2 := Lib.hid (F2.out.low hb_ (fun b hb => by omega))
    replace K := Lib.hid (K.out.low hb_ (by omega))
    have z15_ := hb_.size
    clear hb_
    have R1 := Lib.hid ho_; clear ho_
    refine hK.out _ _ (⟨K.out.at.1 0, K.out.at.1 1, K.out.at.1 2, K.out.at.1 3, K.out.at.1 4, C1.out.2.2.1, C1.out.2.2.2.1, C1.out.2.2.2.2.1, C1.out.2.2.2.2.2.1, C1.out.2.2.2.2.2.2⟩) (fun hH2 => ?_)
    clear hK K_ hH
    have hH := hH2; clear hH2
    (try simp only [Act.put, kS, kZ, kC])
    refine tk at10 ?_
    refine wpAnyH_done (by kernel_rfl) ?_ _
    clear hH
    go_upto_region 22 with fail
    refine nmW w12.drew fun w13 hW => ?_
    have hb_ := bdh hW
    replace B := Lib.hid (be_call B.out hb_)
    replace C0 := Lib.hid (C0.out.keep hb_)
    replace F0 := Lib.hid (F0.out.keep hb_)
    replace C1 := Lib.hid (C1.out.keep hb_)
    replace F1 := Lib.hid (F1.out.keep hb_)
    replace C2 := Lib.hid (C2.out.keep hb_)
    replace F2 := Lib.hid (F2.out.keep hb_)
    replace K := Lib.hid (K.out.keep hb_)
    replace R1 := Lib.hid (R1.out.keep hb_)
    have z16_ := hb_.size
    clear hb_
    refine wp_region_held_drew (S := (fun w' => w'.cell? ⟨w.heap.size, 0, none⟩ = some (.int .i64 5) ∧ w'.cell? ⟨w.heap.size, 1, none⟩ = some (.int .i64 n) ∧ w'.cell? ⟨w.heap.size, 2, none⟩ = some (.string ⟨u.toArray⟩) ∧ w'.cell? ⟨w.heap.size, 3, none⟩ = some (.string ⟨m.toArray⟩) ∧ w'.cell? ⟨w.heap.size, 4, none⟩ = some (.slice (some ⟨b, o, none⟩) a.len d) ∧ w'.cell? ⟨b, o + 10, none⟩ = some (.int .i64 z.op) ∧ w'.cell? ⟨b, o + 11, none⟩ = some (.int .i64 z.n) ∧ w'.cell? ⟨b, o + 12, none⟩ = some (.string ⟨z.unit.toArray⟩) ∧ w'.cell? ⟨b, o + 13, none⟩ = some (.string ⟨z.name.toArray⟩) ∧ w'.cell? ⟨b, o + 14, none⟩ = some (.slice q3 z.args.len d3))) (by kernel_rfl) (by rw [← hW]; exact ⟨K.out.at.1 0, K.out.at.1 1, K.out.at.1 2, K.out.at.1 3, K.out.at.1 4, C2.out.2.2.1, C2.out.2.2.2.1, C2.out.2.2.2.2.1, C2.out.2.2.2.2.2.1, C2.out.2.2.2.2.2.2⟩) (fun hH => ?_)
    rw [← hW] at hH ⊢
    clear hW
    refine tk at0 ?_
    refine tk at4 ?_
    refine tk at5 ?_
    refine tk at6 ?_
    refine tk at7 (v := .agg #[.int .i64 z.op, .int .i64 z.n, .string ⟨z.unit.toArray⟩, .string ⟨z.name.toArray⟩, .slice q3 z.args.len d3]) ?_
    refine wpAnyH_ready (rs := [1]) (by kernel_rfl) (by simp) ?_
    refine AllReadyH.cons at1 (fun K_ hK => ?_) AllReadyH.nil
    go_simp
    refine (rNme_ok ⟨#[101, 108, 115, 101]⟩ (sl := [101, 108, 115, 101]) (by rw [Lib.toList_data])).mono ?_
    rintro e w14 ⟨rfl, hb_⟩
    replace B := Lib.hid (be_call B.out hb_)
    replace C0 := Lib.hid (C0.out.keep hb_)
    replace F0 := Lib.hid (F0.out.keep hb_)
    replace C1 := Lib.hid (C1.out.keep hb_)
    replace F1 := Lib.hid (F1.out.keep hb_)
    replace C2 := Lib.hid (C2.out.keep hb_)
    replace F2 := Lib.hid (F2.out.keep hb_)
    replace K := Lib.hid (K.out.keep hb_)
    replace R1 := Lib.hid (R1.out.keep hb_)
    have z17_ := hb_.size
    clear hb_
    rw [show tkV (tkN [101, 108, 115, 101]) = .agg #[.int .i64 0, .string ⟨#[101, 108, 115, 101]⟩, .int .i64 0, .int .i64 0] from rfl]
    (try go_wp2_with fail)
    refine hK.out _ _ (⟨K.out.at.1 0, K.out.at.1 1, K.out.at.1 2, K.out.at.1 3, K.out.at.1 4, C2.out.2.2.1, C2.out.2.2.2.1, C2.out.2.2.2.2.1, C2.out.2.2.2.2.2.1, C2.out.2.2.2.2.2.2⟩) (fun hH2 => ?_)
    clear hK K_ hH
    have hH := hH2; clear hH2
    (try simp only [Act.put, kS, kZ, kC])
    refine wpAnyH_ready (rs := [2]) (by kernel_rfl) (by simp) ?_
    refine AllReadyH.cons at2 (fun K_ hK => ?_) AllReadyH.nil
    go_simp
    refine nmW (w14.alloc (.cells #[.int .i64 0, .string ⟨#[101, 108, 115, 101]⟩, .int .i64 0, .int .i64 0] 55)) fun w15 hv => ?_
    rw [← hv]
    have L2 := bxh hv
    have hb_ := bah hv
    clear hv
    have z18_ := L2.out.lt
    replace B := Lib.hid (be_call B.out hb_)
    replace C0 := Lib.hid (C0.out.keep hb_)
    replace F0 := Lib.hid (F0.out.keep hb_)
    replace C1 := Lib.hid (C1.out.keep hb_)
    replace F1 := Lib.hid (F1.out.keep hb_)
    replace C2 := Lib.hid (C2.out.keep hb_)
    replace F2 := Lib.hid (F2.out.keep hb_)
    replace K := Lib.hid (K.out.keep hb_)
    replace R1 := Lib.hid (R1.out.keep hb_)
    have z19_ := hb_.size
    clear hb_
    refine hK.out _ _ (⟨K.out.at.1 0, K.out.at.1 1, K.out.at.1 2, K.out.at.1 3, K.out.at.1 4, C2.out.2.2.1, C2.out.2.2.2.1, C2.out.2.2.2.2.1, C2.out.2.2.2.2.2.1, C2.out.2.2.2.2.2.2⟩) (fun hH2 => ?_)
    clear hK K_ hH
    have hH := hH2; clear hH2
    (try simp only [Act.put, kS, kZ, kC])
    refine wpAnyH_ready (rs := [3]) (by kernel_rfl) (by simp) ?_
    refine AllReadyH.cons at3 (fun K_ hK => ?_) AllReadyH.nil
    have hln_ : (([tkN wIf] ++ wT x ++ [tkN wThen]) ++ wT y).length + 1 ≤ 1000000 := by have h1 := HN.out; rw [HT.out] at h1; simp at h1 ⊢; omega
    rw [if_pos (by rfl)]
    refine wp_appT R1.out elemTok (by omega) (show ([tkN wElse] : List Tok).length = 1 from rfl) (show Bx _ _ _ (toksCells [tkN wElse]).toArray from L2.out).toks (by omega) (by omega) rfl rfl rfl (fun v16_ w16 ho_ hg_ hb_ => ?_)
    clear R1
    clear L2
    clear hln_ hg_
    replace B := Lib.hid (B.out.trans (hb_.mono (by omega)))
    replace C0 := Lib.hid (C0.out.low hb_ (by omega))
    replace F0 := Lib.hid (F0.out.low hb_ (fun b hb => by omega))
    replace C1 := Lib.hid (C1.out.low hb_ (by omega))
    replace F1 := Lib.hid (F1.out.low hb_ (fun b hb => by omega))
    replace C2 := Lib.hid (C2.out.low hb_ (by omega))
    replace F2 := Lib.hid (F2.out.low hb_ (fun b hb => by omega))
    replace K := Lib.hid (K.out.low hb_ (by omega))
    have z20_ := hb_.size
    clear hb_
    have P2 := Lib.hid ho_; clear ho_
    refine hK.out _ _ (⟨K.out.at.1 0, K.out.at.1 1, K.out.at.1 2, K.out.at.1 3, K.out.at.1 4, C2.out.2.2.1, C2.out.2.2.2.1, C2.out.2.2.2.2.1, C2.out.2.2.2.2.2.1, C2.out.2.2.2.2.2.2⟩) (fun hH2 => ?_)
    clear hK K_ hH
    have hH := hH2; clear hH2
    (try simp only [Act.put, kS, kZ, kC])
    refine wpAnyH_ready (rs := [8]) (by kernel_rfl) (by simp) ?_
    refine AllReadyH.cons at8 (fun K_ hK => ?_) AllReadyH.nil
    have HC := Lib.hid (ratom_ok HI2.out HX2.out F2.out HA2.out)
    unfold hdC at HC
    go_simp
    refine (HC.out).mono ?_
    rintro e w17 ⟨va4, rfl, ho_, hb_⟩
    replace B := Lib.hid (be_call B.out hb_)
    replace C0 := Lib.hid (C0.out.keep hb_)
    replace F0 := Lib.hid (F0.out.keep hb_)
    replace C1 := Lib.hid (C1.out.keep hb_)
    replace F1 := Lib.hid (F1.out.keep hb_)
    replace C2 := Lib.hid (C2.out.keep hb_)
    replace F2 := Lib.hid (F2.out.keep hb_)
    replace K := Lib.hid (K.out.keep hb_)
    replace P2 := Lib.hid (P2.out.keep hb_)
    have z21_ := hb_.size
    clear hb_
    have O4 := Lib.hid (ho_.mono (B' := w1.heap.size) (by omega)); clear ho_
    clear HC
    (try go_wp2_with fail)
    refine hK.out _ _ (⟨K.out.at.1 0, K.out.at.1 1, K.out.at.1 2, K.out.at.1 3, K.out.at.1 4, C2.out.2.2.1, C2.out.2.2.2.1, C2.out.2.2.2.2.1, C2.out.2.2.2.2.2.1, C2.out.2.2.2.2.2.2⟩) (fun hH2 => ?_)
    clear hK K_ hH
    have hH := hH2; clear hH2
    (try simp only [Act.put, kS, kZ, kC])
    obtain ⟨g4, cap4, hv_, -, -, hc4⟩ := O4.out.at (fun h => toks_ne HX2.out (List.length_eq_zero_iff.1 (by have := atom_len (x := z); rw [h] at this; exact Nat.le_zero.1 this)))
    subst hv_
    have HC4 := Lib.hid hc4; clear hc4
    obtain ⟨nn4, hnn4⟩ : ∃ nn, (wT z).length = nn := ⟨_, rfl⟩
    rw [hnn4]
    refine wpAnyH_ready (rs := [9]) (by kernel_rfl) (by simp) ?_
    refine AllReadyH.cons at9 (fun K_ hK => ?_) AllReadyH.nil
    have hln_ : (([tkN wIf] ++ wT x ++ [tkN wThen]) ++ wT y ++ [tkN wElse]).length + nn4 ≤ 1000000 := by have h1 := HN.out; rw [HT.out] at h1; rw [← hnn4]; simp at h1 ⊢; omega
    rw [if_pos (by rfl)]
    refine wp_appT P2.out elemTok (by omega) hnn4 HC4.out (by omega) (by omega) rfl rfl rfl (fun v18_ w18 ho_ hg_ hb_ => ?_)
    clear P2
    clear O4
    clear HC4
    clear hln_ hg_
    replace B := Lib.hid (B.out.trans (hb_.mono (by omega)))
    replace C0 := Lib.hid (C0.out.low hb_ (by omega))
    replace F0 := Lib.hid (F0.out.low hb_ (fun b hb => by omega))
    replace C1 := Lib.hid (C1.out.low hb_ (by omega))
    replace F1 := Lib.hid (F1.out.low hb_ (fun b hb => by omega))
    replace C2 := Lib.hid (C2.out.low hb_ (by omega))
    replace F2 := Lib.hid (F2.out.low hb_ (fun b hb => by omega))
    replace K := Lib.hid (K.out.low hb_ (by omega))
    have z22_ := hb_.size
    clear hb_
    have R2 := Lib.hid ho_; clear ho_
    refine hK.out _ _ (⟨K.out.at.1 0, K.out.at.1 1, K.out.at.1 2, K.out.at.1 3, K.out.at.1 4, C2.out.2.2.1, C2.out.2.2.2.1, C2.out.2.2.2.2.1, C2.out.2.2.2.2.2.1, C2.out.2.2.2.2.2.2⟩) (fun hH2 => ?_)
    clear hK K_ hH
    have hH := hH2; clear hH2
    (try simp only [Act.put, kS, kZ, kC])
    refine tk at10 ?_
    refine wpAnyH_done (by kernel_rfl) ?_ _
    clear hH
    go_wp2_with fail
    go_ret
    exact ⟨_, rfl, by rw [HT.out]; exact R2.out.mono (by omega), B.out⟩
  · skip
    have HC := Lib.hid (ratom_ok HI0.out HX0.out F0.out HA0.out)
    unfold hdC at HC
    go_simp
    refine (HC.out).mono ?_
    rintro e w19 ⟨va2, rfl, ho_, hb_⟩
    replace B := Lib.hid (be_call B.out hb_)
    replace C0 := Lib.hid (C0.out.keep hb_)
    replace F0 := Lib.hid (F0.out.keep hb_)
    replace C1 := Lib.hid (C1.out.keep hb_)
    replace F1 := Lib.hid (F1.out.keep hb_)
    replace C2 := Lib.hid (C2.out.keep hb_)
    replace F2 := Lib.hid (F2.out.keep hb_)
    replace K := Lib.hid (K.out.keep hb_)
    have z23_ := hb_.size
    clear hb_
    have O2 := Lib.hid (ho_.mono (B' := w1.heap.size) (by omega)); clear ho_
    clear HC
    (try go_wp2_with fail)
    refine hK.out _ _ (⟨K.out.at.1 0, K.out.at.1 1, K.out.at.1 2, K.out.at.1 3, K.out.at.1 4, C0.out.2.2.1, C0.out.2.2.2.1, C0.out.2.2.2.2.1, C0.out.2.2.2.2.2.1, C0.out.2.2.2.2.2.2⟩) (fun hH2 => ?_)
    clear hK K_ hH
    have hH := hH2; clear hH2
    (try simp only [Act.put, kS, kZ, kC])
    refine wpAnyH_ready (rs := [1]) (by kernel_rfl) (by simp) ?_
    refine AllReadyH.cons at1 (fun K_ hK => ?_) AllReadyH.nil
    go_simp
    refine nmW (w19.alloc (.cells #[.int .i64 0, .string ⟨#[105, 102]⟩, .int .i64 0, .int .i64 0] 55)) fun w20 hv => ?_
    rw [← hv]
    have L := bxh hv
    have hb_ := bah hv
    clear hv
    have z24_ := L.out.lt
    replace B := Lib.hid (be_call B.out hb_)
    replace C0 := Lib.hid (C0.out.keep hb_)
    replace F0 := Lib.hid (F0.out.keep hb_)
    replace C1 := Lib.hid (C1.out.keep hb_)
    replace F1 := Lib.hid (F1.out.keep hb_)
    replace C2 := Lib.hid (C2.out.keep hb_)
    replace F2 := Lib.hid (F2.out.keep hb_)
    replace K := Lib.hid (K.out.keep hb_)
    replace O2 := Lib.hid (O2.out.keep hb_)
    have z25_ := hb_.size
    clear hb_
    refine hK.out _ _ (⟨K.out.at.1 0, K.out.at.1 1, K.out.at.1 2, K.out.at.1 3, K.out.at.1 4, C0.out.2.2.1, C0.out.2.2.2.1, C0.out.2.2.2.2.1, C0.out.2.2.2.2.2.1, C0.out.2.2.2.2.2.2⟩) (fun hH2 => ?_)
    clear hK K_ hH
    have hH := hH2; clear hH2
    (try simp only [Act.put, kS, kZ, kC])
    obtain ⟨g2, cap2, hv_, -, -, hc2⟩ := O2.out.at (fun h => toks_ne HX0.out (List.length_eq_zero_iff.1 (by have := atom_len (x := x); rw [h] at this; exact Nat.le_zero.1 this)))
    subst hv_
    have HC2 := Lib.hid hc2; clear hc2
    obtain ⟨nn2, hnn2⟩ : ∃ nn, (wT x).length = nn := ⟨_, rfl⟩
    rw [hnn2]
    refine wpAnyH_ready (rs := [7]) (by kernel_rfl) (by simp) ?_
    refine AllReadyH.cons at7 (fun K_ hK => ?_) AllReadyH.nil
    have hln_ : ([tkN wIf] : List Tok).length + nn2 ≤ 1000000 := by have h1 := HN.out; rw [HT.out] at h1; rw [← hnn2]; simp at h1 ⊢; omega
    rw [if_pos (by rfl)]
    refine wp_appT (OwT.lit (B := w1.heap.size) (l := [tkN wIf]) L.out rfl (by omega) (by decide)) elemTok (by omega) hnn2 HC2.out (by omega) (by omega) rfl rfl rfl (fun v21_ w21 ho_ hg_ hb_ => ?_)
    clear O2
    clear L
    clear HC2
    clear hln_ hg_
    replace B := Lib.hid (B.out.trans (hb_.mono (by omega)))
    replace C0 := Lib.hid (C0.out.low hb_ (by omega))
    replace F0 := Lib.hid (F0.out.low hb_ (fun b hb => by omega))
    replace C1 := Lib.hid (C1.out.low hb_ (by omega))
    replace F1 := Lib.hid (F1.out.low hb_ (fun b hb => by omega))
    replace C2 := Lib.hid (C2.out.low hb_ (by omega))
    replace F2 := Lib.hid (F2.out.low hb_ (fun b hb => by omega))
    replace K := Lib.hid (K.out.low hb_ (by omega))
    have z26_ := hb_.size
    clear hb_
    have R0 := Lib.hid ho_; clear ho_
    refine hK.out _ _ (⟨K.out.at.1 0, K.out.at.1 1, K.out.at.1 2, K.out.at.1 3, K.out.at.1 4, C0.out.2.2.1, C0.out.2.2.2.1, C0.out.2.2.2.2.1, C0.out.2.2.2.2.2.1, C0.out.2.2.2.2.2.2⟩) (fun hH2 => ?_)
    clear hK K_ hH
    have hH := hH2; clear hH2
    (try simp only [Act.put, kS, kZ, kC])
    refine tk at8 ?_
    refine wpAnyH_done (by kernel_rfl) ?_ _
    clear hH
    go_upto_region 21 with fail
    refine nmW w21.drew fun w22 hW => ?_
    have hb_ := bdh hW
    replace B := Lib.hid (be_call B.out hb_)
    replace C0 := Lib.hid (C0.out.keep hb_)
    replace F0 := Lib.hid (F0.out.keep hb_)
    replace C1 := Lib.hid (C1.out.keep hb_)
    replace F1 := Lib.hid (F1.out.keep hb_)
    replace C2 := Lib.hid (C2.out.keep hb_)
    replace F2 := Lib.hid (F2.out.keep hb_)
    replace K := Lib.hid (K.out.keep hb_)
    replace R0 := Lib.hid (R0.out.keep hb_)
    have z27_ := hb_.size
    clear hb_
    refine wp_region_held_drew (S := (fun w' => w'.cell? ⟨w.heap.size, 0, none⟩ = some (.int .i64 5) ∧ w'.cell? ⟨w.heap.size, 1, none⟩ = some (.int .i64 n) ∧ w'.cell? ⟨w.heap.size, 2, none⟩ = some (.string ⟨u.toArray⟩) ∧ w'.cell? ⟨w.heap.size, 3, none⟩ = some (.string ⟨m.toArray⟩) ∧ w'.cell? ⟨w.heap.size, 4, none⟩ = some (.slice (some ⟨b, o, none⟩) a.len d) ∧ w'.cell? ⟨b, o + 5, none⟩ = some (.int .i64 y.op) ∧ w'.cell? ⟨b, o + 6, none⟩ = some (.int .i64 y.n) ∧ w'.cell? ⟨b, o + 7, none⟩ = some (.string ⟨y.unit.toArray⟩) ∧ w'.cell? ⟨b, o + 8, none⟩ = some (.string ⟨y.name.toArray⟩) ∧ w'.cell? ⟨b, o + 9, none⟩ = some (.slice q2 y.args.len d2))) (by kernel_rfl) (by rw [← hW]; exact ⟨K.out.at.1 0, K.out.at.1 1, K.out.at.1 2, K.out.at.1 3, K.out.at.1 4, C1.out.2.2.1, C1.out.2.2.2.1, C1.out.2.2.2.2.1, C1.out.2.2.2.2.2.1, C1.out.2.2.2.2.2.2⟩) (fun hH => ?_)
    rw [← hW] at hH ⊢
    clear hW
    refine tk at0 ?_
    refine tk at4 ?_
    refine tk at5 ?_
    refine tk at6 ?_
    refine tk at7 (v := .agg #[.int .i64 y.op, .int .i64 y.n, .string ⟨y.unit.toArray⟩, .string ⟨y.name.toArray⟩, .slice q2 y.args.len d2]) ?_
    refine wpAnyH_ready (rs := [1]) (by kernel_rfl) (by simp) ?_
    refine AllReadyH.cons at1 (fun K_ hK => ?_) AllReadyH.nil
    go_simp
    refine (rNme_ok ⟨#[116, 104, 101, 110]⟩ (sl := [116, 104, 101, 110]) (by rw [Lib.toList_data])).mono ?_
    rintro e w23 ⟨rfl, hb_⟩
    replace B := Lib.hid (be_call B.out hb_)
    replace C0 := Lib.hid (C0.out.keep hb_)
    replace F0 := Lib.hid (F0.out.keep hb_)
    replace C1 := Lib.hid (C1.out.keep hb_)
    replace F1 := Lib.hid (F1.out.keep hb_)
    replace C2 := Lib.hid (C2.out.keep hb_)
    replace F2 := Lib.hid (F2.out.keep hb_)
    replace K := Lib.hid (K.out.keep hb_)
    replace R0 := Lib.hid (R0.out.keep hb_)
    have z28_ := hb_.size
    clear hb_
    rw [show tkV (tkN [116, 104, 101, 110]) = .agg #[.int .i64 0, .string ⟨#[116, 104, 101, 110]⟩, .int .i64 0, .int .i64 0] from rfl]
    (try go_wp2_with fail)
    refine hK.out _ _ (⟨K.out.at.1 0, K.out.at.1 1, K.out.at.1 2, K.out.at.1 3, K.out.at.1 4, C1.out.2.2.1, C1.out.2.2.2.1, C1.out.2.2.2.2.1, C1.out.2.2.2.2.2.1, C1.out.2.2.2.2.2.2⟩) (fun hH2 => ?_)
    clear hK K_ hH
    have hH := hH2; clear hH2
    (try simp only [Act.put, kS, kZ, kC])
    refine wpAnyH_ready (rs := [2]) (by kernel_rfl) (by simp) ?_
    refine AllReadyH.cons at2 (fun K_ hK => ?_) AllReadyH.nil
    go_simp
    refine nmW (w23.alloc (.cells #[.int .i64 0, .string ⟨#[116, 104, 101, 110]⟩, .int .i64 0, .int .i64 0] 55)) fun w24 hv => ?_
    rw [← hv]
    have L1 := bxh hv
    have hb_ := bah hv
    clear hv
    have z29_ := L1.out.lt
    replace B := Lib.hid (be_call B.out hb_)
    replace C0 := Lib.hid (C0.out.keep hb_)
    replace F0 := Lib.hid (F0.out.keep hb_)
    replace C1 := Lib.hid (C1.out.keep hb_)
    replace F1 := Lib.hid (F1.out.keep hb_)
    replace C2 := Lib.hid (C2.out.keep hb_)
    replace F2 := Lib.hid (F2.out.keep hb_)
    replace K := Lib.hid (K.out.keep hb_)
    replace R0 := Lib.hid (R0.out.keep hb_)
    have z30_ := hb_.size
    clear hb_
    refine hK.out _ _ (⟨K.out.at.1 0, K.out.at.1 1, K.out.at.1 2, K.out.at.1 3, K.out.at.1 4, C1.out.2.2.1, C1.out.2.2.2.1, C1.out.2.2.2.2.1, C1.out.2.2.2.2.2.1, C1.out.2.2.2.2.2.2⟩) (fun hH2 => ?_)
    clear hK K_ hH
    have hH := hH2; clear hH2
    (try simp only [Act.put, kS, kZ, kC])
    refine wpAnyH_ready (rs := [3]) (by kernel_rfl) (by simp) ?_
    refine AllReadyH.cons at3 (fun K_ hK => ?_) AllReadyH.nil
    have hln_ : ([tkN wIf] ++ wT x).length + 1 ≤ 1000000 := by have h1 := HN.out; rw [HT.out] at h1; simp at h1 ⊢; omega
    rw [if_pos (by rfl)]
    refine wp_appT R0.out elemTok (by omega) (show ([tkN wThen] : List Tok).length = 1 from rfl) (show Bx _ _ _ (toksCells [tkN wThen]).toArray from L1.out).toks (by omega) (by omega) rfl rfl rfl (fun v25_ w25 ho_ hg_ hb_ => ?_)
    clear R0
    clear L1
    clear hln_ hg_
    replace B := Lib.hid (B.out.trans (hb_.mono (by omega)))
    replace C0 := Lib.hid (C0.out.low hb_ (by omega))
    replace F0 := Lib.hid (F0.out.low hb_ (fun b hb => by omega))
    replace C1 := Lib.hid (C1.out.low hb_ (by omega))
    replace F1 := Lib.hid (F1.out.low hb_ (fun b hb => by omega))
    replace C2 := Lib.hid (C2.out.low hb_ (by omega))
    replace F2 := Lib.hid (F2.out.low hb_ (fun b hb => by omega))
    replace K := Lib.hid (K.out.low hb_ (by omega))
    have z31_ := hb_.size
    clear hb_
    have P1 := Lib.hid ho_; clear ho_
    refine hK.out _ _ (⟨K.out.at.1 0, K.out.at.1 1, K.out.at.1 2, K.out.at.1 3, K.out.at.1 4, C1.out.2.2.1, C1.out.2.2.2.1, C1.out.2.2.2.2.1, C1.out.2.2.2.2.2.1, C1.out.2.2.2.2.2.2⟩) (fun hH2 => ?_)
    clear hK K_ hH
    have hH := hH2; clear hH2
    (try simp only [Act.put, kS, kZ, kC])
    refine wpAnyH_ready (rs := [8]) (by kernel_rfl) (by simp) ?_
    refine AllReadyH.cons at8 (fun K_ hK => ?_) AllReadyH.nil
    have HC := Lib.hid (ratom_ok HI1.out HX1.out F1.out HA1.out)
    unfold hdC at HC
    go_simp
    refine (HC.out).mono ?_
    rintro e w26 ⟨va3, rfl, ho_, hb_⟩
    replace B := Lib.hid (be_call B.out hb_)
    replace C0 := Lib.hid (C0.out.keep hb_)
    replace F0 := Lib.hid (F0.out.keep hb_)
    replace C1 := Lib.hid (C1.out.keep hb_)
    replace F1 := Lib.hid (F1.out.keep hb_)
    replace C2 := Lib.hid (C2.out.keep hb_)
    replace F2 := Lib.hid (F2.out.keep hb_)
    replace K := Lib.hid (K.out.keep hb_)
    replace P1 := Lib.hid (P1.out.keep hb_)
    have z32_ := hb_.size
    clear hb_
    have O3 := Lib.hid (ho_.mono (B' := w1.heap.size) (by omega)); clear ho_
    clear HC
    (try go_wp2_with fail)
    refine hK.out _ _ (⟨K.out.at.1 0, K.out.at.1 1, K.out.at.1 2, K.out.at.1 3, K.out.at.1 4, C1.out.2.2.1, C1.out.2.2.2.1, C1.out.2.2.2.2.1, C1.out.2.2.2.2.2.1, C1.out.2.2.2.2.2.2⟩) (fun hH2 => ?_)
    clear hK K_ hH
    have hH := hH2; clear hH2
    (try simp only [Act.put, kS, kZ, kC])
    obtain ⟨g3, cap3, hv_, -, -, hc3⟩ := O3.out.at (fun h => toks_ne HX1.out (List.length_eq_zero_iff.1 (by have := atom_len (x := y); rw [h] at this; exact Nat.le_zero.1 this)))
    subst hv_
    have HC3 := Lib.hid hc3; clear hc3
    obtain ⟨nn3, hnn3⟩ : ∃ nn, (wT y).length = nn := ⟨_, rfl⟩
    rw [hnn3]
    refine wpAnyH_ready (rs := [9]) (by kernel_rfl) (by simp) ?_
    refine AllReadyH.cons at9 (fun K_ hK => ?_) AllReadyH.nil
    have hln_ : ([tkN wIf] ++ wT x ++ [tkN wThen]).length + nn3 ≤ 1000000 := by have h1 := HN.out; rw [HT.out] at h1; rw [← hnn3]; simp at h1 ⊢; omega
    rw [if_pos (by rfl)]
    refine wp_appT P1.out elemTok (by omega) hnn3 HC3.out (by omega) (by omega) rfl rfl rfl (fun v27_ w27 ho_ hg_ hb_ => ?_)
    clear P1
    clear O3
    clear HC3
    clear hln_ hg_
    replace B := Lib.hid (B.out.trans (hb_.mono (by omega)))
    replace C0 := Lib.hid (C0.out.low hb_ (by omega))
    replace F0 := Lib.hid (F0.out.low hb_ (fun b hb => by omega))
    replace C1 := Lib.hid (C1.out.low hb_ (by omega))
    replace F1 := Lib.hid (F1.out.low hb_ (fun b hb => by omega))
    replace C2 := Lib.hid (C2.out.low hb_ (by omega))
    replace F2 := Lib.hid (F2.out.low hb_ (fun b hb => by omega))
    replace K := Lib.hid (K.out.low hb_ (by omega))
    have z33_ := hb_.size
    clear hb_
    have R1 := Lib.hid ho_; clear ho_
    refine hK.out _ _ (⟨K.out.at.1 0, K.out.at.1 1, K.out.at.1 2, K.out.at.1 3, K.out.at.1 4, C1.out.2.2.1, C1.out.2.2.2.1, C1.out.2.2.2.2.1, C1.out.2.2.2.2.2.1, C1.out.2.2.2.2.2.2⟩) (fun hH2 => ?_)
    clear hK K_ hH
    have hH := hH2; clear hH2
    (try simp only [Act.put, kS, kZ, kC])
    refine tk at10 ?_
    refine wpAnyH_done (by kernel_rfl) ?_ _
    clear hH
    go_upto_region 22 with fail
    refine nmW w27.drew fun w28 hW => ?_
    have hb_ := bdh hW
    replace B := Lib.hid (be_call B.out hb_)
    replace C0 := Lib.hid (C0.out.keep hb_)
    replace F0 := Lib.hid (F0.out.keep hb_)
    replace C1 := Lib.hid (C1.out.keep hb_)
    replace F1 := Lib.hid (F1.out.keep hb_)
    replace C2 := Lib.hid (C2.out.keep hb_)
    replace F2 := Lib.hid (F2.out.keep hb_)
    replace K := Lib.hid (K.out.keep hb_)
    replace R1 := Lib.hid (R1.out.keep hb_)
    have z34_ := hb_.size
    clear hb_
    refine wp_region_held_drew (S := (fun w' => w'.cell? ⟨w.heap.size, 0, none⟩ = some (.int .i64 5) ∧ w'.cell? ⟨w.heap.size, 1, none⟩ = some (.int .i64 n) ∧ w'.cell? ⟨w.heap.size, 2, none⟩ = some (.string ⟨u.toArray⟩) ∧ w'.cell? ⟨w.heap.size, 3, none⟩ = some (.string ⟨m.toArray⟩) ∧ w'.cell? ⟨w.heap.size, 4, none⟩ = some (.slice (some ⟨b, o, none⟩) a.len d) ∧ w'.cell? ⟨b, o + 10, none⟩ = some (.int .i64 z.op) ∧ w'.cell? ⟨b, o + 11, none⟩ = some (.int .i64 z.n) ∧ w'.cell? ⟨b, o + 12, none⟩ = some (.string ⟨z.unit.toArray⟩) ∧ w'.cell? ⟨b, o + 13, none⟩ = some (.string ⟨z.name.toArray⟩) ∧ w'.cell? ⟨b, o + 14, none⟩ = some (.slice q3 z.args.len d3))) (by kernel_rfl) (by rw [← hW]; exact ⟨K.out.at.1 0, K.out.at.1 1, K.out.at.1 2, K.out.at.1 3, K.out.at.1 4, C2.out.2.2.1, C2.out.2.2.2.1, C2.out.2.2.2.2.1, C2.out.2.2.2.2.2.1, C2.out.2.2.2.2.2.2⟩) (fun hH => ?_)
    rw [← hW] at hH ⊢
    clear hW
    refine tk at0 ?_
    refine tk at4 ?_
    refine tk at5 ?_
    refine tk at6 ?_
    refine tk at7 (v := .agg #[.int .i64 z.op, .int .i64 z.n, .string ⟨z.unit.toArray⟩, .string ⟨z.name.toArray⟩, .slice q3 z.args.len d3]) ?_
    refine wpAnyH_ready (rs := [1]) (by kernel_rfl) (by simp) ?_
    refine AllReadyH.cons at1 (fun K_ hK => ?_) AllReadyH.nil
    go_simp
    refine (rNme_ok ⟨#[101, 108, 115, 101]⟩ (sl := [101, 108, 115, 101]) (by rw [Lib.toList_data])).mono ?_
    rintro e w29 ⟨rfl, hb_⟩
    replace B := Lib.hid (be_call B.out hb_)
    replace C0 := Lib.hid (C0.out.keep hb_)
    replace F0 := Lib.hid (F0.out.keep hb_)
    replace C1 := Lib.hid (C1.out.keep hb_)
    replace F1 := Lib.hid (F1.out.keep hb_)
    replace C2 := Lib.hid (C2.out.keep hb_)
    replace F2 := Lib.hid (F2.out.keep hb_)
    replace K := Lib.hid (K.out.keep hb_)
    replace R1 := Lib.hid (R1.out.keep hb_)
    have z35_ := hb_.size
    clear hb_
    rw [show tkV (tkN [101, 108, 115, 101]) = .agg #[.int .i64 0, .string ⟨#[101, 108, 115, 101]⟩, .int .i64 0, .int .i64 0] from rfl]
    (try go_wp2_with fail)
    refine hK.out _ _ (⟨K.out.at.1 0, K.out.at.1 1, K.out.at.1 2, K.out.at.1 3, K.out.at.1 4, C2.out.2.2.1, C2.out.2.2.2.1, C2.out.2.2.2.2.1, C2.out.2.2.2.2.2.1, C2.out.2.2.2.2.2.2⟩) (fun hH2 => ?_)
    clear hK K_ hH
    have hH := hH2; clear hH2
    (try simp only [Act.put, kS, kZ, kC])
    refine wpAnyH_ready (rs := [2]) (by kernel_rfl) (by simp) ?_
    refine AllReadyH.cons at2 (fun K_ hK => ?_) AllReadyH.nil
    go_simp
    refine nmW (w29.alloc (.cells #[.int .i64 0, .string ⟨#[101, 108, 115, 101]⟩, .int .i64 0, .int .i64 0] 55)) fun w30 hv => ?_
    rw [← hv]
    have L2 := bxh hv
    have hb_ := bah hv
    clear hv
    have z36_ := L2.out.lt
    replace B := Lib.hid (be_call B.out hb_)
    replace C0 := Lib.hid (C0.out.keep hb_)
    replace F0 := Lib.hid (F0.out.keep hb_)
    replace C1 := Lib.hid (C1.out.keep hb_)
    replace F1 := Lib.hid (F1.out.keep hb_)
    replace C2 := Lib.hid (C2.out.keep hb_)
    replace F2 := Lib.hid (F2.out.keep hb_)
    replace K := Lib.hid (K.out.keep hb_)
    replace R1 := Lib.hid (R1.out.keep hb_)
    have z37_ := hb_.size
    clear hb_
    refine hK.out _ _ (⟨K.out.at.1 0, K.out.at.1 1, K.out.at.1 2, K.out.at.1 3, K.out.at.1 4, C2.out.2.2.1, C2.out.2.2.2.1, C2.out.2.2.2.2.1, C2.out.2.2.2.2.2.1, C2.out.2.2.2.2.2.2⟩) (fun hH2 => ?_)
    clear hK K_ hH
    have hH := hH2; clear hH2
    (try simp only [Act.put, kS, kZ, kC])
    refine wpAnyH_ready (rs := [3]) (by kernel_rfl) (by simp) ?_
    refine AllReadyH.cons at3 (fun K_ hK => ?_) AllReadyH.nil
    have hln_ : (([tkN wIf] ++ wT x ++ [tkN wThen]) ++ wT y).length + 1 ≤ 1000000 := by have h1 := HN.out; rw [HT.out] at h1; simp at h1 ⊢; omega
    rw [if_pos (by rfl)]
    refine wp_appT R1.out elemTok (by omega) (show ([tkN wElse] : List Tok).length = 1 from rfl) (show Bx _ _ _ (toksCells [tkN wElse]).toArray from L2.out).toks (by omega) (by omega) rfl rfl rfl (fun v31_ w31 ho_ hg_ hb_ => ?_)
    clear R1
    clear L2
    clear hln_ hg_
    replace B := Lib.hid (B.out.trans (hb_.mono (by omega)))
    replace C0 := Lib.hid (C0.out.low hb_ (by omega))
    replace F0 := Lib.hid (F0.out.low hb_ (fun b hb => by omega))
    replace C1 := Lib.hid (C1.out.low hb_ (by omega))
    replace F1 := Lib.hid (F1.out.low hb_ (fun b hb => by omega))
    replace C2 := Lib.hid (C2.out.low hb_ (by omega))
    replace F2 := Lib.hid (F2.out.low hb_ (fun b hb => by omega))
    replace K := Lib.hid (K.out.low hb_ (by omega))
    have z38_ := hb_.size
    clear hb_
    have P2 := Lib.hid ho_; clear ho_
    refine hK.out _ _ (⟨K.out.at.1 0, K.out.at.1 1, K.out.at.1 2, K.out.at.1 3, K.out.at.1 4, C2.out.2.2.1, C2.out.2.2.2.1, C2.out.2.2.2.2.1, C2.out.2.2.2.2.2.1, C2.out.2.2.2.2.2.2⟩) (fun hH2 => ?_)
    clear hK K_ hH
    have hH := hH2; clear hH2
    (try simp only [Act.put, kS, kZ, kC])
    refine wpAnyH_ready (rs := [8]) (by kernel_rfl) (by simp) ?_
    refine AllReadyH.cons at8 (fun K_ hK => ?_) AllReadyH.nil
    have HC := Lib.hid (ratom_ok HI2.out HX2.out F2.out HA2.out)
    unfold hdC at HC
    go_simp
    refine (HC.out).mono ?_
    rintro e w32 ⟨va4, rfl, ho_, hb_⟩
    replace B := Lib.hid (be_call B.out hb_)
    replace C0 := Lib.hid (C0.out.keep hb_)
    replace F0 := Lib.hid (F0.out.keep hb_)
    replace C1 := Lib.hid (C1.out.keep hb_)
    replace F1 := Lib.hid (F1.out.keep hb_)
    replace C2 := Lib.hid (C2.out.keep hb_)
    replace F2 := Lib.hid (F2.out.keep hb_)
    replace K := Lib.hid (K.out.keep hb_)
    replace P2 := Lib.hid (P2.out.keep hb_)
    have z39_ := hb_.size
    clear hb_
    have O4 := Lib.hid (ho_.mono (B' := w1.heap.size) (by omega)); clear ho_
    clear HC
    (try go_wp2_with fail)
    refine hK.out _ _ (⟨K.out.at.1 0, K.out.at.1 1, K.out.at.1 2, K.out.at.1 3, K.out.at.1 4, C2.out.2.2.1, C2.out.2.2.2.1, C2.out.2.2.2.2.1, C2.out.2.2.2.2.2.1, C2.out.2.2.2.2.2.2⟩) (fun hH2 => ?_)
    clear hK K_ hH
    have hH := hH2; clear hH2
    (try simp only [Act.put, kS, kZ, kC])
    obtain ⟨g4, cap4, hv_, -, -, hc4⟩ := O4.out.at (fun h => toks_ne HX2.out (List.length_eq_zero_iff.1 (by have := atom_len (x := z); rw [h] at this; exact Nat.le_zero.1 this)))
    subst hv_
    have HC4 := Lib.hid hc4; clear hc4
    obtain ⟨nn4, hnn4⟩ : ∃ nn, (wT z).length = nn := ⟨_, rfl⟩
    rw [hnn4]
    refine wpAnyH_ready (rs := [9]) (by kernel_rfl) (by simp) ?_
    refine AllReadyH.cons at9 (fun K_ hK => ?_) AllReadyH.nil
    have hln_ : (([tkN wIf] ++ wT x ++ [tkN wThen]) ++ wT y ++ [tkN wElse]).length + nn4 ≤ 1000000 := by have h1 := HN.out; rw [HT.out] at h1; rw [← hnn4]; simp at h1 ⊢; omega
    rw [if_pos (by rfl)]
    refine wp_appT P2.out elemTok (by omega) hnn4 HC4.out (by omega) (by omega) rfl rfl rfl (fun v33_ w33 ho_ hg_ hb_ => ?_)
    clear P2
    clear O4
    clear HC4
    clear hln_ hg_
    replace B := Lib.hid (B.out.trans (hb_.mono (by omega)))
    replace C0 := Lib.hid (C0.out.low hb_ (by omega))
    replace F0 := Lib.hid (F0.out.low hb_ (fun b hb => by omega))
    replace C1 := Lib.hid (C1.out.low hb_ (by omega))
    replace F1 := Lib.hid (F1.out.low hb_ (fun b hb => by omega))
    replace C2 := Lib.hid (C2.out.low hb_ (by omega))
    replace F2 := Lib.hid (F2.out.low hb_ (fun b hb => by omega))
    replace K := Lib.hid (K.out.low hb_ (by omega))
    have z40_ := hb_.size
    clear hb_
    have R2 := Lib.hid ho_; clear ho_
    refine hK.out _ _ (⟨K.out.at.1 0, K.out.at.1 1, K.out.at.1 2, K.out.at.1 3, K.out.at.1 4, C2.out.2.2.1, C2.out.2.2.2.1, C2.out.2.2.2.2.1, C2.out.2.2.2.2.2.1, C2.out.2.2.2.2.2.2⟩) (fun hH2 => ?_)
    clear hK K_ hH
    have hH := hH2; clear hH2
    (try simp only [Act.put, kS, kZ, kC])
    refine tk at10 ?_
    refine wpAnyH_done (by kernel_rfl) ?_ _
    clear hH
    go_wp2_with fail
    go_ret
    exact ⟨_, rfl, by rw [HT.out]; exact R2.out.mono (by omega), B.out⟩
set_option maxRecDepth 100000 in
set_option maxHeartbeats 4000000 in
theorem rtok_op {a : Fo} (hi : ∀ x ∈ a.list, RtOK x.args) {D : Nat → Prop} {w : World} {op n : Int} {u m : Bytes} {q : Option Addr} {d : Nat} (ho : op = 6 ∨ op = 7 ∨ op = 8 ∨ op = 9 ∨ op = 12 ∨ op = 13 ∨ op = 14 ∨ op = 15) (hsh : shF ((Ex.mk op n u m a).then .nil) = true) (hS : FoS D w q d a) (hn : (toksX ⟨op, n, u, m, a⟩).length ≤ 1000000) :
    Calls Tryz.prog 28 #[.agg (hdC ⟨op, n, u, m, a⟩ q d).toArray] w (TkPost (toksX ⟨op, n, u, m, a⟩) w) := by
  have HI := Lib.hid hi; have HN := Lib.hid hn
  rw [shF_one, Bool.and_eq_true] at hsh
  have hnd := node_cases hsh.1
  dsimp only at hnd
  have HSH := Lib.hid hsh.2
  have F := Lib.hid hS.inH; have B : Hid (Below w.heap.size w w) := be_refl w
  clear hi hS hn
  have hal : a.len = 2 ∧ m = [] := by
    rcases hnd with ⟨h, -⟩ | ⟨-, -, ⟨h, -⟩ | ⟨h, -⟩ | ⟨h, -⟩ | ⟨h, h2, h3⟩ | ⟨h, h2, h3⟩ | ⟨h, h2, h3⟩ | ⟨h, h2, h3⟩⟩
    all_goals first | exact ⟨h3, h2⟩ | (exfalso; omega)
  obtain ⟨x, y, hl⟩ : ∃ x y, a.list = [x, y] := by
    have h := hal.1
    rw [← Fo.len_list] at h
    match a.list, h with
    | [x, y], _ => exact ⟨x, y, rfl⟩
  obtain ⟨b, o, _, _, hqe, _, _, _⟩ := F.out.at (k := 0) (x := x) (by rw [hl]; rfl)
  subst hqe
  obtain ⟨q1, d1, hc0, hs0⟩ := F.out.argC (Nat.le_refl _) (k := 0) (x := x) (by rw [hl]; rfl)
  have C0 : Hid (ArgC w.heap.size w b (o) x q1 d1) := hc0; have F0 := Lib.hid hs0
  clear hc0 hs0
  have HX0 : Hid (shF (x.then .nil) = true) := shF_mem HSH.out (by rw [hl]; simp); have HI0 : Hid (RtOK x.args) := HI.out x (by rw [hl]; simp)
  obtain ⟨q2, d2, hc1, hs1⟩ := F.out.argC (Nat.le_refl _) (k := 1) (x := y) (by rw [hl]; rfl)
  have C1 : Hid (ArgC w.heap.size w b (o + 5) y q2 d2) := hc1; have F1 := Lib.hid hs1
  clear hc1 hs1
  have HX1 : Hid (shF (y.then .nil) = true) := shF_mem HSH.out (by rw [hl]; simp); have HI1 : Hid (RtOK y.args) := HI.out y (by rw [hl]; simp)
  clear F
  obtain ⟨rfl, rfl⟩ : n = 0 ∧ u = [] := by
    have h := node_cases hsh.1
    dsimp only at h
    rcases h with ⟨h, -⟩ | ⟨h1, h2, -⟩
    · omega
    · exact ⟨h1, h2⟩
  obtain rfl := hal.2
  have HT : Hid (toksX ⟨op, 0, [], [], a⟩ = (wT x ++ [tkO op]) ++ wT y) := by
    show _ = _
    rw [toksX_is]
    show exT _ _ _ _ (a.list.map wT) (a.list.map toksX) = _
    rw [hl, bin_toks ho]
    simp
  have HA0 : Hid ((toksX x).length ≤ 1000000) := by show _ ≤ _; have h1 := HN.out; rw [HT.out] at h1; have h2 := atom_len (x := x); simp at h1; omega
  have HA1 : Hid ((toksX y).length ≤ 1000000) := by show _ ≤ _; have h1 := HN.out; rw [HT.out] at h1; have h2 := atom_len (x := y); simp at h1; omega
  have HL2 : Hid (a.len = 2) := hal.1
  clear hal hnd hsh hl HI
  unfold hdC
  have e0 : (op == 0) = false := beq_eq_false_iff_ne.2 (by omega)
  have e1 : (op == 1) = false := beq_eq_false_iff_ne.2 (by omega)
  have e2 : (op == 2) = false := beq_eq_false_iff_ne.2 (by omega)
  have e3 : (op == 3) = false := beq_eq_false_iff_ne.2 (by omega)
  have e10 : (op == 10) = false := beq_eq_false_iff_ne.2 (by omega)
  have e11 : (op == 11) = false := beq_eq_false_iff_ne.2 (by omega)
  have e4 : (op == 4) = false := beq_eq_false_iff_ne.2 (by omega)
  have e5 : (op == 5) = false := beq_eq_false_iff_ne.2 (by omega)
  have HOS : Hid ((opName op).isSome = true) := by show _ = _; rcases ho with rfl | rfl | rfl | rfl | rfl | rfl | rfl | rfl <;> rfl
  clear ho
  go_enter Tryz.func28, Tryz.ntmps28
  go_upto_region 1 with fail
  refine nmW (w.alloc (.cells #[.int .i64 op, .int .i64 0, .string ⟨#[]⟩, .string ⟨#[]⟩, .slice (some ⟨b, o, none⟩) a.len d] 24)) fun w1 hv => ?_
  rw [← hv]
  have K := bxh hv
  have hb_ := bah hv
  clear hv
  have z1_ := K.out.lt
  replace B := Lib.hid (be_call B.out hb_)
  replace C0 := Lib.hid (C0.out.keep hb_)
  replace F0 := Lib.hid (F0.out.keep hb_)
  replace C1 := Lib.hid (C1.out.keep hb_)
  replace F1 := Lib.hid (F1.out.keep hb_)
  have z2_ := hb_.size
  clear hb_
  refine K.out.q5 fun pK_0 pK_1 pK_2 pK_3 pK_4 => ?_
  go_wp2_with fail
  clear pK_0 pK_1 pK_2 pK_3 pK_4
  refine (rOperator_ok op).mono ?_
  rintro e w2 ⟨rfl, hb_⟩
  replace B := Lib.hid (be_call B.out hb_)
  replace C0 := Lib.hid (C0.out.keep hb_)
  replace F0 := Lib.hid (F0.out.keep hb_)
  replace C1 := Lib.hid (C1.out.keep hb_)
  replace F1 := Lib.hid (F1.out.keep hb_)
  replace K := Lib.hid (K.out.keep hb_)
  have z3_ := hb_.size
  clear hb_
  unfold opRV
  rw [HOS.out]
  have HOT : Hid (opTok op = tkO op) := if_pos HOS.out
  rw [HOT.out, tkV_is]
  obtain ⟨t, ht⟩ : ∃ t, tkO op = t := ⟨_, rfl⟩
  have HTO := Lib.hid ht
  rw [ht]
  clear ht
  go_upto_region 24 with fail
  refine nmW (w2.alloc (.cells #[.int .i64 t.kind, .string ⟨t.text.toArray⟩, .int .i64 t.n, .int .i64 t.pos] 55)) fun w3 hv => ?_
  rw [← hv]
  have J := bxh hv
  have hb_ := bah hv
  clear hv
  have z4_ := J.out.lt
  replace B := Lib.hid (be_call B.out hb_)
  replace C0 := Lib.hid (C0.out.keep hb_)
  replace F0 := Lib.hid (F0.out.keep hb_)
  replace C1 := Lib.hid (C1.out.keep hb_)
  replace F1 := Lib.hid (F1.out.keep hb_)
  replace K := Lib.hid (K.out.keep hb_)
  have z5_ := hb_.size
  clear hb_
  have hi0 : (0 : Int) < (a.len : Int) := by have := HL2.out; omega
  have hj0 : 0 < a.len := by have := HL2.out; omega
  have hi1 : (1 : Int) < (a.len : Int) := by have := HL2.out; omega
  have hj1 : 1 < a.len := by have := HL2.out; omega
  have hB1 : w2.heap.size < w3.heap.size := J.out.lt
  refine nmW w3.drew fun w4 hW => ?_
  have hb_ := bdh hW
  replace B := Lib.hid (be_call B.out hb_)
  replace C0 := Lib.hid (C0.out.keep hb_)
  replace F0 := Lib.hid (F0.out.keep hb_)
  replace C1 := Lib.hid (C1.out.keep hb_)
  replace F1 := Lib.hid (F1.out.keep hb_)
  replace K := Lib.hid (K.out.keep hb_)
  replace J := Lib.hid (J.out.keep hb_)
  have z6_ := hb_.size
  clear hb_
  refine wp_region_held_drew (S := (fun w' => w'.cell? ⟨w.heap.size, 0, none⟩ = some (.int .i64 op) ∧ w'.cell? ⟨w.heap.size, 1, none⟩ = some (.int .i64 0) ∧ w'.cell? ⟨w.heap.size, 2, none⟩ = some (.string ⟨#[]⟩) ∧ w'.cell? ⟨w.heap.size, 3, none⟩ = some (.string ⟨#[]⟩) ∧ w'.cell? ⟨w.heap.size, 4, none⟩ = some (.slice (some ⟨b, o, none⟩) a.len d) ∧ w'.cell? ⟨b, o, none⟩ = some (.int .i64 x.op) ∧ w'.cell? ⟨b, o + 1, none⟩ = some (.int .i64 x.n) ∧ w'.cell? ⟨b, o + 2, none⟩ = some (.string ⟨x.unit.toArray⟩) ∧ w'.cell? ⟨b, o + 3, none⟩ = some (.string ⟨x.name.toArray⟩) ∧ w'.cell? ⟨b, o + 4, none⟩ = some (.slice q1 x.args.len d1) ∧ w'.cell? ⟨b, o + 5, none⟩ = some (.int .i64 y.op) ∧ w'.cell? ⟨b, o + 6, none⟩ = some (.int .i64 y.n) ∧ w'.cell? ⟨b, o + 7, none⟩ = some (.string ⟨y.unit.toArray⟩) ∧ w'.cell? ⟨b, o + 8, none⟩ = some (.string ⟨y.name.toArray⟩) ∧ w'.cell? ⟨b, o + 9, none⟩ = some (.slice q2 y.args.len d2) ∧ w'.cell? ⟨w2.heap.size, 0, none⟩ = some (.int .i64 t.kind) ∧ w'.cell? ⟨w2.heap.size, 1, none⟩ = some (.string ⟨t.text.toArray⟩) ∧ w'.cell? ⟨w2.heap.size, 2, none⟩ = some (.int .i64 t.n) ∧ w'.cell? ⟨w2.heap.size, 3, none⟩ = some (.int .i64 t.pos))) (by kernel_rfl) (by rw [← hW]; exact ⟨K.out.at.1 0, K.out.at.1 1, K.out.at.1 2, K.out.at.1 3, K.out.at.1 4, C0.out.2.2.1, C0.out.2.2.2.1, C0.out.2.2.2.2.1, C0.out.2.2.2.2.2.1, C0.out.2.2.2.2.2.2, C1.out.2.2.1, C1.out.2.2.2.1, C1.out.2.2.2.2.1, C1.out.2.2.2.2.2.1, C1.out.2.2.2.2.2.2, J.out.at.1 0, J.out.at.1 1, J.out.at.1 2, J.out.at.1 3⟩) (fun hH => ?_)
  rw [← hW] at hH ⊢
  clear hW
  refine tk at0 ?_
  refine tk at1 ?_
  refine tk at2 ?_
  refine tk at3 (v := .agg #[.int .i64 x.op, .int .i64 x.n, .string ⟨x.unit.toArray⟩, .string ⟨x.name.toArray⟩, .slice q1 x.args.len d1]) ?_
  refine tk at5 (v := .agg #[.int .i64 t.kind, .string ⟨t.text.toArray⟩, .int .i64 t.n, .int .i64 t.pos]) ?_
  refine tk at8 ?_
  refine tk at9 ?_
  refine tk at10 ?_
  refine tk at11 (v := .agg #[.int .i64 y.op, .int .i64 y.n, .string ⟨y.unit.toArray⟩, .string ⟨y.name.toArray⟩, .slice q2 y.args.len d2]) ?_
  refine wpAnyH_ready (rs := [4, 6]) (by kernel_rfl) (by simp) ?_
  refine AllReadyH.cons at4 (fun K_ hK => ?_) (AllReadyH.cons at6 (fun K_ hK => ?_) AllReadyH.nil)
  · skip
    have HC := Lib.hid (ratom_ok HI0.out HX0.out F0.out HA0.out)
    unfold hdC at HC
    go_simp
    refine (HC.out).mono ?_
    rintro e w5 ⟨va2, rfl, ho_, hb_⟩
    replace B := Lib.hid (be_call B.out hb_)
    replace C0 := Lib.hid (C0.out.keep hb_)
    replace F0 := Lib.hid (F0.out.keep hb_)
    replace C1 := Lib.hid (C1.out.keep hb_)
    replace F1 := Lib.hid (F1.out.keep hb_)
    replace K := Lib.hid (K.out.keep hb_)
    replace J := Lib.hid (J.out.keep hb_)
    have z7_ := hb_.size
    clear hb_
    have O2 := Lib.hid (ho_.mono (B' := w3.heap.size) (by omega)); clear ho_
    clear HC
    (try go_wp2_with fail)
    refine hK.out _ _ (⟨K.out.at.1 0, K.out.at.1 1, K.out.at.1 2, K.out.at.1 3, K.out.at.1 4, C0.out.2.2.1, C0.out.2.2.2.1, C0.out.2.2.2.2.1, C0.out.2.2.2.2.2.1, C0.out.2.2.2.2.2.2, C1.out.2.2.1, C1.out.2.2.2.1, C1.out.2.2.2.2.1, C1.out.2.2.2.2.2.1, C1.out.2.2.2.2.2.2, J.out.at.1 0, J.out.at.1 1, J.out.at.1 2, J.out.at.1 3⟩) (fun hH2 => ?_)
    clear hK K_ hH
    have hH := hH2; clear hH2
    (try simp only [Act.put, kS, kZ, kC])
    refine wpAnyH_ready (rs := [6]) (by kernel_rfl) (by simp) ?_
    refine AllReadyH.cons at6 (fun K_ hK => ?_) AllReadyH.nil
    go_simp
    refine nmW (w5.alloc (.cells #[.int .i64 t.kind, .string ⟨t.text.toArray⟩, .int .i64 t.n, .int .i64 t.pos] 55)) fun w6 hv => ?_
    rw [← hv]
    have L := bxh hv
    have hb_ := bah hv
    clear hv
    have z8_ := L.out.lt
    replace B := Lib.hid (be_call B.out hb_)
    replace C0 := Lib.hid (C0.out.keep hb_)
    replace F0 := Lib.hid (F0.out.keep hb_)
    replace C1 := Lib.hid (C1.out.keep hb_)
    replace F1 := Lib.hid (F1.out.keep hb_)
    replace K := Lib.hid (K.out.keep hb_)
    replace J := Lib.hid (J.out.keep hb_)
    replace O2 := Lib.hid (O2.out.keep hb_)
    have z9_ := hb_.size
    clear hb_
    refine hK.out _ _ (⟨K.out.at.1 0, K.out.at.1 1, K.out.at.1 2, K.out.at.1 3, K.out.at.1 4, C0.out.2.2.1, C0.out.2.2.2.1, C0.out.2.2.2.2.1, C0.out.2.2.2.2.2.1, C0.out.2.2.2.2.2.2, C1.out.2.2.1, C1.out.2.2.2.1, C1.out.2.2.2.2.1, C1.out.2.2.2.2.2.1, C1.out.2.2.2.2.2.2, J.out.at.1 0, J.out.at.1 1, J.out.at.1 2, J.out.at.1 3⟩) (fun hH2 => ?_)
    clear hK K_ hH
    have hH := hH2; clear hH2
    (try simp only [Act.put, kS, kZ, kC])
    refine wpAnyH_ready (rs := [7]) (by kernel_rfl) (by simp) ?_
    refine AllReadyH.cons at7 (fun K_ hK => ?_) AllReadyH.nil
    have hln_ : (wT x).length + 1 ≤ 1000000 := by have h1 := HN.out; rw [HT.out] at h1; simp at h1 ⊢; omega
    rw [if_pos (by rfl)]
    refine wp_appT O2.out elemTok (by omega) (show ([t] : List Tok).length = 1 from rfl) (show Bx _ _ _ (toksCells [t]).toArray from L.out).toks (by omega) (by omega) rfl rfl rfl (fun v7_ w7 ho_ hg_ hb_ => ?_)
    clear O2
    clear L
    clear hln_ hg_
    replace B := Lib.hid (B.out.trans (hb_.mono (by omega)))
    replace C0 := Lib.hid (C0.out.low hb_ (by omega))
    replace F0 := Lib.hid (F0.out.low hb_ (fun b hb => by omega))
    replace C1 := Lib.hid (C1.out.low hb_ (by omega))
    replace F1 := Lib.hid (F1.out.low hb_ (fun b hb => by omega))
    replace K := Lib.hid (K.out.low hb_ (by omega))
    replace J := Lib.hid (J.out.low hb_ (by omega))
    have z10_ := hb_.size
    clear hb_
    have O4 := Lib.hid ho_; clear ho_
    refine hK.out _ _ (⟨K.out.at.1 0, K.out.at.1 1, K.out.at.1 2, K.out.at.1 3, K.out.at.1 4, C0.out.2.2.1, C0.out.2.2.2.1, C0.out.2.2.2.2.1, C0.out.2.2.2.2.2.1, C0.out.2.2.2.2.2.2, C1.out.2.2.1, C1.out.2.2.2.1, C1.out.2.2.2.2.1, C1.out.2.2.2.2.2.1, C1.out.2.2.2.2.2.2, J.out.at.1 0, J.out.at.1 1, J.out.at.1 2, J.out.at.1 3⟩) (fun hH2 => ?_)
    clear hK K_ hH
    have hH := hH2; clear hH2
    (try simp only [Act.put, kS, kZ, kC])
    refine wpAnyH_ready (rs := [12]) (by kernel_rfl) (by simp) ?_
    refine AllReadyH.cons at12 (fun K_ hK => ?_) AllReadyH.nil
    have HC := Lib.hid (ratom_ok HI1.out HX1.out F1.out HA1.out)
    unfold hdC at HC
    go_simp
    refine (HC.out).mono ?_
    rintro e w8 ⟨va3, rfl, ho_, hb_⟩
    replace B := Lib.hid (be_call B.out hb_)
    replace C0 := Lib.hid (C0.out.keep hb_)
    replace F0 := Lib.hid (F0.out.keep hb_)
    replace C1 := Lib.hid (C1.out.keep hb_)
    replace F1 := Lib.hid (F1.out.keep hb_)
    replace K := Lib.hid (K.out.keep hb_)
    replace J := Lib.hid (J.out.keep hb_)
    replace O4 := Lib.hid (O4.out.keep hb_)
    have z11_ := hb_.size
    clear hb_
    have O3 := Lib.hid (ho_.mono (B' := w3.heap.size) (by omega)); clear ho_
    clear HC
    (try go_wp2_with fail)
    refine hK.out _ _ (⟨K.out.at.1 0, K.out.at.1 1, K.out.at.1 2, K.out.at.1 3, K.out.at.1 4, C0.out.2.2.1, C0.out.2.2.2.1, C0.out.2.2.2.2.1, C0.out.2.2.2.2.2.1, C0.out.2.2.2.2.2.2, C1.out.2.2.1, C1.out.2.2.2.1, C1.out.2.2.2.2.1, C1.out.2.2.2.2.2.1, C1.out.2.2.2.2.2.2, J.out.at.1 0, J.out.at.1 1, J.out.at.1 2, J.out.at.1 3⟩) (fun hH2 => ?_)
    clear hK K_ hH
    have hH := hH2; clear hH2
    (try simp only [Act.put, kS, kZ, kC])
    obtain ⟨g3, cap3, hv_, -, -, hc3⟩ := O3.out.at (fun h => toks_ne HX1.out (List.length_eq_zero_iff.1 (by have := atom_len (x := y); rw [h] at this; exact Nat.le_zero.1 this)))
    subst hv_
    have HC3 := Lib.hid hc3; clear hc3
    obtain ⟨nn3, hnn3⟩ : ∃ nn, (wT y).length = nn := ⟨_, rfl⟩
    rw [hnn3]
    refine wpAnyH_ready (rs := [13]) (by kernel_rfl) (by simp) ?_
    refine AllReadyH.cons at13 (fun K_ hK => ?_) AllReadyH.nil
    have hln_ : (wT x ++ [t]).length + nn3 ≤ 1000000 := by have h1 := HN.out; rw [HT.out, List.length_append, hnn3] at h1; simp at h1 ⊢; omega
    rw [if_pos (by rfl)]
    refine wp_appT O4.out elemTok (by omega) hnn3 HC3.out (by omega) (by omega) rfl rfl rfl (fun v9_ w9 ho_ hg_ hb_ => ?_)
    clear O4
    clear O3
    clear HC3
    clear hln_ hg_
    replace B := Lib.hid (B.out.trans (hb_.mono (by omega)))
    replace C0 := Lib.hid (C0.out.low hb_ (by omega))
    replace F0 := Lib.hid (F0.out.low hb_ (fun b hb => by omega))
    replace C1 := Lib.hid (C1.out.low hb_ (by omega))
    replace F1 := Lib.hid (F1.out.low hb_ (fun b hb => by omega))
    replace K := Lib.hid (K.out.low hb_ (by omega))
    replace J := Lib.hid (J.out.low hb_ (by omega))
    have z12_ := hb_.size
    clear hb_
    have O5 := Lib.hid ho_; clear ho_
    refine hK.out _ _ (⟨K.out.at.1 0, K.out.at.1 1, K.out.at.1 2, K.out.at.1 3, K.out.at.1 4, C0.out.2.2.1, C0.out.2.2.2.1, C0.out.2.2.2.2.1, C0.out.2.2.2.2.2.1, C0.out.2.2.2.2.2.2, C1.out.2.2.1, C1.out.2.2.2.1, C1.out.2.2.2.2.1, C1.out.2.2.2.2.2.1, C1.out.2.2.2.2.2.2, J.out.at.1 0, J.out.at.1 1, J.out.at.1 2, J.out.at.1 3⟩) (fun hH2 => ?_)
    clear hK K_ hH
    have hH := hH2; clear hH2
    (try simp only [Act.put, kS, kZ, kC])
    refine tk at14 ?_
    refine wpAnyH_done (by kernel_rfl) ?_ _
    clear hH
    go_wp2_with fail
    go_ret
    exact ⟨_, rfl, by rw [HT.out, HTO.out]; exact O5.out.mono (by omega), B.out⟩
  · skip
    go_simp
    refine nmW (w4.alloc (.cells #[.int .i64 t.kind, .string ⟨t.text.toArray⟩, .int .i64 t.n, .int .i64 t.pos] 55)) fun w10 hv => ?_
    rw [← hv]
    have L := bxh hv
    have hb_ := bah hv
    clear hv
    have z13_ := L.out.lt
    replace B := Lib.hid (be_call B.out hb_)
    replace C0 := Lib.hid (C0.out.keep hb_)
    replace F0 := Lib.hid (F0.out.keep hb_)
    replace C1 := Lib.hid (C1.out.keep hb_)
    replace F1 := Lib.hid (F1.out.keep hb_)
    replace K := Lib.hid (K.out.keep hb_)
    replace J := Lib.hid (J.out.keep hb_)
    have z14_ := hb_.size
    clear hb_
    refine hK.out _ _ (⟨K.out.at.1 0, K.out.at.1 1, K.out.at.1 2, K.out.at.1 3, K.out.at.1 4, C0.out.2.2.1, C0.out.2.2.2.1, C0.out.2.2.2.2.1, C0.out.2.2.2.2.2.1, C0.out.2.2.2.2.2.2, C1.out.2.2.1, C1.out.2.2.2.1, C1.out.2.2.2.2.1, C1.out.2.2.2.2.2.1, C1.out.2.2.2.2.2.2, J.out.at.1 0, J.out.at.1 1, J.out.at.1 2, J.out.at.1 3⟩) (fun hH2 => ?_)
    clear hK K_ hH
    have hH := hH2; clear hH2
    (try simp only [Act.put, kS, kZ, kC])
    refine wpAnyH_ready (rs := [4]) (by kernel_rfl) (by simp) ?_
    refine AllReadyH.cons at4 (fun K_ hK => ?_) AllReadyH.nil
    have HC := Lib.hid (ratom_ok HI0.out HX0.out F0.out HA0.out)
    unfold hdC at HC
    go_simp
    refine (HC.out).mono ?_
    rintro e w11 ⟨va2, rfl, ho_, hb_⟩
    replace B := Lib.hid (be_call B.out hb_)
    replace C0 := Lib.hid (C0.out.keep hb_)
    replace F0 := Lib.hid (F0.out.keep hb_)
    replace C1 := Lib.hid (C1.out.keep hb_)
    replace F1 := Lib.hid (F1.out.keep hb_)
    replace K := Lib.hid (K.out.keep hb_)
    replace J := Lib.hid (J.out.keep hb_)
    replace L := Lib.hid (L.out.keep hb_)
    have z15_ := hb_.size
    clear hb_
    have O2 := Lib.hid (ho_.mono (B' := w3.heap.size) (by omega)); clear ho_
    clear HC
    (try go_wp2_with fail)
    refine hK.out _ _ (⟨K.out.at.1 0, K.out.at.1 1, K.out.at.1 2, K.out.at.1 3, K.out.at.1 4, C0.out.2.2.1, C0.out.2.2.2.1, C0.out.2.2.2.2.1, C0.out.2.2.2.2.2.1, C0.out.2.2.2.2.2.2, C1.out.2.2.1, C1.out.2.2.2.1, C1.out.2.2.2.2.1, C1.out.2.2.2.2.2.1, C1.out.2.2.2.2.2.2, J.out.at.1 0, J.out.at.1 1, J.out.at.1 2, J.out.at.1 3⟩) (fun hH2 => ?_)
    clear hK K_ hH
    have hH := hH2; clear hH2
    (try simp only [Act.put, kS, kZ, kC])
    refine wpAnyH_ready (rs := [7]) (by kernel_rfl) (by simp) ?_
    refine AllReadyH.cons at7 (fun K_ hK => ?_) AllReadyH.nil
    have hln_ : (wT x).length + 1 ≤ 1000000 := by have h1 := HN.out; rw [HT.out] at h1; simp at h1 ⊢; omega
    rw [if_pos (by rfl)]
    refine wp_appT O2.out elemTok (by omega) (show ([t] : List Tok).length = 1 from rfl) (show Bx _ _ _ (toksCells [t]).toArray from L.out).toks (by omega) (by omega) rfl rfl rfl (fun v12_ w12 ho_ hg_ hb_ => ?_)
    clear O2
    clear L
    clear hln_ hg_
    replace B := Lib.hid (B.out.trans (hb_.mono (by omega)))
    replace C0 := Lib.hid (C0.out.low hb_ (by omega))
    replace F0 := Lib.hid (F0.out.low hb_ (fun b hb => by omega))
    replace C1 := Lib.hid (C1.out.low hb_ (by omega))
    replace F1 := Lib.hid (F1.out.low hb_ (fun b hb => by omega))
    replace K := Lib.hid (K.out.low hb_ (by omega))
    replace J := Lib.hid (J.out.low hb_ (by omega))
    have z16_ := hb_.size
    clear hb_
    have O4 := Lib.hid ho_; clear ho_
    refine hK.out _ _ (⟨K.out.at.1 0, K.out.at.1 1, K.out.at.1 2, K.out.at.1 3, K.out.at.1 4, C0.out.2.2.1, C0.out.2.2.2.1, C0.out.2.2.2.2.1, C0.out.2.2.2.2.2.1, C0.out.2.2.2.2.2.2, C1.out.2.2.1, C1.out.2.2.2.1, C1.out.2.2.2.2.1, C1.out.2.2.2.2.2.1, C1.out.2.2.2.2.2.2, J.out.at.1 0, J.out.at.1 1, J.out.at.1 2, J.out.at.1 3⟩) (fun hH2 => ?_)
    clear hK K_ hH
    have hH := hH2; clear hH2
    (try simp only [Act.put, kS, kZ, kC])
    refine wpAnyH_ready (rs := [12]) (by kernel_rfl) (by simp) ?_
    refine AllReadyH.cons at12 (fun K_ hK => ?_) AllReadyH.nil
    have HC := Lib.hid (ratom_ok HI1.out HX1.out F1.out HA1.out)
    unfold hdC at HC
    go_simp
    refine (HC.out).mono ?_
    rintro e w13 ⟨va3, rfl, ho_, hb_⟩
    replace B := Lib.hid (be_call B.out hb_)
    replace C0 := Lib.hid (C0.out.keep hb_)
    replace F0 := Lib.hid (F0.out.keep hb_)
    replace C1 := Lib.hid (C1.out.keep hb_)
    replace F1 := Lib.hid (F1.out.keep hb_)
    replace K := Lib.hid (K.out.keep hb_)
    replace J := Lib.hid (J.out.keep hb_)
    replace O4 := Lib.hid (O4.out.keep hb_)
    have z17_ := hb_.size
    clear hb_
    have O3 := Lib.hid (ho_.mono (B' := w3.heap.size) (by omega)); clear ho_
    clear HC
    (try go_wp2_with fail)
    refine hK.out _ _ (⟨K.out.at.1 0, K.out.at.1 1, K.out.at.1 2, K.out.at.1 3, K.out.at.1 4, C0.out.2.2.1, C0.out.2.2.2.1, C0.out.2.2.2.2.1, C0.out.2.2.2.2.2.1, C0.out.2.2.2.2.2.2, C1.out.2.2.1, C1.out.2.2.2.1, C1.out.2.2.2.2.1, C1.out.2.2.2.2.2.1, C1.out.2.2.2.2.2.2, J.out.at.1 0, J.out.at.1 1, J.out.at.1 2, J.out.at.1 3⟩) (fun hH2 => ?_)
    clear hK K_ hH
    have hH := hH2; clear hH2
    (try simp only [Act.put, kS, kZ, kC])
    obtain ⟨g3, cap3, hv_, -, -, hc3⟩ := O3.out.at (fun h => toks_ne HX1.out (List.length_eq_zero_iff.1 (by have := atom_len (x := y); rw [h] at this; exact Nat.le_zero.1 this)))
    subst hv_
    have HC3 := Lib.hid hc3; clear hc3
    obtain ⟨nn3, hnn3⟩ : ∃ nn, (wT y).length = nn := ⟨_, rfl⟩
    rw [hnn3]
    refine wpAnyH_ready (rs := [13]) (by kernel_rfl) (by simp) ?_
    refine AllReadyH.cons at13 (fun K_ hK => ?_) AllReadyH.nil
    have hln_ : (wT x ++ [t]).length + nn3 ≤ 1000000 := by have h1 := HN.out; rw [HT.out, List.length_append, hnn3] at h1; simp at h1 ⊢; omega
    rw [if_pos (by rfl)]
    refine wp_appT O4.out elemTok (by omega) hnn3 HC3.out (by omega) (by omega) rfl rfl rfl (fun v14_ w14 ho_ hg_ hb_ => ?_)
    clear O4
    clear O3
    clear HC3
    clear hln_ hg_
    replace B := Lib.hid (B.out.trans (hb_.mono (by omega)))
    replace C0 := Lib.hid (C0.out.low hb_ (by omega))
    replace F0 := Lib.hid (F0.out.low hb_ (fun b hb => by omega))
    replace C1 := Lib.hid (C1.out.low hb_ (by omega))
    replace F1 := Lib.hid (F1.out.low hb_ (fun b hb => by omega))
    replace K := Lib.hid (K.out.low hb_ (by omega))
    replace J := Lib.hid (J.out.low hb_ (by omega))
    have z18_ := hb_.size
    clear hb_
    have O5 := Lib.hid ho_; clear ho_
    refine hK.out _ _ (⟨K.out.at.1 0, K.out.at.1 1, K.out.at.1 2, K.out.at.1 3, K.out.at.1 4, C0.out.2.2.1, C0.out.2.2.2.1, C0.out.2.2.2.2.1, C0.out.2.2.2.2.2.1, C0.out.2.2.2.2.2.2, C1.out.2.2.1, C1.out.2.2.2.1, C1.out.2.2.2.2.1, C1.out.2.2.2.2.2.1, C1.out.2.2.2.2.2.2, J.out.at.1 0, J.out.at.1 1, J.out.at.1 2, J.out.at.1 3⟩) (fun hH2 => ?_)
    clear hK K_ hH
    have hH := hH2; clear hH2
    (try simp only [Act.put, kS, kZ, kC])
    refine tk at14 ?_
    refine wpAnyH_done (by kernel_rfl) ?_ _
    clear hH
    go_wp2_with fail
    go_ret
    exact ⟨_, rfl, by rw [HT.out, HTO.out]; exact O5.out.mono (by omega), B.out⟩
end Go.Proofs.YtckgmilmhofekaaGreatDoor
namespace Go.Proofs.YtckgmilmhofekaaGreatDoor
open Go.RowKit

theorem rtokens_all (a : Fo) : RtOK a := Fo.ind (fun a hi D w op n u m q d hsh hS hn => by
  have hnd := hsh
  rw [shF_one, Bool.and_eq_true] at hnd
  have hc := node_cases hnd.1
  dsimp only at hc
  rcases hc with ⟨rfl, -⟩ | ⟨-, -, ⟨rfl, -⟩ | ⟨rfl, -⟩ | ⟨rfl, -⟩ | ⟨rfl, -⟩ | ⟨rfl, -⟩ | ⟨rfl | rfl, -⟩ | ⟨ho, -⟩⟩
  · by_cases hu : u = []
    · exact rtok_0 hi hu hsh hS hn
    · exact rtok_0u hi hu hsh hS hn
  · exact rtok_1 hi hsh hS hn
  · exact rtok_2 hi hsh hS hn
  · exact rtok_3 hi hsh hS hn
  · exact rtok_4 hi hsh hS hn
  · exact rtok_5 hi hsh hS hn
  · exact rtok_10 hi hsh hS hn
  · exact rtok_11 hi hsh hS hn
  · exact rtok_op hi ho hsh hS hn) a
def rTok (t : Tok) : RTok := ⟨t.kind, ⟨t.text.toArray⟩, t.n, t.pos⟩
theorem rTok_in {w : World} {v : Value} {ts : List Tok} (h : ToksIn w v ts) : RawIn w v (ts.map rTok) := by
 obtain ⟨a, cap, hv, hc⟩ := h
 refine ⟨a, cap, by rw [List.length_map]; exact hv, fun k hk => ?_⟩
 rw [List.length_map] at hk
 obtain ⟨b, off, ha, hlt, hcell⟩ := hc k hk
 refine ⟨b, off, ha, hlt, fun j u hj => hcell j u ?_⟩
 dsimp only at hj ⊢
 rw [List.getElem?_map, List.getElem?_eq_getElem hk] at hj
 rw [List.getElem?_eq_getElem hk]; exact hj
theorem rTok_text (t : Tok) : rText (rTok t) = tokText t := by
  unfold rText tokText rTok
  dsimp only
  by_cases h : t.kind = 2
  · rw [if_pos (by omega), if_pos h]
  · rw [if_neg (by omega), if_neg h]
theorem printR_toks : ∀ ts : List Tok, printR (ts.map rTok) = printL ts
 | [] => rfl
 | [t] => by
  show Lib.join [rText (rTok t)] [32] = _
  rw [Lib.join_one, rTok_text]; rfl
 | t :: u :: r => by
  have ih := printR_toks (u :: r)
  unfold printR at ih ⊢
  rw [List.map_cons, List.map_cons, List.map_cons] at *
  rw [List.map_cons] at *
  show Lib.join (rText (rTok t) :: rText (rTok u) :: _) [32] = tokText t ++ 32 :: printL (u :: r)
  rw [← ih, Lib.join_cons, Lib.join_cons, rTok_text]
  simp [Lib.joinTail]
set_option maxRecDepth 100000 in
set_option maxHeartbeats 4000000 in
theorem refPrint_big (v : Value) (ts : List RTok) (w : World) (hin : RawIn w v ts) (hn : ts.length ≤ 2000) (ht : ∀ t ∈ ts, t.text.size ≤ 1000) :
    Calls Tryz.prog 30 #[v] w fun e w' => e = .returned (.string ⟨(printR ts).toArray⟩) ∧ w = w' := by
  obtain ⟨a, cap, rfl⟩ := hin.shape
  have HI := Lib.hid hin; clear hin
  have HT := Lib.hid ht
  go_enter Tryz.func30, Tryz.ntmps30
  go_wp2_with fail
  go_loop [3, 4] (fun p i => ∃ (k : Nat) (x : ByteArray), k ≤ ts.length ∧ i = .int .i64 k ∧ p = .string x ∧ Hid (x.data.toList = printR (ts.take k))) (fun _ i => ts.length - (intOf i).toNat)
  case atStart => exact ⟨0, ⟨#[]⟩, Nat.zero_le _, rfl, rfl, rfl⟩
  case round =>
    obtain ⟨k, x, hk, rfl, rfl, HX⟩ := hrel
    have hxs : x.size ≤ 10000000 := by
      rw [← bytes_len, HX.out]
      have := printR_le (ts.take k) 1000 (fun t h => HT.out t (List.mem_of_mem_take h))
      rw [List.length_take] at this; omega
    by_cases hlt : k < ts.length
    · obtain ⟨b, off, rfl, hb, hcell⟩ := HI.out.at hlt
      obtain ⟨t, htk⟩ : ∃ t, t = ts[k] := ⟨_, rfl⟩
      rw [← htk] at hcell
      have c0 : w.cell? ⟨b, off + k * 4, none⟩ = some (.int .i64 t.kind) := hcell 0 _ rfl
      have c1 : w.cell? ⟨b, off + k * 4 + 1, none⟩ = some (.string t.text) := hcell 1 _ rfl
      have c2 : w.cell? ⟨b, off + k * 4 + 2, none⟩ = some (.int .i64 t.n) := hcell 2 _ rfl
      have c3 : w.cell? ⟨b, off + k * 4 + 3, none⟩ = some (.int .i64 t.pos) := hcell 3 _ rfl
      have hls : t.text.size ≤ 1000 := HT.out t (by rw [htk]; exact List.getElem_mem _)
      have HLT : Hid (t.text.size ≤ 137438953472) := by show _ ≤ _; omega
      have hes : (escL t.text.data.toList).length ≤ 100000 := by
        have := escBody_len t.text.data.toList
        rw [bytes_len] at this
        simp only [escL, List.length_cons, List.length_append, List.length_nil]; omega
      have hsp : (⟨#[32]⟩ : ByteArray).size = 1 := rfl
      have HTK := Lib.hid htk; clear htk hcell
      by_cases h2 : t.kind = 2
      · have e1 : (t.kind == 2) = true := by rw [beq_iff_eq]; exact h2
        have HTX : Hid (rText t = escL t.text.data.toList) := by show _ = _; rw [rText, if_pos h2]
        have H2 := Lib.hid h2; clear h2
        by_cases h0 : k = 0
        · have HP : Hid (printR (ts.take (k + 1)) = rText t) := by show _ = _; rw [printR_snoc hlt, if_pos h0, HTK.out]
          have hx0 : Hid (x.data.toList = []) := by show _ = _; rw [HX.out, h0]; rfl
          have e0 : ¬ (0 : Int) < (k : Int) := by omega
          have H0 := Lib.hid h0; clear h0
          go_wp2_with (go_at_call 54; refine (refEscaped_any t.text _ HLT.out).mono ?_; rintro e w' ⟨rfl, rfl⟩)
          go_round
          case rel => exact ⟨k + 1, _, by omega, by go_num, rfl, by show _ = _; rw [HP.out]; simp only [ByteArray.data_append, Array.toList_append, hx0.out, HTX.out]; simp⟩
          case measure => simp [intOf]; omega
        · have HP : Hid (printR (ts.take (k + 1)) = printR (ts.take k) ++ (32 :: rText t)) := by show _ = _; rw [printR_snoc hlt, if_neg h0, HTK.out]
          have e0 : (0 : Int) < (k : Int) := by omega
          go_wp2_with (go_at_call 54; refine (refEscaped_any t.text _ HLT.out).mono ?_; rintro e w' ⟨rfl, rfl⟩)
          go_round
          case rel => exact ⟨k + 1, _, by omega, by go_num, rfl, by show _ = _; rw [HP.out]; simp only [ByteArray.data_append, Array.toList_append, HX.out, HTX.out]; simp⟩
          case measure => simp [intOf]; omega
      · have e1 : (t.kind == 2) = false := by rw [beq_eq_false_iff_ne]; exact h2
        have HTX : Hid (rText t = t.text.data.toList) := by show _ = _; rw [rText, if_neg h2]
        have H2 := Lib.hid h2; clear h2
        by_cases h0 : k = 0
        · have HP : Hid (printR (ts.take (k + 1)) = rText t) := by show _ = _; rw [printR_snoc hlt, if_pos h0, HTK.out]
          have hx0 : Hid (x.data.toList = []) := by show _ = _; rw [HX.out, h0]; rfl
          have e0 : ¬ (0 : Int) < (k : Int) := by omega
          have H0 := Lib.hid h0; clear h0
          go_wp2_with (go_at_call 54; refine (refEscaped_any t.text _ HLT.out).mono ?_; rintro e w' ⟨rfl, rfl⟩)
          go_round
          case rel => exact ⟨k + 1, _, by omega, by go_num, rfl, by show _ = _; rw [HP.out]; simp only [ByteArray.data_append, Array.toList_append, hx0.out, HTX.out]; simp⟩
          case measure => simp [intOf]; omega
        · have HP : Hid (printR (ts.take (k + 1)) = printR (ts.take k) ++ (32 :: rText t)) := by show _ = _; rw [printR_snoc hlt, if_neg h0, HTK.out]
          have e0 : (0 : Int) < (k : Int) := by omega
          go_wp2_with (go_at_call 54; refine (refEscaped_any t.text _ HLT.out).mono ?_; rintro e w' ⟨rfl, rfl⟩)
          go_round
          case rel => exact ⟨k + 1, _, by omega, by go_num, rfl, by show _ = _; rw [HP.out]; simp only [ByteArray.data_append, Array.toList_append, HX.out, HTX.out]; simp⟩
          case measure => simp [intOf]; omega
    · have hall : Hid (x = ⟨(printR ts).toArray⟩) := mk_bytes _ (by rw [HX.out, List.take_of_length_le (by omega)])
      go_wp2_with fail
      go_ret
      exact ⟨by rw [← hall.out]; rfl, rfl⟩
theorem ToksIn.agg {w : World} {p : Option Addr} {c : Nat} {ts : List Tok} (h : ToksIn w (.slice p ts.length c) ts) {k : Nat} (hk : k < ts.length) {t : Tok} (ht : ts[k]? = some t) :
  ∃ b o, p = some ⟨b, o, none⟩ ∧ w.cell? ⟨b, o + k * 4, none⟩ = some (.int .i64 t.kind) ∧ w.cell? ⟨b, o + k * 4 + 1, none⟩ = some (.string ⟨t.text.toArray⟩) ∧ w.cell? ⟨b, o + k * 4 + 2, none⟩ = some (.int .i64 t.n) ∧ w.cell? ⟨b, o + k * 4 + 3, none⟩ = some (.int .i64 t.pos) := by
 obtain ⟨b, o, hp, h0, h1, h2, h3⟩ := h.tok hk
 have : ts[k] = t := by rw [List.getElem?_eq_getElem hk] at ht; exact Option.some.inj ht
 rw [this] at h0 h1 h2 h3
 exact ⟨b, o, hp, h0, h1, h2, h3⟩
set_option maxRecDepth 100000 in
set_option maxHeartbeats 4000000 in
theorem rsameT_ok {w : World} {p p2 : Option Addr} {c c2 : Nat} {ts : List Tok} (h : ToksIn w (.slice p ts.length c) ts) (h2 : ToksIn w (.slice p2 ts.length c2) ts) (hlen : ts.length ≤ 1099511627776) :
    Calls Tryz.prog 12 #[.slice p ts.length c, .slice p2 ts.length c2] w fun e w' => e = .returned (.bool true) ∧ Below w.heap.size w w' := by
  have H := Lib.hid h; have H2 := Lib.hid h2
  have B : Hid (Below w.heap.size w w) := be_refl w
  clear h h2
  have hnn : ((ts.length : Int) != (ts.length : Int)) = false := by simp
  go_enter Tryz.func12, Tryz.ntmps12
  go_wp2_with fail
  go_loopw [5] (fun i wr => ∃ j : Nat, i = .int .i64 (j : Int) ∧ j ≤ ts.length ∧ Hid (ToksIn wr (.slice p ts.length c) ts) ∧ Hid (ToksIn wr (.slice p2 ts.length c2) ts) ∧ Hid (Below w.heap.size w wr)) (fun i _ => ts.length - (intOf i).toNat)
  case atStart => exact ⟨0, rfl, Nat.zero_le _, H, H2, B⟩
  case round =>
    clear H H2 B
    obtain ⟨j, rfl, hj, H, H2, B⟩ := hrel
    by_cases hlt : j < ts.length
    · obtain ⟨t, ht⟩ : ∃ t, ts[j]? = some t := ⟨_, List.getElem?_eq_getElem hlt⟩
      obtain ⟨b, o, rfl, c0, c1, c2, c3⟩ := H.out.agg hlt ht
      obtain ⟨b2, o2, rfl, d0, d1, d2, d3⟩ := H2.out.agg hlt ht
      have hjl : (j : Int) < (ts.length : Int) := by omega
      have hj0 : (0 : Int) ≤ (j : Int) := by omega
      have HLT := Lib.hid hlt
      have hjb : j ≤ 1099511627776 := by omega
      clear ht
      go_upto_region 6 with fail
      go_quiet (fail)
      go_wp2_with fail
      go_roundw
      case rel => exact ⟨j + 1, by go_num, HLT.out, H.out.keep (below_drewN (Below.refl _ _) _), H2.out.keep (below_drewN (Below.refl _ _) _), below_drewN B.out _⟩
      case measure => have := HLT.out; simp [intOf]; omega
    · have hjl : ¬ (j : Int) < (ts.length : Int) := by omega
      go_wp2_with fail
      go_ret
      exact ⟨rfl, B.out⟩
theorem toks_mem {x : Ex} (h : rightX x = true) : (toksX x).length ≤ 2000 ∧ ∀ t ∈ (toksX x).map rTok, t.text.size ≤ 1000 := by
 obtain ⟨h1, h2⟩ := right_toks h
 have h3 := right_nodes h
 refine ⟨by omega, fun t ht => ?_⟩
 obtain ⟨u, hu, rfl⟩ := List.mem_map.1 ht
 have h4 := (h1 u hu).len
 have h5 := text_le u
 show (⟨u.text.toArray⟩ : ByteArray).size ≤ 1000
 rw [show (⟨u.text.toArray⟩ : ByteArray).size = u.text.length by simp [ByteArray.size]]
 omega
end Go.Proofs.YtckgmilmhofekaaGreatDoor
namespace Go.Proofs.YtckgmilmhofekaaGreatDoor
open Go.RowKit

set_option maxRecDepth 100000 in
set_option maxHeartbeats 4000000 in
theorem rTokens_no {x : Ex} {D : Nat → Prop} {w : World} {q : Option Addr} {d : Nat} (hsm : smX x) (hS : FoS D w q d x.args) (hr : rightX x = false) :
  Calls Tryz.prog 7 #[.agg (hdC x q d).toArray] w fun e w' => e = .returned (.tuple #[.slice none 0 0, .bool false]) ∧ Below w.heap.size w w' := by
 have F := Lib.hid hS.inH; have SM := Lib.hid hsm; have HR := Lib.hid hr
 have B : Hid (Below w.heap.size w w) := be_refl w
 clear hS hsm hr
 unfold hdC
 go_enter Tryz.func7, Tryz.ntmps7
 go_upto_region 1 with fail
 refine nmW (w.alloc (.cells #[.int .i64 x.op, .int .i64 x.n, .string ⟨x.unit.toArray⟩, .string ⟨x.name.toArray⟩, .slice q x.args.len d] 24)) fun w1 hv => ?_
 rw [← hv]
 have K := bxh hv
 have hb_ := bah hv
 clear hv
 have z1_ := K.out.lt
 replace B := Lib.hid (be_call B.out hb_)
 replace F := Lib.hid (F.out.keep hb_)
 have z2_ := hb_.size
 clear hb_
 have HC := Lib.hid (rRight_ok SM.out F.out HR.out)
 unfold hdC at HC
 refine K.out.q5 fun pK_0 pK_1 pK_2 pK_3 pK_4 => ?_
 go_wp2_with fail
 clear pK_0 pK_1 pK_2 pK_3 pK_4
 refine (HC.out).mono ?_
 rintro e w2 ⟨rfl, hb_⟩
 replace B := Lib.hid (be_call B.out hb_)
 replace F := Lib.hid (F.out.keep hb_)
 replace K := Lib.hid (K.out.keep hb_)
 have z3_ := hb_.size
 clear hb_
 clear HC
 go_wp2_with fail
 go_ret2
 exact ⟨rfl, B.out⟩
set_option maxRecDepth 100000 in
set_option maxHeartbeats 4000000 in
theorem rTokens_yes {x : Ex} {D : Nat → Prop} {w : World} {q : Option Addr} {d : Nat} (hsm : smX x) (hS : FoS D w q d x.args) (hr : rightX x = true) :
  Calls Tryz.prog 7 #[.agg (hdC x q d).toArray] w fun e w' => ∃ p c, e = .returned (.tuple #[.slice p (toksX x).length c, .bool true]) ∧ ToksIn w' (.slice p (toksX x).length c) (toksX x) ∧ Below w.heap.size w w' := by
 have F := Lib.hid hS.inH; have SM := Lib.hid hsm; have HR := Lib.hid hr
 have B : Hid (Below w.heap.size w w) := be_refl w
 clear hS hsm hr
 unfold hdC
 go_enter Tryz.func7, Tryz.ntmps7
 go_upto_region 1 with fail
 refine nmW (w.alloc (.cells #[.int .i64 x.op, .int .i64 x.n, .string ⟨x.unit.toArray⟩, .string ⟨x.name.toArray⟩, .slice q x.args.len d] 24)) fun w1 hv => ?_
 rw [← hv]
 have K := bxh hv
 have hb_ := bah hv
 clear hv
 have z1_ := K.out.lt
 replace B := Lib.hid (be_call B.out hb_)
 replace F := Lib.hid (F.out.keep hb_)
 have z2_ := hb_.size
 clear hb_
 have HC := Lib.hid (rRight_ok SM.out F.out HR.out)
 unfold hdC at HC
 refine K.out.q5 fun pK_0 pK_1 pK_2 pK_3 pK_4 => ?_
 go_wp2_with fail
 clear pK_0 pK_1 pK_2 pK_3 pK_4
 refine (HC.out).mono ?_
 rintro e w2 ⟨rfl, hb_⟩
 replace B := Lib.hid (be_call B.out hb_)
 replace F := Lib.hid (F.out.keep hb_)
 replace K := Lib.hid (K.out.keep hb_)
 have z3_ := hb_.size
 clear hb_
 clear HC
 have HC := Lib.hid (rtokens_all x.args _ w2 x.op x.n x.unit x.name q d (by have := HR.out; unfold rightX at this; simp at this; exact this.2) F.out (by have := (toks_mem HR.out).1; show (toksX x).length ≤ _; omega))
 unfold hdC at HC
 refine K.out.q5 fun pK_0 pK_1 pK_2 pK_3 pK_4 => ?_
 go_wp2_with fail
 clear pK_0 pK_1 pK_2 pK_3 pK_4
 refine (HC.out).mono ?_
 rintro e w3 ⟨v, rfl, ho, hb⟩
 clear HC
 replace B := Lib.hid (be_call B.out hb)
 replace F := Lib.hid (F.out.keep hb)
 replace K := Lib.hid (K.out.keep hb)
 have z4_ := hb.size
 clear hb
 have HO := Lib.hid ho; clear ho
 go_wp2_with fail
 go_ret2
 obtain ⟨p, c, hv⟩ := HO.out.toks.shape
 have ht := HO.out.toks
 subst hv
 exact ⟨p, c, rfl, ht, B.out⟩
set_option maxRecDepth 100000 in
set_option maxHeartbeats 4000000 in
theorem rPrint_no {x : Ex} {D : Nat → Prop} {w : World} {q : Option Addr} {d : Nat} (hsm : smX x) (hS : FoS D w q d x.args) (hr : rightX x = false) :
  Calls Tryz.prog 9 #[.agg (hdC x q d).toArray] w fun e w' => e = .returned (.tuple #[.string ⟨#[]⟩, .bool false]) ∧ Below w.heap.size w w' := by
 have F := Lib.hid hS.inH; have SM := Lib.hid hsm; have HR := Lib.hid hr
 have B : Hid (Below w.heap.size w w) := be_refl w
 clear hS hsm hr
 unfold hdC
 go_enter Tryz.func9, Tryz.ntmps9
 go_upto_region 1 with fail
 refine nmW (w.alloc (.cells #[.int .i64 x.op, .int .i64 x.n, .string ⟨x.unit.toArray⟩, .string ⟨x.name.toArray⟩, .slice q x.args.len d] 24)) fun w1 hv => ?_
 rw [← hv]
 have K := bxh hv
 have hb_ := bah hv
 clear hv
 have z1_ := K.out.lt
 replace B := Lib.hid (be_call B.out hb_)
 replace F := Lib.hid (F.out.keep hb_)
 have z2_ := hb_.size
 clear hb_
 have HC := Lib.hid (rTokens_no SM.out F.out HR.out)
 unfold hdC at HC
 refine K.out.q5 fun pK_0 pK_1 pK_2 pK_3 pK_4 => ?_
 go_wp2_with fail
 clear pK_0 pK_1 pK_2 pK_3 pK_4
 refine (HC.out).mono ?_
 rintro e w2 ⟨rfl, hb_⟩
 replace B := Lib.hid (be_call B.out hb_)
 replace F := Lib.hid (F.out.keep hb_)
 replace K := Lib.hid (K.out.keep hb_)
 have z3_ := hb_.size
 clear hb_
 clear HC
 go_wp2_with fail
 refine (refPrint_big _ [] _ (rTok_in (ts := []) ⟨none, 0, rfl, fun k hk => absurd hk (Nat.not_lt_zero _)⟩) (by decide) (fun t ht => by cases ht)).mono ?_
 rintro e w2 ⟨rfl, rfl⟩
 go_wp2_with fail
 go_ret2
 exact ⟨rfl, B.out⟩
set_option maxRecDepth 100000 in
set_option maxHeartbeats 4000000 in
theorem rPrint_big {x : Ex} {D : Nat → Prop} {w : World} {q : Option Addr} {d : Nat} (hsm : smX x) (hS : FoS D w q d x.args) (hr : rightX x = true) (h4 : 4000 < (printL (toksX x)).length) :
  Calls Tryz.prog 9 #[.agg (hdC x q d).toArray] w fun e w' => e = .returned (.tuple #[.string ⟨#[]⟩, .bool false]) ∧ Below w.heap.size w w' := by
 obtain ⟨ps, hps⟩ : ∃ ps : ByteArray, (⟨(printL (toksX x)).toArray⟩ : ByteArray) = ps := ⟨_, rfl⟩
 have hsz : ps.size = (printL (toksX x)).length := by rw [← hps]; simp [ByteArray.size]
 have h5 : (4000 : Int) < (ps.size : Int) := by omega
 have HPS := Lib.hid hps
 clear hsz hps h4
 have F := Lib.hid hS.inH; have SM := Lib.hid hsm; have HR := Lib.hid hr
 have B : Hid (Below w.heap.size w w) := be_refl w
 clear hS hsm hr
 unfold hdC
 go_enter Tryz.func9, Tryz.ntmps9
 go_upto_region 1 with fail
 refine nmW (w.alloc (.cells #[.int .i64 x.op, .int .i64 x.n, .string ⟨x.unit.toArray⟩, .string ⟨x.name.toArray⟩, .slice q x.args.len d] 24)) fun w1 hv => ?_
 rw [← hv]
 have K := bxh hv
 have hb_ := bah hv
 clear hv
 have z1_ := K.out.lt
 replace B := Lib.hid (be_call B.out hb_)
 replace F := Lib.hid (F.out.keep hb_)
 have z2_ := hb_.size
 clear hb_
 have HC := Lib.hid (rTokens_yes SM.out F.out HR.out)
 unfold hdC at HC
 refine K.out.q5 fun pK_0 pK_1 pK_2 pK_3 pK_4 => ?_
 go_wp2_with fail
 clear pK_0 pK_1 pK_2 pK_3 pK_4
 refine (HC.out).mono ?_
 rintro e w2 ⟨p, c, rfl, ht, hb⟩
 clear HC
 replace B := Lib.hid (be_call B.out hb)
 replace F := Lib.hid (F.out.keep hb)
 replace K := Lib.hid (K.out.keep hb)
 have z3_ := hb.size
 clear hb
 have T := Lib.hid ht; clear ht
 go_wp2_with fail
 refine (refPrint_big _ _ _ (rTok_in T.out) (by rw [List.length_map]; exact (toks_mem HR.out).1) (toks_mem HR.out).2).mono ?_
 rintro e w2 ⟨rfl, rfl⟩
 rw [printR_toks, HPS.out]
 go_wp2_with fail
 go_ret2
 exact ⟨rfl, B.out⟩
set_option maxRecDepth 100000 in
set_option maxHeartbeats 4000000 in
theorem rPrint_yes {x : Ex} {D : Nat → Prop} {w : World} {q : Option Addr} {d : Nat} (hsm : smX x) (hS : FoS D w q d x.args) (hr : rightX x = true) (h4 : (printL (toksX x)).length ≤ 4000) :
  Calls Tryz.prog 9 #[.agg (hdC x q d).toArray] w fun e w' => e = .returned (.tuple #[.string ⟨(printL (toksX x)).toArray⟩, .bool true]) ∧ Below w.heap.size w w' := by
 obtain ⟨ps, hps⟩ : ∃ ps : ByteArray, (⟨(printL (toksX x)).toArray⟩ : ByteArray) = ps := ⟨_, rfl⟩
 have hsz : ps.size = (printL (toksX x)).length := by rw [← hps]; simp [ByteArray.size]
 have h5 : ¬ (4000 : Int) < (ps.size : Int) := by omega
 rw [hps]
 have HPS := Lib.hid hps
 clear hsz hps h4
 have F := Lib.hid hS.inH; have SM := Lib.hid hsm; have HR := Lib.hid hr
 have B : Hid (Below w.heap.size w w) := be_refl w
 clear hS hsm hr
 unfold hdC
 go_enter Tryz.func9, Tryz.ntmps9
 go_upto_region 1 with fail
 refine nmW (w.alloc (.cells #[.int .i64 x.op, .int .i64 x.n, .string ⟨x.unit.toArray⟩, .string ⟨x.name.toArray⟩, .slice q x.args.len d] 24)) fun w1 hv => ?_
 rw [← hv]
 have K := bxh hv
 have hb_ := bah hv
 clear hv
 have z1_ := K.out.lt
 replace B := Lib.hid (be_call B.out hb_)
 replace F := Lib.hid (F.out.keep hb_)
 have z2_ := hb_.size
 clear hb_
 have HC := Lib.hid (rTokens_yes SM.out F.out HR.out)
 unfold hdC at HC
 refine K.out.q5 fun pK_0 pK_1 pK_2 pK_3 pK_4 => ?_
 go_wp2_with fail
 clear pK_0 pK_1 pK_2 pK_3 pK_4
 refine (HC.out).mono ?_
 rintro e w2 ⟨p, c, rfl, ht, hb⟩
 clear HC
 replace B := Lib.hid (be_call B.out hb)
 replace F := Lib.hid (F.out.keep hb)
 replace K := Lib.hid (K.out.keep hb)
 have z3_ := hb.size
 clear hb
 have T := Lib.hid ht; clear ht
 go_wp2_with fail
 refine (refPrint_big _ _ _ (rTok_in T.out) (by rw [List.length_map]; exact (toks_mem HR.out).1) (toks_mem HR.out).2).mono ?_
 rintro e w2 ⟨rfl, rfl⟩
 rw [printR_toks, HPS.out]
 go_wp2_with fail
 go_ret2
 exact ⟨rfl, B.out⟩
theorem rPrint_x {x : Ex} {D : Nat → Prop} {w : World} {q : Option Addr} {d : Nat} (hsm : smX x) (hS : FoS D w q d x.args) {o : Option Bytes} (ho : printX x = o) :
    Calls Tryz.prog 9 #[.agg (hdC x q d).toArray] w fun e w' => e = .returned (.tuple #[.string ⟨(o.getD []).toArray⟩, .bool o.isSome]) ∧ Below w.heap.size w w' := by
  subst ho
  unfold printX
  cases hr : rightX x with
  | false => rw [if_neg (by simp)]; exact rPrint_no hsm hS hr
  | true =>
    by_cases h4 : (printL (toksX x)).length ≤ 4000
    · rw [if_pos ⟨rfl, h4⟩]; exact rPrint_yes hsm hS hr h4
    · rw [if_neg (fun h => h4 h.2)]; exact rPrint_big hsm hS hr (by omega)
end Go.Proofs.YtckgmilmhofekaaGreatDoor
