/- Scale: the reference's certificate in force. -/
import Derived.Test.YtpjpkcelajbfnaaScaleB
namespace Go.Proofs.Ytpjpkcelajbfnaa
open Go.RowKit

theorem covers_in (c : Ct) (day : Int) : coversC c day = (rightC c && inR day c.f c.u) := by unfold coversC inR; rw [Bool.and_assoc]
def outI : Option Nat → Int
  | none => -1
  | some g => g
theorem outI_max (r : Option Nat) : (if outI r < 0 then (0 : Int) else outI r) = ((r.getD 0 : Nat) : Int) := by cases r <;> simp [outI] <;> omega
theorem outI_is (r : Option Nat) : decide (0 ≤ outI r) = r.isSome := by cases r <;> simp [outI] <;> omega

set_option maxHeartbeats 8000000 in
theorem rcFind_ok (v : Value) (cs : List Ct) (sc day : Int) (w : World) (h : CtIn w v cs) (hn : cs.length ≤ 1099511627776) :
    Calls Try.prog 11 #[v, .int .i64 sc, .int .i64 day] w fun e w' => e = .returned (.tuple #[.int .i64 ((findC cs sc day).getD 0 : Nat), .bool (findC cs sc day).isSome]) ∧ Below w.heap.size w w' := by
  obtain ⟨a1, cap1, rfl⟩ := h.shape
  have H1 := Lib.hid h; clear h
  go_enter Try.func11, Try.ntmps11
  go_wp2_with fail
  go_loopw [8, 9] (fun b i wr => ∃ (k : Nat) (r : Option Nat), k ≤ cs.length ∧ b = .int .i64 (outI r) ∧ i = .int .i64 k ∧ Hid (findS cs sc day k = r) ∧ Hid (Below w.heap.size w wr)) (fun _ i _ => cs.length - (intOf i).toNat)
  case atStart => exact ⟨0, none, Nat.zero_le _, rfl, rfl, rfl, Below.refl _ _⟩
  case round =>
    obtain ⟨k, r, hk, hbest, rfl, HR, HB⟩ := hrel
    by_cases hlt : k < cs.length
    · have hI : (k : Int) < (cs.length : Int) := by omega
      obtain ⟨b, off, rfl, hb, hcell⟩ := (H1.out.keep HB.out).at hlt
      have HY := Lib.hid (findS_yes (cs := cs) (sc := sc) (day := day) hlt)
      have HN := Lib.hid (findS_no (cs := cs) (sc := sc) (day := day) hlt)
      obtain ⟨c, hc⟩ : ∃ c, c = cs[k] := ⟨_, rfl⟩
      rw [← hc] at hcell HY HN
      rw [HR.out] at HY HN
      obtain ⟨s, f, u, n, p, d⟩ := c
      have c0 : wr.cell? ⟨b, off + k * 6, none⟩ = some (.int .i64 s) := hcell 0 _ rfl
      have c1 : wr.cell? ⟨b, off + k * 6 + 1, none⟩ = some (.int .i64 f) := hcell 1 _ rfl
      have c2 : wr.cell? ⟨b, off + k * 6 + 2, none⟩ = some (.int .i64 u) := hcell 2 _ rfl
      have c3 : wr.cell? ⟨b, off + k * 6 + 3, none⟩ = some (.int .i64 n) := hcell 3 _ rfl
      have c4 : wr.cell? ⟨b, off + k * 6 + 4, none⟩ = some (.int .i64 p) := hcell 4 _ rfl
      have c5 : wr.cell? ⟨b, off + k * 6 + 5, none⟩ = some (.int .i64 d) := hcell 5 _ rfl
      clear hcell hc
      obtain ⟨b1, h1⟩ : ∃ b, b = rightC ⟨s, f, u, n, p, d⟩ := ⟨_, rfl⟩
      obtain ⟨b2, h2⟩ : ∃ b, b = (s == sc) := ⟨_, rfl⟩
      obtain ⟨b3, h3⟩ : ∃ b, b = inR day f u := ⟨_, rfl⟩
      have H1_ := Lib.hid h1
      have H2_ := Lib.hid h2
      have H3_ := Lib.hid h3
      replace h2 := h2.symm
      clear h1 h3
      go_wp2_with fail
      obtain ⟨w0, hw0⟩ : ∃ x, x = wr.alloc (.cells #[.int .i64 s, .int .i64 f, .int .i64 u, .int .i64 n, .int .i64 p, .int .i64 d] 25) := ⟨_, rfl⟩
      rw [← hw0]
      have K0 : Hid (Bx w0 wr.heap.size 25 #[.int .i64 s, .int .i64 f, .int .i64 u, .int .i64 n, .int .i64 p, .int .i64 d]) := by show Bx _ _ _ _; rw [hw0]; exact bx1 wr _ _
      have HB0 : Hid (Below wr.heap.size wr w0) := by show Below _ _ _; rw [hw0]; exact below_alloc _ _
      clear hw0 c0 c1 c2 c3 c4 c5
      cases r with
      | none =>
        replace hbest : u8 = .int .i64 (-1) := hbest
        subst hbest
        cases b1
        · have mk : Hid (∀ w', Below w0.heap.size w0 w' → w'.cell? ⟨wr.heap.size, 0, none⟩ = some (.int .i64 s) ∧ w'.cell? ⟨wr.heap.size, 1, none⟩ = some (.int .i64 f) ∧ w'.cell? ⟨wr.heap.size, 2, none⟩ = some (.int .i64 u) ∧ w'.cell? ⟨wr.heap.size, 3, none⟩ = some (.int .i64 n) ∧ w'.cell? ⟨wr.heap.size, 4, none⟩ = some (.int .i64 p) ∧ w'.cell? ⟨wr.heap.size, 5, none⟩ = some (.int .i64 d) ∧ Below w0.heap.size w0 w') := fun w' h => ⟨(K0.out.keep h).at.1 0, (K0.out.keep h).at.1 1, (K0.out.keep h).at.1 2, (K0.out.keep h).at.1 3, (K0.out.keep h).at.1 4, (K0.out.keep h).at.1 5, h⟩
          have hs0 : Below w0.heap.size w0 w0.drew := (Below.refl _ _).drew
          refine wp_region_held_drew (S := fun w' => w'.cell? ⟨wr.heap.size, 0, none⟩ = some (.int .i64 s) ∧ w'.cell? ⟨wr.heap.size, 1, none⟩ = some (.int .i64 f) ∧ w'.cell? ⟨wr.heap.size, 2, none⟩ = some (.int .i64 u) ∧ w'.cell? ⟨wr.heap.size, 3, none⟩ = some (.int .i64 n) ∧ w'.cell? ⟨wr.heap.size, 4, none⟩ = some (.int .i64 p) ∧ w'.cell? ⟨wr.heap.size, 5, none⟩ = some (.int .i64 d) ∧ Below w0.heap.size w0 w') (by kernel_rfl) (mk.out _ hs0) (fun hHeld => ?_)
          refine tk at0 ?_
          refine wpAnyH_ready (rs := [1]) (by kernel_rfl) (by simp) ?_
          refine AllReadyH.cons at1 (fun K hK => ?_) AllReadyH.nil
          go_simp
          (go_at_call 18; refine (rcRight_ok ⟨s, f, u, n, p, d⟩ _).mono ?_; rintro e w1 ⟨rfl, hb1⟩; have hs1 := below_call hs0 hb1; rw [← H1_.out]; clear hb1)
          (try go_wp2_with fail)
          refine hK.out _ _ (mk.out _ hs1) (fun hHeld1 => ?_)
          clear hK K hHeld
          (try simp only [Act.put, List.setIfInBounds_toArray, List.set_cons_zero, List.set_cons_succ])
          refine tk at2 ?_
          refine tu at3 ?_
          refine tu at4 ?_
          refine tu at5 ?_
          refine tu at6 ?_
          refine tk at7 ?_
          refine tk at8 ?_
          refine tu at9 ?_
          refine tu at10 ?_
          refine tu at11 ?_
          refine tu at12 ?_
          refine tu at13 ?_
          refine wpAnyH_ready (rs := [14]) (by kernel_rfl) (by simp) ?_
          refine AllReadyH.cons at14 (fun K hK => ?_) AllReadyH.nil
          rw [if_neg]
          rotate_left
          focus (intro h; exact Bool.noConfusion h)
          refine hK.out _ _ hHeld1 (fun _ => ?_)
          clear hK K
          (try simp only [Act.put, List.setIfInBounds_toArray, List.set_cons_zero, List.set_cons_succ])
          refine tk at15 ?_
          refine tk at16 ?_
          refine tu at17 ?_
          refine tu at18 ?_
          refine tu at19 ?_
          refine tu at20 ?_
          refine tu at21 ?_
          refine tu at22 ?_
          refine tu at23 ?_
          refine tu at24 ?_
          refine tu at25 ?_
          refine tu at26 ?_
          refine tu at27 ?_
          refine tu at28 ?_
          refine tu at29 ?_
          refine tk at30 ?_
          refine wpAnyH_done (by kernel_rfl) ?_ _
          go_wp2_with fail
          go_roundw
          case rel => exact ⟨k + 1, none, by omega, rfl, by go_num, HN.out (by rw [covers_in, ← H2_.out, ← H1_.out, ← H3_.out]; simp), below_call HB.out (below_call HB0.out hs1)⟩
          case measure => simp [intOf]; omega
        · cases b2
          · have mk : Hid (∀ w', Below w0.heap.size w0 w' → w'.cell? ⟨wr.heap.size, 0, none⟩ = some (.int .i64 s) ∧ w'.cell? ⟨wr.heap.size, 1, none⟩ = some (.int .i64 f) ∧ w'.cell? ⟨wr.heap.size, 2, none⟩ = some (.int .i64 u) ∧ w'.cell? ⟨wr.heap.size, 3, none⟩ = some (.int .i64 n) ∧ w'.cell? ⟨wr.heap.size, 4, none⟩ = some (.int .i64 p) ∧ w'.cell? ⟨wr.heap.size, 5, none⟩ = some (.int .i64 d) ∧ Below w0.heap.size w0 w') := fun w' h => ⟨(K0.out.keep h).at.1 0, (K0.out.keep h).at.1 1, (K0.out.keep h).at.1 2, (K0.out.keep h).at.1 3, (K0.out.keep h).at.1 4, (K0.out.keep h).at.1 5, h⟩
            have hs0 : Below w0.heap.size w0 w0.drew := (Below.refl _ _).drew
            refine wp_region_held_drew (S := fun w' => w'.cell? ⟨wr.heap.size, 0, none⟩ = some (.int .i64 s) ∧ w'.cell? ⟨wr.heap.size, 1, none⟩ = some (.int .i64 f) ∧ w'.cell? ⟨wr.heap.size, 2, none⟩ = some (.int .i64 u) ∧ w'.cell? ⟨wr.heap.size, 3, none⟩ = some (.int .i64 n) ∧ w'.cell? ⟨wr.heap.size, 4, none⟩ = some (.int .i64 p) ∧ w'.cell? ⟨wr.heap.size, 5, none⟩ = some (.int .i64 d) ∧ Below w0.heap.size w0 w') (by kernel_rfl) (mk.out _ hs0) (fun hHeld => ?_)
            refine tk at0 ?_
            refine wpAnyH_ready (rs := [1]) (by kernel_rfl) (by simp) ?_
            refine AllReadyH.cons at1 (fun K hK => ?_) AllReadyH.nil
            go_simp
            (go_at_call 18; refine (rcRight_ok ⟨s, f, u, n, p, d⟩ _).mono ?_; rintro e w1 ⟨rfl, hb1⟩; have hs1 := below_call hs0 hb1; rw [← H1_.out]; clear hb1)
            (try go_wp2_with fail)
            refine hK.out _ _ (mk.out _ hs1) (fun hHeld1 => ?_)
            clear hK K hHeld
            (try simp only [Act.put, List.setIfInBounds_toArray, List.set_cons_zero, List.set_cons_succ])
            refine tk at2 ?_
            refine tk at3 ?_
            refine tk at4 ?_
            refine tk at5 ?_
            refine tk at6 ?_
            refine tk at7 ?_
            refine tk at8 ?_
            refine tu at9 ?_
            refine tu at10 ?_
            refine tu at11 ?_
            refine tu at12 ?_
            refine tu at13 ?_
            refine wpAnyH_ready (rs := [14]) (by kernel_rfl) (by simp) ?_
            refine AllReadyH.cons at14 (fun K hK => ?_) AllReadyH.nil
            rw [if_neg]
            rotate_left
            focus (intro h; exact Bool.noConfusion h)
            refine hK.out _ _ hHeld1 (fun _ => ?_)
            clear hK K
            (try simp only [Act.put, List.setIfInBounds_toArray, List.set_cons_zero, List.set_cons_succ])
            refine tk at15 ?_
            refine tk at16 ?_
            refine tu at17 ?_
            refine tu at18 ?_
            refine tu at19 ?_
            refine tu at20 ?_
            refine tu at21 ?_
            refine tu at22 ?_
            refine tu at23 ?_
            refine tu at24 ?_
            refine tu at25 ?_
            refine tu at26 ?_
            refine tu at27 ?_
            refine tu at28 ?_
            refine tu at29 ?_
            refine tk at30 ?_
            refine wpAnyH_done (by kernel_rfl) ?_ _
            go_wp2_with fail
            go_roundw
            case rel => exact ⟨k + 1, none, by omega, rfl, by go_num, HN.out (by rw [covers_in, ← H2_.out, ← H1_.out, ← H3_.out]; simp), below_call HB.out (below_call HB0.out hs1)⟩
            case measure => simp [intOf]; omega
          · cases b3
            · have mk : Hid (∀ w', Below w0.heap.size w0 w' → w'.cell? ⟨wr.heap.size, 0, none⟩ = some (.int .i64 s) ∧ w'.cell? ⟨wr.heap.size, 1, none⟩ = some (.int .i64 f) ∧ w'.cell? ⟨wr.heap.size, 2, none⟩ = some (.int .i64 u) ∧ w'.cell? ⟨wr.heap.size, 3, none⟩ = some (.int .i64 n) ∧ w'.cell? ⟨wr.heap.size, 4, none⟩ = some (.int .i64 p) ∧ w'.cell? ⟨wr.heap.size, 5, none⟩ = some (.int .i64 d) ∧ Below w0.heap.size w0 w') := fun w' h => ⟨(K0.out.keep h).at.1 0, (K0.out.keep h).at.1 1, (K0.out.keep h).at.1 2, (K0.out.keep h).at.1 3, (K0.out.keep h).at.1 4, (K0.out.keep h).at.1 5, h⟩
              have hs0 : Below w0.heap.size w0 w0.drew := (Below.refl _ _).drew
              refine wp_region_held_drew (S := fun w' => w'.cell? ⟨wr.heap.size, 0, none⟩ = some (.int .i64 s) ∧ w'.cell? ⟨wr.heap.size, 1, none⟩ = some (.int .i64 f) ∧ w'.cell? ⟨wr.heap.size, 2, none⟩ = some (.int .i64 u) ∧ w'.cell? ⟨wr.heap.size, 3, none⟩ = some (.int .i64 n) ∧ w'.cell? ⟨wr.heap.size, 4, none⟩ = some (.int .i64 p) ∧ w'.cell? ⟨wr.heap.size, 5, none⟩ = some (.int .i64 d) ∧ Below w0.heap.size w0 w') (by kernel_rfl) (mk.out _ hs0) (fun hHeld => ?_)
              refine tk at0 ?_
              refine wpAnyH_ready (rs := [1]) (by kernel_rfl) (by simp) ?_
              refine AllReadyH.cons at1 (fun K hK => ?_) AllReadyH.nil
              go_simp
              (go_at_call 18; refine (rcRight_ok ⟨s, f, u, n, p, d⟩ _).mono ?_; rintro e w1 ⟨rfl, hb1⟩; have hs1 := below_call hs0 hb1; rw [← H1_.out]; clear hb1)
              (try go_wp2_with fail)
              refine hK.out _ _ (mk.out _ hs1) (fun hHeld1 => ?_)
              clear hK K hHeld
              (try simp only [Act.put, List.setIfInBounds_toArray, List.set_cons_zero, List.set_cons_succ])
              refine tk at2 ?_
              refine tk at3 ?_
              refine tk at4 ?_
              refine tk at5 ?_
              refine tk at6 ?_
              refine tk at7 ?_
              refine tk at8 ?_
              refine tk at9 ?_
              refine tk at10 ?_
              refine tk at11 ?_
              refine tk at12 ?_
              refine tk at13 ?_
              refine wpAnyH_ready (rs := [14]) (by kernel_rfl) (by simp) ?_
              refine AllReadyH.cons at14 (fun K hK => ?_) AllReadyH.nil
              go_simp
              (go_at_call 28; refine (in_ok _ _ _ _).mono ?_; rintro e w2 ⟨rfl, rfl⟩; rw [← H3_.out])
              (try go_wp2_with fail)
              refine hK.out _ _ (mk.out _ hs1) (fun hHeld2 => ?_)
              clear hK K hHeld1
              (try simp only [Act.put, List.setIfInBounds_toArray, List.set_cons_zero, List.set_cons_succ])
              refine tk at15 ?_
              refine tk at16 ?_
              refine tu at17 ?_
              refine tu at18 ?_
              refine tu at19 ?_
              refine tu at20 ?_
              refine tu at21 ?_
              refine tu at22 ?_
              refine tu at23 ?_
              refine tu at24 ?_
              refine tu at25 ?_
              refine tu at26 ?_
              refine tu at27 ?_
              refine tu at28 ?_
              refine tu at29 ?_
              refine tk at30 ?_
              refine wpAnyH_done (by kernel_rfl) ?_ _
              go_wp2_with fail
              go_roundw
              case rel => exact ⟨k + 1, none, by omega, rfl, by go_num, HN.out (by rw [covers_in, ← H2_.out, ← H1_.out, ← H3_.out]; simp), below_call HB.out (below_call HB0.out hs1)⟩
              case measure => simp [intOf]; omega
            · have mk : Hid (∀ w', Below w0.heap.size w0 w' → w'.cell? ⟨wr.heap.size, 0, none⟩ = some (.int .i64 s) ∧ w'.cell? ⟨wr.heap.size, 1, none⟩ = some (.int .i64 f) ∧ w'.cell? ⟨wr.heap.size, 2, none⟩ = some (.int .i64 u) ∧ w'.cell? ⟨wr.heap.size, 3, none⟩ = some (.int .i64 n) ∧ w'.cell? ⟨wr.heap.size, 4, none⟩ = some (.int .i64 p) ∧ w'.cell? ⟨wr.heap.size, 5, none⟩ = some (.int .i64 d) ∧ Below w0.heap.size w0 w') := fun w' h => ⟨(K0.out.keep h).at.1 0, (K0.out.keep h).at.1 1, (K0.out.keep h).at.1 2, (K0.out.keep h).at.1 3, (K0.out.keep h).at.1 4, (K0.out.keep h).at.1 5, h⟩
              have hs0 : Below w0.heap.size w0 w0.drew := (Below.refl _ _).drew
              refine wp_region_held_drew (S := fun w' => w'.cell? ⟨wr.heap.size, 0, none⟩ = some (.int .i64 s) ∧ w'.cell? ⟨wr.heap.size, 1, none⟩ = some (.int .i64 f) ∧ w'.cell? ⟨wr.heap.size, 2, none⟩ = some (.int .i64 u) ∧ w'.cell? ⟨wr.heap.size, 3, none⟩ = some (.int .i64 n) ∧ w'.cell? ⟨wr.heap.size, 4, none⟩ = some (.int .i64 p) ∧ w'.cell? ⟨wr.heap.size, 5, none⟩ = some (.int .i64 d) ∧ Below w0.heap.size w0 w') (by kernel_rfl) (mk.out _ hs0) (fun hHeld => ?_)
              refine tk at0 ?_
              refine wpAnyH_ready (rs := [1]) (by kernel_rfl) (by simp) ?_
              refine AllReadyH.cons at1 (fun K hK => ?_) AllReadyH.nil
              go_simp
              (go_at_call 18; refine (rcRight_ok ⟨s, f, u, n, p, d⟩ _).mono ?_; rintro e w1 ⟨rfl, hb1⟩; have hs1 := below_call hs0 hb1; rw [← H1_.out]; clear hb1)
              (try go_wp2_with fail)
              refine hK.out _ _ (mk.out _ hs1) (fun hHeld1 => ?_)
              clear hK K hHeld
              (try simp only [Act.put, List.setIfInBounds_toArray, List.set_cons_zero, List.set_cons_succ])
              refine tk at2 ?_
              refine tk at3 ?_
              refine tk at4 ?_
              refine tk at5 ?_
              refine tk at6 ?_
              refine tk at7 ?_
              refine tk at8 ?_
              refine tk at9 ?_
              refine tk at10 ?_
              refine tk at11 ?_
              refine tk at12 ?_
              refine tk at13 ?_
              refine wpAnyH_ready (rs := [14]) (by kernel_rfl) (by simp) ?_
              refine AllReadyH.cons at14 (fun K hK => ?_) AllReadyH.nil
              go_simp
              (go_at_call 28; refine (in_ok _ _ _ _).mono ?_; rintro e w2 ⟨rfl, rfl⟩; rw [← H3_.out])
              (try go_wp2_with fail)
              refine hK.out _ _ (mk.out _ hs1) (fun hHeld2 => ?_)
              clear hK K hHeld1
              (try simp only [Act.put, List.setIfInBounds_toArray, List.set_cons_zero, List.set_cons_succ])
              refine tk at15 ?_
              refine tk at16 ?_
              refine tk at17 ?_
              refine tk at18 ?_
              refine tk at19 ?_
              refine tu at20 ?_
              refine tu at21 ?_
              refine tu at22 ?_
              refine tu at23 ?_
              refine tu at24 ?_
              refine tu at25 ?_
              refine tu at26 ?_
              refine tu at27 ?_
              refine tu at28 ?_
              refine tk at29 ?_
              refine tk at30 ?_
              refine wpAnyH_done (by kernel_rfl) ?_ _
              go_wp2_with fail
              go_roundw
              case rel => exact ⟨k + 1, some k, by omega, rfl, by go_num, HY.out (by rw [covers_in, ← H2_.out, ← H1_.out, ← H3_.out]; simp [laterB]), below_call HB.out (below_call HB0.out hs1)⟩
              case measure => simp [intOf]; omega
      | some g =>
        have hgk := findS_lt cs sc day k g HR.out
        have hgl : g < cs.length := by omega
        have hI2 : (g : Int) < (cs.length : Int) := by omega
        have e0 : decide ((g : Int) < 0) = false := by rw [decide_eq_false_iff_not]; omega
        obtain ⟨b', off', hab, hb', hcell'⟩ := (H1.out.keep HB.out).at hgl
        cases hab
        obtain ⟨c', hc'⟩ : ∃ c, c = cs[g] := ⟨_, rfl⟩
        rw [← hc'] at hcell'
        have HGk : Hid (cs[g]? = some c') := by show _ = _; rw [List.getElem?_eq_getElem hgl, hc']
        obtain ⟨sg_, fg, ug_, ng_, pg_, dg_⟩ := c'
        have Hg1 : Hid (w0.cell? ⟨b, off + g * 6 + 1, none⟩ = some (.int .i64 fg)) := (HB0.out.cell hb').trans (hcell' 1 _ rfl)
        have HgB : Hid (b < w0.heap.size) := Nat.lt_of_lt_of_le hb' HB0.out.size
        clear hcell' hc'
        obtain ⟨b4, h4⟩ : ∃ b, b = decide (fg ≤ f) := ⟨_, rfl⟩
        replace h4 := h4.symm
        have H4_ := Lib.hid h4
        have hmx : (if outI (some g) < 0 then (0 : Int) else outI (some g)) = (g : Int) := by show (if (g : Int) < 0 then (0 : Int) else (g : Int)) = g; rw [if_neg (by omega)]
        replace hbest : u8 = .int .i64 (g : Int) := hbest
        subst hbest
        cases b1
        · have mk : Hid (∀ w', Below w0.heap.size w0 w' → w'.cell? ⟨wr.heap.size, 0, none⟩ = some (.int .i64 s) ∧ w'.cell? ⟨wr.heap.size, 1, none⟩ = some (.int .i64 f) ∧ w'.cell? ⟨wr.heap.size, 2, none⟩ = some (.int .i64 u) ∧ w'.cell? ⟨wr.heap.size, 3, none⟩ = some (.int .i64 n) ∧ w'.cell? ⟨wr.heap.size, 4, none⟩ = some (.int .i64 p) ∧ w'.cell? ⟨wr.heap.size, 5, none⟩ = some (.int .i64 d) ∧ w'.cell? ⟨b, off + g * 6 + 1, none⟩ = some (.int .i64 fg) ∧ Below w0.heap.size w0 w') := fun w' h => ⟨(K0.out.keep h).at.1 0, (K0.out.keep h).at.1 1, (K0.out.keep h).at.1 2, (K0.out.keep h).at.1 3, (K0.out.keep h).at.1 4, (K0.out.keep h).at.1 5, (h.cell HgB.out).trans Hg1.out, h⟩
          have hs0 : Below w0.heap.size w0 w0.drew := (Below.refl _ _).drew
          refine wp_region_held_drew (S := fun w' => w'.cell? ⟨wr.heap.size, 0, none⟩ = some (.int .i64 s) ∧ w'.cell? ⟨wr.heap.size, 1, none⟩ = some (.int .i64 f) ∧ w'.cell? ⟨wr.heap.size, 2, none⟩ = some (.int .i64 u) ∧ w'.cell? ⟨wr.heap.size, 3, none⟩ = some (.int .i64 n) ∧ w'.cell? ⟨wr.heap.size, 4, none⟩ = some (.int .i64 p) ∧ w'.cell? ⟨wr.heap.size, 5, none⟩ = some (.int .i64 d) ∧ w'.cell? ⟨b, off + g * 6 + 1, none⟩ = some (.int .i64 fg) ∧ Below w0.heap.size w0 w') (by kernel_rfl) (mk.out _ hs0) (fun hHeld => ?_)
          refine tk at0 ?_
          refine wpAnyH_ready (rs := [1]) (by kernel_rfl) (by simp) ?_
          refine AllReadyH.cons at1 (fun K hK => ?_) AllReadyH.nil
          go_simp
          (go_at_call 18; refine (rcRight_ok ⟨s, f, u, n, p, d⟩ _).mono ?_; rintro e w1 ⟨rfl, hb1⟩; have hs1 := below_call hs0 hb1; rw [← H1_.out]; clear hb1)
          (try go_wp2_with fail)
          refine hK.out _ _ (mk.out _ hs1) (fun hHeld1 => ?_)
          clear hK K hHeld
          (try simp only [Act.put, List.setIfInBounds_toArray, List.set_cons_zero, List.set_cons_succ])
          refine tk at2 ?_
          refine tu at3 ?_
          refine tu at4 ?_
          refine tu at5 ?_
          refine tu at6 ?_
          refine tk at7 ?_
          refine tk at8 ?_
          refine tu at9 ?_
          refine tu at10 ?_
          refine tu at11 ?_
          refine tu at12 ?_
          refine tu at13 ?_
          refine wpAnyH_ready (rs := [14]) (by kernel_rfl) (by simp) ?_
          refine AllReadyH.cons at14 (fun K hK => ?_) AllReadyH.nil
          rw [if_neg]
          rotate_left
          focus (intro h; exact Bool.noConfusion h)
          refine hK.out _ _ hHeld1 (fun _ => ?_)
          clear hK K
          (try simp only [Act.put, List.setIfInBounds_toArray, List.set_cons_zero, List.set_cons_succ])
          refine tk at15 ?_
          refine tk at16 ?_
          refine tu at17 ?_
          refine tu at18 ?_
          refine tu at19 ?_
          refine tu at20 ?_
          refine tu at21 ?_
          refine tu at22 ?_
          refine tu at23 ?_
          refine tu at24 ?_
          refine tu at25 ?_
          refine tu at26 ?_
          refine tu at27 ?_
          refine tu at28 ?_
          refine tu at29 ?_
          refine tk at30 ?_
          refine wpAnyH_done (by kernel_rfl) ?_ _
          go_wp2_with fail
          go_roundw
          case rel => exact ⟨k + 1, some g, by omega, rfl, by go_num, HN.out (by rw [covers_in, ← H2_.out, ← H1_.out, ← H3_.out]; simp), below_call HB.out (below_call HB0.out hs1)⟩
          case measure => simp [intOf]; omega
        · cases b2
          · have mk : Hid (∀ w', Below w0.heap.size w0 w' → w'.cell? ⟨wr.heap.size, 0, none⟩ = some (.int .i64 s) ∧ w'.cell? ⟨wr.heap.size, 1, none⟩ = some (.int .i64 f) ∧ w'.cell? ⟨wr.heap.size, 2, none⟩ = some (.int .i64 u) ∧ w'.cell? ⟨wr.heap.size, 3, none⟩ = some (.int .i64 n) ∧ w'.cell? ⟨wr.heap.size, 4, none⟩ = some (.int .i64 p) ∧ w'.cell? ⟨wr.heap.size, 5, none⟩ = some (.int .i64 d) ∧ w'.cell? ⟨b, off + g * 6 + 1, none⟩ = some (.int .i64 fg) ∧ Below w0.heap.size w0 w') := fun w' h => ⟨(K0.out.keep h).at.1 0, (K0.out.keep h).at.1 1, (K0.out.keep h).at.1 2, (K0.out.keep h).at.1 3, (K0.out.keep h).at.1 4, (K0.out.keep h).at.1 5, (h.cell HgB.out).trans Hg1.out, h⟩
            have hs0 : Below w0.heap.size w0 w0.drew := (Below.refl _ _).drew
            refine wp_region_held_drew (S := fun w' => w'.cell? ⟨wr.heap.size, 0, none⟩ = some (.int .i64 s) ∧ w'.cell? ⟨wr.heap.size, 1, none⟩ = some (.int .i64 f) ∧ w'.cell? ⟨wr.heap.size, 2, none⟩ = some (.int .i64 u) ∧ w'.cell? ⟨wr.heap.size, 3, none⟩ = some (.int .i64 n) ∧ w'.cell? ⟨wr.heap.size, 4, none⟩ = some (.int .i64 p) ∧ w'.cell? ⟨wr.heap.size, 5, none⟩ = some (.int .i64 d) ∧ w'.cell? ⟨b, off + g * 6 + 1, none⟩ = some (.int .i64 fg) ∧ Below w0.heap.size w0 w') (by kernel_rfl) (mk.out _ hs0) (fun hHeld => ?_)
            refine tk at0 ?_
            refine wpAnyH_ready (rs := [1]) (by kernel_rfl) (by simp) ?_
            refine AllReadyH.cons at1 (fun K hK => ?_) AllReadyH.nil
            go_simp
            (go_at_call 18; refine (rcRight_ok ⟨s, f, u, n, p, d⟩ _).mono ?_; rintro e w1 ⟨rfl, hb1⟩; have hs1 := below_call hs0 hb1; rw [← H1_.out]; clear hb1)
            (try go_wp2_with fail)
            refine hK.out _ _ (mk.out _ hs1) (fun hHeld1 => ?_)
            clear hK K hHeld
            (try simp only [Act.put, List.setIfInBounds_toArray, List.set_cons_zero, List.set_cons_succ])
            refine tk at2 ?_
            refine tk at3 ?_
            refine tk at4 ?_
            refine tk at5 ?_
            refine tk at6 ?_
            refine tk at7 ?_
            refine tk at8 ?_
            refine tu at9 ?_
            refine tu at10 ?_
            refine tu at11 ?_
            refine tu at12 ?_
            refine tu at13 ?_
            refine wpAnyH_ready (rs := [14]) (by kernel_rfl) (by simp) ?_
            refine AllReadyH.cons at14 (fun K hK => ?_) AllReadyH.nil
            rw [if_neg]
            rotate_left
            focus (intro h; exact Bool.noConfusion h)
            refine hK.out _ _ hHeld1 (fun _ => ?_)
            clear hK K
            (try simp only [Act.put, List.setIfInBounds_toArray, List.set_cons_zero, List.set_cons_succ])
            refine tk at15 ?_
            refine tk at16 ?_
            refine tu at17 ?_
            refine tu at18 ?_
            refine tu at19 ?_
            refine tu at20 ?_
            refine tu at21 ?_
            refine tu at22 ?_
            refine tu at23 ?_
            refine tu at24 ?_
            refine tu at25 ?_
            refine tu at26 ?_
            refine tu at27 ?_
            refine tu at28 ?_
            refine tu at29 ?_
            refine tk at30 ?_
            refine wpAnyH_done (by kernel_rfl) ?_ _
            go_wp2_with fail
            go_roundw
            case rel => exact ⟨k + 1, some g, by omega, rfl, by go_num, HN.out (by rw [covers_in, ← H2_.out, ← H1_.out, ← H3_.out]; simp), below_call HB.out (below_call HB0.out hs1)⟩
            case measure => simp [intOf]; omega
          · cases b3
            · have mk : Hid (∀ w', Below w0.heap.size w0 w' → w'.cell? ⟨wr.heap.size, 0, none⟩ = some (.int .i64 s) ∧ w'.cell? ⟨wr.heap.size, 1, none⟩ = some (.int .i64 f) ∧ w'.cell? ⟨wr.heap.size, 2, none⟩ = some (.int .i64 u) ∧ w'.cell? ⟨wr.heap.size, 3, none⟩ = some (.int .i64 n) ∧ w'.cell? ⟨wr.heap.size, 4, none⟩ = some (.int .i64 p) ∧ w'.cell? ⟨wr.heap.size, 5, none⟩ = some (.int .i64 d) ∧ w'.cell? ⟨b, off + g * 6 + 1, none⟩ = some (.int .i64 fg) ∧ Below w0.heap.size w0 w') := fun w' h => ⟨(K0.out.keep h).at.1 0, (K0.out.keep h).at.1 1, (K0.out.keep h).at.1 2, (K0.out.keep h).at.1 3, (K0.out.keep h).at.1 4, (K0.out.keep h).at.1 5, (h.cell HgB.out).trans Hg1.out, h⟩
              have hs0 : Below w0.heap.size w0 w0.drew := (Below.refl _ _).drew
              refine wp_region_held_drew (S := fun w' => w'.cell? ⟨wr.heap.size, 0, none⟩ = some (.int .i64 s) ∧ w'.cell? ⟨wr.heap.size, 1, none⟩ = some (.int .i64 f) ∧ w'.cell? ⟨wr.heap.size, 2, none⟩ = some (.int .i64 u) ∧ w'.cell? ⟨wr.heap.size, 3, none⟩ = some (.int .i64 n) ∧ w'.cell? ⟨wr.heap.size, 4, none⟩ = some (.int .i64 p) ∧ w'.cell? ⟨wr.heap.size, 5, none⟩ = some (.int .i64 d) ∧ w'.cell? ⟨b, off + g * 6 + 1, none⟩ = some (.int .i64 fg) ∧ Below w0.heap.size w0 w') (by kernel_rfl) (mk.out _ hs0) (fun hHeld => ?_)
              refine tk at0 ?_
              refine wpAnyH_ready (rs := [1]) (by kernel_rfl) (by simp) ?_
              refine AllReadyH.cons at1 (fun K hK => ?_) AllReadyH.nil
              go_simp
              (go_at_call 18; refine (rcRight_ok ⟨s, f, u, n, p, d⟩ _).mono ?_; rintro e w1 ⟨rfl, hb1⟩; have hs1 := below_call hs0 hb1; rw [← H1_.out]; clear hb1)
              (try go_wp2_with fail)
              refine hK.out _ _ (mk.out _ hs1) (fun hHeld1 => ?_)
              clear hK K hHeld
              (try simp only [Act.put, List.setIfInBounds_toArray, List.set_cons_zero, List.set_cons_succ])
              refine tk at2 ?_
              refine tk at3 ?_
              refine tk at4 ?_
              refine tk at5 ?_
              refine tk at6 ?_
              refine tk at7 ?_
              refine tk at8 ?_
              refine tk at9 ?_
              refine tk at10 ?_
              refine tk at11 ?_
              refine tk at12 ?_
              refine tk at13 ?_
              refine wpAnyH_ready (rs := [14]) (by kernel_rfl) (by simp) ?_
              refine AllReadyH.cons at14 (fun K hK => ?_) AllReadyH.nil
              go_simp
              (go_at_call 28; refine (in_ok _ _ _ _).mono ?_; rintro e w2 ⟨rfl, rfl⟩; rw [← H3_.out])
              (try go_wp2_with fail)
              refine hK.out _ _ (mk.out _ hs1) (fun hHeld2 => ?_)
              clear hK K hHeld1
              (try simp only [Act.put, List.setIfInBounds_toArray, List.set_cons_zero, List.set_cons_succ])
              refine tk at15 ?_
              refine tk at16 ?_
              refine tu at17 ?_
              refine tu at18 ?_
              refine tu at19 ?_
              refine tu at20 ?_
              refine tu at21 ?_
              refine tu at22 ?_
              refine tu at23 ?_
              refine tu at24 ?_
              refine tu at25 ?_
              refine tu at26 ?_
              refine tu at27 ?_
              refine tu at28 ?_
              refine tu at29 ?_
              refine tk at30 ?_
              refine wpAnyH_done (by kernel_rfl) ?_ _
              go_wp2_with fail
              go_roundw
              case rel => exact ⟨k + 1, some g, by omega, rfl, by go_num, HN.out (by rw [covers_in, ← H2_.out, ← H1_.out, ← H3_.out]; simp), below_call HB.out (below_call HB0.out hs1)⟩
              case measure => simp [intOf]; omega
            · cases b4
              · have mk : Hid (∀ w', Below w0.heap.size w0 w' → w'.cell? ⟨wr.heap.size, 0, none⟩ = some (.int .i64 s) ∧ w'.cell? ⟨wr.heap.size, 1, none⟩ = some (.int .i64 f) ∧ w'.cell? ⟨wr.heap.size, 2, none⟩ = some (.int .i64 u) ∧ w'.cell? ⟨wr.heap.size, 3, none⟩ = some (.int .i64 n) ∧ w'.cell? ⟨wr.heap.size, 4, none⟩ = some (.int .i64 p) ∧ w'.cell? ⟨wr.heap.size, 5, none⟩ = some (.int .i64 d) ∧ w'.cell? ⟨b, off + g * 6 + 1, none⟩ = some (.int .i64 fg) ∧ Below w0.heap.size w0 w') := fun w' h => ⟨(K0.out.keep h).at.1 0, (K0.out.keep h).at.1 1, (K0.out.keep h).at.1 2, (K0.out.keep h).at.1 3, (K0.out.keep h).at.1 4, (K0.out.keep h).at.1 5, (h.cell HgB.out).trans Hg1.out, h⟩
                have hs0 : Below w0.heap.size w0 w0.drew := (Below.refl _ _).drew
                refine wp_region_held_drew (S := fun w' => w'.cell? ⟨wr.heap.size, 0, none⟩ = some (.int .i64 s) ∧ w'.cell? ⟨wr.heap.size, 1, none⟩ = some (.int .i64 f) ∧ w'.cell? ⟨wr.heap.size, 2, none⟩ = some (.int .i64 u) ∧ w'.cell? ⟨wr.heap.size, 3, none⟩ = some (.int .i64 n) ∧ w'.cell? ⟨wr.heap.size, 4, none⟩ = some (.int .i64 p) ∧ w'.cell? ⟨wr.heap.size, 5, none⟩ = some (.int .i64 d) ∧ w'.cell? ⟨b, off + g * 6 + 1, none⟩ = some (.int .i64 fg) ∧ Below w0.heap.size w0 w') (by kernel_rfl) (mk.out _ hs0) (fun hHeld => ?_)
                refine tk at0 ?_
                refine wpAnyH_ready (rs := [1]) (by kernel_rfl) (by simp) ?_
                refine AllReadyH.cons at1 (fun K hK => ?_) AllReadyH.nil
                go_simp
                (go_at_call 18; refine (rcRight_ok ⟨s, f, u, n, p, d⟩ _).mono ?_; rintro e w1 ⟨rfl, hb1⟩; have hs1 := below_call hs0 hb1; rw [← H1_.out]; clear hb1)
                (try go_wp2_with fail)
                refine hK.out _ _ (mk.out _ hs1) (fun hHeld1 => ?_)
                clear hK K hHeld
                (try simp only [Act.put, List.setIfInBounds_toArray, List.set_cons_zero, List.set_cons_succ])
                refine tk at2 ?_
                refine tk at3 ?_
                refine tk at4 ?_
                refine tk at5 ?_
                refine tk at6 ?_
                refine tk at7 ?_
                refine tk at8 ?_
                refine tk at9 ?_
                refine tk at10 ?_
                refine tk at11 ?_
                refine tk at12 ?_
                refine tk at13 ?_
                refine wpAnyH_ready (rs := [14]) (by kernel_rfl) (by simp) ?_
                refine AllReadyH.cons at14 (fun K hK => ?_) AllReadyH.nil
                go_simp
                (go_at_call 28; refine (in_ok _ _ _ _).mono ?_; rintro e w2 ⟨rfl, rfl⟩; rw [← H3_.out])
                (try go_wp2_with fail)
                refine hK.out _ _ (mk.out _ hs1) (fun hHeld2 => ?_)
                clear hK K hHeld1
                (try simp only [Act.put, List.setIfInBounds_toArray, List.set_cons_zero, List.set_cons_succ])
                refine tk at15 ?_
                refine tk at16 ?_
                refine tk at17 ?_
                refine tk at18 ?_
                refine tk at19 ?_
                refine tk at20 ?_
                refine tk at21 ?_
                refine tk at22 ?_
                refine tk at23 ?_
                refine tk at24 ?_
                refine tk at25 ?_
                refine tk at26 ?_
                refine tk at27 ?_
                refine tk at28 ?_
                refine tk at29 ?_
                refine tk at30 ?_
                refine wpAnyH_done (by kernel_rfl) ?_ _
                go_wp2_with fail
                go_roundw
                case rel => exact ⟨k + 1, some g, by omega, rfl, by go_num, HN.out (by rw [covers_in, ← H2_.out, ← H1_.out, ← H3_.out]; simp [laterB, HGk.out, H4_.out]), below_call HB.out (below_call HB0.out hs1)⟩
                case measure => simp [intOf]; omega
              · have mk : Hid (∀ w', Below w0.heap.size w0 w' → w'.cell? ⟨wr.heap.size, 0, none⟩ = some (.int .i64 s) ∧ w'.cell? ⟨wr.heap.size, 1, none⟩ = some (.int .i64 f) ∧ w'.cell? ⟨wr.heap.size, 2, none⟩ = some (.int .i64 u) ∧ w'.cell? ⟨wr.heap.size, 3, none⟩ = some (.int .i64 n) ∧ w'.cell? ⟨wr.heap.size, 4, none⟩ = some (.int .i64 p) ∧ w'.cell? ⟨wr.heap.size, 5, none⟩ = some (.int .i64 d) ∧ w'.cell? ⟨b, off + g * 6 + 1, none⟩ = some (.int .i64 fg) ∧ Below w0.heap.size w0 w') := fun w' h => ⟨(K0.out.keep h).at.1 0, (K0.out.keep h).at.1 1, (K0.out.keep h).at.1 2, (K0.out.keep h).at.1 3, (K0.out.keep h).at.1 4, (K0.out.keep h).at.1 5, (h.cell HgB.out).trans Hg1.out, h⟩
                have hs0 : Below w0.heap.size w0 w0.drew := (Below.refl _ _).drew
                refine wp_region_held_drew (S := fun w' => w'.cell? ⟨wr.heap.size, 0, none⟩ = some (.int .i64 s) ∧ w'.cell? ⟨wr.heap.size, 1, none⟩ = some (.int .i64 f) ∧ w'.cell? ⟨wr.heap.size, 2, none⟩ = some (.int .i64 u) ∧ w'.cell? ⟨wr.heap.size, 3, none⟩ = some (.int .i64 n) ∧ w'.cell? ⟨wr.heap.size, 4, none⟩ = some (.int .i64 p) ∧ w'.cell? ⟨wr.heap.size, 5, none⟩ = some (.int .i64 d) ∧ w'.cell? ⟨b, off + g * 6 + 1, none⟩ = some (.int .i64 fg) ∧ Below w0.heap.size w0 w') (by kernel_rfl) (mk.out _ hs0) (fun hHeld => ?_)
                refine tk at0 ?_
                refine wpAnyH_ready (rs := [1]) (by kernel_rfl) (by simp) ?_
                refine AllReadyH.cons at1 (fun K hK => ?_) AllReadyH.nil
                go_simp
                (go_at_call 18; refine (rcRight_ok ⟨s, f, u, n, p, d⟩ _).mono ?_; rintro e w1 ⟨rfl, hb1⟩; have hs1 := below_call hs0 hb1; rw [← H1_.out]; clear hb1)
                (try go_wp2_with fail)
                refine hK.out _ _ (mk.out _ hs1) (fun hHeld1 => ?_)
                clear hK K hHeld
                (try simp only [Act.put, List.setIfInBounds_toArray, List.set_cons_zero, List.set_cons_succ])
                refine tk at2 ?_
                refine tk at3 ?_
                refine tk at4 ?_
                refine tk at5 ?_
                refine tk at6 ?_
                refine tk at7 ?_
                refine tk at8 ?_
                refine tk at9 ?_
                refine tk at10 ?_
                refine tk at11 ?_
                refine tk at12 ?_
                refine tk at13 ?_
                refine wpAnyH_ready (rs := [14]) (by kernel_rfl) (by simp) ?_
                refine AllReadyH.cons at14 (fun K hK => ?_) AllReadyH.nil
                go_simp
                (go_at_call 28; refine (in_ok _ _ _ _).mono ?_; rintro e w2 ⟨rfl, rfl⟩; rw [← H3_.out])
                (try go_wp2_with fail)
                refine hK.out _ _ (mk.out _ hs1) (fun hHeld2 => ?_)
                clear hK K hHeld1
                (try simp only [Act.put, List.setIfInBounds_toArray, List.set_cons_zero, List.set_cons_succ])
                refine tk at15 ?_
                refine tk at16 ?_
                refine tk at17 ?_
                refine tk at18 ?_
                refine tk at19 ?_
                refine tk at20 ?_
                refine tk at21 ?_
                refine tk at22 ?_
                refine tk at23 ?_
                refine tk at24 ?_
                refine tk at25 ?_
                refine tk at26 ?_
                refine tk at27 ?_
                refine tk at28 ?_
                refine tk at29 ?_
                refine tk at30 ?_
                refine wpAnyH_done (by kernel_rfl) ?_ _
                go_wp2_with fail
                go_roundw
                case rel => exact ⟨k + 1, some k, by omega, rfl, by go_num, HY.out (by rw [covers_in, ← H2_.out, ← H1_.out, ← H3_.out]; simp [laterB, HGk.out, H4_.out]), below_call HB.out (below_call HB0.out hs1)⟩
                case measure => simp [intOf]; omega
    · have HF : Hid (findC cs sc day = r) := by show _ = _; rw [findC, show cs.length = k by omega]; exact HR.out
      have HS := Lib.hid (outI_is r)
      subst hbest
      cases r with
      | none =>
        have hlo : outI none < 0 := by decide
        go_wp2_with fail
        go_ret2
        rw [HF.out]
        exact ⟨rfl, HB.out⟩
      | some g =>
        have hlo : 0 ≤ outI (some g) := by show (0 : Int) ≤ (g : Int); omega
        go_wp2_with fail
        go_ret2
        rw [HF.out]
        exact ⟨by first | rfl | (show Ending.returned (.tuple #[.int .i64 (outI (some g)), .bool (decide (0 ≤ outI (some g)))]) = _; rw [HS.out]; rfl), HB.out⟩
end Go.Proofs.Ytpjpkcelajbfnaa
