/- Scale: the interval of a reading, the reference's too. -/
import Derived.Test.YtpjpkcelajbfnaaScaleC
import Derived.Test.YtpjpkcelajbfnaaScaleE
import Derived.Test.YtpjpkcelajbfnaaScaleF
namespace Go.Proofs.Ytpjpkcelajbfnaa
open Go.RowKit
variable {G : Nat}

instance {w w' : World} {v : Value} {cs : List Ct} : Goes (CtIn w v cs) w w' (CtIn w' v cs) := ⟨fun h hb => h.keep hb⟩
instance {w w' : World} {v : Value} {rs : List Rc} : Goes (RcIn w v rs) w w' (RcIn w' v rs) := ⟨fun h hb => h.keep hb⟩
theorem scFind_none {cs : List Ct} {sc day : Int} {a : Option Addr} {cap : Nat} {w : World} (h : CtIn w (.slice a cs.length cap) cs) (hn : cs.length ≤ 1099511627776) (hf : findC cs sc day = none) :
    Calls Try.prog 10 #[.slice a cs.length cap, .int .i64 sc, .int .i64 day] w fun e w' => e = .returned (.tuple #[.int .i64 0, .bool false]) ∧ Below w.heap.size w w' := by
  have := scFind_ok _ cs sc day w h hn
  rwa [hf] at this
theorem scFind_some {cs : List Ct} {sc day : Int} {a : Option Addr} {cap g : Nat} {w : World} (h : CtIn w (.slice a cs.length cap) cs) (hn : cs.length ≤ 1099511627776) (hf : findC cs sc day = some g) :
    Calls Try.prog 10 #[.slice a cs.length cap, .int .i64 sc, .int .i64 day] w fun e w' => e = .returned (.tuple #[.int .i64 (g : Int), .bool true]) ∧ Below w.heap.size w w' := by
  have := scFind_ok _ cs sc day w h hn
  rwa [hf] at this
theorem rcFind_none {cs : List Ct} {sc day : Int} {a : Option Addr} {cap : Nat} {w : World} (h : CtIn w (.slice a cs.length cap) cs) (hn : cs.length ≤ 1099511627776) (hf : findC cs sc day = none) :
    Calls Try.prog 11 #[.slice a cs.length cap, .int .i64 sc, .int .i64 day] w fun e w' => e = .returned (.tuple #[.int .i64 0, .bool false]) ∧ Below w.heap.size w w' := by
  have := rcFind_ok _ cs sc day w h hn
  rwa [hf] at this
theorem rcFind_some {cs : List Ct} {sc day : Int} {a : Option Addr} {cap g : Nat} {w : World} (h : CtIn w (.slice a cs.length cap) cs) (hn : cs.length ≤ 1099511627776) (hf : findC cs sc day = some g) :
    Calls Try.prog 11 #[.slice a cs.length cap, .int .i64 sc, .int .i64 day] w fun e w' => e = .returned (.tuple #[.int .i64 (g : Int), .bool true]) ∧ Below w.heap.size w w' := by
  have := rcFind_ok _ cs sc day w h hn
  rwa [hf] at this
theorem scRec_is {rs : List Rc} {sc day : Int} {a : Option Addr} {cap : Nat} {b : Bool} {w : World} (h : RcIn w (.slice a rs.length cap) rs) (hn : rs.length ≤ 1099511627776) (hf : recalledB rs sc day = b) :
    Calls Try.prog 19 #[.slice a rs.length cap, .int .i64 sc, .int .i64 day] w fun e w' => e = .returned (.bool b) ∧ Below w.heap.size w w' := by
  rw [← hf]; exact scRecalled_ok _ rs sc day w h hn
theorem rcRec_is {rs : List Rc} {sc day : Int} {a : Option Addr} {cap : Nat} {b : Bool} {w : World} (h : RcIn w (.slice a rs.length cap) rs) (hn : rs.length ≤ 1099511627776) (hf : recalledB rs sc day = b) :
    Calls Try.prog 20 #[.slice a rs.length cap, .int .i64 sc, .int .i64 day] w fun e w' => e = .returned (.bool b) ∧ Below w.heap.size w w' := by
  rw [← hf]; exact rcRecalled_ok _ rs sc day w h hn
theorem findS_is {cs : List Ct} {sc day : Int} : ∀ {k g : Nat}, k ≤ cs.length → findS cs sc day k = some g → ∃ h : g < cs.length, cs[g].s = sc ∧ coversC cs[g] day = true
  | 0, g, _, h => by simp [findS] at h
  | k + 1, g, hk, h => by
    have hlt : k < cs.length := by omega
    cases hb : (cs[k].s == sc && coversC cs[k] day && laterB cs (findS cs sc day k) cs[k]) with
    | true =>
      rw [findS_yes hlt hb] at h; cases h
      simp at hb; exact ⟨hlt, hb.1.1, hb.1.2⟩
    | false => rw [findS_no hlt hb] at h; exact findS_is (by omega) h
theorem findC_is {cs : List Ct} {sc day : Int} {g : Nat} (h : findC cs sc day = some g) : ∃ h : g < cs.length, cs[g].s = sc ∧ coversC cs[g] day = true := findS_is (Nat.le_refl _) h
theorem errQ_size {c : Ct} {rd day : Int} (h : coversC c day = true) (h' : inR rd 0 1099511627776 = true) : Fz (errQ c rd day) 9 := by
  have hb := covers_bounds h
  have he := err_bounds h h'
  exact Fz.add (n := 4) (m := 4) (Fz.of64 (by omega) (by omega) (by omega)) (Fz.int64 (by omega))
theorem in_bounds {n m : Int} (h : inR n 0 m = true) : 0 ≤ n ∧ n ≤ m := by simp [inR] at h; exact h
/-- The ends of an interval. -/
def loQ (e : Rat) (rd : Int) : Rat := pick ((rd : Rat) - e) ((0 : Int) : Rat) (1)
def hiQ (e : Rat) (rd : Int) : Rat := (rd : Rat) + e

set_option maxHeartbeats 4000000 in
theorem scInterval_no1 {cs : List Ct} {rs : List Rc} {sc rd day : Int} {a1 a2 : Option Addr} {cap1 cap2 : Nat} {w : World} (h1 : CtIn w (.slice a1 cs.length cap1) cs) (h2 : RcIn w (.slice a2 rs.length cap2) rs) (hn1 : cs.length ≤ 1099511627776) (_hn2 : rs.length ≤ 1099511627776) (hf : findC cs sc day = none) :
    Calls Try.prog 14 #[.slice a1 cs.length cap1, .slice a2 rs.length cap2, .int .i64 sc, .int .i64 rd, .int .i64 day] w fun e w' => e = .returned (.tuple #[.agg #[.int .i64 0, .slice none 0 0, .int .i64 0, .slice none 0 0], .agg #[.int .i64 0, .slice none 0 0, .int .i64 0, .slice none 0 0], .bool false]) ∧ Below w.heap.size w w' := by
  have HF := Lib.hid hf; clear hf
  have H1 : Hid (CtIn w (.slice a1 cs.length cap1) cs) := h1
  have H2 : Hid (RcIn w (.slice a2 rs.length cap2) rs) := h2
  clear h1 h2
  have M : Hid (Below w.heap.size w w) := Below.refl _ _
  go_enter Try.func14, Try.ntmps14
  go_upto_region 1 with fail
  obtain ⟨w1, hv⟩ : ∃ x, x = ((w.alloc (.cells #[.int .i64 0, .slice none 0 0, .int .i64 0, .slice none 0 0] 34)).alloc (.cells #[.int .i64 0, .slice none 0 0, .int .i64 0, .slice none 0 0] 34)) := ⟨_, rfl⟩
  rw [← hv]
  have hbx := bx2 w 34 34 #[.int .i64 0, .slice none 0 0, .int .i64 0, .slice none 0 0] #[.int .i64 0, .slice none 0 0, .int .i64 0, .slice none 0 0]
  rw [← hv] at hbx
  have hbn : Below w.heap.size w w1 := by rw [hv]; exact (Below.alloc (Below.alloc (Below.refl _ _) (by simp) _) (by simp) _)
  replace M := Lib.hid (And.intro hbx.2 (And.intro hbx.1 (Goes.go M.out hbn)))
  clear hbx hbn
  clear hv
  go_wp2_with fail
  refine (scFind_none (sc := sc) (day := day) (H1.out.keep (M.out.2.2)) (by omega) HF.out).mono ?_
  rintro e w2 ⟨rfl, hb⟩
  replace M := Lib.hid (Goes.go M.out hb)
  clear hb
  obtain ⟨p0_0, q0_0, p0_1, q0_1, p0_2, q0_2, p0_3, q0_3⟩ := (M.out.2.1).c4
  obtain ⟨p1_0, q1_0, p1_1, q1_1, p1_2, q1_2, p1_3, q1_3⟩ := (M.out.1).c4
  go_wp2_with fail
  clear p0_0 q0_0 p0_1 q0_1 p0_2 q0_2 p0_3 q0_3 p1_0 q1_0 p1_1 q1_1 p1_2 q1_2 p1_3 q1_3
  obtain ⟨w3, hv⟩ : ∃ x, x = ((((w2.setCell ⟨w.heap.size, 0, none⟩ (.int .i64 0)).setCell ⟨w.heap.size, 1, none⟩ (.slice none 0 0)).setCell ⟨w.heap.size, 2, none⟩ (.int .i64 0)).setCell ⟨w.heap.size, 3, none⟩ (.slice none 0 0)) := ⟨_, rfl⟩
  rw [← hv]
  have og : w2.grownBy w3 (some w.heap.size) := by rw [hv]; exact (only_setCell (only_setCell (only_setCell (only_setCell (World.grownBy.refl _ _) _) _) _) _)
  have hz : w.heap.size ≤ w.heap.size := by exact Nat.le_refl _
  have hk : Bx w3 w.heap.size 34 #[.int .i64 0, .slice none 0 0, .int .i64 0, .slice none 0 0] := by rw [hv]; exact (((((M.out.2.1).set 0 _).set 1 _).set 2 _).set 3 _)
  have hbw : Below w.heap.size w w3 := by rw [hv]; exact (Below.setCell (Below.setCell (Below.setCell (Below.setCell (M.out.2.2) (by omega) _) (by omega) _) (by omega) _) (by omega) _)
  replace M := Lib.hid (And.intro ((M.out.1).only og (by omega)) (And.intro hk hbw))
  clear hk hbw og hv hz
  obtain ⟨w4, hv⟩ : ∃ x, x = ((((w3.setCell ⟨w.heap.size + 1, 0, none⟩ (.int .i64 0)).setCell ⟨w.heap.size + 1, 1, none⟩ (.slice none 0 0)).setCell ⟨w.heap.size + 1, 2, none⟩ (.int .i64 0)).setCell ⟨w.heap.size + 1, 3, none⟩ (.slice none 0 0)) := ⟨_, rfl⟩
  rw [← hv]
  have og : w3.grownBy w4 (some (w.heap.size + 1)) := by rw [hv]; exact (only_setCell (only_setCell (only_setCell (only_setCell (World.grownBy.refl _ _) _) _) _) _)
  have hz : w.heap.size ≤ w.heap.size + 1 := by omega
  have hk : Bx w4 (w.heap.size + 1) 34 #[.int .i64 0, .slice none 0 0, .int .i64 0, .slice none 0 0] := by rw [hv]; exact (((((M.out.1).set 0 _).set 1 _).set 2 _).set 3 _)
  have hbw : Below w.heap.size w w4 := by rw [hv]; exact (Below.setCell (Below.setCell (Below.setCell (Below.setCell (M.out.2.2) (by omega) _) (by omega) _) (by omega) _) (by omega) _)
  replace M := Lib.hid (And.intro hk (And.intro ((M.out.2.1).only og (by omega)) hbw))
  clear hk hbw og hv hz
  refine bodyPost_ret (results_box2t rfl _ _ w.heap.size (w.heap.size + 1) 34 34 _ _ _ _ _ _ rfl (M.out.2.1) Try.underlying34 rfl (by kernel_rfl) rfl (M.out.1) Try.underlying34 rfl (by kernel_rfl)) rfl ?_
  exact ⟨rfl, (M.out.2.2)⟩

set_option maxHeartbeats 4000000 in
theorem scInterval_no2 {cs : List Ct} {rs : List Rc} {sc rd day : Int} {a1 a2 : Option Addr} {cap1 cap2 : Nat} {w : World} (h1 : CtIn w (.slice a1 cs.length cap1) cs) (h2 : RcIn w (.slice a2 rs.length cap2) rs) (hn1 : cs.length ≤ 1099511627776) (hn2 : rs.length ≤ 1099511627776) {g : Nat} (hf : findC cs sc day = some g) (hr : recalledB rs sc day = true) :
    Calls Try.prog 14 #[.slice a1 cs.length cap1, .slice a2 rs.length cap2, .int .i64 sc, .int .i64 rd, .int .i64 day] w fun e w' => e = .returned (.tuple #[.agg #[.int .i64 0, .slice none 0 0, .int .i64 0, .slice none 0 0], .agg #[.int .i64 0, .slice none 0 0, .int .i64 0, .slice none 0 0], .bool false]) ∧ Below w.heap.size w w' := by
  have HF := Lib.hid hf; clear hf
  have HR := Lib.hid hr; clear hr
  have H1 : Hid (CtIn w (.slice a1 cs.length cap1) cs) := h1
  have H2 : Hid (RcIn w (.slice a2 rs.length cap2) rs) := h2
  clear h1 h2
  have M : Hid (Below w.heap.size w w) := Below.refl _ _
  go_enter Try.func14, Try.ntmps14
  go_upto_region 1 with fail
  obtain ⟨w1, hv⟩ : ∃ x, x = ((w.alloc (.cells #[.int .i64 0, .slice none 0 0, .int .i64 0, .slice none 0 0] 34)).alloc (.cells #[.int .i64 0, .slice none 0 0, .int .i64 0, .slice none 0 0] 34)) := ⟨_, rfl⟩
  rw [← hv]
  have hbx := bx2 w 34 34 #[.int .i64 0, .slice none 0 0, .int .i64 0, .slice none 0 0] #[.int .i64 0, .slice none 0 0, .int .i64 0, .slice none 0 0]
  rw [← hv] at hbx
  have hbn : Below w.heap.size w w1 := by rw [hv]; exact (Below.alloc (Below.alloc (Below.refl _ _) (by simp) _) (by simp) _)
  replace M := Lib.hid (And.intro hbx.2 (And.intro hbx.1 (Goes.go M.out hbn)))
  clear hbx hbn
  clear hv
  go_wp2_with fail
  refine (scFind_some (sc := sc) (day := day) (H1.out.keep (M.out.2.2)) (by omega) HF.out).mono ?_
  rintro e w2 ⟨rfl, hb⟩
  replace M := Lib.hid (Goes.go M.out hb)
  clear hb
  go_wp2_with fail
  refine (scRec_is (sc := sc) (day := day) (b := true) (H2.out.keep (M.out.2.2)) (by omega) HR.out).mono ?_
  rintro e w3 ⟨rfl, hb⟩
  replace M := Lib.hid (Goes.go M.out hb)
  clear hb
  obtain ⟨p0_0, q0_0, p0_1, q0_1, p0_2, q0_2, p0_3, q0_3⟩ := (M.out.2.1).c4
  obtain ⟨p1_0, q1_0, p1_1, q1_1, p1_2, q1_2, p1_3, q1_3⟩ := (M.out.1).c4
  go_wp2_with fail
  clear p0_0 q0_0 p0_1 q0_1 p0_2 q0_2 p0_3 q0_3 p1_0 q1_0 p1_1 q1_1 p1_2 q1_2 p1_3 q1_3
  obtain ⟨w4, hv⟩ : ∃ x, x = ((((w3.setCell ⟨w.heap.size, 0, none⟩ (.int .i64 0)).setCell ⟨w.heap.size, 1, none⟩ (.slice none 0 0)).setCell ⟨w.heap.size, 2, none⟩ (.int .i64 0)).setCell ⟨w.heap.size, 3, none⟩ (.slice none 0 0)) := ⟨_, rfl⟩
  rw [← hv]
  have og : w3.grownBy w4 (some w.heap.size) := by rw [hv]; exact (only_setCell (only_setCell (only_setCell (only_setCell (World.grownBy.refl _ _) _) _) _) _)
  have hz : w.heap.size ≤ w.heap.size := by exact Nat.le_refl _
  have hk : Bx w4 w.heap.size 34 #[.int .i64 0, .slice none 0 0, .int .i64 0, .slice none 0 0] := by rw [hv]; exact (((((M.out.2.1).set 0 _).set 1 _).set 2 _).set 3 _)
  have hbw : Below w.heap.size w w4 := by rw [hv]; exact (Below.setCell (Below.setCell (Below.setCell (Below.setCell (M.out.2.2) (by omega) _) (by omega) _) (by omega) _) (by omega) _)
  replace M := Lib.hid (And.intro ((M.out.1).only og (by omega)) (And.intro hk hbw))
  clear hk hbw og hv hz
  obtain ⟨w5, hv⟩ : ∃ x, x = ((((w4.setCell ⟨w.heap.size + 1, 0, none⟩ (.int .i64 0)).setCell ⟨w.heap.size + 1, 1, none⟩ (.slice none 0 0)).setCell ⟨w.heap.size + 1, 2, none⟩ (.int .i64 0)).setCell ⟨w.heap.size + 1, 3, none⟩ (.slice none 0 0)) := ⟨_, rfl⟩
  rw [← hv]
  have og : w4.grownBy w5 (some (w.heap.size + 1)) := by rw [hv]; exact (only_setCell (only_setCell (only_setCell (only_setCell (World.grownBy.refl _ _) _) _) _) _)
  have hz : w.heap.size ≤ w.heap.size + 1 := by omega
  have hk : Bx w5 (w.heap.size + 1) 34 #[.int .i64 0, .slice none 0 0, .int .i64 0, .slice none 0 0] := by rw [hv]; exact (((((M.out.1).set 0 _).set 1 _).set 2 _).set 3 _)
  have hbw : Below w.heap.size w w5 := by rw [hv]; exact (Below.setCell (Below.setCell (Below.setCell (Below.setCell (M.out.2.2) (by omega) _) (by omega) _) (by omega) _) (by omega) _)
  replace M := Lib.hid (And.intro hk (And.intro ((M.out.2.1).only og (by omega)) hbw))
  clear hk hbw og hv hz
  refine bodyPost_ret (results_box2t rfl _ _ w.heap.size (w.heap.size + 1) 34 34 _ _ _ _ _ _ rfl (M.out.2.1) Try.underlying34 rfl (by kernel_rfl) rfl (M.out.1) Try.underlying34 rfl (by kernel_rfl)) rfl ?_
  exact ⟨rfl, (M.out.2.2)⟩

set_option maxHeartbeats 4000000 in
theorem rcInterval_no1 {cs : List Ct} {rs : List Rc} {sc rd day : Int} {a1 a2 : Option Addr} {cap1 cap2 : Nat} {w : World} (h1 : CtIn w (.slice a1 cs.length cap1) cs) (h2 : RcIn w (.slice a2 rs.length cap2) rs) (hn1 : cs.length ≤ 1099511627776) (_hn2 : rs.length ≤ 1099511627776) (hf : findC cs sc day = none) :
    Calls Try.prog 15 #[.slice a1 cs.length cap1, .slice a2 rs.length cap2, .int .i64 sc, .int .i64 rd, .int .i64 day] w fun e w' => e = .returned (.tuple #[.agg #[.int .i64 0, .slice none 0 0, .int .i64 0, .slice none 0 0], .agg #[.int .i64 0, .slice none 0 0, .int .i64 0, .slice none 0 0], .bool false]) ∧ Below w.heap.size w w' := by
  have HF := Lib.hid hf; clear hf
  have H1 : Hid (CtIn w (.slice a1 cs.length cap1) cs) := h1
  have H2 : Hid (RcIn w (.slice a2 rs.length cap2) rs) := h2
  clear h1 h2
  have M : Hid (Below w.heap.size w w) := Below.refl _ _
  go_enter Try.func15, Try.ntmps15
  go_upto_region 1 with fail
  obtain ⟨w1, hv⟩ : ∃ x, x = ((w.alloc (.cells #[.int .i64 0, .slice none 0 0, .int .i64 0, .slice none 0 0] 34)).alloc (.cells #[.int .i64 0, .slice none 0 0, .int .i64 0, .slice none 0 0] 34)) := ⟨_, rfl⟩
  rw [← hv]
  have hbx := bx2 w 34 34 #[.int .i64 0, .slice none 0 0, .int .i64 0, .slice none 0 0] #[.int .i64 0, .slice none 0 0, .int .i64 0, .slice none 0 0]
  rw [← hv] at hbx
  have hbn : Below w.heap.size w w1 := by rw [hv]; exact (Below.alloc (Below.alloc (Below.refl _ _) (by simp) _) (by simp) _)
  replace M := Lib.hid (And.intro hbx.2 (And.intro hbx.1 (Goes.go M.out hbn)))
  clear hbx hbn
  clear hv
  go_wp2_with fail
  refine (rcFind_none (sc := sc) (day := day) (H1.out.keep (M.out.2.2)) (by omega) HF.out).mono ?_
  rintro e w2 ⟨rfl, hb⟩
  replace M := Lib.hid (Goes.go M.out hb)
  clear hb
  obtain ⟨p0_0, q0_0, p0_1, q0_1, p0_2, q0_2, p0_3, q0_3⟩ := (M.out.2.1).c4
  obtain ⟨p1_0, q1_0, p1_1, q1_1, p1_2, q1_2, p1_3, q1_3⟩ := (M.out.1).c4
  go_wp2_with fail
  clear p0_0 q0_0 p0_1 q0_1 p0_2 q0_2 p0_3 q0_3 p1_0 q1_0 p1_1 q1_1 p1_2 q1_2 p1_3 q1_3
  obtain ⟨w3, hv⟩ : ∃ x, x = ((((w2.setCell ⟨w.heap.size, 0, none⟩ (.int .i64 0)).setCell ⟨w.heap.size, 1, none⟩ (.slice none 0 0)).setCell ⟨w.heap.size, 2, none⟩ (.int .i64 0)).setCell ⟨w.heap.size, 3, none⟩ (.slice none 0 0)) := ⟨_, rfl⟩
  rw [← hv]
  have og : w2.grownBy w3 (some w.heap.size) := by rw [hv]; exact (only_setCell (only_setCell (only_setCell (only_setCell (World.grownBy.refl _ _) _) _) _) _)
  have hz : w.heap.size ≤ w.heap.size := by exact Nat.le_refl _
  have hk : Bx w3 w.heap.size 34 #[.int .i64 0, .slice none 0 0, .int .i64 0, .slice none 0 0] := by rw [hv]; exact (((((M.out.2.1).set 0 _).set 1 _).set 2 _).set 3 _)
  have hbw : Below w.heap.size w w3 := by rw [hv]; exact (Below.setCell (Below.setCell (Below.setCell (Below.setCell (M.out.2.2) (by omega) _) (by omega) _) (by omega) _) (by omega) _)
  replace M := Lib.hid (And.intro ((M.out.1).only og (by omega)) (And.intro hk hbw))
  clear hk hbw og hv hz
  obtain ⟨w4, hv⟩ : ∃ x, x = ((((w3.setCell ⟨w.heap.size + 1, 0, none⟩ (.int .i64 0)).setCell ⟨w.heap.size + 1, 1, none⟩ (.slice none 0 0)).setCell ⟨w.heap.size + 1, 2, none⟩ (.int .i64 0)).setCell ⟨w.heap.size + 1, 3, none⟩ (.slice none 0 0)) := ⟨_, rfl⟩
  rw [← hv]
  have og : w3.grownBy w4 (some (w.heap.size + 1)) := by rw [hv]; exact (only_setCell (only_setCell (only_setCell (only_setCell (World.grownBy.refl _ _) _) _) _) _)
  have hz : w.heap.size ≤ w.heap.size + 1 := by omega
  have hk : Bx w4 (w.heap.size + 1) 34 #[.int .i64 0, .slice none 0 0, .int .i64 0, .slice none 0 0] := by rw [hv]; exact (((((M.out.1).set 0 _).set 1 _).set 2 _).set 3 _)
  have hbw : Below w.heap.size w w4 := by rw [hv]; exact (Below.setCell (Below.setCell (Below.setCell (Below.setCell (M.out.2.2) (by omega) _) (by omega) _) (by omega) _) (by omega) _)
  replace M := Lib.hid (And.intro hk (And.intro ((M.out.2.1).only og (by omega)) hbw))
  clear hk hbw og hv hz
  refine bodyPost_ret (results_box2t rfl _ _ w.heap.size (w.heap.size + 1) 34 34 _ _ _ _ _ _ rfl (M.out.2.1) Try.underlying34 rfl (by kernel_rfl) rfl (M.out.1) Try.underlying34 rfl (by kernel_rfl)) rfl ?_
  exact ⟨rfl, (M.out.2.2)⟩

set_option maxHeartbeats 4000000 in
theorem rcInterval_no2 {cs : List Ct} {rs : List Rc} {sc rd day : Int} {a1 a2 : Option Addr} {cap1 cap2 : Nat} {w : World} (h1 : CtIn w (.slice a1 cs.length cap1) cs) (h2 : RcIn w (.slice a2 rs.length cap2) rs) (hn1 : cs.length ≤ 1099511627776) (hn2 : rs.length ≤ 1099511627776) {g : Nat} (hf : findC cs sc day = some g) (hr : recalledB rs sc day = true) :
    Calls Try.prog 15 #[.slice a1 cs.length cap1, .slice a2 rs.length cap2, .int .i64 sc, .int .i64 rd, .int .i64 day] w fun e w' => e = .returned (.tuple #[.agg #[.int .i64 0, .slice none 0 0, .int .i64 0, .slice none 0 0], .agg #[.int .i64 0, .slice none 0 0, .int .i64 0, .slice none 0 0], .bool false]) ∧ Below w.heap.size w w' := by
  have HF := Lib.hid hf; clear hf
  have HR := Lib.hid hr; clear hr
  have H1 : Hid (CtIn w (.slice a1 cs.length cap1) cs) := h1
  have H2 : Hid (RcIn w (.slice a2 rs.length cap2) rs) := h2
  clear h1 h2
  have M : Hid (Below w.heap.size w w) := Below.refl _ _
  go_enter Try.func15, Try.ntmps15
  go_upto_region 1 with fail
  obtain ⟨w1, hv⟩ : ∃ x, x = ((w.alloc (.cells #[.int .i64 0, .slice none 0 0, .int .i64 0, .slice none 0 0] 34)).alloc (.cells #[.int .i64 0, .slice none 0 0, .int .i64 0, .slice none 0 0] 34)) := ⟨_, rfl⟩
  rw [← hv]
  have hbx := bx2 w 34 34 #[.int .i64 0, .slice none 0 0, .int .i64 0, .slice none 0 0] #[.int .i64 0, .slice none 0 0, .int .i64 0, .slice none 0 0]
  rw [← hv] at hbx
  have hbn : Below w.heap.size w w1 := by rw [hv]; exact (Below.alloc (Below.alloc (Below.refl _ _) (by simp) _) (by simp) _)
  replace M := Lib.hid (And.intro hbx.2 (And.intro hbx.1 (Goes.go M.out hbn)))
  clear hbx hbn
  clear hv
  go_wp2_with fail
  refine (rcFind_some (sc := sc) (day := day) (H1.out.keep (M.out.2.2)) (by omega) HF.out).mono ?_
  rintro e w2 ⟨rfl, hb⟩
  replace M := Lib.hid (Goes.go M.out hb)
  clear hb
  go_wp2_with fail
  refine (rcRec_is (sc := sc) (day := day) (b := true) (H2.out.keep (M.out.2.2)) (by omega) HR.out).mono ?_
  rintro e w3 ⟨rfl, hb⟩
  replace M := Lib.hid (Goes.go M.out hb)
  clear hb
  obtain ⟨p0_0, q0_0, p0_1, q0_1, p0_2, q0_2, p0_3, q0_3⟩ := (M.out.2.1).c4
  obtain ⟨p1_0, q1_0, p1_1, q1_1, p1_2, q1_2, p1_3, q1_3⟩ := (M.out.1).c4
  go_wp2_with fail
  clear p0_0 q0_0 p0_1 q0_1 p0_2 q0_2 p0_3 q0_3 p1_0 q1_0 p1_1 q1_1 p1_2 q1_2 p1_3 q1_3
  obtain ⟨w4, hv⟩ : ∃ x, x = ((((w3.setCell ⟨w.heap.size, 0, none⟩ (.int .i64 0)).setCell ⟨w.heap.size, 1, none⟩ (.slice none 0 0)).setCell ⟨w.heap.size, 2, none⟩ (.int .i64 0)).setCell ⟨w.heap.size, 3, none⟩ (.slice none 0 0)) := ⟨_, rfl⟩
  rw [← hv]
  have og : w3.grownBy w4 (some w.heap.size) := by rw [hv]; exact (only_setCell (only_setCell (only_setCell (only_setCell (World.grownBy.refl _ _) _) _) _) _)
  have hz : w.heap.size ≤ w.heap.size := by exact Nat.le_refl _
  have hk : Bx w4 w.heap.size 34 #[.int .i64 0, .slice none 0 0, .int .i64 0, .slice none 0 0] := by rw [hv]; exact (((((M.out.2.1).set 0 _).set 1 _).set 2 _).set 3 _)
  have hbw : Below w.heap.size w w4 := by rw [hv]; exact (Below.setCell (Below.setCell (Below.setCell (Below.setCell (M.out.2.2) (by omega) _) (by omega) _) (by omega) _) (by omega) _)
  replace M := Lib.hid (And.intro ((M.out.1).only og (by omega)) (And.intro hk hbw))
  clear hk hbw og hv hz
  obtain ⟨w5, hv⟩ : ∃ x, x = ((((w4.setCell ⟨w.heap.size + 1, 0, none⟩ (.int .i64 0)).setCell ⟨w.heap.size + 1, 1, none⟩ (.slice none 0 0)).setCell ⟨w.heap.size + 1, 2, none⟩ (.int .i64 0)).setCell ⟨w.heap.size + 1, 3, none⟩ (.slice none 0 0)) := ⟨_, rfl⟩
  rw [← hv]
  have og : w4.grownBy w5 (some (w.heap.size + 1)) := by rw [hv]; exact (only_setCell (only_setCell (only_setCell (only_setCell (World.grownBy.refl _ _) _) _) _) _)
  have hz : w.heap.size ≤ w.heap.size + 1 := by omega
  have hk : Bx w5 (w.heap.size + 1) 34 #[.int .i64 0, .slice none 0 0, .int .i64 0, .slice none 0 0] := by rw [hv]; exact (((((M.out.1).set 0 _).set 1 _).set 2 _).set 3 _)
  have hbw : Below w.heap.size w w5 := by rw [hv]; exact (Below.setCell (Below.setCell (Below.setCell (Below.setCell (M.out.2.2) (by omega) _) (by omega) _) (by omega) _) (by omega) _)
  replace M := Lib.hid (And.intro hk (And.intro ((M.out.2.1).only og (by omega)) hbw))
  clear hk hbw og hv hz
  refine bodyPost_ret (results_box2t rfl _ _ w.heap.size (w.heap.size + 1) 34 34 _ _ _ _ _ _ rfl (M.out.2.1) Try.underlying34 rfl (by kernel_rfl) rfl (M.out.1) Try.underlying34 rfl (by kernel_rfl)) rfl ?_
  exact ⟨rfl, (M.out.2.2)⟩

set_option maxHeartbeats 4000000 in
theorem scInterval_no3 {cs : List Ct} {rs : List Rc} {sc rd day : Int} {a1 a2 : Option Addr} {cap1 cap2 : Nat} {w : World} (h1 : CtIn w (.slice a1 cs.length cap1) cs) (h2 : RcIn w (.slice a2 rs.length cap2) rs) (hn1 : cs.length ≤ 1099511627776) (hn2 : rs.length ≤ 1099511627776) {ct : Ct} {g : Nat} {hgl : g < cs.length} (hct : ct = cs[g]) (hf : findC cs sc day = some g) (hr : recalledB rs sc day = false) (hi : inR rd 0 1099511627776 = false) :
    Calls Try.prog 14 #[.slice a1 cs.length cap1, .slice a2 rs.length cap2, .int .i64 sc, .int .i64 rd, .int .i64 day] w fun e w' => e = .returned (.tuple #[.agg #[.int .i64 0, .slice none 0 0, .int .i64 0, .slice none 0 0], .agg #[.int .i64 0, .slice none 0 0, .int .i64 0, .slice none 0 0], .bool false]) ∧ Below w.heap.size w w' := by
  obtain ⟨hgl, -, hc⟩ := findC_is hf
  obtain ⟨b, off, rfl, hb, hcell⟩ := h1.at hgl
  obtain ⟨s, f, u, n, p, d⟩ := ct
  rw [← hct] at hc hcell
  have hI2 : (g : Int) < (cs.length : Int) := by omega
  have HC := Lib.hid hc
  have HF := Lib.hid hf
  have HR := Lib.hid hr
  have HI := Lib.hid hi
  clear hf hr hi hc hct
  have H1 : Hid (CtIn w (.slice (some ⟨b, off, none⟩) cs.length cap1) cs) := h1
  have H2 : Hid (RcIn w (.slice a2 rs.length cap2) rs) := h2
  have HROW : Hid (Row w b (off + g * 6) [.int .i64 s, .int .i64 f, .int .i64 u, .int .i64 n, .int .i64 p, .int .i64 d]) := ⟨hb, hcell⟩
  clear h1 h2 hcell
  have M : Hid (Below w.heap.size w w) := Below.refl _ _
  go_enter Try.func14, Try.ntmps14
  go_upto_region 1 with fail
  obtain ⟨w1, hv⟩ : ∃ x, x = ((w.alloc (.cells #[.int .i64 0, .slice none 0 0, .int .i64 0, .slice none 0 0] 34)).alloc (.cells #[.int .i64 0, .slice none 0 0, .int .i64 0, .slice none 0 0] 34)) := ⟨_, rfl⟩
  rw [← hv]
  have hbx := bx2 w 34 34 #[.int .i64 0, .slice none 0 0, .int .i64 0, .slice none 0 0] #[.int .i64 0, .slice none 0 0, .int .i64 0, .slice none 0 0]
  rw [← hv] at hbx
  have hbn : Below w.heap.size w w1 := by rw [hv]; exact (Below.alloc (Below.alloc (Below.refl _ _) (by simp) _) (by simp) _)
  replace M := Lib.hid (And.intro hbx.2 (And.intro hbx.1 (Goes.go M.out hbn)))
  clear hbx hbn
  clear hv
  go_wp2_with fail
  refine (scFind_some (sc := sc) (day := day) (H1.out.keep (M.out.2.2)) (by omega) HF.out).mono ?_
  rintro e w2 ⟨rfl, hb⟩
  replace M := Lib.hid (Goes.go M.out hb)
  clear hb
  go_wp2_with fail
  refine (scRec_is (sc := sc) (day := day) (b := false) (H2.out.keep (M.out.2.2)) (by omega) HR.out).mono ?_
  rintro e w3 ⟨rfl, hb⟩
  replace M := Lib.hid (Goes.go M.out hb)
  clear hb
  obtain ⟨r0_0, r0_1, r0_2, r0_3, r0_4, r0_5⟩ := (HROW.out.keep (M.out.2.2)).c6
  go_wp2_with fail
  clear r0_0 r0_1 r0_2 r0_3 r0_4 r0_5
  refine (scError_no2 (s := s) (f := f) (u := u) (n := n) (p := p) (d := d) (rd := rd) (day := day) HC.out HI.out).mono ?_
  rintro e w4 ⟨rfl, hb⟩
  replace M := Lib.hid (Goes.go M.out hb)
  clear hb
  go_upto_region 5 with fail
  obtain ⟨w5, hv⟩ : ∃ x, x = (w4.alloc (.cells #[.int .i64 0, .slice none 0 0, .int .i64 0, .slice none 0 0] 34)) := ⟨_, rfl⟩
  rw [← hv]
  have o2 : w.heap.size + 1 < w4.heap.size := ((M.out.1)).lt
  replace M := Lib.hid (And.intro (hv ▸ bx1 w4 34 #[.int .i64 0, .slice none 0 0, .int .i64 0, .slice none 0 0]) (Goes.go M.out (hv ▸ below_alloc _ _ : Below w4.heap.size w4 w5)))
  clear hv
  obtain ⟨p0_0, q0_0, p0_1, q0_1, p0_2, q0_2, p0_3, q0_3⟩ := (M.out.2.2.1).c4
  obtain ⟨p1_0, q1_0, p1_1, q1_1, p1_2, q1_2, p1_3, q1_3⟩ := (M.out.2.1).c4
  go_wp2_with fail
  clear p0_0 q0_0 p0_1 q0_1 p0_2 q0_2 p0_3 q0_3 p1_0 q1_0 p1_1 q1_1 p1_2 q1_2 p1_3 q1_3
  obtain ⟨w6, hv⟩ : ∃ x, x = ((((w5.setCell ⟨w.heap.size, 0, none⟩ (.int .i64 0)).setCell ⟨w.heap.size, 1, none⟩ (.slice none 0 0)).setCell ⟨w.heap.size, 2, none⟩ (.int .i64 0)).setCell ⟨w.heap.size, 3, none⟩ (.slice none 0 0)) := ⟨_, rfl⟩
  rw [← hv]
  have og : w5.grownBy w6 (some w.heap.size) := by rw [hv]; exact (only_setCell (only_setCell (only_setCell (only_setCell (World.grownBy.refl _ _) _) _) _) _)
  have hz : w.heap.size ≤ w.heap.size := by exact Nat.le_refl _
  have hk : Bx w6 w.heap.size 34 #[.int .i64 0, .slice none 0 0, .int .i64 0, .slice none 0 0] := by rw [hv]; exact (((((M.out.2.2.1).set 0 _).set 1 _).set 2 _).set 3 _)
  have hbw : Below w.heap.size w w6 := by rw [hv]; exact (Below.setCell (Below.setCell (Below.setCell (Below.setCell (M.out.2.2.2) (by omega) _) (by omega) _) (by omega) _) (by omega) _)
  replace M := Lib.hid (And.intro ((M.out.1).only og (by omega)) (And.intro ((M.out.2.1).only og (by omega)) (And.intro hk hbw)))
  clear hk hbw og hv hz
  obtain ⟨w7, hv⟩ : ∃ x, x = ((((w6.setCell ⟨w.heap.size + 1, 0, none⟩ (.int .i64 0)).setCell ⟨w.heap.size + 1, 1, none⟩ (.slice none 0 0)).setCell ⟨w.heap.size + 1, 2, none⟩ (.int .i64 0)).setCell ⟨w.heap.size + 1, 3, none⟩ (.slice none 0 0)) := ⟨_, rfl⟩
  rw [← hv]
  have og : w6.grownBy w7 (some (w.heap.size + 1)) := by rw [hv]; exact (only_setCell (only_setCell (only_setCell (only_setCell (World.grownBy.refl _ _) _) _) _) _)
  have hz : w.heap.size ≤ w.heap.size + 1 := by omega
  have hk : Bx w7 (w.heap.size + 1) 34 #[.int .i64 0, .slice none 0 0, .int .i64 0, .slice none 0 0] := by rw [hv]; exact (((((M.out.2.1).set 0 _).set 1 _).set 2 _).set 3 _)
  have hbw : Below w.heap.size w w7 := by rw [hv]; exact (Below.setCell (Below.setCell (Below.setCell (Below.setCell (M.out.2.2.2) (by omega) _) (by omega) _) (by omega) _) (by omega) _)
  replace M := Lib.hid (And.intro ((M.out.1).only og (by omega)) (And.intro hk (And.intro ((M.out.2.2.1).only og (by omega)) hbw)))
  clear hk hbw og hv hz
  refine bodyPost_ret (results_box2t rfl _ _ w.heap.size (w.heap.size + 1) 34 34 _ _ _ _ _ _ rfl (M.out.2.2.1) Try.underlying34 rfl (by kernel_rfl) rfl (M.out.2.1) Try.underlying34 rfl (by kernel_rfl)) rfl ?_
  exact ⟨rfl, (M.out.2.2.2)⟩

set_option maxHeartbeats 4000000 in
theorem rcInterval_no3 {cs : List Ct} {rs : List Rc} {sc rd day : Int} {a1 a2 : Option Addr} {cap1 cap2 : Nat} {w : World} (h1 : CtIn w (.slice a1 cs.length cap1) cs) (h2 : RcIn w (.slice a2 rs.length cap2) rs) (hn1 : cs.length ≤ 1099511627776) (hn2 : rs.length ≤ 1099511627776) {ct : Ct} {g : Nat} {hgl : g < cs.length} (hct : ct = cs[g]) (hf : findC cs sc day = some g) (hr : recalledB rs sc day = false) (hi : inR rd 0 1099511627776 = false) :
    Calls Try.prog 15 #[.slice a1 cs.length cap1, .slice a2 rs.length cap2, .int .i64 sc, .int .i64 rd, .int .i64 day] w fun e w' => e = .returned (.tuple #[.agg #[.int .i64 0, .slice none 0 0, .int .i64 0, .slice none 0 0], .agg #[.int .i64 0, .slice none 0 0, .int .i64 0, .slice none 0 0], .bool false]) ∧ Below w.heap.size w w' := by
  obtain ⟨hgl, -, hc⟩ := findC_is hf
  obtain ⟨b, off, rfl, hb, hcell⟩ := h1.at hgl
  obtain ⟨s, f, u, n, p, d⟩ := ct
  rw [← hct] at hc hcell
  have hI2 : (g : Int) < (cs.length : Int) := by omega
  have HC := Lib.hid hc
  have HF := Lib.hid hf
  have HR := Lib.hid hr
  have HI := Lib.hid hi
  clear hf hr hi hc hct
  have H1 : Hid (CtIn w (.slice (some ⟨b, off, none⟩) cs.length cap1) cs) := h1
  have H2 : Hid (RcIn w (.slice a2 rs.length cap2) rs) := h2
  have HROW : Hid (Row w b (off + g * 6) [.int .i64 s, .int .i64 f, .int .i64 u, .int .i64 n, .int .i64 p, .int .i64 d]) := ⟨hb, hcell⟩
  clear h1 h2 hcell
  have M : Hid (Below w.heap.size w w) := Below.refl _ _
  go_enter Try.func15, Try.ntmps15
  go_upto_region 1 with fail
  obtain ⟨w1, hv⟩ : ∃ x, x = ((w.alloc (.cells #[.int .i64 0, .slice none 0 0, .int .i64 0, .slice none 0 0] 34)).alloc (.cells #[.int .i64 0, .slice none 0 0, .int .i64 0, .slice none 0 0] 34)) := ⟨_, rfl⟩
  rw [← hv]
  have hbx := bx2 w 34 34 #[.int .i64 0, .slice none 0 0, .int .i64 0, .slice none 0 0] #[.int .i64 0, .slice none 0 0, .int .i64 0, .slice none 0 0]
  rw [← hv] at hbx
  have hbn : Below w.heap.size w w1 := by rw [hv]; exact (Below.alloc (Below.alloc (Below.refl _ _) (by simp) _) (by simp) _)
  replace M := Lib.hid (And.intro hbx.2 (And.intro hbx.1 (Goes.go M.out hbn)))
  clear hbx hbn
  clear hv
  go_wp2_with fail
  refine (rcFind_some (sc := sc) (day := day) (H1.out.keep (M.out.2.2)) (by omega) HF.out).mono ?_
  rintro e w2 ⟨rfl, hb⟩
  replace M := Lib.hid (Goes.go M.out hb)
  clear hb
  go_wp2_with fail
  refine (rcRec_is (sc := sc) (day := day) (b := false) (H2.out.keep (M.out.2.2)) (by omega) HR.out).mono ?_
  rintro e w3 ⟨rfl, hb⟩
  replace M := Lib.hid (Goes.go M.out hb)
  clear hb
  go_wp2_with fail
  refine (in_is (n := rd) (lo := 0) (hi := 1099511627776) (b := false) HI.out _).mono ?_
  rintro e _ ⟨rfl, rfl⟩
  obtain ⟨p0_0, q0_0, p0_1, q0_1, p0_2, q0_2, p0_3, q0_3⟩ := (M.out.2.1).c4
  obtain ⟨p1_0, q1_0, p1_1, q1_1, p1_2, q1_2, p1_3, q1_3⟩ := (M.out.1).c4
  go_wp2_with fail
  clear p0_0 q0_0 p0_1 q0_1 p0_2 q0_2 p0_3 q0_3 p1_0 q1_0 p1_1 q1_1 p1_2 q1_2 p1_3 q1_3
  obtain ⟨w4, hv⟩ : ∃ x, x = ((((w3.setCell ⟨w.heap.size, 0, none⟩ (.int .i64 0)).setCell ⟨w.heap.size, 1, none⟩ (.slice none 0 0)).setCell ⟨w.heap.size, 2, none⟩ (.int .i64 0)).setCell ⟨w.heap.size, 3, none⟩ (.slice none 0 0)) := ⟨_, rfl⟩
  rw [← hv]
  have og : w3.grownBy w4 (some w.heap.size) := by rw [hv]; exact (only_setCell (only_setCell (only_setCell (only_setCell (World.grownBy.refl _ _) _) _) _) _)
  have hz : w.heap.size ≤ w.heap.size := by exact Nat.le_refl _
  have hk : Bx w4 w.heap.size 34 #[.int .i64 0, .slice none 0 0, .int .i64 0, .slice none 0 0] := by rw [hv]; exact (((((M.out.2.1).set 0 _).set 1 _).set 2 _).set 3 _)
  have hbw : Below w.heap.size w w4 := by rw [hv]; exact (Below.setCell (Below.setCell (Below.setCell (Below.setCell (M.out.2.2) (by omega) _) (by omega) _) (by omega) _) (by omega) _)
  replace M := Lib.hid (And.intro ((M.out.1).only og (by omega)) (And.intro hk hbw))
  clear hk hbw og hv hz
  obtain ⟨w5, hv⟩ : ∃ x, x = ((((w4.setCell ⟨w.heap.size + 1, 0, none⟩ (.int .i64 0)).setCell ⟨w.heap.size + 1, 1, none⟩ (.slice none 0 0)).setCell ⟨w.heap.size + 1, 2, none⟩ (.int .i64 0)).setCell ⟨w.heap.size + 1, 3, none⟩ (.slice none 0 0)) := ⟨_, rfl⟩
  rw [← hv]
  have og : w4.grownBy w5 (some (w.heap.size + 1)) := by rw [hv]; exact (only_setCell (only_setCell (only_setCell (only_setCell (World.grownBy.refl _ _) _) _) _) _)
  have hz : w.heap.size ≤ w.heap.size + 1 := by omega
  have hk : Bx w5 (w.heap.size + 1) 34 #[.int .i64 0, .slice none 0 0, .int .i64 0, .slice none 0 0] := by rw [hv]; exact (((((M.out.1).set 0 _).set 1 _).set 2 _).set 3 _)
  have hbw : Below w.heap.size w w5 := by rw [hv]; exact (Below.setCell (Below.setCell (Below.setCell (Below.setCell (M.out.2.2) (by omega) _) (by omega) _) (by omega) _) (by omega) _)
  replace M := Lib.hid (And.intro hk (And.intro ((M.out.2.1).only og (by omega)) hbw))
  clear hk hbw og hv hz
  refine bodyPost_ret (results_box2t rfl _ _ w.heap.size (w.heap.size + 1) 34 34 _ _ _ _ _ _ rfl (M.out.2.1) Try.underlying34 rfl (by kernel_rfl) rfl (M.out.1) Try.underlying34 rfl (by kernel_rfl)) rfl ?_
  exact ⟨rfl, (M.out.2.2)⟩

set_option maxHeartbeats 4000000 in
theorem scInterval_yes {cs : List Ct} {rs : List Rc} {sc rd day : Int} {a1 a2 : Option Addr} {cap1 cap2 : Nat} {w : World} (h1 : CtIn w (.slice a1 cs.length cap1) cs) (h2 : RcIn w (.slice a2 rs.length cap2) rs) (hn1 : cs.length ≤ 1099511627776) (hn2 : rs.length ≤ 1099511627776) {ct : Ct} {g : Nat} {hgl : g < cs.length} (hct : ct = cs[g]) (hf : findC cs sc day = some g) (hr : recalledB rs sc day = false) (hi : inR rd 0 1099511627776 = true) (hG : G ≤ w.heap.size) :
    Calls Try.prog 14 #[.slice a1 cs.length cap1, .slice a2 rs.length cap2, .int .i64 sc, .int .i64 rd, .int .i64 day] w fun e w' => ∃ a c b d a' c' b' d', e = .returned (.tuple #[.agg #[.int .i64 (sg (nu (loQ (errQ ct rd day) rd))), .slice a (ln (nu (loQ (errQ ct rd day) rd))) c, .int .i64 (sg (de (loQ (errQ ct rd day) rd))), .slice b (ln (de (loQ (errQ ct rd day) rd))) d], .agg #[.int .i64 (sg (nu (hiQ (errQ ct rd day) rd))), .slice a' (ln (nu (hiQ (errQ ct rd day) rd))) c', .int .i64 (sg (de (hiQ (errQ ct rd day) rd))), .slice b' (ln (de (hiQ (errQ ct rd day) rd))) d'], .bool true]) ∧ FD G w' a c b d (loQ (errQ ct rd day) rd) ∧ FD G w' a' c' b' d' (hiQ (errQ ct rd day) rd) ∧ Below w.heap.size w w' := by
  obtain ⟨hgl, -, hc⟩ := findC_is hf
  obtain ⟨b, off, rfl, hb, hcell⟩ := h1.at hgl
  obtain ⟨s, f, u, n, p, d⟩ := ct
  rw [← hct] at hc hcell
  have hI2 : (g : Int) < (cs.length : Int) := by omega
  have HC := Lib.hid hc
  have HF := Lib.hid hf
  have HR := Lib.hid hr
  have HI := Lib.hid hi
  clear hf hr hi hc hct
  have hbi := in_bounds HI.out
  have H1 : Hid (CtIn w (.slice (some ⟨b, off, none⟩) cs.length cap1) cs) := h1
  have H2 : Hid (RcIn w (.slice a2 rs.length cap2) rs) := h2
  have HROW : Hid (Row w b (off + g * 6) [.int .i64 s, .int .i64 f, .int .i64 u, .int .i64 n, .int .i64 p, .int .i64 d]) := ⟨hb, hcell⟩
  clear h1 h2 hcell
  have M : Hid (Below w.heap.size w w) := Below.refl _ _
  go_enter Try.func14, Try.ntmps14
  go_upto_region 1 with fail
  obtain ⟨w1, hv⟩ : ∃ x, x = ((w.alloc (.cells #[.int .i64 0, .slice none 0 0, .int .i64 0, .slice none 0 0] 34)).alloc (.cells #[.int .i64 0, .slice none 0 0, .int .i64 0, .slice none 0 0] 34)) := ⟨_, rfl⟩
  rw [← hv]
  have hbx := bx2 w 34 34 #[.int .i64 0, .slice none 0 0, .int .i64 0, .slice none 0 0] #[.int .i64 0, .slice none 0 0, .int .i64 0, .slice none 0 0]
  rw [← hv] at hbx
  have hbn : Below w.heap.size w w1 := by rw [hv]; exact (Below.alloc (Below.alloc (Below.refl _ _) (by simp) _) (by simp) _)
  replace M := Lib.hid (And.intro hbx.2 (And.intro hbx.1 (Goes.go M.out hbn)))
  clear hbx hbn
  clear hv
  go_wp2_with fail
  refine (scFind_some (sc := sc) (day := day) (H1.out.keep (M.out.2.2)) (by omega) HF.out).mono ?_
  rintro e w2 ⟨rfl, hb⟩
  replace M := Lib.hid (Goes.go M.out hb)
  clear hb
  go_wp2_with fail
  refine (scRec_is (sc := sc) (day := day) (b := false) (H2.out.keep (M.out.2.2)) (by omega) HR.out).mono ?_
  rintro e w3 ⟨rfl, hb⟩
  replace M := Lib.hid (Goes.go M.out hb)
  clear hb
  obtain ⟨r0_0, r0_1, r0_2, r0_3, r0_4, r0_5⟩ := (HROW.out.keep (M.out.2.2)).c6
  go_wp2_with fail
  clear r0_0 r0_1 r0_2 r0_3 r0_4 r0_5
  obtain ⟨q5, eq5⟩ : ∃ x : Rat, x = (errQ ⟨s, f, u, n, p, d⟩ rd day) := ⟨_, rfl⟩
  refine (scError_yes (G := G) (s := s) (f := f) (u := u) (n := n) (p := p) (d := d) (rd := rd) (day := day) (Nat.le_trans hG (M.out.2.2).size) HC.out HI.out).mono ?_
  rintro e w4 ⟨a_1, c_2, b_3, d_4, rfl, hd6, hb⟩
  rw [← eq5] at hd6 ⊢
  have Sq5 : Hid (Fz q5 9) := by show Fz q5 9; rw [eq5]; exact (errQ_size HC.out HI.out)
  have Eq5 := Lib.hid eq5; clear eq5
  replace M := Lib.hid (And.intro hd6 (Goes.go M.out hb))
  clear hb hd6
  go_upto_region 5 with fail
  obtain ⟨w5, hv⟩ : ∃ x, x = (w4.alloc (.cells #[.int .i64 (sg (nu q5)), .slice a_1 (ln (nu q5)) c_2, .int .i64 (sg (de q5)), .slice b_3 (ln (de q5)) d_4] 34)) := ⟨_, rfl⟩
  rw [← hv]
  have o2 : w.heap.size + 1 < w4.heap.size := ((M.out.2.1)).lt
  replace M := Lib.hid (And.intro (hv ▸ bx1 w4 34 #[.int .i64 (sg (nu q5)), .slice a_1 (ln (nu q5)) c_2, .int .i64 (sg (de q5)), .slice b_3 (ln (de q5)) d_4]) (Goes.go M.out (hv ▸ below_alloc _ _ : Below w4.heap.size w4 w5)))
  clear hv
  go_wp2_with fail
  obtain ⟨q11, eq11⟩ : ∃ x : Rat, x = (rd : Rat) := ⟨_, rfl⟩
  refine (fracInt_ok (G := G) rd _ (by omega)).mono ?_
  rintro e w6 ⟨a_7, c_8, b_9, d_10, rfl, hd12, hb⟩
  rw [← eq11] at hd12 ⊢
  have Sq11 : Hid (Fz q11 4) := by show Fz q11 4; rw [eq11]; exact (Fz.int64 (by omega))
  have Eq11 := Lib.hid eq11; clear eq11
  replace M := Lib.hid (And.intro hd12 (Goes.go M.out hb))
  clear hb hd12
  go_upto_region 8 with fail
  obtain ⟨w7, hv⟩ : ∃ x, x = (w6.alloc (.cells #[.int .i64 (sg (nu q11)), .slice a_7 (ln (nu q11)) c_8, .int .i64 (sg (de q11)), .slice b_9 (ln (de q11)) d_10] 34)) := ⟨_, rfl⟩
  rw [← hv]
  have o3 : w4.heap.size < w6.heap.size := ((M.out.2.1)).lt
  replace M := Lib.hid (And.intro (hv ▸ bx1 w6 34 #[.int .i64 (sg (nu q11)), .slice a_7 (ln (nu q11)) c_8, .int .i64 (sg (de q11)), .slice b_9 (ln (de q11)) d_10]) (Goes.go M.out (hv ▸ below_alloc _ _ : Below w6.heap.size w6 w7)))
  clear hv
  obtain ⟨p3_0, q3_0, p3_1, q3_1, p3_2, q3_2, p3_3, q3_3⟩ := (M.out.1).c4
  obtain ⟨p2_0, q2_0, p2_1, q2_1, p2_2, q2_2, p2_3, q2_3⟩ := (M.out.2.2.1).c4
  go_wp2_with fail
  clear p3_0 q3_0 p3_1 q3_1 p3_2 q3_2 p3_3 q3_3 p2_0 q2_0 p2_1 q2_1 p2_2 q2_2 p2_3 q2_3
  obtain ⟨q17, eq17⟩ : ∃ x : Rat, x = (q11 - q5) := ⟨_, rfl⟩
  refine (fracSub_ok (G := G) (q := q11) (r := q5) (M.out.2.1) (M.out.2.2.2.1) (Fz.mono Sq11.out (by omega)) (Fz.mono Sq5.out (by omega))).mono ?_
  rintro e w8 ⟨a_13, c_14, b_15, d_16, rfl, hd18, hb⟩
  rw [← eq17] at hd18 ⊢
  have Sq17 : Hid (Fz q17 14) := by show Fz q17 14; rw [eq17]; exact (Fz.sub Sq11.out Sq5.out)
  have Eq17 := Lib.hid eq17; clear eq17
  replace M := Lib.hid (And.intro hd18 (Goes.go M.out hb))
  clear hb hd18
  obtain ⟨p0_0, q0_0, p0_1, q0_1, p0_2, q0_2, p0_3, q0_3⟩ := (M.out.2.2.2.2.2.2.1).c4
  go_upto_region 9 with fail
  clear p0_0 q0_0 p0_1 q0_1 p0_2 q0_2 p0_3 q0_3
  obtain ⟨w9, hv⟩ : ∃ x, x = ((((w8.setCell ⟨w.heap.size, 0, none⟩ (.int .i64 (sg (nu q17)))).setCell ⟨w.heap.size, 1, none⟩ (.slice a_13 (ln (nu q17)) c_14)).setCell ⟨w.heap.size, 2, none⟩ (.int .i64 (sg (de q17)))).setCell ⟨w.heap.size, 3, none⟩ (.slice b_15 (ln (de q17)) d_16)) := ⟨_, rfl⟩
  rw [← hv]
  have og : w8.grownBy w9 (some w.heap.size) := by rw [hv]; exact (only_setCell (only_setCell (only_setCell (only_setCell (World.grownBy.refl _ _) _) _) _) _)
  have hz : w.heap.size ≤ w.heap.size := by exact Nat.le_refl _
  have hk : Bx w9 w.heap.size 34 #[.int .i64 (sg (nu q17)), .slice a_13 (ln (nu q17)) c_14, .int .i64 (sg (de q17)), .slice b_15 (ln (de q17)) d_16] := by rw [hv]; exact (((((M.out.2.2.2.2.2.2.1).set 0 _).set 1 _).set 2 _).set 3 _)
  have hbw : Below w.heap.size w w9 := by rw [hv]; exact (Below.setCell (Below.setCell (Below.setCell (Below.setCell (M.out.2.2.2.2.2.2.2) (by omega) _) (by omega) _) (by omega) _) (by omega) _)
  replace M := Lib.hid (And.intro ((M.out.1).far (M.out.2.2.2.2.2.2.1) (by rfl) (by omega) og) (And.intro ((M.out.2.1).only og (by omega)) (And.intro ((M.out.2.2.1).far (M.out.2.2.2.2.2.2.1) (by rfl) (by omega) og) (And.intro ((M.out.2.2.2.1).only og (by omega)) (And.intro ((M.out.2.2.2.2.1).far (M.out.2.2.2.2.2.2.1) (by rfl) (by omega) og) (And.intro ((M.out.2.2.2.2.2.1).only og (by omega)) (And.intro hk hbw)))))))
  clear hk hbw og hv hz
  obtain ⟨p3_0, q3_0, p3_1, q3_1, p3_2, q3_2, p3_3, q3_3⟩ := (M.out.2.1).c4
  obtain ⟨p2_0, q2_0, p2_1, q2_1, p2_2, q2_2, p2_3, q2_3⟩ := (M.out.2.2.2.1).c4
  go_wp2_with fail
  clear p3_0 q3_0 p3_1 q3_1 p3_2 q3_2 p3_3 q3_3 p2_0 q2_0 p2_1 q2_1 p2_2 q2_2 p2_3 q2_3
  obtain ⟨q23, eq23⟩ : ∃ x : Rat, x = (q11 + q5) := ⟨_, rfl⟩
  refine (fracAdd_ok (G := G) (q := q11) (r := q5) (M.out.2.2.1) (M.out.2.2.2.2.1) (Fz.mono Sq11.out (by omega)) (Fz.mono Sq5.out (by omega))).mono ?_
  rintro e w10 ⟨a_19, c_20, b_21, d_22, rfl, hd24, hb⟩
  rw [← eq23] at hd24 ⊢
  have Sq23 : Hid (Fz q23 14) := by show Fz q23 14; rw [eq23]; exact (Fz.add Sq11.out Sq5.out)
  have Eq23 := Lib.hid eq23; clear eq23
  replace M := Lib.hid (And.intro hd24 (Goes.go M.out hb))
  clear hb hd24
  obtain ⟨p1_0, q1_0, p1_1, q1_1, p1_2, q1_2, p1_3, q1_3⟩ := (M.out.2.2.2.2.2.2.1).c4
  go_upto_region 10 with fail
  clear p1_0 q1_0 p1_1 q1_1 p1_2 q1_2 p1_3 q1_3
  obtain ⟨w11, hv⟩ : ∃ x, x = ((((w10.setCell ⟨w.heap.size + 1, 0, none⟩ (.int .i64 (sg (nu q23)))).setCell ⟨w.heap.size + 1, 1, none⟩ (.slice a_19 (ln (nu q23)) c_20)).setCell ⟨w.heap.size + 1, 2, none⟩ (.int .i64 (sg (de q23)))).setCell ⟨w.heap.size + 1, 3, none⟩ (.slice b_21 (ln (de q23)) d_22)) := ⟨_, rfl⟩
  rw [← hv]
  have og : w10.grownBy w11 (some (w.heap.size + 1)) := by rw [hv]; exact (only_setCell (only_setCell (only_setCell (only_setCell (World.grownBy.refl _ _) _) _) _) _)
  have hz : w.heap.size ≤ w.heap.size + 1 := by omega
  have hk : Bx w11 (w.heap.size + 1) 34 #[.int .i64 (sg (nu q23)), .slice a_19 (ln (nu q23)) c_20, .int .i64 (sg (de q23)), .slice b_21 (ln (de q23)) d_22] := by rw [hv]; exact (((((M.out.2.2.2.2.2.2.1).set 0 _).set 1 _).set 2 _).set 3 _)
  have hbw : Below w.heap.size w w11 := by rw [hv]; exact (Below.setCell (Below.setCell (Below.setCell (Below.setCell (M.out.2.2.2.2.2.2.2.2) (by omega) _) (by omega) _) (by omega) _) (by omega) _)
  replace M := Lib.hid (And.intro ((M.out.1).far (M.out.2.2.2.2.2.2.1) (by rfl) (by omega) og) (And.intro ((M.out.2.1).far (M.out.2.2.2.2.2.2.1) (by rfl) (by omega) og) (And.intro ((M.out.2.2.1).only og (by omega)) (And.intro ((M.out.2.2.2.1).far (M.out.2.2.2.2.2.2.1) (by rfl) (by omega) og) (And.intro ((M.out.2.2.2.2.1).only og (by omega)) (And.intro ((M.out.2.2.2.2.2.1).far (M.out.2.2.2.2.2.2.1) (by rfl) (by omega) og) (And.intro hk (And.intro ((M.out.2.2.2.2.2.2.2.1).only og (by omega)) hbw))))))))
  clear hk hbw og hv hz
  go_cut [] (fun wx => ∃ (a_25 : Option Addr), ∃ (c_26 : Nat), ∃ (b_27 : Option Addr), ∃ (d_28 : Nat), ∃ (q29 : Rat), ∃ (a_31 : Option Addr), ∃ (c_32 : Nat), ∃ (b_33 : Option Addr), ∃ (d_34 : Nat), ∃ (q35 : Rat), Hid (q29 = ((0 : Int) : Rat)) ∧ Hid (q35 = (pick q17 q29 (1))) ∧ Hid (Fz q29 4) ∧ Hid (FD G wx a_31 c_32 b_33 d_34 q35 ∧ FD G wx a_25 c_26 b_27 d_28 q29 ∧ FD G wx a_19 c_20 b_21 d_22 q23 ∧ FD G wx a_13 c_14 b_15 d_16 q17 ∧ FD G wx a_7 c_8 b_9 d_10 q11 ∧ FD G wx a_1 c_2 b_3 d_4 q5 ∧ Bx wx w.heap.size 34 #[.int .i64 (sg (nu q35)), .slice a_31 (ln (nu q35)) c_32, .int .i64 (sg (de q35)), .slice b_33 (ln (de q35)) d_34] ∧ Bx wx (w.heap.size + 1) 34 #[.int .i64 (sg (nu q23)), .slice a_19 (ln (nu q23)) c_20, .int .i64 (sg (de q23)), .slice b_21 (ln (de q23)) d_22] ∧ Bx wx w4.heap.size 34 #[.int .i64 (sg (nu q5)), .slice a_1 (ln (nu q5)) c_2, .int .i64 (sg (de q5)), .slice b_3 (ln (de q5)) d_4] ∧ Bx wx w6.heap.size 34 #[.int .i64 (sg (nu q11)), .slice a_7 (ln (nu q11)) c_8, .int .i64 (sg (de q11)), .slice b_9 (ln (de q11)) d_10] ∧ Below w.heap.size w wx))
  case first =>
    obtain ⟨w12, hv⟩ : ∃ x, x = w11.drew := ⟨_, rfl⟩
    replace M := Lib.hid (Goes.go M.out (hv ▸ below_drew _ : Below w11.heap.size w11 w12))
    refine wp_region_held_drew (S := (fun _ => True)) (by kernel_rfl) trivial (fun hH37 => ?_)
    rw [← hv]
    clear hv
    refine wpAnyH_ready (rs := [0, 1]) (by kernel_rfl) (by simp) ?_
    refine AllReadyH.cons at0 (fun K hK => ?_) ?_
    ·
      obtain ⟨p0_0, q0_0, p0_1, q0_1, p0_2, q0_2, p0_3, q0_3⟩ := (M.out.2.2.2.2.2.2.2.1).c4
      go_simp
      clear p0_0 q0_0 p0_1 q0_1 p0_2 q0_2 p0_3 q0_3
      refine hK.out _ _ (trivial) (fun hH38 => ?_)
      clear hK K hH37
      (try simp only [Act.put, List.setIfInBounds_toArray, List.set_cons_zero, List.set_cons_succ])
      refine wpAnyH_ready (rs := [1]) (by kernel_rfl) (by simp) ?_
      refine AllReadyH.cons at1 (fun K hK => ?_) AllReadyH.nil
      go_simp
      obtain ⟨q43, eq43⟩ : ∃ x : Rat, x = ((0 : Int) : Rat) := ⟨_, rfl⟩
      refine (fracInt_ok (G := G) 0 _ (by omega)).mono ?_
      rintro e w13 ⟨a_39, c_40, b_41, d_42, rfl, hd44, hb⟩
      rw [← eq43] at hd44 ⊢
      have Sq43 : Hid (Fz q43 4) := by show Fz q43 4; rw [eq43]; exact (Fz.int64 (by omega))
      have Eq43 := Lib.hid eq43; clear eq43
      replace M := Lib.hid (And.intro hd44 (Goes.go M.out hb))
      clear hb hd44
      (try go_wp2_with fail)
      refine hK.out _ _ (trivial) (fun hH45 => ?_)
      clear hK K hH38
      (try simp only [Act.put, List.setIfInBounds_toArray, List.set_cons_zero, List.set_cons_succ])
      refine wpAnyH_ready (rs := [2]) (by kernel_rfl) (by simp) ?_
      refine AllReadyH.cons at2 (fun K hK => ?_) AllReadyH.nil
      go_simp
      obtain ⟨q50, eq50⟩ : ∃ x : Rat, x = (pick q17 q43 (1)) := ⟨_, rfl⟩
      refine (fracMax_ok (G := G) (q := q17) (r := q43) (M.out.2.2.1) (M.out.1) (Fz.mono Sq17.out (by omega)) (Fz.mono Sq43.out (by omega))).mono ?_
      rintro e w14 ⟨a_46, c_47, b_48, d_49, rfl, hd51, hb⟩
      rw [← eq50] at hd51 ⊢
      have Eq50 := Lib.hid eq50; clear eq50
      replace M := Lib.hid (And.intro hd51 (Goes.go M.out hb))
      clear hb hd51
      (try go_wp2_with fail)
      refine hK.out _ _ (trivial) (fun hH52 => ?_)
      clear hK K hH45
      (try simp only [Act.put, List.setIfInBounds_toArray, List.set_cons_zero, List.set_cons_succ])
      refine tk at3 ?_
      refine tk at4 ?_
      refine tk at5 ?_
      refine wpAnyH_ready (rs := [6]) (by kernel_rfl) (by simp) ?_
      refine AllReadyH.cons at6 (fun K hK => ?_) AllReadyH.nil
      obtain ⟨p0_0, q0_0, p0_1, q0_1, p0_2, q0_2, p0_3, q0_3⟩ := (M.out.2.2.2.2.2.2.2.2.2.1).c4
      go_simp
      clear p0_0 q0_0 p0_1 q0_1 p0_2 q0_2 p0_3 q0_3
      obtain ⟨w15, hv⟩ : ∃ x, x = ((((w14.setCell ⟨w.heap.size, 0, none⟩ (.int .i64 (sg (nu q50)))).setCell ⟨w.heap.size, 1, none⟩ (.slice a_46 (ln (nu q50)) c_47)).setCell ⟨w.heap.size, 2, none⟩ (.int .i64 (sg (de q50)))).setCell ⟨w.heap.size, 3, none⟩ (.slice b_48 (ln (de q50)) d_49)) := ⟨_, rfl⟩
      rw [← hv]
      have og : w14.grownBy w15 (some w.heap.size) := by rw [hv]; exact (only_setCell (only_setCell (only_setCell (only_setCell (World.grownBy.refl _ _) _) _) _) _)
      have hz : w.heap.size ≤ w.heap.size := by exact Nat.le_refl _
      have hk : Bx w15 w.heap.size 34 #[.int .i64 (sg (nu q50)), .slice a_46 (ln (nu q50)) c_47, .int .i64 (sg (de q50)), .slice b_48 (ln (de q50)) d_49] := by rw [hv]; exact (((((M.out.2.2.2.2.2.2.2.2.2.1).set 0 _).set 1 _).set 2 _).set 3 _)
      have hbw : Below w.heap.size w w15 := by rw [hv]; exact (Below.setCell (Below.setCell (Below.setCell (Below.setCell (M.out.2.2.2.2.2.2.2.2.2.2) (by omega) _) (by omega) _) (by omega) _) (by omega) _)
      replace M := Lib.hid (And.intro ((M.out.1).far (M.out.2.2.2.2.2.2.2.2.2.1) (by rfl) (by omega) og) (And.intro ((M.out.2.1).far (M.out.2.2.2.2.2.2.2.2.2.1) (by rfl) (by omega) og) (And.intro ((M.out.2.2.1).far (M.out.2.2.2.2.2.2.2.2.2.1) (by rfl) (by omega) og) (And.intro ((M.out.2.2.2.1).far (M.out.2.2.2.2.2.2.2.2.2.1) (by rfl) (by omega) og) (And.intro ((M.out.2.2.2.2.1).only og (by omega)) (And.intro ((M.out.2.2.2.2.2.1).far (M.out.2.2.2.2.2.2.2.2.2.1) (by rfl) (by omega) og) (And.intro ((M.out.2.2.2.2.2.2.1).only og (by omega)) (And.intro ((M.out.2.2.2.2.2.2.2.1).far (M.out.2.2.2.2.2.2.2.2.2.1) (by rfl) (by omega) og) (And.intro ((M.out.2.2.2.2.2.2.2.2.1).only og (by omega)) (And.intro hk hbw))))))))))
      clear hk hbw og hv hz
      refine hK.out _ _ (trivial) (fun hH53 => ?_)
      clear hK K hH52
      (try simp only [Act.put, List.setIfInBounds_toArray, List.set_cons_zero, List.set_cons_succ])
      refine wpAnyH_done (by kernel_rfl) ?_ _
      clear hH53
      go_wp2_with fail
      go_meet
      exact ⟨a_39, c_40, b_41, d_42, q43, a_46, c_47, b_48, d_49, q50, Eq43, Eq50, Sq43, (M.out.1), (M.out.2.1), (M.out.2.2.1), (M.out.2.2.2.1), (M.out.2.2.2.2.2.1), (M.out.2.2.2.2.2.2.2.1), (M.out.2.2.2.2.2.2.2.2.2.1), (M.out.2.2.2.2.2.2.2.2.1), (M.out.2.2.2.2.2.2.1), (M.out.2.2.2.2.1), (M.out.2.2.2.2.2.2.2.2.2.2)⟩
    refine AllReadyH.cons at1 (fun K hK => ?_) AllReadyH.nil
    go_simp
    obtain ⟨q58, eq58⟩ : ∃ x : Rat, x = ((0 : Int) : Rat) := ⟨_, rfl⟩
    refine (fracInt_ok (G := G) 0 _ (by omega)).mono ?_
    rintro e w13 ⟨a_54, c_55, b_56, d_57, rfl, hd59, hb⟩
    rw [← eq58] at hd59 ⊢
    have Sq58 : Hid (Fz q58 4) := by show Fz q58 4; rw [eq58]; exact (Fz.int64 (by omega))
    have Eq58 := Lib.hid eq58; clear eq58
    replace M := Lib.hid (And.intro hd59 (Goes.go M.out hb))
    clear hb hd59
    (try go_wp2_with fail)
    refine hK.out _ _ (trivial) (fun hH60 => ?_)
    clear hK K hH37
    (try simp only [Act.put, List.setIfInBounds_toArray, List.set_cons_zero, List.set_cons_succ])
    refine wpAnyH_ready (rs := [0]) (by kernel_rfl) (by simp) ?_
    refine AllReadyH.cons at0 (fun K hK => ?_) AllReadyH.nil
    obtain ⟨p0_0, q0_0, p0_1, q0_1, p0_2, q0_2, p0_3, q0_3⟩ := (M.out.2.2.2.2.2.2.2.2.1).c4
    go_simp
    clear p0_0 q0_0 p0_1 q0_1 p0_2 q0_2 p0_3 q0_3
    refine hK.out _ _ (trivial) (fun hH61 => ?_)
    clear hK K hH60
    (try simp only [Act.put, List.setIfInBounds_toArray, List.set_cons_zero, List.set_cons_succ])
    refine wpAnyH_ready (rs := [2]) (by kernel_rfl) (by simp) ?_
    refine AllReadyH.cons at2 (fun K hK => ?_) AllReadyH.nil
    go_simp
    obtain ⟨q66, eq66⟩ : ∃ x : Rat, x = (pick q17 q58 (1)) := ⟨_, rfl⟩
    refine (fracMax_ok (G := G) (q := q17) (r := q58) (M.out.2.2.1) (M.out.1) (Fz.mono Sq17.out (by omega)) (Fz.mono Sq58.out (by omega))).mono ?_
    rintro e w14 ⟨a_62, c_63, b_64, d_65, rfl, hd67, hb⟩
    rw [← eq66] at hd67 ⊢
    have Eq66 := Lib.hid eq66; clear eq66
    replace M := Lib.hid (And.intro hd67 (Goes.go M.out hb))
    clear hb hd67
    (try go_wp2_with fail)
    refine hK.out _ _ (trivial) (fun hH68 => ?_)
    clear hK K hH61
    (try simp only [Act.put, List.setIfInBounds_toArray, List.set_cons_zero, List.set_cons_succ])
    refine tk at3 ?_
    refine tk at4 ?_
    refine tk at5 ?_
    refine wpAnyH_ready (rs := [6]) (by kernel_rfl) (by simp) ?_
    refine AllReadyH.cons at6 (fun K hK => ?_) AllReadyH.nil
    obtain ⟨p0_0, q0_0, p0_1, q0_1, p0_2, q0_2, p0_3, q0_3⟩ := (M.out.2.2.2.2.2.2.2.2.2.1).c4
    go_simp
    clear p0_0 q0_0 p0_1 q0_1 p0_2 q0_2 p0_3 q0_3
    obtain ⟨w15, hv⟩ : ∃ x, x = ((((w14.setCell ⟨w.heap.size, 0, none⟩ (.int .i64 (sg (nu q66)))).setCell ⟨w.heap.size, 1, none⟩ (.slice a_62 (ln (nu q66)) c_63)).setCell ⟨w.heap.size, 2, none⟩ (.int .i64 (sg (de q66)))).setCell ⟨w.heap.size, 3, none⟩ (.slice b_64 (ln (de q66)) d_65)) := ⟨_, rfl⟩
    rw [← hv]
    have og : w14.grownBy w15 (some w.heap.size) := by rw [hv]; exact (only_setCell (only_setCell (only_setCell (only_setCell (World.grownBy.refl _ _) _) _) _) _)
    have hz : w.heap.size ≤ w.heap.size := by exact Nat.le_refl _
    have hk : Bx w15 w.heap.size 34 #[.int .i64 (sg (nu q66)), .slice a_62 (ln (nu q66)) c_63, .int .i64 (sg (de q66)), .slice b_64 (ln (de q66)) d_65] := by rw [hv]; exact (((((M.out.2.2.2.2.2.2.2.2.2.1).set 0 _).set 1 _).set 2 _).set 3 _)
    have hbw : Below w.heap.size w w15 := by rw [hv]; exact (Below.setCell (Below.setCell (Below.setCell (Below.setCell (M.out.2.2.2.2.2.2.2.2.2.2) (by omega) _) (by omega) _) (by omega) _) (by omega) _)
    replace M := Lib.hid (And.intro ((M.out.1).far (M.out.2.2.2.2.2.2.2.2.2.1) (by rfl) (by omega) og) (And.intro ((M.out.2.1).far (M.out.2.2.2.2.2.2.2.2.2.1) (by rfl) (by omega) og) (And.intro ((M.out.2.2.1).far (M.out.2.2.2.2.2.2.2.2.2.1) (by rfl) (by omega) og) (And.intro ((M.out.2.2.2.1).far (M.out.2.2.2.2.2.2.2.2.2.1) (by rfl) (by omega) og) (And.intro ((M.out.2.2.2.2.1).only og (by omega)) (And.intro ((M.out.2.2.2.2.2.1).far (M.out.2.2.2.2.2.2.2.2.2.1) (by rfl) (by omega) og) (And.intro ((M.out.2.2.2.2.2.2.1).only og (by omega)) (And.intro ((M.out.2.2.2.2.2.2.2.1).far (M.out.2.2.2.2.2.2.2.2.2.1) (by rfl) (by omega) og) (And.intro ((M.out.2.2.2.2.2.2.2.2.1).only og (by omega)) (And.intro hk hbw))))))))))
    clear hk hbw og hv hz
    refine hK.out _ _ (trivial) (fun hH69 => ?_)
    clear hK K hH68
    (try simp only [Act.put, List.setIfInBounds_toArray, List.set_cons_zero, List.set_cons_succ])
    refine wpAnyH_done (by kernel_rfl) ?_ _
    clear hH69
    go_wp2_with fail
    go_meet
    exact ⟨a_54, c_55, b_56, d_57, q58, a_62, c_63, b_64, d_65, q66, Eq58, Eq66, Sq58, (M.out.1), (M.out.2.1), (M.out.2.2.1), (M.out.2.2.2.1), (M.out.2.2.2.2.2.1), (M.out.2.2.2.2.2.2.2.1), (M.out.2.2.2.2.2.2.2.2.2.1), (M.out.2.2.2.2.2.2.2.2.1), (M.out.2.2.2.2.2.2.1), (M.out.2.2.2.2.1), (M.out.2.2.2.2.2.2.2.2.2.2)⟩
  case rest =>
    obtain ⟨a_25, c_26, b_27, d_28, q29, a_31, c_32, b_33, d_34, q35, Eq29, Eq35, Sq29, M⟩ := hcut
    obtain ⟨w12, rfl⟩ : ∃ x, x = wc := ⟨_, rfl⟩
    go_wp2_with fail
    obtain ⟨w13, hv⟩ : ∃ x, x = w12.drew := ⟨_, rfl⟩
    replace M := Lib.hid (Goes.go M.out (hv ▸ below_drew _ : Below w12.heap.size w12 w13))
    refine wp_region_held_drew (S := (fun _ => True)) (by kernel_rfl) trivial (fun hH70 => ?_)
    rw [← hv]
    clear hv
    refine wpAnyH_ready (rs := [0, 1]) (by kernel_rfl) (by simp) ?_
    refine AllReadyH.cons at0 (fun K hK => ?_) ?_
    ·
      obtain ⟨p0_0, q0_0, p0_1, q0_1, p0_2, q0_2, p0_3, q0_3⟩ := (M.out.2.2.2.2.2.2.1).c4
      go_simp
      clear p0_0 q0_0 p0_1 q0_1 p0_2 q0_2 p0_3 q0_3
      refine hK.out _ _ (trivial) (fun hH71 => ?_)
      clear hK K hH70
      (try simp only [Act.put, List.setIfInBounds_toArray, List.set_cons_zero, List.set_cons_succ])
      refine wpAnyH_ready (rs := [1, 2]) (by kernel_rfl) (by simp) ?_
      refine AllReadyH.cons at1 (fun K hK => ?_) ?_
      ·
        obtain ⟨p1_0, q1_0, p1_1, q1_1, p1_2, q1_2, p1_3, q1_3⟩ := (M.out.2.2.2.2.2.2.2.1).c4
        go_simp
        clear p1_0 q1_0 p1_1 q1_1 p1_2 q1_2 p1_3 q1_3
        refine hK.out _ _ (trivial) (fun hH72 => ?_)
        clear hK K hH71
        (try simp only [Act.put, List.setIfInBounds_toArray, List.set_cons_zero, List.set_cons_succ])
        refine wpAnyH_ready (rs := [2]) (by kernel_rfl) (by simp) ?_
        refine AllReadyH.cons at2 (fun K hK => ?_) AllReadyH.nil
        obtain ⟨p0_0, q0_0, p0_1, q0_1, p0_2, q0_2, p0_3, q0_3⟩ := (M.out.2.2.2.2.2.2.1).c4
        go_simp
        clear p0_0 q0_0 p0_1 q0_1 p0_2 q0_2 p0_3 q0_3
        obtain ⟨w14, hv⟩ : ∃ x, x = ((((w13.setCell ⟨w.heap.size, 0, none⟩ (.int .i64 (sg (nu q35)))).setCell ⟨w.heap.size, 1, none⟩ (.slice a_31 (ln (nu q35)) c_32)).setCell ⟨w.heap.size, 2, none⟩ (.int .i64 (sg (de q35)))).setCell ⟨w.heap.size, 3, none⟩ (.slice b_33 (ln (de q35)) d_34)) := ⟨_, rfl⟩
        rw [← hv]
        have og : w13.grownBy w14 (some w.heap.size) := by rw [hv]; exact (only_setCell (only_setCell (only_setCell (only_setCell (World.grownBy.refl _ _) _) _) _) _)
        have hz : w.heap.size ≤ w.heap.size := by exact Nat.le_refl _
        have hk : Bx w14 w.heap.size 34 #[.int .i64 (sg (nu q35)), .slice a_31 (ln (nu q35)) c_32, .int .i64 (sg (de q35)), .slice b_33 (ln (de q35)) d_34] := by rw [hv]; exact (((((M.out.2.2.2.2.2.2.1).set 0 _).set 1 _).set 2 _).set 3 _)
        have hbw : Below w.heap.size w w14 := by rw [hv]; exact (Below.setCell (Below.setCell (Below.setCell (Below.setCell (M.out.2.2.2.2.2.2.2.2.2.2) (by omega) _) (by omega) _) (by omega) _) (by omega) _)
        replace M := Lib.hid (And.intro ((M.out.1).far (M.out.2.2.2.2.2.2.1) (by rfl) (by omega) og) (And.intro ((M.out.2.1).far (M.out.2.2.2.2.2.2.1) (by rfl) (by omega) og) (And.intro ((M.out.2.2.1).far (M.out.2.2.2.2.2.2.1) (by rfl) (by omega) og) (And.intro ((M.out.2.2.2.1).far (M.out.2.2.2.2.2.2.1) (by rfl) (by omega) og) (And.intro ((M.out.2.2.2.2.1).far (M.out.2.2.2.2.2.2.1) (by rfl) (by omega) og) (And.intro ((M.out.2.2.2.2.2.1).far (M.out.2.2.2.2.2.2.1) (by rfl) (by omega) og) (And.intro hk (And.intro ((M.out.2.2.2.2.2.2.2.1).only og (by omega)) (And.intro ((M.out.2.2.2.2.2.2.2.2.1).only og (by omega)) (And.intro ((M.out.2.2.2.2.2.2.2.2.2.1).only og (by omega)) hbw))))))))))
        clear hk hbw og hv hz
        refine hK.out _ _ (trivial) (fun hH73 => ?_)
        clear hK K hH72
        (try simp only [Act.put, List.setIfInBounds_toArray, List.set_cons_zero, List.set_cons_succ])
        refine wpAnyH_ready (rs := [3]) (by kernel_rfl) (by simp) ?_
        refine AllReadyH.cons at3 (fun K hK => ?_) AllReadyH.nil
        obtain ⟨p1_0, q1_0, p1_1, q1_1, p1_2, q1_2, p1_3, q1_3⟩ := (M.out.2.2.2.2.2.2.2.1).c4
        go_simp
        clear p1_0 q1_0 p1_1 q1_1 p1_2 q1_2 p1_3 q1_3
        obtain ⟨w15, hv⟩ : ∃ x, x = ((((w14.setCell ⟨w.heap.size + 1, 0, none⟩ (.int .i64 (sg (nu q23)))).setCell ⟨w.heap.size + 1, 1, none⟩ (.slice a_19 (ln (nu q23)) c_20)).setCell ⟨w.heap.size + 1, 2, none⟩ (.int .i64 (sg (de q23)))).setCell ⟨w.heap.size + 1, 3, none⟩ (.slice b_21 (ln (de q23)) d_22)) := ⟨_, rfl⟩
        rw [← hv]
        have og : w14.grownBy w15 (some (w.heap.size + 1)) := by rw [hv]; exact (only_setCell (only_setCell (only_setCell (only_setCell (World.grownBy.refl _ _) _) _) _) _)
        have hz : w.heap.size ≤ w.heap.size + 1 := by omega
        have hk : Bx w15 (w.heap.size + 1) 34 #[.int .i64 (sg (nu q23)), .slice a_19 (ln (nu q23)) c_20, .int .i64 (sg (de q23)), .slice b_21 (ln (de q23)) d_22] := by rw [hv]; exact (((((M.out.2.2.2.2.2.2.2.1).set 0 _).set 1 _).set 2 _).set 3 _)
        have hbw : Below w.heap.size w w15 := by rw [hv]; exact (Below.setCell (Below.setCell (Below.setCell (Below.setCell (M.out.2.2.2.2.2.2.2.2.2.2) (by omega) _) (by omega) _) (by omega) _) (by omega) _)
        replace M := Lib.hid (And.intro ((M.out.1).far (M.out.2.2.2.2.2.2.2.1) (by rfl) (by omega) og) (And.intro ((M.out.2.1).far (M.out.2.2.2.2.2.2.2.1) (by rfl) (by omega) og) (And.intro ((M.out.2.2.1).far (M.out.2.2.2.2.2.2.2.1) (by rfl) (by omega) og) (And.intro ((M.out.2.2.2.1).far (M.out.2.2.2.2.2.2.2.1) (by rfl) (by omega) og) (And.intro ((M.out.2.2.2.2.1).far (M.out.2.2.2.2.2.2.2.1) (by rfl) (by omega) og) (And.intro ((M.out.2.2.2.2.2.1).far (M.out.2.2.2.2.2.2.2.1) (by rfl) (by omega) og) (And.intro ((M.out.2.2.2.2.2.2.1).only og (by omega)) (And.intro hk (And.intro ((M.out.2.2.2.2.2.2.2.2.1).only og (by omega)) (And.intro ((M.out.2.2.2.2.2.2.2.2.2.1).only og (by omega)) hbw))))))))))
        clear hk hbw og hv hz
        refine hK.out _ _ (trivial) (fun hH74 => ?_)
        clear hK K hH73
        (try simp only [Act.put, List.setIfInBounds_toArray, List.set_cons_zero, List.set_cons_succ])
        refine tk at4 ?_
        refine wpAnyH_done (by kernel_rfl) ?_ _
        clear hH74
        go_wp2_with fail
        have HL : loQ (errQ ⟨s, f, u, n, p, d⟩ rd day) rd = q35 := by rw [Eq35.out, Eq17.out, Eq29.out, Eq11.out, Eq5.out]; rfl
        have HH : hiQ (errQ ⟨s, f, u, n, p, d⟩ rd day) rd = q23 := by rw [Eq23.out, Eq11.out, Eq5.out]; rfl
        rw [HL, HH]
        refine bodyPost_ret (results_box2t rfl _ _ w.heap.size (w.heap.size + 1) 34 34 _ _ _ _ _ _ rfl (M.out.2.2.2.2.2.2.1) Try.underlying34 rfl (by kernel_rfl) rfl (M.out.2.2.2.2.2.2.2.1) Try.underlying34 rfl (by kernel_rfl)) rfl ?_
        exact ⟨_, _, _, _, _, _, _, _, rfl, (M.out.1), (M.out.2.2.1), (M.out.2.2.2.2.2.2.2.2.2.2)⟩
      refine AllReadyH.cons at2 (fun K hK => ?_) AllReadyH.nil
      obtain ⟨p0_0, q0_0, p0_1, q0_1, p0_2, q0_2, p0_3, q0_3⟩ := (M.out.2.2.2.2.2.2.1).c4
      go_simp
      clear p0_0 q0_0 p0_1 q0_1 p0_2 q0_2 p0_3 q0_3
      obtain ⟨w14, hv⟩ : ∃ x, x = ((((w13.setCell ⟨w.heap.size, 0, none⟩ (.int .i64 (sg (nu q35)))).setCell ⟨w.heap.size, 1, none⟩ (.slice a_31 (ln (nu q35)) c_32)).setCell ⟨w.heap.size, 2, none⟩ (.int .i64 (sg (de q35)))).setCell ⟨w.heap.size, 3, none⟩ (.slice b_33 (ln (de q35)) d_34)) := ⟨_, rfl⟩
      rw [← hv]
      have og : w13.grownBy w14 (some w.heap.size) := by rw [hv]; exact (only_setCell (only_setCell (only_setCell (only_setCell (World.grownBy.refl _ _) _) _) _) _)
      have hz : w.heap.size ≤ w.heap.size := by exact Nat.le_refl _
      have hk : Bx w14 w.heap.size 34 #[.int .i64 (sg (nu q35)), .slice a_31 (ln (nu q35)) c_32, .int .i64 (sg (de q35)), .slice b_33 (ln (de q35)) d_34] := by rw [hv]; exact (((((M.out.2.2.2.2.2.2.1).set 0 _).set 1 _).set 2 _).set 3 _)
      have hbw : Below w.heap.size w w14 := by rw [hv]; exact (Below.setCell (Below.setCell (Below.setCell (Below.setCell (M.out.2.2.2.2.2.2.2.2.2.2) (by omega) _) (by omega) _) (by omega) _) (by omega) _)
      replace M := Lib.hid (And.intro ((M.out.1).far (M.out.2.2.2.2.2.2.1) (by rfl) (by omega) og) (And.intro ((M.out.2.1).far (M.out.2.2.2.2.2.2.1) (by rfl) (by omega) og) (And.intro ((M.out.2.2.1).far (M.out.2.2.2.2.2.2.1) (by rfl) (by omega) og) (And.intro ((M.out.2.2.2.1).far (M.out.2.2.2.2.2.2.1) (by rfl) (by omega) og) (And.intro ((M.out.2.2.2.2.1).far (M.out.2.2.2.2.2.2.1) (by rfl) (by omega) og) (And.intro ((M.out.2.2.2.2.2.1).far (M.out.2.2.2.2.2.2.1) (by rfl) (by omega) og) (And.intro hk (And.intro ((M.out.2.2.2.2.2.2.2.1).only og (by omega)) (And.intro ((M.out.2.2.2.2.2.2.2.2.1).only og (by omega)) (And.intro ((M.out.2.2.2.2.2.2.2.2.2.1).only og (by omega)) hbw))))))))))
      clear hk hbw og hv hz
      refine hK.out _ _ (trivial) (fun hH75 => ?_)
      clear hK K hH71
      (try simp only [Act.put, List.setIfInBounds_toArray, List.set_cons_zero, List.set_cons_succ])
      refine wpAnyH_ready (rs := [1]) (by kernel_rfl) (by simp) ?_
      refine AllReadyH.cons at1 (fun K hK => ?_) AllReadyH.nil
      obtain ⟨p1_0, q1_0, p1_1, q1_1, p1_2, q1_2, p1_3, q1_3⟩ := (M.out.2.2.2.2.2.2.2.1).c4
      go_simp
      clear p1_0 q1_0 p1_1 q1_1 p1_2 q1_2 p1_3 q1_3
      refine hK.out _ _ (trivial) (fun hH76 => ?_)
      clear hK K hH75
      (try simp only [Act.put, List.setIfInBounds_toArray, List.set_cons_zero, List.set_cons_succ])
      refine wpAnyH_ready (rs := [3]) (by kernel_rfl) (by simp) ?_
      refine AllReadyH.cons at3 (fun K hK => ?_) AllReadyH.nil
      obtain ⟨p1_0, q1_0, p1_1, q1_1, p1_2, q1_2, p1_3, q1_3⟩ := (M.out.2.2.2.2.2.2.2.1).c4
      go_simp
      clear p1_0 q1_0 p1_1 q1_1 p1_2 q1_2 p1_3 q1_3
      obtain ⟨w15, hv⟩ : ∃ x, x = ((((w14.setCell ⟨w.heap.size + 1, 0, none⟩ (.int .i64 (sg (nu q23)))).setCell ⟨w.heap.size + 1, 1, none⟩ (.slice a_19 (ln (nu q23)) c_20)).setCell ⟨w.heap.size + 1, 2, none⟩ (.int .i64 (sg (de q23)))).setCell ⟨w.heap.size + 1, 3, none⟩ (.slice b_21 (ln (de q23)) d_22)) := ⟨_, rfl⟩
      rw [← hv]
      have og : w14.grownBy w15 (some (w.heap.size + 1)) := by rw [hv]; exact (only_setCell (only_setCell (only_setCell (only_setCell (World.grownBy.refl _ _) _) _) _) _)
      have hz : w.heap.size ≤ w.heap.size + 1 := by omega
      have hk : Bx w15 (w.heap.size + 1) 34 #[.int .i64 (sg (nu q23)), .slice a_19 (ln (nu q23)) c_20, .int .i64 (sg (de q23)), .slice b_21 (ln (de q23)) d_22] := by rw [hv]; exact (((((M.out.2.2.2.2.2.2.2.1).set 0 _).set 1 _).set 2 _).set 3 _)
      have hbw : Below w.heap.size w w15 := by rw [hv]; exact (Below.setCell (Below.setCell (Below.setCell (Below.setCell (M.out.2.2.2.2.2.2.2.2.2.2) (by omega) _) (by omega) _) (by omega) _) (by omega) _)
      replace M := Lib.hid (And.intro ((M.out.1).far (M.out.2.2.2.2.2.2.2.1) (by rfl) (by omega) og) (And.intro ((M.out.2.1).far (M.out.2.2.2.2.2.2.2.1) (by rfl) (by omega) og) (And.intro ((M.out.2.2.1).far (M.out.2.2.2.2.2.2.2.1) (by rfl) (by omega) og) (And.intro ((M.out.2.2.2.1).far (M.out.2.2.2.2.2.2.2.1) (by rfl) (by omega) og) (And.intro ((M.out.2.2.2.2.1).far (M.out.2.2.2.2.2.2.2.1) (by rfl) (by omega) og) (And.intro ((M.out.2.2.2.2.2.1).far (M.out.2.2.2.2.2.2.2.1) (by rfl) (by omega) og) (And.intro ((M.out.2.2.2.2.2.2.1).only og (by omega)) (And.intro hk (And.intro ((M.out.2.2.2.2.2.2.2.2.1).only og (by omega)) (And.intro ((M.out.2.2.2.2.2.2.2.2.2.1).only og (by omega)) hbw))))))))))
      clear hk hbw og hv hz
      refine hK.out _ _ (trivial) (fun hH77 => ?_)
      clear hK K hH76
      (try simp only [Act.put, List.setIfInBounds_toArray, List.set_cons_zero, List.set_cons_succ])
      refine tk at4 ?_
      refine wpAnyH_done (by kernel_rfl) ?_ _
      clear hH77
      go_wp2_with fail
      have HL : loQ (errQ ⟨s, f, u, n, p, d⟩ rd day) rd = q35 := by rw [Eq35.out, Eq17.out, Eq29.out, Eq11.out, Eq5.out]; rfl
      have HH : hiQ (errQ ⟨s, f, u, n, p, d⟩ rd day) rd = q23 := by rw [Eq23.out, Eq11.out, Eq5.out]; rfl
      rw [HL, HH]
      refine bodyPost_ret (results_box2t rfl _ _ w.heap.size (w.heap.size + 1) 34 34 _ _ _ _ _ _ rfl (M.out.2.2.2.2.2.2.1) Try.underlying34 rfl (by kernel_rfl) rfl (M.out.2.2.2.2.2.2.2.1) Try.underlying34 rfl (by kernel_rfl)) rfl ?_
      exact ⟨_, _, _, _, _, _, _, _, rfl, (M.out.1), (M.out.2.2.1), (M.out.2.2.2.2.2.2.2.2.2.2)⟩
    refine AllReadyH.cons at1 (fun K hK => ?_) AllReadyH.nil
    obtain ⟨p1_0, q1_0, p1_1, q1_1, p1_2, q1_2, p1_3, q1_3⟩ := (M.out.2.2.2.2.2.2.2.1).c4
    go_simp
    clear p1_0 q1_0 p1_1 q1_1 p1_2 q1_2 p1_3 q1_3
    refine hK.out _ _ (trivial) (fun hH78 => ?_)
    clear hK K hH70
    (try simp only [Act.put, List.setIfInBounds_toArray, List.set_cons_zero, List.set_cons_succ])
    refine wpAnyH_ready (rs := [0]) (by kernel_rfl) (by simp) ?_
    refine AllReadyH.cons at0 (fun K hK => ?_) AllReadyH.nil
    obtain ⟨p0_0, q0_0, p0_1, q0_1, p0_2, q0_2, p0_3, q0_3⟩ := (M.out.2.2.2.2.2.2.1).c4
    go_simp
    clear p0_0 q0_0 p0_1 q0_1 p0_2 q0_2 p0_3 q0_3
    refine hK.out _ _ (trivial) (fun hH79 => ?_)
    clear hK K hH78
    (try simp only [Act.put, List.setIfInBounds_toArray, List.set_cons_zero, List.set_cons_succ])
    refine wpAnyH_ready (rs := [2]) (by kernel_rfl) (by simp) ?_
    refine AllReadyH.cons at2 (fun K hK => ?_) AllReadyH.nil
    obtain ⟨p0_0, q0_0, p0_1, q0_1, p0_2, q0_2, p0_3, q0_3⟩ := (M.out.2.2.2.2.2.2.1).c4
    go_simp
    clear p0_0 q0_0 p0_1 q0_1 p0_2 q0_2 p0_3 q0_3
    obtain ⟨w14, hv⟩ : ∃ x, x = ((((w13.setCell ⟨w.heap.size, 0, none⟩ (.int .i64 (sg (nu q35)))).setCell ⟨w.heap.size, 1, none⟩ (.slice a_31 (ln (nu q35)) c_32)).setCell ⟨w.heap.size, 2, none⟩ (.int .i64 (sg (de q35)))).setCell ⟨w.heap.size, 3, none⟩ (.slice b_33 (ln (de q35)) d_34)) := ⟨_, rfl⟩
    rw [← hv]
    have og : w13.grownBy w14 (some w.heap.size) := by rw [hv]; exact (only_setCell (only_setCell (only_setCell (only_setCell (World.grownBy.refl _ _) _) _) _) _)
    have hz : w.heap.size ≤ w.heap.size := by exact Nat.le_refl _
    have hk : Bx w14 w.heap.size 34 #[.int .i64 (sg (nu q35)), .slice a_31 (ln (nu q35)) c_32, .int .i64 (sg (de q35)), .slice b_33 (ln (de q35)) d_34] := by rw [hv]; exact (((((M.out.2.2.2.2.2.2.1).set 0 _).set 1 _).set 2 _).set 3 _)
    have hbw : Below w.heap.size w w14 := by rw [hv]; exact (Below.setCell (Below.setCell (Below.setCell (Below.setCell (M.out.2.2.2.2.2.2.2.2.2.2) (by omega) _) (by omega) _) (by omega) _) (by omega) _)
    replace M := Lib.hid (And.intro ((M.out.1).far (M.out.2.2.2.2.2.2.1) (by rfl) (by omega) og) (And.intro ((M.out.2.1).far (M.out.2.2.2.2.2.2.1) (by rfl) (by omega) og) (And.intro ((M.out.2.2.1).far (M.out.2.2.2.2.2.2.1) (by rfl) (by omega) og) (And.intro ((M.out.2.2.2.1).far (M.out.2.2.2.2.2.2.1) (by rfl) (by omega) og) (And.intro ((M.out.2.2.2.2.1).far (M.out.2.2.2.2.2.2.1) (by rfl) (by omega) og) (And.intro ((M.out.2.2.2.2.2.1).far (M.out.2.2.2.2.2.2.1) (by rfl) (by omega) og) (And.intro hk (And.intro ((M.out.2.2.2.2.2.2.2.1).only og (by omega)) (And.intro ((M.out.2.2.2.2.2.2.2.2.1).only og (by omega)) (And.intro ((M.out.2.2.2.2.2.2.2.2.2.1).only og (by omega)) hbw))))))))))
    clear hk hbw og hv hz
    refine hK.out _ _ (trivial) (fun hH80 => ?_)
    clear hK K hH79
    (try simp only [Act.put, List.setIfInBounds_toArray, List.set_cons_zero, List.set_cons_succ])
    refine wpAnyH_ready (rs := [3]) (by kernel_rfl) (by simp) ?_
    refine AllReadyH.cons at3 (fun K hK => ?_) AllReadyH.nil
    obtain ⟨p1_0, q1_0, p1_1, q1_1, p1_2, q1_2, p1_3, q1_3⟩ := (M.out.2.2.2.2.2.2.2.1).c4
    go_simp
    clear p1_0 q1_0 p1_1 q1_1 p1_2 q1_2 p1_3 q1_3
    obtain ⟨w15, hv⟩ : ∃ x, x = ((((w14.setCell ⟨w.heap.size + 1, 0, none⟩ (.int .i64 (sg (nu q23)))).setCell ⟨w.heap.size + 1, 1, none⟩ (.slice a_19 (ln (nu q23)) c_20)).setCell ⟨w.heap.size + 1, 2, none⟩ (.int .i64 (sg (de q23)))).setCell ⟨w.heap.size + 1, 3, none⟩ (.slice b_21 (ln (de q23)) d_22)) := ⟨_, rfl⟩
    rw [← hv]
    have og : w14.grownBy w15 (some (w.heap.size + 1)) := by rw [hv]; exact (only_setCell (only_setCell (only_setCell (only_setCell (World.grownBy.refl _ _) _) _) _) _)
    have hz : w.heap.size ≤ w.heap.size + 1 := by omega
    have hk : Bx w15 (w.heap.size + 1) 34 #[.int .i64 (sg (nu q23)), .slice a_19 (ln (nu q23)) c_20, .int .i64 (sg (de q23)), .slice b_21 (ln (de q23)) d_22] := by rw [hv]; exact (((((M.out.2.2.2.2.2.2.2.1).set 0 _).set 1 _).set 2 _).set 3 _)
    have hbw : Below w.heap.size w w15 := by rw [hv]; exact (Below.setCell (Below.setCell (Below.setCell (Below.setCell (M.out.2.2.2.2.2.2.2.2.2.2) (by omega) _) (by omega) _) (by omega) _) (by omega) _)
    replace M := Lib.hid (And.intro ((M.out.1).far (M.out.2.2.2.2.2.2.2.1) (by rfl) (by omega) og) (And.intro ((M.out.2.1).far (M.out.2.2.2.2.2.2.2.1) (by rfl) (by omega) og) (And.intro ((M.out.2.2.1).far (M.out.2.2.2.2.2.2.2.1) (by rfl) (by omega) og) (And.intro ((M.out.2.2.2.1).far (M.out.2.2.2.2.2.2.2.1) (by rfl) (by omega) og) (And.intro ((M.out.2.2.2.2.1).far (M.out.2.2.2.2.2.2.2.1) (by rfl) (by omega) og) (And.intro ((M.out.2.2.2.2.2.1).far (M.out.2.2.2.2.2.2.2.1) (by rfl) (by omega) og) (And.intro ((M.out.2.2.2.2.2.2.1).only og (by omega)) (And.intro hk (And.intro ((M.out.2.2.2.2.2.2.2.2.1).only og (by omega)) (And.intro ((M.out.2.2.2.2.2.2.2.2.2.1).only og (by omega)) hbw))))))))))
    clear hk hbw og hv hz
    refine hK.out _ _ (trivial) (fun hH81 => ?_)
    clear hK K hH80
    (try simp only [Act.put, List.setIfInBounds_toArray, List.set_cons_zero, List.set_cons_succ])
    refine tk at4 ?_
    refine wpAnyH_done (by kernel_rfl) ?_ _
    clear hH81
    go_wp2_with fail
    have HL : loQ (errQ ⟨s, f, u, n, p, d⟩ rd day) rd = q35 := by rw [Eq35.out, Eq17.out, Eq29.out, Eq11.out, Eq5.out]; rfl
    have HH : hiQ (errQ ⟨s, f, u, n, p, d⟩ rd day) rd = q23 := by rw [Eq23.out, Eq11.out, Eq5.out]; rfl
    rw [HL, HH]
    refine bodyPost_ret (results_box2t rfl _ _ w.heap.size (w.heap.size + 1) 34 34 _ _ _ _ _ _ rfl (M.out.2.2.2.2.2.2.1) Try.underlying34 rfl (by kernel_rfl) rfl (M.out.2.2.2.2.2.2.2.1) Try.underlying34 rfl (by kernel_rfl)) rfl ?_
    exact ⟨_, _, _, _, _, _, _, _, rfl, (M.out.1), (M.out.2.2.1), (M.out.2.2.2.2.2.2.2.2.2.2)⟩

end Go.Proofs.Ytpjpkcelajbfnaa
