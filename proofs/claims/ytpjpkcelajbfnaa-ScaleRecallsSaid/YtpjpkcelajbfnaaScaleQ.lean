/- The walk of ScaleOthers: whatever the arguments, it returns true. -/
import Derived.Test.YtpjpkcelajbfnaaBase
import Derived.Test.YtpjpkcelajbfnaaBigSpec
import Derived.Test.YtpjpkcelajbfnaaBigB
import Derived.Test.YtpjpkcelajbfnaaBigC
import Derived.Test.YtpjpkcelajbfnaaBigD
import Derived.Test.YtpjpkcelajbfnaaBigL
import Derived.Test.YtpjpkcelajbfnaaScaleA
import Derived.Test.YtpjpkcelajbfnaaHeld
import Derived.Test.YtpjpkcelajbfnaaScaleE
import Derived.Test.YtpjpkcelajbfnaaBigQ
import Derived.Test.YtpjpkcelajbfnaaAw
import Derived.Test.YtpjpkcelajbfnaaFz
import Derived.Test.YtpjpkcelajbfnaaRefE
import Derived.Test.YtpjpkcelajbfnaaRefB5
import Derived.Test.YtpjpkcelajbfnaaScaleI
import Derived.Test.YtpjpkcelajbfnaaProg
import Derived.WalkKit
import Derived.WalkSpells
import Derived.WalkLawsBesides
import Derived.Handy
import Derived.Lib.Hide
import Derived.Lib.Strings
import Derived.Lib.Builder
import Derived.BigQuiet
import Derived.OwnWalk
import Derived.Laws.BitsLemmas
import Derived.WalkSmall
import Derived.Deep.QuietTactic
import Derived.StillTailTactics
import Derived.Maps.AppendAt
import Derived.IntWalk
import Derived.Deep.RegionHeld3
import Derived.Deep.DeepFit
import Derived.Deep.LoopGhost
import Derived.Deep.DeepCutAuto
import Derived.ArgAppend
namespace Go.Proofs.Ytpjpkcelajbfnaa
open Go.RowKit
variable {G : Nat}

theorem ctin_one {w : World} {A : Nat} {T : TypeId} {s f u n p d : Int} (h : Bx w A T #[.int .i64 s, .int .i64 f, .int .i64 u, .int .i64 n, .int .i64 p, .int .i64 d]) : CtIn w (.slice (some ⟨A, 0, none⟩) 1 1) [⟨s, f, u, n, p, d⟩] :=
  ⟨_, _, rfl, fun k hk => ⟨A, 0, rfl, h.lt, fun j v hj => by
    obtain rfl : k = 0 := by simpa using hk
    have hj' : [Value.int .i64 s, .int .i64 f, .int .i64 u, .int .i64 n, .int .i64 p, .int .i64 d][j]? = some v := hj
    rw [Nat.zero_mul, Nat.zero_add, h.at.1]; simpa using hj'⟩⟩
theorem rcin_one {w : World} {A : Nat} {T : TypeId} {s t : Int} (h : Bx w A T #[.int .i64 s, .int .i64 t]) : RcIn w (.slice (some ⟨A, 0, none⟩) 1 1) [⟨s, t⟩] :=
  ⟨_, _, rfl, fun k hk => ⟨A, 0, rfl, h.lt, fun j v hj => by
    obtain rfl : k = 0 := by simpa using hk
    have hj' : [Value.int .i64 s, .int .i64 t][j]? = some v := hj
    rw [Nat.zero_mul, Nat.zero_add, h.at.1]; simpa using hj'⟩⟩
theorem rcin_nil (w : World) (a : Option Addr) (c : Nat) : RcIn w (.slice a 0 c) [] := ⟨a, c, rfl, fun k hk => by simp at hk⟩
theorem ctin_own {w : World} {B n : Nat} {e : TypeId} {v : Value} {cs : List Ct} (h : w.ownsRow B e 6 v n (cs.flatMap cCells)) (hn : n = cs.length) : CtIn w v cs := by
  subst hn; exact rds_of_own cCells cs (fun _ _ => rfl) h
theorem rcin_own {w : World} {B n : Nat} {e : TypeId} {v : Value} {rs : List Rc} (h : w.ownsRow B e 2 v n (rs.flatMap rcCells)) (hn : n = rs.length) : RcIn w v rs := by
  subst hn; exact rds_of_own rcCells rs (fun _ _ => rfl) h
theorem elemCert : ElemT Try.prog 22 25 (.agg #[.int .i64 0, .int .i64 0, .int .i64 0, .int .i64 0, .int .i64 0, .int .i64 0]) 6 48 := ⟨Try.underlying22, by kernel_rfl, rfl, by decide⟩
theorem elemRecall : ElemT Try.prog 23 52 (.agg #[.int .i64 0, .int .i64 0]) 2 16 := ⟨Try.underlying23, by kernel_rfl, rfl, by decide⟩
theorem below_none {w w' : World} (hg : w.grownBy w' none) : Below w.heap.size w w' := ⟨hg.os, hg.tape, hg.output, hg.size, fun k hk => hg.block k hk (by simp)⟩
/-- One element is appended to a full slice: a new array. -/
theorem wpList_grow {P : Program} {ops : Array Oper} {rest : List Oper} {o : Oper} {a : Act} {Q : Exit → Act → World → Prop} (hgd : o.guard = none) (s x : Operand)
    {t e : TypeId} {z : Value} {size bytes : Nat} (E : ElemT P t e z size bytes)
    (ho : o.op = .call { callee := .builtin .append, args := #[s, x], argTypes := #[t, t] }) {wr : World} (b off n cap : Nat) (olds : List Value) (hs : a.eval s = .slice (some ⟨b, off, none⟩) n cap)
    (hrow : Row wr b off olds) (hlo : olds.length = n * size) (news : List Value) (hx : a.eval x = .slice (some ⟨wr.heap.size, 0, none⟩) 1 1) (hl : news.length = size) (h1 : ∀ u ∈ news, u.oneCell' = true)
    (hfull : cap < n + 1) (h63 : n + 1 ≤ 140737488355328) (hbytes : (n + 1) * bytes ≤ 140737488355328)
    (h : ∀ v' w', w'.ownsRow (wr.heap.size + 1) e size v' (n + 1) (olds ++ news) → Below wr.heap.size wr w' → wpList P ops Q rest (a.put o.dst v') w') :
    wpList P ops Q (o :: rest) a (wr.alloc (.cells news.toArray e)) := by
  obtain ⟨i0, hi, hz0, hz1, hz2⟩ := info_parts E.info
  have hb := below_alloc wr (.cells news.toArray e)
  refine wpList_append_grows _ hgd s x t ho e i0 z size bytes E.under hi hz0 hz1 hz2 E.cells E.pos (some ⟨b, off, none⟩) n cap olds hs (fun h => by cases h) hlo ?_ ⟨wr.heap.size, 0, none⟩ 1 1 news hx (by omega) ?_ h1 hfull (by unfold maxLen; omega) hbytes ?_
  · intro b' hb' j u hj
    cases hb'
    rw [add_off]
    exact (hrow.keep hb).2 j u hj
  · intro j u hj
    have hlt : j < news.length := by
      rcases Nat.lt_or_ge j news.length with hh | hh
      · exact hh
      · rw [List.getElem?_eq_none hh] at hj; cases hj
    rw [add_off, Nat.zero_add, Lib.cell_of_heap (show (wr.heap.push _)[wr.heap.size]? = some (.cells news.toArray e (0, 0)) by simp)]
    simpa using hj
  · intro v' w' h2 h3
    have hs' : (wr.alloc (.cells news.toArray e)).heap.size = wr.heap.size + 1 := by simp
    rw [hs'] at h2
    exact h v' w' h2 (hb.trans ((below_none h3).mono hb.size))
def L0 : List Ct := [⟨2, 10, 100, 50, 2, 3⟩]
theorem iv1 : ivl L0 [] 2 10000 10 = some (((9930 : Int) : Rat), ((10070 : Int) : Rat)) := by decide +kernel
theorem iv2 : ivl L0 [⟨2, 21⟩] 2 10000 20 = some (((9900 : Int) : Rat), ((10100 : Int) : Rat)) := by decide +kernel
theorem iv3 : ivl L0 [] 2 30 20 = some (((0 : Int) : Rat), Rat.divInt 5503 50) := by decide +kernel
theorem scInterval_at {v1 v2 : Value} {cs : List Ct} {rs : List Rc} {sc rd day : Int} {l h : Rat} {w : World} (hi : ivl cs rs sc rd day = some (l, h)) (h1 : CtIn w v1 cs) (h2 : RcIn w v2 rs) (hn1 : cs.length ≤ 1099511627776) (hn2 : rs.length ≤ 1099511627776) (hG : G ≤ w.heap.size) :
    Calls Try.prog 14 #[v1, v2, .int .i64 sc, .int .i64 rd, .int .i64 day] w fun e w' => ∃ a c b d a' c' b' d', e = .returned (.tuple #[.agg #[.int .i64 (sg (nu l)), .slice a (ln (nu l)) c, .int .i64 (sg (de l)), .slice b (ln (de l)) d], .agg #[.int .i64 (sg (nu h)), .slice a' (ln (nu h)) c', .int .i64 (sg (de h)), .slice b' (ln (de h)) d'], .bool true]) ∧ FD G w' a c b d l ∧ FD G w' a' c' b' d' h ∧ Below w.heap.size w w' := by
  have := scInterval_all (rd := rd) (sc := sc) (day := day) h1 h2 hn1 hn2 hG
  unfold loO hiO hasI at this
  rw [hi] at this
  exact this.mono fun e w' ⟨a, c, b, d, a', c', b', d', he, x1, x2, x3, x4, hb⟩ => ⟨a, c, b, d, a', c', b', d', he, ⟨x1, x2⟩, ⟨x3, x4⟩, hb⟩
theorem scInterval_not {v1 v2 : Value} {cs : List Ct} {rs : List Rc} {sc rd day : Int} {w : World} (hi : ivl cs rs sc rd day = none) (h1 : CtIn w v1 cs) (h2 : RcIn w v2 rs) (hn1 : cs.length ≤ 1099511627776) (hn2 : rs.length ≤ 1099511627776) :
    Calls Try.prog 14 #[v1, v2, .int .i64 sc, .int .i64 rd, .int .i64 day] w fun e w' => e = .returned (.tuple #[.agg #[.int .i64 0, .slice none 0 0, .int .i64 0, .slice none 0 0], .agg #[.int .i64 0, .slice none 0 0, .int .i64 0, .slice none 0 0], .bool false]) ∧ Below w.heap.size w w' := by
  obtain ⟨a1, cap1, rfl⟩ := h1.shape
  obtain ⟨a2, cap2, rfl⟩ := h2.shape
  rcases ivl_none hi with hf | ⟨g, hf, hr⟩ | ⟨g, hgl, hf, hr, hr2⟩
  · exact scInterval_no1 h1 h2 hn1 hn2 hf
  · exact scInterval_no2 h1 h2 hn1 hn2 hf hr
  · exact scInterval_no3 h1 h2 hn1 hn2 (hgl := hgl) rfl hf hr hr2
theorem scFind_at {v : Value} {cs : List Ct} {sc day i : Int} {g : Nat} {w : World} (h : CtIn w v cs) (hn : cs.length ≤ 1099511627776) (hf : findC cs sc day = some g) (hi : (g : Int) = i) :
    Calls Try.prog 10 #[v, .int .i64 sc, .int .i64 day] w fun e w' => e = .returned (.tuple #[.int .i64 i, .bool true]) ∧ Below w.heap.size w w' := by
  have := scFind_ok v cs sc day w h hn
  rw [hf] at this
  subst hi; exact this
theorem scRec_at {v : Value} {rs : List Rc} {sc day : Int} {b : Bool} {w : World} (h : RcIn w v rs) (hn : rs.length ≤ 1099511627776) (hf : recalledB rs sc day = b) :
    Calls Try.prog 19 #[v, .int .i64 sc, .int .i64 day] w fun e w' => e = .returned (.bool b) ∧ Below w.heap.size w w' := by
  rw [← hf]; exact scRecalled_ok _ rs sc day w h hn
theorem scRight_is {s f u n p d : Int} {b : Bool} (h : rightC ⟨s, f, u, n, p, d⟩ = b) (w : World) :
    Calls Try.prog 17 #[.agg #[.int .i64 s, .int .i64 f, .int .i64 u, .int .i64 n, .int .i64 p, .int .i64 d]] w fun e w' => e = .returned (.bool b) ∧ Below w.heap.size w w' := by
  rw [← h]; exact scRight_ok ⟨s, f, u, n, p, d⟩ w
set_option maxHeartbeats 4000000 in
theorem whole_ok {q : Rat} {n : Int} {a1 b1 : Option Addr} {c1 d1 : Nat} {w : World} (h1 : FD G w a1 c1 b1 d1 q) (hx : Fz q 549755813888) (hn : -9223372036854775808 ≤ n ∧ n ≤ 9223372036854775807) (hq : q = (n : Rat)) :
    Calls Try.prog 26 #[.agg #[.int .i64 (sg (nu q)), .slice a1 (ln (nu q)) c1, .int .i64 (sg (de q)), .slice b1 (ln (de q)) d1], .int .i64 n] w fun e w' => e = .returned (.bool true) ∧ Below w.heap.size w w' := by
  have HX := Lib.hid hx; clear hx
  have HN := Lib.hid hn; clear hn
  have HQ := Lib.hid hq; clear hq
  have H1 : Hid (FD G w a1 c1 b1 d1 q) := h1
  clear h1
  have M : Hid (Below w.heap.size w w) := Below.refl _ _
  go_enter Try.func26, Try.ntmps26
  go_wp2_with fail
  obtain ⟨w1, hv⟩ : ∃ x, x = (w.alloc (.cells #[.int .i64 (sg (nu q)), .slice a1 (ln (nu q)) c1, .int .i64 (sg (de q)), .slice b1 (ln (de q)) d1] 34)) := ⟨_, rfl⟩
  rw [← hv]
  replace M := Lib.hid (And.intro (hv ▸ bx1 w 34 #[.int .i64 (sg (nu q)), .slice a1 (ln (nu q)) c1, .int .i64 (sg (de q)), .slice b1 (ln (de q)) d1]) (Goes.go M.out (hv ▸ below_alloc _ _ : Below w.heap.size w w1)))
  clear hv
  obtain ⟨w2, hv⟩ : ∃ x, x = w1.drew := ⟨_, rfl⟩
  replace M := Lib.hid (Goes.go M.out (hv ▸ below_drew _ : Below w1.heap.size w1 w2))
  refine wp_region_held_drew (S := (fun w' => w'.cell? ⟨w.heap.size, 0, none⟩ = some (.int .i64 (sg (nu q))) ∧ w'.cell? ⟨w.heap.size, 1, none⟩ = some (.slice a1 (ln (nu q)) c1) ∧ w'.cell? ⟨w.heap.size, 2, none⟩ = some (.int .i64 (sg (de q))) ∧ w'.cell? ⟨w.heap.size, 3, none⟩ = some (.slice b1 (ln (de q)) d1))) (by kernel_rfl) (by rw [← hv]; exact ⟨(M.out.1).at.1 0, (M.out.1).at.1 1, (M.out.1).at.1 2, (M.out.1).at.1 3⟩) (fun hH7 => ?_)
  rw [← hv] at hH7 ⊢
  clear hv
  refine tk at0 ?_
  refine tk at1 ?_
  refine wpAnyH_ready (rs := [2]) (by kernel_rfl) (by simp) ?_
  refine AllReadyH.cons at2 (fun K hK => ?_) AllReadyH.nil
  go_simp
  obtain ⟨q12, eq12⟩ : ∃ x : Rat, x = (n : Rat) := ⟨_, rfl⟩
  refine (rfint_ok (G := G) n _ HN.out).mono ?_
  rintro e w3 ⟨a_8, c_9, b_10, d_11, rfl, hd13, hb⟩
  rw [← eq12] at hd13 ⊢
  have Eq12 := Lib.hid eq12; clear eq12
  replace M := Lib.hid (And.intro hd13 (Goes.go M.out hb))
  clear hb hd13
  (try go_wp2_with fail)
  refine hK.out _ _ (⟨(M.out.2.1).at.1 0, (M.out.2.1).at.1 1, (M.out.2.1).at.1 2, (M.out.2.1).at.1 3⟩) (fun hH14 => ?_)
  clear hK K hH7
  (try simp only [Act.put, List.setIfInBounds_toArray, List.set_cons_zero, List.set_cons_succ])
  refine wpAnyH_ready (rs := [3]) (by kernel_rfl) (by simp) ?_
  refine AllReadyH.cons at3 (fun K hK => ?_) AllReadyH.nil
  go_simp
  refine (rfsame_q (q := q) (r := q12) (H1.out.keep (M.out.2.2)) (M.out.1) HX.out (HQ.out.trans Eq12.out.symm)).mono ?_
  rintro e w4 ⟨rfl, hb⟩
  replace M := Lib.hid (Goes.go M.out hb)
  clear hb
  (try go_wp2_with fail)
  refine hK.out _ _ (⟨(M.out.2.1).at.1 0, (M.out.2.1).at.1 1, (M.out.2.1).at.1 2, (M.out.2.1).at.1 3⟩) (fun hH15 => ?_)
  clear hK K hH14
  (try simp only [Act.put, List.setIfInBounds_toArray, List.set_cons_zero, List.set_cons_succ])
  refine tk at4 ?_
  refine wpAnyH_done (by kernel_rfl) ?_ _
  clear hH15
  go_wp2_with fail
  go_ret
  exact ⟨rfl, (M.out.2.2)⟩
set_option maxHeartbeats 4000000 in
theorem sane_ok (w : World) (hG : G ≤ w.heap.size) :
    Calls Try.prog 8 #[] w fun e w' => e = .returned (.bool true) ∧ Below w.heap.size w w' := by
  obtain ⟨qa, hqa⟩ : ∃ x : Rat, x = ((9930 : Int) : Rat) := ⟨_, rfl⟩
  obtain ⟨qb, hqb⟩ : ∃ x : Rat, x = ((10070 : Int) : Rat) := ⟨_, rfl⟩
  obtain ⟨qc, hqc⟩ : ∃ x : Rat, x = ((9900 : Int) : Rat) := ⟨_, rfl⟩
  obtain ⟨qd, hqd⟩ : ∃ x : Rat, x = ((10100 : Int) : Rat) := ⟨_, rfl⟩
  obtain ⟨qe, hqe⟩ : ∃ x : Rat, x = ((0 : Int) : Rat) := ⟨_, rfl⟩
  obtain ⟨qf, hqf⟩ : ∃ x : Rat, x = Rat.divInt 5503 50 := ⟨_, rfl⟩
  have I1 : Hid (ivl L0 [] 2 10000 10 = some (qa, qb)) := by rw [hqa, hqb]; exact iv1
  have I2 : Hid (ivl L0 [⟨2, 21⟩] 2 10000 20 = some (qc, qd)) := by rw [hqc, hqd]; exact iv2
  have I3 : Hid (ivl L0 [] 2 30 20 = some (qe, qf)) := by rw [hqe, hqf]; exact iv3
  have Sqa : Hid (Fz qa 14) := (ivl_size I1.out).1
  have Sqb : Hid (Fz qb 14) := (ivl_size I1.out).2
  have Sqc : Hid (Fz qc 14) := (ivl_size I2.out).1
  have Sqd : Hid (Fz qd 14) := (ivl_size I2.out).2
  have Sqe : Hid (Fz qe 14) := (ivl_size I3.out).1
  have Sqf : Hid (Fz qf 14) := (ivl_size I3.out).2
  have Hqa := Lib.hid hqa; clear hqa
  have Hqb := Lib.hid hqb; clear hqb
  have Hqc := Lib.hid hqc; clear hqc
  have Hqd := Lib.hid hqd; clear hqd
  have Hqe := Lib.hid hqe; clear hqe
  have Hqf := Lib.hid hqf; clear hqf
  have M : Hid (Below w.heap.size w w) := Below.refl _ _
  go_enter Try.func8, Try.ntmps8
  go_upto_region 2 with fail
  obtain ⟨w1, hv⟩ : ∃ x, x = (w.alloc (.cells #[.int .i64 2, .int .i64 10, .int .i64 100, .int .i64 50, .int .i64 2, .int .i64 3] 25)) := ⟨_, rfl⟩
  rw [← hv]
  replace M := Lib.hid (And.intro (hv ▸ bx1 w 25 #[.int .i64 2, .int .i64 10, .int .i64 100, .int .i64 50, .int .i64 2, .int .i64 3]) (Goes.go M.out (hv ▸ below_alloc _ _ : Below w.heap.size w w1)))
  clear hv
  go_wp2_with fail
  refine (scInterval_at (sc := 2) (rd := 10000) (day := 10) (l := qa) (h := qb) I1.out (ctin_one (M.out.1)) (rcin_nil _ _ _) (by decide) (by decide) (Nat.le_trans hG (M.out.2).size)).mono ?_
  rintro e w2 ⟨a_1, c_2, b_3, d_4, a_5, c_6, b_7, d_8, rfl, hd9, hd10, hb⟩
  replace M := Lib.hid (And.intro hd9 (And.intro hd10 (Goes.go M.out hb)))
  clear hb hd9 hd10
  go_upto_region 3 with fail
  obtain ⟨w3, hv⟩ : ∃ x, x = ((w2.alloc (.cells #[.int .i64 (sg (nu qa)), .slice a_1 (ln (nu qa)) c_2, .int .i64 (sg (de qa)), .slice b_3 (ln (de qa)) d_4] 34)).alloc (.cells #[.int .i64 (sg (nu qb)), .slice a_5 (ln (nu qb)) c_6, .int .i64 (sg (de qb)), .slice b_7 (ln (de qb)) d_8] 34)) := ⟨_, rfl⟩
  rw [← hv]
  have o1 : w.heap.size < w2.heap.size := ((M.out.2.2.1)).lt
  have hbx := bx2 w2 34 34 #[.int .i64 (sg (nu qa)), .slice a_1 (ln (nu qa)) c_2, .int .i64 (sg (de qa)), .slice b_3 (ln (de qa)) d_4] #[.int .i64 (sg (nu qb)), .slice a_5 (ln (nu qb)) c_6, .int .i64 (sg (de qb)), .slice b_7 (ln (de qb)) d_8]
  rw [← hv] at hbx
  have hbn : Below w2.heap.size w2 w3 := by rw [hv]; exact (Below.alloc (Below.alloc (Below.refl _ _) (by simp) _) (by simp) _)
  replace M := Lib.hid (And.intro hbx.2 (And.intro hbx.1 (Goes.go M.out hbn)))
  clear hbx hbn
  clear hv
  go_wp2_with fail
  obtain ⟨w4, hv⟩ : ∃ x, x = (w3.alloc (.cells #[.int .i64 2, .int .i64 21] 52)) := ⟨_, rfl⟩
  rw [← hv]
  have o3 : w2.heap.size + 1 < w3.heap.size := ((M.out.1)).lt
  replace M := Lib.hid (And.intro (hv ▸ bx1 w3 52 #[.int .i64 2, .int .i64 21]) (Goes.go M.out (hv ▸ below_alloc _ _ : Below w3.heap.size w3 w4)))
  clear hv
  refine (scInterval_at (sc := 2) (rd := 10000) (day := 20) (l := qc) (h := qd) I2.out (ctin_one (M.out.2.2.2.2.2.1)) (rcin_one (M.out.1)) (by decide) (by decide) (Nat.le_trans hG (M.out.2.2.2.2.2.2).size)).mono ?_
  rintro e w5 ⟨a_11, c_12, b_13, d_14, a_15, c_16, b_17, d_18, rfl, hd19, hd20, hb⟩
  replace M := Lib.hid (And.intro hd19 (And.intro hd20 (Goes.go M.out hb)))
  clear hb hd19 hd20
  go_upto_region 4 with fail
  obtain ⟨w6, hv⟩ : ∃ x, x = ((w5.alloc (.cells #[.int .i64 (sg (nu qc)), .slice a_11 (ln (nu qc)) c_12, .int .i64 (sg (de qc)), .slice b_13 (ln (de qc)) d_14] 34)).alloc (.cells #[.int .i64 (sg (nu qd)), .slice a_15 (ln (nu qd)) c_16, .int .i64 (sg (de qd)), .slice b_17 (ln (de qd)) d_18] 34)) := ⟨_, rfl⟩
  rw [← hv]
  have o4 : w3.heap.size < w5.heap.size := ((M.out.2.2.1)).lt
  have hbx := bx2 w5 34 34 #[.int .i64 (sg (nu qc)), .slice a_11 (ln (nu qc)) c_12, .int .i64 (sg (de qc)), .slice b_13 (ln (de qc)) d_14] #[.int .i64 (sg (nu qd)), .slice a_15 (ln (nu qd)) c_16, .int .i64 (sg (de qd)), .slice b_17 (ln (de qd)) d_18]
  rw [← hv] at hbx
  have hbn : Below w5.heap.size w5 w6 := by rw [hv]; exact (Below.alloc (Below.alloc (Below.refl _ _) (by simp) _) (by simp) _)
  replace M := Lib.hid (And.intro hbx.2 (And.intro hbx.1 (Goes.go M.out hbn)))
  clear hbx hbn
  clear hv
  go_wp2_with fail
  refine (scInterval_at (sc := 2) (rd := 30) (day := 20) (l := qe) (h := qf) I3.out (ctin_one (M.out.2.2.2.2.2.2.2.2.2.1)) (rcin_nil _ _ _) (by decide) (by decide) (Nat.le_trans hG (M.out.2.2.2.2.2.2.2.2.2.2).size)).mono ?_
  rintro e w7 ⟨a_21, c_22, b_23, d_24, a_25, c_26, b_27, d_28, rfl, hd29, hd30, hb⟩
  replace M := Lib.hid (And.intro hd29 (And.intro hd30 (Goes.go M.out hb)))
  clear hb hd29 hd30
  go_upto_region 5 with fail
  obtain ⟨w8, hv⟩ : ∃ x, x = ((w7.alloc (.cells #[.int .i64 (sg (nu qe)), .slice a_21 (ln (nu qe)) c_22, .int .i64 (sg (de qe)), .slice b_23 (ln (de qe)) d_24] 34)).alloc (.cells #[.int .i64 (sg (nu qf)), .slice a_25 (ln (nu qf)) c_26, .int .i64 (sg (de qf)), .slice b_27 (ln (de qf)) d_28] 34)) := ⟨_, rfl⟩
  rw [← hv]
  have o6 : w5.heap.size + 1 < w7.heap.size := ((M.out.2.2.1)).lt
  have hbx := bx2 w7 34 34 #[.int .i64 (sg (nu qe)), .slice a_21 (ln (nu qe)) c_22, .int .i64 (sg (de qe)), .slice b_23 (ln (de qe)) d_24] #[.int .i64 (sg (nu qf)), .slice a_25 (ln (nu qf)) c_26, .int .i64 (sg (de qf)), .slice b_27 (ln (de qf)) d_28]
  rw [← hv] at hbx
  have hbn : Below w7.heap.size w7 w8 := by rw [hv]; exact (Below.alloc (Below.alloc (Below.refl _ _) (by simp) _) (by simp) _)
  replace M := Lib.hid (And.intro hbx.2 (And.intro hbx.1 (Goes.go M.out hbn)))
  clear hbx hbn
  clear hv
  go_wp2_with fail
  refine (scInterval_not (sc := 2) (rd := 10000) (day := 101) (by decide +kernel) (ctin_one (M.out.2.2.2.2.2.2.2.2.2.2.2.2.2.1)) (rcin_nil _ _ _) (by decide) (by decide)).mono ?_
  rintro e w9 ⟨rfl, hb⟩
  replace M := Lib.hid (Goes.go M.out hb)
  clear hb
  go_upto_region 6 with fail
  obtain ⟨w10, hv⟩ : ∃ x, x = ((w9.alloc (.cells #[.int .i64 0, .slice none 0 0, .int .i64 0, .slice none 0 0] 34)).alloc (.cells #[.int .i64 0, .slice none 0 0, .int .i64 0, .slice none 0 0] 34)) := ⟨_, rfl⟩
  rw [← hv]
  have o8 : w7.heap.size + 1 < w9.heap.size := ((M.out.1)).lt
  have hbx := bx2 w9 34 34 #[.int .i64 0, .slice none 0 0, .int .i64 0, .slice none 0 0] #[.int .i64 0, .slice none 0 0, .int .i64 0, .slice none 0 0]
  rw [← hv] at hbx
  have hbn : Below w9.heap.size w9 w10 := by rw [hv]; exact (Below.alloc (Below.alloc (Below.refl _ _) (by simp) _) (by simp) _)
  replace M := Lib.hid (And.intro hbx.2 (And.intro hbx.1 (Goes.go M.out hbn)))
  clear hbx hbn
  clear hv
  go_wp2_with fail
  obtain ⟨w11, hv⟩ : ∃ x, x = (w10.alloc (.cells #[.int .i64 2, .int .i64 20] 52)) := ⟨_, rfl⟩
  rw [← hv]
  have o10 : w9.heap.size + 1 < w10.heap.size := ((M.out.1)).lt
  replace M := Lib.hid (And.intro (hv ▸ bx1 w10 52 #[.int .i64 2, .int .i64 20]) (Goes.go M.out (hv ▸ below_alloc _ _ : Below w10.heap.size w10 w11)))
  clear hv
  refine (scInterval_not (sc := 2) (rd := 10000) (day := 20) (by decide +kernel) (ctin_one (M.out.2.2.2.2.2.2.2.2.2.2.2.2.2.2.2.2.1)) (rcin_one (M.out.1)) (by decide) (by decide)).mono ?_
  rintro e w12 ⟨rfl, hb⟩
  replace M := Lib.hid (Goes.go M.out hb)
  clear hb
  go_upto_region 7 with fail
  obtain ⟨w13, hv⟩ : ∃ x, x = ((w12.alloc (.cells #[.int .i64 0, .slice none 0 0, .int .i64 0, .slice none 0 0] 34)).alloc (.cells #[.int .i64 0, .slice none 0 0, .int .i64 0, .slice none 0 0] 34)) := ⟨_, rfl⟩
  rw [← hv]
  have o11 : w10.heap.size < w12.heap.size := ((M.out.1)).lt
  have hbx := bx2 w12 34 34 #[.int .i64 0, .slice none 0 0, .int .i64 0, .slice none 0 0] #[.int .i64 0, .slice none 0 0, .int .i64 0, .slice none 0 0]
  rw [← hv] at hbx
  have hbn : Below w12.heap.size w12 w13 := by rw [hv]; exact (Below.alloc (Below.alloc (Below.refl _ _) (by simp) _) (by simp) _)
  replace M := Lib.hid (And.intro hbx.2 (And.intro hbx.1 (Goes.go M.out hbn)))
  clear hbx hbn
  clear hv
  go_wp2_with fail
  obtain ⟨q35, eq35⟩ : ∃ x : Rat, x = (Rat.divInt 5503 50) := ⟨_, rfl⟩
  refine (rfof_pos (G := G) 5503 50 _ (by omega) (by omega) (by omega)).mono ?_
  rintro e w14 ⟨a_31, c_32, b_33, d_34, rfl, hd36, hb⟩
  rw [← eq35] at hd36 ⊢
  have Sq35 : Hid (Fz q35 4) := by show Fz q35 4; rw [eq35]; exact (Fz.of64 (by omega) (by omega) (by omega))
  have Eq35 := Lib.hid eq35; clear eq35
  replace M := Lib.hid (And.intro hd36 (Goes.go M.out hb))
  clear hb hd36
  go_upto_region 8 with fail
  obtain ⟨w15, hv⟩ : ∃ x, x = (w14.alloc (.cells #[.int .i64 (sg (nu q35)), .slice a_31 (ln (nu q35)) c_32, .int .i64 (sg (de q35)), .slice b_33 (ln (de q35)) d_34] 34)) := ⟨_, rfl⟩
  rw [← hv]
  have o13 : w12.heap.size + 1 < w14.heap.size := ((M.out.2.1)).lt
  replace M := Lib.hid (And.intro (hv ▸ bx1 w14 34 #[.int .i64 (sg (nu q35)), .slice a_31 (ln (nu q35)) c_32, .int .i64 (sg (de q35)), .slice b_33 (ln (de q35)) d_34]) (Goes.go M.out (hv ▸ below_alloc _ _ : Below w14.heap.size w14 w15)))
  clear hv
  obtain ⟨p0_0, q0_0, p0_1, q0_1, p0_2, q0_2, p0_3, q0_3, p0_4, q0_4, p0_5, q0_5⟩ := (M.out.2.2.2.2.2.2.2.2.2.2.2.2.2.2.2.2.2.2.2.2.1).c6
  have z0 : w.heap.size < w15.heap.size := (M.out.2.2.2.2.2.2.2.2.2.2.2.2.2.2.2.2.2.2.2.2.1).lt
  go_wp2_with (at_builtin; go_must (refine wpList_grow rfl _ _ elemCert rfl w.heap.size 0 1 1 [.int .i64 2, .int .i64 10, .int .i64 100, .int .i64 50, .int .i64 2, .int .i64 3] rfl ⟨(M.out.2.2.2.2.2.2.2.2.2.2.2.2.2.2.2.2.2.2.2.2.1).lt, fun j u hj => by rw [Nat.zero_add, (M.out.2.2.2.2.2.2.2.2.2.2.2.2.2.2.2.2.2.2.2.2.1).at.1]; simpa using hj⟩ rfl [.int .i64 2, .int .i64 10, .int .i64 100, .int .i64 50, .int .i64 2, .int .i64 3] rfl rfl (by decide) (by decide) (by decide) (by decide) ?_; intro vv w16 ho hb))
  clear p0_0 q0_0 p0_1 q0_1 p0_2 q0_2 p0_3 q0_3 p0_4 q0_4 p0_5 q0_5 z0
  replace M := Lib.hid (And.intro (show CtIn w16 vv (L0 ++ L0) from ctin_own (cs := L0 ++ L0) ho rfl) (Goes.go M.out hb))
  clear ho hb
  refine (scFind_at (sc := 2) (day := 50) (i := 1) (M.out.1) (by decide) (by decide +kernel) rfl).mono ?_
  rintro e w17 ⟨rfl, hb⟩
  replace M := Lib.hid (Goes.go M.out hb)
  clear hb
  obtain ⟨p1_0, q1_0, p1_1, q1_1, p1_2, q1_2, p1_3, q1_3⟩ := (M.out.2.2.2.2.2.2.2.2.2.2.2.2.2.2.2.2.2.2.1).c4
  go_wp2_with fail
  clear p1_0 q1_0 p1_1 q1_1 p1_2 q1_2 p1_3 q1_3
  refine (whole_ok (q := qa) (n := 9930) (M.out.2.2.2.2.2.2.2.2.2.2.2.2.2.2.2.2.2.2.2.1) (Fz.mono Sqa.out (by omega)) (by omega) Hqa.out).mono ?_
  rintro e w18 ⟨rfl, hb⟩
  replace M := Lib.hid (Goes.go M.out hb)
  clear hb
  obtain ⟨p2_0, q2_0, p2_1, q2_1, p2_2, q2_2, p2_3, q2_3⟩ := (M.out.2.2.2.2.2.2.2.2.2.2.2.2.2.2.2.2.2.1).c4
  go_wp2_with fail
  clear p2_0 q2_0 p2_1 q2_1 p2_2 q2_2 p2_3 q2_3
  refine (whole_ok (q := qb) (n := 10070) (M.out.2.2.2.2.2.2.2.2.2.2.2.2.2.2.2.2.2.2.2.2.1) (Fz.mono Sqb.out (by omega)) (by omega) Hqb.out).mono ?_
  rintro e w19 ⟨rfl, hb⟩
  replace M := Lib.hid (Goes.go M.out hb)
  clear hb
  obtain ⟨p4_0, q4_0, p4_1, q4_1, p4_2, q4_2, p4_3, q4_3⟩ := (M.out.2.2.2.2.2.2.2.2.2.2.2.2.2.1).c4
  go_wp2_with fail
  clear p4_0 q4_0 p4_1 q4_1 p4_2 q4_2 p4_3 q4_3
  refine (whole_ok (q := qc) (n := 9900) (M.out.2.2.2.2.2.2.2.2.2.2.2.2.2.2.1) (Fz.mono Sqc.out (by omega)) (by omega) Hqc.out).mono ?_
  rintro e w20 ⟨rfl, hb⟩
  replace M := Lib.hid (Goes.go M.out hb)
  clear hb
  obtain ⟨p5_0, q5_0, p5_1, q5_1, p5_2, q5_2, p5_3, q5_3⟩ := (M.out.2.2.2.2.2.2.2.2.2.2.2.2.1).c4
  go_wp2_with fail
  clear p5_0 q5_0 p5_1 q5_1 p5_2 q5_2 p5_3 q5_3
  refine (whole_ok (q := qd) (n := 10100) (M.out.2.2.2.2.2.2.2.2.2.2.2.2.2.2.2.1) (Fz.mono Sqd.out (by omega)) (by omega) Hqd.out).mono ?_
  rintro e w21 ⟨rfl, hb⟩
  replace M := Lib.hid (Goes.go M.out hb)
  clear hb
  obtain ⟨p6_0, q6_0, p6_1, q6_1, p6_2, q6_2, p6_3, q6_3⟩ := (M.out.2.2.2.2.2.2.2.2.2.1).c4
  go_wp2_with fail
  clear p6_0 q6_0 p6_1 q6_1 p6_2 q6_2 p6_3 q6_3
  refine (whole_ok (q := qe) (n := 0) (M.out.2.2.2.2.2.2.2.2.2.2.1) (Fz.mono Sqe.out (by omega)) (by omega) Hqe.out).mono ?_
  rintro e w22 ⟨rfl, hb⟩
  replace M := Lib.hid (Goes.go M.out hb)
  clear hb
  obtain ⟨p7_0, q7_0, p7_1, q7_1, p7_2, q7_2, p7_3, q7_3⟩ := (M.out.2.2.2.2.2.2.2.2.1).c4
  obtain ⟨p13_0, q13_0, p13_1, q13_1, p13_2, q13_2, p13_3, q13_3⟩ := (M.out.2.1).c4
  go_wp2_with fail
  clear p7_0 q7_0 p7_1 q7_1 p7_2 q7_2 p7_3 q7_3 p13_0 q13_0 p13_1 q13_1 p13_2 q13_2 p13_3 q13_3
  refine (rfsame_q (q := qf) (r := q35) (M.out.2.2.2.2.2.2.2.2.2.2.2.1) (M.out.2.2.1) (Fz.mono Sqf.out (by omega)) (Hqf.out.trans Eq35.out.symm)).mono ?_
  rintro e w23 ⟨rfl, hb⟩
  replace M := Lib.hid (Goes.go M.out hb)
  clear hb
  obtain ⟨p0_0, q0_0, p0_1, q0_1, p0_2, q0_2, p0_3, q0_3, p0_4, q0_4, p0_5, q0_5⟩ := (M.out.2.2.2.2.2.2.2.2.2.2.2.2.2.2.2.2.2.2.2.2.2.1).c6
  go_wp2_with fail
  clear p0_0 q0_0 p0_1 q0_1 p0_2 q0_2 p0_3 q0_3 p0_4 q0_4 p0_5 q0_5
  refine (scRight_is (s := 2) (f := 10) (u := 100) (n := 50) (p := 2) (d := 3) (b := true) (by decide) _).mono ?_
  rintro e w24 ⟨rfl, hb⟩
  replace M := Lib.hid (Goes.go M.out hb)
  clear hb
  go_wp2_with fail
  refine (scRec_at (sc := 2) (day := 20) (b := false) (rcin_nil _ _ _) (by decide) rfl).mono ?_
  rintro e w25 ⟨rfl, hb⟩
  replace M := Lib.hid (Goes.go M.out hb)
  clear hb
  go_wp2_with fail
  go_ret
  exact ⟨rfl, (M.out.2.2.2.2.2.2.2.2.2.2.2.2.2.2.2.2.2.2.2.2.2.2)⟩
end Go.Proofs.Ytpjpkcelajbfnaa
namespace Go.Proofs.Ytpjpkcelajbfnaa
open Go.RowKit
variable {G : Nat}

theorem scFind_v {v : Value} {cs : List Ct} {sc day i : Int} {b : Bool} {w : World} (h : CtIn w v cs) (hn : cs.length ≤ 1099511627776) (hi : (((findC cs sc day).getD 0 : Nat) : Int) = i) (hb : (findC cs sc day).isSome = b) :
    Calls Try.prog 10 #[v, .int .i64 sc, .int .i64 day] w fun e w' => e = .returned (.tuple #[.int .i64 i, .bool b]) ∧ Below w.heap.size w w' := by
  rw [← hi, ← hb]; exact scFind_ok v cs sc day w h hn
theorem scInterval_v {v1 v2 : Value} {cs : List Ct} {rs : List Rc} {sc rd day : Int} {b_ : Bool} {w : World} (h1 : CtIn w v1 cs) (h2 : RcIn w v2 rs) (hn1 : cs.length ≤ 1099511627776) (hn2 : rs.length ≤ 1099511627776) (hG : G ≤ w.heap.size) (hi : hasI cs rs sc rd day = b_) :
    Calls Try.prog 14 #[v1, v2, .int .i64 sc, .int .i64 rd, .int .i64 day] w fun e w' => ∃ a c b d a' c' b' d', e = .returned (.tuple #[.agg #[.int .i64 (sg (oN (loO cs rs sc rd day))), .slice a (ln (oN (loO cs rs sc rd day))) c, .int .i64 (sg (oD (loO cs rs sc rd day))), .slice b (ln (oD (loO cs rs sc rd day))) d], .agg #[.int .i64 (sg (oN (hiO cs rs sc rd day))), .slice a' (ln (oN (hiO cs rs sc rd day))) c', .int .i64 (sg (oD (hiO cs rs sc rd day))), .slice b' (ln (oD (hiO cs rs sc rd day))) d'], .bool b_]) ∧ BD G w' a c (oN (loO cs rs sc rd day)) ∧ BD G w' b d (oD (loO cs rs sc rd day)) ∧ BD G w' a' c' (oN (hiO cs rs sc rd day)) ∧ BD G w' b' d' (oD (hiO cs rs sc rd day)) ∧ Below w.heap.size w w' := by
  rw [← hi]; exact scInterval_all h1 h2 hn1 hn2 hG
end Go.Proofs.Ytpjpkcelajbfnaa
namespace Go.Proofs.Ytpjpkcelajbfnaa
open Go.RowKit
variable {G : Nat}

/-- The certificate in force, itself. -/
def bestC (cs : List Ct) (sc day : Int) : Option Ct := match findC cs sc day with | none => none | some g => cs[g]?
def nearC (sc day : Int) (c : Ct) : Bool := c.s == sc && coversC c day
def lateC (o : Option Ct) (c : Ct) : Bool := match o with | none => true | some x => decide (x.f ≤ c.f)
theorem findS_app (cs ds : List Ct) (sc day : Int) : ∀ k, k ≤ cs.length → findS (cs ++ ds) sc day k = findS cs sc day k
  | 0, _ => rfl
  | k + 1, hk => by
    have ih := findS_app cs ds sc day k (by omega)
    simp only [findS, List.getElem?_append_left (show k < cs.length by omega), ih]
    have hl : ∀ c, laterB (cs ++ ds) (findS cs sc day k) c = laterB cs (findS cs sc day k) c := fun c => by
      unfold laterB
      cases hb : findS cs sc day k with
      | none => rfl
      | some b =>
        have := findS_lt cs sc day k b hb
        simp only [List.getElem?_append_left (show b < cs.length by omega)]
    simp only [hl]
theorem findC_snoc (cs : List Ct) (c : Ct) (sc day : Int) : findC (cs ++ [c]) sc day = if (nearC sc day c && lateC (bestC cs sc day) c) = true then some cs.length else findC cs sc day := by
  unfold findC
  rw [List.length_append]
  show findS (cs ++ [c]) sc day (cs.length + 1) = _
  have h := findS_app cs [c] sc day cs.length (Nat.le_refl _)
  simp only [findS, List.getElem?_append_right (Nat.le_refl _), Nat.sub_self, List.getElem?_cons_zero, h]
  have hl : laterB (cs ++ [c]) (findS cs sc day cs.length) c = lateC (bestC cs sc day) c := by
    unfold laterB lateC bestC findC
    cases hb : findS cs sc day cs.length with
    | none => rfl
    | some b =>
      have := findS_lt cs sc day _ b hb
      simp only [List.getElem?_append_left this, List.getElem?_eq_getElem this]
  rw [hl]; rfl
/-- The elements kept so far, in memory of the call's own. -/
def Kept {α : Type} (w : World) (B : Nat) (T : TypeId) (size : Nat) (cells : α → List Value) (v : Value) (l : List α) : Prop := w.ownsRow B T size v l.length (l.flatMap cells)
theorem Kept.nil {α : Type} (w : World) (T : TypeId) (size : Nat) (cells : α → List Value) : Kept (w.alloc (.cells #[] T)) w.heap.size T size cells (.slice (some ⟨w.heap.size, 0, none⟩) 0 0) [] :=
  World.ownsRow_made w #[] 0 (Nat.le_refl _) (Nat.zero_le _) (by simp)
theorem Kept.keep {α : Type} {w w' : World} {B : Nat} {T : TypeId} {size : Nat} {cells : α → List Value} {v : Value} {l : List α} (h : Kept w B T size cells v l) (hb : Below w.heap.size w w') : Kept w' B T size cells v l := own_below h hb
end Go.Proofs.Ytpjpkcelajbfnaa
