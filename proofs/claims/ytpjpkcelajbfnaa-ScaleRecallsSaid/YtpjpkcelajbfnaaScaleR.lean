/- The walk of ScaleRecalls: whatever the arguments, it returns true. -/
import Derived.Test.YtpjpkcelajbfnaaBase
import Derived.Test.YtpjpkcelajbfnaaBigSpec
import Derived.Test.YtpjpkcelajbfnaaBigB
import Derived.Test.YtpjpkcelajbfnaaBigC
import Derived.Test.YtpjpkcelajbfnaaBigD
import Derived.Test.YtpjpkcelajbfnaaBigK
import Derived.Test.YtpjpkcelajbfnaaBigL
import Derived.Test.YtpjpkcelajbfnaaScaleA
import Derived.Test.YtpjpkcelajbfnaaHeld
import Derived.Test.YtpjpkcelajbfnaaScaleE
import Derived.Test.YtpjpkcelajbfnaaBigQ
import Derived.Test.YtpjpkcelajbfnaaAw
import Derived.Test.YtpjpkcelajbfnaaFz
import Derived.Test.YtpjpkcelajbfnaaRefE
import Derived.Test.YtpjpkcelajbfnaaRefB5
import Derived.Test.YtpjpkcelajbfnaaScaleI
import Derived.Test.YtpjpkcelajbfnaaScaleQ
import Derived.Test.YtpjpkcelajbfnaaDag
import Derived.Test.YtpjpkcelajbfnaaBxD
import Derived.Test.YtpjpkcelajbfnaaStage
import Derived.Test.YtpjpkcelajbfnaaProg
import Derived.WalkKit
import Derived.WalkSpells
import Derived.WalkLawsBesides
import Derived.Handy
import Derived.Lib.Hide
import Derived.Lib.Strings
import Derived.Lib.Builder
import Derived.BigQuiet
import Derived.OwnWalk
import Derived.Laws.BitsLemmas
import Derived.WalkSmall
import Derived.Deep.QuietTactic
import Derived.StillTailTactics
import Derived.Maps.AppendAt
import Derived.IntWalk
import Derived.Deep.RegionHeld3
import Derived.Deep.DeepFit
import Derived.Deep.LoopGhost
import Derived.Deep.DeepCutAuto
import Derived.ArgAppend
namespace Go.Proofs.Ytpjpkcelajbfnaa
open Go.RowKit
variable {G : Nat}

theorem rec_snoc (rs : List Rc) (r : Rc) (sc day : Int) : recalledB (rs ++ [r]) sc day = (recalledB rs sc day || recB sc day r) := by
  simp [recalledB]
theorem ivl_rec {cs : List Ct} {rs rs2 : List Rc} {sc rd day : Int} (h : recalledB rs2 sc day = recalledB rs sc day) : ivl cs rs2 sc rd day = ivl cs rs sc rd day := by
  unfold ivl; rw [h]
theorem has_rec {cs : List Ct} {rs : List Rc} {sc rd day : Int} (h : recalledB rs sc day = true) : hasI cs rs sc rd day = false := by
  unfold hasI ivl
  split
  · rfl
  · split
    · rfl
    · rw [if_pos h]; rfl
theorem find_newC {cs : List Ct} {c : Ct} {sc day : Int} (hs : c.s = sc) (hr : rightC c = true) (h1 : c.f ≤ day) (h2 : day ≤ c.u) (hl : lateC (bestC cs sc day) c = true) : findC (cs ++ [c]) sc day = some cs.length := by
  rw [findC_snoc, if_pos]
  unfold nearC coversC
  simp [hs, hr, h1, h2, hl]
theorem late_none {cs : List Ct} {c : Ct} {sc day : Int} (h : findC cs sc day = none) : lateC (bestC cs sc day) c = true := by
  unfold bestC; rw [h]; rfl
theorem late_some {cs : List Ct} {c : Ct} {sc day : Int} {g : Nat} (h : findC cs sc day = some g) (hg : g < cs.length) (hf : cs[g].f ≤ c.f) : lateC (bestC cs sc day) c = true := by
  unfold bestC; rw [h]; simp only [List.getElem?_eq_getElem hg, lateC]; simpa using hf
instance {α : Type} {w w' : World} {B : Nat} {T : TypeId} {size : Nat} {cells : α → List Value} {v : Value} {l : List α} : Goes (Kept w B T size cells v l) w w' (Kept w' B T size cells v l) := ⟨fun h hb => h.keep hb⟩
theorem below_grownK {α : Type} {b : Nat} {w0 w w' : World} {e : TypeId} {size : Nat} {cells : α → List Value} {v : Value} {l : List α} (h : Below b w0 w) (ho : Kept w b e size cells v l) (hbw : b ≤ w.heap.size) (hg : w.grownBy w' v.ownBlock) : Below b w0 w' :=
  h.grown hg hbw fun k hk => (World.ownsRow.lt ho k hk).1
theorem below_only {b : Nat} {w0 w w' : World} {g : Nat} (h : Below b w0 w) (hg : w.grownBy w' (some g)) (hb : b ≤ g) (hs : b ≤ w.heap.size) : Below b w0 w' :=
  h.grown hg hs fun k hk => by simp at hk; omega
theorem below_noneK {w w' : World} (hg : w.grownBy w' none) : Below w.heap.size w w' := ⟨hg.os, hg.tape, hg.output, hg.size, fun k hk => hg.block k hk (by simp)⟩
theorem Bx.ne_tyK {w : World} {g g' : Nat} {T T' : TypeId} {cs cs' : Array Value} (h : Bx w g T cs) (h' : Bx w g' T' cs') (hT : (T == T') = false) : g ≠ g' := by
  rintro rfl
  unfold Bx at h h'
  rw [h] at h'
  simp only [Option.some.injEq, Obj.cells.injEq] at h'
  rw [h'.2.1] at hT
  simp at hT
theorem own_blk {w : World} {B : Nat} {e : TypeId} {size n : Nat} {v : Value} {xs : List Value} (h : w.ownsRow B e size v n xs) : v.ownBlock = none ∨ ∃ g cur, v.ownBlock = some g ∧ B ≤ g ∧ Bx w g e cur := by
  rcases h.2 with ⟨rfl, -⟩ | ⟨g, cap, cur, rfl, hg, hh, -⟩
  · exact .inl rfl
  · exact .inr ⟨g, cur, rfl, hg, hh⟩
theorem Bx.grownK {w w' : World} {g : Nat} {T : TypeId} {cs : Array Value} {α : Type} {B : Nat} {e : TypeId} {size : Nat} {cells : α → List Value} {v : Value} {l : List α} (h : Bx w g T cs) (ho : Kept w B e size cells v l) (hT : (T == e) = false) (hg : w.grownBy w' v.ownBlock) : Bx w' g T cs := by
  rcases own_blk ho with h1 | ⟨g', cur, h1, h2, h3⟩
  · rw [h1] at hg; exact h.keep (below_noneK hg)
  · rw [h1] at hg; exact h.only hg (h.ne_tyK h3 hT)
theorem flatK_len {α : Type} {cells : α → List Value} {size : Nat} (hc : ∀ x, (cells x).length = size) : ∀ l : List α, (l.flatMap cells).length = l.length * size
  | [] => by simp
  | x :: r => by rw [List.flatMap_cons, List.length_append, hc, flatK_len hc r, List.length_cons, Nat.succ_mul, Nat.add_comm]
theorem flatK_at {α : Type} {cells : α → List Value} {size : Nat} (hp : 0 < size) (hc : ∀ x, (cells x).length = size) : ∀ (l : List α) (j : Nat) (u : Value), (l.flatMap cells)[j]? = some u → ∃ x, l[j / size]? = some x ∧ (cells x)[j % size]? = some u
  | [], j, u, h => by simp at h
  | x :: r, j, u, h => by
    rw [List.flatMap_cons, List.getElem?_append] at h
    split at h
    · rename_i hj; rw [hc] at hj
      exact ⟨x, by rw [Nat.div_eq_of_lt hj]; rfl, by rw [Nat.mod_eq_of_lt hj]; exact h⟩
    · rename_i hj; rw [hc] at hj h
      obtain ⟨y, h1, h2⟩ := flatK_at hp hc r (j - size) u h
      have hj' : size ≤ j := by omega
      refine ⟨y, ?_, ?_⟩
      · rw [Nat.div_eq_sub_div hp hj']; exact h1
      · rw [Nat.mod_eq_sub_mod hj']; exact h2
/-- append(empty slice of one's own, elements...), the second ones anywhere in memory, or nil. -/
theorem wp_copyK {α : Type} {cells : α → List Value} {size : Nat} {P : Program} {o : Oper} {a : Act} {K : Act → World → Prop} {Q : Exit → Act → World → Prop} {s y : Operand} {t T : TypeId} {z : Value} {bytes B : Nat} {w : World} {g : Nat} {l : List α} {a2 : Option Addr} {cap : Nat}
    (E : ElemT P t T z size bytes) (hb : Bx w g T #[]) (hB : B ≤ g) (hr : RdS w (.slice a2 l.length cap) l.length size (fun k => (l[k]?.map cells).getD [])) (hc : ∀ x : α, (cells x).length = size) (h1 : ∀ x : α, ∀ u ∈ cells x, u.oneCell' = true)
    (hbytes : l.length * bytes ≤ 140737488355328) (h63 : l.length ≤ 140737488355328)
    (ho : o.op = .call { callee := .builtin .append, args := #[s, y], argTypes := #[t, t] }) (hs : a.eval s = .slice (some ⟨g, 0, none⟩) 0 0) (hy : a.eval y = .slice a2 l.length cap)
    (hK : ∀ v w', Kept w' B T size cells v l → w.grownBy w' (some g) → K (a.put o.dst v) w') : o.wp P a w K Q := by
  have hown : w.ownsRow B T size (.slice (some ⟨g, 0, none⟩) 0 0) 0 [] := ⟨by simp, .inr ⟨g, 0, #[], rfl, hB, hb, Nat.le_refl _, Nat.zero_le _, by simp, by simp⟩⟩
  obtain ⟨i0, hi, hz0, hz1, hz2⟩ := info_parts E.info
  have hBw : B ≤ w.heap.size := by have := hb.lt; omega
  obtain ⟨a', cap', hv, hcell⟩ := hr
  cases hv
  cases a2 with
  | none =>
    have h0 : l.length = 0 := by
      rcases Nat.eq_zero_or_pos l.length with h | h
      · exact h
      · obtain ⟨_, _, h2, -⟩ := hcell 0 h; cases h2
    obtain rfl : l = [] := List.length_eq_zero_iff.1 h0
    have hrun : (Builtin.append_ #[t, t] o.type #[.slice (some ⟨g, 0, none⟩) 0 0, .slice none 0 cap]).run P w = .ok (.slice (some ⟨g, 0, none⟩) 0 0) w := by
      simp [Builtin.append_, run_underlying E.under, sizeOf, typeInfo, hi, Builtin.lenOf, Builtin.firstCells, storeCells]
    unfold Oper.wp execOp
    simp only [List.length_nil] at hy
    simp only [ho, resolve, invoke, builtin, Sem.run_bind, Sem.run_pure, Result.andThen_ok, List.map_toArray, List.map_cons, List.map_nil, hs, hy, hrun]
    exact hK _ _ hown (World.grownBy.refl _ _)
  | some ad =>
    refine wp_append_own (w := w) s y t ho B T i0 z size bytes E.under hi hz0 hz1 hz2 E.cells E.pos _ 0 [] hs hown ad l.length cap (l.flatMap cells) hy (flatK_len hc l) (fun j u hj => ?_) (fun u hu => ?_) (by unfold maxLen; omega) (by simpa using hbytes) hBw fun v' w' h2 h3 _ => ?_
    · obtain ⟨x, hx, hu⟩ := flatK_at E.pos hc l j u hj
      have hlt : j / size < l.length := (List.getElem?_eq_some_iff.1 hx).1
      obtain ⟨b, off, h4, -, h5⟩ := hcell (j / size) hlt
      cases h4
      have h6 := h5 (j % size) u (by simp only [hx, Option.map_some, Option.getD_some]; exact hu)
      rw [add_off]
      have hd : j / size * size + j % size = j := by rw [Nat.mul_comm]; exact Nat.div_add_mod j _
      rw [Nat.add_assoc, hd] at h6; exact h6
    · obtain ⟨x, -, hu⟩ := List.mem_flatMap.1 hu
      exact h1 x u hu
    · rw [Nat.zero_add, List.nil_append] at h2
      exact hK v' w' h2 h3
/-- append(elements of one's own, one more). -/
theorem wp_pushK {α : Type} {cells : α → List Value} {size : Nat} {P : Program} {o : Oper} {a : Act} {K : Act → World → Prop} {Q : Exit → Act → World → Prop} {s y : Operand} {t T : TypeId} {z : Value} {bytes B : Nat} {w : World} {b : Nat} {cs : Array Value} {v : Value} {l : List α}
    (E : ElemT P t T z size bytes) (h : Kept w B T size cells v l) (hB : B ≤ w.heap.size) (hb : Bx w b T cs) (x : α) (hx : cs = (cells x).toArray) (hc : (cells x).length = size) (h1 : ∀ u ∈ cells x, u.oneCell' = true)
    (hbytes : (l.length + 1) * bytes ≤ 140737488355328) (h63 : l.length + 1 ≤ 140737488355328)
    (ho : o.op = .call { callee := .builtin .append, args := #[s, y], argTypes := #[t, t] }) (hs : a.eval s = v) (hy : a.eval y = .slice (some ⟨b, 0, none⟩) 1 1)
    (hK : ∀ v' w', Kept w' B T size cells v' (l ++ [x]) → w.grownBy w' v.ownBlock → K (a.put o.dst v') w') : o.wp P a w K Q := by
  obtain ⟨i0, hi, hz0, hz1, hz2⟩ := info_parts E.info
  refine wp_append_own (w := w) s y t ho B T i0 z size bytes E.under hi hz0 hz1 hz2 E.cells E.pos v l.length (l.flatMap cells) hs h ⟨b, 0, none⟩ 1 1 (cells x) hy (by rw [hc, Nat.one_mul])
    (fun j u hj => by rw [add_off, Nat.zero_add, hb.at.1, hx]; simpa using hj) h1 (by unfold maxLen; omega) hbytes hB fun v' w' h2 h3 _ => ?_
  refine hK v' w' ?_ h3
  unfold Kept
  rw [List.length_append, List.flatMap_append]; simpa using h2
theorem rc_len (x : Rc) : (rcCells x).length = 2 := rfl
theorem ct_len (x : Ct) : (cCells x).length = 6 := rfl
theorem rc_one (x : Rc) : ∀ u ∈ rcCells x, u.oneCell' = true := by intro u hu; simp [rcCells] at hu; rcases hu with rfl | rfl <;> rfl
theorem ct_one (x : Ct) : ∀ u ∈ cCells x, u.oneCell' = true := by intro u hu; simp [cCells] at hu; rcases hu with rfl | rfl | rfl | rfl | rfl | rfl <;> rfl
set_option maxRecDepth 100000 in
set_option maxHeartbeats 4000000 in
theorem recalls_1 {cs : List Ct} {rs : List Rc} {sc rd day xs xt c0 cf cu cn cp cd : Int} {a1 a2 : Option Addr} {cap1 cap2 : Nat} {w : World} (hG : G ≤ w.heap.size) (h1 : CtIn w (.slice a1 cs.length cap1) cs) (h2 : RcIn w (.slice a2 rs.length cap2) rs) (_hl : 110 < cs.length) :
    Calls Try.prog 7 #[.slice a1 cs.length cap1, .slice a2 rs.length cap2, .int .i64 sc, .int .i64 rd, .int .i64 day, .agg #[.int .i64 xs, .int .i64 xt], .agg #[.int .i64 c0, .int .i64 cf, .int .i64 cu, .int .i64 cn, .int .i64 cp, .int .i64 cd]] w fun e w' => e = .returned (.bool true) ∧ Below w.heap.size w w' := by
  have ek0 : decide (110 < (cs.length : Int)) = true := decide_eq_true (by omega)
  have H1 : Hid (CtIn w (.slice a1 cs.length cap1) cs) := h1
  have H2 : Hid (RcIn w (.slice a2 rs.length cap2) rs) := h2
  clear h1 h2
  have M : Hid (Below w.heap.size w w) := Below.refl _ _
  go_enter Try.func7, Try.ntmps7
  go_upto_region 1 with fail
  obtain ⟨w1, hv⟩ : ∃ w_ : World, w_ = ((w.alloc (.cells #[.int .i64 xs, .int .i64 xt] 52)).alloc (.cells #[.int .i64 c0, .int .i64 cf, .int .i64 cu, .int .i64 cn, .int .i64 cp, .int .i64 cd] 25)) := ⟨_, rfl⟩
  rw [← hv]
  have hbx := bx2 w 52 25 #[.int .i64 xs, .int .i64 xt] #[.int .i64 c0, .int .i64 cf, .int .i64 cu, .int .i64 cn, .int .i64 cp, .int .i64 cd]
  rw [← hv] at hbx
  have hbn : Below w.heap.size w w1 := by rw [hv]; exact (Below.alloc (Below.alloc (Below.refl _ _) (by simp <;> omega) _) (by simp <;> omega) _)
  replace M := Lib.hid (And.intro hbx.2 (And.intro hbx.1 (Goes.go M.out hbn)))
  clear hbx hbn
  clear hv
  go_wp2_with fail
  refine (sane_ok (G := G) _ (Nat.le_trans hG (M.out.2.2).size)).mono ?_
  rintro e w2 ⟨rfl, hb⟩
  replace M := Lib.hid (Goes.go M.out hb)
  clear hb
  go_wp2_with fail
  go_ret
  exact ⟨rfl, (M.out.2.2)⟩
set_option maxRecDepth 100000 in
set_option maxHeartbeats 4000000 in
theorem recalls_2 {cs : List Ct} {rs : List Rc} {sc rd day xs xt c0 cf cu cn cp cd : Int} {a1 a2 : Option Addr} {cap1 cap2 : Nat} {w : World} (hG : G ≤ w.heap.size) (h1 : CtIn w (.slice a1 cs.length cap1) cs) (h2 : RcIn w (.slice a2 rs.length cap2) rs) (_hl : cs.length ≤ 110) (_hm : 50 < rs.length) :
    Calls Try.prog 7 #[.slice a1 cs.length cap1, .slice a2 rs.length cap2, .int .i64 sc, .int .i64 rd, .int .i64 day, .agg #[.int .i64 xs, .int .i64 xt], .agg #[.int .i64 c0, .int .i64 cf, .int .i64 cu, .int .i64 cn, .int .i64 cp, .int .i64 cd]] w fun e w' => e = .returned (.bool true) ∧ Below w.heap.size w w' := by
  have ek0 : decide (110 < (cs.length : Int)) = false := decide_eq_false (by omega)
  have ek1 : decide (50 < (rs.length : Int)) = true := decide_eq_true (by omega)
  have H1 : Hid (CtIn w (.slice a1 cs.length cap1) cs) := h1
  have H2 : Hid (RcIn w (.slice a2 rs.length cap2) rs) := h2
  clear h1 h2
  have M : Hid (Below w.heap.size w w) := Below.refl _ _
  go_enter Try.func7, Try.ntmps7
  go_upto_region 1 with fail
  obtain ⟨w1, hv⟩ : ∃ w_ : World, w_ = ((w.alloc (.cells #[.int .i64 xs, .int .i64 xt] 52)).alloc (.cells #[.int .i64 c0, .int .i64 cf, .int .i64 cu, .int .i64 cn, .int .i64 cp, .int .i64 cd] 25)) := ⟨_, rfl⟩
  rw [← hv]
  have hbx := bx2 w 52 25 #[.int .i64 xs, .int .i64 xt] #[.int .i64 c0, .int .i64 cf, .int .i64 cu, .int .i64 cn, .int .i64 cp, .int .i64 cd]
  rw [← hv] at hbx
  have hbn : Below w.heap.size w w1 := by rw [hv]; exact (Below.alloc (Below.alloc (Below.refl _ _) (by simp <;> omega) _) (by simp <;> omega) _)
  replace M := Lib.hid (And.intro hbx.2 (And.intro hbx.1 (Goes.go M.out hbn)))
  clear hbx hbn
  clear hv
  go_wp2_with fail
  refine (sane_ok (G := G) _ (Nat.le_trans hG (M.out.2.2).size)).mono ?_
  rintro e w2 ⟨rfl, hb⟩
  replace M := Lib.hid (Goes.go M.out hb)
  clear hb
  go_wp2_with fail
  go_ret
  exact ⟨rfl, (M.out.2.2)⟩
set_option maxRecDepth 100000 in
set_option maxHeartbeats 16000000 in
theorem recalls_s18 {cs cs2 : List Ct} {rs rs2 : List Rc} {sc rd day xs xt c0 cf cu cn cp cd : Int} {a1 a2 : Option Addr} {cap1 cap2 : Nat} {w : World} {ib ic b1 b2 qb d1 d2 : Bool}  {w10 : World}  {B1 : Nat} {x1_ x3_ x5_ x6_ x7_ x8_ x9_ x10_ x11_ x12_ x16_ x17_ x18_ x19_ x20_ x21_ x22_ x23_ x24_ x25_ x26_ x27_ x28_ x29_ x30_ x31_ x32_ x33_ x34_ x35_ x36_ x37_ x38_ x39_ x40_ x41_ x42_ x43_ x44_ x45_ x46_ x47_ x48_ x49_ x50_ x51_ x52_ x53_ x54_ x55_ x56_ x57_ x58_ x59_ x60_ x61_ x62_ x63_ x64_ x65_ x66_ x67_ x68_ x69_ x70_ x71_ x72_ x73_ x74_ x75_ x76_ x77_ x78_ x79_ x80_ x81_ x82_ x83_ x84_ x85_ x86_ x87_ x88_ x89_ x90_ x91_ x92_ x93_ x94_ x95_ x96_ x97_ x98_ x99_ x100_ x101_ x102_ x103_ x104_ x105_ x106_ x107_ x108_ x109_ x110_ x111_ x112_ x113_ x114_ x115_ x116_ x117_ x118_ x119_ x120_ x121_ x122_ x123_ x124_ x125_ x126_ x127_ x128_ x129_ x130_ x131_ x132_ x133_ x134_ x135_ x136_ x137_ x138_ x139_ x140_ x141_ x142_ x143_ x144_ x145_ x146_ x147_ x148_ x149_ x150_ x151_ x152_ x153_ x154_ x155_ x156_ x157_ x158_ x159_ x160_ x161_ x162_ x163_ x164_ x165_ x166_ x167_ x168_ x169_ x170_ : Value} (_hG : G ≤ w.heap.size) (_hl : cs.length ≤ 110) (_hm : rs.length ≤ 50) (HRL : Hid (rs2.length = rs.length + 1)) (HCL2 : Hid (cs2.length = cs.length + 1)) (_HIB : Hid (hasI cs rs sc rd day = ib)) (_HIC : Hid (hasI cs rs2 sc rd day = ic)) (_HR2 : Hid (rs2 = rs ++ [(⟨xs, xt⟩ : Rc)])) (HC2 : Hid (cs2 = cs ++ [(⟨sc, cf, cu, cn, cp, cd⟩ : Ct)])) (_HQB : Hid (rightC ⟨sc, cf, cu, cn, cp, cd⟩ = qb)) (_hb1 : decide (xs = sc) = b1) (_hb1e : (xs == sc) = b1) (_hb2 : decide (xt ≤ day) = b2) (_hd1 : decide (day < cf) = d1) (_hd2 : decide (cu < day) = d2) (_HY : Hid ((b1 && b2) = true → hasI cs rs2 sc rd day = false)) (_HNO : Hid ((b1 && b2) = false → ivl cs rs2 sc rd day = ivl cs rs sc rd day)) (_ek0 : decide (110 < (cs.length : Int)) = false) (_ek1 : decide (50 < (rs.length : Int)) = false) (H1 : Hid (CtIn w (.slice a1 cs.length cap1) cs)) (_H2 : Hid (RcIn w (.slice a2 rs.length cap2) rs)) (HN : Hid (findC cs2 sc day = some cs.length)) (_oB1 : w.heap.size ≤ B1) (M : Hid (Bx w10 B1 25 #[.int .i64 sc, .int .i64 cf, .int .i64 cu, .int .i64 cn, .int .i64 cp, .int .i64 cd] ∧ Below w.heap.size w w10)) :
    ∀ K : Act → World → Prop, (∀ a_ w_, Code.wp Try.prog (restAt Try.f7 18) (bodyPost Try.prog Try.f7 fun e w' => e = .returned (.bool true) ∧ Below w.heap.size w w') a_ w_ → K a_ w_) → Code.wp Try.prog (regAt Try.f7 18) (Exit.then K (bodyPost Try.prog Try.f7 fun e w' => e = .returned (.bool true) ∧ Below w.heap.size w w')) ⟨List.toArray (.slice a1 cs.length cap1 :: x1_ :: .int .i64 sc :: x3_ :: .int .i64 day :: x5_ :: x6_ :: x7_ :: x8_ :: x9_ :: x10_ :: x11_ :: x12_ :: .pointer (some ⟨B1, 0, none⟩) :: .bool false :: .bool true :: x16_ :: x17_ :: x18_ :: x19_ :: x20_ :: x21_ :: x22_ :: x23_ :: x24_ :: x25_ :: x26_ :: x27_ :: x28_ :: x29_ :: x30_ :: x31_ :: x32_ :: x33_ :: x34_ :: x35_ :: x36_ :: x37_ :: x38_ :: x39_ :: x40_ :: x41_ :: x42_ :: x43_ :: x44_ :: x45_ :: x46_ :: x47_ :: x48_ :: x49_ :: x50_ :: x51_ :: x52_ :: x53_ :: x54_ :: x55_ :: x56_ :: x57_ :: x58_ :: x59_ :: x60_ :: x61_ :: x62_ :: x63_ :: x64_ :: x65_ :: x66_ :: x67_ :: x68_ :: x69_ :: x70_ :: x71_ :: x72_ :: x73_ :: x74_ :: x75_ :: x76_ :: x77_ :: x78_ :: x79_ :: x80_ :: x81_ :: x82_ :: x83_ :: x84_ :: x85_ :: x86_ :: x87_ :: x88_ :: x89_ :: x90_ :: x91_ :: x92_ :: x93_ :: x94_ :: x95_ :: x96_ :: x97_ :: x98_ :: x99_ :: x100_ :: x101_ :: x102_ :: x103_ :: x104_ :: x105_ :: x106_ :: x107_ :: x108_ :: x109_ :: x110_ :: x111_ :: x112_ :: x113_ :: x114_ :: x115_ :: x116_ :: x117_ :: x118_ :: x119_ :: x120_ :: x121_ :: x122_ :: x123_ :: x124_ :: x125_ :: x126_ :: x127_ :: x128_ :: x129_ :: x130_ :: x131_ :: x132_ :: x133_ :: x134_ :: x135_ :: x136_ :: x137_ :: x138_ :: x139_ :: x140_ :: x141_ :: x142_ :: x143_ :: x144_ :: x145_ :: x146_ :: x147_ :: x148_ :: x149_ :: x150_ :: x151_ :: x152_ :: x153_ :: x154_ :: x155_ :: x156_ :: x157_ :: x158_ :: x159_ :: x160_ :: x161_ :: x162_ :: x163_ :: x164_ :: x165_ :: x166_ :: x167_ :: x168_ :: x169_ :: x170_ :: []), []⟩ w10 := by
  intro Kst_ hst_
  conv => arg 2; whnf
  conv at hst_ => enter [a_, w_, 1, 2]; whnf
  go_upto_region 18 with fail
  go_cut [24, 25] (fun s24 s25 wx => s24 = .int .i64 (cs.length : Int) ∧ s25 = .bool true ∧ Hid (Bx wx B1 25 #[.int .i64 sc, .int .i64 cf, .int .i64 cu, .int .i64 cn, .int .i64 cp, .int .i64 cd] ∧ Below w.heap.size w wx))
  case first =>
    obtain ⟨w11, hv⟩ : ∃ w_ : World, w_ = w10.drew := ⟨_, rfl⟩
    replace M := Lib.hid (Goes.go M.out (hv ▸ below_drew _ : Below w10.heap.size w10 w11))
    refine wp_region_held_drew (S := (fun w' => w'.cell? ⟨B1, 0, none⟩ = some (.int .i64 sc) ∧ w'.cell? ⟨B1, 1, none⟩ = some (.int .i64 cf) ∧ w'.cell? ⟨B1, 2, none⟩ = some (.int .i64 cu) ∧ w'.cell? ⟨B1, 3, none⟩ = some (.int .i64 cn) ∧ w'.cell? ⟨B1, 4, none⟩ = some (.int .i64 cp) ∧ w'.cell? ⟨B1, 5, none⟩ = some (.int .i64 cd))) (by kernel_rfl) (by rw [← hv]; exact ⟨(M.out.1).at.1 0, (M.out.1).at.1 1, (M.out.1).at.1 2, (M.out.1).at.1 3, (M.out.1).at.1 4, (M.out.1).at.1 5⟩) (fun hH240 => ?_)
    rw [← hv] at hH240 ⊢
    clear hv
    have Mb_ := M
    have lb1_ : B1 < w11.heap.size := ((M.out.1)).lt
    refine tk at1 ?_
    refine tk at3 ?_
    refine tk at6 ?_
    refine tk at7 ?_
    refine wpAnyH_abs (fun X_ a0_ hX_ ha0_ => ?_)
    clear hH240
    have hD7 : ∀ (wk_ : World) (A0_ : Nat) (v2_ : Value) (A4_ : Nat) (r5a_ : Option Addr) (r5c_ : Nat), Hid (Below w11.heap.size w11 wk_) → X_ 0 #[true, true, true, true, true, true, true, true, true, true, true, true, true, true] (Act.put (Act.put (Act.put (Act.put (Act.put (Act.put (Act.put (Act.put (Act.put (Act.put a0_ (some 150) (.slice (some ⟨A0_, 0, none⟩) 0 0)) (some 152) (v2_)) (some 154) (.slice (some ⟨A4_, 0, none⟩) 1 1)) (some 155) (.slice r5a_ cs2.length r5c_)) (some 158) (.tuple #[.int .i64 (cs.length : Int), .bool true])) (some 149) (.tuple #[.int .i64 (cs.length : Int), .bool true])) (some 159) (.int .i64 (cs.length : Int))) (some 160) (.bool true)) (some 24) (.int .i64 (cs.length : Int))) (some 25) (.bool true)) wk_ := by
      intro wk_ A0_ v2_ A4_ r5a_ r5c_ rel_
      subst hX_ ha0_
      have M := Lib.hid (And.intro rel_.out (Goes.go Mb_.out rel_.out))
      clear rel_
      have hH241 : (fun w' => w'.cell? ⟨B1, 0, none⟩ = some (.int .i64 sc) ∧ w'.cell? ⟨B1, 1, none⟩ = some (.int .i64 cf) ∧ w'.cell? ⟨B1, 2, none⟩ = some (.int .i64 cu) ∧ w'.cell? ⟨B1, 3, none⟩ = some (.int .i64 cn) ∧ w'.cell? ⟨B1, 4, none⟩ = some (.int .i64 cp) ∧ w'.cell? ⟨B1, 5, none⟩ = some (.int .i64 cd)) wk_ := ⟨(M.out.2.1).at.1 0, (M.out.2.1).at.1 1, (M.out.2.1).at.1 2, (M.out.2.1).at.1 3, (M.out.2.1).at.1 4, (M.out.2.1).at.1 5⟩
      (try simp only [Act.put, List.setIfInBounds_toArray, List.set_cons_zero, List.set_cons_succ])
      refine wpAnyH_done (by kernel_rfl) ?_ _
      clear hH241
      go_wp2_with fail
      go_meet
      exact ⟨rfl, rfl, (M.out.2.1), (M.out.2.2)⟩
    simp only [ha0_, Act.put, List.setIfInBounds_toArray, List.set_cons_zero, List.set_cons_succ] at hD7
    have hD6 : ∀ (wk_ : World) (A0_ : Nat) (v2_ : Value) (A4_ : Nat) (r5a_ : Option Addr) (r5c_ : Nat), Hid (CtIn wk_ (.slice r5a_ cs2.length r5c_) cs2 ∧ Below w11.heap.size w11 wk_) → X_ 6 #[true, true, true, true, true, true, true, true, false, false, false, false, false, false] (Act.put (Act.put (Act.put (Act.put a0_ (some 150) (.slice (some ⟨A0_, 0, none⟩) 0 0)) (some 152) (v2_)) (some 154) (.slice (some ⟨A4_, 0, none⟩) 1 1)) (some 155) (.slice r5a_ cs2.length r5c_)) wk_ := by
      intro wk_ A0_ v2_ A4_ r5a_ r5c_ rel_
      subst hX_ ha0_
      have M := Lib.hid (And.intro rel_.out.1 (And.intro rel_.out.2 (Goes.go Mb_.out rel_.out.2)))
      clear rel_
      have hH242 : (fun w' => w'.cell? ⟨B1, 0, none⟩ = some (.int .i64 sc) ∧ w'.cell? ⟨B1, 1, none⟩ = some (.int .i64 cf) ∧ w'.cell? ⟨B1, 2, none⟩ = some (.int .i64 cu) ∧ w'.cell? ⟨B1, 3, none⟩ = some (.int .i64 cn) ∧ w'.cell? ⟨B1, 4, none⟩ = some (.int .i64 cp) ∧ w'.cell? ⟨B1, 5, none⟩ = some (.int .i64 cd)) wk_ := ⟨(M.out.2.2.1).at.1 0, (M.out.2.2.1).at.1 1, (M.out.2.2.1).at.1 2, (M.out.2.2.1).at.1 3, (M.out.2.2.1).at.1 4, (M.out.2.2.1).at.1 5⟩
      (try simp only [Act.put, List.setIfInBounds_toArray, List.set_cons_zero, List.set_cons_succ])
      have lw_ := ((M.out.2.1)).size
      refine wpAnyH_ready (rs := [8]) (by kernel_rfl) (by simp) ?_
      refine AllReadyH.cons at8 (fun K hK => ?_) AllReadyH.nil
      go_simp
      refine (scFind_v (sc := sc) (day := day) (i := (cs.length : Int)) (b := true) (M.out.1) (by have h1_ := HRL.out; have h2_ := HCL2.out; omega) (by rw [HN.out]; rfl) (by rw [HN.out]; rfl)).mono ?_
      rintro e w12 ⟨rfl, hb⟩
      replace M := Lib.hid (Goes.go M.out hb)
      clear hb
      (try go_wp2_with fail)
      refine hK.out _ _ (⟨(M.out.2.2.1).at.1 0, (M.out.2.2.1).at.1 1, (M.out.2.2.1).at.1 2, (M.out.2.2.1).at.1 3, (M.out.2.2.1).at.1 4, (M.out.2.2.1).at.1 5⟩) (fun hH243 => ?_)
      clear hK K hH242
      (try simp only [Act.put, List.setIfInBounds_toArray, List.set_cons_zero, List.set_cons_succ])
      refine tk at9 ?_
      refine tk at10 ?_
      refine tk at11 ?_
      refine tk at12 ?_
      refine tk at13 ?_
      exact at_node (by kernel_rfl) (hD7 w12 A0_ v2_ A4_ r5a_ r5c_ (Lib.hid (M.out.2.1)))
    simp only [ha0_, Act.put, List.setIfInBounds_toArray, List.set_cons_zero, List.set_cons_succ] at hD6
    have hD5 : ∀ (wk_ : World) (A0_ : Nat) (v2_ : Value) (A4_ : Nat), w11.heap.size ≤ A4_ → Hid (Bx wk_ A4_ 25 #[.int .i64 sc, .int .i64 cf, .int .i64 cu, .int .i64 cn, .int .i64 cp, .int .i64 cd] ∧ Kept wk_ w11.heap.size 25 6 cCells v2_ cs ∧ Below w11.heap.size w11 wk_) → X_ 7 #[true, true, true, true, true, false, true, true, false, false, false, false, false, false] (Act.put (Act.put (Act.put a0_ (some 150) (.slice (some ⟨A0_, 0, none⟩) 0 0)) (some 152) (v2_)) (some 154) (.slice (some ⟨A4_, 0, none⟩) 1 1)) wk_ := by
      intro wk_ A0_ v2_ A4_ c0_ rel_
      subst hX_ ha0_
      have M := Lib.hid (And.intro rel_.out.1 (And.intro rel_.out.2.1 (And.intro rel_.out.2.2 (Goes.go Mb_.out rel_.out.2.2))))
      clear rel_
      have hH244 : (fun w' => w'.cell? ⟨B1, 0, none⟩ = some (.int .i64 sc) ∧ w'.cell? ⟨B1, 1, none⟩ = some (.int .i64 cf) ∧ w'.cell? ⟨B1, 2, none⟩ = some (.int .i64 cu) ∧ w'.cell? ⟨B1, 3, none⟩ = some (.int .i64 cn) ∧ w'.cell? ⟨B1, 4, none⟩ = some (.int .i64 cp) ∧ w'.cell? ⟨B1, 5, none⟩ = some (.int .i64 cd)) wk_ := ⟨(M.out.2.2.2.1).at.1 0, (M.out.2.2.2.1).at.1 1, (M.out.2.2.2.1).at.1 2, (M.out.2.2.2.1).at.1 3, (M.out.2.2.2.1).at.1 4, (M.out.2.2.2.1).at.1 5⟩
      (try simp only [Act.put, List.setIfInBounds_toArray, List.set_cons_zero, List.set_cons_succ])
      have lw_ := ((M.out.2.2.1)).size
      have l4_ := ((M.out.1)).lt
      refine wpAnyH_ready (rs := [5]) (by kernel_rfl) (by simp) ?_
      refine AllReadyH.cons at5 (fun K hK => ?_) AllReadyH.nil
      rw [if_pos (by rfl)]
      refine wp_pushK elemCert (M.out.2.1) ((M.out.2.2.1)).size (M.out.1) (⟨sc, cf, cu, cn, cp, cd⟩ : Ct) rfl rfl (ct_one _) (by omega) (by omega) rfl rfl rfl (fun v_247 w12 ho_ hg_ => ?_)
      have hr_ : CtIn w12 v_247 cs2 := by rw [HC2.out]; exact ctin_own ho_ rfl
      obtain ⟨p_245, q_246, rfl⟩ := hr_.shape
      have bb_ := below_grownK (M.out.2.2.1) (M.out.2.1) ((M.out.2.2.1)).size hg_
      have M_ := Lib.hid (And.intro hr_ (And.intro bb_ (Goes.go Mb_.out bb_)))
      clear M
      have M := M_
      clear M_ ho_ hg_ bb_
      clear hr_
      refine hK.out _ _ (⟨(M.out.2.2.1).at.1 0, (M.out.2.2.1).at.1 1, (M.out.2.2.1).at.1 2, (M.out.2.2.1).at.1 3, (M.out.2.2.1).at.1 4, (M.out.2.2.1).at.1 5⟩) (fun hH248 => ?_)
      clear hK K hH244
      (try simp only [Act.put, List.setIfInBounds_toArray, List.set_cons_zero, List.set_cons_succ])
      exact at_node (by kernel_rfl) (hD6 w12 A0_ v2_ A4_ p_245 q_246 (Lib.hid ⟨(M.out.1), (M.out.2.1)⟩))
    simp only [ha0_, Act.put, List.setIfInBounds_toArray, List.set_cons_zero, List.set_cons_succ] at hD5
    have hD3 : ∀ (wk_ : World) (A0_ : Nat) (v2_ : Value), Hid (Kept wk_ w11.heap.size 25 6 cCells v2_ cs ∧ Below w11.heap.size w11 wk_) → X_ 8 #[true, true, true, true, false, false, true, true, false, false, false, false, false, false] (Act.put (Act.put a0_ (some 150) (.slice (some ⟨A0_, 0, none⟩) 0 0)) (some 152) (v2_)) wk_ := by
      intro wk_ A0_ v2_ rel_
      subst hX_ ha0_
      have M := Lib.hid (And.intro rel_.out.1 (And.intro rel_.out.2 (Goes.go Mb_.out rel_.out.2)))
      clear rel_
      have hH249 : (fun w' => w'.cell? ⟨B1, 0, none⟩ = some (.int .i64 sc) ∧ w'.cell? ⟨B1, 1, none⟩ = some (.int .i64 cf) ∧ w'.cell? ⟨B1, 2, none⟩ = some (.int .i64 cu) ∧ w'.cell? ⟨B1, 3, none⟩ = some (.int .i64 cn) ∧ w'.cell? ⟨B1, 4, none⟩ = some (.int .i64 cp) ∧ w'.cell? ⟨B1, 5, none⟩ = some (.int .i64 cd)) wk_ := ⟨(M.out.2.2.1).at.1 0, (M.out.2.2.1).at.1 1, (M.out.2.2.1).at.1 2, (M.out.2.2.1).at.1 3, (M.out.2.2.1).at.1 4, (M.out.2.2.1).at.1 5⟩
      (try simp only [Act.put, List.setIfInBounds_toArray, List.set_cons_zero, List.set_cons_succ])
      have lw_ := ((M.out.2.1)).size
      refine wpAnyH_ready (rs := [4]) (by kernel_rfl) (by simp) ?_
      refine AllReadyH.cons at4 (fun K hK => ?_) AllReadyH.nil
      go_simp
      obtain ⟨w12, hv⟩ : ∃ w_ : World, w_ = (wk_.alloc (.cells #[.int .i64 sc, .int .i64 cf, .int .i64 cu, .int .i64 cn, .int .i64 cp, .int .i64 cd] 25)) := ⟨_, rfl⟩
      rw [← hv]
      have ow9_ : B1 < wk_.heap.size := ((M.out.2.2.1)).lt
      replace M := Lib.hid (And.intro (hv ▸ bx1 wk_ 25 #[.int .i64 sc, .int .i64 cf, .int .i64 cu, .int .i64 cn, .int .i64 cp, .int .i64 cd]) (Goes.go M.out (hv ▸ below_alloc _ _ : Below wk_.heap.size wk_ w12)))
      clear hv
      refine hK.out _ _ (⟨(M.out.2.2.2.1).at.1 0, (M.out.2.2.2.1).at.1 1, (M.out.2.2.2.1).at.1 2, (M.out.2.2.2.1).at.1 3, (M.out.2.2.2.1).at.1 4, (M.out.2.2.2.1).at.1 5⟩) (fun hH250 => ?_)
      clear hK K hH249
      (try simp only [Act.put, List.setIfInBounds_toArray, List.set_cons_zero, List.set_cons_succ])
      exact at_node (by kernel_rfl) (hD5 w12 A0_ v2_ wk_.heap.size (by omega) (Lib.hid ⟨(M.out.1), (M.out.2.1), (M.out.2.2.1)⟩))
    simp only [ha0_, Act.put, List.setIfInBounds_toArray, List.set_cons_zero, List.set_cons_succ] at hD3
    have hD4 : ∀ (wk_ : World) (A0_ : Nat) (A4_ : Nat), w11.heap.size ≤ A0_ → w11.heap.size ≤ A4_ → A0_ ≠ A4_ → Hid (Bx wk_ A4_ 25 #[.int .i64 sc, .int .i64 cf, .int .i64 cu, .int .i64 cn, .int .i64 cp, .int .i64 cd] ∧ Bx wk_ A0_ 25 #[] ∧ Below w11.heap.size w11 wk_) → X_ 8 #[true, true, false, true, true, false, true, true, false, false, false, false, false, false] (Act.put (Act.put a0_ (some 150) (.slice (some ⟨A0_, 0, none⟩) 0 0)) (some 154) (.slice (some ⟨A4_, 0, none⟩) 1 1)) wk_ := by
      intro wk_ A0_ A4_ c0_ c1_ c2_ rel_
      subst hX_ ha0_
      have M := Lib.hid (And.intro rel_.out.1 (And.intro rel_.out.2.1 (And.intro rel_.out.2.2 (Goes.go Mb_.out rel_.out.2.2))))
      clear rel_
      have hH251 : (fun w' => w'.cell? ⟨B1, 0, none⟩ = some (.int .i64 sc) ∧ w'.cell? ⟨B1, 1, none⟩ = some (.int .i64 cf) ∧ w'.cell? ⟨B1, 2, none⟩ = some (.int .i64 cu) ∧ w'.cell? ⟨B1, 3, none⟩ = some (.int .i64 cn) ∧ w'.cell? ⟨B1, 4, none⟩ = some (.int .i64 cp) ∧ w'.cell? ⟨B1, 5, none⟩ = some (.int .i64 cd)) wk_ := ⟨(M.out.2.2.2.1).at.1 0, (M.out.2.2.2.1).at.1 1, (M.out.2.2.2.1).at.1 2, (M.out.2.2.2.1).at.1 3, (M.out.2.2.2.1).at.1 4, (M.out.2.2.2.1).at.1 5⟩
      (try simp only [Act.put, List.setIfInBounds_toArray, List.set_cons_zero, List.set_cons_succ])
      have lw_ := ((M.out.2.2.1)).size
      have l0_ := ((M.out.2.1)).lt
      have l4_ := ((M.out.1)).lt
      refine wpAnyH_ready (rs := [2]) (by kernel_rfl) (by simp) ?_
      refine AllReadyH.cons at2 (fun K hK => ?_) AllReadyH.nil
      rw [if_pos (by rfl)]
      refine wp_copyK elemCert (M.out.2.1) (by omega) (H1.out.keep (M.out.2.2.2.2)) ct_len ct_one (by omega) (by omega) rfl rfl rfl (fun v_252 w12 ho_ hg_ => ?_)
      have bb_ := below_only (M.out.2.2.1) hg_ (by omega) (M.out.2.2.1).size
      have M_ := Lib.hid (And.intro ho_ (And.intro ((M.out.1).only hg_ (by omega)) (And.intro bb_ (Goes.go Mb_.out bb_))))
      clear M
      have M := M_
      clear M_ ho_ hg_ bb_
      refine hK.out _ _ (⟨(M.out.2.2.2.1).at.1 0, (M.out.2.2.2.1).at.1 1, (M.out.2.2.2.1).at.1 2, (M.out.2.2.2.1).at.1 3, (M.out.2.2.2.1).at.1 4, (M.out.2.2.2.1).at.1 5⟩) (fun hH253 => ?_)
      clear hK K hH251
      (try simp only [Act.put, List.setIfInBounds_toArray, List.set_cons_zero, List.set_cons_succ])
      exact at_node (by kernel_rfl) (hD5 w12 A0_ v_252 A4_ (by omega) (Lib.hid ⟨(M.out.2.1), (M.out.1), (M.out.2.2.1)⟩))
    simp only [ha0_, Act.put, List.setIfInBounds_toArray, List.set_cons_zero, List.set_cons_succ] at hD4
    have hD1 : ∀ (wk_ : World) (A0_ : Nat), w11.heap.size ≤ A0_ → Hid (Bx wk_ A0_ 25 #[] ∧ Below w11.heap.size w11 wk_) → X_ 9 #[true, true, false, true, false, false, true, true, false, false, false, false, false, false] (Act.put a0_ (some 150) (.slice (some ⟨A0_, 0, none⟩) 0 0)) wk_ := by
      intro wk_ A0_ c0_ rel_
      subst hX_ ha0_
      have M := Lib.hid (And.intro rel_.out.1 (And.intro rel_.out.2 (Goes.go Mb_.out rel_.out.2)))
      clear rel_
      have hH254 : (fun w' => w'.cell? ⟨B1, 0, none⟩ = some (.int .i64 sc) ∧ w'.cell? ⟨B1, 1, none⟩ = some (.int .i64 cf) ∧ w'.cell? ⟨B1, 2, none⟩ = some (.int .i64 cu) ∧ w'.cell? ⟨B1, 3, none⟩ = some (.int .i64 cn) ∧ w'.cell? ⟨B1, 4, none⟩ = some (.int .i64 cp) ∧ w'.cell? ⟨B1, 5, none⟩ = some (.int .i64 cd)) wk_ := ⟨(M.out.2.2.1).at.1 0, (M.out.2.2.1).at.1 1, (M.out.2.2.1).at.1 2, (M.out.2.2.1).at.1 3, (M.out.2.2.1).at.1 4, (M.out.2.2.1).at.1 5⟩
      (try simp only [Act.put, List.setIfInBounds_toArray, List.set_cons_zero, List.set_cons_succ])
      have lw_ := ((M.out.2.1)).size
      have l0_ := ((M.out.1)).lt
      refine wpAnyH_ready (rs := [2, 4]) (by kernel_rfl) (by simp) ?_
      refine AllReadyH.cons at2 (fun K hK => ?_) ?_
      ·
        rw [if_pos (by rfl)]
        refine wp_copyK elemCert (M.out.1) (by omega) (H1.out.keep (M.out.2.2.2)) ct_len ct_one (by omega) (by omega) rfl rfl rfl (fun v_255 w12 ho_ hg_ => ?_)
        have bb_ := below_only (M.out.2.1) hg_ (by omega) (M.out.2.1).size
        have M_ := Lib.hid (And.intro ho_ (And.intro bb_ (Goes.go Mb_.out bb_)))
        clear M
        have M := M_
        clear M_ ho_ hg_ bb_
        refine hK.out _ _ (⟨(M.out.2.2.1).at.1 0, (M.out.2.2.1).at.1 1, (M.out.2.2.1).at.1 2, (M.out.2.2.1).at.1 3, (M.out.2.2.1).at.1 4, (M.out.2.2.1).at.1 5⟩) (fun hH256 => ?_)
        clear hK K hH254
        (try simp only [Act.put, List.setIfInBounds_toArray, List.set_cons_zero, List.set_cons_succ])
        exact at_node (by kernel_rfl) (hD3 w12 A0_ v_255 (Lib.hid ⟨(M.out.1), (M.out.2.1)⟩))
      refine AllReadyH.cons at4 (fun K hK => ?_) AllReadyH.nil
      go_simp
      obtain ⟨w12, hv⟩ : ∃ w_ : World, w_ = (wk_.alloc (.cells #[.int .i64 sc, .int .i64 cf, .int .i64 cu, .int .i64 cn, .int .i64 cp, .int .i64 cd] 25)) := ⟨_, rfl⟩
      rw [← hv]
      have ow9_ : A0_ < wk_.heap.size := ((M.out.1)).lt
      replace M := Lib.hid (And.intro (hv ▸ bx1 wk_ 25 #[.int .i64 sc, .int .i64 cf, .int .i64 cu, .int .i64 cn, .int .i64 cp, .int .i64 cd]) (Goes.go M.out (hv ▸ below_alloc _ _ : Below wk_.heap.size wk_ w12)))
      clear hv
      refine hK.out _ _ (⟨(M.out.2.2.2.1).at.1 0, (M.out.2.2.2.1).at.1 1, (M.out.2.2.2.1).at.1 2, (M.out.2.2.2.1).at.1 3, (M.out.2.2.2.1).at.1 4, (M.out.2.2.2.1).at.1 5⟩) (fun hH257 => ?_)
      clear hK K hH254
      (try simp only [Act.put, List.setIfInBounds_toArray, List.set_cons_zero, List.set_cons_succ])
      exact at_node (by kernel_rfl) (hD4 w12 A0_ wk_.heap.size (by omega) (by omega) (by omega) (Lib.hid ⟨(M.out.1), (M.out.2.1), (M.out.2.2.1)⟩))
    simp only [ha0_, Act.put, List.setIfInBounds_toArray, List.set_cons_zero, List.set_cons_succ] at hD1
    have hD2 : ∀ (wk_ : World) (A4_ : Nat), w11.heap.size ≤ A4_ → Hid (Bx wk_ A4_ 25 #[.int .i64 sc, .int .i64 cf, .int .i64 cu, .int .i64 cn, .int .i64 cp, .int .i64 cd] ∧ Below w11.heap.size w11 wk_) → X_ 9 #[false, true, false, true, true, false, true, true, false, false, false, false, false, false] (Act.put a0_ (some 154) (.slice (some ⟨A4_, 0, none⟩) 1 1)) wk_ := by
      intro wk_ A4_ c0_ rel_
      subst hX_ ha0_
      have M := Lib.hid (And.intro rel_.out.1 (And.intro rel_.out.2 (Goes.go Mb_.out rel_.out.2)))
      clear rel_
      have hH258 : (fun w' => w'.cell? ⟨B1, 0, none⟩ = some (.int .i64 sc) ∧ w'.cell? ⟨B1, 1, none⟩ = some (.int .i64 cf) ∧ w'.cell? ⟨B1, 2, none⟩ = some (.int .i64 cu) ∧ w'.cell? ⟨B1, 3, none⟩ = some (.int .i64 cn) ∧ w'.cell? ⟨B1, 4, none⟩ = some (.int .i64 cp) ∧ w'.cell? ⟨B1, 5, none⟩ = some (.int .i64 cd)) wk_ := ⟨(M.out.2.2.1).at.1 0, (M.out.2.2.1).at.1 1, (M.out.2.2.1).at.1 2, (M.out.2.2.1).at.1 3, (M.out.2.2.1).at.1 4, (M.out.2.2.1).at.1 5⟩
      (try simp only [Act.put, List.setIfInBounds_toArray, List.set_cons_zero, List.set_cons_succ])
      have lw_ := ((M.out.2.1)).size
      have l4_ := ((M.out.1)).lt
      refine wpAnyH_ready (rs := [0]) (by kernel_rfl) (by simp) ?_
      refine AllReadyH.cons at0 (fun K hK => ?_) AllReadyH.nil
      go_simp
      obtain ⟨w12, hv⟩ : ∃ w_ : World, w_ = (wk_.alloc (.cells #[] 25)) := ⟨_, rfl⟩
      rw [← hv]
      have ow9_ : A4_ < wk_.heap.size := ((M.out.1)).lt
      replace M := Lib.hid (And.intro (hv ▸ bx1 wk_ 25 #[]) (Goes.go M.out (hv ▸ below_alloc _ _ : Below wk_.heap.size wk_ w12)))
      clear hv
      refine hK.out _ _ (⟨(M.out.2.2.2.1).at.1 0, (M.out.2.2.2.1).at.1 1, (M.out.2.2.2.1).at.1 2, (M.out.2.2.2.1).at.1 3, (M.out.2.2.2.1).at.1 4, (M.out.2.2.2.1).at.1 5⟩) (fun hH259 => ?_)
      clear hK K hH258
      (try simp only [Act.put, List.setIfInBounds_toArray, List.set_cons_zero, List.set_cons_succ])
      exact at_node (by kernel_rfl) (hD4 w12 wk_.heap.size A4_ (by omega) (by omega) (by omega) (Lib.hid ⟨(M.out.2.1), (M.out.1), (M.out.2.2.1)⟩))
    simp only [ha0_, Act.put, List.setIfInBounds_toArray, List.set_cons_zero, List.set_cons_succ] at hD2
    have hD0 : ∀ (wk_ : World) , Hid (Below w11.heap.size w11 wk_) → X_ 10 #[false, true, false, true, false, false, true, true, false, false, false, false, false, false] a0_ wk_ := by
      intro wk_ rel_
      subst hX_ ha0_
      have M := Lib.hid (And.intro rel_.out (Goes.go Mb_.out rel_.out))
      clear rel_
      have hH260 : (fun w' => w'.cell? ⟨B1, 0, none⟩ = some (.int .i64 sc) ∧ w'.cell? ⟨B1, 1, none⟩ = some (.int .i64 cf) ∧ w'.cell? ⟨B1, 2, none⟩ = some (.int .i64 cu) ∧ w'.cell? ⟨B1, 3, none⟩ = some (.int .i64 cn) ∧ w'.cell? ⟨B1, 4, none⟩ = some (.int .i64 cp) ∧ w'.cell? ⟨B1, 5, none⟩ = some (.int .i64 cd)) wk_ := ⟨(M.out.2.1).at.1 0, (M.out.2.1).at.1 1, (M.out.2.1).at.1 2, (M.out.2.1).at.1 3, (M.out.2.1).at.1 4, (M.out.2.1).at.1 5⟩
      (try simp only [Act.put, List.setIfInBounds_toArray, List.set_cons_zero, List.set_cons_succ])
      have lw_ := ((M.out.1)).size
      refine wpAnyH_ready (rs := [0, 4]) (by kernel_rfl) (by simp) ?_
      refine AllReadyH.cons at0 (fun K hK => ?_) ?_
      ·
        go_simp
        obtain ⟨w12, hv⟩ : ∃ w_ : World, w_ = (wk_.alloc (.cells #[] 25)) := ⟨_, rfl⟩
        rw [← hv]
        have ow8_ : B1 < wk_.heap.size := ((M.out.2.1)).lt
        replace M := Lib.hid (And.intro (hv ▸ bx1 wk_ 25 #[]) (Goes.go M.out (hv ▸ below_alloc _ _ : Below wk_.heap.size wk_ w12)))
        clear hv
        refine hK.out _ _ (⟨(M.out.2.2.1).at.1 0, (M.out.2.2.1).at.1 1, (M.out.2.2.1).at.1 2, (M.out.2.2.1).at.1 3, (M.out.2.2.1).at.1 4, (M.out.2.2.1).at.1 5⟩) (fun hH261 => ?_)
        clear hK K hH260
        (try simp only [Act.put, List.setIfInBounds_toArray, List.set_cons_zero, List.set_cons_succ])
        exact at_node (by kernel_rfl) (hD1 w12 wk_.heap.size (by omega) (Lib.hid ⟨(M.out.1), (M.out.2.1)⟩))
      refine AllReadyH.cons at4 (fun K hK => ?_) AllReadyH.nil
      go_simp
      obtain ⟨w12, hv⟩ : ∃ w_ : World, w_ = (wk_.alloc (.cells #[.int .i64 sc, .int .i64 cf, .int .i64 cu, .int .i64 cn, .int .i64 cp, .int .i64 cd] 25)) := ⟨_, rfl⟩
      rw [← hv]
      have ow8_ : B1 < wk_.heap.size := ((M.out.2.1)).lt
      replace M := Lib.hid (And.intro (hv ▸ bx1 wk_ 25 #[.int .i64 sc, .int .i64 cf, .int .i64 cu, .int .i64 cn, .int .i64 cp, .int .i64 cd]) (Goes.go M.out (hv ▸ below_alloc _ _ : Below wk_.heap.size wk_ w12)))
      clear hv
      refine hK.out _ _ (⟨(M.out.2.2.1).at.1 0, (M.out.2.2.1).at.1 1, (M.out.2.2.1).at.1 2, (M.out.2.2.1).at.1 3, (M.out.2.2.1).at.1 4, (M.out.2.2.1).at.1 5⟩) (fun hH262 => ?_)
      clear hK K hH260
      (try simp only [Act.put, List.setIfInBounds_toArray, List.set_cons_zero, List.set_cons_succ])
      exact at_node (by kernel_rfl) (hD2 w12 wk_.heap.size (by omega) (Lib.hid ⟨(M.out.1), (M.out.2.1)⟩))
    simp only [ha0_, Act.put, List.setIfInBounds_toArray, List.set_cons_zero, List.set_cons_succ] at hD0
    subst hX_ ha0_
    exact at_node (by kernel_rfl) (hD0 w11 (Lib.hid (Below.refl _ _)))
  case rest =>
    obtain ⟨rfl, rfl, M⟩ := hcut
    obtain ⟨w11, rfl⟩ : ∃ w_ : World, w_ = wc := ⟨_, rfl⟩
    go_wp2_with fail
    go_ret
    exact ⟨rfl, (M.out.2)⟩
set_option maxRecDepth 100000 in
set_option maxHeartbeats 16000000 in
theorem recalls_s11 {cs cs2 : List Ct} {rs rs2 : List Rc} {sc rd day xs xt c0 cf cu cn cp cd : Int} {a1 a2 : Option Addr} {cap1 cap2 : Nat} {w : World} {ib ic b1 b2 qb d1 d2 : Bool}  {w7 : World}  {B1 : Nat} {x1_ x3_ x5_ x6_ x7_ x8_ x9_ x10_ x11_ x12_ x16_ x17_ x18_ x19_ x20_ x21_ x22_ x23_ x24_ x25_ x26_ x27_ x28_ x29_ x30_ x31_ x32_ x33_ x34_ x35_ x36_ x37_ x38_ x39_ x40_ x41_ x42_ x43_ x44_ x45_ x46_ x47_ x48_ x49_ x50_ x51_ x52_ x53_ x54_ x55_ x56_ x57_ x58_ x59_ x60_ x61_ x62_ x63_ x64_ x65_ x66_ x67_ x68_ x69_ x70_ x71_ x72_ x73_ x74_ x75_ x76_ x77_ x78_ x79_ x80_ x81_ x82_ x83_ x84_ x85_ x86_ x87_ x88_ x89_ x90_ x91_ x92_ x93_ x94_ x95_ x96_ x97_ x98_ x99_ x100_ x101_ x102_ x103_ x104_ x105_ x106_ x107_ x108_ x109_ x110_ x111_ x112_ x113_ x114_ x115_ x116_ x117_ x118_ x119_ x120_ x121_ x122_ x123_ x124_ x125_ x126_ x127_ x128_ x129_ x130_ x131_ x132_ x133_ x134_ x135_ x136_ x137_ x138_ x139_ x140_ x141_ x142_ x143_ x144_ x145_ x146_ x147_ x148_ x149_ x150_ x151_ x152_ x153_ x154_ x155_ x156_ x157_ x158_ x159_ x160_ x161_ x162_ x163_ x164_ x165_ x166_ x167_ x168_ x169_ x170_ : Value} (hG : G ≤ w.heap.size) (hl : cs.length ≤ 110) (hm : rs.length ≤ 50) (HRL : Hid (rs2.length = rs.length + 1)) (HCL2 : Hid (cs2.length = cs.length + 1)) (HIB : Hid (hasI cs rs sc rd day = ib)) (HIC : Hid (hasI cs rs2 sc rd day = ic)) (HR2 : Hid (rs2 = rs ++ [(⟨xs, xt⟩ : Rc)])) (HC2 : Hid (cs2 = cs ++ [(⟨sc, cf, cu, cn, cp, cd⟩ : Ct)])) (HQB : Hid (rightC ⟨sc, cf, cu, cn, cp, cd⟩ = qb)) (hb1 : decide (xs = sc) = b1) (hb1e : (xs == sc) = b1) (hb2 : decide (xt ≤ day) = b2) (hd1 : decide (day < cf) = d1) (hd2 : decide (cu < day) = d2) (HY : Hid ((b1 && b2) = true → hasI cs rs2 sc rd day = false)) (HNO : Hid ((b1 && b2) = false → ivl cs rs2 sc rd day = ivl cs rs sc rd day)) (ek0 : decide (110 < (cs.length : Int)) = false) (ek1 : decide (50 < (rs.length : Int)) = false) (H1 : Hid (CtIn w (.slice a1 cs.length cap1) cs)) (H2 : Hid (RcIn w (.slice a2 rs.length cap2) rs)) (_oB1 : w.heap.size ≤ B1) (M : Hid (Bx w7 B1 25 #[.int .i64 c0, .int .i64 cf, .int .i64 cu, .int .i64 cn, .int .i64 cp, .int .i64 cd] ∧ Below w.heap.size w w7)) :
    ∀ K : Act → World → Prop, (∀ a_ w_, Code.wp Try.prog (restAt Try.f7 11) (bodyPost Try.prog Try.f7 fun e w' => e = .returned (.bool true) ∧ Below w.heap.size w w') a_ w_ → K a_ w_) → Code.wp Try.prog (regAt Try.f7 11) (Exit.then K (bodyPost Try.prog Try.f7 fun e w' => e = .returned (.bool true) ∧ Below w.heap.size w w')) ⟨List.toArray (.slice a1 cs.length cap1 :: x1_ :: .int .i64 sc :: x3_ :: .int .i64 day :: x5_ :: x6_ :: x7_ :: x8_ :: x9_ :: x10_ :: x11_ :: x12_ :: .pointer (some ⟨B1, 0, none⟩) :: .bool false :: .bool true :: x16_ :: x17_ :: x18_ :: x19_ :: x20_ :: x21_ :: x22_ :: x23_ :: x24_ :: x25_ :: x26_ :: x27_ :: x28_ :: x29_ :: x30_ :: x31_ :: x32_ :: x33_ :: x34_ :: x35_ :: x36_ :: x37_ :: x38_ :: x39_ :: x40_ :: x41_ :: x42_ :: x43_ :: x44_ :: x45_ :: x46_ :: x47_ :: x48_ :: x49_ :: x50_ :: x51_ :: x52_ :: x53_ :: x54_ :: x55_ :: x56_ :: x57_ :: x58_ :: x59_ :: x60_ :: x61_ :: x62_ :: x63_ :: x64_ :: x65_ :: x66_ :: x67_ :: x68_ :: x69_ :: x70_ :: x71_ :: x72_ :: x73_ :: x74_ :: x75_ :: x76_ :: x77_ :: x78_ :: x79_ :: x80_ :: x81_ :: x82_ :: x83_ :: x84_ :: x85_ :: x86_ :: x87_ :: x88_ :: x89_ :: x90_ :: x91_ :: x92_ :: x93_ :: x94_ :: x95_ :: x96_ :: x97_ :: x98_ :: x99_ :: x100_ :: x101_ :: x102_ :: x103_ :: x104_ :: x105_ :: x106_ :: x107_ :: x108_ :: x109_ :: x110_ :: x111_ :: x112_ :: x113_ :: x114_ :: x115_ :: x116_ :: x117_ :: x118_ :: x119_ :: x120_ :: x121_ :: x122_ :: x123_ :: x124_ :: x125_ :: x126_ :: x127_ :: x128_ :: x129_ :: x130_ :: x131_ :: x132_ :: x133_ :: x134_ :: x135_ :: x136_ :: x137_ :: x138_ :: x139_ :: x140_ :: x141_ :: x142_ :: x143_ :: x144_ :: x145_ :: x146_ :: x147_ :: x148_ :: x149_ :: x150_ :: x151_ :: x152_ :: x153_ :: x154_ :: x155_ :: x156_ :: x157_ :: x158_ :: x159_ :: x160_ :: x161_ :: x162_ :: x163_ :: x164_ :: x165_ :: x166_ :: x167_ :: x168_ :: x169_ :: x170_ :: []), []⟩ w7 := by
  intro Kst_ hst_
  conv => arg 2; whnf
  conv at hst_ => enter [a_, w_, 1, 2]; whnf
  have y1 := (M.out.1).c6; have p1_0 := y1.1; have q1_0 := y1.2.1; have p1_1 := y1.2.2.1; have q1_1 := y1.2.2.2.1; have p1_2 := y1.2.2.2.2.1; have q1_2 := y1.2.2.2.2.2.1; have p1_3 := y1.2.2.2.2.2.2.1; have q1_3 := y1.2.2.2.2.2.2.2.1; have p1_4 := y1.2.2.2.2.2.2.2.2.1; have q1_4 := y1.2.2.2.2.2.2.2.2.2.1; have p1_5 := y1.2.2.2.2.2.2.2.2.2.2.1; have q1_5 := y1.2.2.2.2.2.2.2.2.2.2.2; clear y1
  go_upto_region 12 with fail
  clear p1_0 q1_0 p1_1 q1_1 p1_2 q1_2 p1_3 q1_3 p1_4 q1_4 p1_5 q1_5
  obtain ⟨w8, hv⟩ : ∃ w_ : World, w_ = (w7.setCell ⟨B1, 0, none⟩ (.int .i64 sc)) := ⟨_, rfl⟩
  rw [← hv]
  have og : w7.grownBy w8 (some B1) := by rw [hv]; exact (only_setCell (World.grownBy.refl _ _) _)
  have hz : w.heap.size ≤ B1 := by omega
  have hk : Bx w8 B1 25 #[.int .i64 sc, .int .i64 cf, .int .i64 cu, .int .i64 cn, .int .i64 cp, .int .i64 cd] := by rw [hv]; exact ((M.out.1).set 0 _)
  have hbw : Below w.heap.size w w8 := by rw [hv]; exact (Below.setCell (M.out.2) (by omega) _)
  replace M := Lib.hid (And.intro hk hbw)
  clear hk hbw og hv hz
  have hfd : findC cs sc day = none ∨ ∃ g, findC cs sc day = some g := by cases findC cs sc day with | none => exact .inl rfl | some g => exact .inr ⟨g, rfl⟩
  rcases hfd with hf | ⟨g, hf⟩
  ·
    have HF := Lib.hid hf; clear hf
    go_wp2_with fail
    refine (scFind_v (sc := sc) (day := day) (i := 0) (b := false) (H1.out.keep (M.out.2)) (by have h1_ := HRL.out; have h2_ := HCL2.out; omega) (by rw [HF.out]; rfl) (by rw [HF.out]; rfl)).mono ?_
    rintro e w9 ⟨rfl, hb⟩
    replace M := Lib.hid (Goes.go M.out hb)
    clear hb
    have y1 := (M.out.1).d6; have p1_0 := y1.1; have p1_1 := y1.2.1; have p1_2 := y1.2.2.1; have p1_3 := y1.2.2.2.1; have p1_4 := y1.2.2.2.2.1; have p1_5 := y1.2.2.2.2.2; clear y1
    go_wp2_with fail
    clear p1_0 p1_1 p1_2 p1_3 p1_4 p1_5
    refine (scRight_is (s := sc) (f := cf) (u := cu) (n := cn) (p := cp) (d := cd) (b := qb) HQB.out _).mono ?_
    rintro e w10 ⟨rfl, hb⟩
    replace M := Lib.hid (Goes.go M.out hb)
    clear hb
    cases qb with
    | false =>
      go_wp2_with fail
      go_ret
      exact ⟨rfl, (M.out.2)⟩
    | true =>
      cases d1 with
      | false =>
        cases d2 with
        | false =>
          have y1 := (M.out.1).d6; have p1_0 := y1.1; have p1_1 := y1.2.1; have p1_2 := y1.2.2.1; have p1_3 := y1.2.2.2.1; have p1_4 := y1.2.2.2.2.1; have p1_5 := y1.2.2.2.2.2; clear y1
          go_upto_region 18 with fail
          clear p1_0 p1_1 p1_2 p1_3 p1_4 p1_5
          have HN : Hid (findC cs2 sc day = some cs.length) := by show _ = _; rw [HC2.out]; exact find_newC rfl HQB.out (by simpa using hd1) (by simpa using hd2) (late_none HF.out)
          rename_i Kst_ hst_
          exact recalls_s18 (c0 := c0) hG hl hm HRL HCL2 HIB HIC HR2 HC2 HQB hb1 hb1e hb2 hd1 hd2 HY HNO ek0 ek1 H1 H2 HN (by omega) M Kst_ hst_
        | true =>
          have y1 := (M.out.1).d6; have p1_0 := y1.1; have p1_1 := y1.2.1; have p1_2 := y1.2.2.1; have p1_3 := y1.2.2.2.1; have p1_4 := y1.2.2.2.2.1; have p1_5 := y1.2.2.2.2.2; clear y1
          go_wp2_with fail
          clear p1_0 p1_1 p1_2 p1_3 p1_4 p1_5
          go_ret
          exact ⟨rfl, (M.out.2)⟩
      | true =>
        have y1 := (M.out.1).d6; have p1_0 := y1.1; have p1_1 := y1.2.1; have p1_2 := y1.2.2.1; have p1_3 := y1.2.2.2.1; have p1_4 := y1.2.2.2.2.1; have p1_5 := y1.2.2.2.2.2; clear y1
        go_wp2_with fail
        clear p1_0 p1_1 p1_2 p1_3 p1_4 p1_5
        go_ret
        exact ⟨rfl, (M.out.2)⟩
  ·
    obtain ⟨hgl, -, -⟩ := findC_is hf
    obtain ⟨b, off, rfl, hb, hcell⟩ := H1.out.at hgl
    obtain ⟨cg, hcg⟩ : ∃ x, x = cs[g] := ⟨_, rfl⟩
    rw [← hcg] at hcell
    obtain ⟨gs, gf, gu, gn, gp, gd⟩ := cg
    have HROW : Hid (Row w b (off + g * 6) [.int .i64 gs, .int .i64 gf, .int .i64 gu, .int .i64 gn, .int .i64 gp, .int .i64 gd]) := ⟨hb, hcell⟩
    clear hb hcell
    have ek4 : decide ((g : Int) < 0) = false := decide_eq_false (by omega)
    have ek5 : decide ((cs.length : Int) ≤ (g : Int)) = false := decide_eq_false (by omega)
    have ek6 : decide (0 ≤ (g : Int)) = true := decide_eq_true (by omega)
    have ek7 : decide ((g : Int) < (cs.length : Int)) = true := decide_eq_true (by omega)
    obtain ⟨d3, hd3⟩ : ∃ x, decide (cf < gf) = x := ⟨_, rfl⟩
    have HCG := Lib.hid hcg; clear hcg
    have HF := Lib.hid hf; clear hf
    go_wp2_with fail
    refine (scFind_v (sc := sc) (day := day) (i := (g : Int)) (b := true) (H1.out.keep (M.out.2)) (by have h1_ := HRL.out; have h2_ := HCL2.out; omega) (by rw [HF.out]; rfl) (by rw [HF.out]; rfl)).mono ?_
    rintro e w9 ⟨rfl, hb⟩
    replace M := Lib.hid (Goes.go M.out hb)
    clear hb
    have y1 := (M.out.1).d6; have p1_0 := y1.1; have p1_1 := y1.2.1; have p1_2 := y1.2.2.1; have p1_3 := y1.2.2.2.1; have p1_4 := y1.2.2.2.2.1; have p1_5 := y1.2.2.2.2.2; clear y1
    go_wp2_with fail
    clear p1_0 p1_1 p1_2 p1_3 p1_4 p1_5
    refine (scRight_is (s := sc) (f := cf) (u := cu) (n := cn) (p := cp) (d := cd) (b := qb) HQB.out _).mono ?_
    rintro e w10 ⟨rfl, hb⟩
    replace M := Lib.hid (Goes.go M.out hb)
    clear hb
    cases qb with
    | false =>
      go_wp2_with fail
      go_ret
      exact ⟨rfl, (M.out.2)⟩
    | true =>
      cases d1 with
      | false =>
        cases d2 with
        | false =>
          have y1 := (M.out.1).d6; have p1_0 := y1.1; have p1_1 := y1.2.1; have p1_2 := y1.2.2.1; have p1_3 := y1.2.2.2.1; have p1_4 := y1.2.2.2.2.1; have p1_5 := y1.2.2.2.2.2; clear y1
          go_wp2_with fail
          clear p1_0 p1_1 p1_2 p1_3 p1_4 p1_5
          obtain ⟨w11, hv⟩ : ∃ w_ : World, w_ = w10.drew := ⟨_, rfl⟩
          replace M := Lib.hid (Goes.go M.out (hv ▸ below_drew _ : Below w10.heap.size w10 w11))
          refine wp_region_held_drew (S := (fun w' => w'.cell? ⟨B1, 0, none⟩ = some (.int .i64 sc) ∧ w'.cell? ⟨B1, 1, none⟩ = some (.int .i64 cf) ∧ w'.cell? ⟨B1, 2, none⟩ = some (.int .i64 cu) ∧ w'.cell? ⟨B1, 3, none⟩ = some (.int .i64 cn) ∧ w'.cell? ⟨B1, 4, none⟩ = some (.int .i64 cp) ∧ w'.cell? ⟨B1, 5, none⟩ = some (.int .i64 cd) ∧ w'.cell? ⟨b, off + g * 6, none⟩ = some (.int .i64 gs) ∧ w'.cell? ⟨b, off + g * 6 + 1, none⟩ = some (.int .i64 gf) ∧ w'.cell? ⟨b, off + g * 6 + 2, none⟩ = some (.int .i64 gu) ∧ w'.cell? ⟨b, off + g * 6 + 3, none⟩ = some (.int .i64 gn) ∧ w'.cell? ⟨b, off + g * 6 + 4, none⟩ = some (.int .i64 gp) ∧ w'.cell? ⟨b, off + g * 6 + 5, none⟩ = some (.int .i64 gd))) (by kernel_rfl) (by rw [← hv]; exact ⟨(M.out.1).at.1 0, (M.out.1).at.1 1, (M.out.1).at.1 2, (M.out.1).at.1 3, (M.out.1).at.1 4, (M.out.1).at.1 5, (HROW.out.keep (M.out.2)).2 0 _ rfl, (HROW.out.keep (M.out.2)).2 1 _ rfl, (HROW.out.keep (M.out.2)).2 2 _ rfl, (HROW.out.keep (M.out.2)).2 3 _ rfl, (HROW.out.keep (M.out.2)).2 4 _ rfl, (HROW.out.keep (M.out.2)).2 5 _ rfl⟩) (fun hH263 => ?_)
          rw [← hv] at hH263 ⊢
          clear hv
          refine tk at0 ?_
          refine tk at1 ?_
          refine tk at2 ?_
          refine tk at3 ?_
          refine tk at4 ?_
          refine tk at5 ?_
          refine tk at6 ?_
          refine tk at7 ?_
          refine wpAnyH_done (by kernel_rfl) ?_ _
          clear hH263
          cases d3 with
          | false =>
            go_upto_region 18 with fail
            have HN : Hid (findC cs2 sc day = some cs.length) := by show _ = _; rw [HC2.out]; exact find_newC rfl HQB.out (by simpa using hd1) (by simpa using hd2) (late_some HF.out hgl (by rw [← HCG.out]; simpa using hd3))
            rename_i Kst_ hst_
            exact recalls_s18 (c0 := c0) hG hl hm HRL HCL2 HIB HIC HR2 HC2 HQB hb1 hb1e hb2 hd1 hd2 HY HNO ek0 ek1 H1 H2 HN (by omega) M Kst_ hst_
          | true =>
            go_wp2_with fail
            go_ret
            exact ⟨rfl, (M.out.2)⟩
        | true =>
          have y1 := (M.out.1).d6; have p1_0 := y1.1; have p1_1 := y1.2.1; have p1_2 := y1.2.2.1; have p1_3 := y1.2.2.2.1; have p1_4 := y1.2.2.2.2.1; have p1_5 := y1.2.2.2.2.2; clear y1
          go_wp2_with fail
          clear p1_0 p1_1 p1_2 p1_3 p1_4 p1_5
          go_ret
          exact ⟨rfl, (M.out.2)⟩
      | true =>
        have y1 := (M.out.1).d6; have p1_0 := y1.1; have p1_1 := y1.2.1; have p1_2 := y1.2.2.1; have p1_3 := y1.2.2.2.1; have p1_4 := y1.2.2.2.2.1; have p1_5 := y1.2.2.2.2.2; clear y1
        go_wp2_with fail
        clear p1_0 p1_1 p1_2 p1_3 p1_4 p1_5
        go_ret
        exact ⟨rfl, (M.out.2)⟩
set_option maxRecDepth 100000 in
set_option maxHeartbeats 16000000 in
theorem recalls {cs cs2 : List Ct} {rs rs2 : List Rc} {sc rd day xs xt c0 cf cu cn cp cd : Int} {a1 a2 : Option Addr} {cap1 cap2 : Nat} {w : World} {ib ic b1 b2 qb d1 d2 : Bool}  (hG : G ≤ w.heap.size) (hl : cs.length ≤ 110) (hm : rs.length ≤ 50) (HRL : Hid (rs2.length = rs.length + 1)) (HCL2 : Hid (cs2.length = cs.length + 1)) (HIB : Hid (hasI cs rs sc rd day = ib)) (HIC : Hid (hasI cs rs2 sc rd day = ic)) (HR2 : Hid (rs2 = rs ++ [(⟨xs, xt⟩ : Rc)])) (HC2 : Hid (cs2 = cs ++ [(⟨sc, cf, cu, cn, cp, cd⟩ : Ct)])) (HQB : Hid (rightC ⟨sc, cf, cu, cn, cp, cd⟩ = qb)) (hb1 : decide (xs = sc) = b1) (hb1e : (xs == sc) = b1) (hb2 : decide (xt ≤ day) = b2) (hd1 : decide (day < cf) = d1) (hd2 : decide (cu < day) = d2) (HY : Hid ((b1 && b2) = true → hasI cs rs2 sc rd day = false)) (HNO : Hid ((b1 && b2) = false → ivl cs rs2 sc rd day = ivl cs rs sc rd day)) (ek0 : decide (110 < (cs.length : Int)) = false) (ek1 : decide (50 < (rs.length : Int)) = false) (h1 : CtIn w (.slice a1 cs.length cap1) cs) (h2 : RcIn w (.slice a2 rs.length cap2) rs)  :
    Calls Try.prog 7 #[.slice a1 cs.length cap1, .slice a2 rs.length cap2, .int .i64 sc, .int .i64 rd, .int .i64 day, .agg #[.int .i64 xs, .int .i64 xt], .agg #[.int .i64 c0, .int .i64 cf, .int .i64 cu, .int .i64 cn, .int .i64 cp, .int .i64 cd]] w fun e w' => e = .returned (.bool true) ∧ Below w.heap.size w w' := by
  have H1 : Hid (CtIn w (.slice a1 cs.length cap1) cs) := h1
  have H2 : Hid (RcIn w (.slice a2 rs.length cap2) rs) := h2
  clear h1 h2
  have M : Hid (Below w.heap.size w w) := Below.refl _ _
  go_enter Try.func7, Try.ntmps7
  go_upto_region 1 with fail
  obtain ⟨w1, hv⟩ : ∃ w_ : World, w_ = ((w.alloc (.cells #[.int .i64 xs, .int .i64 xt] 52)).alloc (.cells #[.int .i64 c0, .int .i64 cf, .int .i64 cu, .int .i64 cn, .int .i64 cp, .int .i64 cd] 25)) := ⟨_, rfl⟩
  rw [← hv]
  have hbx := bx2 w 52 25 #[.int .i64 xs, .int .i64 xt] #[.int .i64 c0, .int .i64 cf, .int .i64 cu, .int .i64 cn, .int .i64 cp, .int .i64 cd]
  rw [← hv] at hbx
  have hbn : Below w.heap.size w w1 := by rw [hv]; exact (Below.alloc (Below.alloc (Below.refl _ _) (by simp <;> omega) _) (by simp <;> omega) _)
  replace M := Lib.hid (And.intro hbx.2 (And.intro hbx.1 (Goes.go M.out hbn)))
  clear hbx hbn
  clear hv
  go_wp2_with fail
  refine (sane_ok (G := G) _ (Nat.le_trans hG (M.out.2.2).size)).mono ?_
  rintro e w2 ⟨rfl, hb⟩
  replace M := Lib.hid (Goes.go M.out hb)
  clear hb
  go_wp2_with fail
  obtain ⟨z9, ez9⟩ : ∃ v_ : Int, v_ = (oN (loO cs rs sc rd day)) := ⟨_, rfl⟩
  obtain ⟨z10, ez10⟩ : ∃ v_ : Int, v_ = (oD (loO cs rs sc rd day)) := ⟨_, rfl⟩
  obtain ⟨z11, ez11⟩ : ∃ v_ : Int, v_ = (oN (hiO cs rs sc rd day)) := ⟨_, rfl⟩
  obtain ⟨z12, ez12⟩ : ∃ v_ : Int, v_ = (oD (hiO cs rs sc rd day)) := ⟨_, rfl⟩
  refine (scInterval_v (G := G) (sc := sc) (rd := rd) (day := day) (b_ := ib) (H1.out.keep (M.out.2.2)) (H2.out.keep (M.out.2.2)) (by have h1_ := HRL.out; have h2_ := HCL2.out; omega) (by have h1_ := HRL.out; have h2_ := HCL2.out; omega) (Nat.le_trans hG (M.out.2.2).size) HIB.out).mono ?_
  rintro e w3 ⟨a_1, c_2, b_3, d_4, a_5, c_6, b_7, d_8, rfl, hd13, hd14, hd15, hd16, hb⟩
  rw [← ez9] at hd13 ⊢
  have Sz9 : Hid (Sz z9 14) := by show Sz z9 14; rw [ez9]; exact (lo_sizes _ _ _ _ _).1
  have Ez9 := Lib.hid ez9; clear ez9
  rw [← ez10] at hd14 ⊢
  have Sz10 : Hid (Sz z10 14) := by show Sz z10 14; rw [ez10]; exact (lo_sizes _ _ _ _ _).2
  have Ez10 := Lib.hid ez10; clear ez10
  rw [← ez11] at hd15 ⊢
  have Sz11 : Hid (Sz z11 14) := by show Sz z11 14; rw [ez11]; exact (hi_sizes _ _ _ _ _).1
  have Ez11 := Lib.hid ez11; clear ez11
  rw [← ez12] at hd16 ⊢
  have Sz12 : Hid (Sz z12 14) := by show Sz z12 14; rw [ez12]; exact (hi_sizes _ _ _ _ _).2
  have Ez12 := Lib.hid ez12; clear ez12
  replace M := Lib.hid (And.intro hd13 (And.intro hd14 (And.intro hd15 (And.intro hd16 (Goes.go M.out hb)))))
  clear hb hd13 hd14 hd15 hd16
  go_upto_region 5 with fail
  obtain ⟨w4, hv⟩ : ∃ w_ : World, w_ = ((w3.alloc (.cells #[.int .i64 (sg z9), .slice a_1 (ln z9) c_2, .int .i64 (sg z10), .slice b_3 (ln z10) d_4] 34)).alloc (.cells #[.int .i64 (sg z11), .slice a_5 (ln z11) c_6, .int .i64 (sg z12), .slice b_7 (ln z12) d_8] 34)) := ⟨_, rfl⟩
  rw [← hv]
  have ow2_ : w.heap.size + 1 < w3.heap.size := ((M.out.2.2.2.2.1)).lt
  have hbx := bx2 w3 34 34 #[.int .i64 (sg z9), .slice a_1 (ln z9) c_2, .int .i64 (sg z10), .slice b_3 (ln z10) d_4] #[.int .i64 (sg z11), .slice a_5 (ln z11) c_6, .int .i64 (sg z12), .slice b_7 (ln z12) d_8]
  rw [← hv] at hbx
  have hbn : Below w3.heap.size w3 w4 := by rw [hv]; exact (Below.alloc (Below.alloc (Below.refl _ _) (by simp <;> omega) _) (by simp <;> omega) _)
  replace M := Lib.hid (And.intro hbx.2 (And.intro hbx.1 (Goes.go M.out hbn)))
  clear hbx hbn
  clear hv
  go_upto_region 5 with fail
  go_cut [19, 20, 21] (fun s19 s20 s21 wx => ∃ (A33 : Nat), ∃ (A34 : Nat), ∃ (a_17 : Option Addr), ∃ (c_18 : Nat), ∃ (b_19 : Option Addr), ∃ (d_20 : Nat), ∃ (a_21 : Option Addr), ∃ (c_22 : Nat), ∃ (b_23 : Option Addr), ∃ (d_24 : Nat), ∃ (z25 : Int), ∃ (z26 : Int), ∃ (z27 : Int), ∃ (z28 : Int), s19 = .pointer (some ⟨A33, 0, none⟩) ∧ s20 = .pointer (some ⟨A34, 0, none⟩) ∧ s21 = .bool ic ∧ Hid (z25 = (oN (loO cs rs2 sc rd day))) ∧ Hid (z26 = (oD (loO cs rs2 sc rd day))) ∧ Hid (z27 = (oN (hiO cs rs2 sc rd day))) ∧ Hid (z28 = (oD (hiO cs rs2 sc rd day))) ∧ Hid (Sz z25 14) ∧ Hid (Sz z26 14) ∧ Hid (Sz z27 14) ∧ Hid (Sz z28 14) ∧ w3.heap.size + 1 < A33 ∧ (w3.heap.size + 1 < A34 ∧ A33 ≠ A34) ∧ Hid (Bx wx A33 34 #[.int .i64 (sg z25), .slice a_17 (ln z25) c_18, .int .i64 (sg z26), .slice b_19 (ln z26) d_20] ∧ Bx wx A34 34 #[.int .i64 (sg z27), .slice a_21 (ln z27) c_22, .int .i64 (sg z28), .slice b_23 (ln z28) d_24] ∧ BD G wx a_17 c_18 z25 ∧ BD G wx b_19 d_20 z26 ∧ BD G wx a_21 c_22 z27 ∧ BD G wx b_23 d_24 z28 ∧ BD G wx a_1 c_2 z9 ∧ BD G wx b_3 d_4 z10 ∧ BD G wx a_5 c_6 z11 ∧ BD G wx b_7 d_8 z12 ∧ Bx wx w.heap.size 52 #[.int .i64 xs, .int .i64 xt] ∧ Bx wx (w.heap.size + 1) 25 #[.int .i64 c0, .int .i64 cf, .int .i64 cu, .int .i64 cn, .int .i64 cp, .int .i64 cd] ∧ Bx wx w3.heap.size 34 #[.int .i64 (sg z9), .slice a_1 (ln z9) c_2, .int .i64 (sg z10), .slice b_3 (ln z10) d_4] ∧ Bx wx (w3.heap.size + 1) 34 #[.int .i64 (sg z11), .slice a_5 (ln z11) c_6, .int .i64 (sg z12), .slice b_7 (ln z12) d_8] ∧ Below w.heap.size w wx))
  case first =>
    obtain ⟨w5, hv⟩ : ∃ w_ : World, w_ = w4.drew := ⟨_, rfl⟩
    replace M := Lib.hid (Goes.go M.out (hv ▸ below_drew _ : Below w4.heap.size w4 w5))
    refine wp_region_held_drew (S := (fun w' => w'.cell? ⟨w.heap.size, 0, none⟩ = some (.int .i64 xs) ∧ w'.cell? ⟨w.heap.size, 1, none⟩ = some (.int .i64 xt))) (by kernel_rfl) (by rw [← hv]; exact ⟨(M.out.2.2.2.2.2.2.2.1).at.1 0, (M.out.2.2.2.2.2.2.2.1).at.1 1⟩) (fun hH35 => ?_)
    rw [← hv] at hH35 ⊢
    clear hv
    have Mb_ := M
    have lb0_ : w.heap.size < w5.heap.size := ((M.out.2.2.2.2.2.2.2.1)).lt
    have lb1_ : w.heap.size + 1 < w5.heap.size := ((M.out.2.2.2.2.2.2.1)).lt
    have lb2_ : w3.heap.size < w5.heap.size := ((M.out.2.1)).lt
    have lb3_ : w3.heap.size + 1 < w5.heap.size := ((M.out.1)).lt
    refine tk at0 ?_
    refine tk at2 ?_
    refine tk at4 ?_
    refine tk at7 ?_
    refine tk at8 ?_
    refine tk at9 ?_
    refine wpAnyH_abs (fun X_ a0_ hX_ ha0_ => ?_)
    clear hH35
    have hD33 : ∀ (wk_ : World) (A1_ : Nat) (v3_ : Value) (A5_ : Nat) (r6a_ : Option Addr) (r6c_ : Nat) (a_36 : Option Addr) (c_37 : Nat) (b_38 : Option Addr) (d_39 : Nat) (a_40 : Option Addr) (c_41 : Nat) (b_42 : Option Addr) (d_43 : Nat) (z44 : Int) (z45 : Int) (z46 : Int) (z47 : Int) (A15_ : Nat) (A16_ : Nat), w5.heap.size ≤ A15_ → w5.heap.size ≤ A16_ → A15_ ≠ A16_ → Hid (z44 = (oN (loO cs rs2 sc rd day))) → Hid (Sz z44 14) → Hid (z45 = (oD (loO cs rs2 sc rd day))) → Hid (Sz z45 14) → Hid (z46 = (oN (hiO cs rs2 sc rd day))) → Hid (Sz z46 14) → Hid (z47 = (oD (hiO cs rs2 sc rd day))) → Hid (Sz z47 14) → Hid (Bx wk_ A16_ 34 #[.int .i64 (sg z46), .slice a_40 (ln z46) c_41, .int .i64 (sg z47), .slice b_42 (ln z47) d_43] ∧ Bx wk_ A15_ 34 #[.int .i64 (sg z44), .slice a_36 (ln z44) c_37, .int .i64 (sg z45), .slice b_38 (ln z45) d_39] ∧ BD G wk_ a_36 c_37 z44 ∧ BD G wk_ b_38 d_39 z45 ∧ BD G wk_ a_40 c_41 z46 ∧ BD G wk_ b_42 d_43 z47 ∧ Below w5.heap.size w5 wk_) → X_ 0 #[true, true, true, true, true, true, true, true, true, true, true, true, true, true, true, true, true, true, true, true] (Act.put (Act.put (Act.put (Act.put (Act.put (Act.put (Act.put (Act.put (Act.put (Act.put (Act.put (Act.put a0_ (some 48) (.slice (some ⟨A1_, 0, none⟩) 0 0)) (some 50) (v3_)) (some 52) (.slice (some ⟨A5_, 0, none⟩) 1 1)) (some 53) (.slice r6a_ rs2.length r6c_)) (some 57) (.tuple #[.agg #[.int .i64 (sg z44), .slice a_36 (ln z44) c_37, .int .i64 (sg z45), .slice b_38 (ln z45) d_39], .agg #[.int .i64 (sg z46), .slice a_40 (ln z46) c_41, .int .i64 (sg z47), .slice b_42 (ln z47) d_43], .bool ic])) (some 46) (.tuple #[.agg #[.int .i64 (sg z44), .slice a_36 (ln z44) c_37, .int .i64 (sg z45), .slice b_38 (ln z45) d_39], .agg #[.int .i64 (sg z46), .slice a_40 (ln z46) c_41, .int .i64 (sg z47), .slice b_42 (ln z47) d_43], .bool ic])) (some 58) (.agg #[.int .i64 (sg z44), .slice a_36 (ln z44) c_37, .int .i64 (sg z45), .slice b_38 (ln z45) d_39])) (some 59) (.agg #[.int .i64 (sg z46), .slice a_40 (ln z46) c_41, .int .i64 (sg z47), .slice b_42 (ln z47) d_43])) (some 60) (.bool ic)) (some 19) (.pointer (some ⟨A15_, 0, none⟩))) (some 20) (.pointer (some ⟨A16_, 0, none⟩))) (some 21) (.bool ic)) wk_ := by
      intro wk_ A1_ v3_ A5_ r6a_ r6c_ a_36 c_37 b_38 d_39 a_40 c_41 b_42 d_43 z44 z45 z46 z47 A15_ A16_ c0_ c1_ c2_ Ez44 Sz44 Ez45 Sz45 Ez46 Sz46 Ez47 Sz47 rel_
      subst hX_ ha0_
      have M := Lib.hid (And.intro rel_.out.1 (And.intro rel_.out.2.1 (And.intro rel_.out.2.2.1 (And.intro rel_.out.2.2.2.1 (And.intro rel_.out.2.2.2.2.1 (And.intro rel_.out.2.2.2.2.2.1 (And.intro rel_.out.2.2.2.2.2.2 (Goes.go Mb_.out rel_.out.2.2.2.2.2.2))))))))
      clear rel_
      have hH52 : (fun w' => w'.cell? ⟨w.heap.size, 0, none⟩ = some (.int .i64 xs) ∧ w'.cell? ⟨w.heap.size, 1, none⟩ = some (.int .i64 xt)) wk_ := ⟨(M.out.2.2.2.2.2.2.2.2.2.2.2.2.2.2.1).at.1 0, (M.out.2.2.2.2.2.2.2.2.2.2.2.2.2.2.1).at.1 1⟩
      (try simp only [Act.put, List.setIfInBounds_toArray, List.set_cons_zero, List.set_cons_succ])
      refine wpAnyH_done (by kernel_rfl) ?_ _
      clear hH52
      go_wp2_with fail
      go_meet
      exact ⟨A15_, A16_, a_36, c_37, b_38, d_39, a_40, c_41, b_42, d_43, z44, z45, z46, z47, rfl, rfl, rfl, Ez44, Ez45, Ez46, Ez47, Sz44, Sz45, Sz46, Sz47, (by omega), (by omega), (M.out.2.1), (M.out.1), (M.out.2.2.1), (M.out.2.2.2.1), (M.out.2.2.2.2.1), (M.out.2.2.2.2.2.1), (M.out.2.2.2.2.2.2.2.2.2.1), (M.out.2.2.2.2.2.2.2.2.2.2.1), (M.out.2.2.2.2.2.2.2.2.2.2.2.1), (M.out.2.2.2.2.2.2.2.2.2.2.2.2.1), (M.out.2.2.2.2.2.2.2.2.2.2.2.2.2.2.1), (M.out.2.2.2.2.2.2.2.2.2.2.2.2.2.1), (M.out.2.2.2.2.2.2.2.2.1), (M.out.2.2.2.2.2.2.2.1), (M.out.2.2.2.2.2.2.2.2.2.2.2.2.2.2.2)⟩
    simp only [ha0_, Act.put, List.setIfInBounds_toArray, List.set_cons_zero, List.set_cons_succ] at hD33
    have hD32 : ∀ (wk_ : World) (A1_ : Nat) (v3_ : Value) (A5_ : Nat) (r6a_ : Option Addr) (r6c_ : Nat) (a_36 : Option Addr) (c_37 : Nat) (b_38 : Option Addr) (d_39 : Nat) (a_40 : Option Addr) (c_41 : Nat) (b_42 : Option Addr) (d_43 : Nat) (z44 : Int) (z45 : Int) (z46 : Int) (z47 : Int) (A15_ : Nat) (A16_ : Nat), w5.heap.size ≤ A15_ → w5.heap.size ≤ A16_ → A15_ ≠ A16_ → Hid (z44 = (oN (loO cs rs2 sc rd day))) → Hid (Sz z44 14) → Hid (z45 = (oD (loO cs rs2 sc rd day))) → Hid (Sz z45 14) → Hid (z46 = (oN (hiO cs rs2 sc rd day))) → Hid (Sz z46 14) → Hid (z47 = (oD (hiO cs rs2 sc rd day))) → Hid (Sz z47 14) → Hid (Bx wk_ A16_ 34 #[.int .i64 0, .slice none 0 0, .int .i64 0, .slice none 0 0] ∧ Bx wk_ A15_ 34 #[.int .i64 (sg z44), .slice a_36 (ln z44) c_37, .int .i64 (sg z45), .slice b_38 (ln z45) d_39] ∧ BD G wk_ a_36 c_37 z44 ∧ BD G wk_ b_38 d_39 z45 ∧ BD G wk_ a_40 c_41 z46 ∧ BD G wk_ b_42 d_43 z47 ∧ Below w5.heap.size w5 wk_) → X_ 2 #[true, true, true, true, true, true, true, true, true, true, true, true, true, true, true, true, true, true, false, false] (Act.put (Act.put (Act.put (Act.put (Act.put (Act.put (Act.put (Act.put (Act.put (Act.put (Act.put a0_ (some 48) (.slice (some ⟨A1_, 0, none⟩) 0 0)) (some 50) (v3_)) (some 52) (.slice (some ⟨A5_, 0, none⟩) 1 1)) (some 53) (.slice r6a_ rs2.length r6c_)) (some 57) (.tuple #[.agg #[.int .i64 (sg z44), .slice a_36 (ln z44) c_37, .int .i64 (sg z45), .slice b_38 (ln z45) d_39], .agg #[.int .i64 (sg z46), .slice a_40 (ln z46) c_41, .int .i64 (sg z47), .slice b_42 (ln z47) d_43], .bool ic])) (some 46) (.tuple #[.agg #[.int .i64 (sg z44), .slice a_36 (ln z44) c_37, .int .i64 (sg z45), .slice b_38 (ln z45) d_39], .agg #[.int .i64 (sg z46), .slice a_40 (ln z46) c_41, .int .i64 (sg z47), .slice b_42 (ln z47) d_43], .bool ic])) (some 58) (.agg #[.int .i64 (sg z44), .slice a_36 (ln z44) c_37, .int .i64 (sg z45), .slice b_38 (ln z45) d_39])) (some 59) (.agg #[.int .i64 (sg z46), .slice a_40 (ln z46) c_41, .int .i64 (sg z47), .slice b_42 (ln z47) d_43])) (some 60) (.bool ic)) (some 19) (.pointer (some ⟨A15_, 0, none⟩))) (some 20) (.pointer (some ⟨A16_, 0, none⟩))) wk_ := by
      intro wk_ A1_ v3_ A5_ r6a_ r6c_ a_36 c_37 b_38 d_39 a_40 c_41 b_42 d_43 z44 z45 z46 z47 A15_ A16_ c0_ c1_ c2_ Ez44 Sz44 Ez45 Sz45 Ez46 Sz46 Ez47 Sz47 rel_
      subst hX_ ha0_
      have M := Lib.hid (And.intro rel_.out.1 (And.intro rel_.out.2.1 (And.intro rel_.out.2.2.1 (And.intro rel_.out.2.2.2.1 (And.intro rel_.out.2.2.2.2.1 (And.intro rel_.out.2.2.2.2.2.1 (And.intro rel_.out.2.2.2.2.2.2 (Goes.go Mb_.out rel_.out.2.2.2.2.2.2))))))))
      clear rel_
      have hH53 : (fun w' => w'.cell? ⟨w.heap.size, 0, none⟩ = some (.int .i64 xs) ∧ w'.cell? ⟨w.heap.size, 1, none⟩ = some (.int .i64 xt)) wk_ := ⟨(M.out.2.2.2.2.2.2.2.2.2.2.2.2.2.2.1).at.1 0, (M.out.2.2.2.2.2.2.2.2.2.2.2.2.2.2.1).at.1 1⟩
      (try simp only [Act.put, List.setIfInBounds_toArray, List.set_cons_zero, List.set_cons_succ])
      have lw_ := ((M.out.2.2.2.2.2.2.1)).size
      have l15_ := ((M.out.2.1)).lt
      have l16_ := ((M.out.1)).lt
      refine wpAnyH_ready (rs := [18]) (by kernel_rfl) (by simp) ?_
      refine AllReadyH.cons at18 (fun K hK => ?_) AllReadyH.nil
      have y7 := (M.out.1).c4; have p7_0 := y7.1; have q7_0 := y7.2.1; have p7_1 := y7.2.2.1; have q7_1 := y7.2.2.2.1; have p7_2 := y7.2.2.2.2.1; have q7_2 := y7.2.2.2.2.2.1; have p7_3 := y7.2.2.2.2.2.2.1; have q7_3 := y7.2.2.2.2.2.2.2; clear y7
      go_simp
      clear p7_0 q7_0 p7_1 q7_1 p7_2 q7_2 p7_3 q7_3
      obtain ⟨w6, hv⟩ : ∃ w_ : World, w_ = ((((wk_.setCell ⟨A16_, 0, none⟩ (.int .i64 (sg z46))).setCell ⟨A16_, 1, none⟩ (.slice a_40 (ln z46) c_41)).setCell ⟨A16_, 2, none⟩ (.int .i64 (sg z47))).setCell ⟨A16_, 3, none⟩ (.slice b_42 (ln z47) d_43)) := ⟨_, rfl⟩
      rw [← hv]
      have og : wk_.grownBy w6 (some A16_) := by rw [hv]; exact (only_setCell (only_setCell (only_setCell (only_setCell (World.grownBy.refl _ _) _) _) _) _)
      have hz : w.heap.size ≤ A16_ := by omega
      have hk : Bx w6 A16_ 34 #[.int .i64 (sg z46), .slice a_40 (ln z46) c_41, .int .i64 (sg z47), .slice b_42 (ln z47) d_43] := by rw [hv]; exact (((((M.out.1).set 0 _).set 1 _).set 2 _).set 3 _)
      have hbw : Below w.heap.size w w6 := by rw [hv]; exact (Below.setCell (Below.setCell (Below.setCell (Below.setCell (M.out.2.2.2.2.2.2.2.2.2.2.2.2.2.2.2) (by omega) _) (by omega) _) (by omega) _) (by omega) _)
      replace M := Lib.hid (And.intro hk (And.intro ((M.out.2.1).only og (by omega)) (And.intro ((M.out.2.2.1).far (M.out.1) (by rfl) (by omega) og) (And.intro ((M.out.2.2.2.1).far (M.out.1) (by rfl) (by omega) og) (And.intro ((M.out.2.2.2.2.1).far (M.out.1) (by rfl) (by omega) og) (And.intro ((M.out.2.2.2.2.2.1).far (M.out.1) (by rfl) (by omega) og) (And.intro (show Below w5.heap.size w5 w6 from by rw [hv]; exact (Below.setCell (Below.setCell (Below.setCell (Below.setCell (M.out.2.2.2.2.2.2.1) (by omega) _) (by omega) _) (by omega) _) (by omega) _)) (And.intro ((M.out.2.2.2.2.2.2.2.1).only og (by omega)) (And.intro ((M.out.2.2.2.2.2.2.2.2.1).only og (by omega)) (And.intro ((M.out.2.2.2.2.2.2.2.2.2.1).far (M.out.1) (by rfl) (by omega) og) (And.intro ((M.out.2.2.2.2.2.2.2.2.2.2.1).far (M.out.1) (by rfl) (by omega) og) (And.intro ((M.out.2.2.2.2.2.2.2.2.2.2.2.1).far (M.out.1) (by rfl) (by omega) og) (And.intro ((M.out.2.2.2.2.2.2.2.2.2.2.2.2.1).far (M.out.1) (by rfl) (by omega) og) (And.intro ((M.out.2.2.2.2.2.2.2.2.2.2.2.2.2.1).only og (by omega)) (And.intro ((M.out.2.2.2.2.2.2.2.2.2.2.2.2.2.2.1).only og (by omega)) hbw)))))))))))))))
      clear hk hbw og hv hz
      refine hK.out _ _ (⟨(M.out.2.2.2.2.2.2.2.2.2.2.2.2.2.2.1).at.1 0, (M.out.2.2.2.2.2.2.2.2.2.2.2.2.2.2.1).at.1 1⟩) (fun hH54 => ?_)
      clear hK K hH53
      (try simp only [Act.put, List.setIfInBounds_toArray, List.set_cons_zero, List.set_cons_succ])
      refine tk at19 ?_
      exact at_node (by kernel_rfl) (hD33 w6 A1_ v3_ A5_ r6a_ r6c_ a_36 c_37 b_38 d_39 a_40 c_41 b_42 d_43 z44 z45 z46 z47 A15_ A16_ (by omega) (by omega) (by omega) Ez44 Sz44 Ez45 Sz45 Ez46 Sz46 Ez47 Sz47 (Lib.hid ⟨(M.out.1), (M.out.2.1), (M.out.2.2.1), (M.out.2.2.2.1), (M.out.2.2.2.2.1), (M.out.2.2.2.2.2.1), (M.out.2.2.2.2.2.2.1)⟩))
    simp only [ha0_, Act.put, List.setIfInBounds_toArray, List.set_cons_zero, List.set_cons_succ] at hD32
    have hD31 : ∀ (wk_ : World) (A1_ : Nat) (v3_ : Value) (A5_ : Nat) (r6a_ : Option Addr) (r6c_ : Nat) (a_36 : Option Addr) (c_37 : Nat) (b_38 : Option Addr) (d_39 : Nat) (a_40 : Option Addr) (c_41 : Nat) (b_42 : Option Addr) (d_43 : Nat) (z44 : Int) (z45 : Int) (z46 : Int) (z47 : Int) (A15_ : Nat) (A16_ : Nat), w5.heap.size ≤ A15_ → w5.heap.size ≤ A16_ → A15_ ≠ A16_ → Hid (z44 = (oN (loO cs rs2 sc rd day))) → Hid (Sz z44 14) → Hid (z45 = (oD (loO cs rs2 sc rd day))) → Hid (Sz z45 14) → Hid (z46 = (oN (hiO cs rs2 sc rd day))) → Hid (Sz z46 14) → Hid (z47 = (oD (hiO cs rs2 sc rd day))) → Hid (Sz z47 14) → Hid (Bx wk_ A16_ 34 #[.int .i64 0, .slice none 0 0, .int .i64 0, .slice none 0 0] ∧ Bx wk_ A15_ 34 #[.int .i64 0, .slice none 0 0, .int .i64 0, .slice none 0 0] ∧ BD G wk_ a_36 c_37 z44 ∧ BD G wk_ b_38 d_39 z45 ∧ BD G wk_ a_40 c_41 z46 ∧ BD G wk_ b_42 d_43 z47 ∧ Below w5.heap.size w5 wk_) → X_ 3 #[true, true, true, true, true, true, true, true, true, true, true, true, true, true, true, true, true, false, false, false] (Act.put (Act.put (Act.put (Act.put (Act.put (Act.put (Act.put (Act.put (Act.put (Act.put (Act.put a0_ (some 48) (.slice (some ⟨A1_, 0, none⟩) 0 0)) (some 50) (v3_)) (some 52) (.slice (some ⟨A5_, 0, none⟩) 1 1)) (some 53) (.slice r6a_ rs2.length r6c_)) (some 57) (.tuple #[.agg #[.int .i64 (sg z44), .slice a_36 (ln z44) c_37, .int .i64 (sg z45), .slice b_38 (ln z45) d_39], .agg #[.int .i64 (sg z46), .slice a_40 (ln z46) c_41, .int .i64 (sg z47), .slice b_42 (ln z47) d_43], .bool ic])) (some 46) (.tuple #[.agg #[.int .i64 (sg z44), .slice a_36 (ln z44) c_37, .int .i64 (sg z45), .slice b_38 (ln z45) d_39], .agg #[.int .i64 (sg z46), .slice a_40 (ln z46) c_41, .int .i64 (sg z47), .slice b_42 (ln z47) d_43], .bool ic])) (some 58) (.agg #[.int .i64 (sg z44), .slice a_36 (ln z44) c_37, .int .i64 (sg z45), .slice b_38 (ln z45) d_39])) (some 59) (.agg #[.int .i64 (sg z46), .slice a_40 (ln z46) c_41, .int .i64 (sg z47), .slice b_42 (ln z47) d_43])) (some 60) (.bool ic)) (some 19) (.pointer (some ⟨A15_, 0, none⟩))) (some 20) (.pointer (some ⟨A16_, 0, none⟩))) wk_ := by
      intro wk_ A1_ v3_ A5_ r6a_ r6c_ a_36 c_37 b_38 d_39 a_40 c_41 b_42 d_43 z44 z45 z46 z47 A15_ A16_ c0_ c1_ c2_ Ez44 Sz44 Ez45 Sz45 Ez46 Sz46 Ez47 Sz47 rel_
      subst hX_ ha0_
      have M := Lib.hid (And.intro rel_.out.1 (And.intro rel_.out.2.1 (And.intro rel_.out.2.2.1 (And.intro rel_.out.2.2.2.1 (And.intro rel_.out.2.2.2.2.1 (And.intro rel_.out.2.2.2.2.2.1 (And.intro rel_.out.2.2.2.2.2.2 (Goes.go Mb_.out rel_.out.2.2.2.2.2.2))))))))
      clear rel_
      have hH55 : (fun w' => w'.cell? ⟨w.heap.size, 0, none⟩ = some (.int .i64 xs) ∧ w'.cell? ⟨w.heap.size, 1, none⟩ = some (.int .i64 xt)) wk_ := ⟨(M.out.2.2.2.2.2.2.2.2.2.2.2.2.2.2.1).at.1 0, (M.out.2.2.2.2.2.2.2.2.2.2.2.2.2.2.1).at.1 1⟩
      (try simp only [Act.put, List.setIfInBounds_toArray, List.set_cons_zero, List.set_cons_succ])
      have lw_ := ((M.out.2.2.2.2.2.2.1)).size
      have l15_ := ((M.out.2.1)).lt
      have l16_ := ((M.out.1)).lt
      refine wpAnyH_ready (rs := [17]) (by kernel_rfl) (by simp) ?_
      refine AllReadyH.cons at17 (fun K hK => ?_) AllReadyH.nil
      have y6 := (M.out.2.1).c4; have p6_0 := y6.1; have q6_0 := y6.2.1; have p6_1 := y6.2.2.1; have q6_1 := y6.2.2.2.1; have p6_2 := y6.2.2.2.2.1; have q6_2 := y6.2.2.2.2.2.1; have p6_3 := y6.2.2.2.2.2.2.1; have q6_3 := y6.2.2.2.2.2.2.2; clear y6
      go_simp
      clear p6_0 q6_0 p6_1 q6_1 p6_2 q6_2 p6_3 q6_3
      obtain ⟨w6, hv⟩ : ∃ w_ : World, w_ = ((((wk_.setCell ⟨A15_, 0, none⟩ (.int .i64 (sg z44))).setCell ⟨A15_, 1, none⟩ (.slice a_36 (ln z44) c_37)).setCell ⟨A15_, 2, none⟩ (.int .i64 (sg z45))).setCell ⟨A15_, 3, none⟩ (.slice b_38 (ln z45) d_39)) := ⟨_, rfl⟩
      rw [← hv]
      have og : wk_.grownBy w6 (some A15_) := by rw [hv]; exact (only_setCell (only_setCell (only_setCell (only_setCell (World.grownBy.refl _ _) _) _) _) _)
      have hz : w.heap.size ≤ A15_ := by omega
      have hk : Bx w6 A15_ 34 #[.int .i64 (sg z44), .slice a_36 (ln z44) c_37, .int .i64 (sg z45), .slice b_38 (ln z45) d_39] := by rw [hv]; exact (((((M.out.2.1).set 0 _).set 1 _).set 2 _).set 3 _)
      have hbw : Below w.heap.size w w6 := by rw [hv]; exact (Below.setCell (Below.setCell (Below.setCell (Below.setCell (M.out.2.2.2.2.2.2.2.2.2.2.2.2.2.2.2) (by omega) _) (by omega) _) (by omega) _) (by omega) _)
      replace M := Lib.hid (And.intro ((M.out.1).only og (by omega)) (And.intro hk (And.intro ((M.out.2.2.1).far (M.out.2.1) (by rfl) (by omega) og) (And.intro ((M.out.2.2.2.1).far (M.out.2.1) (by rfl) (by omega) og) (And.intro ((M.out.2.2.2.2.1).far (M.out.2.1) (by rfl) (by omega) og) (And.intro ((M.out.2.2.2.2.2.1).far (M.out.2.1) (by rfl) (by omega) og) (And.intro (show Below w5.heap.size w5 w6 from by rw [hv]; exact (Below.setCell (Below.setCell (Below.setCell (Below.setCell (M.out.2.2.2.2.2.2.1) (by omega) _) (by omega) _) (by omega) _) (by omega) _)) (And.intro ((M.out.2.2.2.2.2.2.2.1).only og (by omega)) (And.intro ((M.out.2.2.2.2.2.2.2.2.1).only og (by omega)) (And.intro ((M.out.2.2.2.2.2.2.2.2.2.1).far (M.out.2.1) (by rfl) (by omega) og) (And.intro ((M.out.2.2.2.2.2.2.2.2.2.2.1).far (M.out.2.1) (by rfl) (by omega) og) (And.intro ((M.out.2.2.2.2.2.2.2.2.2.2.2.1).far (M.out.2.1) (by rfl) (by omega) og) (And.intro ((M.out.2.2.2.2.2.2.2.2.2.2.2.2.1).far (M.out.2.1) (by rfl) (by omega) og) (And.intro ((M.out.2.2.2.2.2.2.2.2.2.2.2.2.2.1).only og (by omega)) (And.intro ((M.out.2.2.2.2.2.2.2.2.2.2.2.2.2.2.1).only og (by omega)) hbw)))))))))))))))
      clear hk hbw og hv hz
      refine hK.out _ _ (⟨(M.out.2.2.2.2.2.2.2.2.2.2.2.2.2.2.1).at.1 0, (M.out.2.2.2.2.2.2.2.2.2.2.2.2.2.2.1).at.1 1⟩) (fun hH56 => ?_)
      clear hK K hH55
      (try simp only [Act.put, List.setIfInBounds_toArray, List.set_cons_zero, List.set_cons_succ])
      exact at_node (by kernel_rfl) (hD32 w6 A1_ v3_ A5_ r6a_ r6c_ a_36 c_37 b_38 d_39 a_40 c_41 b_42 d_43 z44 z45 z46 z47 A15_ A16_ (by omega) (by omega) (by omega) Ez44 Sz44 Ez45 Sz45 Ez46 Sz46 Ez47 Sz47 (Lib.hid ⟨(M.out.1), (M.out.2.1), (M.out.2.2.1), (M.out.2.2.2.1), (M.out.2.2.2.2.1), (M.out.2.2.2.2.2.1), (M.out.2.2.2.2.2.2.1)⟩))
    simp only [ha0_, Act.put, List.setIfInBounds_toArray, List.set_cons_zero, List.set_cons_succ] at hD31
    have hD28 : ∀ (wk_ : World) (A1_ : Nat) (v3_ : Value) (A5_ : Nat) (r6a_ : Option Addr) (r6c_ : Nat) (a_36 : Option Addr) (c_37 : Nat) (b_38 : Option Addr) (d_39 : Nat) (a_40 : Option Addr) (c_41 : Nat) (b_42 : Option Addr) (d_43 : Nat) (z44 : Int) (z45 : Int) (z46 : Int) (z47 : Int) (A15_ : Nat), w5.heap.size ≤ A15_ → Hid (z44 = (oN (loO cs rs2 sc rd day))) → Hid (Sz z44 14) → Hid (z45 = (oD (loO cs rs2 sc rd day))) → Hid (Sz z45 14) → Hid (z46 = (oN (hiO cs rs2 sc rd day))) → Hid (Sz z46 14) → Hid (z47 = (oD (hiO cs rs2 sc rd day))) → Hid (Sz z47 14) → Hid (Bx wk_ A15_ 34 #[.int .i64 0, .slice none 0 0, .int .i64 0, .slice none 0 0] ∧ BD G wk_ a_36 c_37 z44 ∧ BD G wk_ b_38 d_39 z45 ∧ BD G wk_ a_40 c_41 z46 ∧ BD G wk_ b_42 d_43 z47 ∧ Below w5.heap.size w5 wk_) → X_ 4 #[true, true, true, true, true, true, true, true, true, true, true, true, true, true, true, true, false, false, false, false] (Act.put (Act.put (Act.put (Act.put (Act.put (Act.put (Act.put (Act.put (Act.put (Act.put a0_ (some 48) (.slice (some ⟨A1_, 0, none⟩) 0 0)) (some 50) (v3_)) (some 52) (.slice (some ⟨A5_, 0, none⟩) 1 1)) (some 53) (.slice r6a_ rs2.length r6c_)) (some 57) (.tuple #[.agg #[.int .i64 (sg z44), .slice a_36 (ln z44) c_37, .int .i64 (sg z45), .slice b_38 (ln z45) d_39], .agg #[.int .i64 (sg z46), .slice a_40 (ln z46) c_41, .int .i64 (sg z47), .slice b_42 (ln z47) d_43], .bool ic])) (some 46) (.tuple #[.agg #[.int .i64 (sg z44), .slice a_36 (ln z44) c_37, .int .i64 (sg z45), .slice b_38 (ln z45) d_39], .agg #[.int .i64 (sg z46), .slice a_40 (ln z46) c_41, .int .i64 (sg z47), .slice b_42 (ln z47) d_43], .bool ic])) (some 58) (.agg #[.int .i64 (sg z44), .slice a_36 (ln z44) c_37, .int .i64 (sg z45), .slice b_38 (ln z45) d_39])) (some 59) (.agg #[.int .i64 (sg z46), .slice a_40 (ln z46) c_41, .int .i64 (sg z47), .slice b_42 (ln z47) d_43])) (some 60) (.bool ic)) (some 19) (.pointer (some ⟨A15_, 0, none⟩))) wk_ := by
      intro wk_ A1_ v3_ A5_ r6a_ r6c_ a_36 c_37 b_38 d_39 a_40 c_41 b_42 d_43 z44 z45 z46 z47 A15_ c0_ Ez44 Sz44 Ez45 Sz45 Ez46 Sz46 Ez47 Sz47 rel_
      subst hX_ ha0_
      have M := Lib.hid (And.intro rel_.out.1 (And.intro rel_.out.2.1 (And.intro rel_.out.2.2.1 (And.intro rel_.out.2.2.2.1 (And.intro rel_.out.2.2.2.2.1 (And.intro rel_.out.2.2.2.2.2 (Goes.go Mb_.out rel_.out.2.2.2.2.2)))))))
      clear rel_
      have hH57 : (fun w' => w'.cell? ⟨w.heap.size, 0, none⟩ = some (.int .i64 xs) ∧ w'.cell? ⟨w.heap.size, 1, none⟩ = some (.int .i64 xt)) wk_ := ⟨(M.out.2.2.2.2.2.2.2.2.2.2.2.2.2.1).at.1 0, (M.out.2.2.2.2.2.2.2.2.2.2.2.2.2.1).at.1 1⟩
      (try simp only [Act.put, List.setIfInBounds_toArray, List.set_cons_zero, List.set_cons_succ])
      have lw_ := ((M.out.2.2.2.2.2.1)).size
      have l15_ := ((M.out.1)).lt
      refine wpAnyH_ready (rs := [16]) (by kernel_rfl) (by simp) ?_
      refine AllReadyH.cons at16 (fun K hK => ?_) AllReadyH.nil
      go_simp
      obtain ⟨w6, hv⟩ : ∃ w_ : World, w_ = (wk_.alloc (.cells #[.int .i64 0, .slice none 0 0, .int .i64 0, .slice none 0 0] 34)) := ⟨_, rfl⟩
      rw [← hv]
      have ow7_ : A15_ < wk_.heap.size := ((M.out.1)).lt
      replace M := Lib.hid (And.intro (hv ▸ bx1 wk_ 34 #[.int .i64 0, .slice none 0 0, .int .i64 0, .slice none 0 0]) (Goes.go M.out (hv ▸ below_alloc _ _ : Below wk_.heap.size wk_ w6)))
      clear hv
      refine hK.out _ _ (⟨(M.out.2.2.2.2.2.2.2.2.2.2.2.2.2.2.1).at.1 0, (M.out.2.2.2.2.2.2.2.2.2.2.2.2.2.2.1).at.1 1⟩) (fun hH58 => ?_)
      clear hK K hH57
      (try simp only [Act.put, List.setIfInBounds_toArray, List.set_cons_zero, List.set_cons_succ])
      exact at_node (by kernel_rfl) (hD31 w6 A1_ v3_ A5_ r6a_ r6c_ a_36 c_37 b_38 d_39 a_40 c_41 b_42 d_43 z44 z45 z46 z47 A15_ wk_.heap.size (by omega) (by omega) (by omega) Ez44 Sz44 Ez45 Sz45 Ez46 Sz46 Ez47 Sz47 (Lib.hid ⟨(M.out.1), (M.out.2.1), (M.out.2.2.1), (M.out.2.2.2.1), (M.out.2.2.2.2.1), (M.out.2.2.2.2.2.1), (M.out.2.2.2.2.2.2.1)⟩))
    simp only [ha0_, Act.put, List.setIfInBounds_toArray, List.set_cons_zero, List.set_cons_succ] at hD28
    have hD29 : ∀ (wk_ : World) (A1_ : Nat) (v3_ : Value) (A5_ : Nat) (r6a_ : Option Addr) (r6c_ : Nat) (a_36 : Option Addr) (c_37 : Nat) (b_38 : Option Addr) (d_39 : Nat) (a_40 : Option Addr) (c_41 : Nat) (b_42 : Option Addr) (d_43 : Nat) (z44 : Int) (z45 : Int) (z46 : Int) (z47 : Int) (A16_ : Nat), w5.heap.size ≤ A16_ → Hid (z44 = (oN (loO cs rs2 sc rd day))) → Hid (Sz z44 14) → Hid (z45 = (oD (loO cs rs2 sc rd day))) → Hid (Sz z45 14) → Hid (z46 = (oN (hiO cs rs2 sc rd day))) → Hid (Sz z46 14) → Hid (z47 = (oD (hiO cs rs2 sc rd day))) → Hid (Sz z47 14) → Hid (Bx wk_ A16_ 34 #[.int .i64 0, .slice none 0 0, .int .i64 0, .slice none 0 0] ∧ BD G wk_ a_36 c_37 z44 ∧ BD G wk_ b_38 d_39 z45 ∧ BD G wk_ a_40 c_41 z46 ∧ BD G wk_ b_42 d_43 z47 ∧ Below w5.heap.size w5 wk_) → X_ 4 #[true, true, true, true, true, true, true, true, true, true, true, true, true, true, true, false, true, false, false, false] (Act.put (Act.put (Act.put (Act.put (Act.put (Act.put (Act.put (Act.put (Act.put (Act.put a0_ (some 48) (.slice (some ⟨A1_, 0, none⟩) 0 0)) (some 50) (v3_)) (some 52) (.slice (some ⟨A5_, 0, none⟩) 1 1)) (some 53) (.slice r6a_ rs2.length r6c_)) (some 57) (.tuple #[.agg #[.int .i64 (sg z44), .slice a_36 (ln z44) c_37, .int .i64 (sg z45), .slice b_38 (ln z45) d_39], .agg #[.int .i64 (sg z46), .slice a_40 (ln z46) c_41, .int .i64 (sg z47), .slice b_42 (ln z47) d_43], .bool ic])) (some 46) (.tuple #[.agg #[.int .i64 (sg z44), .slice a_36 (ln z44) c_37, .int .i64 (sg z45), .slice b_38 (ln z45) d_39], .agg #[.int .i64 (sg z46), .slice a_40 (ln z46) c_41, .int .i64 (sg z47), .slice b_42 (ln z47) d_43], .bool ic])) (some 58) (.agg #[.int .i64 (sg z44), .slice a_36 (ln z44) c_37, .int .i64 (sg z45), .slice b_38 (ln z45) d_39])) (some 59) (.agg #[.int .i64 (sg z46), .slice a_40 (ln z46) c_41, .int .i64 (sg z47), .slice b_42 (ln z47) d_43])) (some 60) (.bool ic)) (some 20) (.pointer (some ⟨A16_, 0, none⟩))) wk_ := by
      intro wk_ A1_ v3_ A5_ r6a_ r6c_ a_36 c_37 b_38 d_39 a_40 c_41 b_42 d_43 z44 z45 z46 z47 A16_ c0_ Ez44 Sz44 Ez45 Sz45 Ez46 Sz46 Ez47 Sz47 rel_
      subst hX_ ha0_
      have M := Lib.hid (And.intro rel_.out.1 (And.intro rel_.out.2.1 (And.intro rel_.out.2.2.1 (And.intro rel_.out.2.2.2.1 (And.intro rel_.out.2.2.2.2.1 (And.intro rel_.out.2.2.2.2.2 (Goes.go Mb_.out rel_.out.2.2.2.2.2)))))))
      clear rel_
      have hH59 : (fun w' => w'.cell? ⟨w.heap.size, 0, none⟩ = some (.int .i64 xs) ∧ w'.cell? ⟨w.heap.size, 1, none⟩ = some (.int .i64 xt)) wk_ := ⟨(M.out.2.2.2.2.2.2.2.2.2.2.2.2.2.1).at.1 0, (M.out.2.2.2.2.2.2.2.2.2.2.2.2.2.1).at.1 1⟩
      (try simp only [Act.put, List.setIfInBounds_toArray, List.set_cons_zero, List.set_cons_succ])
      have lw_ := ((M.out.2.2.2.2.2.1)).size
      have l16_ := ((M.out.1)).lt
      refine wpAnyH_ready (rs := [15]) (by kernel_rfl) (by simp) ?_
      refine AllReadyH.cons at15 (fun K hK => ?_) AllReadyH.nil
      go_simp
      obtain ⟨w6, hv⟩ : ∃ w_ : World, w_ = (wk_.alloc (.cells #[.int .i64 0, .slice none 0 0, .int .i64 0, .slice none 0 0] 34)) := ⟨_, rfl⟩
      rw [← hv]
      have ow7_ : A16_ < wk_.heap.size := ((M.out.1)).lt
      replace M := Lib.hid (And.intro (hv ▸ bx1 wk_ 34 #[.int .i64 0, .slice none 0 0, .int .i64 0, .slice none 0 0]) (Goes.go M.out (hv ▸ below_alloc _ _ : Below wk_.heap.size wk_ w6)))
      clear hv
      refine hK.out _ _ (⟨(M.out.2.2.2.2.2.2.2.2.2.2.2.2.2.2.1).at.1 0, (M.out.2.2.2.2.2.2.2.2.2.2.2.2.2.2.1).at.1 1⟩) (fun hH60 => ?_)
      clear hK K hH59
      (try simp only [Act.put, List.setIfInBounds_toArray, List.set_cons_zero, List.set_cons_succ])
      exact at_node (by kernel_rfl) (hD31 w6 A1_ v3_ A5_ r6a_ r6c_ a_36 c_37 b_38 d_39 a_40 c_41 b_42 d_43 z44 z45 z46 z47 wk_.heap.size A16_ (by omega) (by omega) (by omega) Ez44 Sz44 Ez45 Sz45 Ez46 Sz46 Ez47 Sz47 (Lib.hid ⟨(M.out.2.1), (M.out.1), (M.out.2.2.1), (M.out.2.2.2.1), (M.out.2.2.2.2.1), (M.out.2.2.2.2.2.1), (M.out.2.2.2.2.2.2.1)⟩))
    simp only [ha0_, Act.put, List.setIfInBounds_toArray, List.set_cons_zero, List.set_cons_succ] at hD29
    have hD30 : ∀ (wk_ : World) (A1_ : Nat) (v3_ : Value) (A5_ : Nat) (r6a_ : Option Addr) (r6c_ : Nat) (A15_ : Nat) (A16_ : Nat), w5.heap.size ≤ A15_ → w5.heap.size ≤ A16_ → A15_ ≠ A16_ → Hid (Bx wk_ A16_ 34 #[.int .i64 0, .slice none 0 0, .int .i64 0, .slice none 0 0] ∧ Bx wk_ A15_ 34 #[.int .i64 0, .slice none 0 0, .int .i64 0, .slice none 0 0] ∧ RcIn wk_ (.slice r6a_ rs2.length r6c_) rs2 ∧ Below w5.heap.size w5 wk_) → X_ 8 #[true, true, true, true, true, true, true, true, true, true, false, false, false, false, false, true, true, false, false, false] (Act.put (Act.put (Act.put (Act.put (Act.put (Act.put a0_ (some 48) (.slice (some ⟨A1_, 0, none⟩) 0 0)) (some 50) (v3_)) (some 52) (.slice (some ⟨A5_, 0, none⟩) 1 1)) (some 53) (.slice r6a_ rs2.length r6c_)) (some 19) (.pointer (some ⟨A15_, 0, none⟩))) (some 20) (.pointer (some ⟨A16_, 0, none⟩))) wk_ := by
      intro wk_ A1_ v3_ A5_ r6a_ r6c_ A15_ A16_ c0_ c1_ c2_ rel_
      subst hX_ ha0_
      have M := Lib.hid (And.intro rel_.out.1 (And.intro rel_.out.2.1 (And.intro rel_.out.2.2.1 (And.intro rel_.out.2.2.2 (Goes.go Mb_.out rel_.out.2.2.2)))))
      clear rel_
      have hH61 : (fun w' => w'.cell? ⟨w.heap.size, 0, none⟩ = some (.int .i64 xs) ∧ w'.cell? ⟨w.heap.size, 1, none⟩ = some (.int .i64 xt)) wk_ := ⟨(M.out.2.2.2.2.2.2.2.2.2.2.2.1).at.1 0, (M.out.2.2.2.2.2.2.2.2.2.2.2.1).at.1 1⟩
      (try simp only [Act.put, List.setIfInBounds_toArray, List.set_cons_zero, List.set_cons_succ])
      have lw_ := ((M.out.2.2.2.1)).size
      have l15_ := ((M.out.2.1)).lt
      have l16_ := ((M.out.1)).lt
      refine wpAnyH_ready (rs := [10]) (by kernel_rfl) (by simp) ?_
      refine AllReadyH.cons at10 (fun K hK => ?_) AllReadyH.nil
      go_simp
      obtain ⟨z70, ez70⟩ : ∃ v_ : Int, v_ = (oN (loO cs rs2 sc rd day)) := ⟨_, rfl⟩
      obtain ⟨z71, ez71⟩ : ∃ v_ : Int, v_ = (oD (loO cs rs2 sc rd day)) := ⟨_, rfl⟩
      obtain ⟨z72, ez72⟩ : ∃ v_ : Int, v_ = (oN (hiO cs rs2 sc rd day)) := ⟨_, rfl⟩
      obtain ⟨z73, ez73⟩ : ∃ v_ : Int, v_ = (oD (hiO cs rs2 sc rd day)) := ⟨_, rfl⟩
      refine (scInterval_v (G := G) (sc := sc) (rd := rd) (day := day) (b_ := ic) (H1.out.keep (M.out.2.2.2.2.2.2.2.2.2.2.2.2)) (M.out.2.2.1) (by have h1_ := HRL.out; have h2_ := HCL2.out; omega) (by have h1_ := HRL.out; have h2_ := HCL2.out; omega) (Nat.le_trans hG (M.out.2.2.2.2.2.2.2.2.2.2.2.2).size) HIC.out).mono ?_
      rintro e w6 ⟨a_62, c_63, b_64, d_65, a_66, c_67, b_68, d_69, rfl, hd74, hd75, hd76, hd77, hb⟩
      rw [← ez70] at hd74 ⊢
      have Sz70 : Hid (Sz z70 14) := by show Sz z70 14; rw [ez70]; exact (lo_sizes _ _ _ _ _).1
      have Ez70 := Lib.hid ez70; clear ez70
      rw [← ez71] at hd75 ⊢
      have Sz71 : Hid (Sz z71 14) := by show Sz z71 14; rw [ez71]; exact (lo_sizes _ _ _ _ _).2
      have Ez71 := Lib.hid ez71; clear ez71
      rw [← ez72] at hd76 ⊢
      have Sz72 : Hid (Sz z72 14) := by show Sz z72 14; rw [ez72]; exact (hi_sizes _ _ _ _ _).1
      have Ez72 := Lib.hid ez72; clear ez72
      rw [← ez73] at hd77 ⊢
      have Sz73 : Hid (Sz z73 14) := by show Sz z73 14; rw [ez73]; exact (hi_sizes _ _ _ _ _).2
      have Ez73 := Lib.hid ez73; clear ez73
      replace M := Lib.hid (And.intro hd74 (And.intro hd75 (And.intro hd76 (And.intro hd77 (Goes.go M.out hb)))))
      clear hb hd74 hd75 hd76 hd77
      (try go_wp2_with fail)
      refine hK.out _ _ (⟨(M.out.2.2.2.2.2.2.2.2.2.2.2.2.2.2.2.1).at.1 0, (M.out.2.2.2.2.2.2.2.2.2.2.2.2.2.2.2.1).at.1 1⟩) (fun hH78 => ?_)
      clear hK K hH61
      (try simp only [Act.put, List.setIfInBounds_toArray, List.set_cons_zero, List.set_cons_succ])
      refine tk at11 ?_
      refine tk at12 ?_
      refine tk at13 ?_
      refine tk at14 ?_
      exact at_node (by kernel_rfl) (hD31 w6 A1_ v3_ A5_ r6a_ r6c_ a_62 c_63 b_64 d_65 a_66 c_67 b_68 d_69 z70 z71 z72 z73 A15_ A16_ (by omega) (by omega) (by omega) Ez70 Sz70 Ez71 Sz71 Ez72 Sz72 Ez73 Sz73 (Lib.hid ⟨(M.out.2.2.2.2.1), (M.out.2.2.2.2.2.1), (M.out.1), (M.out.2.1), (M.out.2.2.1), (M.out.2.2.2.1), (M.out.2.2.2.2.2.2.2.1)⟩))
    simp only [ha0_, Act.put, List.setIfInBounds_toArray, List.set_cons_zero, List.set_cons_succ] at hD30
    have hD24 : ∀ (wk_ : World) (A1_ : Nat) (v3_ : Value) (A5_ : Nat) (r6a_ : Option Addr) (r6c_ : Nat) (a_36 : Option Addr) (c_37 : Nat) (b_38 : Option Addr) (d_39 : Nat) (a_40 : Option Addr) (c_41 : Nat) (b_42 : Option Addr) (d_43 : Nat) (z44 : Int) (z45 : Int) (z46 : Int) (z47 : Int), Hid (z44 = (oN (loO cs rs2 sc rd day))) → Hid (Sz z44 14) → Hid (z45 = (oD (loO cs rs2 sc rd day))) → Hid (Sz z45 14) → Hid (z46 = (oN (hiO cs rs2 sc rd day))) → Hid (Sz z46 14) → Hid (z47 = (oD (hiO cs rs2 sc rd day))) → Hid (Sz z47 14) → Hid (BD G wk_ a_36 c_37 z44 ∧ BD G wk_ b_38 d_39 z45 ∧ BD G wk_ a_40 c_41 z46 ∧ BD G wk_ b_42 d_43 z47 ∧ Below w5.heap.size w5 wk_) → X_ 5 #[true, true, true, true, true, true, true, true, true, true, true, true, true, true, true, false, false, false, false, false] (Act.put (Act.put (Act.put (Act.put (Act.put (Act.put (Act.put (Act.put (Act.put a0_ (some 48) (.slice (some ⟨A1_, 0, none⟩) 0 0)) (some 50) (v3_)) (some 52) (.slice (some ⟨A5_, 0, none⟩) 1 1)) (some 53) (.slice r6a_ rs2.length r6c_)) (some 57) (.tuple #[.agg #[.int .i64 (sg z44), .slice a_36 (ln z44) c_37, .int .i64 (sg z45), .slice b_38 (ln z45) d_39], .agg #[.int .i64 (sg z46), .slice a_40 (ln z46) c_41, .int .i64 (sg z47), .slice b_42 (ln z47) d_43], .bool ic])) (some 46) (.tuple #[.agg #[.int .i64 (sg z44), .slice a_36 (ln z44) c_37, .int .i64 (sg z45), .slice b_38 (ln z45) d_39], .agg #[.int .i64 (sg z46), .slice a_40 (ln z46) c_41, .int .i64 (sg z47), .slice b_42 (ln z47) d_43], .bool ic])) (some 58) (.agg #[.int .i64 (sg z44), .slice a_36 (ln z44) c_37, .int .i64 (sg z45), .slice b_38 (ln z45) d_39])) (some 59) (.agg #[.int .i64 (sg z46), .slice a_40 (ln z46) c_41, .int .i64 (sg z47), .slice b_42 (ln z47) d_43])) (some 60) (.bool ic)) wk_ := by
      intro wk_ A1_ v3_ A5_ r6a_ r6c_ a_36 c_37 b_38 d_39 a_40 c_41 b_42 d_43 z44 z45 z46 z47 Ez44 Sz44 Ez45 Sz45 Ez46 Sz46 Ez47 Sz47 rel_
      subst hX_ ha0_
      have M := Lib.hid (And.intro rel_.out.1 (And.intro rel_.out.2.1 (And.intro rel_.out.2.2.1 (And.intro rel_.out.2.2.2.1 (And.intro rel_.out.2.2.2.2 (Goes.go Mb_.out rel_.out.2.2.2.2))))))
      clear rel_
      have hH79 : (fun w' => w'.cell? ⟨w.heap.size, 0, none⟩ = some (.int .i64 xs) ∧ w'.cell? ⟨w.heap.size, 1, none⟩ = some (.int .i64 xt)) wk_ := ⟨(M.out.2.2.2.2.2.2.2.2.2.2.2.2.1).at.1 0, (M.out.2.2.2.2.2.2.2.2.2.2.2.2.1).at.1 1⟩
      (try simp only [Act.put, List.setIfInBounds_toArray, List.set_cons_zero, List.set_cons_succ])
      have lw_ := ((M.out.2.2.2.2.1)).size
      refine wpAnyH_ready (rs := [15, 16]) (by kernel_rfl) (by simp) ?_
      refine AllReadyH.cons at15 (fun K hK => ?_) ?_
      ·
        go_simp
        obtain ⟨w6, hv⟩ : ∃ w_ : World, w_ = (wk_.alloc (.cells #[.int .i64 0, .slice none 0 0, .int .i64 0, .slice none 0 0] 34)) := ⟨_, rfl⟩
        rw [← hv]
        have ow6_ : w3.heap.size + 1 < wk_.heap.size := ((M.out.2.2.2.2.2.1)).lt
        replace M := Lib.hid (And.intro (hv ▸ bx1 wk_ 34 #[.int .i64 0, .slice none 0 0, .int .i64 0, .slice none 0 0]) (Goes.go M.out (hv ▸ below_alloc _ _ : Below wk_.heap.size wk_ w6)))
        clear hv
        refine hK.out _ _ (⟨(M.out.2.2.2.2.2.2.2.2.2.2.2.2.2.1).at.1 0, (M.out.2.2.2.2.2.2.2.2.2.2.2.2.2.1).at.1 1⟩) (fun hH80 => ?_)
        clear hK K hH79
        (try simp only [Act.put, List.setIfInBounds_toArray, List.set_cons_zero, List.set_cons_succ])
        exact at_node (by kernel_rfl) (hD28 w6 A1_ v3_ A5_ r6a_ r6c_ a_36 c_37 b_38 d_39 a_40 c_41 b_42 d_43 z44 z45 z46 z47 wk_.heap.size (by omega) Ez44 Sz44 Ez45 Sz45 Ez46 Sz46 Ez47 Sz47 (Lib.hid ⟨(M.out.1), (M.out.2.1), (M.out.2.2.1), (M.out.2.2.2.1), (M.out.2.2.2.2.1), (M.out.2.2.2.2.2.1)⟩))
      refine AllReadyH.cons at16 (fun K hK => ?_) AllReadyH.nil
      go_simp
      obtain ⟨w6, hv⟩ : ∃ w_ : World, w_ = (wk_.alloc (.cells #[.int .i64 0, .slice none 0 0, .int .i64 0, .slice none 0 0] 34)) := ⟨_, rfl⟩
      rw [← hv]
      have ow6_ : w3.heap.size + 1 < wk_.heap.size := ((M.out.2.2.2.2.2.1)).lt
      replace M := Lib.hid (And.intro (hv ▸ bx1 wk_ 34 #[.int .i64 0, .slice none 0 0, .int .i64 0, .slice none 0 0]) (Goes.go M.out (hv ▸ below_alloc _ _ : Below wk_.heap.size wk_ w6)))
      clear hv
      refine hK.out _ _ (⟨(M.out.2.2.2.2.2.2.2.2.2.2.2.2.2.1).at.1 0, (M.out.2.2.2.2.2.2.2.2.2.2.2.2.2.1).at.1 1⟩) (fun hH81 => ?_)
      clear hK K hH79
      (try simp only [Act.put, List.setIfInBounds_toArray, List.set_cons_zero, List.set_cons_succ])
      exact at_node (by kernel_rfl) (hD29 w6 A1_ v3_ A5_ r6a_ r6c_ a_36 c_37 b_38 d_39 a_40 c_41 b_42 d_43 z44 z45 z46 z47 wk_.heap.size (by omega) Ez44 Sz44 Ez45 Sz45 Ez46 Sz46 Ez47 Sz47 (Lib.hid ⟨(M.out.1), (M.out.2.1), (M.out.2.2.1), (M.out.2.2.2.1), (M.out.2.2.2.2.1), (M.out.2.2.2.2.2.1)⟩))
    simp only [ha0_, Act.put, List.setIfInBounds_toArray, List.set_cons_zero, List.set_cons_succ] at hD24
    have hD25 : ∀ (wk_ : World) (A1_ : Nat) (v3_ : Value) (A5_ : Nat) (r6a_ : Option Addr) (r6c_ : Nat) (A15_ : Nat), w5.heap.size ≤ A15_ → Hid (Bx wk_ A15_ 34 #[.int .i64 0, .slice none 0 0, .int .i64 0, .slice none 0 0] ∧ RcIn wk_ (.slice r6a_ rs2.length r6c_) rs2 ∧ Below w5.heap.size w5 wk_) → X_ 9 #[true, true, true, true, true, true, true, true, true, true, false, false, false, false, false, true, false, false, false, false] (Act.put (Act.put (Act.put (Act.put (Act.put a0_ (some 48) (.slice (some ⟨A1_, 0, none⟩) 0 0)) (some 50) (v3_)) (some 52) (.slice (some ⟨A5_, 0, none⟩) 1 1)) (some 53) (.slice r6a_ rs2.length r6c_)) (some 19) (.pointer (some ⟨A15_, 0, none⟩))) wk_ := by
      intro wk_ A1_ v3_ A5_ r6a_ r6c_ A15_ c0_ rel_
      subst hX_ ha0_
      have M := Lib.hid (And.intro rel_.out.1 (And.intro rel_.out.2.1 (And.intro rel_.out.2.2 (Goes.go Mb_.out rel_.out.2.2))))
      clear rel_
      have hH82 : (fun w' => w'.cell? ⟨w.heap.size, 0, none⟩ = some (.int .i64 xs) ∧ w'.cell? ⟨w.heap.size, 1, none⟩ = some (.int .i64 xt)) wk_ := ⟨(M.out.2.2.2.2.2.2.2.2.2.2.1).at.1 0, (M.out.2.2.2.2.2.2.2.2.2.2.1).at.1 1⟩
      (try simp only [Act.put, List.setIfInBounds_toArray, List.set_cons_zero, List.set_cons_succ])
      have lw_ := ((M.out.2.2.1)).size
      have l15_ := ((M.out.1)).lt
      refine wpAnyH_ready (rs := [10, 16]) (by kernel_rfl) (by simp) ?_
      refine AllReadyH.cons at10 (fun K hK => ?_) ?_
      ·
        go_simp
        obtain ⟨z91, ez91⟩ : ∃ v_ : Int, v_ = (oN (loO cs rs2 sc rd day)) := ⟨_, rfl⟩
        obtain ⟨z92, ez92⟩ : ∃ v_ : Int, v_ = (oD (loO cs rs2 sc rd day)) := ⟨_, rfl⟩
        obtain ⟨z93, ez93⟩ : ∃ v_ : Int, v_ = (oN (hiO cs rs2 sc rd day)) := ⟨_, rfl⟩
        obtain ⟨z94, ez94⟩ : ∃ v_ : Int, v_ = (oD (hiO cs rs2 sc rd day)) := ⟨_, rfl⟩
        refine (scInterval_v (G := G) (sc := sc) (rd := rd) (day := day) (b_ := ic) (H1.out.keep (M.out.2.2.2.2.2.2.2.2.2.2.2)) (M.out.2.1) (by have h1_ := HRL.out; have h2_ := HCL2.out; omega) (by have h1_ := HRL.out; have h2_ := HCL2.out; omega) (Nat.le_trans hG (M.out.2.2.2.2.2.2.2.2.2.2.2).size) HIC.out).mono ?_
        rintro e w6 ⟨a_83, c_84, b_85, d_86, a_87, c_88, b_89, d_90, rfl, hd95, hd96, hd97, hd98, hb⟩
        rw [← ez91] at hd95 ⊢
        have Sz91 : Hid (Sz z91 14) := by show Sz z91 14; rw [ez91]; exact (lo_sizes _ _ _ _ _).1
        have Ez91 := Lib.hid ez91; clear ez91
        rw [← ez92] at hd96 ⊢
        have Sz92 : Hid (Sz z92 14) := by show Sz z92 14; rw [ez92]; exact (lo_sizes _ _ _ _ _).2
        have Ez92 := Lib.hid ez92; clear ez92
        rw [← ez93] at hd97 ⊢
        have Sz93 : Hid (Sz z93 14) := by show Sz z93 14; rw [ez93]; exact (hi_sizes _ _ _ _ _).1
        have Ez93 := Lib.hid ez93; clear ez93
        rw [← ez94] at hd98 ⊢
        have Sz94 : Hid (Sz z94 14) := by show Sz z94 14; rw [ez94]; exact (hi_sizes _ _ _ _ _).2
        have Ez94 := Lib.hid ez94; clear ez94
        replace M := Lib.hid (And.intro hd95 (And.intro hd96 (And.intro hd97 (And.intro hd98 (Goes.go M.out hb)))))
        clear hb hd95 hd96 hd97 hd98
        (try go_wp2_with fail)
        refine hK.out _ _ (⟨(M.out.2.2.2.2.2.2.2.2.2.2.2.2.2.2.1).at.1 0, (M.out.2.2.2.2.2.2.2.2.2.2.2.2.2.2.1).at.1 1⟩) (fun hH99 => ?_)
        clear hK K hH82
        (try simp only [Act.put, List.setIfInBounds_toArray, List.set_cons_zero, List.set_cons_succ])
        refine tk at11 ?_
        refine tk at12 ?_
        refine tk at13 ?_
        refine tk at14 ?_
        exact at_node (by kernel_rfl) (hD28 w6 A1_ v3_ A5_ r6a_ r6c_ a_83 c_84 b_85 d_86 a_87 c_88 b_89 d_90 z91 z92 z93 z94 A15_ (by omega) Ez91 Sz91 Ez92 Sz92 Ez93 Sz93 Ez94 Sz94 (Lib.hid ⟨(M.out.2.2.2.2.1), (M.out.1), (M.out.2.1), (M.out.2.2.1), (M.out.2.2.2.1), (M.out.2.2.2.2.2.2.1)⟩))
      refine AllReadyH.cons at16 (fun K hK => ?_) AllReadyH.nil
      go_simp
      obtain ⟨w6, hv⟩ : ∃ w_ : World, w_ = (wk_.alloc (.cells #[.int .i64 0, .slice none 0 0, .int .i64 0, .slice none 0 0] 34)) := ⟨_, rfl⟩
      rw [← hv]
      have ow7_ : A15_ < wk_.heap.size := ((M.out.1)).lt
      replace M := Lib.hid (And.intro (hv ▸ bx1 wk_ 34 #[.int .i64 0, .slice none 0 0, .int .i64 0, .slice none 0 0]) (Goes.go M.out (hv ▸ below_alloc _ _ : Below wk_.heap.size wk_ w6)))
      clear hv
      refine hK.out _ _ (⟨(M.out.2.2.2.2.2.2.2.2.2.2.2.1).at.1 0, (M.out.2.2.2.2.2.2.2.2.2.2.2.1).at.1 1⟩) (fun hH100 => ?_)
      clear hK K hH82
      (try simp only [Act.put, List.setIfInBounds_toArray, List.set_cons_zero, List.set_cons_succ])
      exact at_node (by kernel_rfl) (hD30 w6 A1_ v3_ A5_ r6a_ r6c_ A15_ wk_.heap.size (by omega) (by omega) (by omega) (Lib.hid ⟨(M.out.1), (M.out.2.1), (M.out.2.2.1), (M.out.2.2.2.1)⟩))
    simp only [ha0_, Act.put, List.setIfInBounds_toArray, List.set_cons_zero, List.set_cons_succ] at hD25
    have hD26 : ∀ (wk_ : World) (A1_ : Nat) (v3_ : Value) (A5_ : Nat) (r6a_ : Option Addr) (r6c_ : Nat) (A16_ : Nat), w5.heap.size ≤ A16_ → Hid (Bx wk_ A16_ 34 #[.int .i64 0, .slice none 0 0, .int .i64 0, .slice none 0 0] ∧ RcIn wk_ (.slice r6a_ rs2.length r6c_) rs2 ∧ Below w5.heap.size w5 wk_) → X_ 9 #[true, true, true, true, true, true, true, true, true, true, false, false, false, false, false, false, true, false, false, false] (Act.put (Act.put (Act.put (Act.put (Act.put a0_ (some 48) (.slice (some ⟨A1_, 0, none⟩) 0 0)) (some 50) (v3_)) (some 52) (.slice (some ⟨A5_, 0, none⟩) 1 1)) (some 53) (.slice r6a_ rs2.length r6c_)) (some 20) (.pointer (some ⟨A16_, 0, none⟩))) wk_ := by
      intro wk_ A1_ v3_ A5_ r6a_ r6c_ A16_ c0_ rel_
      subst hX_ ha0_
      have M := Lib.hid (And.intro rel_.out.1 (And.intro rel_.out.2.1 (And.intro rel_.out.2.2 (Goes.go Mb_.out rel_.out.2.2))))
      clear rel_
      have hH101 : (fun w' => w'.cell? ⟨w.heap.size, 0, none⟩ = some (.int .i64 xs) ∧ w'.cell? ⟨w.heap.size, 1, none⟩ = some (.int .i64 xt)) wk_ := ⟨(M.out.2.2.2.2.2.2.2.2.2.2.1).at.1 0, (M.out.2.2.2.2.2.2.2.2.2.2.1).at.1 1⟩
      (try simp only [Act.put, List.setIfInBounds_toArray, List.set_cons_zero, List.set_cons_succ])
      have lw_ := ((M.out.2.2.1)).size
      have l16_ := ((M.out.1)).lt
      refine wpAnyH_ready (rs := [10, 15]) (by kernel_rfl) (by simp) ?_
      refine AllReadyH.cons at10 (fun K hK => ?_) ?_
      ·
        go_simp
        obtain ⟨z110, ez110⟩ : ∃ v_ : Int, v_ = (oN (loO cs rs2 sc rd day)) := ⟨_, rfl⟩
        obtain ⟨z111, ez111⟩ : ∃ v_ : Int, v_ = (oD (loO cs rs2 sc rd day)) := ⟨_, rfl⟩
        obtain ⟨z112, ez112⟩ : ∃ v_ : Int, v_ = (oN (hiO cs rs2 sc rd day)) := ⟨_, rfl⟩
        obtain ⟨z113, ez113⟩ : ∃ v_ : Int, v_ = (oD (hiO cs rs2 sc rd day)) := ⟨_, rfl⟩
        refine (scInterval_v (G := G) (sc := sc) (rd := rd) (day := day) (b_ := ic) (H1.out.keep (M.out.2.2.2.2.2.2.2.2.2.2.2)) (M.out.2.1) (by have h1_ := HRL.out; have h2_ := HCL2.out; omega) (by have h1_ := HRL.out; have h2_ := HCL2.out; omega) (Nat.le_trans hG (M.out.2.2.2.2.2.2.2.2.2.2.2).size) HIC.out).mono ?_
        rintro e w6 ⟨a_102, c_103, b_104, d_105, a_106, c_107, b_108, d_109, rfl, hd114, hd115, hd116, hd117, hb⟩
        rw [← ez110] at hd114 ⊢
        have Sz110 : Hid (Sz z110 14) := by show Sz z110 14; rw [ez110]; exact (lo_sizes _ _ _ _ _).1
        have Ez110 := Lib.hid ez110; clear ez110
        rw [← ez111] at hd115 ⊢
        have Sz111 : Hid (Sz z111 14) := by show Sz z111 14; rw [ez111]; exact (lo_sizes _ _ _ _ _).2
        have Ez111 := Lib.hid ez111; clear ez111
        rw [← ez112] at hd116 ⊢
        have Sz112 : Hid (Sz z112 14) := by show Sz z112 14; rw [ez112]; exact (hi_sizes _ _ _ _ _).1
        have Ez112 := Lib.hid ez112; clear ez112
        rw [← ez113] at hd117 ⊢
        have Sz113 : Hid (Sz z113 14) := by show Sz z113 14; rw [ez113]; exact (hi_sizes _ _ _ _ _).2
        have Ez113 := Lib.hid ez113; clear ez113
        replace M := Lib.hid (And.intro hd114 (And.intro hd115 (And.intro hd116 (And.intro hd117 (Goes.go M.out hb)))))
        clear hb hd114 hd115 hd116 hd117
        (try go_wp2_with fail)
        refine hK.out _ _ (⟨(M.out.2.2.2.2.2.2.2.2.2.2.2.2.2.2.1).at.1 0, (M.out.2.2.2.2.2.2.2.2.2.2.2.2.2.2.1).at.1 1⟩) (fun hH118 => ?_)
        clear hK K hH101
        (try simp only [Act.put, List.setIfInBounds_toArray, List.set_cons_zero, List.set_cons_succ])
        refine tk at11 ?_
        refine tk at12 ?_
        refine tk at13 ?_
        refine tk at14 ?_
        exact at_node (by kernel_rfl) (hD29 w6 A1_ v3_ A5_ r6a_ r6c_ a_102 c_103 b_104 d_105 a_106 c_107 b_108 d_109 z110 z111 z112 z113 A16_ (by omega) Ez110 Sz110 Ez111 Sz111 Ez112 Sz112 Ez113 Sz113 (Lib.hid ⟨(M.out.2.2.2.2.1), (M.out.1), (M.out.2.1), (M.out.2.2.1), (M.out.2.2.2.1), (M.out.2.2.2.2.2.2.1)⟩))
      refine AllReadyH.cons at15 (fun K hK => ?_) AllReadyH.nil
      go_simp
      obtain ⟨w6, hv⟩ : ∃ w_ : World, w_ = (wk_.alloc (.cells #[.int .i64 0, .slice none 0 0, .int .i64 0, .slice none 0 0] 34)) := ⟨_, rfl⟩
      rw [← hv]
      have ow7_ : A16_ < wk_.heap.size := ((M.out.1)).lt
      replace M := Lib.hid (And.intro (hv ▸ bx1 wk_ 34 #[.int .i64 0, .slice none 0 0, .int .i64 0, .slice none 0 0]) (Goes.go M.out (hv ▸ below_alloc _ _ : Below wk_.heap.size wk_ w6)))
      clear hv
      refine hK.out _ _ (⟨(M.out.2.2.2.2.2.2.2.2.2.2.2.1).at.1 0, (M.out.2.2.2.2.2.2.2.2.2.2.2.1).at.1 1⟩) (fun hH119 => ?_)
      clear hK K hH101
      (try simp only [Act.put, List.setIfInBounds_toArray, List.set_cons_zero, List.set_cons_succ])
      exact at_node (by kernel_rfl) (hD30 w6 A1_ v3_ A5_ r6a_ r6c_ wk_.heap.size A16_ (by omega) (by omega) (by omega) (Lib.hid ⟨(M.out.2.1), (M.out.1), (M.out.2.2.1), (M.out.2.2.2.1)⟩))
    simp only [ha0_, Act.put, List.setIfInBounds_toArray, List.set_cons_zero, List.set_cons_succ] at hD26
    have hD27 : ∀ (wk_ : World) (A1_ : Nat) (v3_ : Value) (A5_ : Nat) (A15_ : Nat) (A16_ : Nat), w5.heap.size ≤ A5_ → w5.heap.size ≤ A15_ → w5.heap.size ≤ A16_ → A5_ ≠ A15_ → A5_ ≠ A16_ → A15_ ≠ A16_ → Hid (Bx wk_ A16_ 34 #[.int .i64 0, .slice none 0 0, .int .i64 0, .slice none 0 0] ∧ Bx wk_ A15_ 34 #[.int .i64 0, .slice none 0 0, .int .i64 0, .slice none 0 0] ∧ Bx wk_ A5_ 52 #[.int .i64 xs, .int .i64 xt] ∧ Kept wk_ w5.heap.size 52 2 rcCells v3_ rs ∧ Below w5.heap.size w5 wk_) → X_ 9 #[true, true, true, true, true, true, false, true, true, true, false, false, false, false, false, true, true, false, false, false] (Act.put (Act.put (Act.put (Act.put (Act.put a0_ (some 48) (.slice (some ⟨A1_, 0, none⟩) 0 0)) (some 50) (v3_)) (some 52) (.slice (some ⟨A5_, 0, none⟩) 1 1)) (some 19) (.pointer (some ⟨A15_, 0, none⟩))) (some 20) (.pointer (some ⟨A16_, 0, none⟩))) wk_ := by
      intro wk_ A1_ v3_ A5_ A15_ A16_ c0_ c1_ c2_ c3_ c4_ c5_ rel_
      subst hX_ ha0_
      have M := Lib.hid (And.intro rel_.out.1 (And.intro rel_.out.2.1 (And.intro rel_.out.2.2.1 (And.intro rel_.out.2.2.2.1 (And.intro rel_.out.2.2.2.2 (Goes.go Mb_.out rel_.out.2.2.2.2))))))
      clear rel_
      have hH120 : (fun w' => w'.cell? ⟨w.heap.size, 0, none⟩ = some (.int .i64 xs) ∧ w'.cell? ⟨w.heap.size, 1, none⟩ = some (.int .i64 xt)) wk_ := ⟨(M.out.2.2.2.2.2.2.2.2.2.2.2.2.1).at.1 0, (M.out.2.2.2.2.2.2.2.2.2.2.2.2.1).at.1 1⟩
      (try simp only [Act.put, List.setIfInBounds_toArray, List.set_cons_zero, List.set_cons_succ])
      have lw_ := ((M.out.2.2.2.2.1)).size
      have l5_ := ((M.out.2.2.1)).lt
      have l15_ := ((M.out.2.1)).lt
      have l16_ := ((M.out.1)).lt
      refine wpAnyH_ready (rs := [6]) (by kernel_rfl) (by simp) ?_
      refine AllReadyH.cons at6 (fun K hK => ?_) AllReadyH.nil
      rw [if_pos (by rfl)]
      refine wp_pushK elemRecall (M.out.2.2.2.1) ((M.out.2.2.2.2.1)).size (M.out.2.2.1) (⟨xs, xt⟩ : Rc) rfl rfl (rc_one _) (by omega) (by omega) rfl rfl rfl (fun v_123 w6 ho_ hg_ => ?_)
      have hr_ : RcIn w6 v_123 rs2 := by rw [HR2.out]; exact rcin_own ho_ rfl
      obtain ⟨p_121, q_122, rfl⟩ := hr_.shape
      have bb_ := below_grownK (M.out.2.2.2.2.1) (M.out.2.2.2.1) ((M.out.2.2.2.2.1)).size hg_
      have M_ := Lib.hid (And.intro hr_ (And.intro ((M.out.1).grownK (M.out.2.2.2.1) (by rfl) hg_) (And.intro ((M.out.2.1).grownK (M.out.2.2.2.1) (by rfl) hg_) (And.intro bb_ (Goes.go Mb_.out bb_)))))
      clear M
      have M := M_
      clear M_ ho_ hg_ bb_
      clear hr_
      refine hK.out _ _ (⟨(M.out.2.2.2.2.2.2.2.2.2.2.2.1).at.1 0, (M.out.2.2.2.2.2.2.2.2.2.2.2.1).at.1 1⟩) (fun hH124 => ?_)
      clear hK K hH120
      (try simp only [Act.put, List.setIfInBounds_toArray, List.set_cons_zero, List.set_cons_succ])
      exact at_node (by kernel_rfl) (hD30 w6 A1_ v3_ A5_ p_121 q_122 A15_ A16_ (by omega) (by omega) (by omega) (Lib.hid ⟨(M.out.2.1), (M.out.2.2.1), (M.out.1), (M.out.2.2.2.1)⟩))
    simp only [ha0_, Act.put, List.setIfInBounds_toArray, List.set_cons_zero, List.set_cons_succ] at hD27
    have hD19 : ∀ (wk_ : World) (A1_ : Nat) (v3_ : Value) (A5_ : Nat) (r6a_ : Option Addr) (r6c_ : Nat), Hid (RcIn wk_ (.slice r6a_ rs2.length r6c_) rs2 ∧ Below w5.heap.size w5 wk_) → X_ 10 #[true, true, true, true, true, true, true, true, true, true, false, false, false, false, false, false, false, false, false, false] (Act.put (Act.put (Act.put (Act.put a0_ (some 48) (.slice (some ⟨A1_, 0, none⟩) 0 0)) (some 50) (v3_)) (some 52) (.slice (some ⟨A5_, 0, none⟩) 1 1)) (some 53) (.slice r6a_ rs2.length r6c_)) wk_ := by
      intro wk_ A1_ v3_ A5_ r6a_ r6c_ rel_
      subst hX_ ha0_
      have M := Lib.hid (And.intro rel_.out.1 (And.intro rel_.out.2 (Goes.go Mb_.out rel_.out.2)))
      clear rel_
      have hH125 : (fun w' => w'.cell? ⟨w.heap.size, 0, none⟩ = some (.int .i64 xs) ∧ w'.cell? ⟨w.heap.size, 1, none⟩ = some (.int .i64 xt)) wk_ := ⟨(M.out.2.2.2.2.2.2.2.2.2.1).at.1 0, (M.out.2.2.2.2.2.2.2.2.2.1).at.1 1⟩
      (try simp only [Act.put, List.setIfInBounds_toArray, List.set_cons_zero, List.set_cons_succ])
      have lw_ := ((M.out.2.1)).size
      refine wpAnyH_ready (rs := [10, 15, 16]) (by kernel_rfl) (by simp) ?_
      refine AllReadyH.cons at10 (fun K hK => ?_) ?_
      ·
        go_simp
        obtain ⟨z134, ez134⟩ : ∃ v_ : Int, v_ = (oN (loO cs rs2 sc rd day)) := ⟨_, rfl⟩
        obtain ⟨z135, ez135⟩ : ∃ v_ : Int, v_ = (oD (loO cs rs2 sc rd day)) := ⟨_, rfl⟩
        obtain ⟨z136, ez136⟩ : ∃ v_ : Int, v_ = (oN (hiO cs rs2 sc rd day)) := ⟨_, rfl⟩
        obtain ⟨z137, ez137⟩ : ∃ v_ : Int, v_ = (oD (hiO cs rs2 sc rd day)) := ⟨_, rfl⟩
        refine (scInterval_v (G := G) (sc := sc) (rd := rd) (day := day) (b_ := ic) (H1.out.keep (M.out.2.2.2.2.2.2.2.2.2.2)) (M.out.1) (by have h1_ := HRL.out; have h2_ := HCL2.out; omega) (by have h1_ := HRL.out; have h2_ := HCL2.out; omega) (Nat.le_trans hG (M.out.2.2.2.2.2.2.2.2.2.2).size) HIC.out).mono ?_
        rintro e w6 ⟨a_126, c_127, b_128, d_129, a_130, c_131, b_132, d_133, rfl, hd138, hd139, hd140, hd141, hb⟩
        rw [← ez134] at hd138 ⊢
        have Sz134 : Hid (Sz z134 14) := by show Sz z134 14; rw [ez134]; exact (lo_sizes _ _ _ _ _).1
        have Ez134 := Lib.hid ez134; clear ez134
        rw [← ez135] at hd139 ⊢
        have Sz135 : Hid (Sz z135 14) := by show Sz z135 14; rw [ez135]; exact (lo_sizes _ _ _ _ _).2
        have Ez135 := Lib.hid ez135; clear ez135
        rw [← ez136] at hd140 ⊢
        have Sz136 : Hid (Sz z136 14) := by show Sz z136 14; rw [ez136]; exact (hi_sizes _ _ _ _ _).1
        have Ez136 := Lib.hid ez136; clear ez136
        rw [← ez137] at hd141 ⊢
        have Sz137 : Hid (Sz z137 14) := by show Sz z137 14; rw [ez137]; exact (hi_sizes _ _ _ _ _).2
        have Ez137 := Lib.hid ez137; clear ez137
        replace M := Lib.hid (And.intro hd138 (And.intro hd139 (And.intro hd140 (And.intro hd141 (Goes.go M.out hb)))))
        clear hb hd138 hd139 hd140 hd141
        (try go_wp2_with fail)
        refine hK.out _ _ (⟨(M.out.2.2.2.2.2.2.2.2.2.2.2.2.2.1).at.1 0, (M.out.2.2.2.2.2.2.2.2.2.2.2.2.2.1).at.1 1⟩) (fun hH142 => ?_)
        clear hK K hH125
        (try simp only [Act.put, List.setIfInBounds_toArray, List.set_cons_zero, List.set_cons_succ])
        refine tk at11 ?_
        refine tk at12 ?_
        refine tk at13 ?_
        refine tk at14 ?_
        exact at_node (by kernel_rfl) (hD24 w6 A1_ v3_ A5_ r6a_ r6c_ a_126 c_127 b_128 d_129 a_130 c_131 b_132 d_133 z134 z135 z136 z137 Ez134 Sz134 Ez135 Sz135 Ez136 Sz136 Ez137 Sz137 (Lib.hid ⟨(M.out.1), (M.out.2.1), (M.out.2.2.1), (M.out.2.2.2.1), (M.out.2.2.2.2.2.1)⟩))
      refine AllReadyH.cons at15 (fun K hK => ?_) ?_
      ·
        go_simp
        obtain ⟨w6, hv⟩ : ∃ w_ : World, w_ = (wk_.alloc (.cells #[.int .i64 0, .slice none 0 0, .int .i64 0, .slice none 0 0] 34)) := ⟨_, rfl⟩
        rw [← hv]
        have ow6_ : w3.heap.size + 1 < wk_.heap.size := ((M.out.2.2.1)).lt
        replace M := Lib.hid (And.intro (hv ▸ bx1 wk_ 34 #[.int .i64 0, .slice none 0 0, .int .i64 0, .slice none 0 0]) (Goes.go M.out (hv ▸ below_alloc _ _ : Below wk_.heap.size wk_ w6)))
        clear hv
        refine hK.out _ _ (⟨(M.out.2.2.2.2.2.2.2.2.2.2.1).at.1 0, (M.out.2.2.2.2.2.2.2.2.2.2.1).at.1 1⟩) (fun hH143 => ?_)
        clear hK K hH125
        (try simp only [Act.put, List.setIfInBounds_toArray, List.set_cons_zero, List.set_cons_succ])
        exact at_node (by kernel_rfl) (hD25 w6 A1_ v3_ A5_ r6a_ r6c_ wk_.heap.size (by omega) (Lib.hid ⟨(M.out.1), (M.out.2.1), (M.out.2.2.1)⟩))
      refine AllReadyH.cons at16 (fun K hK => ?_) AllReadyH.nil
      go_simp
      obtain ⟨w6, hv⟩ : ∃ w_ : World, w_ = (wk_.alloc (.cells #[.int .i64 0, .slice none 0 0, .int .i64 0, .slice none 0 0] 34)) := ⟨_, rfl⟩
      rw [← hv]
      have ow6_ : w3.heap.size + 1 < wk_.heap.size := ((M.out.2.2.1)).lt
      replace M := Lib.hid (And.intro (hv ▸ bx1 wk_ 34 #[.int .i64 0, .slice none 0 0, .int .i64 0, .slice none 0 0]) (Goes.go M.out (hv ▸ below_alloc _ _ : Below wk_.heap.size wk_ w6)))
      clear hv
      refine hK.out _ _ (⟨(M.out.2.2.2.2.2.2.2.2.2.2.1).at.1 0, (M.out.2.2.2.2.2.2.2.2.2.2.1).at.1 1⟩) (fun hH144 => ?_)
      clear hK K hH125
      (try simp only [Act.put, List.setIfInBounds_toArray, List.set_cons_zero, List.set_cons_succ])
      exact at_node (by kernel_rfl) (hD26 w6 A1_ v3_ A5_ r6a_ r6c_ wk_.heap.size (by omega) (Lib.hid ⟨(M.out.1), (M.out.2.1), (M.out.2.2.1)⟩))
    simp only [ha0_, Act.put, List.setIfInBounds_toArray, List.set_cons_zero, List.set_cons_succ] at hD19
    have hD20 : ∀ (wk_ : World) (A1_ : Nat) (v3_ : Value) (A5_ : Nat) (A15_ : Nat), w5.heap.size ≤ A5_ → w5.heap.size ≤ A15_ → A5_ ≠ A15_ → Hid (Bx wk_ A15_ 34 #[.int .i64 0, .slice none 0 0, .int .i64 0, .slice none 0 0] ∧ Bx wk_ A5_ 52 #[.int .i64 xs, .int .i64 xt] ∧ Kept wk_ w5.heap.size 52 2 rcCells v3_ rs ∧ Below w5.heap.size w5 wk_) → X_ 10 #[true, true, true, true, true, true, false, true, true, true, false, false, false, false, false, true, false, false, false, false] (Act.put (Act.put (Act.put (Act.put a0_ (some 48) (.slice (some ⟨A1_, 0, none⟩) 0 0)) (some 50) (v3_)) (some 52) (.slice (some ⟨A5_, 0, none⟩) 1 1)) (some 19) (.pointer (some ⟨A15_, 0, none⟩))) wk_ := by
      intro wk_ A1_ v3_ A5_ A15_ c0_ c1_ c2_ rel_
      subst hX_ ha0_
      have M := Lib.hid (And.intro rel_.out.1 (And.intro rel_.out.2.1 (And.intro rel_.out.2.2.1 (And.intro rel_.out.2.2.2 (Goes.go Mb_.out rel_.out.2.2.2)))))
      clear rel_
      have hH145 : (fun w' => w'.cell? ⟨w.heap.size, 0, none⟩ = some (.int .i64 xs) ∧ w'.cell? ⟨w.heap.size, 1, none⟩ = some (.int .i64 xt)) wk_ := ⟨(M.out.2.2.2.2.2.2.2.2.2.2.2.1).at.1 0, (M.out.2.2.2.2.2.2.2.2.2.2.2.1).at.1 1⟩
      (try simp only [Act.put, List.setIfInBounds_toArray, List.set_cons_zero, List.set_cons_succ])
      have lw_ := ((M.out.2.2.2.1)).size
      have l5_ := ((M.out.2.1)).lt
      have l15_ := ((M.out.1)).lt
      refine wpAnyH_ready (rs := [6, 16]) (by kernel_rfl) (by simp) ?_
      refine AllReadyH.cons at6 (fun K hK => ?_) ?_
      ·
        rw [if_pos (by rfl)]
        refine wp_pushK elemRecall (M.out.2.2.1) ((M.out.2.2.2.1)).size (M.out.2.1) (⟨xs, xt⟩ : Rc) rfl rfl (rc_one _) (by omega) (by omega) rfl rfl rfl (fun v_148 w6 ho_ hg_ => ?_)
        have hr_ : RcIn w6 v_148 rs2 := by rw [HR2.out]; exact rcin_own ho_ rfl
        obtain ⟨p_146, q_147, rfl⟩ := hr_.shape
        have bb_ := below_grownK (M.out.2.2.2.1) (M.out.2.2.1) ((M.out.2.2.2.1)).size hg_
        have M_ := Lib.hid (And.intro hr_ (And.intro ((M.out.1).grownK (M.out.2.2.1) (by rfl) hg_) (And.intro bb_ (Goes.go Mb_.out bb_))))
        clear M
        have M := M_
        clear M_ ho_ hg_ bb_
        clear hr_
        refine hK.out _ _ (⟨(M.out.2.2.2.2.2.2.2.2.2.2.1).at.1 0, (M.out.2.2.2.2.2.2.2.2.2.2.1).at.1 1⟩) (fun hH149 => ?_)
        clear hK K hH145
        (try simp only [Act.put, List.setIfInBounds_toArray, List.set_cons_zero, List.set_cons_succ])
        exact at_node (by kernel_rfl) (hD25 w6 A1_ v3_ A5_ p_146 q_147 A15_ (by omega) (Lib.hid ⟨(M.out.2.1), (M.out.1), (M.out.2.2.1)⟩))
      refine AllReadyH.cons at16 (fun K hK => ?_) AllReadyH.nil
      go_simp
      obtain ⟨w6, hv⟩ : ∃ w_ : World, w_ = (wk_.alloc (.cells #[.int .i64 0, .slice none 0 0, .int .i64 0, .slice none 0 0] 34)) := ⟨_, rfl⟩
      rw [← hv]
      have ow7_ : A15_ < wk_.heap.size := ((M.out.1)).lt
      replace M := Lib.hid (And.intro (hv ▸ bx1 wk_ 34 #[.int .i64 0, .slice none 0 0, .int .i64 0, .slice none 0 0]) (Goes.go M.out (hv ▸ below_alloc _ _ : Below wk_.heap.size wk_ w6)))
      clear hv
      refine hK.out _ _ (⟨(M.out.2.2.2.2.2.2.2.2.2.2.2.2.1).at.1 0, (M.out.2.2.2.2.2.2.2.2.2.2.2.2.1).at.1 1⟩) (fun hH150 => ?_)
      clear hK K hH145
      (try simp only [Act.put, List.setIfInBounds_toArray, List.set_cons_zero, List.set_cons_succ])
      exact at_node (by kernel_rfl) (hD27 w6 A1_ v3_ A5_ A15_ wk_.heap.size (by omega) (by omega) (by omega) (by omega) (by omega) (by omega) (Lib.hid ⟨(M.out.1), (M.out.2.1), (M.out.2.2.1), (M.out.2.2.2.1), (M.out.2.2.2.2.1)⟩))
    simp only [ha0_, Act.put, List.setIfInBounds_toArray, List.set_cons_zero, List.set_cons_succ] at hD20
    have hD21 : ∀ (wk_ : World) (A1_ : Nat) (v3_ : Value) (A5_ : Nat) (A16_ : Nat), w5.heap.size ≤ A5_ → w5.heap.size ≤ A16_ → A5_ ≠ A16_ → Hid (Bx wk_ A16_ 34 #[.int .i64 0, .slice none 0 0, .int .i64 0, .slice none 0 0] ∧ Bx wk_ A5_ 52 #[.int .i64 xs, .int .i64 xt] ∧ Kept wk_ w5.heap.size 52 2 rcCells v3_ rs ∧ Below w5.heap.size w5 wk_) → X_ 10 #[true, true, true, true, true, true, false, true, true, true, false, false, false, false, false, false, true, false, false, false] (Act.put (Act.put (Act.put (Act.put a0_ (some 48) (.slice (some ⟨A1_, 0, none⟩) 0 0)) (some 50) (v3_)) (some 52) (.slice (some ⟨A5_, 0, none⟩) 1 1)) (some 20) (.pointer (some ⟨A16_, 0, none⟩))) wk_ := by
      intro wk_ A1_ v3_ A5_ A16_ c0_ c1_ c2_ rel_
      subst hX_ ha0_
      have M := Lib.hid (And.intro rel_.out.1 (And.intro rel_.out.2.1 (And.intro rel_.out.2.2.1 (And.intro rel_.out.2.2.2 (Goes.go Mb_.out rel_.out.2.2.2)))))
      clear rel_
      have hH151 : (fun w' => w'.cell? ⟨w.heap.size, 0, none⟩ = some (.int .i64 xs) ∧ w'.cell? ⟨w.heap.size, 1, none⟩ = some (.int .i64 xt)) wk_ := ⟨(M.out.2.2.2.2.2.2.2.2.2.2.2.1).at.1 0, (M.out.2.2.2.2.2.2.2.2.2.2.2.1).at.1 1⟩
      (try simp only [Act.put, List.setIfInBounds_toArray, List.set_cons_zero, List.set_cons_succ])
      have lw_ := ((M.out.2.2.2.1)).size
      have l5_ := ((M.out.2.1)).lt
      have l16_ := ((M.out.1)).lt
      refine wpAnyH_ready (rs := [6, 15]) (by kernel_rfl) (by simp) ?_
      refine AllReadyH.cons at6 (fun K hK => ?_) ?_
      ·
        rw [if_pos (by rfl)]
        refine wp_pushK elemRecall (M.out.2.2.1) ((M.out.2.2.2.1)).size (M.out.2.1) (⟨xs, xt⟩ : Rc) rfl rfl (rc_one _) (by omega) (by omega) rfl rfl rfl (fun v_154 w6 ho_ hg_ => ?_)
        have hr_ : RcIn w6 v_154 rs2 := by rw [HR2.out]; exact rcin_own ho_ rfl
        obtain ⟨p_152, q_153, rfl⟩ := hr_.shape
        have bb_ := below_grownK (M.out.2.2.2.1) (M.out.2.2.1) ((M.out.2.2.2.1)).size hg_
        have M_ := Lib.hid (And.intro hr_ (And.intro ((M.out.1).grownK (M.out.2.2.1) (by rfl) hg_) (And.intro bb_ (Goes.go Mb_.out bb_))))
        clear M
        have M := M_
        clear M_ ho_ hg_ bb_
        clear hr_
        refine hK.out _ _ (⟨(M.out.2.2.2.2.2.2.2.2.2.2.1).at.1 0, (M.out.2.2.2.2.2.2.2.2.2.2.1).at.1 1⟩) (fun hH155 => ?_)
        clear hK K hH151
        (try simp only [Act.put, List.setIfInBounds_toArray, List.set_cons_zero, List.set_cons_succ])
        exact at_node (by kernel_rfl) (hD26 w6 A1_ v3_ A5_ p_152 q_153 A16_ (by omega) (Lib.hid ⟨(M.out.2.1), (M.out.1), (M.out.2.2.1)⟩))
      refine AllReadyH.cons at15 (fun K hK => ?_) AllReadyH.nil
      go_simp
      obtain ⟨w6, hv⟩ : ∃ w_ : World, w_ = (wk_.alloc (.cells #[.int .i64 0, .slice none 0 0, .int .i64 0, .slice none 0 0] 34)) := ⟨_, rfl⟩
      rw [← hv]
      have ow7_ : A16_ < wk_.heap.size := ((M.out.1)).lt
      replace M := Lib.hid (And.intro (hv ▸ bx1 wk_ 34 #[.int .i64 0, .slice none 0 0, .int .i64 0, .slice none 0 0]) (Goes.go M.out (hv ▸ below_alloc _ _ : Below wk_.heap.size wk_ w6)))
      clear hv
      refine hK.out _ _ (⟨(M.out.2.2.2.2.2.2.2.2.2.2.2.2.1).at.1 0, (M.out.2.2.2.2.2.2.2.2.2.2.2.2.1).at.1 1⟩) (fun hH156 => ?_)
      clear hK K hH151
      (try simp only [Act.put, List.setIfInBounds_toArray, List.set_cons_zero, List.set_cons_succ])
      exact at_node (by kernel_rfl) (hD27 w6 A1_ v3_ A5_ wk_.heap.size A16_ (by omega) (by omega) (by omega) (by omega) (by omega) (by omega) (Lib.hid ⟨(M.out.2.1), (M.out.1), (M.out.2.2.1), (M.out.2.2.2.1), (M.out.2.2.2.2.1)⟩))
    simp only [ha0_, Act.put, List.setIfInBounds_toArray, List.set_cons_zero, List.set_cons_succ] at hD21
    have hD22 : ∀ (wk_ : World) (A1_ : Nat) (v3_ : Value) (A15_ : Nat) (A16_ : Nat), w5.heap.size ≤ A15_ → w5.heap.size ≤ A16_ → A15_ ≠ A16_ → Hid (Bx wk_ A16_ 34 #[.int .i64 0, .slice none 0 0, .int .i64 0, .slice none 0 0] ∧ Bx wk_ A15_ 34 #[.int .i64 0, .slice none 0 0, .int .i64 0, .slice none 0 0] ∧ Kept wk_ w5.heap.size 52 2 rcCells v3_ rs ∧ Below w5.heap.size w5 wk_) → X_ 10 #[true, true, true, true, true, false, false, true, true, true, false, false, false, false, false, true, true, false, false, false] (Act.put (Act.put (Act.put (Act.put a0_ (some 48) (.slice (some ⟨A1_, 0, none⟩) 0 0)) (some 50) (v3_)) (some 19) (.pointer (some ⟨A15_, 0, none⟩))) (some 20) (.pointer (some ⟨A16_, 0, none⟩))) wk_ := by
      intro wk_ A1_ v3_ A15_ A16_ c0_ c1_ c2_ rel_
      subst hX_ ha0_
      have M := Lib.hid (And.intro rel_.out.1 (And.intro rel_.out.2.1 (And.intro rel_.out.2.2.1 (And.intro rel_.out.2.2.2 (Goes.go Mb_.out rel_.out.2.2.2)))))
      clear rel_
      have hH157 : (fun w' => w'.cell? ⟨w.heap.size, 0, none⟩ = some (.int .i64 xs) ∧ w'.cell? ⟨w.heap.size, 1, none⟩ = some (.int .i64 xt)) wk_ := ⟨(M.out.2.2.2.2.2.2.2.2.2.2.2.1).at.1 0, (M.out.2.2.2.2.2.2.2.2.2.2.2.1).at.1 1⟩
      (try simp only [Act.put, List.setIfInBounds_toArray, List.set_cons_zero, List.set_cons_succ])
      have lw_ := ((M.out.2.2.2.1)).size
      have l15_ := ((M.out.2.1)).lt
      have l16_ := ((M.out.1)).lt
      refine wpAnyH_ready (rs := [5]) (by kernel_rfl) (by simp) ?_
      refine AllReadyH.cons at5 (fun K hK => ?_) AllReadyH.nil
      go_simp
      obtain ⟨w6, hv⟩ : ∃ w_ : World, w_ = (wk_.alloc (.cells #[.int .i64 xs, .int .i64 xt] 52)) := ⟨_, rfl⟩
      rw [← hv]
      have ow7_ : A16_ < wk_.heap.size := ((M.out.1)).lt
      replace M := Lib.hid (And.intro (hv ▸ bx1 wk_ 52 #[.int .i64 xs, .int .i64 xt]) (Goes.go M.out (hv ▸ below_alloc _ _ : Below wk_.heap.size wk_ w6)))
      clear hv
      refine hK.out _ _ (⟨(M.out.2.2.2.2.2.2.2.2.2.2.2.2.1).at.1 0, (M.out.2.2.2.2.2.2.2.2.2.2.2.2.1).at.1 1⟩) (fun hH158 => ?_)
      clear hK K hH157
      (try simp only [Act.put, List.setIfInBounds_toArray, List.set_cons_zero, List.set_cons_succ])
      exact at_node (by kernel_rfl) (hD27 w6 A1_ v3_ wk_.heap.size A15_ A16_ (by omega) (by omega) (by omega) (by omega) (by omega) (by omega) (Lib.hid ⟨(M.out.2.1), (M.out.2.2.1), (M.out.1), (M.out.2.2.2.1), (M.out.2.2.2.2.1)⟩))
    simp only [ha0_, Act.put, List.setIfInBounds_toArray, List.set_cons_zero, List.set_cons_succ] at hD22
    have hD23 : ∀ (wk_ : World) (A1_ : Nat) (A5_ : Nat) (A15_ : Nat) (A16_ : Nat), w5.heap.size ≤ A1_ → w5.heap.size ≤ A5_ → w5.heap.size ≤ A15_ → w5.heap.size ≤ A16_ → A1_ ≠ A5_ → A1_ ≠ A15_ → A1_ ≠ A16_ → A5_ ≠ A15_ → A5_ ≠ A16_ → A15_ ≠ A16_ → Hid (Bx wk_ A16_ 34 #[.int .i64 0, .slice none 0 0, .int .i64 0, .slice none 0 0] ∧ Bx wk_ A15_ 34 #[.int .i64 0, .slice none 0 0, .int .i64 0, .slice none 0 0] ∧ Bx wk_ A5_ 52 #[.int .i64 xs, .int .i64 xt] ∧ Bx wk_ A1_ 52 #[] ∧ Below w5.heap.size w5 wk_) → X_ 10 #[true, true, true, false, true, true, false, true, true, true, false, false, false, false, false, true, true, false, false, false] (Act.put (Act.put (Act.put (Act.put a0_ (some 48) (.slice (some ⟨A1_, 0, none⟩) 0 0)) (some 52) (.slice (some ⟨A5_, 0, none⟩) 1 1)) (some 19) (.pointer (some ⟨A15_, 0, none⟩))) (some 20) (.pointer (some ⟨A16_, 0, none⟩))) wk_ := by
      intro wk_ A1_ A5_ A15_ A16_ c0_ c1_ c2_ c3_ c4_ c5_ c6_ c7_ c8_ c9_ rel_
      subst hX_ ha0_
      have M := Lib.hid (And.intro rel_.out.1 (And.intro rel_.out.2.1 (And.intro rel_.out.2.2.1 (And.intro rel_.out.2.2.2.1 (And.intro rel_.out.2.2.2.2 (Goes.go Mb_.out rel_.out.2.2.2.2))))))
      clear rel_
      have hH159 : (fun w' => w'.cell? ⟨w.heap.size, 0, none⟩ = some (.int .i64 xs) ∧ w'.cell? ⟨w.heap.size, 1, none⟩ = some (.int .i64 xt)) wk_ := ⟨(M.out.2.2.2.2.2.2.2.2.2.2.2.2.1).at.1 0, (M.out.2.2.2.2.2.2.2.2.2.2.2.2.1).at.1 1⟩
      (try simp only [Act.put, List.setIfInBounds_toArray, List.set_cons_zero, List.set_cons_succ])
      have lw_ := ((M.out.2.2.2.2.1)).size
      have l1_ := ((M.out.2.2.2.1)).lt
      have l5_ := ((M.out.2.2.1)).lt
      have l15_ := ((M.out.2.1)).lt
      have l16_ := ((M.out.1)).lt
      refine wpAnyH_ready (rs := [3]) (by kernel_rfl) (by simp) ?_
      refine AllReadyH.cons at3 (fun K hK => ?_) AllReadyH.nil
      rw [if_pos (by rfl)]
      refine wp_copyK elemRecall (M.out.2.2.2.1) (by omega) (H2.out.keep (M.out.2.2.2.2.2.2.2.2.2.2.2.2.2)) rc_len rc_one (by omega) (by omega) rfl rfl rfl (fun v_160 w6 ho_ hg_ => ?_)
      have bb_ := below_only (M.out.2.2.2.2.1) hg_ (by omega) (M.out.2.2.2.2.1).size
      have M_ := Lib.hid (And.intro ho_ (And.intro ((M.out.1).only hg_ (by omega)) (And.intro ((M.out.2.1).only hg_ (by omega)) (And.intro ((M.out.2.2.1).only hg_ (by omega)) (And.intro bb_ (Goes.go Mb_.out bb_))))))
      clear M
      have M := M_
      clear M_ ho_ hg_ bb_
      refine hK.out _ _ (⟨(M.out.2.2.2.2.2.2.2.2.2.2.2.2.1).at.1 0, (M.out.2.2.2.2.2.2.2.2.2.2.2.2.1).at.1 1⟩) (fun hH161 => ?_)
      clear hK K hH159
      (try simp only [Act.put, List.setIfInBounds_toArray, List.set_cons_zero, List.set_cons_succ])
      exact at_node (by kernel_rfl) (hD27 w6 A1_ v_160 A5_ A15_ A16_ (by omega) (by omega) (by omega) (by omega) (by omega) (by omega) (Lib.hid ⟨(M.out.2.1), (M.out.2.2.1), (M.out.2.2.2.1), (M.out.1), (M.out.2.2.2.2.1)⟩))
    simp only [ha0_, Act.put, List.setIfInBounds_toArray, List.set_cons_zero, List.set_cons_succ] at hD23
    have hD12 : ∀ (wk_ : World) (A1_ : Nat) (v3_ : Value) (A5_ : Nat), w5.heap.size ≤ A5_ → Hid (Bx wk_ A5_ 52 #[.int .i64 xs, .int .i64 xt] ∧ Kept wk_ w5.heap.size 52 2 rcCells v3_ rs ∧ Below w5.heap.size w5 wk_) → X_ 11 #[true, true, true, true, true, true, false, true, true, true, false, false, false, false, false, false, false, false, false, false] (Act.put (Act.put (Act.put a0_ (some 48) (.slice (some ⟨A1_, 0, none⟩) 0 0)) (some 50) (v3_)) (some 52) (.slice (some ⟨A5_, 0, none⟩) 1 1)) wk_ := by
      intro wk_ A1_ v3_ A5_ c0_ rel_
      subst hX_ ha0_
      have M := Lib.hid (And.intro rel_.out.1 (And.intro rel_.out.2.1 (And.intro rel_.out.2.2 (Goes.go Mb_.out rel_.out.2.2))))
      clear rel_
      have hH162 : (fun w' => w'.cell? ⟨w.heap.size, 0, none⟩ = some (.int .i64 xs) ∧ w'.cell? ⟨w.heap.size, 1, none⟩ = some (.int .i64 xt)) wk_ := ⟨(M.out.2.2.2.2.2.2.2.2.2.2.1).at.1 0, (M.out.2.2.2.2.2.2.2.2.2.2.1).at.1 1⟩
      (try simp only [Act.put, List.setIfInBounds_toArray, List.set_cons_zero, List.set_cons_succ])
      have lw_ := ((M.out.2.2.1)).size
      have l5_ := ((M.out.1)).lt
      refine wpAnyH_ready (rs := [6, 15, 16]) (by kernel_rfl) (by simp) ?_
      refine AllReadyH.cons at6 (fun K hK => ?_) ?_
      ·
        rw [if_pos (by rfl)]
        refine wp_pushK elemRecall (M.out.2.1) ((M.out.2.2.1)).size (M.out.1) (⟨xs, xt⟩ : Rc) rfl rfl (rc_one _) (by omega) (by omega) rfl rfl rfl (fun v_165 w6 ho_ hg_ => ?_)
        have hr_ : RcIn w6 v_165 rs2 := by rw [HR2.out]; exact rcin_own ho_ rfl
        obtain ⟨p_163, q_164, rfl⟩ := hr_.shape
        have bb_ := below_grownK (M.out.2.2.1) (M.out.2.1) ((M.out.2.2.1)).size hg_
        have M_ := Lib.hid (And.intro hr_ (And.intro bb_ (Goes.go Mb_.out bb_)))
        clear M
        have M := M_
        clear M_ ho_ hg_ bb_
        clear hr_
        refine hK.out _ _ (⟨(M.out.2.2.2.2.2.2.2.2.2.1).at.1 0, (M.out.2.2.2.2.2.2.2.2.2.1).at.1 1⟩) (fun hH166 => ?_)
        clear hK K hH162
        (try simp only [Act.put, List.setIfInBounds_toArray, List.set_cons_zero, List.set_cons_succ])
        exact at_node (by kernel_rfl) (hD19 w6 A1_ v3_ A5_ p_163 q_164 (Lib.hid ⟨(M.out.1), (M.out.2.1)⟩))
      refine AllReadyH.cons at15 (fun K hK => ?_) ?_
      ·
        go_simp
        obtain ⟨w6, hv⟩ : ∃ w_ : World, w_ = (wk_.alloc (.cells #[.int .i64 0, .slice none 0 0, .int .i64 0, .slice none 0 0] 34)) := ⟨_, rfl⟩
        rw [← hv]
        have ow6_ : A5_ < wk_.heap.size := ((M.out.1)).lt
        replace M := Lib.hid (And.intro (hv ▸ bx1 wk_ 34 #[.int .i64 0, .slice none 0 0, .int .i64 0, .slice none 0 0]) (Goes.go M.out (hv ▸ below_alloc _ _ : Below wk_.heap.size wk_ w6)))
        clear hv
        refine hK.out _ _ (⟨(M.out.2.2.2.2.2.2.2.2.2.2.2.1).at.1 0, (M.out.2.2.2.2.2.2.2.2.2.2.2.1).at.1 1⟩) (fun hH167 => ?_)
        clear hK K hH162
        (try simp only [Act.put, List.setIfInBounds_toArray, List.set_cons_zero, List.set_cons_succ])
        exact at_node (by kernel_rfl) (hD20 w6 A1_ v3_ A5_ wk_.heap.size (by omega) (by omega) (by omega) (Lib.hid ⟨(M.out.1), (M.out.2.1), (M.out.2.2.1), (M.out.2.2.2.1)⟩))
      refine AllReadyH.cons at16 (fun K hK => ?_) AllReadyH.nil
      go_simp
      obtain ⟨w6, hv⟩ : ∃ w_ : World, w_ = (wk_.alloc (.cells #[.int .i64 0, .slice none 0 0, .int .i64 0, .slice none 0 0] 34)) := ⟨_, rfl⟩
      rw [← hv]
      have ow6_ : A5_ < wk_.heap.size := ((M.out.1)).lt
      replace M := Lib.hid (And.intro (hv ▸ bx1 wk_ 34 #[.int .i64 0, .slice none 0 0, .int .i64 0, .slice none 0 0]) (Goes.go M.out (hv ▸ below_alloc _ _ : Below wk_.heap.size wk_ w6)))
      clear hv
      refine hK.out _ _ (⟨(M.out.2.2.2.2.2.2.2.2.2.2.2.1).at.1 0, (M.out.2.2.2.2.2.2.2.2.2.2.2.1).at.1 1⟩) (fun hH168 => ?_)
      clear hK K hH162
      (try simp only [Act.put, List.setIfInBounds_toArray, List.set_cons_zero, List.set_cons_succ])
      exact at_node (by kernel_rfl) (hD21 w6 A1_ v3_ A5_ wk_.heap.size (by omega) (by omega) (by omega) (Lib.hid ⟨(M.out.1), (M.out.2.1), (M.out.2.2.1), (M.out.2.2.2.1)⟩))
    simp only [ha0_, Act.put, List.setIfInBounds_toArray, List.set_cons_zero, List.set_cons_succ] at hD12
    have hD13 : ∀ (wk_ : World) (A1_ : Nat) (v3_ : Value) (A15_ : Nat), w5.heap.size ≤ A15_ → Hid (Bx wk_ A15_ 34 #[.int .i64 0, .slice none 0 0, .int .i64 0, .slice none 0 0] ∧ Kept wk_ w5.heap.size 52 2 rcCells v3_ rs ∧ Below w5.heap.size w5 wk_) → X_ 11 #[true, true, true, true, true, false, false, true, true, true, false, false, false, false, false, true, false, false, false, false] (Act.put (Act.put (Act.put a0_ (some 48) (.slice (some ⟨A1_, 0, none⟩) 0 0)) (some 50) (v3_)) (some 19) (.pointer (some ⟨A15_, 0, none⟩))) wk_ := by
      intro wk_ A1_ v3_ A15_ c0_ rel_
      subst hX_ ha0_
      have M := Lib.hid (And.intro rel_.out.1 (And.intro rel_.out.2.1 (And.intro rel_.out.2.2 (Goes.go Mb_.out rel_.out.2.2))))
      clear rel_
      have hH169 : (fun w' => w'.cell? ⟨w.heap.size, 0, none⟩ = some (.int .i64 xs) ∧ w'.cell? ⟨w.heap.size, 1, none⟩ = some (.int .i64 xt)) wk_ := ⟨(M.out.2.2.2.2.2.2.2.2.2.2.1).at.1 0, (M.out.2.2.2.2.2.2.2.2.2.2.1).at.1 1⟩
      (try simp only [Act.put, List.setIfInBounds_toArray, List.set_cons_zero, List.set_cons_succ])
      have lw_ := ((M.out.2.2.1)).size
      have l15_ := ((M.out.1)).lt
      refine wpAnyH_ready (rs := [5, 16]) (by kernel_rfl) (by simp) ?_
      refine AllReadyH.cons at5 (fun K hK => ?_) ?_
      ·
        go_simp
        obtain ⟨w6, hv⟩ : ∃ w_ : World, w_ = (wk_.alloc (.cells #[.int .i64 xs, .int .i64 xt] 52)) := ⟨_, rfl⟩
        rw [← hv]
        have ow6_ : A15_ < wk_.heap.size := ((M.out.1)).lt
        replace M := Lib.hid (And.intro (hv ▸ bx1 wk_ 52 #[.int .i64 xs, .int .i64 xt]) (Goes.go M.out (hv ▸ below_alloc _ _ : Below wk_.heap.size wk_ w6)))
        clear hv
        refine hK.out _ _ (⟨(M.out.2.2.2.2.2.2.2.2.2.2.2.1).at.1 0, (M.out.2.2.2.2.2.2.2.2.2.2.2.1).at.1 1⟩) (fun hH170 => ?_)
        clear hK K hH169
        (try simp only [Act.put, List.setIfInBounds_toArray, List.set_cons_zero, List.set_cons_succ])
        exact at_node (by kernel_rfl) (hD20 w6 A1_ v3_ wk_.heap.size A15_ (by omega) (by omega) (by omega) (Lib.hid ⟨(M.out.2.1), (M.out.1), (M.out.2.2.1), (M.out.2.2.2.1)⟩))
      refine AllReadyH.cons at16 (fun K hK => ?_) AllReadyH.nil
      go_simp
      obtain ⟨w6, hv⟩ : ∃ w_ : World, w_ = (wk_.alloc (.cells #[.int .i64 0, .slice none 0 0, .int .i64 0, .slice none 0 0] 34)) := ⟨_, rfl⟩
      rw [← hv]
      have ow6_ : A15_ < wk_.heap.size := ((M.out.1)).lt
      replace M := Lib.hid (And.intro (hv ▸ bx1 wk_ 34 #[.int .i64 0, .slice none 0 0, .int .i64 0, .slice none 0 0]) (Goes.go M.out (hv ▸ below_alloc _ _ : Below wk_.heap.size wk_ w6)))
      clear hv
      refine hK.out _ _ (⟨(M.out.2.2.2.2.2.2.2.2.2.2.2.1).at.1 0, (M.out.2.2.2.2.2.2.2.2.2.2.2.1).at.1 1⟩) (fun hH171 => ?_)
      clear hK K hH169
      (try simp only [Act.put, List.setIfInBounds_toArray, List.set_cons_zero, List.set_cons_succ])
      exact at_node (by kernel_rfl) (hD22 w6 A1_ v3_ A15_ wk_.heap.size (by omega) (by omega) (by omega) (Lib.hid ⟨(M.out.1), (M.out.2.1), (M.out.2.2.1), (M.out.2.2.2.1)⟩))
    simp only [ha0_, Act.put, List.setIfInBounds_toArray, List.set_cons_zero, List.set_cons_succ] at hD13
    have hD14 : ∀ (wk_ : World) (A1_ : Nat) (v3_ : Value) (A16_ : Nat), w5.heap.size ≤ A16_ → Hid (Bx wk_ A16_ 34 #[.int .i64 0, .slice none 0 0, .int .i64 0, .slice none 0 0] ∧ Kept wk_ w5.heap.size 52 2 rcCells v3_ rs ∧ Below w5.heap.size w5 wk_) → X_ 11 #[true, true, true, true, true, false, false, true, true, true, false, false, false, false, false, false, true, false, false, false] (Act.put (Act.put (Act.put a0_ (some 48) (.slice (some ⟨A1_, 0, none⟩) 0 0)) (some 50) (v3_)) (some 20) (.pointer (some ⟨A16_, 0, none⟩))) wk_ := by
      intro wk_ A1_ v3_ A16_ c0_ rel_
      subst hX_ ha0_
      have M := Lib.hid (And.intro rel_.out.1 (And.intro rel_.out.2.1 (And.intro rel_.out.2.2 (Goes.go Mb_.out rel_.out.2.2))))
      clear rel_
      have hH172 : (fun w' => w'.cell? ⟨w.heap.size, 0, none⟩ = some (.int .i64 xs) ∧ w'.cell? ⟨w.heap.size, 1, none⟩ = some (.int .i64 xt)) wk_ := ⟨(M.out.2.2.2.2.2.2.2.2.2.2.1).at.1 0, (M.out.2.2.2.2.2.2.2.2.2.2.1).at.1 1⟩
      (try simp only [Act.put, List.setIfInBounds_toArray, List.set_cons_zero, List.set_cons_succ])
      have lw_ := ((M.out.2.2.1)).size
      have l16_ := ((M.out.1)).lt
      refine wpAnyH_ready (rs := [5, 15]) (by kernel_rfl) (by simp) ?_
      refine AllReadyH.cons at5 (fun K hK => ?_) ?_
      ·
        go_simp
        obtain ⟨w6, hv⟩ : ∃ w_ : World, w_ = (wk_.alloc (.cells #[.int .i64 xs, .int .i64 xt] 52)) := ⟨_, rfl⟩
        rw [← hv]
        have ow6_ : A16_ < wk_.heap.size := ((M.out.1)).lt
        replace M := Lib.hid (And.intro (hv ▸ bx1 wk_ 52 #[.int .i64 xs, .int .i64 xt]) (Goes.go M.out (hv ▸ below_alloc _ _ : Below wk_.heap.size wk_ w6)))
        clear hv
        refine hK.out _ _ (⟨(M.out.2.2.2.2.2.2.2.2.2.2.2.1).at.1 0, (M.out.2.2.2.2.2.2.2.2.2.2.2.1).at.1 1⟩) (fun hH173 => ?_)
        clear hK K hH172
        (try simp only [Act.put, List.setIfInBounds_toArray, List.set_cons_zero, List.set_cons_succ])
        exact at_node (by kernel_rfl) (hD21 w6 A1_ v3_ wk_.heap.size A16_ (by omega) (by omega) (by omega) (Lib.hid ⟨(M.out.2.1), (M.out.1), (M.out.2.2.1), (M.out.2.2.2.1)⟩))
      refine AllReadyH.cons at15 (fun K hK => ?_) AllReadyH.nil
      go_simp
      obtain ⟨w6, hv⟩ : ∃ w_ : World, w_ = (wk_.alloc (.cells #[.int .i64 0, .slice none 0 0, .int .i64 0, .slice none 0 0] 34)) := ⟨_, rfl⟩
      rw [← hv]
      have ow6_ : A16_ < wk_.heap.size := ((M.out.1)).lt
      replace M := Lib.hid (And.intro (hv ▸ bx1 wk_ 34 #[.int .i64 0, .slice none 0 0, .int .i64 0, .slice none 0 0]) (Goes.go M.out (hv ▸ below_alloc _ _ : Below wk_.heap.size wk_ w6)))
      clear hv
      refine hK.out _ _ (⟨(M.out.2.2.2.2.2.2.2.2.2.2.2.1).at.1 0, (M.out.2.2.2.2.2.2.2.2.2.2.2.1).at.1 1⟩) (fun hH174 => ?_)
      clear hK K hH172
      (try simp only [Act.put, List.setIfInBounds_toArray, List.set_cons_zero, List.set_cons_succ])
      exact at_node (by kernel_rfl) (hD22 w6 A1_ v3_ wk_.heap.size A16_ (by omega) (by omega) (by omega) (Lib.hid ⟨(M.out.2.1), (M.out.1), (M.out.2.2.1), (M.out.2.2.2.1)⟩))
    simp only [ha0_, Act.put, List.setIfInBounds_toArray, List.set_cons_zero, List.set_cons_succ] at hD14
    have hD15 : ∀ (wk_ : World) (A1_ : Nat) (A5_ : Nat) (A15_ : Nat), w5.heap.size ≤ A1_ → w5.heap.size ≤ A5_ → w5.heap.size ≤ A15_ → A1_ ≠ A5_ → A1_ ≠ A15_ → A5_ ≠ A15_ → Hid (Bx wk_ A15_ 34 #[.int .i64 0, .slice none 0 0, .int .i64 0, .slice none 0 0] ∧ Bx wk_ A5_ 52 #[.int .i64 xs, .int .i64 xt] ∧ Bx wk_ A1_ 52 #[] ∧ Below w5.heap.size w5 wk_) → X_ 11 #[true, true, true, false, true, true, false, true, true, true, false, false, false, false, false, true, false, false, false, false] (Act.put (Act.put (Act.put a0_ (some 48) (.slice (some ⟨A1_, 0, none⟩) 0 0)) (some 52) (.slice (some ⟨A5_, 0, none⟩) 1 1)) (some 19) (.pointer (some ⟨A15_, 0, none⟩))) wk_ := by
      intro wk_ A1_ A5_ A15_ c0_ c1_ c2_ c3_ c4_ c5_ rel_
      subst hX_ ha0_
      have M := Lib.hid (And.intro rel_.out.1 (And.intro rel_.out.2.1 (And.intro rel_.out.2.2.1 (And.intro rel_.out.2.2.2 (Goes.go Mb_.out rel_.out.2.2.2)))))
      clear rel_
      have hH175 : (fun w' => w'.cell? ⟨w.heap.size, 0, none⟩ = some (.int .i64 xs) ∧ w'.cell? ⟨w.heap.size, 1, none⟩ = some (.int .i64 xt)) wk_ := ⟨(M.out.2.2.2.2.2.2.2.2.2.2.2.1).at.1 0, (M.out.2.2.2.2.2.2.2.2.2.2.2.1).at.1 1⟩
      (try simp only [Act.put, List.setIfInBounds_toArray, List.set_cons_zero, List.set_cons_succ])
      have lw_ := ((M.out.2.2.2.1)).size
      have l1_ := ((M.out.2.2.1)).lt
      have l5_ := ((M.out.2.1)).lt
      have l15_ := ((M.out.1)).lt
      refine wpAnyH_ready (rs := [3, 16]) (by kernel_rfl) (by simp) ?_
      refine AllReadyH.cons at3 (fun K hK => ?_) ?_
      ·
        rw [if_pos (by rfl)]
        refine wp_copyK elemRecall (M.out.2.2.1) (by omega) (H2.out.keep (M.out.2.2.2.2.2.2.2.2.2.2.2.2)) rc_len rc_one (by omega) (by omega) rfl rfl rfl (fun v_176 w6 ho_ hg_ => ?_)
        have bb_ := below_only (M.out.2.2.2.1) hg_ (by omega) (M.out.2.2.2.1).size
        have M_ := Lib.hid (And.intro ho_ (And.intro ((M.out.1).only hg_ (by omega)) (And.intro ((M.out.2.1).only hg_ (by omega)) (And.intro bb_ (Goes.go Mb_.out bb_)))))
        clear M
        have M := M_
        clear M_ ho_ hg_ bb_
        refine hK.out _ _ (⟨(M.out.2.2.2.2.2.2.2.2.2.2.2.1).at.1 0, (M.out.2.2.2.2.2.2.2.2.2.2.2.1).at.1 1⟩) (fun hH177 => ?_)
        clear hK K hH175
        (try simp only [Act.put, List.setIfInBounds_toArray, List.set_cons_zero, List.set_cons_succ])
        exact at_node (by kernel_rfl) (hD20 w6 A1_ v_176 A5_ A15_ (by omega) (by omega) (by omega) (Lib.hid ⟨(M.out.2.1), (M.out.2.2.1), (M.out.1), (M.out.2.2.2.1)⟩))
      refine AllReadyH.cons at16 (fun K hK => ?_) AllReadyH.nil
      go_simp
      obtain ⟨w6, hv⟩ : ∃ w_ : World, w_ = (wk_.alloc (.cells #[.int .i64 0, .slice none 0 0, .int .i64 0, .slice none 0 0] 34)) := ⟨_, rfl⟩
      rw [← hv]
      have ow7_ : A15_ < wk_.heap.size := ((M.out.1)).lt
      replace M := Lib.hid (And.intro (hv ▸ bx1 wk_ 34 #[.int .i64 0, .slice none 0 0, .int .i64 0, .slice none 0 0]) (Goes.go M.out (hv ▸ below_alloc _ _ : Below wk_.heap.size wk_ w6)))
      clear hv
      refine hK.out _ _ (⟨(M.out.2.2.2.2.2.2.2.2.2.2.2.2.1).at.1 0, (M.out.2.2.2.2.2.2.2.2.2.2.2.2.1).at.1 1⟩) (fun hH178 => ?_)
      clear hK K hH175
      (try simp only [Act.put, List.setIfInBounds_toArray, List.set_cons_zero, List.set_cons_succ])
      exact at_node (by kernel_rfl) (hD23 w6 A1_ A5_ A15_ wk_.heap.size (by omega) (by omega) (by omega) (by omega) (by omega) (by omega) (by omega) (by omega) (by omega) (by omega) (Lib.hid ⟨(M.out.1), (M.out.2.1), (M.out.2.2.1), (M.out.2.2.2.1), (M.out.2.2.2.2.1)⟩))
    simp only [ha0_, Act.put, List.setIfInBounds_toArray, List.set_cons_zero, List.set_cons_succ] at hD15
    have hD16 : ∀ (wk_ : World) (A1_ : Nat) (A5_ : Nat) (A16_ : Nat), w5.heap.size ≤ A1_ → w5.heap.size ≤ A5_ → w5.heap.size ≤ A16_ → A1_ ≠ A5_ → A1_ ≠ A16_ → A5_ ≠ A16_ → Hid (Bx wk_ A16_ 34 #[.int .i64 0, .slice none 0 0, .int .i64 0, .slice none 0 0] ∧ Bx wk_ A5_ 52 #[.int .i64 xs, .int .i64 xt] ∧ Bx wk_ A1_ 52 #[] ∧ Below w5.heap.size w5 wk_) → X_ 11 #[true, true, true, false, true, true, false, true, true, true, false, false, false, false, false, false, true, false, false, false] (Act.put (Act.put (Act.put a0_ (some 48) (.slice (some ⟨A1_, 0, none⟩) 0 0)) (some 52) (.slice (some ⟨A5_, 0, none⟩) 1 1)) (some 20) (.pointer (some ⟨A16_, 0, none⟩))) wk_ := by
      intro wk_ A1_ A5_ A16_ c0_ c1_ c2_ c3_ c4_ c5_ rel_
      subst hX_ ha0_
      have M := Lib.hid (And.intro rel_.out.1 (And.intro rel_.out.2.1 (And.intro rel_.out.2.2.1 (And.intro rel_.out.2.2.2 (Goes.go Mb_.out rel_.out.2.2.2)))))
      clear rel_
      have hH179 : (fun w' => w'.cell? ⟨w.heap.size, 0, none⟩ = some (.int .i64 xs) ∧ w'.cell? ⟨w.heap.size, 1, none⟩ = some (.int .i64 xt)) wk_ := ⟨(M.out.2.2.2.2.2.2.2.2.2.2.2.1).at.1 0, (M.out.2.2.2.2.2.2.2.2.2.2.2.1).at.1 1⟩
      (try simp only [Act.put, List.setIfInBounds_toArray, List.set_cons_zero, List.set_cons_succ])
      have lw_ := ((M.out.2.2.2.1)).size
      have l1_ := ((M.out.2.2.1)).lt
      have l5_ := ((M.out.2.1)).lt
      have l16_ := ((M.out.1)).lt
      refine wpAnyH_ready (rs := [3, 15]) (by kernel_rfl) (by simp) ?_
      refine AllReadyH.cons at3 (fun K hK => ?_) ?_
      ·
        rw [if_pos (by rfl)]
        refine wp_copyK elemRecall (M.out.2.2.1) (by omega) (H2.out.keep (M.out.2.2.2.2.2.2.2.2.2.2.2.2)) rc_len rc_one (by omega) (by omega) rfl rfl rfl (fun v_180 w6 ho_ hg_ => ?_)
        have bb_ := below_only (M.out.2.2.2.1) hg_ (by omega) (M.out.2.2.2.1).size
        have M_ := Lib.hid (And.intro ho_ (And.intro ((M.out.1).only hg_ (by omega)) (And.intro ((M.out.2.1).only hg_ (by omega)) (And.intro bb_ (Goes.go Mb_.out bb_)))))
        clear M
        have M := M_
        clear M_ ho_ hg_ bb_
        refine hK.out _ _ (⟨(M.out.2.2.2.2.2.2.2.2.2.2.2.1).at.1 0, (M.out.2.2.2.2.2.2.2.2.2.2.2.1).at.1 1⟩) (fun hH181 => ?_)
        clear hK K hH179
        (try simp only [Act.put, List.setIfInBounds_toArray, List.set_cons_zero, List.set_cons_succ])
        exact at_node (by kernel_rfl) (hD21 w6 A1_ v_180 A5_ A16_ (by omega) (by omega) (by omega) (Lib.hid ⟨(M.out.2.1), (M.out.2.2.1), (M.out.1), (M.out.2.2.2.1)⟩))
      refine AllReadyH.cons at15 (fun K hK => ?_) AllReadyH.nil
      go_simp
      obtain ⟨w6, hv⟩ : ∃ w_ : World, w_ = (wk_.alloc (.cells #[.int .i64 0, .slice none 0 0, .int .i64 0, .slice none 0 0] 34)) := ⟨_, rfl⟩
      rw [← hv]
      have ow7_ : A16_ < wk_.heap.size := ((M.out.1)).lt
      replace M := Lib.hid (And.intro (hv ▸ bx1 wk_ 34 #[.int .i64 0, .slice none 0 0, .int .i64 0, .slice none 0 0]) (Goes.go M.out (hv ▸ below_alloc _ _ : Below wk_.heap.size wk_ w6)))
      clear hv
      refine hK.out _ _ (⟨(M.out.2.2.2.2.2.2.2.2.2.2.2.2.1).at.1 0, (M.out.2.2.2.2.2.2.2.2.2.2.2.2.1).at.1 1⟩) (fun hH182 => ?_)
      clear hK K hH179
      (try simp only [Act.put, List.setIfInBounds_toArray, List.set_cons_zero, List.set_cons_succ])
      exact at_node (by kernel_rfl) (hD23 w6 A1_ A5_ wk_.heap.size A16_ (by omega) (by omega) (by omega) (by omega) (by omega) (by omega) (by omega) (by omega) (by omega) (by omega) (Lib.hid ⟨(M.out.2.1), (M.out.1), (M.out.2.2.1), (M.out.2.2.2.1), (M.out.2.2.2.2.1)⟩))
    simp only [ha0_, Act.put, List.setIfInBounds_toArray, List.set_cons_zero, List.set_cons_succ] at hD16
    have hD17 : ∀ (wk_ : World) (A1_ : Nat) (A15_ : Nat) (A16_ : Nat), w5.heap.size ≤ A1_ → w5.heap.size ≤ A15_ → w5.heap.size ≤ A16_ → A1_ ≠ A15_ → A1_ ≠ A16_ → A15_ ≠ A16_ → Hid (Bx wk_ A16_ 34 #[.int .i64 0, .slice none 0 0, .int .i64 0, .slice none 0 0] ∧ Bx wk_ A15_ 34 #[.int .i64 0, .slice none 0 0, .int .i64 0, .slice none 0 0] ∧ Bx wk_ A1_ 52 #[] ∧ Below w5.heap.size w5 wk_) → X_ 11 #[true, true, true, false, true, false, false, true, true, true, false, false, false, false, false, true, true, false, false, false] (Act.put (Act.put (Act.put a0_ (some 48) (.slice (some ⟨A1_, 0, none⟩) 0 0)) (some 19) (.pointer (some ⟨A15_, 0, none⟩))) (some 20) (.pointer (some ⟨A16_, 0, none⟩))) wk_ := by
      intro wk_ A1_ A15_ A16_ c0_ c1_ c2_ c3_ c4_ c5_ rel_
      subst hX_ ha0_
      have M := Lib.hid (And.intro rel_.out.1 (And.intro rel_.out.2.1 (And.intro rel_.out.2.2.1 (And.intro rel_.out.2.2.2 (Goes.go Mb_.out rel_.out.2.2.2)))))
      clear rel_
      have hH183 : (fun w' => w'.cell? ⟨w.heap.size, 0, none⟩ = some (.int .i64 xs) ∧ w'.cell? ⟨w.heap.size, 1, none⟩ = some (.int .i64 xt)) wk_ := ⟨(M.out.2.2.2.2.2.2.2.2.2.2.2.1).at.1 0, (M.out.2.2.2.2.2.2.2.2.2.2.2.1).at.1 1⟩
      (try simp only [Act.put, List.setIfInBounds_toArray, List.set_cons_zero, List.set_cons_succ])
      have lw_ := ((M.out.2.2.2.1)).size
      have l1_ := ((M.out.2.2.1)).lt
      have l15_ := ((M.out.2.1)).lt
      have l16_ := ((M.out.1)).lt
      refine wpAnyH_ready (rs := [3, 5]) (by kernel_rfl) (by simp) ?_
      refine AllReadyH.cons at3 (fun K hK => ?_) ?_
      ·
        rw [if_pos (by rfl)]
        refine wp_copyK elemRecall (M.out.2.2.1) (by omega) (H2.out.keep (M.out.2.2.2.2.2.2.2.2.2.2.2.2)) rc_len rc_one (by omega) (by omega) rfl rfl rfl (fun v_184 w6 ho_ hg_ => ?_)
        have bb_ := below_only (M.out.2.2.2.1) hg_ (by omega) (M.out.2.2.2.1).size
        have M_ := Lib.hid (And.intro ho_ (And.intro ((M.out.1).only hg_ (by omega)) (And.intro ((M.out.2.1).only hg_ (by omega)) (And.intro bb_ (Goes.go Mb_.out bb_)))))
        clear M
        have M := M_
        clear M_ ho_ hg_ bb_
        refine hK.out _ _ (⟨(M.out.2.2.2.2.2.2.2.2.2.2.2.1).at.1 0, (M.out.2.2.2.2.2.2.2.2.2.2.2.1).at.1 1⟩) (fun hH185 => ?_)
        clear hK K hH183
        (try simp only [Act.put, List.setIfInBounds_toArray, List.set_cons_zero, List.set_cons_succ])
        exact at_node (by kernel_rfl) (hD22 w6 A1_ v_184 A15_ A16_ (by omega) (by omega) (by omega) (Lib.hid ⟨(M.out.2.1), (M.out.2.2.1), (M.out.1), (M.out.2.2.2.1)⟩))
      refine AllReadyH.cons at5 (fun K hK => ?_) AllReadyH.nil
      go_simp
      obtain ⟨w6, hv⟩ : ∃ w_ : World, w_ = (wk_.alloc (.cells #[.int .i64 xs, .int .i64 xt] 52)) := ⟨_, rfl⟩
      rw [← hv]
      have ow7_ : A16_ < wk_.heap.size := ((M.out.1)).lt
      replace M := Lib.hid (And.intro (hv ▸ bx1 wk_ 52 #[.int .i64 xs, .int .i64 xt]) (Goes.go M.out (hv ▸ below_alloc _ _ : Below wk_.heap.size wk_ w6)))
      clear hv
      refine hK.out _ _ (⟨(M.out.2.2.2.2.2.2.2.2.2.2.2.2.1).at.1 0, (M.out.2.2.2.2.2.2.2.2.2.2.2.2.1).at.1 1⟩) (fun hH186 => ?_)
      clear hK K hH183
      (try simp only [Act.put, List.setIfInBounds_toArray, List.set_cons_zero, List.set_cons_succ])
      exact at_node (by kernel_rfl) (hD23 w6 A1_ wk_.heap.size A15_ A16_ (by omega) (by omega) (by omega) (by omega) (by omega) (by omega) (by omega) (by omega) (by omega) (by omega) (Lib.hid ⟨(M.out.2.1), (M.out.2.2.1), (M.out.1), (M.out.2.2.2.1), (M.out.2.2.2.2.1)⟩))
    simp only [ha0_, Act.put, List.setIfInBounds_toArray, List.set_cons_zero, List.set_cons_succ] at hD17
    have hD18 : ∀ (wk_ : World) (A5_ : Nat) (A15_ : Nat) (A16_ : Nat), w5.heap.size ≤ A5_ → w5.heap.size ≤ A15_ → w5.heap.size ≤ A16_ → A5_ ≠ A15_ → A5_ ≠ A16_ → A15_ ≠ A16_ → Hid (Bx wk_ A16_ 34 #[.int .i64 0, .slice none 0 0, .int .i64 0, .slice none 0 0] ∧ Bx wk_ A15_ 34 #[.int .i64 0, .slice none 0 0, .int .i64 0, .slice none 0 0] ∧ Bx wk_ A5_ 52 #[.int .i64 xs, .int .i64 xt] ∧ Below w5.heap.size w5 wk_) → X_ 11 #[true, false, true, false, true, true, false, true, true, true, false, false, false, false, false, true, true, false, false, false] (Act.put (Act.put (Act.put a0_ (some 52) (.slice (some ⟨A5_, 0, none⟩) 1 1)) (some 19) (.pointer (some ⟨A15_, 0, none⟩))) (some 20) (.pointer (some ⟨A16_, 0, none⟩))) wk_ := by
      intro wk_ A5_ A15_ A16_ c0_ c1_ c2_ c3_ c4_ c5_ rel_
      subst hX_ ha0_
      have M := Lib.hid (And.intro rel_.out.1 (And.intro rel_.out.2.1 (And.intro rel_.out.2.2.1 (And.intro rel_.out.2.2.2 (Goes.go Mb_.out rel_.out.2.2.2)))))
      clear rel_
      have hH187 : (fun w' => w'.cell? ⟨w.heap.size, 0, none⟩ = some (.int .i64 xs) ∧ w'.cell? ⟨w.heap.size, 1, none⟩ = some (.int .i64 xt)) wk_ := ⟨(M.out.2.2.2.2.2.2.2.2.2.2.2.1).at.1 0, (M.out.2.2.2.2.2.2.2.2.2.2.2.1).at.1 1⟩
      (try simp only [Act.put, List.setIfInBounds_toArray, List.set_cons_zero, List.set_cons_succ])
      have lw_ := ((M.out.2.2.2.1)).size
      have l5_ := ((M.out.2.2.1)).lt
      have l15_ := ((M.out.2.1)).lt
      have l16_ := ((M.out.1)).lt
      refine wpAnyH_ready (rs := [1]) (by kernel_rfl) (by simp) ?_
      refine AllReadyH.cons at1 (fun K hK => ?_) AllReadyH.nil
      go_simp
      obtain ⟨w6, hv⟩ : ∃ w_ : World, w_ = (wk_.alloc (.cells #[] 52)) := ⟨_, rfl⟩
      rw [← hv]
      have ow7_ : A16_ < wk_.heap.size := ((M.out.1)).lt
      replace M := Lib.hid (And.intro (hv ▸ bx1 wk_ 52 #[]) (Goes.go M.out (hv ▸ below_alloc _ _ : Below wk_.heap.size wk_ w6)))
      clear hv
      refine hK.out _ _ (⟨(M.out.2.2.2.2.2.2.2.2.2.2.2.2.1).at.1 0, (M.out.2.2.2.2.2.2.2.2.2.2.2.2.1).at.1 1⟩) (fun hH188 => ?_)
      clear hK K hH187
      (try simp only [Act.put, List.setIfInBounds_toArray, List.set_cons_zero, List.set_cons_succ])
      exact at_node (by kernel_rfl) (hD23 w6 wk_.heap.size A5_ A15_ A16_ (by omega) (by omega) (by omega) (by omega) (by omega) (by omega) (by omega) (by omega) (by omega) (by omega) (Lib.hid ⟨(M.out.2.1), (M.out.2.2.1), (M.out.2.2.2.1), (M.out.1), (M.out.2.2.2.2.1)⟩))
    simp only [ha0_, Act.put, List.setIfInBounds_toArray, List.set_cons_zero, List.set_cons_succ] at hD18
    have hD5 : ∀ (wk_ : World) (A1_ : Nat) (v3_ : Value), Hid (Kept wk_ w5.heap.size 52 2 rcCells v3_ rs ∧ Below w5.heap.size w5 wk_) → X_ 12 #[true, true, true, true, true, false, false, true, true, true, false, false, false, false, false, false, false, false, false, false] (Act.put (Act.put a0_ (some 48) (.slice (some ⟨A1_, 0, none⟩) 0 0)) (some 50) (v3_)) wk_ := by
      intro wk_ A1_ v3_ rel_
      subst hX_ ha0_
      have M := Lib.hid (And.intro rel_.out.1 (And.intro rel_.out.2 (Goes.go Mb_.out rel_.out.2)))
      clear rel_
      have hH189 : (fun w' => w'.cell? ⟨w.heap.size, 0, none⟩ = some (.int .i64 xs) ∧ w'.cell? ⟨w.heap.size, 1, none⟩ = some (.int .i64 xt)) wk_ := ⟨(M.out.2.2.2.2.2.2.2.2.2.1).at.1 0, (M.out.2.2.2.2.2.2.2.2.2.1).at.1 1⟩
      (try simp only [Act.put, List.setIfInBounds_toArray, List.set_cons_zero, List.set_cons_succ])
      have lw_ := ((M.out.2.1)).size
      refine wpAnyH_ready (rs := [5, 15, 16]) (by kernel_rfl) (by simp) ?_
      refine AllReadyH.cons at5 (fun K hK => ?_) ?_
      ·
        go_simp
        obtain ⟨w6, hv⟩ : ∃ w_ : World, w_ = (wk_.alloc (.cells #[.int .i64 xs, .int .i64 xt] 52)) := ⟨_, rfl⟩
        rw [← hv]
        have ow5_ : w3.heap.size + 1 < wk_.heap.size := ((M.out.2.2.1)).lt
        replace M := Lib.hid (And.intro (hv ▸ bx1 wk_ 52 #[.int .i64 xs, .int .i64 xt]) (Goes.go M.out (hv ▸ below_alloc _ _ : Below wk_.heap.size wk_ w6)))
        clear hv
        refine hK.out _ _ (⟨(M.out.2.2.2.2.2.2.2.2.2.2.1).at.1 0, (M.out.2.2.2.2.2.2.2.2.2.2.1).at.1 1⟩) (fun hH190 => ?_)
        clear hK K hH189
        (try simp only [Act.put, List.setIfInBounds_toArray, List.set_cons_zero, List.set_cons_succ])
        exact at_node (by kernel_rfl) (hD12 w6 A1_ v3_ wk_.heap.size (by omega) (Lib.hid ⟨(M.out.1), (M.out.2.1), (M.out.2.2.1)⟩))
      refine AllReadyH.cons at15 (fun K hK => ?_) ?_
      ·
        go_simp
        obtain ⟨w6, hv⟩ : ∃ w_ : World, w_ = (wk_.alloc (.cells #[.int .i64 0, .slice none 0 0, .int .i64 0, .slice none 0 0] 34)) := ⟨_, rfl⟩
        rw [← hv]
        have ow5_ : w3.heap.size + 1 < wk_.heap.size := ((M.out.2.2.1)).lt
        replace M := Lib.hid (And.intro (hv ▸ bx1 wk_ 34 #[.int .i64 0, .slice none 0 0, .int .i64 0, .slice none 0 0]) (Goes.go M.out (hv ▸ below_alloc _ _ : Below wk_.heap.size wk_ w6)))
        clear hv
        refine hK.out _ _ (⟨(M.out.2.2.2.2.2.2.2.2.2.2.1).at.1 0, (M.out.2.2.2.2.2.2.2.2.2.2.1).at.1 1⟩) (fun hH191 => ?_)
        clear hK K hH189
        (try simp only [Act.put, List.setIfInBounds_toArray, List.set_cons_zero, List.set_cons_succ])
        exact at_node (by kernel_rfl) (hD13 w6 A1_ v3_ wk_.heap.size (by omega) (Lib.hid ⟨(M.out.1), (M.out.2.1), (M.out.2.2.1)⟩))
      refine AllReadyH.cons at16 (fun K hK => ?_) AllReadyH.nil
      go_simp
      obtain ⟨w6, hv⟩ : ∃ w_ : World, w_ = (wk_.alloc (.cells #[.int .i64 0, .slice none 0 0, .int .i64 0, .slice none 0 0] 34)) := ⟨_, rfl⟩
      rw [← hv]
      have ow5_ : w3.heap.size + 1 < wk_.heap.size := ((M.out.2.2.1)).lt
      replace M := Lib.hid (And.intro (hv ▸ bx1 wk_ 34 #[.int .i64 0, .slice none 0 0, .int .i64 0, .slice none 0 0]) (Goes.go M.out (hv ▸ below_alloc _ _ : Below wk_.heap.size wk_ w6)))
      clear hv
      refine hK.out _ _ (⟨(M.out.2.2.2.2.2.2.2.2.2.2.1).at.1 0, (M.out.2.2.2.2.2.2.2.2.2.2.1).at.1 1⟩) (fun hH192 => ?_)
      clear hK K hH189
      (try simp only [Act.put, List.setIfInBounds_toArray, List.set_cons_zero, List.set_cons_succ])
      exact at_node (by kernel_rfl) (hD14 w6 A1_ v3_ wk_.heap.size (by omega) (Lib.hid ⟨(M.out.1), (M.out.2.1), (M.out.2.2.1)⟩))
    simp only [ha0_, Act.put, List.setIfInBounds_toArray, List.set_cons_zero, List.set_cons_succ] at hD5
    have hD6 : ∀ (wk_ : World) (A1_ : Nat) (A5_ : Nat), w5.heap.size ≤ A1_ → w5.heap.size ≤ A5_ → A1_ ≠ A5_ → Hid (Bx wk_ A5_ 52 #[.int .i64 xs, .int .i64 xt] ∧ Bx wk_ A1_ 52 #[] ∧ Below w5.heap.size w5 wk_) → X_ 12 #[true, true, true, false, true, true, false, true, true, true, false, false, false, false, false, false, false, false, false, false] (Act.put (Act.put a0_ (some 48) (.slice (some ⟨A1_, 0, none⟩) 0 0)) (some 52) (.slice (some ⟨A5_, 0, none⟩) 1 1)) wk_ := by
      intro wk_ A1_ A5_ c0_ c1_ c2_ rel_
      subst hX_ ha0_
      have M := Lib.hid (And.intro rel_.out.1 (And.intro rel_.out.2.1 (And.intro rel_.out.2.2 (Goes.go Mb_.out rel_.out.2.2))))
      clear rel_
      have hH193 : (fun w' => w'.cell? ⟨w.heap.size, 0, none⟩ = some (.int .i64 xs) ∧ w'.cell? ⟨w.heap.size, 1, none⟩ = some (.int .i64 xt)) wk_ := ⟨(M.out.2.2.2.2.2.2.2.2.2.2.1).at.1 0, (M.out.2.2.2.2.2.2.2.2.2.2.1).at.1 1⟩
      (try simp only [Act.put, List.setIfInBounds_toArray, List.set_cons_zero, List.set_cons_succ])
      have lw_ := ((M.out.2.2.1)).size
      have l1_ := ((M.out.2.1)).lt
      have l5_ := ((M.out.1)).lt
      refine wpAnyH_ready (rs := [3, 15, 16]) (by kernel_rfl) (by simp) ?_
      refine AllReadyH.cons at3 (fun K hK => ?_) ?_
      ·
        rw [if_pos (by rfl)]
        refine wp_copyK elemRecall (M.out.2.1) (by omega) (H2.out.keep (M.out.2.2.2.2.2.2.2.2.2.2.2)) rc_len rc_one (by omega) (by omega) rfl rfl rfl (fun v_194 w6 ho_ hg_ => ?_)
        have bb_ := below_only (M.out.2.2.1) hg_ (by omega) (M.out.2.2.1).size
        have M_ := Lib.hid (And.intro ho_ (And.intro ((M.out.1).only hg_ (by omega)) (And.intro bb_ (Goes.go Mb_.out bb_))))
        clear M
        have M := M_
        clear M_ ho_ hg_ bb_
        refine hK.out _ _ (⟨(M.out.2.2.2.2.2.2.2.2.2.2.1).at.1 0, (M.out.2.2.2.2.2.2.2.2.2.2.1).at.1 1⟩) (fun hH195 => ?_)
        clear hK K hH193
        (try simp only [Act.put, List.setIfInBounds_toArray, List.set_cons_zero, List.set_cons_succ])
        exact at_node (by kernel_rfl) (hD12 w6 A1_ v_194 A5_ (by omega) (Lib.hid ⟨(M.out.2.1), (M.out.1), (M.out.2.2.1)⟩))
      refine AllReadyH.cons at15 (fun K hK => ?_) ?_
      ·
        go_simp
        obtain ⟨w6, hv⟩ : ∃ w_ : World, w_ = (wk_.alloc (.cells #[.int .i64 0, .slice none 0 0, .int .i64 0, .slice none 0 0] 34)) := ⟨_, rfl⟩
        rw [← hv]
        have ow6_ : A5_ < wk_.heap.size := ((M.out.1)).lt
        replace M := Lib.hid (And.intro (hv ▸ bx1 wk_ 34 #[.int .i64 0, .slice none 0 0, .int .i64 0, .slice none 0 0]) (Goes.go M.out (hv ▸ below_alloc _ _ : Below wk_.heap.size wk_ w6)))
        clear hv
        refine hK.out _ _ (⟨(M.out.2.2.2.2.2.2.2.2.2.2.2.1).at.1 0, (M.out.2.2.2.2.2.2.2.2.2.2.2.1).at.1 1⟩) (fun hH196 => ?_)
        clear hK K hH193
        (try simp only [Act.put, List.setIfInBounds_toArray, List.set_cons_zero, List.set_cons_succ])
        exact at_node (by kernel_rfl) (hD15 w6 A1_ A5_ wk_.heap.size (by omega) (by omega) (by omega) (by omega) (by omega) (by omega) (Lib.hid ⟨(M.out.1), (M.out.2.1), (M.out.2.2.1), (M.out.2.2.2.1)⟩))
      refine AllReadyH.cons at16 (fun K hK => ?_) AllReadyH.nil
      go_simp
      obtain ⟨w6, hv⟩ : ∃ w_ : World, w_ = (wk_.alloc (.cells #[.int .i64 0, .slice none 0 0, .int .i64 0, .slice none 0 0] 34)) := ⟨_, rfl⟩
      rw [← hv]
      have ow6_ : A5_ < wk_.heap.size := ((M.out.1)).lt
      replace M := Lib.hid (And.intro (hv ▸ bx1 wk_ 34 #[.int .i64 0, .slice none 0 0, .int .i64 0, .slice none 0 0]) (Goes.go M.out (hv ▸ below_alloc _ _ : Below wk_.heap.size wk_ w6)))
      clear hv
      refine hK.out _ _ (⟨(M.out.2.2.2.2.2.2.2.2.2.2.2.1).at.1 0, (M.out.2.2.2.2.2.2.2.2.2.2.2.1).at.1 1⟩) (fun hH197 => ?_)
      clear hK K hH193
      (try simp only [Act.put, List.setIfInBounds_toArray, List.set_cons_zero, List.set_cons_succ])
      exact at_node (by kernel_rfl) (hD16 w6 A1_ A5_ wk_.heap.size (by omega) (by omega) (by omega) (by omega) (by omega) (by omega) (Lib.hid ⟨(M.out.1), (M.out.2.1), (M.out.2.2.1), (M.out.2.2.2.1)⟩))
    simp only [ha0_, Act.put, List.setIfInBounds_toArray, List.set_cons_zero, List.set_cons_succ] at hD6
    have hD7 : ∀ (wk_ : World) (A1_ : Nat) (A15_ : Nat), w5.heap.size ≤ A1_ → w5.heap.size ≤ A15_ → A1_ ≠ A15_ → Hid (Bx wk_ A15_ 34 #[.int .i64 0, .slice none 0 0, .int .i64 0, .slice none 0 0] ∧ Bx wk_ A1_ 52 #[] ∧ Below w5.heap.size w5 wk_) → X_ 12 #[true, true, true, false, true, false, false, true, true, true, false, false, false, false, false, true, false, false, false, false] (Act.put (Act.put a0_ (some 48) (.slice (some ⟨A1_, 0, none⟩) 0 0)) (some 19) (.pointer (some ⟨A15_, 0, none⟩))) wk_ := by
      intro wk_ A1_ A15_ c0_ c1_ c2_ rel_
      subst hX_ ha0_
      have M := Lib.hid (And.intro rel_.out.1 (And.intro rel_.out.2.1 (And.intro rel_.out.2.2 (Goes.go Mb_.out rel_.out.2.2))))
      clear rel_
      have hH198 : (fun w' => w'.cell? ⟨w.heap.size, 0, none⟩ = some (.int .i64 xs) ∧ w'.cell? ⟨w.heap.size, 1, none⟩ = some (.int .i64 xt)) wk_ := ⟨(M.out.2.2.2.2.2.2.2.2.2.2.1).at.1 0, (M.out.2.2.2.2.2.2.2.2.2.2.1).at.1 1⟩
      (try simp only [Act.put, List.setIfInBounds_toArray, List.set_cons_zero, List.set_cons_succ])
      have lw_ := ((M.out.2.2.1)).size
      have l1_ := ((M.out.2.1)).lt
      have l15_ := ((M.out.1)).lt
      refine wpAnyH_ready (rs := [3, 5, 16]) (by kernel_rfl) (by simp) ?_
      refine AllReadyH.cons at3 (fun K hK => ?_) ?_
      ·
        rw [if_pos (by rfl)]
        refine wp_copyK elemRecall (M.out.2.1) (by omega) (H2.out.keep (M.out.2.2.2.2.2.2.2.2.2.2.2)) rc_len rc_one (by omega) (by omega) rfl rfl rfl (fun v_199 w6 ho_ hg_ => ?_)
        have bb_ := below_only (M.out.2.2.1) hg_ (by omega) (M.out.2.2.1).size
        have M_ := Lib.hid (And.intro ho_ (And.intro ((M.out.1).only hg_ (by omega)) (And.intro bb_ (Goes.go Mb_.out bb_))))
        clear M
        have M := M_
        clear M_ ho_ hg_ bb_
        refine hK.out _ _ (⟨(M.out.2.2.2.2.2.2.2.2.2.2.1).at.1 0, (M.out.2.2.2.2.2.2.2.2.2.2.1).at.1 1⟩) (fun hH200 => ?_)
        clear hK K hH198
        (try simp only [Act.put, List.setIfInBounds_toArray, List.set_cons_zero, List.set_cons_succ])
        exact at_node (by kernel_rfl) (hD13 w6 A1_ v_199 A15_ (by omega) (Lib.hid ⟨(M.out.2.1), (M.out.1), (M.out.2.2.1)⟩))
      refine AllReadyH.cons at5 (fun K hK => ?_) ?_
      ·
        go_simp
        obtain ⟨w6, hv⟩ : ∃ w_ : World, w_ = (wk_.alloc (.cells #[.int .i64 xs, .int .i64 xt] 52)) := ⟨_, rfl⟩
        rw [← hv]
        have ow6_ : A15_ < wk_.heap.size := ((M.out.1)).lt
        replace M := Lib.hid (And.intro (hv ▸ bx1 wk_ 52 #[.int .i64 xs, .int .i64 xt]) (Goes.go M.out (hv ▸ below_alloc _ _ : Below wk_.heap.size wk_ w6)))
        clear hv
        refine hK.out _ _ (⟨(M.out.2.2.2.2.2.2.2.2.2.2.2.1).at.1 0, (M.out.2.2.2.2.2.2.2.2.2.2.2.1).at.1 1⟩) (fun hH201 => ?_)
        clear hK K hH198
        (try simp only [Act.put, List.setIfInBounds_toArray, List.set_cons_zero, List.set_cons_succ])
        exact at_node (by kernel_rfl) (hD15 w6 A1_ wk_.heap.size A15_ (by omega) (by omega) (by omega) (by omega) (by omega) (by omega) (Lib.hid ⟨(M.out.2.1), (M.out.1), (M.out.2.2.1), (M.out.2.2.2.1)⟩))
      refine AllReadyH.cons at16 (fun K hK => ?_) AllReadyH.nil
      go_simp
      obtain ⟨w6, hv⟩ : ∃ w_ : World, w_ = (wk_.alloc (.cells #[.int .i64 0, .slice none 0 0, .int .i64 0, .slice none 0 0] 34)) := ⟨_, rfl⟩
      rw [← hv]
      have ow6_ : A15_ < wk_.heap.size := ((M.out.1)).lt
      replace M := Lib.hid (And.intro (hv ▸ bx1 wk_ 34 #[.int .i64 0, .slice none 0 0, .int .i64 0, .slice none 0 0]) (Goes.go M.out (hv ▸ below_alloc _ _ : Below wk_.heap.size wk_ w6)))
      clear hv
      refine hK.out _ _ (⟨(M.out.2.2.2.2.2.2.2.2.2.2.2.1).at.1 0, (M.out.2.2.2.2.2.2.2.2.2.2.2.1).at.1 1⟩) (fun hH202 => ?_)
      clear hK K hH198
      (try simp only [Act.put, List.setIfInBounds_toArray, List.set_cons_zero, List.set_cons_succ])
      exact at_node (by kernel_rfl) (hD17 w6 A1_ A15_ wk_.heap.size (by omega) (by omega) (by omega) (by omega) (by omega) (by omega) (Lib.hid ⟨(M.out.1), (M.out.2.1), (M.out.2.2.1), (M.out.2.2.2.1)⟩))
    simp only [ha0_, Act.put, List.setIfInBounds_toArray, List.set_cons_zero, List.set_cons_succ] at hD7
    have hD8 : ∀ (wk_ : World) (A1_ : Nat) (A16_ : Nat), w5.heap.size ≤ A1_ → w5.heap.size ≤ A16_ → A1_ ≠ A16_ → Hid (Bx wk_ A16_ 34 #[.int .i64 0, .slice none 0 0, .int .i64 0, .slice none 0 0] ∧ Bx wk_ A1_ 52 #[] ∧ Below w5.heap.size w5 wk_) → X_ 12 #[true, true, true, false, true, false, false, true, true, true, false, false, false, false, false, false, true, false, false, false] (Act.put (Act.put a0_ (some 48) (.slice (some ⟨A1_, 0, none⟩) 0 0)) (some 20) (.pointer (some ⟨A16_, 0, none⟩))) wk_ := by
      intro wk_ A1_ A16_ c0_ c1_ c2_ rel_
      subst hX_ ha0_
      have M := Lib.hid (And.intro rel_.out.1 (And.intro rel_.out.2.1 (And.intro rel_.out.2.2 (Goes.go Mb_.out rel_.out.2.2))))
      clear rel_
      have hH203 : (fun w' => w'.cell? ⟨w.heap.size, 0, none⟩ = some (.int .i64 xs) ∧ w'.cell? ⟨w.heap.size, 1, none⟩ = some (.int .i64 xt)) wk_ := ⟨(M.out.2.2.2.2.2.2.2.2.2.2.1).at.1 0, (M.out.2.2.2.2.2.2.2.2.2.2.1).at.1 1⟩
      (try simp only [Act.put, List.setIfInBounds_toArray, List.set_cons_zero, List.set_cons_succ])
      have lw_ := ((M.out.2.2.1)).size
      have l1_ := ((M.out.2.1)).lt
      have l16_ := ((M.out.1)).lt
      refine wpAnyH_ready (rs := [3, 5, 15]) (by kernel_rfl) (by simp) ?_
      refine AllReadyH.cons at3 (fun K hK => ?_) ?_
      ·
        rw [if_pos (by rfl)]
        refine wp_copyK elemRecall (M.out.2.1) (by omega) (H2.out.keep (M.out.2.2.2.2.2.2.2.2.2.2.2)) rc_len rc_one (by omega) (by omega) rfl rfl rfl (fun v_204 w6 ho_ hg_ => ?_)
        have bb_ := below_only (M.out.2.2.1) hg_ (by omega) (M.out.2.2.1).size
        have M_ := Lib.hid (And.intro ho_ (And.intro ((M.out.1).only hg_ (by omega)) (And.intro bb_ (Goes.go Mb_.out bb_))))
        clear M
        have M := M_
        clear M_ ho_ hg_ bb_
        refine hK.out _ _ (⟨(M.out.2.2.2.2.2.2.2.2.2.2.1).at.1 0, (M.out.2.2.2.2.2.2.2.2.2.2.1).at.1 1⟩) (fun hH205 => ?_)
        clear hK K hH203
        (try simp only [Act.put, List.setIfInBounds_toArray, List.set_cons_zero, List.set_cons_succ])
        exact at_node (by kernel_rfl) (hD14 w6 A1_ v_204 A16_ (by omega) (Lib.hid ⟨(M.out.2.1), (M.out.1), (M.out.2.2.1)⟩))
      refine AllReadyH.cons at5 (fun K hK => ?_) ?_
      ·
        go_simp
        obtain ⟨w6, hv⟩ : ∃ w_ : World, w_ = (wk_.alloc (.cells #[.int .i64 xs, .int .i64 xt] 52)) := ⟨_, rfl⟩
        rw [← hv]
        have ow6_ : A16_ < wk_.heap.size := ((M.out.1)).lt
        replace M := Lib.hid (And.intro (hv ▸ bx1 wk_ 52 #[.int .i64 xs, .int .i64 xt]) (Goes.go M.out (hv ▸ below_alloc _ _ : Below wk_.heap.size wk_ w6)))
        clear hv
        refine hK.out _ _ (⟨(M.out.2.2.2.2.2.2.2.2.2.2.2.1).at.1 0, (M.out.2.2.2.2.2.2.2.2.2.2.2.1).at.1 1⟩) (fun hH206 => ?_)
        clear hK K hH203
        (try simp only [Act.put, List.setIfInBounds_toArray, List.set_cons_zero, List.set_cons_succ])
        exact at_node (by kernel_rfl) (hD16 w6 A1_ wk_.heap.size A16_ (by omega) (by omega) (by omega) (by omega) (by omega) (by omega) (Lib.hid ⟨(M.out.2.1), (M.out.1), (M.out.2.2.1), (M.out.2.2.2.1)⟩))
      refine AllReadyH.cons at15 (fun K hK => ?_) AllReadyH.nil
      go_simp
      obtain ⟨w6, hv⟩ : ∃ w_ : World, w_ = (wk_.alloc (.cells #[.int .i64 0, .slice none 0 0, .int .i64 0, .slice none 0 0] 34)) := ⟨_, rfl⟩
      rw [← hv]
      have ow6_ : A16_ < wk_.heap.size := ((M.out.1)).lt
      replace M := Lib.hid (And.intro (hv ▸ bx1 wk_ 34 #[.int .i64 0, .slice none 0 0, .int .i64 0, .slice none 0 0]) (Goes.go M.out (hv ▸ below_alloc _ _ : Below wk_.heap.size wk_ w6)))
      clear hv
      refine hK.out _ _ (⟨(M.out.2.2.2.2.2.2.2.2.2.2.2.1).at.1 0, (M.out.2.2.2.2.2.2.2.2.2.2.2.1).at.1 1⟩) (fun hH207 => ?_)
      clear hK K hH203
      (try simp only [Act.put, List.setIfInBounds_toArray, List.set_cons_zero, List.set_cons_succ])
      exact at_node (by kernel_rfl) (hD17 w6 A1_ wk_.heap.size A16_ (by omega) (by omega) (by omega) (by omega) (by omega) (by omega) (Lib.hid ⟨(M.out.2.1), (M.out.1), (M.out.2.2.1), (M.out.2.2.2.1)⟩))
    simp only [ha0_, Act.put, List.setIfInBounds_toArray, List.set_cons_zero, List.set_cons_succ] at hD8
    have hD9 : ∀ (wk_ : World) (A5_ : Nat) (A15_ : Nat), w5.heap.size ≤ A5_ → w5.heap.size ≤ A15_ → A5_ ≠ A15_ → Hid (Bx wk_ A15_ 34 #[.int .i64 0, .slice none 0 0, .int .i64 0, .slice none 0 0] ∧ Bx wk_ A5_ 52 #[.int .i64 xs, .int .i64 xt] ∧ Below w5.heap.size w5 wk_) → X_ 12 #[true, false, true, false, true, true, false, true, true, true, false, false, false, false, false, true, false, false, false, false] (Act.put (Act.put a0_ (some 52) (.slice (some ⟨A5_, 0, none⟩) 1 1)) (some 19) (.pointer (some ⟨A15_, 0, none⟩))) wk_ := by
      intro wk_ A5_ A15_ c0_ c1_ c2_ rel_
      subst hX_ ha0_
      have M := Lib.hid (And.intro rel_.out.1 (And.intro rel_.out.2.1 (And.intro rel_.out.2.2 (Goes.go Mb_.out rel_.out.2.2))))
      clear rel_
      have hH208 : (fun w' => w'.cell? ⟨w.heap.size, 0, none⟩ = some (.int .i64 xs) ∧ w'.cell? ⟨w.heap.size, 1, none⟩ = some (.int .i64 xt)) wk_ := ⟨(M.out.2.2.2.2.2.2.2.2.2.2.1).at.1 0, (M.out.2.2.2.2.2.2.2.2.2.2.1).at.1 1⟩
      (try simp only [Act.put, List.setIfInBounds_toArray, List.set_cons_zero, List.set_cons_succ])
      have lw_ := ((M.out.2.2.1)).size
      have l5_ := ((M.out.2.1)).lt
      have l15_ := ((M.out.1)).lt
      refine wpAnyH_ready (rs := [1, 16]) (by kernel_rfl) (by simp) ?_
      refine AllReadyH.cons at1 (fun K hK => ?_) ?_
      ·
        go_simp
        obtain ⟨w6, hv⟩ : ∃ w_ : World, w_ = (wk_.alloc (.cells #[] 52)) := ⟨_, rfl⟩
        rw [← hv]
        have ow6_ : A15_ < wk_.heap.size := ((M.out.1)).lt
        replace M := Lib.hid (And.intro (hv ▸ bx1 wk_ 52 #[]) (Goes.go M.out (hv ▸ below_alloc _ _ : Below wk_.heap.size wk_ w6)))
        clear hv
        refine hK.out _ _ (⟨(M.out.2.2.2.2.2.2.2.2.2.2.2.1).at.1 0, (M.out.2.2.2.2.2.2.2.2.2.2.2.1).at.1 1⟩) (fun hH209 => ?_)
        clear hK K hH208
        (try simp only [Act.put, List.setIfInBounds_toArray, List.set_cons_zero, List.set_cons_succ])
        exact at_node (by kernel_rfl) (hD15 w6 wk_.heap.size A5_ A15_ (by omega) (by omega) (by omega) (by omega) (by omega) (by omega) (Lib.hid ⟨(M.out.2.1), (M.out.2.2.1), (M.out.1), (M.out.2.2.2.1)⟩))
      refine AllReadyH.cons at16 (fun K hK => ?_) AllReadyH.nil
      go_simp
      obtain ⟨w6, hv⟩ : ∃ w_ : World, w_ = (wk_.alloc (.cells #[.int .i64 0, .slice none 0 0, .int .i64 0, .slice none 0 0] 34)) := ⟨_, rfl⟩
      rw [← hv]
      have ow6_ : A15_ < wk_.heap.size := ((M.out.1)).lt
      replace M := Lib.hid (And.intro (hv ▸ bx1 wk_ 34 #[.int .i64 0, .slice none 0 0, .int .i64 0, .slice none 0 0]) (Goes.go M.out (hv ▸ below_alloc _ _ : Below wk_.heap.size wk_ w6)))
      clear hv
      refine hK.out _ _ (⟨(M.out.2.2.2.2.2.2.2.2.2.2.2.1).at.1 0, (M.out.2.2.2.2.2.2.2.2.2.2.2.1).at.1 1⟩) (fun hH210 => ?_)
      clear hK K hH208
      (try simp only [Act.put, List.setIfInBounds_toArray, List.set_cons_zero, List.set_cons_succ])
      exact at_node (by kernel_rfl) (hD18 w6 A5_ A15_ wk_.heap.size (by omega) (by omega) (by omega) (by omega) (by omega) (by omega) (Lib.hid ⟨(M.out.1), (M.out.2.1), (M.out.2.2.1), (M.out.2.2.2.1)⟩))
    simp only [ha0_, Act.put, List.setIfInBounds_toArray, List.set_cons_zero, List.set_cons_succ] at hD9
    have hD10 : ∀ (wk_ : World) (A5_ : Nat) (A16_ : Nat), w5.heap.size ≤ A5_ → w5.heap.size ≤ A16_ → A5_ ≠ A16_ → Hid (Bx wk_ A16_ 34 #[.int .i64 0, .slice none 0 0, .int .i64 0, .slice none 0 0] ∧ Bx wk_ A5_ 52 #[.int .i64 xs, .int .i64 xt] ∧ Below w5.heap.size w5 wk_) → X_ 12 #[true, false, true, false, true, true, false, true, true, true, false, false, false, false, false, false, true, false, false, false] (Act.put (Act.put a0_ (some 52) (.slice (some ⟨A5_, 0, none⟩) 1 1)) (some 20) (.pointer (some ⟨A16_, 0, none⟩))) wk_ := by
      intro wk_ A5_ A16_ c0_ c1_ c2_ rel_
      subst hX_ ha0_
      have M := Lib.hid (And.intro rel_.out.1 (And.intro rel_.out.2.1 (And.intro rel_.out.2.2 (Goes.go Mb_.out rel_.out.2.2))))
      clear rel_
      have hH211 : (fun w' => w'.cell? ⟨w.heap.size, 0, none⟩ = some (.int .i64 xs) ∧ w'.cell? ⟨w.heap.size, 1, none⟩ = some (.int .i64 xt)) wk_ := ⟨(M.out.2.2.2.2.2.2.2.2.2.2.1).at.1 0, (M.out.2.2.2.2.2.2.2.2.2.2.1).at.1 1⟩
      (try simp only [Act.put, List.setIfInBounds_toArray, List.set_cons_zero, List.set_cons_succ])
      have lw_ := ((M.out.2.2.1)).size
      have l5_ := ((M.out.2.1)).lt
      have l16_ := ((M.out.1)).lt
      refine wpAnyH_ready (rs := [1, 15]) (by kernel_rfl) (by simp) ?_
      refine AllReadyH.cons at1 (fun K hK => ?_) ?_
      ·
        go_simp
        obtain ⟨w6, hv⟩ : ∃ w_ : World, w_ = (wk_.alloc (.cells #[] 52)) := ⟨_, rfl⟩
        rw [← hv]
        have ow6_ : A16_ < wk_.heap.size := ((M.out.1)).lt
        replace M := Lib.hid (And.intro (hv ▸ bx1 wk_ 52 #[]) (Goes.go M.out (hv ▸ below_alloc _ _ : Below wk_.heap.size wk_ w6)))
        clear hv
        refine hK.out _ _ (⟨(M.out.2.2.2.2.2.2.2.2.2.2.2.1).at.1 0, (M.out.2.2.2.2.2.2.2.2.2.2.2.1).at.1 1⟩) (fun hH212 => ?_)
        clear hK K hH211
        (try simp only [Act.put, List.setIfInBounds_toArray, List.set_cons_zero, List.set_cons_succ])
        exact at_node (by kernel_rfl) (hD16 w6 wk_.heap.size A5_ A16_ (by omega) (by omega) (by omega) (by omega) (by omega) (by omega) (Lib.hid ⟨(M.out.2.1), (M.out.2.2.1), (M.out.1), (M.out.2.2.2.1)⟩))
      refine AllReadyH.cons at15 (fun K hK => ?_) AllReadyH.nil
      go_simp
      obtain ⟨w6, hv⟩ : ∃ w_ : World, w_ = (wk_.alloc (.cells #[.int .i64 0, .slice none 0 0, .int .i64 0, .slice none 0 0] 34)) := ⟨_, rfl⟩
      rw [← hv]
      have ow6_ : A16_ < wk_.heap.size := ((M.out.1)).lt
      replace M := Lib.hid (And.intro (hv ▸ bx1 wk_ 34 #[.int .i64 0, .slice none 0 0, .int .i64 0, .slice none 0 0]) (Goes.go M.out (hv ▸ below_alloc _ _ : Below wk_.heap.size wk_ w6)))
      clear hv
      refine hK.out _ _ (⟨(M.out.2.2.2.2.2.2.2.2.2.2.2.1).at.1 0, (M.out.2.2.2.2.2.2.2.2.2.2.2.1).at.1 1⟩) (fun hH213 => ?_)
      clear hK K hH211
      (try simp only [Act.put, List.setIfInBounds_toArray, List.set_cons_zero, List.set_cons_succ])
      exact at_node (by kernel_rfl) (hD18 w6 A5_ wk_.heap.size A16_ (by omega) (by omega) (by omega) (by omega) (by omega) (by omega) (Lib.hid ⟨(M.out.2.1), (M.out.1), (M.out.2.2.1), (M.out.2.2.2.1)⟩))
    simp only [ha0_, Act.put, List.setIfInBounds_toArray, List.set_cons_zero, List.set_cons_succ] at hD10
    have hD11 : ∀ (wk_ : World) (A15_ : Nat) (A16_ : Nat), w5.heap.size ≤ A15_ → w5.heap.size ≤ A16_ → A15_ ≠ A16_ → Hid (Bx wk_ A16_ 34 #[.int .i64 0, .slice none 0 0, .int .i64 0, .slice none 0 0] ∧ Bx wk_ A15_ 34 #[.int .i64 0, .slice none 0 0, .int .i64 0, .slice none 0 0] ∧ Below w5.heap.size w5 wk_) → X_ 12 #[true, false, true, false, true, false, false, true, true, true, false, false, false, false, false, true, true, false, false, false] (Act.put (Act.put a0_ (some 19) (.pointer (some ⟨A15_, 0, none⟩))) (some 20) (.pointer (some ⟨A16_, 0, none⟩))) wk_ := by
      intro wk_ A15_ A16_ c0_ c1_ c2_ rel_
      subst hX_ ha0_
      have M := Lib.hid (And.intro rel_.out.1 (And.intro rel_.out.2.1 (And.intro rel_.out.2.2 (Goes.go Mb_.out rel_.out.2.2))))
      clear rel_
      have hH214 : (fun w' => w'.cell? ⟨w.heap.size, 0, none⟩ = some (.int .i64 xs) ∧ w'.cell? ⟨w.heap.size, 1, none⟩ = some (.int .i64 xt)) wk_ := ⟨(M.out.2.2.2.2.2.2.2.2.2.2.1).at.1 0, (M.out.2.2.2.2.2.2.2.2.2.2.1).at.1 1⟩
      (try simp only [Act.put, List.setIfInBounds_toArray, List.set_cons_zero, List.set_cons_succ])
      have lw_ := ((M.out.2.2.1)).size
      have l15_ := ((M.out.2.1)).lt
      have l16_ := ((M.out.1)).lt
      refine wpAnyH_ready (rs := [1, 5]) (by kernel_rfl) (by simp) ?_
      refine AllReadyH.cons at1 (fun K hK => ?_) ?_
      ·
        go_simp
        obtain ⟨w6, hv⟩ : ∃ w_ : World, w_ = (wk_.alloc (.cells #[] 52)) := ⟨_, rfl⟩
        rw [← hv]
        have ow6_ : A16_ < wk_.heap.size := ((M.out.1)).lt
        replace M := Lib.hid (And.intro (hv ▸ bx1 wk_ 52 #[]) (Goes.go M.out (hv ▸ below_alloc _ _ : Below wk_.heap.size wk_ w6)))
        clear hv
        refine hK.out _ _ (⟨(M.out.2.2.2.2.2.2.2.2.2.2.2.1).at.1 0, (M.out.2.2.2.2.2.2.2.2.2.2.2.1).at.1 1⟩) (fun hH215 => ?_)
        clear hK K hH214
        (try simp only [Act.put, List.setIfInBounds_toArray, List.set_cons_zero, List.set_cons_succ])
        exact at_node (by kernel_rfl) (hD17 w6 wk_.heap.size A15_ A16_ (by omega) (by omega) (by omega) (by omega) (by omega) (by omega) (Lib.hid ⟨(M.out.2.1), (M.out.2.2.1), (M.out.1), (M.out.2.2.2.1)⟩))
      refine AllReadyH.cons at5 (fun K hK => ?_) AllReadyH.nil
      go_simp
      obtain ⟨w6, hv⟩ : ∃ w_ : World, w_ = (wk_.alloc (.cells #[.int .i64 xs, .int .i64 xt] 52)) := ⟨_, rfl⟩
      rw [← hv]
      have ow6_ : A16_ < wk_.heap.size := ((M.out.1)).lt
      replace M := Lib.hid (And.intro (hv ▸ bx1 wk_ 52 #[.int .i64 xs, .int .i64 xt]) (Goes.go M.out (hv ▸ below_alloc _ _ : Below wk_.heap.size wk_ w6)))
      clear hv
      refine hK.out _ _ (⟨(M.out.2.2.2.2.2.2.2.2.2.2.2.1).at.1 0, (M.out.2.2.2.2.2.2.2.2.2.2.2.1).at.1 1⟩) (fun hH216 => ?_)
      clear hK K hH214
      (try simp only [Act.put, List.setIfInBounds_toArray, List.set_cons_zero, List.set_cons_succ])
      exact at_node (by kernel_rfl) (hD18 w6 wk_.heap.size A15_ A16_ (by omega) (by omega) (by omega) (by omega) (by omega) (by omega) (Lib.hid ⟨(M.out.2.1), (M.out.2.2.1), (M.out.1), (M.out.2.2.2.1)⟩))
    simp only [ha0_, Act.put, List.setIfInBounds_toArray, List.set_cons_zero, List.set_cons_succ] at hD11
    have hD1 : ∀ (wk_ : World) (A1_ : Nat), w5.heap.size ≤ A1_ → Hid (Bx wk_ A1_ 52 #[] ∧ Below w5.heap.size w5 wk_) → X_ 13 #[true, true, true, false, true, false, false, true, true, true, false, false, false, false, false, false, false, false, false, false] (Act.put a0_ (some 48) (.slice (some ⟨A1_, 0, none⟩) 0 0)) wk_ := by
      intro wk_ A1_ c0_ rel_
      subst hX_ ha0_
      have M := Lib.hid (And.intro rel_.out.1 (And.intro rel_.out.2 (Goes.go Mb_.out rel_.out.2)))
      clear rel_
      have hH217 : (fun w' => w'.cell? ⟨w.heap.size, 0, none⟩ = some (.int .i64 xs) ∧ w'.cell? ⟨w.heap.size, 1, none⟩ = some (.int .i64 xt)) wk_ := ⟨(M.out.2.2.2.2.2.2.2.2.2.1).at.1 0, (M.out.2.2.2.2.2.2.2.2.2.1).at.1 1⟩
      (try simp only [Act.put, List.setIfInBounds_toArray, List.set_cons_zero, List.set_cons_succ])
      have lw_ := ((M.out.2.1)).size
      have l1_ := ((M.out.1)).lt
      refine wpAnyH_ready (rs := [3, 5, 15, 16]) (by kernel_rfl) (by simp) ?_
      refine AllReadyH.cons at3 (fun K hK => ?_) ?_
      ·
        rw [if_pos (by rfl)]
        refine wp_copyK elemRecall (M.out.1) (by omega) (H2.out.keep (M.out.2.2.2.2.2.2.2.2.2.2)) rc_len rc_one (by omega) (by omega) rfl rfl rfl (fun v_218 w6 ho_ hg_ => ?_)
        have bb_ := below_only (M.out.2.1) hg_ (by omega) (M.out.2.1).size
        have M_ := Lib.hid (And.intro ho_ (And.intro bb_ (Goes.go Mb_.out bb_)))
        clear M
        have M := M_
        clear M_ ho_ hg_ bb_
        refine hK.out _ _ (⟨(M.out.2.2.2.2.2.2.2.2.2.1).at.1 0, (M.out.2.2.2.2.2.2.2.2.2.1).at.1 1⟩) (fun hH219 => ?_)
        clear hK K hH217
        (try simp only [Act.put, List.setIfInBounds_toArray, List.set_cons_zero, List.set_cons_succ])
        exact at_node (by kernel_rfl) (hD5 w6 A1_ v_218 (Lib.hid ⟨(M.out.1), (M.out.2.1)⟩))
      refine AllReadyH.cons at5 (fun K hK => ?_) ?_
      ·
        go_simp
        obtain ⟨w6, hv⟩ : ∃ w_ : World, w_ = (wk_.alloc (.cells #[.int .i64 xs, .int .i64 xt] 52)) := ⟨_, rfl⟩
        rw [← hv]
        have ow5_ : A1_ < wk_.heap.size := ((M.out.1)).lt
        replace M := Lib.hid (And.intro (hv ▸ bx1 wk_ 52 #[.int .i64 xs, .int .i64 xt]) (Goes.go M.out (hv ▸ below_alloc _ _ : Below wk_.heap.size wk_ w6)))
        clear hv
        refine hK.out _ _ (⟨(M.out.2.2.2.2.2.2.2.2.2.2.1).at.1 0, (M.out.2.2.2.2.2.2.2.2.2.2.1).at.1 1⟩) (fun hH220 => ?_)
        clear hK K hH217
        (try simp only [Act.put, List.setIfInBounds_toArray, List.set_cons_zero, List.set_cons_succ])
        exact at_node (by kernel_rfl) (hD6 w6 A1_ wk_.heap.size (by omega) (by omega) (by omega) (Lib.hid ⟨(M.out.1), (M.out.2.1), (M.out.2.2.1)⟩))
      refine AllReadyH.cons at15 (fun K hK => ?_) ?_
      ·
        go_simp
        obtain ⟨w6, hv⟩ : ∃ w_ : World, w_ = (wk_.alloc (.cells #[.int .i64 0, .slice none 0 0, .int .i64 0, .slice none 0 0] 34)) := ⟨_, rfl⟩
        rw [← hv]
        have ow5_ : A1_ < wk_.heap.size := ((M.out.1)).lt
        replace M := Lib.hid (And.intro (hv ▸ bx1 wk_ 34 #[.int .i64 0, .slice none 0 0, .int .i64 0, .slice none 0 0]) (Goes.go M.out (hv ▸ below_alloc _ _ : Below wk_.heap.size wk_ w6)))
        clear hv
        refine hK.out _ _ (⟨(M.out.2.2.2.2.2.2.2.2.2.2.1).at.1 0, (M.out.2.2.2.2.2.2.2.2.2.2.1).at.1 1⟩) (fun hH221 => ?_)
        clear hK K hH217
        (try simp only [Act.put, List.setIfInBounds_toArray, List.set_cons_zero, List.set_cons_succ])
        exact at_node (by kernel_rfl) (hD7 w6 A1_ wk_.heap.size (by omega) (by omega) (by omega) (Lib.hid ⟨(M.out.1), (M.out.2.1), (M.out.2.2.1)⟩))
      refine AllReadyH.cons at16 (fun K hK => ?_) AllReadyH.nil
      go_simp
      obtain ⟨w6, hv⟩ : ∃ w_ : World, w_ = (wk_.alloc (.cells #[.int .i64 0, .slice none 0 0, .int .i64 0, .slice none 0 0] 34)) := ⟨_, rfl⟩
      rw [← hv]
      have ow5_ : A1_ < wk_.heap.size := ((M.out.1)).lt
      replace M := Lib.hid (And.intro (hv ▸ bx1 wk_ 34 #[.int .i64 0, .slice none 0 0, .int .i64 0, .slice none 0 0]) (Goes.go M.out (hv ▸ below_alloc _ _ : Below wk_.heap.size wk_ w6)))
      clear hv
      refine hK.out _ _ (⟨(M.out.2.2.2.2.2.2.2.2.2.2.1).at.1 0, (M.out.2.2.2.2.2.2.2.2.2.2.1).at.1 1⟩) (fun hH222 => ?_)
      clear hK K hH217
      (try simp only [Act.put, List.setIfInBounds_toArray, List.set_cons_zero, List.set_cons_succ])
      exact at_node (by kernel_rfl) (hD8 w6 A1_ wk_.heap.size (by omega) (by omega) (by omega) (Lib.hid ⟨(M.out.1), (M.out.2.1), (M.out.2.2.1)⟩))
    simp only [ha0_, Act.put, List.setIfInBounds_toArray, List.set_cons_zero, List.set_cons_succ] at hD1
    have hD2 : ∀ (wk_ : World) (A5_ : Nat), w5.heap.size ≤ A5_ → Hid (Bx wk_ A5_ 52 #[.int .i64 xs, .int .i64 xt] ∧ Below w5.heap.size w5 wk_) → X_ 13 #[true, false, true, false, true, true, false, true, true, true, false, false, false, false, false, false, false, false, false, false] (Act.put a0_ (some 52) (.slice (some ⟨A5_, 0, none⟩) 1 1)) wk_ := by
      intro wk_ A5_ c0_ rel_
      subst hX_ ha0_
      have M := Lib.hid (And.intro rel_.out.1 (And.intro rel_.out.2 (Goes.go Mb_.out rel_.out.2)))
      clear rel_
      have hH223 : (fun w' => w'.cell? ⟨w.heap.size, 0, none⟩ = some (.int .i64 xs) ∧ w'.cell? ⟨w.heap.size, 1, none⟩ = some (.int .i64 xt)) wk_ := ⟨(M.out.2.2.2.2.2.2.2.2.2.1).at.1 0, (M.out.2.2.2.2.2.2.2.2.2.1).at.1 1⟩
      (try simp only [Act.put, List.setIfInBounds_toArray, List.set_cons_zero, List.set_cons_succ])
      have lw_ := ((M.out.2.1)).size
      have l5_ := ((M.out.1)).lt
      refine wpAnyH_ready (rs := [1, 15, 16]) (by kernel_rfl) (by simp) ?_
      refine AllReadyH.cons at1 (fun K hK => ?_) ?_
      ·
        go_simp
        obtain ⟨w6, hv⟩ : ∃ w_ : World, w_ = (wk_.alloc (.cells #[] 52)) := ⟨_, rfl⟩
        rw [← hv]
        have ow5_ : A5_ < wk_.heap.size := ((M.out.1)).lt
        replace M := Lib.hid (And.intro (hv ▸ bx1 wk_ 52 #[]) (Goes.go M.out (hv ▸ below_alloc _ _ : Below wk_.heap.size wk_ w6)))
        clear hv
        refine hK.out _ _ (⟨(M.out.2.2.2.2.2.2.2.2.2.2.1).at.1 0, (M.out.2.2.2.2.2.2.2.2.2.2.1).at.1 1⟩) (fun hH224 => ?_)
        clear hK K hH223
        (try simp only [Act.put, List.setIfInBounds_toArray, List.set_cons_zero, List.set_cons_succ])
        exact at_node (by kernel_rfl) (hD6 w6 wk_.heap.size A5_ (by omega) (by omega) (by omega) (Lib.hid ⟨(M.out.2.1), (M.out.1), (M.out.2.2.1)⟩))
      refine AllReadyH.cons at15 (fun K hK => ?_) ?_
      ·
        go_simp
        obtain ⟨w6, hv⟩ : ∃ w_ : World, w_ = (wk_.alloc (.cells #[.int .i64 0, .slice none 0 0, .int .i64 0, .slice none 0 0] 34)) := ⟨_, rfl⟩
        rw [← hv]
        have ow5_ : A5_ < wk_.heap.size := ((M.out.1)).lt
        replace M := Lib.hid (And.intro (hv ▸ bx1 wk_ 34 #[.int .i64 0, .slice none 0 0, .int .i64 0, .slice none 0 0]) (Goes.go M.out (hv ▸ below_alloc _ _ : Below wk_.heap.size wk_ w6)))
        clear hv
        refine hK.out _ _ (⟨(M.out.2.2.2.2.2.2.2.2.2.2.1).at.1 0, (M.out.2.2.2.2.2.2.2.2.2.2.1).at.1 1⟩) (fun hH225 => ?_)
        clear hK K hH223
        (try simp only [Act.put, List.setIfInBounds_toArray, List.set_cons_zero, List.set_cons_succ])
        exact at_node (by kernel_rfl) (hD9 w6 A5_ wk_.heap.size (by omega) (by omega) (by omega) (Lib.hid ⟨(M.out.1), (M.out.2.1), (M.out.2.2.1)⟩))
      refine AllReadyH.cons at16 (fun K hK => ?_) AllReadyH.nil
      go_simp
      obtain ⟨w6, hv⟩ : ∃ w_ : World, w_ = (wk_.alloc (.cells #[.int .i64 0, .slice none 0 0, .int .i64 0, .slice none 0 0] 34)) := ⟨_, rfl⟩
      rw [← hv]
      have ow5_ : A5_ < wk_.heap.size := ((M.out.1)).lt
      replace M := Lib.hid (And.intro (hv ▸ bx1 wk_ 34 #[.int .i64 0, .slice none 0 0, .int .i64 0, .slice none 0 0]) (Goes.go M.out (hv ▸ below_alloc _ _ : Below wk_.heap.size wk_ w6)))
      clear hv
      refine hK.out _ _ (⟨(M.out.2.2.2.2.2.2.2.2.2.2.1).at.1 0, (M.out.2.2.2.2.2.2.2.2.2.2.1).at.1 1⟩) (fun hH226 => ?_)
      clear hK K hH223
      (try simp only [Act.put, List.setIfInBounds_toArray, List.set_cons_zero, List.set_cons_succ])
      exact at_node (by kernel_rfl) (hD10 w6 A5_ wk_.heap.size (by omega) (by omega) (by omega) (Lib.hid ⟨(M.out.1), (M.out.2.1), (M.out.2.2.1)⟩))
    simp only [ha0_, Act.put, List.setIfInBounds_toArray, List.set_cons_zero, List.set_cons_succ] at hD2
    have hD3 : ∀ (wk_ : World) (A15_ : Nat), w5.heap.size ≤ A15_ → Hid (Bx wk_ A15_ 34 #[.int .i64 0, .slice none 0 0, .int .i64 0, .slice none 0 0] ∧ Below w5.heap.size w5 wk_) → X_ 13 #[true, false, true, false, true, false, false, true, true, true, false, false, false, false, false, true, false, false, false, false] (Act.put a0_ (some 19) (.pointer (some ⟨A15_, 0, none⟩))) wk_ := by
      intro wk_ A15_ c0_ rel_
      subst hX_ ha0_
      have M := Lib.hid (And.intro rel_.out.1 (And.intro rel_.out.2 (Goes.go Mb_.out rel_.out.2)))
      clear rel_
      have hH227 : (fun w' => w'.cell? ⟨w.heap.size, 0, none⟩ = some (.int .i64 xs) ∧ w'.cell? ⟨w.heap.size, 1, none⟩ = some (.int .i64 xt)) wk_ := ⟨(M.out.2.2.2.2.2.2.2.2.2.1).at.1 0, (M.out.2.2.2.2.2.2.2.2.2.1).at.1 1⟩
      (try simp only [Act.put, List.setIfInBounds_toArray, List.set_cons_zero, List.set_cons_succ])
      have lw_ := ((M.out.2.1)).size
      have l15_ := ((M.out.1)).lt
      refine wpAnyH_ready (rs := [1, 5, 16]) (by kernel_rfl) (by simp) ?_
      refine AllReadyH.cons at1 (fun K hK => ?_) ?_
      ·
        go_simp
        obtain ⟨w6, hv⟩ : ∃ w_ : World, w_ = (wk_.alloc (.cells #[] 52)) := ⟨_, rfl⟩
        rw [← hv]
        have ow5_ : A15_ < wk_.heap.size := ((M.out.1)).lt
        replace M := Lib.hid (And.intro (hv ▸ bx1 wk_ 52 #[]) (Goes.go M.out (hv ▸ below_alloc _ _ : Below wk_.heap.size wk_ w6)))
        clear hv
        refine hK.out _ _ (⟨(M.out.2.2.2.2.2.2.2.2.2.2.1).at.1 0, (M.out.2.2.2.2.2.2.2.2.2.2.1).at.1 1⟩) (fun hH228 => ?_)
        clear hK K hH227
        (try simp only [Act.put, List.setIfInBounds_toArray, List.set_cons_zero, List.set_cons_succ])
        exact at_node (by kernel_rfl) (hD7 w6 wk_.heap.size A15_ (by omega) (by omega) (by omega) (Lib.hid ⟨(M.out.2.1), (M.out.1), (M.out.2.2.1)⟩))
      refine AllReadyH.cons at5 (fun K hK => ?_) ?_
      ·
        go_simp
        obtain ⟨w6, hv⟩ : ∃ w_ : World, w_ = (wk_.alloc (.cells #[.int .i64 xs, .int .i64 xt] 52)) := ⟨_, rfl⟩
        rw [← hv]
        have ow5_ : A15_ < wk_.heap.size := ((M.out.1)).lt
        replace M := Lib.hid (And.intro (hv ▸ bx1 wk_ 52 #[.int .i64 xs, .int .i64 xt]) (Goes.go M.out (hv ▸ below_alloc _ _ : Below wk_.heap.size wk_ w6)))
        clear hv
        refine hK.out _ _ (⟨(M.out.2.2.2.2.2.2.2.2.2.2.1).at.1 0, (M.out.2.2.2.2.2.2.2.2.2.2.1).at.1 1⟩) (fun hH229 => ?_)
        clear hK K hH227
        (try simp only [Act.put, List.setIfInBounds_toArray, List.set_cons_zero, List.set_cons_succ])
        exact at_node (by kernel_rfl) (hD9 w6 wk_.heap.size A15_ (by omega) (by omega) (by omega) (Lib.hid ⟨(M.out.2.1), (M.out.1), (M.out.2.2.1)⟩))
      refine AllReadyH.cons at16 (fun K hK => ?_) AllReadyH.nil
      go_simp
      obtain ⟨w6, hv⟩ : ∃ w_ : World, w_ = (wk_.alloc (.cells #[.int .i64 0, .slice none 0 0, .int .i64 0, .slice none 0 0] 34)) := ⟨_, rfl⟩
      rw [← hv]
      have ow5_ : A15_ < wk_.heap.size := ((M.out.1)).lt
      replace M := Lib.hid (And.intro (hv ▸ bx1 wk_ 34 #[.int .i64 0, .slice none 0 0, .int .i64 0, .slice none 0 0]) (Goes.go M.out (hv ▸ below_alloc _ _ : Below wk_.heap.size wk_ w6)))
      clear hv
      refine hK.out _ _ (⟨(M.out.2.2.2.2.2.2.2.2.2.2.1).at.1 0, (M.out.2.2.2.2.2.2.2.2.2.2.1).at.1 1⟩) (fun hH230 => ?_)
      clear hK K hH227
      (try simp only [Act.put, List.setIfInBounds_toArray, List.set_cons_zero, List.set_cons_succ])
      exact at_node (by kernel_rfl) (hD11 w6 A15_ wk_.heap.size (by omega) (by omega) (by omega) (Lib.hid ⟨(M.out.1), (M.out.2.1), (M.out.2.2.1)⟩))
    simp only [ha0_, Act.put, List.setIfInBounds_toArray, List.set_cons_zero, List.set_cons_succ] at hD3
    have hD4 : ∀ (wk_ : World) (A16_ : Nat), w5.heap.size ≤ A16_ → Hid (Bx wk_ A16_ 34 #[.int .i64 0, .slice none 0 0, .int .i64 0, .slice none 0 0] ∧ Below w5.heap.size w5 wk_) → X_ 13 #[true, false, true, false, true, false, false, true, true, true, false, false, false, false, false, false, true, false, false, false] (Act.put a0_ (some 20) (.pointer (some ⟨A16_, 0, none⟩))) wk_ := by
      intro wk_ A16_ c0_ rel_
      subst hX_ ha0_
      have M := Lib.hid (And.intro rel_.out.1 (And.intro rel_.out.2 (Goes.go Mb_.out rel_.out.2)))
      clear rel_
      have hH231 : (fun w' => w'.cell? ⟨w.heap.size, 0, none⟩ = some (.int .i64 xs) ∧ w'.cell? ⟨w.heap.size, 1, none⟩ = some (.int .i64 xt)) wk_ := ⟨(M.out.2.2.2.2.2.2.2.2.2.1).at.1 0, (M.out.2.2.2.2.2.2.2.2.2.1).at.1 1⟩
      (try simp only [Act.put, List.setIfInBounds_toArray, List.set_cons_zero, List.set_cons_succ])
      have lw_ := ((M.out.2.1)).size
      have l16_ := ((M.out.1)).lt
      refine wpAnyH_ready (rs := [1, 5, 15]) (by kernel_rfl) (by simp) ?_
      refine AllReadyH.cons at1 (fun K hK => ?_) ?_
      ·
        go_simp
        obtain ⟨w6, hv⟩ : ∃ w_ : World, w_ = (wk_.alloc (.cells #[] 52)) := ⟨_, rfl⟩
        rw [← hv]
        have ow5_ : A16_ < wk_.heap.size := ((M.out.1)).lt
        replace M := Lib.hid (And.intro (hv ▸ bx1 wk_ 52 #[]) (Goes.go M.out (hv ▸ below_alloc _ _ : Below wk_.heap.size wk_ w6)))
        clear hv
        refine hK.out _ _ (⟨(M.out.2.2.2.2.2.2.2.2.2.2.1).at.1 0, (M.out.2.2.2.2.2.2.2.2.2.2.1).at.1 1⟩) (fun hH232 => ?_)
        clear hK K hH231
        (try simp only [Act.put, List.setIfInBounds_toArray, List.set_cons_zero, List.set_cons_succ])
        exact at_node (by kernel_rfl) (hD8 w6 wk_.heap.size A16_ (by omega) (by omega) (by omega) (Lib.hid ⟨(M.out.2.1), (M.out.1), (M.out.2.2.1)⟩))
      refine AllReadyH.cons at5 (fun K hK => ?_) ?_
      ·
        go_simp
        obtain ⟨w6, hv⟩ : ∃ w_ : World, w_ = (wk_.alloc (.cells #[.int .i64 xs, .int .i64 xt] 52)) := ⟨_, rfl⟩
        rw [← hv]
        have ow5_ : A16_ < wk_.heap.size := ((M.out.1)).lt
        replace M := Lib.hid (And.intro (hv ▸ bx1 wk_ 52 #[.int .i64 xs, .int .i64 xt]) (Goes.go M.out (hv ▸ below_alloc _ _ : Below wk_.heap.size wk_ w6)))
        clear hv
        refine hK.out _ _ (⟨(M.out.2.2.2.2.2.2.2.2.2.2.1).at.1 0, (M.out.2.2.2.2.2.2.2.2.2.2.1).at.1 1⟩) (fun hH233 => ?_)
        clear hK K hH231
        (try simp only [Act.put, List.setIfInBounds_toArray, List.set_cons_zero, List.set_cons_succ])
        exact at_node (by kernel_rfl) (hD10 w6 wk_.heap.size A16_ (by omega) (by omega) (by omega) (Lib.hid ⟨(M.out.2.1), (M.out.1), (M.out.2.2.1)⟩))
      refine AllReadyH.cons at15 (fun K hK => ?_) AllReadyH.nil
      go_simp
      obtain ⟨w6, hv⟩ : ∃ w_ : World, w_ = (wk_.alloc (.cells #[.int .i64 0, .slice none 0 0, .int .i64 0, .slice none 0 0] 34)) := ⟨_, rfl⟩
      rw [← hv]
      have ow5_ : A16_ < wk_.heap.size := ((M.out.1)).lt
      replace M := Lib.hid (And.intro (hv ▸ bx1 wk_ 34 #[.int .i64 0, .slice none 0 0, .int .i64 0, .slice none 0 0]) (Goes.go M.out (hv ▸ below_alloc _ _ : Below wk_.heap.size wk_ w6)))
      clear hv
      refine hK.out _ _ (⟨(M.out.2.2.2.2.2.2.2.2.2.2.1).at.1 0, (M.out.2.2.2.2.2.2.2.2.2.2.1).at.1 1⟩) (fun hH234 => ?_)
      clear hK K hH231
      (try simp only [Act.put, List.setIfInBounds_toArray, List.set_cons_zero, List.set_cons_succ])
      exact at_node (by kernel_rfl) (hD11 w6 wk_.heap.size A16_ (by omega) (by omega) (by omega) (Lib.hid ⟨(M.out.2.1), (M.out.1), (M.out.2.2.1)⟩))
    simp only [ha0_, Act.put, List.setIfInBounds_toArray, List.set_cons_zero, List.set_cons_succ] at hD4
    have hD0 : ∀ (wk_ : World) , Hid (Below w5.heap.size w5 wk_) → X_ 14 #[true, false, true, false, true, false, false, true, true, true, false, false, false, false, false, false, false, false, false, false] a0_ wk_ := by
      intro wk_ rel_
      subst hX_ ha0_
      have M := Lib.hid (And.intro rel_.out (Goes.go Mb_.out rel_.out))
      clear rel_
      have hH235 : (fun w' => w'.cell? ⟨w.heap.size, 0, none⟩ = some (.int .i64 xs) ∧ w'.cell? ⟨w.heap.size, 1, none⟩ = some (.int .i64 xt)) wk_ := ⟨(M.out.2.2.2.2.2.2.2.2.1).at.1 0, (M.out.2.2.2.2.2.2.2.2.1).at.1 1⟩
      (try simp only [Act.put, List.setIfInBounds_toArray, List.set_cons_zero, List.set_cons_succ])
      have lw_ := ((M.out.1)).size
      refine wpAnyH_ready (rs := [1, 5, 15, 16]) (by kernel_rfl) (by simp) ?_
      refine AllReadyH.cons at1 (fun K hK => ?_) ?_
      ·
        go_simp
        obtain ⟨w6, hv⟩ : ∃ w_ : World, w_ = (wk_.alloc (.cells #[] 52)) := ⟨_, rfl⟩
        rw [← hv]
        have ow4_ : w3.heap.size + 1 < wk_.heap.size := ((M.out.2.1)).lt
        replace M := Lib.hid (And.intro (hv ▸ bx1 wk_ 52 #[]) (Goes.go M.out (hv ▸ below_alloc _ _ : Below wk_.heap.size wk_ w6)))
        clear hv
        refine hK.out _ _ (⟨(M.out.2.2.2.2.2.2.2.2.2.1).at.1 0, (M.out.2.2.2.2.2.2.2.2.2.1).at.1 1⟩) (fun hH236 => ?_)
        clear hK K hH235
        (try simp only [Act.put, List.setIfInBounds_toArray, List.set_cons_zero, List.set_cons_succ])
        exact at_node (by kernel_rfl) (hD1 w6 wk_.heap.size (by omega) (Lib.hid ⟨(M.out.1), (M.out.2.1)⟩))
      refine AllReadyH.cons at5 (fun K hK => ?_) ?_
      ·
        go_simp
        obtain ⟨w6, hv⟩ : ∃ w_ : World, w_ = (wk_.alloc (.cells #[.int .i64 xs, .int .i64 xt] 52)) := ⟨_, rfl⟩
        rw [← hv]
        have ow4_ : w3.heap.size + 1 < wk_.heap.size := ((M.out.2.1)).lt
        replace M := Lib.hid (And.intro (hv ▸ bx1 wk_ 52 #[.int .i64 xs, .int .i64 xt]) (Goes.go M.out (hv ▸ below_alloc _ _ : Below wk_.heap.size wk_ w6)))
        clear hv
        refine hK.out _ _ (⟨(M.out.2.2.2.2.2.2.2.2.2.1).at.1 0, (M.out.2.2.2.2.2.2.2.2.2.1).at.1 1⟩) (fun hH237 => ?_)
        clear hK K hH235
        (try simp only [Act.put, List.setIfInBounds_toArray, List.set_cons_zero, List.set_cons_succ])
        exact at_node (by kernel_rfl) (hD2 w6 wk_.heap.size (by omega) (Lib.hid ⟨(M.out.1), (M.out.2.1)⟩))
      refine AllReadyH.cons at15 (fun K hK => ?_) ?_
      ·
        go_simp
        obtain ⟨w6, hv⟩ : ∃ w_ : World, w_ = (wk_.alloc (.cells #[.int .i64 0, .slice none 0 0, .int .i64 0, .slice none 0 0] 34)) := ⟨_, rfl⟩
        rw [← hv]
        have ow4_ : w3.heap.size + 1 < wk_.heap.size := ((M.out.2.1)).lt
        replace M := Lib.hid (And.intro (hv ▸ bx1 wk_ 34 #[.int .i64 0, .slice none 0 0, .int .i64 0, .slice none 0 0]) (Goes.go M.out (hv ▸ below_alloc _ _ : Below wk_.heap.size wk_ w6)))
        clear hv
        refine hK.out _ _ (⟨(M.out.2.2.2.2.2.2.2.2.2.1).at.1 0, (M.out.2.2.2.2.2.2.2.2.2.1).at.1 1⟩) (fun hH238 => ?_)
        clear hK K hH235
        (try simp only [Act.put, List.setIfInBounds_toArray, List.set_cons_zero, List.set_cons_succ])
        exact at_node (by kernel_rfl) (hD3 w6 wk_.heap.size (by omega) (Lib.hid ⟨(M.out.1), (M.out.2.1)⟩))
      refine AllReadyH.cons at16 (fun K hK => ?_) AllReadyH.nil
      go_simp
      obtain ⟨w6, hv⟩ : ∃ w_ : World, w_ = (wk_.alloc (.cells #[.int .i64 0, .slice none 0 0, .int .i64 0, .slice none 0 0] 34)) := ⟨_, rfl⟩
      rw [← hv]
      have ow4_ : w3.heap.size + 1 < wk_.heap.size := ((M.out.2.1)).lt
      replace M := Lib.hid (And.intro (hv ▸ bx1 wk_ 34 #[.int .i64 0, .slice none 0 0, .int .i64 0, .slice none 0 0]) (Goes.go M.out (hv ▸ below_alloc _ _ : Below wk_.heap.size wk_ w6)))
      clear hv
      refine hK.out _ _ (⟨(M.out.2.2.2.2.2.2.2.2.2.1).at.1 0, (M.out.2.2.2.2.2.2.2.2.2.1).at.1 1⟩) (fun hH239 => ?_)
      clear hK K hH235
      (try simp only [Act.put, List.setIfInBounds_toArray, List.set_cons_zero, List.set_cons_succ])
      exact at_node (by kernel_rfl) (hD4 w6 wk_.heap.size (by omega) (Lib.hid ⟨(M.out.1), (M.out.2.1)⟩))
    simp only [ha0_, Act.put, List.setIfInBounds_toArray, List.set_cons_zero, List.set_cons_succ] at hD0
    subst hX_ ha0_
    exact at_node (by kernel_rfl) (hD0 w5 (Lib.hid (Below.refl _ _)))
  case rest =>
    obtain ⟨A33, A34, a_17, c_18, b_19, d_20, a_21, c_22, b_23, d_24, z25, z26, z27, z28, rfl, rfl, rfl, Ez25, Ez26, Ez27, Ez28, Sz25, Sz26, Sz27, Sz28, oA33, oA34, M⟩ := hcut
    obtain ⟨w5, rfl⟩ : ∃ w_ : World, w_ = wc := ⟨_, rfl⟩
    cases b1 with
    | false =>
      cases ib with
      | false =>
        cases ic with
        | false =>
          have y0 := (M.out.2.2.2.2.2.2.2.2.2.2.1).d2; have p0_0 := y0.1; have p0_1 := y0.2; clear y0
          have y2 := (M.out.2.2.2.2.2.2.2.2.2.2.2.2.1).d4; have p2_0 := y2.1; have p2_1 := y2.2.1; have p2_2 := y2.2.2.1; have p2_3 := y2.2.2.2; clear y2
          have y6 := (M.out.1).d4; have p6_0 := y6.1; have p6_1 := y6.2.1; have p6_2 := y6.2.2.1; have p6_3 := y6.2.2.2; clear y6
          go_wp2_with fail
          clear p0_0 p0_1 p2_0 p2_1 p2_2 p2_3 p6_0 p6_1 p6_2 p6_3
          refine (rfsame_two (G := G) (x := z9) (y := z10) (u := z25) (v := z26) (M.out.2.2.2.2.2.2.1) (M.out.2.2.2.2.2.2.2.1) (M.out.2.2.1) (M.out.2.2.2.1) (Sz.mono Sz9.out (by omega)) (Sz.mono Sz10.out (by omega)) (by first | rw [Ez9.out, Ez25.out]; unfold loO; rw [HNO.out (by simp)] | rw [Ez9.out, Ez25.out]; unfold hiO; rw [HNO.out (by simp)]) (by first | rw [Ez10.out, Ez26.out]; unfold loO; rw [HNO.out (by simp)] | rw [Ez10.out, Ez26.out]; unfold hiO; rw [HNO.out (by simp)])).mono ?_
          rintro e w6 ⟨rfl, hb⟩
          replace M := Lib.hid (Goes.go M.out hb)
          clear hb
          have y3 := (M.out.2.2.2.2.2.2.2.2.2.2.2.2.2.1).d4; have p3_0 := y3.1; have p3_1 := y3.2.1; have p3_2 := y3.2.2.1; have p3_3 := y3.2.2.2; clear y3
          have y7 := (M.out.2.1).d4; have p7_0 := y7.1; have p7_1 := y7.2.1; have p7_2 := y7.2.2.1; have p7_3 := y7.2.2.2; clear y7
          go_wp2_with fail
          clear p3_0 p3_1 p3_2 p3_3 p7_0 p7_1 p7_2 p7_3
          replace M := Lib.hid (And.intro (M.out.2.2.2.2.1) (And.intro (M.out.2.2.2.2.2.1) (And.intro (M.out.2.2.2.2.2.2.2.2.1) (And.intro (M.out.2.2.2.2.2.2.2.2.2.1) (And.intro (M.out.2.2.2.2.2.2.2.2.2.2.2.1) (M.out.2.2.2.2.2.2.2.2.2.2.2.2.2.2))))))
          refine (rfsame_two (G := G) (x := z11) (y := z12) (u := z27) (v := z28) (M.out.2.2.1) (M.out.2.2.2.1) (M.out.1) (M.out.2.1) (Sz.mono Sz11.out (by omega)) (Sz.mono Sz12.out (by omega)) (by first | rw [Ez11.out, Ez27.out]; unfold loO; rw [HNO.out (by simp)] | rw [Ez11.out, Ez27.out]; unfold hiO; rw [HNO.out (by simp)]) (by first | rw [Ez12.out, Ez28.out]; unfold loO; rw [HNO.out (by simp)] | rw [Ez12.out, Ez28.out]; unfold hiO; rw [HNO.out (by simp)])).mono ?_
          rintro e w7 ⟨rfl, hb⟩
          replace M := Lib.hid (Goes.go M.out hb)
          clear hb
          go_upto_region 11 with fail
          replace M := Lib.hid (And.intro (M.out.2.2.2.2.1) (M.out.2.2.2.2.2))
          rename_i Kst_ hst_
          exact recalls_s11 (c0 := c0) hG hl hm HRL HCL2 HIB HIC HR2 HC2 HQB hb1 hb1e hb2 hd1 hd2 HY HNO ek0 ek1 H1 H2 (by omega) M Kst_ hst_
        | true =>
          have y0 := (M.out.2.2.2.2.2.2.2.2.2.2.1).d2; have p0_0 := y0.1; have p0_1 := y0.2; clear y0
          go_wp2_with fail
          clear p0_0 p0_1
          exact absurd ((HIC.out.symm.trans (by unfold hasI; rw [HNO.out (by simp)])).trans HIB.out) (by decide)
      | true =>
        cases ic with
        | false =>
          have y0 := (M.out.2.2.2.2.2.2.2.2.2.2.1).d2; have p0_0 := y0.1; have p0_1 := y0.2; clear y0
          go_wp2_with fail
          clear p0_0 p0_1
          exact absurd ((HIC.out.symm.trans (by unfold hasI; rw [HNO.out (by simp)])).trans HIB.out) (by decide)
        | true =>
          have y0 := (M.out.2.2.2.2.2.2.2.2.2.2.1).d2; have p0_0 := y0.1; have p0_1 := y0.2; clear y0
          have y2 := (M.out.2.2.2.2.2.2.2.2.2.2.2.2.1).d4; have p2_0 := y2.1; have p2_1 := y2.2.1; have p2_2 := y2.2.2.1; have p2_3 := y2.2.2.2; clear y2
          have y6 := (M.out.1).d4; have p6_0 := y6.1; have p6_1 := y6.2.1; have p6_2 := y6.2.2.1; have p6_3 := y6.2.2.2; clear y6
          go_wp2_with fail
          clear p0_0 p0_1 p2_0 p2_1 p2_2 p2_3 p6_0 p6_1 p6_2 p6_3
          refine (rfsame_two (G := G) (x := z9) (y := z10) (u := z25) (v := z26) (M.out.2.2.2.2.2.2.1) (M.out.2.2.2.2.2.2.2.1) (M.out.2.2.1) (M.out.2.2.2.1) (Sz.mono Sz9.out (by omega)) (Sz.mono Sz10.out (by omega)) (by first | rw [Ez9.out, Ez25.out]; unfold loO; rw [HNO.out (by simp)] | rw [Ez9.out, Ez25.out]; unfold hiO; rw [HNO.out (by simp)]) (by first | rw [Ez10.out, Ez26.out]; unfold loO; rw [HNO.out (by simp)] | rw [Ez10.out, Ez26.out]; unfold hiO; rw [HNO.out (by simp)])).mono ?_
          rintro e w6 ⟨rfl, hb⟩
          replace M := Lib.hid (Goes.go M.out hb)
          clear hb
          have y3 := (M.out.2.2.2.2.2.2.2.2.2.2.2.2.2.1).d4; have p3_0 := y3.1; have p3_1 := y3.2.1; have p3_2 := y3.2.2.1; have p3_3 := y3.2.2.2; clear y3
          have y7 := (M.out.2.1).d4; have p7_0 := y7.1; have p7_1 := y7.2.1; have p7_2 := y7.2.2.1; have p7_3 := y7.2.2.2; clear y7
          go_wp2_with fail
          clear p3_0 p3_1 p3_2 p3_3 p7_0 p7_1 p7_2 p7_3
          replace M := Lib.hid (And.intro (M.out.2.2.2.2.1) (And.intro (M.out.2.2.2.2.2.1) (And.intro (M.out.2.2.2.2.2.2.2.2.1) (And.intro (M.out.2.2.2.2.2.2.2.2.2.1) (And.intro (M.out.2.2.2.2.2.2.2.2.2.2.2.1) (M.out.2.2.2.2.2.2.2.2.2.2.2.2.2.2))))))
          refine (rfsame_two (G := G) (x := z11) (y := z12) (u := z27) (v := z28) (M.out.2.2.1) (M.out.2.2.2.1) (M.out.1) (M.out.2.1) (Sz.mono Sz11.out (by omega)) (Sz.mono Sz12.out (by omega)) (by first | rw [Ez11.out, Ez27.out]; unfold loO; rw [HNO.out (by simp)] | rw [Ez11.out, Ez27.out]; unfold hiO; rw [HNO.out (by simp)]) (by first | rw [Ez12.out, Ez28.out]; unfold loO; rw [HNO.out (by simp)] | rw [Ez12.out, Ez28.out]; unfold hiO; rw [HNO.out (by simp)])).mono ?_
          rintro e w7 ⟨rfl, hb⟩
          replace M := Lib.hid (Goes.go M.out hb)
          clear hb
          go_upto_region 11 with fail
          replace M := Lib.hid (And.intro (M.out.2.2.2.2.1) (M.out.2.2.2.2.2))
          rename_i Kst_ hst_
          exact recalls_s11 (c0 := c0) hG hl hm HRL HCL2 HIB HIC HR2 HC2 HQB hb1 hb1e hb2 hd1 hd2 HY HNO ek0 ek1 H1 H2 (by omega) M Kst_ hst_
    | true =>
      cases b2 with
      | false =>
        cases ib with
        | false =>
          cases ic with
          | false =>
            have y0 := (M.out.2.2.2.2.2.2.2.2.2.2.1).d2; have p0_0 := y0.1; have p0_1 := y0.2; clear y0
            have y2 := (M.out.2.2.2.2.2.2.2.2.2.2.2.2.1).d4; have p2_0 := y2.1; have p2_1 := y2.2.1; have p2_2 := y2.2.2.1; have p2_3 := y2.2.2.2; clear y2
            have y6 := (M.out.1).d4; have p6_0 := y6.1; have p6_1 := y6.2.1; have p6_2 := y6.2.2.1; have p6_3 := y6.2.2.2; clear y6
            go_wp2_with fail
            clear p0_0 p0_1 p2_0 p2_1 p2_2 p2_3 p6_0 p6_1 p6_2 p6_3
            refine (rfsame_two (G := G) (x := z9) (y := z10) (u := z25) (v := z26) (M.out.2.2.2.2.2.2.1) (M.out.2.2.2.2.2.2.2.1) (M.out.2.2.1) (M.out.2.2.2.1) (Sz.mono Sz9.out (by omega)) (Sz.mono Sz10.out (by omega)) (by first | rw [Ez9.out, Ez25.out]; unfold loO; rw [HNO.out (by simp)] | rw [Ez9.out, Ez25.out]; unfold hiO; rw [HNO.out (by simp)]) (by first | rw [Ez10.out, Ez26.out]; unfold loO; rw [HNO.out (by simp)] | rw [Ez10.out, Ez26.out]; unfold hiO; rw [HNO.out (by simp)])).mono ?_
            rintro e w6 ⟨rfl, hb⟩
            replace M := Lib.hid (Goes.go M.out hb)
            clear hb
            have y3 := (M.out.2.2.2.2.2.2.2.2.2.2.2.2.2.1).d4; have p3_0 := y3.1; have p3_1 := y3.2.1; have p3_2 := y3.2.2.1; have p3_3 := y3.2.2.2; clear y3
            have y7 := (M.out.2.1).d4; have p7_0 := y7.1; have p7_1 := y7.2.1; have p7_2 := y7.2.2.1; have p7_3 := y7.2.2.2; clear y7
            go_wp2_with fail
            clear p3_0 p3_1 p3_2 p3_3 p7_0 p7_1 p7_2 p7_3
            replace M := Lib.hid (And.intro (M.out.2.2.2.2.1) (And.intro (M.out.2.2.2.2.2.1) (And.intro (M.out.2.2.2.2.2.2.2.2.1) (And.intro (M.out.2.2.2.2.2.2.2.2.2.1) (And.intro (M.out.2.2.2.2.2.2.2.2.2.2.2.1) (M.out.2.2.2.2.2.2.2.2.2.2.2.2.2.2))))))
            refine (rfsame_two (G := G) (x := z11) (y := z12) (u := z27) (v := z28) (M.out.2.2.1) (M.out.2.2.2.1) (M.out.1) (M.out.2.1) (Sz.mono Sz11.out (by omega)) (Sz.mono Sz12.out (by omega)) (by first | rw [Ez11.out, Ez27.out]; unfold loO; rw [HNO.out (by simp)] | rw [Ez11.out, Ez27.out]; unfold hiO; rw [HNO.out (by simp)]) (by first | rw [Ez12.out, Ez28.out]; unfold loO; rw [HNO.out (by simp)] | rw [Ez12.out, Ez28.out]; unfold hiO; rw [HNO.out (by simp)])).mono ?_
            rintro e w7 ⟨rfl, hb⟩
            replace M := Lib.hid (Goes.go M.out hb)
            clear hb
            go_upto_region 11 with fail
            replace M := Lib.hid (And.intro (M.out.2.2.2.2.1) (M.out.2.2.2.2.2))
            rename_i Kst_ hst_
            exact recalls_s11 (c0 := c0) hG hl hm HRL HCL2 HIB HIC HR2 HC2 HQB hb1 hb1e hb2 hd1 hd2 HY HNO ek0 ek1 H1 H2 (by omega) M Kst_ hst_
          | true =>
            have y0 := (M.out.2.2.2.2.2.2.2.2.2.2.1).d2; have p0_0 := y0.1; have p0_1 := y0.2; clear y0
            go_wp2_with fail
            clear p0_0 p0_1
            exact absurd ((HIC.out.symm.trans (by unfold hasI; rw [HNO.out (by simp)])).trans HIB.out) (by decide)
        | true =>
          cases ic with
          | false =>
            have y0 := (M.out.2.2.2.2.2.2.2.2.2.2.1).d2; have p0_0 := y0.1; have p0_1 := y0.2; clear y0
            go_wp2_with fail
            clear p0_0 p0_1
            exact absurd ((HIC.out.symm.trans (by unfold hasI; rw [HNO.out (by simp)])).trans HIB.out) (by decide)
          | true =>
            have y0 := (M.out.2.2.2.2.2.2.2.2.2.2.1).d2; have p0_0 := y0.1; have p0_1 := y0.2; clear y0
            have y2 := (M.out.2.2.2.2.2.2.2.2.2.2.2.2.1).d4; have p2_0 := y2.1; have p2_1 := y2.2.1; have p2_2 := y2.2.2.1; have p2_3 := y2.2.2.2; clear y2
            have y6 := (M.out.1).d4; have p6_0 := y6.1; have p6_1 := y6.2.1; have p6_2 := y6.2.2.1; have p6_3 := y6.2.2.2; clear y6
            go_wp2_with fail
            clear p0_0 p0_1 p2_0 p2_1 p2_2 p2_3 p6_0 p6_1 p6_2 p6_3
            refine (rfsame_two (G := G) (x := z9) (y := z10) (u := z25) (v := z26) (M.out.2.2.2.2.2.2.1) (M.out.2.2.2.2.2.2.2.1) (M.out.2.2.1) (M.out.2.2.2.1) (Sz.mono Sz9.out (by omega)) (Sz.mono Sz10.out (by omega)) (by first | rw [Ez9.out, Ez25.out]; unfold loO; rw [HNO.out (by simp)] | rw [Ez9.out, Ez25.out]; unfold hiO; rw [HNO.out (by simp)]) (by first | rw [Ez10.out, Ez26.out]; unfold loO; rw [HNO.out (by simp)] | rw [Ez10.out, Ez26.out]; unfold hiO; rw [HNO.out (by simp)])).mono ?_
            rintro e w6 ⟨rfl, hb⟩
            replace M := Lib.hid (Goes.go M.out hb)
            clear hb
            have y3 := (M.out.2.2.2.2.2.2.2.2.2.2.2.2.2.1).d4; have p3_0 := y3.1; have p3_1 := y3.2.1; have p3_2 := y3.2.2.1; have p3_3 := y3.2.2.2; clear y3
            have y7 := (M.out.2.1).d4; have p7_0 := y7.1; have p7_1 := y7.2.1; have p7_2 := y7.2.2.1; have p7_3 := y7.2.2.2; clear y7
            go_wp2_with fail
            clear p3_0 p3_1 p3_2 p3_3 p7_0 p7_1 p7_2 p7_3
            replace M := Lib.hid (And.intro (M.out.2.2.2.2.1) (And.intro (M.out.2.2.2.2.2.1) (And.intro (M.out.2.2.2.2.2.2.2.2.1) (And.intro (M.out.2.2.2.2.2.2.2.2.2.1) (And.intro (M.out.2.2.2.2.2.2.2.2.2.2.2.1) (M.out.2.2.2.2.2.2.2.2.2.2.2.2.2.2))))))
            refine (rfsame_two (G := G) (x := z11) (y := z12) (u := z27) (v := z28) (M.out.2.2.1) (M.out.2.2.2.1) (M.out.1) (M.out.2.1) (Sz.mono Sz11.out (by omega)) (Sz.mono Sz12.out (by omega)) (by first | rw [Ez11.out, Ez27.out]; unfold loO; rw [HNO.out (by simp)] | rw [Ez11.out, Ez27.out]; unfold hiO; rw [HNO.out (by simp)]) (by first | rw [Ez12.out, Ez28.out]; unfold loO; rw [HNO.out (by simp)] | rw [Ez12.out, Ez28.out]; unfold hiO; rw [HNO.out (by simp)])).mono ?_
            rintro e w7 ⟨rfl, hb⟩
            replace M := Lib.hid (Goes.go M.out hb)
            clear hb
            go_upto_region 11 with fail
            replace M := Lib.hid (And.intro (M.out.2.2.2.2.1) (M.out.2.2.2.2.2))
            rename_i Kst_ hst_
            exact recalls_s11 (c0 := c0) hG hl hm HRL HCL2 HIB HIC HR2 HC2 HQB hb1 hb1e hb2 hd1 hd2 HY HNO ek0 ek1 H1 H2 (by omega) M Kst_ hst_
      | true =>
        cases ic with
        | false =>
          have y0 := (M.out.2.2.2.2.2.2.2.2.2.2.1).d2; have p0_0 := y0.1; have p0_1 := y0.2; clear y0
          go_upto_region 11 with fail
          clear p0_0 p0_1
          replace M := Lib.hid (And.intro (M.out.2.2.2.2.2.2.2.2.2.2.2.1) (M.out.2.2.2.2.2.2.2.2.2.2.2.2.2.2))
          rename_i Kst_ hst_
          exact recalls_s11 (c0 := c0) hG hl hm HRL HCL2 HIB HIC HR2 HC2 HQB hb1 hb1e hb2 hd1 hd2 HY HNO ek0 ek1 H1 H2 (by omega) M Kst_ hst_
        | true =>
          have y0 := (M.out.2.2.2.2.2.2.2.2.2.2.1).d2; have p0_0 := y0.1; have p0_1 := y0.2; clear y0
          go_wp2_with fail
          clear p0_0 p0_1
          exact absurd ((HY.out rfl).symm.trans HIC.out) (by decide)
theorem recalls_walk {v1 v2 : Value} {cs : List Ct} {rs : List Rc} {sc rd day xs xt c0 cf cu cn cp cd : Int} {w : World} (h1 : CtIn w v1 cs) (h2 : RcIn w v2 rs) :
    Calls Try.prog 7 #[v1, v2, .int .i64 sc, .int .i64 rd, .int .i64 day, .agg #[.int .i64 xs, .int .i64 xt], .agg #[.int .i64 c0, .int .i64 cf, .int .i64 cu, .int .i64 cn, .int .i64 cp, .int .i64 cd]] w fun e w' => e = .returned (.bool true) ∧ Below w.heap.size w w' := by
  obtain ⟨a1, cap1, rfl⟩ := h1.shape
  obtain ⟨a2, cap2, rfl⟩ := h2.shape
  by_cases hl : 110 < cs.length
  · exact recalls_1 (G := 0) (Nat.zero_le _) h1 h2 hl
  by_cases hm : 50 < rs.length
  · exact recalls_2 (G := 0) (Nat.zero_le _) h1 h2 (by omega) hm
  have hy : ((decide (xs = sc)) && decide (xt ≤ day)) = recB sc day ⟨xs, xt⟩ := by unfold recB; by_cases h : xs = sc <;> simp [h]
  exact recalls (G := 0) (cs2 := cs ++ [⟨sc, cf, cu, cn, cp, cd⟩]) (rs2 := rs ++ [⟨xs, xt⟩]) (Nat.zero_le _) (by omega) (by omega) (Lib.hid (by simp)) (Lib.hid (by simp)) (Lib.hid rfl) (Lib.hid rfl) (Lib.hid rfl) (Lib.hid rfl) (Lib.hid rfl) rfl rfl rfl rfl rfl
    (Lib.hid fun h => has_rec (by rw [rec_snoc, ← hy, h, Bool.or_true])) (Lib.hid fun h => ivl_rec (by rw [rec_snoc, ← hy, h, Bool.or_false])) (decide_eq_false (by omega)) (decide_eq_false (by omega)) h1 h2
end Go.Proofs.Ytpjpkcelajbfnaa
