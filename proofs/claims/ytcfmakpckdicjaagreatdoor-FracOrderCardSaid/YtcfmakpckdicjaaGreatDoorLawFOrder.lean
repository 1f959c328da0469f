/- The walk of FracOrder: whatever the arguments, it returns true. -/
import Derived.Test.YtcfmakpckdicjaaGreatDoorLaw05a
import Derived.Test.YtcfmakpckdicjaaGreatDoorStage
namespace Go.Proofs.YtcfmakpckdicjaaGreatDoor
open Go.RowKit Go.Lib
variable {G : Nat}

def ChainB (p2 p3 : Bool) : Prop := p2 = true → p3 = false
theorem ordQ_up' {q r : Rat} (h : q ≤ r) : decide (ordQ q r ≤ 0) = true := decide_eq_true (by have := ordQ_up h; omega)
theorem eqn_1 (q r u : Rat) : q + (-q) = ((0 : Int) : Rat) := by
  have _h := (q, r, u)
  have z0 : Rat.divInt 0 1 = 0 := by decide +kernel
  have z1 : Rat.divInt 1 1 = 1 := by decide +kernel
  have z2 : ((0 : Int) : Rat) = 0 := rfl
  grind
theorem eqn_2 (q r u : Rat) : r + q = q + r := by
  have _h := (q, r, u)
  have z0 : Rat.divInt 0 1 = 0 := by decide +kernel
  have z1 : Rat.divInt 1 1 = 1 := by decide +kernel
  have z2 : ((0 : Int) : Rat) = 0 := rfl
  grind

set_option maxRecDepth 100000 in
set_option maxHeartbeats 4000000 in
theorem order_not {sa ta sb tb sc tc : Int} {la ma lb mb lc mc : List Int} {a1 b1 a2 b2 a3 b3 : Option Addr} {c1 d1 c2 d2 c3 d3 : Nat} {w : World} (hG : G ≤ w.heap.size) (ht : Tab w) (hm : Mx w) (h1 : FR w a1 c1 b1 d1 la ma) (h2 : FR w a2 c2 b2 d2 lb mb) (h3 : FR w a3 c3 b3 d3 lc mc) (hn : ((decide ((la.length : Int) ≤ 12) && decide ((ma.length : Int) ≤ 12)) && ((decide ((lb.length : Int) ≤ 12) && decide ((mb.length : Int) ≤ 12)) && ((decide ((lc.length : Int) ≤ 12) && decide ((mc.length : Int) ≤ 12)) && (rightF sa la ta ma && (rightF sb lb tb mb && rightF sc lc tc mc))))) = false) :
    Calls Tryz.prog 5 #[.agg #[.int .i64 sa, .slice a1 la.length c1, .int .i64 ta, .slice b1 ma.length d1], .agg #[.int .i64 sb, .slice a2 lb.length c2, .int .i64 tb, .slice b2 mb.length d2], .agg #[.int .i64 sc, .slice a3 lc.length c3, .int .i64 tc, .slice b3 mc.length d3]] w fun e w' => e = .returned (.bool true) ∧ Below w.heap.size w w' := by
  obtain ⟨fa, hfa⟩ : ∃ b, (decide ((la.length : Int) ≤ 12) && decide ((ma.length : Int) ≤ 12)) = b := ⟨_, rfl⟩
  obtain ⟨fb, hfb⟩ : ∃ b, (decide ((lb.length : Int) ≤ 12) && decide ((mb.length : Int) ≤ 12)) = b := ⟨_, rfl⟩
  obtain ⟨fc, hfc⟩ : ∃ b, (decide ((lc.length : Int) ≤ 12) && decide ((mc.length : Int) ≤ 12)) = b := ⟨_, rfl⟩
  obtain ⟨ra, hra⟩ : ∃ b, rightF sa la ta ma = b := ⟨_, rfl⟩
  obtain ⟨rb, hrb⟩ : ∃ b, rightF sb lb tb mb = b := ⟨_, rfl⟩
  obtain ⟨rc, hrc⟩ : ∃ b, rightF sc lc tc mc = b := ⟨_, rfl⟩
  rw [hfa, hfb, hfc, hra, hrb, hrc] at hn
  have HFa := Lib.hid hfa
  have HFb := Lib.hid hfb
  have HFc := Lib.hid hfc
  have HRa := Lib.hid hra
  have HRb := Lib.hid hrb
  have HRc := Lib.hid hrc
  have HN := Lib.hid hn
  clear hn hfa hfb hfc hra hrb hrc
  have HT : Hid (Tab w) := ht
  have HM : Hid (Mx w) := hm
  have H1 : Hid (FR w a1 c1 b1 d1 la ma) := h1
  have H2 : Hid (FR w a2 c2 b2 d2 lb mb) := h2
  have H3 : Hid (FR w a3 c3 b3 d3 lc mc) := h3
  clear ht hm h1 h2 h3
  have M : Hid (Below w.heap.size w w) := Below.refl _ _
  go_enter Tryz.func5, Tryz.ntmps5
  go_upto_region 1 with fail
  obtain ⟨w1, hv⟩ : ∃ w_ : World, w_ = (((w.alloc (.cells #[.int .i64 sa, .slice a1 la.length c1, .int .i64 ta, .slice b1 ma.length d1] 26)).alloc (.cells #[.int .i64 sb, .slice a2 lb.length c2, .int .i64 tb, .slice b2 mb.length d2] 26)).alloc (.cells #[.int .i64 sc, .slice a3 lc.length c3, .int .i64 tc, .slice b3 mc.length d3] 26)) := ⟨_, rfl⟩
  rw [← hv]
  have hbx := bx3 w 26 26 26 #[.int .i64 sa, .slice a1 la.length c1, .int .i64 ta, .slice b1 ma.length d1] #[.int .i64 sb, .slice a2 lb.length c2, .int .i64 tb, .slice b2 mb.length d2] #[.int .i64 sc, .slice a3 lc.length c3, .int .i64 tc, .slice b3 mc.length d3]
  rw [← hv] at hbx
  have hbn : Below w.heap.size w w1 := by rw [hv]; exact (Below.alloc (Below.alloc (Below.alloc (Below.refl _ _) (by simp <;> omega) _) (by simp <;> omega) _) (by simp <;> omega) _)
  replace M := Lib.hid (And.intro hbx.2.2 (And.intro hbx.2.1 (And.intro hbx.1 (Goes.go M.out hbn))))
  clear hbx hbn
  clear hv
  go_wp2_with fail
  refine (small_ok (G := G) (Nat.le_trans hG (M.out.2.2.2).size) (HT.out.keep (M.out.2.2.2)) (HM.out.keep (M.out.2.2.2))).mono ?_
  rintro e w2 ⟨rfl, hb⟩
  replace M := Lib.hid (Goes.go M.out hb)
  clear hb
  have y0 := (M.out.2.2.1).c4; have p0_0 := y0.1; have q0_0 := y0.2.1; have p0_1 := y0.2.2.1; have q0_1 := y0.2.2.2.1; have p0_2 := y0.2.2.2.2.1; have q0_2 := y0.2.2.2.2.2.1; have p0_3 := y0.2.2.2.2.2.2.1; have q0_3 := y0.2.2.2.2.2.2.2; clear y0
  go_wp2_with fail
  clear p0_0 q0_0 p0_1 q0_1 p0_2 q0_2 p0_3 q0_3
  refine (rfFew_ok (s := sa) (t := ta) (m := 12) (r := fa) HFa.out).mono ?_
  rintro e w3 ⟨rfl, hb⟩
  replace M := Lib.hid (Goes.go M.out hb)
  clear hb
  cases fa with
  | false =>
    go_wp2_with fail
    go_ret
    exact ⟨rfl, (M.out.2.2.2)⟩
  | true =>
    have y1 := (M.out.2.1).c4; have p1_0 := y1.1; have q1_0 := y1.2.1; have p1_1 := y1.2.2.1; have q1_1 := y1.2.2.2.1; have p1_2 := y1.2.2.2.2.1; have q1_2 := y1.2.2.2.2.2.1; have p1_3 := y1.2.2.2.2.2.2.1; have q1_3 := y1.2.2.2.2.2.2.2; clear y1
    go_wp2_with fail
    clear p1_0 q1_0 p1_1 q1_1 p1_2 q1_2 p1_3 q1_3
    refine (rfFew_ok (s := sb) (t := tb) (m := 12) (r := fb) HFb.out).mono ?_
    rintro e w4 ⟨rfl, hb⟩
    replace M := Lib.hid (Goes.go M.out hb)
    clear hb
    cases fb with
    | false =>
      go_wp2_with fail
      go_ret
      exact ⟨rfl, (M.out.2.2.2)⟩
    | true =>
      have y2 := (M.out.1).c4; have p2_0 := y2.1; have q2_0 := y2.2.1; have p2_1 := y2.2.2.1; have q2_1 := y2.2.2.2.1; have p2_2 := y2.2.2.2.2.1; have q2_2 := y2.2.2.2.2.2.1; have p2_3 := y2.2.2.2.2.2.2.1; have q2_3 := y2.2.2.2.2.2.2.2; clear y2
      go_wp2_with fail
      clear p2_0 q2_0 p2_1 q2_1 p2_2 q2_2 p2_3 q2_3
      refine (rfFew_ok (s := sc) (t := tc) (m := 12) (r := fc) HFc.out).mono ?_
      rintro e w5 ⟨rfl, hb⟩
      replace M := Lib.hid (Goes.go M.out hb)
      clear hb
      cases fc with
      | false =>
        go_wp2_with fail
        go_ret
        exact ⟨rfl, (M.out.2.2.2)⟩
      | true =>
        have y0 := (M.out.2.2.1).c4; have p0_0 := y0.1; have q0_0 := y0.2.1; have p0_1 := y0.2.2.1; have q0_1 := y0.2.2.2.1; have p0_2 := y0.2.2.2.2.1; have q0_2 := y0.2.2.2.2.2.1; have p0_3 := y0.2.2.2.2.2.2.1; have q0_3 := y0.2.2.2.2.2.2.2; clear y0
        go_wp2_with fail
        clear p0_0 q0_0 p0_1 q0_1 p0_2 q0_2 p0_3 q0_3
        refine (fracRight_len (s := sa) (t := ta) (l := la) (m := ma) (r := ra) (H1.out.keep (M.out.2.2.2)) rfl rfl (len_of5 HFa.out (by decide)).1 (len_of5 HFa.out (by decide)).2 HRa.out).mono ?_
        rintro e w6 ⟨rfl, hb⟩
        replace M := Lib.hid (Goes.go M.out hb)
        clear hb
        cases ra with
        | false =>
          go_wp2_with fail
          go_ret
          exact ⟨rfl, (M.out.2.2.2)⟩
        | true =>
          have y1 := (M.out.2.1).c4; have p1_0 := y1.1; have q1_0 := y1.2.1; have p1_1 := y1.2.2.1; have q1_1 := y1.2.2.2.1; have p1_2 := y1.2.2.2.2.1; have q1_2 := y1.2.2.2.2.2.1; have p1_3 := y1.2.2.2.2.2.2.1; have q1_3 := y1.2.2.2.2.2.2.2; clear y1
          go_wp2_with fail
          clear p1_0 q1_0 p1_1 q1_1 p1_2 q1_2 p1_3 q1_3
          refine (fracRight_len (s := sb) (t := tb) (l := lb) (m := mb) (r := rb) (H2.out.keep (M.out.2.2.2)) rfl rfl (len_of5 HFb.out (by decide)).1 (len_of5 HFb.out (by decide)).2 HRb.out).mono ?_
          rintro e w7 ⟨rfl, hb⟩
          replace M := Lib.hid (Goes.go M.out hb)
          clear hb
          cases rb with
          | false =>
            go_wp2_with fail
            go_ret
            exact ⟨rfl, (M.out.2.2.2)⟩
          | true =>
            have y2 := (M.out.1).c4; have p2_0 := y2.1; have q2_0 := y2.2.1; have p2_1 := y2.2.2.1; have q2_1 := y2.2.2.2.1; have p2_2 := y2.2.2.2.2.1; have q2_2 := y2.2.2.2.2.2.1; have p2_3 := y2.2.2.2.2.2.2.1; have q2_3 := y2.2.2.2.2.2.2.2; clear y2
            go_wp2_with fail
            clear p2_0 q2_0 p2_1 q2_1 p2_2 q2_2 p2_3 q2_3
            refine (fracRight_len (s := sc) (t := tc) (l := lc) (m := mc) (r := rc) (H3.out.keep (M.out.2.2.2)) rfl rfl (len_of5 HFc.out (by decide)).1 (len_of5 HFc.out (by decide)).2 HRc.out).mono ?_
            rintro e w8 ⟨rfl, hb⟩
            replace M := Lib.hid (Goes.go M.out hb)
            clear hb
            cases rc with
            | false =>
              go_wp2_with fail
              go_ret
              exact ⟨rfl, (M.out.2.2.2)⟩
            | true =>
              go_upto_region 4 with fail
              exact absurd HN.out (by decide)

set_option maxRecDepth 100000 in
set_option maxHeartbeats 4000000 in
theorem order_le_s24 {k k2 k3 m : Int} {bz : Bool} {q r u : Rat} {a1 b1 a2 b2 a3 b3 : Option Addr} {c1 d1 c2 d2 c3 d3 : Nat} {w : World}  {w49 : World} {a_89 b_91 a_77 b_79 a_71 b_73 a_66 b_68 a_61 b_63 : Option Addr} {c_90 d_92 c_78 d_80 c_72 d_74 c_67 d_69 c_62 d_64 : Nat} {q93 q81 q75 : Rat} {B8 B9 B10 B11 B12 : Nat} {x0_ x1_ x2_ x3_ x4_ x5_ x8_ x9_ x11_ x13_ x15_ x17_ x25_ x26_ x27_ x28_ x29_ x30_ x31_ x32_ x33_ x34_ x35_ x36_ x37_ x38_ x39_ x40_ x41_ x42_ x43_ x44_ x45_ x46_ x47_ x48_ x49_ x50_ x51_ x52_ x53_ x54_ x55_ x56_ x57_ x58_ x59_ x60_ x61_ x62_ x63_ x64_ x65_ x66_ x67_ x68_ x69_ x70_ x71_ x72_ x73_ x74_ x75_ x76_ x77_ x78_ x79_ x80_ x81_ x82_ x83_ x84_ x85_ x86_ x87_ x88_ x89_ x90_ x91_ x92_ x93_ x94_ x95_ x96_ x97_ x98_ x99_ x100_ x101_ x102_ x103_ x104_ x105_ x106_ x107_ x108_ x109_ x110_ x111_ x112_ x113_ x114_ x115_ x116_ x117_ x118_ x119_ x120_ x121_ x122_ x123_ x124_ x125_ x126_ x127_ x128_ x129_ x130_ x131_ x132_ x133_ x134_ x135_ x136_ x137_ x138_ x139_ x140_ x141_ x142_ x143_ x144_ x145_ x146_ x147_ x148_ x149_ x150_ x151_ x152_ x153_ x154_ x155_ x156_ x157_ x158_ x159_ x160_ x161_ x162_ x163_ x164_ x165_ x166_ x167_ x168_ x169_ x170_ x171_ x172_ x173_ x174_ x175_ x176_ x177_ x178_ x179_ x180_ x181_ x182_ x183_ x184_ x185_ x186_ x187_ x188_ x189_ x190_ x191_ x192_ x193_ x194_ x195_ x196_ x197_ x198_ x199_ x200_ x201_ x202_ x203_ x204_ x205_ x206_ x207_ x208_ x209_ x210_ x211_ x212_ x213_ x214_ x215_ x216_ x217_ x218_ x219_ x220_ x221_ x222_ x223_ x224_ x225_ x226_ x227_ x228_ x229_ x230_ x231_ x232_ x233_ x234_ x235_ x236_ x237_ x238_ x239_ x240_ x241_ x242_ x243_ x244_ x245_ x246_ x247_ x248_ x249_ x250_ x251_ x252_ x253_ x254_ x255_ x256_ x257_ x258_ x259_ x260_ x261_ x262_ x263_ x264_ x265_ x266_ x267_ x268_ x269_ x270_ x271_ x272_ x273_ x274_ x275_ x276_ x277_ x278_ x279_ x280_ x281_ x282_ x283_ x284_ x285_ x286_ x287_ x288_ x289_ x290_ x291_ x292_ x293_ x294_ : Value} (_hG : G ≤ w.heap.size) (HQ : Hid (Fz q 12)) (HR : Hid (Fz r 12)) (_HU : Hid (Fz u 12)) (_wn : IntKind.i64.wrap (-k) = -k) (_wm : IntKind.i64.wrap (k * sg (nu u)) = m) (_hbz : (k == 0) = bz) (_HBZ : Hid (decide (q = r) = bz)) (_n1 : decide (k < -1) = false) (_n2 : decide (1 < k) = false) (HK : Hid (ordQ q r = k)) (_HK2 : Hid (ordQ r u = k2)) (_HK3 : Hid (ordQ q u = k3)) (_HSUB : Hid (sg (nu (q - r)) = k)) (_HSW : Hid (ordQ r q = -k)) (_HPL : Hid (ordQ (q + u) (r + u) = k)) (_HTM : Hid (ordQ (q * u) (r * u) = m)) (_HNG : Hid (ordQ (-q) (-r) = -k)) (n3 : decide (k ≤ 0) = true) (_HLO : Hid (pick q r (-1) = q)) (_HHI : Hid (pick q r 1 = r)) (_HT : Hid (Tab w)) (_HM : Hid (Mx w)) (_H1 : Hid (FD G w a1 c1 b1 d1 q)) (_H2 : Hid (FD G w a2 c2 b2 d2 r)) (_H3 : Hid (FD G w a3 c3 b3 d3 u)) (Eq93 : Hid (q93 = (((q + ((-q))))))) (Sq93 : Hid (Fz q93 25)) (Eq81 : Hid (q81 = ((((q + r)))))) (_Sq81 : Hid (Fz q81 25)) (Eq75 : Hid (q75 = ((((q + r)))))) (Sq75 : Hid (Fz q75 25)) (_oB8 : w.heap.size ≤ B8) (_oB9 : B8 < B9) (_oB10 : B9 < B10) (_oB11 : B10 < B11) (_oB12 : B11 < B12) (M : Hid (Bx w49 B12 26 #[.int .i64 (sg (nu q93)), .slice a_89 (ln (nu q93)) c_90, .int .i64 (sg (de q93)), .slice b_91 (ln (de q93)) d_92] ∧ FD G w49 a_89 c_90 b_91 d_92 q93 ∧ FD G w49 a_77 c_78 b_79 d_80 q81 ∧ FD G w49 a_71 c_72 b_73 d_74 q75 ∧ FD G w49 a_66 c_67 b_68 d_69 r ∧ FD G w49 a_61 c_62 b_63 d_64 q ∧ Bx w49 B8 26 #[.int .i64 (sg (nu q)), .slice a_61 (ln (nu q)) c_62, .int .i64 (sg (de q)), .slice b_63 (ln (de q)) d_64] ∧ Bx w49 B9 26 #[.int .i64 (sg (nu r)), .slice a_66 (ln (nu r)) c_67, .int .i64 (sg (de r)), .slice b_68 (ln (de r)) d_69] ∧ Bx w49 B10 26 #[.int .i64 (sg (nu q75)), .slice a_71 (ln (nu q75)) c_72, .int .i64 (sg (de q75)), .slice b_73 (ln (de q75)) d_74] ∧ Bx w49 B11 26 #[.int .i64 (sg (nu q81)), .slice a_77 (ln (nu q81)) c_78, .int .i64 (sg (de q81)), .slice b_79 (ln (de q81)) d_80] ∧ Below w.heap.size w w49)) :
    ∀ K : Act → World → Prop, (∀ a_ w_, Code.wp Tryz.prog (restAt Tryz.f5 24) (bodyPost Tryz.prog Tryz.f5 fun e w' => e = .returned (.bool true) ∧ Below w.heap.size w w') a_ w_ → K a_ w_) → Code.wp Tryz.prog (regAt Tryz.f5 24) (Exit.then K (bodyPost Tryz.prog Tryz.f5 fun e w' => e = .returned (.bool true) ∧ Below w.heap.size w w')) ⟨List.toArray (x0_ :: x1_ :: x2_ :: x3_ :: x4_ :: x5_ :: .bool false :: .bool true :: x8_ :: x9_ :: .bool true :: x11_ :: .bool true :: x13_ :: .bool true :: x15_ :: .bool true :: x17_ :: .bool true :: .pointer (some ⟨B8, 0, none⟩) :: .pointer (some ⟨B9, 0, none⟩) :: .pointer (some ⟨B10, 0, none⟩) :: .pointer (some ⟨B11, 0, none⟩) :: .pointer (some ⟨B12, 0, none⟩) :: .bool true :: x25_ :: x26_ :: x27_ :: x28_ :: x29_ :: x30_ :: x31_ :: x32_ :: x33_ :: x34_ :: x35_ :: x36_ :: x37_ :: x38_ :: x39_ :: x40_ :: x41_ :: x42_ :: x43_ :: x44_ :: x45_ :: x46_ :: x47_ :: x48_ :: x49_ :: x50_ :: x51_ :: x52_ :: x53_ :: x54_ :: x55_ :: x56_ :: x57_ :: x58_ :: x59_ :: x60_ :: x61_ :: x62_ :: x63_ :: x64_ :: x65_ :: x66_ :: x67_ :: x68_ :: x69_ :: x70_ :: x71_ :: x72_ :: x73_ :: x74_ :: x75_ :: x76_ :: x77_ :: x78_ :: x79_ :: x80_ :: x81_ :: x82_ :: x83_ :: x84_ :: x85_ :: x86_ :: x87_ :: x88_ :: x89_ :: x90_ :: x91_ :: x92_ :: x93_ :: x94_ :: x95_ :: x96_ :: x97_ :: x98_ :: x99_ :: x100_ :: x101_ :: x102_ :: x103_ :: x104_ :: x105_ :: x106_ :: x107_ :: x108_ :: x109_ :: x110_ :: x111_ :: x112_ :: x113_ :: x114_ :: x115_ :: x116_ :: x117_ :: x118_ :: x119_ :: x120_ :: x121_ :: x122_ :: x123_ :: x124_ :: x125_ :: x126_ :: x127_ :: x128_ :: x129_ :: x130_ :: x131_ :: x132_ :: x133_ :: x134_ :: x135_ :: x136_ :: x137_ :: x138_ :: x139_ :: x140_ :: x141_ :: x142_ :: x143_ :: x144_ :: x145_ :: x146_ :: x147_ :: x148_ :: x149_ :: x150_ :: x151_ :: x152_ :: x153_ :: x154_ :: x155_ :: x156_ :: x157_ :: x158_ :: x159_ :: x160_ :: x161_ :: x162_ :: x163_ :: x164_ :: x165_ :: x166_ :: x167_ :: x168_ :: x169_ :: x170_ :: x171_ :: x172_ :: x173_ :: x174_ :: x175_ :: x176_ :: x177_ :: x178_ :: x179_ :: x180_ :: x181_ :: x182_ :: x183_ :: x184_ :: x185_ :: x186_ :: x187_ :: x188_ :: x189_ :: x190_ :: x191_ :: x192_ :: x193_ :: x194_ :: x195_ :: x196_ :: x197_ :: x198_ :: x199_ :: x200_ :: x201_ :: x202_ :: x203_ :: x204_ :: x205_ :: x206_ :: x207_ :: x208_ :: x209_ :: x210_ :: x211_ :: x212_ :: x213_ :: x214_ :: x215_ :: x216_ :: x217_ :: x218_ :: x219_ :: x220_ :: x221_ :: x222_ :: x223_ :: x224_ :: x225_ :: x226_ :: x227_ :: x228_ :: x229_ :: x230_ :: x231_ :: x232_ :: x233_ :: x234_ :: x235_ :: x236_ :: x237_ :: x238_ :: x239_ :: x240_ :: x241_ :: x242_ :: x243_ :: x244_ :: x245_ :: x246_ :: x247_ :: x248_ :: x249_ :: x250_ :: x251_ :: x252_ :: x253_ :: x254_ :: x255_ :: x256_ :: x257_ :: x258_ :: x259_ :: x260_ :: x261_ :: x262_ :: x263_ :: x264_ :: x265_ :: x266_ :: x267_ :: x268_ :: x269_ :: x270_ :: x271_ :: x272_ :: x273_ :: x274_ :: x275_ :: x276_ :: x277_ :: x278_ :: x279_ :: x280_ :: x281_ :: x282_ :: x283_ :: x284_ :: x285_ :: x286_ :: x287_ :: x288_ :: x289_ :: x290_ :: x291_ :: x292_ :: x293_ :: x294_ :: []), []⟩ w49 := by
  intro Kst_ hst_
  conv => arg 2; whnf
  conv at hst_ => enter [a_, w_, 1, 2]; whnf
  go_wp2_with fail
  obtain ⟨w50, hv⟩ : ∃ w_ : World, w_ = w49.drew := ⟨_, rfl⟩
  replace M := Lib.hid (Goes.go M.out (hv ▸ below_drew _ : Below w49.heap.size w49 w50))
  refine wp_region_held_drew (S := (fun w' => w'.cell? ⟨B8, 0, none⟩ = some (.int .i64 (sg (nu q))) ∧ w'.cell? ⟨B8, 1, none⟩ = some (.slice a_61 (ln (nu q)) c_62) ∧ w'.cell? ⟨B8, 2, none⟩ = some (.int .i64 (sg (de q))) ∧ w'.cell? ⟨B8, 3, none⟩ = some (.slice b_63 (ln (de q)) d_64) ∧ w'.cell? ⟨B9, 0, none⟩ = some (.int .i64 (sg (nu r))) ∧ w'.cell? ⟨B9, 1, none⟩ = some (.slice a_66 (ln (nu r)) c_67) ∧ w'.cell? ⟨B9, 2, none⟩ = some (.int .i64 (sg (de r))) ∧ w'.cell? ⟨B9, 3, none⟩ = some (.slice b_68 (ln (de r)) d_69) ∧ w'.cell? ⟨B10, 0, none⟩ = some (.int .i64 (sg (nu q75))) ∧ w'.cell? ⟨B10, 1, none⟩ = some (.slice a_71 (ln (nu q75)) c_72) ∧ w'.cell? ⟨B10, 2, none⟩ = some (.int .i64 (sg (de q75))) ∧ w'.cell? ⟨B10, 3, none⟩ = some (.slice b_73 (ln (de q75)) d_74) ∧ w'.cell? ⟨B11, 0, none⟩ = some (.int .i64 (sg (nu q81))) ∧ w'.cell? ⟨B11, 1, none⟩ = some (.slice a_77 (ln (nu q81)) c_78) ∧ w'.cell? ⟨B11, 2, none⟩ = some (.int .i64 (sg (de q81))) ∧ w'.cell? ⟨B11, 3, none⟩ = some (.slice b_79 (ln (de q81)) d_80) ∧ w'.cell? ⟨B12, 0, none⟩ = some (.int .i64 (sg (nu q93))) ∧ w'.cell? ⟨B12, 1, none⟩ = some (.slice a_89 (ln (nu q93)) c_90) ∧ w'.cell? ⟨B12, 2, none⟩ = some (.int .i64 (sg (de q93))) ∧ w'.cell? ⟨B12, 3, none⟩ = some (.slice b_91 (ln (de q93)) d_92))) (by kernel_rfl) (by rw [← hv]; exact ⟨(M.out.2.2.2.2.2.2.1).at.1 0, (M.out.2.2.2.2.2.2.1).at.1 1, (M.out.2.2.2.2.2.2.1).at.1 2, (M.out.2.2.2.2.2.2.1).at.1 3, (M.out.2.2.2.2.2.2.2.1).at.1 0, (M.out.2.2.2.2.2.2.2.1).at.1 1, (M.out.2.2.2.2.2.2.2.1).at.1 2, (M.out.2.2.2.2.2.2.2.1).at.1 3, (M.out.2.2.2.2.2.2.2.2.1).at.1 0, (M.out.2.2.2.2.2.2.2.2.1).at.1 1, (M.out.2.2.2.2.2.2.2.2.1).at.1 2, (M.out.2.2.2.2.2.2.2.2.1).at.1 3, (M.out.2.2.2.2.2.2.2.2.2.1).at.1 0, (M.out.2.2.2.2.2.2.2.2.2.1).at.1 1, (M.out.2.2.2.2.2.2.2.2.2.1).at.1 2, (M.out.2.2.2.2.2.2.2.2.2.1).at.1 3, (M.out.1).at.1 0, (M.out.1).at.1 1, (M.out.1).at.1 2, (M.out.1).at.1 3⟩) (fun hH150 => ?_)
  rw [← hv] at hH150 ⊢
  clear hv
  refine tk at0 ?_
  refine tk at1 ?_
  refine tk at2 ?_
  refine tk at3 ?_
  refine tk at4 ?_
  refine tk at5 ?_
  refine tk at6 ?_
  refine tk at7 ?_
  refine tk at8 ?_
  refine tk at9 ?_
  refine tk at10 ?_
  refine tk at11 ?_
  refine tk at12 ?_
  refine tk at13 ?_
  refine tk at14 ?_
  refine tk at15 ?_
  refine tk at16 ?_
  refine tk at17 ?_
  refine tk at18 ?_
  refine tk at19 ?_
  refine tk at20 ?_
  refine tk at21 ?_
  refine wpAnyH_ready (rs := [22]) (by kernel_rfl) (by simp) ?_
  refine AllReadyH.cons at22 (fun K hK => ?_) AllReadyH.nil
  go_simp
  refine (rfsame_q (G := G) (q := q75) (r := q81) (M.out.2.2.2.1) (M.out.2.2.1) (Fz.mono Sq75.out (by omega)) (by rw [Eq81.out, Eq75.out] <;> rfl)).mono ?_
  rintro e w51 ⟨rfl, hb⟩
  replace M := Lib.hid (Goes.go M.out hb)
  clear hb
  (try go_wp2_with fail)
  refine hK.out _ _ (⟨(M.out.2.2.2.2.2.2.1).at.1 0, (M.out.2.2.2.2.2.2.1).at.1 1, (M.out.2.2.2.2.2.2.1).at.1 2, (M.out.2.2.2.2.2.2.1).at.1 3, (M.out.2.2.2.2.2.2.2.1).at.1 0, (M.out.2.2.2.2.2.2.2.1).at.1 1, (M.out.2.2.2.2.2.2.2.1).at.1 2, (M.out.2.2.2.2.2.2.2.1).at.1 3, (M.out.2.2.2.2.2.2.2.2.1).at.1 0, (M.out.2.2.2.2.2.2.2.2.1).at.1 1, (M.out.2.2.2.2.2.2.2.2.1).at.1 2, (M.out.2.2.2.2.2.2.2.2.1).at.1 3, (M.out.2.2.2.2.2.2.2.2.2.1).at.1 0, (M.out.2.2.2.2.2.2.2.2.2.1).at.1 1, (M.out.2.2.2.2.2.2.2.2.2.1).at.1 2, (M.out.2.2.2.2.2.2.2.2.2.1).at.1 3, (M.out.1).at.1 0, (M.out.1).at.1 1, (M.out.1).at.1 2, (M.out.1).at.1 3⟩) (fun hH151 => ?_)
  clear hK K hH150
  (try simp only [Act.put, List.setIfInBounds_toArray, List.set_cons_zero, List.set_cons_succ])
  refine tk at23 ?_
  refine tk at24 ?_
  refine tk at25 ?_
  refine tk at26 ?_
  refine wpAnyH_ready (rs := [27]) (by kernel_rfl) (by simp) ?_
  refine AllReadyH.cons at27 (fun K hK => ?_) AllReadyH.nil
  go_simp
  refine (fracCompare_is (G := G) (q := q) (r := r) (k := k) (M.out.2.2.2.2.2.1) (M.out.2.2.2.2.1) (Fz.mono HQ.out (by omega)) (Fz.mono HR.out (by omega)) (by exact HK.out)).mono ?_
  rintro e w52 ⟨rfl, hb⟩
  replace M := Lib.hid (Goes.go M.out hb)
  clear hb
  (try go_wp2_with fail)
  refine hK.out _ _ (⟨(M.out.2.2.2.2.2.2.1).at.1 0, (M.out.2.2.2.2.2.2.1).at.1 1, (M.out.2.2.2.2.2.2.1).at.1 2, (M.out.2.2.2.2.2.2.1).at.1 3, (M.out.2.2.2.2.2.2.2.1).at.1 0, (M.out.2.2.2.2.2.2.2.1).at.1 1, (M.out.2.2.2.2.2.2.2.1).at.1 2, (M.out.2.2.2.2.2.2.2.1).at.1 3, (M.out.2.2.2.2.2.2.2.2.1).at.1 0, (M.out.2.2.2.2.2.2.2.2.1).at.1 1, (M.out.2.2.2.2.2.2.2.2.1).at.1 2, (M.out.2.2.2.2.2.2.2.2.1).at.1 3, (M.out.2.2.2.2.2.2.2.2.2.1).at.1 0, (M.out.2.2.2.2.2.2.2.2.2.1).at.1 1, (M.out.2.2.2.2.2.2.2.2.2.1).at.1 2, (M.out.2.2.2.2.2.2.2.2.2.1).at.1 3, (M.out.1).at.1 0, (M.out.1).at.1 1, (M.out.1).at.1 2, (M.out.1).at.1 3⟩) (fun hH152 => ?_)
  clear hK K hH151
  (try simp only [Act.put, List.setIfInBounds_toArray, List.set_cons_zero, List.set_cons_succ])
  refine tk at28 ?_
  refine tk at29 ?_
  refine tk at30 ?_
  refine tk at31 ?_
  refine wpAnyH_ready (rs := [32]) (by kernel_rfl) (by simp) ?_
  refine AllReadyH.cons at32 (fun K hK => ?_) AllReadyH.nil
  go_simp
  obtain ⟨q157, eq157⟩ : ∃ v_ : Rat, v_ = ((0 : Int) : Rat) := ⟨_, rfl⟩
  refine (fracInt_ok (G := G) 0 _ (by decide)).mono ?_
  rintro e w53 ⟨a_153, c_154, b_155, d_156, rfl, hd158, hb⟩
  rw [← eq157] at hd158 ⊢
  have Sq157 : Hid (Fz q157 4) := by show Fz q157 4; rw [eq157]; exact (Fz.int64 (by decide))
  have Eq157 := Lib.hid eq157; clear eq157
  replace M := Lib.hid (And.intro hd158 (Goes.go M.out hb))
  clear hb hd158
  (try go_wp2_with fail)
  refine hK.out _ _ (⟨(M.out.2.2.2.2.2.2.2.1).at.1 0, (M.out.2.2.2.2.2.2.2.1).at.1 1, (M.out.2.2.2.2.2.2.2.1).at.1 2, (M.out.2.2.2.2.2.2.2.1).at.1 3, (M.out.2.2.2.2.2.2.2.2.1).at.1 0, (M.out.2.2.2.2.2.2.2.2.1).at.1 1, (M.out.2.2.2.2.2.2.2.2.1).at.1 2, (M.out.2.2.2.2.2.2.2.2.1).at.1 3, (M.out.2.2.2.2.2.2.2.2.2.1).at.1 0, (M.out.2.2.2.2.2.2.2.2.2.1).at.1 1, (M.out.2.2.2.2.2.2.2.2.2.1).at.1 2, (M.out.2.2.2.2.2.2.2.2.2.1).at.1 3, (M.out.2.2.2.2.2.2.2.2.2.2.1).at.1 0, (M.out.2.2.2.2.2.2.2.2.2.2.1).at.1 1, (M.out.2.2.2.2.2.2.2.2.2.2.1).at.1 2, (M.out.2.2.2.2.2.2.2.2.2.2.1).at.1 3, (M.out.2.1).at.1 0, (M.out.2.1).at.1 1, (M.out.2.1).at.1 2, (M.out.2.1).at.1 3⟩) (fun hH159 => ?_)
  clear hK K hH152
  (try simp only [Act.put, List.setIfInBounds_toArray, List.set_cons_zero, List.set_cons_succ])
  refine wpAnyH_ready (rs := [33]) (by kernel_rfl) (by simp) ?_
  refine AllReadyH.cons at33 (fun K hK => ?_) AllReadyH.nil
  go_simp
  refine (rfsame_q (G := G) (q := q93) (r := q157) (M.out.2.2.1) (M.out.1) (Fz.mono Sq93.out (by omega)) (by rw [Eq157.out, Eq93.out]; exact eqn_1 q r u)).mono ?_
  rintro e w54 ⟨rfl, hb⟩
  replace M := Lib.hid (Goes.go M.out hb)
  clear hb
  (try go_wp2_with fail)
  refine hK.out _ _ (⟨(M.out.2.2.2.2.2.2.2.1).at.1 0, (M.out.2.2.2.2.2.2.2.1).at.1 1, (M.out.2.2.2.2.2.2.2.1).at.1 2, (M.out.2.2.2.2.2.2.2.1).at.1 3, (M.out.2.2.2.2.2.2.2.2.1).at.1 0, (M.out.2.2.2.2.2.2.2.2.1).at.1 1, (M.out.2.2.2.2.2.2.2.2.1).at.1 2, (M.out.2.2.2.2.2.2.2.2.1).at.1 3, (M.out.2.2.2.2.2.2.2.2.2.1).at.1 0, (M.out.2.2.2.2.2.2.2.2.2.1).at.1 1, (M.out.2.2.2.2.2.2.2.2.2.1).at.1 2, (M.out.2.2.2.2.2.2.2.2.2.1).at.1 3, (M.out.2.2.2.2.2.2.2.2.2.2.1).at.1 0, (M.out.2.2.2.2.2.2.2.2.2.2.1).at.1 1, (M.out.2.2.2.2.2.2.2.2.2.2.1).at.1 2, (M.out.2.2.2.2.2.2.2.2.2.2.1).at.1 3, (M.out.2.1).at.1 0, (M.out.2.1).at.1 1, (M.out.2.1).at.1 2, (M.out.2.1).at.1 3⟩) (fun hH160 => ?_)
  clear hK K hH159
  (try simp only [Act.put, List.setIfInBounds_toArray, List.set_cons_zero, List.set_cons_succ])
  refine tk at34 ?_
  refine tk at35 ?_
  refine wpAnyH_done (by kernel_rfl) ?_ _
  clear hH160
  go_wp2_with fail
  go_ret
  exact ⟨rfl, (M.out.2.2.2.2.2.2.2.2.2.2.2)⟩

set_option maxRecDepth 100000 in
set_option maxHeartbeats 4000000 in
theorem order_le_s23 {k k2 k3 m : Int} {bz : Bool} {q r u : Rat} {a1 b1 a2 b2 a3 b3 : Option Addr} {c1 d1 c2 d2 c3 d3 : Nat} {w : World}  {w47 : World} {a_89 b_91 a_77 b_79 a_71 b_73 a_66 b_68 a_61 b_63 : Option Addr} {c_90 d_92 c_78 d_80 c_72 d_74 c_67 d_69 c_62 d_64 : Nat} {q93 q81 q75 : Rat} {B0 B1 B8 B9 B10 B11 B12 : Nat} {x0_ x1_ x2_ x5_ x8_ x9_ x11_ x13_ x15_ x17_ x24_ x25_ x26_ x27_ x28_ x29_ x30_ x31_ x32_ x33_ x34_ x35_ x36_ x37_ x38_ x39_ x40_ x41_ x42_ x43_ x44_ x45_ x46_ x47_ x48_ x49_ x50_ x51_ x52_ x53_ x54_ x55_ x56_ x57_ x58_ x59_ x60_ x61_ x62_ x63_ x64_ x65_ x66_ x67_ x68_ x69_ x70_ x71_ x72_ x73_ x74_ x75_ x76_ x77_ x78_ x79_ x80_ x81_ x82_ x83_ x84_ x85_ x86_ x87_ x88_ x89_ x90_ x91_ x92_ x93_ x94_ x95_ x96_ x97_ x98_ x99_ x100_ x101_ x102_ x103_ x104_ x105_ x106_ x107_ x108_ x109_ x110_ x111_ x112_ x113_ x114_ x115_ x116_ x117_ x118_ x119_ x120_ x121_ x122_ x123_ x124_ x125_ x126_ x127_ x128_ x129_ x130_ x131_ x132_ x133_ x134_ x135_ x136_ x137_ x138_ x139_ x140_ x141_ x142_ x143_ x144_ x145_ x146_ x147_ x148_ x149_ x150_ x151_ x152_ x153_ x154_ x155_ x156_ x157_ x158_ x159_ x160_ x161_ x162_ x163_ x164_ x165_ x166_ x167_ x168_ x169_ x170_ x171_ x172_ x173_ x174_ x175_ x176_ x177_ x178_ x179_ x180_ x181_ x182_ x183_ x184_ x185_ x186_ x187_ x188_ x189_ x190_ x191_ x192_ x193_ x194_ x195_ x196_ x197_ x198_ x199_ x200_ x201_ x202_ x203_ x204_ x205_ x206_ x207_ x208_ x209_ x210_ x211_ x212_ x213_ x214_ x215_ x216_ x217_ x218_ x219_ x220_ x221_ x222_ x223_ x224_ x225_ x226_ x227_ x228_ x229_ x230_ x231_ x232_ x233_ x234_ x235_ x236_ x237_ x238_ x239_ x240_ x241_ x242_ x243_ x244_ x245_ x246_ x247_ x248_ x249_ x250_ x251_ x252_ x253_ x254_ x255_ x256_ x257_ x258_ x259_ x260_ x261_ x262_ x263_ x264_ x265_ x266_ x267_ x268_ x269_ x270_ x271_ x272_ x273_ x274_ x275_ x276_ x277_ x278_ x279_ x280_ x281_ x282_ x283_ x284_ x285_ x286_ x287_ x288_ x289_ x290_ x291_ x292_ x293_ x294_ : Value} (hG : G ≤ w.heap.size) (HQ : Hid (Fz q 12)) (HR : Hid (Fz r 12)) (HU : Hid (Fz u 12)) (wn : IntKind.i64.wrap (-k) = -k) (wm : IntKind.i64.wrap (k * sg (nu u)) = m) (hbz : (k == 0) = bz) (HBZ : Hid (decide (q = r) = bz)) (n1 : decide (k < -1) = false) (n2 : decide (1 < k) = false) (HK : Hid (ordQ q r = k)) (HK2 : Hid (ordQ r u = k2)) (HK3 : Hid (ordQ q u = k3)) (HSUB : Hid (sg (nu (q - r)) = k)) (HSW : Hid (ordQ r q = -k)) (HPL : Hid (ordQ (q + u) (r + u) = k)) (HTM : Hid (ordQ (q * u) (r * u) = m)) (HNG : Hid (ordQ (-q) (-r) = -k)) (n3 : decide (k ≤ 0) = true) (HLO : Hid (pick q r (-1) = q)) (HHI : Hid (pick q r 1 = r)) (HT : Hid (Tab w)) (HM : Hid (Mx w)) (H1 : Hid (FD G w a1 c1 b1 d1 q)) (H2 : Hid (FD G w a2 c2 b2 d2 r)) (H3 : Hid (FD G w a3 c3 b3 d3 u)) (Eq93 : Hid (q93 = ((q + ((-q)))))) (Sq93 : Hid (Fz q93 25)) (Eq81 : Hid (q81 = (((q + r))))) (Sq81 : Hid (Fz q81 25)) (Eq75 : Hid (q75 = (((q + r))))) (Sq75 : Hid (Fz q75 25)) (oB0 : w.heap.size ≤ B0) (oB1 : B0 < B1) (oB8 : B1 < B8) (oB9 : B8 < B9) (oB10 : B9 < B10) (oB11 : B10 < B11) (oB12 : B11 < B12) (M : Hid (Bx w47 B12 26 #[.int .i64 (sg (nu q93)), .slice a_89 (ln (nu q93)) c_90, .int .i64 (sg (de q93)), .slice b_91 (ln (de q93)) d_92] ∧ FD G w47 a_89 c_90 b_91 d_92 q93 ∧ FD G w47 a_77 c_78 b_79 d_80 q81 ∧ FD G w47 a_71 c_72 b_73 d_74 q75 ∧ FD G w47 a_66 c_67 b_68 d_69 r ∧ FD G w47 a_61 c_62 b_63 d_64 q ∧ Bx w47 B0 26 #[.int .i64 (sg (nu q)), .slice a1 (ln (nu q)) c1, .int .i64 (sg (de q)), .slice b1 (ln (de q)) d1] ∧ Bx w47 B1 26 #[.int .i64 (sg (nu r)), .slice a2 (ln (nu r)) c2, .int .i64 (sg (de r)), .slice b2 (ln (de r)) d2] ∧ Bx w47 B8 26 #[.int .i64 (sg (nu q)), .slice a_61 (ln (nu q)) c_62, .int .i64 (sg (de q)), .slice b_63 (ln (de q)) d_64] ∧ Bx w47 B9 26 #[.int .i64 (sg (nu r)), .slice a_66 (ln (nu r)) c_67, .int .i64 (sg (de r)), .slice b_68 (ln (de r)) d_69] ∧ Bx w47 B10 26 #[.int .i64 (sg (nu q75)), .slice a_71 (ln (nu q75)) c_72, .int .i64 (sg (de q75)), .slice b_73 (ln (de q75)) d_74] ∧ Bx w47 B11 26 #[.int .i64 (sg (nu q81)), .slice a_77 (ln (nu q81)) c_78, .int .i64 (sg (de q81)), .slice b_79 (ln (de q81)) d_80] ∧ Below w.heap.size w w47)) :
    ∀ K : Act → World → Prop, (∀ a_ w_, Code.wp Tryz.prog (restAt Tryz.f5 23) (bodyPost Tryz.prog Tryz.f5 fun e w' => e = .returned (.bool true) ∧ Below w.heap.size w w') a_ w_ → K a_ w_) → Code.wp Tryz.prog (regAt Tryz.f5 23) (Exit.then K (bodyPost Tryz.prog Tryz.f5 fun e w' => e = .returned (.bool true) ∧ Below w.heap.size w w')) ⟨List.toArray (x0_ :: x1_ :: x2_ :: .pointer (some ⟨B0, 0, none⟩) :: .pointer (some ⟨B1, 0, none⟩) :: x5_ :: .bool false :: .bool true :: x8_ :: x9_ :: .bool true :: x11_ :: .bool true :: x13_ :: .bool true :: x15_ :: .bool true :: x17_ :: .bool true :: .pointer (some ⟨B8, 0, none⟩) :: .pointer (some ⟨B9, 0, none⟩) :: .pointer (some ⟨B10, 0, none⟩) :: .pointer (some ⟨B11, 0, none⟩) :: .pointer (some ⟨B12, 0, none⟩) :: x24_ :: x25_ :: x26_ :: x27_ :: x28_ :: x29_ :: x30_ :: x31_ :: x32_ :: x33_ :: x34_ :: x35_ :: x36_ :: x37_ :: x38_ :: x39_ :: x40_ :: x41_ :: x42_ :: x43_ :: x44_ :: x45_ :: x46_ :: x47_ :: x48_ :: x49_ :: x50_ :: x51_ :: x52_ :: x53_ :: x54_ :: x55_ :: x56_ :: x57_ :: x58_ :: x59_ :: x60_ :: x61_ :: x62_ :: x63_ :: x64_ :: x65_ :: x66_ :: x67_ :: x68_ :: x69_ :: x70_ :: x71_ :: x72_ :: x73_ :: x74_ :: x75_ :: x76_ :: x77_ :: x78_ :: x79_ :: x80_ :: x81_ :: x82_ :: x83_ :: x84_ :: x85_ :: x86_ :: x87_ :: x88_ :: x89_ :: x90_ :: x91_ :: x92_ :: x93_ :: x94_ :: x95_ :: x96_ :: x97_ :: x98_ :: x99_ :: x100_ :: x101_ :: x102_ :: x103_ :: x104_ :: x105_ :: x106_ :: x107_ :: x108_ :: x109_ :: x110_ :: x111_ :: x112_ :: x113_ :: x114_ :: x115_ :: x116_ :: x117_ :: x118_ :: x119_ :: x120_ :: x121_ :: x122_ :: x123_ :: x124_ :: x125_ :: x126_ :: x127_ :: x128_ :: x129_ :: x130_ :: x131_ :: x132_ :: x133_ :: x134_ :: x135_ :: x136_ :: x137_ :: x138_ :: x139_ :: x140_ :: x141_ :: x142_ :: x143_ :: x144_ :: x145_ :: x146_ :: x147_ :: x148_ :: x149_ :: x150_ :: x151_ :: x152_ :: x153_ :: x154_ :: x155_ :: x156_ :: x157_ :: x158_ :: x159_ :: x160_ :: x161_ :: x162_ :: x163_ :: x164_ :: x165_ :: x166_ :: x167_ :: x168_ :: x169_ :: x170_ :: x171_ :: x172_ :: x173_ :: x174_ :: x175_ :: x176_ :: x177_ :: x178_ :: x179_ :: x180_ :: x181_ :: x182_ :: x183_ :: x184_ :: x185_ :: x186_ :: x187_ :: x188_ :: x189_ :: x190_ :: x191_ :: x192_ :: x193_ :: x194_ :: x195_ :: x196_ :: x197_ :: x198_ :: x199_ :: x200_ :: x201_ :: x202_ :: x203_ :: x204_ :: x205_ :: x206_ :: x207_ :: x208_ :: x209_ :: x210_ :: x211_ :: x212_ :: x213_ :: x214_ :: x215_ :: x216_ :: x217_ :: x218_ :: x219_ :: x220_ :: x221_ :: x222_ :: x223_ :: x224_ :: x225_ :: x226_ :: x227_ :: x228_ :: x229_ :: x230_ :: x231_ :: x232_ :: x233_ :: x234_ :: x235_ :: x236_ :: x237_ :: x238_ :: x239_ :: x240_ :: x241_ :: x242_ :: x243_ :: x244_ :: x245_ :: x246_ :: x247_ :: x248_ :: x249_ :: x250_ :: x251_ :: x252_ :: x253_ :: x254_ :: x255_ :: x256_ :: x257_ :: x258_ :: x259_ :: x260_ :: x261_ :: x262_ :: x263_ :: x264_ :: x265_ :: x266_ :: x267_ :: x268_ :: x269_ :: x270_ :: x271_ :: x272_ :: x273_ :: x274_ :: x275_ :: x276_ :: x277_ :: x278_ :: x279_ :: x280_ :: x281_ :: x282_ :: x283_ :: x284_ :: x285_ :: x286_ :: x287_ :: x288_ :: x289_ :: x290_ :: x291_ :: x292_ :: x293_ :: x294_ :: []), []⟩ w47 := by
  intro Kst_ hst_
  conv => arg 2; whnf
  conv at hst_ => enter [a_, w_, 1, 2]; whnf
  have y8 := (M.out.2.2.2.2.2.2.2.2.1).c4; have p8_0 := y8.1; have q8_0 := y8.2.1; have p8_1 := y8.2.2.1; have q8_1 := y8.2.2.2.1; have p8_2 := y8.2.2.2.2.1; have q8_2 := y8.2.2.2.2.2.1; have p8_3 := y8.2.2.2.2.2.2.1; have q8_3 := y8.2.2.2.2.2.2.2; clear y8
  have y0 := (M.out.2.2.2.2.2.2.1).c4; have p0_0 := y0.1; have q0_0 := y0.2.1; have p0_1 := y0.2.2.1; have q0_1 := y0.2.2.2.1; have p0_2 := y0.2.2.2.2.1; have q0_2 := y0.2.2.2.2.2.1; have p0_3 := y0.2.2.2.2.2.2.1; have q0_3 := y0.2.2.2.2.2.2.2; clear y0
  go_wp2_with fail
  clear p8_0 q8_0 p8_1 q8_1 p8_2 q8_2 p8_3 q8_3 p0_0 q0_0 p0_1 q0_1 p0_2 q0_2 p0_3 q0_3
  refine (rfsame_q (G := G) (q := q) (r := q) (M.out.2.2.2.2.2.1) (H1.out.keep (M.out.2.2.2.2.2.2.2.2.2.2.2.2)) (Fz.mono HQ.out (by omega)) rfl).mono ?_
  rintro e w48 ⟨rfl, hb⟩
  replace M := Lib.hid (Goes.go M.out hb)
  clear hb
  have y9 := (M.out.2.2.2.2.2.2.2.2.2.1).c4; have p9_0 := y9.1; have q9_0 := y9.2.1; have p9_1 := y9.2.2.1; have q9_1 := y9.2.2.2.1; have p9_2 := y9.2.2.2.2.1; have q9_2 := y9.2.2.2.2.2.1; have p9_3 := y9.2.2.2.2.2.2.1; have q9_3 := y9.2.2.2.2.2.2.2; clear y9
  have y1 := (M.out.2.2.2.2.2.2.2.1).c4; have p1_0 := y1.1; have q1_0 := y1.2.1; have p1_1 := y1.2.2.1; have q1_1 := y1.2.2.2.1; have p1_2 := y1.2.2.2.2.1; have q1_2 := y1.2.2.2.2.2.1; have p1_3 := y1.2.2.2.2.2.2.1; have q1_3 := y1.2.2.2.2.2.2.2; clear y1
  go_wp2_with fail
  clear p9_0 q9_0 p9_1 q9_1 p9_2 q9_2 p9_3 q9_3 p1_0 q1_0 p1_1 q1_1 p1_2 q1_2 p1_3 q1_3
  refine (rfsame_q (G := G) (q := r) (r := r) (M.out.2.2.2.2.1) (H2.out.keep (M.out.2.2.2.2.2.2.2.2.2.2.2.2)) (Fz.mono HR.out (by omega)) rfl).mono ?_
  rintro e w49 ⟨rfl, hb⟩
  replace M := Lib.hid (Goes.go M.out hb)
  clear hb
  go_upto_region 24 with fail
  replace M := Lib.hid (And.intro (M.out.1) (And.intro (M.out.2.1) (And.intro (M.out.2.2.1) (And.intro (M.out.2.2.2.1) (And.intro (M.out.2.2.2.2.1) (And.intro (M.out.2.2.2.2.2.1) (And.intro (M.out.2.2.2.2.2.2.2.2.1) (And.intro (M.out.2.2.2.2.2.2.2.2.2.1) (And.intro (M.out.2.2.2.2.2.2.2.2.2.2.1) (And.intro (M.out.2.2.2.2.2.2.2.2.2.2.2.1) (M.out.2.2.2.2.2.2.2.2.2.2.2.2)))))))))))
  rename_i Kst_ hst_
  exact order_le_s24 hG HQ HR HU wn wm hbz HBZ n1 n2 HK HK2 HK3 HSUB HSW HPL HTM HNG n3 HLO HHI HT HM H1 H2 H3 Eq93 Sq93 Eq81 Sq81 Eq75 Sq75 (by omega) (by omega) (by omega) (by omega) (by omega) M Kst_ hst_

set_option maxRecDepth 100000 in
set_option maxHeartbeats 4000000 in
theorem order_le_s22 {k k2 k3 m : Int} {bz : Bool} {q r u : Rat} {a1 b1 a2 b2 a3 b3 : Option Addr} {c1 d1 c2 d2 c3 d3 : Nat} {w : World}  {w46 : World} {a_77 b_79 a_71 b_73 a_66 b_68 a_61 b_63 : Option Addr} {c_78 d_80 c_72 d_74 c_67 d_69 c_62 d_64 : Nat} {q81 q75 : Rat} {B0 B1 B8 B9 B10 B11 : Nat} {x0_ x1_ x2_ x5_ x8_ x9_ x11_ x13_ x15_ x17_ x23_ x24_ x25_ x26_ x27_ x28_ x29_ x30_ x31_ x32_ x33_ x34_ x35_ x36_ x37_ x38_ x39_ x40_ x41_ x42_ x43_ x44_ x45_ x46_ x47_ x48_ x49_ x50_ x51_ x52_ x53_ x54_ x55_ x56_ x57_ x58_ x59_ x60_ x61_ x62_ x63_ x64_ x65_ x66_ x67_ x68_ x69_ x70_ x71_ x72_ x73_ x74_ x75_ x76_ x77_ x78_ x79_ x80_ x81_ x82_ x83_ x84_ x85_ x86_ x87_ x88_ x89_ x90_ x91_ x92_ x93_ x94_ x95_ x96_ x97_ x98_ x99_ x100_ x101_ x102_ x103_ x104_ x105_ x106_ x107_ x108_ x109_ x110_ x111_ x112_ x113_ x114_ x115_ x116_ x117_ x118_ x119_ x120_ x121_ x122_ x123_ x124_ x125_ x126_ x127_ x128_ x129_ x130_ x131_ x132_ x133_ x134_ x135_ x136_ x137_ x138_ x139_ x140_ x141_ x142_ x143_ x144_ x145_ x146_ x147_ x148_ x149_ x150_ x151_ x152_ x153_ x154_ x155_ x156_ x157_ x158_ x159_ x160_ x161_ x162_ x163_ x164_ x165_ x166_ x167_ x168_ x169_ x170_ x171_ x172_ x173_ x174_ x175_ x176_ x177_ x178_ x179_ x180_ x181_ x182_ x183_ x184_ x185_ x186_ x187_ x188_ x189_ x190_ x191_ x192_ x193_ x194_ x195_ x196_ x197_ x198_ x199_ x200_ x201_ x202_ x203_ x204_ x205_ x206_ x207_ x208_ x209_ x210_ x211_ x212_ x213_ x214_ x215_ x216_ x217_ x218_ x219_ x220_ x221_ x222_ x223_ x224_ x225_ x226_ x227_ x228_ x229_ x230_ x231_ : Value} (hG : G ≤ w.heap.size) (HQ : Hid (Fz q 12)) (HR : Hid (Fz r 12)) (HU : Hid (Fz u 12)) (wn : IntKind.i64.wrap (-k) = -k) (wm : IntKind.i64.wrap (k * sg (nu u)) = m) (hbz : (k == 0) = bz) (HBZ : Hid (decide (q = r) = bz)) (n1 : decide (k < -1) = false) (n2 : decide (1 < k) = false) (HK : Hid (ordQ q r = k)) (HK2 : Hid (ordQ r u = k2)) (HK3 : Hid (ordQ q u = k3)) (HSUB : Hid (sg (nu (q - r)) = k)) (HSW : Hid (ordQ r q = -k)) (HPL : Hid (ordQ (q + u) (r + u) = k)) (HTM : Hid (ordQ (q * u) (r * u) = m)) (HNG : Hid (ordQ (-q) (-r) = -k)) (n3 : decide (k ≤ 0) = true) (HLO : Hid (pick q r (-1) = q)) (HHI : Hid (pick q r 1 = r)) (HT : Hid (Tab w)) (HM : Hid (Mx w)) (H1 : Hid (FD G w a1 c1 b1 d1 q)) (H2 : Hid (FD G w a2 c2 b2 d2 r)) (H3 : Hid (FD G w a3 c3 b3 d3 u)) (Eq81 : Hid (q81 = ((q + r)))) (Sq81 : Hid (Fz q81 25)) (Eq75 : Hid (q75 = ((q + r)))) (Sq75 : Hid (Fz q75 25)) (oB0 : w.heap.size ≤ B0) (oB1 : B0 < B1) (oB8 : B1 < B8) (oB9 : B8 < B9) (oB10 : B9 < B10) (oB11 : B10 < B11) (M : Hid (Bx w46 B11 26 #[.int .i64 (sg (nu q81)), .slice a_77 (ln (nu q81)) c_78, .int .i64 (sg (de q81)), .slice b_79 (ln (de q81)) d_80] ∧ FD G w46 a_77 c_78 b_79 d_80 q81 ∧ Bx w46 B10 26 #[.int .i64 (sg (nu q75)), .slice a_71 (ln (nu q75)) c_72, .int .i64 (sg (de q75)), .slice b_73 (ln (de q75)) d_74] ∧ FD G w46 a_71 c_72 b_73 d_74 q75 ∧ Bx w46 B9 26 #[.int .i64 (sg (nu r)), .slice a_66 (ln (nu r)) c_67, .int .i64 (sg (de r)), .slice b_68 (ln (de r)) d_69] ∧ FD G w46 a_66 c_67 b_68 d_69 r ∧ Bx w46 B8 26 #[.int .i64 (sg (nu q)), .slice a_61 (ln (nu q)) c_62, .int .i64 (sg (de q)), .slice b_63 (ln (de q)) d_64] ∧ FD G w46 a_61 c_62 b_63 d_64 q ∧ Bx w46 B1 26 #[.int .i64 (sg (nu r)), .slice a2 (ln (nu r)) c2, .int .i64 (sg (de r)), .slice b2 (ln (de r)) d2] ∧ Bx w46 B0 26 #[.int .i64 (sg (nu q)), .slice a1 (ln (nu q)) c1, .int .i64 (sg (de q)), .slice b1 (ln (de q)) d1] ∧ Below w.heap.size w w46)) :
    ∀ K : Act → World → Prop, (∀ a_ w_, Code.wp Tryz.prog (restAt Tryz.f5 22) (bodyPost Tryz.prog Tryz.f5 fun e w' => e = .returned (.bool true) ∧ Below w.heap.size w w') a_ w_ → K a_ w_) → Code.wp Tryz.prog (regAt Tryz.f5 22) (Exit.then K (bodyPost Tryz.prog Tryz.f5 fun e w' => e = .returned (.bool true) ∧ Below w.heap.size w w')) ⟨List.toArray (x0_ :: x1_ :: x2_ :: .pointer (some ⟨B0, 0, none⟩) :: .pointer (some ⟨B1, 0, none⟩) :: x5_ :: .bool false :: .bool true :: x8_ :: x9_ :: .bool true :: x11_ :: .bool true :: x13_ :: .bool true :: x15_ :: .bool true :: x17_ :: .bool true :: .pointer (some ⟨B8, 0, none⟩) :: .pointer (some ⟨B9, 0, none⟩) :: .pointer (some ⟨B10, 0, none⟩) :: .pointer (some ⟨B11, 0, none⟩) :: x23_ :: x24_ :: x25_ :: x26_ :: x27_ :: x28_ :: x29_ :: x30_ :: x31_ :: x32_ :: x33_ :: x34_ :: x35_ :: x36_ :: x37_ :: x38_ :: x39_ :: x40_ :: x41_ :: x42_ :: x43_ :: x44_ :: x45_ :: x46_ :: x47_ :: x48_ :: x49_ :: x50_ :: x51_ :: x52_ :: x53_ :: x54_ :: x55_ :: x56_ :: x57_ :: x58_ :: x59_ :: x60_ :: x61_ :: x62_ :: x63_ :: x64_ :: x65_ :: x66_ :: x67_ :: x68_ :: x69_ :: x70_ :: x71_ :: x72_ :: x73_ :: x74_ :: x75_ :: x76_ :: x77_ :: x78_ :: x79_ :: x80_ :: x81_ :: x82_ :: x83_ :: x84_ :: x85_ :: x86_ :: x87_ :: x88_ :: x89_ :: x90_ :: x91_ :: x92_ :: x93_ :: x94_ :: x95_ :: x96_ :: x97_ :: x98_ :: x99_ :: x100_ :: x101_ :: x102_ :: x103_ :: x104_ :: x105_ :: x106_ :: x107_ :: x108_ :: x109_ :: x110_ :: x111_ :: x112_ :: x113_ :: x114_ :: x115_ :: x116_ :: x117_ :: x118_ :: x119_ :: x120_ :: x121_ :: x122_ :: x123_ :: x124_ :: x125_ :: x126_ :: x127_ :: x128_ :: x129_ :: x130_ :: x131_ :: x132_ :: x133_ :: x134_ :: x135_ :: x136_ :: x137_ :: x138_ :: x139_ :: x140_ :: x141_ :: x142_ :: x143_ :: x144_ :: x145_ :: x146_ :: x147_ :: x148_ :: x149_ :: x150_ :: x151_ :: x152_ :: x153_ :: x154_ :: x155_ :: x156_ :: x157_ :: x158_ :: x159_ :: x160_ :: x161_ :: x162_ :: x163_ :: x164_ :: x165_ :: x166_ :: x167_ :: x168_ :: x169_ :: x170_ :: x171_ :: x172_ :: x173_ :: x174_ :: x175_ :: x176_ :: x177_ :: x178_ :: x179_ :: x180_ :: x181_ :: x182_ :: x183_ :: x184_ :: x185_ :: x186_ :: x187_ :: x188_ :: x189_ :: x190_ :: x191_ :: x192_ :: x193_ :: x194_ :: x195_ :: x196_ :: x197_ :: x198_ :: x199_ :: x200_ :: x201_ :: x202_ :: x203_ :: x204_ :: x205_ :: x206_ :: x207_ :: x208_ :: x209_ :: x210_ :: x211_ :: x212_ :: x213_ :: x214_ :: x215_ :: x216_ :: x217_ :: x218_ :: x219_ :: x220_ :: x221_ :: x222_ :: x223_ :: x224_ :: x225_ :: x226_ :: x227_ :: x228_ :: x229_ :: x230_ :: x231_ :: undef :: undef :: undef :: undef :: undef :: undef :: undef :: undef :: undef :: undef :: undef :: undef :: undef :: undef :: undef :: undef :: undef :: undef :: undef :: undef :: undef :: undef :: undef :: undef :: undef :: undef :: undef :: undef :: undef :: undef :: undef :: undef :: undef :: undef :: undef :: undef :: undef :: undef :: undef :: undef :: undef :: undef :: undef :: undef :: undef :: undef :: undef :: undef :: undef :: undef :: undef :: undef :: undef :: undef :: undef :: undef :: undef :: undef :: undef :: undef :: undef :: undef :: undef :: []), []⟩ w46 := by
  intro Kst_ hst_
  conv => arg 2; whnf
  conv at hst_ => enter [a_, w_, 1, 2]; whnf
  go_upto_region 22 with fail
  go_cut [23, 18] (fun s23 s18 wx => ∃ (A95 : Nat), ∃ (a_83 : Option Addr), ∃ (c_84 : Nat), ∃ (b_85 : Option Addr), ∃ (d_86 : Nat), ∃ (q87 : Rat), ∃ (a_89 : Option Addr), ∃ (c_90 : Nat), ∃ (b_91 : Option Addr), ∃ (d_92 : Nat), ∃ (q93 : Rat), s23 = .pointer (some ⟨A95, 0, none⟩) ∧ s18 = .bool true ∧ Hid (q87 = (-q)) ∧ Hid (q93 = (q + q87)) ∧ Hid (Fz q87 12) ∧ Hid (Fz q93 25) ∧ B11 < A95 ∧ Hid (Bx wx A95 26 #[.int .i64 (sg (nu q93)), .slice a_89 (ln (nu q93)) c_90, .int .i64 (sg (de q93)), .slice b_91 (ln (de q93)) d_92] ∧ FD G wx a_89 c_90 b_91 d_92 q93 ∧ FD G wx a_83 c_84 b_85 d_86 q87 ∧ FD G wx a_77 c_78 b_79 d_80 q81 ∧ FD G wx a_71 c_72 b_73 d_74 q75 ∧ FD G wx a_66 c_67 b_68 d_69 r ∧ FD G wx a_61 c_62 b_63 d_64 q ∧ Bx wx B0 26 #[.int .i64 (sg (nu q)), .slice a1 (ln (nu q)) c1, .int .i64 (sg (de q)), .slice b1 (ln (de q)) d1] ∧ Bx wx B1 26 #[.int .i64 (sg (nu r)), .slice a2 (ln (nu r)) c2, .int .i64 (sg (de r)), .slice b2 (ln (de r)) d2] ∧ Bx wx B8 26 #[.int .i64 (sg (nu q)), .slice a_61 (ln (nu q)) c_62, .int .i64 (sg (de q)), .slice b_63 (ln (de q)) d_64] ∧ Bx wx B9 26 #[.int .i64 (sg (nu r)), .slice a_66 (ln (nu r)) c_67, .int .i64 (sg (de r)), .slice b_68 (ln (de r)) d_69] ∧ Bx wx B10 26 #[.int .i64 (sg (nu q75)), .slice a_71 (ln (nu q75)) c_72, .int .i64 (sg (de q75)), .slice b_73 (ln (de q75)) d_74] ∧ Bx wx B11 26 #[.int .i64 (sg (nu q81)), .slice a_77 (ln (nu q81)) c_78, .int .i64 (sg (de q81)), .slice b_79 (ln (de q81)) d_80] ∧ Below w.heap.size w wx))
  case first =>
    obtain ⟨w47, hv⟩ : ∃ w_ : World, w_ = w46.drew := ⟨_, rfl⟩
    replace M := Lib.hid (Goes.go M.out (hv ▸ below_drew _ : Below w46.heap.size w46 w47))
    refine wp_region_held_drew (S := (fun w' => w'.cell? ⟨B0, 0, none⟩ = some (.int .i64 (sg (nu q))) ∧ w'.cell? ⟨B0, 1, none⟩ = some (.slice a1 (ln (nu q)) c1) ∧ w'.cell? ⟨B0, 2, none⟩ = some (.int .i64 (sg (de q))) ∧ w'.cell? ⟨B0, 3, none⟩ = some (.slice b1 (ln (de q)) d1))) (by kernel_rfl) (by rw [← hv]; exact ⟨(M.out.2.2.2.2.2.2.2.2.2.1).at.1 0, (M.out.2.2.2.2.2.2.2.2.2.1).at.1 1, (M.out.2.2.2.2.2.2.2.2.2.1).at.1 2, (M.out.2.2.2.2.2.2.2.2.2.1).at.1 3⟩) (fun hH96 => ?_)
    rw [← hv] at hH96 ⊢
    clear hv
    refine tk at0 ?_
    refine tk at1 ?_
    refine wpAnyH_ready (rs := [2, 10]) (by kernel_rfl) (by simp) ?_
    refine AllReadyH.cons at2 (fun K hK => ?_) ?_
    ·
      go_simp
      obtain ⟨q101, eq101⟩ : ∃ v_ : Rat, v_ = (-q) := ⟨_, rfl⟩
      refine (fracNeg_ok (G := G) (q := q) (Nat.le_trans hG (M.out.2.2.2.2.2.2.2.2.2.2).size) (H1.out.keep (M.out.2.2.2.2.2.2.2.2.2.2)) (Fz.mono HQ.out (by omega))).mono ?_
      rintro e w48 ⟨a_97, c_98, b_99, d_100, rfl, hd102, hb⟩
      rw [← eq101] at hd102 ⊢
      have Sq101 : Hid (Fz q101 12) := by show Fz q101 12; rw [eq101]; exact (Fz.neg HQ.out)
      have Eq101 := Lib.hid eq101; clear eq101
      replace M := Lib.hid (And.intro hd102 (Goes.go M.out hb))
      clear hb hd102
      (try go_wp2_with fail)
      refine hK.out _ _ (⟨(M.out.2.2.2.2.2.2.2.2.2.2.1).at.1 0, (M.out.2.2.2.2.2.2.2.2.2.2.1).at.1 1, (M.out.2.2.2.2.2.2.2.2.2.2.1).at.1 2, (M.out.2.2.2.2.2.2.2.2.2.2.1).at.1 3⟩) (fun hH103 => ?_)
      clear hK K hH96
      (try simp only [Act.put, List.setIfInBounds_toArray, List.set_cons_zero, List.set_cons_succ])
      refine wpAnyH_ready (rs := [3, 10]) (by kernel_rfl) (by simp) ?_
      refine AllReadyH.cons at3 (fun K hK => ?_) ?_
      ·
        go_simp
        obtain ⟨q108, eq108⟩ : ∃ v_ : Rat, v_ = (q + q101) := ⟨_, rfl⟩
        refine (fracAdd_ok (G := G) (q := q) (r := q101) (H1.out.keep (M.out.2.2.2.2.2.2.2.2.2.2.2)) (M.out.1) (Fz.mono HQ.out (by omega)) (Fz.mono Sq101.out (by omega))).mono ?_
        rintro e w49 ⟨a_104, c_105, b_106, d_107, rfl, hd109, hb⟩
        rw [← eq108] at hd109 ⊢
        have Sq108 : Hid (Fz q108 25) := by show Fz q108 25; rw [eq108]; exact (Fz.add HQ.out Sq101.out)
        have Eq108 := Lib.hid eq108; clear eq108
        replace M := Lib.hid (And.intro hd109 (Goes.go M.out hb))
        clear hb hd109
        (try go_wp2_with fail)
        refine hK.out _ _ (⟨(M.out.2.2.2.2.2.2.2.2.2.2.2.1).at.1 0, (M.out.2.2.2.2.2.2.2.2.2.2.2.1).at.1 1, (M.out.2.2.2.2.2.2.2.2.2.2.2.1).at.1 2, (M.out.2.2.2.2.2.2.2.2.2.2.2.1).at.1 3⟩) (fun hH110 => ?_)
        clear hK K hH103
        (try simp only [Act.put, List.setIfInBounds_toArray, List.set_cons_zero, List.set_cons_succ])
        refine tk at4 ?_
        refine tk at5 ?_
        refine wpAnyH_ready (rs := [6, 10]) (by kernel_rfl) (by simp) ?_
        refine AllReadyH.cons at6 (fun K hK => ?_) ?_
        ·
          go_simp
          refine (right_ok (G := G) (q := q108) (M.out.1) (Fz.mono Sq108.out (by omega))).mono ?_
          rintro e w50 ⟨rfl, hb⟩
          replace M := Lib.hid (Goes.go M.out hb)
          clear hb
          (try go_wp2_with fail)
          refine hK.out _ _ (⟨(M.out.2.2.2.2.2.2.2.2.2.2.2.1).at.1 0, (M.out.2.2.2.2.2.2.2.2.2.2.2.1).at.1 1, (M.out.2.2.2.2.2.2.2.2.2.2.2.1).at.1 2, (M.out.2.2.2.2.2.2.2.2.2.2.2.1).at.1 3⟩) (fun hH111 => ?_)
          clear hK K hH110
          (try simp only [Act.put, List.setIfInBounds_toArray, List.set_cons_zero, List.set_cons_succ])
          refine tk at7 ?_
          refine tk at8 ?_
          refine tk at9 ?_
          refine wpAnyH_ready (rs := [10]) (by kernel_rfl) (by simp) ?_
          refine AllReadyH.cons at10 (fun K hK => ?_) AllReadyH.nil
          go_simp
          obtain ⟨w51, hv⟩ : ∃ w_ : World, w_ = (w50.alloc (.cells #[.int .i64 0, .slice none 0 0, .int .i64 0, .slice none 0 0] 26)) := ⟨_, rfl⟩
          rw [← hv]
          have o12 : B11 < w50.heap.size := ((M.out.2.2.1)).lt
          replace M := Lib.hid (And.intro (hv ▸ bx1 w50 26 #[.int .i64 0, .slice none 0 0, .int .i64 0, .slice none 0 0]) (Goes.go M.out (hv ▸ below_alloc _ _ : Below w50.heap.size w50 w51)))
          clear hv
          refine hK.out _ _ (⟨(M.out.2.2.2.2.2.2.2.2.2.2.2.2.1).at.1 0, (M.out.2.2.2.2.2.2.2.2.2.2.2.2.1).at.1 1, (M.out.2.2.2.2.2.2.2.2.2.2.2.2.1).at.1 2, (M.out.2.2.2.2.2.2.2.2.2.2.2.2.1).at.1 3⟩) (fun hH112 => ?_)
          clear hK K hH111
          (try simp only [Act.put, List.setIfInBounds_toArray, List.set_cons_zero, List.set_cons_succ])
          refine wpAnyH_ready (rs := [11]) (by kernel_rfl) (by simp) ?_
          refine AllReadyH.cons at11 (fun K hK => ?_) AllReadyH.nil
          have y12 := (M.out.1).c4; have p12_0 := y12.1; have q12_0 := y12.2.1; have p12_1 := y12.2.2.1; have q12_1 := y12.2.2.2.1; have p12_2 := y12.2.2.2.2.1; have q12_2 := y12.2.2.2.2.2.1; have p12_3 := y12.2.2.2.2.2.2.1; have q12_3 := y12.2.2.2.2.2.2.2; clear y12
          go_simp
          clear p12_0 q12_0 p12_1 q12_1 p12_2 q12_2 p12_3 q12_3
          obtain ⟨w52, hv⟩ : ∃ w_ : World, w_ = ((((w51.setCell ⟨w50.heap.size, 0, none⟩ (.int .i64 (sg (nu q108)))).setCell ⟨w50.heap.size, 1, none⟩ (.slice a_104 (ln (nu q108)) c_105)).setCell ⟨w50.heap.size, 2, none⟩ (.int .i64 (sg (de q108)))).setCell ⟨w50.heap.size, 3, none⟩ (.slice b_106 (ln (de q108)) d_107)) := ⟨_, rfl⟩
          rw [← hv]
          have og : w51.grownBy w52 (some w50.heap.size) := by rw [hv]; exact (only_setCell (only_setCell (only_setCell (only_setCell (World.grownBy.refl _ _) _) _) _) _)
          have hz : w.heap.size ≤ w50.heap.size := by omega
          have hk : Bx w52 w50.heap.size 26 #[.int .i64 (sg (nu q108)), .slice a_104 (ln (nu q108)) c_105, .int .i64 (sg (de q108)), .slice b_106 (ln (de q108)) d_107] := by rw [hv]; exact (((((M.out.1).set 0 _).set 1 _).set 2 _).set 3 _)
          have hbw : Below w.heap.size w w52 := by rw [hv]; exact (Below.setCell (Below.setCell (Below.setCell (Below.setCell (M.out.2.2.2.2.2.2.2.2.2.2.2.2.2) (by omega) _) (by omega) _) (by omega) _) (by omega) _)
          replace M := Lib.hid (And.intro hk (And.intro ((M.out.2.1).far (M.out.1) (by rfl) (by omega) og) (And.intro ((M.out.2.2.1).far (M.out.1) (by rfl) (by omega) og) (And.intro ((M.out.2.2.2.1).only og (by omega)) (And.intro ((M.out.2.2.2.2.1).far (M.out.1) (by rfl) (by omega) og) (And.intro ((M.out.2.2.2.2.2.1).only og (by omega)) (And.intro ((M.out.2.2.2.2.2.2.1).far (M.out.1) (by rfl) (by omega) og) (And.intro ((M.out.2.2.2.2.2.2.2.1).only og (by omega)) (And.intro ((M.out.2.2.2.2.2.2.2.2.1).far (M.out.1) (by rfl) (by omega) og) (And.intro ((M.out.2.2.2.2.2.2.2.2.2.1).only og (by omega)) (And.intro ((M.out.2.2.2.2.2.2.2.2.2.2.1).far (M.out.1) (by rfl) (by omega) og) (And.intro ((M.out.2.2.2.2.2.2.2.2.2.2.2.1).only og (by omega)) (And.intro ((M.out.2.2.2.2.2.2.2.2.2.2.2.2.1).only og (by omega)) hbw)))))))))))))
          clear hk hbw og hv hz
          refine hK.out _ _ (⟨(M.out.2.2.2.2.2.2.2.2.2.2.2.2.1).at.1 0, (M.out.2.2.2.2.2.2.2.2.2.2.2.2.1).at.1 1, (M.out.2.2.2.2.2.2.2.2.2.2.2.2.1).at.1 2, (M.out.2.2.2.2.2.2.2.2.2.2.2.2.1).at.1 3⟩) (fun hH113 => ?_)
          clear hK K hH112
          (try simp only [Act.put, List.setIfInBounds_toArray, List.set_cons_zero, List.set_cons_succ])
          refine tk at12 ?_
          refine wpAnyH_done (by kernel_rfl) ?_ _
          clear hH113
          go_wp2_with fail
          go_meet
          exact ⟨w50.heap.size, a_97, c_98, b_99, d_100, q101, a_104, c_105, b_106, d_107, q108, rfl, rfl, Eq101, Eq108, Sq101, Sq108, (by omega), (M.out.1), (M.out.2.1), (M.out.2.2.1), (M.out.2.2.2.2.1), (M.out.2.2.2.2.2.2.1), (M.out.2.2.2.2.2.2.2.2.1), (M.out.2.2.2.2.2.2.2.2.2.2.1), (M.out.2.2.2.2.2.2.2.2.2.2.2.2.1), (M.out.2.2.2.2.2.2.2.2.2.2.2.1), (M.out.2.2.2.2.2.2.2.2.2.1), (M.out.2.2.2.2.2.2.2.1), (M.out.2.2.2.2.2.1), (M.out.2.2.2.1), (M.out.2.2.2.2.2.2.2.2.2.2.2.2.2)⟩
        refine AllReadyH.cons at10 (fun K hK => ?_) AllReadyH.nil
        go_simp
        obtain ⟨w50, hv⟩ : ∃ w_ : World, w_ = (w49.alloc (.cells #[.int .i64 0, .slice none 0 0, .int .i64 0, .slice none 0 0] 26)) := ⟨_, rfl⟩
        rw [← hv]
        have o12 : B11 < w49.heap.size := ((M.out.2.2.1)).lt
        replace M := Lib.hid (And.intro (hv ▸ bx1 w49 26 #[.int .i64 0, .slice none 0 0, .int .i64 0, .slice none 0 0]) (Goes.go M.out (hv ▸ below_alloc _ _ : Below w49.heap.size w49 w50)))
        clear hv
        refine hK.out _ _ (⟨(M.out.2.2.2.2.2.2.2.2.2.2.2.2.1).at.1 0, (M.out.2.2.2.2.2.2.2.2.2.2.2.2.1).at.1 1, (M.out.2.2.2.2.2.2.2.2.2.2.2.2.1).at.1 2, (M.out.2.2.2.2.2.2.2.2.2.2.2.2.1).at.1 3⟩) (fun hH114 => ?_)
        clear hK K hH110
        (try simp only [Act.put, List.setIfInBounds_toArray, List.set_cons_zero, List.set_cons_succ])
        refine wpAnyH_ready (rs := [6]) (by kernel_rfl) (by simp) ?_
        refine AllReadyH.cons at6 (fun K hK => ?_) AllReadyH.nil
        go_simp
        refine (right_ok (G := G) (q := q108) (M.out.2.1) (Fz.mono Sq108.out (by omega))).mono ?_
        rintro e w51 ⟨rfl, hb⟩
        replace M := Lib.hid (Goes.go M.out hb)
        clear hb
        (try go_wp2_with fail)
        refine hK.out _ _ (⟨(M.out.2.2.2.2.2.2.2.2.2.2.2.2.1).at.1 0, (M.out.2.2.2.2.2.2.2.2.2.2.2.2.1).at.1 1, (M.out.2.2.2.2.2.2.2.2.2.2.2.2.1).at.1 2, (M.out.2.2.2.2.2.2.2.2.2.2.2.2.1).at.1 3⟩) (fun hH115 => ?_)
        clear hK K hH114
        (try simp only [Act.put, List.setIfInBounds_toArray, List.set_cons_zero, List.set_cons_succ])
        refine tk at7 ?_
        refine tk at8 ?_
        refine tk at9 ?_
        refine wpAnyH_ready (rs := [11]) (by kernel_rfl) (by simp) ?_
        refine AllReadyH.cons at11 (fun K hK => ?_) AllReadyH.nil
        have y12 := (M.out.1).c4; have p12_0 := y12.1; have q12_0 := y12.2.1; have p12_1 := y12.2.2.1; have q12_1 := y12.2.2.2.1; have p12_2 := y12.2.2.2.2.1; have q12_2 := y12.2.2.2.2.2.1; have p12_3 := y12.2.2.2.2.2.2.1; have q12_3 := y12.2.2.2.2.2.2.2; clear y12
        go_simp
        clear p12_0 q12_0 p12_1 q12_1 p12_2 q12_2 p12_3 q12_3
        obtain ⟨w52, hv⟩ : ∃ w_ : World, w_ = ((((w51.setCell ⟨w49.heap.size, 0, none⟩ (.int .i64 (sg (nu q108)))).setCell ⟨w49.heap.size, 1, none⟩ (.slice a_104 (ln (nu q108)) c_105)).setCell ⟨w49.heap.size, 2, none⟩ (.int .i64 (sg (de q108)))).setCell ⟨w49.heap.size, 3, none⟩ (.slice b_106 (ln (de q108)) d_107)) := ⟨_, rfl⟩
        rw [← hv]
        have og : w51.grownBy w52 (some w49.heap.size) := by rw [hv]; exact (only_setCell (only_setCell (only_setCell (only_setCell (World.grownBy.refl _ _) _) _) _) _)
        have hz : w.heap.size ≤ w49.heap.size := by omega
        have hk : Bx w52 w49.heap.size 26 #[.int .i64 (sg (nu q108)), .slice a_104 (ln (nu q108)) c_105, .int .i64 (sg (de q108)), .slice b_106 (ln (de q108)) d_107] := by rw [hv]; exact (((((M.out.1).set 0 _).set 1 _).set 2 _).set 3 _)
        have hbw : Below w.heap.size w w52 := by rw [hv]; exact (Below.setCell (Below.setCell (Below.setCell (Below.setCell (M.out.2.2.2.2.2.2.2.2.2.2.2.2.2) (by omega) _) (by omega) _) (by omega) _) (by omega) _)
        replace M := Lib.hid (And.intro hk (And.intro ((M.out.2.1).far (M.out.1) (by rfl) (by omega) og) (And.intro ((M.out.2.2.1).far (M.out.1) (by rfl) (by omega) og) (And.intro ((M.out.2.2.2.1).only og (by omega)) (And.intro ((M.out.2.2.2.2.1).far (M.out.1) (by rfl) (by omega) og) (And.intro ((M.out.2.2.2.2.2.1).only og (by omega)) (And.intro ((M.out.2.2.2.2.2.2.1).far (M.out.1) (by rfl) (by omega) og) (And.intro ((M.out.2.2.2.2.2.2.2.1).only og (by omega)) (And.intro ((M.out.2.2.2.2.2.2.2.2.1).far (M.out.1) (by rfl) (by omega) og) (And.intro ((M.out.2.2.2.2.2.2.2.2.2.1).only og (by omega)) (And.intro ((M.out.2.2.2.2.2.2.2.2.2.2.1).far (M.out.1) (by rfl) (by omega) og) (And.intro ((M.out.2.2.2.2.2.2.2.2.2.2.2.1).only og (by omega)) (And.intro ((M.out.2.2.2.2.2.2.2.2.2.2.2.2.1).only og (by omega)) hbw)))))))))))))
        clear hk hbw og hv hz
        refine hK.out _ _ (⟨(M.out.2.2.2.2.2.2.2.2.2.2.2.2.1).at.1 0, (M.out.2.2.2.2.2.2.2.2.2.2.2.2.1).at.1 1, (M.out.2.2.2.2.2.2.2.2.2.2.2.2.1).at.1 2, (M.out.2.2.2.2.2.2.2.2.2.2.2.2.1).at.1 3⟩) (fun hH116 => ?_)
        clear hK K hH115
        (try simp only [Act.put, List.setIfInBounds_toArray, List.set_cons_zero, List.set_cons_succ])
        refine tk at12 ?_
        refine wpAnyH_done (by kernel_rfl) ?_ _
        clear hH116
        go_wp2_with fail
        go_meet
        exact ⟨w49.heap.size, a_97, c_98, b_99, d_100, q101, a_104, c_105, b_106, d_107, q108, rfl, rfl, Eq101, Eq108, Sq101, Sq108, (by omega), (M.out.1), (M.out.2.1), (M.out.2.2.1), (M.out.2.2.2.2.1), (M.out.2.2.2.2.2.2.1), (M.out.2.2.2.2.2.2.2.2.1), (M.out.2.2.2.2.2.2.2.2.2.2.1), (M.out.2.2.2.2.2.2.2.2.2.2.2.2.1), (M.out.2.2.2.2.2.2.2.2.2.2.2.1), (M.out.2.2.2.2.2.2.2.2.2.1), (M.out.2.2.2.2.2.2.2.1), (M.out.2.2.2.2.2.1), (M.out.2.2.2.1), (M.out.2.2.2.2.2.2.2.2.2.2.2.2.2)⟩
      refine AllReadyH.cons at10 (fun K hK => ?_) AllReadyH.nil
      go_simp
      obtain ⟨w49, hv⟩ : ∃ w_ : World, w_ = (w48.alloc (.cells #[.int .i64 0, .slice none 0 0, .int .i64 0, .slice none 0 0] 26)) := ⟨_, rfl⟩
      rw [← hv]
      have o12 : B11 < w48.heap.size := ((M.out.2.1)).lt
      replace M := Lib.hid (And.intro (hv ▸ bx1 w48 26 #[.int .i64 0, .slice none 0 0, .int .i64 0, .slice none 0 0]) (Goes.go M.out (hv ▸ below_alloc _ _ : Below w48.heap.size w48 w49)))
      clear hv
      refine hK.out _ _ (⟨(M.out.2.2.2.2.2.2.2.2.2.2.2.1).at.1 0, (M.out.2.2.2.2.2.2.2.2.2.2.2.1).at.1 1, (M.out.2.2.2.2.2.2.2.2.2.2.2.1).at.1 2, (M.out.2.2.2.2.2.2.2.2.2.2.2.1).at.1 3⟩) (fun hH117 => ?_)
      clear hK K hH103
      (try simp only [Act.put, List.setIfInBounds_toArray, List.set_cons_zero, List.set_cons_succ])
      refine wpAnyH_ready (rs := [3]) (by kernel_rfl) (by simp) ?_
      refine AllReadyH.cons at3 (fun K hK => ?_) AllReadyH.nil
      go_simp
      obtain ⟨q122, eq122⟩ : ∃ v_ : Rat, v_ = (q + q101) := ⟨_, rfl⟩
      refine (fracAdd_ok (G := G) (q := q) (r := q101) (H1.out.keep (M.out.2.2.2.2.2.2.2.2.2.2.2.2)) (M.out.2.1) (Fz.mono HQ.out (by omega)) (Fz.mono Sq101.out (by omega))).mono ?_
      rintro e w50 ⟨a_118, c_119, b_120, d_121, rfl, hd123, hb⟩
      rw [← eq122] at hd123 ⊢
      have Sq122 : Hid (Fz q122 25) := by show Fz q122 25; rw [eq122]; exact (Fz.add HQ.out Sq101.out)
      have Eq122 := Lib.hid eq122; clear eq122
      replace M := Lib.hid (And.intro hd123 (Goes.go M.out hb))
      clear hb hd123
      (try go_wp2_with fail)
      refine hK.out _ _ (⟨(M.out.2.2.2.2.2.2.2.2.2.2.2.2.1).at.1 0, (M.out.2.2.2.2.2.2.2.2.2.2.2.2.1).at.1 1, (M.out.2.2.2.2.2.2.2.2.2.2.2.2.1).at.1 2, (M.out.2.2.2.2.2.2.2.2.2.2.2.2.1).at.1 3⟩) (fun hH124 => ?_)
      clear hK K hH117
      (try simp only [Act.put, List.setIfInBounds_toArray, List.set_cons_zero, List.set_cons_succ])
      refine tk at4 ?_
      refine tk at5 ?_
      refine wpAnyH_ready (rs := [6]) (by kernel_rfl) (by simp) ?_
      refine AllReadyH.cons at6 (fun K hK => ?_) AllReadyH.nil
      go_simp
      refine (right_ok (G := G) (q := q122) (M.out.1) (Fz.mono Sq122.out (by omega))).mono ?_
      rintro e w51 ⟨rfl, hb⟩
      replace M := Lib.hid (Goes.go M.out hb)
      clear hb
      (try go_wp2_with fail)
      refine hK.out _ _ (⟨(M.out.2.2.2.2.2.2.2.2.2.2.2.2.1).at.1 0, (M.out.2.2.2.2.2.2.2.2.2.2.2.2.1).at.1 1, (M.out.2.2.2.2.2.2.2.2.2.2.2.2.1).at.1 2, (M.out.2.2.2.2.2.2.2.2.2.2.2.2.1).at.1 3⟩) (fun hH125 => ?_)
      clear hK K hH124
      (try simp only [Act.put, List.setIfInBounds_toArray, List.set_cons_zero, List.set_cons_succ])
      refine tk at7 ?_
      refine tk at8 ?_
      refine tk at9 ?_
      refine wpAnyH_ready (rs := [11]) (by kernel_rfl) (by simp) ?_
      refine AllReadyH.cons at11 (fun K hK => ?_) AllReadyH.nil
      have y12 := (M.out.2.1).c4; have p12_0 := y12.1; have q12_0 := y12.2.1; have p12_1 := y12.2.2.1; have q12_1 := y12.2.2.2.1; have p12_2 := y12.2.2.2.2.1; have q12_2 := y12.2.2.2.2.2.1; have p12_3 := y12.2.2.2.2.2.2.1; have q12_3 := y12.2.2.2.2.2.2.2; clear y12
      go_simp
      clear p12_0 q12_0 p12_1 q12_1 p12_2 q12_2 p12_3 q12_3
      obtain ⟨w52, hv⟩ : ∃ w_ : World, w_ = ((((w51.setCell ⟨w48.heap.size, 0, none⟩ (.int .i64 (sg (nu q122)))).setCell ⟨w48.heap.size, 1, none⟩ (.slice a_118 (ln (nu q122)) c_119)).setCell ⟨w48.heap.size, 2, none⟩ (.int .i64 (sg (de q122)))).setCell ⟨w48.heap.size, 3, none⟩ (.slice b_120 (ln (de q122)) d_121)) := ⟨_, rfl⟩
      rw [← hv]
      have og : w51.grownBy w52 (some w48.heap.size) := by rw [hv]; exact (only_setCell (only_setCell (only_setCell (only_setCell (World.grownBy.refl _ _) _) _) _) _)
      have hz : w.heap.size ≤ w48.heap.size := by omega
      have hk : Bx w52 w48.heap.size 26 #[.int .i64 (sg (nu q122)), .slice a_118 (ln (nu q122)) c_119, .int .i64 (sg (de q122)), .slice b_120 (ln (de q122)) d_121] := by rw [hv]; exact (((((M.out.2.1).set 0 _).set 1 _).set 2 _).set 3 _)
      have hbw : Below w.heap.size w w52 := by rw [hv]; exact (Below.setCell (Below.setCell (Below.setCell (Below.setCell (M.out.2.2.2.2.2.2.2.2.2.2.2.2.2) (by omega) _) (by omega) _) (by omega) _) (by omega) _)
      replace M := Lib.hid (And.intro ((M.out.1).far (M.out.2.1) (by rfl) (by omega) og) (And.intro hk (And.intro ((M.out.2.2.1).far (M.out.2.1) (by rfl) (by omega) og) (And.intro ((M.out.2.2.2.1).only og (by omega)) (And.intro ((M.out.2.2.2.2.1).far (M.out.2.1) (by rfl) (by omega) og) (And.intro ((M.out.2.2.2.2.2.1).only og (by omega)) (And.intro ((M.out.2.2.2.2.2.2.1).far (M.out.2.1) (by rfl) (by omega) og) (And.intro ((M.out.2.2.2.2.2.2.2.1).only og (by omega)) (And.intro ((M.out.2.2.2.2.2.2.2.2.1).far (M.out.2.1) (by rfl) (by omega) og) (And.intro ((M.out.2.2.2.2.2.2.2.2.2.1).only og (by omega)) (And.intro ((M.out.2.2.2.2.2.2.2.2.2.2.1).far (M.out.2.1) (by rfl) (by omega) og) (And.intro ((M.out.2.2.2.2.2.2.2.2.2.2.2.1).only og (by omega)) (And.intro ((M.out.2.2.2.2.2.2.2.2.2.2.2.2.1).only og (by omega)) hbw)))))))))))))
      clear hk hbw og hv hz
      refine hK.out _ _ (⟨(M.out.2.2.2.2.2.2.2.2.2.2.2.2.1).at.1 0, (M.out.2.2.2.2.2.2.2.2.2.2.2.2.1).at.1 1, (M.out.2.2.2.2.2.2.2.2.2.2.2.2.1).at.1 2, (M.out.2.2.2.2.2.2.2.2.2.2.2.2.1).at.1 3⟩) (fun hH126 => ?_)
      clear hK K hH125
      (try simp only [Act.put, List.setIfInBounds_toArray, List.set_cons_zero, List.set_cons_succ])
      refine tk at12 ?_
      refine wpAnyH_done (by kernel_rfl) ?_ _
      clear hH126
      go_wp2_with fail
      go_meet
      exact ⟨w48.heap.size, a_97, c_98, b_99, d_100, q101, a_118, c_119, b_120, d_121, q122, rfl, rfl, Eq101, Eq122, Sq101, Sq122, (by omega), (M.out.2.1), (M.out.1), (M.out.2.2.1), (M.out.2.2.2.2.1), (M.out.2.2.2.2.2.2.1), (M.out.2.2.2.2.2.2.2.2.1), (M.out.2.2.2.2.2.2.2.2.2.2.1), (M.out.2.2.2.2.2.2.2.2.2.2.2.2.1), (M.out.2.2.2.2.2.2.2.2.2.2.2.1), (M.out.2.2.2.2.2.2.2.2.2.1), (M.out.2.2.2.2.2.2.2.1), (M.out.2.2.2.2.2.1), (M.out.2.2.2.1), (M.out.2.2.2.2.2.2.2.2.2.2.2.2.2)⟩
    refine AllReadyH.cons at10 (fun K hK => ?_) AllReadyH.nil
    go_simp
    obtain ⟨w48, hv⟩ : ∃ w_ : World, w_ = (w47.alloc (.cells #[.int .i64 0, .slice none 0 0, .int .i64 0, .slice none 0 0] 26)) := ⟨_, rfl⟩
    rw [← hv]
    have o12 : B11 < w47.heap.size := ((M.out.1)).lt
    replace M := Lib.hid (And.intro (hv ▸ bx1 w47 26 #[.int .i64 0, .slice none 0 0, .int .i64 0, .slice none 0 0]) (Goes.go M.out (hv ▸ below_alloc _ _ : Below w47.heap.size w47 w48)))
    clear hv
    refine hK.out _ _ (⟨(M.out.2.2.2.2.2.2.2.2.2.2.1).at.1 0, (M.out.2.2.2.2.2.2.2.2.2.2.1).at.1 1, (M.out.2.2.2.2.2.2.2.2.2.2.1).at.1 2, (M.out.2.2.2.2.2.2.2.2.2.2.1).at.1 3⟩) (fun hH127 => ?_)
    clear hK K hH96
    (try simp only [Act.put, List.setIfInBounds_toArray, List.set_cons_zero, List.set_cons_succ])
    refine wpAnyH_ready (rs := [2]) (by kernel_rfl) (by simp) ?_
    refine AllReadyH.cons at2 (fun K hK => ?_) AllReadyH.nil
    go_simp
    obtain ⟨q132, eq132⟩ : ∃ v_ : Rat, v_ = (-q) := ⟨_, rfl⟩
    refine (fracNeg_ok (G := G) (q := q) (Nat.le_trans hG (M.out.2.2.2.2.2.2.2.2.2.2.2).size) (H1.out.keep (M.out.2.2.2.2.2.2.2.2.2.2.2)) (Fz.mono HQ.out (by omega))).mono ?_
    rintro e w49 ⟨a_128, c_129, b_130, d_131, rfl, hd133, hb⟩
    rw [← eq132] at hd133 ⊢
    have Sq132 : Hid (Fz q132 12) := by show Fz q132 12; rw [eq132]; exact (Fz.neg HQ.out)
    have Eq132 := Lib.hid eq132; clear eq132
    replace M := Lib.hid (And.intro hd133 (Goes.go M.out hb))
    clear hb hd133
    (try go_wp2_with fail)
    refine hK.out _ _ (⟨(M.out.2.2.2.2.2.2.2.2.2.2.2.1).at.1 0, (M.out.2.2.2.2.2.2.2.2.2.2.2.1).at.1 1, (M.out.2.2.2.2.2.2.2.2.2.2.2.1).at.1 2, (M.out.2.2.2.2.2.2.2.2.2.2.2.1).at.1 3⟩) (fun hH134 => ?_)
    clear hK K hH127
    (try simp only [Act.put, List.setIfInBounds_toArray, List.set_cons_zero, List.set_cons_succ])
    refine wpAnyH_ready (rs := [3]) (by kernel_rfl) (by simp) ?_
    refine AllReadyH.cons at3 (fun K hK => ?_) AllReadyH.nil
    go_simp
    obtain ⟨q139, eq139⟩ : ∃ v_ : Rat, v_ = (q + q132) := ⟨_, rfl⟩
    refine (fracAdd_ok (G := G) (q := q) (r := q132) (H1.out.keep (M.out.2.2.2.2.2.2.2.2.2.2.2.2)) (M.out.1) (Fz.mono HQ.out (by omega)) (Fz.mono Sq132.out (by omega))).mono ?_
    rintro e w50 ⟨a_135, c_136, b_137, d_138, rfl, hd140, hb⟩
    rw [← eq139] at hd140 ⊢
    have Sq139 : Hid (Fz q139 25) := by show Fz q139 25; rw [eq139]; exact (Fz.add HQ.out Sq132.out)
    have Eq139 := Lib.hid eq139; clear eq139
    replace M := Lib.hid (And.intro hd140 (Goes.go M.out hb))
    clear hb hd140
    (try go_wp2_with fail)
    refine hK.out _ _ (⟨(M.out.2.2.2.2.2.2.2.2.2.2.2.2.1).at.1 0, (M.out.2.2.2.2.2.2.2.2.2.2.2.2.1).at.1 1, (M.out.2.2.2.2.2.2.2.2.2.2.2.2.1).at.1 2, (M.out.2.2.2.2.2.2.2.2.2.2.2.2.1).at.1 3⟩) (fun hH141 => ?_)
    clear hK K hH134
    (try simp only [Act.put, List.setIfInBounds_toArray, List.set_cons_zero, List.set_cons_succ])
    refine tk at4 ?_
    refine tk at5 ?_
    refine wpAnyH_ready (rs := [6]) (by kernel_rfl) (by simp) ?_
    refine AllReadyH.cons at6 (fun K hK => ?_) AllReadyH.nil
    go_simp
    refine (right_ok (G := G) (q := q139) (M.out.1) (Fz.mono Sq139.out (by omega))).mono ?_
    rintro e w51 ⟨rfl, hb⟩
    replace M := Lib.hid (Goes.go M.out hb)
    clear hb
    (try go_wp2_with fail)
    refine hK.out _ _ (⟨(M.out.2.2.2.2.2.2.2.2.2.2.2.2.1).at.1 0, (M.out.2.2.2.2.2.2.2.2.2.2.2.2.1).at.1 1, (M.out.2.2.2.2.2.2.2.2.2.2.2.2.1).at.1 2, (M.out.2.2.2.2.2.2.2.2.2.2.2.2.1).at.1 3⟩) (fun hH142 => ?_)
    clear hK K hH141
    (try simp only [Act.put, List.setIfInBounds_toArray, List.set_cons_zero, List.set_cons_succ])
    refine tk at7 ?_
    refine tk at8 ?_
    refine tk at9 ?_
    refine wpAnyH_ready (rs := [11]) (by kernel_rfl) (by simp) ?_
    refine AllReadyH.cons at11 (fun K hK => ?_) AllReadyH.nil
    have y12 := (M.out.2.2.1).c4; have p12_0 := y12.1; have q12_0 := y12.2.1; have p12_1 := y12.2.2.1; have q12_1 := y12.2.2.2.1; have p12_2 := y12.2.2.2.2.1; have q12_2 := y12.2.2.2.2.2.1; have p12_3 := y12.2.2.2.2.2.2.1; have q12_3 := y12.2.2.2.2.2.2.2; clear y12
    go_simp
    clear p12_0 q12_0 p12_1 q12_1 p12_2 q12_2 p12_3 q12_3
    obtain ⟨w52, hv⟩ : ∃ w_ : World, w_ = ((((w51.setCell ⟨w47.heap.size, 0, none⟩ (.int .i64 (sg (nu q139)))).setCell ⟨w47.heap.size, 1, none⟩ (.slice a_135 (ln (nu q139)) c_136)).setCell ⟨w47.heap.size, 2, none⟩ (.int .i64 (sg (de q139)))).setCell ⟨w47.heap.size, 3, none⟩ (.slice b_137 (ln (de q139)) d_138)) := ⟨_, rfl⟩
    rw [← hv]
    have og : w51.grownBy w52 (some w47.heap.size) := by rw [hv]; exact (only_setCell (only_setCell (only_setCell (only_setCell (World.grownBy.refl _ _) _) _) _) _)
    have hz : w.heap.size ≤ w47.heap.size := by omega
    have hk : Bx w52 w47.heap.size 26 #[.int .i64 (sg (nu q139)), .slice a_135 (ln (nu q139)) c_136, .int .i64 (sg (de q139)), .slice b_137 (ln (de q139)) d_138] := by rw [hv]; exact (((((M.out.2.2.1).set 0 _).set 1 _).set 2 _).set 3 _)
    have hbw : Below w.heap.size w w52 := by rw [hv]; exact (Below.setCell (Below.setCell (Below.setCell (Below.setCell (M.out.2.2.2.2.2.2.2.2.2.2.2.2.2) (by omega) _) (by omega) _) (by omega) _) (by omega) _)
    replace M := Lib.hid (And.intro ((M.out.1).far (M.out.2.2.1) (by rfl) (by omega) og) (And.intro ((M.out.2.1).far (M.out.2.2.1) (by rfl) (by omega) og) (And.intro hk (And.intro ((M.out.2.2.2.1).only og (by omega)) (And.intro ((M.out.2.2.2.2.1).far (M.out.2.2.1) (by rfl) (by omega) og) (And.intro ((M.out.2.2.2.2.2.1).only og (by omega)) (And.intro ((M.out.2.2.2.2.2.2.1).far (M.out.2.2.1) (by rfl) (by omega) og) (And.intro ((M.out.2.2.2.2.2.2.2.1).only og (by omega)) (And.intro ((M.out.2.2.2.2.2.2.2.2.1).far (M.out.2.2.1) (by rfl) (by omega) og) (And.intro ((M.out.2.2.2.2.2.2.2.2.2.1).only og (by omega)) (And.intro ((M.out.2.2.2.2.2.2.2.2.2.2.1).far (M.out.2.2.1) (by rfl) (by omega) og) (And.intro ((M.out.2.2.2.2.2.2.2.2.2.2.2.1).only og (by omega)) (And.intro ((M.out.2.2.2.2.2.2.2.2.2.2.2.2.1).only og (by omega)) hbw)))))))))))))
    clear hk hbw og hv hz
    refine hK.out _ _ (⟨(M.out.2.2.2.2.2.2.2.2.2.2.2.2.1).at.1 0, (M.out.2.2.2.2.2.2.2.2.2.2.2.2.1).at.1 1, (M.out.2.2.2.2.2.2.2.2.2.2.2.2.1).at.1 2, (M.out.2.2.2.2.2.2.2.2.2.2.2.2.1).at.1 3⟩) (fun hH143 => ?_)
    clear hK K hH142
    (try simp only [Act.put, List.setIfInBounds_toArray, List.set_cons_zero, List.set_cons_succ])
    refine tk at12 ?_
    refine wpAnyH_done (by kernel_rfl) ?_ _
    clear hH143
    go_wp2_with fail
    go_meet
    exact ⟨w47.heap.size, a_128, c_129, b_130, d_131, q132, a_135, c_136, b_137, d_138, q139, rfl, rfl, Eq132, Eq139, Sq132, Sq139, (by omega), (M.out.2.2.1), (M.out.1), (M.out.2.1), (M.out.2.2.2.2.1), (M.out.2.2.2.2.2.2.1), (M.out.2.2.2.2.2.2.2.2.1), (M.out.2.2.2.2.2.2.2.2.2.2.1), (M.out.2.2.2.2.2.2.2.2.2.2.2.2.1), (M.out.2.2.2.2.2.2.2.2.2.2.2.1), (M.out.2.2.2.2.2.2.2.2.2.1), (M.out.2.2.2.2.2.2.2.1), (M.out.2.2.2.2.2.1), (M.out.2.2.2.1), (M.out.2.2.2.2.2.2.2.2.2.2.2.2.2)⟩
  case rest =>
    obtain ⟨A95, a_83, c_84, b_85, d_86, q87, a_89, c_90, b_91, d_92, q93, rfl, rfl, Eq87, Eq93, Sq87, Sq93, oA95, M⟩ := hcut
    obtain ⟨w47, rfl⟩ : ∃ w_ : World, w_ = wc := ⟨_, rfl⟩
    go_upto_region 23 with fail
    replace M := Lib.hid (And.intro (M.out.1) (And.intro (M.out.2.1) (And.intro (M.out.2.2.2.1) (And.intro (M.out.2.2.2.2.1) (And.intro (M.out.2.2.2.2.2.1) (And.intro (M.out.2.2.2.2.2.2.1) (And.intro (M.out.2.2.2.2.2.2.2.1) (And.intro (M.out.2.2.2.2.2.2.2.2.1) (And.intro (M.out.2.2.2.2.2.2.2.2.2.1) (And.intro (M.out.2.2.2.2.2.2.2.2.2.2.1) (And.intro (M.out.2.2.2.2.2.2.2.2.2.2.2.1) (And.intro (M.out.2.2.2.2.2.2.2.2.2.2.2.2.1) (M.out.2.2.2.2.2.2.2.2.2.2.2.2.2)))))))))))))
    rename_i Kst_ hst_
    exact order_le_s23 hG HQ HR HU wn wm hbz HBZ n1 n2 HK HK2 HK3 HSUB HSW HPL HTM HNG n3 HLO HHI HT HM H1 H2 H3 (Lib.hid (by rw [Eq93.out, Eq87.out])) Sq93 Eq81 Sq81 Eq75 Sq75 (by omega) (by omega) (by omega) (by omega) (by omega) (by omega) (by omega) M Kst_ hst_

set_option maxRecDepth 100000 in
set_option maxHeartbeats 4000000 in
theorem order_le_s20 {k k2 k3 m : Int} {bz : Bool} {q r u : Rat} {a1 b1 a2 b2 a3 b3 : Option Addr} {c1 d1 c2 d2 c3 d3 : Nat} {w : World}  {w40 : World} {a_66 b_68 a_61 b_63 : Option Addr} {c_67 d_69 c_62 d_64 : Nat} {B0 B1 B8 B9 : Nat} {x0_ x1_ x2_ x5_ x8_ x9_ x11_ x13_ x15_ x17_ x21_ x22_ x23_ x24_ x25_ x26_ x27_ x28_ x29_ x30_ x31_ x32_ x33_ x34_ x35_ x36_ x37_ x38_ x39_ x40_ x41_ x42_ x43_ x44_ x45_ x46_ x47_ x48_ x49_ x50_ x51_ x52_ x53_ x54_ x55_ x56_ x57_ x58_ x59_ x60_ x61_ x62_ x63_ x64_ x65_ x66_ x67_ x68_ x69_ x70_ x71_ x72_ x73_ x74_ x75_ x76_ x77_ x78_ x79_ x80_ x81_ x82_ x83_ x84_ x85_ x86_ x87_ x88_ x89_ x90_ x91_ x92_ x93_ x94_ x95_ x96_ x97_ x98_ x99_ x100_ x101_ x102_ x103_ x104_ x105_ x106_ x107_ x108_ x109_ x110_ x111_ x112_ x113_ x114_ x115_ x116_ x117_ x118_ x119_ x120_ x121_ x122_ x123_ x124_ x125_ x126_ x127_ x128_ x129_ x130_ x131_ x132_ x133_ x134_ x135_ x136_ x137_ x138_ x139_ x140_ x141_ x142_ x143_ x144_ x145_ x146_ x147_ x148_ x149_ x150_ x151_ x152_ x153_ x154_ x155_ x156_ x157_ x158_ x159_ x160_ x161_ x162_ x163_ x164_ x165_ x166_ x167_ x168_ x169_ x170_ x171_ x172_ x173_ x174_ x175_ x176_ x177_ x178_ x179_ x180_ x181_ x182_ x183_ x184_ x185_ x186_ x187_ x188_ x189_ x190_ x191_ x192_ x193_ x194_ x195_ x196_ x197_ x198_ x199_ x200_ x201_ x202_ x203_ x204_ x205_ x206_ x207_ x208_ x209_ x210_ x211_ x212_ x213_ : Value} (hG : G ≤ w.heap.size) (HQ : Hid (Fz q 12)) (HR : Hid (Fz r 12)) (HU : Hid (Fz u 12)) (wn : IntKind.i64.wrap (-k) = -k) (wm : IntKind.i64.wrap (k * sg (nu u)) = m) (hbz : (k == 0) = bz) (HBZ : Hid (decide (q = r) = bz)) (n1 : decide (k < -1) = false) (n2 : decide (1 < k) = false) (HK : Hid (ordQ q r = k)) (HK2 : Hid (ordQ r u = k2)) (HK3 : Hid (ordQ q u = k3)) (HSUB : Hid (sg (nu (q - r)) = k)) (HSW : Hid (ordQ r q = -k)) (HPL : Hid (ordQ (q + u) (r + u) = k)) (HTM : Hid (ordQ (q * u) (r * u) = m)) (HNG : Hid (ordQ (-q) (-r) = -k)) (n3 : decide (k ≤ 0) = true) (HLO : Hid (pick q r (-1) = q)) (HHI : Hid (pick q r 1 = r)) (HT : Hid (Tab w)) (HM : Hid (Mx w)) (H1 : Hid (FD G w a1 c1 b1 d1 q)) (H2 : Hid (FD G w a2 c2 b2 d2 r)) (H3 : Hid (FD G w a3 c3 b3 d3 u)) (oB0 : w.heap.size ≤ B0) (oB1 : B0 < B1) (oB8 : B1 < B8) (oB9 : B8 < B9) (M : Hid (Bx w40 B9 26 #[.int .i64 (sg (nu r)), .slice a_66 (ln (nu r)) c_67, .int .i64 (sg (de r)), .slice b_68 (ln (de r)) d_69] ∧ FD G w40 a_66 c_67 b_68 d_69 r ∧ Bx w40 B8 26 #[.int .i64 (sg (nu q)), .slice a_61 (ln (nu q)) c_62, .int .i64 (sg (de q)), .slice b_63 (ln (de q)) d_64] ∧ FD G w40 a_61 c_62 b_63 d_64 q ∧ Bx w40 B1 26 #[.int .i64 (sg (nu r)), .slice a2 (ln (nu r)) c2, .int .i64 (sg (de r)), .slice b2 (ln (de r)) d2] ∧ Bx w40 B0 26 #[.int .i64 (sg (nu q)), .slice a1 (ln (nu q)) c1, .int .i64 (sg (de q)), .slice b1 (ln (de q)) d1] ∧ Below w.heap.size w w40)) :
    ∀ K : Act → World → Prop, (∀ a_ w_, Code.wp Tryz.prog (restAt Tryz.f5 20) (bodyPost Tryz.prog Tryz.f5 fun e w' => e = .returned (.bool true) ∧ Below w.heap.size w w') a_ w_ → K a_ w_) → Code.wp Tryz.prog (regAt Tryz.f5 20) (Exit.then K (bodyPost Tryz.prog Tryz.f5 fun e w' => e = .returned (.bool true) ∧ Below w.heap.size w w')) ⟨List.toArray (x0_ :: x1_ :: x2_ :: .pointer (some ⟨B0, 0, none⟩) :: .pointer (some ⟨B1, 0, none⟩) :: x5_ :: .bool false :: .bool true :: x8_ :: x9_ :: .bool true :: x11_ :: .bool true :: x13_ :: .bool true :: x15_ :: .bool true :: x17_ :: .bool true :: .pointer (some ⟨B8, 0, none⟩) :: .pointer (some ⟨B9, 0, none⟩) :: x21_ :: x22_ :: x23_ :: x24_ :: x25_ :: x26_ :: x27_ :: x28_ :: x29_ :: x30_ :: x31_ :: x32_ :: x33_ :: x34_ :: x35_ :: x36_ :: x37_ :: x38_ :: x39_ :: x40_ :: x41_ :: x42_ :: x43_ :: x44_ :: x45_ :: x46_ :: x47_ :: x48_ :: x49_ :: x50_ :: x51_ :: x52_ :: x53_ :: x54_ :: x55_ :: x56_ :: x57_ :: x58_ :: x59_ :: x60_ :: x61_ :: x62_ :: x63_ :: x64_ :: x65_ :: x66_ :: x67_ :: x68_ :: x69_ :: x70_ :: x71_ :: x72_ :: x73_ :: x74_ :: x75_ :: x76_ :: x77_ :: x78_ :: x79_ :: x80_ :: x81_ :: x82_ :: x83_ :: x84_ :: x85_ :: x86_ :: x87_ :: x88_ :: x89_ :: x90_ :: x91_ :: x92_ :: x93_ :: x94_ :: x95_ :: x96_ :: x97_ :: x98_ :: x99_ :: x100_ :: x101_ :: x102_ :: x103_ :: x104_ :: x105_ :: x106_ :: x107_ :: x108_ :: x109_ :: x110_ :: x111_ :: x112_ :: x113_ :: x114_ :: x115_ :: x116_ :: x117_ :: x118_ :: x119_ :: x120_ :: x121_ :: x122_ :: x123_ :: x124_ :: x125_ :: x126_ :: x127_ :: x128_ :: x129_ :: x130_ :: x131_ :: x132_ :: x133_ :: x134_ :: x135_ :: x136_ :: x137_ :: x138_ :: x139_ :: x140_ :: x141_ :: x142_ :: x143_ :: x144_ :: x145_ :: x146_ :: x147_ :: x148_ :: x149_ :: x150_ :: x151_ :: x152_ :: x153_ :: x154_ :: x155_ :: x156_ :: x157_ :: x158_ :: x159_ :: x160_ :: x161_ :: x162_ :: x163_ :: x164_ :: x165_ :: x166_ :: x167_ :: x168_ :: x169_ :: x170_ :: x171_ :: x172_ :: x173_ :: x174_ :: x175_ :: x176_ :: x177_ :: x178_ :: x179_ :: x180_ :: x181_ :: x182_ :: x183_ :: x184_ :: x185_ :: x186_ :: x187_ :: x188_ :: x189_ :: x190_ :: x191_ :: x192_ :: x193_ :: x194_ :: x195_ :: x196_ :: x197_ :: x198_ :: x199_ :: x200_ :: x201_ :: x202_ :: x203_ :: x204_ :: x205_ :: x206_ :: x207_ :: x208_ :: x209_ :: x210_ :: x211_ :: x212_ :: x213_ :: undef :: undef :: undef :: undef :: undef :: undef :: undef :: undef :: undef :: undef :: undef :: undef :: undef :: undef :: undef :: undef :: undef :: undef :: undef :: undef :: undef :: undef :: undef :: undef :: undef :: undef :: undef :: undef :: undef :: undef :: undef :: undef :: undef :: undef :: undef :: undef :: undef :: undef :: undef :: undef :: undef :: undef :: undef :: undef :: undef :: undef :: undef :: undef :: undef :: undef :: undef :: undef :: undef :: undef :: undef :: undef :: undef :: undef :: undef :: undef :: undef :: undef :: undef :: undef :: undef :: undef :: undef :: undef :: undef :: undef :: undef :: undef :: undef :: undef :: undef :: undef :: undef :: undef :: undef :: undef :: undef :: []), []⟩ w40 := by
  intro Kst_ hst_
  conv => arg 2; whnf
  conv at hst_ => enter [a_, w_, 1, 2]; whnf
  have y8 := (M.out.2.2.1).c4; have p8_0 := y8.1; have q8_0 := y8.2.1; have p8_1 := y8.2.2.1; have q8_1 := y8.2.2.2.1; have p8_2 := y8.2.2.2.2.1; have q8_2 := y8.2.2.2.2.2.1; have p8_3 := y8.2.2.2.2.2.2.1; have q8_3 := y8.2.2.2.2.2.2.2; clear y8
  have y9 := (M.out.1).c4; have p9_0 := y9.1; have q9_0 := y9.2.1; have p9_1 := y9.2.2.1; have q9_1 := y9.2.2.2.1; have p9_2 := y9.2.2.2.2.1; have q9_2 := y9.2.2.2.2.2.1; have p9_3 := y9.2.2.2.2.2.2.1; have q9_3 := y9.2.2.2.2.2.2.2; clear y9
  go_wp2_with fail
  clear p8_0 q8_0 p8_1 q8_1 p8_2 q8_2 p8_3 q8_3 p9_0 q9_0 p9_1 q9_1 p9_2 q9_2 p9_3 q9_3
  obtain ⟨q75, eq75⟩ : ∃ v_ : Rat, v_ = (q + r) := ⟨_, rfl⟩
  refine (fracAdd_ok (G := G) (q := q) (r := r) (M.out.2.2.2.1) (M.out.2.1) (Fz.mono HQ.out (by omega)) (Fz.mono HR.out (by omega))).mono ?_
  rintro e w41 ⟨a_71, c_72, b_73, d_74, rfl, hd76, hb⟩
  rw [← eq75] at hd76 ⊢
  have Sq75 : Hid (Fz q75 25) := by show Fz q75 25; rw [eq75]; exact (Fz.add HQ.out HR.out)
  have Eq75 := Lib.hid eq75; clear eq75
  replace M := Lib.hid (And.intro hd76 (Goes.go M.out hb))
  clear hb hd76
  go_wp2_with fail
  refine (right_ok (G := G) (q := q75) (M.out.1) (Fz.mono Sq75.out (by omega))).mono ?_
  rintro e w42 ⟨rfl, hb⟩
  replace M := Lib.hid (Goes.go M.out hb)
  clear hb
  go_upto_region 21 with fail
  obtain ⟨w43, hv⟩ : ∃ w_ : World, w_ = (w42.alloc (.cells #[.int .i64 (sg (nu q75)), .slice a_71 (ln (nu q75)) c_72, .int .i64 (sg (de q75)), .slice b_73 (ln (de q75)) d_74] 26)) := ⟨_, rfl⟩
  rw [← hv]
  have o10 : B9 < w42.heap.size := ((M.out.2.1)).lt
  replace M := Lib.hid (And.intro (hv ▸ bx1 w42 26 #[.int .i64 (sg (nu q75)), .slice a_71 (ln (nu q75)) c_72, .int .i64 (sg (de q75)), .slice b_73 (ln (de q75)) d_74]) (Goes.go M.out (hv ▸ below_alloc _ _ : Below w42.heap.size w42 w43)))
  clear hv
  have y0 := (M.out.2.2.2.2.2.2.2.1).c4; have p0_0 := y0.1; have q0_0 := y0.2.1; have p0_1 := y0.2.2.1; have q0_1 := y0.2.2.2.1; have p0_2 := y0.2.2.2.2.1; have q0_2 := y0.2.2.2.2.2.1; have p0_3 := y0.2.2.2.2.2.2.1; have q0_3 := y0.2.2.2.2.2.2.2; clear y0
  have y1 := (M.out.2.2.2.2.2.2.1).c4; have p1_0 := y1.1; have q1_0 := y1.2.1; have p1_1 := y1.2.2.1; have q1_1 := y1.2.2.2.1; have p1_2 := y1.2.2.2.2.1; have q1_2 := y1.2.2.2.2.2.1; have p1_3 := y1.2.2.2.2.2.2.1; have q1_3 := y1.2.2.2.2.2.2.2; clear y1
  go_wp2_with fail
  clear p0_0 q0_0 p0_1 q0_1 p0_2 q0_2 p0_3 q0_3 p1_0 q1_0 p1_1 q1_1 p1_2 q1_2 p1_3 q1_3
  obtain ⟨q81, eq81⟩ : ∃ v_ : Rat, v_ = (q + r) := ⟨_, rfl⟩
  refine (fracAdd_ok (G := G) (q := q) (r := r) (H1.out.keep (M.out.2.2.2.2.2.2.2.2)) (H2.out.keep (M.out.2.2.2.2.2.2.2.2)) (Fz.mono HQ.out (by omega)) (Fz.mono HR.out (by omega))).mono ?_
  rintro e w44 ⟨a_77, c_78, b_79, d_80, rfl, hd82, hb⟩
  rw [← eq81] at hd82 ⊢
  have Sq81 : Hid (Fz q81 25) := by show Fz q81 25; rw [eq81]; exact (Fz.add HQ.out HR.out)
  have Eq81 := Lib.hid eq81; clear eq81
  replace M := Lib.hid (And.intro hd82 (Goes.go M.out hb))
  clear hb hd82
  go_wp2_with fail
  refine (right_ok (G := G) (q := q81) (M.out.1) (Fz.mono Sq81.out (by omega))).mono ?_
  rintro e w45 ⟨rfl, hb⟩
  replace M := Lib.hid (Goes.go M.out hb)
  clear hb
  go_upto_region 22 with fail
  obtain ⟨w46, hv⟩ : ∃ w_ : World, w_ = (w45.alloc (.cells #[.int .i64 (sg (nu q81)), .slice a_77 (ln (nu q81)) c_78, .int .i64 (sg (de q81)), .slice b_79 (ln (de q81)) d_80] 26)) := ⟨_, rfl⟩
  rw [← hv]
  have o11 : w42.heap.size < w45.heap.size := ((M.out.2.1)).lt
  replace M := Lib.hid (And.intro (hv ▸ bx1 w45 26 #[.int .i64 (sg (nu q81)), .slice a_77 (ln (nu q81)) c_78, .int .i64 (sg (de q81)), .slice b_79 (ln (de q81)) d_80]) (Goes.go M.out (hv ▸ below_alloc _ _ : Below w45.heap.size w45 w46)))
  clear hv
  rename_i Kst_ hst_
  exact order_le_s22 hG HQ HR HU wn wm hbz HBZ n1 n2 HK HK2 HK3 HSUB HSW HPL HTM HNG n3 HLO HHI HT HM H1 H2 H3 Eq81 Sq81 Eq75 Sq75 (by omega) (by omega) (by omega) (by omega) (by omega) (by omega) M Kst_ hst_

set_option maxRecDepth 100000 in
set_option maxHeartbeats 4000000 in
theorem order_le_s18 {k k2 k3 m : Int} {bz : Bool} {q r u : Rat} {a1 b1 a2 b2 a3 b3 : Option Addr} {c1 d1 c2 d2 c3 d3 : Nat} {w : World}  {w34 : World}  {B0 B1 : Nat} {x0_ x1_ x2_ x5_ x8_ x9_ x11_ x13_ x15_ x17_ x19_ x20_ x21_ x22_ x23_ x24_ x25_ x26_ x27_ x28_ x29_ x30_ x31_ x32_ x33_ x34_ x35_ x36_ x37_ x38_ x39_ x40_ x41_ x42_ x43_ x44_ x45_ x46_ x47_ x48_ x49_ x50_ x51_ x52_ x53_ x54_ x55_ x56_ x57_ x58_ x59_ x60_ x61_ x62_ x63_ x64_ x65_ x66_ x67_ x68_ x69_ x70_ x71_ x72_ x73_ x74_ x75_ x76_ x77_ x78_ x79_ x80_ x81_ x82_ x83_ x84_ x85_ x86_ x87_ x88_ x89_ x90_ x91_ x92_ x93_ x94_ x95_ x96_ x97_ x98_ x99_ x100_ x101_ x102_ x103_ x104_ x105_ x106_ x107_ x108_ x109_ x110_ x111_ x112_ x113_ x114_ x115_ x116_ x117_ x118_ x119_ x120_ x121_ x122_ x123_ x124_ x125_ x126_ x127_ x128_ x129_ x130_ x131_ x132_ x133_ x134_ x135_ x136_ x137_ x138_ x139_ x140_ x141_ x142_ x143_ x144_ x145_ x146_ x147_ x148_ x149_ x150_ x151_ x152_ x153_ x154_ x155_ x156_ x157_ x158_ x159_ x160_ x161_ x162_ x163_ x164_ x165_ x166_ x167_ x168_ x169_ x170_ x171_ x172_ x173_ x174_ x175_ x176_ x177_ x178_ x179_ x180_ x181_ x182_ x183_ x184_ x185_ x186_ x187_ x188_ x189_ x190_ x191_ x192_ x193_ x194_ x195_ : Value} (hG : G ≤ w.heap.size) (HQ : Hid (Fz q 12)) (HR : Hid (Fz r 12)) (HU : Hid (Fz u 12)) (wn : IntKind.i64.wrap (-k) = -k) (wm : IntKind.i64.wrap (k * sg (nu u)) = m) (hbz : (k == 0) = bz) (HBZ : Hid (decide (q = r) = bz)) (n1 : decide (k < -1) = false) (n2 : decide (1 < k) = false) (HK : Hid (ordQ q r = k)) (HK2 : Hid (ordQ r u = k2)) (HK3 : Hid (ordQ q u = k3)) (HSUB : Hid (sg (nu (q - r)) = k)) (HSW : Hid (ordQ r q = -k)) (HPL : Hid (ordQ (q + u) (r + u) = k)) (HTM : Hid (ordQ (q * u) (r * u) = m)) (HNG : Hid (ordQ (-q) (-r) = -k)) (n3 : decide (k ≤ 0) = true) (HLO : Hid (pick q r (-1) = q)) (HHI : Hid (pick q r 1 = r)) (HT : Hid (Tab w)) (HM : Hid (Mx w)) (H1 : Hid (FD G w a1 c1 b1 d1 q)) (H2 : Hid (FD G w a2 c2 b2 d2 r)) (H3 : Hid (FD G w a3 c3 b3 d3 u)) (oB0 : w.heap.size ≤ B0) (oB1 : B0 < B1) (M : Hid (Bx w34 B1 26 #[.int .i64 (sg (nu r)), .slice a2 (ln (nu r)) c2, .int .i64 (sg (de r)), .slice b2 (ln (de r)) d2] ∧ Bx w34 B0 26 #[.int .i64 (sg (nu q)), .slice a1 (ln (nu q)) c1, .int .i64 (sg (de q)), .slice b1 (ln (de q)) d1] ∧ Below w.heap.size w w34)) :
    ∀ K : Act → World → Prop, (∀ a_ w_, Code.wp Tryz.prog (restAt Tryz.f5 18) (bodyPost Tryz.prog Tryz.f5 fun e w' => e = .returned (.bool true) ∧ Below w.heap.size w w') a_ w_ → K a_ w_) → Code.wp Tryz.prog (regAt Tryz.f5 18) (Exit.then K (bodyPost Tryz.prog Tryz.f5 fun e w' => e = .returned (.bool true) ∧ Below w.heap.size w w')) ⟨List.toArray (x0_ :: x1_ :: x2_ :: .pointer (some ⟨B0, 0, none⟩) :: .pointer (some ⟨B1, 0, none⟩) :: x5_ :: .bool false :: .bool true :: x8_ :: x9_ :: .bool true :: x11_ :: .bool true :: x13_ :: .bool true :: x15_ :: .bool true :: x17_ :: .bool true :: x19_ :: x20_ :: x21_ :: x22_ :: x23_ :: x24_ :: x25_ :: x26_ :: x27_ :: x28_ :: x29_ :: x30_ :: x31_ :: x32_ :: x33_ :: x34_ :: x35_ :: x36_ :: x37_ :: x38_ :: x39_ :: x40_ :: x41_ :: x42_ :: x43_ :: x44_ :: x45_ :: x46_ :: x47_ :: x48_ :: x49_ :: x50_ :: x51_ :: x52_ :: x53_ :: x54_ :: x55_ :: x56_ :: x57_ :: x58_ :: x59_ :: x60_ :: x61_ :: x62_ :: x63_ :: x64_ :: x65_ :: x66_ :: x67_ :: x68_ :: x69_ :: x70_ :: x71_ :: x72_ :: x73_ :: x74_ :: x75_ :: x76_ :: x77_ :: x78_ :: x79_ :: x80_ :: x81_ :: x82_ :: x83_ :: x84_ :: x85_ :: x86_ :: x87_ :: x88_ :: x89_ :: x90_ :: x91_ :: x92_ :: x93_ :: x94_ :: x95_ :: x96_ :: x97_ :: x98_ :: x99_ :: x100_ :: x101_ :: x102_ :: x103_ :: x104_ :: x105_ :: x106_ :: x107_ :: x108_ :: x109_ :: x110_ :: x111_ :: x112_ :: x113_ :: x114_ :: x115_ :: x116_ :: x117_ :: x118_ :: x119_ :: x120_ :: x121_ :: x122_ :: x123_ :: x124_ :: x125_ :: x126_ :: x127_ :: x128_ :: x129_ :: x130_ :: x131_ :: x132_ :: x133_ :: x134_ :: x135_ :: x136_ :: x137_ :: x138_ :: x139_ :: x140_ :: x141_ :: x142_ :: x143_ :: x144_ :: x145_ :: x146_ :: x147_ :: x148_ :: x149_ :: x150_ :: x151_ :: x152_ :: x153_ :: x154_ :: x155_ :: x156_ :: x157_ :: x158_ :: x159_ :: x160_ :: x161_ :: x162_ :: x163_ :: x164_ :: x165_ :: x166_ :: x167_ :: x168_ :: x169_ :: x170_ :: x171_ :: x172_ :: x173_ :: x174_ :: x175_ :: x176_ :: x177_ :: x178_ :: x179_ :: x180_ :: x181_ :: x182_ :: x183_ :: x184_ :: x185_ :: x186_ :: x187_ :: x188_ :: x189_ :: x190_ :: x191_ :: x192_ :: x193_ :: x194_ :: x195_ :: undef :: undef :: undef :: undef :: undef :: undef :: undef :: undef :: undef :: undef :: undef :: undef :: undef :: undef :: undef :: undef :: undef :: undef :: undef :: undef :: undef :: undef :: undef :: undef :: undef :: undef :: undef :: undef :: undef :: undef :: undef :: undef :: undef :: undef :: undef :: undef :: undef :: undef :: undef :: undef :: undef :: undef :: undef :: undef :: undef :: undef :: undef :: undef :: undef :: undef :: undef :: undef :: undef :: undef :: undef :: undef :: undef :: undef :: undef :: undef :: undef :: undef :: undef :: undef :: undef :: undef :: undef :: undef :: undef :: undef :: undef :: undef :: undef :: undef :: undef :: undef :: undef :: undef :: undef :: undef :: undef :: undef :: undef :: undef :: undef :: undef :: undef :: undef :: undef :: undef :: undef :: undef :: undef :: undef :: undef :: undef :: undef :: undef :: undef :: []), []⟩ w34 := by
  intro Kst_ hst_
  conv => arg 2; whnf
  conv at hst_ => enter [a_, w_, 1, 2]; whnf
  have y0 := (M.out.2.1).c4; have p0_0 := y0.1; have q0_0 := y0.2.1; have p0_1 := y0.2.2.1; have q0_1 := y0.2.2.2.1; have p0_2 := y0.2.2.2.2.1; have q0_2 := y0.2.2.2.2.2.1; have p0_3 := y0.2.2.2.2.2.2.1; have q0_3 := y0.2.2.2.2.2.2.2; clear y0
  have y1 := (M.out.1).c4; have p1_0 := y1.1; have q1_0 := y1.2.1; have p1_1 := y1.2.2.1; have q1_1 := y1.2.2.2.1; have p1_2 := y1.2.2.2.2.1; have q1_2 := y1.2.2.2.2.2.1; have p1_3 := y1.2.2.2.2.2.2.1; have q1_3 := y1.2.2.2.2.2.2.2; clear y1
  go_wp2_with fail
  clear p0_0 q0_0 p0_1 q0_1 p0_2 q0_2 p0_3 q0_3 p1_0 q1_0 p1_1 q1_1 p1_2 q1_2 p1_3 q1_3
  refine (fracMin_is (G := G) (q := q) (r := r) (m := q) (Nat.le_trans hG (M.out.2.2).size) (H1.out.keep (M.out.2.2)) (H2.out.keep (M.out.2.2)) (Fz.mono HQ.out (by omega)) (Fz.mono HR.out (by omega)) HLO.out).mono ?_
  rintro e w35 ⟨a_61, c_62, b_63, d_64, rfl, hd65, hb⟩
  replace M := Lib.hid (And.intro hd65 (Goes.go M.out hb))
  clear hb hd65
  go_wp2_with fail
  refine (right_ok (G := G) (q := q) (M.out.1) (Fz.mono HQ.out (by omega))).mono ?_
  rintro e w36 ⟨rfl, hb⟩
  replace M := Lib.hid (Goes.go M.out hb)
  clear hb
  go_upto_region 19 with fail
  obtain ⟨w37, hv⟩ : ∃ w_ : World, w_ = (w36.alloc (.cells #[.int .i64 (sg (nu q)), .slice a_61 (ln (nu q)) c_62, .int .i64 (sg (de q)), .slice b_63 (ln (de q)) d_64] 26)) := ⟨_, rfl⟩
  rw [← hv]
  have o8 : B1 < w36.heap.size := ((M.out.2.1)).lt
  replace M := Lib.hid (And.intro (hv ▸ bx1 w36 26 #[.int .i64 (sg (nu q)), .slice a_61 (ln (nu q)) c_62, .int .i64 (sg (de q)), .slice b_63 (ln (de q)) d_64]) (Goes.go M.out (hv ▸ below_alloc _ _ : Below w36.heap.size w36 w37)))
  clear hv
  have y0 := (M.out.2.2.2.1).c4; have p0_0 := y0.1; have q0_0 := y0.2.1; have p0_1 := y0.2.2.1; have q0_1 := y0.2.2.2.1; have p0_2 := y0.2.2.2.2.1; have q0_2 := y0.2.2.2.2.2.1; have p0_3 := y0.2.2.2.2.2.2.1; have q0_3 := y0.2.2.2.2.2.2.2; clear y0
  have y1 := (M.out.2.2.1).c4; have p1_0 := y1.1; have q1_0 := y1.2.1; have p1_1 := y1.2.2.1; have q1_1 := y1.2.2.2.1; have p1_2 := y1.2.2.2.2.1; have q1_2 := y1.2.2.2.2.2.1; have p1_3 := y1.2.2.2.2.2.2.1; have q1_3 := y1.2.2.2.2.2.2.2; clear y1
  go_wp2_with fail
  clear p0_0 q0_0 p0_1 q0_1 p0_2 q0_2 p0_3 q0_3 p1_0 q1_0 p1_1 q1_1 p1_2 q1_2 p1_3 q1_3
  refine (fracMax_is (G := G) (q := q) (r := r) (m := r) (Nat.le_trans hG (M.out.2.2.2.2).size) (H1.out.keep (M.out.2.2.2.2)) (H2.out.keep (M.out.2.2.2.2)) (Fz.mono HQ.out (by omega)) (Fz.mono HR.out (by omega)) HHI.out).mono ?_
  rintro e w38 ⟨a_66, c_67, b_68, d_69, rfl, hd70, hb⟩
  replace M := Lib.hid (And.intro hd70 (Goes.go M.out hb))
  clear hb hd70
  go_wp2_with fail
  refine (right_ok (G := G) (q := r) (M.out.1) (Fz.mono HR.out (by omega))).mono ?_
  rintro e w39 ⟨rfl, hb⟩
  replace M := Lib.hid (Goes.go M.out hb)
  clear hb
  go_upto_region 20 with fail
  obtain ⟨w40, hv⟩ : ∃ w_ : World, w_ = (w39.alloc (.cells #[.int .i64 (sg (nu r)), .slice a_66 (ln (nu r)) c_67, .int .i64 (sg (de r)), .slice b_68 (ln (de r)) d_69] 26)) := ⟨_, rfl⟩
  rw [← hv]
  have o9 : w36.heap.size < w39.heap.size := ((M.out.2.1)).lt
  replace M := Lib.hid (And.intro (hv ▸ bx1 w39 26 #[.int .i64 (sg (nu r)), .slice a_66 (ln (nu r)) c_67, .int .i64 (sg (de r)), .slice b_68 (ln (de r)) d_69]) (Goes.go M.out (hv ▸ below_alloc _ _ : Below w39.heap.size w39 w40)))
  clear hv
  rename_i Kst_ hst_
  exact order_le_s20 hG HQ HR HU wn wm hbz HBZ n1 n2 HK HK2 HK3 HSUB HSW HPL HTM HNG n3 HLO HHI HT HM H1 H2 H3 (by omega) (by omega) (by omega) (by omega) M Kst_ hst_

set_option maxRecDepth 100000 in
set_option maxHeartbeats 4000000 in
theorem order_le_s13 {k k2 k3 m : Int} {bz : Bool} {q r u : Rat} {a1 b1 a2 b2 a3 b3 : Option Addr} {c1 d1 c2 d2 c3 d3 : Nat} {w : World}  {w24 : World} {a_19 b_21 a_13 b_15 a_7 b_9 a_1 b_3 : Option Addr} {c_20 d_22 c_14 d_16 c_8 d_10 c_2 d_4 : Nat} {q23 q17 q11 q5 : Rat} {B0 B1 B2 B3 B4 B5 B6 : Nat} {x0_ x1_ x2_ x17_ x18_ x19_ x20_ x21_ x22_ x23_ x24_ x25_ x26_ x27_ x28_ x29_ x30_ x31_ x32_ x33_ x34_ x35_ x36_ x37_ x38_ x39_ x40_ x41_ x42_ x43_ x44_ x45_ x46_ x47_ x48_ x49_ x50_ x51_ x52_ x53_ x54_ x55_ x56_ x57_ x58_ x59_ x60_ x61_ x62_ x63_ x64_ x65_ x66_ x67_ x68_ x69_ x70_ x71_ x72_ x73_ x74_ x75_ x76_ x77_ x78_ x79_ x80_ x81_ x82_ x83_ x84_ x85_ x86_ x87_ x88_ x89_ x90_ x91_ x92_ x93_ x94_ x95_ x96_ x97_ x98_ x99_ x100_ x101_ x102_ x103_ x104_ x105_ x106_ x107_ x108_ x109_ x110_ x111_ x112_ x113_ x114_ x115_ x116_ x117_ x118_ x119_ x120_ x121_ x122_ x123_ x124_ x125_ x126_ x127_ x128_ x129_ : Value} (hG : G ≤ w.heap.size) (HQ : Hid (Fz q 12)) (HR : Hid (Fz r 12)) (HU : Hid (Fz u 12)) (wn : IntKind.i64.wrap (-k) = -k) (wm : IntKind.i64.wrap (k * sg (nu u)) = m) (hbz : (k == 0) = bz) (HBZ : Hid (decide (q = r) = bz)) (n1 : decide (k < -1) = false) (n2 : decide (1 < k) = false) (HK : Hid (ordQ q r = k)) (HK2 : Hid (ordQ r u = k2)) (HK3 : Hid (ordQ q u = k3)) (HSUB : Hid (sg (nu (q - r)) = k)) (HSW : Hid (ordQ r q = -k)) (HPL : Hid (ordQ (q + u) (r + u) = k)) (HTM : Hid (ordQ (q * u) (r * u) = m)) (HNG : Hid (ordQ (-q) (-r) = -k)) (n3 : decide (k ≤ 0) = true) (HLO : Hid (pick q r (-1) = q)) (HHI : Hid (pick q r 1 = r)) (HT : Hid (Tab w)) (HM : Hid (Mx w)) (H1 : Hid (FD G w a1 c1 b1 d1 q)) (H2 : Hid (FD G w a2 c2 b2 d2 r)) (H3 : Hid (FD G w a3 c3 b3 d3 u)) (Eq23 : Hid (q23 = ((q * u)))) (Sq23 : Hid (Fz q23 24)) (Eq17 : Hid (q17 = ((r + u)))) (Sq17 : Hid (Fz q17 25)) (Eq11 : Hid (q11 = (((q + u))))) (Sq11 : Hid (Fz q11 25)) (Eq5 : Hid (q5 = (((q - r))))) (Sq5 : Hid (Fz q5 25)) (nsq5 : (sg (nu q5) != k) = false) (oB0 : w.heap.size ≤ B0) (oB1 : B0 < B1) (_oB2 : B1 < B2) (_oB3 : B2 < B3) (_oB4 : B3 < B4) (_oB5 : B4 < B5) (_oB6 : B5 < B6) (M : Hid (Bx w24 B6 26 #[.int .i64 (sg (nu q23)), .slice a_19 (ln (nu q23)) c_20, .int .i64 (sg (de q23)), .slice b_21 (ln (de q23)) d_22] ∧ FD G w24 a_19 c_20 b_21 d_22 q23 ∧ Bx w24 B5 26 #[.int .i64 (sg (nu q17)), .slice a_13 (ln (nu q17)) c_14, .int .i64 (sg (de q17)), .slice b_15 (ln (de q17)) d_16] ∧ FD G w24 a_13 c_14 b_15 d_16 q17 ∧ Bx w24 B4 26 #[.int .i64 (sg (nu q11)), .slice a_7 (ln (nu q11)) c_8, .int .i64 (sg (de q11)), .slice b_9 (ln (de q11)) d_10] ∧ FD G w24 a_7 c_8 b_9 d_10 q11 ∧ Bx w24 B3 26 #[.int .i64 (sg (nu q5)), .slice a_1 (ln (nu q5)) c_2, .int .i64 (sg (de q5)), .slice b_3 (ln (de q5)) d_4] ∧ FD G w24 a_1 c_2 b_3 d_4 q5 ∧ Bx w24 B2 26 #[.int .i64 (sg (nu u)), .slice a3 (ln (nu u)) c3, .int .i64 (sg (de u)), .slice b3 (ln (de u)) d3] ∧ Bx w24 B1 26 #[.int .i64 (sg (nu r)), .slice a2 (ln (nu r)) c2, .int .i64 (sg (de r)), .slice b2 (ln (de r)) d2] ∧ Bx w24 B0 26 #[.int .i64 (sg (nu q)), .slice a1 (ln (nu q)) c1, .int .i64 (sg (de q)), .slice b1 (ln (de q)) d1] ∧ Below w.heap.size w w24)) :
    ∀ K : Act → World → Prop, (∀ a_ w_, Code.wp Tryz.prog (restAt Tryz.f5 13) (bodyPost Tryz.prog Tryz.f5 fun e w' => e = .returned (.bool true) ∧ Below w.heap.size w w') a_ w_ → K a_ w_) → Code.wp Tryz.prog (regAt Tryz.f5 13) (Exit.then K (bodyPost Tryz.prog Tryz.f5 fun e w' => e = .returned (.bool true) ∧ Below w.heap.size w w')) ⟨List.toArray (x0_ :: x1_ :: x2_ :: .pointer (some ⟨B0, 0, none⟩) :: .pointer (some ⟨B1, 0, none⟩) :: .pointer (some ⟨B2, 0, none⟩) :: .bool false :: .bool true :: .int .i64 k :: .pointer (some ⟨B3, 0, none⟩) :: .bool true :: .pointer (some ⟨B4, 0, none⟩) :: .bool true :: .pointer (some ⟨B5, 0, none⟩) :: .bool true :: .pointer (some ⟨B6, 0, none⟩) :: .bool true :: x17_ :: x18_ :: x19_ :: x20_ :: x21_ :: x22_ :: x23_ :: x24_ :: x25_ :: x26_ :: x27_ :: x28_ :: x29_ :: x30_ :: x31_ :: x32_ :: x33_ :: x34_ :: x35_ :: x36_ :: x37_ :: x38_ :: x39_ :: x40_ :: x41_ :: x42_ :: x43_ :: x44_ :: x45_ :: x46_ :: x47_ :: x48_ :: x49_ :: x50_ :: x51_ :: x52_ :: x53_ :: x54_ :: x55_ :: x56_ :: x57_ :: x58_ :: x59_ :: x60_ :: x61_ :: x62_ :: x63_ :: x64_ :: x65_ :: x66_ :: x67_ :: x68_ :: x69_ :: x70_ :: x71_ :: x72_ :: x73_ :: x74_ :: x75_ :: x76_ :: x77_ :: x78_ :: x79_ :: x80_ :: x81_ :: x82_ :: x83_ :: x84_ :: x85_ :: x86_ :: x87_ :: x88_ :: x89_ :: x90_ :: x91_ :: x92_ :: x93_ :: x94_ :: x95_ :: x96_ :: x97_ :: x98_ :: x99_ :: x100_ :: x101_ :: x102_ :: x103_ :: x104_ :: x105_ :: x106_ :: x107_ :: x108_ :: x109_ :: x110_ :: x111_ :: x112_ :: x113_ :: x114_ :: x115_ :: x116_ :: x117_ :: x118_ :: x119_ :: x120_ :: x121_ :: x122_ :: x123_ :: x124_ :: x125_ :: x126_ :: x127_ :: x128_ :: x129_ :: undef :: undef :: undef :: undef :: undef :: undef :: undef :: undef :: undef :: undef :: undef :: undef :: undef :: undef :: undef :: undef :: undef :: undef :: undef :: undef :: undef :: undef :: undef :: undef :: undef :: undef :: undef :: undef :: undef :: undef :: undef :: undef :: undef :: undef :: undef :: undef :: undef :: undef :: undef :: undef :: undef :: undef :: undef :: undef :: undef :: undef :: undef :: undef :: undef :: undef :: undef :: undef :: undef :: undef :: undef :: undef :: undef :: undef :: undef :: undef :: undef :: undef :: undef :: undef :: undef :: undef :: undef :: undef :: undef :: undef :: undef :: undef :: undef :: undef :: undef :: undef :: undef :: undef :: undef :: undef :: undef :: undef :: undef :: undef :: undef :: undef :: undef :: undef :: undef :: undef :: undef :: undef :: undef :: undef :: undef :: undef :: undef :: undef :: undef :: undef :: undef :: undef :: undef :: undef :: undef :: undef :: undef :: undef :: undef :: undef :: undef :: undef :: undef :: undef :: undef :: undef :: undef :: undef :: undef :: undef :: undef :: undef :: undef :: undef :: undef :: undef :: undef :: undef :: undef :: undef :: undef :: undef :: undef :: undef :: undef :: undef :: undef :: undef :: undef :: undef :: undef :: undef :: undef :: undef :: undef :: undef :: undef :: undef :: undef :: undef :: undef :: undef :: undef :: undef :: undef :: undef :: undef :: undef :: undef :: undef :: undef :: undef :: undef :: undef :: undef :: []), []⟩ w24 := by
  intro Kst_ hst_
  conv => arg 2; whnf
  conv at hst_ => enter [a_, w_, 1, 2]; whnf
  have y1 := (M.out.2.2.2.2.2.2.2.2.2.1).c4; have p1_0 := y1.1; have q1_0 := y1.2.1; have p1_1 := y1.2.2.1; have q1_1 := y1.2.2.2.1; have p1_2 := y1.2.2.2.2.1; have q1_2 := y1.2.2.2.2.2.1; have p1_3 := y1.2.2.2.2.2.2.1; have q1_3 := y1.2.2.2.2.2.2.2; clear y1
  have y2 := (M.out.2.2.2.2.2.2.2.2.1).c4; have p2_0 := y2.1; have q2_0 := y2.2.1; have p2_1 := y2.2.2.1; have q2_1 := y2.2.2.2.1; have p2_2 := y2.2.2.2.2.1; have q2_2 := y2.2.2.2.2.2.1; have p2_3 := y2.2.2.2.2.2.2.1; have q2_3 := y2.2.2.2.2.2.2.2; clear y2
  go_wp2_with fail
  clear p1_0 q1_0 p1_1 q1_1 p1_2 q1_2 p1_3 q1_3 p2_0 q2_0 p2_1 q2_1 p2_2 q2_2 p2_3 q2_3
  obtain ⟨q29, eq29⟩ : ∃ v_ : Rat, v_ = (r * u) := ⟨_, rfl⟩
  refine (fracMul_ok (G := G) (q := r) (r := u) (Nat.le_trans hG (M.out.2.2.2.2.2.2.2.2.2.2.2).size) (H2.out.keep (M.out.2.2.2.2.2.2.2.2.2.2.2)) (H3.out.keep (M.out.2.2.2.2.2.2.2.2.2.2.2)) (Fz.mono HR.out (by omega)) (Fz.mono HU.out (by omega))).mono ?_
  rintro e w25 ⟨a_25, c_26, b_27, d_28, rfl, hd30, hb⟩
  rw [← eq29] at hd30 ⊢
  have Sq29 : Hid (Fz q29 24) := by show Fz q29 24; rw [eq29]; exact (Fz.mul HR.out HU.out)
  have Eq29 := Lib.hid eq29; clear eq29
  replace M := Lib.hid (And.intro hd30 (Goes.go M.out hb))
  clear hb hd30
  go_wp2_with fail
  refine (right_ok (G := G) (q := q29) (M.out.1) (Fz.mono Sq29.out (by omega))).mono ?_
  rintro e w26 ⟨rfl, hb⟩
  replace M := Lib.hid (Goes.go M.out hb)
  clear hb
  go_upto_region 14 with fail
  obtain ⟨w27, hv⟩ : ∃ w_ : World, w_ = (w26.alloc (.cells #[.int .i64 (sg (nu q29)), .slice a_25 (ln (nu q29)) c_26, .int .i64 (sg (de q29)), .slice b_27 (ln (de q29)) d_28] 26)) := ⟨_, rfl⟩
  rw [← hv]
  have o7 : B6 < w26.heap.size := ((M.out.2.1)).lt
  replace M := Lib.hid (And.intro (hv ▸ bx1 w26 26 #[.int .i64 (sg (nu q29)), .slice a_25 (ln (nu q29)) c_26, .int .i64 (sg (de q29)), .slice b_27 (ln (de q29)) d_28]) (Goes.go M.out (hv ▸ below_alloc _ _ : Below w26.heap.size w26 w27)))
  clear hv
  have y3 := (M.out.2.2.2.2.2.2.2.2.1).c4; have p3_0 := y3.1; have q3_0 := y3.2.1; have p3_1 := y3.2.2.1; have q3_1 := y3.2.2.2.1; have p3_2 := y3.2.2.2.2.1; have q3_2 := y3.2.2.2.2.2.1; have p3_3 := y3.2.2.2.2.2.2.1; have q3_3 := y3.2.2.2.2.2.2.2; clear y3
  have y4 := (M.out.2.2.2.2.2.2.1).c4; have p4_0 := y4.1; have q4_0 := y4.2.1; have p4_1 := y4.2.2.1; have q4_1 := y4.2.2.2.1; have p4_2 := y4.2.2.2.2.1; have q4_2 := y4.2.2.2.2.2.1; have p4_3 := y4.2.2.2.2.2.2.1; have q4_3 := y4.2.2.2.2.2.2.2; clear y4
  have y5 := (M.out.2.2.2.2.1).c4; have p5_0 := y5.1; have q5_0 := y5.2.1; have p5_1 := y5.2.2.1; have q5_1 := y5.2.2.2.1; have p5_2 := y5.2.2.2.2.1; have q5_2 := y5.2.2.2.2.2.1; have p5_3 := y5.2.2.2.2.2.2.1; have q5_3 := y5.2.2.2.2.2.2.2; clear y5
  go_wp2_with fail
  clear p3_0 q3_0 p3_1 q3_1 p3_2 q3_2 p3_3 q3_3 p4_0 q4_0 p4_1 q4_1 p4_2 q4_2 p4_3 q4_3 p5_0 q5_0 p5_1 q5_1 p5_2 q5_2 p5_3 q5_3
  refine (fracCompare_is (G := G) (q := q11) (r := q17) (k := k) (M.out.2.2.2.2.2.2.2.1) (M.out.2.2.2.2.2.1) (Fz.mono Sq11.out (by omega)) (Fz.mono Sq17.out (by omega)) (by rw [Eq17.out, Eq11.out]; exact HPL.out)).mono ?_
  rintro e w28 ⟨rfl, hb⟩
  replace M := Lib.hid (Goes.go M.out hb)
  clear hb
  go_wp2_with fail
  replace M := Lib.hid (And.intro (M.out.1) (And.intro (M.out.2.1) (And.intro (M.out.2.2.1) (And.intro (M.out.2.2.2.1) (And.intro (M.out.2.2.2.2.2.2.2.2.1) (And.intro (M.out.2.2.2.2.2.2.2.2.2.1) (And.intro (M.out.2.2.2.2.2.2.2.2.2.2.1) (And.intro (M.out.2.2.2.2.2.2.2.2.2.2.2.1) (And.intro (M.out.2.2.2.2.2.2.2.2.2.2.2.2.1) (M.out.2.2.2.2.2.2.2.2.2.2.2.2.2))))))))))
  obtain ⟨w29, hv⟩ : ∃ w_ : World, w_ = w28.drew := ⟨_, rfl⟩
  replace M := Lib.hid (Goes.go M.out (hv ▸ below_drew _ : Below w28.heap.size w28 w29))
  refine wp_region_held_drew (S := (fun w' => w'.cell? ⟨B0, 0, none⟩ = some (.int .i64 (sg (nu q))) ∧ w'.cell? ⟨B0, 1, none⟩ = some (.slice a1 (ln (nu q)) c1) ∧ w'.cell? ⟨B0, 2, none⟩ = some (.int .i64 (sg (de q))) ∧ w'.cell? ⟨B0, 3, none⟩ = some (.slice b1 (ln (de q)) d1) ∧ w'.cell? ⟨B1, 0, none⟩ = some (.int .i64 (sg (nu r))) ∧ w'.cell? ⟨B1, 1, none⟩ = some (.slice a2 (ln (nu r)) c2) ∧ w'.cell? ⟨B1, 2, none⟩ = some (.int .i64 (sg (de r))) ∧ w'.cell? ⟨B1, 3, none⟩ = some (.slice b2 (ln (de r)) d2) ∧ w'.cell? ⟨B2, 0, none⟩ = some (.int .i64 (sg (nu u))) ∧ w'.cell? ⟨B2, 1, none⟩ = some (.slice a3 (ln (nu u)) c3) ∧ w'.cell? ⟨B2, 2, none⟩ = some (.int .i64 (sg (de u))) ∧ w'.cell? ⟨B2, 3, none⟩ = some (.slice b3 (ln (de u)) d3) ∧ w'.cell? ⟨B3, 0, none⟩ = some (.int .i64 (sg (nu q5))) ∧ w'.cell? ⟨B3, 1, none⟩ = some (.slice a_1 (ln (nu q5)) c_2) ∧ w'.cell? ⟨B3, 2, none⟩ = some (.int .i64 (sg (de q5))) ∧ w'.cell? ⟨B3, 3, none⟩ = some (.slice b_3 (ln (de q5)) d_4) ∧ w'.cell? ⟨B6, 0, none⟩ = some (.int .i64 (sg (nu q23))) ∧ w'.cell? ⟨B6, 1, none⟩ = some (.slice a_19 (ln (nu q23)) c_20) ∧ w'.cell? ⟨B6, 2, none⟩ = some (.int .i64 (sg (de q23))) ∧ w'.cell? ⟨B6, 3, none⟩ = some (.slice b_21 (ln (de q23)) d_22) ∧ w'.cell? ⟨w26.heap.size, 0, none⟩ = some (.int .i64 (sg (nu q29))) ∧ w'.cell? ⟨w26.heap.size, 1, none⟩ = some (.slice a_25 (ln (nu q29)) c_26) ∧ w'.cell? ⟨w26.heap.size, 2, none⟩ = some (.int .i64 (sg (de q29))) ∧ w'.cell? ⟨w26.heap.size, 3, none⟩ = some (.slice b_27 (ln (de q29)) d_28))) (by kernel_rfl) (by rw [← hv]; exact ⟨(M.out.2.2.2.2.2.2.2.2.1).at.1 0, (M.out.2.2.2.2.2.2.2.2.1).at.1 1, (M.out.2.2.2.2.2.2.2.2.1).at.1 2, (M.out.2.2.2.2.2.2.2.2.1).at.1 3, (M.out.2.2.2.2.2.2.2.1).at.1 0, (M.out.2.2.2.2.2.2.2.1).at.1 1, (M.out.2.2.2.2.2.2.2.1).at.1 2, (M.out.2.2.2.2.2.2.2.1).at.1 3, (M.out.2.2.2.2.2.2.1).at.1 0, (M.out.2.2.2.2.2.2.1).at.1 1, (M.out.2.2.2.2.2.2.1).at.1 2, (M.out.2.2.2.2.2.2.1).at.1 3, (M.out.2.2.2.2.1).at.1 0, (M.out.2.2.2.2.1).at.1 1, (M.out.2.2.2.2.1).at.1 2, (M.out.2.2.2.2.1).at.1 3, (M.out.2.2.1).at.1 0, (M.out.2.2.1).at.1 1, (M.out.2.2.1).at.1 2, (M.out.2.2.1).at.1 3, (M.out.1).at.1 0, (M.out.1).at.1 1, (M.out.1).at.1 2, (M.out.1).at.1 3⟩) (fun hH43 => ?_)
  rw [← hv] at hH43 ⊢
  clear hv
  refine tk at0 ?_
  refine tk at1 ?_
  refine tk at3 ?_
  refine tk at4 ?_
  refine tk at5 ?_
  refine tk at6 ?_
  refine tk at7 ?_
  refine wpAnyH_ready (rs := [2]) (by kernel_rfl) (by simp) ?_
  refine AllReadyH.cons at2 (fun K hK => ?_) AllReadyH.nil
  go_simp
  refine (fracCompare_is (G := G) (q := q23) (r := q29) (k := m) (M.out.2.2.2.1) (M.out.2.1) (Fz.mono Sq23.out (by omega)) (Fz.mono Sq29.out (by omega)) (by rw [Eq29.out, Eq23.out]; exact HTM.out)).mono ?_
  rintro e w30 ⟨rfl, hb⟩
  replace M := Lib.hid (Goes.go M.out hb)
  clear hb
  (try go_wp2_with fail)
  refine hK.out _ _ (⟨(M.out.2.2.2.2.2.2.2.2.1).at.1 0, (M.out.2.2.2.2.2.2.2.2.1).at.1 1, (M.out.2.2.2.2.2.2.2.2.1).at.1 2, (M.out.2.2.2.2.2.2.2.2.1).at.1 3, (M.out.2.2.2.2.2.2.2.1).at.1 0, (M.out.2.2.2.2.2.2.2.1).at.1 1, (M.out.2.2.2.2.2.2.2.1).at.1 2, (M.out.2.2.2.2.2.2.2.1).at.1 3, (M.out.2.2.2.2.2.2.1).at.1 0, (M.out.2.2.2.2.2.2.1).at.1 1, (M.out.2.2.2.2.2.2.1).at.1 2, (M.out.2.2.2.2.2.2.1).at.1 3, (M.out.2.2.2.2.1).at.1 0, (M.out.2.2.2.2.1).at.1 1, (M.out.2.2.2.2.1).at.1 2, (M.out.2.2.2.2.1).at.1 3, (M.out.2.2.1).at.1 0, (M.out.2.2.1).at.1 1, (M.out.2.2.1).at.1 2, (M.out.2.2.1).at.1 3, (M.out.1).at.1 0, (M.out.1).at.1 1, (M.out.1).at.1 2, (M.out.1).at.1 3⟩) (fun hH44 => ?_)
  clear hK K hH43
  (try simp only [Act.put, List.setIfInBounds_toArray, List.set_cons_zero, List.set_cons_succ])
  refine tk at8 ?_
  refine tk at9 ?_
  refine tk at10 ?_
  refine tk at12 ?_
  refine tk at15 ?_
  refine tk at16 ?_
  refine wpAnyH_ready (rs := [11]) (by kernel_rfl) (by simp) ?_
  refine AllReadyH.cons at11 (fun K hK => ?_) AllReadyH.nil
  go_simp
  obtain ⟨q49, eq49⟩ : ∃ v_ : Rat, v_ = (-q) := ⟨_, rfl⟩
  refine (fracNeg_ok (G := G) (q := q) (Nat.le_trans hG (M.out.2.2.2.2.2.2.2.2.2).size) (H1.out.keep (M.out.2.2.2.2.2.2.2.2.2)) (Fz.mono HQ.out (by omega))).mono ?_
  rintro e w31 ⟨a_45, c_46, b_47, d_48, rfl, hd50, hb⟩
  rw [← eq49] at hd50 ⊢
  have Sq49 : Hid (Fz q49 12) := by show Fz q49 12; rw [eq49]; exact (Fz.neg HQ.out)
  have Eq49 := Lib.hid eq49; clear eq49
  replace M := Lib.hid (And.intro hd50 (Goes.go M.out hb))
  clear hb hd50
  (try go_wp2_with fail)
  refine hK.out _ _ (⟨(M.out.2.2.2.2.2.2.2.2.2.1).at.1 0, (M.out.2.2.2.2.2.2.2.2.2.1).at.1 1, (M.out.2.2.2.2.2.2.2.2.2.1).at.1 2, (M.out.2.2.2.2.2.2.2.2.2.1).at.1 3, (M.out.2.2.2.2.2.2.2.2.1).at.1 0, (M.out.2.2.2.2.2.2.2.2.1).at.1 1, (M.out.2.2.2.2.2.2.2.2.1).at.1 2, (M.out.2.2.2.2.2.2.2.2.1).at.1 3, (M.out.2.2.2.2.2.2.2.1).at.1 0, (M.out.2.2.2.2.2.2.2.1).at.1 1, (M.out.2.2.2.2.2.2.2.1).at.1 2, (M.out.2.2.2.2.2.2.2.1).at.1 3, (M.out.2.2.2.2.2.1).at.1 0, (M.out.2.2.2.2.2.1).at.1 1, (M.out.2.2.2.2.2.1).at.1 2, (M.out.2.2.2.2.2.1).at.1 3, (M.out.2.2.2.1).at.1 0, (M.out.2.2.2.1).at.1 1, (M.out.2.2.2.1).at.1 2, (M.out.2.2.2.1).at.1 3, (M.out.2.1).at.1 0, (M.out.2.1).at.1 1, (M.out.2.1).at.1 2, (M.out.2.1).at.1 3⟩) (fun hH51 => ?_)
  clear hK K hH44
  (try simp only [Act.put, List.setIfInBounds_toArray, List.set_cons_zero, List.set_cons_succ])
  refine wpAnyH_ready (rs := [13]) (by kernel_rfl) (by simp) ?_
  refine AllReadyH.cons at13 (fun K hK => ?_) AllReadyH.nil
  go_simp
  obtain ⟨q56, eq56⟩ : ∃ v_ : Rat, v_ = (-r) := ⟨_, rfl⟩
  refine (fracNeg_ok (G := G) (q := r) (Nat.le_trans hG (M.out.2.2.2.2.2.2.2.2.2.2).size) (H2.out.keep (M.out.2.2.2.2.2.2.2.2.2.2)) (Fz.mono HR.out (by omega))).mono ?_
  rintro e w32 ⟨a_52, c_53, b_54, d_55, rfl, hd57, hb⟩
  rw [← eq56] at hd57 ⊢
  have Sq56 : Hid (Fz q56 12) := by show Fz q56 12; rw [eq56]; exact (Fz.neg HR.out)
  have Eq56 := Lib.hid eq56; clear eq56
  replace M := Lib.hid (And.intro hd57 (Goes.go M.out hb))
  clear hb hd57
  (try go_wp2_with fail)
  refine hK.out _ _ (⟨(M.out.2.2.2.2.2.2.2.2.2.2.1).at.1 0, (M.out.2.2.2.2.2.2.2.2.2.2.1).at.1 1, (M.out.2.2.2.2.2.2.2.2.2.2.1).at.1 2, (M.out.2.2.2.2.2.2.2.2.2.2.1).at.1 3, (M.out.2.2.2.2.2.2.2.2.2.1).at.1 0, (M.out.2.2.2.2.2.2.2.2.2.1).at.1 1, (M.out.2.2.2.2.2.2.2.2.2.1).at.1 2, (M.out.2.2.2.2.2.2.2.2.2.1).at.1 3, (M.out.2.2.2.2.2.2.2.2.1).at.1 0, (M.out.2.2.2.2.2.2.2.2.1).at.1 1, (M.out.2.2.2.2.2.2.2.2.1).at.1 2, (M.out.2.2.2.2.2.2.2.2.1).at.1 3, (M.out.2.2.2.2.2.2.1).at.1 0, (M.out.2.2.2.2.2.2.1).at.1 1, (M.out.2.2.2.2.2.2.1).at.1 2, (M.out.2.2.2.2.2.2.1).at.1 3, (M.out.2.2.2.2.1).at.1 0, (M.out.2.2.2.2.1).at.1 1, (M.out.2.2.2.2.1).at.1 2, (M.out.2.2.2.2.1).at.1 3, (M.out.2.2.1).at.1 0, (M.out.2.2.1).at.1 1, (M.out.2.2.1).at.1 2, (M.out.2.2.1).at.1 3⟩) (fun hH58 => ?_)
  clear hK K hH51
  (try simp only [Act.put, List.setIfInBounds_toArray, List.set_cons_zero, List.set_cons_succ])
  refine wpAnyH_ready (rs := [14]) (by kernel_rfl) (by simp) ?_
  refine AllReadyH.cons at14 (fun K hK => ?_) AllReadyH.nil
  go_simp
  refine (fracCompare_is (G := G) (q := q49) (r := q56) (k := (-k)) (M.out.2.1) (M.out.1) (Fz.mono Sq49.out (by omega)) (Fz.mono Sq56.out (by omega)) (by rw [Eq56.out, Eq49.out]; exact HNG.out)).mono ?_
  rintro e w33 ⟨rfl, hb⟩
  replace M := Lib.hid (Goes.go M.out hb)
  clear hb
  (try go_wp2_with fail)
  refine hK.out _ _ (⟨(M.out.2.2.2.2.2.2.2.2.2.2.1).at.1 0, (M.out.2.2.2.2.2.2.2.2.2.2.1).at.1 1, (M.out.2.2.2.2.2.2.2.2.2.2.1).at.1 2, (M.out.2.2.2.2.2.2.2.2.2.2.1).at.1 3, (M.out.2.2.2.2.2.2.2.2.2.1).at.1 0, (M.out.2.2.2.2.2.2.2.2.2.1).at.1 1, (M.out.2.2.2.2.2.2.2.2.2.1).at.1 2, (M.out.2.2.2.2.2.2.2.2.2.1).at.1 3, (M.out.2.2.2.2.2.2.2.2.1).at.1 0, (M.out.2.2.2.2.2.2.2.2.1).at.1 1, (M.out.2.2.2.2.2.2.2.2.1).at.1 2, (M.out.2.2.2.2.2.2.2.2.1).at.1 3, (M.out.2.2.2.2.2.2.1).at.1 0, (M.out.2.2.2.2.2.2.1).at.1 1, (M.out.2.2.2.2.2.2.1).at.1 2, (M.out.2.2.2.2.2.2.1).at.1 3, (M.out.2.2.2.2.1).at.1 0, (M.out.2.2.2.2.1).at.1 1, (M.out.2.2.2.2.1).at.1 2, (M.out.2.2.2.2.1).at.1 3, (M.out.2.2.1).at.1 0, (M.out.2.2.1).at.1 1, (M.out.2.2.1).at.1 2, (M.out.2.2.1).at.1 3⟩) (fun hH59 => ?_)
  clear hK K hH58
  (try simp only [Act.put, List.setIfInBounds_toArray, List.set_cons_zero, List.set_cons_succ])
  refine tk at17 ?_
  refine tk at18 ?_
  refine tk at19 ?_
  refine tk at20 ?_
  refine tk at22 ?_
  refine wpAnyH_ready (rs := [21]) (by kernel_rfl) (by simp) ?_
  refine AllReadyH.cons at21 (fun K hK => ?_) AllReadyH.nil
  go_simp
  refine (fracSign_is (G := G) (q := q5) (k := k) (Nat.le_trans hG (M.out.2.2.2.2.2.2.2.2.2.2.2).size) (M.out.2.2.2.2.2.2.2.1) (Fz.mono Sq5.out (by omega)) (by rw [Eq5.out]; exact HSUB.out)).mono ?_
  rintro e w34 ⟨rfl, hb⟩
  replace M := Lib.hid (Goes.go M.out hb)
  clear hb
  (try go_wp2_with fail)
  refine hK.out _ _ (⟨(M.out.2.2.2.2.2.2.2.2.2.2.1).at.1 0, (M.out.2.2.2.2.2.2.2.2.2.2.1).at.1 1, (M.out.2.2.2.2.2.2.2.2.2.2.1).at.1 2, (M.out.2.2.2.2.2.2.2.2.2.2.1).at.1 3, (M.out.2.2.2.2.2.2.2.2.2.1).at.1 0, (M.out.2.2.2.2.2.2.2.2.2.1).at.1 1, (M.out.2.2.2.2.2.2.2.2.2.1).at.1 2, (M.out.2.2.2.2.2.2.2.2.2.1).at.1 3, (M.out.2.2.2.2.2.2.2.2.1).at.1 0, (M.out.2.2.2.2.2.2.2.2.1).at.1 1, (M.out.2.2.2.2.2.2.2.2.1).at.1 2, (M.out.2.2.2.2.2.2.2.2.1).at.1 3, (M.out.2.2.2.2.2.2.1).at.1 0, (M.out.2.2.2.2.2.2.1).at.1 1, (M.out.2.2.2.2.2.2.1).at.1 2, (M.out.2.2.2.2.2.2.1).at.1 3, (M.out.2.2.2.2.1).at.1 0, (M.out.2.2.2.2.1).at.1 1, (M.out.2.2.2.2.1).at.1 2, (M.out.2.2.2.2.1).at.1 3, (M.out.2.2.1).at.1 0, (M.out.2.2.1).at.1 1, (M.out.2.2.1).at.1 2, (M.out.2.2.1).at.1 3⟩) (fun hH60 => ?_)
  clear hK K hH59
  (try simp only [Act.put, List.setIfInBounds_toArray, List.set_cons_zero, List.set_cons_succ])
  refine tk at23 ?_
  refine tk at24 ?_
  refine wpAnyH_done (by kernel_rfl) ?_ _
  clear hH60
  go_upto_region 18 with fail
  replace M := Lib.hid (And.intro (M.out.2.2.2.2.2.2.2.2.2.1) (And.intro (M.out.2.2.2.2.2.2.2.2.2.2.1) (M.out.2.2.2.2.2.2.2.2.2.2.2)))
  rename_i Kst_ hst_
  exact order_le_s18 hG HQ HR HU wn wm hbz HBZ n1 n2 HK HK2 HK3 HSUB HSW HPL HTM HNG n3 HLO HHI HT HM H1 H2 H3 (by omega) (by omega) M Kst_ hst_

set_option maxRecDepth 100000 in
set_option maxHeartbeats 4000000 in
theorem order_le_s11 {k k2 k3 m : Int} {bz : Bool} {q r u : Rat} {a1 b1 a2 b2 a3 b3 : Option Addr} {c1 d1 c2 d2 c3 d3 : Nat} {w : World}  {w18 : World} {a_7 b_9 a_1 b_3 : Option Addr} {c_8 d_10 c_2 d_4 : Nat} {q11 q5 : Rat} {B0 B1 B2 B3 B4 : Nat} {x0_ x1_ x2_ x13_ x14_ x15_ x16_ x17_ x18_ x19_ x20_ x21_ x22_ x23_ x24_ x25_ x26_ x27_ x28_ x29_ x30_ x31_ x32_ x33_ x34_ x35_ x36_ x37_ x38_ x39_ x40_ x41_ x42_ x43_ x44_ x45_ x46_ x47_ x48_ x49_ x50_ x51_ x52_ x53_ x54_ x55_ x56_ x57_ x58_ x59_ x60_ x61_ x62_ x63_ x64_ x65_ x66_ x67_ x68_ x69_ x70_ x71_ x72_ x73_ x74_ x75_ x76_ x77_ x78_ x79_ x80_ x81_ x82_ x83_ x84_ x85_ x86_ x87_ x88_ x89_ x90_ x91_ x92_ x93_ x94_ x95_ x96_ x97_ x98_ x99_ x100_ x101_ x102_ x103_ x104_ x105_ x106_ x107_ x108_ x109_ x110_ x111_ : Value} (hG : G ≤ w.heap.size) (HQ : Hid (Fz q 12)) (HR : Hid (Fz r 12)) (HU : Hid (Fz u 12)) (wn : IntKind.i64.wrap (-k) = -k) (wm : IntKind.i64.wrap (k * sg (nu u)) = m) (hbz : (k == 0) = bz) (HBZ : Hid (decide (q = r) = bz)) (n1 : decide (k < -1) = false) (n2 : decide (1 < k) = false) (HK : Hid (ordQ q r = k)) (HK2 : Hid (ordQ r u = k2)) (HK3 : Hid (ordQ q u = k3)) (HSUB : Hid (sg (nu (q - r)) = k)) (HSW : Hid (ordQ r q = -k)) (HPL : Hid (ordQ (q + u) (r + u) = k)) (HTM : Hid (ordQ (q * u) (r * u) = m)) (HNG : Hid (ordQ (-q) (-r) = -k)) (n3 : decide (k ≤ 0) = true) (HLO : Hid (pick q r (-1) = q)) (HHI : Hid (pick q r 1 = r)) (HT : Hid (Tab w)) (HM : Hid (Mx w)) (H1 : Hid (FD G w a1 c1 b1 d1 q)) (H2 : Hid (FD G w a2 c2 b2 d2 r)) (H3 : Hid (FD G w a3 c3 b3 d3 u)) (Eq11 : Hid (q11 = ((q + u)))) (Sq11 : Hid (Fz q11 25)) (Eq5 : Hid (q5 = ((q - r)))) (Sq5 : Hid (Fz q5 25)) (nsq5 : (sg (nu q5) != k) = false) (oB0 : w.heap.size ≤ B0) (oB1 : B0 < B1) (oB2 : B1 < B2) (oB3 : B2 < B3) (oB4 : B3 < B4) (M : Hid (Bx w18 B4 26 #[.int .i64 (sg (nu q11)), .slice a_7 (ln (nu q11)) c_8, .int .i64 (sg (de q11)), .slice b_9 (ln (de q11)) d_10] ∧ FD G w18 a_7 c_8 b_9 d_10 q11 ∧ Bx w18 B3 26 #[.int .i64 (sg (nu q5)), .slice a_1 (ln (nu q5)) c_2, .int .i64 (sg (de q5)), .slice b_3 (ln (de q5)) d_4] ∧ FD G w18 a_1 c_2 b_3 d_4 q5 ∧ Bx w18 B2 26 #[.int .i64 (sg (nu u)), .slice a3 (ln (nu u)) c3, .int .i64 (sg (de u)), .slice b3 (ln (de u)) d3] ∧ Bx w18 B1 26 #[.int .i64 (sg (nu r)), .slice a2 (ln (nu r)) c2, .int .i64 (sg (de r)), .slice b2 (ln (de r)) d2] ∧ Bx w18 B0 26 #[.int .i64 (sg (nu q)), .slice a1 (ln (nu q)) c1, .int .i64 (sg (de q)), .slice b1 (ln (de q)) d1] ∧ Below w.heap.size w w18)) :
    ∀ K : Act → World → Prop, (∀ a_ w_, Code.wp Tryz.prog (restAt Tryz.f5 11) (bodyPost Tryz.prog Tryz.f5 fun e w' => e = .returned (.bool true) ∧ Below w.heap.size w w') a_ w_ → K a_ w_) → Code.wp Tryz.prog (regAt Tryz.f5 11) (Exit.then K (bodyPost Tryz.prog Tryz.f5 fun e w' => e = .returned (.bool true) ∧ Below w.heap.size w w')) ⟨List.toArray (x0_ :: x1_ :: x2_ :: .pointer (some ⟨B0, 0, none⟩) :: .pointer (some ⟨B1, 0, none⟩) :: .pointer (some ⟨B2, 0, none⟩) :: .bool false :: .bool true :: .int .i64 k :: .pointer (some ⟨B3, 0, none⟩) :: .bool true :: .pointer (some ⟨B4, 0, none⟩) :: .bool true :: x13_ :: x14_ :: x15_ :: x16_ :: x17_ :: x18_ :: x19_ :: x20_ :: x21_ :: x22_ :: x23_ :: x24_ :: x25_ :: x26_ :: x27_ :: x28_ :: x29_ :: x30_ :: x31_ :: x32_ :: x33_ :: x34_ :: x35_ :: x36_ :: x37_ :: x38_ :: x39_ :: x40_ :: x41_ :: x42_ :: x43_ :: x44_ :: x45_ :: x46_ :: x47_ :: x48_ :: x49_ :: x50_ :: x51_ :: x52_ :: x53_ :: x54_ :: x55_ :: x56_ :: x57_ :: x58_ :: x59_ :: x60_ :: x61_ :: x62_ :: x63_ :: x64_ :: x65_ :: x66_ :: x67_ :: x68_ :: x69_ :: x70_ :: x71_ :: x72_ :: x73_ :: x74_ :: x75_ :: x76_ :: x77_ :: x78_ :: x79_ :: x80_ :: x81_ :: x82_ :: x83_ :: x84_ :: x85_ :: x86_ :: x87_ :: x88_ :: x89_ :: x90_ :: x91_ :: x92_ :: x93_ :: x94_ :: x95_ :: x96_ :: x97_ :: x98_ :: x99_ :: x100_ :: x101_ :: x102_ :: x103_ :: x104_ :: x105_ :: x106_ :: x107_ :: x108_ :: x109_ :: x110_ :: x111_ :: undef :: undef :: undef :: undef :: undef :: undef :: undef :: undef :: undef :: undef :: undef :: undef :: undef :: undef :: undef :: undef :: undef :: undef :: undef :: undef :: undef :: undef :: undef :: undef :: undef :: undef :: undef :: undef :: undef :: undef :: undef :: undef :: undef :: undef :: undef :: undef :: undef :: undef :: undef :: undef :: undef :: undef :: undef :: undef :: undef :: undef :: undef :: undef :: undef :: undef :: undef :: undef :: undef :: undef :: undef :: undef :: undef :: undef :: undef :: undef :: undef :: undef :: undef :: undef :: undef :: undef :: undef :: undef :: undef :: undef :: undef :: undef :: undef :: undef :: undef :: undef :: undef :: undef :: undef :: undef :: undef :: undef :: undef :: undef :: undef :: undef :: undef :: undef :: undef :: undef :: undef :: undef :: undef :: undef :: undef :: undef :: undef :: undef :: undef :: undef :: undef :: undef :: undef :: undef :: undef :: undef :: undef :: undef :: undef :: undef :: undef :: undef :: undef :: undef :: undef :: undef :: undef :: undef :: undef :: undef :: undef :: undef :: undef :: undef :: undef :: undef :: undef :: undef :: undef :: undef :: undef :: undef :: undef :: undef :: undef :: undef :: undef :: undef :: undef :: undef :: undef :: undef :: undef :: undef :: undef :: undef :: undef :: undef :: undef :: undef :: undef :: undef :: undef :: undef :: undef :: undef :: undef :: undef :: undef :: undef :: undef :: undef :: undef :: undef :: undef :: undef :: undef :: undef :: undef :: undef :: undef :: undef :: undef :: undef :: undef :: undef :: undef :: undef :: undef :: undef :: undef :: undef :: undef :: []), []⟩ w18 := by
  intro Kst_ hst_
  conv => arg 2; whnf
  conv at hst_ => enter [a_, w_, 1, 2]; whnf
  have y1 := (M.out.2.2.2.2.2.1).c4; have p1_0 := y1.1; have q1_0 := y1.2.1; have p1_1 := y1.2.2.1; have q1_1 := y1.2.2.2.1; have p1_2 := y1.2.2.2.2.1; have q1_2 := y1.2.2.2.2.2.1; have p1_3 := y1.2.2.2.2.2.2.1; have q1_3 := y1.2.2.2.2.2.2.2; clear y1
  have y2 := (M.out.2.2.2.2.1).c4; have p2_0 := y2.1; have q2_0 := y2.2.1; have p2_1 := y2.2.2.1; have q2_1 := y2.2.2.2.1; have p2_2 := y2.2.2.2.2.1; have q2_2 := y2.2.2.2.2.2.1; have p2_3 := y2.2.2.2.2.2.2.1; have q2_3 := y2.2.2.2.2.2.2.2; clear y2
  go_wp2_with fail
  clear p1_0 q1_0 p1_1 q1_1 p1_2 q1_2 p1_3 q1_3 p2_0 q2_0 p2_1 q2_1 p2_2 q2_2 p2_3 q2_3
  obtain ⟨q17, eq17⟩ : ∃ v_ : Rat, v_ = (r + u) := ⟨_, rfl⟩
  refine (fracAdd_ok (G := G) (q := r) (r := u) (H2.out.keep (M.out.2.2.2.2.2.2.2)) (H3.out.keep (M.out.2.2.2.2.2.2.2)) (Fz.mono HR.out (by omega)) (Fz.mono HU.out (by omega))).mono ?_
  rintro e w19 ⟨a_13, c_14, b_15, d_16, rfl, hd18, hb⟩
  rw [← eq17] at hd18 ⊢
  have Sq17 : Hid (Fz q17 25) := by show Fz q17 25; rw [eq17]; exact (Fz.add HR.out HU.out)
  have Eq17 := Lib.hid eq17; clear eq17
  replace M := Lib.hid (And.intro hd18 (Goes.go M.out hb))
  clear hb hd18
  go_wp2_with fail
  refine (right_ok (G := G) (q := q17) (M.out.1) (Fz.mono Sq17.out (by omega))).mono ?_
  rintro e w20 ⟨rfl, hb⟩
  replace M := Lib.hid (Goes.go M.out hb)
  clear hb
  go_upto_region 12 with fail
  obtain ⟨w21, hv⟩ : ∃ w_ : World, w_ = (w20.alloc (.cells #[.int .i64 (sg (nu q17)), .slice a_13 (ln (nu q17)) c_14, .int .i64 (sg (de q17)), .slice b_15 (ln (de q17)) d_16] 26)) := ⟨_, rfl⟩
  rw [← hv]
  have o5 : B4 < w20.heap.size := ((M.out.2.1)).lt
  replace M := Lib.hid (And.intro (hv ▸ bx1 w20 26 #[.int .i64 (sg (nu q17)), .slice a_13 (ln (nu q17)) c_14, .int .i64 (sg (de q17)), .slice b_15 (ln (de q17)) d_16]) (Goes.go M.out (hv ▸ below_alloc _ _ : Below w20.heap.size w20 w21)))
  clear hv
  have y0 := (M.out.2.2.2.2.2.2.2.2.1).c4; have p0_0 := y0.1; have q0_0 := y0.2.1; have p0_1 := y0.2.2.1; have q0_1 := y0.2.2.2.1; have p0_2 := y0.2.2.2.2.1; have q0_2 := y0.2.2.2.2.2.1; have p0_3 := y0.2.2.2.2.2.2.1; have q0_3 := y0.2.2.2.2.2.2.2; clear y0
  have y2 := (M.out.2.2.2.2.2.2.1).c4; have p2_0 := y2.1; have q2_0 := y2.2.1; have p2_1 := y2.2.2.1; have q2_1 := y2.2.2.2.1; have p2_2 := y2.2.2.2.2.1; have q2_2 := y2.2.2.2.2.2.1; have p2_3 := y2.2.2.2.2.2.2.1; have q2_3 := y2.2.2.2.2.2.2.2; clear y2
  go_wp2_with fail
  clear p0_0 q0_0 p0_1 q0_1 p0_2 q0_2 p0_3 q0_3 p2_0 q2_0 p2_1 q2_1 p2_2 q2_2 p2_3 q2_3
  obtain ⟨q23, eq23⟩ : ∃ v_ : Rat, v_ = (q * u) := ⟨_, rfl⟩
  refine (fracMul_ok (G := G) (q := q) (r := u) (Nat.le_trans hG (M.out.2.2.2.2.2.2.2.2.2).size) (H1.out.keep (M.out.2.2.2.2.2.2.2.2.2)) (H3.out.keep (M.out.2.2.2.2.2.2.2.2.2)) (Fz.mono HQ.out (by omega)) (Fz.mono HU.out (by omega))).mono ?_
  rintro e w22 ⟨a_19, c_20, b_21, d_22, rfl, hd24, hb⟩
  rw [← eq23] at hd24 ⊢
  have Sq23 : Hid (Fz q23 24) := by show Fz q23 24; rw [eq23]; exact (Fz.mul HQ.out HU.out)
  have Eq23 := Lib.hid eq23; clear eq23
  replace M := Lib.hid (And.intro hd24 (Goes.go M.out hb))
  clear hb hd24
  go_wp2_with fail
  refine (right_ok (G := G) (q := q23) (M.out.1) (Fz.mono Sq23.out (by omega))).mono ?_
  rintro e w23 ⟨rfl, hb⟩
  replace M := Lib.hid (Goes.go M.out hb)
  clear hb
  go_upto_region 13 with fail
  obtain ⟨w24, hv⟩ : ∃ w_ : World, w_ = (w23.alloc (.cells #[.int .i64 (sg (nu q23)), .slice a_19 (ln (nu q23)) c_20, .int .i64 (sg (de q23)), .slice b_21 (ln (de q23)) d_22] 26)) := ⟨_, rfl⟩
  rw [← hv]
  have o6 : w20.heap.size < w23.heap.size := ((M.out.2.1)).lt
  replace M := Lib.hid (And.intro (hv ▸ bx1 w23 26 #[.int .i64 (sg (nu q23)), .slice a_19 (ln (nu q23)) c_20, .int .i64 (sg (de q23)), .slice b_21 (ln (de q23)) d_22]) (Goes.go M.out (hv ▸ below_alloc _ _ : Below w23.heap.size w23 w24)))
  clear hv
  rename_i Kst_ hst_
  exact order_le_s13 hG HQ HR HU wn wm hbz HBZ n1 n2 HK HK2 HK3 HSUB HSW HPL HTM HNG n3 HLO HHI HT HM H1 H2 H3 Eq23 Sq23 Eq17 Sq17 Eq11 Sq11 Eq5 Sq5 nsq5 (by omega) (by omega) (by omega) (by omega) (by omega) (by omega) (by omega) M Kst_ hst_

set_option maxRecDepth 100000 in
set_option maxHeartbeats 4000000 in
theorem order_le_s9 {k k2 k3 m : Int} {bz : Bool} {q r u : Rat} {a1 b1 a2 b2 a3 b3 : Option Addr} {c1 d1 c2 d2 c3 d3 : Nat} {w : World}  {w12 : World}  {B0 B1 B2 : Nat} {x0_ x1_ x2_ x9_ x10_ x11_ x12_ x13_ x14_ x15_ x16_ x17_ x18_ x19_ x20_ x21_ x22_ x23_ x24_ x25_ x26_ x27_ x28_ x29_ x30_ x31_ x32_ x33_ x34_ x35_ x36_ x37_ x38_ x39_ x40_ x41_ x42_ x43_ x44_ x45_ x46_ x47_ x48_ x49_ x50_ x51_ x52_ x53_ x54_ x55_ x56_ x57_ x58_ x59_ x60_ x61_ x62_ x63_ x64_ x65_ x66_ x67_ x68_ x69_ x70_ x71_ x72_ x73_ x74_ x75_ x76_ x77_ x78_ x79_ x80_ x81_ x82_ x83_ x84_ x85_ x86_ x87_ x88_ x89_ x90_ x91_ x92_ x93_ : Value} (hG : G ≤ w.heap.size) (HQ : Hid (Fz q 12)) (HR : Hid (Fz r 12)) (HU : Hid (Fz u 12)) (wn : IntKind.i64.wrap (-k) = -k) (wm : IntKind.i64.wrap (k * sg (nu u)) = m) (hbz : (k == 0) = bz) (HBZ : Hid (decide (q = r) = bz)) (n1 : decide (k < -1) = false) (n2 : decide (1 < k) = false) (HK : Hid (ordQ q r = k)) (HK2 : Hid (ordQ r u = k2)) (HK3 : Hid (ordQ q u = k3)) (HSUB : Hid (sg (nu (q - r)) = k)) (HSW : Hid (ordQ r q = -k)) (HPL : Hid (ordQ (q + u) (r + u) = k)) (HTM : Hid (ordQ (q * u) (r * u) = m)) (HNG : Hid (ordQ (-q) (-r) = -k)) (n3 : decide (k ≤ 0) = true) (HLO : Hid (pick q r (-1) = q)) (HHI : Hid (pick q r 1 = r)) (HT : Hid (Tab w)) (HM : Hid (Mx w)) (H1 : Hid (FD G w a1 c1 b1 d1 q)) (H2 : Hid (FD G w a2 c2 b2 d2 r)) (H3 : Hid (FD G w a3 c3 b3 d3 u)) (oB0 : w.heap.size ≤ B0) (oB1 : B0 < B1) (oB2 : B1 < B2) (M : Hid (Bx w12 B2 26 #[.int .i64 (sg (nu u)), .slice a3 (ln (nu u)) c3, .int .i64 (sg (de u)), .slice b3 (ln (de u)) d3] ∧ Bx w12 B1 26 #[.int .i64 (sg (nu r)), .slice a2 (ln (nu r)) c2, .int .i64 (sg (de r)), .slice b2 (ln (de r)) d2] ∧ Bx w12 B0 26 #[.int .i64 (sg (nu q)), .slice a1 (ln (nu q)) c1, .int .i64 (sg (de q)), .slice b1 (ln (de q)) d1] ∧ Below w.heap.size w w12)) :
    ∀ K : Act → World → Prop, (∀ a_ w_, Code.wp Tryz.prog (restAt Tryz.f5 9) (bodyPost Tryz.prog Tryz.f5 fun e w' => e = .returned (.bool true) ∧ Below w.heap.size w w') a_ w_ → K a_ w_) → Code.wp Tryz.prog (regAt Tryz.f5 9) (Exit.then K (bodyPost Tryz.prog Tryz.f5 fun e w' => e = .returned (.bool true) ∧ Below w.heap.size w w')) ⟨List.toArray (x0_ :: x1_ :: x2_ :: .pointer (some ⟨B0, 0, none⟩) :: .pointer (some ⟨B1, 0, none⟩) :: .pointer (some ⟨B2, 0, none⟩) :: .bool false :: .bool true :: .int .i64 k :: x9_ :: x10_ :: x11_ :: x12_ :: x13_ :: x14_ :: x15_ :: x16_ :: x17_ :: x18_ :: x19_ :: x20_ :: x21_ :: x22_ :: x23_ :: x24_ :: x25_ :: x26_ :: x27_ :: x28_ :: x29_ :: x30_ :: x31_ :: x32_ :: x33_ :: x34_ :: x35_ :: x36_ :: x37_ :: x38_ :: x39_ :: x40_ :: x41_ :: x42_ :: x43_ :: x44_ :: x45_ :: x46_ :: x47_ :: x48_ :: x49_ :: x50_ :: x51_ :: x52_ :: x53_ :: x54_ :: x55_ :: x56_ :: x57_ :: x58_ :: x59_ :: x60_ :: x61_ :: x62_ :: x63_ :: x64_ :: x65_ :: x66_ :: x67_ :: x68_ :: x69_ :: x70_ :: x71_ :: x72_ :: x73_ :: x74_ :: x75_ :: x76_ :: x77_ :: x78_ :: x79_ :: x80_ :: x81_ :: x82_ :: x83_ :: x84_ :: x85_ :: x86_ :: x87_ :: x88_ :: x89_ :: x90_ :: x91_ :: x92_ :: x93_ :: undef :: undef :: undef :: undef :: undef :: undef :: undef :: undef :: undef :: undef :: undef :: undef :: undef :: undef :: undef :: undef :: undef :: undef :: undef :: undef :: undef :: undef :: undef :: undef :: undef :: undef :: undef :: undef :: undef :: undef :: undef :: undef :: undef :: undef :: undef :: undef :: undef :: undef :: undef :: undef :: undef :: undef :: undef :: undef :: undef :: undef :: undef :: undef :: undef :: undef :: undef :: undef :: undef :: undef :: undef :: undef :: undef :: undef :: undef :: undef :: undef :: undef :: undef :: undef :: undef :: undef :: undef :: undef :: undef :: undef :: undef :: undef :: undef :: undef :: undef :: undef :: undef :: undef :: undef :: undef :: undef :: undef :: undef :: undef :: undef :: undef :: undef :: undef :: undef :: undef :: undef :: undef :: undef :: undef :: undef :: undef :: undef :: undef :: undef :: undef :: undef :: undef :: undef :: undef :: undef :: undef :: undef :: undef :: undef :: undef :: undef :: undef :: undef :: undef :: undef :: undef :: undef :: undef :: undef :: undef :: undef :: undef :: undef :: undef :: undef :: undef :: undef :: undef :: undef :: undef :: undef :: undef :: undef :: undef :: undef :: undef :: undef :: undef :: undef :: undef :: undef :: undef :: undef :: undef :: undef :: undef :: undef :: undef :: undef :: undef :: undef :: undef :: undef :: undef :: undef :: undef :: undef :: undef :: undef :: undef :: undef :: undef :: undef :: undef :: undef :: undef :: undef :: undef :: undef :: undef :: undef :: undef :: undef :: undef :: undef :: undef :: undef :: undef :: undef :: undef :: undef :: undef :: undef :: undef :: undef :: undef :: undef :: undef :: undef :: undef :: undef :: undef :: undef :: undef :: undef :: undef :: undef :: undef :: undef :: undef :: undef :: []), []⟩ w12 := by
  intro Kst_ hst_
  conv => arg 2; whnf
  conv at hst_ => enter [a_, w_, 1, 2]; whnf
  have y0 := (M.out.2.2.1).c4; have p0_0 := y0.1; have q0_0 := y0.2.1; have p0_1 := y0.2.2.1; have q0_1 := y0.2.2.2.1; have p0_2 := y0.2.2.2.2.1; have q0_2 := y0.2.2.2.2.2.1; have p0_3 := y0.2.2.2.2.2.2.1; have q0_3 := y0.2.2.2.2.2.2.2; clear y0
  have y1 := (M.out.2.1).c4; have p1_0 := y1.1; have q1_0 := y1.2.1; have p1_1 := y1.2.2.1; have q1_1 := y1.2.2.2.1; have p1_2 := y1.2.2.2.2.1; have q1_2 := y1.2.2.2.2.2.1; have p1_3 := y1.2.2.2.2.2.2.1; have q1_3 := y1.2.2.2.2.2.2.2; clear y1
  go_wp2_with fail
  clear p0_0 q0_0 p0_1 q0_1 p0_2 q0_2 p0_3 q0_3 p1_0 q1_0 p1_1 q1_1 p1_2 q1_2 p1_3 q1_3
  obtain ⟨q5, eq5⟩ : ∃ v_ : Rat, v_ = (q - r) := ⟨_, rfl⟩
  refine (fracSub_ok (G := G) (q := q) (r := r) (H1.out.keep (M.out.2.2.2)) (H2.out.keep (M.out.2.2.2)) (Fz.mono HQ.out (by omega)) (Fz.mono HR.out (by omega))).mono ?_
  rintro e w13 ⟨a_1, c_2, b_3, d_4, rfl, hd6, hb⟩
  rw [← eq5] at hd6 ⊢
  have Sq5 : Hid (Fz q5 25) := by show Fz q5 25; rw [eq5]; exact (Fz.sub HQ.out HR.out)
  have Eq5 := Lib.hid eq5; clear eq5
  replace M := Lib.hid (And.intro hd6 (Goes.go M.out hb))
  clear hb hd6
  have nsq5 : (sg (nu q5) != k) = false := by rw [Eq5.out, HSUB.out]; simp
  go_wp2_with fail
  refine (right_ok (G := G) (q := q5) (M.out.1) (Fz.mono Sq5.out (by omega))).mono ?_
  rintro e w14 ⟨rfl, hb⟩
  replace M := Lib.hid (Goes.go M.out hb)
  clear hb
  go_upto_region 10 with fail
  obtain ⟨w15, hv⟩ : ∃ w_ : World, w_ = (w14.alloc (.cells #[.int .i64 (sg (nu q5)), .slice a_1 (ln (nu q5)) c_2, .int .i64 (sg (de q5)), .slice b_3 (ln (de q5)) d_4] 26)) := ⟨_, rfl⟩
  rw [← hv]
  have o3 : B2 < w14.heap.size := ((M.out.2.1)).lt
  replace M := Lib.hid (And.intro (hv ▸ bx1 w14 26 #[.int .i64 (sg (nu q5)), .slice a_1 (ln (nu q5)) c_2, .int .i64 (sg (de q5)), .slice b_3 (ln (de q5)) d_4]) (Goes.go M.out (hv ▸ below_alloc _ _ : Below w14.heap.size w14 w15)))
  clear hv
  have y0 := (M.out.2.2.2.2.1).c4; have p0_0 := y0.1; have q0_0 := y0.2.1; have p0_1 := y0.2.2.1; have q0_1 := y0.2.2.2.1; have p0_2 := y0.2.2.2.2.1; have q0_2 := y0.2.2.2.2.2.1; have p0_3 := y0.2.2.2.2.2.2.1; have q0_3 := y0.2.2.2.2.2.2.2; clear y0
  have y2 := (M.out.2.2.1).c4; have p2_0 := y2.1; have q2_0 := y2.2.1; have p2_1 := y2.2.2.1; have q2_1 := y2.2.2.2.1; have p2_2 := y2.2.2.2.2.1; have q2_2 := y2.2.2.2.2.2.1; have p2_3 := y2.2.2.2.2.2.2.1; have q2_3 := y2.2.2.2.2.2.2.2; clear y2
  go_wp2_with fail
  clear p0_0 q0_0 p0_1 q0_1 p0_2 q0_2 p0_3 q0_3 p2_0 q2_0 p2_1 q2_1 p2_2 q2_2 p2_3 q2_3
  obtain ⟨q11, eq11⟩ : ∃ v_ : Rat, v_ = (q + u) := ⟨_, rfl⟩
  refine (fracAdd_ok (G := G) (q := q) (r := u) (H1.out.keep (M.out.2.2.2.2.2)) (H3.out.keep (M.out.2.2.2.2.2)) (Fz.mono HQ.out (by omega)) (Fz.mono HU.out (by omega))).mono ?_
  rintro e w16 ⟨a_7, c_8, b_9, d_10, rfl, hd12, hb⟩
  rw [← eq11] at hd12 ⊢
  have Sq11 : Hid (Fz q11 25) := by show Fz q11 25; rw [eq11]; exact (Fz.add HQ.out HU.out)
  have Eq11 := Lib.hid eq11; clear eq11
  replace M := Lib.hid (And.intro hd12 (Goes.go M.out hb))
  clear hb hd12
  go_wp2_with fail
  refine (right_ok (G := G) (q := q11) (M.out.1) (Fz.mono Sq11.out (by omega))).mono ?_
  rintro e w17 ⟨rfl, hb⟩
  replace M := Lib.hid (Goes.go M.out hb)
  clear hb
  go_upto_region 11 with fail
  obtain ⟨w18, hv⟩ : ∃ w_ : World, w_ = (w17.alloc (.cells #[.int .i64 (sg (nu q11)), .slice a_7 (ln (nu q11)) c_8, .int .i64 (sg (de q11)), .slice b_9 (ln (de q11)) d_10] 26)) := ⟨_, rfl⟩
  rw [← hv]
  have o4 : w14.heap.size < w17.heap.size := ((M.out.2.1)).lt
  replace M := Lib.hid (And.intro (hv ▸ bx1 w17 26 #[.int .i64 (sg (nu q11)), .slice a_7 (ln (nu q11)) c_8, .int .i64 (sg (de q11)), .slice b_9 (ln (de q11)) d_10]) (Goes.go M.out (hv ▸ below_alloc _ _ : Below w17.heap.size w17 w18)))
  clear hv
  rename_i Kst_ hst_
  exact order_le_s11 hG HQ HR HU wn wm hbz HBZ n1 n2 HK HK2 HK3 HSUB HSW HPL HTM HNG n3 HLO HHI HT HM H1 H2 H3 Eq11 Sq11 Eq5 Sq5 nsq5 (by omega) (by omega) (by omega) (by omega) (by omega) M Kst_ hst_

set_option maxRecDepth 100000 in
set_option maxHeartbeats 4000000 in
theorem order_le {k k2 k3 m : Int} {bz p2 p3 : Bool} {q r u : Rat} {a1 b1 a2 b2 a3 b3 : Option Addr} {c1 d1 c2 d2 c3 d3 : Nat} {w : World}  (hG : G ≤ w.heap.size) (HQ : Hid (Fz q 12)) (HR : Hid (Fz r 12)) (HU : Hid (Fz u 12)) (wn : IntKind.i64.wrap (-k) = -k) (wm : IntKind.i64.wrap (k * sg (nu u)) = m) (hbz : (k == 0) = bz) (HBZ : Hid (decide (q = r) = bz)) (n1 : decide (k < -1) = false) (n2 : decide (1 < k) = false) (HK : Hid (ordQ q r = k)) (HK2 : Hid (ordQ r u = k2)) (HK3 : Hid (ordQ q u = k3)) (HSUB : Hid (sg (nu (q - r)) = k)) (HSW : Hid (ordQ r q = -k)) (HPL : Hid (ordQ (q + u) (r + u) = k)) (HTM : Hid (ordQ (q * u) (r * u) = m)) (HNG : Hid (ordQ (-q) (-r) = -k)) (n3 : decide (k ≤ 0) = true) (hp2 : decide (k2 ≤ 0) = p2) (hp3 : decide (0 < k3) = p3) (HC : Hid (ChainB p2 p3)) (HLO : Hid (pick q r (-1) = q)) (HHI : Hid (pick q r 1 = r)) (ht : Tab w) (hm : Mx w) (h1 : FD G w a1 c1 b1 d1 q) (h2 : FD G w a2 c2 b2 d2 r) (h3 : FD G w a3 c3 b3 d3 u) :
    Calls Tryz.prog 5 #[.agg #[.int .i64 (sg (nu q)), .slice a1 (ln (nu q)) c1, .int .i64 (sg (de q)), .slice b1 (ln (de q)) d1], .agg #[.int .i64 (sg (nu r)), .slice a2 (ln (nu r)) c2, .int .i64 (sg (de r)), .slice b2 (ln (de r)) d2], .agg #[.int .i64 (sg (nu u)), .slice a3 (ln (nu u)) c3, .int .i64 (sg (de u)), .slice b3 (ln (de u)) d3]] w fun e w' => e = .returned (.bool true) ∧ Below w.heap.size w w' := by
  have HT : Hid (Tab w) := ht
  have HM : Hid (Mx w) := hm
  have H1 : Hid (FD G w a1 c1 b1 d1 q) := h1
  have H2 : Hid (FD G w a2 c2 b2 d2 r) := h2
  have H3 : Hid (FD G w a3 c3 b3 d3 u) := h3
  clear ht hm h1 h2 h3
  have M : Hid (Below w.heap.size w w) := Below.refl _ _
  go_enter Tryz.func5, Tryz.ntmps5
  go_upto_region 1 with fail
  obtain ⟨w1, hv⟩ : ∃ w_ : World, w_ = (((w.alloc (.cells #[.int .i64 (sg (nu q)), .slice a1 (ln (nu q)) c1, .int .i64 (sg (de q)), .slice b1 (ln (de q)) d1] 26)).alloc (.cells #[.int .i64 (sg (nu r)), .slice a2 (ln (nu r)) c2, .int .i64 (sg (de r)), .slice b2 (ln (de r)) d2] 26)).alloc (.cells #[.int .i64 (sg (nu u)), .slice a3 (ln (nu u)) c3, .int .i64 (sg (de u)), .slice b3 (ln (de u)) d3] 26)) := ⟨_, rfl⟩
  rw [← hv]
  have hbx := bx3 w 26 26 26 #[.int .i64 (sg (nu q)), .slice a1 (ln (nu q)) c1, .int .i64 (sg (de q)), .slice b1 (ln (de q)) d1] #[.int .i64 (sg (nu r)), .slice a2 (ln (nu r)) c2, .int .i64 (sg (de r)), .slice b2 (ln (de r)) d2] #[.int .i64 (sg (nu u)), .slice a3 (ln (nu u)) c3, .int .i64 (sg (de u)), .slice b3 (ln (de u)) d3]
  rw [← hv] at hbx
  have hbn : Below w.heap.size w w1 := by rw [hv]; exact (Below.alloc (Below.alloc (Below.alloc (Below.refl _ _) (by simp <;> omega) _) (by simp <;> omega) _) (by simp <;> omega) _)
  replace M := Lib.hid (And.intro hbx.2.2 (And.intro hbx.2.1 (And.intro hbx.1 (Goes.go M.out hbn))))
  clear hbx hbn
  clear hv
  go_wp2_with fail
  refine (small_ok (G := G) (Nat.le_trans hG (M.out.2.2.2).size) (HT.out.keep (M.out.2.2.2)) (HM.out.keep (M.out.2.2.2))).mono ?_
  rintro e w2 ⟨rfl, hb⟩
  replace M := Lib.hid (Goes.go M.out hb)
  clear hb
  have y0 := (M.out.2.2.1).c4; have p0_0 := y0.1; have q0_0 := y0.2.1; have p0_1 := y0.2.2.1; have q0_1 := y0.2.2.2.1; have p0_2 := y0.2.2.2.2.1; have q0_2 := y0.2.2.2.2.2.1; have p0_3 := y0.2.2.2.2.2.2.1; have q0_3 := y0.2.2.2.2.2.2.2; clear y0
  go_wp2_with fail
  clear p0_0 q0_0 p0_1 q0_1 p0_2 q0_2 p0_3 q0_3
  refine (rfFew_ok (s := (sg (nu q))) (t := (sg (de q))) (m := 12) (r := true) (few_fz HQ.out rfl)).mono ?_
  rintro e w3 ⟨rfl, hb⟩
  replace M := Lib.hid (Goes.go M.out hb)
  clear hb
  have y1 := (M.out.2.1).c4; have p1_0 := y1.1; have q1_0 := y1.2.1; have p1_1 := y1.2.2.1; have q1_1 := y1.2.2.2.1; have p1_2 := y1.2.2.2.2.1; have q1_2 := y1.2.2.2.2.2.1; have p1_3 := y1.2.2.2.2.2.2.1; have q1_3 := y1.2.2.2.2.2.2.2; clear y1
  go_wp2_with fail
  clear p1_0 q1_0 p1_1 q1_1 p1_2 q1_2 p1_3 q1_3
  refine (rfFew_ok (s := (sg (nu r))) (t := (sg (de r))) (m := 12) (r := true) (few_fz HR.out rfl)).mono ?_
  rintro e w4 ⟨rfl, hb⟩
  replace M := Lib.hid (Goes.go M.out hb)
  clear hb
  have y2 := (M.out.1).c4; have p2_0 := y2.1; have q2_0 := y2.2.1; have p2_1 := y2.2.2.1; have q2_1 := y2.2.2.2.1; have p2_2 := y2.2.2.2.2.1; have q2_2 := y2.2.2.2.2.2.1; have p2_3 := y2.2.2.2.2.2.2.1; have q2_3 := y2.2.2.2.2.2.2.2; clear y2
  go_wp2_with fail
  clear p2_0 q2_0 p2_1 q2_1 p2_2 q2_2 p2_3 q2_3
  refine (rfFew_ok (s := (sg (nu u))) (t := (sg (de u))) (m := 12) (r := true) (few_fz HU.out rfl)).mono ?_
  rintro e w5 ⟨rfl, hb⟩
  replace M := Lib.hid (Goes.go M.out hb)
  clear hb
  have y0 := (M.out.2.2.1).c4; have p0_0 := y0.1; have q0_0 := y0.2.1; have p0_1 := y0.2.2.1; have q0_1 := y0.2.2.2.1; have p0_2 := y0.2.2.2.2.1; have q0_2 := y0.2.2.2.2.2.1; have p0_3 := y0.2.2.2.2.2.2.1; have q0_3 := y0.2.2.2.2.2.2.2; clear y0
  go_wp2_with fail
  clear p0_0 q0_0 p0_1 q0_1 p0_2 q0_2 p0_3 q0_3
  refine (fracRight_ok (G := G) (q := q) (H1.out.keep (M.out.2.2.2)) (Fz.mono HQ.out (by omega))).mono ?_
  rintro e w6 ⟨rfl, hb⟩
  replace M := Lib.hid (Goes.go M.out hb)
  clear hb
  have y1 := (M.out.2.1).c4; have p1_0 := y1.1; have q1_0 := y1.2.1; have p1_1 := y1.2.2.1; have q1_1 := y1.2.2.2.1; have p1_2 := y1.2.2.2.2.1; have q1_2 := y1.2.2.2.2.2.1; have p1_3 := y1.2.2.2.2.2.2.1; have q1_3 := y1.2.2.2.2.2.2.2; clear y1
  go_wp2_with fail
  clear p1_0 q1_0 p1_1 q1_1 p1_2 q1_2 p1_3 q1_3
  refine (fracRight_ok (G := G) (q := r) (H2.out.keep (M.out.2.2.2)) (Fz.mono HR.out (by omega))).mono ?_
  rintro e w7 ⟨rfl, hb⟩
  replace M := Lib.hid (Goes.go M.out hb)
  clear hb
  have y2 := (M.out.1).c4; have p2_0 := y2.1; have q2_0 := y2.2.1; have p2_1 := y2.2.2.1; have q2_1 := y2.2.2.2.1; have p2_2 := y2.2.2.2.2.1; have q2_2 := y2.2.2.2.2.2.1; have p2_3 := y2.2.2.2.2.2.2.1; have q2_3 := y2.2.2.2.2.2.2.2; clear y2
  go_wp2_with fail
  clear p2_0 q2_0 p2_1 q2_1 p2_2 q2_2 p2_3 q2_3
  refine (fracRight_ok (G := G) (q := u) (H3.out.keep (M.out.2.2.2)) (Fz.mono HU.out (by omega))).mono ?_
  rintro e w8 ⟨rfl, hb⟩
  replace M := Lib.hid (Goes.go M.out hb)
  clear hb
  have y0 := (M.out.2.2.1).c4; have p0_0 := y0.1; have q0_0 := y0.2.1; have p0_1 := y0.2.2.1; have q0_1 := y0.2.2.2.1; have p0_2 := y0.2.2.2.2.1; have q0_2 := y0.2.2.2.2.2.1; have p0_3 := y0.2.2.2.2.2.2.1; have q0_3 := y0.2.2.2.2.2.2.2; clear y0
  have y1 := (M.out.2.1).c4; have p1_0 := y1.1; have q1_0 := y1.2.1; have p1_1 := y1.2.2.1; have q1_1 := y1.2.2.2.1; have p1_2 := y1.2.2.2.2.1; have q1_2 := y1.2.2.2.2.2.1; have p1_3 := y1.2.2.2.2.2.2.1; have q1_3 := y1.2.2.2.2.2.2.2; clear y1
  go_wp2_with fail
  clear p0_0 q0_0 p0_1 q0_1 p0_2 q0_2 p0_3 q0_3 p1_0 q1_0 p1_1 q1_1 p1_2 q1_2 p1_3 q1_3
  refine (fracCompare_is (G := G) (q := q) (r := r) (k := k) (H1.out.keep (M.out.2.2.2)) (H2.out.keep (M.out.2.2.2)) (Fz.mono HQ.out (by omega)) (Fz.mono HR.out (by omega)) (by exact HK.out)).mono ?_
  rintro e w9 ⟨rfl, hb⟩
  replace M := Lib.hid (Goes.go M.out hb)
  clear hb
  have y0 := (M.out.2.2.1).c4; have p0_0 := y0.1; have q0_0 := y0.2.1; have p0_1 := y0.2.2.1; have q0_1 := y0.2.2.2.1; have p0_2 := y0.2.2.2.2.1; have q0_2 := y0.2.2.2.2.2.1; have p0_3 := y0.2.2.2.2.2.2.1; have q0_3 := y0.2.2.2.2.2.2.2; clear y0
  have y1 := (M.out.2.1).c4; have p1_0 := y1.1; have q1_0 := y1.2.1; have p1_1 := y1.2.2.1; have q1_1 := y1.2.2.2.1; have p1_2 := y1.2.2.2.2.1; have q1_2 := y1.2.2.2.2.2.1; have p1_3 := y1.2.2.2.2.2.2.1; have q1_3 := y1.2.2.2.2.2.2.2; clear y1
  go_wp2_with fail
  clear p0_0 q0_0 p0_1 q0_1 p0_2 q0_2 p0_3 q0_3 p1_0 q1_0 p1_1 q1_1 p1_2 q1_2 p1_3 q1_3
  refine (rfsame_b (G := G) (q := q) (r := r) (b := bz) (H1.out.keep (M.out.2.2.2)) (H2.out.keep (M.out.2.2.2)) (Fz.mono HQ.out (by omega)) (Fz.mono HR.out (by omega)) HBZ.out).mono ?_
  rintro e w10 ⟨rfl, hb⟩
  replace M := Lib.hid (Goes.go M.out hb)
  clear hb
  have y1 := (M.out.2.1).c4; have p1_0 := y1.1; have q1_0 := y1.2.1; have p1_1 := y1.2.2.1; have q1_1 := y1.2.2.2.1; have p1_2 := y1.2.2.2.2.1; have q1_2 := y1.2.2.2.2.2.1; have p1_3 := y1.2.2.2.2.2.2.1; have q1_3 := y1.2.2.2.2.2.2.2; clear y1
  have y0 := (M.out.2.2.1).c4; have p0_0 := y0.1; have q0_0 := y0.2.1; have p0_1 := y0.2.2.1; have q0_1 := y0.2.2.2.1; have p0_2 := y0.2.2.2.2.1; have q0_2 := y0.2.2.2.2.2.1; have p0_3 := y0.2.2.2.2.2.2.1; have q0_3 := y0.2.2.2.2.2.2.2; clear y0
  go_wp2_with fail
  clear p1_0 q1_0 p1_1 q1_1 p1_2 q1_2 p1_3 q1_3 p0_0 q0_0 p0_1 q0_1 p0_2 q0_2 p0_3 q0_3
  refine (fracCompare_is (G := G) (q := r) (r := q) (k := (-k)) (H2.out.keep (M.out.2.2.2)) (H1.out.keep (M.out.2.2.2)) (Fz.mono HR.out (by omega)) (Fz.mono HQ.out (by omega)) (by exact HSW.out)).mono ?_
  rintro e w11 ⟨rfl, hb⟩
  replace M := Lib.hid (Goes.go M.out hb)
  clear hb
  have y1 := (M.out.2.1).c4; have p1_0 := y1.1; have q1_0 := y1.2.1; have p1_1 := y1.2.2.1; have q1_1 := y1.2.2.2.1; have p1_2 := y1.2.2.2.2.1; have q1_2 := y1.2.2.2.2.2.1; have p1_3 := y1.2.2.2.2.2.2.1; have q1_3 := y1.2.2.2.2.2.2.2; clear y1
  have y2 := (M.out.1).c4; have p2_0 := y2.1; have q2_0 := y2.2.1; have p2_1 := y2.2.2.1; have q2_1 := y2.2.2.2.1; have p2_2 := y2.2.2.2.2.1; have q2_2 := y2.2.2.2.2.2.1; have p2_3 := y2.2.2.2.2.2.2.1; have q2_3 := y2.2.2.2.2.2.2.2; clear y2
  go_wp2_with fail
  clear p1_0 q1_0 p1_1 q1_1 p1_2 q1_2 p1_3 q1_3 p2_0 q2_0 p2_1 q2_1 p2_2 q2_2 p2_3 q2_3
  refine (fracCompare_is (G := G) (q := r) (r := u) (k := k2) (H2.out.keep (M.out.2.2.2)) (H3.out.keep (M.out.2.2.2)) (Fz.mono HR.out (by omega)) (Fz.mono HU.out (by omega)) (by exact HK2.out)).mono ?_
  rintro e w12 ⟨rfl, hb⟩
  replace M := Lib.hid (Goes.go M.out hb)
  clear hb
  cases p2 with
  | false =>
    go_upto_region 9 with fail
    rename_i Kst_ hst_
    exact order_le_s9 hG HQ HR HU wn wm hbz HBZ n1 n2 HK HK2 HK3 HSUB HSW HPL HTM HNG n3 HLO HHI HT HM H1 H2 H3 (by omega) (by omega) (by omega) M Kst_ hst_
  | true =>
    have y0 := (M.out.2.2.1).c4; have p0_0 := y0.1; have q0_0 := y0.2.1; have p0_1 := y0.2.2.1; have q0_1 := y0.2.2.2.1; have p0_2 := y0.2.2.2.2.1; have q0_2 := y0.2.2.2.2.2.1; have p0_3 := y0.2.2.2.2.2.2.1; have q0_3 := y0.2.2.2.2.2.2.2; clear y0
    have y2 := (M.out.1).c4; have p2_0 := y2.1; have q2_0 := y2.2.1; have p2_1 := y2.2.2.1; have q2_1 := y2.2.2.2.1; have p2_2 := y2.2.2.2.2.1; have q2_2 := y2.2.2.2.2.2.1; have p2_3 := y2.2.2.2.2.2.2.1; have q2_3 := y2.2.2.2.2.2.2.2; clear y2
    go_wp2_with fail
    clear p0_0 q0_0 p0_1 q0_1 p0_2 q0_2 p0_3 q0_3 p2_0 q2_0 p2_1 q2_1 p2_2 q2_2 p2_3 q2_3
    refine (fracCompare_is (G := G) (q := q) (r := u) (k := k3) (H1.out.keep (M.out.2.2.2)) (H3.out.keep (M.out.2.2.2)) (Fz.mono HQ.out (by omega)) (Fz.mono HU.out (by omega)) (by exact HK3.out)).mono ?_
    rintro e w13 ⟨rfl, hb⟩
    replace M := Lib.hid (Goes.go M.out hb)
    clear hb
    cases p3 with
    | false =>
      go_upto_region 9 with fail
      rename_i Kst_ hst_
      exact order_le_s9 hG HQ HR HU wn wm hbz HBZ n1 n2 HK HK2 HK3 HSUB HSW HPL HTM HNG n3 HLO HHI HT HM H1 H2 H3 (by omega) (by omega) (by omega) M Kst_ hst_
    | true =>
      go_wp2_with fail
      go_ret
      exact absurd ((show true = true → true = false from HC.out) rfl) (by decide)

set_option maxRecDepth 100000 in
set_option maxHeartbeats 4000000 in
theorem order_gt_s24 {k k2 k3 m : Int} {bz : Bool} {q r u : Rat} {a1 b1 a2 b2 a3 b3 : Option Addr} {c1 d1 c2 d2 c3 d3 : Nat} {w : World}  {w49 : World} {a_89 b_91 a_77 b_79 a_71 b_73 a_66 b_68 a_61 b_63 : Option Addr} {c_90 d_92 c_78 d_80 c_72 d_74 c_67 d_69 c_62 d_64 : Nat} {q93 q81 q75 : Rat} {B8 B9 B10 B11 B12 : Nat} {x0_ x1_ x2_ x3_ x4_ x5_ x8_ x9_ x11_ x13_ x15_ x17_ x25_ x26_ x27_ x28_ x29_ x30_ x31_ x32_ x33_ x34_ x35_ x36_ x37_ x38_ x39_ x40_ x41_ x42_ x43_ x44_ x45_ x46_ x47_ x48_ x49_ x50_ x51_ x52_ x53_ x54_ x55_ x56_ x57_ x58_ x59_ x60_ x61_ x62_ x63_ x64_ x65_ x66_ x67_ x68_ x69_ x70_ x71_ x72_ x73_ x74_ x75_ x76_ x77_ x78_ x79_ x80_ x81_ x82_ x83_ x84_ x85_ x86_ x87_ x88_ x89_ x90_ x91_ x92_ x93_ x94_ x95_ x96_ x97_ x98_ x99_ x100_ x101_ x102_ x103_ x104_ x105_ x106_ x107_ x108_ x109_ x110_ x111_ x112_ x113_ x114_ x115_ x116_ x117_ x118_ x119_ x120_ x121_ x122_ x123_ x124_ x125_ x126_ x127_ x128_ x129_ x130_ x131_ x132_ x133_ x134_ x135_ x136_ x137_ x138_ x139_ x140_ x141_ x142_ x143_ x144_ x145_ x146_ x147_ x148_ x149_ x150_ x151_ x152_ x153_ x154_ x155_ x156_ x157_ x158_ x159_ x160_ x161_ x162_ x163_ x164_ x165_ x166_ x167_ x168_ x169_ x170_ x171_ x172_ x173_ x174_ x175_ x176_ x177_ x178_ x179_ x180_ x181_ x182_ x183_ x184_ x185_ x186_ x187_ x188_ x189_ x190_ x191_ x192_ x193_ x194_ x195_ x196_ x197_ x198_ x199_ x200_ x201_ x202_ x203_ x204_ x205_ x206_ x207_ x208_ x209_ x210_ x211_ x212_ x213_ x214_ x215_ x216_ x217_ x218_ x219_ x220_ x221_ x222_ x223_ x224_ x225_ x226_ x227_ x228_ x229_ x230_ x231_ x232_ x233_ x234_ x235_ x236_ x237_ x238_ x239_ x240_ x241_ x242_ x243_ x244_ x245_ x246_ x247_ x248_ x249_ x250_ x251_ x252_ x253_ x254_ x255_ x256_ x257_ x258_ x259_ x260_ x261_ x262_ x263_ x264_ x265_ x266_ x267_ x268_ x269_ x270_ x271_ x272_ x273_ x274_ x275_ x276_ x277_ x278_ x279_ x280_ x281_ x282_ x283_ x284_ x285_ x286_ x287_ x288_ x289_ x290_ x291_ x292_ x293_ x294_ : Value} (_hG : G ≤ w.heap.size) (HQ : Hid (Fz q 12)) (HR : Hid (Fz r 12)) (_HU : Hid (Fz u 12)) (_wn : IntKind.i64.wrap (-k) = -k) (_wm : IntKind.i64.wrap (k * sg (nu u)) = m) (_hbz : (k == 0) = bz) (_HBZ : Hid (decide (q = r) = bz)) (_n1 : decide (k < -1) = false) (_n2 : decide (1 < k) = false) (_HK : Hid (ordQ q r = k)) (_HK2 : Hid (ordQ r u = k2)) (_HK3 : Hid (ordQ q u = k3)) (_HSUB : Hid (sg (nu (q - r)) = k)) (HSW : Hid (ordQ r q = -k)) (_HPL : Hid (ordQ (q + u) (r + u) = k)) (_HTM : Hid (ordQ (q * u) (r * u) = m)) (_HNG : Hid (ordQ (-q) (-r) = -k)) (_n3 : decide (-k ≤ 0) = true) (_n4 : decide (k ≤ 0) = false) (n5 : decide (0 ≤ k) = true) (_HLO : Hid (pick q r (-1) = r)) (_HHI : Hid (pick q r 1 = q)) (_HNE : Hid (¬ r = q)) (_HT : Hid (Tab w)) (_HM : Hid (Mx w)) (_H1 : Hid (FD G w a1 c1 b1 d1 q)) (_H2 : Hid (FD G w a2 c2 b2 d2 r)) (_H3 : Hid (FD G w a3 c3 b3 d3 u)) (Eq93 : Hid (q93 = (((q + ((-q))))))) (Sq93 : Hid (Fz q93 25)) (Eq81 : Hid (q81 = ((((q + r)))))) (_Sq81 : Hid (Fz q81 25)) (Eq75 : Hid (q75 = ((((r + q)))))) (Sq75 : Hid (Fz q75 25)) (_oB8 : w.heap.size ≤ B8) (_oB9 : B8 < B9) (_oB10 : B9 < B10) (_oB11 : B10 < B11) (_oB12 : B11 < B12) (M : Hid (Bx w49 B12 26 #[.int .i64 (sg (nu q93)), .slice a_89 (ln (nu q93)) c_90, .int .i64 (sg (de q93)), .slice b_91 (ln (de q93)) d_92] ∧ FD G w49 a_89 c_90 b_91 d_92 q93 ∧ FD G w49 a_77 c_78 b_79 d_80 q81 ∧ FD G w49 a_71 c_72 b_73 d_74 q75 ∧ FD G w49 a_66 c_67 b_68 d_69 q ∧ FD G w49 a_61 c_62 b_63 d_64 r ∧ Bx w49 B8 26 #[.int .i64 (sg (nu r)), .slice a_61 (ln (nu r)) c_62, .int .i64 (sg (de r)), .slice b_63 (ln (de r)) d_64] ∧ Bx w49 B9 26 #[.int .i64 (sg (nu q)), .slice a_66 (ln (nu q)) c_67, .int .i64 (sg (de q)), .slice b_68 (ln (de q)) d_69] ∧ Bx w49 B10 26 #[.int .i64 (sg (nu q75)), .slice a_71 (ln (nu q75)) c_72, .int .i64 (sg (de q75)), .slice b_73 (ln (de q75)) d_74] ∧ Bx w49 B11 26 #[.int .i64 (sg (nu q81)), .slice a_77 (ln (nu q81)) c_78, .int .i64 (sg (de q81)), .slice b_79 (ln (de q81)) d_80] ∧ Below w.heap.size w w49)) :
    ∀ K : Act → World → Prop, (∀ a_ w_, Code.wp Tryz.prog (restAt Tryz.f5 24) (bodyPost Tryz.prog Tryz.f5 fun e w' => e = .returned (.bool true) ∧ Below w.heap.size w w') a_ w_ → K a_ w_) → Code.wp Tryz.prog (regAt Tryz.f5 24) (Exit.then K (bodyPost Tryz.prog Tryz.f5 fun e w' => e = .returned (.bool true) ∧ Below w.heap.size w w')) ⟨List.toArray (x0_ :: x1_ :: x2_ :: x3_ :: x4_ :: x5_ :: .bool false :: .bool true :: x8_ :: x9_ :: .bool true :: x11_ :: .bool true :: x13_ :: .bool true :: x15_ :: .bool true :: x17_ :: .bool true :: .pointer (some ⟨B8, 0, none⟩) :: .pointer (some ⟨B9, 0, none⟩) :: .pointer (some ⟨B10, 0, none⟩) :: .pointer (some ⟨B11, 0, none⟩) :: .pointer (some ⟨B12, 0, none⟩) :: .bool true :: x25_ :: x26_ :: x27_ :: x28_ :: x29_ :: x30_ :: x31_ :: x32_ :: x33_ :: x34_ :: x35_ :: x36_ :: x37_ :: x38_ :: x39_ :: x40_ :: x41_ :: x42_ :: x43_ :: x44_ :: x45_ :: x46_ :: x47_ :: x48_ :: x49_ :: x50_ :: x51_ :: x52_ :: x53_ :: x54_ :: x55_ :: x56_ :: x57_ :: x58_ :: x59_ :: x60_ :: x61_ :: x62_ :: x63_ :: x64_ :: x65_ :: x66_ :: x67_ :: x68_ :: x69_ :: x70_ :: x71_ :: x72_ :: x73_ :: x74_ :: x75_ :: x76_ :: x77_ :: x78_ :: x79_ :: x80_ :: x81_ :: x82_ :: x83_ :: x84_ :: x85_ :: x86_ :: x87_ :: x88_ :: x89_ :: x90_ :: x91_ :: x92_ :: x93_ :: x94_ :: x95_ :: x96_ :: x97_ :: x98_ :: x99_ :: x100_ :: x101_ :: x102_ :: x103_ :: x104_ :: x105_ :: x106_ :: x107_ :: x108_ :: x109_ :: x110_ :: x111_ :: x112_ :: x113_ :: x114_ :: x115_ :: x116_ :: x117_ :: x118_ :: x119_ :: x120_ :: x121_ :: x122_ :: x123_ :: x124_ :: x125_ :: x126_ :: x127_ :: x128_ :: x129_ :: x130_ :: x131_ :: x132_ :: x133_ :: x134_ :: x135_ :: x136_ :: x137_ :: x138_ :: x139_ :: x140_ :: x141_ :: x142_ :: x143_ :: x144_ :: x145_ :: x146_ :: x147_ :: x148_ :: x149_ :: x150_ :: x151_ :: x152_ :: x153_ :: x154_ :: x155_ :: x156_ :: x157_ :: x158_ :: x159_ :: x160_ :: x161_ :: x162_ :: x163_ :: x164_ :: x165_ :: x166_ :: x167_ :: x168_ :: x169_ :: x170_ :: x171_ :: x172_ :: x173_ :: x174_ :: x175_ :: x176_ :: x177_ :: x178_ :: x179_ :: x180_ :: x181_ :: x182_ :: x183_ :: x184_ :: x185_ :: x186_ :: x187_ :: x188_ :: x189_ :: x190_ :: x191_ :: x192_ :: x193_ :: x194_ :: x195_ :: x196_ :: x197_ :: x198_ :: x199_ :: x200_ :: x201_ :: x202_ :: x203_ :: x204_ :: x205_ :: x206_ :: x207_ :: x208_ :: x209_ :: x210_ :: x211_ :: x212_ :: x213_ :: x214_ :: x215_ :: x216_ :: x217_ :: x218_ :: x219_ :: x220_ :: x221_ :: x222_ :: x223_ :: x224_ :: x225_ :: x226_ :: x227_ :: x228_ :: x229_ :: x230_ :: x231_ :: x232_ :: x233_ :: x234_ :: x235_ :: x236_ :: x237_ :: x238_ :: x239_ :: x240_ :: x241_ :: x242_ :: x243_ :: x244_ :: x245_ :: x246_ :: x247_ :: x248_ :: x249_ :: x250_ :: x251_ :: x252_ :: x253_ :: x254_ :: x255_ :: x256_ :: x257_ :: x258_ :: x259_ :: x260_ :: x261_ :: x262_ :: x263_ :: x264_ :: x265_ :: x266_ :: x267_ :: x268_ :: x269_ :: x270_ :: x271_ :: x272_ :: x273_ :: x274_ :: x275_ :: x276_ :: x277_ :: x278_ :: x279_ :: x280_ :: x281_ :: x282_ :: x283_ :: x284_ :: x285_ :: x286_ :: x287_ :: x288_ :: x289_ :: x290_ :: x291_ :: x292_ :: x293_ :: x294_ :: []), []⟩ w49 := by
  intro Kst_ hst_
  conv => arg 2; whnf
  conv at hst_ => enter [a_, w_, 1, 2]; whnf
  go_wp2_with fail
  obtain ⟨w50, hv⟩ : ∃ w_ : World, w_ = w49.drew := ⟨_, rfl⟩
  replace M := Lib.hid (Goes.go M.out (hv ▸ below_drew _ : Below w49.heap.size w49 w50))
  refine wp_region_held_drew (S := (fun w' => w'.cell? ⟨B8, 0, none⟩ = some (.int .i64 (sg (nu r))) ∧ w'.cell? ⟨B8, 1, none⟩ = some (.slice a_61 (ln (nu r)) c_62) ∧ w'.cell? ⟨B8, 2, none⟩ = some (.int .i64 (sg (de r))) ∧ w'.cell? ⟨B8, 3, none⟩ = some (.slice b_63 (ln (de r)) d_64) ∧ w'.cell? ⟨B9, 0, none⟩ = some (.int .i64 (sg (nu q))) ∧ w'.cell? ⟨B9, 1, none⟩ = some (.slice a_66 (ln (nu q)) c_67) ∧ w'.cell? ⟨B9, 2, none⟩ = some (.int .i64 (sg (de q))) ∧ w'.cell? ⟨B9, 3, none⟩ = some (.slice b_68 (ln (de q)) d_69) ∧ w'.cell? ⟨B10, 0, none⟩ = some (.int .i64 (sg (nu q75))) ∧ w'.cell? ⟨B10, 1, none⟩ = some (.slice a_71 (ln (nu q75)) c_72) ∧ w'.cell? ⟨B10, 2, none⟩ = some (.int .i64 (sg (de q75))) ∧ w'.cell? ⟨B10, 3, none⟩ = some (.slice b_73 (ln (de q75)) d_74) ∧ w'.cell? ⟨B11, 0, none⟩ = some (.int .i64 (sg (nu q81))) ∧ w'.cell? ⟨B11, 1, none⟩ = some (.slice a_77 (ln (nu q81)) c_78) ∧ w'.cell? ⟨B11, 2, none⟩ = some (.int .i64 (sg (de q81))) ∧ w'.cell? ⟨B11, 3, none⟩ = some (.slice b_79 (ln (de q81)) d_80) ∧ w'.cell? ⟨B12, 0, none⟩ = some (.int .i64 (sg (nu q93))) ∧ w'.cell? ⟨B12, 1, none⟩ = some (.slice a_89 (ln (nu q93)) c_90) ∧ w'.cell? ⟨B12, 2, none⟩ = some (.int .i64 (sg (de q93))) ∧ w'.cell? ⟨B12, 3, none⟩ = some (.slice b_91 (ln (de q93)) d_92))) (by kernel_rfl) (by rw [← hv]; exact ⟨(M.out.2.2.2.2.2.2.1).at.1 0, (M.out.2.2.2.2.2.2.1).at.1 1, (M.out.2.2.2.2.2.2.1).at.1 2, (M.out.2.2.2.2.2.2.1).at.1 3, (M.out.2.2.2.2.2.2.2.1).at.1 0, (M.out.2.2.2.2.2.2.2.1).at.1 1, (M.out.2.2.2.2.2.2.2.1).at.1 2, (M.out.2.2.2.2.2.2.2.1).at.1 3, (M.out.2.2.2.2.2.2.2.2.1).at.1 0, (M.out.2.2.2.2.2.2.2.2.1).at.1 1, (M.out.2.2.2.2.2.2.2.2.1).at.1 2, (M.out.2.2.2.2.2.2.2.2.1).at.1 3, (M.out.2.2.2.2.2.2.2.2.2.1).at.1 0, (M.out.2.2.2.2.2.2.2.2.2.1).at.1 1, (M.out.2.2.2.2.2.2.2.2.2.1).at.1 2, (M.out.2.2.2.2.2.2.2.2.2.1).at.1 3, (M.out.1).at.1 0, (M.out.1).at.1 1, (M.out.1).at.1 2, (M.out.1).at.1 3⟩) (fun hH150 => ?_)
  rw [← hv] at hH150 ⊢
  clear hv
  refine tk at0 ?_
  refine tk at1 ?_
  refine tk at2 ?_
  refine tk at3 ?_
  refine tk at4 ?_
  refine tk at5 ?_
  refine tk at6 ?_
  refine tk at7 ?_
  refine tk at8 ?_
  refine tk at9 ?_
  refine tk at10 ?_
  refine tk at11 ?_
  refine tk at12 ?_
  refine tk at13 ?_
  refine tk at14 ?_
  refine tk at15 ?_
  refine tk at16 ?_
  refine tk at17 ?_
  refine tk at18 ?_
  refine tk at19 ?_
  refine tk at20 ?_
  refine tk at21 ?_
  refine wpAnyH_ready (rs := [22]) (by kernel_rfl) (by simp) ?_
  refine AllReadyH.cons at22 (fun K hK => ?_) AllReadyH.nil
  go_simp
  refine (rfsame_q (G := G) (q := q75) (r := q81) (M.out.2.2.2.1) (M.out.2.2.1) (Fz.mono Sq75.out (by omega)) (by rw [Eq81.out, Eq75.out]; exact eqn_2 q r u)).mono ?_
  rintro e w51 ⟨rfl, hb⟩
  replace M := Lib.hid (Goes.go M.out hb)
  clear hb
  (try go_wp2_with fail)
  refine hK.out _ _ (⟨(M.out.2.2.2.2.2.2.1).at.1 0, (M.out.2.2.2.2.2.2.1).at.1 1, (M.out.2.2.2.2.2.2.1).at.1 2, (M.out.2.2.2.2.2.2.1).at.1 3, (M.out.2.2.2.2.2.2.2.1).at.1 0, (M.out.2.2.2.2.2.2.2.1).at.1 1, (M.out.2.2.2.2.2.2.2.1).at.1 2, (M.out.2.2.2.2.2.2.2.1).at.1 3, (M.out.2.2.2.2.2.2.2.2.1).at.1 0, (M.out.2.2.2.2.2.2.2.2.1).at.1 1, (M.out.2.2.2.2.2.2.2.2.1).at.1 2, (M.out.2.2.2.2.2.2.2.2.1).at.1 3, (M.out.2.2.2.2.2.2.2.2.2.1).at.1 0, (M.out.2.2.2.2.2.2.2.2.2.1).at.1 1, (M.out.2.2.2.2.2.2.2.2.2.1).at.1 2, (M.out.2.2.2.2.2.2.2.2.2.1).at.1 3, (M.out.1).at.1 0, (M.out.1).at.1 1, (M.out.1).at.1 2, (M.out.1).at.1 3⟩) (fun hH151 => ?_)
  clear hK K hH150
  (try simp only [Act.put, List.setIfInBounds_toArray, List.set_cons_zero, List.set_cons_succ])
  refine tk at23 ?_
  refine tk at24 ?_
  refine tk at25 ?_
  refine tk at26 ?_
  refine wpAnyH_ready (rs := [27]) (by kernel_rfl) (by simp) ?_
  refine AllReadyH.cons at27 (fun K hK => ?_) AllReadyH.nil
  go_simp
  refine (fracCompare_is (G := G) (q := r) (r := q) (k := (-k)) (M.out.2.2.2.2.2.1) (M.out.2.2.2.2.1) (Fz.mono HR.out (by omega)) (Fz.mono HQ.out (by omega)) (by exact HSW.out)).mono ?_
  rintro e w52 ⟨rfl, hb⟩
  replace M := Lib.hid (Goes.go M.out hb)
  clear hb
  (try go_wp2_with fail)
  refine hK.out _ _ (⟨(M.out.2.2.2.2.2.2.1).at.1 0, (M.out.2.2.2.2.2.2.1).at.1 1, (M.out.2.2.2.2.2.2.1).at.1 2, (M.out.2.2.2.2.2.2.1).at.1 3, (M.out.2.2.2.2.2.2.2.1).at.1 0, (M.out.2.2.2.2.2.2.2.1).at.1 1, (M.out.2.2.2.2.2.2.2.1).at.1 2, (M.out.2.2.2.2.2.2.2.1).at.1 3, (M.out.2.2.2.2.2.2.2.2.1).at.1 0, (M.out.2.2.2.2.2.2.2.2.1).at.1 1, (M.out.2.2.2.2.2.2.2.2.1).at.1 2, (M.out.2.2.2.2.2.2.2.2.1).at.1 3, (M.out.2.2.2.2.2.2.2.2.2.1).at.1 0, (M.out.2.2.2.2.2.2.2.2.2.1).at.1 1, (M.out.2.2.2.2.2.2.2.2.2.1).at.1 2, (M.out.2.2.2.2.2.2.2.2.2.1).at.1 3, (M.out.1).at.1 0, (M.out.1).at.1 1, (M.out.1).at.1 2, (M.out.1).at.1 3⟩) (fun hH152 => ?_)
  clear hK K hH151
  (try simp only [Act.put, List.setIfInBounds_toArray, List.set_cons_zero, List.set_cons_succ])
  refine tk at28 ?_
  refine tk at29 ?_
  refine tk at30 ?_
  refine tk at31 ?_
  refine wpAnyH_ready (rs := [32]) (by kernel_rfl) (by simp) ?_
  refine AllReadyH.cons at32 (fun K hK => ?_) AllReadyH.nil
  go_simp
  obtain ⟨q157, eq157⟩ : ∃ v_ : Rat, v_ = ((0 : Int) : Rat) := ⟨_, rfl⟩
  refine (fracInt_ok (G := G) 0 _ (by decide)).mono ?_
  rintro e w53 ⟨a_153, c_154, b_155, d_156, rfl, hd158, hb⟩
  rw [← eq157] at hd158 ⊢
  have Sq157 : Hid (Fz q157 4) := by show Fz q157 4; rw [eq157]; exact (Fz.int64 (by decide))
  have Eq157 := Lib.hid eq157; clear eq157
  replace M := Lib.hid (And.intro hd158 (Goes.go M.out hb))
  clear hb hd158
  (try go_wp2_with fail)
  refine hK.out _ _ (⟨(M.out.2.2.2.2.2.2.2.1).at.1 0, (M.out.2.2.2.2.2.2.2.1).at.1 1, (M.out.2.2.2.2.2.2.2.1).at.1 2, (M.out.2.2.2.2.2.2.2.1).at.1 3, (M.out.2.2.2.2.2.2.2.2.1).at.1 0, (M.out.2.2.2.2.2.2.2.2.1).at.1 1, (M.out.2.2.2.2.2.2.2.2.1).at.1 2, (M.out.2.2.2.2.2.2.2.2.1).at.1 3, (M.out.2.2.2.2.2.2.2.2.2.1).at.1 0, (M.out.2.2.2.2.2.2.2.2.2.1).at.1 1, (M.out.2.2.2.2.2.2.2.2.2.1).at.1 2, (M.out.2.2.2.2.2.2.2.2.2.1).at.1 3, (M.out.2.2.2.2.2.2.2.2.2.2.1).at.1 0, (M.out.2.2.2.2.2.2.2.2.2.2.1).at.1 1, (M.out.2.2.2.2.2.2.2.2.2.2.1).at.1 2, (M.out.2.2.2.2.2.2.2.2.2.2.1).at.1 3, (M.out.2.1).at.1 0, (M.out.2.1).at.1 1, (M.out.2.1).at.1 2, (M.out.2.1).at.1 3⟩) (fun hH159 => ?_)
  clear hK K hH152
  (try simp only [Act.put, List.setIfInBounds_toArray, List.set_cons_zero, List.set_cons_succ])
  refine wpAnyH_ready (rs := [33]) (by kernel_rfl) (by simp) ?_
  refine AllReadyH.cons at33 (fun K hK => ?_) AllReadyH.nil
  go_simp
  refine (rfsame_q (G := G) (q := q93) (r := q157) (M.out.2.2.1) (M.out.1) (Fz.mono Sq93.out (by omega)) (by rw [Eq157.out, Eq93.out]; exact eqn_1 q r u)).mono ?_
  rintro e w54 ⟨rfl, hb⟩
  replace M := Lib.hid (Goes.go M.out hb)
  clear hb
  (try go_wp2_with fail)
  refine hK.out _ _ (⟨(M.out.2.2.2.2.2.2.2.1).at.1 0, (M.out.2.2.2.2.2.2.2.1).at.1 1, (M.out.2.2.2.2.2.2.2.1).at.1 2, (M.out.2.2.2.2.2.2.2.1).at.1 3, (M.out.2.2.2.2.2.2.2.2.1).at.1 0, (M.out.2.2.2.2.2.2.2.2.1).at.1 1, (M.out.2.2.2.2.2.2.2.2.1).at.1 2, (M.out.2.2.2.2.2.2.2.2.1).at.1 3, (M.out.2.2.2.2.2.2.2.2.2.1).at.1 0, (M.out.2.2.2.2.2.2.2.2.2.1).at.1 1, (M.out.2.2.2.2.2.2.2.2.2.1).at.1 2, (M.out.2.2.2.2.2.2.2.2.2.1).at.1 3, (M.out.2.2.2.2.2.2.2.2.2.2.1).at.1 0, (M.out.2.2.2.2.2.2.2.2.2.2.1).at.1 1, (M.out.2.2.2.2.2.2.2.2.2.2.1).at.1 2, (M.out.2.2.2.2.2.2.2.2.2.2.1).at.1 3, (M.out.2.1).at.1 0, (M.out.2.1).at.1 1, (M.out.2.1).at.1 2, (M.out.2.1).at.1 3⟩) (fun hH160 => ?_)
  clear hK K hH159
  (try simp only [Act.put, List.setIfInBounds_toArray, List.set_cons_zero, List.set_cons_succ])
  refine tk at34 ?_
  refine tk at35 ?_
  refine wpAnyH_done (by kernel_rfl) ?_ _
  clear hH160
  go_wp2_with fail
  go_ret
  exact ⟨rfl, (M.out.2.2.2.2.2.2.2.2.2.2.2)⟩

set_option maxRecDepth 100000 in
set_option maxHeartbeats 4000000 in
theorem order_gt_s23 {k k2 k3 m : Int} {bz : Bool} {q r u : Rat} {a1 b1 a2 b2 a3 b3 : Option Addr} {c1 d1 c2 d2 c3 d3 : Nat} {w : World}  {w46 : World} {a_89 b_91 a_77 b_79 a_71 b_73 a_66 b_68 a_61 b_63 : Option Addr} {c_90 d_92 c_78 d_80 c_72 d_74 c_67 d_69 c_62 d_64 : Nat} {q93 q81 q75 : Rat} {B0 B1 B8 B9 B10 B11 B12 : Nat} {x0_ x1_ x2_ x5_ x8_ x9_ x11_ x13_ x15_ x17_ x24_ x25_ x26_ x27_ x28_ x29_ x30_ x31_ x32_ x33_ x34_ x35_ x36_ x37_ x38_ x39_ x40_ x41_ x42_ x43_ x44_ x45_ x46_ x47_ x48_ x49_ x50_ x51_ x52_ x53_ x54_ x55_ x56_ x57_ x58_ x59_ x60_ x61_ x62_ x63_ x64_ x65_ x66_ x67_ x68_ x69_ x70_ x71_ x72_ x73_ x74_ x75_ x76_ x77_ x78_ x79_ x80_ x81_ x82_ x83_ x84_ x85_ x86_ x87_ x88_ x89_ x90_ x91_ x92_ x93_ x94_ x95_ x96_ x97_ x98_ x99_ x100_ x101_ x102_ x103_ x104_ x105_ x106_ x107_ x108_ x109_ x110_ x111_ x112_ x113_ x114_ x115_ x116_ x117_ x118_ x119_ x120_ x121_ x122_ x123_ x124_ x125_ x126_ x127_ x128_ x129_ x130_ x131_ x132_ x133_ x134_ x135_ x136_ x137_ x138_ x139_ x140_ x141_ x142_ x143_ x144_ x145_ x146_ x147_ x148_ x149_ x150_ x151_ x152_ x153_ x154_ x155_ x156_ x157_ x158_ x159_ x160_ x161_ x162_ x163_ x164_ x165_ x166_ x167_ x168_ x169_ x170_ x171_ x172_ x173_ x174_ x175_ x176_ x177_ x178_ x179_ x180_ x181_ x182_ x183_ x184_ x185_ x186_ x187_ x188_ x189_ x190_ x191_ x192_ x193_ x194_ x195_ x196_ x197_ x198_ x199_ x200_ x201_ x202_ x203_ x204_ x205_ x206_ x207_ x208_ x209_ x210_ x211_ x212_ x213_ x214_ x215_ x216_ x217_ x218_ x219_ x220_ x221_ x222_ x223_ x224_ x225_ x226_ x227_ x228_ x229_ x230_ x231_ x232_ x233_ x234_ x235_ x236_ x237_ x238_ x239_ x240_ x241_ x242_ x243_ x244_ x245_ x246_ x247_ x248_ x249_ x250_ x251_ x252_ x253_ x254_ x255_ x256_ x257_ x258_ x259_ x260_ x261_ x262_ x263_ x264_ x265_ x266_ x267_ x268_ x269_ x270_ x271_ x272_ x273_ x274_ x275_ x276_ x277_ x278_ x279_ x280_ x281_ x282_ x283_ x284_ x285_ x286_ x287_ x288_ x289_ x290_ x291_ x292_ x293_ x294_ : Value} (hG : G ≤ w.heap.size) (HQ : Hid (Fz q 12)) (HR : Hid (Fz r 12)) (HU : Hid (Fz u 12)) (wn : IntKind.i64.wrap (-k) = -k) (wm : IntKind.i64.wrap (k * sg (nu u)) = m) (hbz : (k == 0) = bz) (HBZ : Hid (decide (q = r) = bz)) (n1 : decide (k < -1) = false) (n2 : decide (1 < k) = false) (HK : Hid (ordQ q r = k)) (HK2 : Hid (ordQ r u = k2)) (HK3 : Hid (ordQ q u = k3)) (HSUB : Hid (sg (nu (q - r)) = k)) (HSW : Hid (ordQ r q = -k)) (HPL : Hid (ordQ (q + u) (r + u) = k)) (HTM : Hid (ordQ (q * u) (r * u) = m)) (HNG : Hid (ordQ (-q) (-r) = -k)) (n3 : decide (-k ≤ 0) = true) (n4 : decide (k ≤ 0) = false) (n5 : decide (0 ≤ k) = true) (HLO : Hid (pick q r (-1) = r)) (HHI : Hid (pick q r 1 = q)) (HNE : Hid (¬ r = q)) (HT : Hid (Tab w)) (HM : Hid (Mx w)) (H1 : Hid (FD G w a1 c1 b1 d1 q)) (H2 : Hid (FD G w a2 c2 b2 d2 r)) (H3 : Hid (FD G w a3 c3 b3 d3 u)) (Eq93 : Hid (q93 = ((q + ((-q)))))) (Sq93 : Hid (Fz q93 25)) (Eq81 : Hid (q81 = (((q + r))))) (Sq81 : Hid (Fz q81 25)) (Eq75 : Hid (q75 = (((r + q))))) (Sq75 : Hid (Fz q75 25)) (oB0 : w.heap.size ≤ B0) (oB1 : B0 < B1) (oB8 : B1 < B8) (oB9 : B8 < B9) (oB10 : B9 < B10) (oB11 : B10 < B11) (oB12 : B11 < B12) (M : Hid (Bx w46 B12 26 #[.int .i64 (sg (nu q93)), .slice a_89 (ln (nu q93)) c_90, .int .i64 (sg (de q93)), .slice b_91 (ln (de q93)) d_92] ∧ FD G w46 a_89 c_90 b_91 d_92 q93 ∧ FD G w46 a_77 c_78 b_79 d_80 q81 ∧ FD G w46 a_71 c_72 b_73 d_74 q75 ∧ FD G w46 a_66 c_67 b_68 d_69 q ∧ FD G w46 a_61 c_62 b_63 d_64 r ∧ Bx w46 B0 26 #[.int .i64 (sg (nu q)), .slice a1 (ln (nu q)) c1, .int .i64 (sg (de q)), .slice b1 (ln (de q)) d1] ∧ Bx w46 B1 26 #[.int .i64 (sg (nu r)), .slice a2 (ln (nu r)) c2, .int .i64 (sg (de r)), .slice b2 (ln (de r)) d2] ∧ Bx w46 B8 26 #[.int .i64 (sg (nu r)), .slice a_61 (ln (nu r)) c_62, .int .i64 (sg (de r)), .slice b_63 (ln (de r)) d_64] ∧ Bx w46 B9 26 #[.int .i64 (sg (nu q)), .slice a_66 (ln (nu q)) c_67, .int .i64 (sg (de q)), .slice b_68 (ln (de q)) d_69] ∧ Bx w46 B10 26 #[.int .i64 (sg (nu q75)), .slice a_71 (ln (nu q75)) c_72, .int .i64 (sg (de q75)), .slice b_73 (ln (de q75)) d_74] ∧ Bx w46 B11 26 #[.int .i64 (sg (nu q81)), .slice a_77 (ln (nu q81)) c_78, .int .i64 (sg (de q81)), .slice b_79 (ln (de q81)) d_80] ∧ Below w.heap.size w w46)) :
    ∀ K : Act → World → Prop, (∀ a_ w_, Code.wp Tryz.prog (restAt Tryz.f5 23) (bodyPost Tryz.prog Tryz.f5 fun e w' => e = .returned (.bool true) ∧ Below w.heap.size w w') a_ w_ → K a_ w_) → Code.wp Tryz.prog (regAt Tryz.f5 23) (Exit.then K (bodyPost Tryz.prog Tryz.f5 fun e w' => e = .returned (.bool true) ∧ Below w.heap.size w w')) ⟨List.toArray (x0_ :: x1_ :: x2_ :: .pointer (some ⟨B0, 0, none⟩) :: .pointer (some ⟨B1, 0, none⟩) :: x5_ :: .bool false :: .bool true :: x8_ :: x9_ :: .bool true :: x11_ :: .bool true :: x13_ :: .bool true :: x15_ :: .bool true :: x17_ :: .bool true :: .pointer (some ⟨B8, 0, none⟩) :: .pointer (some ⟨B9, 0, none⟩) :: .pointer (some ⟨B10, 0, none⟩) :: .pointer (some ⟨B11, 0, none⟩) :: .pointer (some ⟨B12, 0, none⟩) :: x24_ :: x25_ :: x26_ :: x27_ :: x28_ :: x29_ :: x30_ :: x31_ :: x32_ :: x33_ :: x34_ :: x35_ :: x36_ :: x37_ :: x38_ :: x39_ :: x40_ :: x41_ :: x42_ :: x43_ :: x44_ :: x45_ :: x46_ :: x47_ :: x48_ :: x49_ :: x50_ :: x51_ :: x52_ :: x53_ :: x54_ :: x55_ :: x56_ :: x57_ :: x58_ :: x59_ :: x60_ :: x61_ :: x62_ :: x63_ :: x64_ :: x65_ :: x66_ :: x67_ :: x68_ :: x69_ :: x70_ :: x71_ :: x72_ :: x73_ :: x74_ :: x75_ :: x76_ :: x77_ :: x78_ :: x79_ :: x80_ :: x81_ :: x82_ :: x83_ :: x84_ :: x85_ :: x86_ :: x87_ :: x88_ :: x89_ :: x90_ :: x91_ :: x92_ :: x93_ :: x94_ :: x95_ :: x96_ :: x97_ :: x98_ :: x99_ :: x100_ :: x101_ :: x102_ :: x103_ :: x104_ :: x105_ :: x106_ :: x107_ :: x108_ :: x109_ :: x110_ :: x111_ :: x112_ :: x113_ :: x114_ :: x115_ :: x116_ :: x117_ :: x118_ :: x119_ :: x120_ :: x121_ :: x122_ :: x123_ :: x124_ :: x125_ :: x126_ :: x127_ :: x128_ :: x129_ :: x130_ :: x131_ :: x132_ :: x133_ :: x134_ :: x135_ :: x136_ :: x137_ :: x138_ :: x139_ :: x140_ :: x141_ :: x142_ :: x143_ :: x144_ :: x145_ :: x146_ :: x147_ :: x148_ :: x149_ :: x150_ :: x151_ :: x152_ :: x153_ :: x154_ :: x155_ :: x156_ :: x157_ :: x158_ :: x159_ :: x160_ :: x161_ :: x162_ :: x163_ :: x164_ :: x165_ :: x166_ :: x167_ :: x168_ :: x169_ :: x170_ :: x171_ :: x172_ :: x173_ :: x174_ :: x175_ :: x176_ :: x177_ :: x178_ :: x179_ :: x180_ :: x181_ :: x182_ :: x183_ :: x184_ :: x185_ :: x186_ :: x187_ :: x188_ :: x189_ :: x190_ :: x191_ :: x192_ :: x193_ :: x194_ :: x195_ :: x196_ :: x197_ :: x198_ :: x199_ :: x200_ :: x201_ :: x202_ :: x203_ :: x204_ :: x205_ :: x206_ :: x207_ :: x208_ :: x209_ :: x210_ :: x211_ :: x212_ :: x213_ :: x214_ :: x215_ :: x216_ :: x217_ :: x218_ :: x219_ :: x220_ :: x221_ :: x222_ :: x223_ :: x224_ :: x225_ :: x226_ :: x227_ :: x228_ :: x229_ :: x230_ :: x231_ :: x232_ :: x233_ :: x234_ :: x235_ :: x236_ :: x237_ :: x238_ :: x239_ :: x240_ :: x241_ :: x242_ :: x243_ :: x244_ :: x245_ :: x246_ :: x247_ :: x248_ :: x249_ :: x250_ :: x251_ :: x252_ :: x253_ :: x254_ :: x255_ :: x256_ :: x257_ :: x258_ :: x259_ :: x260_ :: x261_ :: x262_ :: x263_ :: x264_ :: x265_ :: x266_ :: x267_ :: x268_ :: x269_ :: x270_ :: x271_ :: x272_ :: x273_ :: x274_ :: x275_ :: x276_ :: x277_ :: x278_ :: x279_ :: x280_ :: x281_ :: x282_ :: x283_ :: x284_ :: x285_ :: x286_ :: x287_ :: x288_ :: x289_ :: x290_ :: x291_ :: x292_ :: x293_ :: x294_ :: []), []⟩ w46 := by
  intro Kst_ hst_
  conv => arg 2; whnf
  conv at hst_ => enter [a_, w_, 1, 2]; whnf
  have y8 := (M.out.2.2.2.2.2.2.2.2.1).c4; have p8_0 := y8.1; have q8_0 := y8.2.1; have p8_1 := y8.2.2.1; have q8_1 := y8.2.2.2.1; have p8_2 := y8.2.2.2.2.1; have q8_2 := y8.2.2.2.2.2.1; have p8_3 := y8.2.2.2.2.2.2.1; have q8_3 := y8.2.2.2.2.2.2.2; clear y8
  have y0 := (M.out.2.2.2.2.2.2.1).c4; have p0_0 := y0.1; have q0_0 := y0.2.1; have p0_1 := y0.2.2.1; have q0_1 := y0.2.2.2.1; have p0_2 := y0.2.2.2.2.1; have q0_2 := y0.2.2.2.2.2.1; have p0_3 := y0.2.2.2.2.2.2.1; have q0_3 := y0.2.2.2.2.2.2.2; clear y0
  go_wp2_with fail
  clear p8_0 q8_0 p8_1 q8_1 p8_2 q8_2 p8_3 q8_3 p0_0 q0_0 p0_1 q0_1 p0_2 q0_2 p0_3 q0_3
  refine (rfsame_not (G := G) (q := r) (r := q) (M.out.2.2.2.2.2.1) (H1.out.keep (M.out.2.2.2.2.2.2.2.2.2.2.2.2)) (Fz.mono HR.out (by omega)) (Fz.mono HQ.out (by omega)) HNE.out).mono ?_
  rintro e w47 ⟨rfl, hb⟩
  replace M := Lib.hid (Goes.go M.out hb)
  clear hb
  have y8 := (M.out.2.2.2.2.2.2.2.2.1).c4; have p8_0 := y8.1; have q8_0 := y8.2.1; have p8_1 := y8.2.2.1; have q8_1 := y8.2.2.2.1; have p8_2 := y8.2.2.2.2.1; have q8_2 := y8.2.2.2.2.2.1; have p8_3 := y8.2.2.2.2.2.2.1; have q8_3 := y8.2.2.2.2.2.2.2; clear y8
  have y1 := (M.out.2.2.2.2.2.2.2.1).c4; have p1_0 := y1.1; have q1_0 := y1.2.1; have p1_1 := y1.2.2.1; have q1_1 := y1.2.2.2.1; have p1_2 := y1.2.2.2.2.1; have q1_2 := y1.2.2.2.2.2.1; have p1_3 := y1.2.2.2.2.2.2.1; have q1_3 := y1.2.2.2.2.2.2.2; clear y1
  go_wp2_with fail
  clear p8_0 q8_0 p8_1 q8_1 p8_2 q8_2 p8_3 q8_3 p1_0 q1_0 p1_1 q1_1 p1_2 q1_2 p1_3 q1_3
  refine (rfsame_q (G := G) (q := r) (r := r) (M.out.2.2.2.2.2.1) (H2.out.keep (M.out.2.2.2.2.2.2.2.2.2.2.2.2)) (Fz.mono HR.out (by omega)) rfl).mono ?_
  rintro e w48 ⟨rfl, hb⟩
  replace M := Lib.hid (Goes.go M.out hb)
  clear hb
  have y9 := (M.out.2.2.2.2.2.2.2.2.2.1).c4; have p9_0 := y9.1; have q9_0 := y9.2.1; have p9_1 := y9.2.2.1; have q9_1 := y9.2.2.2.1; have p9_2 := y9.2.2.2.2.1; have q9_2 := y9.2.2.2.2.2.1; have p9_3 := y9.2.2.2.2.2.2.1; have q9_3 := y9.2.2.2.2.2.2.2; clear y9
  have y0 := (M.out.2.2.2.2.2.2.1).c4; have p0_0 := y0.1; have q0_0 := y0.2.1; have p0_1 := y0.2.2.1; have q0_1 := y0.2.2.2.1; have p0_2 := y0.2.2.2.2.1; have q0_2 := y0.2.2.2.2.2.1; have p0_3 := y0.2.2.2.2.2.2.1; have q0_3 := y0.2.2.2.2.2.2.2; clear y0
  go_wp2_with fail
  clear p9_0 q9_0 p9_1 q9_1 p9_2 q9_2 p9_3 q9_3 p0_0 q0_0 p0_1 q0_1 p0_2 q0_2 p0_3 q0_3
  refine (rfsame_q (G := G) (q := q) (r := q) (M.out.2.2.2.2.1) (H1.out.keep (M.out.2.2.2.2.2.2.2.2.2.2.2.2)) (Fz.mono HQ.out (by omega)) rfl).mono ?_
  rintro e w49 ⟨rfl, hb⟩
  replace M := Lib.hid (Goes.go M.out hb)
  clear hb
  go_upto_region 24 with fail
  replace M := Lib.hid (And.intro (M.out.1) (And.intro (M.out.2.1) (And.intro (M.out.2.2.1) (And.intro (M.out.2.2.2.1) (And.intro (M.out.2.2.2.2.1) (And.intro (M.out.2.2.2.2.2.1) (And.intro (M.out.2.2.2.2.2.2.2.2.1) (And.intro (M.out.2.2.2.2.2.2.2.2.2.1) (And.intro (M.out.2.2.2.2.2.2.2.2.2.2.1) (And.intro (M.out.2.2.2.2.2.2.2.2.2.2.2.1) (M.out.2.2.2.2.2.2.2.2.2.2.2.2)))))))))))
  rename_i Kst_ hst_
  exact order_gt_s24 hG HQ HR HU wn wm hbz HBZ n1 n2 HK HK2 HK3 HSUB HSW HPL HTM HNG n3 n4 n5 HLO HHI HNE HT HM H1 H2 H3 Eq93 Sq93 Eq81 Sq81 Eq75 Sq75 (by omega) (by omega) (by omega) (by omega) (by omega) M Kst_ hst_

set_option maxRecDepth 100000 in
set_option maxHeartbeats 4000000 in
theorem order_gt_s22 {k k2 k3 m : Int} {bz : Bool} {q r u : Rat} {a1 b1 a2 b2 a3 b3 : Option Addr} {c1 d1 c2 d2 c3 d3 : Nat} {w : World}  {w45 : World} {a_77 b_79 a_71 b_73 a_66 b_68 a_61 b_63 : Option Addr} {c_78 d_80 c_72 d_74 c_67 d_69 c_62 d_64 : Nat} {q81 q75 : Rat} {B0 B1 B8 B9 B10 B11 : Nat} {x0_ x1_ x2_ x5_ x8_ x9_ x11_ x13_ x15_ x17_ x23_ x24_ x25_ x26_ x27_ x28_ x29_ x30_ x31_ x32_ x33_ x34_ x35_ x36_ x37_ x38_ x39_ x40_ x41_ x42_ x43_ x44_ x45_ x46_ x47_ x48_ x49_ x50_ x51_ x52_ x53_ x54_ x55_ x56_ x57_ x58_ x59_ x60_ x61_ x62_ x63_ x64_ x65_ x66_ x67_ x68_ x69_ x70_ x71_ x72_ x73_ x74_ x75_ x76_ x77_ x78_ x79_ x80_ x81_ x82_ x83_ x84_ x85_ x86_ x87_ x88_ x89_ x90_ x91_ x92_ x93_ x94_ x95_ x96_ x97_ x98_ x99_ x100_ x101_ x102_ x103_ x104_ x105_ x106_ x107_ x108_ x109_ x110_ x111_ x112_ x113_ x114_ x115_ x116_ x117_ x118_ x119_ x120_ x121_ x122_ x123_ x124_ x125_ x126_ x127_ x128_ x129_ x130_ x131_ x132_ x133_ x134_ x135_ x136_ x137_ x138_ x139_ x140_ x141_ x142_ x143_ x144_ x145_ x146_ x147_ x148_ x149_ x150_ x151_ x152_ x153_ x154_ x155_ x156_ x157_ x158_ x159_ x160_ x161_ x162_ x163_ x164_ x165_ x166_ x167_ x168_ x169_ x170_ x171_ x172_ x173_ x174_ x175_ x176_ x177_ x178_ x179_ x180_ x181_ x182_ x183_ x184_ x185_ x186_ x187_ x188_ x189_ x190_ x191_ x192_ x193_ x194_ x195_ x196_ x197_ x198_ x199_ x200_ x201_ x202_ x203_ x204_ x205_ x206_ x207_ x208_ x209_ x210_ x211_ x212_ x213_ x214_ x215_ x216_ x217_ x218_ x219_ x220_ x221_ x222_ x223_ x224_ x225_ x226_ x227_ x228_ x229_ x230_ x231_ : Value} (hG : G ≤ w.heap.size) (HQ : Hid (Fz q 12)) (HR : Hid (Fz r 12)) (HU : Hid (Fz u 12)) (wn : IntKind.i64.wrap (-k) = -k) (wm : IntKind.i64.wrap (k * sg (nu u)) = m) (hbz : (k == 0) = bz) (HBZ : Hid (decide (q = r) = bz)) (n1 : decide (k < -1) = false) (n2 : decide (1 < k) = false) (HK : Hid (ordQ q r = k)) (HK2 : Hid (ordQ r u = k2)) (HK3 : Hid (ordQ q u = k3)) (HSUB : Hid (sg (nu (q - r)) = k)) (HSW : Hid (ordQ r q = -k)) (HPL : Hid (ordQ (q + u) (r + u) = k)) (HTM : Hid (ordQ (q * u) (r * u) = m)) (HNG : Hid (ordQ (-q) (-r) = -k)) (n3 : decide (-k ≤ 0) = true) (n4 : decide (k ≤ 0) = false) (n5 : decide (0 ≤ k) = true) (HLO : Hid (pick q r (-1) = r)) (HHI : Hid (pick q r 1 = q)) (HNE : Hid (¬ r = q)) (HT : Hid (Tab w)) (HM : Hid (Mx w)) (H1 : Hid (FD G w a1 c1 b1 d1 q)) (H2 : Hid (FD G w a2 c2 b2 d2 r)) (H3 : Hid (FD G w a3 c3 b3 d3 u)) (Eq81 : Hid (q81 = ((q + r)))) (Sq81 : Hid (Fz q81 25)) (Eq75 : Hid (q75 = ((r + q)))) (Sq75 : Hid (Fz q75 25)) (oB0 : w.heap.size ≤ B0) (oB1 : B0 < B1) (oB8 : B1 < B8) (oB9 : B8 < B9) (oB10 : B9 < B10) (oB11 : B10 < B11) (M : Hid (Bx w45 B11 26 #[.int .i64 (sg (nu q81)), .slice a_77 (ln (nu q81)) c_78, .int .i64 (sg (de q81)), .slice b_79 (ln (de q81)) d_80] ∧ FD G w45 a_77 c_78 b_79 d_80 q81 ∧ Bx w45 B10 26 #[.int .i64 (sg (nu q75)), .slice a_71 (ln (nu q75)) c_72, .int .i64 (sg (de q75)), .slice b_73 (ln (de q75)) d_74] ∧ FD G w45 a_71 c_72 b_73 d_74 q75 ∧ Bx w45 B9 26 #[.int .i64 (sg (nu q)), .slice a_66 (ln (nu q)) c_67, .int .i64 (sg (de q)), .slice b_68 (ln (de q)) d_69] ∧ FD G w45 a_66 c_67 b_68 d_69 q ∧ Bx w45 B8 26 #[.int .i64 (sg (nu r)), .slice a_61 (ln (nu r)) c_62, .int .i64 (sg (de r)), .slice b_63 (ln (de r)) d_64] ∧ FD G w45 a_61 c_62 b_63 d_64 r ∧ Bx w45 B1 26 #[.int .i64 (sg (nu r)), .slice a2 (ln (nu r)) c2, .int .i64 (sg (de r)), .slice b2 (ln (de r)) d2] ∧ Bx w45 B0 26 #[.int .i64 (sg (nu q)), .slice a1 (ln (nu q)) c1, .int .i64 (sg (de q)), .slice b1 (ln (de q)) d1] ∧ Below w.heap.size w w45)) :
    ∀ K : Act → World → Prop, (∀ a_ w_, Code.wp Tryz.prog (restAt Tryz.f5 22) (bodyPost Tryz.prog Tryz.f5 fun e w' => e = .returned (.bool true) ∧ Below w.heap.size w w') a_ w_ → K a_ w_) → Code.wp Tryz.prog (regAt Tryz.f5 22) (Exit.then K (bodyPost Tryz.prog Tryz.f5 fun e w' => e = .returned (.bool true) ∧ Below w.heap.size w w')) ⟨List.toArray (x0_ :: x1_ :: x2_ :: .pointer (some ⟨B0, 0, none⟩) :: .pointer (some ⟨B1, 0, none⟩) :: x5_ :: .bool false :: .bool true :: x8_ :: x9_ :: .bool true :: x11_ :: .bool true :: x13_ :: .bool true :: x15_ :: .bool true :: x17_ :: .bool true :: .pointer (some ⟨B8, 0, none⟩) :: .pointer (some ⟨B9, 0, none⟩) :: .pointer (some ⟨B10, 0, none⟩) :: .pointer (some ⟨B11, 0, none⟩) :: x23_ :: x24_ :: x25_ :: x26_ :: x27_ :: x28_ :: x29_ :: x30_ :: x31_ :: x32_ :: x33_ :: x34_ :: x35_ :: x36_ :: x37_ :: x38_ :: x39_ :: x40_ :: x41_ :: x42_ :: x43_ :: x44_ :: x45_ :: x46_ :: x47_ :: x48_ :: x49_ :: x50_ :: x51_ :: x52_ :: x53_ :: x54_ :: x55_ :: x56_ :: x57_ :: x58_ :: x59_ :: x60_ :: x61_ :: x62_ :: x63_ :: x64_ :: x65_ :: x66_ :: x67_ :: x68_ :: x69_ :: x70_ :: x71_ :: x72_ :: x73_ :: x74_ :: x75_ :: x76_ :: x77_ :: x78_ :: x79_ :: x80_ :: x81_ :: x82_ :: x83_ :: x84_ :: x85_ :: x86_ :: x87_ :: x88_ :: x89_ :: x90_ :: x91_ :: x92_ :: x93_ :: x94_ :: x95_ :: x96_ :: x97_ :: x98_ :: x99_ :: x100_ :: x101_ :: x102_ :: x103_ :: x104_ :: x105_ :: x106_ :: x107_ :: x108_ :: x109_ :: x110_ :: x111_ :: x112_ :: x113_ :: x114_ :: x115_ :: x116_ :: x117_ :: x118_ :: x119_ :: x120_ :: x121_ :: x122_ :: x123_ :: x124_ :: x125_ :: x126_ :: x127_ :: x128_ :: x129_ :: x130_ :: x131_ :: x132_ :: x133_ :: x134_ :: x135_ :: x136_ :: x137_ :: x138_ :: x139_ :: x140_ :: x141_ :: x142_ :: x143_ :: x144_ :: x145_ :: x146_ :: x147_ :: x148_ :: x149_ :: x150_ :: x151_ :: x152_ :: x153_ :: x154_ :: x155_ :: x156_ :: x157_ :: x158_ :: x159_ :: x160_ :: x161_ :: x162_ :: x163_ :: x164_ :: x165_ :: x166_ :: x167_ :: x168_ :: x169_ :: x170_ :: x171_ :: x172_ :: x173_ :: x174_ :: x175_ :: x176_ :: x177_ :: x178_ :: x179_ :: x180_ :: x181_ :: x182_ :: x183_ :: x184_ :: x185_ :: x186_ :: x187_ :: x188_ :: x189_ :: x190_ :: x191_ :: x192_ :: x193_ :: x194_ :: x195_ :: x196_ :: x197_ :: x198_ :: x199_ :: x200_ :: x201_ :: x202_ :: x203_ :: x204_ :: x205_ :: x206_ :: x207_ :: x208_ :: x209_ :: x210_ :: x211_ :: x212_ :: x213_ :: x214_ :: x215_ :: x216_ :: x217_ :: x218_ :: x219_ :: x220_ :: x221_ :: x222_ :: x223_ :: x224_ :: x225_ :: x226_ :: x227_ :: x228_ :: x229_ :: x230_ :: x231_ :: undef :: undef :: undef :: undef :: undef :: undef :: undef :: undef :: undef :: undef :: undef :: undef :: undef :: undef :: undef :: undef :: undef :: undef :: undef :: undef :: undef :: undef :: undef :: undef :: undef :: undef :: undef :: undef :: undef :: undef :: undef :: undef :: undef :: undef :: undef :: undef :: undef :: undef :: undef :: undef :: undef :: undef :: undef :: undef :: undef :: undef :: undef :: undef :: undef :: undef :: undef :: undef :: undef :: undef :: undef :: undef :: undef :: undef :: undef :: undef :: undef :: undef :: undef :: []), []⟩ w45 := by
  intro Kst_ hst_
  conv => arg 2; whnf
  conv at hst_ => enter [a_, w_, 1, 2]; whnf
  go_upto_region 22 with fail
  go_cut [23, 18] (fun s23 s18 wx => ∃ (A95 : Nat), ∃ (a_83 : Option Addr), ∃ (c_84 : Nat), ∃ (b_85 : Option Addr), ∃ (d_86 : Nat), ∃ (q87 : Rat), ∃ (a_89 : Option Addr), ∃ (c_90 : Nat), ∃ (b_91 : Option Addr), ∃ (d_92 : Nat), ∃ (q93 : Rat), s23 = .pointer (some ⟨A95, 0, none⟩) ∧ s18 = .bool true ∧ Hid (q87 = (-q)) ∧ Hid (q93 = (q + q87)) ∧ Hid (Fz q87 12) ∧ Hid (Fz q93 25) ∧ B11 < A95 ∧ Hid (Bx wx A95 26 #[.int .i64 (sg (nu q93)), .slice a_89 (ln (nu q93)) c_90, .int .i64 (sg (de q93)), .slice b_91 (ln (de q93)) d_92] ∧ FD G wx a_89 c_90 b_91 d_92 q93 ∧ FD G wx a_83 c_84 b_85 d_86 q87 ∧ FD G wx a_77 c_78 b_79 d_80 q81 ∧ FD G wx a_71 c_72 b_73 d_74 q75 ∧ FD G wx a_66 c_67 b_68 d_69 q ∧ FD G wx a_61 c_62 b_63 d_64 r ∧ Bx wx B0 26 #[.int .i64 (sg (nu q)), .slice a1 (ln (nu q)) c1, .int .i64 (sg (de q)), .slice b1 (ln (de q)) d1] ∧ Bx wx B1 26 #[.int .i64 (sg (nu r)), .slice a2 (ln (nu r)) c2, .int .i64 (sg (de r)), .slice b2 (ln (de r)) d2] ∧ Bx wx B8 26 #[.int .i64 (sg (nu r)), .slice a_61 (ln (nu r)) c_62, .int .i64 (sg (de r)), .slice b_63 (ln (de r)) d_64] ∧ Bx wx B9 26 #[.int .i64 (sg (nu q)), .slice a_66 (ln (nu q)) c_67, .int .i64 (sg (de q)), .slice b_68 (ln (de q)) d_69] ∧ Bx wx B10 26 #[.int .i64 (sg (nu q75)), .slice a_71 (ln (nu q75)) c_72, .int .i64 (sg (de q75)), .slice b_73 (ln (de q75)) d_74] ∧ Bx wx B11 26 #[.int .i64 (sg (nu q81)), .slice a_77 (ln (nu q81)) c_78, .int .i64 (sg (de q81)), .slice b_79 (ln (de q81)) d_80] ∧ Below w.heap.size w wx))
  case first =>
    obtain ⟨w46, hv⟩ : ∃ w_ : World, w_ = w45.drew := ⟨_, rfl⟩
    replace M := Lib.hid (Goes.go M.out (hv ▸ below_drew _ : Below w45.heap.size w45 w46))
    refine wp_region_held_drew (S := (fun w' => w'.cell? ⟨B0, 0, none⟩ = some (.int .i64 (sg (nu q))) ∧ w'.cell? ⟨B0, 1, none⟩ = some (.slice a1 (ln (nu q)) c1) ∧ w'.cell? ⟨B0, 2, none⟩ = some (.int .i64 (sg (de q))) ∧ w'.cell? ⟨B0, 3, none⟩ = some (.slice b1 (ln (de q)) d1))) (by kernel_rfl) (by rw [← hv]; exact ⟨(M.out.2.2.2.2.2.2.2.2.2.1).at.1 0, (M.out.2.2.2.2.2.2.2.2.2.1).at.1 1, (M.out.2.2.2.2.2.2.2.2.2.1).at.1 2, (M.out.2.2.2.2.2.2.2.2.2.1).at.1 3⟩) (fun hH96 => ?_)
    rw [← hv] at hH96 ⊢
    clear hv
    refine tk at0 ?_
    refine tk at1 ?_
    refine wpAnyH_ready (rs := [2, 10]) (by kernel_rfl) (by simp) ?_
    refine AllReadyH.cons at2 (fun K hK => ?_) ?_
    ·
      go_simp
      obtain ⟨q101, eq101⟩ : ∃ v_ : Rat, v_ = (-q) := ⟨_, rfl⟩
      refine (fracNeg_ok (G := G) (q := q) (Nat.le_trans hG (M.out.2.2.2.2.2.2.2.2.2.2).size) (H1.out.keep (M.out.2.2.2.2.2.2.2.2.2.2)) (Fz.mono HQ.out (by omega))).mono ?_
      rintro e w47 ⟨a_97, c_98, b_99, d_100, rfl, hd102, hb⟩
      rw [← eq101] at hd102 ⊢
      have Sq101 : Hid (Fz q101 12) := by show Fz q101 12; rw [eq101]; exact (Fz.neg HQ.out)
      have Eq101 := Lib.hid eq101; clear eq101
      replace M := Lib.hid (And.intro hd102 (Goes.go M.out hb))
      clear hb hd102
      (try go_wp2_with fail)
      refine hK.out _ _ (⟨(M.out.2.2.2.2.2.2.2.2.2.2.1).at.1 0, (M.out.2.2.2.2.2.2.2.2.2.2.1).at.1 1, (M.out.2.2.2.2.2.2.2.2.2.2.1).at.1 2, (M.out.2.2.2.2.2.2.2.2.2.2.1).at.1 3⟩) (fun hH103 => ?_)
      clear hK K hH96
      (try simp only [Act.put, List.setIfInBounds_toArray, List.set_cons_zero, List.set_cons_succ])
      refine wpAnyH_ready (rs := [3, 10]) (by kernel_rfl) (by simp) ?_
      refine AllReadyH.cons at3 (fun K hK => ?_) ?_
      ·
        go_simp
        obtain ⟨q108, eq108⟩ : ∃ v_ : Rat, v_ = (q + q101) := ⟨_, rfl⟩
        refine (fracAdd_ok (G := G) (q := q) (r := q101) (H1.out.keep (M.out.2.2.2.2.2.2.2.2.2.2.2)) (M.out.1) (Fz.mono HQ.out (by omega)) (Fz.mono Sq101.out (by omega))).mono ?_
        rintro e w48 ⟨a_104, c_105, b_106, d_107, rfl, hd109, hb⟩
        rw [← eq108] at hd109 ⊢
        have Sq108 : Hid (Fz q108 25) := by show Fz q108 25; rw [eq108]; exact (Fz.add HQ.out Sq101.out)
        have Eq108 := Lib.hid eq108; clear eq108
        replace M := Lib.hid (And.intro hd109 (Goes.go M.out hb))
        clear hb hd109
        (try go_wp2_with fail)
        refine hK.out _ _ (⟨(M.out.2.2.2.2.2.2.2.2.2.2.2.1).at.1 0, (M.out.2.2.2.2.2.2.2.2.2.2.2.1).at.1 1, (M.out.2.2.2.2.2.2.2.2.2.2.2.1).at.1 2, (M.out.2.2.2.2.2.2.2.2.2.2.2.1).at.1 3⟩) (fun hH110 => ?_)
        clear hK K hH103
        (try simp only [Act.put, List.setIfInBounds_toArray, List.set_cons_zero, List.set_cons_succ])
        refine tk at4 ?_
        refine tk at5 ?_
        refine wpAnyH_ready (rs := [6, 10]) (by kernel_rfl) (by simp) ?_
        refine AllReadyH.cons at6 (fun K hK => ?_) ?_
        ·
          go_simp
          refine (right_ok (G := G) (q := q108) (M.out.1) (Fz.mono Sq108.out (by omega))).mono ?_
          rintro e w49 ⟨rfl, hb⟩
          replace M := Lib.hid (Goes.go M.out hb)
          clear hb
          (try go_wp2_with fail)
          refine hK.out _ _ (⟨(M.out.2.2.2.2.2.2.2.2.2.2.2.1).at.1 0, (M.out.2.2.2.2.2.2.2.2.2.2.2.1).at.1 1, (M.out.2.2.2.2.2.2.2.2.2.2.2.1).at.1 2, (M.out.2.2.2.2.2.2.2.2.2.2.2.1).at.1 3⟩) (fun hH111 => ?_)
          clear hK K hH110
          (try simp only [Act.put, List.setIfInBounds_toArray, List.set_cons_zero, List.set_cons_succ])
          refine tk at7 ?_
          refine tk at8 ?_
          refine tk at9 ?_
          refine wpAnyH_ready (rs := [10]) (by kernel_rfl) (by simp) ?_
          refine AllReadyH.cons at10 (fun K hK => ?_) AllReadyH.nil
          go_simp
          obtain ⟨w50, hv⟩ : ∃ w_ : World, w_ = (w49.alloc (.cells #[.int .i64 0, .slice none 0 0, .int .i64 0, .slice none 0 0] 26)) := ⟨_, rfl⟩
          rw [← hv]
          have o12 : B11 < w49.heap.size := ((M.out.2.2.1)).lt
          replace M := Lib.hid (And.intro (hv ▸ bx1 w49 26 #[.int .i64 0, .slice none 0 0, .int .i64 0, .slice none 0 0]) (Goes.go M.out (hv ▸ below_alloc _ _ : Below w49.heap.size w49 w50)))
          clear hv
          refine hK.out _ _ (⟨(M.out.2.2.2.2.2.2.2.2.2.2.2.2.1).at.1 0, (M.out.2.2.2.2.2.2.2.2.2.2.2.2.1).at.1 1, (M.out.2.2.2.2.2.2.2.2.2.2.2.2.1).at.1 2, (M.out.2.2.2.2.2.2.2.2.2.2.2.2.1).at.1 3⟩) (fun hH112 => ?_)
          clear hK K hH111
          (try simp only [Act.put, List.setIfInBounds_toArray, List.set_cons_zero, List.set_cons_succ])
          refine wpAnyH_ready (rs := [11]) (by kernel_rfl) (by simp) ?_
          refine AllReadyH.cons at11 (fun K hK => ?_) AllReadyH.nil
          have y12 := (M.out.1).c4; have p12_0 := y12.1; have q12_0 := y12.2.1; have p12_1 := y12.2.2.1; have q12_1 := y12.2.2.2.1; have p12_2 := y12.2.2.2.2.1; have q12_2 := y12.2.2.2.2.2.1; have p12_3 := y12.2.2.2.2.2.2.1; have q12_3 := y12.2.2.2.2.2.2.2; clear y12
          go_simp
          clear p12_0 q12_0 p12_1 q12_1 p12_2 q12_2 p12_3 q12_3
          obtain ⟨w51, hv⟩ : ∃ w_ : World, w_ = ((((w50.setCell ⟨w49.heap.size, 0, none⟩ (.int .i64 (sg (nu q108)))).setCell ⟨w49.heap.size, 1, none⟩ (.slice a_104 (ln (nu q108)) c_105)).setCell ⟨w49.heap.size, 2, none⟩ (.int .i64 (sg (de q108)))).setCell ⟨w49.heap.size, 3, none⟩ (.slice b_106 (ln (de q108)) d_107)) := ⟨_, rfl⟩
          rw [← hv]
          have og : w50.grownBy w51 (some w49.heap.size) := by rw [hv]; exact (only_setCell (only_setCell (only_setCell (only_setCell (World.grownBy.refl _ _) _) _) _) _)
          have hz : w.heap.size ≤ w49.heap.size := by omega
          have hk : Bx w51 w49.heap.size 26 #[.int .i64 (sg (nu q108)), .slice a_104 (ln (nu q108)) c_105, .int .i64 (sg (de q108)), .slice b_106 (ln (de q108)) d_107] := by rw [hv]; exact (((((M.out.1).set 0 _).set 1 _).set 2 _).set 3 _)
          have hbw : Below w.heap.size w w51 := by rw [hv]; exact (Below.setCell (Below.setCell (Below.setCell (Below.setCell (M.out.2.2.2.2.2.2.2.2.2.2.2.2.2) (by omega) _) (by omega) _) (by omega) _) (by omega) _)
          replace M := Lib.hid (And.intro hk (And.intro ((M.out.2.1).far (M.out.1) (by rfl) (by omega) og) (And.intro ((M.out.2.2.1).far (M.out.1) (by rfl) (by omega) og) (And.intro ((M.out.2.2.2.1).only og (by omega)) (And.intro ((M.out.2.2.2.2.1).far (M.out.1) (by rfl) (by omega) og) (And.intro ((M.out.2.2.2.2.2.1).only og (by omega)) (And.intro ((M.out.2.2.2.2.2.2.1).far (M.out.1) (by rfl) (by omega) og) (And.intro ((M.out.2.2.2.2.2.2.2.1).only og (by omega)) (And.intro ((M.out.2.2.2.2.2.2.2.2.1).far (M.out.1) (by rfl) (by omega) og) (And.intro ((M.out.2.2.2.2.2.2.2.2.2.1).only og (by omega)) (And.intro ((M.out.2.2.2.2.2.2.2.2.2.2.1).far (M.out.1) (by rfl) (by omega) og) (And.intro ((M.out.2.2.2.2.2.2.2.2.2.2.2.1).only og (by omega)) (And.intro ((M.out.2.2.2.2.2.2.2.2.2.2.2.2.1).only og (by omega)) hbw)))))))))))))
          clear hk hbw og hv hz
          refine hK.out _ _ (⟨(M.out.2.2.2.2.2.2.2.2.2.2.2.2.1).at.1 0, (M.out.2.2.2.2.2.2.2.2.2.2.2.2.1).at.1 1, (M.out.2.2.2.2.2.2.2.2.2.2.2.2.1).at.1 2, (M.out.2.2.2.2.2.2.2.2.2.2.2.2.1).at.1 3⟩) (fun hH113 => ?_)
          clear hK K hH112
          (try simp only [Act.put, List.setIfInBounds_toArray, List.set_cons_zero, List.set_cons_succ])
          refine tk at12 ?_
          refine wpAnyH_done (by kernel_rfl) ?_ _
          clear hH113
          go_wp2_with fail
          go_meet
          exact ⟨w49.heap.size, a_97, c_98, b_99, d_100, q101, a_104, c_105, b_106, d_107, q108, rfl, rfl, Eq101, Eq108, Sq101, Sq108, (by omega), (M.out.1), (M.out.2.1), (M.out.2.2.1), (M.out.2.2.2.2.1), (M.out.2.2.2.2.2.2.1), (M.out.2.2.2.2.2.2.2.2.1), (M.out.2.2.2.2.2.2.2.2.2.2.1), (M.out.2.2.2.2.2.2.2.2.2.2.2.2.1), (M.out.2.2.2.2.2.2.2.2.2.2.2.1), (M.out.2.2.2.2.2.2.2.2.2.1), (M.out.2.2.2.2.2.2.2.1), (M.out.2.2.2.2.2.1), (M.out.2.2.2.1), (M.out.2.2.2.2.2.2.2.2.2.2.2.2.2)⟩
        refine AllReadyH.cons at10 (fun K hK => ?_) AllReadyH.nil
        go_simp
        obtain ⟨w49, hv⟩ : ∃ w_ : World, w_ = (w48.alloc (.cells #[.int .i64 0, .slice none 0 0, .int .i64 0, .slice none 0 0] 26)) := ⟨_, rfl⟩
        rw [← hv]
        have o12 : B11 < w48.heap.size := ((M.out.2.2.1)).lt
        replace M := Lib.hid (And.intro (hv ▸ bx1 w48 26 #[.int .i64 0, .slice none 0 0, .int .i64 0, .slice none 0 0]) (Goes.go M.out (hv ▸ below_alloc _ _ : Below w48.heap.size w48 w49)))
        clear hv
        refine hK.out _ _ (⟨(M.out.2.2.2.2.2.2.2.2.2.2.2.2.1).at.1 0, (M.out.2.2.2.2.2.2.2.2.2.2.2.2.1).at.1 1, (M.out.2.2.2.2.2.2.2.2.2.2.2.2.1).at.1 2, (M.out.2.2.2.2.2.2.2.2.2.2.2.2.1).at.1 3⟩) (fun hH114 => ?_)
        clear hK K hH110
        (try simp only [Act.put, List.setIfInBounds_toArray, List.set_cons_zero, List.set_cons_succ])
        refine wpAnyH_ready (rs := [6]) (by kernel_rfl) (by simp) ?_
        refine AllReadyH.cons at6 (fun K hK => ?_) AllReadyH.nil
        go_simp
        refine (right_ok (G := G) (q := q108) (M.out.2.1) (Fz.mono Sq108.out (by omega))).mono ?_
        rintro e w50 ⟨rfl, hb⟩
        replace M := Lib.hid (Goes.go M.out hb)
        clear hb
        (try go_wp2_with fail)
        refine hK.out _ _ (⟨(M.out.2.2.2.2.2.2.2.2.2.2.2.2.1).at.1 0, (M.out.2.2.2.2.2.2.2.2.2.2.2.2.1).at.1 1, (M.out.2.2.2.2.2.2.2.2.2.2.2.2.1).at.1 2, (M.out.2.2.2.2.2.2.2.2.2.2.2.2.1).at.1 3⟩) (fun hH115 => ?_)
        clear hK K hH114
        (try simp only [Act.put, List.setIfInBounds_toArray, List.set_cons_zero, List.set_cons_succ])
        refine tk at7 ?_
        refine tk at8 ?_
        refine tk at9 ?_
        refine wpAnyH_ready (rs := [11]) (by kernel_rfl) (by simp) ?_
        refine AllReadyH.cons at11 (fun K hK => ?_) AllReadyH.nil
        have y12 := (M.out.1).c4; have p12_0 := y12.1; have q12_0 := y12.2.1; have p12_1 := y12.2.2.1; have q12_1 := y12.2.2.2.1; have p12_2 := y12.2.2.2.2.1; have q12_2 := y12.2.2.2.2.2.1; have p12_3 := y12.2.2.2.2.2.2.1; have q12_3 := y12.2.2.2.2.2.2.2; clear y12
        go_simp
        clear p12_0 q12_0 p12_1 q12_1 p12_2 q12_2 p12_3 q12_3
        obtain ⟨w51, hv⟩ : ∃ w_ : World, w_ = ((((w50.setCell ⟨w48.heap.size, 0, none⟩ (.int .i64 (sg (nu q108)))).setCell ⟨w48.heap.size, 1, none⟩ (.slice a_104 (ln (nu q108)) c_105)).setCell ⟨w48.heap.size, 2, none⟩ (.int .i64 (sg (de q108)))).setCell ⟨w48.heap.size, 3, none⟩ (.slice b_106 (ln (de q108)) d_107)) := ⟨_, rfl⟩
        rw [← hv]
        have og : w50.grownBy w51 (some w48.heap.size) := by rw [hv]; exact (only_setCell (only_setCell (only_setCell (only_setCell (World.grownBy.refl _ _) _) _) _) _)
        have hz : w.heap.size ≤ w48.heap.size := by omega
        have hk : Bx w51 w48.heap.size 26 #[.int .i64 (sg (nu q108)), .slice a_104 (ln (nu q108)) c_105, .int .i64 (sg (de q108)), .slice b_106 (ln (de q108)) d_107] := by rw [hv]; exact (((((M.out.1).set 0 _).set 1 _).set 2 _).set 3 _)
        have hbw : Below w.heap.size w w51 := by rw [hv]; exact (Below.setCell (Below.setCell (Below.setCell (Below.setCell (M.out.2.2.2.2.2.2.2.2.2.2.2.2.2) (by omega) _) (by omega) _) (by omega) _) (by omega) _)
        replace M := Lib.hid (And.intro hk (And.intro ((M.out.2.1).far (M.out.1) (by rfl) (by omega) og) (And.intro ((M.out.2.2.1).far (M.out.1) (by rfl) (by omega) og) (And.intro ((M.out.2.2.2.1).only og (by omega)) (And.intro ((M.out.2.2.2.2.1).far (M.out.1) (by rfl) (by omega) og) (And.intro ((M.out.2.2.2.2.2.1).only og (by omega)) (And.intro ((M.out.2.2.2.2.2.2.1).far (M.out.1) (by rfl) (by omega) og) (And.intro ((M.out.2.2.2.2.2.2.2.1).only og (by omega)) (And.intro ((M.out.2.2.2.2.2.2.2.2.1).far (M.out.1) (by rfl) (by omega) og) (And.intro ((M.out.2.2.2.2.2.2.2.2.2.1).only og (by omega)) (And.intro ((M.out.2.2.2.2.2.2.2.2.2.2.1).far (M.out.1) (by rfl) (by omega) og) (And.intro ((M.out.2.2.2.2.2.2.2.2.2.2.2.1).only og (by omega)) (And.intro ((M.out.2.2.2.2.2.2.2.2.2.2.2.2.1).only og (by omega)) hbw)))))))))))))
        clear hk hbw og hv hz
        refine hK.out _ _ (⟨(M.out.2.2.2.2.2.2.2.2.2.2.2.2.1).at.1 0, (M.out.2.2.2.2.2.2.2.2.2.2.2.2.1).at.1 1, (M.out.2.2.2.2.2.2.2.2.2.2.2.2.1).at.1 2, (M.out.2.2.2.2.2.2.2.2.2.2.2.2.1).at.1 3⟩) (fun hH116 => ?_)
        clear hK K hH115
        (try simp only [Act.put, List.setIfInBounds_toArray, List.set_cons_zero, List.set_cons_succ])
        refine tk at12 ?_
        refine wpAnyH_done (by kernel_rfl) ?_ _
        clear hH116
        go_wp2_with fail
        go_meet
        exact ⟨w48.heap.size, a_97, c_98, b_99, d_100, q101, a_104, c_105, b_106, d_107, q108, rfl, rfl, Eq101, Eq108, Sq101, Sq108, (by omega), (M.out.1), (M.out.2.1), (M.out.2.2.1), (M.out.2.2.2.2.1), (M.out.2.2.2.2.2.2.1), (M.out.2.2.2.2.2.2.2.2.1), (M.out.2.2.2.2.2.2.2.2.2.2.1), (M.out.2.2.2.2.2.2.2.2.2.2.2.2.1), (M.out.2.2.2.2.2.2.2.2.2.2.2.1), (M.out.2.2.2.2.2.2.2.2.2.1), (M.out.2.2.2.2.2.2.2.1), (M.out.2.2.2.2.2.1), (M.out.2.2.2.1), (M.out.2.2.2.2.2.2.2.2.2.2.2.2.2)⟩
      refine AllReadyH.cons at10 (fun K hK => ?_) AllReadyH.nil
      go_simp
      obtain ⟨w48, hv⟩ : ∃ w_ : World, w_ = (w47.alloc (.cells #[.int .i64 0, .slice none 0 0, .int .i64 0, .slice none 0 0] 26)) := ⟨_, rfl⟩
      rw [← hv]
      have o12 : B11 < w47.heap.size := ((M.out.2.1)).lt
      replace M := Lib.hid (And.intro (hv ▸ bx1 w47 26 #[.int .i64 0, .slice none 0 0, .int .i64 0, .slice none 0 0]) (Goes.go M.out (hv ▸ below_alloc _ _ : Below w47.heap.size w47 w48)))
      clear hv
      refine hK.out _ _ (⟨(M.out.2.2.2.2.2.2.2.2.2.2.2.1).at.1 0, (M.out.2.2.2.2.2.2.2.2.2.2.2.1).at.1 1, (M.out.2.2.2.2.2.2.2.2.2.2.2.1).at.1 2, (M.out.2.2.2.2.2.2.2.2.2.2.2.1).at.1 3⟩) (fun hH117 => ?_)
      clear hK K hH103
      (try simp only [Act.put, List.setIfInBounds_toArray, List.set_cons_zero, List.set_cons_succ])
      refine wpAnyH_ready (rs := [3]) (by kernel_rfl) (by simp) ?_
      refine AllReadyH.cons at3 (fun K hK => ?_) AllReadyH.nil
      go_simp
      obtain ⟨q122, eq122⟩ : ∃ v_ : Rat, v_ = (q + q101) := ⟨_, rfl⟩
      refine (fracAdd_ok (G := G) (q := q) (r := q101) (H1.out.keep (M.out.2.2.2.2.2.2.2.2.2.2.2.2)) (M.out.2.1) (Fz.mono HQ.out (by omega)) (Fz.mono Sq101.out (by omega))).mono ?_
      rintro e w49 ⟨a_118, c_119, b_120, d_121, rfl, hd123, hb⟩
      rw [← eq122] at hd123 ⊢
      have Sq122 : Hid (Fz q122 25) := by show Fz q122 25; rw [eq122]; exact (Fz.add HQ.out Sq101.out)
      have Eq122 := Lib.hid eq122; clear eq122
      replace M := Lib.hid (And.intro hd123 (Goes.go M.out hb))
      clear hb hd123
      (try go_wp2_with fail)
      refine hK.out _ _ (⟨(M.out.2.2.2.2.2.2.2.2.2.2.2.2.1).at.1 0, (M.out.2.2.2.2.2.2.2.2.2.2.2.2.1).at.1 1, (M.out.2.2.2.2.2.2.2.2.2.2.2.2.1).at.1 2, (M.out.2.2.2.2.2.2.2.2.2.2.2.2.1).at.1 3⟩) (fun hH124 => ?_)
      clear hK K hH117
      (try simp only [Act.put, List.setIfInBounds_toArray, List.set_cons_zero, List.set_cons_succ])
      refine tk at4 ?_
      refine tk at5 ?_
      refine wpAnyH_ready (rs := [6]) (by kernel_rfl) (by simp) ?_
      refine AllReadyH.cons at6 (fun K hK => ?_) AllReadyH.nil
      go_simp
      refine (right_ok (G := G) (q := q122) (M.out.1) (Fz.mono Sq122.out (by omega))).mono ?_
      rintro e w50 ⟨rfl, hb⟩
      replace M := Lib.hid (Goes.go M.out hb)
      clear hb
      (try go_wp2_with fail)
      refine hK.out _ _ (⟨(M.out.2.2.2.2.2.2.2.2.2.2.2.2.1).at.1 0, (M.out.2.2.2.2.2.2.2.2.2.2.2.2.1).at.1 1, (M.out.2.2.2.2.2.2.2.2.2.2.2.2.1).at.1 2, (M.out.2.2.2.2.2.2.2.2.2.2.2.2.1).at.1 3⟩) (fun hH125 => ?_)
      clear hK K hH124
      (try simp only [Act.put, List.setIfInBounds_toArray, List.set_cons_zero, List.set_cons_succ])
      refine tk at7 ?_
      refine tk at8 ?_
      refine tk at9 ?_
      refine wpAnyH_ready (rs := [11]) (by kernel_rfl) (by simp) ?_
      refine AllReadyH.cons at11 (fun K hK => ?_) AllReadyH.nil
      have y12 := (M.out.2.1).c4; have p12_0 := y12.1; have q12_0 := y12.2.1; have p12_1 := y12.2.2.1; have q12_1 := y12.2.2.2.1; have p12_2 := y12.2.2.2.2.1; have q12_2 := y12.2.2.2.2.2.1; have p12_3 := y12.2.2.2.2.2.2.1; have q12_3 := y12.2.2.2.2.2.2.2; clear y12
      go_simp
      clear p12_0 q12_0 p12_1 q12_1 p12_2 q12_2 p12_3 q12_3
      obtain ⟨w51, hv⟩ : ∃ w_ : World, w_ = ((((w50.setCell ⟨w47.heap.size, 0, none⟩ (.int .i64 (sg (nu q122)))).setCell ⟨w47.heap.size, 1, none⟩ (.slice a_118 (ln (nu q122)) c_119)).setCell ⟨w47.heap.size, 2, none⟩ (.int .i64 (sg (de q122)))).setCell ⟨w47.heap.size, 3, none⟩ (.slice b_120 (ln (de q122)) d_121)) := ⟨_, rfl⟩
      rw [← hv]
      have og : w50.grownBy w51 (some w47.heap.size) := by rw [hv]; exact (only_setCell (only_setCell (only_setCell (only_setCell (World.grownBy.refl _ _) _) _) _) _)
      have hz : w.heap.size ≤ w47.heap.size := by omega
      have hk : Bx w51 w47.heap.size 26 #[.int .i64 (sg (nu q122)), .slice a_118 (ln (nu q122)) c_119, .int .i64 (sg (de q122)), .slice b_120 (ln (de q122)) d_121] := by rw [hv]; exact (((((M.out.2.1).set 0 _).set 1 _).set 2 _).set 3 _)
      have hbw : Below w.heap.size w w51 := by rw [hv]; exact (Below.setCell (Below.setCell (Below.setCell (Below.setCell (M.out.2.2.2.2.2.2.2.2.2.2.2.2.2) (by omega) _) (by omega) _) (by omega) _) (by omega) _)
      replace M := Lib.hid (And.intro ((M.out.1).far (M.out.2.1) (by rfl) (by omega) og) (And.intro hk (And.intro ((M.out.2.2.1).far (M.out.2.1) (by rfl) (by omega) og) (And.intro ((M.out.2.2.2.1).only og (by omega)) (And.intro ((M.out.2.2.2.2.1).far (M.out.2.1) (by rfl) (by omega) og) (And.intro ((M.out.2.2.2.2.2.1).only og (by omega)) (And.intro ((M.out.2.2.2.2.2.2.1).far (M.out.2.1) (by rfl) (by omega) og) (And.intro ((M.out.2.2.2.2.2.2.2.1).only og (by omega)) (And.intro ((M.out.2.2.2.2.2.2.2.2.1).far (M.out.2.1) (by rfl) (by omega) og) (And.intro ((M.out.2.2.2.2.2.2.2.2.2.1).only og (by omega)) (And.intro ((M.out.2.2.2.2.2.2.2.2.2.2.1).far (M.out.2.1) (by rfl) (by omega) og) (And.intro ((M.out.2.2.2.2.2.2.2.2.2.2.2.1).only og (by omega)) (And.intro ((M.out.2.2.2.2.2.2.2.2.2.2.2.2.1).only og (by omega)) hbw)))))))))))))
      clear hk hbw og hv hz
      refine hK.out _ _ (⟨(M.out.2.2.2.2.2.2.2.2.2.2.2.2.1).at.1 0, (M.out.2.2.2.2.2.2.2.2.2.2.2.2.1).at.1 1, (M.out.2.2.2.2.2.2.2.2.2.2.2.2.1).at.1 2, (M.out.2.2.2.2.2.2.2.2.2.2.2.2.1).at.1 3⟩) (fun hH126 => ?_)
      clear hK K hH125
      (try simp only [Act.put, List.setIfInBounds_toArray, List.set_cons_zero, List.set_cons_succ])
      refine tk at12 ?_
      refine wpAnyH_done (by kernel_rfl) ?_ _
      clear hH126
      go_wp2_with fail
      go_meet
      exact ⟨w47.heap.size, a_97, c_98, b_99, d_100, q101, a_118, c_119, b_120, d_121, q122, rfl, rfl, Eq101, Eq122, Sq101, Sq122, (by omega), (M.out.2.1), (M.out.1), (M.out.2.2.1), (M.out.2.2.2.2.1), (M.out.2.2.2.2.2.2.1), (M.out.2.2.2.2.2.2.2.2.1), (M.out.2.2.2.2.2.2.2.2.2.2.1), (M.out.2.2.2.2.2.2.2.2.2.2.2.2.1), (M.out.2.2.2.2.2.2.2.2.2.2.2.1), (M.out.2.2.2.2.2.2.2.2.2.1), (M.out.2.2.2.2.2.2.2.1), (M.out.2.2.2.2.2.1), (M.out.2.2.2.1), (M.out.2.2.2.2.2.2.2.2.2.2.2.2.2)⟩
    refine AllReadyH.cons at10 (fun K hK => ?_) AllReadyH.nil
    go_simp
    obtain ⟨w47, hv⟩ : ∃ w_ : World, w_ = (w46.alloc (.cells #[.int .i64 0, .slice none 0 0, .int .i64 0, .slice none 0 0] 26)) := ⟨_, rfl⟩
    rw [← hv]
    have o12 : B11 < w46.heap.size := ((M.out.1)).lt
    replace M := Lib.hid (And.intro (hv ▸ bx1 w46 26 #[.int .i64 0, .slice none 0 0, .int .i64 0, .slice none 0 0]) (Goes.go M.out (hv ▸ below_alloc _ _ : Below w46.heap.size w46 w47)))
    clear hv
    refine hK.out _ _ (⟨(M.out.2.2.2.2.2.2.2.2.2.2.1).at.1 0, (M.out.2.2.2.2.2.2.2.2.2.2.1).at.1 1, (M.out.2.2.2.2.2.2.2.2.2.2.1).at.1 2, (M.out.2.2.2.2.2.2.2.2.2.2.1).at.1 3⟩) (fun hH127 => ?_)
    clear hK K hH96
    (try simp only [Act.put, List.setIfInBounds_toArray, List.set_cons_zero, List.set_cons_succ])
    refine wpAnyH_ready (rs := [2]) (by kernel_rfl) (by simp) ?_
    refine AllReadyH.cons at2 (fun K hK => ?_) AllReadyH.nil
    go_simp
    obtain ⟨q132, eq132⟩ : ∃ v_ : Rat, v_ = (-q) := ⟨_, rfl⟩
    refine (fracNeg_ok (G := G) (q := q) (Nat.le_trans hG (M.out.2.2.2.2.2.2.2.2.2.2.2).size) (H1.out.keep (M.out.2.2.2.2.2.2.2.2.2.2.2)) (Fz.mono HQ.out (by omega))).mono ?_
    rintro e w48 ⟨a_128, c_129, b_130, d_131, rfl, hd133, hb⟩
    rw [← eq132] at hd133 ⊢
    have Sq132 : Hid (Fz q132 12) := by show Fz q132 12; rw [eq132]; exact (Fz.neg HQ.out)
    have Eq132 := Lib.hid eq132; clear eq132
    replace M := Lib.hid (And.intro hd133 (Goes.go M.out hb))
    clear hb hd133
    (try go_wp2_with fail)
    refine hK.out _ _ (⟨(M.out.2.2.2.2.2.2.2.2.2.2.2.1).at.1 0, (M.out.2.2.2.2.2.2.2.2.2.2.2.1).at.1 1, (M.out.2.2.2.2.2.2.2.2.2.2.2.1).at.1 2, (M.out.2.2.2.2.2.2.2.2.2.2.2.1).at.1 3⟩) (fun hH134 => ?_)
    clear hK K hH127
    (try simp only [Act.put, List.setIfInBounds_toArray, List.set_cons_zero, List.set_cons_succ])
    refine wpAnyH_ready (rs := [3]) (by kernel_rfl) (by simp) ?_
    refine AllReadyH.cons at3 (fun K hK => ?_) AllReadyH.nil
    go_simp
    obtain ⟨q139, eq139⟩ : ∃ v_ : Rat, v_ = (q + q132) := ⟨_, rfl⟩
    refine (fracAdd_ok (G := G) (q := q) (r := q132) (H1.out.keep (M.out.2.2.2.2.2.2.2.2.2.2.2.2)) (M.out.1) (Fz.mono HQ.out (by omega)) (Fz.mono Sq132.out (by omega))).mono ?_
    rintro e w49 ⟨a_135, c_136, b_137, d_138, rfl, hd140, hb⟩
    rw [← eq139] at hd140 ⊢
    have Sq139 : Hid (Fz q139 25) := by show Fz q139 25; rw [eq139]; exact (Fz.add HQ.out Sq132.out)
    have Eq139 := Lib.hid eq139; clear eq139
    replace M := Lib.hid (And.intro hd140 (Goes.go M.out hb))
    clear hb hd140
    (try go_wp2_with fail)
    refine hK.out _ _ (⟨(M.out.2.2.2.2.2.2.2.2.2.2.2.2.1).at.1 0, (M.out.2.2.2.2.2.2.2.2.2.2.2.2.1).at.1 1, (M.out.2.2.2.2.2.2.2.2.2.2.2.2.1).at.1 2, (M.out.2.2.2.2.2.2.2.2.2.2.2.2.1).at.1 3⟩) (fun hH141 => ?_)
    clear hK K hH134
    (try simp only [Act.put, List.setIfInBounds_toArray, List.set_cons_zero, List.set_cons_succ])
    refine tk at4 ?_
    refine tk at5 ?_
    refine wpAnyH_ready (rs := [6]) (by kernel_rfl) (by simp) ?_
    refine AllReadyH.cons at6 (fun K hK => ?_) AllReadyH.nil
    go_simp
    refine (right_ok (G := G) (q := q139) (M.out.1) (Fz.mono Sq139.out (by omega))).mono ?_
    rintro e w50 ⟨rfl, hb⟩
    replace M := Lib.hid (Goes.go M.out hb)
    clear hb
    (try go_wp2_with fail)
    refine hK.out _ _ (⟨(M.out.2.2.2.2.2.2.2.2.2.2.2.2.1).at.1 0, (M.out.2.2.2.2.2.2.2.2.2.2.2.2.1).at.1 1, (M.out.2.2.2.2.2.2.2.2.2.2.2.2.1).at.1 2, (M.out.2.2.2.2.2.2.2.2.2.2.2.2.1).at.1 3⟩) (fun hH142 => ?_)
    clear hK K hH141
    (try simp only [Act.put, List.setIfInBounds_toArray, List.set_cons_zero, List.set_cons_succ])
    refine tk at7 ?_
    refine tk at8 ?_
    refine tk at9 ?_
    refine wpAnyH_ready (rs := [11]) (by kernel_rfl) (by simp) ?_
    refine AllReadyH.cons at11 (fun K hK => ?_) AllReadyH.nil
    have y12 := (M.out.2.2.1).c4; have p12_0 := y12.1; have q12_0 := y12.2.1; have p12_1 := y12.2.2.1; have q12_1 := y12.2.2.2.1; have p12_2 := y12.2.2.2.2.1; have q12_2 := y12.2.2.2.2.2.1; have p12_3 := y12.2.2.2.2.2.2.1; have q12_3 := y12.2.2.2.2.2.2.2; clear y12
    go_simp
    clear p12_0 q12_0 p12_1 q12_1 p12_2 q12_2 p12_3 q12_3
    obtain ⟨w51, hv⟩ : ∃ w_ : World, w_ = ((((w50.setCell ⟨w46.heap.size, 0, none⟩ (.int .i64 (sg (nu q139)))).setCell ⟨w46.heap.size, 1, none⟩ (.slice a_135 (ln (nu q139)) c_136)).setCell ⟨w46.heap.size, 2, none⟩ (.int .i64 (sg (de q139)))).setCell ⟨w46.heap.size, 3, none⟩ (.slice b_137 (ln (de q139)) d_138)) := ⟨_, rfl⟩
    rw [← hv]
    have og : w50.grownBy w51 (some w46.heap.size) := by rw [hv]; exact (only_setCell (only_setCell (only_setCell (only_setCell (World.grownBy.refl _ _) _) _) _) _)
    have hz : w.heap.size ≤ w46.heap.size := by omega
    have hk : Bx w51 w46.heap.size 26 #[.int .i64 (sg (nu q139)), .slice a_135 (ln (nu q139)) c_136, .int .i64 (sg (de q139)), .slice b_137 (ln (de q139)) d_138] := by rw [hv]; exact (((((M.out.2.2.1).set 0 _).set 1 _).set 2 _).set 3 _)
    have hbw : Below w.heap.size w w51 := by rw [hv]; exact (Below.setCell (Below.setCell (Below.setCell (Below.setCell (M.out.2.2.2.2.2.2.2.2.2.2.2.2.2) (by omega) _) (by omega) _) (by omega) _) (by omega) _)
    replace M := Lib.hid (And.intro ((M.out.1).far (M.out.2.2.1) (by rfl) (by omega) og) (And.intro ((M.out.2.1).far (M.out.2.2.1) (by rfl) (by omega) og) (And.intro hk (And.intro ((M.out.2.2.2.1).only og (by omega)) (And.intro ((M.out.2.2.2.2.1).far (M.out.2.2.1) (by rfl) (by omega) og) (And.intro ((M.out.2.2.2.2.2.1).only og (by omega)) (And.intro ((M.out.2.2.2.2.2.2.1).far (M.out.2.2.1) (by rfl) (by omega) og) (And.intro ((M.out.2.2.2.2.2.2.2.1).only og (by omega)) (And.intro ((M.out.2.2.2.2.2.2.2.2.1).far (M.out.2.2.1) (by rfl) (by omega) og) (And.intro ((M.out.2.2.2.2.2.2.2.2.2.1).only og (by omega)) (And.intro ((M.out.2.2.2.2.2.2.2.2.2.2.1).far (M.out.2.2.1) (by rfl) (by omega) og) (And.intro ((M.out.2.2.2.2.2.2.2.2.2.2.2.1).only og (by omega)) (And.intro ((M.out.2.2.2.2.2.2.2.2.2.2.2.2.1).only og (by omega)) hbw)))))))))))))
    clear hk hbw og hv hz
    refine hK.out _ _ (⟨(M.out.2.2.2.2.2.2.2.2.2.2.2.2.1).at.1 0, (M.out.2.2.2.2.2.2.2.2.2.2.2.2.1).at.1 1, (M.out.2.2.2.2.2.2.2.2.2.2.2.2.1).at.1 2, (M.out.2.2.2.2.2.2.2.2.2.2.2.2.1).at.1 3⟩) (fun hH143 => ?_)
    clear hK K hH142
    (try simp only [Act.put, List.setIfInBounds_toArray, List.set_cons_zero, List.set_cons_succ])
    refine tk at12 ?_
    refine wpAnyH_done (by kernel_rfl) ?_ _
    clear hH143
    go_wp2_with fail
    go_meet
    exact ⟨w46.heap.size, a_128, c_129, b_130, d_131, q132, a_135, c_136, b_137, d_138, q139, rfl, rfl, Eq132, Eq139, Sq132, Sq139, (by omega), (M.out.2.2.1), (M.out.1), (M.out.2.1), (M.out.2.2.2.2.1), (M.out.2.2.2.2.2.2.1), (M.out.2.2.2.2.2.2.2.2.1), (M.out.2.2.2.2.2.2.2.2.2.2.1), (M.out.2.2.2.2.2.2.2.2.2.2.2.2.1), (M.out.2.2.2.2.2.2.2.2.2.2.2.1), (M.out.2.2.2.2.2.2.2.2.2.1), (M.out.2.2.2.2.2.2.2.1), (M.out.2.2.2.2.2.1), (M.out.2.2.2.1), (M.out.2.2.2.2.2.2.2.2.2.2.2.2.2)⟩
  case rest =>
    obtain ⟨A95, a_83, c_84, b_85, d_86, q87, a_89, c_90, b_91, d_92, q93, rfl, rfl, Eq87, Eq93, Sq87, Sq93, oA95, M⟩ := hcut
    obtain ⟨w46, rfl⟩ : ∃ w_ : World, w_ = wc := ⟨_, rfl⟩
    go_upto_region 23 with fail
    replace M := Lib.hid (And.intro (M.out.1) (And.intro (M.out.2.1) (And.intro (M.out.2.2.2.1) (And.intro (M.out.2.2.2.2.1) (And.intro (M.out.2.2.2.2.2.1) (And.intro (M.out.2.2.2.2.2.2.1) (And.intro (M.out.2.2.2.2.2.2.2.1) (And.intro (M.out.2.2.2.2.2.2.2.2.1) (And.intro (M.out.2.2.2.2.2.2.2.2.2.1) (And.intro (M.out.2.2.2.2.2.2.2.2.2.2.1) (And.intro (M.out.2.2.2.2.2.2.2.2.2.2.2.1) (And.intro (M.out.2.2.2.2.2.2.2.2.2.2.2.2.1) (M.out.2.2.2.2.2.2.2.2.2.2.2.2.2)))))))))))))
    rename_i Kst_ hst_
    exact order_gt_s23 hG HQ HR HU wn wm hbz HBZ n1 n2 HK HK2 HK3 HSUB HSW HPL HTM HNG n3 n4 n5 HLO HHI HNE HT HM H1 H2 H3 (Lib.hid (by rw [Eq93.out, Eq87.out])) Sq93 Eq81 Sq81 Eq75 Sq75 (by omega) (by omega) (by omega) (by omega) (by omega) (by omega) (by omega) M Kst_ hst_

set_option maxRecDepth 100000 in
set_option maxHeartbeats 4000000 in
theorem order_gt_s20 {k k2 k3 m : Int} {bz : Bool} {q r u : Rat} {a1 b1 a2 b2 a3 b3 : Option Addr} {c1 d1 c2 d2 c3 d3 : Nat} {w : World}  {w39 : World} {a_66 b_68 a_61 b_63 : Option Addr} {c_67 d_69 c_62 d_64 : Nat} {B0 B1 B8 B9 : Nat} {x0_ x1_ x2_ x5_ x8_ x9_ x11_ x13_ x15_ x17_ x21_ x22_ x23_ x24_ x25_ x26_ x27_ x28_ x29_ x30_ x31_ x32_ x33_ x34_ x35_ x36_ x37_ x38_ x39_ x40_ x41_ x42_ x43_ x44_ x45_ x46_ x47_ x48_ x49_ x50_ x51_ x52_ x53_ x54_ x55_ x56_ x57_ x58_ x59_ x60_ x61_ x62_ x63_ x64_ x65_ x66_ x67_ x68_ x69_ x70_ x71_ x72_ x73_ x74_ x75_ x76_ x77_ x78_ x79_ x80_ x81_ x82_ x83_ x84_ x85_ x86_ x87_ x88_ x89_ x90_ x91_ x92_ x93_ x94_ x95_ x96_ x97_ x98_ x99_ x100_ x101_ x102_ x103_ x104_ x105_ x106_ x107_ x108_ x109_ x110_ x111_ x112_ x113_ x114_ x115_ x116_ x117_ x118_ x119_ x120_ x121_ x122_ x123_ x124_ x125_ x126_ x127_ x128_ x129_ x130_ x131_ x132_ x133_ x134_ x135_ x136_ x137_ x138_ x139_ x140_ x141_ x142_ x143_ x144_ x145_ x146_ x147_ x148_ x149_ x150_ x151_ x152_ x153_ x154_ x155_ x156_ x157_ x158_ x159_ x160_ x161_ x162_ x163_ x164_ x165_ x166_ x167_ x168_ x169_ x170_ x171_ x172_ x173_ x174_ x175_ x176_ x177_ x178_ x179_ x180_ x181_ x182_ x183_ x184_ x185_ x186_ x187_ x188_ x189_ x190_ x191_ x192_ x193_ x194_ x195_ x196_ x197_ x198_ x199_ x200_ x201_ x202_ x203_ x204_ x205_ x206_ x207_ x208_ x209_ x210_ x211_ x212_ x213_ : Value} (hG : G ≤ w.heap.size) (HQ : Hid (Fz q 12)) (HR : Hid (Fz r 12)) (HU : Hid (Fz u 12)) (wn : IntKind.i64.wrap (-k) = -k) (wm : IntKind.i64.wrap (k * sg (nu u)) = m) (hbz : (k == 0) = bz) (HBZ : Hid (decide (q = r) = bz)) (n1 : decide (k < -1) = false) (n2 : decide (1 < k) = false) (HK : Hid (ordQ q r = k)) (HK2 : Hid (ordQ r u = k2)) (HK3 : Hid (ordQ q u = k3)) (HSUB : Hid (sg (nu (q - r)) = k)) (HSW : Hid (ordQ r q = -k)) (HPL : Hid (ordQ (q + u) (r + u) = k)) (HTM : Hid (ordQ (q * u) (r * u) = m)) (HNG : Hid (ordQ (-q) (-r) = -k)) (n3 : decide (-k ≤ 0) = true) (n4 : decide (k ≤ 0) = false) (n5 : decide (0 ≤ k) = true) (HLO : Hid (pick q r (-1) = r)) (HHI : Hid (pick q r 1 = q)) (HNE : Hid (¬ r = q)) (HT : Hid (Tab w)) (HM : Hid (Mx w)) (H1 : Hid (FD G w a1 c1 b1 d1 q)) (H2 : Hid (FD G w a2 c2 b2 d2 r)) (H3 : Hid (FD G w a3 c3 b3 d3 u)) (oB0 : w.heap.size ≤ B0) (oB1 : B0 < B1) (oB8 : B1 < B8) (oB9 : B8 < B9) (M : Hid (Bx w39 B9 26 #[.int .i64 (sg (nu q)), .slice a_66 (ln (nu q)) c_67, .int .i64 (sg (de q)), .slice b_68 (ln (de q)) d_69] ∧ FD G w39 a_66 c_67 b_68 d_69 q ∧ Bx w39 B8 26 #[.int .i64 (sg (nu r)), .slice a_61 (ln (nu r)) c_62, .int .i64 (sg (de r)), .slice b_63 (ln (de r)) d_64] ∧ FD G w39 a_61 c_62 b_63 d_64 r ∧ Bx w39 B1 26 #[.int .i64 (sg (nu r)), .slice a2 (ln (nu r)) c2, .int .i64 (sg (de r)), .slice b2 (ln (de r)) d2] ∧ Bx w39 B0 26 #[.int .i64 (sg (nu q)), .slice a1 (ln (nu q)) c1, .int .i64 (sg (de q)), .slice b1 (ln (de q)) d1] ∧ Below w.heap.size w w39)) :
    ∀ K : Act → World → Prop, (∀ a_ w_, Code.wp Tryz.prog (restAt Tryz.f5 20) (bodyPost Tryz.prog Tryz.f5 fun e w' => e = .returned (.bool true) ∧ Below w.heap.size w w') a_ w_ → K a_ w_) → Code.wp Tryz.prog (regAt Tryz.f5 20) (Exit.then K (bodyPost Tryz.prog Tryz.f5 fun e w' => e = .returned (.bool true) ∧ Below w.heap.size w w')) ⟨List.toArray (x0_ :: x1_ :: x2_ :: .pointer (some ⟨B0, 0, none⟩) :: .pointer (some ⟨B1, 0, none⟩) :: x5_ :: .bool false :: .bool true :: x8_ :: x9_ :: .bool true :: x11_ :: .bool true :: x13_ :: .bool true :: x15_ :: .bool true :: x17_ :: .bool true :: .pointer (some ⟨B8, 0, none⟩) :: .pointer (some ⟨B9, 0, none⟩) :: x21_ :: x22_ :: x23_ :: x24_ :: x25_ :: x26_ :: x27_ :: x28_ :: x29_ :: x30_ :: x31_ :: x32_ :: x33_ :: x34_ :: x35_ :: x36_ :: x37_ :: x38_ :: x39_ :: x40_ :: x41_ :: x42_ :: x43_ :: x44_ :: x45_ :: x46_ :: x47_ :: x48_ :: x49_ :: x50_ :: x51_ :: x52_ :: x53_ :: x54_ :: x55_ :: x56_ :: x57_ :: x58_ :: x59_ :: x60_ :: x61_ :: x62_ :: x63_ :: x64_ :: x65_ :: x66_ :: x67_ :: x68_ :: x69_ :: x70_ :: x71_ :: x72_ :: x73_ :: x74_ :: x75_ :: x76_ :: x77_ :: x78_ :: x79_ :: x80_ :: x81_ :: x82_ :: x83_ :: x84_ :: x85_ :: x86_ :: x87_ :: x88_ :: x89_ :: x90_ :: x91_ :: x92_ :: x93_ :: x94_ :: x95_ :: x96_ :: x97_ :: x98_ :: x99_ :: x100_ :: x101_ :: x102_ :: x103_ :: x104_ :: x105_ :: x106_ :: x107_ :: x108_ :: x109_ :: x110_ :: x111_ :: x112_ :: x113_ :: x114_ :: x115_ :: x116_ :: x117_ :: x118_ :: x119_ :: x120_ :: x121_ :: x122_ :: x123_ :: x124_ :: x125_ :: x126_ :: x127_ :: x128_ :: x129_ :: x130_ :: x131_ :: x132_ :: x133_ :: x134_ :: x135_ :: x136_ :: x137_ :: x138_ :: x139_ :: x140_ :: x141_ :: x142_ :: x143_ :: x144_ :: x145_ :: x146_ :: x147_ :: x148_ :: x149_ :: x150_ :: x151_ :: x152_ :: x153_ :: x154_ :: x155_ :: x156_ :: x157_ :: x158_ :: x159_ :: x160_ :: x161_ :: x162_ :: x163_ :: x164_ :: x165_ :: x166_ :: x167_ :: x168_ :: x169_ :: x170_ :: x171_ :: x172_ :: x173_ :: x174_ :: x175_ :: x176_ :: x177_ :: x178_ :: x179_ :: x180_ :: x181_ :: x182_ :: x183_ :: x184_ :: x185_ :: x186_ :: x187_ :: x188_ :: x189_ :: x190_ :: x191_ :: x192_ :: x193_ :: x194_ :: x195_ :: x196_ :: x197_ :: x198_ :: x199_ :: x200_ :: x201_ :: x202_ :: x203_ :: x204_ :: x205_ :: x206_ :: x207_ :: x208_ :: x209_ :: x210_ :: x211_ :: x212_ :: x213_ :: undef :: undef :: undef :: undef :: undef :: undef :: undef :: undef :: undef :: undef :: undef :: undef :: undef :: undef :: undef :: undef :: undef :: undef :: undef :: undef :: undef :: undef :: undef :: undef :: undef :: undef :: undef :: undef :: undef :: undef :: undef :: undef :: undef :: undef :: undef :: undef :: undef :: undef :: undef :: undef :: undef :: undef :: undef :: undef :: undef :: undef :: undef :: undef :: undef :: undef :: undef :: undef :: undef :: undef :: undef :: undef :: undef :: undef :: undef :: undef :: undef :: undef :: undef :: undef :: undef :: undef :: undef :: undef :: undef :: undef :: undef :: undef :: undef :: undef :: undef :: undef :: undef :: undef :: undef :: undef :: undef :: []), []⟩ w39 := by
  intro Kst_ hst_
  conv => arg 2; whnf
  conv at hst_ => enter [a_, w_, 1, 2]; whnf
  have y8 := (M.out.2.2.1).c4; have p8_0 := y8.1; have q8_0 := y8.2.1; have p8_1 := y8.2.2.1; have q8_1 := y8.2.2.2.1; have p8_2 := y8.2.2.2.2.1; have q8_2 := y8.2.2.2.2.2.1; have p8_3 := y8.2.2.2.2.2.2.1; have q8_3 := y8.2.2.2.2.2.2.2; clear y8
  have y9 := (M.out.1).c4; have p9_0 := y9.1; have q9_0 := y9.2.1; have p9_1 := y9.2.2.1; have q9_1 := y9.2.2.2.1; have p9_2 := y9.2.2.2.2.1; have q9_2 := y9.2.2.2.2.2.1; have p9_3 := y9.2.2.2.2.2.2.1; have q9_3 := y9.2.2.2.2.2.2.2; clear y9
  go_wp2_with fail
  clear p8_0 q8_0 p8_1 q8_1 p8_2 q8_2 p8_3 q8_3 p9_0 q9_0 p9_1 q9_1 p9_2 q9_2 p9_3 q9_3
  obtain ⟨q75, eq75⟩ : ∃ v_ : Rat, v_ = (r + q) := ⟨_, rfl⟩
  refine (fracAdd_ok (G := G) (q := r) (r := q) (M.out.2.2.2.1) (M.out.2.1) (Fz.mono HR.out (by omega)) (Fz.mono HQ.out (by omega))).mono ?_
  rintro e w40 ⟨a_71, c_72, b_73, d_74, rfl, hd76, hb⟩
  rw [← eq75] at hd76 ⊢
  have Sq75 : Hid (Fz q75 25) := by show Fz q75 25; rw [eq75]; exact (Fz.add HR.out HQ.out)
  have Eq75 := Lib.hid eq75; clear eq75
  replace M := Lib.hid (And.intro hd76 (Goes.go M.out hb))
  clear hb hd76
  go_wp2_with fail
  refine (right_ok (G := G) (q := q75) (M.out.1) (Fz.mono Sq75.out (by omega))).mono ?_
  rintro e w41 ⟨rfl, hb⟩
  replace M := Lib.hid (Goes.go M.out hb)
  clear hb
  go_upto_region 21 with fail
  obtain ⟨w42, hv⟩ : ∃ w_ : World, w_ = (w41.alloc (.cells #[.int .i64 (sg (nu q75)), .slice a_71 (ln (nu q75)) c_72, .int .i64 (sg (de q75)), .slice b_73 (ln (de q75)) d_74] 26)) := ⟨_, rfl⟩
  rw [← hv]
  have o10 : B9 < w41.heap.size := ((M.out.2.1)).lt
  replace M := Lib.hid (And.intro (hv ▸ bx1 w41 26 #[.int .i64 (sg (nu q75)), .slice a_71 (ln (nu q75)) c_72, .int .i64 (sg (de q75)), .slice b_73 (ln (de q75)) d_74]) (Goes.go M.out (hv ▸ below_alloc _ _ : Below w41.heap.size w41 w42)))
  clear hv
  have y0 := (M.out.2.2.2.2.2.2.2.1).c4; have p0_0 := y0.1; have q0_0 := y0.2.1; have p0_1 := y0.2.2.1; have q0_1 := y0.2.2.2.1; have p0_2 := y0.2.2.2.2.1; have q0_2 := y0.2.2.2.2.2.1; have p0_3 := y0.2.2.2.2.2.2.1; have q0_3 := y0.2.2.2.2.2.2.2; clear y0
  have y1 := (M.out.2.2.2.2.2.2.1).c4; have p1_0 := y1.1; have q1_0 := y1.2.1; have p1_1 := y1.2.2.1; have q1_1 := y1.2.2.2.1; have p1_2 := y1.2.2.2.2.1; have q1_2 := y1.2.2.2.2.2.1; have p1_3 := y1.2.2.2.2.2.2.1; have q1_3 := y1.2.2.2.2.2.2.2; clear y1
  go_wp2_with fail
  clear p0_0 q0_0 p0_1 q0_1 p0_2 q0_2 p0_3 q0_3 p1_0 q1_0 p1_1 q1_1 p1_2 q1_2 p1_3 q1_3
  obtain ⟨q81, eq81⟩ : ∃ v_ : Rat, v_ = (q + r) := ⟨_, rfl⟩
  refine (fracAdd_ok (G := G) (q := q) (r := r) (H1.out.keep (M.out.2.2.2.2.2.2.2.2)) (H2.out.keep (M.out.2.2.2.2.2.2.2.2)) (Fz.mono HQ.out (by omega)) (Fz.mono HR.out (by omega))).mono ?_
  rintro e w43 ⟨a_77, c_78, b_79, d_80, rfl, hd82, hb⟩
  rw [← eq81] at hd82 ⊢
  have Sq81 : Hid (Fz q81 25) := by show Fz q81 25; rw [eq81]; exact (Fz.add HQ.out HR.out)
  have Eq81 := Lib.hid eq81; clear eq81
  replace M := Lib.hid (And.intro hd82 (Goes.go M.out hb))
  clear hb hd82
  go_wp2_with fail
  refine (right_ok (G := G) (q := q81) (M.out.1) (Fz.mono Sq81.out (by omega))).mono ?_
  rintro e w44 ⟨rfl, hb⟩
  replace M := Lib.hid (Goes.go M.out hb)
  clear hb
  go_upto_region 22 with fail
  obtain ⟨w45, hv⟩ : ∃ w_ : World, w_ = (w44.alloc (.cells #[.int .i64 (sg (nu q81)), .slice a_77 (ln (nu q81)) c_78, .int .i64 (sg (de q81)), .slice b_79 (ln (de q81)) d_80] 26)) := ⟨_, rfl⟩
  rw [← hv]
  have o11 : w41.heap.size < w44.heap.size := ((M.out.2.1)).lt
  replace M := Lib.hid (And.intro (hv ▸ bx1 w44 26 #[.int .i64 (sg (nu q81)), .slice a_77 (ln (nu q81)) c_78, .int .i64 (sg (de q81)), .slice b_79 (ln (de q81)) d_80]) (Goes.go M.out (hv ▸ below_alloc _ _ : Below w44.heap.size w44 w45)))
  clear hv
  rename_i Kst_ hst_
  exact order_gt_s22 hG HQ HR HU wn wm hbz HBZ n1 n2 HK HK2 HK3 HSUB HSW HPL HTM HNG n3 n4 n5 HLO HHI HNE HT HM H1 H2 H3 Eq81 Sq81 Eq75 Sq75 (by omega) (by omega) (by omega) (by omega) (by omega) (by omega) M Kst_ hst_

set_option maxRecDepth 100000 in
set_option maxHeartbeats 4000000 in
theorem order_gt_s18 {k k2 k3 m : Int} {bz : Bool} {q r u : Rat} {a1 b1 a2 b2 a3 b3 : Option Addr} {c1 d1 c2 d2 c3 d3 : Nat} {w : World}  {w33 : World}  {B0 B1 : Nat} {x0_ x1_ x2_ x5_ x8_ x9_ x11_ x13_ x15_ x17_ x19_ x20_ x21_ x22_ x23_ x24_ x25_ x26_ x27_ x28_ x29_ x30_ x31_ x32_ x33_ x34_ x35_ x36_ x37_ x38_ x39_ x40_ x41_ x42_ x43_ x44_ x45_ x46_ x47_ x48_ x49_ x50_ x51_ x52_ x53_ x54_ x55_ x56_ x57_ x58_ x59_ x60_ x61_ x62_ x63_ x64_ x65_ x66_ x67_ x68_ x69_ x70_ x71_ x72_ x73_ x74_ x75_ x76_ x77_ x78_ x79_ x80_ x81_ x82_ x83_ x84_ x85_ x86_ x87_ x88_ x89_ x90_ x91_ x92_ x93_ x94_ x95_ x96_ x97_ x98_ x99_ x100_ x101_ x102_ x103_ x104_ x105_ x106_ x107_ x108_ x109_ x110_ x111_ x112_ x113_ x114_ x115_ x116_ x117_ x118_ x119_ x120_ x121_ x122_ x123_ x124_ x125_ x126_ x127_ x128_ x129_ x130_ x131_ x132_ x133_ x134_ x135_ x136_ x137_ x138_ x139_ x140_ x141_ x142_ x143_ x144_ x145_ x146_ x147_ x148_ x149_ x150_ x151_ x152_ x153_ x154_ x155_ x156_ x157_ x158_ x159_ x160_ x161_ x162_ x163_ x164_ x165_ x166_ x167_ x168_ x169_ x170_ x171_ x172_ x173_ x174_ x175_ x176_ x177_ x178_ x179_ x180_ x181_ x182_ x183_ x184_ x185_ x186_ x187_ x188_ x189_ x190_ x191_ x192_ x193_ x194_ x195_ : Value} (hG : G ≤ w.heap.size) (HQ : Hid (Fz q 12)) (HR : Hid (Fz r 12)) (HU : Hid (Fz u 12)) (wn : IntKind.i64.wrap (-k) = -k) (wm : IntKind.i64.wrap (k * sg (nu u)) = m) (hbz : (k == 0) = bz) (HBZ : Hid (decide (q = r) = bz)) (n1 : decide (k < -1) = false) (n2 : decide (1 < k) = false) (HK : Hid (ordQ q r = k)) (HK2 : Hid (ordQ r u = k2)) (HK3 : Hid (ordQ q u = k3)) (HSUB : Hid (sg (nu (q - r)) = k)) (HSW : Hid (ordQ r q = -k)) (HPL : Hid (ordQ (q + u) (r + u) = k)) (HTM : Hid (ordQ (q * u) (r * u) = m)) (HNG : Hid (ordQ (-q) (-r) = -k)) (n3 : decide (-k ≤ 0) = true) (n4 : decide (k ≤ 0) = false) (n5 : decide (0 ≤ k) = true) (HLO : Hid (pick q r (-1) = r)) (HHI : Hid (pick q r 1 = q)) (HNE : Hid (¬ r = q)) (HT : Hid (Tab w)) (HM : Hid (Mx w)) (H1 : Hid (FD G w a1 c1 b1 d1 q)) (H2 : Hid (FD G w a2 c2 b2 d2 r)) (H3 : Hid (FD G w a3 c3 b3 d3 u)) (oB0 : w.heap.size ≤ B0) (oB1 : B0 < B1) (M : Hid (Bx w33 B1 26 #[.int .i64 (sg (nu r)), .slice a2 (ln (nu r)) c2, .int .i64 (sg (de r)), .slice b2 (ln (de r)) d2] ∧ Bx w33 B0 26 #[.int .i64 (sg (nu q)), .slice a1 (ln (nu q)) c1, .int .i64 (sg (de q)), .slice b1 (ln (de q)) d1] ∧ Below w.heap.size w w33)) :
    ∀ K : Act → World → Prop, (∀ a_ w_, Code.wp Tryz.prog (restAt Tryz.f5 18) (bodyPost Tryz.prog Tryz.f5 fun e w' => e = .returned (.bool true) ∧ Below w.heap.size w w') a_ w_ → K a_ w_) → Code.wp Tryz.prog (regAt Tryz.f5 18) (Exit.then K (bodyPost Tryz.prog Tryz.f5 fun e w' => e = .returned (.bool true) ∧ Below w.heap.size w w')) ⟨List.toArray (x0_ :: x1_ :: x2_ :: .pointer (some ⟨B0, 0, none⟩) :: .pointer (some ⟨B1, 0, none⟩) :: x5_ :: .bool false :: .bool true :: x8_ :: x9_ :: .bool true :: x11_ :: .bool true :: x13_ :: .bool true :: x15_ :: .bool true :: x17_ :: .bool true :: x19_ :: x20_ :: x21_ :: x22_ :: x23_ :: x24_ :: x25_ :: x26_ :: x27_ :: x28_ :: x29_ :: x30_ :: x31_ :: x32_ :: x33_ :: x34_ :: x35_ :: x36_ :: x37_ :: x38_ :: x39_ :: x40_ :: x41_ :: x42_ :: x43_ :: x44_ :: x45_ :: x46_ :: x47_ :: x48_ :: x49_ :: x50_ :: x51_ :: x52_ :: x53_ :: x54_ :: x55_ :: x56_ :: x57_ :: x58_ :: x59_ :: x60_ :: x61_ :: x62_ :: x63_ :: x64_ :: x65_ :: x66_ :: x67_ :: x68_ :: x69_ :: x70_ :: x71_ :: x72_ :: x73_ :: x74_ :: x75_ :: x76_ :: x77_ :: x78_ :: x79_ :: x80_ :: x81_ :: x82_ :: x83_ :: x84_ :: x85_ :: x86_ :: x87_ :: x88_ :: x89_ :: x90_ :: x91_ :: x92_ :: x93_ :: x94_ :: x95_ :: x96_ :: x97_ :: x98_ :: x99_ :: x100_ :: x101_ :: x102_ :: x103_ :: x104_ :: x105_ :: x106_ :: x107_ :: x108_ :: x109_ :: x110_ :: x111_ :: x112_ :: x113_ :: x114_ :: x115_ :: x116_ :: x117_ :: x118_ :: x119_ :: x120_ :: x121_ :: x122_ :: x123_ :: x124_ :: x125_ :: x126_ :: x127_ :: x128_ :: x129_ :: x130_ :: x131_ :: x132_ :: x133_ :: x134_ :: x135_ :: x136_ :: x137_ :: x138_ :: x139_ :: x140_ :: x141_ :: x142_ :: x143_ :: x144_ :: x145_ :: x146_ :: x147_ :: x148_ :: x149_ :: x150_ :: x151_ :: x152_ :: x153_ :: x154_ :: x155_ :: x156_ :: x157_ :: x158_ :: x159_ :: x160_ :: x161_ :: x162_ :: x163_ :: x164_ :: x165_ :: x166_ :: x167_ :: x168_ :: x169_ :: x170_ :: x171_ :: x172_ :: x173_ :: x174_ :: x175_ :: x176_ :: x177_ :: x178_ :: x179_ :: x180_ :: x181_ :: x182_ :: x183_ :: x184_ :: x185_ :: x186_ :: x187_ :: x188_ :: x189_ :: x190_ :: x191_ :: x192_ :: x193_ :: x194_ :: x195_ :: undef :: undef :: undef :: undef :: undef :: undef :: undef :: undef :: undef :: undef :: undef :: undef :: undef :: undef :: undef :: undef :: undef :: undef :: undef :: undef :: undef :: undef :: undef :: undef :: undef :: undef :: undef :: undef :: undef :: undef :: undef :: undef :: undef :: undef :: undef :: undef :: undef :: undef :: undef :: undef :: undef :: undef :: undef :: undef :: undef :: undef :: undef :: undef :: undef :: undef :: undef :: undef :: undef :: undef :: undef :: undef :: undef :: undef :: undef :: undef :: undef :: undef :: undef :: undef :: undef :: undef :: undef :: undef :: undef :: undef :: undef :: undef :: undef :: undef :: undef :: undef :: undef :: undef :: undef :: undef :: undef :: undef :: undef :: undef :: undef :: undef :: undef :: undef :: undef :: undef :: undef :: undef :: undef :: undef :: undef :: undef :: undef :: undef :: undef :: []), []⟩ w33 := by
  intro Kst_ hst_
  conv => arg 2; whnf
  conv at hst_ => enter [a_, w_, 1, 2]; whnf
  have y0 := (M.out.2.1).c4; have p0_0 := y0.1; have q0_0 := y0.2.1; have p0_1 := y0.2.2.1; have q0_1 := y0.2.2.2.1; have p0_2 := y0.2.2.2.2.1; have q0_2 := y0.2.2.2.2.2.1; have p0_3 := y0.2.2.2.2.2.2.1; have q0_3 := y0.2.2.2.2.2.2.2; clear y0
  have y1 := (M.out.1).c4; have p1_0 := y1.1; have q1_0 := y1.2.1; have p1_1 := y1.2.2.1; have q1_1 := y1.2.2.2.1; have p1_2 := y1.2.2.2.2.1; have q1_2 := y1.2.2.2.2.2.1; have p1_3 := y1.2.2.2.2.2.2.1; have q1_3 := y1.2.2.2.2.2.2.2; clear y1
  go_wp2_with fail
  clear p0_0 q0_0 p0_1 q0_1 p0_2 q0_2 p0_3 q0_3 p1_0 q1_0 p1_1 q1_1 p1_2 q1_2 p1_3 q1_3
  refine (fracMin_is (G := G) (q := q) (r := r) (m := r) (Nat.le_trans hG (M.out.2.2).size) (H1.out.keep (M.out.2.2)) (H2.out.keep (M.out.2.2)) (Fz.mono HQ.out (by omega)) (Fz.mono HR.out (by omega)) HLO.out).mono ?_
  rintro e w34 ⟨a_61, c_62, b_63, d_64, rfl, hd65, hb⟩
  replace M := Lib.hid (And.intro hd65 (Goes.go M.out hb))
  clear hb hd65
  go_wp2_with fail
  refine (right_ok (G := G) (q := r) (M.out.1) (Fz.mono HR.out (by omega))).mono ?_
  rintro e w35 ⟨rfl, hb⟩
  replace M := Lib.hid (Goes.go M.out hb)
  clear hb
  go_upto_region 19 with fail
  obtain ⟨w36, hv⟩ : ∃ w_ : World, w_ = (w35.alloc (.cells #[.int .i64 (sg (nu r)), .slice a_61 (ln (nu r)) c_62, .int .i64 (sg (de r)), .slice b_63 (ln (de r)) d_64] 26)) := ⟨_, rfl⟩
  rw [← hv]
  have o8 : B1 < w35.heap.size := ((M.out.2.1)).lt
  replace M := Lib.hid (And.intro (hv ▸ bx1 w35 26 #[.int .i64 (sg (nu r)), .slice a_61 (ln (nu r)) c_62, .int .i64 (sg (de r)), .slice b_63 (ln (de r)) d_64]) (Goes.go M.out (hv ▸ below_alloc _ _ : Below w35.heap.size w35 w36)))
  clear hv
  have y0 := (M.out.2.2.2.1).c4; have p0_0 := y0.1; have q0_0 := y0.2.1; have p0_1 := y0.2.2.1; have q0_1 := y0.2.2.2.1; have p0_2 := y0.2.2.2.2.1; have q0_2 := y0.2.2.2.2.2.1; have p0_3 := y0.2.2.2.2.2.2.1; have q0_3 := y0.2.2.2.2.2.2.2; clear y0
  have y1 := (M.out.2.2.1).c4; have p1_0 := y1.1; have q1_0 := y1.2.1; have p1_1 := y1.2.2.1; have q1_1 := y1.2.2.2.1; have p1_2 := y1.2.2.2.2.1; have q1_2 := y1.2.2.2.2.2.1; have p1_3 := y1.2.2.2.2.2.2.1; have q1_3 := y1.2.2.2.2.2.2.2; clear y1
  go_wp2_with fail
  clear p0_0 q0_0 p0_1 q0_1 p0_2 q0_2 p0_3 q0_3 p1_0 q1_0 p1_1 q1_1 p1_2 q1_2 p1_3 q1_3
  refine (fracMax_is (G := G) (q := q) (r := r) (m := q) (Nat.le_trans hG (M.out.2.2.2.2).size) (H1.out.keep (M.out.2.2.2.2)) (H2.out.keep (M.out.2.2.2.2)) (Fz.mono HQ.out (by omega)) (Fz.mono HR.out (by omega)) HHI.out).mono ?_
  rintro e w37 ⟨a_66, c_67, b_68, d_69, rfl, hd70, hb⟩
  replace M := Lib.hid (And.intro hd70 (Goes.go M.out hb))
  clear hb hd70
  go_wp2_with fail
  refine (right_ok (G := G) (q := q) (M.out.1) (Fz.mono HQ.out (by omega))).mono ?_
  rintro e w38 ⟨rfl, hb⟩
  replace M := Lib.hid (Goes.go M.out hb)
  clear hb
  go_upto_region 20 with fail
  obtain ⟨w39, hv⟩ : ∃ w_ : World, w_ = (w38.alloc (.cells #[.int .i64 (sg (nu q)), .slice a_66 (ln (nu q)) c_67, .int .i64 (sg (de q)), .slice b_68 (ln (de q)) d_69] 26)) := ⟨_, rfl⟩
  rw [← hv]
  have o9 : w35.heap.size < w38.heap.size := ((M.out.2.1)).lt
  replace M := Lib.hid (And.intro (hv ▸ bx1 w38 26 #[.int .i64 (sg (nu q)), .slice a_66 (ln (nu q)) c_67, .int .i64 (sg (de q)), .slice b_68 (ln (de q)) d_69]) (Goes.go M.out (hv ▸ below_alloc _ _ : Below w38.heap.size w38 w39)))
  clear hv
  rename_i Kst_ hst_
  exact order_gt_s20 hG HQ HR HU wn wm hbz HBZ n1 n2 HK HK2 HK3 HSUB HSW HPL HTM HNG n3 n4 n5 HLO HHI HNE HT HM H1 H2 H3 (by omega) (by omega) (by omega) (by omega) M Kst_ hst_

set_option maxRecDepth 100000 in
set_option maxHeartbeats 4000000 in
theorem order_gt_s13 {k k2 k3 m : Int} {bz : Bool} {q r u : Rat} {a1 b1 a2 b2 a3 b3 : Option Addr} {c1 d1 c2 d2 c3 d3 : Nat} {w : World}  {w23 : World} {a_19 b_21 a_13 b_15 a_7 b_9 a_1 b_3 : Option Addr} {c_20 d_22 c_14 d_16 c_8 d_10 c_2 d_4 : Nat} {q23 q17 q11 q5 : Rat} {B0 B1 B2 B3 B4 B5 B6 : Nat} {x0_ x1_ x2_ x17_ x18_ x19_ x20_ x21_ x22_ x23_ x24_ x25_ x26_ x27_ x28_ x29_ x30_ x31_ x32_ x33_ x34_ x35_ x36_ x37_ x38_ x39_ x40_ x41_ x42_ x43_ x44_ x45_ x46_ x47_ x48_ x49_ x50_ x51_ x52_ x53_ x54_ x55_ x56_ x57_ x58_ x59_ x60_ x61_ x62_ x63_ x64_ x65_ x66_ x67_ x68_ x69_ x70_ x71_ x72_ x73_ x74_ x75_ x76_ x77_ x78_ x79_ x80_ x81_ x82_ x83_ x84_ x85_ x86_ x87_ x88_ x89_ x90_ x91_ x92_ x93_ x94_ x95_ x96_ x97_ x98_ x99_ x100_ x101_ x102_ x103_ x104_ x105_ x106_ x107_ x108_ x109_ x110_ x111_ x112_ x113_ x114_ x115_ x116_ x117_ x118_ x119_ x120_ x121_ x122_ x123_ x124_ x125_ x126_ x127_ x128_ x129_ : Value} (hG : G ≤ w.heap.size) (HQ : Hid (Fz q 12)) (HR : Hid (Fz r 12)) (HU : Hid (Fz u 12)) (wn : IntKind.i64.wrap (-k) = -k) (wm : IntKind.i64.wrap (k * sg (nu u)) = m) (hbz : (k == 0) = bz) (HBZ : Hid (decide (q = r) = bz)) (n1 : decide (k < -1) = false) (n2 : decide (1 < k) = false) (HK : Hid (ordQ q r = k)) (HK2 : Hid (ordQ r u = k2)) (HK3 : Hid (ordQ q u = k3)) (HSUB : Hid (sg (nu (q - r)) = k)) (HSW : Hid (ordQ r q = -k)) (HPL : Hid (ordQ (q + u) (r + u) = k)) (HTM : Hid (ordQ (q * u) (r * u) = m)) (HNG : Hid (ordQ (-q) (-r) = -k)) (n3 : decide (-k ≤ 0) = true) (n4 : decide (k ≤ 0) = false) (n5 : decide (0 ≤ k) = true) (HLO : Hid (pick q r (-1) = r)) (HHI : Hid (pick q r 1 = q)) (HNE : Hid (¬ r = q)) (HT : Hid (Tab w)) (HM : Hid (Mx w)) (H1 : Hid (FD G w a1 c1 b1 d1 q)) (H2 : Hid (FD G w a2 c2 b2 d2 r)) (H3 : Hid (FD G w a3 c3 b3 d3 u)) (Eq23 : Hid (q23 = ((q * u)))) (Sq23 : Hid (Fz q23 24)) (Eq17 : Hid (q17 = ((r + u)))) (Sq17 : Hid (Fz q17 25)) (Eq11 : Hid (q11 = (((q + u))))) (Sq11 : Hid (Fz q11 25)) (Eq5 : Hid (q5 = (((q - r))))) (Sq5 : Hid (Fz q5 25)) (nsq5 : (sg (nu q5) != k) = false) (oB0 : w.heap.size ≤ B0) (oB1 : B0 < B1) (_oB2 : B1 < B2) (_oB3 : B2 < B3) (_oB4 : B3 < B4) (_oB5 : B4 < B5) (_oB6 : B5 < B6) (M : Hid (Bx w23 B6 26 #[.int .i64 (sg (nu q23)), .slice a_19 (ln (nu q23)) c_20, .int .i64 (sg (de q23)), .slice b_21 (ln (de q23)) d_22] ∧ FD G w23 a_19 c_20 b_21 d_22 q23 ∧ Bx w23 B5 26 #[.int .i64 (sg (nu q17)), .slice a_13 (ln (nu q17)) c_14, .int .i64 (sg (de q17)), .slice b_15 (ln (de q17)) d_16] ∧ FD G w23 a_13 c_14 b_15 d_16 q17 ∧ Bx w23 B4 26 #[.int .i64 (sg (nu q11)), .slice a_7 (ln (nu q11)) c_8, .int .i64 (sg (de q11)), .slice b_9 (ln (de q11)) d_10] ∧ FD G w23 a_7 c_8 b_9 d_10 q11 ∧ Bx w23 B3 26 #[.int .i64 (sg (nu q5)), .slice a_1 (ln (nu q5)) c_2, .int .i64 (sg (de q5)), .slice b_3 (ln (de q5)) d_4] ∧ FD G w23 a_1 c_2 b_3 d_4 q5 ∧ Bx w23 B2 26 #[.int .i64 (sg (nu u)), .slice a3 (ln (nu u)) c3, .int .i64 (sg (de u)), .slice b3 (ln (de u)) d3] ∧ Bx w23 B1 26 #[.int .i64 (sg (nu r)), .slice a2 (ln (nu r)) c2, .int .i64 (sg (de r)), .slice b2 (ln (de r)) d2] ∧ Bx w23 B0 26 #[.int .i64 (sg (nu q)), .slice a1 (ln (nu q)) c1, .int .i64 (sg (de q)), .slice b1 (ln (de q)) d1] ∧ Below w.heap.size w w23)) :
    ∀ K : Act → World → Prop, (∀ a_ w_, Code.wp Tryz.prog (restAt Tryz.f5 13) (bodyPost Tryz.prog Tryz.f5 fun e w' => e = .returned (.bool true) ∧ Below w.heap.size w w') a_ w_ → K a_ w_) → Code.wp Tryz.prog (regAt Tryz.f5 13) (Exit.then K (bodyPost Tryz.prog Tryz.f5 fun e w' => e = .returned (.bool true) ∧ Below w.heap.size w w')) ⟨List.toArray (x0_ :: x1_ :: x2_ :: .pointer (some ⟨B0, 0, none⟩) :: .pointer (some ⟨B1, 0, none⟩) :: .pointer (some ⟨B2, 0, none⟩) :: .bool false :: .bool true :: .int .i64 k :: .pointer (some ⟨B3, 0, none⟩) :: .bool true :: .pointer (some ⟨B4, 0, none⟩) :: .bool true :: .pointer (some ⟨B5, 0, none⟩) :: .bool true :: .pointer (some ⟨B6, 0, none⟩) :: .bool true :: x17_ :: x18_ :: x19_ :: x20_ :: x21_ :: x22_ :: x23_ :: x24_ :: x25_ :: x26_ :: x27_ :: x28_ :: x29_ :: x30_ :: x31_ :: x32_ :: x33_ :: x34_ :: x35_ :: x36_ :: x37_ :: x38_ :: x39_ :: x40_ :: x41_ :: x42_ :: x43_ :: x44_ :: x45_ :: x46_ :: x47_ :: x48_ :: x49_ :: x50_ :: x51_ :: x52_ :: x53_ :: x54_ :: x55_ :: x56_ :: x57_ :: x58_ :: x59_ :: x60_ :: x61_ :: x62_ :: x63_ :: x64_ :: x65_ :: x66_ :: x67_ :: x68_ :: x69_ :: x70_ :: x71_ :: x72_ :: x73_ :: x74_ :: x75_ :: x76_ :: x77_ :: x78_ :: x79_ :: x80_ :: x81_ :: x82_ :: x83_ :: x84_ :: x85_ :: x86_ :: x87_ :: x88_ :: x89_ :: x90_ :: x91_ :: x92_ :: x93_ :: x94_ :: x95_ :: x96_ :: x97_ :: x98_ :: x99_ :: x100_ :: x101_ :: x102_ :: x103_ :: x104_ :: x105_ :: x106_ :: x107_ :: x108_ :: x109_ :: x110_ :: x111_ :: x112_ :: x113_ :: x114_ :: x115_ :: x116_ :: x117_ :: x118_ :: x119_ :: x120_ :: x121_ :: x122_ :: x123_ :: x124_ :: x125_ :: x126_ :: x127_ :: x128_ :: x129_ :: undef :: undef :: undef :: undef :: undef :: undef :: undef :: undef :: undef :: undef :: undef :: undef :: undef :: undef :: undef :: undef :: undef :: undef :: undef :: undef :: undef :: undef :: undef :: undef :: undef :: undef :: undef :: undef :: undef :: undef :: undef :: undef :: undef :: undef :: undef :: undef :: undef :: undef :: undef :: undef :: undef :: undef :: undef :: undef :: undef :: undef :: undef :: undef :: undef :: undef :: undef :: undef :: undef :: undef :: undef :: undef :: undef :: undef :: undef :: undef :: undef :: undef :: undef :: undef :: undef :: undef :: undef :: undef :: undef :: undef :: undef :: undef :: undef :: undef :: undef :: undef :: undef :: undef :: undef :: undef :: undef :: undef :: undef :: undef :: undef :: undef :: undef :: undef :: undef :: undef :: undef :: undef :: undef :: undef :: undef :: undef :: undef :: undef :: undef :: undef :: undef :: undef :: undef :: undef :: undef :: undef :: undef :: undef :: undef :: undef :: undef :: undef :: undef :: undef :: undef :: undef :: undef :: undef :: undef :: undef :: undef :: undef :: undef :: undef :: undef :: undef :: undef :: undef :: undef :: undef :: undef :: undef :: undef :: undef :: undef :: undef :: undef :: undef :: undef :: undef :: undef :: undef :: undef :: undef :: undef :: undef :: undef :: undef :: undef :: undef :: undef :: undef :: undef :: undef :: undef :: undef :: undef :: undef :: undef :: undef :: undef :: undef :: undef :: undef :: undef :: []), []⟩ w23 := by
  intro Kst_ hst_
  conv => arg 2; whnf
  conv at hst_ => enter [a_, w_, 1, 2]; whnf
  have y1 := (M.out.2.2.2.2.2.2.2.2.2.1).c4; have p1_0 := y1.1; have q1_0 := y1.2.1; have p1_1 := y1.2.2.1; have q1_1 := y1.2.2.2.1; have p1_2 := y1.2.2.2.2.1; have q1_2 := y1.2.2.2.2.2.1; have p1_3 := y1.2.2.2.2.2.2.1; have q1_3 := y1.2.2.2.2.2.2.2; clear y1
  have y2 := (M.out.2.2.2.2.2.2.2.2.1).c4; have p2_0 := y2.1; have q2_0 := y2.2.1; have p2_1 := y2.2.2.1; have q2_1 := y2.2.2.2.1; have p2_2 := y2.2.2.2.2.1; have q2_2 := y2.2.2.2.2.2.1; have p2_3 := y2.2.2.2.2.2.2.1; have q2_3 := y2.2.2.2.2.2.2.2; clear y2
  go_wp2_with fail
  clear p1_0 q1_0 p1_1 q1_1 p1_2 q1_2 p1_3 q1_3 p2_0 q2_0 p2_1 q2_1 p2_2 q2_2 p2_3 q2_3
  obtain ⟨q29, eq29⟩ : ∃ v_ : Rat, v_ = (r * u) := ⟨_, rfl⟩
  refine (fracMul_ok (G := G) (q := r) (r := u) (Nat.le_trans hG (M.out.2.2.2.2.2.2.2.2.2.2.2).size) (H2.out.keep (M.out.2.2.2.2.2.2.2.2.2.2.2)) (H3.out.keep (M.out.2.2.2.2.2.2.2.2.2.2.2)) (Fz.mono HR.out (by omega)) (Fz.mono HU.out (by omega))).mono ?_
  rintro e w24 ⟨a_25, c_26, b_27, d_28, rfl, hd30, hb⟩
  rw [← eq29] at hd30 ⊢
  have Sq29 : Hid (Fz q29 24) := by show Fz q29 24; rw [eq29]; exact (Fz.mul HR.out HU.out)
  have Eq29 := Lib.hid eq29; clear eq29
  replace M := Lib.hid (And.intro hd30 (Goes.go M.out hb))
  clear hb hd30
  go_wp2_with fail
  refine (right_ok (G := G) (q := q29) (M.out.1) (Fz.mono Sq29.out (by omega))).mono ?_
  rintro e w25 ⟨rfl, hb⟩
  replace M := Lib.hid (Goes.go M.out hb)
  clear hb
  go_upto_region 14 with fail
  obtain ⟨w26, hv⟩ : ∃ w_ : World, w_ = (w25.alloc (.cells #[.int .i64 (sg (nu q29)), .slice a_25 (ln (nu q29)) c_26, .int .i64 (sg (de q29)), .slice b_27 (ln (de q29)) d_28] 26)) := ⟨_, rfl⟩
  rw [← hv]
  have o7 : B6 < w25.heap.size := ((M.out.2.1)).lt
  replace M := Lib.hid (And.intro (hv ▸ bx1 w25 26 #[.int .i64 (sg (nu q29)), .slice a_25 (ln (nu q29)) c_26, .int .i64 (sg (de q29)), .slice b_27 (ln (de q29)) d_28]) (Goes.go M.out (hv ▸ below_alloc _ _ : Below w25.heap.size w25 w26)))
  clear hv
  have y3 := (M.out.2.2.2.2.2.2.2.2.1).c4; have p3_0 := y3.1; have q3_0 := y3.2.1; have p3_1 := y3.2.2.1; have q3_1 := y3.2.2.2.1; have p3_2 := y3.2.2.2.2.1; have q3_2 := y3.2.2.2.2.2.1; have p3_3 := y3.2.2.2.2.2.2.1; have q3_3 := y3.2.2.2.2.2.2.2; clear y3
  have y4 := (M.out.2.2.2.2.2.2.1).c4; have p4_0 := y4.1; have q4_0 := y4.2.1; have p4_1 := y4.2.2.1; have q4_1 := y4.2.2.2.1; have p4_2 := y4.2.2.2.2.1; have q4_2 := y4.2.2.2.2.2.1; have p4_3 := y4.2.2.2.2.2.2.1; have q4_3 := y4.2.2.2.2.2.2.2; clear y4
  have y5 := (M.out.2.2.2.2.1).c4; have p5_0 := y5.1; have q5_0 := y5.2.1; have p5_1 := y5.2.2.1; have q5_1 := y5.2.2.2.1; have p5_2 := y5.2.2.2.2.1; have q5_2 := y5.2.2.2.2.2.1; have p5_3 := y5.2.2.2.2.2.2.1; have q5_3 := y5.2.2.2.2.2.2.2; clear y5
  go_wp2_with fail
  clear p3_0 q3_0 p3_1 q3_1 p3_2 q3_2 p3_3 q3_3 p4_0 q4_0 p4_1 q4_1 p4_2 q4_2 p4_3 q4_3 p5_0 q5_0 p5_1 q5_1 p5_2 q5_2 p5_3 q5_3
  refine (fracCompare_is (G := G) (q := q11) (r := q17) (k := k) (M.out.2.2.2.2.2.2.2.1) (M.out.2.2.2.2.2.1) (Fz.mono Sq11.out (by omega)) (Fz.mono Sq17.out (by omega)) (by rw [Eq17.out, Eq11.out]; exact HPL.out)).mono ?_
  rintro e w27 ⟨rfl, hb⟩
  replace M := Lib.hid (Goes.go M.out hb)
  clear hb
  go_wp2_with fail
  replace M := Lib.hid (And.intro (M.out.1) (And.intro (M.out.2.1) (And.intro (M.out.2.2.1) (And.intro (M.out.2.2.2.1) (And.intro (M.out.2.2.2.2.2.2.2.2.1) (And.intro (M.out.2.2.2.2.2.2.2.2.2.1) (And.intro (M.out.2.2.2.2.2.2.2.2.2.2.1) (And.intro (M.out.2.2.2.2.2.2.2.2.2.2.2.1) (And.intro (M.out.2.2.2.2.2.2.2.2.2.2.2.2.1) (M.out.2.2.2.2.2.2.2.2.2.2.2.2.2))))))))))
  obtain ⟨w28, hv⟩ : ∃ w_ : World, w_ = w27.drew := ⟨_, rfl⟩
  replace M := Lib.hid (Goes.go M.out (hv ▸ below_drew _ : Below w27.heap.size w27 w28))
  refine wp_region_held_drew (S := (fun w' => w'.cell? ⟨B0, 0, none⟩ = some (.int .i64 (sg (nu q))) ∧ w'.cell? ⟨B0, 1, none⟩ = some (.slice a1 (ln (nu q)) c1) ∧ w'.cell? ⟨B0, 2, none⟩ = some (.int .i64 (sg (de q))) ∧ w'.cell? ⟨B0, 3, none⟩ = some (.slice b1 (ln (de q)) d1) ∧ w'.cell? ⟨B1, 0, none⟩ = some (.int .i64 (sg (nu r))) ∧ w'.cell? ⟨B1, 1, none⟩ = some (.slice a2 (ln (nu r)) c2) ∧ w'.cell? ⟨B1, 2, none⟩ = some (.int .i64 (sg (de r))) ∧ w'.cell? ⟨B1, 3, none⟩ = some (.slice b2 (ln (de r)) d2) ∧ w'.cell? ⟨B2, 0, none⟩ = some (.int .i64 (sg (nu u))) ∧ w'.cell? ⟨B2, 1, none⟩ = some (.slice a3 (ln (nu u)) c3) ∧ w'.cell? ⟨B2, 2, none⟩ = some (.int .i64 (sg (de u))) ∧ w'.cell? ⟨B2, 3, none⟩ = some (.slice b3 (ln (de u)) d3) ∧ w'.cell? ⟨B3, 0, none⟩ = some (.int .i64 (sg (nu q5))) ∧ w'.cell? ⟨B3, 1, none⟩ = some (.slice a_1 (ln (nu q5)) c_2) ∧ w'.cell? ⟨B3, 2, none⟩ = some (.int .i64 (sg (de q5))) ∧ w'.cell? ⟨B3, 3, none⟩ = some (.slice b_3 (ln (de q5)) d_4) ∧ w'.cell? ⟨B6, 0, none⟩ = some (.int .i64 (sg (nu q23))) ∧ w'.cell? ⟨B6, 1, none⟩ = some (.slice a_19 (ln (nu q23)) c_20) ∧ w'.cell? ⟨B6, 2, none⟩ = some (.int .i64 (sg (de q23))) ∧ w'.cell? ⟨B6, 3, none⟩ = some (.slice b_21 (ln (de q23)) d_22) ∧ w'.cell? ⟨w25.heap.size, 0, none⟩ = some (.int .i64 (sg (nu q29))) ∧ w'.cell? ⟨w25.heap.size, 1, none⟩ = some (.slice a_25 (ln (nu q29)) c_26) ∧ w'.cell? ⟨w25.heap.size, 2, none⟩ = some (.int .i64 (sg (de q29))) ∧ w'.cell? ⟨w25.heap.size, 3, none⟩ = some (.slice b_27 (ln (de q29)) d_28))) (by kernel_rfl) (by rw [← hv]; exact ⟨(M.out.2.2.2.2.2.2.2.2.1).at.1 0, (M.out.2.2.2.2.2.2.2.2.1).at.1 1, (M.out.2.2.2.2.2.2.2.2.1).at.1 2, (M.out.2.2.2.2.2.2.2.2.1).at.1 3, (M.out.2.2.2.2.2.2.2.1).at.1 0, (M.out.2.2.2.2.2.2.2.1).at.1 1, (M.out.2.2.2.2.2.2.2.1).at.1 2, (M.out.2.2.2.2.2.2.2.1).at.1 3, (M.out.2.2.2.2.2.2.1).at.1 0, (M.out.2.2.2.2.2.2.1).at.1 1, (M.out.2.2.2.2.2.2.1).at.1 2, (M.out.2.2.2.2.2.2.1).at.1 3, (M.out.2.2.2.2.1).at.1 0, (M.out.2.2.2.2.1).at.1 1, (M.out.2.2.2.2.1).at.1 2, (M.out.2.2.2.2.1).at.1 3, (M.out.2.2.1).at.1 0, (M.out.2.2.1).at.1 1, (M.out.2.2.1).at.1 2, (M.out.2.2.1).at.1 3, (M.out.1).at.1 0, (M.out.1).at.1 1, (M.out.1).at.1 2, (M.out.1).at.1 3⟩) (fun hH43 => ?_)
  rw [← hv] at hH43 ⊢
  clear hv
  refine tk at0 ?_
  refine tk at1 ?_
  refine tk at3 ?_
  refine tk at4 ?_
  refine tk at5 ?_
  refine tk at6 ?_
  refine tk at7 ?_
  refine wpAnyH_ready (rs := [2]) (by kernel_rfl) (by simp) ?_
  refine AllReadyH.cons at2 (fun K hK => ?_) AllReadyH.nil
  go_simp
  refine (fracCompare_is (G := G) (q := q23) (r := q29) (k := m) (M.out.2.2.2.1) (M.out.2.1) (Fz.mono Sq23.out (by omega)) (Fz.mono Sq29.out (by omega)) (by rw [Eq29.out, Eq23.out]; exact HTM.out)).mono ?_
  rintro e w29 ⟨rfl, hb⟩
  replace M := Lib.hid (Goes.go M.out hb)
  clear hb
  (try go_wp2_with fail)
  refine hK.out _ _ (⟨(M.out.2.2.2.2.2.2.2.2.1).at.1 0, (M.out.2.2.2.2.2.2.2.2.1).at.1 1, (M.out.2.2.2.2.2.2.2.2.1).at.1 2, (M.out.2.2.2.2.2.2.2.2.1).at.1 3, (M.out.2.2.2.2.2.2.2.1).at.1 0, (M.out.2.2.2.2.2.2.2.1).at.1 1, (M.out.2.2.2.2.2.2.2.1).at.1 2, (M.out.2.2.2.2.2.2.2.1).at.1 3, (M.out.2.2.2.2.2.2.1).at.1 0, (M.out.2.2.2.2.2.2.1).at.1 1, (M.out.2.2.2.2.2.2.1).at.1 2, (M.out.2.2.2.2.2.2.1).at.1 3, (M.out.2.2.2.2.1).at.1 0, (M.out.2.2.2.2.1).at.1 1, (M.out.2.2.2.2.1).at.1 2, (M.out.2.2.2.2.1).at.1 3, (M.out.2.2.1).at.1 0, (M.out.2.2.1).at.1 1, (M.out.2.2.1).at.1 2, (M.out.2.2.1).at.1 3, (M.out.1).at.1 0, (M.out.1).at.1 1, (M.out.1).at.1 2, (M.out.1).at.1 3⟩) (fun hH44 => ?_)
  clear hK K hH43
  (try simp only [Act.put, List.setIfInBounds_toArray, List.set_cons_zero, List.set_cons_succ])
  refine tk at8 ?_
  refine tk at9 ?_
  refine tk at10 ?_
  refine tk at12 ?_
  refine tk at15 ?_
  refine tk at16 ?_
  refine wpAnyH_ready (rs := [11]) (by kernel_rfl) (by simp) ?_
  refine AllReadyH.cons at11 (fun K hK => ?_) AllReadyH.nil
  go_simp
  obtain ⟨q49, eq49⟩ : ∃ v_ : Rat, v_ = (-q) := ⟨_, rfl⟩
  refine (fracNeg_ok (G := G) (q := q) (Nat.le_trans hG (M.out.2.2.2.2.2.2.2.2.2).size) (H1.out.keep (M.out.2.2.2.2.2.2.2.2.2)) (Fz.mono HQ.out (by omega))).mono ?_
  rintro e w30 ⟨a_45, c_46, b_47, d_48, rfl, hd50, hb⟩
  rw [← eq49] at hd50 ⊢
  have Sq49 : Hid (Fz q49 12) := by show Fz q49 12; rw [eq49]; exact (Fz.neg HQ.out)
  have Eq49 := Lib.hid eq49; clear eq49
  replace M := Lib.hid (And.intro hd50 (Goes.go M.out hb))
  clear hb hd50
  (try go_wp2_with fail)
  refine hK.out _ _ (⟨(M.out.2.2.2.2.2.2.2.2.2.1).at.1 0, (M.out.2.2.2.2.2.2.2.2.2.1).at.1 1, (M.out.2.2.2.2.2.2.2.2.2.1).at.1 2, (M.out.2.2.2.2.2.2.2.2.2.1).at.1 3, (M.out.2.2.2.2.2.2.2.2.1).at.1 0, (M.out.2.2.2.2.2.2.2.2.1).at.1 1, (M.out.2.2.2.2.2.2.2.2.1).at.1 2, (M.out.2.2.2.2.2.2.2.2.1).at.1 3, (M.out.2.2.2.2.2.2.2.1).at.1 0, (M.out.2.2.2.2.2.2.2.1).at.1 1, (M.out.2.2.2.2.2.2.2.1).at.1 2, (M.out.2.2.2.2.2.2.2.1).at.1 3, (M.out.2.2.2.2.2.1).at.1 0, (M.out.2.2.2.2.2.1).at.1 1, (M.out.2.2.2.2.2.1).at.1 2, (M.out.2.2.2.2.2.1).at.1 3, (M.out.2.2.2.1).at.1 0, (M.out.2.2.2.1).at.1 1, (M.out.2.2.2.1).at.1 2, (M.out.2.2.2.1).at.1 3, (M.out.2.1).at.1 0, (M.out.2.1).at.1 1, (M.out.2.1).at.1 2, (M.out.2.1).at.1 3⟩) (fun hH51 => ?_)
  clear hK K hH44
  (try simp only [Act.put, List.setIfInBounds_toArray, List.set_cons_zero, List.set_cons_succ])
  refine wpAnyH_ready (rs := [13]) (by kernel_rfl) (by simp) ?_
  refine AllReadyH.cons at13 (fun K hK => ?_) AllReadyH.nil
  go_simp
  obtain ⟨q56, eq56⟩ : ∃ v_ : Rat, v_ = (-r) := ⟨_, rfl⟩
  refine (fracNeg_ok (G := G) (q := r) (Nat.le_trans hG (M.out.2.2.2.2.2.2.2.2.2.2).size) (H2.out.keep (M.out.2.2.2.2.2.2.2.2.2.2)) (Fz.mono HR.out (by omega))).mono ?_
  rintro e w31 ⟨a_52, c_53, b_54, d_55, rfl, hd57, hb⟩
  rw [← eq56] at hd57 ⊢
  have Sq56 : Hid (Fz q56 12) := by show Fz q56 12; rw [eq56]; exact (Fz.neg HR.out)
  have Eq56 := Lib.hid eq56; clear eq56
  replace M := Lib.hid (And.intro hd57 (Goes.go M.out hb))
  clear hb hd57
  (try go_wp2_with fail)
  refine hK.out _ _ (⟨(M.out.2.2.2.2.2.2.2.2.2.2.1).at.1 0, (M.out.2.2.2.2.2.2.2.2.2.2.1).at.1 1, (M.out.2.2.2.2.2.2.2.2.2.2.1).at.1 2, (M.out.2.2.2.2.2.2.2.2.2.2.1).at.1 3, (M.out.2.2.2.2.2.2.2.2.2.1).at.1 0, (M.out.2.2.2.2.2.2.2.2.2.1).at.1 1, (M.out.2.2.2.2.2.2.2.2.2.1).at.1 2, (M.out.2.2.2.2.2.2.2.2.2.1).at.1 3, (M.out.2.2.2.2.2.2.2.2.1).at.1 0, (M.out.2.2.2.2.2.2.2.2.1).at.1 1, (M.out.2.2.2.2.2.2.2.2.1).at.1 2, (M.out.2.2.2.2.2.2.2.2.1).at.1 3, (M.out.2.2.2.2.2.2.1).at.1 0, (M.out.2.2.2.2.2.2.1).at.1 1, (M.out.2.2.2.2.2.2.1).at.1 2, (M.out.2.2.2.2.2.2.1).at.1 3, (M.out.2.2.2.2.1).at.1 0, (M.out.2.2.2.2.1).at.1 1, (M.out.2.2.2.2.1).at.1 2, (M.out.2.2.2.2.1).at.1 3, (M.out.2.2.1).at.1 0, (M.out.2.2.1).at.1 1, (M.out.2.2.1).at.1 2, (M.out.2.2.1).at.1 3⟩) (fun hH58 => ?_)
  clear hK K hH51
  (try simp only [Act.put, List.setIfInBounds_toArray, List.set_cons_zero, List.set_cons_succ])
  refine wpAnyH_ready (rs := [14]) (by kernel_rfl) (by simp) ?_
  refine AllReadyH.cons at14 (fun K hK => ?_) AllReadyH.nil
  go_simp
  refine (fracCompare_is (G := G) (q := q49) (r := q56) (k := (-k)) (M.out.2.1) (M.out.1) (Fz.mono Sq49.out (by omega)) (Fz.mono Sq56.out (by omega)) (by rw [Eq56.out, Eq49.out]; exact HNG.out)).mono ?_
  rintro e w32 ⟨rfl, hb⟩
  replace M := Lib.hid (Goes.go M.out hb)
  clear hb
  (try go_wp2_with fail)
  refine hK.out _ _ (⟨(M.out.2.2.2.2.2.2.2.2.2.2.1).at.1 0, (M.out.2.2.2.2.2.2.2.2.2.2.1).at.1 1, (M.out.2.2.2.2.2.2.2.2.2.2.1).at.1 2, (M.out.2.2.2.2.2.2.2.2.2.2.1).at.1 3, (M.out.2.2.2.2.2.2.2.2.2.1).at.1 0, (M.out.2.2.2.2.2.2.2.2.2.1).at.1 1, (M.out.2.2.2.2.2.2.2.2.2.1).at.1 2, (M.out.2.2.2.2.2.2.2.2.2.1).at.1 3, (M.out.2.2.2.2.2.2.2.2.1).at.1 0, (M.out.2.2.2.2.2.2.2.2.1).at.1 1, (M.out.2.2.2.2.2.2.2.2.1).at.1 2, (M.out.2.2.2.2.2.2.2.2.1).at.1 3, (M.out.2.2.2.2.2.2.1).at.1 0, (M.out.2.2.2.2.2.2.1).at.1 1, (M.out.2.2.2.2.2.2.1).at.1 2, (M.out.2.2.2.2.2.2.1).at.1 3, (M.out.2.2.2.2.1).at.1 0, (M.out.2.2.2.2.1).at.1 1, (M.out.2.2.2.2.1).at.1 2, (M.out.2.2.2.2.1).at.1 3, (M.out.2.2.1).at.1 0, (M.out.2.2.1).at.1 1, (M.out.2.2.1).at.1 2, (M.out.2.2.1).at.1 3⟩) (fun hH59 => ?_)
  clear hK K hH58
  (try simp only [Act.put, List.setIfInBounds_toArray, List.set_cons_zero, List.set_cons_succ])
  refine tk at17 ?_
  refine tk at18 ?_
  refine tk at19 ?_
  refine tk at20 ?_
  refine tk at22 ?_
  refine wpAnyH_ready (rs := [21]) (by kernel_rfl) (by simp) ?_
  refine AllReadyH.cons at21 (fun K hK => ?_) AllReadyH.nil
  go_simp
  refine (fracSign_is (G := G) (q := q5) (k := k) (Nat.le_trans hG (M.out.2.2.2.2.2.2.2.2.2.2.2).size) (M.out.2.2.2.2.2.2.2.1) (Fz.mono Sq5.out (by omega)) (by rw [Eq5.out]; exact HSUB.out)).mono ?_
  rintro e w33 ⟨rfl, hb⟩
  replace M := Lib.hid (Goes.go M.out hb)
  clear hb
  (try go_wp2_with fail)
  refine hK.out _ _ (⟨(M.out.2.2.2.2.2.2.2.2.2.2.1).at.1 0, (M.out.2.2.2.2.2.2.2.2.2.2.1).at.1 1, (M.out.2.2.2.2.2.2.2.2.2.2.1).at.1 2, (M.out.2.2.2.2.2.2.2.2.2.2.1).at.1 3, (M.out.2.2.2.2.2.2.2.2.2.1).at.1 0, (M.out.2.2.2.2.2.2.2.2.2.1).at.1 1, (M.out.2.2.2.2.2.2.2.2.2.1).at.1 2, (M.out.2.2.2.2.2.2.2.2.2.1).at.1 3, (M.out.2.2.2.2.2.2.2.2.1).at.1 0, (M.out.2.2.2.2.2.2.2.2.1).at.1 1, (M.out.2.2.2.2.2.2.2.2.1).at.1 2, (M.out.2.2.2.2.2.2.2.2.1).at.1 3, (M.out.2.2.2.2.2.2.1).at.1 0, (M.out.2.2.2.2.2.2.1).at.1 1, (M.out.2.2.2.2.2.2.1).at.1 2, (M.out.2.2.2.2.2.2.1).at.1 3, (M.out.2.2.2.2.1).at.1 0, (M.out.2.2.2.2.1).at.1 1, (M.out.2.2.2.2.1).at.1 2, (M.out.2.2.2.2.1).at.1 3, (M.out.2.2.1).at.1 0, (M.out.2.2.1).at.1 1, (M.out.2.2.1).at.1 2, (M.out.2.2.1).at.1 3⟩) (fun hH60 => ?_)
  clear hK K hH59
  (try simp only [Act.put, List.setIfInBounds_toArray, List.set_cons_zero, List.set_cons_succ])
  refine tk at23 ?_
  refine tk at24 ?_
  refine wpAnyH_done (by kernel_rfl) ?_ _
  clear hH60
  go_upto_region 18 with fail
  replace M := Lib.hid (And.intro (M.out.2.2.2.2.2.2.2.2.2.1) (And.intro (M.out.2.2.2.2.2.2.2.2.2.2.1) (M.out.2.2.2.2.2.2.2.2.2.2.2)))
  rename_i Kst_ hst_
  exact order_gt_s18 hG HQ HR HU wn wm hbz HBZ n1 n2 HK HK2 HK3 HSUB HSW HPL HTM HNG n3 n4 n5 HLO HHI HNE HT HM H1 H2 H3 (by omega) (by omega) M Kst_ hst_

set_option maxRecDepth 100000 in
set_option maxHeartbeats 4000000 in
theorem order_gt_s11 {k k2 k3 m : Int} {bz : Bool} {q r u : Rat} {a1 b1 a2 b2 a3 b3 : Option Addr} {c1 d1 c2 d2 c3 d3 : Nat} {w : World}  {w17 : World} {a_7 b_9 a_1 b_3 : Option Addr} {c_8 d_10 c_2 d_4 : Nat} {q11 q5 : Rat} {B0 B1 B2 B3 B4 : Nat} {x0_ x1_ x2_ x13_ x14_ x15_ x16_ x17_ x18_ x19_ x20_ x21_ x22_ x23_ x24_ x25_ x26_ x27_ x28_ x29_ x30_ x31_ x32_ x33_ x34_ x35_ x36_ x37_ x38_ x39_ x40_ x41_ x42_ x43_ x44_ x45_ x46_ x47_ x48_ x49_ x50_ x51_ x52_ x53_ x54_ x55_ x56_ x57_ x58_ x59_ x60_ x61_ x62_ x63_ x64_ x65_ x66_ x67_ x68_ x69_ x70_ x71_ x72_ x73_ x74_ x75_ x76_ x77_ x78_ x79_ x80_ x81_ x82_ x83_ x84_ x85_ x86_ x87_ x88_ x89_ x90_ x91_ x92_ x93_ x94_ x95_ x96_ x97_ x98_ x99_ x100_ x101_ x102_ x103_ x104_ x105_ x106_ x107_ x108_ x109_ x110_ x111_ : Value} (hG : G ≤ w.heap.size) (HQ : Hid (Fz q 12)) (HR : Hid (Fz r 12)) (HU : Hid (Fz u 12)) (wn : IntKind.i64.wrap (-k) = -k) (wm : IntKind.i64.wrap (k * sg (nu u)) = m) (hbz : (k == 0) = bz) (HBZ : Hid (decide (q = r) = bz)) (n1 : decide (k < -1) = false) (n2 : decide (1 < k) = false) (HK : Hid (ordQ q r = k)) (HK2 : Hid (ordQ r u = k2)) (HK3 : Hid (ordQ q u = k3)) (HSUB : Hid (sg (nu (q - r)) = k)) (HSW : Hid (ordQ r q = -k)) (HPL : Hid (ordQ (q + u) (r + u) = k)) (HTM : Hid (ordQ (q * u) (r * u) = m)) (HNG : Hid (ordQ (-q) (-r) = -k)) (n3 : decide (-k ≤ 0) = true) (n4 : decide (k ≤ 0) = false) (n5 : decide (0 ≤ k) = true) (HLO : Hid (pick q r (-1) = r)) (HHI : Hid (pick q r 1 = q)) (HNE : Hid (¬ r = q)) (HT : Hid (Tab w)) (HM : Hid (Mx w)) (H1 : Hid (FD G w a1 c1 b1 d1 q)) (H2 : Hid (FD G w a2 c2 b2 d2 r)) (H3 : Hid (FD G w a3 c3 b3 d3 u)) (Eq11 : Hid (q11 = ((q + u)))) (Sq11 : Hid (Fz q11 25)) (Eq5 : Hid (q5 = ((q - r)))) (Sq5 : Hid (Fz q5 25)) (nsq5 : (sg (nu q5) != k) = false) (oB0 : w.heap.size ≤ B0) (oB1 : B0 < B1) (oB2 : B1 < B2) (oB3 : B2 < B3) (oB4 : B3 < B4) (M : Hid (Bx w17 B4 26 #[.int .i64 (sg (nu q11)), .slice a_7 (ln (nu q11)) c_8, .int .i64 (sg (de q11)), .slice b_9 (ln (de q11)) d_10] ∧ FD G w17 a_7 c_8 b_9 d_10 q11 ∧ Bx w17 B3 26 #[.int .i64 (sg (nu q5)), .slice a_1 (ln (nu q5)) c_2, .int .i64 (sg (de q5)), .slice b_3 (ln (de q5)) d_4] ∧ FD G w17 a_1 c_2 b_3 d_4 q5 ∧ Bx w17 B2 26 #[.int .i64 (sg (nu u)), .slice a3 (ln (nu u)) c3, .int .i64 (sg (de u)), .slice b3 (ln (de u)) d3] ∧ Bx w17 B1 26 #[.int .i64 (sg (nu r)), .slice a2 (ln (nu r)) c2, .int .i64 (sg (de r)), .slice b2 (ln (de r)) d2] ∧ Bx w17 B0 26 #[.int .i64 (sg (nu q)), .slice a1 (ln (nu q)) c1, .int .i64 (sg (de q)), .slice b1 (ln (de q)) d1] ∧ Below w.heap.size w w17)) :
    ∀ K : Act → World → Prop, (∀ a_ w_, Code.wp Tryz.prog (restAt Tryz.f5 11) (bodyPost Tryz.prog Tryz.f5 fun e w' => e = .returned (.bool true) ∧ Below w.heap.size w w') a_ w_ → K a_ w_) → Code.wp Tryz.prog (regAt Tryz.f5 11) (Exit.then K (bodyPost Tryz.prog Tryz.f5 fun e w' => e = .returned (.bool true) ∧ Below w.heap.size w w')) ⟨List.toArray (x0_ :: x1_ :: x2_ :: .pointer (some ⟨B0, 0, none⟩) :: .pointer (some ⟨B1, 0, none⟩) :: .pointer (some ⟨B2, 0, none⟩) :: .bool false :: .bool true :: .int .i64 k :: .pointer (some ⟨B3, 0, none⟩) :: .bool true :: .pointer (some ⟨B4, 0, none⟩) :: .bool true :: x13_ :: x14_ :: x15_ :: x16_ :: x17_ :: x18_ :: x19_ :: x20_ :: x21_ :: x22_ :: x23_ :: x24_ :: x25_ :: x26_ :: x27_ :: x28_ :: x29_ :: x30_ :: x31_ :: x32_ :: x33_ :: x34_ :: x35_ :: x36_ :: x37_ :: x38_ :: x39_ :: x40_ :: x41_ :: x42_ :: x43_ :: x44_ :: x45_ :: x46_ :: x47_ :: x48_ :: x49_ :: x50_ :: x51_ :: x52_ :: x53_ :: x54_ :: x55_ :: x56_ :: x57_ :: x58_ :: x59_ :: x60_ :: x61_ :: x62_ :: x63_ :: x64_ :: x65_ :: x66_ :: x67_ :: x68_ :: x69_ :: x70_ :: x71_ :: x72_ :: x73_ :: x74_ :: x75_ :: x76_ :: x77_ :: x78_ :: x79_ :: x80_ :: x81_ :: x82_ :: x83_ :: x84_ :: x85_ :: x86_ :: x87_ :: x88_ :: x89_ :: x90_ :: x91_ :: x92_ :: x93_ :: x94_ :: x95_ :: x96_ :: x97_ :: x98_ :: x99_ :: x100_ :: x101_ :: x102_ :: x103_ :: x104_ :: x105_ :: x106_ :: x107_ :: x108_ :: x109_ :: x110_ :: x111_ :: undef :: undef :: undef :: undef :: undef :: undef :: undef :: undef :: undef :: undef :: undef :: undef :: undef :: undef :: undef :: undef :: undef :: undef :: undef :: undef :: undef :: undef :: undef :: undef :: undef :: undef :: undef :: undef :: undef :: undef :: undef :: undef :: undef :: undef :: undef :: undef :: undef :: undef :: undef :: undef :: undef :: undef :: undef :: undef :: undef :: undef :: undef :: undef :: undef :: undef :: undef :: undef :: undef :: undef :: undef :: undef :: undef :: undef :: undef :: undef :: undef :: undef :: undef :: undef :: undef :: undef :: undef :: undef :: undef :: undef :: undef :: undef :: undef :: undef :: undef :: undef :: undef :: undef :: undef :: undef :: undef :: undef :: undef :: undef :: undef :: undef :: undef :: undef :: undef :: undef :: undef :: undef :: undef :: undef :: undef :: undef :: undef :: undef :: undef :: undef :: undef :: undef :: undef :: undef :: undef :: undef :: undef :: undef :: undef :: undef :: undef :: undef :: undef :: undef :: undef :: undef :: undef :: undef :: undef :: undef :: undef :: undef :: undef :: undef :: undef :: undef :: undef :: undef :: undef :: undef :: undef :: undef :: undef :: undef :: undef :: undef :: undef :: undef :: undef :: undef :: undef :: undef :: undef :: undef :: undef :: undef :: undef :: undef :: undef :: undef :: undef :: undef :: undef :: undef :: undef :: undef :: undef :: undef :: undef :: undef :: undef :: undef :: undef :: undef :: undef :: undef :: undef :: undef :: undef :: undef :: undef :: undef :: undef :: undef :: undef :: undef :: undef :: undef :: undef :: undef :: undef :: undef :: undef :: []), []⟩ w17 := by
  intro Kst_ hst_
  conv => arg 2; whnf
  conv at hst_ => enter [a_, w_, 1, 2]; whnf
  have y1 := (M.out.2.2.2.2.2.1).c4; have p1_0 := y1.1; have q1_0 := y1.2.1; have p1_1 := y1.2.2.1; have q1_1 := y1.2.2.2.1; have p1_2 := y1.2.2.2.2.1; have q1_2 := y1.2.2.2.2.2.1; have p1_3 := y1.2.2.2.2.2.2.1; have q1_3 := y1.2.2.2.2.2.2.2; clear y1
  have y2 := (M.out.2.2.2.2.1).c4; have p2_0 := y2.1; have q2_0 := y2.2.1; have p2_1 := y2.2.2.1; have q2_1 := y2.2.2.2.1; have p2_2 := y2.2.2.2.2.1; have q2_2 := y2.2.2.2.2.2.1; have p2_3 := y2.2.2.2.2.2.2.1; have q2_3 := y2.2.2.2.2.2.2.2; clear y2
  go_wp2_with fail
  clear p1_0 q1_0 p1_1 q1_1 p1_2 q1_2 p1_3 q1_3 p2_0 q2_0 p2_1 q2_1 p2_2 q2_2 p2_3 q2_3
  obtain ⟨q17, eq17⟩ : ∃ v_ : Rat, v_ = (r + u) := ⟨_, rfl⟩
  refine (fracAdd_ok (G := G) (q := r) (r := u) (H2.out.keep (M.out.2.2.2.2.2.2.2)) (H3.out.keep (M.out.2.2.2.2.2.2.2)) (Fz.mono HR.out (by omega)) (Fz.mono HU.out (by omega))).mono ?_
  rintro e w18 ⟨a_13, c_14, b_15, d_16, rfl, hd18, hb⟩
  rw [← eq17] at hd18 ⊢
  have Sq17 : Hid (Fz q17 25) := by show Fz q17 25; rw [eq17]; exact (Fz.add HR.out HU.out)
  have Eq17 := Lib.hid eq17; clear eq17
  replace M := Lib.hid (And.intro hd18 (Goes.go M.out hb))
  clear hb hd18
  go_wp2_with fail
  refine (right_ok (G := G) (q := q17) (M.out.1) (Fz.mono Sq17.out (by omega))).mono ?_
  rintro e w19 ⟨rfl, hb⟩
  replace M := Lib.hid (Goes.go M.out hb)
  clear hb
  go_upto_region 12 with fail
  obtain ⟨w20, hv⟩ : ∃ w_ : World, w_ = (w19.alloc (.cells #[.int .i64 (sg (nu q17)), .slice a_13 (ln (nu q17)) c_14, .int .i64 (sg (de q17)), .slice b_15 (ln (de q17)) d_16] 26)) := ⟨_, rfl⟩
  rw [← hv]
  have o5 : B4 < w19.heap.size := ((M.out.2.1)).lt
  replace M := Lib.hid (And.intro (hv ▸ bx1 w19 26 #[.int .i64 (sg (nu q17)), .slice a_13 (ln (nu q17)) c_14, .int .i64 (sg (de q17)), .slice b_15 (ln (de q17)) d_16]) (Goes.go M.out (hv ▸ below_alloc _ _ : Below w19.heap.size w19 w20)))
  clear hv
  have y0 := (M.out.2.2.2.2.2.2.2.2.1).c4; have p0_0 := y0.1; have q0_0 := y0.2.1; have p0_1 := y0.2.2.1; have q0_1 := y0.2.2.2.1; have p0_2 := y0.2.2.2.2.1; have q0_2 := y0.2.2.2.2.2.1; have p0_3 := y0.2.2.2.2.2.2.1; have q0_3 := y0.2.2.2.2.2.2.2; clear y0
  have y2 := (M.out.2.2.2.2.2.2.1).c4; have p2_0 := y2.1; have q2_0 := y2.2.1; have p2_1 := y2.2.2.1; have q2_1 := y2.2.2.2.1; have p2_2 := y2.2.2.2.2.1; have q2_2 := y2.2.2.2.2.2.1; have p2_3 := y2.2.2.2.2.2.2.1; have q2_3 := y2.2.2.2.2.2.2.2; clear y2
  go_wp2_with fail
  clear p0_0 q0_0 p0_1 q0_1 p0_2 q0_2 p0_3 q0_3 p2_0 q2_0 p2_1 q2_1 p2_2 q2_2 p2_3 q2_3
  obtain ⟨q23, eq23⟩ : ∃ v_ : Rat, v_ = (q * u) := ⟨_, rfl⟩
  refine (fracMul_ok (G := G) (q := q) (r := u) (Nat.le_trans hG (M.out.2.2.2.2.2.2.2.2.2).size) (H1.out.keep (M.out.2.2.2.2.2.2.2.2.2)) (H3.out.keep (M.out.2.2.2.2.2.2.2.2.2)) (Fz.mono HQ.out (by omega)) (Fz.mono HU.out (by omega))).mono ?_
  rintro e w21 ⟨a_19, c_20, b_21, d_22, rfl, hd24, hb⟩
  rw [← eq23] at hd24 ⊢
  have Sq23 : Hid (Fz q23 24) := by show Fz q23 24; rw [eq23]; exact (Fz.mul HQ.out HU.out)
  have Eq23 := Lib.hid eq23; clear eq23
  replace M := Lib.hid (And.intro hd24 (Goes.go M.out hb))
  clear hb hd24
  go_wp2_with fail
  refine (right_ok (G := G) (q := q23) (M.out.1) (Fz.mono Sq23.out (by omega))).mono ?_
  rintro e w22 ⟨rfl, hb⟩
  replace M := Lib.hid (Goes.go M.out hb)
  clear hb
  go_upto_region 13 with fail
  obtain ⟨w23, hv⟩ : ∃ w_ : World, w_ = (w22.alloc (.cells #[.int .i64 (sg (nu q23)), .slice a_19 (ln (nu q23)) c_20, .int .i64 (sg (de q23)), .slice b_21 (ln (de q23)) d_22] 26)) := ⟨_, rfl⟩
  rw [← hv]
  have o6 : w19.heap.size < w22.heap.size := ((M.out.2.1)).lt
  replace M := Lib.hid (And.intro (hv ▸ bx1 w22 26 #[.int .i64 (sg (nu q23)), .slice a_19 (ln (nu q23)) c_20, .int .i64 (sg (de q23)), .slice b_21 (ln (de q23)) d_22]) (Goes.go M.out (hv ▸ below_alloc _ _ : Below w22.heap.size w22 w23)))
  clear hv
  rename_i Kst_ hst_
  exact order_gt_s13 hG HQ HR HU wn wm hbz HBZ n1 n2 HK HK2 HK3 HSUB HSW HPL HTM HNG n3 n4 n5 HLO HHI HNE HT HM H1 H2 H3 Eq23 Sq23 Eq17 Sq17 Eq11 Sq11 Eq5 Sq5 nsq5 (by omega) (by omega) (by omega) (by omega) (by omega) (by omega) (by omega) M Kst_ hst_

set_option maxRecDepth 100000 in
set_option maxHeartbeats 4000000 in
theorem order_gt_s9 {k k2 k3 m : Int} {bz : Bool} {q r u : Rat} {a1 b1 a2 b2 a3 b3 : Option Addr} {c1 d1 c2 d2 c3 d3 : Nat} {w : World}  {w11 : World}  {B0 B1 B2 : Nat} {x0_ x1_ x2_ x9_ x10_ x11_ x12_ x13_ x14_ x15_ x16_ x17_ x18_ x19_ x20_ x21_ x22_ x23_ x24_ x25_ x26_ x27_ x28_ x29_ x30_ x31_ x32_ x33_ x34_ x35_ x36_ x37_ x38_ x39_ x40_ x41_ x42_ x43_ x44_ x45_ x46_ x47_ x48_ x49_ x50_ x51_ x52_ x53_ x54_ x55_ x56_ x57_ x58_ x59_ x60_ x61_ x62_ x63_ x64_ x65_ x66_ x67_ x68_ x69_ x70_ x71_ x72_ x73_ x74_ x75_ x76_ x77_ x78_ x79_ x80_ x81_ x82_ x83_ x84_ x85_ x86_ x87_ x88_ x89_ x90_ x91_ x92_ x93_ : Value} (hG : G ≤ w.heap.size) (HQ : Hid (Fz q 12)) (HR : Hid (Fz r 12)) (HU : Hid (Fz u 12)) (wn : IntKind.i64.wrap (-k) = -k) (wm : IntKind.i64.wrap (k * sg (nu u)) = m) (hbz : (k == 0) = bz) (HBZ : Hid (decide (q = r) = bz)) (n1 : decide (k < -1) = false) (n2 : decide (1 < k) = false) (HK : Hid (ordQ q r = k)) (HK2 : Hid (ordQ r u = k2)) (HK3 : Hid (ordQ q u = k3)) (HSUB : Hid (sg (nu (q - r)) = k)) (HSW : Hid (ordQ r q = -k)) (HPL : Hid (ordQ (q + u) (r + u) = k)) (HTM : Hid (ordQ (q * u) (r * u) = m)) (HNG : Hid (ordQ (-q) (-r) = -k)) (n3 : decide (-k ≤ 0) = true) (n4 : decide (k ≤ 0) = false) (n5 : decide (0 ≤ k) = true) (HLO : Hid (pick q r (-1) = r)) (HHI : Hid (pick q r 1 = q)) (HNE : Hid (¬ r = q)) (HT : Hid (Tab w)) (HM : Hid (Mx w)) (H1 : Hid (FD G w a1 c1 b1 d1 q)) (H2 : Hid (FD G w a2 c2 b2 d2 r)) (H3 : Hid (FD G w a3 c3 b3 d3 u)) (oB0 : w.heap.size ≤ B0) (oB1 : B0 < B1) (oB2 : B1 < B2) (M : Hid (Bx w11 B2 26 #[.int .i64 (sg (nu u)), .slice a3 (ln (nu u)) c3, .int .i64 (sg (de u)), .slice b3 (ln (de u)) d3] ∧ Bx w11 B1 26 #[.int .i64 (sg (nu r)), .slice a2 (ln (nu r)) c2, .int .i64 (sg (de r)), .slice b2 (ln (de r)) d2] ∧ Bx w11 B0 26 #[.int .i64 (sg (nu q)), .slice a1 (ln (nu q)) c1, .int .i64 (sg (de q)), .slice b1 (ln (de q)) d1] ∧ Below w.heap.size w w11)) :
    ∀ K : Act → World → Prop, (∀ a_ w_, Code.wp Tryz.prog (restAt Tryz.f5 9) (bodyPost Tryz.prog Tryz.f5 fun e w' => e = .returned (.bool true) ∧ Below w.heap.size w w') a_ w_ → K a_ w_) → Code.wp Tryz.prog (regAt Tryz.f5 9) (Exit.then K (bodyPost Tryz.prog Tryz.f5 fun e w' => e = .returned (.bool true) ∧ Below w.heap.size w w')) ⟨List.toArray (x0_ :: x1_ :: x2_ :: .pointer (some ⟨B0, 0, none⟩) :: .pointer (some ⟨B1, 0, none⟩) :: .pointer (some ⟨B2, 0, none⟩) :: .bool false :: .bool true :: .int .i64 k :: x9_ :: x10_ :: x11_ :: x12_ :: x13_ :: x14_ :: x15_ :: x16_ :: x17_ :: x18_ :: x19_ :: x20_ :: x21_ :: x22_ :: x23_ :: x24_ :: x25_ :: x26_ :: x27_ :: x28_ :: x29_ :: x30_ :: x31_ :: x32_ :: x33_ :: x34_ :: x35_ :: x36_ :: x37_ :: x38_ :: x39_ :: x40_ :: x41_ :: x42_ :: x43_ :: x44_ :: x45_ :: x46_ :: x47_ :: x48_ :: x49_ :: x50_ :: x51_ :: x52_ :: x53_ :: x54_ :: x55_ :: x56_ :: x57_ :: x58_ :: x59_ :: x60_ :: x61_ :: x62_ :: x63_ :: x64_ :: x65_ :: x66_ :: x67_ :: x68_ :: x69_ :: x70_ :: x71_ :: x72_ :: x73_ :: x74_ :: x75_ :: x76_ :: x77_ :: x78_ :: x79_ :: x80_ :: x81_ :: x82_ :: x83_ :: x84_ :: x85_ :: x86_ :: x87_ :: x88_ :: x89_ :: x90_ :: x91_ :: x92_ :: x93_ :: undef :: undef :: undef :: undef :: undef :: undef :: undef :: undef :: undef :: undef :: undef :: undef :: undef :: undef :: undef :: undef :: undef :: undef :: undef :: undef :: undef :: undef :: undef :: undef :: undef :: undef :: undef :: undef :: undef :: undef :: undef :: undef :: undef :: undef :: undef :: undef :: undef :: undef :: undef :: undef :: undef :: undef :: undef :: undef :: undef :: undef :: undef :: undef :: undef :: undef :: undef :: undef :: undef :: undef :: undef :: undef :: undef :: undef :: undef :: undef :: undef :: undef :: undef :: undef :: undef :: undef :: undef :: undef :: undef :: undef :: undef :: undef :: undef :: undef :: undef :: undef :: undef :: undef :: undef :: undef :: undef :: undef :: undef :: undef :: undef :: undef :: undef :: undef :: undef :: undef :: undef :: undef :: undef :: undef :: undef :: undef :: undef :: undef :: undef :: undef :: undef :: undef :: undef :: undef :: undef :: undef :: undef :: undef :: undef :: undef :: undef :: undef :: undef :: undef :: undef :: undef :: undef :: undef :: undef :: undef :: undef :: undef :: undef :: undef :: undef :: undef :: undef :: undef :: undef :: undef :: undef :: undef :: undef :: undef :: undef :: undef :: undef :: undef :: undef :: undef :: undef :: undef :: undef :: undef :: undef :: undef :: undef :: undef :: undef :: undef :: undef :: undef :: undef :: undef :: undef :: undef :: undef :: undef :: undef :: undef :: undef :: undef :: undef :: undef :: undef :: undef :: undef :: undef :: undef :: undef :: undef :: undef :: undef :: undef :: undef :: undef :: undef :: undef :: undef :: undef :: undef :: undef :: undef :: undef :: undef :: undef :: undef :: undef :: undef :: undef :: undef :: undef :: undef :: undef :: undef :: undef :: undef :: undef :: undef :: undef :: undef :: []), []⟩ w11 := by
  intro Kst_ hst_
  conv => arg 2; whnf
  conv at hst_ => enter [a_, w_, 1, 2]; whnf
  have y0 := (M.out.2.2.1).c4; have p0_0 := y0.1; have q0_0 := y0.2.1; have p0_1 := y0.2.2.1; have q0_1 := y0.2.2.2.1; have p0_2 := y0.2.2.2.2.1; have q0_2 := y0.2.2.2.2.2.1; have p0_3 := y0.2.2.2.2.2.2.1; have q0_3 := y0.2.2.2.2.2.2.2; clear y0
  have y1 := (M.out.2.1).c4; have p1_0 := y1.1; have q1_0 := y1.2.1; have p1_1 := y1.2.2.1; have q1_1 := y1.2.2.2.1; have p1_2 := y1.2.2.2.2.1; have q1_2 := y1.2.2.2.2.2.1; have p1_3 := y1.2.2.2.2.2.2.1; have q1_3 := y1.2.2.2.2.2.2.2; clear y1
  go_wp2_with fail
  clear p0_0 q0_0 p0_1 q0_1 p0_2 q0_2 p0_3 q0_3 p1_0 q1_0 p1_1 q1_1 p1_2 q1_2 p1_3 q1_3
  obtain ⟨q5, eq5⟩ : ∃ v_ : Rat, v_ = (q - r) := ⟨_, rfl⟩
  refine (fracSub_ok (G := G) (q := q) (r := r) (H1.out.keep (M.out.2.2.2)) (H2.out.keep (M.out.2.2.2)) (Fz.mono HQ.out (by omega)) (Fz.mono HR.out (by omega))).mono ?_
  rintro e w12 ⟨a_1, c_2, b_3, d_4, rfl, hd6, hb⟩
  rw [← eq5] at hd6 ⊢
  have Sq5 : Hid (Fz q5 25) := by show Fz q5 25; rw [eq5]; exact (Fz.sub HQ.out HR.out)
  have Eq5 := Lib.hid eq5; clear eq5
  replace M := Lib.hid (And.intro hd6 (Goes.go M.out hb))
  clear hb hd6
  have nsq5 : (sg (nu q5) != k) = false := by rw [Eq5.out, HSUB.out]; simp
  go_wp2_with fail
  refine (right_ok (G := G) (q := q5) (M.out.1) (Fz.mono Sq5.out (by omega))).mono ?_
  rintro e w13 ⟨rfl, hb⟩
  replace M := Lib.hid (Goes.go M.out hb)
  clear hb
  go_upto_region 10 with fail
  obtain ⟨w14, hv⟩ : ∃ w_ : World, w_ = (w13.alloc (.cells #[.int .i64 (sg (nu q5)), .slice a_1 (ln (nu q5)) c_2, .int .i64 (sg (de q5)), .slice b_3 (ln (de q5)) d_4] 26)) := ⟨_, rfl⟩
  rw [← hv]
  have o3 : B2 < w13.heap.size := ((M.out.2.1)).lt
  replace M := Lib.hid (And.intro (hv ▸ bx1 w13 26 #[.int .i64 (sg (nu q5)), .slice a_1 (ln (nu q5)) c_2, .int .i64 (sg (de q5)), .slice b_3 (ln (de q5)) d_4]) (Goes.go M.out (hv ▸ below_alloc _ _ : Below w13.heap.size w13 w14)))
  clear hv
  have y0 := (M.out.2.2.2.2.1).c4; have p0_0 := y0.1; have q0_0 := y0.2.1; have p0_1 := y0.2.2.1; have q0_1 := y0.2.2.2.1; have p0_2 := y0.2.2.2.2.1; have q0_2 := y0.2.2.2.2.2.1; have p0_3 := y0.2.2.2.2.2.2.1; have q0_3 := y0.2.2.2.2.2.2.2; clear y0
  have y2 := (M.out.2.2.1).c4; have p2_0 := y2.1; have q2_0 := y2.2.1; have p2_1 := y2.2.2.1; have q2_1 := y2.2.2.2.1; have p2_2 := y2.2.2.2.2.1; have q2_2 := y2.2.2.2.2.2.1; have p2_3 := y2.2.2.2.2.2.2.1; have q2_3 := y2.2.2.2.2.2.2.2; clear y2
  go_wp2_with fail
  clear p0_0 q0_0 p0_1 q0_1 p0_2 q0_2 p0_3 q0_3 p2_0 q2_0 p2_1 q2_1 p2_2 q2_2 p2_3 q2_3
  obtain ⟨q11, eq11⟩ : ∃ v_ : Rat, v_ = (q + u) := ⟨_, rfl⟩
  refine (fracAdd_ok (G := G) (q := q) (r := u) (H1.out.keep (M.out.2.2.2.2.2)) (H3.out.keep (M.out.2.2.2.2.2)) (Fz.mono HQ.out (by omega)) (Fz.mono HU.out (by omega))).mono ?_
  rintro e w15 ⟨a_7, c_8, b_9, d_10, rfl, hd12, hb⟩
  rw [← eq11] at hd12 ⊢
  have Sq11 : Hid (Fz q11 25) := by show Fz q11 25; rw [eq11]; exact (Fz.add HQ.out HU.out)
  have Eq11 := Lib.hid eq11; clear eq11
  replace M := Lib.hid (And.intro hd12 (Goes.go M.out hb))
  clear hb hd12
  go_wp2_with fail
  refine (right_ok (G := G) (q := q11) (M.out.1) (Fz.mono Sq11.out (by omega))).mono ?_
  rintro e w16 ⟨rfl, hb⟩
  replace M := Lib.hid (Goes.go M.out hb)
  clear hb
  go_upto_region 11 with fail
  obtain ⟨w17, hv⟩ : ∃ w_ : World, w_ = (w16.alloc (.cells #[.int .i64 (sg (nu q11)), .slice a_7 (ln (nu q11)) c_8, .int .i64 (sg (de q11)), .slice b_9 (ln (de q11)) d_10] 26)) := ⟨_, rfl⟩
  rw [← hv]
  have o4 : w13.heap.size < w16.heap.size := ((M.out.2.1)).lt
  replace M := Lib.hid (And.intro (hv ▸ bx1 w16 26 #[.int .i64 (sg (nu q11)), .slice a_7 (ln (nu q11)) c_8, .int .i64 (sg (de q11)), .slice b_9 (ln (de q11)) d_10]) (Goes.go M.out (hv ▸ below_alloc _ _ : Below w16.heap.size w16 w17)))
  clear hv
  rename_i Kst_ hst_
  exact order_gt_s11 hG HQ HR HU wn wm hbz HBZ n1 n2 HK HK2 HK3 HSUB HSW HPL HTM HNG n3 n4 n5 HLO HHI HNE HT HM H1 H2 H3 Eq11 Sq11 Eq5 Sq5 nsq5 (by omega) (by omega) (by omega) (by omega) (by omega) M Kst_ hst_

set_option maxRecDepth 100000 in
set_option maxHeartbeats 4000000 in
theorem order_gt {k k2 k3 m : Int} {bz : Bool} {q r u : Rat} {a1 b1 a2 b2 a3 b3 : Option Addr} {c1 d1 c2 d2 c3 d3 : Nat} {w : World}  (hG : G ≤ w.heap.size) (HQ : Hid (Fz q 12)) (HR : Hid (Fz r 12)) (HU : Hid (Fz u 12)) (wn : IntKind.i64.wrap (-k) = -k) (wm : IntKind.i64.wrap (k * sg (nu u)) = m) (hbz : (k == 0) = bz) (HBZ : Hid (decide (q = r) = bz)) (n1 : decide (k < -1) = false) (n2 : decide (1 < k) = false) (HK : Hid (ordQ q r = k)) (HK2 : Hid (ordQ r u = k2)) (HK3 : Hid (ordQ q u = k3)) (HSUB : Hid (sg (nu (q - r)) = k)) (HSW : Hid (ordQ r q = -k)) (HPL : Hid (ordQ (q + u) (r + u) = k)) (HTM : Hid (ordQ (q * u) (r * u) = m)) (HNG : Hid (ordQ (-q) (-r) = -k)) (n3 : decide (-k ≤ 0) = true) (n4 : decide (k ≤ 0) = false) (n5 : decide (0 ≤ k) = true) (HLO : Hid (pick q r (-1) = r)) (HHI : Hid (pick q r 1 = q)) (HNE : Hid (¬ r = q)) (ht : Tab w) (hm : Mx w) (h1 : FD G w a1 c1 b1 d1 q) (h2 : FD G w a2 c2 b2 d2 r) (h3 : FD G w a3 c3 b3 d3 u) :
    Calls Tryz.prog 5 #[.agg #[.int .i64 (sg (nu q)), .slice a1 (ln (nu q)) c1, .int .i64 (sg (de q)), .slice b1 (ln (de q)) d1], .agg #[.int .i64 (sg (nu r)), .slice a2 (ln (nu r)) c2, .int .i64 (sg (de r)), .slice b2 (ln (de r)) d2], .agg #[.int .i64 (sg (nu u)), .slice a3 (ln (nu u)) c3, .int .i64 (sg (de u)), .slice b3 (ln (de u)) d3]] w fun e w' => e = .returned (.bool true) ∧ Below w.heap.size w w' := by
  have HT : Hid (Tab w) := ht
  have HM : Hid (Mx w) := hm
  have H1 : Hid (FD G w a1 c1 b1 d1 q) := h1
  have H2 : Hid (FD G w a2 c2 b2 d2 r) := h2
  have H3 : Hid (FD G w a3 c3 b3 d3 u) := h3
  clear ht hm h1 h2 h3
  have M : Hid (Below w.heap.size w w) := Below.refl _ _
  go_enter Tryz.func5, Tryz.ntmps5
  go_upto_region 1 with fail
  obtain ⟨w1, hv⟩ : ∃ w_ : World, w_ = (((w.alloc (.cells #[.int .i64 (sg (nu q)), .slice a1 (ln (nu q)) c1, .int .i64 (sg (de q)), .slice b1 (ln (de q)) d1] 26)).alloc (.cells #[.int .i64 (sg (nu r)), .slice a2 (ln (nu r)) c2, .int .i64 (sg (de r)), .slice b2 (ln (de r)) d2] 26)).alloc (.cells #[.int .i64 (sg (nu u)), .slice a3 (ln (nu u)) c3, .int .i64 (sg (de u)), .slice b3 (ln (de u)) d3] 26)) := ⟨_, rfl⟩
  rw [← hv]
  have hbx := bx3 w 26 26 26 #[.int .i64 (sg (nu q)), .slice a1 (ln (nu q)) c1, .int .i64 (sg (de q)), .slice b1 (ln (de q)) d1] #[.int .i64 (sg (nu r)), .slice a2 (ln (nu r)) c2, .int .i64 (sg (de r)), .slice b2 (ln (de r)) d2] #[.int .i64 (sg (nu u)), .slice a3 (ln (nu u)) c3, .int .i64 (sg (de u)), .slice b3 (ln (de u)) d3]
  rw [← hv] at hbx
  have hbn : Below w.heap.size w w1 := by rw [hv]; exact (Below.alloc (Below.alloc (Below.alloc (Below.refl _ _) (by simp <;> omega) _) (by simp <;> omega) _) (by simp <;> omega) _)
  replace M := Lib.hid (And.intro hbx.2.2 (And.intro hbx.2.1 (And.intro hbx.1 (Goes.go M.out hbn))))
  clear hbx hbn
  clear hv
  go_wp2_with fail
  refine (small_ok (G := G) (Nat.le_trans hG (M.out.2.2.2).size) (HT.out.keep (M.out.2.2.2)) (HM.out.keep (M.out.2.2.2))).mono ?_
  rintro e w2 ⟨rfl, hb⟩
  replace M := Lib.hid (Goes.go M.out hb)
  clear hb
  have y0 := (M.out.2.2.1).c4; have p0_0 := y0.1; have q0_0 := y0.2.1; have p0_1 := y0.2.2.1; have q0_1 := y0.2.2.2.1; have p0_2 := y0.2.2.2.2.1; have q0_2 := y0.2.2.2.2.2.1; have p0_3 := y0.2.2.2.2.2.2.1; have q0_3 := y0.2.2.2.2.2.2.2; clear y0
  go_wp2_with fail
  clear p0_0 q0_0 p0_1 q0_1 p0_2 q0_2 p0_3 q0_3
  refine (rfFew_ok (s := (sg (nu q))) (t := (sg (de q))) (m := 12) (r := true) (few_fz HQ.out rfl)).mono ?_
  rintro e w3 ⟨rfl, hb⟩
  replace M := Lib.hid (Goes.go M.out hb)
  clear hb
  have y1 := (M.out.2.1).c4; have p1_0 := y1.1; have q1_0 := y1.2.1; have p1_1 := y1.2.2.1; have q1_1 := y1.2.2.2.1; have p1_2 := y1.2.2.2.2.1; have q1_2 := y1.2.2.2.2.2.1; have p1_3 := y1.2.2.2.2.2.2.1; have q1_3 := y1.2.2.2.2.2.2.2; clear y1
  go_wp2_with fail
  clear p1_0 q1_0 p1_1 q1_1 p1_2 q1_2 p1_3 q1_3
  refine (rfFew_ok (s := (sg (nu r))) (t := (sg (de r))) (m := 12) (r := true) (few_fz HR.out rfl)).mono ?_
  rintro e w4 ⟨rfl, hb⟩
  replace M := Lib.hid (Goes.go M.out hb)
  clear hb
  have y2 := (M.out.1).c4; have p2_0 := y2.1; have q2_0 := y2.2.1; have p2_1 := y2.2.2.1; have q2_1 := y2.2.2.2.1; have p2_2 := y2.2.2.2.2.1; have q2_2 := y2.2.2.2.2.2.1; have p2_3 := y2.2.2.2.2.2.2.1; have q2_3 := y2.2.2.2.2.2.2.2; clear y2
  go_wp2_with fail
  clear p2_0 q2_0 p2_1 q2_1 p2_2 q2_2 p2_3 q2_3
  refine (rfFew_ok (s := (sg (nu u))) (t := (sg (de u))) (m := 12) (r := true) (few_fz HU.out rfl)).mono ?_
  rintro e w5 ⟨rfl, hb⟩
  replace M := Lib.hid (Goes.go M.out hb)
  clear hb
  have y0 := (M.out.2.2.1).c4; have p0_0 := y0.1; have q0_0 := y0.2.1; have p0_1 := y0.2.2.1; have q0_1 := y0.2.2.2.1; have p0_2 := y0.2.2.2.2.1; have q0_2 := y0.2.2.2.2.2.1; have p0_3 := y0.2.2.2.2.2.2.1; have q0_3 := y0.2.2.2.2.2.2.2; clear y0
  go_wp2_with fail
  clear p0_0 q0_0 p0_1 q0_1 p0_2 q0_2 p0_3 q0_3
  refine (fracRight_ok (G := G) (q := q) (H1.out.keep (M.out.2.2.2)) (Fz.mono HQ.out (by omega))).mono ?_
  rintro e w6 ⟨rfl, hb⟩
  replace M := Lib.hid (Goes.go M.out hb)
  clear hb
  have y1 := (M.out.2.1).c4; have p1_0 := y1.1; have q1_0 := y1.2.1; have p1_1 := y1.2.2.1; have q1_1 := y1.2.2.2.1; have p1_2 := y1.2.2.2.2.1; have q1_2 := y1.2.2.2.2.2.1; have p1_3 := y1.2.2.2.2.2.2.1; have q1_3 := y1.2.2.2.2.2.2.2; clear y1
  go_wp2_with fail
  clear p1_0 q1_0 p1_1 q1_1 p1_2 q1_2 p1_3 q1_3
  refine (fracRight_ok (G := G) (q := r) (H2.out.keep (M.out.2.2.2)) (Fz.mono HR.out (by omega))).mono ?_
  rintro e w7 ⟨rfl, hb⟩
  replace M := Lib.hid (Goes.go M.out hb)
  clear hb
  have y2 := (M.out.1).c4; have p2_0 := y2.1; have q2_0 := y2.2.1; have p2_1 := y2.2.2.1; have q2_1 := y2.2.2.2.1; have p2_2 := y2.2.2.2.2.1; have q2_2 := y2.2.2.2.2.2.1; have p2_3 := y2.2.2.2.2.2.2.1; have q2_3 := y2.2.2.2.2.2.2.2; clear y2
  go_wp2_with fail
  clear p2_0 q2_0 p2_1 q2_1 p2_2 q2_2 p2_3 q2_3
  refine (fracRight_ok (G := G) (q := u) (H3.out.keep (M.out.2.2.2)) (Fz.mono HU.out (by omega))).mono ?_
  rintro e w8 ⟨rfl, hb⟩
  replace M := Lib.hid (Goes.go M.out hb)
  clear hb
  have y0 := (M.out.2.2.1).c4; have p0_0 := y0.1; have q0_0 := y0.2.1; have p0_1 := y0.2.2.1; have q0_1 := y0.2.2.2.1; have p0_2 := y0.2.2.2.2.1; have q0_2 := y0.2.2.2.2.2.1; have p0_3 := y0.2.2.2.2.2.2.1; have q0_3 := y0.2.2.2.2.2.2.2; clear y0
  have y1 := (M.out.2.1).c4; have p1_0 := y1.1; have q1_0 := y1.2.1; have p1_1 := y1.2.2.1; have q1_1 := y1.2.2.2.1; have p1_2 := y1.2.2.2.2.1; have q1_2 := y1.2.2.2.2.2.1; have p1_3 := y1.2.2.2.2.2.2.1; have q1_3 := y1.2.2.2.2.2.2.2; clear y1
  go_wp2_with fail
  clear p0_0 q0_0 p0_1 q0_1 p0_2 q0_2 p0_3 q0_3 p1_0 q1_0 p1_1 q1_1 p1_2 q1_2 p1_3 q1_3
  refine (fracCompare_is (G := G) (q := q) (r := r) (k := k) (H1.out.keep (M.out.2.2.2)) (H2.out.keep (M.out.2.2.2)) (Fz.mono HQ.out (by omega)) (Fz.mono HR.out (by omega)) (by exact HK.out)).mono ?_
  rintro e w9 ⟨rfl, hb⟩
  replace M := Lib.hid (Goes.go M.out hb)
  clear hb
  have y0 := (M.out.2.2.1).c4; have p0_0 := y0.1; have q0_0 := y0.2.1; have p0_1 := y0.2.2.1; have q0_1 := y0.2.2.2.1; have p0_2 := y0.2.2.2.2.1; have q0_2 := y0.2.2.2.2.2.1; have p0_3 := y0.2.2.2.2.2.2.1; have q0_3 := y0.2.2.2.2.2.2.2; clear y0
  have y1 := (M.out.2.1).c4; have p1_0 := y1.1; have q1_0 := y1.2.1; have p1_1 := y1.2.2.1; have q1_1 := y1.2.2.2.1; have p1_2 := y1.2.2.2.2.1; have q1_2 := y1.2.2.2.2.2.1; have p1_3 := y1.2.2.2.2.2.2.1; have q1_3 := y1.2.2.2.2.2.2.2; clear y1
  go_wp2_with fail
  clear p0_0 q0_0 p0_1 q0_1 p0_2 q0_2 p0_3 q0_3 p1_0 q1_0 p1_1 q1_1 p1_2 q1_2 p1_3 q1_3
  refine (rfsame_b (G := G) (q := q) (r := r) (b := bz) (H1.out.keep (M.out.2.2.2)) (H2.out.keep (M.out.2.2.2)) (Fz.mono HQ.out (by omega)) (Fz.mono HR.out (by omega)) HBZ.out).mono ?_
  rintro e w10 ⟨rfl, hb⟩
  replace M := Lib.hid (Goes.go M.out hb)
  clear hb
  have y1 := (M.out.2.1).c4; have p1_0 := y1.1; have q1_0 := y1.2.1; have p1_1 := y1.2.2.1; have q1_1 := y1.2.2.2.1; have p1_2 := y1.2.2.2.2.1; have q1_2 := y1.2.2.2.2.2.1; have p1_3 := y1.2.2.2.2.2.2.1; have q1_3 := y1.2.2.2.2.2.2.2; clear y1
  have y0 := (M.out.2.2.1).c4; have p0_0 := y0.1; have q0_0 := y0.2.1; have p0_1 := y0.2.2.1; have q0_1 := y0.2.2.2.1; have p0_2 := y0.2.2.2.2.1; have q0_2 := y0.2.2.2.2.2.1; have p0_3 := y0.2.2.2.2.2.2.1; have q0_3 := y0.2.2.2.2.2.2.2; clear y0
  go_wp2_with fail
  clear p1_0 q1_0 p1_1 q1_1 p1_2 q1_2 p1_3 q1_3 p0_0 q0_0 p0_1 q0_1 p0_2 q0_2 p0_3 q0_3
  refine (fracCompare_is (G := G) (q := r) (r := q) (k := (-k)) (H2.out.keep (M.out.2.2.2)) (H1.out.keep (M.out.2.2.2)) (Fz.mono HR.out (by omega)) (Fz.mono HQ.out (by omega)) (by exact HSW.out)).mono ?_
  rintro e w11 ⟨rfl, hb⟩
  replace M := Lib.hid (Goes.go M.out hb)
  clear hb
  go_upto_region 9 with fail
  rename_i Kst_ hst_
  exact order_gt_s9 hG HQ HR HU wn wm hbz HBZ n1 n2 HK HK2 HK3 HSUB HSW HPL HTM HNG n3 n4 n5 HLO HHI HNE HT HM H1 H2 H3 (by omega) (by omega) (by omega) M Kst_ hst_

theorem order_all {q r u : Rat} {a1 b1 a2 b2 a3 b3 : Option Addr} {c1 d1 c2 d2 c3 d3 : Nat} {w : World} (hG : G ≤ w.heap.size) (ht : Tab w) (hm : Mx w) (h1 : FD G w a1 c1 b1 d1 q) (h2 : FD G w a2 c2 b2 d2 r) (h3 : FD G w a3 c3 b3 d3 u) (hq : Fz q 12) (hr : Fz r 12) (hu : Fz u 12) :
    Calls Tryz.prog 5 #[.agg #[.int .i64 (sg (nu q)), .slice a1 (ln (nu q)) c1, .int .i64 (sg (de q)), .slice b1 (ln (de q)) d1], .agg #[.int .i64 (sg (nu r)), .slice a2 (ln (nu r)) c2, .int .i64 (sg (de r)), .slice b2 (ln (de r)) d2], .agg #[.int .i64 (sg (nu u)), .slice a3 (ln (nu u)) c3, .int .i64 (sg (de u)), .slice b3 (ln (de u)) d3]] w fun e w' => e = .returned (.bool true) ∧ Below w.heap.size w w' := by
  have hkr := ordQ_cases q r
  have hzr := sg_cases (nu u)
  have wn : IntKind.i64.wrap (-ordQ q r) = -ordQ q r := IntWalk.i64_in _ (by omega)
  have wm : IntKind.i64.wrap (ordQ q r * sg (nu u)) = ordQ q r * sg (nu u) := by
    apply IntWalk.i64_in
    rcases hkr with h | h | h <;> rcases hzr with h' | h' | h' <;> rw [h, h'] <;> decide
  have n1 : decide (ordQ q r < -1) = false := decide_eq_false (by omega)
  have n2 : decide (1 < ordQ q r) = false := decide_eq_false (by omega)
  have hb : decide (q = r) = (ordQ q r == 0) := (ordQ_zero q r).symm
  rcases (show q ≤ r ∨ r < q by grind) with h | h
  · have n3 : decide (ordQ q r ≤ 0) = true := by rw [ordQ_up' h]
    exact order_le hG (Lib.hid hq) (Lib.hid hr) (Lib.hid hu) wn wm rfl (Lib.hid hb) n1 n2 (Lib.hid rfl) (Lib.hid rfl) (Lib.hid rfl) (Lib.hid (ordQ_sg q r).symm) (Lib.hid (ordQ_swap q r)) (Lib.hid (ordQ_plus q r u)) (Lib.hid (ordQ_times q r u)) (Lib.hid (ordQ_neg q r)) n3 rfl rfl
      (Lib.hid (show ChainB _ _ from fun h2 => decide_eq_false (ordQ_chain (of_decide_eq_true n3) (of_decide_eq_true h2)))) (Lib.hid (fracMin_1 h)) (Lib.hid (fracMax_3 h)) ht hm h1 h2 h3
  · have n3 : ordQ q r = 1 := ordQ_ge h
    exact order_gt hG (Lib.hid hq) (Lib.hid hr) (Lib.hid hu) wn wm rfl (Lib.hid hb) n1 n2 (Lib.hid rfl) (Lib.hid rfl) (Lib.hid rfl) (Lib.hid (ordQ_sg q r).symm) (Lib.hid (ordQ_swap q r)) (Lib.hid (ordQ_plus q r u)) (Lib.hid (ordQ_times q r u)) (Lib.hid (ordQ_neg q r)) (by rw [n3]; decide) (by rw [n3]; decide) (by rw [n3]; decide)
      (Lib.hid (fracMin_2 h)) (Lib.hid (fracMax_2 h)) (Lib.hid (by show ¬ _; grind)) ht hm h1 h2 h3

theorem order_walk {sa ta sb tb sc tc : Int} {la ma lb mb lc mc : List Int} {a1 b1 a2 b2 a3 b3 : Option Addr} {c1 d1 c2 d2 c3 d3 : Nat} {w : World} (ht : Tab w) (hm : Mx w) (h1 : FR w a1 c1 b1 d1 la ma) (h2 : FR w a2 c2 b2 d2 lb mb) (h3 : FR w a3 c3 b3 d3 lc mc) :
    Calls Tryz.prog 5 #[.agg #[.int .i64 sa, .slice a1 la.length c1, .int .i64 ta, .slice b1 ma.length d1], .agg #[.int .i64 sb, .slice a2 lb.length c2, .int .i64 tb, .slice b2 mb.length d2], .agg #[.int .i64 sc, .slice a3 lc.length c3, .int .i64 tc, .slice b3 mc.length d3]] w fun e w' => e = .returned (.bool true) ∧ Below w.heap.size w w' := by
  cases hn : ((decide ((la.length : Int) ≤ 12) && decide ((ma.length : Int) ≤ 12)) && ((decide ((lb.length : Int) ≤ 12) && decide ((mb.length : Int) ≤ 12)) && ((decide ((lc.length : Int) ≤ 12) && decide ((mc.length : Int) ≤ 12)) && (rightF sa la ta ma && (rightF sb lb tb mb && rightF sc lc tc mc))))) with
  | false => exact order_not (G := w.heap.size) (Nat.le_refl _) ht hm h1 h2 h3 hn
  | true =>
    simp only [Bool.and_eq_true] at hn
    obtain ⟨⟨fla, fma⟩, ⟨flb, fmb⟩, ⟨flc, fmc⟩, ra, rb, rc⟩ := hn
    obtain ⟨q, esa, ela, eta, ema, ba⟩ := fd_of_right h1 ra
    rw [ela] at fla
    rw [ema] at fma
    rw [esa, ela, eta, ema]
    obtain ⟨r, esb, elb, etb, emb, bb⟩ := fd_of_right h2 rb
    rw [elb] at flb
    rw [emb] at fmb
    rw [esb, elb, etb, emb]
    obtain ⟨u, esc, elc, etc, emc, bc⟩ := fd_of_right h3 rc
    rw [elc] at flc
    rw [emc] at fmc
    rw [esc, elc, etc, emc]
    exact order_all (G := w.heap.size) (Nat.le_refl _) ht hm ba bb bc ⟨few_sz_of fla rfl, few_sz_of fma rfl⟩ ⟨few_sz_of flb rfl, few_sz_of fmb rfl⟩ ⟨few_sz_of flc rfl, few_sz_of fmc rfl⟩

end Go.Proofs.YtcfmakpckdicjaaGreatDoor
