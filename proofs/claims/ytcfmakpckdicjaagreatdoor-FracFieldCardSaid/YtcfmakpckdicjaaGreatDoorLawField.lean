/- The walk of FracField: whatever the arguments, it returns true. -/
import Derived.Test.YtcfmakpckdicjaaGreatDoorLaw05a
import Derived.Test.YtcfmakpckdicjaaGreatDoorStage
namespace Go.Proofs.YtcfmakpckdicjaaGreatDoor
open Go.RowKit Go.Lib
variable {G : Nat}

theorem eqn_1 (q r u : Rat) : q + r = r + q := by
  have _h := (q, r, u)
  have z0 : Rat.divInt 0 1 = 0 := by decide +kernel
  have z1 : Rat.divInt 1 1 = 1 := by decide +kernel
  have z2 : ((0 : Int) : Rat) = 0 := rfl
  grind
theorem eqn_2 (q r u : Rat) : (q + r) + u = q + (r + u) := by
  have _h := (q, r, u)
  have z0 : Rat.divInt 0 1 = 0 := by decide +kernel
  have z1 : Rat.divInt 1 1 = 1 := by decide +kernel
  have z2 : ((0 : Int) : Rat) = 0 := rfl
  grind
theorem eqn_3 (q r u : Rat) : q * r = r * q := by
  have _h := (q, r, u)
  have z0 : Rat.divInt 0 1 = 0 := by decide +kernel
  have z1 : Rat.divInt 1 1 = 1 := by decide +kernel
  have z2 : ((0 : Int) : Rat) = 0 := rfl
  grind
theorem eqn_4 (q r u : Rat) : (q * r) * u = q * (r * u) := by
  have _h := (q, r, u)
  have z0 : Rat.divInt 0 1 = 0 := by decide +kernel
  have z1 : Rat.divInt 1 1 = 1 := by decide +kernel
  have z2 : ((0 : Int) : Rat) = 0 := rfl
  grind
theorem eqn_5 (q r u : Rat) : (q + r) * u = (q * u) + (r * u) := by
  have _h := (q, r, u)
  have z0 : Rat.divInt 0 1 = 0 := by decide +kernel
  have z1 : Rat.divInt 1 1 = 1 := by decide +kernel
  have z2 : ((0 : Int) : Rat) = 0 := rfl
  grind
theorem eqn_6 (q r u : Rat) : q + (Rat.divInt 0 1) = q := by
  have _h := (q, r, u)
  have z0 : Rat.divInt 0 1 = 0 := by decide +kernel
  have z1 : Rat.divInt 1 1 = 1 := by decide +kernel
  have z2 : ((0 : Int) : Rat) = 0 := rfl
  grind
theorem eqn_7 (q r u : Rat) : q * (Rat.divInt 1 1) = q := by
  have _h := (q, r, u)
  have z0 : Rat.divInt 0 1 = 0 := by decide +kernel
  have z1 : Rat.divInt 1 1 = 1 := by decide +kernel
  have z2 : ((0 : Int) : Rat) = 0 := rfl
  grind
theorem eqn_8 (q r u : Rat) : (q + r) - r = q := by
  have _h := (q, r, u)
  have z0 : Rat.divInt 0 1 = 0 := by decide +kernel
  have z1 : Rat.divInt 1 1 = 1 := by decide +kernel
  have z2 : ((0 : Int) : Rat) = 0 := rfl
  grind

set_option maxRecDepth 100000 in
set_option maxHeartbeats 4000000 in
theorem field_not {sa ta sb tb sc tc : Int} {la ma lb mb lc mc : List Int} {a1 b1 a2 b2 a3 b3 : Option Addr} {c1 d1 c2 d2 c3 d3 : Nat} {w : World} (hG : G ≤ w.heap.size) (ht : Tab w) (hm : Mx w) (h1 : FR w a1 c1 b1 d1 la ma) (h2 : FR w a2 c2 b2 d2 lb mb) (h3 : FR w a3 c3 b3 d3 lc mc) (hn : ((decide ((la.length : Int) ≤ 12) && decide ((ma.length : Int) ≤ 12)) && ((decide ((lb.length : Int) ≤ 12) && decide ((mb.length : Int) ≤ 12)) && ((decide ((lc.length : Int) ≤ 12) && decide ((mc.length : Int) ≤ 12)) && (rightF sa la ta ma && (rightF sb lb tb mb && rightF sc lc tc mc))))) = false) :
    Calls Tryz.prog 4 #[.agg #[.int .i64 sa, .slice a1 la.length c1, .int .i64 ta, .slice b1 ma.length d1], .agg #[.int .i64 sb, .slice a2 lb.length c2, .int .i64 tb, .slice b2 mb.length d2], .agg #[.int .i64 sc, .slice a3 lc.length c3, .int .i64 tc, .slice b3 mc.length d3]] w fun e w' => e = .returned (.bool true) ∧ Below w.heap.size w w' := by
  obtain ⟨fa, hfa⟩ : ∃ b, (decide ((la.length : Int) ≤ 12) && decide ((ma.length : Int) ≤ 12)) = b := ⟨_, rfl⟩
  obtain ⟨fb, hfb⟩ : ∃ b, (decide ((lb.length : Int) ≤ 12) && decide ((mb.length : Int) ≤ 12)) = b := ⟨_, rfl⟩
  obtain ⟨fc, hfc⟩ : ∃ b, (decide ((lc.length : Int) ≤ 12) && decide ((mc.length : Int) ≤ 12)) = b := ⟨_, rfl⟩
  obtain ⟨ra, hra⟩ : ∃ b, rightF sa la ta ma = b := ⟨_, rfl⟩
  obtain ⟨rb, hrb⟩ : ∃ b, rightF sb lb tb mb = b := ⟨_, rfl⟩
  obtain ⟨rc, hrc⟩ : ∃ b, rightF sc lc tc mc = b := ⟨_, rfl⟩
  rw [hfa, hfb, hfc, hra, hrb, hrc] at hn
  have HFa := Lib.hid hfa
  have HFb := Lib.hid hfb
  have HFc := Lib.hid hfc
  have HRa := Lib.hid hra
  have HRb := Lib.hid hrb
  have HRc := Lib.hid hrc
  have HN := Lib.hid hn
  clear hn hfa hfb hfc hra hrb hrc
  have HT : Hid (Tab w) := ht
  have HM : Hid (Mx w) := hm
  have H1 : Hid (FR w a1 c1 b1 d1 la ma) := h1
  have H2 : Hid (FR w a2 c2 b2 d2 lb mb) := h2
  have H3 : Hid (FR w a3 c3 b3 d3 lc mc) := h3
  clear ht hm h1 h2 h3
  have M : Hid (Below w.heap.size w w) := Below.refl _ _
  go_enter Tryz.func4, Tryz.ntmps4
  go_upto_region 1 with fail
  obtain ⟨w1, hv⟩ : ∃ w_ : World, w_ = (((w.alloc (.cells #[.int .i64 sa, .slice a1 la.length c1, .int .i64 ta, .slice b1 ma.length d1] 26)).alloc (.cells #[.int .i64 sb, .slice a2 lb.length c2, .int .i64 tb, .slice b2 mb.length d2] 26)).alloc (.cells #[.int .i64 sc, .slice a3 lc.length c3, .int .i64 tc, .slice b3 mc.length d3] 26)) := ⟨_, rfl⟩
  rw [← hv]
  have hbx := bx3 w 26 26 26 #[.int .i64 sa, .slice a1 la.length c1, .int .i64 ta, .slice b1 ma.length d1] #[.int .i64 sb, .slice a2 lb.length c2, .int .i64 tb, .slice b2 mb.length d2] #[.int .i64 sc, .slice a3 lc.length c3, .int .i64 tc, .slice b3 mc.length d3]
  rw [← hv] at hbx
  have hbn : Below w.heap.size w w1 := by rw [hv]; exact (Below.alloc (Below.alloc (Below.alloc (Below.refl _ _) (by simp <;> omega) _) (by simp <;> omega) _) (by simp <;> omega) _)
  replace M := Lib.hid (And.intro hbx.2.2 (And.intro hbx.2.1 (And.intro hbx.1 (Goes.go M.out hbn))))
  clear hbx hbn
  clear hv
  go_wp2_with fail
  refine (small_ok (G := G) (Nat.le_trans hG (M.out.2.2.2).size) (HT.out.keep (M.out.2.2.2)) (HM.out.keep (M.out.2.2.2))).mono ?_
  rintro e w2 ⟨rfl, hb⟩
  replace M := Lib.hid (Goes.go M.out hb)
  clear hb
  have y0 := (M.out.2.2.1).c4; have p0_0 := y0.1; have q0_0 := y0.2.1; have p0_1 := y0.2.2.1; have q0_1 := y0.2.2.2.1; have p0_2 := y0.2.2.2.2.1; have q0_2 := y0.2.2.2.2.2.1; have p0_3 := y0.2.2.2.2.2.2.1; have q0_3 := y0.2.2.2.2.2.2.2; clear y0
  go_wp2_with fail
  clear p0_0 q0_0 p0_1 q0_1 p0_2 q0_2 p0_3 q0_3
  refine (rfFew_ok (s := sa) (t := ta) (m := 12) (r := fa) HFa.out).mono ?_
  rintro e w3 ⟨rfl, hb⟩
  replace M := Lib.hid (Goes.go M.out hb)
  clear hb
  cases fa with
  | false =>
    go_wp2_with fail
    go_ret
    exact ⟨rfl, (M.out.2.2.2)⟩
  | true =>
    have y1 := (M.out.2.1).c4; have p1_0 := y1.1; have q1_0 := y1.2.1; have p1_1 := y1.2.2.1; have q1_1 := y1.2.2.2.1; have p1_2 := y1.2.2.2.2.1; have q1_2 := y1.2.2.2.2.2.1; have p1_3 := y1.2.2.2.2.2.2.1; have q1_3 := y1.2.2.2.2.2.2.2; clear y1
    go_wp2_with fail
    clear p1_0 q1_0 p1_1 q1_1 p1_2 q1_2 p1_3 q1_3
    refine (rfFew_ok (s := sb) (t := tb) (m := 12) (r := fb) HFb.out).mono ?_
    rintro e w4 ⟨rfl, hb⟩
    replace M := Lib.hid (Goes.go M.out hb)
    clear hb
    cases fb with
    | false =>
      go_wp2_with fail
      go_ret
      exact ⟨rfl, (M.out.2.2.2)⟩
    | true =>
      have y2 := (M.out.1).c4; have p2_0 := y2.1; have q2_0 := y2.2.1; have p2_1 := y2.2.2.1; have q2_1 := y2.2.2.2.1; have p2_2 := y2.2.2.2.2.1; have q2_2 := y2.2.2.2.2.2.1; have p2_3 := y2.2.2.2.2.2.2.1; have q2_3 := y2.2.2.2.2.2.2.2; clear y2
      go_wp2_with fail
      clear p2_0 q2_0 p2_1 q2_1 p2_2 q2_2 p2_3 q2_3
      refine (rfFew_ok (s := sc) (t := tc) (m := 12) (r := fc) HFc.out).mono ?_
      rintro e w5 ⟨rfl, hb⟩
      replace M := Lib.hid (Goes.go M.out hb)
      clear hb
      cases fc with
      | false =>
        go_wp2_with fail
        go_ret
        exact ⟨rfl, (M.out.2.2.2)⟩
      | true =>
        have y0 := (M.out.2.2.1).c4; have p0_0 := y0.1; have q0_0 := y0.2.1; have p0_1 := y0.2.2.1; have q0_1 := y0.2.2.2.1; have p0_2 := y0.2.2.2.2.1; have q0_2 := y0.2.2.2.2.2.1; have p0_3 := y0.2.2.2.2.2.2.1; have q0_3 := y0.2.2.2.2.2.2.2; clear y0
        go_wp2_with fail
        clear p0_0 q0_0 p0_1 q0_1 p0_2 q0_2 p0_3 q0_3
        refine (fracRight_len (s := sa) (t := ta) (l := la) (m := ma) (r := ra) (H1.out.keep (M.out.2.2.2)) rfl rfl (len_of5 HFa.out (by decide)).1 (len_of5 HFa.out (by decide)).2 HRa.out).mono ?_
        rintro e w6 ⟨rfl, hb⟩
        replace M := Lib.hid (Goes.go M.out hb)
        clear hb
        cases ra with
        | false =>
          go_wp2_with fail
          go_ret
          exact ⟨rfl, (M.out.2.2.2)⟩
        | true =>
          have y1 := (M.out.2.1).c4; have p1_0 := y1.1; have q1_0 := y1.2.1; have p1_1 := y1.2.2.1; have q1_1 := y1.2.2.2.1; have p1_2 := y1.2.2.2.2.1; have q1_2 := y1.2.2.2.2.2.1; have p1_3 := y1.2.2.2.2.2.2.1; have q1_3 := y1.2.2.2.2.2.2.2; clear y1
          go_wp2_with fail
          clear p1_0 q1_0 p1_1 q1_1 p1_2 q1_2 p1_3 q1_3
          refine (fracRight_len (s := sb) (t := tb) (l := lb) (m := mb) (r := rb) (H2.out.keep (M.out.2.2.2)) rfl rfl (len_of5 HFb.out (by decide)).1 (len_of5 HFb.out (by decide)).2 HRb.out).mono ?_
          rintro e w7 ⟨rfl, hb⟩
          replace M := Lib.hid (Goes.go M.out hb)
          clear hb
          cases rb with
          | false =>
            go_wp2_with fail
            go_ret
            exact ⟨rfl, (M.out.2.2.2)⟩
          | true =>
            have y2 := (M.out.1).c4; have p2_0 := y2.1; have q2_0 := y2.2.1; have p2_1 := y2.2.2.1; have q2_1 := y2.2.2.2.1; have p2_2 := y2.2.2.2.2.1; have q2_2 := y2.2.2.2.2.2.1; have p2_3 := y2.2.2.2.2.2.2.1; have q2_3 := y2.2.2.2.2.2.2.2; clear y2
            go_wp2_with fail
            clear p2_0 q2_0 p2_1 q2_1 p2_2 q2_2 p2_3 q2_3
            refine (fracRight_len (s := sc) (t := tc) (l := lc) (m := mc) (r := rc) (H3.out.keep (M.out.2.2.2)) rfl rfl (len_of5 HFc.out (by decide)).1 (len_of5 HFc.out (by decide)).2 HRc.out).mono ?_
            rintro e w8 ⟨rfl, hb⟩
            replace M := Lib.hid (Goes.go M.out hb)
            clear hb
            cases rc with
            | false =>
              go_wp2_with fail
              go_ret
              exact ⟨rfl, (M.out.2.2.2)⟩
            | true =>
              go_upto_region 4 with fail
              exact absurd HN.out (by decide)

set_option maxRecDepth 100000 in
set_option maxHeartbeats 4000000 in
theorem field_core_s27 {o : Option Rat} {er : Int} {bz nz : Bool} {q r u : Rat} {a1 b1 a2 b2 a3 b3 : Option Addr} {c1 d1 c2 d2 c3 d3 : Nat} {w : World}  {w61 : World} {a_201 b_203 a_195 b_197 : Option Addr} {c_202 d_204 c_196 d_198 : Nat} {z205 z206 : Int} {q199 : Rat} {B0 B1 B6 B7 : Nat} {x0_ x1_ x2_ x5_ x8_ x10_ x11_ x12_ x13_ x15_ x17_ x18_ x19_ x20_ x21_ x22_ x23_ x25_ x26_ x27_ x28_ x29_ x30_ x31_ x32_ x33_ x34_ x35_ x36_ x37_ x38_ x39_ x40_ x41_ x42_ x43_ x44_ x45_ x46_ x47_ x48_ x49_ x50_ x51_ x52_ x53_ x54_ x55_ x56_ x57_ x58_ x59_ x60_ x61_ x62_ x63_ x64_ x65_ x66_ x67_ x68_ x69_ x70_ x71_ x72_ x73_ x74_ x75_ x76_ x77_ x78_ x79_ x80_ x81_ x82_ x83_ x84_ x85_ x86_ x87_ x88_ x89_ x90_ x91_ x92_ x93_ x94_ x95_ x96_ x97_ x98_ x99_ x100_ x101_ x102_ x103_ x104_ x105_ x106_ x107_ x108_ x109_ x110_ x111_ x112_ x113_ x114_ x115_ x116_ x117_ x118_ x119_ x120_ x121_ x122_ x123_ x124_ x125_ x126_ x127_ x128_ x129_ x130_ x131_ x132_ x133_ x134_ x135_ x136_ x137_ x138_ x139_ x140_ x141_ x142_ x143_ x144_ x145_ x146_ x147_ x148_ x149_ x150_ x151_ x152_ x153_ x154_ x155_ x156_ x157_ x158_ x159_ x160_ x161_ x162_ x163_ x164_ x165_ x166_ x167_ x168_ x169_ x170_ x171_ x172_ x173_ x174_ x175_ x176_ x177_ x178_ x179_ x180_ x181_ x182_ x183_ x184_ x185_ x186_ x187_ x188_ x189_ x190_ x191_ x192_ x193_ x194_ x195_ x196_ x197_ x198_ x199_ x200_ x201_ x202_ x203_ x204_ x205_ x206_ x207_ x208_ x209_ x210_ x211_ x212_ x213_ x214_ x215_ x216_ x217_ x218_ x219_ x220_ x221_ x222_ x223_ x224_ x225_ x226_ x227_ x228_ x229_ x230_ x231_ x232_ x233_ x234_ x235_ x236_ x237_ x238_ x239_ x240_ x241_ x242_ x243_ x244_ x245_ x246_ x247_ x248_ x249_ x250_ x251_ x252_ x253_ x254_ x255_ x256_ x257_ x258_ x259_ x260_ x261_ x262_ x263_ x264_ x265_ x266_ x267_ x268_ x269_ x270_ x271_ x272_ x273_ x274_ x275_ x276_ x277_ x278_ x279_ x280_ x281_ x282_ x283_ x284_ x285_ x286_ x287_ x288_ x289_ x290_ x291_ x292_ x293_ x294_ x295_ x296_ x297_ x298_ x299_ x300_ x301_ x302_ x303_ x304_ x305_ x306_ x307_ x308_ x309_ x310_ x311_ x312_ x313_ x314_ x315_ x316_ x317_ x318_ x319_ x320_ x321_ x322_ x323_ x324_ x325_ x326_ x327_ x328_ x329_ x330_ x331_ x332_ : Value} (_hG : G ≤ w.heap.size) (_HQ : Hid (Fz q 12)) (_HR : Hid (Fz r 12)) (_HU : Hid (Fz u 12)) (_HO : Hid (divO (q * r) r = o)) (_HER : Hid (divE r = er)) (e15 : (er == 15) = bz) (e0 : (er == 0) = nz) (ez : (sg (nu r) == 0) = bz) (HNZ : Hid (bz = false → nz = true ∧ o = some q)) (_HZ1 : Hid (Sz (oN o) 100)) (_HZ2 : Hid (Sz (oD o) 100)) (_HT : Hid (Tab w)) (_HM : Hid (Mx w)) (H1 : Hid (FD G w a1 c1 b1 d1 q)) (_H2 : Hid (FD G w a2 c2 b2 d2 r)) (_H3 : Hid (FD G w a3 c3 b3 d3 u)) (Ez205 : Hid (z205 = ((oN o)))) (Sz205 : Hid (Sz z205 100)) (Ez206 : Hid (z206 = ((oD o)))) (Sz206 : Hid (Sz z206 100)) (Eq199 : Hid (q199 = (((((((((((((q + r))))))))))) - r)))) (Sq199 : Hid (Fz q199 38)) (_oB0 : w.heap.size ≤ B0) (_oB1 : B0 < B1) (_oB6 : B1 < B6) (_oB7 : B6 < B7) (M : Hid (BD G w61 a_201 c_202 z205 ∧ BD G w61 b_203 d_204 z206 ∧ FD G w61 a_195 c_196 b_197 d_198 q199 ∧ Bx w61 B0 26 #[.int .i64 (sg (nu q)), .slice a1 (ln (nu q)) c1, .int .i64 (sg (de q)), .slice b1 (ln (de q)) d1] ∧ Bx w61 B1 26 #[.int .i64 (sg (nu r)), .slice a2 (ln (nu r)) c2, .int .i64 (sg (de r)), .slice b2 (ln (de r)) d2] ∧ Bx w61 B6 26 #[.int .i64 (sg (nu q199)), .slice a_195 (ln (nu q199)) c_196, .int .i64 (sg (de q199)), .slice b_197 (ln (de q199)) d_198] ∧ Bx w61 B7 26 #[.int .i64 (sg z205), .slice a_201 (ln z205) c_202, .int .i64 (sg z206), .slice b_203 (ln z206) d_204] ∧ Below w.heap.size w w61)) :
    ∀ K : Act → World → Prop, (∀ a_ w_, Code.wp Tryz.prog (restAt Tryz.f4 27) (bodyPost Tryz.prog Tryz.f4 fun e w' => e = .returned (.bool true) ∧ Below w.heap.size w w') a_ w_ → K a_ w_) → Code.wp Tryz.prog (regAt Tryz.f4 27) (Exit.then K (bodyPost Tryz.prog Tryz.f4 fun e w' => e = .returned (.bool true) ∧ Below w.heap.size w w')) ⟨List.toArray (x0_ :: x1_ :: x2_ :: .pointer (some ⟨B0, 0, none⟩) :: .pointer (some ⟨B1, 0, none⟩) :: x5_ :: .bool false :: .bool true :: x8_ :: .bool true :: x10_ :: x11_ :: x12_ :: x13_ :: .pointer (some ⟨B6, 0, none⟩) :: x15_ :: .pointer (some ⟨B7, 0, none⟩) :: x17_ :: x18_ :: x19_ :: x20_ :: x21_ :: x22_ :: x23_ :: .int .i64 er :: x25_ :: x26_ :: x27_ :: x28_ :: x29_ :: x30_ :: x31_ :: x32_ :: x33_ :: x34_ :: x35_ :: x36_ :: x37_ :: x38_ :: x39_ :: x40_ :: x41_ :: x42_ :: x43_ :: x44_ :: x45_ :: x46_ :: x47_ :: x48_ :: x49_ :: x50_ :: x51_ :: x52_ :: x53_ :: x54_ :: x55_ :: x56_ :: x57_ :: x58_ :: x59_ :: x60_ :: x61_ :: x62_ :: x63_ :: x64_ :: x65_ :: x66_ :: x67_ :: x68_ :: x69_ :: x70_ :: x71_ :: x72_ :: x73_ :: x74_ :: x75_ :: x76_ :: x77_ :: x78_ :: x79_ :: x80_ :: x81_ :: x82_ :: x83_ :: x84_ :: x85_ :: x86_ :: x87_ :: x88_ :: x89_ :: x90_ :: x91_ :: x92_ :: x93_ :: x94_ :: x95_ :: x96_ :: x97_ :: x98_ :: x99_ :: x100_ :: x101_ :: x102_ :: x103_ :: x104_ :: x105_ :: x106_ :: x107_ :: x108_ :: x109_ :: x110_ :: x111_ :: x112_ :: x113_ :: x114_ :: x115_ :: x116_ :: x117_ :: x118_ :: x119_ :: x120_ :: x121_ :: x122_ :: x123_ :: x124_ :: x125_ :: x126_ :: x127_ :: x128_ :: x129_ :: x130_ :: x131_ :: x132_ :: x133_ :: x134_ :: x135_ :: x136_ :: x137_ :: x138_ :: x139_ :: x140_ :: x141_ :: x142_ :: x143_ :: x144_ :: x145_ :: x146_ :: x147_ :: x148_ :: x149_ :: x150_ :: x151_ :: x152_ :: x153_ :: x154_ :: x155_ :: x156_ :: x157_ :: x158_ :: x159_ :: x160_ :: x161_ :: x162_ :: x163_ :: x164_ :: x165_ :: x166_ :: x167_ :: x168_ :: x169_ :: x170_ :: x171_ :: x172_ :: x173_ :: x174_ :: x175_ :: x176_ :: x177_ :: x178_ :: x179_ :: x180_ :: x181_ :: x182_ :: x183_ :: x184_ :: x185_ :: x186_ :: x187_ :: x188_ :: x189_ :: x190_ :: x191_ :: x192_ :: x193_ :: x194_ :: x195_ :: x196_ :: x197_ :: x198_ :: x199_ :: x200_ :: x201_ :: x202_ :: x203_ :: x204_ :: x205_ :: x206_ :: x207_ :: x208_ :: x209_ :: x210_ :: x211_ :: x212_ :: x213_ :: x214_ :: x215_ :: x216_ :: x217_ :: x218_ :: x219_ :: x220_ :: x221_ :: x222_ :: x223_ :: x224_ :: x225_ :: x226_ :: x227_ :: x228_ :: x229_ :: x230_ :: x231_ :: x232_ :: x233_ :: x234_ :: x235_ :: x236_ :: x237_ :: x238_ :: x239_ :: x240_ :: x241_ :: x242_ :: x243_ :: x244_ :: x245_ :: x246_ :: x247_ :: x248_ :: x249_ :: x250_ :: x251_ :: x252_ :: x253_ :: x254_ :: x255_ :: x256_ :: x257_ :: x258_ :: x259_ :: x260_ :: x261_ :: x262_ :: x263_ :: x264_ :: x265_ :: x266_ :: x267_ :: x268_ :: x269_ :: x270_ :: x271_ :: x272_ :: x273_ :: x274_ :: x275_ :: x276_ :: x277_ :: x278_ :: x279_ :: x280_ :: x281_ :: x282_ :: x283_ :: x284_ :: x285_ :: x286_ :: x287_ :: x288_ :: x289_ :: x290_ :: x291_ :: x292_ :: x293_ :: x294_ :: x295_ :: x296_ :: x297_ :: x298_ :: x299_ :: x300_ :: x301_ :: x302_ :: x303_ :: x304_ :: x305_ :: x306_ :: x307_ :: x308_ :: x309_ :: x310_ :: x311_ :: x312_ :: x313_ :: x314_ :: x315_ :: x316_ :: x317_ :: x318_ :: x319_ :: x320_ :: x321_ :: x322_ :: x323_ :: x324_ :: x325_ :: x326_ :: x327_ :: x328_ :: x329_ :: x330_ :: x331_ :: x332_ :: []), []⟩ w61 := by
  intro Kst_ hst_
  conv => arg 2; whnf
  conv at hst_ => enter [a_, w_, 1, 2]; whnf
  have y1 := (M.out.2.2.2.2.1).c4; have p1_0 := y1.1; have q1_0 := y1.2.1; have p1_1 := y1.2.2.1; have q1_1 := y1.2.2.2.1; have p1_2 := y1.2.2.2.2.1; have q1_2 := y1.2.2.2.2.2.1; have p1_3 := y1.2.2.2.2.2.2.1; have q1_3 := y1.2.2.2.2.2.2.2; clear y1
  have y6 := (M.out.2.2.2.2.2.1).c4; have p6_0 := y6.1; have q6_0 := y6.2.1; have p6_1 := y6.2.2.1; have q6_1 := y6.2.2.2.1; have p6_2 := y6.2.2.2.2.1; have q6_2 := y6.2.2.2.2.2.1; have p6_3 := y6.2.2.2.2.2.2.1; have q6_3 := y6.2.2.2.2.2.2.2; clear y6
  have y0 := (M.out.2.2.2.1).c4; have p0_0 := y0.1; have q0_0 := y0.2.1; have p0_1 := y0.2.2.1; have q0_1 := y0.2.2.2.1; have p0_2 := y0.2.2.2.2.1; have q0_2 := y0.2.2.2.2.2.1; have p0_3 := y0.2.2.2.2.2.2.1; have q0_3 := y0.2.2.2.2.2.2.2; clear y0
  go_wp2_with fail
  clear p1_0 q1_0 p1_1 q1_1 p1_2 q1_2 p1_3 q1_3 p6_0 q6_0 p6_1 q6_1 p6_2 q6_2 p6_3 q6_3 p0_0 q0_0 p0_1 q0_1 p0_2 q0_2 p0_3 q0_3
  refine (rfsame_q (G := G) (q := q199) (r := q) (M.out.2.2.1) (H1.out.keep (M.out.2.2.2.2.2.2.2)) (Fz.mono Sq199.out (by omega)) (by rw [Eq199.out]; exact eqn_8 q r u)).mono ?_
  rintro e w62 ⟨rfl, hb⟩
  replace M := Lib.hid (Goes.go M.out hb)
  clear hb
  cases bz with
  | false =>
    have HOQ := Lib.hid (HNZ.out rfl).2
    obtain rfl := (HNZ.out rfl).1
    have y7 := (M.out.2.2.2.2.2.2.1).c4; have p7_0 := y7.1; have q7_0 := y7.2.1; have p7_1 := y7.2.2.1; have q7_1 := y7.2.2.2.1; have p7_2 := y7.2.2.2.2.1; have q7_2 := y7.2.2.2.2.2.1; have p7_3 := y7.2.2.2.2.2.2.1; have q7_3 := y7.2.2.2.2.2.2.2; clear y7
    have y0 := (M.out.2.2.2.1).c4; have p0_0 := y0.1; have q0_0 := y0.2.1; have p0_1 := y0.2.2.1; have q0_1 := y0.2.2.2.1; have p0_2 := y0.2.2.2.2.1; have q0_2 := y0.2.2.2.2.2.1; have p0_3 := y0.2.2.2.2.2.2.1; have q0_3 := y0.2.2.2.2.2.2.2; clear y0
    go_wp2_with fail
    clear p7_0 q7_0 p7_1 q7_1 p7_2 q7_2 p7_3 q7_3 p0_0 q0_0 p0_1 q0_1 p0_2 q0_2 p0_3 q0_3
    replace M := Lib.hid (And.intro (M.out.1) (And.intro (M.out.2.1) (M.out.2.2.2.2.2.2.2)))
    refine (rfsame_two (G := G) (x := z205) (y := z206) (u := (nu q)) (v := (de q)) (M.out.1) (M.out.2.1) (H1.out.keep (M.out.2.2)).n (H1.out.keep (M.out.2.2)).d (Sz.mono Sz205.out (by omega)) (Sz.mono Sz206.out (by omega)) (by rw [Ez205.out, HOQ.out]; rfl) (by rw [Ez206.out, HOQ.out]; rfl)).mono ?_
    rintro e w63 ⟨rfl, hb⟩
    replace M := Lib.hid (Goes.go M.out hb)
    clear hb
    go_wp2_with fail
    go_ret
    exact ⟨rfl, (M.out.2.2)⟩
  | true =>
    go_wp2_with fail
    go_ret
    exact ⟨rfl, (M.out.2.2.2.2.2.2.2)⟩

set_option maxRecDepth 100000 in
set_option maxHeartbeats 4000000 in
theorem field_core_s25 {o : Option Rat} {er : Int} {bz nz : Bool} {q r u : Rat} {a1 b1 a2 b2 a3 b3 : Option Addr} {c1 d1 c2 d2 c3 d3 : Nat} {w : World}  {w56 : World} {a_73 b_75 a_67 b_69 a_31 b_33 a_1 b_3 : Option Addr} {c_74 d_76 c_68 d_70 c_32 d_34 c_2 d_4 : Nat} {q77 q71 q35 q5 : Rat} {B0 B1 B3 B6 B7 B8 : Nat} {x0_ x1_ x2_ x5_ x10_ x11_ x12_ x13_ x15_ x17_ x19_ x20_ x21_ x22_ x23_ x24_ x25_ x26_ x27_ x28_ x29_ x30_ x31_ x32_ x33_ x34_ x35_ x36_ x37_ x38_ x39_ x40_ x41_ x42_ x43_ x44_ x45_ x46_ x47_ x48_ x49_ x50_ x51_ x52_ x53_ x54_ x55_ x56_ x57_ x58_ x59_ x60_ x61_ x62_ x63_ x64_ x65_ x66_ x67_ x68_ x69_ x70_ x71_ x72_ x73_ x74_ x75_ x76_ x77_ x78_ x79_ x80_ x81_ x82_ x83_ x84_ x85_ x86_ x87_ x88_ x89_ x90_ x91_ x92_ x93_ x94_ x95_ x96_ x97_ x98_ x99_ x100_ x101_ x102_ x103_ x104_ x105_ x106_ x107_ x108_ x109_ x110_ x111_ x112_ x113_ x114_ x115_ x116_ x117_ x118_ x119_ x120_ x121_ x122_ x123_ x124_ x125_ x126_ x127_ x128_ x129_ x130_ x131_ x132_ x133_ x134_ x135_ x136_ x137_ x138_ x139_ x140_ x141_ x142_ x143_ x144_ x145_ x146_ x147_ x148_ x149_ x150_ x151_ x152_ x153_ x154_ x155_ x156_ x157_ x158_ x159_ x160_ x161_ x162_ x163_ x164_ x165_ x166_ x167_ x168_ x169_ x170_ x171_ x172_ x173_ x174_ x175_ x176_ x177_ x178_ x179_ x180_ x181_ x182_ x183_ x184_ x185_ x186_ x187_ x188_ x189_ x190_ x191_ x192_ x193_ x194_ x195_ x196_ x197_ x198_ x199_ x200_ x201_ x202_ x203_ x204_ x205_ x206_ x207_ x208_ x209_ x210_ x211_ x212_ x213_ x214_ x215_ x216_ x217_ x218_ x219_ x220_ x221_ x222_ x223_ x224_ x225_ x226_ x227_ x228_ x229_ x230_ x231_ x232_ x233_ x234_ x235_ x236_ x237_ x238_ x239_ x240_ x241_ x242_ x243_ x244_ x245_ x246_ x247_ x248_ x249_ x250_ x251_ x252_ x253_ x254_ x255_ x256_ x257_ x258_ x259_ x260_ x261_ x262_ x263_ x264_ x265_ x266_ x267_ x268_ x269_ x270_ x271_ x272_ x273_ x274_ x275_ x276_ x277_ x278_ x279_ x280_ x281_ x282_ x283_ x284_ x285_ x286_ x287_ x288_ x289_ x290_ x291_ x292_ x293_ x294_ x295_ x296_ x297_ x298_ x299_ x300_ x301_ x302_ x303_ x304_ x305_ x306_ x307_ x308_ x309_ x310_ x311_ x312_ x313_ x314_ x315_ x316_ x317_ x318_ x319_ x320_ x321_ x322_ x323_ x324_ x325_ x326_ x327_ x328_ x329_ x330_ x331_ x332_ : Value} (hG : G ≤ w.heap.size) (HQ : Hid (Fz q 12)) (HR : Hid (Fz r 12)) (HU : Hid (Fz u 12)) (HO : Hid (divO (q * r) r = o)) (HER : Hid (divE r = er)) (e15 : (er == 15) = bz) (e0 : (er == 0) = nz) (ez : (sg (nu r) == 0) = bz) (HNZ : Hid (bz = false → nz = true ∧ o = some q)) (HZ1 : Hid (Sz (oN o) 100)) (HZ2 : Hid (Sz (oD o) 100)) (HT : Hid (Tab w)) (HM : Hid (Mx w)) (H1 : Hid (FD G w a1 c1 b1 d1 q)) (H2 : Hid (FD G w a2 c2 b2 d2 r)) (H3 : Hid (FD G w a3 c3 b3 d3 u)) (_Eq77 : Hid (q77 = (((((((q * u))) + ((((r * u)))))))))) (_Sq77 : Hid (Fz q77 49)) (_Eq71 : Hid (q71 = ((((((((((((q + r)))))))) * u)))))) (_Sq71 : Hid (Fz q71 37)) (Eq35 : Hid (q35 = (((((((q * r))))))))) (Sq35 : Hid (Fz q35 24)) (Eq5 : Hid (q5 = ((((((((((q + r)))))))))))) (Sq5 : Hid (Fz q5 25)) (oB0 : w.heap.size ≤ B0) (oB1 : B0 < B1) (oB3 : B1 < B3) (oB6 : B3 < B6) (oB7 : B6 < B7) (oB8 : B7 < B8) (M : Hid (FD G w56 a_73 c_74 b_75 d_76 q77 ∧ FD G w56 a_67 c_68 b_69 d_70 q71 ∧ FD G w56 a_31 c_32 b_33 d_34 q35 ∧ FD G w56 a_1 c_2 b_3 d_4 q5 ∧ Bx w56 B0 26 #[.int .i64 (sg (nu q)), .slice a1 (ln (nu q)) c1, .int .i64 (sg (de q)), .slice b1 (ln (de q)) d1] ∧ Bx w56 B1 26 #[.int .i64 (sg (nu r)), .slice a2 (ln (nu r)) c2, .int .i64 (sg (de r)), .slice b2 (ln (de r)) d2] ∧ Bx w56 B3 26 #[.int .i64 (sg (nu q5)), .slice a_1 (ln (nu q5)) c_2, .int .i64 (sg (de q5)), .slice b_3 (ln (de q5)) d_4] ∧ Bx w56 B6 26 #[.int .i64 (sg (nu q71)), .slice a_67 (ln (nu q71)) c_68, .int .i64 (sg (de q71)), .slice b_69 (ln (de q71)) d_70] ∧ Bx w56 B7 26 #[.int .i64 (sg (nu q77)), .slice a_73 (ln (nu q77)) c_74, .int .i64 (sg (de q77)), .slice b_75 (ln (de q77)) d_76] ∧ Bx w56 B8 26 #[.int .i64 (sg (nu q35)), .slice a_31 (ln (nu q35)) c_32, .int .i64 (sg (de q35)), .slice b_33 (ln (de q35)) d_34] ∧ Below w.heap.size w w56)) :
    ∀ K : Act → World → Prop, (∀ a_ w_, Code.wp Tryz.prog (restAt Tryz.f4 25) (bodyPost Tryz.prog Tryz.f4 fun e w' => e = .returned (.bool true) ∧ Below w.heap.size w w') a_ w_ → K a_ w_) → Code.wp Tryz.prog (regAt Tryz.f4 25) (Exit.then K (bodyPost Tryz.prog Tryz.f4 fun e w' => e = .returned (.bool true) ∧ Below w.heap.size w w')) ⟨List.toArray (x0_ :: x1_ :: x2_ :: .pointer (some ⟨B0, 0, none⟩) :: .pointer (some ⟨B1, 0, none⟩) :: x5_ :: .bool false :: .bool true :: .pointer (some ⟨B3, 0, none⟩) :: .bool true :: x10_ :: x11_ :: x12_ :: x13_ :: .pointer (some ⟨B6, 0, none⟩) :: x15_ :: .pointer (some ⟨B7, 0, none⟩) :: x17_ :: .pointer (some ⟨B8, 0, none⟩) :: x19_ :: x20_ :: x21_ :: x22_ :: x23_ :: x24_ :: x25_ :: x26_ :: x27_ :: x28_ :: x29_ :: x30_ :: x31_ :: x32_ :: x33_ :: x34_ :: x35_ :: x36_ :: x37_ :: x38_ :: x39_ :: x40_ :: x41_ :: x42_ :: x43_ :: x44_ :: x45_ :: x46_ :: x47_ :: x48_ :: x49_ :: x50_ :: x51_ :: x52_ :: x53_ :: x54_ :: x55_ :: x56_ :: x57_ :: x58_ :: x59_ :: x60_ :: x61_ :: x62_ :: x63_ :: x64_ :: x65_ :: x66_ :: x67_ :: x68_ :: x69_ :: x70_ :: x71_ :: x72_ :: x73_ :: x74_ :: x75_ :: x76_ :: x77_ :: x78_ :: x79_ :: x80_ :: x81_ :: x82_ :: x83_ :: x84_ :: x85_ :: x86_ :: x87_ :: x88_ :: x89_ :: x90_ :: x91_ :: x92_ :: x93_ :: x94_ :: x95_ :: x96_ :: x97_ :: x98_ :: x99_ :: x100_ :: x101_ :: x102_ :: x103_ :: x104_ :: x105_ :: x106_ :: x107_ :: x108_ :: x109_ :: x110_ :: x111_ :: x112_ :: x113_ :: x114_ :: x115_ :: x116_ :: x117_ :: x118_ :: x119_ :: x120_ :: x121_ :: x122_ :: x123_ :: x124_ :: x125_ :: x126_ :: x127_ :: x128_ :: x129_ :: x130_ :: x131_ :: x132_ :: x133_ :: x134_ :: x135_ :: x136_ :: x137_ :: x138_ :: x139_ :: x140_ :: x141_ :: x142_ :: x143_ :: x144_ :: x145_ :: x146_ :: x147_ :: x148_ :: x149_ :: x150_ :: x151_ :: x152_ :: x153_ :: x154_ :: x155_ :: x156_ :: x157_ :: x158_ :: x159_ :: x160_ :: x161_ :: x162_ :: x163_ :: x164_ :: x165_ :: x166_ :: x167_ :: x168_ :: x169_ :: x170_ :: x171_ :: x172_ :: x173_ :: x174_ :: x175_ :: x176_ :: x177_ :: x178_ :: x179_ :: x180_ :: x181_ :: x182_ :: x183_ :: x184_ :: x185_ :: x186_ :: x187_ :: x188_ :: x189_ :: x190_ :: x191_ :: x192_ :: x193_ :: x194_ :: x195_ :: x196_ :: x197_ :: x198_ :: x199_ :: x200_ :: x201_ :: x202_ :: x203_ :: x204_ :: x205_ :: x206_ :: x207_ :: x208_ :: x209_ :: x210_ :: x211_ :: x212_ :: x213_ :: x214_ :: x215_ :: x216_ :: x217_ :: x218_ :: x219_ :: x220_ :: x221_ :: x222_ :: x223_ :: x224_ :: x225_ :: x226_ :: x227_ :: x228_ :: x229_ :: x230_ :: x231_ :: x232_ :: x233_ :: x234_ :: x235_ :: x236_ :: x237_ :: x238_ :: x239_ :: x240_ :: x241_ :: x242_ :: x243_ :: x244_ :: x245_ :: x246_ :: x247_ :: x248_ :: x249_ :: x250_ :: x251_ :: x252_ :: x253_ :: x254_ :: x255_ :: x256_ :: x257_ :: x258_ :: x259_ :: x260_ :: x261_ :: x262_ :: x263_ :: x264_ :: x265_ :: x266_ :: x267_ :: x268_ :: x269_ :: x270_ :: x271_ :: x272_ :: x273_ :: x274_ :: x275_ :: x276_ :: x277_ :: x278_ :: x279_ :: x280_ :: x281_ :: x282_ :: x283_ :: x284_ :: x285_ :: x286_ :: x287_ :: x288_ :: x289_ :: x290_ :: x291_ :: x292_ :: x293_ :: x294_ :: x295_ :: x296_ :: x297_ :: x298_ :: x299_ :: x300_ :: x301_ :: x302_ :: x303_ :: x304_ :: x305_ :: x306_ :: x307_ :: x308_ :: x309_ :: x310_ :: x311_ :: x312_ :: x313_ :: x314_ :: x315_ :: x316_ :: x317_ :: x318_ :: x319_ :: x320_ :: x321_ :: x322_ :: x323_ :: x324_ :: x325_ :: x326_ :: x327_ :: x328_ :: x329_ :: x330_ :: x331_ :: x332_ :: []), []⟩ w56 := by
  intro Kst_ hst_
  conv => arg 2; whnf
  conv at hst_ => enter [a_, w_, 1, 2]; whnf
  have y3 := (M.out.2.2.2.2.2.2.1).c4; have p3_0 := y3.1; have q3_0 := y3.2.1; have p3_1 := y3.2.2.1; have q3_1 := y3.2.2.2.1; have p3_2 := y3.2.2.2.2.1; have q3_2 := y3.2.2.2.2.2.1; have p3_3 := y3.2.2.2.2.2.2.1; have q3_3 := y3.2.2.2.2.2.2.2; clear y3
  have y1 := (M.out.2.2.2.2.2.1).c4; have p1_0 := y1.1; have q1_0 := y1.2.1; have p1_1 := y1.2.2.1; have q1_1 := y1.2.2.2.1; have p1_2 := y1.2.2.2.2.1; have q1_2 := y1.2.2.2.2.2.1; have p1_3 := y1.2.2.2.2.2.2.1; have q1_3 := y1.2.2.2.2.2.2.2; clear y1
  go_wp2_with fail
  clear p3_0 q3_0 p3_1 q3_1 p3_2 q3_2 p3_3 q3_3 p1_0 q1_0 p1_1 q1_1 p1_2 q1_2 p1_3 q1_3
  obtain ⟨q199, eq199⟩ : ∃ v_ : Rat, v_ = (q5 - r) := ⟨_, rfl⟩
  refine (fracSub_ok (G := G) (q := q5) (r := r) (M.out.2.2.2.1) (H2.out.keep (M.out.2.2.2.2.2.2.2.2.2.2)) (Fz.mono Sq5.out (by omega)) (Fz.mono HR.out (by omega))).mono ?_
  rintro e w57 ⟨a_195, c_196, b_197, d_198, rfl, hd200, hb⟩
  rw [← eq199] at hd200 ⊢
  have Sq199 : Hid (Fz q199 38) := by show Fz q199 38; rw [eq199]; exact (Fz.sub Sq5.out HR.out)
  have Eq199 := Lib.hid eq199; clear eq199
  replace M := Lib.hid (And.intro hd200 (Goes.go M.out hb))
  clear hb hd200
  go_wp2_with fail
  refine (right_ok (G := G) (q := q199) (M.out.1) (Fz.mono Sq199.out (by omega))).mono ?_
  rintro e w58 ⟨rfl, hb⟩
  replace M := Lib.hid (Goes.go M.out hb)
  clear hb
  have y6 := (M.out.2.2.2.2.2.2.2.2.1).c4; have p6_0 := y6.1; have q6_0 := y6.2.1; have p6_1 := y6.2.2.1; have q6_1 := y6.2.2.2.1; have p6_2 := y6.2.2.2.2.1; have q6_2 := y6.2.2.2.2.2.1; have p6_3 := y6.2.2.2.2.2.2.1; have q6_3 := y6.2.2.2.2.2.2.2; clear y6
  go_upto_region 26 with fail
  clear p6_0 q6_0 p6_1 q6_1 p6_2 q6_2 p6_3 q6_3
  obtain ⟨w59, hv⟩ : ∃ w_ : World, w_ = ((((w58.setCell ⟨B6, 0, none⟩ (.int .i64 (sg (nu q199)))).setCell ⟨B6, 1, none⟩ (.slice a_195 (ln (nu q199)) c_196)).setCell ⟨B6, 2, none⟩ (.int .i64 (sg (de q199)))).setCell ⟨B6, 3, none⟩ (.slice b_197 (ln (de q199)) d_198)) := ⟨_, rfl⟩
  rw [← hv]
  have og : w58.grownBy w59 (some B6) := by rw [hv]; exact (only_setCell (only_setCell (only_setCell (only_setCell (World.grownBy.refl _ _) _) _) _) _)
  have hz : w.heap.size ≤ B6 := by omega
  have hk : Bx w59 B6 26 #[.int .i64 (sg (nu q199)), .slice a_195 (ln (nu q199)) c_196, .int .i64 (sg (de q199)), .slice b_197 (ln (de q199)) d_198] := by rw [hv]; exact (((((M.out.2.2.2.2.2.2.2.2.1).set 0 _).set 1 _).set 2 _).set 3 _)
  have hbw : Below w.heap.size w w59 := by rw [hv]; exact (Below.setCell (Below.setCell (Below.setCell (Below.setCell (M.out.2.2.2.2.2.2.2.2.2.2.2) (by omega) _) (by omega) _) (by omega) _) (by omega) _)
  replace M := Lib.hid (And.intro ((M.out.1).far (M.out.2.2.2.2.2.2.2.2.1) (by rfl) (by omega) og) (And.intro ((M.out.2.1).far (M.out.2.2.2.2.2.2.2.2.1) (by rfl) (by omega) og) (And.intro ((M.out.2.2.1).far (M.out.2.2.2.2.2.2.2.2.1) (by rfl) (by omega) og) (And.intro ((M.out.2.2.2.1).far (M.out.2.2.2.2.2.2.2.2.1) (by rfl) (by omega) og) (And.intro ((M.out.2.2.2.2.1).far (M.out.2.2.2.2.2.2.2.2.1) (by rfl) (by omega) og) (And.intro ((M.out.2.2.2.2.2.1).only og (by omega)) (And.intro ((M.out.2.2.2.2.2.2.1).only og (by omega)) (And.intro ((M.out.2.2.2.2.2.2.2.1).only og (by omega)) (And.intro hk (And.intro ((M.out.2.2.2.2.2.2.2.2.2.1).only og (by omega)) (And.intro ((M.out.2.2.2.2.2.2.2.2.2.2.1).only og (by omega)) hbw)))))))))))
  clear hk hbw og hv hz
  have y8 := (M.out.2.2.2.2.2.2.2.2.2.2.1).c4; have p8_0 := y8.1; have q8_0 := y8.2.1; have p8_1 := y8.2.2.1; have q8_1 := y8.2.2.2.1; have p8_2 := y8.2.2.2.2.1; have q8_2 := y8.2.2.2.2.2.1; have p8_3 := y8.2.2.2.2.2.2.1; have q8_3 := y8.2.2.2.2.2.2.2; clear y8
  have y1 := (M.out.2.2.2.2.2.2.1).c4; have p1_0 := y1.1; have q1_0 := y1.2.1; have p1_1 := y1.2.2.1; have q1_1 := y1.2.2.2.1; have p1_2 := y1.2.2.2.2.1; have q1_2 := y1.2.2.2.2.2.1; have p1_3 := y1.2.2.2.2.2.2.1; have q1_3 := y1.2.2.2.2.2.2.2; clear y1
  go_wp2_with fail
  clear p8_0 q8_0 p8_1 q8_1 p8_2 q8_2 p8_3 q8_3 p1_0 q1_0 p1_1 q1_1 p1_2 q1_2 p1_3 q1_3
  replace M := Lib.hid (And.intro (M.out.1) (And.intro (M.out.2.1) (And.intro (M.out.2.2.2.1) (And.intro (M.out.2.2.2.2.2.1) (And.intro (M.out.2.2.2.2.2.2.1) (And.intro (M.out.2.2.2.2.2.2.2.2.1) (And.intro (M.out.2.2.2.2.2.2.2.2.2.1) (M.out.2.2.2.2.2.2.2.2.2.2.2))))))))
  obtain ⟨z205, ez205⟩ : ∃ v_ : Int, v_ = (oN o) := ⟨_, rfl⟩
  obtain ⟨z206, ez206⟩ : ∃ v_ : Int, v_ = (oD o) := ⟨_, rfl⟩
  refine (fracDiv_any (G := G) (q := q35) (r := r) (o := o) (er := er) (Nat.le_trans hG (M.out.2.2.2.2.2.2.2).size) (M.out.2.2.1) (H2.out.keep (M.out.2.2.2.2.2.2.2)) (Fz.mono Sq35.out (by omega)) (Fz.mono HR.out (by omega)) (by rw [Eq35.out]; exact HO.out) HER.out).mono ?_
  rintro e w60 ⟨a_201, c_202, b_203, d_204, rfl, hd207, hd208, hb⟩
  rw [← ez205] at hd207 ⊢
  have Sz205 : Hid (Sz z205 100) := by show Sz z205 100; rw [ez205]; exact HZ1.out
  have Ez205 := Lib.hid ez205; clear ez205
  rw [← ez206] at hd208 ⊢
  have Sz206 : Hid (Sz z206 100) := by show Sz z206 100; rw [ez206]; exact HZ2.out
  have Ez206 := Lib.hid ez206; clear ez206
  replace M := Lib.hid (And.intro hd207 (And.intro hd208 (Goes.go M.out hb)))
  clear hb hd207 hd208
  have y7 := (M.out.2.2.2.2.2.2.2.2.1).c4; have p7_0 := y7.1; have q7_0 := y7.2.1; have p7_1 := y7.2.2.1; have q7_1 := y7.2.2.2.1; have p7_2 := y7.2.2.2.2.1; have q7_2 := y7.2.2.2.2.2.1; have p7_3 := y7.2.2.2.2.2.2.1; have q7_3 := y7.2.2.2.2.2.2.2; clear y7
  go_upto_region 27 with fail
  clear p7_0 q7_0 p7_1 q7_1 p7_2 q7_2 p7_3 q7_3
  obtain ⟨w61, hv⟩ : ∃ w_ : World, w_ = ((((w60.setCell ⟨B7, 0, none⟩ (.int .i64 (sg z205))).setCell ⟨B7, 1, none⟩ (.slice a_201 (ln z205) c_202)).setCell ⟨B7, 2, none⟩ (.int .i64 (sg z206))).setCell ⟨B7, 3, none⟩ (.slice b_203 (ln z206) d_204)) := ⟨_, rfl⟩
  rw [← hv]
  have og : w60.grownBy w61 (some B7) := by rw [hv]; exact (only_setCell (only_setCell (only_setCell (only_setCell (World.grownBy.refl _ _) _) _) _) _)
  have hz : w.heap.size ≤ B7 := by omega
  have hk : Bx w61 B7 26 #[.int .i64 (sg z205), .slice a_201 (ln z205) c_202, .int .i64 (sg z206), .slice b_203 (ln z206) d_204] := by rw [hv]; exact (((((M.out.2.2.2.2.2.2.2.2.1).set 0 _).set 1 _).set 2 _).set 3 _)
  have hbw : Below w.heap.size w w61 := by rw [hv]; exact (Below.setCell (Below.setCell (Below.setCell (Below.setCell (M.out.2.2.2.2.2.2.2.2.2) (by omega) _) (by omega) _) (by omega) _) (by omega) _)
  replace M := Lib.hid (And.intro ((M.out.1).far (M.out.2.2.2.2.2.2.2.2.1) (by rfl) (by omega) og) (And.intro ((M.out.2.1).far (M.out.2.2.2.2.2.2.2.2.1) (by rfl) (by omega) og) (And.intro ((M.out.2.2.1).far (M.out.2.2.2.2.2.2.2.2.1) (by rfl) (by omega) og) (And.intro ((M.out.2.2.2.1).far (M.out.2.2.2.2.2.2.2.2.1) (by rfl) (by omega) og) (And.intro ((M.out.2.2.2.2.1).far (M.out.2.2.2.2.2.2.2.2.1) (by rfl) (by omega) og) (And.intro ((M.out.2.2.2.2.2.1).only og (by omega)) (And.intro ((M.out.2.2.2.2.2.2.1).only og (by omega)) (And.intro ((M.out.2.2.2.2.2.2.2.1).only og (by omega)) (And.intro hk hbw)))))))))
  clear hk hbw og hv hz
  replace M := Lib.hid (And.intro (M.out.1) (And.intro (M.out.2.1) (And.intro (M.out.2.2.1) (And.intro (M.out.2.2.2.2.2.1) (And.intro (M.out.2.2.2.2.2.2.1) (And.intro (M.out.2.2.2.2.2.2.2.1) (And.intro (M.out.2.2.2.2.2.2.2.2.1) (M.out.2.2.2.2.2.2.2.2.2))))))))
  rename_i Kst_ hst_
  exact field_core_s27 hG HQ HR HU HO HER e15 e0 ez HNZ HZ1 HZ2 HT HM H1 H2 H3 Ez205 Sz205 Ez206 Sz206 (Lib.hid (by rw [Eq199.out, Eq5.out])) Sq199 (by omega) (by omega) (by omega) (by omega) M Kst_ hst_

set_option maxRecDepth 100000 in
set_option maxHeartbeats 4000000 in
theorem field_core_s22 {o : Option Rat} {er : Int} {bz nz : Bool} {q r u : Rat} {a1 b1 a2 b2 a3 b3 : Option Addr} {c1 d1 c2 d2 c3 d3 : Nat} {w : World}  {w52 : World} {a_84 b_86 a_73 b_75 a_67 b_69 a_31 b_33 a_1 b_3 : Option Addr} {c_85 d_87 c_74 d_76 c_68 d_70 c_32 d_34 c_2 d_4 : Nat} {q88 q77 q71 q35 q5 : Rat} {B0 B1 B3 B6 B7 B8 B12 : Nat} {x0_ x1_ x2_ x5_ x10_ x12_ x19_ x20_ x21_ x23_ x24_ x25_ x26_ x27_ x28_ x29_ x30_ x31_ x32_ x33_ x34_ x35_ x36_ x37_ x38_ x39_ x40_ x41_ x42_ x43_ x44_ x45_ x46_ x47_ x48_ x49_ x50_ x51_ x52_ x53_ x54_ x55_ x56_ x57_ x58_ x59_ x60_ x61_ x62_ x63_ x64_ x65_ x66_ x67_ x68_ x69_ x70_ x71_ x72_ x73_ x74_ x75_ x76_ x77_ x78_ x79_ x80_ x81_ x82_ x83_ x84_ x85_ x86_ x87_ x88_ x89_ x90_ x91_ x92_ x93_ x94_ x95_ x96_ x97_ x98_ x99_ x100_ x101_ x102_ x103_ x104_ x105_ x106_ x107_ x108_ x109_ x110_ x111_ x112_ x113_ x114_ x115_ x116_ x117_ x118_ x119_ x120_ x121_ x122_ x123_ x124_ x125_ x126_ x127_ x128_ x129_ x130_ x131_ x132_ x133_ x134_ x135_ x136_ x137_ x138_ x139_ x140_ x141_ x142_ x143_ x144_ x145_ x146_ x147_ x148_ x149_ x150_ x151_ x152_ x153_ x154_ x155_ x156_ x157_ x158_ x159_ x160_ x161_ x162_ x163_ x164_ x165_ x166_ x167_ x168_ x169_ x170_ x171_ x172_ x173_ x174_ x175_ x176_ x177_ x178_ x179_ x180_ x181_ x182_ x183_ x184_ x185_ x186_ x187_ x188_ x189_ x190_ x191_ x192_ x193_ x194_ x195_ x196_ x197_ x198_ x199_ x200_ x201_ x202_ x203_ x204_ x205_ x206_ x207_ x208_ x209_ x210_ x211_ x212_ x213_ x214_ x215_ x216_ x217_ x218_ x219_ x220_ x221_ x222_ x223_ x224_ x225_ x226_ x227_ x228_ x229_ x230_ x231_ x232_ x233_ x234_ x235_ x236_ x237_ x238_ x239_ x240_ x241_ x242_ x243_ x244_ x245_ x246_ x247_ x248_ x249_ x250_ x251_ x252_ x253_ x254_ x255_ x256_ x257_ x258_ x259_ x260_ x261_ x262_ x263_ x264_ x265_ x266_ x267_ x268_ x269_ x270_ x271_ x272_ x273_ x274_ x275_ x276_ x277_ x278_ x279_ x280_ x281_ x282_ x283_ x284_ x285_ x286_ x287_ x288_ x289_ x290_ x291_ x292_ x293_ x294_ x295_ x296_ x297_ x298_ x299_ x300_ x301_ x302_ x303_ x304_ x305_ x306_ x307_ x308_ x309_ x310_ x311_ x312_ x313_ x314_ x315_ x316_ x317_ x318_ x319_ x320_ x321_ x322_ x323_ x324_ x325_ x326_ x327_ x328_ x329_ x330_ x331_ x332_ : Value} (hG : G ≤ w.heap.size) (HQ : Hid (Fz q 12)) (HR : Hid (Fz r 12)) (HU : Hid (Fz u 12)) (HO : Hid (divO (q * r) r = o)) (HER : Hid (divE r = er)) (e15 : (er == 15) = bz) (e0 : (er == 0) = nz) (ez : (sg (nu r) == 0) = bz) (HNZ : Hid (bz = false → nz = true ∧ o = some q)) (HZ1 : Hid (Sz (oN o) 100)) (HZ2 : Hid (Sz (oD o) 100)) (HT : Hid (Tab w)) (HM : Hid (Mx w)) (H1 : Hid (FD G w a1 c1 b1 d1 q)) (H2 : Hid (FD G w a2 c2 b2 d2 r)) (H3 : Hid (FD G w a3 c3 b3 d3 u)) (Eq88 : Hid (q88 = ((q + (Rat.divInt 0 1))))) (Sq88 : Hid (Fz q88 23)) (Eq77 : Hid (q77 = ((((((q * u))) + ((((r * u))))))))) (Sq77 : Hid (Fz q77 49)) (Eq71 : Hid (q71 = (((((((((((q + r)))))))) * u))))) (Sq71 : Hid (Fz q71 37)) (Eq35 : Hid (q35 = ((((((q * r)))))))) (Sq35 : Hid (Fz q35 24)) (Eq5 : Hid (q5 = (((((((((q + r))))))))))) (Sq5 : Hid (Fz q5 25)) (oB0 : w.heap.size ≤ B0) (oB1 : B0 < B1) (oB3 : B1 < B3) (oB6 : B3 < B6) (oB7 : B6 < B7) (oB8 : B7 < B8) (oB12 : B8 < B12) (M : Hid (Bx w52 B12 26 #[.int .i64 (sg (nu q88)), .slice a_84 (ln (nu q88)) c_85, .int .i64 (sg (de q88)), .slice b_86 (ln (de q88)) d_87] ∧ FD G w52 a_84 c_85 b_86 d_87 q88 ∧ FD G w52 a_73 c_74 b_75 d_76 q77 ∧ FD G w52 a_67 c_68 b_69 d_70 q71 ∧ FD G w52 a_31 c_32 b_33 d_34 q35 ∧ FD G w52 a_1 c_2 b_3 d_4 q5 ∧ Bx w52 B0 26 #[.int .i64 (sg (nu q)), .slice a1 (ln (nu q)) c1, .int .i64 (sg (de q)), .slice b1 (ln (de q)) d1] ∧ Bx w52 B1 26 #[.int .i64 (sg (nu r)), .slice a2 (ln (nu r)) c2, .int .i64 (sg (de r)), .slice b2 (ln (de r)) d2] ∧ Bx w52 B3 26 #[.int .i64 (sg (nu q5)), .slice a_1 (ln (nu q5)) c_2, .int .i64 (sg (de q5)), .slice b_3 (ln (de q5)) d_4] ∧ Bx w52 B6 26 #[.int .i64 (sg (nu q71)), .slice a_67 (ln (nu q71)) c_68, .int .i64 (sg (de q71)), .slice b_69 (ln (de q71)) d_70] ∧ Bx w52 B7 26 #[.int .i64 (sg (nu q77)), .slice a_73 (ln (nu q77)) c_74, .int .i64 (sg (de q77)), .slice b_75 (ln (de q77)) d_76] ∧ Bx w52 B8 26 #[.int .i64 (sg (nu q35)), .slice a_31 (ln (nu q35)) c_32, .int .i64 (sg (de q35)), .slice b_33 (ln (de q35)) d_34] ∧ Below w.heap.size w w52)) :
    ∀ K : Act → World → Prop, (∀ a_ w_, Code.wp Tryz.prog (restAt Tryz.f4 22) (bodyPost Tryz.prog Tryz.f4 fun e w' => e = .returned (.bool true) ∧ Below w.heap.size w w') a_ w_ → K a_ w_) → Code.wp Tryz.prog (regAt Tryz.f4 22) (Exit.then K (bodyPost Tryz.prog Tryz.f4 fun e w' => e = .returned (.bool true) ∧ Below w.heap.size w w')) ⟨List.toArray (x0_ :: x1_ :: x2_ :: .pointer (some ⟨B0, 0, none⟩) :: .pointer (some ⟨B1, 0, none⟩) :: x5_ :: .bool false :: .bool true :: .pointer (some ⟨B3, 0, none⟩) :: .bool true :: x10_ :: .bool true :: x12_ :: .bool true :: .pointer (some ⟨B6, 0, none⟩) :: .bool true :: .pointer (some ⟨B7, 0, none⟩) :: .bool true :: .pointer (some ⟨B8, 0, none⟩) :: x19_ :: x20_ :: x21_ :: .pointer (some ⟨B12, 0, none⟩) :: x23_ :: x24_ :: x25_ :: x26_ :: x27_ :: x28_ :: x29_ :: x30_ :: x31_ :: x32_ :: x33_ :: x34_ :: x35_ :: x36_ :: x37_ :: x38_ :: x39_ :: x40_ :: x41_ :: x42_ :: x43_ :: x44_ :: x45_ :: x46_ :: x47_ :: x48_ :: x49_ :: x50_ :: x51_ :: x52_ :: x53_ :: x54_ :: x55_ :: x56_ :: x57_ :: x58_ :: x59_ :: x60_ :: x61_ :: x62_ :: x63_ :: x64_ :: x65_ :: x66_ :: x67_ :: x68_ :: x69_ :: x70_ :: x71_ :: x72_ :: x73_ :: x74_ :: x75_ :: x76_ :: x77_ :: x78_ :: x79_ :: x80_ :: x81_ :: x82_ :: x83_ :: x84_ :: x85_ :: x86_ :: x87_ :: x88_ :: x89_ :: x90_ :: x91_ :: x92_ :: x93_ :: x94_ :: x95_ :: x96_ :: x97_ :: x98_ :: x99_ :: x100_ :: x101_ :: x102_ :: x103_ :: x104_ :: x105_ :: x106_ :: x107_ :: x108_ :: x109_ :: x110_ :: x111_ :: x112_ :: x113_ :: x114_ :: x115_ :: x116_ :: x117_ :: x118_ :: x119_ :: x120_ :: x121_ :: x122_ :: x123_ :: x124_ :: x125_ :: x126_ :: x127_ :: x128_ :: x129_ :: x130_ :: x131_ :: x132_ :: x133_ :: x134_ :: x135_ :: x136_ :: x137_ :: x138_ :: x139_ :: x140_ :: x141_ :: x142_ :: x143_ :: x144_ :: x145_ :: x146_ :: x147_ :: x148_ :: x149_ :: x150_ :: x151_ :: x152_ :: x153_ :: x154_ :: x155_ :: x156_ :: x157_ :: x158_ :: x159_ :: x160_ :: x161_ :: x162_ :: x163_ :: x164_ :: x165_ :: x166_ :: x167_ :: x168_ :: x169_ :: x170_ :: x171_ :: x172_ :: x173_ :: x174_ :: x175_ :: x176_ :: x177_ :: x178_ :: x179_ :: x180_ :: x181_ :: x182_ :: x183_ :: x184_ :: x185_ :: x186_ :: x187_ :: x188_ :: x189_ :: x190_ :: x191_ :: x192_ :: x193_ :: x194_ :: x195_ :: x196_ :: x197_ :: x198_ :: x199_ :: x200_ :: x201_ :: x202_ :: x203_ :: x204_ :: x205_ :: x206_ :: x207_ :: x208_ :: x209_ :: x210_ :: x211_ :: x212_ :: x213_ :: x214_ :: x215_ :: x216_ :: x217_ :: x218_ :: x219_ :: x220_ :: x221_ :: x222_ :: x223_ :: x224_ :: x225_ :: x226_ :: x227_ :: x228_ :: x229_ :: x230_ :: x231_ :: x232_ :: x233_ :: x234_ :: x235_ :: x236_ :: x237_ :: x238_ :: x239_ :: x240_ :: x241_ :: x242_ :: x243_ :: x244_ :: x245_ :: x246_ :: x247_ :: x248_ :: x249_ :: x250_ :: x251_ :: x252_ :: x253_ :: x254_ :: x255_ :: x256_ :: x257_ :: x258_ :: x259_ :: x260_ :: x261_ :: x262_ :: x263_ :: x264_ :: x265_ :: x266_ :: x267_ :: x268_ :: x269_ :: x270_ :: x271_ :: x272_ :: x273_ :: x274_ :: x275_ :: x276_ :: x277_ :: x278_ :: x279_ :: x280_ :: x281_ :: x282_ :: x283_ :: x284_ :: x285_ :: x286_ :: x287_ :: x288_ :: x289_ :: x290_ :: x291_ :: x292_ :: x293_ :: x294_ :: x295_ :: x296_ :: x297_ :: x298_ :: x299_ :: x300_ :: x301_ :: x302_ :: x303_ :: x304_ :: x305_ :: x306_ :: x307_ :: x308_ :: x309_ :: x310_ :: x311_ :: x312_ :: x313_ :: x314_ :: x315_ :: x316_ :: x317_ :: x318_ :: x319_ :: x320_ :: x321_ :: x322_ :: x323_ :: x324_ :: x325_ :: x326_ :: x327_ :: x328_ :: x329_ :: x330_ :: x331_ :: x332_ :: []), []⟩ w52 := by
  intro Kst_ hst_
  conv => arg 2; whnf
  conv at hst_ => enter [a_, w_, 1, 2]; whnf
  go_upto_region 22 with fail
  go_cut [23, 17] (fun s23 s17 wx => ∃ (A148 : Nat), ∃ (a_137 : Option Addr), ∃ (c_138 : Nat), ∃ (b_139 : Option Addr), ∃ (d_140 : Nat), ∃ (a_142 : Option Addr), ∃ (c_143 : Nat), ∃ (b_144 : Option Addr), ∃ (d_145 : Nat), ∃ (q146 : Rat), s23 = .pointer (some ⟨A148, 0, none⟩) ∧ s17 = .bool true ∧ Hid (q146 = (q * (Rat.divInt 1 1))) ∧ Hid (Fz q146 22) ∧ B12 < A148 ∧ Hid (Bx wx A148 26 #[.int .i64 (sg (nu q146)), .slice a_142 (ln (nu q146)) c_143, .int .i64 (sg (de q146)), .slice b_144 (ln (de q146)) d_145] ∧ FD G wx a_142 c_143 b_144 d_145 q146 ∧ FD G wx a_137 c_138 b_139 d_140 (Rat.divInt 1 1) ∧ FD G wx a_84 c_85 b_86 d_87 q88 ∧ FD G wx a_73 c_74 b_75 d_76 q77 ∧ FD G wx a_67 c_68 b_69 d_70 q71 ∧ FD G wx a_31 c_32 b_33 d_34 q35 ∧ FD G wx a_1 c_2 b_3 d_4 q5 ∧ Bx wx B0 26 #[.int .i64 (sg (nu q)), .slice a1 (ln (nu q)) c1, .int .i64 (sg (de q)), .slice b1 (ln (de q)) d1] ∧ Bx wx B1 26 #[.int .i64 (sg (nu r)), .slice a2 (ln (nu r)) c2, .int .i64 (sg (de r)), .slice b2 (ln (de r)) d2] ∧ Bx wx B3 26 #[.int .i64 (sg (nu q5)), .slice a_1 (ln (nu q5)) c_2, .int .i64 (sg (de q5)), .slice b_3 (ln (de q5)) d_4] ∧ Bx wx B6 26 #[.int .i64 (sg (nu q71)), .slice a_67 (ln (nu q71)) c_68, .int .i64 (sg (de q71)), .slice b_69 (ln (de q71)) d_70] ∧ Bx wx B7 26 #[.int .i64 (sg (nu q77)), .slice a_73 (ln (nu q77)) c_74, .int .i64 (sg (de q77)), .slice b_75 (ln (de q77)) d_76] ∧ Bx wx B8 26 #[.int .i64 (sg (nu q35)), .slice a_31 (ln (nu q35)) c_32, .int .i64 (sg (de q35)), .slice b_33 (ln (de q35)) d_34] ∧ Bx wx B12 26 #[.int .i64 (sg (nu q88)), .slice a_84 (ln (nu q88)) c_85, .int .i64 (sg (de q88)), .slice b_86 (ln (de q88)) d_87] ∧ Below w.heap.size w wx))
  case first =>
    obtain ⟨w53, hv⟩ : ∃ w_ : World, w_ = w52.drew := ⟨_, rfl⟩
    replace M := Lib.hid (Goes.go M.out (hv ▸ below_drew _ : Below w52.heap.size w52 w53))
    refine wp_region_held_drew (S := (fun w' => w'.cell? ⟨B0, 0, none⟩ = some (.int .i64 (sg (nu q))) ∧ w'.cell? ⟨B0, 1, none⟩ = some (.slice a1 (ln (nu q)) c1) ∧ w'.cell? ⟨B0, 2, none⟩ = some (.int .i64 (sg (de q))) ∧ w'.cell? ⟨B0, 3, none⟩ = some (.slice b1 (ln (de q)) d1))) (by kernel_rfl) (by rw [← hv]; exact ⟨(M.out.2.2.2.2.2.2.1).at.1 0, (M.out.2.2.2.2.2.2.1).at.1 1, (M.out.2.2.2.2.2.2.1).at.1 2, (M.out.2.2.2.2.2.2.1).at.1 3⟩) (fun hH149 => ?_)
    rw [← hv] at hH149 ⊢
    clear hv
    refine tk at0 ?_
    refine wpAnyH_ready (rs := [1, 9]) (by kernel_rfl) (by simp) ?_
    refine AllReadyH.cons at1 (fun K hK => ?_) ?_
    ·
      go_simp
      refine (of_is (G := G) (x := 1) (y := 1) (q := (Rat.divInt 1 1)) (Nat.le_trans hG (M.out.2.2.2.2.2.2.2.2.2.2.2.2).size) (by decide) (by decide) (by decide) (by decide)).mono ?_
      rintro e w54 ⟨a_150, c_151, b_152, d_153, rfl, hd154, hb⟩
      replace M := Lib.hid (And.intro hd154 (Goes.go M.out hb))
      clear hb hd154
      (try go_wp2_with fail)
      refine hK.out _ _ (⟨(M.out.2.2.2.2.2.2.2.1).at.1 0, (M.out.2.2.2.2.2.2.2.1).at.1 1, (M.out.2.2.2.2.2.2.2.1).at.1 2, (M.out.2.2.2.2.2.2.2.1).at.1 3⟩) (fun hH155 => ?_)
      clear hK K hH149
      (try simp only [Act.put, List.setIfInBounds_toArray, List.set_cons_zero, List.set_cons_succ])
      refine wpAnyH_ready (rs := [2, 9]) (by kernel_rfl) (by simp) ?_
      refine AllReadyH.cons at2 (fun K hK => ?_) ?_
      ·
        go_simp
        obtain ⟨q160, eq160⟩ : ∃ v_ : Rat, v_ = (q * (Rat.divInt 1 1)) := ⟨_, rfl⟩
        refine (fracMul_ok (G := G) (q := q) (r := (Rat.divInt 1 1)) (Nat.le_trans hG (M.out.2.2.2.2.2.2.2.2.2.2.2.2.2).size) (H1.out.keep (M.out.2.2.2.2.2.2.2.2.2.2.2.2.2)) (M.out.1) (Fz.mono HQ.out (by omega)) (Fz.mono (fz_lit (q := (Rat.divInt 1 1)) rfl (by unfold Sz; decide) (by unfold Sz; decide) (by decide)) (by omega))).mono ?_
        rintro e w55 ⟨a_156, c_157, b_158, d_159, rfl, hd161, hb⟩
        rw [← eq160] at hd161 ⊢
        have Sq160 : Hid (Fz q160 22) := by show Fz q160 22; rw [eq160]; exact (Fz.mul HQ.out (fz_lit (q := (Rat.divInt 1 1)) rfl (by unfold Sz; decide) (by unfold Sz; decide) (by decide)))
        have Eq160 := Lib.hid eq160; clear eq160
        replace M := Lib.hid (And.intro hd161 (Goes.go M.out hb))
        clear hb hd161
        (try go_wp2_with fail)
        refine hK.out _ _ (⟨(M.out.2.2.2.2.2.2.2.2.1).at.1 0, (M.out.2.2.2.2.2.2.2.2.1).at.1 1, (M.out.2.2.2.2.2.2.2.2.1).at.1 2, (M.out.2.2.2.2.2.2.2.2.1).at.1 3⟩) (fun hH162 => ?_)
        clear hK K hH155
        (try simp only [Act.put, List.setIfInBounds_toArray, List.set_cons_zero, List.set_cons_succ])
        refine tk at3 ?_
        refine tk at4 ?_
        refine wpAnyH_ready (rs := [5, 9]) (by kernel_rfl) (by simp) ?_
        refine AllReadyH.cons at5 (fun K hK => ?_) ?_
        ·
          go_simp
          refine (right_ok (G := G) (q := q160) (M.out.1) (Fz.mono Sq160.out (by omega))).mono ?_
          rintro e w56 ⟨rfl, hb⟩
          replace M := Lib.hid (Goes.go M.out hb)
          clear hb
          (try go_wp2_with fail)
          refine hK.out _ _ (⟨(M.out.2.2.2.2.2.2.2.2.1).at.1 0, (M.out.2.2.2.2.2.2.2.2.1).at.1 1, (M.out.2.2.2.2.2.2.2.2.1).at.1 2, (M.out.2.2.2.2.2.2.2.2.1).at.1 3⟩) (fun hH163 => ?_)
          clear hK K hH162
          (try simp only [Act.put, List.setIfInBounds_toArray, List.set_cons_zero, List.set_cons_succ])
          refine tk at6 ?_
          refine tk at7 ?_
          refine tk at8 ?_
          refine wpAnyH_ready (rs := [9]) (by kernel_rfl) (by simp) ?_
          refine AllReadyH.cons at9 (fun K hK => ?_) AllReadyH.nil
          go_simp
          obtain ⟨w57, hv⟩ : ∃ w_ : World, w_ = (w56.alloc (.cells #[.int .i64 0, .slice none 0 0, .int .i64 0, .slice none 0 0] 26)) := ⟨_, rfl⟩
          rw [← hv]
          have o13 : B12 < w56.heap.size := ((M.out.2.2.1)).lt
          replace M := Lib.hid (And.intro (hv ▸ bx1 w56 26 #[.int .i64 0, .slice none 0 0, .int .i64 0, .slice none 0 0]) (Goes.go M.out (hv ▸ below_alloc _ _ : Below w56.heap.size w56 w57)))
          clear hv
          refine hK.out _ _ (⟨(M.out.2.2.2.2.2.2.2.2.2.1).at.1 0, (M.out.2.2.2.2.2.2.2.2.2.1).at.1 1, (M.out.2.2.2.2.2.2.2.2.2.1).at.1 2, (M.out.2.2.2.2.2.2.2.2.2.1).at.1 3⟩) (fun hH164 => ?_)
          clear hK K hH163
          (try simp only [Act.put, List.setIfInBounds_toArray, List.set_cons_zero, List.set_cons_succ])
          refine wpAnyH_ready (rs := [10]) (by kernel_rfl) (by simp) ?_
          refine AllReadyH.cons at10 (fun K hK => ?_) AllReadyH.nil
          have y13 := (M.out.1).c4; have p13_0 := y13.1; have q13_0 := y13.2.1; have p13_1 := y13.2.2.1; have q13_1 := y13.2.2.2.1; have p13_2 := y13.2.2.2.2.1; have q13_2 := y13.2.2.2.2.2.1; have p13_3 := y13.2.2.2.2.2.2.1; have q13_3 := y13.2.2.2.2.2.2.2; clear y13
          go_simp
          clear p13_0 q13_0 p13_1 q13_1 p13_2 q13_2 p13_3 q13_3
          obtain ⟨w58, hv⟩ : ∃ w_ : World, w_ = ((((w57.setCell ⟨w56.heap.size, 0, none⟩ (.int .i64 (sg (nu q160)))).setCell ⟨w56.heap.size, 1, none⟩ (.slice a_156 (ln (nu q160)) c_157)).setCell ⟨w56.heap.size, 2, none⟩ (.int .i64 (sg (de q160)))).setCell ⟨w56.heap.size, 3, none⟩ (.slice b_158 (ln (de q160)) d_159)) := ⟨_, rfl⟩
          rw [← hv]
          have og : w57.grownBy w58 (some w56.heap.size) := by rw [hv]; exact (only_setCell (only_setCell (only_setCell (only_setCell (World.grownBy.refl _ _) _) _) _) _)
          have hz : w.heap.size ≤ w56.heap.size := by omega
          have hk : Bx w58 w56.heap.size 26 #[.int .i64 (sg (nu q160)), .slice a_156 (ln (nu q160)) c_157, .int .i64 (sg (de q160)), .slice b_158 (ln (de q160)) d_159] := by rw [hv]; exact (((((M.out.1).set 0 _).set 1 _).set 2 _).set 3 _)
          have hbw : Below w.heap.size w w58 := by rw [hv]; exact (Below.setCell (Below.setCell (Below.setCell (Below.setCell (M.out.2.2.2.2.2.2.2.2.2.2.2.2.2.2.2) (by omega) _) (by omega) _) (by omega) _) (by omega) _)
          replace M := Lib.hid (And.intro hk (And.intro ((M.out.2.1).far (M.out.1) (by rfl) (by omega) og) (And.intro ((M.out.2.2.1).far (M.out.1) (by rfl) (by omega) og) (And.intro ((M.out.2.2.2.1).only og (by omega)) (And.intro ((M.out.2.2.2.2.1).far (M.out.1) (by rfl) (by omega) og) (And.intro ((M.out.2.2.2.2.2.1).far (M.out.1) (by rfl) (by omega) og) (And.intro ((M.out.2.2.2.2.2.2.1).far (M.out.1) (by rfl) (by omega) og) (And.intro ((M.out.2.2.2.2.2.2.2.1).far (M.out.1) (by rfl) (by omega) og) (And.intro ((M.out.2.2.2.2.2.2.2.2.1).far (M.out.1) (by rfl) (by omega) og) (And.intro ((M.out.2.2.2.2.2.2.2.2.2.1).only og (by omega)) (And.intro ((M.out.2.2.2.2.2.2.2.2.2.2.1).only og (by omega)) (And.intro ((M.out.2.2.2.2.2.2.2.2.2.2.2.1).only og (by omega)) (And.intro ((M.out.2.2.2.2.2.2.2.2.2.2.2.2.1).only og (by omega)) (And.intro ((M.out.2.2.2.2.2.2.2.2.2.2.2.2.2.1).only og (by omega)) (And.intro ((M.out.2.2.2.2.2.2.2.2.2.2.2.2.2.2.1).only og (by omega)) hbw)))))))))))))))
          clear hk hbw og hv hz
          refine hK.out _ _ (⟨(M.out.2.2.2.2.2.2.2.2.2.1).at.1 0, (M.out.2.2.2.2.2.2.2.2.2.1).at.1 1, (M.out.2.2.2.2.2.2.2.2.2.1).at.1 2, (M.out.2.2.2.2.2.2.2.2.2.1).at.1 3⟩) (fun hH165 => ?_)
          clear hK K hH164
          (try simp only [Act.put, List.setIfInBounds_toArray, List.set_cons_zero, List.set_cons_succ])
          refine tk at11 ?_
          refine wpAnyH_done (by kernel_rfl) ?_ _
          clear hH165
          go_wp2_with fail
          go_meet
          exact ⟨w56.heap.size, a_150, c_151, b_152, d_153, a_156, c_157, b_158, d_159, q160, rfl, rfl, Eq160, Sq160, (by omega), (M.out.1), (M.out.2.1), (M.out.2.2.1), (M.out.2.2.2.2.1), (M.out.2.2.2.2.2.1), (M.out.2.2.2.2.2.2.1), (M.out.2.2.2.2.2.2.2.1), (M.out.2.2.2.2.2.2.2.2.1), (M.out.2.2.2.2.2.2.2.2.2.1), (M.out.2.2.2.2.2.2.2.2.2.2.1), (M.out.2.2.2.2.2.2.2.2.2.2.2.1), (M.out.2.2.2.2.2.2.2.2.2.2.2.2.1), (M.out.2.2.2.2.2.2.2.2.2.2.2.2.2.1), (M.out.2.2.2.2.2.2.2.2.2.2.2.2.2.2.1), (M.out.2.2.2.1), (M.out.2.2.2.2.2.2.2.2.2.2.2.2.2.2.2)⟩
        refine AllReadyH.cons at9 (fun K hK => ?_) AllReadyH.nil
        go_simp
        obtain ⟨w56, hv⟩ : ∃ w_ : World, w_ = (w55.alloc (.cells #[.int .i64 0, .slice none 0 0, .int .i64 0, .slice none 0 0] 26)) := ⟨_, rfl⟩
        rw [← hv]
        have o13 : B12 < w55.heap.size := ((M.out.2.2.1)).lt
        replace M := Lib.hid (And.intro (hv ▸ bx1 w55 26 #[.int .i64 0, .slice none 0 0, .int .i64 0, .slice none 0 0]) (Goes.go M.out (hv ▸ below_alloc _ _ : Below w55.heap.size w55 w56)))
        clear hv
        refine hK.out _ _ (⟨(M.out.2.2.2.2.2.2.2.2.2.1).at.1 0, (M.out.2.2.2.2.2.2.2.2.2.1).at.1 1, (M.out.2.2.2.2.2.2.2.2.2.1).at.1 2, (M.out.2.2.2.2.2.2.2.2.2.1).at.1 3⟩) (fun hH166 => ?_)
        clear hK K hH162
        (try simp only [Act.put, List.setIfInBounds_toArray, List.set_cons_zero, List.set_cons_succ])
        refine wpAnyH_ready (rs := [5]) (by kernel_rfl) (by simp) ?_
        refine AllReadyH.cons at5 (fun K hK => ?_) AllReadyH.nil
        go_simp
        refine (right_ok (G := G) (q := q160) (M.out.2.1) (Fz.mono Sq160.out (by omega))).mono ?_
        rintro e w57 ⟨rfl, hb⟩
        replace M := Lib.hid (Goes.go M.out hb)
        clear hb
        (try go_wp2_with fail)
        refine hK.out _ _ (⟨(M.out.2.2.2.2.2.2.2.2.2.1).at.1 0, (M.out.2.2.2.2.2.2.2.2.2.1).at.1 1, (M.out.2.2.2.2.2.2.2.2.2.1).at.1 2, (M.out.2.2.2.2.2.2.2.2.2.1).at.1 3⟩) (fun hH167 => ?_)
        clear hK K hH166
        (try simp only [Act.put, List.setIfInBounds_toArray, List.set_cons_zero, List.set_cons_succ])
        refine tk at6 ?_
        refine tk at7 ?_
        refine tk at8 ?_
        refine wpAnyH_ready (rs := [10]) (by kernel_rfl) (by simp) ?_
        refine AllReadyH.cons at10 (fun K hK => ?_) AllReadyH.nil
        have y13 := (M.out.1).c4; have p13_0 := y13.1; have q13_0 := y13.2.1; have p13_1 := y13.2.2.1; have q13_1 := y13.2.2.2.1; have p13_2 := y13.2.2.2.2.1; have q13_2 := y13.2.2.2.2.2.1; have p13_3 := y13.2.2.2.2.2.2.1; have q13_3 := y13.2.2.2.2.2.2.2; clear y13
        go_simp
        clear p13_0 q13_0 p13_1 q13_1 p13_2 q13_2 p13_3 q13_3
        obtain ⟨w58, hv⟩ : ∃ w_ : World, w_ = ((((w57.setCell ⟨w55.heap.size, 0, none⟩ (.int .i64 (sg (nu q160)))).setCell ⟨w55.heap.size, 1, none⟩ (.slice a_156 (ln (nu q160)) c_157)).setCell ⟨w55.heap.size, 2, none⟩ (.int .i64 (sg (de q160)))).setCell ⟨w55.heap.size, 3, none⟩ (.slice b_158 (ln (de q160)) d_159)) := ⟨_, rfl⟩
        rw [← hv]
        have og : w57.grownBy w58 (some w55.heap.size) := by rw [hv]; exact (only_setCell (only_setCell (only_setCell (only_setCell (World.grownBy.refl _ _) _) _) _) _)
        have hz : w.heap.size ≤ w55.heap.size := by omega
        have hk : Bx w58 w55.heap.size 26 #[.int .i64 (sg (nu q160)), .slice a_156 (ln (nu q160)) c_157, .int .i64 (sg (de q160)), .slice b_158 (ln (de q160)) d_159] := by rw [hv]; exact (((((M.out.1).set 0 _).set 1 _).set 2 _).set 3 _)
        have hbw : Below w.heap.size w w58 := by rw [hv]; exact (Below.setCell (Below.setCell (Below.setCell (Below.setCell (M.out.2.2.2.2.2.2.2.2.2.2.2.2.2.2.2) (by omega) _) (by omega) _) (by omega) _) (by omega) _)
        replace M := Lib.hid (And.intro hk (And.intro ((M.out.2.1).far (M.out.1) (by rfl) (by omega) og) (And.intro ((M.out.2.2.1).far (M.out.1) (by rfl) (by omega) og) (And.intro ((M.out.2.2.2.1).only og (by omega)) (And.intro ((M.out.2.2.2.2.1).far (M.out.1) (by rfl) (by omega) og) (And.intro ((M.out.2.2.2.2.2.1).far (M.out.1) (by rfl) (by omega) og) (And.intro ((M.out.2.2.2.2.2.2.1).far (M.out.1) (by rfl) (by omega) og) (And.intro ((M.out.2.2.2.2.2.2.2.1).far (M.out.1) (by rfl) (by omega) og) (And.intro ((M.out.2.2.2.2.2.2.2.2.1).far (M.out.1) (by rfl) (by omega) og) (And.intro ((M.out.2.2.2.2.2.2.2.2.2.1).only og (by omega)) (And.intro ((M.out.2.2.2.2.2.2.2.2.2.2.1).only og (by omega)) (And.intro ((M.out.2.2.2.2.2.2.2.2.2.2.2.1).only og (by omega)) (And.intro ((M.out.2.2.2.2.2.2.2.2.2.2.2.2.1).only og (by omega)) (And.intro ((M.out.2.2.2.2.2.2.2.2.2.2.2.2.2.1).only og (by omega)) (And.intro ((M.out.2.2.2.2.2.2.2.2.2.2.2.2.2.2.1).only og (by omega)) hbw)))))))))))))))
        clear hk hbw og hv hz
        refine hK.out _ _ (⟨(M.out.2.2.2.2.2.2.2.2.2.1).at.1 0, (M.out.2.2.2.2.2.2.2.2.2.1).at.1 1, (M.out.2.2.2.2.2.2.2.2.2.1).at.1 2, (M.out.2.2.2.2.2.2.2.2.2.1).at.1 3⟩) (fun hH168 => ?_)
        clear hK K hH167
        (try simp only [Act.put, List.setIfInBounds_toArray, List.set_cons_zero, List.set_cons_succ])
        refine tk at11 ?_
        refine wpAnyH_done (by kernel_rfl) ?_ _
        clear hH168
        go_wp2_with fail
        go_meet
        exact ⟨w55.heap.size, a_150, c_151, b_152, d_153, a_156, c_157, b_158, d_159, q160, rfl, rfl, Eq160, Sq160, (by omega), (M.out.1), (M.out.2.1), (M.out.2.2.1), (M.out.2.2.2.2.1), (M.out.2.2.2.2.2.1), (M.out.2.2.2.2.2.2.1), (M.out.2.2.2.2.2.2.2.1), (M.out.2.2.2.2.2.2.2.2.1), (M.out.2.2.2.2.2.2.2.2.2.1), (M.out.2.2.2.2.2.2.2.2.2.2.1), (M.out.2.2.2.2.2.2.2.2.2.2.2.1), (M.out.2.2.2.2.2.2.2.2.2.2.2.2.1), (M.out.2.2.2.2.2.2.2.2.2.2.2.2.2.1), (M.out.2.2.2.2.2.2.2.2.2.2.2.2.2.2.1), (M.out.2.2.2.1), (M.out.2.2.2.2.2.2.2.2.2.2.2.2.2.2.2)⟩
      refine AllReadyH.cons at9 (fun K hK => ?_) AllReadyH.nil
      go_simp
      obtain ⟨w55, hv⟩ : ∃ w_ : World, w_ = (w54.alloc (.cells #[.int .i64 0, .slice none 0 0, .int .i64 0, .slice none 0 0] 26)) := ⟨_, rfl⟩
      rw [← hv]
      have o13 : B12 < w54.heap.size := ((M.out.2.1)).lt
      replace M := Lib.hid (And.intro (hv ▸ bx1 w54 26 #[.int .i64 0, .slice none 0 0, .int .i64 0, .slice none 0 0]) (Goes.go M.out (hv ▸ below_alloc _ _ : Below w54.heap.size w54 w55)))
      clear hv
      refine hK.out _ _ (⟨(M.out.2.2.2.2.2.2.2.2.1).at.1 0, (M.out.2.2.2.2.2.2.2.2.1).at.1 1, (M.out.2.2.2.2.2.2.2.2.1).at.1 2, (M.out.2.2.2.2.2.2.2.2.1).at.1 3⟩) (fun hH169 => ?_)
      clear hK K hH155
      (try simp only [Act.put, List.setIfInBounds_toArray, List.set_cons_zero, List.set_cons_succ])
      refine wpAnyH_ready (rs := [2]) (by kernel_rfl) (by simp) ?_
      refine AllReadyH.cons at2 (fun K hK => ?_) AllReadyH.nil
      go_simp
      obtain ⟨q174, eq174⟩ : ∃ v_ : Rat, v_ = (q * (Rat.divInt 1 1)) := ⟨_, rfl⟩
      refine (fracMul_ok (G := G) (q := q) (r := (Rat.divInt 1 1)) (Nat.le_trans hG (M.out.2.2.2.2.2.2.2.2.2.2.2.2.2.2).size) (H1.out.keep (M.out.2.2.2.2.2.2.2.2.2.2.2.2.2.2)) (M.out.2.1) (Fz.mono HQ.out (by omega)) (Fz.mono (fz_lit (q := (Rat.divInt 1 1)) rfl (by unfold Sz; decide) (by unfold Sz; decide) (by decide)) (by omega))).mono ?_
      rintro e w56 ⟨a_170, c_171, b_172, d_173, rfl, hd175, hb⟩
      rw [← eq174] at hd175 ⊢
      have Sq174 : Hid (Fz q174 22) := by show Fz q174 22; rw [eq174]; exact (Fz.mul HQ.out (fz_lit (q := (Rat.divInt 1 1)) rfl (by unfold Sz; decide) (by unfold Sz; decide) (by decide)))
      have Eq174 := Lib.hid eq174; clear eq174
      replace M := Lib.hid (And.intro hd175 (Goes.go M.out hb))
      clear hb hd175
      (try go_wp2_with fail)
      refine hK.out _ _ (⟨(M.out.2.2.2.2.2.2.2.2.2.1).at.1 0, (M.out.2.2.2.2.2.2.2.2.2.1).at.1 1, (M.out.2.2.2.2.2.2.2.2.2.1).at.1 2, (M.out.2.2.2.2.2.2.2.2.2.1).at.1 3⟩) (fun hH176 => ?_)
      clear hK K hH169
      (try simp only [Act.put, List.setIfInBounds_toArray, List.set_cons_zero, List.set_cons_succ])
      refine tk at3 ?_
      refine tk at4 ?_
      refine wpAnyH_ready (rs := [5]) (by kernel_rfl) (by simp) ?_
      refine AllReadyH.cons at5 (fun K hK => ?_) AllReadyH.nil
      go_simp
      refine (right_ok (G := G) (q := q174) (M.out.1) (Fz.mono Sq174.out (by omega))).mono ?_
      rintro e w57 ⟨rfl, hb⟩
      replace M := Lib.hid (Goes.go M.out hb)
      clear hb
      (try go_wp2_with fail)
      refine hK.out _ _ (⟨(M.out.2.2.2.2.2.2.2.2.2.1).at.1 0, (M.out.2.2.2.2.2.2.2.2.2.1).at.1 1, (M.out.2.2.2.2.2.2.2.2.2.1).at.1 2, (M.out.2.2.2.2.2.2.2.2.2.1).at.1 3⟩) (fun hH177 => ?_)
      clear hK K hH176
      (try simp only [Act.put, List.setIfInBounds_toArray, List.set_cons_zero, List.set_cons_succ])
      refine tk at6 ?_
      refine tk at7 ?_
      refine tk at8 ?_
      refine wpAnyH_ready (rs := [10]) (by kernel_rfl) (by simp) ?_
      refine AllReadyH.cons at10 (fun K hK => ?_) AllReadyH.nil
      have y13 := (M.out.2.1).c4; have p13_0 := y13.1; have q13_0 := y13.2.1; have p13_1 := y13.2.2.1; have q13_1 := y13.2.2.2.1; have p13_2 := y13.2.2.2.2.1; have q13_2 := y13.2.2.2.2.2.1; have p13_3 := y13.2.2.2.2.2.2.1; have q13_3 := y13.2.2.2.2.2.2.2; clear y13
      go_simp
      clear p13_0 q13_0 p13_1 q13_1 p13_2 q13_2 p13_3 q13_3
      obtain ⟨w58, hv⟩ : ∃ w_ : World, w_ = ((((w57.setCell ⟨w54.heap.size, 0, none⟩ (.int .i64 (sg (nu q174)))).setCell ⟨w54.heap.size, 1, none⟩ (.slice a_170 (ln (nu q174)) c_171)).setCell ⟨w54.heap.size, 2, none⟩ (.int .i64 (sg (de q174)))).setCell ⟨w54.heap.size, 3, none⟩ (.slice b_172 (ln (de q174)) d_173)) := ⟨_, rfl⟩
      rw [← hv]
      have og : w57.grownBy w58 (some w54.heap.size) := by rw [hv]; exact (only_setCell (only_setCell (only_setCell (only_setCell (World.grownBy.refl _ _) _) _) _) _)
      have hz : w.heap.size ≤ w54.heap.size := by omega
      have hk : Bx w58 w54.heap.size 26 #[.int .i64 (sg (nu q174)), .slice a_170 (ln (nu q174)) c_171, .int .i64 (sg (de q174)), .slice b_172 (ln (de q174)) d_173] := by rw [hv]; exact (((((M.out.2.1).set 0 _).set 1 _).set 2 _).set 3 _)
      have hbw : Below w.heap.size w w58 := by rw [hv]; exact (Below.setCell (Below.setCell (Below.setCell (Below.setCell (M.out.2.2.2.2.2.2.2.2.2.2.2.2.2.2.2) (by omega) _) (by omega) _) (by omega) _) (by omega) _)
      replace M := Lib.hid (And.intro ((M.out.1).far (M.out.2.1) (by rfl) (by omega) og) (And.intro hk (And.intro ((M.out.2.2.1).far (M.out.2.1) (by rfl) (by omega) og) (And.intro ((M.out.2.2.2.1).only og (by omega)) (And.intro ((M.out.2.2.2.2.1).far (M.out.2.1) (by rfl) (by omega) og) (And.intro ((M.out.2.2.2.2.2.1).far (M.out.2.1) (by rfl) (by omega) og) (And.intro ((M.out.2.2.2.2.2.2.1).far (M.out.2.1) (by rfl) (by omega) og) (And.intro ((M.out.2.2.2.2.2.2.2.1).far (M.out.2.1) (by rfl) (by omega) og) (And.intro ((M.out.2.2.2.2.2.2.2.2.1).far (M.out.2.1) (by rfl) (by omega) og) (And.intro ((M.out.2.2.2.2.2.2.2.2.2.1).only og (by omega)) (And.intro ((M.out.2.2.2.2.2.2.2.2.2.2.1).only og (by omega)) (And.intro ((M.out.2.2.2.2.2.2.2.2.2.2.2.1).only og (by omega)) (And.intro ((M.out.2.2.2.2.2.2.2.2.2.2.2.2.1).only og (by omega)) (And.intro ((M.out.2.2.2.2.2.2.2.2.2.2.2.2.2.1).only og (by omega)) (And.intro ((M.out.2.2.2.2.2.2.2.2.2.2.2.2.2.2.1).only og (by omega)) hbw)))))))))))))))
      clear hk hbw og hv hz
      refine hK.out _ _ (⟨(M.out.2.2.2.2.2.2.2.2.2.1).at.1 0, (M.out.2.2.2.2.2.2.2.2.2.1).at.1 1, (M.out.2.2.2.2.2.2.2.2.2.1).at.1 2, (M.out.2.2.2.2.2.2.2.2.2.1).at.1 3⟩) (fun hH178 => ?_)
      clear hK K hH177
      (try simp only [Act.put, List.setIfInBounds_toArray, List.set_cons_zero, List.set_cons_succ])
      refine tk at11 ?_
      refine wpAnyH_done (by kernel_rfl) ?_ _
      clear hH178
      go_wp2_with fail
      go_meet
      exact ⟨w54.heap.size, a_150, c_151, b_152, d_153, a_170, c_171, b_172, d_173, q174, rfl, rfl, Eq174, Sq174, (by omega), (M.out.2.1), (M.out.1), (M.out.2.2.1), (M.out.2.2.2.2.1), (M.out.2.2.2.2.2.1), (M.out.2.2.2.2.2.2.1), (M.out.2.2.2.2.2.2.2.1), (M.out.2.2.2.2.2.2.2.2.1), (M.out.2.2.2.2.2.2.2.2.2.1), (M.out.2.2.2.2.2.2.2.2.2.2.1), (M.out.2.2.2.2.2.2.2.2.2.2.2.1), (M.out.2.2.2.2.2.2.2.2.2.2.2.2.1), (M.out.2.2.2.2.2.2.2.2.2.2.2.2.2.1), (M.out.2.2.2.2.2.2.2.2.2.2.2.2.2.2.1), (M.out.2.2.2.1), (M.out.2.2.2.2.2.2.2.2.2.2.2.2.2.2.2)⟩
    refine AllReadyH.cons at9 (fun K hK => ?_) AllReadyH.nil
    go_simp
    obtain ⟨w54, hv⟩ : ∃ w_ : World, w_ = (w53.alloc (.cells #[.int .i64 0, .slice none 0 0, .int .i64 0, .slice none 0 0] 26)) := ⟨_, rfl⟩
    rw [← hv]
    have o13 : B12 < w53.heap.size := ((M.out.1)).lt
    replace M := Lib.hid (And.intro (hv ▸ bx1 w53 26 #[.int .i64 0, .slice none 0 0, .int .i64 0, .slice none 0 0]) (Goes.go M.out (hv ▸ below_alloc _ _ : Below w53.heap.size w53 w54)))
    clear hv
    refine hK.out _ _ (⟨(M.out.2.2.2.2.2.2.2.1).at.1 0, (M.out.2.2.2.2.2.2.2.1).at.1 1, (M.out.2.2.2.2.2.2.2.1).at.1 2, (M.out.2.2.2.2.2.2.2.1).at.1 3⟩) (fun hH179 => ?_)
    clear hK K hH149
    (try simp only [Act.put, List.setIfInBounds_toArray, List.set_cons_zero, List.set_cons_succ])
    refine wpAnyH_ready (rs := [1]) (by kernel_rfl) (by simp) ?_
    refine AllReadyH.cons at1 (fun K hK => ?_) AllReadyH.nil
    go_simp
    refine (of_is (G := G) (x := 1) (y := 1) (q := (Rat.divInt 1 1)) (Nat.le_trans hG (M.out.2.2.2.2.2.2.2.2.2.2.2.2.2).size) (by decide) (by decide) (by decide) (by decide)).mono ?_
    rintro e w55 ⟨a_180, c_181, b_182, d_183, rfl, hd184, hb⟩
    replace M := Lib.hid (And.intro hd184 (Goes.go M.out hb))
    clear hb hd184
    (try go_wp2_with fail)
    refine hK.out _ _ (⟨(M.out.2.2.2.2.2.2.2.2.1).at.1 0, (M.out.2.2.2.2.2.2.2.2.1).at.1 1, (M.out.2.2.2.2.2.2.2.2.1).at.1 2, (M.out.2.2.2.2.2.2.2.2.1).at.1 3⟩) (fun hH185 => ?_)
    clear hK K hH179
    (try simp only [Act.put, List.setIfInBounds_toArray, List.set_cons_zero, List.set_cons_succ])
    refine wpAnyH_ready (rs := [2]) (by kernel_rfl) (by simp) ?_
    refine AllReadyH.cons at2 (fun K hK => ?_) AllReadyH.nil
    go_simp
    obtain ⟨q190, eq190⟩ : ∃ v_ : Rat, v_ = (q * (Rat.divInt 1 1)) := ⟨_, rfl⟩
    refine (fracMul_ok (G := G) (q := q) (r := (Rat.divInt 1 1)) (Nat.le_trans hG (M.out.2.2.2.2.2.2.2.2.2.2.2.2.2.2).size) (H1.out.keep (M.out.2.2.2.2.2.2.2.2.2.2.2.2.2.2)) (M.out.1) (Fz.mono HQ.out (by omega)) (Fz.mono (fz_lit (q := (Rat.divInt 1 1)) rfl (by unfold Sz; decide) (by unfold Sz; decide) (by decide)) (by omega))).mono ?_
    rintro e w56 ⟨a_186, c_187, b_188, d_189, rfl, hd191, hb⟩
    rw [← eq190] at hd191 ⊢
    have Sq190 : Hid (Fz q190 22) := by show Fz q190 22; rw [eq190]; exact (Fz.mul HQ.out (fz_lit (q := (Rat.divInt 1 1)) rfl (by unfold Sz; decide) (by unfold Sz; decide) (by decide)))
    have Eq190 := Lib.hid eq190; clear eq190
    replace M := Lib.hid (And.intro hd191 (Goes.go M.out hb))
    clear hb hd191
    (try go_wp2_with fail)
    refine hK.out _ _ (⟨(M.out.2.2.2.2.2.2.2.2.2.1).at.1 0, (M.out.2.2.2.2.2.2.2.2.2.1).at.1 1, (M.out.2.2.2.2.2.2.2.2.2.1).at.1 2, (M.out.2.2.2.2.2.2.2.2.2.1).at.1 3⟩) (fun hH192 => ?_)
    clear hK K hH185
    (try simp only [Act.put, List.setIfInBounds_toArray, List.set_cons_zero, List.set_cons_succ])
    refine tk at3 ?_
    refine tk at4 ?_
    refine wpAnyH_ready (rs := [5]) (by kernel_rfl) (by simp) ?_
    refine AllReadyH.cons at5 (fun K hK => ?_) AllReadyH.nil
    go_simp
    refine (right_ok (G := G) (q := q190) (M.out.1) (Fz.mono Sq190.out (by omega))).mono ?_
    rintro e w57 ⟨rfl, hb⟩
    replace M := Lib.hid (Goes.go M.out hb)
    clear hb
    (try go_wp2_with fail)
    refine hK.out _ _ (⟨(M.out.2.2.2.2.2.2.2.2.2.1).at.1 0, (M.out.2.2.2.2.2.2.2.2.2.1).at.1 1, (M.out.2.2.2.2.2.2.2.2.2.1).at.1 2, (M.out.2.2.2.2.2.2.2.2.2.1).at.1 3⟩) (fun hH193 => ?_)
    clear hK K hH192
    (try simp only [Act.put, List.setIfInBounds_toArray, List.set_cons_zero, List.set_cons_succ])
    refine tk at6 ?_
    refine tk at7 ?_
    refine tk at8 ?_
    refine wpAnyH_ready (rs := [10]) (by kernel_rfl) (by simp) ?_
    refine AllReadyH.cons at10 (fun K hK => ?_) AllReadyH.nil
    have y13 := (M.out.2.2.1).c4; have p13_0 := y13.1; have q13_0 := y13.2.1; have p13_1 := y13.2.2.1; have q13_1 := y13.2.2.2.1; have p13_2 := y13.2.2.2.2.1; have q13_2 := y13.2.2.2.2.2.1; have p13_3 := y13.2.2.2.2.2.2.1; have q13_3 := y13.2.2.2.2.2.2.2; clear y13
    go_simp
    clear p13_0 q13_0 p13_1 q13_1 p13_2 q13_2 p13_3 q13_3
    obtain ⟨w58, hv⟩ : ∃ w_ : World, w_ = ((((w57.setCell ⟨w53.heap.size, 0, none⟩ (.int .i64 (sg (nu q190)))).setCell ⟨w53.heap.size, 1, none⟩ (.slice a_186 (ln (nu q190)) c_187)).setCell ⟨w53.heap.size, 2, none⟩ (.int .i64 (sg (de q190)))).setCell ⟨w53.heap.size, 3, none⟩ (.slice b_188 (ln (de q190)) d_189)) := ⟨_, rfl⟩
    rw [← hv]
    have og : w57.grownBy w58 (some w53.heap.size) := by rw [hv]; exact (only_setCell (only_setCell (only_setCell (only_setCell (World.grownBy.refl _ _) _) _) _) _)
    have hz : w.heap.size ≤ w53.heap.size := by omega
    have hk : Bx w58 w53.heap.size 26 #[.int .i64 (sg (nu q190)), .slice a_186 (ln (nu q190)) c_187, .int .i64 (sg (de q190)), .slice b_188 (ln (de q190)) d_189] := by rw [hv]; exact (((((M.out.2.2.1).set 0 _).set 1 _).set 2 _).set 3 _)
    have hbw : Below w.heap.size w w58 := by rw [hv]; exact (Below.setCell (Below.setCell (Below.setCell (Below.setCell (M.out.2.2.2.2.2.2.2.2.2.2.2.2.2.2.2) (by omega) _) (by omega) _) (by omega) _) (by omega) _)
    replace M := Lib.hid (And.intro ((M.out.1).far (M.out.2.2.1) (by rfl) (by omega) og) (And.intro ((M.out.2.1).far (M.out.2.2.1) (by rfl) (by omega) og) (And.intro hk (And.intro ((M.out.2.2.2.1).only og (by omega)) (And.intro ((M.out.2.2.2.2.1).far (M.out.2.2.1) (by rfl) (by omega) og) (And.intro ((M.out.2.2.2.2.2.1).far (M.out.2.2.1) (by rfl) (by omega) og) (And.intro ((M.out.2.2.2.2.2.2.1).far (M.out.2.2.1) (by rfl) (by omega) og) (And.intro ((M.out.2.2.2.2.2.2.2.1).far (M.out.2.2.1) (by rfl) (by omega) og) (And.intro ((M.out.2.2.2.2.2.2.2.2.1).far (M.out.2.2.1) (by rfl) (by omega) og) (And.intro ((M.out.2.2.2.2.2.2.2.2.2.1).only og (by omega)) (And.intro ((M.out.2.2.2.2.2.2.2.2.2.2.1).only og (by omega)) (And.intro ((M.out.2.2.2.2.2.2.2.2.2.2.2.1).only og (by omega)) (And.intro ((M.out.2.2.2.2.2.2.2.2.2.2.2.2.1).only og (by omega)) (And.intro ((M.out.2.2.2.2.2.2.2.2.2.2.2.2.2.1).only og (by omega)) (And.intro ((M.out.2.2.2.2.2.2.2.2.2.2.2.2.2.2.1).only og (by omega)) hbw)))))))))))))))
    clear hk hbw og hv hz
    refine hK.out _ _ (⟨(M.out.2.2.2.2.2.2.2.2.2.1).at.1 0, (M.out.2.2.2.2.2.2.2.2.2.1).at.1 1, (M.out.2.2.2.2.2.2.2.2.2.1).at.1 2, (M.out.2.2.2.2.2.2.2.2.2.1).at.1 3⟩) (fun hH194 => ?_)
    clear hK K hH193
    (try simp only [Act.put, List.setIfInBounds_toArray, List.set_cons_zero, List.set_cons_succ])
    refine tk at11 ?_
    refine wpAnyH_done (by kernel_rfl) ?_ _
    clear hH194
    go_wp2_with fail
    go_meet
    exact ⟨w53.heap.size, a_180, c_181, b_182, d_183, a_186, c_187, b_188, d_189, q190, rfl, rfl, Eq190, Sq190, (by omega), (M.out.2.2.1), (M.out.1), (M.out.2.1), (M.out.2.2.2.2.1), (M.out.2.2.2.2.2.1), (M.out.2.2.2.2.2.2.1), (M.out.2.2.2.2.2.2.2.1), (M.out.2.2.2.2.2.2.2.2.1), (M.out.2.2.2.2.2.2.2.2.2.1), (M.out.2.2.2.2.2.2.2.2.2.2.1), (M.out.2.2.2.2.2.2.2.2.2.2.2.1), (M.out.2.2.2.2.2.2.2.2.2.2.2.2.1), (M.out.2.2.2.2.2.2.2.2.2.2.2.2.2.1), (M.out.2.2.2.2.2.2.2.2.2.2.2.2.2.2.1), (M.out.2.2.2.1), (M.out.2.2.2.2.2.2.2.2.2.2.2.2.2.2.2)⟩
  case rest =>
    obtain ⟨A148, a_137, c_138, b_139, d_140, a_142, c_143, b_144, d_145, q146, rfl, rfl, Eq146, Sq146, oA148, M⟩ := hcut
    obtain ⟨w53, rfl⟩ : ∃ w_ : World, w_ = wc := ⟨_, rfl⟩
    have y6 := (M.out.2.2.2.2.2.2.2.2.2.2.2.1).c4; have p6_0 := y6.1; have q6_0 := y6.2.1; have p6_1 := y6.2.2.1; have q6_1 := y6.2.2.2.1; have p6_2 := y6.2.2.2.2.1; have q6_2 := y6.2.2.2.2.2.1; have p6_3 := y6.2.2.2.2.2.2.1; have q6_3 := y6.2.2.2.2.2.2.2; clear y6
    have y7 := (M.out.2.2.2.2.2.2.2.2.2.2.2.2.1).c4; have p7_0 := y7.1; have q7_0 := y7.2.1; have p7_1 := y7.2.2.1; have q7_1 := y7.2.2.2.1; have p7_2 := y7.2.2.2.2.1; have q7_2 := y7.2.2.2.2.2.1; have p7_3 := y7.2.2.2.2.2.2.1; have q7_3 := y7.2.2.2.2.2.2.2; clear y7
    go_wp2_with fail
    clear p6_0 q6_0 p6_1 q6_1 p6_2 q6_2 p6_3 q6_3 p7_0 q7_0 p7_1 q7_1 p7_2 q7_2 p7_3 q7_3
    refine (rfsame_q (G := G) (q := q71) (r := q77) (M.out.2.2.2.2.2.1) (M.out.2.2.2.2.1) (Fz.mono Sq71.out (by omega)) (by rw [Eq77.out, Eq71.out]; exact eqn_5 q r u)).mono ?_
    rintro e w54 ⟨rfl, hb⟩
    replace M := Lib.hid (Goes.go M.out hb)
    clear hb
    have y12 := (M.out.2.2.2.2.2.2.2.2.2.2.2.2.2.2.1).c4; have p12_0 := y12.1; have q12_0 := y12.2.1; have p12_1 := y12.2.2.1; have q12_1 := y12.2.2.2.1; have p12_2 := y12.2.2.2.2.1; have q12_2 := y12.2.2.2.2.2.1; have p12_3 := y12.2.2.2.2.2.2.1; have q12_3 := y12.2.2.2.2.2.2.2; clear y12
    have y0 := (M.out.2.2.2.2.2.2.2.2.1).c4; have p0_0 := y0.1; have q0_0 := y0.2.1; have p0_1 := y0.2.2.1; have q0_1 := y0.2.2.2.1; have p0_2 := y0.2.2.2.2.1; have q0_2 := y0.2.2.2.2.2.1; have p0_3 := y0.2.2.2.2.2.2.1; have q0_3 := y0.2.2.2.2.2.2.2; clear y0
    go_wp2_with fail
    clear p12_0 q12_0 p12_1 q12_1 p12_2 q12_2 p12_3 q12_3 p0_0 q0_0 p0_1 q0_1 p0_2 q0_2 p0_3 q0_3
    refine (rfsame_q (G := G) (q := q88) (r := q) (M.out.2.2.2.1) (H1.out.keep (M.out.2.2.2.2.2.2.2.2.2.2.2.2.2.2.2)) (Fz.mono Sq88.out (by omega)) (by rw [Eq88.out]; exact eqn_6 q r u)).mono ?_
    rintro e w55 ⟨rfl, hb⟩
    replace M := Lib.hid (Goes.go M.out hb)
    clear hb
    have y13 := (M.out.1).c4; have p13_0 := y13.1; have q13_0 := y13.2.1; have p13_1 := y13.2.2.1; have q13_1 := y13.2.2.2.1; have p13_2 := y13.2.2.2.2.1; have q13_2 := y13.2.2.2.2.2.1; have p13_3 := y13.2.2.2.2.2.2.1; have q13_3 := y13.2.2.2.2.2.2.2; clear y13
    have y0 := (M.out.2.2.2.2.2.2.2.2.1).c4; have p0_0 := y0.1; have q0_0 := y0.2.1; have p0_1 := y0.2.2.1; have q0_1 := y0.2.2.2.1; have p0_2 := y0.2.2.2.2.1; have q0_2 := y0.2.2.2.2.2.1; have p0_3 := y0.2.2.2.2.2.2.1; have q0_3 := y0.2.2.2.2.2.2.2; clear y0
    go_wp2_with fail
    clear p13_0 q13_0 p13_1 q13_1 p13_2 q13_2 p13_3 q13_3 p0_0 q0_0 p0_1 q0_1 p0_2 q0_2 p0_3 q0_3
    replace M := Lib.hid (And.intro (M.out.2.1) (And.intro (M.out.2.2.2.2.1) (And.intro (M.out.2.2.2.2.2.1) (And.intro (M.out.2.2.2.2.2.2.1) (And.intro (M.out.2.2.2.2.2.2.2.1) (And.intro (M.out.2.2.2.2.2.2.2.2.1) (And.intro (M.out.2.2.2.2.2.2.2.2.2.1) (And.intro (M.out.2.2.2.2.2.2.2.2.2.2.1) (And.intro (M.out.2.2.2.2.2.2.2.2.2.2.2.1) (And.intro (M.out.2.2.2.2.2.2.2.2.2.2.2.2.1) (And.intro (M.out.2.2.2.2.2.2.2.2.2.2.2.2.2.1) (M.out.2.2.2.2.2.2.2.2.2.2.2.2.2.2.2))))))))))))
    refine (rfsame_q (G := G) (q := q146) (r := q) (M.out.1) (H1.out.keep (M.out.2.2.2.2.2.2.2.2.2.2.2)) (Fz.mono Sq146.out (by omega)) (by rw [Eq146.out]; exact eqn_7 q r u)).mono ?_
    rintro e w56 ⟨rfl, hb⟩
    replace M := Lib.hid (Goes.go M.out hb)
    clear hb
    go_upto_region 25 with fail
    replace M := Lib.hid (And.intro (M.out.2.1) (And.intro (M.out.2.2.1) (And.intro (M.out.2.2.2.1) (And.intro (M.out.2.2.2.2.1) (And.intro (M.out.2.2.2.2.2.1) (And.intro (M.out.2.2.2.2.2.2.1) (And.intro (M.out.2.2.2.2.2.2.2.1) (And.intro (M.out.2.2.2.2.2.2.2.2.1) (And.intro (M.out.2.2.2.2.2.2.2.2.2.1) (And.intro (M.out.2.2.2.2.2.2.2.2.2.2.1) (M.out.2.2.2.2.2.2.2.2.2.2.2)))))))))))
    rename_i Kst_ hst_
    exact field_core_s25 hG HQ HR HU HO HER e15 e0 ez HNZ HZ1 HZ2 HT HM H1 H2 H3 Eq77 Sq77 Eq71 Sq71 Eq35 Sq35 Eq5 Sq5 (by omega) (by omega) (by omega) (by omega) (by omega) (by omega) M Kst_ hst_

set_option maxRecDepth 100000 in
set_option maxHeartbeats 4000000 in
theorem field_core_s21 {o : Option Rat} {er : Int} {bz nz : Bool} {q r u : Rat} {a1 b1 a2 b2 a3 b3 : Option Addr} {c1 d1 c2 d2 c3 d3 : Nat} {w : World}  {w51 : World} {a_73 b_75 a_67 b_69 a_31 b_33 a_1 b_3 : Option Addr} {c_74 d_76 c_68 d_70 c_32 d_34 c_2 d_4 : Nat} {q77 q71 q35 q5 : Rat} {B0 B1 B3 B6 B7 B8 : Nat} {x0_ x1_ x2_ x5_ x10_ x12_ x19_ x20_ x21_ x22_ x23_ x24_ x25_ x26_ x27_ x28_ x29_ x30_ x31_ x32_ x33_ x34_ x35_ x36_ x37_ x38_ x39_ x40_ x41_ x42_ x43_ x44_ x45_ x46_ x47_ x48_ x49_ x50_ x51_ x52_ x53_ x54_ x55_ x56_ x57_ x58_ x59_ x60_ x61_ x62_ x63_ x64_ x65_ x66_ x67_ x68_ x69_ x70_ x71_ x72_ x73_ x74_ x75_ x76_ x77_ x78_ x79_ x80_ x81_ x82_ x83_ x84_ x85_ x86_ x87_ x88_ x89_ x90_ x91_ x92_ x93_ x94_ x95_ x96_ x97_ x98_ x99_ x100_ x101_ x102_ x103_ x104_ x105_ x106_ x107_ x108_ x109_ x110_ x111_ x112_ x113_ x114_ x115_ x116_ x117_ x118_ x119_ x120_ x121_ x122_ x123_ x124_ x125_ x126_ x127_ x128_ x129_ x130_ x131_ x132_ x133_ x134_ x135_ x136_ x137_ x138_ x139_ x140_ x141_ x142_ x143_ x144_ x145_ x146_ x147_ x148_ x149_ x150_ x151_ x152_ x153_ x154_ x155_ x156_ x157_ x158_ x159_ x160_ x161_ x162_ x163_ x164_ x165_ x166_ x167_ x168_ x169_ x170_ x171_ x172_ x173_ x174_ x175_ x176_ x177_ x178_ x179_ x180_ x181_ x182_ x183_ x184_ x185_ x186_ x187_ x188_ x189_ x190_ x191_ x192_ x193_ x194_ x195_ x196_ x197_ x198_ x199_ x200_ x201_ x202_ x203_ x204_ x205_ x206_ x207_ x208_ x209_ x210_ x211_ x212_ x213_ x214_ x215_ x216_ x217_ x218_ x219_ x220_ x221_ x222_ x223_ x224_ x225_ x226_ x227_ x228_ x229_ x230_ x231_ x232_ : Value} (hG : G ≤ w.heap.size) (HQ : Hid (Fz q 12)) (HR : Hid (Fz r 12)) (HU : Hid (Fz u 12)) (HO : Hid (divO (q * r) r = o)) (HER : Hid (divE r = er)) (e15 : (er == 15) = bz) (e0 : (er == 0) = nz) (ez : (sg (nu r) == 0) = bz) (HNZ : Hid (bz = false → nz = true ∧ o = some q)) (HZ1 : Hid (Sz (oN o) 100)) (HZ2 : Hid (Sz (oD o) 100)) (HT : Hid (Tab w)) (HM : Hid (Mx w)) (H1 : Hid (FD G w a1 c1 b1 d1 q)) (H2 : Hid (FD G w a2 c2 b2 d2 r)) (H3 : Hid (FD G w a3 c3 b3 d3 u)) (Eq77 : Hid (q77 = (((((q * u))) + ((((r * u)))))))) (Sq77 : Hid (Fz q77 49)) (Eq71 : Hid (q71 = ((((((((((q + r)))))))) * u)))) (Sq71 : Hid (Fz q71 37)) (Eq35 : Hid (q35 = (((((q * r))))))) (Sq35 : Hid (Fz q35 24)) (Eq5 : Hid (q5 = ((((((((q + r)))))))))) (Sq5 : Hid (Fz q5 25)) (oB0 : w.heap.size ≤ B0) (oB1 : B0 < B1) (oB3 : B1 < B3) (oB6 : B3 < B6) (oB7 : B6 < B7) (oB8 : B7 < B8) (M : Hid (FD G w51 a_73 c_74 b_75 d_76 q77 ∧ FD G w51 a_67 c_68 b_69 d_70 q71 ∧ Bx w51 B8 26 #[.int .i64 (sg (nu q35)), .slice a_31 (ln (nu q35)) c_32, .int .i64 (sg (de q35)), .slice b_33 (ln (de q35)) d_34] ∧ FD G w51 a_31 c_32 b_33 d_34 q35 ∧ Bx w51 B7 26 #[.int .i64 (sg (nu q77)), .slice a_73 (ln (nu q77)) c_74, .int .i64 (sg (de q77)), .slice b_75 (ln (de q77)) d_76] ∧ Bx w51 B6 26 #[.int .i64 (sg (nu q71)), .slice a_67 (ln (nu q71)) c_68, .int .i64 (sg (de q71)), .slice b_69 (ln (de q71)) d_70] ∧ Bx w51 B3 26 #[.int .i64 (sg (nu q5)), .slice a_1 (ln (nu q5)) c_2, .int .i64 (sg (de q5)), .slice b_3 (ln (de q5)) d_4] ∧ FD G w51 a_1 c_2 b_3 d_4 q5 ∧ Bx w51 B1 26 #[.int .i64 (sg (nu r)), .slice a2 (ln (nu r)) c2, .int .i64 (sg (de r)), .slice b2 (ln (de r)) d2] ∧ Bx w51 B0 26 #[.int .i64 (sg (nu q)), .slice a1 (ln (nu q)) c1, .int .i64 (sg (de q)), .slice b1 (ln (de q)) d1] ∧ Below w.heap.size w w51)) :
    ∀ K : Act → World → Prop, (∀ a_ w_, Code.wp Tryz.prog (restAt Tryz.f4 21) (bodyPost Tryz.prog Tryz.f4 fun e w' => e = .returned (.bool true) ∧ Below w.heap.size w w') a_ w_ → K a_ w_) → Code.wp Tryz.prog (regAt Tryz.f4 21) (Exit.then K (bodyPost Tryz.prog Tryz.f4 fun e w' => e = .returned (.bool true) ∧ Below w.heap.size w w')) ⟨List.toArray (x0_ :: x1_ :: x2_ :: .pointer (some ⟨B0, 0, none⟩) :: .pointer (some ⟨B1, 0, none⟩) :: x5_ :: .bool false :: .bool true :: .pointer (some ⟨B3, 0, none⟩) :: .bool true :: x10_ :: .bool true :: x12_ :: .bool true :: .pointer (some ⟨B6, 0, none⟩) :: .bool true :: .pointer (some ⟨B7, 0, none⟩) :: .bool true :: .pointer (some ⟨B8, 0, none⟩) :: x19_ :: x20_ :: x21_ :: x22_ :: x23_ :: x24_ :: x25_ :: x26_ :: x27_ :: x28_ :: x29_ :: x30_ :: x31_ :: x32_ :: x33_ :: x34_ :: x35_ :: x36_ :: x37_ :: x38_ :: x39_ :: x40_ :: x41_ :: x42_ :: x43_ :: x44_ :: x45_ :: x46_ :: x47_ :: x48_ :: x49_ :: x50_ :: x51_ :: x52_ :: x53_ :: x54_ :: x55_ :: x56_ :: x57_ :: x58_ :: x59_ :: x60_ :: x61_ :: x62_ :: x63_ :: x64_ :: x65_ :: x66_ :: x67_ :: x68_ :: x69_ :: x70_ :: x71_ :: x72_ :: x73_ :: x74_ :: x75_ :: x76_ :: x77_ :: x78_ :: x79_ :: x80_ :: x81_ :: x82_ :: x83_ :: x84_ :: x85_ :: x86_ :: x87_ :: x88_ :: x89_ :: x90_ :: x91_ :: x92_ :: x93_ :: x94_ :: x95_ :: x96_ :: x97_ :: x98_ :: x99_ :: x100_ :: x101_ :: x102_ :: x103_ :: x104_ :: x105_ :: x106_ :: x107_ :: x108_ :: x109_ :: x110_ :: x111_ :: x112_ :: x113_ :: x114_ :: x115_ :: x116_ :: x117_ :: x118_ :: x119_ :: x120_ :: x121_ :: x122_ :: x123_ :: x124_ :: x125_ :: x126_ :: x127_ :: x128_ :: x129_ :: x130_ :: x131_ :: x132_ :: x133_ :: x134_ :: x135_ :: x136_ :: x137_ :: x138_ :: x139_ :: x140_ :: x141_ :: x142_ :: x143_ :: x144_ :: x145_ :: x146_ :: x147_ :: x148_ :: x149_ :: x150_ :: x151_ :: x152_ :: x153_ :: x154_ :: x155_ :: x156_ :: x157_ :: x158_ :: x159_ :: x160_ :: x161_ :: x162_ :: x163_ :: x164_ :: x165_ :: x166_ :: x167_ :: x168_ :: x169_ :: x170_ :: x171_ :: x172_ :: x173_ :: x174_ :: x175_ :: x176_ :: x177_ :: x178_ :: x179_ :: x180_ :: x181_ :: x182_ :: x183_ :: x184_ :: x185_ :: x186_ :: x187_ :: x188_ :: x189_ :: x190_ :: x191_ :: x192_ :: x193_ :: x194_ :: x195_ :: x196_ :: x197_ :: x198_ :: x199_ :: x200_ :: x201_ :: x202_ :: x203_ :: x204_ :: x205_ :: x206_ :: x207_ :: x208_ :: x209_ :: x210_ :: x211_ :: x212_ :: x213_ :: x214_ :: x215_ :: x216_ :: x217_ :: x218_ :: x219_ :: x220_ :: x221_ :: x222_ :: x223_ :: x224_ :: x225_ :: x226_ :: x227_ :: x228_ :: x229_ :: x230_ :: x231_ :: x232_ :: undef :: undef :: undef :: undef :: undef :: undef :: undef :: undef :: undef :: undef :: undef :: undef :: undef :: undef :: undef :: undef :: undef :: undef :: undef :: undef :: undef :: undef :: undef :: undef :: undef :: undef :: undef :: undef :: undef :: undef :: undef :: undef :: undef :: undef :: undef :: undef :: undef :: undef :: undef :: undef :: undef :: undef :: undef :: undef :: undef :: undef :: undef :: undef :: undef :: undef :: undef :: undef :: undef :: undef :: undef :: undef :: undef :: undef :: undef :: undef :: undef :: undef :: undef :: undef :: undef :: undef :: undef :: undef :: undef :: undef :: undef :: undef :: undef :: undef :: undef :: undef :: undef :: undef :: undef :: undef :: undef :: undef :: undef :: undef :: undef :: undef :: undef :: undef :: undef :: undef :: undef :: undef :: undef :: undef :: undef :: undef :: undef :: undef :: undef :: undef :: []), []⟩ w51 := by
  intro Kst_ hst_
  conv => arg 2; whnf
  conv at hst_ => enter [a_, w_, 1, 2]; whnf
  go_upto_region 21 with fail
  go_cut [22, 15] (fun s22 s15 wx => ∃ (A90 : Nat), ∃ (a_79 : Option Addr), ∃ (c_80 : Nat), ∃ (b_81 : Option Addr), ∃ (d_82 : Nat), ∃ (a_84 : Option Addr), ∃ (c_85 : Nat), ∃ (b_86 : Option Addr), ∃ (d_87 : Nat), ∃ (q88 : Rat), s22 = .pointer (some ⟨A90, 0, none⟩) ∧ s15 = .bool true ∧ Hid (q88 = (q + (Rat.divInt 0 1))) ∧ Hid (Fz q88 23) ∧ B8 < A90 ∧ Hid (Bx wx A90 26 #[.int .i64 (sg (nu q88)), .slice a_84 (ln (nu q88)) c_85, .int .i64 (sg (de q88)), .slice b_86 (ln (de q88)) d_87] ∧ FD G wx a_84 c_85 b_86 d_87 q88 ∧ FD G wx a_79 c_80 b_81 d_82 (Rat.divInt 0 1) ∧ FD G wx a_73 c_74 b_75 d_76 q77 ∧ FD G wx a_67 c_68 b_69 d_70 q71 ∧ FD G wx a_31 c_32 b_33 d_34 q35 ∧ FD G wx a_1 c_2 b_3 d_4 q5 ∧ Bx wx B0 26 #[.int .i64 (sg (nu q)), .slice a1 (ln (nu q)) c1, .int .i64 (sg (de q)), .slice b1 (ln (de q)) d1] ∧ Bx wx B1 26 #[.int .i64 (sg (nu r)), .slice a2 (ln (nu r)) c2, .int .i64 (sg (de r)), .slice b2 (ln (de r)) d2] ∧ Bx wx B3 26 #[.int .i64 (sg (nu q5)), .slice a_1 (ln (nu q5)) c_2, .int .i64 (sg (de q5)), .slice b_3 (ln (de q5)) d_4] ∧ Bx wx B6 26 #[.int .i64 (sg (nu q71)), .slice a_67 (ln (nu q71)) c_68, .int .i64 (sg (de q71)), .slice b_69 (ln (de q71)) d_70] ∧ Bx wx B7 26 #[.int .i64 (sg (nu q77)), .slice a_73 (ln (nu q77)) c_74, .int .i64 (sg (de q77)), .slice b_75 (ln (de q77)) d_76] ∧ Bx wx B8 26 #[.int .i64 (sg (nu q35)), .slice a_31 (ln (nu q35)) c_32, .int .i64 (sg (de q35)), .slice b_33 (ln (de q35)) d_34] ∧ Below w.heap.size w wx))
  case first =>
    obtain ⟨w52, hv⟩ : ∃ w_ : World, w_ = w51.drew := ⟨_, rfl⟩
    replace M := Lib.hid (Goes.go M.out (hv ▸ below_drew _ : Below w51.heap.size w51 w52))
    refine wp_region_held_drew (S := (fun w' => w'.cell? ⟨B0, 0, none⟩ = some (.int .i64 (sg (nu q))) ∧ w'.cell? ⟨B0, 1, none⟩ = some (.slice a1 (ln (nu q)) c1) ∧ w'.cell? ⟨B0, 2, none⟩ = some (.int .i64 (sg (de q))) ∧ w'.cell? ⟨B0, 3, none⟩ = some (.slice b1 (ln (de q)) d1))) (by kernel_rfl) (by rw [← hv]; exact ⟨(M.out.2.2.2.2.2.2.2.2.2.1).at.1 0, (M.out.2.2.2.2.2.2.2.2.2.1).at.1 1, (M.out.2.2.2.2.2.2.2.2.2.1).at.1 2, (M.out.2.2.2.2.2.2.2.2.2.1).at.1 3⟩) (fun hH91 => ?_)
    rw [← hv] at hH91 ⊢
    clear hv
    refine tk at0 ?_
    refine wpAnyH_ready (rs := [1, 9]) (by kernel_rfl) (by simp) ?_
    refine AllReadyH.cons at1 (fun K hK => ?_) ?_
    ·
      go_simp
      refine (of_is (G := G) (x := 0) (y := 1) (q := (Rat.divInt 0 1)) (Nat.le_trans hG (M.out.2.2.2.2.2.2.2.2.2.2).size) (by decide) (by decide) (by decide) (by decide)).mono ?_
      rintro e w53 ⟨a_92, c_93, b_94, d_95, rfl, hd96, hb⟩
      replace M := Lib.hid (And.intro hd96 (Goes.go M.out hb))
      clear hb hd96
      (try go_wp2_with fail)
      refine hK.out _ _ (⟨(M.out.2.2.2.2.2.2.2.2.2.2.1).at.1 0, (M.out.2.2.2.2.2.2.2.2.2.2.1).at.1 1, (M.out.2.2.2.2.2.2.2.2.2.2.1).at.1 2, (M.out.2.2.2.2.2.2.2.2.2.2.1).at.1 3⟩) (fun hH97 => ?_)
      clear hK K hH91
      (try simp only [Act.put, List.setIfInBounds_toArray, List.set_cons_zero, List.set_cons_succ])
      refine wpAnyH_ready (rs := [2, 9]) (by kernel_rfl) (by simp) ?_
      refine AllReadyH.cons at2 (fun K hK => ?_) ?_
      ·
        go_simp
        obtain ⟨q102, eq102⟩ : ∃ v_ : Rat, v_ = (q + (Rat.divInt 0 1)) := ⟨_, rfl⟩
        refine (fracAdd_ok (G := G) (q := q) (r := (Rat.divInt 0 1)) (H1.out.keep (M.out.2.2.2.2.2.2.2.2.2.2.2)) (M.out.1) (Fz.mono HQ.out (by omega)) (Fz.mono (fz_lit (q := (Rat.divInt 0 1)) rfl (by unfold Sz; decide) (by unfold Sz; decide) (by decide)) (by omega))).mono ?_
        rintro e w54 ⟨a_98, c_99, b_100, d_101, rfl, hd103, hb⟩
        rw [← eq102] at hd103 ⊢
        have Sq102 : Hid (Fz q102 23) := by show Fz q102 23; rw [eq102]; exact (Fz.add HQ.out (fz_lit (q := (Rat.divInt 0 1)) rfl (by unfold Sz; decide) (by unfold Sz; decide) (by decide)))
        have Eq102 := Lib.hid eq102; clear eq102
        replace M := Lib.hid (And.intro hd103 (Goes.go M.out hb))
        clear hb hd103
        (try go_wp2_with fail)
        refine hK.out _ _ (⟨(M.out.2.2.2.2.2.2.2.2.2.2.2.1).at.1 0, (M.out.2.2.2.2.2.2.2.2.2.2.2.1).at.1 1, (M.out.2.2.2.2.2.2.2.2.2.2.2.1).at.1 2, (M.out.2.2.2.2.2.2.2.2.2.2.2.1).at.1 3⟩) (fun hH104 => ?_)
        clear hK K hH97
        (try simp only [Act.put, List.setIfInBounds_toArray, List.set_cons_zero, List.set_cons_succ])
        refine tk at3 ?_
        refine tk at4 ?_
        refine wpAnyH_ready (rs := [5, 9]) (by kernel_rfl) (by simp) ?_
        refine AllReadyH.cons at5 (fun K hK => ?_) ?_
        ·
          go_simp
          refine (right_ok (G := G) (q := q102) (M.out.1) (Fz.mono Sq102.out (by omega))).mono ?_
          rintro e w55 ⟨rfl, hb⟩
          replace M := Lib.hid (Goes.go M.out hb)
          clear hb
          (try go_wp2_with fail)
          refine hK.out _ _ (⟨(M.out.2.2.2.2.2.2.2.2.2.2.2.1).at.1 0, (M.out.2.2.2.2.2.2.2.2.2.2.2.1).at.1 1, (M.out.2.2.2.2.2.2.2.2.2.2.2.1).at.1 2, (M.out.2.2.2.2.2.2.2.2.2.2.2.1).at.1 3⟩) (fun hH105 => ?_)
          clear hK K hH104
          (try simp only [Act.put, List.setIfInBounds_toArray, List.set_cons_zero, List.set_cons_succ])
          refine tk at6 ?_
          refine tk at7 ?_
          refine tk at8 ?_
          refine wpAnyH_ready (rs := [9]) (by kernel_rfl) (by simp) ?_
          refine AllReadyH.cons at9 (fun K hK => ?_) AllReadyH.nil
          go_simp
          obtain ⟨w56, hv⟩ : ∃ w_ : World, w_ = (w55.alloc (.cells #[.int .i64 0, .slice none 0 0, .int .i64 0, .slice none 0 0] 26)) := ⟨_, rfl⟩
          rw [← hv]
          have o12 : B8 < w55.heap.size := ((M.out.2.2.2.2.1)).lt
          replace M := Lib.hid (And.intro (hv ▸ bx1 w55 26 #[.int .i64 0, .slice none 0 0, .int .i64 0, .slice none 0 0]) (Goes.go M.out (hv ▸ below_alloc _ _ : Below w55.heap.size w55 w56)))
          clear hv
          refine hK.out _ _ (⟨(M.out.2.2.2.2.2.2.2.2.2.2.2.2.1).at.1 0, (M.out.2.2.2.2.2.2.2.2.2.2.2.2.1).at.1 1, (M.out.2.2.2.2.2.2.2.2.2.2.2.2.1).at.1 2, (M.out.2.2.2.2.2.2.2.2.2.2.2.2.1).at.1 3⟩) (fun hH106 => ?_)
          clear hK K hH105
          (try simp only [Act.put, List.setIfInBounds_toArray, List.set_cons_zero, List.set_cons_succ])
          refine wpAnyH_ready (rs := [10]) (by kernel_rfl) (by simp) ?_
          refine AllReadyH.cons at10 (fun K hK => ?_) AllReadyH.nil
          have y12 := (M.out.1).c4; have p12_0 := y12.1; have q12_0 := y12.2.1; have p12_1 := y12.2.2.1; have q12_1 := y12.2.2.2.1; have p12_2 := y12.2.2.2.2.1; have q12_2 := y12.2.2.2.2.2.1; have p12_3 := y12.2.2.2.2.2.2.1; have q12_3 := y12.2.2.2.2.2.2.2; clear y12
          go_simp
          clear p12_0 q12_0 p12_1 q12_1 p12_2 q12_2 p12_3 q12_3
          obtain ⟨w57, hv⟩ : ∃ w_ : World, w_ = ((((w56.setCell ⟨w55.heap.size, 0, none⟩ (.int .i64 (sg (nu q102)))).setCell ⟨w55.heap.size, 1, none⟩ (.slice a_98 (ln (nu q102)) c_99)).setCell ⟨w55.heap.size, 2, none⟩ (.int .i64 (sg (de q102)))).setCell ⟨w55.heap.size, 3, none⟩ (.slice b_100 (ln (de q102)) d_101)) := ⟨_, rfl⟩
          rw [← hv]
          have og : w56.grownBy w57 (some w55.heap.size) := by rw [hv]; exact (only_setCell (only_setCell (only_setCell (only_setCell (World.grownBy.refl _ _) _) _) _) _)
          have hz : w.heap.size ≤ w55.heap.size := by omega
          have hk : Bx w57 w55.heap.size 26 #[.int .i64 (sg (nu q102)), .slice a_98 (ln (nu q102)) c_99, .int .i64 (sg (de q102)), .slice b_100 (ln (de q102)) d_101] := by rw [hv]; exact (((((M.out.1).set 0 _).set 1 _).set 2 _).set 3 _)
          have hbw : Below w.heap.size w w57 := by rw [hv]; exact (Below.setCell (Below.setCell (Below.setCell (Below.setCell (M.out.2.2.2.2.2.2.2.2.2.2.2.2.2) (by omega) _) (by omega) _) (by omega) _) (by omega) _)
          replace M := Lib.hid (And.intro hk (And.intro ((M.out.2.1).far (M.out.1) (by rfl) (by omega) og) (And.intro ((M.out.2.2.1).far (M.out.1) (by rfl) (by omega) og) (And.intro ((M.out.2.2.2.1).far (M.out.1) (by rfl) (by omega) og) (And.intro ((M.out.2.2.2.2.1).far (M.out.1) (by rfl) (by omega) og) (And.intro ((M.out.2.2.2.2.2.1).only og (by omega)) (And.intro ((M.out.2.2.2.2.2.2.1).far (M.out.1) (by rfl) (by omega) og) (And.intro ((M.out.2.2.2.2.2.2.2.1).only og (by omega)) (And.intro ((M.out.2.2.2.2.2.2.2.2.1).only og (by omega)) (And.intro ((M.out.2.2.2.2.2.2.2.2.2.1).only og (by omega)) (And.intro ((M.out.2.2.2.2.2.2.2.2.2.2.1).far (M.out.1) (by rfl) (by omega) og) (And.intro ((M.out.2.2.2.2.2.2.2.2.2.2.2.1).only og (by omega)) (And.intro ((M.out.2.2.2.2.2.2.2.2.2.2.2.2.1).only og (by omega)) hbw)))))))))))))
          clear hk hbw og hv hz
          refine hK.out _ _ (⟨(M.out.2.2.2.2.2.2.2.2.2.2.2.2.1).at.1 0, (M.out.2.2.2.2.2.2.2.2.2.2.2.2.1).at.1 1, (M.out.2.2.2.2.2.2.2.2.2.2.2.2.1).at.1 2, (M.out.2.2.2.2.2.2.2.2.2.2.2.2.1).at.1 3⟩) (fun hH107 => ?_)
          clear hK K hH106
          (try simp only [Act.put, List.setIfInBounds_toArray, List.set_cons_zero, List.set_cons_succ])
          refine tk at11 ?_
          refine wpAnyH_done (by kernel_rfl) ?_ _
          clear hH107
          go_wp2_with fail
          go_meet
          exact ⟨w55.heap.size, a_92, c_93, b_94, d_95, a_98, c_99, b_100, d_101, q102, rfl, rfl, Eq102, Sq102, (by omega), (M.out.1), (M.out.2.1), (M.out.2.2.1), (M.out.2.2.2.1), (M.out.2.2.2.2.1), (M.out.2.2.2.2.2.2.1), (M.out.2.2.2.2.2.2.2.2.2.2.1), (M.out.2.2.2.2.2.2.2.2.2.2.2.2.1), (M.out.2.2.2.2.2.2.2.2.2.2.2.1), (M.out.2.2.2.2.2.2.2.2.2.1), (M.out.2.2.2.2.2.2.2.2.1), (M.out.2.2.2.2.2.2.2.1), (M.out.2.2.2.2.2.1), (M.out.2.2.2.2.2.2.2.2.2.2.2.2.2)⟩
        refine AllReadyH.cons at9 (fun K hK => ?_) AllReadyH.nil
        go_simp
        obtain ⟨w55, hv⟩ : ∃ w_ : World, w_ = (w54.alloc (.cells #[.int .i64 0, .slice none 0 0, .int .i64 0, .slice none 0 0] 26)) := ⟨_, rfl⟩
        rw [← hv]
        have o12 : B8 < w54.heap.size := ((M.out.2.2.2.2.1)).lt
        replace M := Lib.hid (And.intro (hv ▸ bx1 w54 26 #[.int .i64 0, .slice none 0 0, .int .i64 0, .slice none 0 0]) (Goes.go M.out (hv ▸ below_alloc _ _ : Below w54.heap.size w54 w55)))
        clear hv
        refine hK.out _ _ (⟨(M.out.2.2.2.2.2.2.2.2.2.2.2.2.1).at.1 0, (M.out.2.2.2.2.2.2.2.2.2.2.2.2.1).at.1 1, (M.out.2.2.2.2.2.2.2.2.2.2.2.2.1).at.1 2, (M.out.2.2.2.2.2.2.2.2.2.2.2.2.1).at.1 3⟩) (fun hH108 => ?_)
        clear hK K hH104
        (try simp only [Act.put, List.setIfInBounds_toArray, List.set_cons_zero, List.set_cons_succ])
        refine wpAnyH_ready (rs := [5]) (by kernel_rfl) (by simp) ?_
        refine AllReadyH.cons at5 (fun K hK => ?_) AllReadyH.nil
        go_simp
        refine (right_ok (G := G) (q := q102) (M.out.2.1) (Fz.mono Sq102.out (by omega))).mono ?_
        rintro e w56 ⟨rfl, hb⟩
        replace M := Lib.hid (Goes.go M.out hb)
        clear hb
        (try go_wp2_with fail)
        refine hK.out _ _ (⟨(M.out.2.2.2.2.2.2.2.2.2.2.2.2.1).at.1 0, (M.out.2.2.2.2.2.2.2.2.2.2.2.2.1).at.1 1, (M.out.2.2.2.2.2.2.2.2.2.2.2.2.1).at.1 2, (M.out.2.2.2.2.2.2.2.2.2.2.2.2.1).at.1 3⟩) (fun hH109 => ?_)
        clear hK K hH108
        (try simp only [Act.put, List.setIfInBounds_toArray, List.set_cons_zero, List.set_cons_succ])
        refine tk at6 ?_
        refine tk at7 ?_
        refine tk at8 ?_
        refine wpAnyH_ready (rs := [10]) (by kernel_rfl) (by simp) ?_
        refine AllReadyH.cons at10 (fun K hK => ?_) AllReadyH.nil
        have y12 := (M.out.1).c4; have p12_0 := y12.1; have q12_0 := y12.2.1; have p12_1 := y12.2.2.1; have q12_1 := y12.2.2.2.1; have p12_2 := y12.2.2.2.2.1; have q12_2 := y12.2.2.2.2.2.1; have p12_3 := y12.2.2.2.2.2.2.1; have q12_3 := y12.2.2.2.2.2.2.2; clear y12
        go_simp
        clear p12_0 q12_0 p12_1 q12_1 p12_2 q12_2 p12_3 q12_3
        obtain ⟨w57, hv⟩ : ∃ w_ : World, w_ = ((((w56.setCell ⟨w54.heap.size, 0, none⟩ (.int .i64 (sg (nu q102)))).setCell ⟨w54.heap.size, 1, none⟩ (.slice a_98 (ln (nu q102)) c_99)).setCell ⟨w54.heap.size, 2, none⟩ (.int .i64 (sg (de q102)))).setCell ⟨w54.heap.size, 3, none⟩ (.slice b_100 (ln (de q102)) d_101)) := ⟨_, rfl⟩
        rw [← hv]
        have og : w56.grownBy w57 (some w54.heap.size) := by rw [hv]; exact (only_setCell (only_setCell (only_setCell (only_setCell (World.grownBy.refl _ _) _) _) _) _)
        have hz : w.heap.size ≤ w54.heap.size := by omega
        have hk : Bx w57 w54.heap.size 26 #[.int .i64 (sg (nu q102)), .slice a_98 (ln (nu q102)) c_99, .int .i64 (sg (de q102)), .slice b_100 (ln (de q102)) d_101] := by rw [hv]; exact (((((M.out.1).set 0 _).set 1 _).set 2 _).set 3 _)
        have hbw : Below w.heap.size w w57 := by rw [hv]; exact (Below.setCell (Below.setCell (Below.setCell (Below.setCell (M.out.2.2.2.2.2.2.2.2.2.2.2.2.2) (by omega) _) (by omega) _) (by omega) _) (by omega) _)
        replace M := Lib.hid (And.intro hk (And.intro ((M.out.2.1).far (M.out.1) (by rfl) (by omega) og) (And.intro ((M.out.2.2.1).far (M.out.1) (by rfl) (by omega) og) (And.intro ((M.out.2.2.2.1).far (M.out.1) (by rfl) (by omega) og) (And.intro ((M.out.2.2.2.2.1).far (M.out.1) (by rfl) (by omega) og) (And.intro ((M.out.2.2.2.2.2.1).only og (by omega)) (And.intro ((M.out.2.2.2.2.2.2.1).far (M.out.1) (by rfl) (by omega) og) (And.intro ((M.out.2.2.2.2.2.2.2.1).only og (by omega)) (And.intro ((M.out.2.2.2.2.2.2.2.2.1).only og (by omega)) (And.intro ((M.out.2.2.2.2.2.2.2.2.2.1).only og (by omega)) (And.intro ((M.out.2.2.2.2.2.2.2.2.2.2.1).far (M.out.1) (by rfl) (by omega) og) (And.intro ((M.out.2.2.2.2.2.2.2.2.2.2.2.1).only og (by omega)) (And.intro ((M.out.2.2.2.2.2.2.2.2.2.2.2.2.1).only og (by omega)) hbw)))))))))))))
        clear hk hbw og hv hz
        refine hK.out _ _ (⟨(M.out.2.2.2.2.2.2.2.2.2.2.2.2.1).at.1 0, (M.out.2.2.2.2.2.2.2.2.2.2.2.2.1).at.1 1, (M.out.2.2.2.2.2.2.2.2.2.2.2.2.1).at.1 2, (M.out.2.2.2.2.2.2.2.2.2.2.2.2.1).at.1 3⟩) (fun hH110 => ?_)
        clear hK K hH109
        (try simp only [Act.put, List.setIfInBounds_toArray, List.set_cons_zero, List.set_cons_succ])
        refine tk at11 ?_
        refine wpAnyH_done (by kernel_rfl) ?_ _
        clear hH110
        go_wp2_with fail
        go_meet
        exact ⟨w54.heap.size, a_92, c_93, b_94, d_95, a_98, c_99, b_100, d_101, q102, rfl, rfl, Eq102, Sq102, (by omega), (M.out.1), (M.out.2.1), (M.out.2.2.1), (M.out.2.2.2.1), (M.out.2.2.2.2.1), (M.out.2.2.2.2.2.2.1), (M.out.2.2.2.2.2.2.2.2.2.2.1), (M.out.2.2.2.2.2.2.2.2.2.2.2.2.1), (M.out.2.2.2.2.2.2.2.2.2.2.2.1), (M.out.2.2.2.2.2.2.2.2.2.1), (M.out.2.2.2.2.2.2.2.2.1), (M.out.2.2.2.2.2.2.2.1), (M.out.2.2.2.2.2.1), (M.out.2.2.2.2.2.2.2.2.2.2.2.2.2)⟩
      refine AllReadyH.cons at9 (fun K hK => ?_) AllReadyH.nil
      go_simp
      obtain ⟨w54, hv⟩ : ∃ w_ : World, w_ = (w53.alloc (.cells #[.int .i64 0, .slice none 0 0, .int .i64 0, .slice none 0 0] 26)) := ⟨_, rfl⟩
      rw [← hv]
      have o12 : B8 < w53.heap.size := ((M.out.2.2.2.1)).lt
      replace M := Lib.hid (And.intro (hv ▸ bx1 w53 26 #[.int .i64 0, .slice none 0 0, .int .i64 0, .slice none 0 0]) (Goes.go M.out (hv ▸ below_alloc _ _ : Below w53.heap.size w53 w54)))
      clear hv
      refine hK.out _ _ (⟨(M.out.2.2.2.2.2.2.2.2.2.2.2.1).at.1 0, (M.out.2.2.2.2.2.2.2.2.2.2.2.1).at.1 1, (M.out.2.2.2.2.2.2.2.2.2.2.2.1).at.1 2, (M.out.2.2.2.2.2.2.2.2.2.2.2.1).at.1 3⟩) (fun hH111 => ?_)
      clear hK K hH97
      (try simp only [Act.put, List.setIfInBounds_toArray, List.set_cons_zero, List.set_cons_succ])
      refine wpAnyH_ready (rs := [2]) (by kernel_rfl) (by simp) ?_
      refine AllReadyH.cons at2 (fun K hK => ?_) AllReadyH.nil
      go_simp
      obtain ⟨q116, eq116⟩ : ∃ v_ : Rat, v_ = (q + (Rat.divInt 0 1)) := ⟨_, rfl⟩
      refine (fracAdd_ok (G := G) (q := q) (r := (Rat.divInt 0 1)) (H1.out.keep (M.out.2.2.2.2.2.2.2.2.2.2.2.2)) (M.out.2.1) (Fz.mono HQ.out (by omega)) (Fz.mono (fz_lit (q := (Rat.divInt 0 1)) rfl (by unfold Sz; decide) (by unfold Sz; decide) (by decide)) (by omega))).mono ?_
      rintro e w55 ⟨a_112, c_113, b_114, d_115, rfl, hd117, hb⟩
      rw [← eq116] at hd117 ⊢
      have Sq116 : Hid (Fz q116 23) := by show Fz q116 23; rw [eq116]; exact (Fz.add HQ.out (fz_lit (q := (Rat.divInt 0 1)) rfl (by unfold Sz; decide) (by unfold Sz; decide) (by decide)))
      have Eq116 := Lib.hid eq116; clear eq116
      replace M := Lib.hid (And.intro hd117 (Goes.go M.out hb))
      clear hb hd117
      (try go_wp2_with fail)
      refine hK.out _ _ (⟨(M.out.2.2.2.2.2.2.2.2.2.2.2.2.1).at.1 0, (M.out.2.2.2.2.2.2.2.2.2.2.2.2.1).at.1 1, (M.out.2.2.2.2.2.2.2.2.2.2.2.2.1).at.1 2, (M.out.2.2.2.2.2.2.2.2.2.2.2.2.1).at.1 3⟩) (fun hH118 => ?_)
      clear hK K hH111
      (try simp only [Act.put, List.setIfInBounds_toArray, List.set_cons_zero, List.set_cons_succ])
      refine tk at3 ?_
      refine tk at4 ?_
      refine wpAnyH_ready (rs := [5]) (by kernel_rfl) (by simp) ?_
      refine AllReadyH.cons at5 (fun K hK => ?_) AllReadyH.nil
      go_simp
      refine (right_ok (G := G) (q := q116) (M.out.1) (Fz.mono Sq116.out (by omega))).mono ?_
      rintro e w56 ⟨rfl, hb⟩
      replace M := Lib.hid (Goes.go M.out hb)
      clear hb
      (try go_wp2_with fail)
      refine hK.out _ _ (⟨(M.out.2.2.2.2.2.2.2.2.2.2.2.2.1).at.1 0, (M.out.2.2.2.2.2.2.2.2.2.2.2.2.1).at.1 1, (M.out.2.2.2.2.2.2.2.2.2.2.2.2.1).at.1 2, (M.out.2.2.2.2.2.2.2.2.2.2.2.2.1).at.1 3⟩) (fun hH119 => ?_)
      clear hK K hH118
      (try simp only [Act.put, List.setIfInBounds_toArray, List.set_cons_zero, List.set_cons_succ])
      refine tk at6 ?_
      refine tk at7 ?_
      refine tk at8 ?_
      refine wpAnyH_ready (rs := [10]) (by kernel_rfl) (by simp) ?_
      refine AllReadyH.cons at10 (fun K hK => ?_) AllReadyH.nil
      have y12 := (M.out.2.1).c4; have p12_0 := y12.1; have q12_0 := y12.2.1; have p12_1 := y12.2.2.1; have q12_1 := y12.2.2.2.1; have p12_2 := y12.2.2.2.2.1; have q12_2 := y12.2.2.2.2.2.1; have p12_3 := y12.2.2.2.2.2.2.1; have q12_3 := y12.2.2.2.2.2.2.2; clear y12
      go_simp
      clear p12_0 q12_0 p12_1 q12_1 p12_2 q12_2 p12_3 q12_3
      obtain ⟨w57, hv⟩ : ∃ w_ : World, w_ = ((((w56.setCell ⟨w53.heap.size, 0, none⟩ (.int .i64 (sg (nu q116)))).setCell ⟨w53.heap.size, 1, none⟩ (.slice a_112 (ln (nu q116)) c_113)).setCell ⟨w53.heap.size, 2, none⟩ (.int .i64 (sg (de q116)))).setCell ⟨w53.heap.size, 3, none⟩ (.slice b_114 (ln (de q116)) d_115)) := ⟨_, rfl⟩
      rw [← hv]
      have og : w56.grownBy w57 (some w53.heap.size) := by rw [hv]; exact (only_setCell (only_setCell (only_setCell (only_setCell (World.grownBy.refl _ _) _) _) _) _)
      have hz : w.heap.size ≤ w53.heap.size := by omega
      have hk : Bx w57 w53.heap.size 26 #[.int .i64 (sg (nu q116)), .slice a_112 (ln (nu q116)) c_113, .int .i64 (sg (de q116)), .slice b_114 (ln (de q116)) d_115] := by rw [hv]; exact (((((M.out.2.1).set 0 _).set 1 _).set 2 _).set 3 _)
      have hbw : Below w.heap.size w w57 := by rw [hv]; exact (Below.setCell (Below.setCell (Below.setCell (Below.setCell (M.out.2.2.2.2.2.2.2.2.2.2.2.2.2) (by omega) _) (by omega) _) (by omega) _) (by omega) _)
      replace M := Lib.hid (And.intro ((M.out.1).far (M.out.2.1) (by rfl) (by omega) og) (And.intro hk (And.intro ((M.out.2.2.1).far (M.out.2.1) (by rfl) (by omega) og) (And.intro ((M.out.2.2.2.1).far (M.out.2.1) (by rfl) (by omega) og) (And.intro ((M.out.2.2.2.2.1).far (M.out.2.1) (by rfl) (by omega) og) (And.intro ((M.out.2.2.2.2.2.1).only og (by omega)) (And.intro ((M.out.2.2.2.2.2.2.1).far (M.out.2.1) (by rfl) (by omega) og) (And.intro ((M.out.2.2.2.2.2.2.2.1).only og (by omega)) (And.intro ((M.out.2.2.2.2.2.2.2.2.1).only og (by omega)) (And.intro ((M.out.2.2.2.2.2.2.2.2.2.1).only og (by omega)) (And.intro ((M.out.2.2.2.2.2.2.2.2.2.2.1).far (M.out.2.1) (by rfl) (by omega) og) (And.intro ((M.out.2.2.2.2.2.2.2.2.2.2.2.1).only og (by omega)) (And.intro ((M.out.2.2.2.2.2.2.2.2.2.2.2.2.1).only og (by omega)) hbw)))))))))))))
      clear hk hbw og hv hz
      refine hK.out _ _ (⟨(M.out.2.2.2.2.2.2.2.2.2.2.2.2.1).at.1 0, (M.out.2.2.2.2.2.2.2.2.2.2.2.2.1).at.1 1, (M.out.2.2.2.2.2.2.2.2.2.2.2.2.1).at.1 2, (M.out.2.2.2.2.2.2.2.2.2.2.2.2.1).at.1 3⟩) (fun hH120 => ?_)
      clear hK K hH119
      (try simp only [Act.put, List.setIfInBounds_toArray, List.set_cons_zero, List.set_cons_succ])
      refine tk at11 ?_
      refine wpAnyH_done (by kernel_rfl) ?_ _
      clear hH120
      go_wp2_with fail
      go_meet
      exact ⟨w53.heap.size, a_92, c_93, b_94, d_95, a_112, c_113, b_114, d_115, q116, rfl, rfl, Eq116, Sq116, (by omega), (M.out.2.1), (M.out.1), (M.out.2.2.1), (M.out.2.2.2.1), (M.out.2.2.2.2.1), (M.out.2.2.2.2.2.2.1), (M.out.2.2.2.2.2.2.2.2.2.2.1), (M.out.2.2.2.2.2.2.2.2.2.2.2.2.1), (M.out.2.2.2.2.2.2.2.2.2.2.2.1), (M.out.2.2.2.2.2.2.2.2.2.1), (M.out.2.2.2.2.2.2.2.2.1), (M.out.2.2.2.2.2.2.2.1), (M.out.2.2.2.2.2.1), (M.out.2.2.2.2.2.2.2.2.2.2.2.2.2)⟩
    refine AllReadyH.cons at9 (fun K hK => ?_) AllReadyH.nil
    go_simp
    obtain ⟨w53, hv⟩ : ∃ w_ : World, w_ = (w52.alloc (.cells #[.int .i64 0, .slice none 0 0, .int .i64 0, .slice none 0 0] 26)) := ⟨_, rfl⟩
    rw [← hv]
    have o12 : B8 < w52.heap.size := ((M.out.2.2.1)).lt
    replace M := Lib.hid (And.intro (hv ▸ bx1 w52 26 #[.int .i64 0, .slice none 0 0, .int .i64 0, .slice none 0 0]) (Goes.go M.out (hv ▸ below_alloc _ _ : Below w52.heap.size w52 w53)))
    clear hv
    refine hK.out _ _ (⟨(M.out.2.2.2.2.2.2.2.2.2.2.1).at.1 0, (M.out.2.2.2.2.2.2.2.2.2.2.1).at.1 1, (M.out.2.2.2.2.2.2.2.2.2.2.1).at.1 2, (M.out.2.2.2.2.2.2.2.2.2.2.1).at.1 3⟩) (fun hH121 => ?_)
    clear hK K hH91
    (try simp only [Act.put, List.setIfInBounds_toArray, List.set_cons_zero, List.set_cons_succ])
    refine wpAnyH_ready (rs := [1]) (by kernel_rfl) (by simp) ?_
    refine AllReadyH.cons at1 (fun K hK => ?_) AllReadyH.nil
    go_simp
    refine (of_is (G := G) (x := 0) (y := 1) (q := (Rat.divInt 0 1)) (Nat.le_trans hG (M.out.2.2.2.2.2.2.2.2.2.2.2).size) (by decide) (by decide) (by decide) (by decide)).mono ?_
    rintro e w54 ⟨a_122, c_123, b_124, d_125, rfl, hd126, hb⟩
    replace M := Lib.hid (And.intro hd126 (Goes.go M.out hb))
    clear hb hd126
    (try go_wp2_with fail)
    refine hK.out _ _ (⟨(M.out.2.2.2.2.2.2.2.2.2.2.2.1).at.1 0, (M.out.2.2.2.2.2.2.2.2.2.2.2.1).at.1 1, (M.out.2.2.2.2.2.2.2.2.2.2.2.1).at.1 2, (M.out.2.2.2.2.2.2.2.2.2.2.2.1).at.1 3⟩) (fun hH127 => ?_)
    clear hK K hH121
    (try simp only [Act.put, List.setIfInBounds_toArray, List.set_cons_zero, List.set_cons_succ])
    refine wpAnyH_ready (rs := [2]) (by kernel_rfl) (by simp) ?_
    refine AllReadyH.cons at2 (fun K hK => ?_) AllReadyH.nil
    go_simp
    obtain ⟨q132, eq132⟩ : ∃ v_ : Rat, v_ = (q + (Rat.divInt 0 1)) := ⟨_, rfl⟩
    refine (fracAdd_ok (G := G) (q := q) (r := (Rat.divInt 0 1)) (H1.out.keep (M.out.2.2.2.2.2.2.2.2.2.2.2.2)) (M.out.1) (Fz.mono HQ.out (by omega)) (Fz.mono (fz_lit (q := (Rat.divInt 0 1)) rfl (by unfold Sz; decide) (by unfold Sz; decide) (by decide)) (by omega))).mono ?_
    rintro e w55 ⟨a_128, c_129, b_130, d_131, rfl, hd133, hb⟩
    rw [← eq132] at hd133 ⊢
    have Sq132 : Hid (Fz q132 23) := by show Fz q132 23; rw [eq132]; exact (Fz.add HQ.out (fz_lit (q := (Rat.divInt 0 1)) rfl (by unfold Sz; decide) (by unfold Sz; decide) (by decide)))
    have Eq132 := Lib.hid eq132; clear eq132
    replace M := Lib.hid (And.intro hd133 (Goes.go M.out hb))
    clear hb hd133
    (try go_wp2_with fail)
    refine hK.out _ _ (⟨(M.out.2.2.2.2.2.2.2.2.2.2.2.2.1).at.1 0, (M.out.2.2.2.2.2.2.2.2.2.2.2.2.1).at.1 1, (M.out.2.2.2.2.2.2.2.2.2.2.2.2.1).at.1 2, (M.out.2.2.2.2.2.2.2.2.2.2.2.2.1).at.1 3⟩) (fun hH134 => ?_)
    clear hK K hH127
    (try simp only [Act.put, List.setIfInBounds_toArray, List.set_cons_zero, List.set_cons_succ])
    refine tk at3 ?_
    refine tk at4 ?_
    refine wpAnyH_ready (rs := [5]) (by kernel_rfl) (by simp) ?_
    refine AllReadyH.cons at5 (fun K hK => ?_) AllReadyH.nil
    go_simp
    refine (right_ok (G := G) (q := q132) (M.out.1) (Fz.mono Sq132.out (by omega))).mono ?_
    rintro e w56 ⟨rfl, hb⟩
    replace M := Lib.hid (Goes.go M.out hb)
    clear hb
    (try go_wp2_with fail)
    refine hK.out _ _ (⟨(M.out.2.2.2.2.2.2.2.2.2.2.2.2.1).at.1 0, (M.out.2.2.2.2.2.2.2.2.2.2.2.2.1).at.1 1, (M.out.2.2.2.2.2.2.2.2.2.2.2.2.1).at.1 2, (M.out.2.2.2.2.2.2.2.2.2.2.2.2.1).at.1 3⟩) (fun hH135 => ?_)
    clear hK K hH134
    (try simp only [Act.put, List.setIfInBounds_toArray, List.set_cons_zero, List.set_cons_succ])
    refine tk at6 ?_
    refine tk at7 ?_
    refine tk at8 ?_
    refine wpAnyH_ready (rs := [10]) (by kernel_rfl) (by simp) ?_
    refine AllReadyH.cons at10 (fun K hK => ?_) AllReadyH.nil
    have y12 := (M.out.2.2.1).c4; have p12_0 := y12.1; have q12_0 := y12.2.1; have p12_1 := y12.2.2.1; have q12_1 := y12.2.2.2.1; have p12_2 := y12.2.2.2.2.1; have q12_2 := y12.2.2.2.2.2.1; have p12_3 := y12.2.2.2.2.2.2.1; have q12_3 := y12.2.2.2.2.2.2.2; clear y12
    go_simp
    clear p12_0 q12_0 p12_1 q12_1 p12_2 q12_2 p12_3 q12_3
    obtain ⟨w57, hv⟩ : ∃ w_ : World, w_ = ((((w56.setCell ⟨w52.heap.size, 0, none⟩ (.int .i64 (sg (nu q132)))).setCell ⟨w52.heap.size, 1, none⟩ (.slice a_128 (ln (nu q132)) c_129)).setCell ⟨w52.heap.size, 2, none⟩ (.int .i64 (sg (de q132)))).setCell ⟨w52.heap.size, 3, none⟩ (.slice b_130 (ln (de q132)) d_131)) := ⟨_, rfl⟩
    rw [← hv]
    have og : w56.grownBy w57 (some w52.heap.size) := by rw [hv]; exact (only_setCell (only_setCell (only_setCell (only_setCell (World.grownBy.refl _ _) _) _) _) _)
    have hz : w.heap.size ≤ w52.heap.size := by omega
    have hk : Bx w57 w52.heap.size 26 #[.int .i64 (sg (nu q132)), .slice a_128 (ln (nu q132)) c_129, .int .i64 (sg (de q132)), .slice b_130 (ln (de q132)) d_131] := by rw [hv]; exact (((((M.out.2.2.1).set 0 _).set 1 _).set 2 _).set 3 _)
    have hbw : Below w.heap.size w w57 := by rw [hv]; exact (Below.setCell (Below.setCell (Below.setCell (Below.setCell (M.out.2.2.2.2.2.2.2.2.2.2.2.2.2) (by omega) _) (by omega) _) (by omega) _) (by omega) _)
    replace M := Lib.hid (And.intro ((M.out.1).far (M.out.2.2.1) (by rfl) (by omega) og) (And.intro ((M.out.2.1).far (M.out.2.2.1) (by rfl) (by omega) og) (And.intro hk (And.intro ((M.out.2.2.2.1).far (M.out.2.2.1) (by rfl) (by omega) og) (And.intro ((M.out.2.2.2.2.1).far (M.out.2.2.1) (by rfl) (by omega) og) (And.intro ((M.out.2.2.2.2.2.1).only og (by omega)) (And.intro ((M.out.2.2.2.2.2.2.1).far (M.out.2.2.1) (by rfl) (by omega) og) (And.intro ((M.out.2.2.2.2.2.2.2.1).only og (by omega)) (And.intro ((M.out.2.2.2.2.2.2.2.2.1).only og (by omega)) (And.intro ((M.out.2.2.2.2.2.2.2.2.2.1).only og (by omega)) (And.intro ((M.out.2.2.2.2.2.2.2.2.2.2.1).far (M.out.2.2.1) (by rfl) (by omega) og) (And.intro ((M.out.2.2.2.2.2.2.2.2.2.2.2.1).only og (by omega)) (And.intro ((M.out.2.2.2.2.2.2.2.2.2.2.2.2.1).only og (by omega)) hbw)))))))))))))
    clear hk hbw og hv hz
    refine hK.out _ _ (⟨(M.out.2.2.2.2.2.2.2.2.2.2.2.2.1).at.1 0, (M.out.2.2.2.2.2.2.2.2.2.2.2.2.1).at.1 1, (M.out.2.2.2.2.2.2.2.2.2.2.2.2.1).at.1 2, (M.out.2.2.2.2.2.2.2.2.2.2.2.2.1).at.1 3⟩) (fun hH136 => ?_)
    clear hK K hH135
    (try simp only [Act.put, List.setIfInBounds_toArray, List.set_cons_zero, List.set_cons_succ])
    refine tk at11 ?_
    refine wpAnyH_done (by kernel_rfl) ?_ _
    clear hH136
    go_wp2_with fail
    go_meet
    exact ⟨w52.heap.size, a_122, c_123, b_124, d_125, a_128, c_129, b_130, d_131, q132, rfl, rfl, Eq132, Sq132, (by omega), (M.out.2.2.1), (M.out.1), (M.out.2.1), (M.out.2.2.2.1), (M.out.2.2.2.2.1), (M.out.2.2.2.2.2.2.1), (M.out.2.2.2.2.2.2.2.2.2.2.1), (M.out.2.2.2.2.2.2.2.2.2.2.2.2.1), (M.out.2.2.2.2.2.2.2.2.2.2.2.1), (M.out.2.2.2.2.2.2.2.2.2.1), (M.out.2.2.2.2.2.2.2.2.1), (M.out.2.2.2.2.2.2.2.1), (M.out.2.2.2.2.2.1), (M.out.2.2.2.2.2.2.2.2.2.2.2.2.2)⟩
  case rest =>
    obtain ⟨A90, a_79, c_80, b_81, d_82, a_84, c_85, b_86, d_87, q88, rfl, rfl, Eq88, Sq88, oA90, M⟩ := hcut
    obtain ⟨w52, rfl⟩ : ∃ w_ : World, w_ = wc := ⟨_, rfl⟩
    go_upto_region 22 with fail
    replace M := Lib.hid (And.intro (M.out.1) (And.intro (M.out.2.1) (And.intro (M.out.2.2.2.1) (And.intro (M.out.2.2.2.2.1) (And.intro (M.out.2.2.2.2.2.1) (And.intro (M.out.2.2.2.2.2.2.1) (And.intro (M.out.2.2.2.2.2.2.2.1) (And.intro (M.out.2.2.2.2.2.2.2.2.1) (And.intro (M.out.2.2.2.2.2.2.2.2.2.1) (And.intro (M.out.2.2.2.2.2.2.2.2.2.2.1) (And.intro (M.out.2.2.2.2.2.2.2.2.2.2.2.1) (And.intro (M.out.2.2.2.2.2.2.2.2.2.2.2.2.1) (M.out.2.2.2.2.2.2.2.2.2.2.2.2.2)))))))))))))
    rename_i Kst_ hst_
    exact field_core_s22 hG HQ HR HU HO HER e15 e0 ez HNZ HZ1 HZ2 HT HM H1 H2 H3 Eq88 Sq88 Eq77 Sq77 Eq71 Sq71 Eq35 Sq35 Eq5 Sq5 (by omega) (by omega) (by omega) (by omega) (by omega) (by omega) (by omega) M Kst_ hst_

set_option maxRecDepth 100000 in
set_option maxHeartbeats 4000000 in
theorem field_core_s19 {o : Option Rat} {er : Int} {bz nz : Bool} {q r u : Rat} {a1 b1 a2 b2 a3 b3 : Option Addr} {c1 d1 c2 d2 c3 d3 : Nat} {w : World}  {w45 : World} {a_61 b_63 a_55 b_57 a_49 b_51 a_43 b_45 a_31 b_33 a_1 b_3 : Option Addr} {c_62 d_64 c_56 d_58 c_50 d_52 c_44 d_46 c_32 d_34 c_2 d_4 : Nat} {q65 q59 q53 q47 q35 q5 : Rat} {B0 B1 B2 B3 B6 B7 B8 B10 B11 : Nat} {x0_ x1_ x2_ x10_ x12_ x19_ x22_ x23_ x24_ x25_ x26_ x27_ x28_ x29_ x30_ x31_ x32_ x33_ x34_ x35_ x36_ x37_ x38_ x39_ x40_ x41_ x42_ x43_ x44_ x45_ x46_ x47_ x48_ x49_ x50_ x51_ x52_ x53_ x54_ x55_ x56_ x57_ x58_ x59_ x60_ x61_ x62_ x63_ x64_ x65_ x66_ x67_ x68_ x69_ x70_ x71_ x72_ x73_ x74_ x75_ x76_ x77_ x78_ x79_ x80_ x81_ x82_ x83_ x84_ x85_ x86_ x87_ x88_ x89_ x90_ x91_ x92_ x93_ x94_ x95_ x96_ x97_ x98_ x99_ x100_ x101_ x102_ x103_ x104_ x105_ x106_ x107_ x108_ x109_ x110_ x111_ x112_ x113_ x114_ x115_ x116_ x117_ x118_ x119_ x120_ x121_ x122_ x123_ x124_ x125_ x126_ x127_ x128_ x129_ x130_ x131_ x132_ x133_ x134_ x135_ x136_ x137_ x138_ x139_ x140_ x141_ x142_ x143_ x144_ x145_ x146_ x147_ x148_ x149_ x150_ x151_ x152_ x153_ x154_ x155_ x156_ x157_ x158_ x159_ x160_ x161_ x162_ x163_ x164_ x165_ x166_ x167_ x168_ x169_ x170_ x171_ x172_ x173_ x174_ x175_ x176_ x177_ x178_ x179_ x180_ x181_ x182_ x183_ x184_ x185_ x186_ x187_ x188_ x189_ x190_ x191_ x192_ x193_ x194_ x195_ x196_ x197_ x198_ x199_ x200_ x201_ x202_ x203_ x204_ x205_ x206_ x207_ x208_ x209_ x210_ x211_ x212_ x213_ x214_ : Value} (hG : G ≤ w.heap.size) (HQ : Hid (Fz q 12)) (HR : Hid (Fz r 12)) (HU : Hid (Fz u 12)) (HO : Hid (divO (q * r) r = o)) (HER : Hid (divE r = er)) (e15 : (er == 15) = bz) (e0 : (er == 0) = nz) (ez : (sg (nu r) == 0) = bz) (HNZ : Hid (bz = false → nz = true ∧ o = some q)) (HZ1 : Hid (Sz (oN o) 100)) (HZ2 : Hid (Sz (oD o) 100)) (HT : Hid (Tab w)) (HM : Hid (Mx w)) (H1 : Hid (FD G w a1 c1 b1 d1 q)) (H2 : Hid (FD G w a2 c2 b2 d2 r)) (H3 : Hid (FD G w a3 c3 b3 d3 u)) (Eq65 : Hid (q65 = ((q * u)))) (Sq65 : Hid (Fz q65 24)) (_Eq59 : Hid (q59 = ((q * (((r * u))))))) (_Sq59 : Hid (Fz q59 36)) (_Eq53 : Hid (q53 = ((((((q * r))) * u))))) (_Sq53 : Hid (Fz q53 36)) (Eq47 : Hid (q47 = (((r * u))))) (Sq47 : Hid (Fz q47 24)) (Eq35 : Hid (q35 = ((((q * r)))))) (Sq35 : Hid (Fz q35 24)) (Eq5 : Hid (q5 = (((((((q + r))))))))) (Sq5 : Hid (Fz q5 25)) (oB0 : w.heap.size ≤ B0) (oB1 : B0 < B1) (oB2 : B1 < B2) (oB3 : B2 < B3) (oB6 : B3 < B6) (oB7 : B6 < B7) (oB8 : B7 < B8) (oB10 : B8 < B10) (oB11 : B10 < B11) (M : Hid (Bx w45 B11 26 #[.int .i64 (sg (nu q65)), .slice a_61 (ln (nu q65)) c_62, .int .i64 (sg (de q65)), .slice b_63 (ln (de q65)) d_64] ∧ FD G w45 a_61 c_62 b_63 d_64 q65 ∧ FD G w45 a_55 c_56 b_57 d_58 q59 ∧ FD G w45 a_49 c_50 b_51 d_52 q53 ∧ Bx w45 B10 26 #[.int .i64 (sg (nu q47)), .slice a_43 (ln (nu q47)) c_44, .int .i64 (sg (de q47)), .slice b_45 (ln (de q47)) d_46] ∧ FD G w45 a_43 c_44 b_45 d_46 q47 ∧ Bx w45 B8 26 #[.int .i64 (sg (nu q35)), .slice a_31 (ln (nu q35)) c_32, .int .i64 (sg (de q35)), .slice b_33 (ln (de q35)) d_34] ∧ FD G w45 a_31 c_32 b_33 d_34 q35 ∧ Bx w45 B7 26 #[.int .i64 (sg (nu q59)), .slice a_55 (ln (nu q59)) c_56, .int .i64 (sg (de q59)), .slice b_57 (ln (de q59)) d_58] ∧ Bx w45 B6 26 #[.int .i64 (sg (nu q53)), .slice a_49 (ln (nu q53)) c_50, .int .i64 (sg (de q53)), .slice b_51 (ln (de q53)) d_52] ∧ Bx w45 B3 26 #[.int .i64 (sg (nu q5)), .slice a_1 (ln (nu q5)) c_2, .int .i64 (sg (de q5)), .slice b_3 (ln (de q5)) d_4] ∧ FD G w45 a_1 c_2 b_3 d_4 q5 ∧ Bx w45 B2 26 #[.int .i64 (sg (nu u)), .slice a3 (ln (nu u)) c3, .int .i64 (sg (de u)), .slice b3 (ln (de u)) d3] ∧ Bx w45 B1 26 #[.int .i64 (sg (nu r)), .slice a2 (ln (nu r)) c2, .int .i64 (sg (de r)), .slice b2 (ln (de r)) d2] ∧ Bx w45 B0 26 #[.int .i64 (sg (nu q)), .slice a1 (ln (nu q)) c1, .int .i64 (sg (de q)), .slice b1 (ln (de q)) d1] ∧ Below w.heap.size w w45)) :
    ∀ K : Act → World → Prop, (∀ a_ w_, Code.wp Tryz.prog (restAt Tryz.f4 19) (bodyPost Tryz.prog Tryz.f4 fun e w' => e = .returned (.bool true) ∧ Below w.heap.size w w') a_ w_ → K a_ w_) → Code.wp Tryz.prog (regAt Tryz.f4 19) (Exit.then K (bodyPost Tryz.prog Tryz.f4 fun e w' => e = .returned (.bool true) ∧ Below w.heap.size w w')) ⟨List.toArray (x0_ :: x1_ :: x2_ :: .pointer (some ⟨B0, 0, none⟩) :: .pointer (some ⟨B1, 0, none⟩) :: .pointer (some ⟨B2, 0, none⟩) :: .bool false :: .bool true :: .pointer (some ⟨B3, 0, none⟩) :: .bool true :: x10_ :: .bool true :: x12_ :: .bool true :: .pointer (some ⟨B6, 0, none⟩) :: .bool true :: .pointer (some ⟨B7, 0, none⟩) :: .bool true :: .pointer (some ⟨B8, 0, none⟩) :: x19_ :: .pointer (some ⟨B10, 0, none⟩) :: .pointer (some ⟨B11, 0, none⟩) :: x22_ :: x23_ :: x24_ :: x25_ :: x26_ :: x27_ :: x28_ :: x29_ :: x30_ :: x31_ :: x32_ :: x33_ :: x34_ :: x35_ :: x36_ :: x37_ :: x38_ :: x39_ :: x40_ :: x41_ :: x42_ :: x43_ :: x44_ :: x45_ :: x46_ :: x47_ :: x48_ :: x49_ :: x50_ :: x51_ :: x52_ :: x53_ :: x54_ :: x55_ :: x56_ :: x57_ :: x58_ :: x59_ :: x60_ :: x61_ :: x62_ :: x63_ :: x64_ :: x65_ :: x66_ :: x67_ :: x68_ :: x69_ :: x70_ :: x71_ :: x72_ :: x73_ :: x74_ :: x75_ :: x76_ :: x77_ :: x78_ :: x79_ :: x80_ :: x81_ :: x82_ :: x83_ :: x84_ :: x85_ :: x86_ :: x87_ :: x88_ :: x89_ :: x90_ :: x91_ :: x92_ :: x93_ :: x94_ :: x95_ :: x96_ :: x97_ :: x98_ :: x99_ :: x100_ :: x101_ :: x102_ :: x103_ :: x104_ :: x105_ :: x106_ :: x107_ :: x108_ :: x109_ :: x110_ :: x111_ :: x112_ :: x113_ :: x114_ :: x115_ :: x116_ :: x117_ :: x118_ :: x119_ :: x120_ :: x121_ :: x122_ :: x123_ :: x124_ :: x125_ :: x126_ :: x127_ :: x128_ :: x129_ :: x130_ :: x131_ :: x132_ :: x133_ :: x134_ :: x135_ :: x136_ :: x137_ :: x138_ :: x139_ :: x140_ :: x141_ :: x142_ :: x143_ :: x144_ :: x145_ :: x146_ :: x147_ :: x148_ :: x149_ :: x150_ :: x151_ :: x152_ :: x153_ :: x154_ :: x155_ :: x156_ :: x157_ :: x158_ :: x159_ :: x160_ :: x161_ :: x162_ :: x163_ :: x164_ :: x165_ :: x166_ :: x167_ :: x168_ :: x169_ :: x170_ :: x171_ :: x172_ :: x173_ :: x174_ :: x175_ :: x176_ :: x177_ :: x178_ :: x179_ :: x180_ :: x181_ :: x182_ :: x183_ :: x184_ :: x185_ :: x186_ :: x187_ :: x188_ :: x189_ :: x190_ :: x191_ :: x192_ :: x193_ :: x194_ :: x195_ :: x196_ :: x197_ :: x198_ :: x199_ :: x200_ :: x201_ :: x202_ :: x203_ :: x204_ :: x205_ :: x206_ :: x207_ :: x208_ :: x209_ :: x210_ :: x211_ :: x212_ :: x213_ :: x214_ :: undef :: undef :: undef :: undef :: undef :: undef :: undef :: undef :: undef :: undef :: undef :: undef :: undef :: undef :: undef :: undef :: undef :: undef :: undef :: undef :: undef :: undef :: undef :: undef :: undef :: undef :: undef :: undef :: undef :: undef :: undef :: undef :: undef :: undef :: undef :: undef :: undef :: undef :: undef :: undef :: undef :: undef :: undef :: undef :: undef :: undef :: undef :: undef :: undef :: undef :: undef :: undef :: undef :: undef :: undef :: undef :: undef :: undef :: undef :: undef :: undef :: undef :: undef :: undef :: undef :: undef :: undef :: undef :: undef :: undef :: undef :: undef :: undef :: undef :: undef :: undef :: undef :: undef :: undef :: undef :: undef :: undef :: undef :: undef :: undef :: undef :: undef :: undef :: undef :: undef :: undef :: undef :: undef :: undef :: undef :: undef :: undef :: undef :: undef :: undef :: undef :: undef :: undef :: undef :: undef :: undef :: undef :: undef :: undef :: undef :: undef :: undef :: undef :: undef :: undef :: undef :: undef :: undef :: []), []⟩ w45 := by
  intro Kst_ hst_
  conv => arg 2; whnf
  conv at hst_ => enter [a_, w_, 1, 2]; whnf
  have y3 := (M.out.2.2.2.2.2.2.2.2.2.2.1).c4; have p3_0 := y3.1; have q3_0 := y3.2.1; have p3_1 := y3.2.2.1; have q3_1 := y3.2.2.2.1; have p3_2 := y3.2.2.2.2.1; have q3_2 := y3.2.2.2.2.2.1; have p3_3 := y3.2.2.2.2.2.2.1; have q3_3 := y3.2.2.2.2.2.2.2; clear y3
  have y2 := (M.out.2.2.2.2.2.2.2.2.2.2.2.2.1).c4; have p2_0 := y2.1; have q2_0 := y2.2.1; have p2_1 := y2.2.2.1; have q2_1 := y2.2.2.2.1; have p2_2 := y2.2.2.2.2.1; have q2_2 := y2.2.2.2.2.2.1; have p2_3 := y2.2.2.2.2.2.2.1; have q2_3 := y2.2.2.2.2.2.2.2; clear y2
  go_wp2_with fail
  clear p3_0 q3_0 p3_1 q3_1 p3_2 q3_2 p3_3 q3_3 p2_0 q2_0 p2_1 q2_1 p2_2 q2_2 p2_3 q2_3
  obtain ⟨q71, eq71⟩ : ∃ v_ : Rat, v_ = (q5 * u) := ⟨_, rfl⟩
  refine (fracMul_ok (G := G) (q := q5) (r := u) (Nat.le_trans hG (M.out.2.2.2.2.2.2.2.2.2.2.2.2.2.2.2).size) (M.out.2.2.2.2.2.2.2.2.2.2.2.1) (H3.out.keep (M.out.2.2.2.2.2.2.2.2.2.2.2.2.2.2.2)) (Fz.mono Sq5.out (by omega)) (Fz.mono HU.out (by omega))).mono ?_
  rintro e w46 ⟨a_67, c_68, b_69, d_70, rfl, hd72, hb⟩
  rw [← eq71] at hd72 ⊢
  have Sq71 : Hid (Fz q71 37) := by show Fz q71 37; rw [eq71]; exact (Fz.mul Sq5.out HU.out)
  have Eq71 := Lib.hid eq71; clear eq71
  replace M := Lib.hid (And.intro hd72 (Goes.go M.out hb))
  clear hb hd72
  go_wp2_with fail
  refine (right_ok (G := G) (q := q71) (M.out.1) (Fz.mono Sq71.out (by omega))).mono ?_
  rintro e w47 ⟨rfl, hb⟩
  replace M := Lib.hid (Goes.go M.out hb)
  clear hb
  have y6 := (M.out.2.2.2.2.2.2.2.2.2.2.1).c4; have p6_0 := y6.1; have q6_0 := y6.2.1; have p6_1 := y6.2.2.1; have q6_1 := y6.2.2.2.1; have p6_2 := y6.2.2.2.2.1; have q6_2 := y6.2.2.2.2.2.1; have p6_3 := y6.2.2.2.2.2.2.1; have q6_3 := y6.2.2.2.2.2.2.2; clear y6
  go_upto_region 20 with fail
  clear p6_0 q6_0 p6_1 q6_1 p6_2 q6_2 p6_3 q6_3
  obtain ⟨w48, hv⟩ : ∃ w_ : World, w_ = ((((w47.setCell ⟨B6, 0, none⟩ (.int .i64 (sg (nu q71)))).setCell ⟨B6, 1, none⟩ (.slice a_67 (ln (nu q71)) c_68)).setCell ⟨B6, 2, none⟩ (.int .i64 (sg (de q71)))).setCell ⟨B6, 3, none⟩ (.slice b_69 (ln (de q71)) d_70)) := ⟨_, rfl⟩
  rw [← hv]
  have og : w47.grownBy w48 (some B6) := by rw [hv]; exact (only_setCell (only_setCell (only_setCell (only_setCell (World.grownBy.refl _ _) _) _) _) _)
  have hz : w.heap.size ≤ B6 := by omega
  have hk : Bx w48 B6 26 #[.int .i64 (sg (nu q71)), .slice a_67 (ln (nu q71)) c_68, .int .i64 (sg (de q71)), .slice b_69 (ln (de q71)) d_70] := by rw [hv]; exact (((((M.out.2.2.2.2.2.2.2.2.2.2.1).set 0 _).set 1 _).set 2 _).set 3 _)
  have hbw : Below w.heap.size w w48 := by rw [hv]; exact (Below.setCell (Below.setCell (Below.setCell (Below.setCell (M.out.2.2.2.2.2.2.2.2.2.2.2.2.2.2.2.2) (by omega) _) (by omega) _) (by omega) _) (by omega) _)
  replace M := Lib.hid (And.intro ((M.out.1).far (M.out.2.2.2.2.2.2.2.2.2.2.1) (by rfl) (by omega) og) (And.intro ((M.out.2.1).only og (by omega)) (And.intro ((M.out.2.2.1).far (M.out.2.2.2.2.2.2.2.2.2.2.1) (by rfl) (by omega) og) (And.intro ((M.out.2.2.2.1).far (M.out.2.2.2.2.2.2.2.2.2.2.1) (by rfl) (by omega) og) (And.intro ((M.out.2.2.2.2.1).far (M.out.2.2.2.2.2.2.2.2.2.2.1) (by rfl) (by omega) og) (And.intro ((M.out.2.2.2.2.2.1).only og (by omega)) (And.intro ((M.out.2.2.2.2.2.2.1).far (M.out.2.2.2.2.2.2.2.2.2.2.1) (by rfl) (by omega) og) (And.intro ((M.out.2.2.2.2.2.2.2.1).only og (by omega)) (And.intro ((M.out.2.2.2.2.2.2.2.2.1).far (M.out.2.2.2.2.2.2.2.2.2.2.1) (by rfl) (by omega) og) (And.intro ((M.out.2.2.2.2.2.2.2.2.2.1).only og (by omega)) (And.intro hk (And.intro ((M.out.2.2.2.2.2.2.2.2.2.2.2.1).only og (by omega)) (And.intro ((M.out.2.2.2.2.2.2.2.2.2.2.2.2.1).far (M.out.2.2.2.2.2.2.2.2.2.2.1) (by rfl) (by omega) og) (And.intro ((M.out.2.2.2.2.2.2.2.2.2.2.2.2.2.1).only og (by omega)) (And.intro ((M.out.2.2.2.2.2.2.2.2.2.2.2.2.2.2.1).only og (by omega)) (And.intro ((M.out.2.2.2.2.2.2.2.2.2.2.2.2.2.2.2.1).only og (by omega)) hbw))))))))))))))))
  clear hk hbw og hv hz
  have y11 := (M.out.2.1).c4; have p11_0 := y11.1; have q11_0 := y11.2.1; have p11_1 := y11.2.2.1; have q11_1 := y11.2.2.2.1; have p11_2 := y11.2.2.2.2.1; have q11_2 := y11.2.2.2.2.2.1; have p11_3 := y11.2.2.2.2.2.2.1; have q11_3 := y11.2.2.2.2.2.2.2; clear y11
  have y10 := (M.out.2.2.2.2.2.1).c4; have p10_0 := y10.1; have q10_0 := y10.2.1; have p10_1 := y10.2.2.1; have q10_1 := y10.2.2.2.1; have p10_2 := y10.2.2.2.2.1; have q10_2 := y10.2.2.2.2.2.1; have p10_3 := y10.2.2.2.2.2.2.1; have q10_3 := y10.2.2.2.2.2.2.2; clear y10
  go_wp2_with fail
  clear p11_0 q11_0 p11_1 q11_1 p11_2 q11_2 p11_3 q11_3 p10_0 q10_0 p10_1 q10_1 p10_2 q10_2 p10_3 q10_3
  replace M := Lib.hid (And.intro (M.out.1) (And.intro (M.out.2.2.1) (And.intro (M.out.2.2.2.1) (And.intro (M.out.2.2.2.2.2.2.1) (And.intro (M.out.2.2.2.2.2.2.2.1) (And.intro (M.out.2.2.2.2.2.2.2.2.1) (And.intro (M.out.2.2.2.2.2.2.2.2.2.1) (And.intro (M.out.2.2.2.2.2.2.2.2.2.2.1) (And.intro (M.out.2.2.2.2.2.2.2.2.2.2.2.1) (And.intro (M.out.2.2.2.2.2.2.2.2.2.2.2.2.1) (And.intro (M.out.2.2.2.2.2.2.2.2.2.2.2.2.2.2.1) (And.intro (M.out.2.2.2.2.2.2.2.2.2.2.2.2.2.2.2.1) (M.out.2.2.2.2.2.2.2.2.2.2.2.2.2.2.2.2)))))))))))))
  obtain ⟨q77, eq77⟩ : ∃ v_ : Rat, v_ = (q65 + q47) := ⟨_, rfl⟩
  refine (fracAdd_ok (G := G) (q := q65) (r := q47) (M.out.2.1) (M.out.2.2.2.1) (Fz.mono Sq65.out (by omega)) (Fz.mono Sq47.out (by omega))).mono ?_
  rintro e w49 ⟨a_73, c_74, b_75, d_76, rfl, hd78, hb⟩
  rw [← eq77] at hd78 ⊢
  have Sq77 : Hid (Fz q77 49) := by show Fz q77 49; rw [eq77]; exact (Fz.add Sq65.out Sq47.out)
  have Eq77 := Lib.hid eq77; clear eq77
  replace M := Lib.hid (And.intro hd78 (Goes.go M.out hb))
  clear hb hd78
  go_wp2_with fail
  refine (right_ok (G := G) (q := q77) (M.out.1) (Fz.mono Sq77.out (by omega))).mono ?_
  rintro e w50 ⟨rfl, hb⟩
  replace M := Lib.hid (Goes.go M.out hb)
  clear hb
  have y7 := (M.out.2.2.2.2.2.2.2.1).c4; have p7_0 := y7.1; have q7_0 := y7.2.1; have p7_1 := y7.2.2.1; have q7_1 := y7.2.2.2.1; have p7_2 := y7.2.2.2.2.1; have q7_2 := y7.2.2.2.2.2.1; have p7_3 := y7.2.2.2.2.2.2.1; have q7_3 := y7.2.2.2.2.2.2.2; clear y7
  go_upto_region 21 with fail
  clear p7_0 q7_0 p7_1 q7_1 p7_2 q7_2 p7_3 q7_3
  obtain ⟨w51, hv⟩ : ∃ w_ : World, w_ = ((((w50.setCell ⟨B7, 0, none⟩ (.int .i64 (sg (nu q77)))).setCell ⟨B7, 1, none⟩ (.slice a_73 (ln (nu q77)) c_74)).setCell ⟨B7, 2, none⟩ (.int .i64 (sg (de q77)))).setCell ⟨B7, 3, none⟩ (.slice b_75 (ln (de q77)) d_76)) := ⟨_, rfl⟩
  rw [← hv]
  have og : w50.grownBy w51 (some B7) := by rw [hv]; exact (only_setCell (only_setCell (only_setCell (only_setCell (World.grownBy.refl _ _) _) _) _) _)
  have hz : w.heap.size ≤ B7 := by omega
  have hk : Bx w51 B7 26 #[.int .i64 (sg (nu q77)), .slice a_73 (ln (nu q77)) c_74, .int .i64 (sg (de q77)), .slice b_75 (ln (de q77)) d_76] := by rw [hv]; exact (((((M.out.2.2.2.2.2.2.2.1).set 0 _).set 1 _).set 2 _).set 3 _)
  have hbw : Below w.heap.size w w51 := by rw [hv]; exact (Below.setCell (Below.setCell (Below.setCell (Below.setCell (M.out.2.2.2.2.2.2.2.2.2.2.2.2.2) (by omega) _) (by omega) _) (by omega) _) (by omega) _)
  replace M := Lib.hid (And.intro ((M.out.1).far (M.out.2.2.2.2.2.2.2.1) (by rfl) (by omega) og) (And.intro ((M.out.2.1).far (M.out.2.2.2.2.2.2.2.1) (by rfl) (by omega) og) (And.intro ((M.out.2.2.1).far (M.out.2.2.2.2.2.2.2.1) (by rfl) (by omega) og) (And.intro ((M.out.2.2.2.1).far (M.out.2.2.2.2.2.2.2.1) (by rfl) (by omega) og) (And.intro ((M.out.2.2.2.2.1).far (M.out.2.2.2.2.2.2.2.1) (by rfl) (by omega) og) (And.intro ((M.out.2.2.2.2.2.1).only og (by omega)) (And.intro ((M.out.2.2.2.2.2.2.1).far (M.out.2.2.2.2.2.2.2.1) (by rfl) (by omega) og) (And.intro hk (And.intro ((M.out.2.2.2.2.2.2.2.2.1).only og (by omega)) (And.intro ((M.out.2.2.2.2.2.2.2.2.2.1).only og (by omega)) (And.intro ((M.out.2.2.2.2.2.2.2.2.2.2.1).far (M.out.2.2.2.2.2.2.2.1) (by rfl) (by omega) og) (And.intro ((M.out.2.2.2.2.2.2.2.2.2.2.2.1).only og (by omega)) (And.intro ((M.out.2.2.2.2.2.2.2.2.2.2.2.2.1).only og (by omega)) hbw)))))))))))))
  clear hk hbw og hv hz
  replace M := Lib.hid (And.intro (M.out.1) (And.intro (M.out.2.1) (And.intro (M.out.2.2.2.2.2.1) (And.intro (M.out.2.2.2.2.2.2.1) (And.intro (M.out.2.2.2.2.2.2.2.1) (And.intro (M.out.2.2.2.2.2.2.2.2.1) (And.intro (M.out.2.2.2.2.2.2.2.2.2.1) (And.intro (M.out.2.2.2.2.2.2.2.2.2.2.1) (And.intro (M.out.2.2.2.2.2.2.2.2.2.2.2.1) (And.intro (M.out.2.2.2.2.2.2.2.2.2.2.2.2.1) (M.out.2.2.2.2.2.2.2.2.2.2.2.2.2)))))))))))
  rename_i Kst_ hst_
  exact field_core_s21 hG HQ HR HU HO HER e15 e0 ez HNZ HZ1 HZ2 HT HM H1 H2 H3 (Lib.hid (by rw [Eq77.out, Eq65.out, Eq47.out])) Sq77 (Lib.hid (by rw [Eq71.out, Eq5.out])) Sq71 Eq35 Sq35 Eq5 Sq5 (by omega) (by omega) (by omega) (by omega) (by omega) (by omega) M Kst_ hst_

set_option maxRecDepth 100000 in
set_option maxHeartbeats 4000000 in
theorem field_core_s15 {o : Option Rat} {er : Int} {bz nz : Bool} {q r u : Rat} {a1 b1 a2 b2 a3 b3 : Option Addr} {c1 d1 c2 d2 c3 d3 : Nat} {w : World}  {w37 : World} {a_49 b_51 a_43 b_45 a_37 b_39 a_31 b_33 a_25 b_27 a_1 b_3 : Option Addr} {c_50 d_52 c_44 d_46 c_38 d_40 c_32 d_34 c_26 d_28 c_2 d_4 : Nat} {q53 q47 q41 q35 q29 q5 : Rat} {B0 B1 B2 B3 B6 B7 B8 B9 B10 : Nat} {x0_ x1_ x2_ x10_ x12_ x21_ x22_ x23_ x24_ x25_ x26_ x27_ x28_ x29_ x30_ x31_ x32_ x33_ x34_ x35_ x36_ x37_ x38_ x39_ x40_ x41_ x42_ x43_ x44_ x45_ x46_ x47_ x48_ x49_ x50_ x51_ x52_ x53_ x54_ x55_ x56_ x57_ x58_ x59_ x60_ x61_ x62_ x63_ x64_ x65_ x66_ x67_ x68_ x69_ x70_ x71_ x72_ x73_ x74_ x75_ x76_ x77_ x78_ x79_ x80_ x81_ x82_ x83_ x84_ x85_ x86_ x87_ x88_ x89_ x90_ x91_ x92_ x93_ x94_ x95_ x96_ x97_ x98_ x99_ x100_ x101_ x102_ x103_ x104_ x105_ x106_ x107_ x108_ x109_ x110_ x111_ x112_ x113_ x114_ x115_ x116_ x117_ x118_ x119_ x120_ x121_ x122_ x123_ x124_ x125_ x126_ x127_ x128_ x129_ x130_ x131_ x132_ x133_ x134_ x135_ x136_ x137_ x138_ x139_ x140_ x141_ x142_ x143_ x144_ x145_ x146_ x147_ x148_ x149_ x150_ x151_ x152_ x153_ x154_ x155_ x156_ x157_ x158_ x159_ x160_ x161_ x162_ x163_ x164_ x165_ x166_ : Value} (hG : G ≤ w.heap.size) (HQ : Hid (Fz q 12)) (HR : Hid (Fz r 12)) (HU : Hid (Fz u 12)) (HO : Hid (divO (q * r) r = o)) (HER : Hid (divE r = er)) (e15 : (er == 15) = bz) (e0 : (er == 0) = nz) (ez : (sg (nu r) == 0) = bz) (HNZ : Hid (bz = false → nz = true ∧ o = some q)) (HZ1 : Hid (Sz (oN o) 100)) (HZ2 : Hid (Sz (oD o) 100)) (HT : Hid (Tab w)) (HM : Hid (Mx w)) (H1 : Hid (FD G w a1 c1 b1 d1 q)) (H2 : Hid (FD G w a2 c2 b2 d2 r)) (H3 : Hid (FD G w a3 c3 b3 d3 u)) (Eq53 : Hid (q53 = (((((q * r))) * u)))) (Sq53 : Hid (Fz q53 36)) (Eq47 : Hid (q47 = ((r * u)))) (Sq47 : Hid (Fz q47 24)) (Eq41 : Hid (q41 = (((r * q))))) (_Sq41 : Hid (Fz q41 24)) (Eq35 : Hid (q35 = (((q * r))))) (Sq35 : Hid (Fz q35 24)) (_Eq29 : Hid (q29 = ((((q + (((r + u))))))))) (_Sq29 : Hid (Fz q29 38)) (Eq5 : Hid (q5 = ((((((q + r)))))))) (Sq5 : Hid (Fz q5 25)) (oB0 : w.heap.size ≤ B0) (oB1 : B0 < B1) (oB2 : B1 < B2) (oB3 : B2 < B3) (oB6 : B3 < B6) (oB7 : B6 < B7) (oB8 : B7 < B8) (oB9 : B8 < B9) (oB10 : B9 < B10) (M : Hid (FD G w37 a_49 c_50 b_51 d_52 q53 ∧ Bx w37 B10 26 #[.int .i64 (sg (nu q47)), .slice a_43 (ln (nu q47)) c_44, .int .i64 (sg (de q47)), .slice b_45 (ln (de q47)) d_46] ∧ FD G w37 a_43 c_44 b_45 d_46 q47 ∧ Bx w37 B9 26 #[.int .i64 (sg (nu q41)), .slice a_37 (ln (nu q41)) c_38, .int .i64 (sg (de q41)), .slice b_39 (ln (de q41)) d_40] ∧ FD G w37 a_37 c_38 b_39 d_40 q41 ∧ Bx w37 B8 26 #[.int .i64 (sg (nu q35)), .slice a_31 (ln (nu q35)) c_32, .int .i64 (sg (de q35)), .slice b_33 (ln (de q35)) d_34] ∧ FD G w37 a_31 c_32 b_33 d_34 q35 ∧ Bx w37 B7 26 #[.int .i64 (sg (nu q29)), .slice a_25 (ln (nu q29)) c_26, .int .i64 (sg (de q29)), .slice b_27 (ln (de q29)) d_28] ∧ FD G w37 a_25 c_26 b_27 d_28 q29 ∧ Bx w37 B6 26 #[.int .i64 (sg (nu q53)), .slice a_49 (ln (nu q53)) c_50, .int .i64 (sg (de q53)), .slice b_51 (ln (de q53)) d_52] ∧ Bx w37 B3 26 #[.int .i64 (sg (nu q5)), .slice a_1 (ln (nu q5)) c_2, .int .i64 (sg (de q5)), .slice b_3 (ln (de q5)) d_4] ∧ FD G w37 a_1 c_2 b_3 d_4 q5 ∧ Bx w37 B2 26 #[.int .i64 (sg (nu u)), .slice a3 (ln (nu u)) c3, .int .i64 (sg (de u)), .slice b3 (ln (de u)) d3] ∧ Bx w37 B1 26 #[.int .i64 (sg (nu r)), .slice a2 (ln (nu r)) c2, .int .i64 (sg (de r)), .slice b2 (ln (de r)) d2] ∧ Bx w37 B0 26 #[.int .i64 (sg (nu q)), .slice a1 (ln (nu q)) c1, .int .i64 (sg (de q)), .slice b1 (ln (de q)) d1] ∧ Below w.heap.size w w37)) :
    ∀ K : Act → World → Prop, (∀ a_ w_, Code.wp Tryz.prog (restAt Tryz.f4 15) (bodyPost Tryz.prog Tryz.f4 fun e w' => e = .returned (.bool true) ∧ Below w.heap.size w w') a_ w_ → K a_ w_) → Code.wp Tryz.prog (regAt Tryz.f4 15) (Exit.then K (bodyPost Tryz.prog Tryz.f4 fun e w' => e = .returned (.bool true) ∧ Below w.heap.size w w')) ⟨List.toArray (x0_ :: x1_ :: x2_ :: .pointer (some ⟨B0, 0, none⟩) :: .pointer (some ⟨B1, 0, none⟩) :: .pointer (some ⟨B2, 0, none⟩) :: .bool false :: .bool true :: .pointer (some ⟨B3, 0, none⟩) :: .bool true :: x10_ :: .bool true :: x12_ :: .bool true :: .pointer (some ⟨B6, 0, none⟩) :: .bool true :: .pointer (some ⟨B7, 0, none⟩) :: .bool true :: .pointer (some ⟨B8, 0, none⟩) :: .pointer (some ⟨B9, 0, none⟩) :: .pointer (some ⟨B10, 0, none⟩) :: x21_ :: x22_ :: x23_ :: x24_ :: x25_ :: x26_ :: x27_ :: x28_ :: x29_ :: x30_ :: x31_ :: x32_ :: x33_ :: x34_ :: x35_ :: x36_ :: x37_ :: x38_ :: x39_ :: x40_ :: x41_ :: x42_ :: x43_ :: x44_ :: x45_ :: x46_ :: x47_ :: x48_ :: x49_ :: x50_ :: x51_ :: x52_ :: x53_ :: x54_ :: x55_ :: x56_ :: x57_ :: x58_ :: x59_ :: x60_ :: x61_ :: x62_ :: x63_ :: x64_ :: x65_ :: x66_ :: x67_ :: x68_ :: x69_ :: x70_ :: x71_ :: x72_ :: x73_ :: x74_ :: x75_ :: x76_ :: x77_ :: x78_ :: x79_ :: x80_ :: x81_ :: x82_ :: x83_ :: x84_ :: x85_ :: x86_ :: x87_ :: x88_ :: x89_ :: x90_ :: x91_ :: x92_ :: x93_ :: x94_ :: x95_ :: x96_ :: x97_ :: x98_ :: x99_ :: x100_ :: x101_ :: x102_ :: x103_ :: x104_ :: x105_ :: x106_ :: x107_ :: x108_ :: x109_ :: x110_ :: x111_ :: x112_ :: x113_ :: x114_ :: x115_ :: x116_ :: x117_ :: x118_ :: x119_ :: x120_ :: x121_ :: x122_ :: x123_ :: x124_ :: x125_ :: x126_ :: x127_ :: x128_ :: x129_ :: x130_ :: x131_ :: x132_ :: x133_ :: x134_ :: x135_ :: x136_ :: x137_ :: x138_ :: x139_ :: x140_ :: x141_ :: x142_ :: x143_ :: x144_ :: x145_ :: x146_ :: x147_ :: x148_ :: x149_ :: x150_ :: x151_ :: x152_ :: x153_ :: x154_ :: x155_ :: x156_ :: x157_ :: x158_ :: x159_ :: x160_ :: x161_ :: x162_ :: x163_ :: x164_ :: x165_ :: x166_ :: undef :: undef :: undef :: undef :: undef :: undef :: undef :: undef :: undef :: undef :: undef :: undef :: undef :: undef :: undef :: undef :: undef :: undef :: undef :: undef :: undef :: undef :: undef :: undef :: undef :: undef :: undef :: undef :: undef :: undef :: undef :: undef :: undef :: undef :: undef :: undef :: undef :: undef :: undef :: undef :: undef :: undef :: undef :: undef :: undef :: undef :: undef :: undef :: undef :: undef :: undef :: undef :: undef :: undef :: undef :: undef :: undef :: undef :: undef :: undef :: undef :: undef :: undef :: undef :: undef :: undef :: undef :: undef :: undef :: undef :: undef :: undef :: undef :: undef :: undef :: undef :: undef :: undef :: undef :: undef :: undef :: undef :: undef :: undef :: undef :: undef :: undef :: undef :: undef :: undef :: undef :: undef :: undef :: undef :: undef :: undef :: undef :: undef :: undef :: undef :: undef :: undef :: undef :: undef :: undef :: undef :: undef :: undef :: undef :: undef :: undef :: undef :: undef :: undef :: undef :: undef :: undef :: undef :: undef :: undef :: undef :: undef :: undef :: undef :: undef :: undef :: undef :: undef :: undef :: undef :: undef :: undef :: undef :: undef :: undef :: undef :: undef :: undef :: undef :: undef :: undef :: undef :: undef :: undef :: undef :: undef :: undef :: undef :: undef :: undef :: undef :: undef :: undef :: undef :: undef :: undef :: undef :: undef :: undef :: undef :: undef :: undef :: undef :: undef :: undef :: undef :: []), []⟩ w37 := by
  intro Kst_ hst_
  conv => arg 2; whnf
  conv at hst_ => enter [a_, w_, 1, 2]; whnf
  have y0 := (M.out.2.2.2.2.2.2.2.2.2.2.2.2.2.2.1).c4; have p0_0 := y0.1; have q0_0 := y0.2.1; have p0_1 := y0.2.2.1; have q0_1 := y0.2.2.2.1; have p0_2 := y0.2.2.2.2.1; have q0_2 := y0.2.2.2.2.2.1; have p0_3 := y0.2.2.2.2.2.2.1; have q0_3 := y0.2.2.2.2.2.2.2; clear y0
  have y10 := (M.out.2.1).c4; have p10_0 := y10.1; have q10_0 := y10.2.1; have p10_1 := y10.2.2.1; have q10_1 := y10.2.2.2.1; have p10_2 := y10.2.2.2.2.1; have q10_2 := y10.2.2.2.2.2.1; have p10_3 := y10.2.2.2.2.2.2.1; have q10_3 := y10.2.2.2.2.2.2.2; clear y10
  go_wp2_with fail
  clear p0_0 q0_0 p0_1 q0_1 p0_2 q0_2 p0_3 q0_3 p10_0 q10_0 p10_1 q10_1 p10_2 q10_2 p10_3 q10_3
  obtain ⟨q59, eq59⟩ : ∃ v_ : Rat, v_ = (q * q47) := ⟨_, rfl⟩
  refine (fracMul_ok (G := G) (q := q) (r := q47) (Nat.le_trans hG (M.out.2.2.2.2.2.2.2.2.2.2.2.2.2.2.2).size) (H1.out.keep (M.out.2.2.2.2.2.2.2.2.2.2.2.2.2.2.2)) (M.out.2.2.1) (Fz.mono HQ.out (by omega)) (Fz.mono Sq47.out (by omega))).mono ?_
  rintro e w38 ⟨a_55, c_56, b_57, d_58, rfl, hd60, hb⟩
  rw [← eq59] at hd60 ⊢
  have Sq59 : Hid (Fz q59 36) := by show Fz q59 36; rw [eq59]; exact (Fz.mul HQ.out Sq47.out)
  have Eq59 := Lib.hid eq59; clear eq59
  replace M := Lib.hid (And.intro hd60 (Goes.go M.out hb))
  clear hb hd60
  go_wp2_with fail
  refine (right_ok (G := G) (q := q59) (M.out.1) (Fz.mono Sq59.out (by omega))).mono ?_
  rintro e w39 ⟨rfl, hb⟩
  replace M := Lib.hid (Goes.go M.out hb)
  clear hb
  have y7 := (M.out.2.2.2.2.2.2.2.2.1).c4; have p7_0 := y7.1; have q7_0 := y7.2.1; have p7_1 := y7.2.2.1; have q7_1 := y7.2.2.2.1; have p7_2 := y7.2.2.2.2.1; have q7_2 := y7.2.2.2.2.2.1; have p7_3 := y7.2.2.2.2.2.2.1; have q7_3 := y7.2.2.2.2.2.2.2; clear y7
  go_upto_region 16 with fail
  clear p7_0 q7_0 p7_1 q7_1 p7_2 q7_2 p7_3 q7_3
  obtain ⟨w40, hv⟩ : ∃ w_ : World, w_ = ((((w39.setCell ⟨B7, 0, none⟩ (.int .i64 (sg (nu q59)))).setCell ⟨B7, 1, none⟩ (.slice a_55 (ln (nu q59)) c_56)).setCell ⟨B7, 2, none⟩ (.int .i64 (sg (de q59)))).setCell ⟨B7, 3, none⟩ (.slice b_57 (ln (de q59)) d_58)) := ⟨_, rfl⟩
  rw [← hv]
  have og : w39.grownBy w40 (some B7) := by rw [hv]; exact (only_setCell (only_setCell (only_setCell (only_setCell (World.grownBy.refl _ _) _) _) _) _)
  have hz : w.heap.size ≤ B7 := by omega
  have hk : Bx w40 B7 26 #[.int .i64 (sg (nu q59)), .slice a_55 (ln (nu q59)) c_56, .int .i64 (sg (de q59)), .slice b_57 (ln (de q59)) d_58] := by rw [hv]; exact (((((M.out.2.2.2.2.2.2.2.2.1).set 0 _).set 1 _).set 2 _).set 3 _)
  have hbw : Below w.heap.size w w40 := by rw [hv]; exact (Below.setCell (Below.setCell (Below.setCell (Below.setCell (M.out.2.2.2.2.2.2.2.2.2.2.2.2.2.2.2.2) (by omega) _) (by omega) _) (by omega) _) (by omega) _)
  replace M := Lib.hid (And.intro ((M.out.1).far (M.out.2.2.2.2.2.2.2.2.1) (by rfl) (by omega) og) (And.intro ((M.out.2.1).far (M.out.2.2.2.2.2.2.2.2.1) (by rfl) (by omega) og) (And.intro ((M.out.2.2.1).only og (by omega)) (And.intro ((M.out.2.2.2.1).far (M.out.2.2.2.2.2.2.2.2.1) (by rfl) (by omega) og) (And.intro ((M.out.2.2.2.2.1).only og (by omega)) (And.intro ((M.out.2.2.2.2.2.1).far (M.out.2.2.2.2.2.2.2.2.1) (by rfl) (by omega) og) (And.intro ((M.out.2.2.2.2.2.2.1).only og (by omega)) (And.intro ((M.out.2.2.2.2.2.2.2.1).far (M.out.2.2.2.2.2.2.2.2.1) (by rfl) (by omega) og) (And.intro hk (And.intro ((M.out.2.2.2.2.2.2.2.2.2.1).far (M.out.2.2.2.2.2.2.2.2.1) (by rfl) (by omega) og) (And.intro ((M.out.2.2.2.2.2.2.2.2.2.2.1).only og (by omega)) (And.intro ((M.out.2.2.2.2.2.2.2.2.2.2.2.1).only og (by omega)) (And.intro ((M.out.2.2.2.2.2.2.2.2.2.2.2.2.1).far (M.out.2.2.2.2.2.2.2.2.1) (by rfl) (by omega) og) (And.intro ((M.out.2.2.2.2.2.2.2.2.2.2.2.2.2.1).only og (by omega)) (And.intro ((M.out.2.2.2.2.2.2.2.2.2.2.2.2.2.2.1).only og (by omega)) (And.intro ((M.out.2.2.2.2.2.2.2.2.2.2.2.2.2.2.2.1).only og (by omega)) hbw))))))))))))))))
  clear hk hbw og hv hz
  have y8 := (M.out.2.2.2.2.2.2.1).c4; have p8_0 := y8.1; have q8_0 := y8.2.1; have p8_1 := y8.2.2.1; have q8_1 := y8.2.2.2.1; have p8_2 := y8.2.2.2.2.1; have q8_2 := y8.2.2.2.2.2.1; have p8_3 := y8.2.2.2.2.2.2.1; have q8_3 := y8.2.2.2.2.2.2.2; clear y8
  have y9 := (M.out.2.2.2.2.1).c4; have p9_0 := y9.1; have q9_0 := y9.2.1; have p9_1 := y9.2.2.1; have q9_1 := y9.2.2.2.1; have p9_2 := y9.2.2.2.2.1; have q9_2 := y9.2.2.2.2.2.1; have p9_3 := y9.2.2.2.2.2.2.1; have q9_3 := y9.2.2.2.2.2.2.2; clear y9
  go_wp2_with fail
  clear p8_0 q8_0 p8_1 q8_1 p8_2 q8_2 p8_3 q8_3 p9_0 q9_0 p9_1 q9_1 p9_2 q9_2 p9_3 q9_3
  refine (rfsame_q (G := G) (q := q35) (r := q41) (M.out.2.2.2.2.2.2.2.1) (M.out.2.2.2.2.2.1) (Fz.mono Sq35.out (by omega)) (by rw [Eq41.out, Eq35.out]; exact eqn_3 q r u)).mono ?_
  rintro e w41 ⟨rfl, hb⟩
  replace M := Lib.hid (Goes.go M.out hb)
  clear hb
  have y6 := (M.out.2.2.2.2.2.2.2.2.2.2.1).c4; have p6_0 := y6.1; have q6_0 := y6.2.1; have p6_1 := y6.2.2.1; have q6_1 := y6.2.2.2.1; have p6_2 := y6.2.2.2.2.1; have q6_2 := y6.2.2.2.2.2.1; have p6_3 := y6.2.2.2.2.2.2.1; have q6_3 := y6.2.2.2.2.2.2.2; clear y6
  have y7 := (M.out.2.2.2.2.2.2.2.2.1).c4; have p7_0 := y7.1; have q7_0 := y7.2.1; have p7_1 := y7.2.2.1; have q7_1 := y7.2.2.2.1; have p7_2 := y7.2.2.2.2.1; have q7_2 := y7.2.2.2.2.2.1; have p7_3 := y7.2.2.2.2.2.2.1; have q7_3 := y7.2.2.2.2.2.2.2; clear y7
  go_wp2_with fail
  clear p6_0 q6_0 p6_1 q6_1 p6_2 q6_2 p6_3 q6_3 p7_0 q7_0 p7_1 q7_1 p7_2 q7_2 p7_3 q7_3
  refine (rfsame_q (G := G) (q := q53) (r := q59) (M.out.2.1) (M.out.1) (Fz.mono Sq53.out (by omega)) (by rw [Eq59.out, Eq53.out, Eq47.out]; exact eqn_4 q r u)).mono ?_
  rintro e w42 ⟨rfl, hb⟩
  replace M := Lib.hid (Goes.go M.out hb)
  clear hb
  have y0 := (M.out.2.2.2.2.2.2.2.2.2.2.2.2.2.2.2.1).c4; have p0_0 := y0.1; have q0_0 := y0.2.1; have p0_1 := y0.2.2.1; have q0_1 := y0.2.2.2.1; have p0_2 := y0.2.2.2.2.1; have q0_2 := y0.2.2.2.2.2.1; have p0_3 := y0.2.2.2.2.2.2.1; have q0_3 := y0.2.2.2.2.2.2.2; clear y0
  have y2 := (M.out.2.2.2.2.2.2.2.2.2.2.2.2.2.1).c4; have p2_0 := y2.1; have q2_0 := y2.2.1; have p2_1 := y2.2.2.1; have q2_1 := y2.2.2.2.1; have p2_2 := y2.2.2.2.2.1; have q2_2 := y2.2.2.2.2.2.1; have p2_3 := y2.2.2.2.2.2.2.1; have q2_3 := y2.2.2.2.2.2.2.2; clear y2
  go_wp2_with fail
  clear p0_0 q0_0 p0_1 q0_1 p0_2 q0_2 p0_3 q0_3 p2_0 q2_0 p2_1 q2_1 p2_2 q2_2 p2_3 q2_3
  obtain ⟨q65, eq65⟩ : ∃ v_ : Rat, v_ = (q * u) := ⟨_, rfl⟩
  refine (fracMul_ok (G := G) (q := q) (r := u) (Nat.le_trans hG (M.out.2.2.2.2.2.2.2.2.2.2.2.2.2.2.2.2).size) (H1.out.keep (M.out.2.2.2.2.2.2.2.2.2.2.2.2.2.2.2.2)) (H3.out.keep (M.out.2.2.2.2.2.2.2.2.2.2.2.2.2.2.2.2)) (Fz.mono HQ.out (by omega)) (Fz.mono HU.out (by omega))).mono ?_
  rintro e w43 ⟨a_61, c_62, b_63, d_64, rfl, hd66, hb⟩
  rw [← eq65] at hd66 ⊢
  have Sq65 : Hid (Fz q65 24) := by show Fz q65 24; rw [eq65]; exact (Fz.mul HQ.out HU.out)
  have Eq65 := Lib.hid eq65; clear eq65
  replace M := Lib.hid (And.intro hd66 (Goes.go M.out hb))
  clear hb hd66
  go_wp2_with fail
  refine (right_ok (G := G) (q := q65) (M.out.1) (Fz.mono Sq65.out (by omega))).mono ?_
  rintro e w44 ⟨rfl, hb⟩
  replace M := Lib.hid (Goes.go M.out hb)
  clear hb
  go_upto_region 19 with fail
  obtain ⟨w45, hv⟩ : ∃ w_ : World, w_ = (w44.alloc (.cells #[.int .i64 (sg (nu q65)), .slice a_61 (ln (nu q65)) c_62, .int .i64 (sg (de q65)), .slice b_63 (ln (de q65)) d_64] 26)) := ⟨_, rfl⟩
  rw [← hv]
  have o11 : B10 < w44.heap.size := ((M.out.2.2.2.1)).lt
  replace M := Lib.hid (And.intro (hv ▸ bx1 w44 26 #[.int .i64 (sg (nu q65)), .slice a_61 (ln (nu q65)) c_62, .int .i64 (sg (de q65)), .slice b_63 (ln (de q65)) d_64]) (Goes.go M.out (hv ▸ below_alloc _ _ : Below w44.heap.size w44 w45)))
  clear hv
  replace M := Lib.hid (And.intro (M.out.1) (And.intro (M.out.2.1) (And.intro (M.out.2.2.1) (And.intro (M.out.2.2.2.1) (And.intro (M.out.2.2.2.2.1) (And.intro (M.out.2.2.2.2.2.1) (And.intro (M.out.2.2.2.2.2.2.2.2.1) (And.intro (M.out.2.2.2.2.2.2.2.2.2.1) (And.intro (M.out.2.2.2.2.2.2.2.2.2.2.1) (And.intro (M.out.2.2.2.2.2.2.2.2.2.2.2.2.1) (And.intro (M.out.2.2.2.2.2.2.2.2.2.2.2.2.2.1) (And.intro (M.out.2.2.2.2.2.2.2.2.2.2.2.2.2.2.1) (And.intro (M.out.2.2.2.2.2.2.2.2.2.2.2.2.2.2.2.1) (And.intro (M.out.2.2.2.2.2.2.2.2.2.2.2.2.2.2.2.2.1) (And.intro (M.out.2.2.2.2.2.2.2.2.2.2.2.2.2.2.2.2.2.1) (M.out.2.2.2.2.2.2.2.2.2.2.2.2.2.2.2.2.2.2))))))))))))))))
  rename_i Kst_ hst_
  exact field_core_s19 hG HQ HR HU HO HER e15 e0 ez HNZ HZ1 HZ2 HT HM H1 H2 H3 Eq65 Sq65 (Lib.hid (by rw [Eq59.out, Eq47.out])) Sq59 Eq53 Sq53 Eq47 Sq47 Eq35 Sq35 Eq5 Sq5 (by omega) (by omega) (by omega) (by omega) (by omega) (by omega) (by omega) (by omega) (by omega) M Kst_ hst_

set_option maxRecDepth 100000 in
set_option maxHeartbeats 4000000 in
theorem field_core_s13 {o : Option Rat} {er : Int} {bz nz : Bool} {q r u : Rat} {a1 b1 a2 b2 a3 b3 : Option Addr} {c1 d1 c2 d2 c3 d3 : Nat} {w : World}  {w31 : World} {a_37 b_39 a_31 b_33 a_25 b_27 a_19 b_21 a_1 b_3 : Option Addr} {c_38 d_40 c_32 d_34 c_26 d_28 c_20 d_22 c_2 d_4 : Nat} {q41 q35 q29 q23 q5 : Rat} {B0 B1 B2 B3 B6 B7 B8 B9 : Nat} {x0_ x1_ x2_ x10_ x12_ x20_ x21_ x22_ x23_ x24_ x25_ x26_ x27_ x28_ x29_ x30_ x31_ x32_ x33_ x34_ x35_ x36_ x37_ x38_ x39_ x40_ x41_ x42_ x43_ x44_ x45_ x46_ x47_ x48_ x49_ x50_ x51_ x52_ x53_ x54_ x55_ x56_ x57_ x58_ x59_ x60_ x61_ x62_ x63_ x64_ x65_ x66_ x67_ x68_ x69_ x70_ x71_ x72_ x73_ x74_ x75_ x76_ x77_ x78_ x79_ x80_ x81_ x82_ x83_ x84_ x85_ x86_ x87_ x88_ x89_ x90_ x91_ x92_ x93_ x94_ x95_ x96_ x97_ x98_ x99_ x100_ x101_ x102_ x103_ x104_ x105_ x106_ x107_ x108_ x109_ x110_ x111_ x112_ x113_ x114_ x115_ x116_ x117_ x118_ x119_ x120_ x121_ x122_ x123_ x124_ x125_ x126_ x127_ x128_ x129_ x130_ x131_ x132_ x133_ x134_ x135_ x136_ x137_ x138_ x139_ x140_ x141_ x142_ x143_ x144_ x145_ x146_ x147_ x148_ : Value} (hG : G ≤ w.heap.size) (HQ : Hid (Fz q 12)) (HR : Hid (Fz r 12)) (HU : Hid (Fz u 12)) (HO : Hid (divO (q * r) r = o)) (HER : Hid (divE r = er)) (e15 : (er == 15) = bz) (e0 : (er == 0) = nz) (ez : (sg (nu r) == 0) = bz) (HNZ : Hid (bz = false → nz = true ∧ o = some q)) (HZ1 : Hid (Sz (oN o) 100)) (HZ2 : Hid (Sz (oD o) 100)) (HT : Hid (Tab w)) (HM : Hid (Mx w)) (H1 : Hid (FD G w a1 c1 b1 d1 q)) (H2 : Hid (FD G w a2 c2 b2 d2 r)) (H3 : Hid (FD G w a3 c3 b3 d3 u)) (Eq41 : Hid (q41 = ((r * q)))) (Sq41 : Hid (Fz q41 24)) (Eq35 : Hid (q35 = ((q * r)))) (Sq35 : Hid (Fz q35 24)) (Eq29 : Hid (q29 = (((q + (((r + u)))))))) (Sq29 : Hid (Fz q29 38)) (_Eq23 : Hid (q23 = (((((((q + r)))) + u))))) (_Sq23 : Hid (Fz q23 38)) (Eq5 : Hid (q5 = (((((q + r))))))) (Sq5 : Hid (Fz q5 25)) (oB0 : w.heap.size ≤ B0) (oB1 : B0 < B1) (oB2 : B1 < B2) (oB3 : B2 < B3) (oB6 : B3 < B6) (oB7 : B6 < B7) (oB8 : B7 < B8) (oB9 : B8 < B9) (M : Hid (Bx w31 B9 26 #[.int .i64 (sg (nu q41)), .slice a_37 (ln (nu q41)) c_38, .int .i64 (sg (de q41)), .slice b_39 (ln (de q41)) d_40] ∧ FD G w31 a_37 c_38 b_39 d_40 q41 ∧ Bx w31 B8 26 #[.int .i64 (sg (nu q35)), .slice a_31 (ln (nu q35)) c_32, .int .i64 (sg (de q35)), .slice b_33 (ln (de q35)) d_34] ∧ FD G w31 a_31 c_32 b_33 d_34 q35 ∧ Bx w31 B7 26 #[.int .i64 (sg (nu q29)), .slice a_25 (ln (nu q29)) c_26, .int .i64 (sg (de q29)), .slice b_27 (ln (de q29)) d_28] ∧ FD G w31 a_25 c_26 b_27 d_28 q29 ∧ Bx w31 B6 26 #[.int .i64 (sg (nu q23)), .slice a_19 (ln (nu q23)) c_20, .int .i64 (sg (de q23)), .slice b_21 (ln (de q23)) d_22] ∧ FD G w31 a_19 c_20 b_21 d_22 q23 ∧ Bx w31 B3 26 #[.int .i64 (sg (nu q5)), .slice a_1 (ln (nu q5)) c_2, .int .i64 (sg (de q5)), .slice b_3 (ln (de q5)) d_4] ∧ FD G w31 a_1 c_2 b_3 d_4 q5 ∧ Bx w31 B2 26 #[.int .i64 (sg (nu u)), .slice a3 (ln (nu u)) c3, .int .i64 (sg (de u)), .slice b3 (ln (de u)) d3] ∧ Bx w31 B1 26 #[.int .i64 (sg (nu r)), .slice a2 (ln (nu r)) c2, .int .i64 (sg (de r)), .slice b2 (ln (de r)) d2] ∧ Bx w31 B0 26 #[.int .i64 (sg (nu q)), .slice a1 (ln (nu q)) c1, .int .i64 (sg (de q)), .slice b1 (ln (de q)) d1] ∧ Below w.heap.size w w31)) :
    ∀ K : Act → World → Prop, (∀ a_ w_, Code.wp Tryz.prog (restAt Tryz.f4 13) (bodyPost Tryz.prog Tryz.f4 fun e w' => e = .returned (.bool true) ∧ Below w.heap.size w w') a_ w_ → K a_ w_) → Code.wp Tryz.prog (regAt Tryz.f4 13) (Exit.then K (bodyPost Tryz.prog Tryz.f4 fun e w' => e = .returned (.bool true) ∧ Below w.heap.size w w')) ⟨List.toArray (x0_ :: x1_ :: x2_ :: .pointer (some ⟨B0, 0, none⟩) :: .pointer (some ⟨B1, 0, none⟩) :: .pointer (some ⟨B2, 0, none⟩) :: .bool false :: .bool true :: .pointer (some ⟨B3, 0, none⟩) :: .bool true :: x10_ :: .bool true :: x12_ :: .bool true :: .pointer (some ⟨B6, 0, none⟩) :: .bool true :: .pointer (some ⟨B7, 0, none⟩) :: .bool true :: .pointer (some ⟨B8, 0, none⟩) :: .pointer (some ⟨B9, 0, none⟩) :: x20_ :: x21_ :: x22_ :: x23_ :: x24_ :: x25_ :: x26_ :: x27_ :: x28_ :: x29_ :: x30_ :: x31_ :: x32_ :: x33_ :: x34_ :: x35_ :: x36_ :: x37_ :: x38_ :: x39_ :: x40_ :: x41_ :: x42_ :: x43_ :: x44_ :: x45_ :: x46_ :: x47_ :: x48_ :: x49_ :: x50_ :: x51_ :: x52_ :: x53_ :: x54_ :: x55_ :: x56_ :: x57_ :: x58_ :: x59_ :: x60_ :: x61_ :: x62_ :: x63_ :: x64_ :: x65_ :: x66_ :: x67_ :: x68_ :: x69_ :: x70_ :: x71_ :: x72_ :: x73_ :: x74_ :: x75_ :: x76_ :: x77_ :: x78_ :: x79_ :: x80_ :: x81_ :: x82_ :: x83_ :: x84_ :: x85_ :: x86_ :: x87_ :: x88_ :: x89_ :: x90_ :: x91_ :: x92_ :: x93_ :: x94_ :: x95_ :: x96_ :: x97_ :: x98_ :: x99_ :: x100_ :: x101_ :: x102_ :: x103_ :: x104_ :: x105_ :: x106_ :: x107_ :: x108_ :: x109_ :: x110_ :: x111_ :: x112_ :: x113_ :: x114_ :: x115_ :: x116_ :: x117_ :: x118_ :: x119_ :: x120_ :: x121_ :: x122_ :: x123_ :: x124_ :: x125_ :: x126_ :: x127_ :: x128_ :: x129_ :: x130_ :: x131_ :: x132_ :: x133_ :: x134_ :: x135_ :: x136_ :: x137_ :: x138_ :: x139_ :: x140_ :: x141_ :: x142_ :: x143_ :: x144_ :: x145_ :: x146_ :: x147_ :: x148_ :: undef :: undef :: undef :: undef :: undef :: undef :: undef :: undef :: undef :: undef :: undef :: undef :: undef :: undef :: undef :: undef :: undef :: undef :: undef :: undef :: undef :: undef :: undef :: undef :: undef :: undef :: undef :: undef :: undef :: undef :: undef :: undef :: undef :: undef :: undef :: undef :: undef :: undef :: undef :: undef :: undef :: undef :: undef :: undef :: undef :: undef :: undef :: undef :: undef :: undef :: undef :: undef :: undef :: undef :: undef :: undef :: undef :: undef :: undef :: undef :: undef :: undef :: undef :: undef :: undef :: undef :: undef :: undef :: undef :: undef :: undef :: undef :: undef :: undef :: undef :: undef :: undef :: undef :: undef :: undef :: undef :: undef :: undef :: undef :: undef :: undef :: undef :: undef :: undef :: undef :: undef :: undef :: undef :: undef :: undef :: undef :: undef :: undef :: undef :: undef :: undef :: undef :: undef :: undef :: undef :: undef :: undef :: undef :: undef :: undef :: undef :: undef :: undef :: undef :: undef :: undef :: undef :: undef :: undef :: undef :: undef :: undef :: undef :: undef :: undef :: undef :: undef :: undef :: undef :: undef :: undef :: undef :: undef :: undef :: undef :: undef :: undef :: undef :: undef :: undef :: undef :: undef :: undef :: undef :: undef :: undef :: undef :: undef :: undef :: undef :: undef :: undef :: undef :: undef :: undef :: undef :: undef :: undef :: undef :: undef :: undef :: undef :: undef :: undef :: undef :: undef :: undef :: undef :: undef :: undef :: undef :: undef :: undef :: undef :: undef :: undef :: undef :: undef :: undef :: undef :: undef :: undef :: undef :: undef :: []), []⟩ w31 := by
  intro Kst_ hst_
  conv => arg 2; whnf
  conv at hst_ => enter [a_, w_, 1, 2]; whnf
  have y1 := (M.out.2.2.2.2.2.2.2.2.2.2.2.1).c4; have p1_0 := y1.1; have q1_0 := y1.2.1; have p1_1 := y1.2.2.1; have q1_1 := y1.2.2.2.1; have p1_2 := y1.2.2.2.2.1; have q1_2 := y1.2.2.2.2.2.1; have p1_3 := y1.2.2.2.2.2.2.1; have q1_3 := y1.2.2.2.2.2.2.2; clear y1
  have y2 := (M.out.2.2.2.2.2.2.2.2.2.2.1).c4; have p2_0 := y2.1; have q2_0 := y2.2.1; have p2_1 := y2.2.2.1; have q2_1 := y2.2.2.2.1; have p2_2 := y2.2.2.2.2.1; have q2_2 := y2.2.2.2.2.2.1; have p2_3 := y2.2.2.2.2.2.2.1; have q2_3 := y2.2.2.2.2.2.2.2; clear y2
  go_wp2_with fail
  clear p1_0 q1_0 p1_1 q1_1 p1_2 q1_2 p1_3 q1_3 p2_0 q2_0 p2_1 q2_1 p2_2 q2_2 p2_3 q2_3
  obtain ⟨q47, eq47⟩ : ∃ v_ : Rat, v_ = (r * u) := ⟨_, rfl⟩
  refine (fracMul_ok (G := G) (q := r) (r := u) (Nat.le_trans hG (M.out.2.2.2.2.2.2.2.2.2.2.2.2.2).size) (H2.out.keep (M.out.2.2.2.2.2.2.2.2.2.2.2.2.2)) (H3.out.keep (M.out.2.2.2.2.2.2.2.2.2.2.2.2.2)) (Fz.mono HR.out (by omega)) (Fz.mono HU.out (by omega))).mono ?_
  rintro e w32 ⟨a_43, c_44, b_45, d_46, rfl, hd48, hb⟩
  rw [← eq47] at hd48 ⊢
  have Sq47 : Hid (Fz q47 24) := by show Fz q47 24; rw [eq47]; exact (Fz.mul HR.out HU.out)
  have Eq47 := Lib.hid eq47; clear eq47
  replace M := Lib.hid (And.intro hd48 (Goes.go M.out hb))
  clear hb hd48
  go_wp2_with fail
  refine (right_ok (G := G) (q := q47) (M.out.1) (Fz.mono Sq47.out (by omega))).mono ?_
  rintro e w33 ⟨rfl, hb⟩
  replace M := Lib.hid (Goes.go M.out hb)
  clear hb
  go_upto_region 14 with fail
  obtain ⟨w34, hv⟩ : ∃ w_ : World, w_ = (w33.alloc (.cells #[.int .i64 (sg (nu q47)), .slice a_43 (ln (nu q47)) c_44, .int .i64 (sg (de q47)), .slice b_45 (ln (de q47)) d_46] 26)) := ⟨_, rfl⟩
  rw [← hv]
  have o10 : B9 < w33.heap.size := ((M.out.2.1)).lt
  replace M := Lib.hid (And.intro (hv ▸ bx1 w33 26 #[.int .i64 (sg (nu q47)), .slice a_43 (ln (nu q47)) c_44, .int .i64 (sg (de q47)), .slice b_45 (ln (de q47)) d_46]) (Goes.go M.out (hv ▸ below_alloc _ _ : Below w33.heap.size w33 w34)))
  clear hv
  have y8 := (M.out.2.2.2.2.1).c4; have p8_0 := y8.1; have q8_0 := y8.2.1; have p8_1 := y8.2.2.1; have q8_1 := y8.2.2.2.1; have p8_2 := y8.2.2.2.2.1; have q8_2 := y8.2.2.2.2.2.1; have p8_3 := y8.2.2.2.2.2.2.1; have q8_3 := y8.2.2.2.2.2.2.2; clear y8
  have y2 := (M.out.2.2.2.2.2.2.2.2.2.2.2.2.1).c4; have p2_0 := y2.1; have q2_0 := y2.2.1; have p2_1 := y2.2.2.1; have q2_1 := y2.2.2.2.1; have p2_2 := y2.2.2.2.2.1; have q2_2 := y2.2.2.2.2.2.1; have p2_3 := y2.2.2.2.2.2.2.1; have q2_3 := y2.2.2.2.2.2.2.2; clear y2
  go_wp2_with fail
  clear p8_0 q8_0 p8_1 q8_1 p8_2 q8_2 p8_3 q8_3 p2_0 q2_0 p2_1 q2_1 p2_2 q2_2 p2_3 q2_3
  obtain ⟨q53, eq53⟩ : ∃ v_ : Rat, v_ = (q35 * u) := ⟨_, rfl⟩
  refine (fracMul_ok (G := G) (q := q35) (r := u) (Nat.le_trans hG (M.out.2.2.2.2.2.2.2.2.2.2.2.2.2.2.2).size) (M.out.2.2.2.2.2.1) (H3.out.keep (M.out.2.2.2.2.2.2.2.2.2.2.2.2.2.2.2)) (Fz.mono Sq35.out (by omega)) (Fz.mono HU.out (by omega))).mono ?_
  rintro e w35 ⟨a_49, c_50, b_51, d_52, rfl, hd54, hb⟩
  rw [← eq53] at hd54 ⊢
  have Sq53 : Hid (Fz q53 36) := by show Fz q53 36; rw [eq53]; exact (Fz.mul Sq35.out HU.out)
  have Eq53 := Lib.hid eq53; clear eq53
  replace M := Lib.hid (And.intro hd54 (Goes.go M.out hb))
  clear hb hd54
  go_wp2_with fail
  refine (right_ok (G := G) (q := q53) (M.out.1) (Fz.mono Sq53.out (by omega))).mono ?_
  rintro e w36 ⟨rfl, hb⟩
  replace M := Lib.hid (Goes.go M.out hb)
  clear hb
  have y6 := (M.out.2.2.2.2.2.2.2.2.2.1).c4; have p6_0 := y6.1; have q6_0 := y6.2.1; have p6_1 := y6.2.2.1; have q6_1 := y6.2.2.2.1; have p6_2 := y6.2.2.2.2.1; have q6_2 := y6.2.2.2.2.2.1; have p6_3 := y6.2.2.2.2.2.2.1; have q6_3 := y6.2.2.2.2.2.2.2; clear y6
  go_upto_region 15 with fail
  clear p6_0 q6_0 p6_1 q6_1 p6_2 q6_2 p6_3 q6_3
  obtain ⟨w37, hv⟩ : ∃ w_ : World, w_ = ((((w36.setCell ⟨B6, 0, none⟩ (.int .i64 (sg (nu q53)))).setCell ⟨B6, 1, none⟩ (.slice a_49 (ln (nu q53)) c_50)).setCell ⟨B6, 2, none⟩ (.int .i64 (sg (de q53)))).setCell ⟨B6, 3, none⟩ (.slice b_51 (ln (de q53)) d_52)) := ⟨_, rfl⟩
  rw [← hv]
  have og : w36.grownBy w37 (some B6) := by rw [hv]; exact (only_setCell (only_setCell (only_setCell (only_setCell (World.grownBy.refl _ _) _) _) _) _)
  have hz : w.heap.size ≤ B6 := by omega
  have hk : Bx w37 B6 26 #[.int .i64 (sg (nu q53)), .slice a_49 (ln (nu q53)) c_50, .int .i64 (sg (de q53)), .slice b_51 (ln (de q53)) d_52] := by rw [hv]; exact (((((M.out.2.2.2.2.2.2.2.2.2.1).set 0 _).set 1 _).set 2 _).set 3 _)
  have hbw : Below w.heap.size w w37 := by rw [hv]; exact (Below.setCell (Below.setCell (Below.setCell (Below.setCell (M.out.2.2.2.2.2.2.2.2.2.2.2.2.2.2.2.2) (by omega) _) (by omega) _) (by omega) _) (by omega) _)
  replace M := Lib.hid (And.intro ((M.out.1).far (M.out.2.2.2.2.2.2.2.2.2.1) (by rfl) (by omega) og) (And.intro ((M.out.2.1).only og (by omega)) (And.intro ((M.out.2.2.1).far (M.out.2.2.2.2.2.2.2.2.2.1) (by rfl) (by omega) og) (And.intro ((M.out.2.2.2.1).only og (by omega)) (And.intro ((M.out.2.2.2.2.1).far (M.out.2.2.2.2.2.2.2.2.2.1) (by rfl) (by omega) og) (And.intro ((M.out.2.2.2.2.2.1).only og (by omega)) (And.intro ((M.out.2.2.2.2.2.2.1).far (M.out.2.2.2.2.2.2.2.2.2.1) (by rfl) (by omega) og) (And.intro ((M.out.2.2.2.2.2.2.2.1).only og (by omega)) (And.intro ((M.out.2.2.2.2.2.2.2.2.1).far (M.out.2.2.2.2.2.2.2.2.2.1) (by rfl) (by omega) og) (And.intro hk (And.intro ((M.out.2.2.2.2.2.2.2.2.2.2.1).far (M.out.2.2.2.2.2.2.2.2.2.1) (by rfl) (by omega) og) (And.intro ((M.out.2.2.2.2.2.2.2.2.2.2.2.1).only og (by omega)) (And.intro ((M.out.2.2.2.2.2.2.2.2.2.2.2.2.1).far (M.out.2.2.2.2.2.2.2.2.2.1) (by rfl) (by omega) og) (And.intro ((M.out.2.2.2.2.2.2.2.2.2.2.2.2.2.1).only og (by omega)) (And.intro ((M.out.2.2.2.2.2.2.2.2.2.2.2.2.2.2.1).only og (by omega)) (And.intro ((M.out.2.2.2.2.2.2.2.2.2.2.2.2.2.2.2.1).only og (by omega)) hbw))))))))))))))))
  clear hk hbw og hv hz
  replace M := Lib.hid (And.intro (M.out.1) (And.intro (M.out.2.1) (And.intro (M.out.2.2.1) (And.intro (M.out.2.2.2.1) (And.intro (M.out.2.2.2.2.1) (And.intro (M.out.2.2.2.2.2.1) (And.intro (M.out.2.2.2.2.2.2.1) (And.intro (M.out.2.2.2.2.2.2.2.1) (And.intro (M.out.2.2.2.2.2.2.2.2.1) (And.intro (M.out.2.2.2.2.2.2.2.2.2.1) (And.intro (M.out.2.2.2.2.2.2.2.2.2.2.2.1) (And.intro (M.out.2.2.2.2.2.2.2.2.2.2.2.2.1) (And.intro (M.out.2.2.2.2.2.2.2.2.2.2.2.2.2.1) (And.intro (M.out.2.2.2.2.2.2.2.2.2.2.2.2.2.2.1) (And.intro (M.out.2.2.2.2.2.2.2.2.2.2.2.2.2.2.2.1) (M.out.2.2.2.2.2.2.2.2.2.2.2.2.2.2.2.2))))))))))))))))
  rename_i Kst_ hst_
  exact field_core_s15 hG HQ HR HU HO HER e15 e0 ez HNZ HZ1 HZ2 HT HM H1 H2 H3 (Lib.hid (by rw [Eq53.out, Eq35.out])) Sq53 Eq47 Sq47 Eq41 Sq41 Eq35 Sq35 Eq29 Sq29 Eq5 Sq5 (by omega) (by omega) (by omega) (by omega) (by omega) (by omega) (by omega) (by omega) (by omega) M Kst_ hst_

set_option maxRecDepth 100000 in
set_option maxHeartbeats 4000000 in
theorem field_core_s11 {o : Option Rat} {er : Int} {bz nz : Bool} {q r u : Rat} {a1 b1 a2 b2 a3 b3 : Option Addr} {c1 d1 c2 d2 c3 d3 : Nat} {w : World}  {w25 : World} {a_25 b_27 a_19 b_21 a_1 b_3 : Option Addr} {c_26 d_28 c_20 d_22 c_2 d_4 : Nat} {q29 q23 q5 : Rat} {B0 B1 B2 B3 B6 B7 : Nat} {x0_ x1_ x2_ x10_ x12_ x18_ x19_ x20_ x21_ x22_ x23_ x24_ x25_ x26_ x27_ x28_ x29_ x30_ x31_ x32_ x33_ x34_ x35_ x36_ x37_ x38_ x39_ x40_ x41_ x42_ x43_ x44_ x45_ x46_ x47_ x48_ x49_ x50_ x51_ x52_ x53_ x54_ x55_ x56_ x57_ x58_ x59_ x60_ x61_ x62_ x63_ x64_ x65_ x66_ x67_ x68_ x69_ x70_ x71_ x72_ x73_ x74_ x75_ x76_ x77_ x78_ x79_ x80_ x81_ x82_ x83_ x84_ x85_ x86_ x87_ x88_ x89_ x90_ x91_ x92_ x93_ x94_ x95_ x96_ x97_ x98_ x99_ x100_ x101_ x102_ x103_ x104_ x105_ x106_ x107_ x108_ x109_ x110_ x111_ x112_ x113_ x114_ x115_ x116_ x117_ x118_ x119_ x120_ x121_ x122_ x123_ x124_ x125_ x126_ x127_ x128_ x129_ x130_ : Value} (hG : G ≤ w.heap.size) (HQ : Hid (Fz q 12)) (HR : Hid (Fz r 12)) (HU : Hid (Fz u 12)) (HO : Hid (divO (q * r) r = o)) (HER : Hid (divE r = er)) (e15 : (er == 15) = bz) (e0 : (er == 0) = nz) (ez : (sg (nu r) == 0) = bz) (HNZ : Hid (bz = false → nz = true ∧ o = some q)) (HZ1 : Hid (Sz (oN o) 100)) (HZ2 : Hid (Sz (oD o) 100)) (HT : Hid (Tab w)) (HM : Hid (Mx w)) (H1 : Hid (FD G w a1 c1 b1 d1 q)) (H2 : Hid (FD G w a2 c2 b2 d2 r)) (H3 : Hid (FD G w a3 c3 b3 d3 u)) (Eq29 : Hid (q29 = ((q + (((r + u))))))) (Sq29 : Hid (Fz q29 38)) (Eq23 : Hid (q23 = ((((((q + r)))) + u)))) (Sq23 : Hid (Fz q23 38)) (Eq5 : Hid (q5 = ((((q + r)))))) (Sq5 : Hid (Fz q5 25)) (oB0 : w.heap.size ≤ B0) (oB1 : B0 < B1) (oB2 : B1 < B2) (oB3 : B2 < B3) (oB6 : B3 < B6) (oB7 : B6 < B7) (M : Hid (Bx w25 B7 26 #[.int .i64 (sg (nu q29)), .slice a_25 (ln (nu q29)) c_26, .int .i64 (sg (de q29)), .slice b_27 (ln (de q29)) d_28] ∧ FD G w25 a_25 c_26 b_27 d_28 q29 ∧ Bx w25 B6 26 #[.int .i64 (sg (nu q23)), .slice a_19 (ln (nu q23)) c_20, .int .i64 (sg (de q23)), .slice b_21 (ln (de q23)) d_22] ∧ FD G w25 a_19 c_20 b_21 d_22 q23 ∧ Bx w25 B3 26 #[.int .i64 (sg (nu q5)), .slice a_1 (ln (nu q5)) c_2, .int .i64 (sg (de q5)), .slice b_3 (ln (de q5)) d_4] ∧ FD G w25 a_1 c_2 b_3 d_4 q5 ∧ Bx w25 B2 26 #[.int .i64 (sg (nu u)), .slice a3 (ln (nu u)) c3, .int .i64 (sg (de u)), .slice b3 (ln (de u)) d3] ∧ Bx w25 B1 26 #[.int .i64 (sg (nu r)), .slice a2 (ln (nu r)) c2, .int .i64 (sg (de r)), .slice b2 (ln (de r)) d2] ∧ Bx w25 B0 26 #[.int .i64 (sg (nu q)), .slice a1 (ln (nu q)) c1, .int .i64 (sg (de q)), .slice b1 (ln (de q)) d1] ∧ Below w.heap.size w w25)) :
    ∀ K : Act → World → Prop, (∀ a_ w_, Code.wp Tryz.prog (restAt Tryz.f4 11) (bodyPost Tryz.prog Tryz.f4 fun e w' => e = .returned (.bool true) ∧ Below w.heap.size w w') a_ w_ → K a_ w_) → Code.wp Tryz.prog (regAt Tryz.f4 11) (Exit.then K (bodyPost Tryz.prog Tryz.f4 fun e w' => e = .returned (.bool true) ∧ Below w.heap.size w w')) ⟨List.toArray (x0_ :: x1_ :: x2_ :: .pointer (some ⟨B0, 0, none⟩) :: .pointer (some ⟨B1, 0, none⟩) :: .pointer (some ⟨B2, 0, none⟩) :: .bool false :: .bool true :: .pointer (some ⟨B3, 0, none⟩) :: .bool true :: x10_ :: .bool true :: x12_ :: .bool true :: .pointer (some ⟨B6, 0, none⟩) :: .bool true :: .pointer (some ⟨B7, 0, none⟩) :: .bool true :: x18_ :: x19_ :: x20_ :: x21_ :: x22_ :: x23_ :: x24_ :: x25_ :: x26_ :: x27_ :: x28_ :: x29_ :: x30_ :: x31_ :: x32_ :: x33_ :: x34_ :: x35_ :: x36_ :: x37_ :: x38_ :: x39_ :: x40_ :: x41_ :: x42_ :: x43_ :: x44_ :: x45_ :: x46_ :: x47_ :: x48_ :: x49_ :: x50_ :: x51_ :: x52_ :: x53_ :: x54_ :: x55_ :: x56_ :: x57_ :: x58_ :: x59_ :: x60_ :: x61_ :: x62_ :: x63_ :: x64_ :: x65_ :: x66_ :: x67_ :: x68_ :: x69_ :: x70_ :: x71_ :: x72_ :: x73_ :: x74_ :: x75_ :: x76_ :: x77_ :: x78_ :: x79_ :: x80_ :: x81_ :: x82_ :: x83_ :: x84_ :: x85_ :: x86_ :: x87_ :: x88_ :: x89_ :: x90_ :: x91_ :: x92_ :: x93_ :: x94_ :: x95_ :: x96_ :: x97_ :: x98_ :: x99_ :: x100_ :: x101_ :: x102_ :: x103_ :: x104_ :: x105_ :: x106_ :: x107_ :: x108_ :: x109_ :: x110_ :: x111_ :: x112_ :: x113_ :: x114_ :: x115_ :: x116_ :: x117_ :: x118_ :: x119_ :: x120_ :: x121_ :: x122_ :: x123_ :: x124_ :: x125_ :: x126_ :: x127_ :: x128_ :: x129_ :: x130_ :: undef :: undef :: undef :: undef :: undef :: undef :: undef :: undef :: undef :: undef :: undef :: undef :: undef :: undef :: undef :: undef :: undef :: undef :: undef :: undef :: undef :: undef :: undef :: undef :: undef :: undef :: undef :: undef :: undef :: undef :: undef :: undef :: undef :: undef :: undef :: undef :: undef :: undef :: undef :: undef :: undef :: undef :: undef :: undef :: undef :: undef :: undef :: undef :: undef :: undef :: undef :: undef :: undef :: undef :: undef :: undef :: undef :: undef :: undef :: undef :: undef :: undef :: undef :: undef :: undef :: undef :: undef :: undef :: undef :: undef :: undef :: undef :: undef :: undef :: undef :: undef :: undef :: undef :: undef :: undef :: undef :: undef :: undef :: undef :: undef :: undef :: undef :: undef :: undef :: undef :: undef :: undef :: undef :: undef :: undef :: undef :: undef :: undef :: undef :: undef :: undef :: undef :: undef :: undef :: undef :: undef :: undef :: undef :: undef :: undef :: undef :: undef :: undef :: undef :: undef :: undef :: undef :: undef :: undef :: undef :: undef :: undef :: undef :: undef :: undef :: undef :: undef :: undef :: undef :: undef :: undef :: undef :: undef :: undef :: undef :: undef :: undef :: undef :: undef :: undef :: undef :: undef :: undef :: undef :: undef :: undef :: undef :: undef :: undef :: undef :: undef :: undef :: undef :: undef :: undef :: undef :: undef :: undef :: undef :: undef :: undef :: undef :: undef :: undef :: undef :: undef :: undef :: undef :: undef :: undef :: undef :: undef :: undef :: undef :: undef :: undef :: undef :: undef :: undef :: undef :: undef :: undef :: undef :: undef :: undef :: undef :: undef :: undef :: undef :: undef :: undef :: undef :: undef :: undef :: undef :: undef :: undef :: undef :: undef :: undef :: undef :: undef :: []), []⟩ w25 := by
  intro Kst_ hst_
  conv => arg 2; whnf
  conv at hst_ => enter [a_, w_, 1, 2]; whnf
  have y0 := (M.out.2.2.2.2.2.2.2.2.1).c4; have p0_0 := y0.1; have q0_0 := y0.2.1; have p0_1 := y0.2.2.1; have q0_1 := y0.2.2.2.1; have p0_2 := y0.2.2.2.2.1; have q0_2 := y0.2.2.2.2.2.1; have p0_3 := y0.2.2.2.2.2.2.1; have q0_3 := y0.2.2.2.2.2.2.2; clear y0
  have y1 := (M.out.2.2.2.2.2.2.2.1).c4; have p1_0 := y1.1; have q1_0 := y1.2.1; have p1_1 := y1.2.2.1; have q1_1 := y1.2.2.2.1; have p1_2 := y1.2.2.2.2.1; have q1_2 := y1.2.2.2.2.2.1; have p1_3 := y1.2.2.2.2.2.2.1; have q1_3 := y1.2.2.2.2.2.2.2; clear y1
  go_wp2_with fail
  clear p0_0 q0_0 p0_1 q0_1 p0_2 q0_2 p0_3 q0_3 p1_0 q1_0 p1_1 q1_1 p1_2 q1_2 p1_3 q1_3
  obtain ⟨q35, eq35⟩ : ∃ v_ : Rat, v_ = (q * r) := ⟨_, rfl⟩
  refine (fracMul_ok (G := G) (q := q) (r := r) (Nat.le_trans hG (M.out.2.2.2.2.2.2.2.2.2).size) (H1.out.keep (M.out.2.2.2.2.2.2.2.2.2)) (H2.out.keep (M.out.2.2.2.2.2.2.2.2.2)) (Fz.mono HQ.out (by omega)) (Fz.mono HR.out (by omega))).mono ?_
  rintro e w26 ⟨a_31, c_32, b_33, d_34, rfl, hd36, hb⟩
  rw [← eq35] at hd36 ⊢
  have Sq35 : Hid (Fz q35 24) := by show Fz q35 24; rw [eq35]; exact (Fz.mul HQ.out HR.out)
  have Eq35 := Lib.hid eq35; clear eq35
  replace M := Lib.hid (And.intro hd36 (Goes.go M.out hb))
  clear hb hd36
  go_wp2_with fail
  refine (right_ok (G := G) (q := q35) (M.out.1) (Fz.mono Sq35.out (by omega))).mono ?_
  rintro e w27 ⟨rfl, hb⟩
  replace M := Lib.hid (Goes.go M.out hb)
  clear hb
  go_upto_region 12 with fail
  obtain ⟨w28, hv⟩ : ∃ w_ : World, w_ = (w27.alloc (.cells #[.int .i64 (sg (nu q35)), .slice a_31 (ln (nu q35)) c_32, .int .i64 (sg (de q35)), .slice b_33 (ln (de q35)) d_34] 26)) := ⟨_, rfl⟩
  rw [← hv]
  have o8 : B7 < w27.heap.size := ((M.out.2.1)).lt
  replace M := Lib.hid (And.intro (hv ▸ bx1 w27 26 #[.int .i64 (sg (nu q35)), .slice a_31 (ln (nu q35)) c_32, .int .i64 (sg (de q35)), .slice b_33 (ln (de q35)) d_34]) (Goes.go M.out (hv ▸ below_alloc _ _ : Below w27.heap.size w27 w28)))
  clear hv
  have y1 := (M.out.2.2.2.2.2.2.2.2.2.1).c4; have p1_0 := y1.1; have q1_0 := y1.2.1; have p1_1 := y1.2.2.1; have q1_1 := y1.2.2.2.1; have p1_2 := y1.2.2.2.2.1; have q1_2 := y1.2.2.2.2.2.1; have p1_3 := y1.2.2.2.2.2.2.1; have q1_3 := y1.2.2.2.2.2.2.2; clear y1
  have y0 := (M.out.2.2.2.2.2.2.2.2.2.2.1).c4; have p0_0 := y0.1; have q0_0 := y0.2.1; have p0_1 := y0.2.2.1; have q0_1 := y0.2.2.2.1; have p0_2 := y0.2.2.2.2.1; have q0_2 := y0.2.2.2.2.2.1; have p0_3 := y0.2.2.2.2.2.2.1; have q0_3 := y0.2.2.2.2.2.2.2; clear y0
  go_wp2_with fail
  clear p1_0 q1_0 p1_1 q1_1 p1_2 q1_2 p1_3 q1_3 p0_0 q0_0 p0_1 q0_1 p0_2 q0_2 p0_3 q0_3
  obtain ⟨q41, eq41⟩ : ∃ v_ : Rat, v_ = (r * q) := ⟨_, rfl⟩
  refine (fracMul_ok (G := G) (q := r) (r := q) (Nat.le_trans hG (M.out.2.2.2.2.2.2.2.2.2.2.2).size) (H2.out.keep (M.out.2.2.2.2.2.2.2.2.2.2.2)) (H1.out.keep (M.out.2.2.2.2.2.2.2.2.2.2.2)) (Fz.mono HR.out (by omega)) (Fz.mono HQ.out (by omega))).mono ?_
  rintro e w29 ⟨a_37, c_38, b_39, d_40, rfl, hd42, hb⟩
  rw [← eq41] at hd42 ⊢
  have Sq41 : Hid (Fz q41 24) := by show Fz q41 24; rw [eq41]; exact (Fz.mul HR.out HQ.out)
  have Eq41 := Lib.hid eq41; clear eq41
  replace M := Lib.hid (And.intro hd42 (Goes.go M.out hb))
  clear hb hd42
  go_wp2_with fail
  refine (right_ok (G := G) (q := q41) (M.out.1) (Fz.mono Sq41.out (by omega))).mono ?_
  rintro e w30 ⟨rfl, hb⟩
  replace M := Lib.hid (Goes.go M.out hb)
  clear hb
  go_upto_region 13 with fail
  obtain ⟨w31, hv⟩ : ∃ w_ : World, w_ = (w30.alloc (.cells #[.int .i64 (sg (nu q41)), .slice a_37 (ln (nu q41)) c_38, .int .i64 (sg (de q41)), .slice b_39 (ln (de q41)) d_40] 26)) := ⟨_, rfl⟩
  rw [← hv]
  have o9 : w27.heap.size < w30.heap.size := ((M.out.2.1)).lt
  replace M := Lib.hid (And.intro (hv ▸ bx1 w30 26 #[.int .i64 (sg (nu q41)), .slice a_37 (ln (nu q41)) c_38, .int .i64 (sg (de q41)), .slice b_39 (ln (de q41)) d_40]) (Goes.go M.out (hv ▸ below_alloc _ _ : Below w30.heap.size w30 w31)))
  clear hv
  rename_i Kst_ hst_
  exact field_core_s13 hG HQ HR HU HO HER e15 e0 ez HNZ HZ1 HZ2 HT HM H1 H2 H3 Eq41 Sq41 Eq35 Sq35 Eq29 Sq29 Eq23 Sq23 Eq5 Sq5 (by omega) (by omega) (by omega) (by omega) (by omega) (by omega) (by omega) (by omega) M Kst_ hst_

set_option maxRecDepth 100000 in
set_option maxHeartbeats 4000000 in
theorem field_core_s7 {o : Option Rat} {er : Int} {bz nz : Bool} {q r u : Rat} {a1 b1 a2 b2 a3 b3 : Option Addr} {c1 d1 c2 d2 c3 d3 : Nat} {w : World}  {w17 : World} {a_13 b_15 a_7 b_9 a_1 b_3 : Option Addr} {c_14 d_16 c_8 d_10 c_2 d_4 : Nat} {q17 q11 q5 : Rat} {B0 B1 B2 B3 B4 B5 : Nat} {x0_ x1_ x2_ x14_ x15_ x16_ x17_ x18_ x19_ x20_ x21_ x22_ x23_ x24_ x25_ x26_ x27_ x28_ x29_ x30_ x31_ x32_ x33_ x34_ x35_ x36_ x37_ x38_ x39_ x40_ x41_ x42_ x43_ x44_ x45_ x46_ x47_ x48_ x49_ x50_ x51_ x52_ x53_ x54_ x55_ x56_ x57_ x58_ x59_ x60_ x61_ x62_ x63_ x64_ x65_ x66_ x67_ x68_ x69_ x70_ x71_ x72_ x73_ x74_ x75_ x76_ x77_ x78_ x79_ x80_ x81_ x82_ : Value} (hG : G ≤ w.heap.size) (HQ : Hid (Fz q 12)) (HR : Hid (Fz r 12)) (HU : Hid (Fz u 12)) (HO : Hid (divO (q * r) r = o)) (HER : Hid (divE r = er)) (e15 : (er == 15) = bz) (e0 : (er == 0) = nz) (ez : (sg (nu r) == 0) = bz) (HNZ : Hid (bz = false → nz = true ∧ o = some q)) (HZ1 : Hid (Sz (oN o) 100)) (HZ2 : Hid (Sz (oD o) 100)) (HT : Hid (Tab w)) (HM : Hid (Mx w)) (H1 : Hid (FD G w a1 c1 b1 d1 q)) (H2 : Hid (FD G w a2 c2 b2 d2 r)) (H3 : Hid (FD G w a3 c3 b3 d3 u)) (Eq17 : Hid (q17 = ((r + u)))) (Sq17 : Hid (Fz q17 25)) (Eq11 : Hid (q11 = ((r + q)))) (_Sq11 : Hid (Fz q11 25)) (Eq5 : Hid (q5 = (((q + r))))) (Sq5 : Hid (Fz q5 25)) (oB0 : w.heap.size ≤ B0) (oB1 : B0 < B1) (oB2 : B1 < B2) (oB3 : B2 < B3) (oB4 : B3 < B4) (oB5 : B4 < B5) (M : Hid (Bx w17 B5 26 #[.int .i64 (sg (nu q17)), .slice a_13 (ln (nu q17)) c_14, .int .i64 (sg (de q17)), .slice b_15 (ln (de q17)) d_16] ∧ FD G w17 a_13 c_14 b_15 d_16 q17 ∧ Bx w17 B4 26 #[.int .i64 (sg (nu q11)), .slice a_7 (ln (nu q11)) c_8, .int .i64 (sg (de q11)), .slice b_9 (ln (de q11)) d_10] ∧ FD G w17 a_7 c_8 b_9 d_10 q11 ∧ Bx w17 B3 26 #[.int .i64 (sg (nu q5)), .slice a_1 (ln (nu q5)) c_2, .int .i64 (sg (de q5)), .slice b_3 (ln (de q5)) d_4] ∧ FD G w17 a_1 c_2 b_3 d_4 q5 ∧ Bx w17 B2 26 #[.int .i64 (sg (nu u)), .slice a3 (ln (nu u)) c3, .int .i64 (sg (de u)), .slice b3 (ln (de u)) d3] ∧ Bx w17 B1 26 #[.int .i64 (sg (nu r)), .slice a2 (ln (nu r)) c2, .int .i64 (sg (de r)), .slice b2 (ln (de r)) d2] ∧ Bx w17 B0 26 #[.int .i64 (sg (nu q)), .slice a1 (ln (nu q)) c1, .int .i64 (sg (de q)), .slice b1 (ln (de q)) d1] ∧ Below w.heap.size w w17)) :
    ∀ K : Act → World → Prop, (∀ a_ w_, Code.wp Tryz.prog (restAt Tryz.f4 7) (bodyPost Tryz.prog Tryz.f4 fun e w' => e = .returned (.bool true) ∧ Below w.heap.size w w') a_ w_ → K a_ w_) → Code.wp Tryz.prog (regAt Tryz.f4 7) (Exit.then K (bodyPost Tryz.prog Tryz.f4 fun e w' => e = .returned (.bool true) ∧ Below w.heap.size w w')) ⟨List.toArray (x0_ :: x1_ :: x2_ :: .pointer (some ⟨B0, 0, none⟩) :: .pointer (some ⟨B1, 0, none⟩) :: .pointer (some ⟨B2, 0, none⟩) :: .bool false :: .bool true :: .pointer (some ⟨B3, 0, none⟩) :: .bool true :: .pointer (some ⟨B4, 0, none⟩) :: .bool true :: .pointer (some ⟨B5, 0, none⟩) :: .bool true :: x14_ :: x15_ :: x16_ :: x17_ :: x18_ :: x19_ :: x20_ :: x21_ :: x22_ :: x23_ :: x24_ :: x25_ :: x26_ :: x27_ :: x28_ :: x29_ :: x30_ :: x31_ :: x32_ :: x33_ :: x34_ :: x35_ :: x36_ :: x37_ :: x38_ :: x39_ :: x40_ :: x41_ :: x42_ :: x43_ :: x44_ :: x45_ :: x46_ :: x47_ :: x48_ :: x49_ :: x50_ :: x51_ :: x52_ :: x53_ :: x54_ :: x55_ :: x56_ :: x57_ :: x58_ :: x59_ :: x60_ :: x61_ :: x62_ :: x63_ :: x64_ :: x65_ :: x66_ :: x67_ :: x68_ :: x69_ :: x70_ :: x71_ :: x72_ :: x73_ :: x74_ :: x75_ :: x76_ :: x77_ :: x78_ :: x79_ :: x80_ :: x81_ :: x82_ :: undef :: undef :: undef :: undef :: undef :: undef :: undef :: undef :: undef :: undef :: undef :: undef :: undef :: undef :: undef :: undef :: undef :: undef :: undef :: undef :: undef :: undef :: undef :: undef :: undef :: undef :: undef :: undef :: undef :: undef :: undef :: undef :: undef :: undef :: undef :: undef :: undef :: undef :: undef :: undef :: undef :: undef :: undef :: undef :: undef :: undef :: undef :: undef :: undef :: undef :: undef :: undef :: undef :: undef :: undef :: undef :: undef :: undef :: undef :: undef :: undef :: undef :: undef :: undef :: undef :: undef :: undef :: undef :: undef :: undef :: undef :: undef :: undef :: undef :: undef :: undef :: undef :: undef :: undef :: undef :: undef :: undef :: undef :: undef :: undef :: undef :: undef :: undef :: undef :: undef :: undef :: undef :: undef :: undef :: undef :: undef :: undef :: undef :: undef :: undef :: undef :: undef :: undef :: undef :: undef :: undef :: undef :: undef :: undef :: undef :: undef :: undef :: undef :: undef :: undef :: undef :: undef :: undef :: undef :: undef :: undef :: undef :: undef :: undef :: undef :: undef :: undef :: undef :: undef :: undef :: undef :: undef :: undef :: undef :: undef :: undef :: undef :: undef :: undef :: undef :: undef :: undef :: undef :: undef :: undef :: undef :: undef :: undef :: undef :: undef :: undef :: undef :: undef :: undef :: undef :: undef :: undef :: undef :: undef :: undef :: undef :: undef :: undef :: undef :: undef :: undef :: undef :: undef :: undef :: undef :: undef :: undef :: undef :: undef :: undef :: undef :: undef :: undef :: undef :: undef :: undef :: undef :: undef :: undef :: undef :: undef :: undef :: undef :: undef :: undef :: undef :: undef :: undef :: undef :: undef :: undef :: undef :: undef :: undef :: undef :: undef :: undef :: undef :: undef :: undef :: undef :: undef :: undef :: undef :: undef :: undef :: undef :: undef :: undef :: undef :: undef :: undef :: undef :: undef :: undef :: undef :: undef :: undef :: undef :: undef :: undef :: undef :: undef :: undef :: undef :: undef :: undef :: undef :: undef :: undef :: undef :: undef :: undef :: undef :: undef :: undef :: undef :: undef :: undef :: undef :: undef :: undef :: undef :: undef :: undef :: []), []⟩ w17 := by
  intro Kst_ hst_
  conv => arg 2; whnf
  conv at hst_ => enter [a_, w_, 1, 2]; whnf
  have y3 := (M.out.2.2.2.2.1).c4; have p3_0 := y3.1; have q3_0 := y3.2.1; have p3_1 := y3.2.2.1; have q3_1 := y3.2.2.2.1; have p3_2 := y3.2.2.2.2.1; have q3_2 := y3.2.2.2.2.2.1; have p3_3 := y3.2.2.2.2.2.2.1; have q3_3 := y3.2.2.2.2.2.2.2; clear y3
  have y2 := (M.out.2.2.2.2.2.2.1).c4; have p2_0 := y2.1; have q2_0 := y2.2.1; have p2_1 := y2.2.2.1; have q2_1 := y2.2.2.2.1; have p2_2 := y2.2.2.2.2.1; have q2_2 := y2.2.2.2.2.2.1; have p2_3 := y2.2.2.2.2.2.2.1; have q2_3 := y2.2.2.2.2.2.2.2; clear y2
  go_wp2_with fail
  clear p3_0 q3_0 p3_1 q3_1 p3_2 q3_2 p3_3 q3_3 p2_0 q2_0 p2_1 q2_1 p2_2 q2_2 p2_3 q2_3
  obtain ⟨q23, eq23⟩ : ∃ v_ : Rat, v_ = (q5 + u) := ⟨_, rfl⟩
  refine (fracAdd_ok (G := G) (q := q5) (r := u) (M.out.2.2.2.2.2.1) (H3.out.keep (M.out.2.2.2.2.2.2.2.2.2)) (Fz.mono Sq5.out (by omega)) (Fz.mono HU.out (by omega))).mono ?_
  rintro e w18 ⟨a_19, c_20, b_21, d_22, rfl, hd24, hb⟩
  rw [← eq23] at hd24 ⊢
  have Sq23 : Hid (Fz q23 38) := by show Fz q23 38; rw [eq23]; exact (Fz.add Sq5.out HU.out)
  have Eq23 := Lib.hid eq23; clear eq23
  replace M := Lib.hid (And.intro hd24 (Goes.go M.out hb))
  clear hb hd24
  go_wp2_with fail
  refine (right_ok (G := G) (q := q23) (M.out.1) (Fz.mono Sq23.out (by omega))).mono ?_
  rintro e w19 ⟨rfl, hb⟩
  replace M := Lib.hid (Goes.go M.out hb)
  clear hb
  go_upto_region 8 with fail
  obtain ⟨w20, hv⟩ : ∃ w_ : World, w_ = (w19.alloc (.cells #[.int .i64 (sg (nu q23)), .slice a_19 (ln (nu q23)) c_20, .int .i64 (sg (de q23)), .slice b_21 (ln (de q23)) d_22] 26)) := ⟨_, rfl⟩
  rw [← hv]
  have o6 : B5 < w19.heap.size := ((M.out.2.1)).lt
  replace M := Lib.hid (And.intro (hv ▸ bx1 w19 26 #[.int .i64 (sg (nu q23)), .slice a_19 (ln (nu q23)) c_20, .int .i64 (sg (de q23)), .slice b_21 (ln (de q23)) d_22]) (Goes.go M.out (hv ▸ below_alloc _ _ : Below w19.heap.size w19 w20)))
  clear hv
  have y0 := (M.out.2.2.2.2.2.2.2.2.2.2.1).c4; have p0_0 := y0.1; have q0_0 := y0.2.1; have p0_1 := y0.2.2.1; have q0_1 := y0.2.2.2.1; have p0_2 := y0.2.2.2.2.1; have q0_2 := y0.2.2.2.2.2.1; have p0_3 := y0.2.2.2.2.2.2.1; have q0_3 := y0.2.2.2.2.2.2.2; clear y0
  have y5 := (M.out.2.2.1).c4; have p5_0 := y5.1; have q5_0 := y5.2.1; have p5_1 := y5.2.2.1; have q5_1 := y5.2.2.2.1; have p5_2 := y5.2.2.2.2.1; have q5_2 := y5.2.2.2.2.2.1; have p5_3 := y5.2.2.2.2.2.2.1; have q5_3 := y5.2.2.2.2.2.2.2; clear y5
  go_wp2_with fail
  clear p0_0 q0_0 p0_1 q0_1 p0_2 q0_2 p0_3 q0_3 p5_0 q5_0 p5_1 q5_1 p5_2 q5_2 p5_3 q5_3
  obtain ⟨q29, eq29⟩ : ∃ v_ : Rat, v_ = (q + q17) := ⟨_, rfl⟩
  refine (fracAdd_ok (G := G) (q := q) (r := q17) (H1.out.keep (M.out.2.2.2.2.2.2.2.2.2.2.2)) (M.out.2.2.2.1) (Fz.mono HQ.out (by omega)) (Fz.mono Sq17.out (by omega))).mono ?_
  rintro e w21 ⟨a_25, c_26, b_27, d_28, rfl, hd30, hb⟩
  rw [← eq29] at hd30 ⊢
  have Sq29 : Hid (Fz q29 38) := by show Fz q29 38; rw [eq29]; exact (Fz.add HQ.out Sq17.out)
  have Eq29 := Lib.hid eq29; clear eq29
  replace M := Lib.hid (And.intro hd30 (Goes.go M.out hb))
  clear hb hd30
  go_wp2_with fail
  refine (right_ok (G := G) (q := q29) (M.out.1) (Fz.mono Sq29.out (by omega))).mono ?_
  rintro e w22 ⟨rfl, hb⟩
  replace M := Lib.hid (Goes.go M.out hb)
  clear hb
  go_upto_region 9 with fail
  obtain ⟨w23, hv⟩ : ∃ w_ : World, w_ = (w22.alloc (.cells #[.int .i64 (sg (nu q29)), .slice a_25 (ln (nu q29)) c_26, .int .i64 (sg (de q29)), .slice b_27 (ln (de q29)) d_28] 26)) := ⟨_, rfl⟩
  rw [← hv]
  have o7 : w19.heap.size < w22.heap.size := ((M.out.2.1)).lt
  replace M := Lib.hid (And.intro (hv ▸ bx1 w22 26 #[.int .i64 (sg (nu q29)), .slice a_25 (ln (nu q29)) c_26, .int .i64 (sg (de q29)), .slice b_27 (ln (de q29)) d_28]) (Goes.go M.out (hv ▸ below_alloc _ _ : Below w22.heap.size w22 w23)))
  clear hv
  have y3 := (M.out.2.2.2.2.2.2.2.2.1).c4; have p3_0 := y3.1; have q3_0 := y3.2.1; have p3_1 := y3.2.2.1; have q3_1 := y3.2.2.2.1; have p3_2 := y3.2.2.2.2.1; have q3_2 := y3.2.2.2.2.2.1; have p3_3 := y3.2.2.2.2.2.2.1; have q3_3 := y3.2.2.2.2.2.2.2; clear y3
  have y4 := (M.out.2.2.2.2.2.2.1).c4; have p4_0 := y4.1; have q4_0 := y4.2.1; have p4_1 := y4.2.2.1; have q4_1 := y4.2.2.2.1; have p4_2 := y4.2.2.2.2.1; have q4_2 := y4.2.2.2.2.2.1; have p4_3 := y4.2.2.2.2.2.2.1; have q4_3 := y4.2.2.2.2.2.2.2; clear y4
  go_wp2_with fail
  clear p3_0 q3_0 p3_1 q3_1 p3_2 q3_2 p3_3 q3_3 p4_0 q4_0 p4_1 q4_1 p4_2 q4_2 p4_3 q4_3
  refine (rfsame_q (G := G) (q := q5) (r := q11) (M.out.2.2.2.2.2.2.2.2.2.1) (M.out.2.2.2.2.2.2.2.1) (Fz.mono Sq5.out (by omega)) (by rw [Eq11.out, Eq5.out]; exact eqn_1 q r u)).mono ?_
  rintro e w24 ⟨rfl, hb⟩
  replace M := Lib.hid (Goes.go M.out hb)
  clear hb
  have y6 := (M.out.2.2.1).c4; have p6_0 := y6.1; have q6_0 := y6.2.1; have p6_1 := y6.2.2.1; have q6_1 := y6.2.2.2.1; have p6_2 := y6.2.2.2.2.1; have q6_2 := y6.2.2.2.2.2.1; have p6_3 := y6.2.2.2.2.2.2.1; have q6_3 := y6.2.2.2.2.2.2.2; clear y6
  have y7 := (M.out.1).c4; have p7_0 := y7.1; have q7_0 := y7.2.1; have p7_1 := y7.2.2.1; have q7_1 := y7.2.2.2.1; have p7_2 := y7.2.2.2.2.1; have q7_2 := y7.2.2.2.2.2.1; have p7_3 := y7.2.2.2.2.2.2.1; have q7_3 := y7.2.2.2.2.2.2.2; clear y7
  go_wp2_with fail
  clear p6_0 q6_0 p6_1 q6_1 p6_2 q6_2 p6_3 q6_3 p7_0 q7_0 p7_1 q7_1 p7_2 q7_2 p7_3 q7_3
  replace M := Lib.hid (And.intro (M.out.1) (And.intro (M.out.2.1) (And.intro (M.out.2.2.1) (And.intro (M.out.2.2.2.1) (And.intro (M.out.2.2.2.2.2.2.2.2.1) (And.intro (M.out.2.2.2.2.2.2.2.2.2.1) (And.intro (M.out.2.2.2.2.2.2.2.2.2.2.1) (And.intro (M.out.2.2.2.2.2.2.2.2.2.2.2.1) (And.intro (M.out.2.2.2.2.2.2.2.2.2.2.2.2.1) (M.out.2.2.2.2.2.2.2.2.2.2.2.2.2))))))))))
  refine (rfsame_q (G := G) (q := q23) (r := q29) (M.out.2.2.2.1) (M.out.2.1) (Fz.mono Sq23.out (by omega)) (by rw [Eq29.out, Eq23.out, Eq17.out, Eq5.out]; exact eqn_2 q r u)).mono ?_
  rintro e w25 ⟨rfl, hb⟩
  replace M := Lib.hid (Goes.go M.out hb)
  clear hb
  go_upto_region 11 with fail
  rename_i Kst_ hst_
  exact field_core_s11 hG HQ HR HU HO HER e15 e0 ez HNZ HZ1 HZ2 HT HM H1 H2 H3 (Lib.hid (by rw [Eq29.out, Eq17.out])) Sq29 (Lib.hid (by rw [Eq23.out, Eq5.out])) Sq23 Eq5 Sq5 (by omega) (by omega) (by omega) (by omega) (by omega) (by omega) M Kst_ hst_

set_option maxRecDepth 100000 in
set_option maxHeartbeats 4000000 in
theorem field_core_s5 {o : Option Rat} {er : Int} {bz nz : Bool} {q r u : Rat} {a1 b1 a2 b2 a3 b3 : Option Addr} {c1 d1 c2 d2 c3 d3 : Nat} {w : World}  {w11 : World} {a_1 b_3 : Option Addr} {c_2 d_4 : Nat} {q5 : Rat} {B0 B1 B2 B3 : Nat} {x0_ x1_ x2_ x10_ x11_ x12_ x13_ x14_ x15_ x16_ x17_ x18_ x19_ x20_ x21_ x22_ x23_ x24_ x25_ x26_ x27_ x28_ x29_ x30_ x31_ x32_ x33_ x34_ x35_ x36_ x37_ x38_ x39_ x40_ x41_ x42_ x43_ x44_ x45_ x46_ x47_ x48_ x49_ x50_ x51_ x52_ x53_ x54_ x55_ x56_ x57_ x58_ x59_ x60_ x61_ x62_ x63_ x64_ : Value} (hG : G ≤ w.heap.size) (HQ : Hid (Fz q 12)) (HR : Hid (Fz r 12)) (HU : Hid (Fz u 12)) (HO : Hid (divO (q * r) r = o)) (HER : Hid (divE r = er)) (e15 : (er == 15) = bz) (e0 : (er == 0) = nz) (ez : (sg (nu r) == 0) = bz) (HNZ : Hid (bz = false → nz = true ∧ o = some q)) (HZ1 : Hid (Sz (oN o) 100)) (HZ2 : Hid (Sz (oD o) 100)) (HT : Hid (Tab w)) (HM : Hid (Mx w)) (H1 : Hid (FD G w a1 c1 b1 d1 q)) (H2 : Hid (FD G w a2 c2 b2 d2 r)) (H3 : Hid (FD G w a3 c3 b3 d3 u)) (Eq5 : Hid (q5 = ((q + r)))) (Sq5 : Hid (Fz q5 25)) (oB0 : w.heap.size ≤ B0) (oB1 : B0 < B1) (oB2 : B1 < B2) (oB3 : B2 < B3) (M : Hid (Bx w11 B3 26 #[.int .i64 (sg (nu q5)), .slice a_1 (ln (nu q5)) c_2, .int .i64 (sg (de q5)), .slice b_3 (ln (de q5)) d_4] ∧ FD G w11 a_1 c_2 b_3 d_4 q5 ∧ Bx w11 B2 26 #[.int .i64 (sg (nu u)), .slice a3 (ln (nu u)) c3, .int .i64 (sg (de u)), .slice b3 (ln (de u)) d3] ∧ Bx w11 B1 26 #[.int .i64 (sg (nu r)), .slice a2 (ln (nu r)) c2, .int .i64 (sg (de r)), .slice b2 (ln (de r)) d2] ∧ Bx w11 B0 26 #[.int .i64 (sg (nu q)), .slice a1 (ln (nu q)) c1, .int .i64 (sg (de q)), .slice b1 (ln (de q)) d1] ∧ Below w.heap.size w w11)) :
    ∀ K : Act → World → Prop, (∀ a_ w_, Code.wp Tryz.prog (restAt Tryz.f4 5) (bodyPost Tryz.prog Tryz.f4 fun e w' => e = .returned (.bool true) ∧ Below w.heap.size w w') a_ w_ → K a_ w_) → Code.wp Tryz.prog (regAt Tryz.f4 5) (Exit.then K (bodyPost Tryz.prog Tryz.f4 fun e w' => e = .returned (.bool true) ∧ Below w.heap.size w w')) ⟨List.toArray (x0_ :: x1_ :: x2_ :: .pointer (some ⟨B0, 0, none⟩) :: .pointer (some ⟨B1, 0, none⟩) :: .pointer (some ⟨B2, 0, none⟩) :: .bool false :: .bool true :: .pointer (some ⟨B3, 0, none⟩) :: .bool true :: x10_ :: x11_ :: x12_ :: x13_ :: x14_ :: x15_ :: x16_ :: x17_ :: x18_ :: x19_ :: x20_ :: x21_ :: x22_ :: x23_ :: x24_ :: x25_ :: x26_ :: x27_ :: x28_ :: x29_ :: x30_ :: x31_ :: x32_ :: x33_ :: x34_ :: x35_ :: x36_ :: x37_ :: x38_ :: x39_ :: x40_ :: x41_ :: x42_ :: x43_ :: x44_ :: x45_ :: x46_ :: x47_ :: x48_ :: x49_ :: x50_ :: x51_ :: x52_ :: x53_ :: x54_ :: x55_ :: x56_ :: x57_ :: x58_ :: x59_ :: x60_ :: x61_ :: x62_ :: x63_ :: x64_ :: undef :: undef :: undef :: undef :: undef :: undef :: undef :: undef :: undef :: undef :: undef :: undef :: undef :: undef :: undef :: undef :: undef :: undef :: undef :: undef :: undef :: undef :: undef :: undef :: undef :: undef :: undef :: undef :: undef :: undef :: undef :: undef :: undef :: undef :: undef :: undef :: undef :: undef :: undef :: undef :: undef :: undef :: undef :: undef :: undef :: undef :: undef :: undef :: undef :: undef :: undef :: undef :: undef :: undef :: undef :: undef :: undef :: undef :: undef :: undef :: undef :: undef :: undef :: undef :: undef :: undef :: undef :: undef :: undef :: undef :: undef :: undef :: undef :: undef :: undef :: undef :: undef :: undef :: undef :: undef :: undef :: undef :: undef :: undef :: undef :: undef :: undef :: undef :: undef :: undef :: undef :: undef :: undef :: undef :: undef :: undef :: undef :: undef :: undef :: undef :: undef :: undef :: undef :: undef :: undef :: undef :: undef :: undef :: undef :: undef :: undef :: undef :: undef :: undef :: undef :: undef :: undef :: undef :: undef :: undef :: undef :: undef :: undef :: undef :: undef :: undef :: undef :: undef :: undef :: undef :: undef :: undef :: undef :: undef :: undef :: undef :: undef :: undef :: undef :: undef :: undef :: undef :: undef :: undef :: undef :: undef :: undef :: undef :: undef :: undef :: undef :: undef :: undef :: undef :: undef :: undef :: undef :: undef :: undef :: undef :: undef :: undef :: undef :: undef :: undef :: undef :: undef :: undef :: undef :: undef :: undef :: undef :: undef :: undef :: undef :: undef :: undef :: undef :: undef :: undef :: undef :: undef :: undef :: undef :: undef :: undef :: undef :: undef :: undef :: undef :: undef :: undef :: undef :: undef :: undef :: undef :: undef :: undef :: undef :: undef :: undef :: undef :: undef :: undef :: undef :: undef :: undef :: undef :: undef :: undef :: undef :: undef :: undef :: undef :: undef :: undef :: undef :: undef :: undef :: undef :: undef :: undef :: undef :: undef :: undef :: undef :: undef :: undef :: undef :: undef :: undef :: undef :: undef :: undef :: undef :: undef :: undef :: undef :: undef :: undef :: undef :: undef :: undef :: undef :: undef :: undef :: undef :: undef :: undef :: undef :: undef :: undef :: undef :: undef :: undef :: undef :: undef :: undef :: undef :: undef :: undef :: undef :: undef :: undef :: undef :: undef :: undef :: undef :: []), []⟩ w11 := by
  intro Kst_ hst_
  conv => arg 2; whnf
  conv at hst_ => enter [a_, w_, 1, 2]; whnf
  have y1 := (M.out.2.2.2.1).c4; have p1_0 := y1.1; have q1_0 := y1.2.1; have p1_1 := y1.2.2.1; have q1_1 := y1.2.2.2.1; have p1_2 := y1.2.2.2.2.1; have q1_2 := y1.2.2.2.2.2.1; have p1_3 := y1.2.2.2.2.2.2.1; have q1_3 := y1.2.2.2.2.2.2.2; clear y1
  have y0 := (M.out.2.2.2.2.1).c4; have p0_0 := y0.1; have q0_0 := y0.2.1; have p0_1 := y0.2.2.1; have q0_1 := y0.2.2.2.1; have p0_2 := y0.2.2.2.2.1; have q0_2 := y0.2.2.2.2.2.1; have p0_3 := y0.2.2.2.2.2.2.1; have q0_3 := y0.2.2.2.2.2.2.2; clear y0
  go_wp2_with fail
  clear p1_0 q1_0 p1_1 q1_1 p1_2 q1_2 p1_3 q1_3 p0_0 q0_0 p0_1 q0_1 p0_2 q0_2 p0_3 q0_3
  obtain ⟨q11, eq11⟩ : ∃ v_ : Rat, v_ = (r + q) := ⟨_, rfl⟩
  refine (fracAdd_ok (G := G) (q := r) (r := q) (H2.out.keep (M.out.2.2.2.2.2)) (H1.out.keep (M.out.2.2.2.2.2)) (Fz.mono HR.out (by omega)) (Fz.mono HQ.out (by omega))).mono ?_
  rintro e w12 ⟨a_7, c_8, b_9, d_10, rfl, hd12, hb⟩
  rw [← eq11] at hd12 ⊢
  have Sq11 : Hid (Fz q11 25) := by show Fz q11 25; rw [eq11]; exact (Fz.add HR.out HQ.out)
  have Eq11 := Lib.hid eq11; clear eq11
  replace M := Lib.hid (And.intro hd12 (Goes.go M.out hb))
  clear hb hd12
  go_wp2_with fail
  refine (right_ok (G := G) (q := q11) (M.out.1) (Fz.mono Sq11.out (by omega))).mono ?_
  rintro e w13 ⟨rfl, hb⟩
  replace M := Lib.hid (Goes.go M.out hb)
  clear hb
  go_upto_region 6 with fail
  obtain ⟨w14, hv⟩ : ∃ w_ : World, w_ = (w13.alloc (.cells #[.int .i64 (sg (nu q11)), .slice a_7 (ln (nu q11)) c_8, .int .i64 (sg (de q11)), .slice b_9 (ln (de q11)) d_10] 26)) := ⟨_, rfl⟩
  rw [← hv]
  have o4 : B3 < w13.heap.size := ((M.out.2.1)).lt
  replace M := Lib.hid (And.intro (hv ▸ bx1 w13 26 #[.int .i64 (sg (nu q11)), .slice a_7 (ln (nu q11)) c_8, .int .i64 (sg (de q11)), .slice b_9 (ln (de q11)) d_10]) (Goes.go M.out (hv ▸ below_alloc _ _ : Below w13.heap.size w13 w14)))
  clear hv
  have y1 := (M.out.2.2.2.2.2.1).c4; have p1_0 := y1.1; have q1_0 := y1.2.1; have p1_1 := y1.2.2.1; have q1_1 := y1.2.2.2.1; have p1_2 := y1.2.2.2.2.1; have q1_2 := y1.2.2.2.2.2.1; have p1_3 := y1.2.2.2.2.2.2.1; have q1_3 := y1.2.2.2.2.2.2.2; clear y1
  have y2 := (M.out.2.2.2.2.1).c4; have p2_0 := y2.1; have q2_0 := y2.2.1; have p2_1 := y2.2.2.1; have q2_1 := y2.2.2.2.1; have p2_2 := y2.2.2.2.2.1; have q2_2 := y2.2.2.2.2.2.1; have p2_3 := y2.2.2.2.2.2.2.1; have q2_3 := y2.2.2.2.2.2.2.2; clear y2
  go_wp2_with fail
  clear p1_0 q1_0 p1_1 q1_1 p1_2 q1_2 p1_3 q1_3 p2_0 q2_0 p2_1 q2_1 p2_2 q2_2 p2_3 q2_3
  obtain ⟨q17, eq17⟩ : ∃ v_ : Rat, v_ = (r + u) := ⟨_, rfl⟩
  refine (fracAdd_ok (G := G) (q := r) (r := u) (H2.out.keep (M.out.2.2.2.2.2.2.2)) (H3.out.keep (M.out.2.2.2.2.2.2.2)) (Fz.mono HR.out (by omega)) (Fz.mono HU.out (by omega))).mono ?_
  rintro e w15 ⟨a_13, c_14, b_15, d_16, rfl, hd18, hb⟩
  rw [← eq17] at hd18 ⊢
  have Sq17 : Hid (Fz q17 25) := by show Fz q17 25; rw [eq17]; exact (Fz.add HR.out HU.out)
  have Eq17 := Lib.hid eq17; clear eq17
  replace M := Lib.hid (And.intro hd18 (Goes.go M.out hb))
  clear hb hd18
  go_wp2_with fail
  refine (right_ok (G := G) (q := q17) (M.out.1) (Fz.mono Sq17.out (by omega))).mono ?_
  rintro e w16 ⟨rfl, hb⟩
  replace M := Lib.hid (Goes.go M.out hb)
  clear hb
  go_upto_region 7 with fail
  obtain ⟨w17, hv⟩ : ∃ w_ : World, w_ = (w16.alloc (.cells #[.int .i64 (sg (nu q17)), .slice a_13 (ln (nu q17)) c_14, .int .i64 (sg (de q17)), .slice b_15 (ln (de q17)) d_16] 26)) := ⟨_, rfl⟩
  rw [← hv]
  have o5 : w13.heap.size < w16.heap.size := ((M.out.2.1)).lt
  replace M := Lib.hid (And.intro (hv ▸ bx1 w16 26 #[.int .i64 (sg (nu q17)), .slice a_13 (ln (nu q17)) c_14, .int .i64 (sg (de q17)), .slice b_15 (ln (de q17)) d_16]) (Goes.go M.out (hv ▸ below_alloc _ _ : Below w16.heap.size w16 w17)))
  clear hv
  rename_i Kst_ hst_
  exact field_core_s7 hG HQ HR HU HO HER e15 e0 ez HNZ HZ1 HZ2 HT HM H1 H2 H3 Eq17 Sq17 Eq11 Sq11 Eq5 Sq5 (by omega) (by omega) (by omega) (by omega) (by omega) (by omega) M Kst_ hst_

set_option maxRecDepth 100000 in
set_option maxHeartbeats 4000000 in
theorem field_core {o : Option Rat} {er : Int} {bz nz : Bool} {q r u : Rat} {a1 b1 a2 b2 a3 b3 : Option Addr} {c1 d1 c2 d2 c3 d3 : Nat} {w : World}  (hG : G ≤ w.heap.size) (HQ : Hid (Fz q 12)) (HR : Hid (Fz r 12)) (HU : Hid (Fz u 12)) (HO : Hid (divO (q * r) r = o)) (HER : Hid (divE r = er)) (e15 : (er == 15) = bz) (e0 : (er == 0) = nz) (ez : (sg (nu r) == 0) = bz) (HNZ : Hid (bz = false → nz = true ∧ o = some q)) (HZ1 : Hid (Sz (oN o) 100)) (HZ2 : Hid (Sz (oD o) 100)) (ht : Tab w) (hm : Mx w) (h1 : FD G w a1 c1 b1 d1 q) (h2 : FD G w a2 c2 b2 d2 r) (h3 : FD G w a3 c3 b3 d3 u) :
    Calls Tryz.prog 4 #[.agg #[.int .i64 (sg (nu q)), .slice a1 (ln (nu q)) c1, .int .i64 (sg (de q)), .slice b1 (ln (de q)) d1], .agg #[.int .i64 (sg (nu r)), .slice a2 (ln (nu r)) c2, .int .i64 (sg (de r)), .slice b2 (ln (de r)) d2], .agg #[.int .i64 (sg (nu u)), .slice a3 (ln (nu u)) c3, .int .i64 (sg (de u)), .slice b3 (ln (de u)) d3]] w fun e w' => e = .returned (.bool true) ∧ Below w.heap.size w w' := by
  have HT : Hid (Tab w) := ht
  have HM : Hid (Mx w) := hm
  have H1 : Hid (FD G w a1 c1 b1 d1 q) := h1
  have H2 : Hid (FD G w a2 c2 b2 d2 r) := h2
  have H3 : Hid (FD G w a3 c3 b3 d3 u) := h3
  clear ht hm h1 h2 h3
  have M : Hid (Below w.heap.size w w) := Below.refl _ _
  go_enter Tryz.func4, Tryz.ntmps4
  go_upto_region 1 with fail
  obtain ⟨w1, hv⟩ : ∃ w_ : World, w_ = (((w.alloc (.cells #[.int .i64 (sg (nu q)), .slice a1 (ln (nu q)) c1, .int .i64 (sg (de q)), .slice b1 (ln (de q)) d1] 26)).alloc (.cells #[.int .i64 (sg (nu r)), .slice a2 (ln (nu r)) c2, .int .i64 (sg (de r)), .slice b2 (ln (de r)) d2] 26)).alloc (.cells #[.int .i64 (sg (nu u)), .slice a3 (ln (nu u)) c3, .int .i64 (sg (de u)), .slice b3 (ln (de u)) d3] 26)) := ⟨_, rfl⟩
  rw [← hv]
  have hbx := bx3 w 26 26 26 #[.int .i64 (sg (nu q)), .slice a1 (ln (nu q)) c1, .int .i64 (sg (de q)), .slice b1 (ln (de q)) d1] #[.int .i64 (sg (nu r)), .slice a2 (ln (nu r)) c2, .int .i64 (sg (de r)), .slice b2 (ln (de r)) d2] #[.int .i64 (sg (nu u)), .slice a3 (ln (nu u)) c3, .int .i64 (sg (de u)), .slice b3 (ln (de u)) d3]
  rw [← hv] at hbx
  have hbn : Below w.heap.size w w1 := by rw [hv]; exact (Below.alloc (Below.alloc (Below.alloc (Below.refl _ _) (by simp <;> omega) _) (by simp <;> omega) _) (by simp <;> omega) _)
  replace M := Lib.hid (And.intro hbx.2.2 (And.intro hbx.2.1 (And.intro hbx.1 (Goes.go M.out hbn))))
  clear hbx hbn
  clear hv
  go_wp2_with fail
  refine (small_ok (G := G) (Nat.le_trans hG (M.out.2.2.2).size) (HT.out.keep (M.out.2.2.2)) (HM.out.keep (M.out.2.2.2))).mono ?_
  rintro e w2 ⟨rfl, hb⟩
  replace M := Lib.hid (Goes.go M.out hb)
  clear hb
  have y0 := (M.out.2.2.1).c4; have p0_0 := y0.1; have q0_0 := y0.2.1; have p0_1 := y0.2.2.1; have q0_1 := y0.2.2.2.1; have p0_2 := y0.2.2.2.2.1; have q0_2 := y0.2.2.2.2.2.1; have p0_3 := y0.2.2.2.2.2.2.1; have q0_3 := y0.2.2.2.2.2.2.2; clear y0
  go_wp2_with fail
  clear p0_0 q0_0 p0_1 q0_1 p0_2 q0_2 p0_3 q0_3
  refine (rfFew_ok (s := (sg (nu q))) (t := (sg (de q))) (m := 12) (r := true) (few_fz HQ.out rfl)).mono ?_
  rintro e w3 ⟨rfl, hb⟩
  replace M := Lib.hid (Goes.go M.out hb)
  clear hb
  have y1 := (M.out.2.1).c4; have p1_0 := y1.1; have q1_0 := y1.2.1; have p1_1 := y1.2.2.1; have q1_1 := y1.2.2.2.1; have p1_2 := y1.2.2.2.2.1; have q1_2 := y1.2.2.2.2.2.1; have p1_3 := y1.2.2.2.2.2.2.1; have q1_3 := y1.2.2.2.2.2.2.2; clear y1
  go_wp2_with fail
  clear p1_0 q1_0 p1_1 q1_1 p1_2 q1_2 p1_3 q1_3
  refine (rfFew_ok (s := (sg (nu r))) (t := (sg (de r))) (m := 12) (r := true) (few_fz HR.out rfl)).mono ?_
  rintro e w4 ⟨rfl, hb⟩
  replace M := Lib.hid (Goes.go M.out hb)
  clear hb
  have y2 := (M.out.1).c4; have p2_0 := y2.1; have q2_0 := y2.2.1; have p2_1 := y2.2.2.1; have q2_1 := y2.2.2.2.1; have p2_2 := y2.2.2.2.2.1; have q2_2 := y2.2.2.2.2.2.1; have p2_3 := y2.2.2.2.2.2.2.1; have q2_3 := y2.2.2.2.2.2.2.2; clear y2
  go_wp2_with fail
  clear p2_0 q2_0 p2_1 q2_1 p2_2 q2_2 p2_3 q2_3
  refine (rfFew_ok (s := (sg (nu u))) (t := (sg (de u))) (m := 12) (r := true) (few_fz HU.out rfl)).mono ?_
  rintro e w5 ⟨rfl, hb⟩
  replace M := Lib.hid (Goes.go M.out hb)
  clear hb
  have y0 := (M.out.2.2.1).c4; have p0_0 := y0.1; have q0_0 := y0.2.1; have p0_1 := y0.2.2.1; have q0_1 := y0.2.2.2.1; have p0_2 := y0.2.2.2.2.1; have q0_2 := y0.2.2.2.2.2.1; have p0_3 := y0.2.2.2.2.2.2.1; have q0_3 := y0.2.2.2.2.2.2.2; clear y0
  go_wp2_with fail
  clear p0_0 q0_0 p0_1 q0_1 p0_2 q0_2 p0_3 q0_3
  refine (fracRight_ok (G := G) (q := q) (H1.out.keep (M.out.2.2.2)) (Fz.mono HQ.out (by omega))).mono ?_
  rintro e w6 ⟨rfl, hb⟩
  replace M := Lib.hid (Goes.go M.out hb)
  clear hb
  have y1 := (M.out.2.1).c4; have p1_0 := y1.1; have q1_0 := y1.2.1; have p1_1 := y1.2.2.1; have q1_1 := y1.2.2.2.1; have p1_2 := y1.2.2.2.2.1; have q1_2 := y1.2.2.2.2.2.1; have p1_3 := y1.2.2.2.2.2.2.1; have q1_3 := y1.2.2.2.2.2.2.2; clear y1
  go_wp2_with fail
  clear p1_0 q1_0 p1_1 q1_1 p1_2 q1_2 p1_3 q1_3
  refine (fracRight_ok (G := G) (q := r) (H2.out.keep (M.out.2.2.2)) (Fz.mono HR.out (by omega))).mono ?_
  rintro e w7 ⟨rfl, hb⟩
  replace M := Lib.hid (Goes.go M.out hb)
  clear hb
  have y2 := (M.out.1).c4; have p2_0 := y2.1; have q2_0 := y2.2.1; have p2_1 := y2.2.2.1; have q2_1 := y2.2.2.2.1; have p2_2 := y2.2.2.2.2.1; have q2_2 := y2.2.2.2.2.2.1; have p2_3 := y2.2.2.2.2.2.2.1; have q2_3 := y2.2.2.2.2.2.2.2; clear y2
  go_wp2_with fail
  clear p2_0 q2_0 p2_1 q2_1 p2_2 q2_2 p2_3 q2_3
  refine (fracRight_ok (G := G) (q := u) (H3.out.keep (M.out.2.2.2)) (Fz.mono HU.out (by omega))).mono ?_
  rintro e w8 ⟨rfl, hb⟩
  replace M := Lib.hid (Goes.go M.out hb)
  clear hb
  have y0 := (M.out.2.2.1).c4; have p0_0 := y0.1; have q0_0 := y0.2.1; have p0_1 := y0.2.2.1; have q0_1 := y0.2.2.2.1; have p0_2 := y0.2.2.2.2.1; have q0_2 := y0.2.2.2.2.2.1; have p0_3 := y0.2.2.2.2.2.2.1; have q0_3 := y0.2.2.2.2.2.2.2; clear y0
  have y1 := (M.out.2.1).c4; have p1_0 := y1.1; have q1_0 := y1.2.1; have p1_1 := y1.2.2.1; have q1_1 := y1.2.2.2.1; have p1_2 := y1.2.2.2.2.1; have q1_2 := y1.2.2.2.2.2.1; have p1_3 := y1.2.2.2.2.2.2.1; have q1_3 := y1.2.2.2.2.2.2.2; clear y1
  go_wp2_with fail
  clear p0_0 q0_0 p0_1 q0_1 p0_2 q0_2 p0_3 q0_3 p1_0 q1_0 p1_1 q1_1 p1_2 q1_2 p1_3 q1_3
  obtain ⟨q5, eq5⟩ : ∃ v_ : Rat, v_ = (q + r) := ⟨_, rfl⟩
  refine (fracAdd_ok (G := G) (q := q) (r := r) (H1.out.keep (M.out.2.2.2)) (H2.out.keep (M.out.2.2.2)) (Fz.mono HQ.out (by omega)) (Fz.mono HR.out (by omega))).mono ?_
  rintro e w9 ⟨a_1, c_2, b_3, d_4, rfl, hd6, hb⟩
  rw [← eq5] at hd6 ⊢
  have Sq5 : Hid (Fz q5 25) := by show Fz q5 25; rw [eq5]; exact (Fz.add HQ.out HR.out)
  have Eq5 := Lib.hid eq5; clear eq5
  replace M := Lib.hid (And.intro hd6 (Goes.go M.out hb))
  clear hb hd6
  go_wp2_with fail
  refine (right_ok (G := G) (q := q5) (M.out.1) (Fz.mono Sq5.out (by omega))).mono ?_
  rintro e w10 ⟨rfl, hb⟩
  replace M := Lib.hid (Goes.go M.out hb)
  clear hb
  go_upto_region 5 with fail
  obtain ⟨w11, hv⟩ : ∃ w_ : World, w_ = (w10.alloc (.cells #[.int .i64 (sg (nu q5)), .slice a_1 (ln (nu q5)) c_2, .int .i64 (sg (de q5)), .slice b_3 (ln (de q5)) d_4] 26)) := ⟨_, rfl⟩
  rw [← hv]
  have o3 : w.heap.size + 1 + 1 < w10.heap.size := ((M.out.2.1)).lt
  replace M := Lib.hid (And.intro (hv ▸ bx1 w10 26 #[.int .i64 (sg (nu q5)), .slice a_1 (ln (nu q5)) c_2, .int .i64 (sg (de q5)), .slice b_3 (ln (de q5)) d_4]) (Goes.go M.out (hv ▸ below_alloc _ _ : Below w10.heap.size w10 w11)))
  clear hv
  rename_i Kst_ hst_
  exact field_core_s5 hG HQ HR HU HO HER e15 e0 ez HNZ HZ1 HZ2 HT HM H1 H2 H3 Eq5 Sq5 (by omega) (by omega) (by omega) (by omega) M Kst_ hst_

theorem field_all {q r u : Rat} {a1 b1 a2 b2 a3 b3 : Option Addr} {c1 d1 c2 d2 c3 d3 : Nat} {w : World} (hG : G ≤ w.heap.size) (ht : Tab w) (hm : Mx w) (h1 : FD G w a1 c1 b1 d1 q) (h2 : FD G w a2 c2 b2 d2 r) (h3 : FD G w a3 c3 b3 d3 u) (hq : Fz q 12) (hr : Fz r 12) (hu : Fz u 12) :
    Calls Tryz.prog 4 #[.agg #[.int .i64 (sg (nu q)), .slice a1 (ln (nu q)) c1, .int .i64 (sg (de q)), .slice b1 (ln (de q)) d1], .agg #[.int .i64 (sg (nu r)), .slice a2 (ln (nu r)) c2, .int .i64 (sg (de r)), .slice b2 (ln (de r)) d2], .agg #[.int .i64 (sg (nu u)), .slice a3 (ln (nu u)) c3, .int .i64 (sg (de u)), .slice b3 (ln (de u)) d3]] w fun e w' => e = .returned (.bool true) ∧ Below w.heap.size w w' := by
  by_cases h0 : r = 0
  · have e1 : divO (q * r) r = none := by unfold divO; rw [if_pos h0]
    exact field_core (o := none) (er := 15) (bz := true) (nz := false) hG (Lib.hid hq) (Lib.hid hr) (Lib.hid hu) (Lib.hid e1) (Lib.hid (by unfold divE; rw [if_pos h0])) rfl rfl (by rw [h0]; rfl) (Lib.hid (fun h => by cases h)) (Lib.hid (by show Sz 0 100; unfold Sz; decide)) (Lib.hid (by show Sz 0 100; unfold Sz; decide)) ht hm h1 h2 h3
  · have e1 : divO (q * r) r = some q := by unfold divO; rw [if_neg h0, Rat.mul_div_cancel h0]
    exact field_core (o := some q) (er := 0) (bz := false) (nz := true) hG (Lib.hid hq) (Lib.hid hr) (Lib.hid hu) (Lib.hid e1) (Lib.hid (by unfold divE; rw [if_neg h0])) rfl rfl (by rw [sg_zero_iff]; exact decide_eq_false (mt nu_zero.1 h0)) (Lib.hid (fun _ => ⟨rfl, rfl⟩)) (Lib.hid (hq.1.mono (by omega))) (Lib.hid (hq.2.mono (by omega))) ht hm h1 h2 h3

theorem field_walk {sa ta sb tb sc tc : Int} {la ma lb mb lc mc : List Int} {a1 b1 a2 b2 a3 b3 : Option Addr} {c1 d1 c2 d2 c3 d3 : Nat} {w : World} (ht : Tab w) (hm : Mx w) (h1 : FR w a1 c1 b1 d1 la ma) (h2 : FR w a2 c2 b2 d2 lb mb) (h3 : FR w a3 c3 b3 d3 lc mc) :
    Calls Tryz.prog 4 #[.agg #[.int .i64 sa, .slice a1 la.length c1, .int .i64 ta, .slice b1 ma.length d1], .agg #[.int .i64 sb, .slice a2 lb.length c2, .int .i64 tb, .slice b2 mb.length d2], .agg #[.int .i64 sc, .slice a3 lc.length c3, .int .i64 tc, .slice b3 mc.length d3]] w fun e w' => e = .returned (.bool true) ∧ Below w.heap.size w w' := by
  cases hn : ((decide ((la.length : Int) ≤ 12) && decide ((ma.length : Int) ≤ 12)) && ((decide ((lb.length : Int) ≤ 12) && decide ((mb.length : Int) ≤ 12)) && ((decide ((lc.length : Int) ≤ 12) && decide ((mc.length : Int) ≤ 12)) && (rightF sa la ta ma && (rightF sb lb tb mb && rightF sc lc tc mc))))) with
  | false => exact field_not (G := w.heap.size) (Nat.le_refl _) ht hm h1 h2 h3 hn
  | true =>
    simp only [Bool.and_eq_true] at hn
    obtain ⟨⟨fla, fma⟩, ⟨flb, fmb⟩, ⟨flc, fmc⟩, ra, rb, rc⟩ := hn
    obtain ⟨q, esa, ela, eta, ema, ba⟩ := fd_of_right h1 ra
    rw [ela] at fla
    rw [ema] at fma
    rw [esa, ela, eta, ema]
    obtain ⟨r, esb, elb, etb, emb, bb⟩ := fd_of_right h2 rb
    rw [elb] at flb
    rw [emb] at fmb
    rw [esb, elb, etb, emb]
    obtain ⟨u, esc, elc, etc, emc, bc⟩ := fd_of_right h3 rc
    rw [elc] at flc
    rw [emc] at fmc
    rw [esc, elc, etc, emc]
    exact field_all (G := w.heap.size) (Nat.le_refl _) ht hm ba bb bc ⟨few_sz_of fla rfl, few_sz_of fma rfl⟩ ⟨few_sz_of flb rfl, few_sz_of fmb rfl⟩ ⟨few_sz_of flc rfl, few_sz_of fmc rfl⟩

end Go.Proofs.YtcfmakpckdicjaaGreatDoor
