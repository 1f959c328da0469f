/- Words for the laws of spans: raw arguments. -/
import Derived.Test.YtjbfngjlepafgaaGreatBigB
import Derived.Test.YtjbfngjlepafgaaGreatBigC
import Derived.Test.YtjbfngjlepafgaaGreatBigD
import Derived.Test.YtjbfngjlepafgaaGreatBigQ
import Derived.Test.YtjbfngjlepafgaaGreatFracA
import Derived.Test.YtjbfngjlepafgaaGreatRefN
import Derived.Test.YtjbfngjlepafgaaGreatFz
import Derived.Test.YtjbfngjlepafgaaGreatHeld
import Derived.Test.YtjbfngjlepafgaaGreatAw
import Derived.Test.YtjbfngjlepafgaaGreatRefO
import Derived.Test.YtjbfngjlepafgaaGreatStage
import Derived.Test.YtjbfngjlepafgaaGreatFq
import Derived.Test.YtjbfngjlepafgaaGreatSpanPlain
import Derived.Test.YtjbfngjlepafgaaGreatRefY
import Derived.Test.YtjbfngjlepafgaaGreatRefSpA
import Derived.Test.YtjbfngjlepafgaaGreatRefSpC
import Derived.Test.YtjbfngjlepafgaaGreatProg
import Derived.Test.YtjbfngjlepafgaaGreatShelf
import Derived.WalkKit
import Derived.WalkSpells
import Derived.WalkLawsBesides
import Derived.Handy
import Derived.Lib.Hide
import Derived.Lib.Strings
import Derived.Lib.Builder
import Derived.BigQuiet
import Derived.OwnWalk
import Derived.Laws.BitsLemmas
import Derived.WalkSmall
import Derived.Deep.QuietTactic
import Derived.StillTailTactics
import Derived.Maps.AppendAt
import Derived.IntWalk
import Derived.Deep.RegionHeld3
import Derived.Deep.DeepFit
import Derived.Deep.LoopGhost
import Derived.Deep.DeepCutAuto
import Derived.Lib.ItoaNum
import Derived.Lib.Repeat
import Derived.Lib.AppendIntMem
import Derived.Sort.OwnSorted
import Derived.Shelf.Strings.SlTrimAscii
import Derived.Lib.ConvBytes
import Derived.Lib.CutLaws
namespace Go.Proofs.YtjbfngjlepafgaaGreat
open Go.RowKit Go.Lib
variable {G : Nat}

theorem rqOf {x y : Int} {w : World} (hx : -9223372036854775808 ≤ x ∧ x ≤ 9223372036854775807) (hy : -9223372036854775808 ≤ y ∧ y ≤ 9223372036854775807) (hp : 0 < y) :
  Calls Tryz.prog 35 #[.int .i64 x, .int .i64 y] w fun e w' => ∃ x0 x1 x2 x3, e = .returned (.tuple #[.agg #[x0, x1, x2, x3], .int .i64 0]) ∧ FQ G w' x0 x1 x2 x3 (Rat.divInt x y) ∧ Below w.heap.size w w' := by
 exact (rfof_pos (G := G) _ _ _ hx hy hp).mono fun e w' ⟨a, c, b, d, he, hd, hb⟩ => ⟨_, _, _, _, he, FQ.of hd, hb⟩
set_option maxRecDepth 100000 in
set_option maxHeartbeats 4000000 in
theorem spanSmall_ok_s16 {w : World}  {w53 : World} {x_353 x_354 x_355 x_356 x_357 x_358 x_359 x_360 x_295 x_296 x_297 x_298 x_299 x_300 x_301 x_302 x_259 x_260 x_261 x_262 x_263 x_264 x_265 x_266 x_223 x_224 x_225 x_226 x_227 x_228 x_229 x_230 x_25 x_26 x_27 x_28 x_29 x_30 x_31 x_32 : Value} {q361 q362 q267 q268 q231 q232 q33 q34 : Rat} {B0 B6 B7 B8 B10 : Nat} {x2_ x3_ x4_ x5_ x6_ x7_ x8_ x9_ x10_ x11_ x12_ x14_ x16_ x18_ x19_ x20_ x22_ x23_ x24_ x26_ x27_ x28_ x29_ x30_ x31_ x32_ x33_ x34_ x35_ x36_ x37_ x38_ x39_ x40_ x41_ x42_ x43_ x44_ x45_ x46_ x47_ x48_ x49_ x50_ x51_ x52_ x53_ x54_ x55_ x56_ x57_ x58_ x59_ x60_ x61_ x62_ x63_ x64_ x65_ x66_ x67_ x68_ x69_ x70_ x71_ x72_ x73_ x74_ x75_ x76_ x77_ x78_ x79_ x80_ x81_ x82_ x83_ x84_ x85_ x86_ x87_ x88_ x89_ x90_ x91_ x92_ x93_ x94_ x95_ x96_ x97_ x98_ x99_ x100_ x101_ x102_ x103_ x104_ x105_ x106_ x107_ x108_ x109_ x110_ x111_ x112_ x113_ x114_ x115_ x116_ x117_ x118_ x119_ x120_ x121_ x122_ x123_ x124_ x125_ x126_ x127_ x128_ x129_ x130_ x131_ x132_ x133_ x134_ x135_ x136_ x137_ x138_ x139_ x140_ x141_ x142_ x143_ x144_ x145_ x146_ x147_ x148_ x149_ x150_ x151_ x152_ x153_ x154_ x155_ x156_ x157_ : Value} (hG : G ≤ w.heap.size)  (Eq361 : Hid (q361 = (((maxQ (((1 : Int) : Rat)) (((4 : Int) : Rat))))))) (Sq361 : Hid (Fz q361 4)) (Eq362 : Hid (q362 = (((minQ (((4 : Int) : Rat)) (((5 : Int) : Rat))))))) (Sq362 : Hid (Fz q362 4)) (Eq267 : Hid (q267 = ((((maxQ (((1 : Int) : Rat)) (((2 : Int) : Rat)))))))) (Sq267 : Hid (Fz q267 4)) (Eq268 : Hid (q268 = ((((maxQ (((5 : Int) : Rat)) (((3 : Int) : Rat)))))))) (Sq268 : Hid (Fz q268 4)) (Eq231 : Hid (q231 = (((((minQ (((1 : Int) : Rat)) (((2 : Int) : Rat))))))))) (Sq231 : Hid (Fz q231 4)) (Eq232 : Hid (q232 = (((((minQ (((5 : Int) : Rat)) (((3 : Int) : Rat))))))))) (Sq232 : Hid (Fz q232 4)) (Eq33 : Hid (q33 = ((((((((((1 : Int) : Rat)) + (((3 : Int) : Rat))))))))))) (Sq33 : Hid (Fz q33 9)) (Eq34 : Hid (q34 = ((((((((((2 : Int) : Rat)) + (((5 : Int) : Rat))))))))))) (Sq34 : Hid (Fz q34 9)) (_oB0 : w.heap.size ≤ B0) (_oB6 : B0 < B6) (_oB7 : B6 < B7) (_oB8 : B7 < B8) (_oB10 : B8 < B10) (M : Hid (Bx w53 B10 28 #[x_353, x_354, x_355, x_356, x_357, x_358, x_359, x_360] ∧ FQ G w53 x_353 x_354 x_355 x_356 q361 ∧ FQ G w53 x_357 x_358 x_359 x_360 q362 ∧ Bx w53 B8 28 #[x_295, x_296, x_297, x_298, x_299, x_300, x_301, x_302] ∧ FQ G w53 x_295 x_296 x_297 x_298 ((1 : Int) : Rat) ∧ FQ G w53 x_299 x_300 x_301 x_302 ((5 : Int) : Rat) ∧ Bx w53 B7 28 #[x_259, x_260, x_261, x_262, x_263, x_264, x_265, x_266] ∧ FQ G w53 x_259 x_260 x_261 x_262 q267 ∧ FQ G w53 x_263 x_264 x_265 x_266 q268 ∧ Bx w53 B6 28 #[x_223, x_224, x_225, x_226, x_227, x_228, x_229, x_230] ∧ FQ G w53 x_223 x_224 x_225 x_226 q231 ∧ FQ G w53 x_227 x_228 x_229 x_230 q232 ∧ Bx w53 B0 28 #[x_25, x_26, x_27, x_28, x_29, x_30, x_31, x_32] ∧ FQ G w53 x_25 x_26 x_27 x_28 q33 ∧ FQ G w53 x_29 x_30 x_31 x_32 q34 ∧ Below w.heap.size w w53)) :
  ∀ K : Act → World → Prop, (∀ a_ w_, Code.wp Tryz.prog (restAt Tryz.f4 16) (bodyPost Tryz.prog Tryz.f4 fun e w' => e = .returned (.bool true) ∧ Below w.heap.size w w') a_ w_ → K a_ w_) → Code.wp Tryz.prog (regAt Tryz.f4 16) (Exit.then K (bodyPost Tryz.prog Tryz.f4 fun e w' => e = .returned (.bool true) ∧ Below w.heap.size w w')) ⟨List.toArray (.bool false :: .pointer (some ⟨B0, 0, none⟩) :: x2_ :: x3_ :: x4_ :: x5_ :: x6_ :: x7_ :: x8_ :: x9_ :: x10_ :: x11_ :: x12_ :: .pointer (some ⟨B6, 0, none⟩) :: x14_ :: .pointer (some ⟨B7, 0, none⟩) :: x16_ :: .pointer (some ⟨B8, 0, none⟩) :: x18_ :: x19_ :: x20_ :: .pointer (some ⟨B10, 0, none⟩) :: x22_ :: x23_ :: x24_ :: .bool true :: x26_ :: x27_ :: x28_ :: x29_ :: x30_ :: x31_ :: x32_ :: x33_ :: x34_ :: x35_ :: x36_ :: x37_ :: x38_ :: x39_ :: x40_ :: x41_ :: x42_ :: x43_ :: x44_ :: x45_ :: x46_ :: x47_ :: x48_ :: x49_ :: x50_ :: x51_ :: x52_ :: x53_ :: x54_ :: x55_ :: x56_ :: x57_ :: x58_ :: x59_ :: x60_ :: x61_ :: x62_ :: x63_ :: x64_ :: x65_ :: x66_ :: x67_ :: x68_ :: x69_ :: x70_ :: x71_ :: x72_ :: x73_ :: x74_ :: x75_ :: x76_ :: x77_ :: x78_ :: x79_ :: x80_ :: x81_ :: x82_ :: x83_ :: x84_ :: x85_ :: x86_ :: x87_ :: x88_ :: x89_ :: x90_ :: x91_ :: x92_ :: x93_ :: x94_ :: x95_ :: x96_ :: x97_ :: x98_ :: x99_ :: x100_ :: x101_ :: x102_ :: x103_ :: x104_ :: x105_ :: x106_ :: x107_ :: x108_ :: x109_ :: x110_ :: x111_ :: x112_ :: x113_ :: x114_ :: x115_ :: x116_ :: x117_ :: x118_ :: x119_ :: x120_ :: x121_ :: x122_ :: x123_ :: x124_ :: x125_ :: x126_ :: x127_ :: x128_ :: x129_ :: x130_ :: x131_ :: x132_ :: x133_ :: x134_ :: x135_ :: x136_ :: x137_ :: x138_ :: x139_ :: x140_ :: x141_ :: x142_ :: x143_ :: x144_ :: x145_ :: x146_ :: x147_ :: x148_ :: x149_ :: x150_ :: x151_ :: x152_ :: x153_ :: x154_ :: x155_ :: x156_ :: x157_ :: undef :: undef :: undef :: undef :: undef :: undef :: undef :: undef :: undef :: undef :: undef :: undef :: undef :: undef :: undef :: undef :: undef :: undef :: undef :: undef :: undef :: undef :: undef :: undef :: undef :: undef :: undef :: undef :: undef :: undef :: undef :: []), []⟩ w53 := by
 intro Kst_ hst_
 conv => arg 2; whnf
 conv at hst_ => enter [a_, w_, 1, 2]; whnf
 refine cj8 (J9 M).1.d8 fun aa ab ac ad ae af ag ah => ?_
 go_wp2_with fail
 clear aa ab ac ad ae af ag ah
 refine (spIs_q (G := G) (p := q231) (q := q232) (x := 1) (y := 3) (Nat.le_trans hG (J15 M).size) (J10 M).1 (J11 M).1 (Fz.mono Sq231.out (by omega)) (Fz.mono Sq232.out (by omega)) (by decide +kernel) (by decide +kernel) (by rw [Eq231.out] <;> decide +kernel) (by rw [Eq232.out] <;> decide +kernel)).mono ?_
 rintro e w54 ⟨rfl, hb⟩
 replace M := gnM hb M
 clear hb
 refine cj8 (J6 M).1.d8 fun ai aj ak al am ao ap aq => ?_
 go_wp2_with fail
 clear ai aj ak al am ao ap aq
 replace M := Lib.hid (aI (M.out.1) (aI (J1 M).1 (aI (J2 M).1 (aI (J3 M).1 (aI (J4 M).1 (aI (J5 M).1 (aI (J7 M).1 (aI (J8 M).1 (aI (J12 M).1 (aI (J13 M).1 (aI (J14 M).1 (J15 M))))))))))))
 refine (spIs_q (G := G) (p := q267) (q := q268) (x := 2) (y := 5) (Nat.le_trans hG (J11 M).size) (J6 M).1 (J7 M).1 (Fz.mono Sq267.out (by omega)) (Fz.mono Sq268.out (by omega)) (by decide +kernel) (by decide +kernel) (by rw [Eq267.out] <;> decide +kernel) (by rw [Eq268.out] <;> decide +kernel)).mono ?_
 rintro e w55 ⟨rfl, hb⟩
 replace M := gnM hb M
 clear hb
 refine cj8 (J3 M).1.d8 fun ar au av aw ax ay az ba => ?_
 go_wp2_with fail
 clear ar au av aw ax ay az ba
 refine (spIs_q (G := G) (p := ((1 : Int) : Rat)) (q := ((5 : Int) : Rat)) (x := 1) (y := 5) (Nat.le_trans hG (J11 M).size) (J4 M).1 (J5 M).1 (Fz.mono (Fz.int64 (by decide)) (by omega)) (Fz.mono (Fz.int64 (by decide)) (by omega)) (by decide +kernel) (by decide +kernel) (by decide +kernel) (by decide +kernel)).mono ?_
 rintro e w56 ⟨rfl, hb⟩
 replace M := gnM hb M
 clear hb
 refine cj8 (M.out.1).d8 fun bb bc bd bf bg bh bi bj => ?_
 go_wp2_with fail
 clear bb bc bd bf bg bh bi bj
 replace M := Lib.hid (aI (J1 M).1 (aI (J2 M).1 (aI (J8 M).1 (aI (J9 M).1 (aI (J10 M).1 (J11 M))))))
 refine (spIs_q (G := G) (p := q361) (q := q362) (x := 4) (y := 4) (Nat.le_trans hG (J5 M).size) (M.out.1) (J1 M).1 (Fz.mono Sq361.out (by omega)) (Fz.mono Sq362.out (by omega)) (by decide +kernel) (by decide +kernel) (by rw [Eq361.out] <;> decide +kernel) (by rw [Eq362.out] <;> decide +kernel)).mono ?_
 rintro e w57 ⟨rfl, hb⟩
 replace M := gnM hb M
 clear hb
 go_wp2_with fail
 refine nmW (α := Rat) ((1 : Int) : Rat) fun q398 eq398 => ?_
 refine nmW (α := Rat) ((2 : Int) : Rat) fun q399 eq399 => ?_
 refine (spOf_q (G := G) (x := 1) (y := 2) (Nat.le_trans hG (J5 M).size) (by decide +kernel) (by decide +kernel)).mono ?_
 rintro e w58 ⟨x_390, x_391, x_392, x_393, x_394, x_395, x_396, x_397, rfl, hd400, hd401, hb⟩
 rw [← eq398] at hd400
 have Sq398 : Hid (Fz q398 4) := by show Fz q398 4; rw [eq398]; exact (Fz.int64 (by decide))
 have Eq398 := Lib.hid eq398; clear eq398
 rw [← eq399] at hd401
 have Sq399 : Hid (Fz q399 4) := by show Fz q399 4; rw [eq399]; exact (Fz.int64 (by decide))
 have Eq399 := Lib.hid eq399; clear eq399
 replace M := ad2M hd400 hd401 hb M
 clear hb hd400 hd401
 go_wp2_with fail
 refine nmW (α := Rat) (-q399) fun q410 eq410 => ?_
 refine nmW (α := Rat) (-q398) fun q411 eq411 => ?_
 refine (spNeg_q (G := G) (p := q398) (q := q399) (Nat.le_trans hG (J7 M).size) (M.out.1) (J1 M).1 (Fz.mono Sq398.out (by omega)) (Fz.mono Sq399.out (by omega)) (by rw [Eq399.out, Eq398.out] <;> decide +kernel)).mono ?_
 rintro e w59 ⟨x_402, x_403, x_404, x_405, x_406, x_407, x_408, x_409, rfl, hd412, hd413, hb⟩
 rw [← eq410] at hd412
 have Sq410 : Hid (Fz q410 4) := by show Fz q410 4; rw [eq410]; exact (Fz.neg Sq399.out)
 have Eq410 := Lib.hid eq410; clear eq410
 rw [← eq411] at hd413
 have Sq411 : Hid (Fz q411 4) := by show Fz q411 4; rw [eq411]; exact (Fz.neg Sq398.out)
 have Eq411 := Lib.hid eq411; clear eq411
 replace M := ad2M hd412 hd413 hb M
 clear hb hd412 hd413
 go_wp2_with fail
 replace M := Lib.hid (aI (M.out.1) (aI (J1 M).1 (aI (J6 M).1 (aI (J7 M).1 (aI (J8 M).1 (J9 M))))))
 refine (spIs_q (G := G) (p := q410) (q := q411) (x := (-2)) (y := (-1)) (Nat.le_trans hG (J5 M).size) (M.out.1) (J1 M).1 (Fz.mono Sq410.out (by omega)) (Fz.mono Sq411.out (by omega)) (by decide +kernel) (by decide +kernel) (by rw [Eq410.out, Eq399.out] <;> decide +kernel) (by rw [Eq411.out, Eq398.out] <;> decide +kernel)).mono ?_
 rintro e w60 ⟨rfl, hb⟩
 replace M := gnM hb M
 clear hb
 go_wp2_with fail
 refine nmW (α := Rat) ((3 : Int) : Rat) fun q418 eq418 => ?_
 refine (rqInt (G := G) (x := 3) (by decide +kernel)).mono ?_
 rintro e w61 ⟨x_414, x_415, x_416, x_417, rfl, hd419, hb⟩
 rw [← eq418] at hd419
 have Sq418 : Hid (Fz q418 4) := by show Fz q418 4; rw [eq418]; exact (Fz.int64 (by decide))
 have Eq418 := Lib.hid eq418; clear eq418
 replace M := adM hd419 hb M
 clear hb hd419
 go_wp2_with fail
 refine (spPoint_q (G := G) (q := q418) (Nat.le_trans hG (J6 M).size) (M.out.1) (Fz.mono Sq418.out (by omega))).mono ?_
 rintro e w62 ⟨x_420, x_421, x_422, x_423, x_424, x_425, x_426, x_427, rfl, hd428, hd429, hb⟩
 replace M := ad2M hd428 hd429 hb M
 clear hb hd428 hd429
 go_wp2_with fail
 refine (spIs_q (G := G) (p := q418) (q := q418) (x := 3) (y := 3) (Nat.le_trans hG (J8 M).size) (M.out.1) (J1 M).1 (Fz.mono Sq418.out (by omega)) (Fz.mono Sq418.out (by omega)) (by decide +kernel) (by decide +kernel) (by rw [Eq418.out] <;> decide +kernel) (by rw [Eq418.out] <;> decide +kernel)).mono ?_
 rintro e w63 ⟨rfl, hb⟩
 replace M := gnM hb M
 clear hb
 refine cj8 (J5 M).1.d8 fun bk bl bm bn bo bp bq br => ?_
 go_wp2_with fail
 clear bk bl bm bn bo bp bq br
 replace M := Lib.hid (aI (J6 M).1 (aI (J7 M).1 (J8 M)))
 refine (spRight_q (G := G) (p := q33) (q := q34) (b_ := true) (M.out.1) (J1 M).1 (Fz.mono Sq33.out (by omega)) (Fz.mono Sq34.out (by omega)) (by rw [Eq34.out, Eq33.out] <;> decide +kernel)).mono ?_
 rintro e w64 ⟨rfl, hb⟩
 replace M := gnM hb M
 clear hb
 go_wp2_with fail
 go_ret
 exact ⟨rfl, (J2 M)⟩
set_option maxRecDepth 100000 in
set_option maxHeartbeats 4000000 in
theorem spanSmall_ok_s15 {w : World}  {w46 : World} {x_365 x_366 x_367 x_368 x_353 x_354 x_355 x_356 x_357 x_358 x_359 x_360 x_295 x_296 x_297 x_298 x_299 x_300 x_301 x_302 x_259 x_260 x_261 x_262 x_263 x_264 x_265 x_266 x_223 x_224 x_225 x_226 x_227 x_228 x_229 x_230 x_165 x_166 x_167 x_168 x_169 x_170 x_171 x_172 x_131 x_132 x_133 x_134 x_135 x_136 x_137 x_138 x_97 x_98 x_99 x_100 x_101 x_102 x_103 x_104 x_61 x_62 x_63 x_64 x_65 x_66 x_67 x_68 x_25 x_26 x_27 x_28 x_29 x_30 x_31 x_32 : Value} {q369 q361 q362 q267 q268 q231 q232 q69 q70 q33 q34 : Rat} {B0 B1 B2 B3 B4 B6 B7 B8 B10 B11 : Nat} {x2_ x4_ x6_ x8_ x10_ x11_ x12_ x14_ x16_ x18_ x19_ x20_ x22_ x24_ x25_ x26_ x27_ x28_ x29_ x30_ x31_ x32_ x33_ x34_ x35_ x36_ x37_ x38_ x39_ x40_ x41_ x42_ x43_ x44_ x45_ x46_ x47_ x48_ x49_ x50_ x51_ x52_ x53_ x54_ x55_ x56_ x57_ x58_ x59_ x60_ x61_ x62_ x63_ x64_ x65_ x66_ x67_ x68_ x69_ x70_ x71_ x72_ x73_ x74_ x75_ x76_ x77_ x78_ x79_ x80_ x81_ x82_ x83_ x84_ x85_ x86_ x87_ x88_ x89_ x90_ x91_ x92_ x93_ x94_ x95_ x96_ x97_ x98_ x99_ x100_ x101_ x102_ x103_ x104_ x105_ x106_ x107_ x108_ x109_ x110_ x111_ x112_ x113_ x114_ x115_ x116_ x117_ x118_ x119_ x120_ x121_ x122_ x123_ x124_ x125_ x126_ x127_ x128_ x129_ x130_ x131_ x132_ x133_ x134_ x135_ x136_ : Value} (hG : G ≤ w.heap.size)  (Eq369 : Hid (q369 = ((Rat.divInt (-1) 4)))) (_Sq369 : Hid (Fz q369 10)) (Eq361 : Hid (q361 = ((maxQ (((1 : Int) : Rat)) (((4 : Int) : Rat)))))) (Sq361 : Hid (Fz q361 4)) (Eq362 : Hid (q362 = ((minQ (((4 : Int) : Rat)) (((5 : Int) : Rat)))))) (Sq362 : Hid (Fz q362 4)) (Eq267 : Hid (q267 = (((maxQ (((1 : Int) : Rat)) (((2 : Int) : Rat))))))) (Sq267 : Hid (Fz q267 4)) (Eq268 : Hid (q268 = (((maxQ (((5 : Int) : Rat)) (((3 : Int) : Rat))))))) (Sq268 : Hid (Fz q268 4)) (Eq231 : Hid (q231 = ((((minQ (((1 : Int) : Rat)) (((2 : Int) : Rat)))))))) (Sq231 : Hid (Fz q231 4)) (Eq232 : Hid (q232 = ((((minQ (((5 : Int) : Rat)) (((3 : Int) : Rat)))))))) (Sq232 : Hid (Fz q232 4)) (Eq69 : Hid (q69 = (((((((((1 : Int) : Rat)) - (((5 : Int) : Rat)))))))))) (Sq69 : Hid (Fz q69 9)) (Eq70 : Hid (q70 = (((((((((2 : Int) : Rat)) - (((3 : Int) : Rat)))))))))) (Sq70 : Hid (Fz q70 9)) (Eq33 : Hid (q33 = (((((((((1 : Int) : Rat)) + (((3 : Int) : Rat)))))))))) (Sq33 : Hid (Fz q33 9)) (Eq34 : Hid (q34 = (((((((((2 : Int) : Rat)) + (((5 : Int) : Rat)))))))))) (Sq34 : Hid (Fz q34 9)) (_oB0 : w.heap.size ≤ B0) (_oB1 : B0 < B1) (_oB2 : B1 < B2) (_oB3 : B2 < B3) (_oB4 : B3 < B4) (_oB6 : B4 < B6) (_oB7 : B6 < B7) (_oB8 : B7 < B8) (_oB10 : B8 < B10) (_oB11 : B10 < B11) (M : Hid (Bx w46 B11 26 #[x_365, x_366, x_367, x_368] ∧ FQ G w46 x_365 x_366 x_367 x_368 q369 ∧ Bx w46 B10 28 #[x_353, x_354, x_355, x_356, x_357, x_358, x_359, x_360] ∧ FQ G w46 x_353 x_354 x_355 x_356 q361 ∧ FQ G w46 x_357 x_358 x_359 x_360 q362 ∧ Bx w46 B8 28 #[x_295, x_296, x_297, x_298, x_299, x_300, x_301, x_302] ∧ FQ G w46 x_295 x_296 x_297 x_298 ((1 : Int) : Rat) ∧ FQ G w46 x_299 x_300 x_301 x_302 ((5 : Int) : Rat) ∧ Bx w46 B7 28 #[x_259, x_260, x_261, x_262, x_263, x_264, x_265, x_266] ∧ FQ G w46 x_259 x_260 x_261 x_262 q267 ∧ FQ G w46 x_263 x_264 x_265 x_266 q268 ∧ Bx w46 B6 28 #[x_223, x_224, x_225, x_226, x_227, x_228, x_229, x_230] ∧ FQ G w46 x_223 x_224 x_225 x_226 q231 ∧ FQ G w46 x_227 x_228 x_229 x_230 q232 ∧ Bx w46 B4 28 #[x_165, x_166, x_167, x_168, x_169, x_170, x_171, x_172] ∧ FQ G w46 x_165 x_166 x_167 x_168 (((-1) : Int) : Rat) ∧ FQ G w46 x_169 x_170 x_171 x_172 (Rat.divInt (-1) 4) ∧ Bx w46 B3 28 #[x_131, x_132, x_133, x_134, x_135, x_136, x_137, x_138] ∧ FQ G w46 x_131 x_132 x_133 x_134 (((-6) : Int) : Rat) ∧ FQ G w46 x_135 x_136 x_137 x_138 ((8 : Int) : Rat) ∧ Bx w46 B2 28 #[x_97, x_98, x_99, x_100, x_101, x_102, x_103, x_104] ∧ FQ G w46 x_97 x_98 x_99 x_100 (((-5) : Int) : Rat) ∧ FQ G w46 x_101 x_102 x_103 x_104 ((10 : Int) : Rat) ∧ Bx w46 B1 28 #[x_61, x_62, x_63, x_64, x_65, x_66, x_67, x_68] ∧ FQ G w46 x_61 x_62 x_63 x_64 q69 ∧ FQ G w46 x_65 x_66 x_67 x_68 q70 ∧ Bx w46 B0 28 #[x_25, x_26, x_27, x_28, x_29, x_30, x_31, x_32] ∧ FQ G w46 x_25 x_26 x_27 x_28 q33 ∧ FQ G w46 x_29 x_30 x_31 x_32 q34 ∧ Below w.heap.size w w46)) :
  ∀ K : Act → World → Prop, (∀ a_ w_, Code.wp Tryz.prog (restAt Tryz.f4 15) (bodyPost Tryz.prog Tryz.f4 fun e w' => e = .returned (.bool true) ∧ Below w.heap.size w w') a_ w_ → K a_ w_) → Code.wp Tryz.prog (regAt Tryz.f4 15) (Exit.then K (bodyPost Tryz.prog Tryz.f4 fun e w' => e = .returned (.bool true) ∧ Below w.heap.size w w')) ⟨List.toArray (.bool false :: .pointer (some ⟨B0, 0, none⟩) :: x2_ :: .pointer (some ⟨B1, 0, none⟩) :: x4_ :: .pointer (some ⟨B2, 0, none⟩) :: x6_ :: .pointer (some ⟨B3, 0, none⟩) :: x8_ :: .pointer (some ⟨B4, 0, none⟩) :: x10_ :: x11_ :: x12_ :: .pointer (some ⟨B6, 0, none⟩) :: x14_ :: .pointer (some ⟨B7, 0, none⟩) :: x16_ :: .pointer (some ⟨B8, 0, none⟩) :: x18_ :: x19_ :: x20_ :: .pointer (some ⟨B10, 0, none⟩) :: x22_ :: .pointer (some ⟨B11, 0, none⟩) :: x24_ :: x25_ :: x26_ :: x27_ :: x28_ :: x29_ :: x30_ :: x31_ :: x32_ :: x33_ :: x34_ :: x35_ :: x36_ :: x37_ :: x38_ :: x39_ :: x40_ :: x41_ :: x42_ :: x43_ :: x44_ :: x45_ :: x46_ :: x47_ :: x48_ :: x49_ :: x50_ :: x51_ :: x52_ :: x53_ :: x54_ :: x55_ :: x56_ :: x57_ :: x58_ :: x59_ :: x60_ :: x61_ :: x62_ :: x63_ :: x64_ :: x65_ :: x66_ :: x67_ :: x68_ :: x69_ :: x70_ :: x71_ :: x72_ :: x73_ :: x74_ :: x75_ :: x76_ :: x77_ :: x78_ :: x79_ :: x80_ :: x81_ :: x82_ :: x83_ :: x84_ :: x85_ :: x86_ :: x87_ :: x88_ :: x89_ :: x90_ :: x91_ :: x92_ :: x93_ :: x94_ :: x95_ :: x96_ :: x97_ :: x98_ :: x99_ :: x100_ :: x101_ :: x102_ :: x103_ :: x104_ :: x105_ :: x106_ :: x107_ :: x108_ :: x109_ :: x110_ :: x111_ :: x112_ :: x113_ :: x114_ :: x115_ :: x116_ :: x117_ :: x118_ :: x119_ :: x120_ :: x121_ :: x122_ :: x123_ :: x124_ :: x125_ :: x126_ :: x127_ :: x128_ :: x129_ :: x130_ :: x131_ :: x132_ :: x133_ :: x134_ :: x135_ :: x136_ :: undef :: undef :: undef :: undef :: undef :: undef :: undef :: undef :: undef :: undef :: undef :: undef :: undef :: undef :: undef :: undef :: undef :: undef :: undef :: undef :: undef :: undef :: undef :: undef :: undef :: undef :: undef :: undef :: undef :: undef :: undef :: undef :: undef :: undef :: undef :: undef :: undef :: undef :: undef :: undef :: undef :: undef :: undef :: undef :: undef :: undef :: undef :: undef :: undef :: undef :: undef :: undef :: []), []⟩ w46 := by
 intro Kst_ hst_
 conv => arg 2; whnf
 conv at hst_ => enter [a_, w_, 1, 2]; whnf
 go_wp2_with fail
 refine nmW w46.drew fun w47 hv => ?_
 replace M := drM hv M
 refine wp_region_held_drew (S := (fun w' => w'.cell? ⟨B0, 0, none⟩ = some (x_25) ∧ w'.cell? ⟨B0, 1, none⟩ = some (x_26) ∧ w'.cell? ⟨B0, 2, none⟩ = some (x_27) ∧ w'.cell? ⟨B0, 3, none⟩ = some (x_28) ∧ w'.cell? ⟨B0, 4, none⟩ = some (x_29) ∧ w'.cell? ⟨B0, 5, none⟩ = some (x_30) ∧ w'.cell? ⟨B0, 6, none⟩ = some (x_31) ∧ w'.cell? ⟨B0, 7, none⟩ = some (x_32) ∧ w'.cell? ⟨B1, 0, none⟩ = some (x_61) ∧ w'.cell? ⟨B1, 1, none⟩ = some (x_62) ∧ w'.cell? ⟨B1, 2, none⟩ = some (x_63) ∧ w'.cell? ⟨B1, 3, none⟩ = some (x_64) ∧ w'.cell? ⟨B1, 4, none⟩ = some (x_65) ∧ w'.cell? ⟨B1, 5, none⟩ = some (x_66) ∧ w'.cell? ⟨B1, 6, none⟩ = some (x_67) ∧ w'.cell? ⟨B1, 7, none⟩ = some (x_68) ∧ w'.cell? ⟨B2, 0, none⟩ = some (x_97) ∧ w'.cell? ⟨B2, 1, none⟩ = some (x_98) ∧ w'.cell? ⟨B2, 2, none⟩ = some (x_99) ∧ w'.cell? ⟨B2, 3, none⟩ = some (x_100) ∧ w'.cell? ⟨B2, 4, none⟩ = some (x_101) ∧ w'.cell? ⟨B2, 5, none⟩ = some (x_102) ∧ w'.cell? ⟨B2, 6, none⟩ = some (x_103) ∧ w'.cell? ⟨B2, 7, none⟩ = some (x_104) ∧ w'.cell? ⟨B3, 0, none⟩ = some (x_131) ∧ w'.cell? ⟨B3, 1, none⟩ = some (x_132) ∧ w'.cell? ⟨B3, 2, none⟩ = some (x_133) ∧ w'.cell? ⟨B3, 3, none⟩ = some (x_134) ∧ w'.cell? ⟨B3, 4, none⟩ = some (x_135) ∧ w'.cell? ⟨B3, 5, none⟩ = some (x_136) ∧ w'.cell? ⟨B3, 6, none⟩ = some (x_137) ∧ w'.cell? ⟨B3, 7, none⟩ = some (x_138) ∧ w'.cell? ⟨B4, 0, none⟩ = some (x_165) ∧ w'.cell? ⟨B4, 1, none⟩ = some (x_166) ∧ w'.cell? ⟨B4, 2, none⟩ = some (x_167) ∧ w'.cell? ⟨B4, 3, none⟩ = some (x_168) ∧ w'.cell? ⟨B4, 4, none⟩ = some (x_169) ∧ w'.cell? ⟨B4, 5, none⟩ = some (x_170) ∧ w'.cell? ⟨B4, 6, none⟩ = some (x_171) ∧ w'.cell? ⟨B4, 7, none⟩ = some (x_172) ∧ w'.cell? ⟨B11, 0, none⟩ = some (x_365) ∧ w'.cell? ⟨B11, 1, none⟩ = some (x_366) ∧ w'.cell? ⟨B11, 2, none⟩ = some (x_367) ∧ w'.cell? ⟨B11, 3, none⟩ = some (x_368))) (by kernel_rfl) (by rw [← hv]; exact ((J26 M).1.t8 ((J23 M).1.t8 ((J20 M).1.t8 ((J17 M).1.t8 ((J14 M).1.t8 ((M.out.1).d4))))))) (fun hH377 => ?_)
 rw [← hv] at hH377 ⊢
 clear hv
 refine tk at0 ?_
 refine wpAnyH_ready (rs := [1]) (by kernel_rfl) (by simp) ?_
 refine AllReadyH.cons at1 (fun K hK => ?_) AllReadyH.nil
 go_simp
 refine (spIs_q (G := G) (p := q33) (q := q34) (x := 4) (y := 7) (Nat.le_trans hG (J29 M).size) (J27 M).1 (J28 M).1 (Fz.mono Sq33.out (by omega)) (Fz.mono Sq34.out (by omega)) (by decide +kernel) (by decide +kernel) (by rw [Eq33.out] <;> decide +kernel) (by rw [Eq34.out] <;> decide +kernel)).mono ?_
 rintro e w48 ⟨rfl, hb⟩
 replace M := gnM hb M
 clear hb
 (try go_wp2_with fail)
 refine hK.out _ _ (((J26 M).1.t8 ((J23 M).1.t8 ((J20 M).1.t8 ((J17 M).1.t8 ((J14 M).1.t8 ((M.out.1).d4))))))) (fun hH378 => ?_)
 clear hK K hH377
 (try simp only [Act.put, List.setIfInBounds_toArray, List.set_cons_zero, List.set_cons_succ])
 refine tk at2 ?_
 refine tk at3 ?_
 refine wpAnyH_ready (rs := [4]) (by kernel_rfl) (by simp) ?_
 refine AllReadyH.cons at4 (fun K hK => ?_) AllReadyH.nil
 go_simp
 refine (spIs_q (G := G) (p := q69) (q := q70) (x := (-4)) (y := (-1)) (Nat.le_trans hG (J29 M).size) (J24 M).1 (J25 M).1 (Fz.mono Sq69.out (by omega)) (Fz.mono Sq70.out (by omega)) (by decide +kernel) (by decide +kernel) (by rw [Eq69.out] <;> decide +kernel) (by rw [Eq70.out] <;> decide +kernel)).mono ?_
 rintro e w49 ⟨rfl, hb⟩
 replace M := gnM hb M
 clear hb
 (try go_wp2_with fail)
 refine hK.out _ _ (((J26 M).1.t8 ((J23 M).1.t8 ((J20 M).1.t8 ((J17 M).1.t8 ((J14 M).1.t8 ((M.out.1).d4))))))) (fun hH379 => ?_)
 clear hK K hH378
 (try simp only [Act.put, List.setIfInBounds_toArray, List.set_cons_zero, List.set_cons_succ])
 refine tk at5 ?_
 refine tk at6 ?_
 refine tk at7 ?_
 refine wpAnyH_ready (rs := [8]) (by kernel_rfl) (by simp) ?_
 refine AllReadyH.cons at8 (fun K hK => ?_) AllReadyH.nil
 go_simp
 refine (spIs_q (G := G) (p := (((-5) : Int) : Rat)) (q := ((10 : Int) : Rat)) (x := (-5)) (y := 10) (Nat.le_trans hG (J29 M).size) (J21 M).1 (J22 M).1 (Fz.mono (Fz.int64 (by decide)) (by omega)) (Fz.mono (Fz.int64 (by decide)) (by omega)) (by decide +kernel) (by decide +kernel) (by decide +kernel) (by decide +kernel)).mono ?_
 rintro e w50 ⟨rfl, hb⟩
 replace M := gnM hb M
 clear hb
 (try go_wp2_with fail)
 refine hK.out _ _ (((J26 M).1.t8 ((J23 M).1.t8 ((J20 M).1.t8 ((J17 M).1.t8 ((J14 M).1.t8 ((M.out.1).d4))))))) (fun hH380 => ?_)
 clear hK K hH379
 (try simp only [Act.put, List.setIfInBounds_toArray, List.set_cons_zero, List.set_cons_succ])
 refine tk at9 ?_
 refine tk at10 ?_
 refine tk at11 ?_
 refine wpAnyH_ready (rs := [12]) (by kernel_rfl) (by simp) ?_
 refine AllReadyH.cons at12 (fun K hK => ?_) AllReadyH.nil
 go_simp
 refine (spIs_q (G := G) (p := (((-6) : Int) : Rat)) (q := ((8 : Int) : Rat)) (x := (-6)) (y := 8) (Nat.le_trans hG (J29 M).size) (J18 M).1 (J19 M).1 (Fz.mono (Fz.int64 (by decide)) (by omega)) (Fz.mono (Fz.int64 (by decide)) (by omega)) (by decide +kernel) (by decide +kernel) (by decide +kernel) (by decide +kernel)).mono ?_
 rintro e w51 ⟨rfl, hb⟩
 replace M := gnM hb M
 clear hb
 (try go_wp2_with fail)
 refine hK.out _ _ (((J26 M).1.t8 ((J23 M).1.t8 ((J20 M).1.t8 ((J17 M).1.t8 ((J14 M).1.t8 ((M.out.1).d4))))))) (fun hH381 => ?_)
 clear hK K hH380
 (try simp only [Act.put, List.setIfInBounds_toArray, List.set_cons_zero, List.set_cons_succ])
 refine tk at13 ?_
 refine tk at14 ?_
 refine tk at15 ?_
 refine tk at17 ?_
 refine wpAnyH_ready (rs := [16]) (by kernel_rfl) (by simp) ?_
 refine AllReadyH.cons at16 (fun K hK => ?_) AllReadyH.nil
 go_simp
 refine nmW (α := Rat) ((-1 : Int) : Rat) fun q386 eq386 => ?_
 refine (rqInt (G := G) (x := (-1)) (by decide +kernel)).mono ?_
 rintro e w52 ⟨x_382, x_383, x_384, x_385, rfl, hd387, hb⟩
 rw [← eq386] at hd387
 have Sq386 : Hid (Fz q386 4) := by show Fz q386 4; rw [eq386]; exact (Fz.int64 (by decide))
 have Eq386 := Lib.hid eq386; clear eq386
 replace M := adM hd387 hb M
 clear hb hd387
 (try go_wp2_with fail)
 refine hK.out _ _ (((J27 M).1.t8 ((J24 M).1.t8 ((J21 M).1.t8 ((J18 M).1.t8 ((J15 M).1.t8 ((J1 M).1.d4))))))) (fun hH388 => ?_)
 clear hK K hH381
 (try simp only [Act.put, List.setIfInBounds_toArray, List.set_cons_zero, List.set_cons_succ])
 refine tk at18 ?_
 refine wpAnyH_ready (rs := [19]) (by kernel_rfl) (by simp) ?_
 refine AllReadyH.cons at19 (fun K hK => ?_) AllReadyH.nil
 go_simp
 refine (spSame_q (G := G) (p := (((-1) : Int) : Rat)) (q := (Rat.divInt (-1) 4)) (r := q386) (s := q369) (J16 M).1 (J17 M).1 (M.out.1) (J2 M).1 (Fz.mono (Fz.int64 (by decide)) (by omega)) (Fz.mono (fz_lit rfl (by unfold Sz; decide) (by unfold Sz; decide) (by decide)) (by omega)) (by rw [Eq386.out] <;> decide +kernel) (by rw [Eq369.out] <;> decide +kernel)).mono ?_
 rintro e w53 ⟨rfl, hb⟩
 replace M := gnM hb M
 clear hb
 (try go_wp2_with fail)
 refine hK.out _ _ (((J27 M).1.t8 ((J24 M).1.t8 ((J21 M).1.t8 ((J18 M).1.t8 ((J15 M).1.t8 ((J1 M).1.d4))))))) (fun hH389 => ?_)
 clear hK K hH388
 (try simp only [Act.put, List.setIfInBounds_toArray, List.set_cons_zero, List.set_cons_succ])
 refine tk at20 ?_
 refine tk at21 ?_
 refine wpAnyH_done (by kernel_rfl) ?_ _
 clear hH389
 go_upto_region 16 with fail
 replace M := Lib.hid (aI (J3 M).1 (aI (J4 M).1 (aI (J5 M).1 (aI (J6 M).1 (aI (J7 M).1 (aI (J8 M).1 (aI (J9 M).1 (aI (J10 M).1 (aI (J11 M).1 (aI (J12 M).1 (aI (J13 M).1 (aI (J14 M).1 (aI (J27 M).1 (aI (J28 M).1 (aI (J29 M).1 (J30 M))))))))))))))))
 rename_i Kst_ hst_
 exact spanSmall_ok_s16 hG Eq361 Sq361 Eq362 Sq362 Eq267 Sq267 Eq268 Sq268 Eq231 Sq231 Eq232 Sq232 Eq33 Sq33 Eq34 Sq34 (by omega) (by omega) (by omega) (by omega) (by omega) M Kst_ hst_
set_option maxRecDepth 100000 in
set_option maxHeartbeats 4000000 in
theorem spanSmall_ok_s10 {w : World}  {w36 : World} {x_295 x_296 x_297 x_298 x_299 x_300 x_301 x_302 x_259 x_260 x_261 x_262 x_263 x_264 x_265 x_266 x_223 x_224 x_225 x_226 x_227 x_228 x_229 x_230 x_165 x_166 x_167 x_168 x_169 x_170 x_171 x_172 x_131 x_132 x_133 x_134 x_135 x_136 x_137 x_138 x_97 x_98 x_99 x_100 x_101 x_102 x_103 x_104 x_61 x_62 x_63 x_64 x_65 x_66 x_67 x_68 x_25 x_26 x_27 x_28 x_29 x_30 x_31 x_32 : Value} {q267 q268 q231 q232 q69 q70 q33 q34 : Rat} {B0 B1 B2 B3 B4 B6 B7 B8 : Nat} {x11_ x19_ x20_ x21_ x22_ x23_ x24_ x25_ x26_ x27_ x28_ x29_ x30_ x31_ x32_ x33_ x34_ x35_ x36_ x37_ x38_ x39_ x40_ x41_ x42_ x43_ x44_ x45_ x46_ x47_ x48_ x49_ x50_ x51_ x52_ x53_ x54_ x55_ x56_ x57_ x58_ x59_ x60_ x61_ x62_ x63_ x64_ x65_ x66_ x67_ x68_ x69_ x70_ x71_ x72_ x73_ x74_ x75_ x76_ x77_ x78_ x79_ : Value} (hG : G ≤ w.heap.size)  (Eq267 : Hid (q267 = ((maxQ (((1 : Int) : Rat)) (((2 : Int) : Rat)))))) (Sq267 : Hid (Fz q267 4)) (Eq268 : Hid (q268 = ((maxQ (((5 : Int) : Rat)) (((3 : Int) : Rat)))))) (Sq268 : Hid (Fz q268 4)) (Eq231 : Hid (q231 = (((minQ (((1 : Int) : Rat)) (((2 : Int) : Rat))))))) (Sq231 : Hid (Fz q231 4)) (Eq232 : Hid (q232 = (((minQ (((5 : Int) : Rat)) (((3 : Int) : Rat))))))) (Sq232 : Hid (Fz q232 4)) (Eq69 : Hid (q69 = ((((((((1 : Int) : Rat)) - (((5 : Int) : Rat))))))))) (Sq69 : Hid (Fz q69 9)) (Eq70 : Hid (q70 = ((((((((2 : Int) : Rat)) - (((3 : Int) : Rat))))))))) (Sq70 : Hid (Fz q70 9)) (Eq33 : Hid (q33 = ((((((((1 : Int) : Rat)) + (((3 : Int) : Rat))))))))) (Sq33 : Hid (Fz q33 9)) (Eq34 : Hid (q34 = ((((((((2 : Int) : Rat)) + (((5 : Int) : Rat))))))))) (Sq34 : Hid (Fz q34 9)) (_oB0 : w.heap.size ≤ B0) (_oB1 : B0 < B1) (_oB2 : B1 < B2) (_oB3 : B2 < B3) (_oB4 : B3 < B4) (_oB6 : B4 < B6) (_oB7 : B6 < B7) (_oB8 : B7 < B8) (M : Hid (Bx w36 B8 28 #[x_295, x_296, x_297, x_298, x_299, x_300, x_301, x_302] ∧ FQ G w36 x_295 x_296 x_297 x_298 ((1 : Int) : Rat) ∧ FQ G w36 x_299 x_300 x_301 x_302 ((5 : Int) : Rat) ∧ Bx w36 B7 28 #[x_259, x_260, x_261, x_262, x_263, x_264, x_265, x_266] ∧ FQ G w36 x_259 x_260 x_261 x_262 q267 ∧ FQ G w36 x_263 x_264 x_265 x_266 q268 ∧ Bx w36 B6 28 #[x_223, x_224, x_225, x_226, x_227, x_228, x_229, x_230] ∧ FQ G w36 x_223 x_224 x_225 x_226 q231 ∧ FQ G w36 x_227 x_228 x_229 x_230 q232 ∧ Bx w36 B4 28 #[x_165, x_166, x_167, x_168, x_169, x_170, x_171, x_172] ∧ FQ G w36 x_165 x_166 x_167 x_168 (((-1) : Int) : Rat) ∧ FQ G w36 x_169 x_170 x_171 x_172 (Rat.divInt (-1) 4) ∧ Bx w36 B3 28 #[x_131, x_132, x_133, x_134, x_135, x_136, x_137, x_138] ∧ FQ G w36 x_131 x_132 x_133 x_134 (((-6) : Int) : Rat) ∧ FQ G w36 x_135 x_136 x_137 x_138 ((8 : Int) : Rat) ∧ Bx w36 B2 28 #[x_97, x_98, x_99, x_100, x_101, x_102, x_103, x_104] ∧ FQ G w36 x_97 x_98 x_99 x_100 (((-5) : Int) : Rat) ∧ FQ G w36 x_101 x_102 x_103 x_104 ((10 : Int) : Rat) ∧ Bx w36 B1 28 #[x_61, x_62, x_63, x_64, x_65, x_66, x_67, x_68] ∧ FQ G w36 x_61 x_62 x_63 x_64 q69 ∧ FQ G w36 x_65 x_66 x_67 x_68 q70 ∧ Bx w36 B0 28 #[x_25, x_26, x_27, x_28, x_29, x_30, x_31, x_32] ∧ FQ G w36 x_25 x_26 x_27 x_28 q33 ∧ FQ G w36 x_29 x_30 x_31 x_32 q34 ∧ Below w.heap.size w w36)) :
  ∀ K : Act → World → Prop, (∀ a_ w_, Code.wp Tryz.prog (restAt Tryz.f4 10) (bodyPost Tryz.prog Tryz.f4 fun e w' => e = .returned (.bool true) ∧ Below w.heap.size w w') a_ w_ → K a_ w_) → Code.wp Tryz.prog (regAt Tryz.f4 10) (Exit.then K (bodyPost Tryz.prog Tryz.f4 fun e w' => e = .returned (.bool true) ∧ Below w.heap.size w w')) ⟨List.toArray (.bool false :: .pointer (some ⟨B0, 0, none⟩) :: .int .i64 0 :: .pointer (some ⟨B1, 0, none⟩) :: .int .i64 0 :: .pointer (some ⟨B2, 0, none⟩) :: .int .i64 0 :: .pointer (some ⟨B3, 0, none⟩) :: .int .i64 0 :: .pointer (some ⟨B4, 0, none⟩) :: .int .i64 0 :: x11_ :: .int .i64 15 :: .pointer (some ⟨B6, 0, none⟩) :: .int .i64 0 :: .pointer (some ⟨B7, 0, none⟩) :: .int .i64 0 :: .pointer (some ⟨B8, 0, none⟩) :: .int .i64 0 :: x19_ :: x20_ :: x21_ :: x22_ :: x23_ :: x24_ :: x25_ :: x26_ :: x27_ :: x28_ :: x29_ :: x30_ :: x31_ :: x32_ :: x33_ :: x34_ :: x35_ :: x36_ :: x37_ :: x38_ :: x39_ :: x40_ :: x41_ :: x42_ :: x43_ :: x44_ :: x45_ :: x46_ :: x47_ :: x48_ :: x49_ :: x50_ :: x51_ :: x52_ :: x53_ :: x54_ :: x55_ :: x56_ :: x57_ :: x58_ :: x59_ :: x60_ :: x61_ :: x62_ :: x63_ :: x64_ :: x65_ :: x66_ :: x67_ :: x68_ :: x69_ :: x70_ :: x71_ :: x72_ :: x73_ :: x74_ :: x75_ :: x76_ :: x77_ :: x78_ :: x79_ :: undef :: undef :: undef :: undef :: undef :: undef :: undef :: undef :: undef :: undef :: undef :: undef :: undef :: undef :: undef :: undef :: undef :: undef :: undef :: undef :: undef :: undef :: undef :: undef :: undef :: undef :: undef :: undef :: undef :: undef :: undef :: undef :: undef :: undef :: undef :: undef :: undef :: undef :: undef :: undef :: undef :: undef :: undef :: undef :: undef :: undef :: undef :: undef :: undef :: undef :: undef :: undef :: undef :: undef :: undef :: undef :: undef :: undef :: undef :: undef :: undef :: undef :: undef :: undef :: undef :: undef :: undef :: undef :: undef :: undef :: undef :: undef :: undef :: undef :: undef :: undef :: undef :: undef :: undef :: undef :: undef :: undef :: undef :: undef :: undef :: undef :: undef :: undef :: undef :: undef :: undef :: undef :: undef :: undef :: undef :: undef :: undef :: undef :: undef :: undef :: undef :: undef :: undef :: undef :: undef :: undef :: undef :: undef :: undef :: []), []⟩ w36 := by
 intro Kst_ hst_
 conv => arg 2; whnf
 conv at hst_ => enter [a_, w_, 1, 2]; whnf
 go_wp2_with fail
 refine nmW (α := Rat) ((1 : Int) : Rat) fun q313 eq313 => ?_
 refine nmW (α := Rat) ((2 : Int) : Rat) fun q314 eq314 => ?_
 refine (spOf_q (G := G) (x := 1) (y := 2) (Nat.le_trans hG (J24 M).size) (by decide +kernel) (by decide +kernel)).mono ?_
 rintro e w37 ⟨x_305, x_306, x_307, x_308, x_309, x_310, x_311, x_312, rfl, hd315, hd316, hb⟩
 rw [← eq313] at hd315
 have Sq313 : Hid (Fz q313 4) := by show Fz q313 4; rw [eq313]; exact (Fz.int64 (by decide))
 have Eq313 := Lib.hid eq313; clear eq313
 rw [← eq314] at hd316
 have Sq314 : Hid (Fz q314 4) := by show Fz q314 4; rw [eq314]; exact (Fz.int64 (by decide))
 have Eq314 := Lib.hid eq314; clear eq314
 replace M := ad2M hd315 hd316 hb M
 clear hb hd315 hd316
 go_wp2_with fail
 refine nmW (α := Rat) ((4 : Int) : Rat) fun q325 eq325 => ?_
 refine nmW (α := Rat) ((5 : Int) : Rat) fun q326 eq326 => ?_
 refine (spOf_q (G := G) (x := 4) (y := 5) (Nat.le_trans hG (J26 M).size) (by decide +kernel) (by decide +kernel)).mono ?_
 rintro e w38 ⟨x_317, x_318, x_319, x_320, x_321, x_322, x_323, x_324, rfl, hd327, hd328, hb⟩
 rw [← eq325] at hd327
 have Sq325 : Hid (Fz q325 4) := by show Fz q325 4; rw [eq325]; exact (Fz.int64 (by decide))
 have Eq325 := Lib.hid eq325; clear eq325
 rw [← eq326] at hd328
 have Sq326 : Hid (Fz q326 4) := by show Fz q326 4; rw [eq326]; exact (Fz.int64 (by decide))
 have Eq326 := Lib.hid eq326; clear eq326
 replace M := ad2M hd327 hd328 hb M
 clear hb hd327 hd328
 go_wp2_with fail
 refine (spMeet_none (G := G) (p := q313) (q := q314) (r := q325) (s := q326) (Nat.le_trans hG (J28 M).size) (J2 M).1 (J3 M).1 (M.out.1) (J1 M).1 (Fz.mono Sq313.out (by omega)) (Fz.mono Sq314.out (by omega)) (Fz.mono Sq325.out (by omega)) (Fz.mono Sq326.out (by omega)) (by rw [Eq314.out, Eq313.out] <;> decide +kernel) (by rw [Eq326.out, Eq325.out] <;> decide +kernel) (by rw [Eq326.out, Eq325.out, Eq314.out, Eq313.out] <;> decide +kernel)).mono ?_
 rintro e w39 ⟨rfl, hb⟩
 replace M := gnM hb M
 clear hb
 go_upto_region 11 with fail
 refine nmW (w39.alloc (.cells #[.int .i64 0, .slice none 0 0, .int .i64 0, .slice none 0 0, .int .i64 0, .slice none 0 0, .int .i64 0, .slice none 0 0] 28)) fun w40 hv => ?_
 rw [← hv]
 have ow9_ : B8 < w39.heap.size := ((J4 M).1).lt
 replace M := alM hv M
 clear hv
 go_wp2_with fail
 replace M := Lib.hid (aI (J5 M).1 (aI (J6 M).1 (aI (J7 M).1 (aI (J8 M).1 (aI (J9 M).1 (aI (J10 M).1 (aI (J11 M).1 (aI (J12 M).1 (aI (J13 M).1 (aI (J14 M).1 (aI (J15 M).1 (aI (J16 M).1 (aI (J17 M).1 (aI (J18 M).1 (aI (J19 M).1 (aI (J20 M).1 (aI (J21 M).1 (aI (J22 M).1 (aI (J23 M).1 (aI (J24 M).1 (aI (J25 M).1 (aI (J26 M).1 (aI (J27 M).1 (aI (J28 M).1 (J29 M)))))))))))))))))))))))))
 refine nmW (α := Rat) ((1 : Int) : Rat) fun q337 eq337 => ?_
 refine nmW (α := Rat) ((4 : Int) : Rat) fun q338 eq338 => ?_
 refine (spOf_q (G := G) (x := 1) (y := 4) (Nat.le_trans hG (J24 M).size) (by decide +kernel) (by decide +kernel)).mono ?_
 rintro e w41 ⟨x_329, x_330, x_331, x_332, x_333, x_334, x_335, x_336, rfl, hd339, hd340, hb⟩
 rw [← eq337] at hd339
 have Sq337 : Hid (Fz q337 4) := by show Fz q337 4; rw [eq337]; exact (Fz.int64 (by decide))
 have Eq337 := Lib.hid eq337; clear eq337
 rw [← eq338] at hd340
 have Sq338 : Hid (Fz q338 4) := by show Fz q338 4; rw [eq338]; exact (Fz.int64 (by decide))
 have Eq338 := Lib.hid eq338; clear eq338
 replace M := ad2M hd339 hd340 hb M
 clear hb hd339 hd340
 go_wp2_with fail
 refine nmW (α := Rat) ((4 : Int) : Rat) fun q349 eq349 => ?_
 refine nmW (α := Rat) ((5 : Int) : Rat) fun q350 eq350 => ?_
 refine (spOf_q (G := G) (x := 4) (y := 5) (Nat.le_trans hG (J26 M).size) (by decide +kernel) (by decide +kernel)).mono ?_
 rintro e w42 ⟨x_341, x_342, x_343, x_344, x_345, x_346, x_347, x_348, rfl, hd351, hd352, hb⟩
 rw [← eq349] at hd351
 have Sq349 : Hid (Fz q349 4) := by show Fz q349 4; rw [eq349]; exact (Fz.int64 (by decide))
 have Eq349 := Lib.hid eq349; clear eq349
 rw [← eq350] at hd352
 have Sq350 : Hid (Fz q350 4) := by show Fz q350 4; rw [eq350]; exact (Fz.int64 (by decide))
 have Eq350 := Lib.hid eq350; clear eq350
 replace M := ad2M hd351 hd352 hb M
 clear hb hd351 hd352
 go_wp2_with fail
 refine nmW (α := Rat) (maxQ q337 q349) fun q361 eq361 => ?_
 refine nmW (α := Rat) (minQ q338 q350) fun q362 eq362 => ?_
 refine (spMeet_q (G := G) (p := q337) (q := q338) (r := q349) (s := q350) (Nat.le_trans hG (J28 M).size) (J2 M).1 (J3 M).1 (M.out.1) (J1 M).1 (Fz.mono Sq337.out (by omega)) (Fz.mono Sq338.out (by omega)) (Fz.mono Sq349.out (by omega)) (Fz.mono Sq350.out (by omega)) (by rw [Eq338.out, Eq337.out] <;> decide +kernel) (by rw [Eq350.out, Eq349.out] <;> decide +kernel) (by rw [Eq350.out, Eq349.out, Eq338.out, Eq337.out] <;> decide +kernel)).mono ?_
 rintro e w43 ⟨x_353, x_354, x_355, x_356, x_357, x_358, x_359, x_360, rfl, hd363, hd364, hb⟩
 rw [← eq361] at hd363
 have Sq361 : Hid (Fz q361 4) := by show Fz q361 4; rw [eq361]; exact (Fz.maxQ Sq337.out Sq349.out)
 have Eq361 := Lib.hid eq361; clear eq361
 rw [← eq362] at hd364
 have Sq362 : Hid (Fz q362 4) := by show Fz q362 4; rw [eq362]; exact (Fz.minQ Sq338.out Sq350.out)
 have Eq362 := Lib.hid eq362; clear eq362
 replace M := ad2M hd363 hd364 hb M
 clear hb hd363 hd364
 refine cj4 (TQ.st (M.out.1)) fun aa ab ac ad => ?_
 refine cj4 (TQ.st (J1 M).1) fun ae af ag ah => ?_
 go_upto_region 12 with fail
 clear aa ab ac ad ae af ag ah
 refine nmW (w43.alloc (.cells #[x_353, x_354, x_355, x_356, x_357, x_358, x_359, x_360] 28)) fun w44 hv => ?_
 rw [← hv]
 have ow10_ : B8 < w43.heap.size := ((J6 M).1).lt
 replace M := alM hv M
 clear hv
 go_wp2_with fail
 replace M := Lib.hid (aI (M.out.1) (aI (J1 M).1 (aI (J2 M).1 (aI (J7 M).1 (aI (J8 M).1 (aI (J9 M).1 (aI (J10 M).1 (aI (J11 M).1 (aI (J12 M).1 (aI (J13 M).1 (aI (J14 M).1 (aI (J15 M).1 (aI (J16 M).1 (aI (J17 M).1 (aI (J18 M).1 (aI (J19 M).1 (aI (J20 M).1 (aI (J21 M).1 (aI (J22 M).1 (aI (J23 M).1 (aI (J24 M).1 (aI (J25 M).1 (aI (J26 M).1 (aI (J27 M).1 (aI (J28 M).1 (aI (J29 M).1 (aI (J30 M).1 (J31 M))))))))))))))))))))))))))))
 refine nmW (α := Rat) (Rat.divInt (-1) 4) fun q369 eq369 => ?_
 refine (rqOf (G := G) (x := (-1)) (y := 4) (by decide +kernel) (by decide +kernel) (by decide +kernel)).mono ?_
 rintro e w45 ⟨x_365, x_366, x_367, x_368, rfl, hd370, hb⟩
 rw [← eq369] at hd370
 have Sq369 : Hid (Fz q369 10) := by show Fz q369 10; rw [eq369]; exact (fz_lit rfl (by unfold Sz; decide) (by unfold Sz; decide) (by decide))
 have Eq369 := Lib.hid eq369; clear eq369
 replace M := adM hd370 hb M
 clear hb hd370
 refine cj4 (TQ.st (M.out.1)) fun ai aj ak al => ?_
 go_upto_region 15 with fail
 clear ai aj ak al
 refine nmW (w45.alloc (.cells #[x_365, x_366, x_367, x_368] 26)) fun w46 hv => ?_
 rw [← hv]
 have ow11_ : w43.heap.size < w45.heap.size := ((J1 M).1).lt
 replace M := alM hv M
 clear hv
 rename_i Kst_ hst_
 exact spanSmall_ok_s15 hG Eq369 Sq369 (Lib.hid (by rw [Eq361.out, Eq349.out, Eq337.out])) Sq361 (Lib.hid (by rw [Eq362.out, Eq350.out, Eq338.out])) Sq362 Eq267 Sq267 Eq268 Sq268 Eq231 Sq231 Eq232 Sq232 Eq69 Sq69 Eq70 Sq70 Eq33 Sq33 Eq34 Sq34 (by omega) (by omega) (by omega) (by omega) (by omega) (by omega) (by omega) (by omega) (by omega) (by omega) M Kst_ hst_
set_option maxRecDepth 100000 in
set_option maxHeartbeats 4000000 in
theorem spanSmall_ok_s8 {w : World}  {w28 : World} {x_223 x_224 x_225 x_226 x_227 x_228 x_229 x_230 x_165 x_166 x_167 x_168 x_169 x_170 x_171 x_172 x_131 x_132 x_133 x_134 x_135 x_136 x_137 x_138 x_97 x_98 x_99 x_100 x_101 x_102 x_103 x_104 x_61 x_62 x_63 x_64 x_65 x_66 x_67 x_68 x_25 x_26 x_27 x_28 x_29 x_30 x_31 x_32 : Value} {q231 q232 q69 q70 q33 q34 : Rat} {B0 B1 B2 B3 B4 B6 : Nat} {x11_ x15_ x16_ x17_ x18_ x19_ x20_ x21_ x22_ x23_ x24_ x25_ x26_ x27_ x28_ x29_ x30_ x31_ x32_ x33_ x34_ x35_ x36_ x37_ x38_ x39_ x40_ x41_ x42_ x43_ x44_ x45_ x46_ x47_ x48_ x49_ x50_ x51_ x52_ x53_ x54_ x55_ x56_ x57_ x58_ x59_ x60_ x61_ x62_ x63_ x64_ x65_ x66_ x67_ : Value} (hG : G ≤ w.heap.size)  (Eq231 : Hid (q231 = ((minQ (((1 : Int) : Rat)) (((2 : Int) : Rat)))))) (Sq231 : Hid (Fz q231 4)) (Eq232 : Hid (q232 = ((minQ (((5 : Int) : Rat)) (((3 : Int) : Rat)))))) (Sq232 : Hid (Fz q232 4)) (Eq69 : Hid (q69 = (((((((1 : Int) : Rat)) - (((5 : Int) : Rat)))))))) (Sq69 : Hid (Fz q69 9)) (Eq70 : Hid (q70 = (((((((2 : Int) : Rat)) - (((3 : Int) : Rat)))))))) (Sq70 : Hid (Fz q70 9)) (Eq33 : Hid (q33 = (((((((1 : Int) : Rat)) + (((3 : Int) : Rat)))))))) (Sq33 : Hid (Fz q33 9)) (Eq34 : Hid (q34 = (((((((2 : Int) : Rat)) + (((5 : Int) : Rat)))))))) (Sq34 : Hid (Fz q34 9)) (_oB0 : w.heap.size ≤ B0) (_oB1 : B0 < B1) (_oB2 : B1 < B2) (_oB3 : B2 < B3) (_oB4 : B3 < B4) (_oB6 : B4 < B6) (M : Hid (Bx w28 B6 28 #[x_223, x_224, x_225, x_226, x_227, x_228, x_229, x_230] ∧ FQ G w28 x_223 x_224 x_225 x_226 q231 ∧ FQ G w28 x_227 x_228 x_229 x_230 q232 ∧ Bx w28 B4 28 #[x_165, x_166, x_167, x_168, x_169, x_170, x_171, x_172] ∧ FQ G w28 x_165 x_166 x_167 x_168 (((-1) : Int) : Rat) ∧ FQ G w28 x_169 x_170 x_171 x_172 (Rat.divInt (-1) 4) ∧ Bx w28 B3 28 #[x_131, x_132, x_133, x_134, x_135, x_136, x_137, x_138] ∧ FQ G w28 x_131 x_132 x_133 x_134 (((-6) : Int) : Rat) ∧ FQ G w28 x_135 x_136 x_137 x_138 ((8 : Int) : Rat) ∧ Bx w28 B2 28 #[x_97, x_98, x_99, x_100, x_101, x_102, x_103, x_104] ∧ FQ G w28 x_97 x_98 x_99 x_100 (((-5) : Int) : Rat) ∧ FQ G w28 x_101 x_102 x_103 x_104 ((10 : Int) : Rat) ∧ Bx w28 B1 28 #[x_61, x_62, x_63, x_64, x_65, x_66, x_67, x_68] ∧ FQ G w28 x_61 x_62 x_63 x_64 q69 ∧ FQ G w28 x_65 x_66 x_67 x_68 q70 ∧ Bx w28 B0 28 #[x_25, x_26, x_27, x_28, x_29, x_30, x_31, x_32] ∧ FQ G w28 x_25 x_26 x_27 x_28 q33 ∧ FQ G w28 x_29 x_30 x_31 x_32 q34 ∧ Below w.heap.size w w28)) :
  ∀ K : Act → World → Prop, (∀ a_ w_, Code.wp Tryz.prog (restAt Tryz.f4 8) (bodyPost Tryz.prog Tryz.f4 fun e w' => e = .returned (.bool true) ∧ Below w.heap.size w w') a_ w_ → K a_ w_) → Code.wp Tryz.prog (regAt Tryz.f4 8) (Exit.then K (bodyPost Tryz.prog Tryz.f4 fun e w' => e = .returned (.bool true) ∧ Below w.heap.size w w')) ⟨List.toArray (.bool false :: .pointer (some ⟨B0, 0, none⟩) :: .int .i64 0 :: .pointer (some ⟨B1, 0, none⟩) :: .int .i64 0 :: .pointer (some ⟨B2, 0, none⟩) :: .int .i64 0 :: .pointer (some ⟨B3, 0, none⟩) :: .int .i64 0 :: .pointer (some ⟨B4, 0, none⟩) :: .int .i64 0 :: x11_ :: .int .i64 15 :: .pointer (some ⟨B6, 0, none⟩) :: .int .i64 0 :: x15_ :: x16_ :: x17_ :: x18_ :: x19_ :: x20_ :: x21_ :: x22_ :: x23_ :: x24_ :: x25_ :: x26_ :: x27_ :: x28_ :: x29_ :: x30_ :: x31_ :: x32_ :: x33_ :: x34_ :: x35_ :: x36_ :: x37_ :: x38_ :: x39_ :: x40_ :: x41_ :: x42_ :: x43_ :: x44_ :: x45_ :: x46_ :: x47_ :: x48_ :: x49_ :: x50_ :: x51_ :: x52_ :: x53_ :: x54_ :: x55_ :: x56_ :: x57_ :: x58_ :: x59_ :: x60_ :: x61_ :: x62_ :: x63_ :: x64_ :: x65_ :: x66_ :: x67_ :: undef :: undef :: undef :: undef :: undef :: undef :: undef :: undef :: undef :: undef :: undef :: undef :: undef :: undef :: undef :: undef :: undef :: undef :: undef :: undef :: undef :: undef :: undef :: undef :: undef :: undef :: undef :: undef :: undef :: undef :: undef :: undef :: undef :: undef :: undef :: undef :: undef :: undef :: undef :: undef :: undef :: undef :: undef :: undef :: undef :: undef :: undef :: undef :: undef :: undef :: undef :: undef :: undef :: undef :: undef :: undef :: undef :: undef :: undef :: undef :: undef :: undef :: undef :: undef :: undef :: undef :: undef :: undef :: undef :: undef :: undef :: undef :: undef :: undef :: undef :: undef :: undef :: undef :: undef :: undef :: undef :: undef :: undef :: undef :: undef :: undef :: undef :: undef :: undef :: undef :: undef :: undef :: undef :: undef :: undef :: undef :: undef :: undef :: undef :: undef :: undef :: undef :: undef :: undef :: undef :: undef :: undef :: undef :: undef :: undef :: undef :: undef :: undef :: undef :: undef :: undef :: undef :: undef :: undef :: undef :: undef :: []), []⟩ w28 := by
 intro Kst_ hst_
 conv => arg 2; whnf
 conv at hst_ => enter [a_, w_, 1, 2]; whnf
 go_wp2_with fail
 refine nmW (α := Rat) ((1 : Int) : Rat) fun q243 eq243 => ?_
 refine nmW (α := Rat) ((5 : Int) : Rat) fun q244 eq244 => ?_
 refine (spOf_q (G := G) (x := 1) (y := 5) (Nat.le_trans hG (J18 M).size) (by decide +kernel) (by decide +kernel)).mono ?_
 rintro e w29 ⟨x_235, x_236, x_237, x_238, x_239, x_240, x_241, x_242, rfl, hd245, hd246, hb⟩
 rw [← eq243] at hd245
 have Sq243 : Hid (Fz q243 4) := by show Fz q243 4; rw [eq243]; exact (Fz.int64 (by decide))
 have Eq243 := Lib.hid eq243; clear eq243
 rw [← eq244] at hd246
 have Sq244 : Hid (Fz q244 4) := by show Fz q244 4; rw [eq244]; exact (Fz.int64 (by decide))
 have Eq244 := Lib.hid eq244; clear eq244
 replace M := ad2M hd245 hd246 hb M
 clear hb hd245 hd246
 go_wp2_with fail
 refine nmW (α := Rat) ((2 : Int) : Rat) fun q255 eq255 => ?_
 refine nmW (α := Rat) ((3 : Int) : Rat) fun q256 eq256 => ?_
 refine (spOf_q (G := G) (x := 2) (y := 3) (Nat.le_trans hG (J20 M).size) (by decide +kernel) (by decide +kernel)).mono ?_
 rintro e w30 ⟨x_247, x_248, x_249, x_250, x_251, x_252, x_253, x_254, rfl, hd257, hd258, hb⟩
 rw [← eq255] at hd257
 have Sq255 : Hid (Fz q255 4) := by show Fz q255 4; rw [eq255]; exact (Fz.int64 (by decide))
 have Eq255 := Lib.hid eq255; clear eq255
 rw [← eq256] at hd258
 have Sq256 : Hid (Fz q256 4) := by show Fz q256 4; rw [eq256]; exact (Fz.int64 (by decide))
 have Eq256 := Lib.hid eq256; clear eq256
 replace M := ad2M hd257 hd258 hb M
 clear hb hd257 hd258
 go_wp2_with fail
 refine nmW (α := Rat) (maxQ q243 q255) fun q267 eq267 => ?_
 refine nmW (α := Rat) (maxQ q244 q256) fun q268 eq268 => ?_
 refine (spMax_q (G := G) (p := q243) (q := q244) (r := q255) (s := q256) (Nat.le_trans hG (J22 M).size) (J2 M).1 (J3 M).1 (M.out.1) (J1 M).1 (Fz.mono Sq243.out (by omega)) (Fz.mono Sq244.out (by omega)) (Fz.mono Sq255.out (by omega)) (Fz.mono Sq256.out (by omega)) (by rw [Eq244.out, Eq243.out] <;> decide +kernel) (by rw [Eq256.out, Eq255.out] <;> decide +kernel)).mono ?_
 rintro e w31 ⟨x_259, x_260, x_261, x_262, x_263, x_264, x_265, x_266, rfl, hd269, hd270, hb⟩
 rw [← eq267] at hd269
 have Sq267 : Hid (Fz q267 4) := by show Fz q267 4; rw [eq267]; exact (Fz.maxQ Sq243.out Sq255.out)
 have Eq267 := Lib.hid eq267; clear eq267
 rw [← eq268] at hd270
 have Sq268 : Hid (Fz q268 4) := by show Fz q268 4; rw [eq268]; exact (Fz.maxQ Sq244.out Sq256.out)
 have Eq268 := Lib.hid eq268; clear eq268
 replace M := ad2M hd269 hd270 hb M
 clear hb hd269 hd270
 refine cj4 (TQ.st (M.out.1)) fun aa ab ac ad => ?_
 refine cj4 (TQ.st (J1 M).1) fun ae af ag ah => ?_
 go_upto_region 9 with fail
 clear aa ab ac ad ae af ag ah
 refine nmW (w31.alloc (.cells #[x_259, x_260, x_261, x_262, x_263, x_264, x_265, x_266] 28)) fun w32 hv => ?_
 rw [← hv]
 have ow7_ : B6 < w31.heap.size := ((J6 M).1).lt
 replace M := alM hv M
 clear hv
 go_wp2_with fail
 replace M := Lib.hid (aI (M.out.1) (aI (J1 M).1 (aI (J2 M).1 (aI (J7 M).1 (aI (J8 M).1 (aI (J9 M).1 (aI (J10 M).1 (aI (J11 M).1 (aI (J12 M).1 (aI (J13 M).1 (aI (J14 M).1 (aI (J15 M).1 (aI (J16 M).1 (aI (J17 M).1 (aI (J18 M).1 (aI (J19 M).1 (aI (J20 M).1 (aI (J21 M).1 (aI (J22 M).1 (aI (J23 M).1 (aI (J24 M).1 (J25 M))))))))))))))))))))))
 refine nmW (α := Rat) ((1 : Int) : Rat) fun q279 eq279 => ?_
 refine nmW (α := Rat) ((2 : Int) : Rat) fun q280 eq280 => ?_
 refine (spOf_q (G := G) (x := 1) (y := 2) (Nat.le_trans hG (J21 M).size) (by decide +kernel) (by decide +kernel)).mono ?_
 rintro e w33 ⟨x_271, x_272, x_273, x_274, x_275, x_276, x_277, x_278, rfl, hd281, hd282, hb⟩
 rw [← eq279] at hd281
 have Sq279 : Hid (Fz q279 4) := by show Fz q279 4; rw [eq279]; exact (Fz.int64 (by decide))
 have Eq279 := Lib.hid eq279; clear eq279
 rw [← eq280] at hd282
 have Sq280 : Hid (Fz q280 4) := by show Fz q280 4; rw [eq280]; exact (Fz.int64 (by decide))
 have Eq280 := Lib.hid eq280; clear eq280
 replace M := ad2M hd281 hd282 hb M
 clear hb hd281 hd282
 go_wp2_with fail
 refine nmW (α := Rat) ((4 : Int) : Rat) fun q291 eq291 => ?_
 refine nmW (α := Rat) ((5 : Int) : Rat) fun q292 eq292 => ?_
 refine (spOf_q (G := G) (x := 4) (y := 5) (Nat.le_trans hG (J23 M).size) (by decide +kernel) (by decide +kernel)).mono ?_
 rintro e w34 ⟨x_283, x_284, x_285, x_286, x_287, x_288, x_289, x_290, rfl, hd293, hd294, hb⟩
 rw [← eq291] at hd293
 have Sq291 : Hid (Fz q291 4) := by show Fz q291 4; rw [eq291]; exact (Fz.int64 (by decide))
 have Eq291 := Lib.hid eq291; clear eq291
 rw [← eq292] at hd294
 have Sq292 : Hid (Fz q292 4) := by show Fz q292 4; rw [eq292]; exact (Fz.int64 (by decide))
 have Eq292 := Lib.hid eq292; clear eq292
 replace M := ad2M hd293 hd294 hb M
 clear hb hd293 hd294
 go_wp2_with fail
 refine (spHull_q (G := G) (p := q279) (q := q280) (r := q291) (s := q292) (lo := ((1 : Int) : Rat)) (hi := ((5 : Int) : Rat)) (Nat.le_trans hG (J25 M).size) (J2 M).1 (J3 M).1 (M.out.1) (J1 M).1 (Fz.mono Sq279.out (by omega)) (Fz.mono Sq280.out (by omega)) (Fz.mono Sq291.out (by omega)) (Fz.mono Sq292.out (by omega)) (by rw [Eq280.out, Eq279.out] <;> decide +kernel) (by rw [Eq292.out, Eq291.out] <;> decide +kernel) (by rw [Eq292.out, Eq291.out, Eq280.out, Eq279.out] <;> decide +kernel) (by rw [Eq292.out, Eq291.out, Eq280.out, Eq279.out] <;> decide +kernel)).mono ?_
 rintro e w35 ⟨x_295, x_296, x_297, x_298, x_299, x_300, x_301, x_302, rfl, hd303, hd304, hb⟩
 replace M := ad2M hd303 hd304 hb M
 clear hb hd303 hd304
 refine cj4 (TQ.st (M.out.1)) fun ai aj ak al => ?_
 refine cj4 (TQ.st (J1 M).1) fun am ao ap aq => ?_
 go_upto_region 10 with fail
 clear ai aj ak al am ao ap aq
 refine nmW (w35.alloc (.cells #[x_295, x_296, x_297, x_298, x_299, x_300, x_301, x_302] 28)) fun w36 hv => ?_
 rw [← hv]
 have ow8_ : w31.heap.size < w35.heap.size := ((J6 M).1).lt
 replace M := alM hv M
 clear hv
 replace M := Lib.hid (aI (M.out.1) (aI (J1 M).1 (aI (J2 M).1 (aI (J7 M).1 (aI (J8 M).1 (aI (J9 M).1 (aI (J10 M).1 (aI (J11 M).1 (aI (J12 M).1 (aI (J13 M).1 (aI (J14 M).1 (aI (J15 M).1 (aI (J16 M).1 (aI (J17 M).1 (aI (J18 M).1 (aI (J19 M).1 (aI (J20 M).1 (aI (J21 M).1 (aI (J22 M).1 (aI (J23 M).1 (aI (J24 M).1 (aI (J25 M).1 (aI (J26 M).1 (aI (J27 M).1 (J28 M)))))))))))))))))))))))))
 rename_i Kst_ hst_
 exact spanSmall_ok_s10 hG (Lib.hid (by rw [Eq267.out, Eq255.out, Eq243.out])) Sq267 (Lib.hid (by rw [Eq268.out, Eq256.out, Eq244.out])) Sq268 Eq231 Sq231 Eq232 Sq232 Eq69 Sq69 Eq70 Sq70 Eq33 Sq33 Eq34 Sq34 (by omega) (by omega) (by omega) (by omega) (by omega) (by omega) (by omega) (by omega) M Kst_ hst_
set_option maxRecDepth 100000 in
set_option maxHeartbeats 4000000 in
theorem spanSmall_ok_s6 {w : World}  {w20 : World} {x_165 x_166 x_167 x_168 x_169 x_170 x_171 x_172 x_131 x_132 x_133 x_134 x_135 x_136 x_137 x_138 x_97 x_98 x_99 x_100 x_101 x_102 x_103 x_104 x_61 x_62 x_63 x_64 x_65 x_66 x_67 x_68 x_25 x_26 x_27 x_28 x_29 x_30 x_31 x_32 : Value} {q69 q70 q33 q34 : Rat} {B0 B1 B2 B3 B4 : Nat} {x11_ x12_ x13_ x14_ x15_ x16_ x17_ x18_ x19_ x20_ x21_ x22_ x23_ x24_ x25_ x26_ x27_ x28_ x29_ x30_ x31_ x32_ x33_ x34_ x35_ x36_ x37_ x38_ x39_ x40_ x41_ x42_ x43_ x44_ x45_ x46_ x47_ x48_ x49_ x50_ x51_ x52_ x53_ x54_ x55_ : Value} (hG : G ≤ w.heap.size)  (Eq69 : Hid (q69 = ((((((1 : Int) : Rat)) - (((5 : Int) : Rat))))))) (Sq69 : Hid (Fz q69 9)) (Eq70 : Hid (q70 = ((((((2 : Int) : Rat)) - (((3 : Int) : Rat))))))) (Sq70 : Hid (Fz q70 9)) (Eq33 : Hid (q33 = ((((((1 : Int) : Rat)) + (((3 : Int) : Rat))))))) (Sq33 : Hid (Fz q33 9)) (Eq34 : Hid (q34 = ((((((2 : Int) : Rat)) + (((5 : Int) : Rat))))))) (Sq34 : Hid (Fz q34 9)) (_oB0 : w.heap.size ≤ B0) (_oB1 : B0 < B1) (_oB2 : B1 < B2) (_oB3 : B2 < B3) (_oB4 : B3 < B4) (M : Hid (Bx w20 B4 28 #[x_165, x_166, x_167, x_168, x_169, x_170, x_171, x_172] ∧ FQ G w20 x_165 x_166 x_167 x_168 (((-1) : Int) : Rat) ∧ FQ G w20 x_169 x_170 x_171 x_172 (Rat.divInt (-1) 4) ∧ Bx w20 B3 28 #[x_131, x_132, x_133, x_134, x_135, x_136, x_137, x_138] ∧ FQ G w20 x_131 x_132 x_133 x_134 (((-6) : Int) : Rat) ∧ FQ G w20 x_135 x_136 x_137 x_138 ((8 : Int) : Rat) ∧ Bx w20 B2 28 #[x_97, x_98, x_99, x_100, x_101, x_102, x_103, x_104] ∧ FQ G w20 x_97 x_98 x_99 x_100 (((-5) : Int) : Rat) ∧ FQ G w20 x_101 x_102 x_103 x_104 ((10 : Int) : Rat) ∧ Bx w20 B1 28 #[x_61, x_62, x_63, x_64, x_65, x_66, x_67, x_68] ∧ FQ G w20 x_61 x_62 x_63 x_64 q69 ∧ FQ G w20 x_65 x_66 x_67 x_68 q70 ∧ Bx w20 B0 28 #[x_25, x_26, x_27, x_28, x_29, x_30, x_31, x_32] ∧ FQ G w20 x_25 x_26 x_27 x_28 q33 ∧ FQ G w20 x_29 x_30 x_31 x_32 q34 ∧ Below w.heap.size w w20)) :
  ∀ K : Act → World → Prop, (∀ a_ w_, Code.wp Tryz.prog (restAt Tryz.f4 6) (bodyPost Tryz.prog Tryz.f4 fun e w' => e = .returned (.bool true) ∧ Below w.heap.size w w') a_ w_ → K a_ w_) → Code.wp Tryz.prog (regAt Tryz.f4 6) (Exit.then K (bodyPost Tryz.prog Tryz.f4 fun e w' => e = .returned (.bool true) ∧ Below w.heap.size w w')) ⟨List.toArray (.bool false :: .pointer (some ⟨B0, 0, none⟩) :: .int .i64 0 :: .pointer (some ⟨B1, 0, none⟩) :: .int .i64 0 :: .pointer (some ⟨B2, 0, none⟩) :: .int .i64 0 :: .pointer (some ⟨B3, 0, none⟩) :: .int .i64 0 :: .pointer (some ⟨B4, 0, none⟩) :: .int .i64 0 :: x11_ :: x12_ :: x13_ :: x14_ :: x15_ :: x16_ :: x17_ :: x18_ :: x19_ :: x20_ :: x21_ :: x22_ :: x23_ :: x24_ :: x25_ :: x26_ :: x27_ :: x28_ :: x29_ :: x30_ :: x31_ :: x32_ :: x33_ :: x34_ :: x35_ :: x36_ :: x37_ :: x38_ :: x39_ :: x40_ :: x41_ :: x42_ :: x43_ :: x44_ :: x45_ :: x46_ :: x47_ :: x48_ :: x49_ :: x50_ :: x51_ :: x52_ :: x53_ :: x54_ :: x55_ :: undef :: undef :: undef :: undef :: undef :: undef :: undef :: undef :: undef :: undef :: undef :: undef :: undef :: undef :: undef :: undef :: undef :: undef :: undef :: undef :: undef :: undef :: undef :: undef :: undef :: undef :: undef :: undef :: undef :: undef :: undef :: undef :: undef :: undef :: undef :: undef :: undef :: undef :: undef :: undef :: undef :: undef :: undef :: undef :: undef :: undef :: undef :: undef :: undef :: undef :: undef :: undef :: undef :: undef :: undef :: undef :: undef :: undef :: undef :: undef :: undef :: undef :: undef :: undef :: undef :: undef :: undef :: undef :: undef :: undef :: undef :: undef :: undef :: undef :: undef :: undef :: undef :: undef :: undef :: undef :: undef :: undef :: undef :: undef :: undef :: undef :: undef :: undef :: undef :: undef :: undef :: undef :: undef :: undef :: undef :: undef :: undef :: undef :: undef :: undef :: undef :: undef :: undef :: undef :: undef :: undef :: undef :: undef :: undef :: undef :: undef :: undef :: undef :: undef :: undef :: undef :: undef :: undef :: undef :: undef :: undef :: undef :: undef :: undef :: undef :: undef :: undef :: undef :: undef :: undef :: undef :: undef :: undef :: []), []⟩ w20 := by
 intro Kst_ hst_
 conv => arg 2; whnf
 conv at hst_ => enter [a_, w_, 1, 2]; whnf
 go_wp2_with fail
 refine nmW (α := Rat) ((1 : Int) : Rat) fun q183 eq183 => ?_
 refine nmW (α := Rat) ((2 : Int) : Rat) fun q184 eq184 => ?_
 refine (spOf_q (G := G) (x := 1) (y := 2) (Nat.le_trans hG (J15 M).size) (by decide +kernel) (by decide +kernel)).mono ?_
 rintro e w21 ⟨x_175, x_176, x_177, x_178, x_179, x_180, x_181, x_182, rfl, hd185, hd186, hb⟩
 rw [← eq183] at hd185
 have Sq183 : Hid (Fz q183 4) := by show Fz q183 4; rw [eq183]; exact (Fz.int64 (by decide))
 have Eq183 := Lib.hid eq183; clear eq183
 rw [← eq184] at hd186
 have Sq184 : Hid (Fz q184 4) := by show Fz q184 4; rw [eq184]; exact (Fz.int64 (by decide))
 have Eq184 := Lib.hid eq184; clear eq184
 replace M := ad2M hd185 hd186 hb M
 clear hb hd185 hd186
 go_wp2_with fail
 refine nmW (α := Rat) ((0 : Int) : Rat) fun q195 eq195 => ?_
 refine nmW (α := Rat) ((1 : Int) : Rat) fun q196 eq196 => ?_
 refine (spOf_q (G := G) (x := 0) (y := 1) (Nat.le_trans hG (J17 M).size) (by decide +kernel) (by decide +kernel)).mono ?_
 rintro e w22 ⟨x_187, x_188, x_189, x_190, x_191, x_192, x_193, x_194, rfl, hd197, hd198, hb⟩
 rw [← eq195] at hd197
 have Sq195 : Hid (Fz q195 4) := by show Fz q195 4; rw [eq195]; exact (Fz.int64 (by decide))
 have Eq195 := Lib.hid eq195; clear eq195
 rw [← eq196] at hd198
 have Sq196 : Hid (Fz q196 4) := by show Fz q196 4; rw [eq196]; exact (Fz.int64 (by decide))
 have Eq196 := Lib.hid eq196; clear eq196
 replace M := ad2M hd197 hd198 hb M
 clear hb hd197 hd198
 go_wp2_with fail
 refine (spDiv_none (G := G) (p := q183) (q := q184) (r := q195) (s := q196) (Nat.le_trans hG (J19 M).size) (J2 M).1 (J3 M).1 (M.out.1) (J1 M).1 (Fz.mono Sq183.out (by omega)) (Fz.mono Sq184.out (by omega)) (Fz.mono Sq195.out (by omega)) (Fz.mono Sq196.out (by omega)) (by rw [Eq184.out, Eq183.out] <;> decide +kernel) (by rw [Eq196.out, Eq195.out] <;> decide +kernel) (by rw [Eq196.out, Eq195.out] <;> decide +kernel)).mono ?_
 rintro e w23 ⟨rfl, hb⟩
 replace M := gnM hb M
 clear hb
 go_upto_region 7 with fail
 refine nmW (w23.alloc (.cells #[.int .i64 0, .slice none 0 0, .int .i64 0, .slice none 0 0, .int .i64 0, .slice none 0 0, .int .i64 0, .slice none 0 0] 28)) fun w24 hv => ?_
 rw [← hv]
 have ow5_ : B4 < w23.heap.size := ((J4 M).1).lt
 replace M := alM hv M
 clear hv
 go_wp2_with fail
 replace M := Lib.hid (aI (J5 M).1 (aI (J6 M).1 (aI (J7 M).1 (aI (J8 M).1 (aI (J9 M).1 (aI (J10 M).1 (aI (J11 M).1 (aI (J12 M).1 (aI (J13 M).1 (aI (J14 M).1 (aI (J15 M).1 (aI (J16 M).1 (aI (J17 M).1 (aI (J18 M).1 (aI (J19 M).1 (J20 M))))))))))))))))
 refine nmW (α := Rat) ((1 : Int) : Rat) fun q207 eq207 => ?_
 refine nmW (α := Rat) ((5 : Int) : Rat) fun q208 eq208 => ?_
 refine (spOf_q (G := G) (x := 1) (y := 5) (Nat.le_trans hG (J15 M).size) (by decide +kernel) (by decide +kernel)).mono ?_
 rintro e w25 ⟨x_199, x_200, x_201, x_202, x_203, x_204, x_205, x_206, rfl, hd209, hd210, hb⟩
 rw [← eq207] at hd209
 have Sq207 : Hid (Fz q207 4) := by show Fz q207 4; rw [eq207]; exact (Fz.int64 (by decide))
 have Eq207 := Lib.hid eq207; clear eq207
 rw [← eq208] at hd210
 have Sq208 : Hid (Fz q208 4) := by show Fz q208 4; rw [eq208]; exact (Fz.int64 (by decide))
 have Eq208 := Lib.hid eq208; clear eq208
 replace M := ad2M hd209 hd210 hb M
 clear hb hd209 hd210
 go_wp2_with fail
 refine nmW (α := Rat) ((2 : Int) : Rat) fun q219 eq219 => ?_
 refine nmW (α := Rat) ((3 : Int) : Rat) fun q220 eq220 => ?_
 refine (spOf_q (G := G) (x := 2) (y := 3) (Nat.le_trans hG (J17 M).size) (by decide +kernel) (by decide +kernel)).mono ?_
 rintro e w26 ⟨x_211, x_212, x_213, x_214, x_215, x_216, x_217, x_218, rfl, hd221, hd222, hb⟩
 rw [← eq219] at hd221
 have Sq219 : Hid (Fz q219 4) := by show Fz q219 4; rw [eq219]; exact (Fz.int64 (by decide))
 have Eq219 := Lib.hid eq219; clear eq219
 rw [← eq220] at hd222
 have Sq220 : Hid (Fz q220 4) := by show Fz q220 4; rw [eq220]; exact (Fz.int64 (by decide))
 have Eq220 := Lib.hid eq220; clear eq220
 replace M := ad2M hd221 hd222 hb M
 clear hb hd221 hd222
 go_wp2_with fail
 refine nmW (α := Rat) (minQ q207 q219) fun q231 eq231 => ?_
 refine nmW (α := Rat) (minQ q208 q220) fun q232 eq232 => ?_
 refine (spMin_q (G := G) (p := q207) (q := q208) (r := q219) (s := q220) (Nat.le_trans hG (J19 M).size) (J2 M).1 (J3 M).1 (M.out.1) (J1 M).1 (Fz.mono Sq207.out (by omega)) (Fz.mono Sq208.out (by omega)) (Fz.mono Sq219.out (by omega)) (Fz.mono Sq220.out (by omega)) (by rw [Eq208.out, Eq207.out] <;> decide +kernel) (by rw [Eq220.out, Eq219.out] <;> decide +kernel)).mono ?_
 rintro e w27 ⟨x_223, x_224, x_225, x_226, x_227, x_228, x_229, x_230, rfl, hd233, hd234, hb⟩
 rw [← eq231] at hd233
 have Sq231 : Hid (Fz q231 4) := by show Fz q231 4; rw [eq231]; exact (Fz.minQ Sq207.out Sq219.out)
 have Eq231 := Lib.hid eq231; clear eq231
 rw [← eq232] at hd234
 have Sq232 : Hid (Fz q232 4) := by show Fz q232 4; rw [eq232]; exact (Fz.minQ Sq208.out Sq220.out)
 have Eq232 := Lib.hid eq232; clear eq232
 replace M := ad2M hd233 hd234 hb M
 clear hb hd233 hd234
 refine cj4 (TQ.st (M.out.1)) fun aa ab ac ad => ?_
 refine cj4 (TQ.st (J1 M).1) fun ae af ag ah => ?_
 go_upto_region 8 with fail
 clear aa ab ac ad ae af ag ah
 refine nmW (w27.alloc (.cells #[x_223, x_224, x_225, x_226, x_227, x_228, x_229, x_230] 28)) fun w28 hv => ?_
 rw [← hv]
 have ow6_ : B4 < w27.heap.size := ((J6 M).1).lt
 replace M := alM hv M
 clear hv
 replace M := Lib.hid (aI (M.out.1) (aI (J1 M).1 (aI (J2 M).1 (aI (J7 M).1 (aI (J8 M).1 (aI (J9 M).1 (aI (J10 M).1 (aI (J11 M).1 (aI (J12 M).1 (aI (J13 M).1 (aI (J14 M).1 (aI (J15 M).1 (aI (J16 M).1 (aI (J17 M).1 (aI (J18 M).1 (aI (J19 M).1 (aI (J20 M).1 (aI (J21 M).1 (J22 M)))))))))))))))))))
 rename_i Kst_ hst_
 exact spanSmall_ok_s8 hG (Lib.hid (by rw [Eq231.out, Eq219.out, Eq207.out])) Sq231 (Lib.hid (by rw [Eq232.out, Eq220.out, Eq208.out])) Sq232 Eq69 Sq69 Eq70 Sq70 Eq33 Sq33 Eq34 Sq34 (by omega) (by omega) (by omega) (by omega) (by omega) (by omega) M Kst_ hst_
set_option maxRecDepth 100000 in
set_option maxHeartbeats 4000000 in
theorem spanSmall_ok_s4 {w : World}  {w12 : World} {x_97 x_98 x_99 x_100 x_101 x_102 x_103 x_104 x_61 x_62 x_63 x_64 x_65 x_66 x_67 x_68 x_25 x_26 x_27 x_28 x_29 x_30 x_31 x_32 : Value} {q69 q70 q33 q34 : Rat} {B0 B1 B2 : Nat} {x7_ x8_ x9_ x10_ x11_ x12_ x13_ x14_ x15_ x16_ x17_ x18_ x19_ x20_ x21_ x22_ x23_ x24_ x25_ x26_ x27_ x28_ x29_ x30_ x31_ x32_ x33_ x34_ x35_ x36_ x37_ x38_ x39_ x40_ x41_ x42_ x43_ : Value} (hG : G ≤ w.heap.size)  (Eq69 : Hid (q69 = (((((1 : Int) : Rat)) - (((5 : Int) : Rat)))))) (Sq69 : Hid (Fz q69 9)) (Eq70 : Hid (q70 = (((((2 : Int) : Rat)) - (((3 : Int) : Rat)))))) (Sq70 : Hid (Fz q70 9)) (Eq33 : Hid (q33 = (((((1 : Int) : Rat)) + (((3 : Int) : Rat)))))) (Sq33 : Hid (Fz q33 9)) (Eq34 : Hid (q34 = (((((2 : Int) : Rat)) + (((5 : Int) : Rat)))))) (Sq34 : Hid (Fz q34 9)) (_oB0 : w.heap.size ≤ B0) (_oB1 : B0 < B1) (_oB2 : B1 < B2) (M : Hid (Bx w12 B2 28 #[x_97, x_98, x_99, x_100, x_101, x_102, x_103, x_104] ∧ FQ G w12 x_97 x_98 x_99 x_100 (((-5) : Int) : Rat) ∧ FQ G w12 x_101 x_102 x_103 x_104 ((10 : Int) : Rat) ∧ Bx w12 B1 28 #[x_61, x_62, x_63, x_64, x_65, x_66, x_67, x_68] ∧ FQ G w12 x_61 x_62 x_63 x_64 q69 ∧ FQ G w12 x_65 x_66 x_67 x_68 q70 ∧ Bx w12 B0 28 #[x_25, x_26, x_27, x_28, x_29, x_30, x_31, x_32] ∧ FQ G w12 x_25 x_26 x_27 x_28 q33 ∧ FQ G w12 x_29 x_30 x_31 x_32 q34 ∧ Below w.heap.size w w12)) :
  ∀ K : Act → World → Prop, (∀ a_ w_, Code.wp Tryz.prog (restAt Tryz.f4 4) (bodyPost Tryz.prog Tryz.f4 fun e w' => e = .returned (.bool true) ∧ Below w.heap.size w w') a_ w_ → K a_ w_) → Code.wp Tryz.prog (regAt Tryz.f4 4) (Exit.then K (bodyPost Tryz.prog Tryz.f4 fun e w' => e = .returned (.bool true) ∧ Below w.heap.size w w')) ⟨List.toArray (.bool false :: .pointer (some ⟨B0, 0, none⟩) :: .int .i64 0 :: .pointer (some ⟨B1, 0, none⟩) :: .int .i64 0 :: .pointer (some ⟨B2, 0, none⟩) :: .int .i64 0 :: x7_ :: x8_ :: x9_ :: x10_ :: x11_ :: x12_ :: x13_ :: x14_ :: x15_ :: x16_ :: x17_ :: x18_ :: x19_ :: x20_ :: x21_ :: x22_ :: x23_ :: x24_ :: x25_ :: x26_ :: x27_ :: x28_ :: x29_ :: x30_ :: x31_ :: x32_ :: x33_ :: x34_ :: x35_ :: x36_ :: x37_ :: x38_ :: x39_ :: x40_ :: x41_ :: x42_ :: x43_ :: undef :: undef :: undef :: undef :: undef :: undef :: undef :: undef :: undef :: undef :: undef :: undef :: undef :: undef :: undef :: undef :: undef :: undef :: undef :: undef :: undef :: undef :: undef :: undef :: undef :: undef :: undef :: undef :: undef :: undef :: undef :: undef :: undef :: undef :: undef :: undef :: undef :: undef :: undef :: undef :: undef :: undef :: undef :: undef :: undef :: undef :: undef :: undef :: undef :: undef :: undef :: undef :: undef :: undef :: undef :: undef :: undef :: undef :: undef :: undef :: undef :: undef :: undef :: undef :: undef :: undef :: undef :: undef :: undef :: undef :: undef :: undef :: undef :: undef :: undef :: undef :: undef :: undef :: undef :: undef :: undef :: undef :: undef :: undef :: undef :: undef :: undef :: undef :: undef :: undef :: undef :: undef :: undef :: undef :: undef :: undef :: undef :: undef :: undef :: undef :: undef :: undef :: undef :: undef :: undef :: undef :: undef :: undef :: undef :: undef :: undef :: undef :: undef :: undef :: undef :: undef :: undef :: undef :: undef :: undef :: undef :: undef :: undef :: undef :: undef :: undef :: undef :: undef :: undef :: undef :: undef :: undef :: undef :: undef :: undef :: undef :: undef :: undef :: undef :: undef :: undef :: undef :: undef :: undef :: undef :: []), []⟩ w12 := by
 intro Kst_ hst_
 conv => arg 2; whnf
 conv at hst_ => enter [a_, w_, 1, 2]; whnf
 go_wp2_with fail
 refine nmW (α := Rat) ((-1 : Int) : Rat) fun q115 eq115 => ?_
 refine nmW (α := Rat) ((2 : Int) : Rat) fun q116 eq116 => ?_
 refine (spOf_q (G := G) (x := (-1)) (y := 2) (Nat.le_trans hG (J9 M).size) (by decide +kernel) (by decide +kernel)).mono ?_
 rintro e w13 ⟨x_107, x_108, x_109, x_110, x_111, x_112, x_113, x_114, rfl, hd117, hd118, hb⟩
 rw [← eq115] at hd117
 have Sq115 : Hid (Fz q115 4) := by show Fz q115 4; rw [eq115]; exact (Fz.int64 (by decide))
 have Eq115 := Lib.hid eq115; clear eq115
 rw [← eq116] at hd118
 have Sq116 : Hid (Fz q116 4) := by show Fz q116 4; rw [eq116]; exact (Fz.int64 (by decide))
 have Eq116 := Lib.hid eq116; clear eq116
 replace M := ad2M hd117 hd118 hb M
 clear hb hd117 hd118
 go_wp2_with fail
 refine nmW (α := Rat) ((-3 : Int) : Rat) fun q127 eq127 => ?_
 refine nmW (α := Rat) ((4 : Int) : Rat) fun q128 eq128 => ?_
 refine (spOf_q (G := G) (x := (-3)) (y := 4) (Nat.le_trans hG (J11 M).size) (by decide +kernel) (by decide +kernel)).mono ?_
 rintro e w14 ⟨x_119, x_120, x_121, x_122, x_123, x_124, x_125, x_126, rfl, hd129, hd130, hb⟩
 rw [← eq127] at hd129
 have Sq127 : Hid (Fz q127 4) := by show Fz q127 4; rw [eq127]; exact (Fz.int64 (by decide))
 have Eq127 := Lib.hid eq127; clear eq127
 rw [← eq128] at hd130
 have Sq128 : Hid (Fz q128 4) := by show Fz q128 4; rw [eq128]; exact (Fz.int64 (by decide))
 have Eq128 := Lib.hid eq128; clear eq128
 replace M := ad2M hd129 hd130 hb M
 clear hb hd129 hd130
 go_wp2_with fail
 refine (spMul_q (G := G) (p := q115) (q := q116) (r := q127) (s := q128) (lo := (((-6) : Int) : Rat)) (hi := ((8 : Int) : Rat)) (Nat.le_trans hG (J13 M).size) (J2 M).1 (J3 M).1 (M.out.1) (J1 M).1 (Fz.mono Sq115.out (by omega)) (Fz.mono Sq116.out (by omega)) (Fz.mono Sq127.out (by omega)) (Fz.mono Sq128.out (by omega)) (by rw [Eq116.out, Eq115.out] <;> decide +kernel) (by rw [Eq128.out, Eq127.out] <;> decide +kernel) (by rw [Eq128.out, Eq127.out, Eq116.out, Eq115.out] <;> decide +kernel) (by rw [Eq128.out, Eq127.out, Eq116.out, Eq115.out] <;> decide +kernel)).mono ?_
 rintro e w15 ⟨x_131, x_132, x_133, x_134, x_135, x_136, x_137, x_138, rfl, hd139, hd140, hb⟩
 replace M := ad2M hd139 hd140 hb M
 clear hb hd139 hd140
 refine cj4 (TQ.st (M.out.1)) fun aa ab ac ad => ?_
 refine cj4 (TQ.st (J1 M).1) fun ae af ag ah => ?_
 go_upto_region 5 with fail
 clear aa ab ac ad ae af ag ah
 refine nmW (w15.alloc (.cells #[x_131, x_132, x_133, x_134, x_135, x_136, x_137, x_138] 28)) fun w16 hv => ?_
 rw [← hv]
 have ow3_ : B2 < w15.heap.size := ((J6 M).1).lt
 replace M := alM hv M
 clear hv
 go_wp2_with fail
 replace M := Lib.hid (aI (M.out.1) (aI (J1 M).1 (aI (J2 M).1 (aI (J7 M).1 (aI (J8 M).1 (aI (J9 M).1 (aI (J10 M).1 (aI (J11 M).1 (aI (J12 M).1 (aI (J13 M).1 (aI (J14 M).1 (aI (J15 M).1 (J16 M)))))))))))))
 refine nmW (α := Rat) ((1 : Int) : Rat) fun q149 eq149 => ?_
 refine nmW (α := Rat) ((2 : Int) : Rat) fun q150 eq150 => ?_
 refine (spOf_q (G := G) (x := 1) (y := 2) (Nat.le_trans hG (J12 M).size) (by decide +kernel) (by decide +kernel)).mono ?_
 rintro e w17 ⟨x_141, x_142, x_143, x_144, x_145, x_146, x_147, x_148, rfl, hd151, hd152, hb⟩
 rw [← eq149] at hd151
 have Sq149 : Hid (Fz q149 4) := by show Fz q149 4; rw [eq149]; exact (Fz.int64 (by decide))
 have Eq149 := Lib.hid eq149; clear eq149
 rw [← eq150] at hd152
 have Sq150 : Hid (Fz q150 4) := by show Fz q150 4; rw [eq150]; exact (Fz.int64 (by decide))
 have Eq150 := Lib.hid eq150; clear eq150
 replace M := ad2M hd151 hd152 hb M
 clear hb hd151 hd152
 go_wp2_with fail
 refine nmW (α := Rat) ((-4 : Int) : Rat) fun q161 eq161 => ?_
 refine nmW (α := Rat) ((-2 : Int) : Rat) fun q162 eq162 => ?_
 refine (spOf_q (G := G) (x := (-4)) (y := (-2)) (Nat.le_trans hG (J14 M).size) (by decide +kernel) (by decide +kernel)).mono ?_
 rintro e w18 ⟨x_153, x_154, x_155, x_156, x_157, x_158, x_159, x_160, rfl, hd163, hd164, hb⟩
 rw [← eq161] at hd163
 have Sq161 : Hid (Fz q161 4) := by show Fz q161 4; rw [eq161]; exact (Fz.int64 (by decide))
 have Eq161 := Lib.hid eq161; clear eq161
 rw [← eq162] at hd164
 have Sq162 : Hid (Fz q162 4) := by show Fz q162 4; rw [eq162]; exact (Fz.int64 (by decide))
 have Eq162 := Lib.hid eq162; clear eq162
 replace M := ad2M hd163 hd164 hb M
 clear hb hd163 hd164
 go_wp2_with fail
 refine (spDiv_q (G := G) (p := q149) (q := q150) (r := q161) (s := q162) (lo := (((-1) : Int) : Rat)) (hi := (Rat.divInt (-1) 4)) (Nat.le_trans hG (J16 M).size) (J2 M).1 (J3 M).1 (M.out.1) (J1 M).1 (Fz.mono Sq149.out (by omega)) (Fz.mono Sq150.out (by omega)) (Fz.mono Sq161.out (by omega)) (Fz.mono Sq162.out (by omega)) (by rw [Eq150.out, Eq149.out] <;> decide +kernel) (by rw [Eq162.out, Eq161.out] <;> decide +kernel) (by rw [Eq162.out, Eq161.out] <;> decide +kernel) (by rw [Eq162.out, Eq161.out, Eq150.out, Eq149.out] <;> decide +kernel) (by rw [Eq162.out, Eq161.out, Eq150.out, Eq149.out] <;> decide +kernel)).mono ?_
 rintro e w19 ⟨x_165, x_166, x_167, x_168, x_169, x_170, x_171, x_172, rfl, hd173, hd174, hb⟩
 replace M := ad2M hd173 hd174 hb M
 clear hb hd173 hd174
 refine cj4 (TQ.st (M.out.1)) fun ai aj ak al => ?_
 refine cj4 (TQ.st (J1 M).1) fun am ao ap aq => ?_
 go_upto_region 6 with fail
 clear ai aj ak al am ao ap aq
 refine nmW (w19.alloc (.cells #[x_165, x_166, x_167, x_168, x_169, x_170, x_171, x_172] 28)) fun w20 hv => ?_
 rw [← hv]
 have ow4_ : w15.heap.size < w19.heap.size := ((J6 M).1).lt
 replace M := alM hv M
 clear hv
 replace M := Lib.hid (aI (M.out.1) (aI (J1 M).1 (aI (J2 M).1 (aI (J7 M).1 (aI (J8 M).1 (aI (J9 M).1 (aI (J10 M).1 (aI (J11 M).1 (aI (J12 M).1 (aI (J13 M).1 (aI (J14 M).1 (aI (J15 M).1 (aI (J16 M).1 (aI (J17 M).1 (aI (J18 M).1 (J19 M))))))))))))))))
 rename_i Kst_ hst_
 exact spanSmall_ok_s6 hG Eq69 Sq69 Eq70 Sq70 Eq33 Sq33 Eq34 Sq34 (by omega) (by omega) (by omega) (by omega) (by omega) M Kst_ hst_
set_option maxRecDepth 100000 in
set_option maxHeartbeats 4000000 in
theorem spanSmall_ok {w : World}  (hG : G ≤ w.heap.size)  :
  Calls Tryz.prog 4 #[] w fun e w' => e = .returned (.bool true) ∧ Below w.heap.size w w' := by
 have M : Hid (Below w.heap.size w w) := Below.refl _ _
 go_enter Tryz.func4, Tryz.ntmps4
 go_wp2_with fail
 refine nmW (α := Rat) ((1 : Int) : Rat) fun q9 eq9 => ?_
 refine nmW (α := Rat) ((2 : Int) : Rat) fun q10 eq10 => ?_
 refine (spOf_q (G := G) (x := 1) (y := 2) (Nat.le_trans hG M.out.size) (by decide +kernel) (by decide +kernel)).mono ?_
 rintro e w1 ⟨x_1, x_2, x_3, x_4, x_5, x_6, x_7, x_8, rfl, hd11, hd12, hb⟩
 rw [← eq9] at hd11
 have Sq9 : Hid (Fz q9 4) := by show Fz q9 4; rw [eq9]; exact (Fz.int64 (by decide))
 have Eq9 := Lib.hid eq9; clear eq9
 rw [← eq10] at hd12
 have Sq10 : Hid (Fz q10 4) := by show Fz q10 4; rw [eq10]; exact (Fz.int64 (by decide))
 have Eq10 := Lib.hid eq10; clear eq10
 replace M := ad2M hd11 hd12 hb M
 clear hb hd11 hd12
 go_wp2_with fail
 refine nmW (α := Rat) ((3 : Int) : Rat) fun q21 eq21 => ?_
 refine nmW (α := Rat) ((5 : Int) : Rat) fun q22 eq22 => ?_
 refine (spOf_q (G := G) (x := 3) (y := 5) (Nat.le_trans hG (J2 M).size) (by decide +kernel) (by decide +kernel)).mono ?_
 rintro e w2 ⟨x_13, x_14, x_15, x_16, x_17, x_18, x_19, x_20, rfl, hd23, hd24, hb⟩
 rw [← eq21] at hd23
 have Sq21 : Hid (Fz q21 4) := by show Fz q21 4; rw [eq21]; exact (Fz.int64 (by decide))
 have Eq21 := Lib.hid eq21; clear eq21
 rw [← eq22] at hd24
 have Sq22 : Hid (Fz q22 4) := by show Fz q22 4; rw [eq22]; exact (Fz.int64 (by decide))
 have Eq22 := Lib.hid eq22; clear eq22
 replace M := ad2M hd23 hd24 hb M
 clear hb hd23 hd24
 go_wp2_with fail
 refine nmW (α := Rat) (q9 + q21) fun q33 eq33 => ?_
 refine nmW (α := Rat) (q10 + q22) fun q34 eq34 => ?_
 refine (spAdd_q (G := G) (p := q9) (q := q10) (r := q21) (s := q22) (Nat.le_trans hG (J4 M).size) (J2 M).1 (J3 M).1 (M.out.1) (J1 M).1 (Fz.mono Sq9.out (by omega)) (Fz.mono Sq10.out (by omega)) (Fz.mono Sq21.out (by omega)) (Fz.mono Sq22.out (by omega)) (by rw [Eq10.out, Eq9.out] <;> decide +kernel) (by rw [Eq22.out, Eq21.out] <;> decide +kernel)).mono ?_
 rintro e w3 ⟨x_25, x_26, x_27, x_28, x_29, x_30, x_31, x_32, rfl, hd35, hd36, hb⟩
 rw [← eq33] at hd35
 have Sq33 : Hid (Fz q33 9) := by show Fz q33 9; rw [eq33]; exact (Fz.add Sq9.out Sq21.out)
 have Eq33 := Lib.hid eq33; clear eq33
 rw [← eq34] at hd36
 have Sq34 : Hid (Fz q34 9) := by show Fz q34 9; rw [eq34]; exact (Fz.add Sq10.out Sq22.out)
 have Eq34 := Lib.hid eq34; clear eq34
 replace M := ad2M hd35 hd36 hb M
 clear hb hd35 hd36
 refine cj4 (TQ.st (M.out.1)) fun aa ab ac ad => ?_
 refine cj4 (TQ.st (J1 M).1) fun ae af ag ah => ?_
 go_upto_region 2 with fail
 clear aa ab ac ad ae af ag ah
 refine nmW (w3.alloc (.cells #[x_25, x_26, x_27, x_28, x_29, x_30, x_31, x_32] 28)) fun w4 hv => ?_
 rw [← hv]
 have ow0_ : w.heap.size ≤ w3.heap.size := ((J6 M)).size
 replace M := alM hv M
 clear hv
 go_wp2_with fail
 replace M := Lib.hid (aI (M.out.1) (aI (J1 M).1 (aI (J2 M).1 (J7 M))))
 refine nmW (α := Rat) ((1 : Int) : Rat) fun q45 eq45 => ?_
 refine nmW (α := Rat) ((2 : Int) : Rat) fun q46 eq46 => ?_
 refine (spOf_q (G := G) (x := 1) (y := 2) (Nat.le_trans hG (J3 M).size) (by decide +kernel) (by decide +kernel)).mono ?_
 rintro e w5 ⟨x_37, x_38, x_39, x_40, x_41, x_42, x_43, x_44, rfl, hd47, hd48, hb⟩
 rw [← eq45] at hd47
 have Sq45 : Hid (Fz q45 4) := by show Fz q45 4; rw [eq45]; exact (Fz.int64 (by decide))
 have Eq45 := Lib.hid eq45; clear eq45
 rw [← eq46] at hd48
 have Sq46 : Hid (Fz q46 4) := by show Fz q46 4; rw [eq46]; exact (Fz.int64 (by decide))
 have Eq46 := Lib.hid eq46; clear eq46
 replace M := ad2M hd47 hd48 hb M
 clear hb hd47 hd48
 go_wp2_with fail
 refine nmW (α := Rat) ((3 : Int) : Rat) fun q57 eq57 => ?_
 refine nmW (α := Rat) ((5 : Int) : Rat) fun q58 eq58 => ?_
 refine (spOf_q (G := G) (x := 3) (y := 5) (Nat.le_trans hG (J5 M).size) (by decide +kernel) (by decide +kernel)).mono ?_
 rintro e w6 ⟨x_49, x_50, x_51, x_52, x_53, x_54, x_55, x_56, rfl, hd59, hd60, hb⟩
 rw [← eq57] at hd59
 have Sq57 : Hid (Fz q57 4) := by show Fz q57 4; rw [eq57]; exact (Fz.int64 (by decide))
 have Eq57 := Lib.hid eq57; clear eq57
 rw [← eq58] at hd60
 have Sq58 : Hid (Fz q58 4) := by show Fz q58 4; rw [eq58]; exact (Fz.int64 (by decide))
 have Eq58 := Lib.hid eq58; clear eq58
 replace M := ad2M hd59 hd60 hb M
 clear hb hd59 hd60
 go_wp2_with fail
 refine nmW (α := Rat) (q45 - q58) fun q69 eq69 => ?_
 refine nmW (α := Rat) (q46 - q57) fun q70 eq70 => ?_
 refine (spSub_q (G := G) (p := q45) (q := q46) (r := q57) (s := q58) (Nat.le_trans hG (J7 M).size) (J2 M).1 (J3 M).1 (M.out.1) (J1 M).1 (Fz.mono Sq45.out (by omega)) (Fz.mono Sq46.out (by omega)) (Fz.mono Sq57.out (by omega)) (Fz.mono Sq58.out (by omega)) (by rw [Eq46.out, Eq45.out] <;> decide +kernel) (by rw [Eq58.out, Eq57.out] <;> decide +kernel)).mono ?_
 rintro e w7 ⟨x_61, x_62, x_63, x_64, x_65, x_66, x_67, x_68, rfl, hd71, hd72, hb⟩
 rw [← eq69] at hd71
 have Sq69 : Hid (Fz q69 9) := by show Fz q69 9; rw [eq69]; exact (Fz.sub Sq45.out Sq58.out)
 have Eq69 := Lib.hid eq69; clear eq69
 rw [← eq70] at hd72
 have Sq70 : Hid (Fz q70 9) := by show Fz q70 9; rw [eq70]; exact (Fz.sub Sq46.out Sq57.out)
 have Eq70 := Lib.hid eq70; clear eq70
 replace M := ad2M hd71 hd72 hb M
 clear hb hd71 hd72
 refine cj4 (TQ.st (M.out.1)) fun ai aj ak al => ?_
 refine cj4 (TQ.st (J1 M).1) fun am ao ap aq => ?_
 go_upto_region 3 with fail
 clear ai aj ak al am ao ap aq
 refine nmW (w7.alloc (.cells #[x_61, x_62, x_63, x_64, x_65, x_66, x_67, x_68] 28)) fun w8 hv => ?_
 rw [← hv]
 have ow1_ : w3.heap.size < w7.heap.size := ((J6 M).1).lt
 replace M := alM hv M
 clear hv
 go_wp2_with fail
 replace M := Lib.hid (aI (M.out.1) (aI (J1 M).1 (aI (J2 M).1 (aI (J7 M).1 (aI (J8 M).1 (aI (J9 M).1 (J10 M)))))))
 refine nmW (α := Rat) ((-1 : Int) : Rat) fun q81 eq81 => ?_
 refine nmW (α := Rat) ((2 : Int) : Rat) fun q82 eq82 => ?_
 refine (spOf_q (G := G) (x := (-1)) (y := 2) (Nat.le_trans hG (J6 M).size) (by decide +kernel) (by decide +kernel)).mono ?_
 rintro e w9 ⟨x_73, x_74, x_75, x_76, x_77, x_78, x_79, x_80, rfl, hd83, hd84, hb⟩
 rw [← eq81] at hd83
 have Sq81 : Hid (Fz q81 4) := by show Fz q81 4; rw [eq81]; exact (Fz.int64 (by decide))
 have Eq81 := Lib.hid eq81; clear eq81
 rw [← eq82] at hd84
 have Sq82 : Hid (Fz q82 4) := by show Fz q82 4; rw [eq82]; exact (Fz.int64 (by decide))
 have Eq82 := Lib.hid eq82; clear eq82
 replace M := ad2M hd83 hd84 hb M
 clear hb hd83 hd84
 go_wp2_with fail
 refine nmW (α := Rat) ((3 : Int) : Rat) fun q93 eq93 => ?_
 refine nmW (α := Rat) ((5 : Int) : Rat) fun q94 eq94 => ?_
 refine (spOf_q (G := G) (x := 3) (y := 5) (Nat.le_trans hG (J8 M).size) (by decide +kernel) (by decide +kernel)).mono ?_
 rintro e w10 ⟨x_85, x_86, x_87, x_88, x_89, x_90, x_91, x_92, rfl, hd95, hd96, hb⟩
 rw [← eq93] at hd95
 have Sq93 : Hid (Fz q93 4) := by show Fz q93 4; rw [eq93]; exact (Fz.int64 (by decide))
 have Eq93 := Lib.hid eq93; clear eq93
 rw [← eq94] at hd96
 have Sq94 : Hid (Fz q94 4) := by show Fz q94 4; rw [eq94]; exact (Fz.int64 (by decide))
 have Eq94 := Lib.hid eq94; clear eq94
 replace M := ad2M hd95 hd96 hb M
 clear hb hd95 hd96
 go_wp2_with fail
 refine (spMul_q (G := G) (p := q81) (q := q82) (r := q93) (s := q94) (lo := (((-5) : Int) : Rat)) (hi := ((10 : Int) : Rat)) (Nat.le_trans hG (J10 M).size) (J2 M).1 (J3 M).1 (M.out.1) (J1 M).1 (Fz.mono Sq81.out (by omega)) (Fz.mono Sq82.out (by omega)) (Fz.mono Sq93.out (by omega)) (Fz.mono Sq94.out (by omega)) (by rw [Eq82.out, Eq81.out] <;> decide +kernel) (by rw [Eq94.out, Eq93.out] <;> decide +kernel) (by rw [Eq94.out, Eq93.out, Eq82.out, Eq81.out] <;> decide +kernel) (by rw [Eq94.out, Eq93.out, Eq82.out, Eq81.out] <;> decide +kernel)).mono ?_
 rintro e w11 ⟨x_97, x_98, x_99, x_100, x_101, x_102, x_103, x_104, rfl, hd105, hd106, hb⟩
 replace M := ad2M hd105 hd106 hb M
 clear hb hd105 hd106
 refine cj4 (TQ.st (M.out.1)) fun ar au av aw => ?_
 refine cj4 (TQ.st (J1 M).1) fun ax ay az ba => ?_
 go_upto_region 4 with fail
 clear ar au av aw ax ay az ba
 refine nmW (w11.alloc (.cells #[x_97, x_98, x_99, x_100, x_101, x_102, x_103, x_104] 28)) fun w12 hv => ?_
 rw [← hv]
 have ow2_ : w7.heap.size < w11.heap.size := ((J6 M).1).lt
 replace M := alM hv M
 clear hv
 replace M := Lib.hid (aI (M.out.1) (aI (J1 M).1 (aI (J2 M).1 (aI (J7 M).1 (aI (J8 M).1 (aI (J9 M).1 (aI (J10 M).1 (aI (J11 M).1 (aI (J12 M).1 (J13 M))))))))))
 rename_i Kst_ hst_
 exact spanSmall_ok_s4 hG (Lib.hid (by rw [Eq69.out, Eq58.out, Eq45.out])) Sq69 (Lib.hid (by rw [Eq70.out, Eq57.out, Eq46.out])) Sq70 (Lib.hid (by rw [Eq33.out, Eq21.out, Eq9.out])) Sq33 (Lib.hid (by rw [Eq34.out, Eq22.out, Eq10.out])) Sq34 (by omega) (by omega) (by omega) M Kst_ hst_
end Go.Proofs.YtjbfngjlepafgaaGreat
namespace Go.Proofs.YtjbfngjlepafgaaGreat
open Go.RowKit Go.Lib
variable {G : Nat}

def few4 (n1 m1 n2 m2 n3 m3 n4 m4 : Nat) : Bool := (fewF n1 m1 && fewF n2 m2) && (fewF n3 m3 && fewF n4 m4)
theorem few4_1 {n1 m1 n2 m2 n3 m3 n4 m4 : Nat} (h : few4 n1 m1 n2 m2 n3 m3 n4 m4 = true) : fewF n1 m1 = true := by simp only [few4, Bool.and_eq_true] at h; exact h.1.1
theorem few4_2 {n1 m1 n2 m2 n3 m3 n4 m4 : Nat} (h : few4 n1 m1 n2 m2 n3 m3 n4 m4 = true) : fewF n2 m2 = true := by simp only [few4, Bool.and_eq_true] at h; exact h.1.2
theorem few4_3 {n1 m1 n2 m2 n3 m3 n4 m4 : Nat} (h : few4 n1 m1 n2 m2 n3 m3 n4 m4 = true) : fewF n3 m3 = true := by simp only [few4, Bool.and_eq_true] at h; exact h.2.1
theorem few4_4 {n1 m1 n2 m2 n3 m3 n4 m4 : Nat} (h : few4 n1 m1 n2 m2 n3 m3 n4 m4 = true) : fewF n4 m4 = true := by simp only [few4, Bool.and_eq_true] at h; exact h.2.2
theorem few_s {u0 u1 u2 u3 u4 u5 u6 u7 v0 v1 v2 v3 v4 v5 v6 v7 : Value} {n1 m1 n2 m2 n3 m3 n4 m4 : Nat} {o1 o2 o3 o4 : Option Rat} {b_ : Bool} {w : World} (h1 : FX w u0 u1 u2 u3 n1 m1 o1) (h2 : FX w u4 u5 u6 u7 n2 m2 o2) (h3 : FX w v0 v1 v2 v3 n3 m3 o3) (h4 : FX w v4 v5 v6 v7 n4 m4 o4) (hb : few4 n1 m1 n2 m2 n3 m3 n4 m4 = b_) :
  Calls Tryz.prog 5 #[.agg #[u0, u1, u2, u3, u4, u5, u6, u7], .agg #[v0, v1, v2, v3, v4, v5, v6, v7]] w fun e w' => e = .returned (.bool b_) ∧ Below w.heap.size w w' := by
 subst hb; exact few_x h1 h2 h3 h4 rfl rfl rfl rfl rfl rfl rfl
theorem FX.z4 {w : World} {u0 u1 u2 u3 : Value} {n m : Nat} {q : Rat} (h : FX w u0 u1 u2 u3 n m (some q)) (hf : fewF n m = true) : Fz q 4 := h.fz (few_le hf).1 (few_le hf).2
end Go.Proofs.YtjbfngjlepafgaaGreat
