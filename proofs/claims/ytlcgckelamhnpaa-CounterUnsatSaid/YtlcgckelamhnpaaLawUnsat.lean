/- CounterUnsat: whatever the arguments, it returns true. -/
import Derived.Test.YtlcgckelamhnpaaBase
import Derived.Test.YtlcgckelamhnpaaBigSpec
import Derived.Test.YtlcgckelamhnpaaBigB
import Derived.Test.YtlcgckelamhnpaaBigC
import Derived.Test.YtlcgckelamhnpaaBigD
import Derived.Test.YtlcgckelamhnpaaBigK
import Derived.Test.YtlcgckelamhnpaaBigQ
import Derived.Test.YtlcgckelamhnpaaFd
import Derived.Test.YtlcgckelamhnpaaHeld
import Derived.Test.YtlcgckelamhnpaaAw
import Derived.Test.YtlcgckelamhnpaaFracC
import Derived.Test.YtlcgckelamhnpaaFz
import Derived.Test.YtlcgckelamhnpaaFracR
import Derived.Test.YtlcgckelamhnpaaRw
import Derived.Test.YtlcgckelamhnpaaScaleE
import Derived.Test.YtlcgckelamhnpaaScaleI
import Derived.Test.YtlcgckelamhnpaaCtLaws
import Derived.Test.YtlcgckelamhnpaaCtA
import Derived.Test.YtlcgckelamhnpaaCtC
import Derived.Test.YtlcgckelamhnpaaLexSpec
import Derived.Test.YtlcgckelamhnpaaCtE
import Derived.Test.YtlcgckelamhnpaaCtL
import Derived.Test.YtlcgckelamhnpaaCtHist
import Derived.Test.YtlcgckelamhnpaaDag
import Derived.Test.YtlcgckelamhnpaaCtM
import Derived.Test.YtlcgckelamhnpaaCtW
import Derived.Test.YtlcgckelamhnpaaOpenRw
import Derived.Test.YtlcgckelamhnpaaProg
import Derived.Test.YtlcgckelamhnpaaShelf
import Derived.WalkKit
import Derived.WalkSpells
import Derived.WalkLawsBesides
import Derived.Handy
import Derived.Lib.Hide
import Derived.Lib.Strings
import Derived.Lib.Builder
import Derived.BigQuiet
import Derived.OwnWalk
import Derived.Laws.BitsLemmas
import Derived.WalkSmall
import Derived.Deep.QuietTactic
import Derived.StillTailTactics
import Derived.Maps.AppendAt
import Derived.IntWalk
import Derived.Deep.RegionHeld3
import Derived.Deep.DeepFit
import Derived.Deep.LoopGhost
import Derived.Deep.DeepCutAuto
import Derived.Lib.ItoaNum
import Derived.Lib.Repeat
import Derived.Lib.AppendIntMem
import Derived.Sort.OwnSorted
import Derived.Shelf.Strings.SlTrimAscii
import Derived.Lib.ConvBytes
import Derived.Lib.CutLaws
import Derived.Deep.Slices
import Derived.Deep.Fields
import Derived.ChangeSame
import Derived.Shelf.Strings.Builder1
import Derived.ArgAppend
namespace Go.Proofs.Ytlcgckelamhnpaa
open Go.RowKit Go.WideShapes Go.ChangeShapes Go.Deep

theorem trod_rdl {α : Type} [El α] {H : Type} {enc : TypeId × Value → H} {P : Program} {w : World} {spare : Nat → Bool} {held : Bool} {t : TypeId} {fuel : Nat} {cs : List Value} {y : DataW H × List MemPlace}
    (ht : P.underlying t = some (.slice (El.T α))) (hC : P.cellsOf (El.T α) = El.sz α) (hpos : 0 < El.sz α)
    (helem : ∀ (n : Nat) (cs : List Value) (y : DataW H × List MemPlace), DataW.trod enc P w 0 spare held n (El.T α) cs = some y → ∃ x : α, cs = El.cells x ∧ El.ok w.heap.size w x)
    (hf : DataW.trod enc P w 0 spare held fuel t cs = some y) : ∃ (a : Option Addr) (n c : Nat) (l : List α), cs = [.slice a n c] ∧ n ≤ 9223372036854775807 ∧ RdL w.heap.size w a n c l := by
  rcases open_slice ht hf with ⟨h0, -⟩ | ⟨a', len, cap, m, n', D, Pl, hcs, -, hl, hm, hmm, -, hi⟩
  · exact ⟨none, 0, 0, [], h0, by omega, RdL.nil _ _ _⟩
  · subst hcs
    refine ⟨some a', len, cap, ?_⟩
    unfold maxLen at hm
    obtain ⟨l, hll, hp⟩ := choose_list (p := fun i (x : α) => El.ok w.heap.size w x ∧ ∀ (j : Nat) (u : Value), (El.cells x)[j]? = some u → w.cell? (a'.add (i * El.sz α + j)) = some u) len (fun i hil => by
      obtain ⟨cs', hc, ht'⟩ := hi i (by rw [hmm]; split <;> omega)
      obtain ⟨x, hx, hok⟩ := helem _ _ _ ht'
      rw [hC] at hc
      obtain ⟨_, hcl, hat⟩ := World.cells?_some hc
      refine ⟨x, hok, fun j u hj => ?_⟩
      subst hx
      have hjl : j < El.sz α := by have := (List.getElem?_eq_some_iff.1 hj).1; rwa [El.len] at this
      rw [← Go.Deep.add_add, hat _ hjl]; exact hj)
    rcases Nat.eq_zero_or_pos len with h0 | h0
    · subst h0
      obtain rfl := List.eq_nil_of_length_eq_zero hll
      exact ⟨[], rfl, by omega, RdL.nil _ _ _⟩
    · have hx0 : l[0]? = some (l[0]'(by omega)) := List.getElem?_eq_getElem (by omega)
      have hc0 : (El.cells (l[0]'(by omega)))[0]? = some ((El.cells (l[0]'(by omega)))[0]'(by rw [El.len]; exact hpos)) := List.getElem?_eq_getElem _
      have h1 := (hp 0 _ hx0).2 0 _ hc0
      have ha0 : a'.add (0 * El.sz α + 0) = a' := by simp [Addr.add]
      rw [ha0] at h1
      obtain ⟨q1, q2⟩ := cell_at h1
      obtain ⟨b, o, pp⟩ := a'
      obtain rfl : pp = none := congrArg Addr.spot q1
      refine ⟨l, rfl, by omega, RdL.of ⟨q2, .inl q2, fun x hx => ?_, fun k x j u hk hj => ?_⟩ hll hl⟩
      · obtain ⟨k, hk⟩ := List.getElem?_of_mem hx
        exact (hp k x hk).1
      · have := (hp k x hk).2 j u hj
        rw [add_off] at this
        rw [Nat.add_assoc]; exact this
theorem RcIn.shape_ {w : World} {v : Value} {rs : List Rc} (h : RcIn w v rs) : ∃ a cap, v = .slice a rs.length cap := by
 obtain ⟨a, cap, hv, _⟩ := h; exact ⟨a, cap, hv⟩
set_option maxRecDepth 100000 in
theorem meterParts : ∃ f0 f1 f2 : Field, Try.prog.underlying 52 = some (.struct #[f0, f1, f2]) ∧ f0.type = 3 ∧ f0.offset = 0 ∧ f1.type = 3 ∧ f1.offset = 1 ∧ f2.type = 3 ∧ f2.offset = 2 :=
 ⟨_, _, _, Try.underlying52, rfl, rfl, rfl, rfl, rfl, rfl⟩
set_option maxRecDepth 100000 in
theorem readingParts : ∃ f0 f1 f2 : Field, Try.prog.underlying 29 = some (.struct #[f0, f1, f2]) ∧ f0.type = 3 ∧ f0.offset = 0 ∧ f1.type = 3 ∧ f1.offset = 1 ∧ f2.type = 3 ∧ f2.offset = 2 :=
 ⟨_, _, _, Try.underlying29, rfl, rfl, rfl, rfl, rfl, rfl⟩
set_option maxRecDepth 100000 in
theorem stationParts : ∃ f0 f1 f2 : Field, Try.prog.underlying 25 = some (.struct #[f0, f1, f2]) ∧ f0.type = 9 ∧ f0.offset = 0 ∧ f1.type = 22 ∧ f1.offset = 1 ∧ f2.type = 23 ∧ f2.offset = 2 :=
 ⟨_, _, _, Try.underlying25, rfl, rfl, rfl, rfl, rfl, rfl⟩
theorem cells1_int : Try.prog.cellsOf 3 = 1 := by kernel_rfl
theorem cells1_str : Try.prog.cellsOf 9 = 1 := by kernel_rfl
theorem cells1_ms : Try.prog.cellsOf 22 = 1 := by kernel_rfl
theorem cells1_rs : Try.prog.cellsOf 23 = 1 := by kernel_rfl
theorem cells3_mt : Try.prog.cellsOf 52 = 3 := by kernel_rfl
theorem cells3_rg : Try.prog.cellsOf 29 = 3 := by kernel_rfl
theorem cells3_st : Try.prog.cellsOf 25 = 3 := by kernel_rfl
set_option maxRecDepth 100000 in
theorem trod_ints3 {H : Type} {enc : TypeId × Value → H} {w : World} {spare : Nat → Bool} {held : Bool} {n : Nat} {cs : List Value} {y : DataW H × List MemPlace} {T : TypeId} (hp : ∃ f0 f1 f2 : Field, Try.prog.underlying T = some (.struct #[f0, f1, f2]) ∧ f0.type = 3 ∧ f0.offset = 0 ∧ f1.type = 3 ∧ f1.offset = 1 ∧ f2.type = 3 ∧ f2.offset = 2) (hc : Try.prog.cellsOf T = 3)
  (h : DataW.trod enc Try.prog w 0 spare held n T cs = some y) : ∃ a b c : Int, cs = [.int .i64 a, .int .i64 b, .int .i64 c] := by
 obtain ⟨f0, f1, f2, he, t0, o0, t1, o1, t2, o2⟩ := hp
 obtain ⟨xs, n', -, -, hlen, hxl, hg⟩ := DataW.trod_struct he h
 obtain ⟨y0, g0⟩ := trod_field (j := 0) (f := f0) hg hxl rfl
 obtain ⟨y1, g1⟩ := trod_field (j := 1) (f := f1) hg hxl rfl
 obtain ⟨y2, g2⟩ := trod_field (j := 2) (f := f2) hg hxl rfl
 rw [t0, o0, cells1_int] at g0
 rw [t1, o1, cells1_int] at g1
 rw [t2, o2, cells1_int] at g2
 rw [hc] at hlen
 match cs, hlen with
 | [a, b, c], _ =>
  obtain ⟨m0, e0, -, -⟩ := DataW.trod_int Try.underlying3 g0
  obtain ⟨m1, e1, -, -⟩ := DataW.trod_int Try.underlying3 g1
  obtain ⟨m2, e2, -, -⟩ := DataW.trod_int Try.underlying3 g2
  simp at e0 e1 e2
  subst e0 e1 e2
  exact ⟨m0, m1, m2, rfl⟩
set_option maxRecDepth 100000 in
theorem trod_station {H : Type} {enc : TypeId × Value → H} {w : World} {spare : Nat → Bool} {held : Bool} {n : Nat} {cs : List Value} {y : DataW H × List MemPlace} (h : DataW.trod enc Try.prog w 0 spare held n 25 cs = some y) :
  ∃ (nm : ByteArray) (am ar : Option Addr) (nn cm nr cr : Nat) (ms : List Mt) (rs : List Rg), cs = [.string nm, .slice am nn cm, .slice ar nr cr] ∧ RdMt w.heap.size w am nn cm ms ∧ RdRg w.heap.size w ar nr cr rs := by
 obtain ⟨f0, f1, f2, he, t0, o0, t1, o1, t2, o2⟩ := stationParts
 obtain ⟨xs, n', -, -, hlen, hxl, hg⟩ := DataW.trod_struct he h
 obtain ⟨y0, g0⟩ := trod_field (j := 0) (f := f0) hg hxl rfl
 obtain ⟨y1, g1⟩ := trod_field (j := 1) (f := f1) hg hxl rfl
 obtain ⟨y2, g2⟩ := trod_field (j := 2) (f := f2) hg hxl rfl
 rw [t0, o0, cells1_str] at g0
 rw [t1, o1, cells1_ms] at g1
 rw [t2, o2, cells1_rs] at g2
 rw [cells3_st] at hlen
 match cs, hlen with
 | [a, b, c], _ =>
  obtain ⟨s, e0, -, -⟩ := DataW.trod_string Try.underlying9 g0
  obtain ⟨am, nn, cm, ms, e1, -, hm⟩ := trod_rdl (α := Mt) Try.underlying22 cells3_mt (by decide) (fun _ _ _ h => by
   obtain ⟨a, b, c, rfl⟩ := trod_ints3 meterParts cells3_mt h
   exact ⟨⟨a, b, c⟩, rfl, trivial⟩) g1
  obtain ⟨ar, nr, cr, rs, e2, -, hr⟩ := trod_rdl (α := Rg) Try.underlying23 cells3_rg (by decide) (fun _ _ _ h => by
   obtain ⟨a, b, c, rfl⟩ := trod_ints3 readingParts cells3_rg h
   exact ⟨⟨a, b, c⟩, rfl, trivial⟩) g2
  simp at e0 e1 e2
  subst e0 e1 e2
  exact ⟨s, am, ar, nn, cm, nr, cr, ms, rs, rfl, hm, hr⟩
set_option maxRecDepth 100000 in
theorem open_station {H : Type} {enc : TypeId × Value → H} {w : World} {spare : Nat → Bool} {held : Bool} {v : Value} {d : DataW H} {p : List MemPlace}
  (hv : Value.okWide Try.prog w .any 0 25 v) (h : DataW.Trod enc Try.prog w 0 spare held 25 v d p) :
  ∃ (nm : ByteArray) (am ar : Option Addr) (nn cm nr cr : Nat) (ms : List Mt) (rs : List Rg), v = .agg #[.string nm, .slice am nn cm, .slice ar nr cr] ∧ RdMt w.heap.size w am nn cm ms ∧ RdRg w.heap.size w ar nr cr rs := by
 obtain ⟨f0, f1, f2, he, -⟩ := stationParts
 obtain ⟨cs, rfl, hsz⟩ := okWide_struct he hv
 obtain ⟨fuel, hf⟩ := h
 obtain ⟨nm, am, ar, nn, cm, nr, cr, ms, rs, e, h1, h2⟩ := trod_station hf
 refine ⟨nm, am, ar, nn, cm, nr, cr, ms, rs, ?_, h1, h2⟩
 congr 1
 exact Array.ext' e
end Go.Proofs.Ytlcgckelamhnpaa
namespace Go.Proofs.Ytlcgckelamhnpaa
open Go.RowKit Go.Lib
variable {G : Nat}

theorem MtZ.mono {ms : List Mt} {a b : Int} (h : MtZ ms a) (hab : a ≤ b) : MtZ ms b := fun i z hz => by have := h i z hz; omega
end Go.Proofs.Ytlcgckelamhnpaa
namespace Go.Proofs.Ytlcgckelamhnpaa
open Go.RowKit Go.Lib
variable {G : Nat}

theorem any_nextC {α : Type} {p : α → Bool} {l : List α} {k : Nat} {x : α} {c t : Bool} (hx : l[k]? = some x) (h : (l.take k).any p = c) (h1 : p x = t) : (l.take (k + 1)).any p = (c || t) := by
 rw [take_snoc_at hx, List.any_append, h]; simp [h1]
theorem clash_none {iv : Iv} {ms : List Mt} {rs : List Rg} {x : Rg} {s : Int} (hs : (mtAt ms x.m).s = s) (h : iv s x.c x.d = none) : clashB iv ms rs x = false := by
 unfold clashB rIv; rw [hs, h]
theorem clash_no {iv : Iv} {ms : List Mt} {rs : List Rg} {x : Rg} {s : Int} {lo hi q : Rat} (hs : (mtAt ms x.m).s = s) (h : iv s x.c x.d = some (lo, hi)) (ho : mostO (marksL iv ms rs x.m) x.d = opt false q) : clashB iv ms rs x = false := by
 unfold clashB rIv; rw [hs, h]; show (match mostO (marksL iv ms rs x.m) x.d with | none => false | some h => decide (h < lo)) = false; rw [ho]; rfl
theorem clash_yes {iv : Iv} {ms : List Mt} {rs : List Rg} {x : Rg} {s : Int} {lo hi q : Rat} (hs : (mtAt ms x.m).s = s) (h : iv s x.c x.d = some (lo, hi)) (ho : mostO (marksL iv ms rs x.m) x.d = opt true q) {t : Bool} (ht : decide (q < lo) = t) : clashB iv ms rs x = t := by
 unfold clashB rIv; rw [hs, h]; show (match mostO (marksL iv ms rs x.m) x.d with | none => false | some h => decide (h < lo)) = t; rw [ho]; exact ht
def leastE (iv : Iv) (ms : List Mt) (rs : List Rg) (i : Nat) : List Rat := mkH (ms.getD i ⟨0, 0, 0⟩).f (ms.getD i ⟨0, 0, 0⟩).u (flatF (marksL iv ms rs i) (ms.getD i ⟨0, 0, 0⟩).u (ms.getD i ⟨0, 0, 0⟩).u)
theorem least_is {iv : Iv} {ms : List Mt} {rs : List Rg} {k n : Nat} {hl : List HdX} (h : hl.map HdX.vs = ((List.range k).map (leastE iv ms rs)).map (List.map some)) (hk : k = n) (hn : ms.length = n) : hl.map HdX.vs = (leastH iv ms rs).map (List.map some) := by
 subst hk; rw [h]; unfold leastH; rw [hn]; rfl
theorem leastE_is {iv : Iv} {ms : List Mt} {rs : List Rg} {k : Nat} {z : Mt} (hz : ms[k]? = some z) : leastE iv ms rs k = mkH z.f z.u (flatF (marksL iv ms rs (k : Nat)) z.u z.u) := by
 unfold leastE; rw [show ms.getD k ⟨0, 0, 0⟩ = z by rw [List.getD_eq_getElem?_getD, hz]; rfl]
theorem form_of {iv : Iv} {nb big : Bool} {ms : List Mt} {rs : List Rg} {ce : Int} (h : checkE iv nb big ms rs = ce) (hc : ce = 0 ∨ ce = 16) (hf : nb = false → ¬ (11 : Int) = ce) : formedE nb big ms rs = 0 := by
  unfold checkE at h
  by_cases h0 : formedE nb big ms rs = 0
  · exact h0
  · rw [if_neg h0] at h
    rcases hc with rfl | rfl
    · exact absurd h h0
    · exfalso
      have key : ∀ (f : Nat → Int) (n : Nat), (∀ j, f j = 0 ∨ f j = 1 ∨ f j = 18 ∨ f j = 5) → firstE f n = 0 ∨ firstE f n = 1 ∨ firstE f n = 18 ∨ firstE f n = 5 := fun f n hf => by
        induction n with
        | zero => exact .inl rfl
        | succ n ih =>
          unfold firstE
          split
          · exact hf n
          · exact ih
      have hm : ∀ j, mErr ms j = 0 ∨ mErr ms j = 1 ∨ mErr ms j = 18 ∨ mErr ms j = 5 := fun j => by
        unfold mErr
        split
        · simp
        · split
          · simp
          · split <;> simp
      have hr : ∀ j, rErr ms rs j = 0 ∨ rErr ms rs j = 1 ∨ rErr ms rs j = 18 ∨ rErr ms rs j = 5 := fun j => by
        unfold rErr
        split
        · simp
        · split
          · simp
          · split
            · simp
            · split <;> simp
      have k1 := key _ ms.length hm
      have k2 := key _ rs.length hr
      unfold formedE at h
      split at h
      · omega
      · split at h
        · omega
        · split at h
          · omega
          · omega
theorem iv_u2 {ac ar : Option Addr} {kc kq cc cr : Nat} {cs : List Ct} {rr : List Rc} {sc rd day : Int} {lo hi : Option Rat} {b_ : Bool} {w : World} (hG : G ≤ w.heap.size) (h1 : CtS w ac kc cc cs) (h2 : RcS w ar kq cr rr) (hn1 : kc ≤ 100000) (hn2 : kq ≤ 100000) (hlo : loO cs rr sc rd day = lo) (hhi : hiO cs rr sc rd day = hi) (hb : hasI cs rr sc rd day = b_) :
  Calls Try.prog 25 #[.slice ac kc cc, .slice ar kq cr, .int .i64 sc, .int .i64 rd, .int .i64 day] w fun e w' => ∃ x0 x1 x2 x3 x4 x5 x6 x7, e = .returned (.tuple #[.agg #[x0, x1, x2, x3], .agg #[x4, x5, x6, x7], .bool b_]) ∧ OQ G w' x0 x1 x2 x3 lo ∧ OQ G w' x4 x5 x6 x7 hi ∧ Below w.heap.size w w' := by
 have e1 := h1.len
 have e2 := h2.len
 subst e1 e2
 exact iv_u hG h1 h2 (by omega) (by omega) hlo hhi hb
set_option maxRecDepth 100000 in
set_option maxHeartbeats 4000000 in
theorem ctUnsat {nm : ByteArray} {am ar ac aq : Option Addr} {nn cm nr cr kc cc kq cq : Nat} {ms : List Mt} {rs : List Rg} {cs : List Ct} {rr : List Rc} {w : World} (hG : G ≤ w.heap.size) (hm : RdMt G w am nn cm ms) (hr : RdRg G w ar nr cr rs) (hc : CtS w ac kc cc cs) (hq : RcS w aq kq cq rr)  :
  Calls Try.prog 6 #[.agg #[.string nm, .slice am nn cm, .slice ar nr cr], .slice ac kc cc, .slice aq kq cq] w fun e w' => e = .returned (.bool true) ∧ Below w.heap.size w w' := by
 obtain ⟨ce, hce_⟩ : ∃ k, checkE (ivOf cs rr) (nameOk nm.data.toList) (bigB ms rs cs.length rr.length) ms rs = k := ⟨_, rfl⟩
 have HCE := Lib.hid hce_; clear hce_
 have HM : Hid (RdMt G w am nn cm ms) := hm
 have HR : Hid (RdRg G w ar nr cr rs) := hr
 have HC : Hid (CtS w ac kc cc cs) := hc
 have HQ : Hid (RcS w aq kq cq rr) := hq
 have HN0 : Hid (RdHX G w none 0 0 ([] : List HdX)) := (RdL.nil _ _ _)
 clear hm hr hc hq
 have M : Hid (Below w.heap.size w w) := Below.refl _ _
 go_enter Try.func6, Try.ntmps6
 go_upto_region 1 with fail
 refine nmW (w.alloc (.cells #[.string nm, .slice am nn cm, .slice ar nr cr] 25)) fun w1 hv => ?_
 rw [← hv]
 replace M := alM hv M
 clear hv
 go_wp2_with fail
 refine (ctSane (G := G) (Nat.le_trans hG (J1 M).size)).mono ?_
 rintro e w2 ⟨rfl, hb⟩
 replace M := gnM hb M
 clear hb
 go_upto_region 2 with fail
 rcases Bool.eq_false_or_eq_true (fewCt nn nr nm.size kc kq) with hfw_ | hfw_
 ·
  have HFW : Hid (fewCt nn nr nm.size kc kq = true) := hfw_
  have hln_ := fewCt_len hfw_
  have hnn := hln_.1; have hnr := hln_.2.1; have hsz := hln_.2.2.1; have hkc := hln_.2.2.2.1; have hkq := hln_.2.2.2.2; clear hln_
  rcases Bool.eq_false_or_eq_true (shortB ms) with hsb_ | hsb_
  ·
   have HSB : Hid (shortB ms = true) := hsb_
   clear hsb_
   refine cj3 (M.out.1).d3 fun aa ab ad => ?_
   go_wp2_with fail
   clear aa ab ad
   refine (ctFew (nm := nm) (b_ := true) HFW.out).mono ?_
   rintro e w3 ⟨rfl, hb⟩
   replace M := gnM hb M
   clear hb
   refine cj3 (M.out.1).d3 fun aa ab ad => ?_
   go_wp2_with fail
   clear aa ab ad
   refine (ctShort (G := G) (nm := nm) (b_ := true) (Nat.le_trans hG (J1 M).size) (HM.out.keep (J1 M)) (by omega) HSB.out).mono ?_
   rintro e w4 ⟨rfl, hb⟩
   replace M := gnM hb M
   clear hb
   refine cj3 (M.out.1).d3 fun aa ab ad => ?_
   go_wp2_with fail
   clear aa ab ad
   refine (ctCheck_l (G := G) (nm := nm) (nb := (nameOk nm.data.toList)) (big := (bigB ms rs cs.length rr.length)) (er := ce) (Nat.le_trans hG (J1 M).size) (HM.out.keep (J1 M)) (HR.out.keep (J1 M)) (HC.out.keep (J1 M)) (HQ.out.keep (J1 M)) (by omega) (by omega) (by omega) (by omega) (by omega) rfl rfl HCE.out).mono ?_
   rintro e w5 ⟨rfl, hb⟩
   replace M := gnM hb M
   clear hb
   go_upto_region 5 with fail
   by_cases h0_ : ce = 0
   ·
    subst h0_
    have HFM0 : Hid (formedE (nameOk nm.data.toList) (bigB ms rs cs.length rr.length) ms rs = 0) := (check_zero.1 HCE.out).1
    have HMZ : Hid (MtZ ms 900) := (short_z HSB.out (formed_zero.1 HFM0.out).2.2.1).mono (by omega)
    have HFM : Hid (RgIn ms.length rs) := rgIn_of HFM0.out
    go_wp2_with fail
    go_loopw [9, 10] (fun i9 i10 wr => ∃ (k : Nat) (cb : Bool), i9 = .bool cb ∧ i10 = .int .i64 (k : Int) ∧ Hid (k ≤ nr) ∧ Hid ((rs.take k).any (clashB (ivOf cs rr) ms rs) = cb) ∧ Hid (Bx wr w.heap.size 25 #[.string nm, .slice am nn cm, .slice ar nr cr] ∧ Below w.heap.size w wr)) (fun i9 i10 _ => nr - (RowKit.intOf i10).toNat)
    case atStart =>
     exact ⟨0, false, rfl, rfl, (by show _ ≤ _; omega), (Lib.hid rfl), Lib.hid (aI (M.out.1) (J1 M))⟩
    case round =>
     obtain ⟨w6, rfl⟩ : ∃ x, x = wr := ⟨_, rfl⟩
     clear M
     obtain ⟨k, cb, rfl, rfl, hk, HA, M⟩ := hrel
     have hk := hk.out
     by_cases hlt : k < nr
     ·
      have e1_0 : decide (k < nr) = true := decide_eq_true (by omega)
      have e1_1 : decide ((k : Int) < (nr : Int)) = true := decide_eq_true (by omega)
      have e1_i : (k : Int) < (nr : Int) := by omega
      obtain ⟨br, ofr, rfl, hb_⟩ := RdL.ptr HR.out (by omega : 0 < nr)
      have hbkbr := Lib.hid hb_
      have hkl_ : k < rs.length := by rw [HR.out.len]; exact hlt
      obtain ⟨x_, hx_⟩ : ∃ x, rs[k]? = some x := ⟨rs[k], List.getElem?_eq_getElem hkl_⟩
      obtain ⟨xm, xd, xc⟩ := x_
      have HRx : Hid (Row w br (ofr + k * 3) [.int .i64 xm, .int .i64 xd, .int .i64 xc]) := hb_.row hx_
      have HEx := Lib.hid hx_
      have hlx := hkl_
      clear hx_ hb_ hkl_
      have hx_ := HFM.out k _ HEx.out
      obtain ⟨q, hq_⟩ : ∃ q : Nat, xm = (q : Int) := ⟨xm.toNat, by have := hx_.1; simp only at this; omega⟩
      subst hq_
      have hqn : q < nn := by have h_ := hx_.2; have h2_ := HM.out.len; simp only at h_; omega
      clear hx_
      have eq0_ : decide ((q : Int) < 0) = false := decide_eq_false (by omega)
      have eq1_ : decide ((nn : Int) ≤ (q : Int)) = false := decide_eq_false (by omega)
      have eq2_ : decide (nn ≤ q) = false := decide_eq_false (by omega)
      obtain ⟨bm, ofm, rfl, hb_⟩ := RdL.ptr HM.out (by omega : 0 < nn)
      have hbkbm := Lib.hid hb_
      have hkl_ : q < ms.length := by rw [HM.out.len]; exact hqn
      obtain ⟨z_, hx_⟩ : ∃ x, ms[q]? = some x := ⟨ms[q], List.getElem?_eq_getElem hkl_⟩
      obtain ⟨zs, zf, zu⟩ := z_
      have HRz : Hid (Row w bm (ofm + q * 3) [.int .i64 zs, .int .i64 zf, .int .i64 zu]) := hb_.row hx_
      have HEz := Lib.hid hx_
      have hlz := hkl_
      clear hx_ hb_ hkl_
      have HMT : Hid ((mtAt ms (q : Int)).s = zs) := by show (ms.getD _ _).s = _; rw [show ((q : Int)).toNat = q from rfl, getD_of HEz.out]
      obtain ⟨ol, hol_⟩ : ∃ o, loO cs rr zs xc xd = o := ⟨_, rfl⟩
      have HOL := Lib.hid hol_; clear hol_
      obtain ⟨oh, hoh_⟩ : ∃ o, hiO cs rr zs xc xd = o := ⟨_, rfl⟩
      have HOH := Lib.hid hoh_; clear hoh_
      obtain ⟨bv, hbv_⟩ : ∃ o, hasI cs rr zs xc xd = o := ⟨_, rfl⟩
      have HBV := Lib.hid hbv_; clear hbv_
      obtain ⟨box, qx, hx_, kx_⟩ := opt_of (mostO (marksL (ivOf cs rr) ms rs (q : Int)) xd)
      have HZx : Hid (Fz qx 60) := optZ (by omega) (hx_ ▸ highZ cs rr ms rs (q : Int) xd) kx_
      have HTGx := Lib.hid (opt_getD kx_)
      have HMx := Lib.hid hx_; have HKx := Lib.hid kx_; clear hx_ kx_
      refine cj3 (M.out.1).d3 fun aa ab ad => ?_
      have z0 : w.heap.size < w6.heap.size := (M.out.1).lt
      refine cj3 (HRx.out.keep (J1 M)).c3 fun r0_0 r0_1 r0_2 => ?_
      go_upto_region 12 with fail
      clear aa ab ad z0 r0_0 r0_1 r0_2
      refine nmW (w6.alloc (.cells #[.int .i64 (q : Int), .int .i64 xd, .int .i64 xc] 29)) fun w7 hv => ?_
      rw [← hv]
      have ow1_ : w.heap.size < w6.heap.size := ((M.out.1)).lt
      replace M := alM hv M
      clear hv
      refine cj3 (M.out.1).d3 fun ae af ah => ?_
      refine cj3 (J1 M).1.d3 fun aa ab ad => ?_
      go_upto_region 14 with fail
      clear ae af ah aa ab ad
      go_cut [12, 13, 14] (fun s12 s13 s14 wx => ∃ (A11 : Nat), ∃ (A12 : Nat), ∃ (x_1 : Value), ∃ (x_2 : Value), ∃ (x_3 : Value), ∃ (x_4 : Value), ∃ (x_5 : Value), ∃ (x_6 : Value), ∃ (x_7 : Value), ∃ (x_8 : Value), s12 = .pointer (some ⟨A11, 0, none⟩) ∧ s13 = .pointer (some ⟨A12, 0, none⟩) ∧ s14 = .bool bv ∧ w6.heap.size < A11 ∧ (w6.heap.size < A12 ∧ A11 ≠ A12) ∧ Hid (Bx wx A11 38 #[x_1, x_2, x_3, x_4] ∧ Bx wx A12 38 #[x_5, x_6, x_7, x_8] ∧ OQ G wx x_1 x_2 x_3 x_4 ol ∧ OQ G wx x_5 x_6 x_7 x_8 oh ∧ Bx wx w.heap.size 25 #[.string nm, .slice (some ⟨bm, ofm, none⟩) nn cm, .slice (some ⟨br, ofr, none⟩) nr cr] ∧ Bx wx w6.heap.size 29 #[.int .i64 (q : Int), .int .i64 xd, .int .i64 xc] ∧ Below w.heap.size w wx))
      case first =>
       refine nmW w7.drew fun w8 hv => ?_
       replace M := drM hv M
       refine wp_region_held_drew (S := (fun w' => w'.cell? ⟨w.heap.size, 0, none⟩ = some (.string nm) ∧ w'.cell? ⟨w.heap.size, 1, none⟩ = some (.slice (some ⟨bm, ofm, none⟩) nn cm) ∧ w'.cell? ⟨w.heap.size, 2, none⟩ = some (.slice (some ⟨br, ofr, none⟩) nr cr) ∧ w'.cell? ⟨w6.heap.size, 0, none⟩ = some (.int .i64 (q : Int)) ∧ w'.cell? ⟨w6.heap.size, 1, none⟩ = some (.int .i64 xd) ∧ w'.cell? ⟨w6.heap.size, 2, none⟩ = some (.int .i64 xc) ∧ w'.cell? ⟨bm, ofm + q * 3, none⟩ = some (.int .i64 zs) ∧ w'.cell? ⟨bm, ofm + q * 3 + 1, none⟩ = some (.int .i64 zf) ∧ w'.cell? ⟨bm, ofm + q * 3 + 2, none⟩ = some (.int .i64 zu))) (by kernel_rfl) (by rw [← hv]; exact ((J1 M).1.t3 ((M.out.1).t3 ((HRz.out.keep (J2 M)).c3)))) (fun hH13 => ?_)
       rw [← hv] at hH13 ⊢
       clear hv
       have Mb_ := M
       have lb0_ : w.heap.size < w8.heap.size := ((J1 M).1).lt
       have lb1_ : w6.heap.size < w8.heap.size := ((M.out.1)).lt
       refine tk at0 ?_
       refine tk at1 ?_
       refine tk at2 ?_
       refine tk at3 ?_
       refine tk at4 ?_
       refine tk at5 ?_
       refine tk at6 ?_
       refine tk at7 ?_
       refine tk at8 ?_
       refine tk at9 ?_
       refine tk at10 ?_
       refine tk at11 ?_
       refine tk at12 ?_
       refine wpAnyH_abs (fun X_ a0_ hX_ ha0_ => ?_)
       clear hH13
       have hD9 : ∀ (wk_ : World) (x_14 : Value) (x_15 : Value) (x_16 : Value) (x_17 : Value) (x_18 : Value) (x_19 : Value) (x_20 : Value) (x_21 : Value) (A18_ : Nat) (A19_ : Nat), w8.heap.size ≤ A18_ → w8.heap.size ≤ A19_ → A18_ ≠ A19_ → Hid (Bx wk_ A19_ 38 #[x_18, x_19, x_20, x_21] ∧ Bx wk_ A18_ 38 #[x_14, x_15, x_16, x_17] ∧ OQ G wk_ x_14 x_15 x_16 x_17 ol ∧ OQ G wk_ x_18 x_19 x_20 x_21 oh ∧ Below w8.heap.size w8 wk_) → X_ 0 #[true, true, true, true, true, true, true, true, true, true, true, true, true, true, true, true, true, true, true, true, true, true, true] (Act.put (Act.put (Act.put (Act.put (Act.put (Act.put (Act.put (Act.put a0_ (some 86) (.tuple #[.agg #[x_14, x_15, x_16, x_17], .agg #[x_18, x_19, x_20, x_21], .bool bv])) (some 72) (.tuple #[.agg #[x_14, x_15, x_16, x_17], .agg #[x_18, x_19, x_20, x_21], .bool bv])) (some 87) (.agg #[x_14, x_15, x_16, x_17])) (some 88) (.agg #[x_18, x_19, x_20, x_21])) (some 89) (.bool bv)) (some 12) (.pointer (some ⟨A18_, 0, none⟩))) (some 13) (.pointer (some ⟨A19_, 0, none⟩))) (some 14) (.bool bv)) wk_ := by
        intro wk_ x_14 x_15 x_16 x_17 x_18 x_19 x_20 x_21 A18_ A19_ c0_ c1_ c2_ rel_
        subst hX_ ha0_
        have M := Lib.hid (aI rel_.out.1 (aI rel_.out.2.1 (aI rel_.out.2.2.1 (aI rel_.out.2.2.2.1 (aI rel_.out.2.2.2.2 (Goes.go Mb_.out rel_.out.2.2.2.2))))))
        clear rel_
        have hH24 : (fun w' => w'.cell? ⟨w.heap.size, 0, none⟩ = some (.string nm) ∧ w'.cell? ⟨w.heap.size, 1, none⟩ = some (.slice (some ⟨bm, ofm, none⟩) nn cm) ∧ w'.cell? ⟨w.heap.size, 2, none⟩ = some (.slice (some ⟨br, ofr, none⟩) nr cr) ∧ w'.cell? ⟨w6.heap.size, 0, none⟩ = some (.int .i64 (q : Int)) ∧ w'.cell? ⟨w6.heap.size, 1, none⟩ = some (.int .i64 xd) ∧ w'.cell? ⟨w6.heap.size, 2, none⟩ = some (.int .i64 xc) ∧ w'.cell? ⟨bm, ofm + q * 3, none⟩ = some (.int .i64 zs) ∧ w'.cell? ⟨bm, ofm + q * 3 + 1, none⟩ = some (.int .i64 zf) ∧ w'.cell? ⟨bm, ofm + q * 3 + 2, none⟩ = some (.int .i64 zu)) wk_ := ((J6 M).1.t3 ((J5 M).1.t3 ((HRz.out.keep (J7 M)).c3)))
        (try simp only [Act.put, List.setIfInBounds_toArray, List.set_cons_zero, List.set_cons_succ])
        refine wpAnyH_done (by kernel_rfl) ?_ _
        clear hH24
        go_wp2_with fail
        go_meet
        exact ⟨A18_, A19_, x_14, x_15, x_16, x_17, x_18, x_19, x_20, x_21, rfl, rfl, rfl, (by omega), (by omega), (J1 M).1, (M.out.1), (J2 M).1, (J3 M).1, (J6 M).1, (J5 M).1, (J7 M)⟩
       simp only [ha0_, Act.put, List.setIfInBounds_toArray, List.set_cons_zero, List.set_cons_succ] at hD9
       have hD8 : ∀ (wk_ : World) (x_14 : Value) (x_15 : Value) (x_16 : Value) (x_17 : Value) (x_18 : Value) (x_19 : Value) (x_20 : Value) (x_21 : Value) (A18_ : Nat) (A19_ : Nat), w8.heap.size ≤ A18_ → w8.heap.size ≤ A19_ → A18_ ≠ A19_ → Hid (Bx wk_ A19_ 38 #[.int .i64 0, .slice none 0 0, .int .i64 0, .slice none 0 0] ∧ Bx wk_ A18_ 38 #[x_14, x_15, x_16, x_17] ∧ OQ G wk_ x_14 x_15 x_16 x_17 ol ∧ OQ G wk_ x_18 x_19 x_20 x_21 oh ∧ Below w8.heap.size w8 wk_) → X_ 2 #[true, true, true, true, true, true, true, true, true, true, true, true, true, true, true, true, true, true, true, true, true, false, false] (Act.put (Act.put (Act.put (Act.put (Act.put (Act.put (Act.put a0_ (some 86) (.tuple #[.agg #[x_14, x_15, x_16, x_17], .agg #[x_18, x_19, x_20, x_21], .bool bv])) (some 72) (.tuple #[.agg #[x_14, x_15, x_16, x_17], .agg #[x_18, x_19, x_20, x_21], .bool bv])) (some 87) (.agg #[x_14, x_15, x_16, x_17])) (some 88) (.agg #[x_18, x_19, x_20, x_21])) (some 89) (.bool bv)) (some 12) (.pointer (some ⟨A18_, 0, none⟩))) (some 13) (.pointer (some ⟨A19_, 0, none⟩))) wk_ := by
        intro wk_ x_14 x_15 x_16 x_17 x_18 x_19 x_20 x_21 A18_ A19_ c0_ c1_ c2_ rel_
        subst hX_ ha0_
        have M := Lib.hid (aI rel_.out.1 (aI rel_.out.2.1 (aI rel_.out.2.2.1 (aI rel_.out.2.2.2.1 (aI rel_.out.2.2.2.2 (Goes.go Mb_.out rel_.out.2.2.2.2))))))
        clear rel_
        have hH25 : (fun w' => w'.cell? ⟨w.heap.size, 0, none⟩ = some (.string nm) ∧ w'.cell? ⟨w.heap.size, 1, none⟩ = some (.slice (some ⟨bm, ofm, none⟩) nn cm) ∧ w'.cell? ⟨w.heap.size, 2, none⟩ = some (.slice (some ⟨br, ofr, none⟩) nr cr) ∧ w'.cell? ⟨w6.heap.size, 0, none⟩ = some (.int .i64 (q : Int)) ∧ w'.cell? ⟨w6.heap.size, 1, none⟩ = some (.int .i64 xd) ∧ w'.cell? ⟨w6.heap.size, 2, none⟩ = some (.int .i64 xc) ∧ w'.cell? ⟨bm, ofm + q * 3, none⟩ = some (.int .i64 zs) ∧ w'.cell? ⟨bm, ofm + q * 3 + 1, none⟩ = some (.int .i64 zf) ∧ w'.cell? ⟨bm, ofm + q * 3 + 2, none⟩ = some (.int .i64 zu)) wk_ := ((J6 M).1.t3 ((J5 M).1.t3 ((HRz.out.keep (J7 M)).c3)))
        (try simp only [Act.put, List.setIfInBounds_toArray, List.set_cons_zero, List.set_cons_succ])
        have lw_ := ((J4 M).1).size
        have l18_ := ((J1 M).1).lt
        have l19_ := ((M.out.1)).lt
        refine wpAnyH_ready (rs := [21]) (by kernel_rfl) (by simp) ?_
        refine AllReadyH.cons at21 (fun K hK => ?_) AllReadyH.nil
        refine cj8 (M.out.1).c4 fun ai aj ak al ao ap au av => ?_
        refine cj4 (TQ.st (J3 M).1) fun aw ax ay az => ?_
        go_simp
        clear ai aj ak al ao ap au av aw ax ay az
        have hz : w.heap.size ≤ A19_ := by omega
        refine st4W (x_18) (x_19) (x_20) (x_21) (M.out.1) (J7 M) hz fun w9 hv og hk hbw => ?_
        rw [← hv]
        replace M := Lib.hid (aI hk (aI ((J1 M).1.only og (by omega)) (aI ((J2 M).1.far (M.out.1) (by rfl) (by omega) og) (aI ((J3 M).1.far (M.out.1) (by rfl) (by omega) og) (aI (show Below w8.heap.size w8 w9 from by rw [hv]; exact (Below.setCell (Below.setCell (Below.setCell (Below.setCell (J4 M).1 (by omega) _) (by omega) _) (by omega) _) (by omega) _)) (aI ((J5 M).1.only og (by omega)) (aI ((J6 M).1.only og (by omega)) hbw)))))))
        clear hk hbw og hv hz
        refine hK.out _ _ (((J6 M).1.t3 ((J5 M).1.t3 ((HRz.out.keep (J7 M)).c3)))) (fun hH26 => ?_)
        clear hK K hH25
        (try simp only [Act.put, List.setIfInBounds_toArray, List.set_cons_zero, List.set_cons_succ])
        refine tk at22 ?_
        exact at_node (by kernel_rfl) (hD9 w9 x_14 x_15 x_16 x_17 x_18 x_19 x_20 x_21 A18_ A19_ (by omega) (by omega) (by omega) (Lib.hid ⟨(M.out.1), (J1 M).1, (J2 M).1, (J3 M).1, (J4 M).1⟩))
       simp only [ha0_, Act.put, List.setIfInBounds_toArray, List.set_cons_zero, List.set_cons_succ] at hD8
       have hD7 : ∀ (wk_ : World) (x_14 : Value) (x_15 : Value) (x_16 : Value) (x_17 : Value) (x_18 : Value) (x_19 : Value) (x_20 : Value) (x_21 : Value) (A18_ : Nat) (A19_ : Nat), w8.heap.size ≤ A18_ → w8.heap.size ≤ A19_ → A18_ ≠ A19_ → Hid (Bx wk_ A19_ 38 #[.int .i64 0, .slice none 0 0, .int .i64 0, .slice none 0 0] ∧ Bx wk_ A18_ 38 #[.int .i64 0, .slice none 0 0, .int .i64 0, .slice none 0 0] ∧ OQ G wk_ x_14 x_15 x_16 x_17 ol ∧ OQ G wk_ x_18 x_19 x_20 x_21 oh ∧ Below w8.heap.size w8 wk_) → X_ 3 #[true, true, true, true, true, true, true, true, true, true, true, true, true, true, true, true, true, true, true, true, false, false, false] (Act.put (Act.put (Act.put (Act.put (Act.put (Act.put (Act.put a0_ (some 86) (.tuple #[.agg #[x_14, x_15, x_16, x_17], .agg #[x_18, x_19, x_20, x_21], .bool bv])) (some 72) (.tuple #[.agg #[x_14, x_15, x_16, x_17], .agg #[x_18, x_19, x_20, x_21], .bool bv])) (some 87) (.agg #[x_14, x_15, x_16, x_17])) (some 88) (.agg #[x_18, x_19, x_20, x_21])) (some 89) (.bool bv)) (some 12) (.pointer (some ⟨A18_, 0, none⟩))) (some 13) (.pointer (some ⟨A19_, 0, none⟩))) wk_ := by
        intro wk_ x_14 x_15 x_16 x_17 x_18 x_19 x_20 x_21 A18_ A19_ c0_ c1_ c2_ rel_
        subst hX_ ha0_
        have M := Lib.hid (aI rel_.out.1 (aI rel_.out.2.1 (aI rel_.out.2.2.1 (aI rel_.out.2.2.2.1 (aI rel_.out.2.2.2.2 (Goes.go Mb_.out rel_.out.2.2.2.2))))))
        clear rel_
        have hH27 : (fun w' => w'.cell? ⟨w.heap.size, 0, none⟩ = some (.string nm) ∧ w'.cell? ⟨w.heap.size, 1, none⟩ = some (.slice (some ⟨bm, ofm, none⟩) nn cm) ∧ w'.cell? ⟨w.heap.size, 2, none⟩ = some (.slice (some ⟨br, ofr, none⟩) nr cr) ∧ w'.cell? ⟨w6.heap.size, 0, none⟩ = some (.int .i64 (q : Int)) ∧ w'.cell? ⟨w6.heap.size, 1, none⟩ = some (.int .i64 xd) ∧ w'.cell? ⟨w6.heap.size, 2, none⟩ = some (.int .i64 xc) ∧ w'.cell? ⟨bm, ofm + q * 3, none⟩ = some (.int .i64 zs) ∧ w'.cell? ⟨bm, ofm + q * 3 + 1, none⟩ = some (.int .i64 zf) ∧ w'.cell? ⟨bm, ofm + q * 3 + 2, none⟩ = some (.int .i64 zu)) wk_ := ((J6 M).1.t3 ((J5 M).1.t3 ((HRz.out.keep (J7 M)).c3)))
        (try simp only [Act.put, List.setIfInBounds_toArray, List.set_cons_zero, List.set_cons_succ])
        have lw_ := ((J4 M).1).size
        have l18_ := ((J1 M).1).lt
        have l19_ := ((M.out.1)).lt
        refine wpAnyH_ready (rs := [20]) (by kernel_rfl) (by simp) ?_
        refine AllReadyH.cons at20 (fun K hK => ?_) AllReadyH.nil
        refine cj8 (J1 M).1.c4 fun ba bb bc bd bf bg bh bi => ?_
        refine cj4 (TQ.st (J2 M).1) fun bj bk bl bn => ?_
        go_simp
        clear ba bb bc bd bf bg bh bi bj bk bl bn
        have hz : w.heap.size ≤ A18_ := by omega
        refine st4W (x_14) (x_15) (x_16) (x_17) (J1 M).1 (J7 M) hz fun w9 hv og hk hbw => ?_
        rw [← hv]
        replace M := Lib.hid (aI ((M.out.1).only og (by omega)) (aI hk (aI ((J2 M).1.far (J1 M).1 (by rfl) (by omega) og) (aI ((J3 M).1.far (J1 M).1 (by rfl) (by omega) og) (aI (show Below w8.heap.size w8 w9 from by rw [hv]; exact (Below.setCell (Below.setCell (Below.setCell (Below.setCell (J4 M).1 (by omega) _) (by omega) _) (by omega) _) (by omega) _)) (aI ((J5 M).1.only og (by omega)) (aI ((J6 M).1.only og (by omega)) hbw)))))))
        clear hk hbw og hv hz
        refine hK.out _ _ (((J6 M).1.t3 ((J5 M).1.t3 ((HRz.out.keep (J7 M)).c3)))) (fun hH28 => ?_)
        clear hK K hH27
        (try simp only [Act.put, List.setIfInBounds_toArray, List.set_cons_zero, List.set_cons_succ])
        exact at_node (by kernel_rfl) (hD8 w9 x_14 x_15 x_16 x_17 x_18 x_19 x_20 x_21 A18_ A19_ (by omega) (by omega) (by omega) (Lib.hid ⟨(M.out.1), (J1 M).1, (J2 M).1, (J3 M).1, (J4 M).1⟩))
       simp only [ha0_, Act.put, List.setIfInBounds_toArray, List.set_cons_zero, List.set_cons_succ] at hD7
       have hD4 : ∀ (wk_ : World) (x_14 : Value) (x_15 : Value) (x_16 : Value) (x_17 : Value) (x_18 : Value) (x_19 : Value) (x_20 : Value) (x_21 : Value) (A18_ : Nat), w8.heap.size ≤ A18_ → Hid (Bx wk_ A18_ 38 #[.int .i64 0, .slice none 0 0, .int .i64 0, .slice none 0 0] ∧ OQ G wk_ x_14 x_15 x_16 x_17 ol ∧ OQ G wk_ x_18 x_19 x_20 x_21 oh ∧ Below w8.heap.size w8 wk_) → X_ 4 #[true, true, true, true, true, true, true, true, true, true, true, true, true, true, true, true, true, true, true, false, false, false, false] (Act.put (Act.put (Act.put (Act.put (Act.put (Act.put a0_ (some 86) (.tuple #[.agg #[x_14, x_15, x_16, x_17], .agg #[x_18, x_19, x_20, x_21], .bool bv])) (some 72) (.tuple #[.agg #[x_14, x_15, x_16, x_17], .agg #[x_18, x_19, x_20, x_21], .bool bv])) (some 87) (.agg #[x_14, x_15, x_16, x_17])) (some 88) (.agg #[x_18, x_19, x_20, x_21])) (some 89) (.bool bv)) (some 12) (.pointer (some ⟨A18_, 0, none⟩))) wk_ := by
        intro wk_ x_14 x_15 x_16 x_17 x_18 x_19 x_20 x_21 A18_ c0_ rel_
        subst hX_ ha0_
        have M := Lib.hid (aI rel_.out.1 (aI rel_.out.2.1 (aI rel_.out.2.2.1 (aI rel_.out.2.2.2 (Goes.go Mb_.out rel_.out.2.2.2)))))
        clear rel_
        have hH29 : (fun w' => w'.cell? ⟨w.heap.size, 0, none⟩ = some (.string nm) ∧ w'.cell? ⟨w.heap.size, 1, none⟩ = some (.slice (some ⟨bm, ofm, none⟩) nn cm) ∧ w'.cell? ⟨w.heap.size, 2, none⟩ = some (.slice (some ⟨br, ofr, none⟩) nr cr) ∧ w'.cell? ⟨w6.heap.size, 0, none⟩ = some (.int .i64 (q : Int)) ∧ w'.cell? ⟨w6.heap.size, 1, none⟩ = some (.int .i64 xd) ∧ w'.cell? ⟨w6.heap.size, 2, none⟩ = some (.int .i64 xc) ∧ w'.cell? ⟨bm, ofm + q * 3, none⟩ = some (.int .i64 zs) ∧ w'.cell? ⟨bm, ofm + q * 3 + 1, none⟩ = some (.int .i64 zf) ∧ w'.cell? ⟨bm, ofm + q * 3 + 2, none⟩ = some (.int .i64 zu)) wk_ := ((J5 M).1.t3 ((J4 M).1.t3 ((HRz.out.keep (J6 M)).c3)))
        (try simp only [Act.put, List.setIfInBounds_toArray, List.set_cons_zero, List.set_cons_succ])
        have lw_ := ((J3 M).1).size
        have l18_ := ((M.out.1)).lt
        refine wpAnyH_ready (rs := [19]) (by kernel_rfl) (by simp) ?_
        refine AllReadyH.cons at19 (fun K hK => ?_) AllReadyH.nil
        go_simp
        refine nmW (wk_.alloc (.cells #[.int .i64 0, .slice none 0 0, .int .i64 0, .slice none 0 0] 38)) fun w9 hv => ?_
        rw [← hv]
        have ow3_ : A18_ < wk_.heap.size := ((M.out.1)).lt
        replace M := alM hv M
        clear hv
        refine hK.out _ _ (((J6 M).1.t3 ((J5 M).1.t3 ((HRz.out.keep (J7 M)).c3)))) (fun hH30 => ?_)
        clear hK K hH29
        (try simp only [Act.put, List.setIfInBounds_toArray, List.set_cons_zero, List.set_cons_succ])
        exact at_node (by kernel_rfl) (hD7 w9 x_14 x_15 x_16 x_17 x_18 x_19 x_20 x_21 A18_ wk_.heap.size (by omega) (by omega) (by omega) (Lib.hid ⟨(M.out.1), (J1 M).1, (J2 M).1, (J3 M).1, (J4 M).1⟩))
       simp only [ha0_, Act.put, List.setIfInBounds_toArray, List.set_cons_zero, List.set_cons_succ] at hD4
       have hD5 : ∀ (wk_ : World) (x_14 : Value) (x_15 : Value) (x_16 : Value) (x_17 : Value) (x_18 : Value) (x_19 : Value) (x_20 : Value) (x_21 : Value) (A19_ : Nat), w8.heap.size ≤ A19_ → Hid (Bx wk_ A19_ 38 #[.int .i64 0, .slice none 0 0, .int .i64 0, .slice none 0 0] ∧ OQ G wk_ x_14 x_15 x_16 x_17 ol ∧ OQ G wk_ x_18 x_19 x_20 x_21 oh ∧ Below w8.heap.size w8 wk_) → X_ 4 #[true, true, true, true, true, true, true, true, true, true, true, true, true, true, true, true, true, true, false, true, false, false, false] (Act.put (Act.put (Act.put (Act.put (Act.put (Act.put a0_ (some 86) (.tuple #[.agg #[x_14, x_15, x_16, x_17], .agg #[x_18, x_19, x_20, x_21], .bool bv])) (some 72) (.tuple #[.agg #[x_14, x_15, x_16, x_17], .agg #[x_18, x_19, x_20, x_21], .bool bv])) (some 87) (.agg #[x_14, x_15, x_16, x_17])) (some 88) (.agg #[x_18, x_19, x_20, x_21])) (some 89) (.bool bv)) (some 13) (.pointer (some ⟨A19_, 0, none⟩))) wk_ := by
        intro wk_ x_14 x_15 x_16 x_17 x_18 x_19 x_20 x_21 A19_ c0_ rel_
        subst hX_ ha0_
        have M := Lib.hid (aI rel_.out.1 (aI rel_.out.2.1 (aI rel_.out.2.2.1 (aI rel_.out.2.2.2 (Goes.go Mb_.out rel_.out.2.2.2)))))
        clear rel_
        have hH31 : (fun w' => w'.cell? ⟨w.heap.size, 0, none⟩ = some (.string nm) ∧ w'.cell? ⟨w.heap.size, 1, none⟩ = some (.slice (some ⟨bm, ofm, none⟩) nn cm) ∧ w'.cell? ⟨w.heap.size, 2, none⟩ = some (.slice (some ⟨br, ofr, none⟩) nr cr) ∧ w'.cell? ⟨w6.heap.size, 0, none⟩ = some (.int .i64 (q : Int)) ∧ w'.cell? ⟨w6.heap.size, 1, none⟩ = some (.int .i64 xd) ∧ w'.cell? ⟨w6.heap.size, 2, none⟩ = some (.int .i64 xc) ∧ w'.cell? ⟨bm, ofm + q * 3, none⟩ = some (.int .i64 zs) ∧ w'.cell? ⟨bm, ofm + q * 3 + 1, none⟩ = some (.int .i64 zf) ∧ w'.cell? ⟨bm, ofm + q * 3 + 2, none⟩ = some (.int .i64 zu)) wk_ := ((J5 M).1.t3 ((J4 M).1.t3 ((HRz.out.keep (J6 M)).c3)))
        (try simp only [Act.put, List.setIfInBounds_toArray, List.set_cons_zero, List.set_cons_succ])
        have lw_ := ((J3 M).1).size
        have l19_ := ((M.out.1)).lt
        refine wpAnyH_ready (rs := [18]) (by kernel_rfl) (by simp) ?_
        refine AllReadyH.cons at18 (fun K hK => ?_) AllReadyH.nil
        go_simp
        refine nmW (wk_.alloc (.cells #[.int .i64 0, .slice none 0 0, .int .i64 0, .slice none 0 0] 38)) fun w9 hv => ?_
        rw [← hv]
        have ow3_ : A19_ < wk_.heap.size := ((M.out.1)).lt
        replace M := alM hv M
        clear hv
        refine hK.out _ _ (((J6 M).1.t3 ((J5 M).1.t3 ((HRz.out.keep (J7 M)).c3)))) (fun hH32 => ?_)
        clear hK K hH31
        (try simp only [Act.put, List.setIfInBounds_toArray, List.set_cons_zero, List.set_cons_succ])
        exact at_node (by kernel_rfl) (hD7 w9 x_14 x_15 x_16 x_17 x_18 x_19 x_20 x_21 wk_.heap.size A19_ (by omega) (by omega) (by omega) (Lib.hid ⟨(J1 M).1, (M.out.1), (J2 M).1, (J3 M).1, (J4 M).1⟩))
       simp only [ha0_, Act.put, List.setIfInBounds_toArray, List.set_cons_zero, List.set_cons_succ] at hD5
       have hD6 : ∀ (wk_ : World) (A18_ : Nat) (A19_ : Nat), w8.heap.size ≤ A18_ → w8.heap.size ≤ A19_ → A18_ ≠ A19_ → Hid (Bx wk_ A19_ 38 #[.int .i64 0, .slice none 0 0, .int .i64 0, .slice none 0 0] ∧ Bx wk_ A18_ 38 #[.int .i64 0, .slice none 0 0, .int .i64 0, .slice none 0 0] ∧ Below w8.heap.size w8 wk_) → X_ 8 #[true, true, true, true, true, true, true, true, true, true, true, true, true, false, false, false, false, false, true, true, false, false, false] (Act.put (Act.put a0_ (some 12) (.pointer (some ⟨A18_, 0, none⟩))) (some 13) (.pointer (some ⟨A19_, 0, none⟩))) wk_ := by
        intro wk_ A18_ A19_ c0_ c1_ c2_ rel_
        subst hX_ ha0_
        have M := Lib.hid (aI rel_.out.1 (aI rel_.out.2.1 (aI rel_.out.2.2 (Goes.go Mb_.out rel_.out.2.2))))
        clear rel_
        have hH33 : (fun w' => w'.cell? ⟨w.heap.size, 0, none⟩ = some (.string nm) ∧ w'.cell? ⟨w.heap.size, 1, none⟩ = some (.slice (some ⟨bm, ofm, none⟩) nn cm) ∧ w'.cell? ⟨w.heap.size, 2, none⟩ = some (.slice (some ⟨br, ofr, none⟩) nr cr) ∧ w'.cell? ⟨w6.heap.size, 0, none⟩ = some (.int .i64 (q : Int)) ∧ w'.cell? ⟨w6.heap.size, 1, none⟩ = some (.int .i64 xd) ∧ w'.cell? ⟨w6.heap.size, 2, none⟩ = some (.int .i64 xc) ∧ w'.cell? ⟨bm, ofm + q * 3, none⟩ = some (.int .i64 zs) ∧ w'.cell? ⟨bm, ofm + q * 3 + 1, none⟩ = some (.int .i64 zf) ∧ w'.cell? ⟨bm, ofm + q * 3 + 2, none⟩ = some (.int .i64 zu)) wk_ := ((J4 M).1.t3 ((J3 M).1.t3 ((HRz.out.keep (J5 M)).c3)))
        (try simp only [Act.put, List.setIfInBounds_toArray, List.set_cons_zero, List.set_cons_succ])
        have lw_ := ((J2 M).1).size
        have l18_ := ((J1 M).1).lt
        have l19_ := ((M.out.1)).lt
        refine wpAnyH_ready (rs := [13]) (by kernel_rfl) (by simp) ?_
        refine AllReadyH.cons at13 (fun K hK => ?_) AllReadyH.nil
        go_simp
        refine (iv_u2 (G := G) (sc := zs) (rd := xc) (day := xd) (lo := ol) (hi := oh) (b_ := bv) (Nat.le_trans hG (J5 M).size) (HC.out.keep (J5 M)) (HQ.out.keep (J5 M)) (by omega) (by omega) HOL.out HOH.out HBV.out).mono ?_
        rintro e w9 ⟨x_34, x_35, x_36, x_37, x_38, x_39, x_40, x_41, rfl, hd42, hd43, hb⟩
        replace M := ad2M hd42 hd43 hb M
        clear hb hd42 hd43
        (try go_wp2_with fail)
        refine hK.out _ _ (((J6 M).1.t3 ((J5 M).1.t3 ((HRz.out.keep (J7 M)).c3)))) (fun hH44 => ?_)
        clear hK K hH33
        (try simp only [Act.put, List.setIfInBounds_toArray, List.set_cons_zero, List.set_cons_succ])
        refine tk at14 ?_
        refine tk at15 ?_
        refine tk at16 ?_
        refine tk at17 ?_
        exact at_node (by kernel_rfl) (hD7 w9 x_34 x_35 x_36 x_37 x_38 x_39 x_40 x_41 A18_ A19_ (by omega) (by omega) (by omega) (Lib.hid ⟨(J2 M).1, (J3 M).1, (M.out.1), (J1 M).1, (J4 M).1⟩))
       simp only [ha0_, Act.put, List.setIfInBounds_toArray, List.set_cons_zero, List.set_cons_succ] at hD6
       have hD1 : ∀ (wk_ : World) (x_14 : Value) (x_15 : Value) (x_16 : Value) (x_17 : Value) (x_18 : Value) (x_19 : Value) (x_20 : Value) (x_21 : Value), Hid (OQ G wk_ x_14 x_15 x_16 x_17 ol ∧ OQ G wk_ x_18 x_19 x_20 x_21 oh ∧ Below w8.heap.size w8 wk_) → X_ 5 #[true, true, true, true, true, true, true, true, true, true, true, true, true, true, true, true, true, true, false, false, false, false, false] (Act.put (Act.put (Act.put (Act.put (Act.put a0_ (some 86) (.tuple #[.agg #[x_14, x_15, x_16, x_17], .agg #[x_18, x_19, x_20, x_21], .bool bv])) (some 72) (.tuple #[.agg #[x_14, x_15, x_16, x_17], .agg #[x_18, x_19, x_20, x_21], .bool bv])) (some 87) (.agg #[x_14, x_15, x_16, x_17])) (some 88) (.agg #[x_18, x_19, x_20, x_21])) (some 89) (.bool bv)) wk_ := by
        intro wk_ x_14 x_15 x_16 x_17 x_18 x_19 x_20 x_21 rel_
        subst hX_ ha0_
        have M := Lib.hid (aI rel_.out.1 (aI rel_.out.2.1 (aI rel_.out.2.2 (Goes.go Mb_.out rel_.out.2.2))))
        clear rel_
        have hH45 : (fun w' => w'.cell? ⟨w.heap.size, 0, none⟩ = some (.string nm) ∧ w'.cell? ⟨w.heap.size, 1, none⟩ = some (.slice (some ⟨bm, ofm, none⟩) nn cm) ∧ w'.cell? ⟨w.heap.size, 2, none⟩ = some (.slice (some ⟨br, ofr, none⟩) nr cr) ∧ w'.cell? ⟨w6.heap.size, 0, none⟩ = some (.int .i64 (q : Int)) ∧ w'.cell? ⟨w6.heap.size, 1, none⟩ = some (.int .i64 xd) ∧ w'.cell? ⟨w6.heap.size, 2, none⟩ = some (.int .i64 xc) ∧ w'.cell? ⟨bm, ofm + q * 3, none⟩ = some (.int .i64 zs) ∧ w'.cell? ⟨bm, ofm + q * 3 + 1, none⟩ = some (.int .i64 zf) ∧ w'.cell? ⟨bm, ofm + q * 3 + 2, none⟩ = some (.int .i64 zu)) wk_ := ((J4 M).1.t3 ((J3 M).1.t3 ((HRz.out.keep (J5 M)).c3)))
        (try simp only [Act.put, List.setIfInBounds_toArray, List.set_cons_zero, List.set_cons_succ])
        have lw_ := ((J2 M).1).size
        refine wpAnyH_ready (rs := [18, 19]) (by kernel_rfl) (by simp) ?_
        refine AllReadyH.cons at18 (fun K hK => ?_) ?_
        ·
         go_simp
         refine nmW (wk_.alloc (.cells #[.int .i64 0, .slice none 0 0, .int .i64 0, .slice none 0 0] 38)) fun w9 hv => ?_
         rw [← hv]
         have ow2_ : w6.heap.size < wk_.heap.size := ((J3 M).1).lt
         replace M := alM hv M
         clear hv
         refine hK.out _ _ (((J5 M).1.t3 ((J4 M).1.t3 ((HRz.out.keep (J6 M)).c3)))) (fun hH46 => ?_)
         clear hK K hH45
         (try simp only [Act.put, List.setIfInBounds_toArray, List.set_cons_zero, List.set_cons_succ])
         exact at_node (by kernel_rfl) (hD4 w9 x_14 x_15 x_16 x_17 x_18 x_19 x_20 x_21 wk_.heap.size (by omega) (Lib.hid ⟨(M.out.1), (J1 M).1, (J2 M).1, (J3 M).1⟩))
        refine AllReadyH.cons at19 (fun K hK => ?_) AllReadyH.nil
        go_simp
        refine nmW (wk_.alloc (.cells #[.int .i64 0, .slice none 0 0, .int .i64 0, .slice none 0 0] 38)) fun w9 hv => ?_
        rw [← hv]
        have ow2_ : w6.heap.size < wk_.heap.size := ((J3 M).1).lt
        replace M := alM hv M
        clear hv
        refine hK.out _ _ (((J5 M).1.t3 ((J4 M).1.t3 ((HRz.out.keep (J6 M)).c3)))) (fun hH47 => ?_)
        clear hK K hH45
        (try simp only [Act.put, List.setIfInBounds_toArray, List.set_cons_zero, List.set_cons_succ])
        exact at_node (by kernel_rfl) (hD5 w9 x_14 x_15 x_16 x_17 x_18 x_19 x_20 x_21 wk_.heap.size (by omega) (Lib.hid ⟨(M.out.1), (J1 M).1, (J2 M).1, (J3 M).1⟩))
       simp only [ha0_, Act.put, List.setIfInBounds_toArray, List.set_cons_zero, List.set_cons_succ] at hD1
       have hD2 : ∀ (wk_ : World) (A18_ : Nat), w8.heap.size ≤ A18_ → Hid (Bx wk_ A18_ 38 #[.int .i64 0, .slice none 0 0, .int .i64 0, .slice none 0 0] ∧ Below w8.heap.size w8 wk_) → X_ 9 #[true, true, true, true, true, true, true, true, true, true, true, true, true, false, false, false, false, false, true, false, false, false, false] (Act.put a0_ (some 12) (.pointer (some ⟨A18_, 0, none⟩))) wk_ := by
        intro wk_ A18_ c0_ rel_
        subst hX_ ha0_
        have M := Lib.hid (aI rel_.out.1 (aI rel_.out.2 (Goes.go Mb_.out rel_.out.2)))
        clear rel_
        have hH48 : (fun w' => w'.cell? ⟨w.heap.size, 0, none⟩ = some (.string nm) ∧ w'.cell? ⟨w.heap.size, 1, none⟩ = some (.slice (some ⟨bm, ofm, none⟩) nn cm) ∧ w'.cell? ⟨w.heap.size, 2, none⟩ = some (.slice (some ⟨br, ofr, none⟩) nr cr) ∧ w'.cell? ⟨w6.heap.size, 0, none⟩ = some (.int .i64 (q : Int)) ∧ w'.cell? ⟨w6.heap.size, 1, none⟩ = some (.int .i64 xd) ∧ w'.cell? ⟨w6.heap.size, 2, none⟩ = some (.int .i64 xc) ∧ w'.cell? ⟨bm, ofm + q * 3, none⟩ = some (.int .i64 zs) ∧ w'.cell? ⟨bm, ofm + q * 3 + 1, none⟩ = some (.int .i64 zf) ∧ w'.cell? ⟨bm, ofm + q * 3 + 2, none⟩ = some (.int .i64 zu)) wk_ := ((J3 M).1.t3 ((J2 M).1.t3 ((HRz.out.keep (J4 M)).c3)))
        (try simp only [Act.put, List.setIfInBounds_toArray, List.set_cons_zero, List.set_cons_succ])
        have lw_ := ((J1 M).1).size
        have l18_ := ((M.out.1)).lt
        refine wpAnyH_ready (rs := [13, 19]) (by kernel_rfl) (by simp) ?_
        refine AllReadyH.cons at13 (fun K hK => ?_) ?_
        ·
         go_simp
         refine (iv_u2 (G := G) (sc := zs) (rd := xc) (day := xd) (lo := ol) (hi := oh) (b_ := bv) (Nat.le_trans hG (J4 M).size) (HC.out.keep (J4 M)) (HQ.out.keep (J4 M)) (by omega) (by omega) HOL.out HOH.out HBV.out).mono ?_
         rintro e w9 ⟨x_49, x_50, x_51, x_52, x_53, x_54, x_55, x_56, rfl, hd57, hd58, hb⟩
         replace M := ad2M hd57 hd58 hb M
         clear hb hd57 hd58
         (try go_wp2_with fail)
         refine hK.out _ _ (((J5 M).1.t3 ((J4 M).1.t3 ((HRz.out.keep (J6 M)).c3)))) (fun hH59 => ?_)
         clear hK K hH48
         (try simp only [Act.put, List.setIfInBounds_toArray, List.set_cons_zero, List.set_cons_succ])
         refine tk at14 ?_
         refine tk at15 ?_
         refine tk at16 ?_
         refine tk at17 ?_
         exact at_node (by kernel_rfl) (hD4 w9 x_49 x_50 x_51 x_52 x_53 x_54 x_55 x_56 A18_ (by omega) (Lib.hid ⟨(J2 M).1, (M.out.1), (J1 M).1, (J3 M).1⟩))
        refine AllReadyH.cons at19 (fun K hK => ?_) AllReadyH.nil
        go_simp
        refine nmW (wk_.alloc (.cells #[.int .i64 0, .slice none 0 0, .int .i64 0, .slice none 0 0] 38)) fun w9 hv => ?_
        rw [← hv]
        have ow3_ : A18_ < wk_.heap.size := ((M.out.1)).lt
        replace M := alM hv M
        clear hv
        refine hK.out _ _ (((J4 M).1.t3 ((J3 M).1.t3 ((HRz.out.keep (J5 M)).c3)))) (fun hH60 => ?_)
        clear hK K hH48
        (try simp only [Act.put, List.setIfInBounds_toArray, List.set_cons_zero, List.set_cons_succ])
        exact at_node (by kernel_rfl) (hD6 w9 A18_ wk_.heap.size (by omega) (by omega) (by omega) (Lib.hid ⟨(M.out.1), (J1 M).1, (J2 M).1⟩))
       simp only [ha0_, Act.put, List.setIfInBounds_toArray, List.set_cons_zero, List.set_cons_succ] at hD2
       have hD3 : ∀ (wk_ : World) (A19_ : Nat), w8.heap.size ≤ A19_ → Hid (Bx wk_ A19_ 38 #[.int .i64 0, .slice none 0 0, .int .i64 0, .slice none 0 0] ∧ Below w8.heap.size w8 wk_) → X_ 9 #[true, true, true, true, true, true, true, true, true, true, true, true, true, false, false, false, false, false, false, true, false, false, false] (Act.put a0_ (some 13) (.pointer (some ⟨A19_, 0, none⟩))) wk_ := by
        intro wk_ A19_ c0_ rel_
        subst hX_ ha0_
        have M := Lib.hid (aI rel_.out.1 (aI rel_.out.2 (Goes.go Mb_.out rel_.out.2)))
        clear rel_
        have hH61 : (fun w' => w'.cell? ⟨w.heap.size, 0, none⟩ = some (.string nm) ∧ w'.cell? ⟨w.heap.size, 1, none⟩ = some (.slice (some ⟨bm, ofm, none⟩) nn cm) ∧ w'.cell? ⟨w.heap.size, 2, none⟩ = some (.slice (some ⟨br, ofr, none⟩) nr cr) ∧ w'.cell? ⟨w6.heap.size, 0, none⟩ = some (.int .i64 (q : Int)) ∧ w'.cell? ⟨w6.heap.size, 1, none⟩ = some (.int .i64 xd) ∧ w'.cell? ⟨w6.heap.size, 2, none⟩ = some (.int .i64 xc) ∧ w'.cell? ⟨bm, ofm + q * 3, none⟩ = some (.int .i64 zs) ∧ w'.cell? ⟨bm, ofm + q * 3 + 1, none⟩ = some (.int .i64 zf) ∧ w'.cell? ⟨bm, ofm + q * 3 + 2, none⟩ = some (.int .i64 zu)) wk_ := ((J3 M).1.t3 ((J2 M).1.t3 ((HRz.out.keep (J4 M)).c3)))
        (try simp only [Act.put, List.setIfInBounds_toArray, List.set_cons_zero, List.set_cons_succ])
        have lw_ := ((J1 M).1).size
        have l19_ := ((M.out.1)).lt
        refine wpAnyH_ready (rs := [13, 18]) (by kernel_rfl) (by simp) ?_
        refine AllReadyH.cons at13 (fun K hK => ?_) ?_
        ·
         go_simp
         refine (iv_u2 (G := G) (sc := zs) (rd := xc) (day := xd) (lo := ol) (hi := oh) (b_ := bv) (Nat.le_trans hG (J4 M).size) (HC.out.keep (J4 M)) (HQ.out.keep (J4 M)) (by omega) (by omega) HOL.out HOH.out HBV.out).mono ?_
         rintro e w9 ⟨x_62, x_63, x_64, x_65, x_66, x_67, x_68, x_69, rfl, hd70, hd71, hb⟩
         replace M := ad2M hd70 hd71 hb M
         clear hb hd70 hd71
         (try go_wp2_with fail)
         refine hK.out _ _ (((J5 M).1.t3 ((J4 M).1.t3 ((HRz.out.keep (J6 M)).c3)))) (fun hH72 => ?_)
         clear hK K hH61
         (try simp only [Act.put, List.setIfInBounds_toArray, List.set_cons_zero, List.set_cons_succ])
         refine tk at14 ?_
         refine tk at15 ?_
         refine tk at16 ?_
         refine tk at17 ?_
         exact at_node (by kernel_rfl) (hD5 w9 x_62 x_63 x_64 x_65 x_66 x_67 x_68 x_69 A19_ (by omega) (Lib.hid ⟨(J2 M).1, (M.out.1), (J1 M).1, (J3 M).1⟩))
        refine AllReadyH.cons at18 (fun K hK => ?_) AllReadyH.nil
        go_simp
        refine nmW (wk_.alloc (.cells #[.int .i64 0, .slice none 0 0, .int .i64 0, .slice none 0 0] 38)) fun w9 hv => ?_
        rw [← hv]
        have ow3_ : A19_ < wk_.heap.size := ((M.out.1)).lt
        replace M := alM hv M
        clear hv
        refine hK.out _ _ (((J4 M).1.t3 ((J3 M).1.t3 ((HRz.out.keep (J5 M)).c3)))) (fun hH73 => ?_)
        clear hK K hH61
        (try simp only [Act.put, List.setIfInBounds_toArray, List.set_cons_zero, List.set_cons_succ])
        exact at_node (by kernel_rfl) (hD6 w9 wk_.heap.size A19_ (by omega) (by omega) (by omega) (Lib.hid ⟨(J1 M).1, (M.out.1), (J2 M).1⟩))
       simp only [ha0_, Act.put, List.setIfInBounds_toArray, List.set_cons_zero, List.set_cons_succ] at hD3
       have hD0 : ∀ (wk_ : World) , Hid (Below w8.heap.size w8 wk_) → X_ 10 #[true, true, true, true, true, true, true, true, true, true, true, true, true, false, false, false, false, false, false, false, false, false, false] a0_ wk_ := by
        intro wk_ rel_
        subst hX_ ha0_
        have M := Lib.hid (aI rel_.out (Goes.go Mb_.out rel_.out))
        clear rel_
        have hH74 : (fun w' => w'.cell? ⟨w.heap.size, 0, none⟩ = some (.string nm) ∧ w'.cell? ⟨w.heap.size, 1, none⟩ = some (.slice (some ⟨bm, ofm, none⟩) nn cm) ∧ w'.cell? ⟨w.heap.size, 2, none⟩ = some (.slice (some ⟨br, ofr, none⟩) nr cr) ∧ w'.cell? ⟨w6.heap.size, 0, none⟩ = some (.int .i64 (q : Int)) ∧ w'.cell? ⟨w6.heap.size, 1, none⟩ = some (.int .i64 xd) ∧ w'.cell? ⟨w6.heap.size, 2, none⟩ = some (.int .i64 xc) ∧ w'.cell? ⟨bm, ofm + q * 3, none⟩ = some (.int .i64 zs) ∧ w'.cell? ⟨bm, ofm + q * 3 + 1, none⟩ = some (.int .i64 zf) ∧ w'.cell? ⟨bm, ofm + q * 3 + 2, none⟩ = some (.int .i64 zu)) wk_ := ((J2 M).1.t3 ((J1 M).1.t3 ((HRz.out.keep (J3 M)).c3)))
        (try simp only [Act.put, List.setIfInBounds_toArray, List.set_cons_zero, List.set_cons_succ])
        have lw_ := ((M.out.1)).size
        refine wpAnyH_ready (rs := [13, 18, 19]) (by kernel_rfl) (by simp) ?_
        refine AllReadyH.cons at13 (fun K hK => ?_) ?_
        ·
         go_simp
         refine (iv_u2 (G := G) (sc := zs) (rd := xc) (day := xd) (lo := ol) (hi := oh) (b_ := bv) (Nat.le_trans hG (J3 M).size) (HC.out.keep (J3 M)) (HQ.out.keep (J3 M)) (by omega) (by omega) HOL.out HOH.out HBV.out).mono ?_
         rintro e w9 ⟨x_75, x_76, x_77, x_78, x_79, x_80, x_81, x_82, rfl, hd83, hd84, hb⟩
         replace M := ad2M hd83 hd84 hb M
         clear hb hd83 hd84
         (try go_wp2_with fail)
         refine hK.out _ _ (((J4 M).1.t3 ((J3 M).1.t3 ((HRz.out.keep (J5 M)).c3)))) (fun hH85 => ?_)
         clear hK K hH74
         (try simp only [Act.put, List.setIfInBounds_toArray, List.set_cons_zero, List.set_cons_succ])
         refine tk at14 ?_
         refine tk at15 ?_
         refine tk at16 ?_
         refine tk at17 ?_
         exact at_node (by kernel_rfl) (hD1 w9 x_75 x_76 x_77 x_78 x_79 x_80 x_81 x_82 (Lib.hid ⟨(M.out.1), (J1 M).1, (J2 M).1⟩))
        refine AllReadyH.cons at18 (fun K hK => ?_) ?_
        ·
         go_simp
         refine nmW (wk_.alloc (.cells #[.int .i64 0, .slice none 0 0, .int .i64 0, .slice none 0 0] 38)) fun w9 hv => ?_
         rw [← hv]
         have ow2_ : w6.heap.size < wk_.heap.size := ((J1 M).1).lt
         replace M := alM hv M
         clear hv
         refine hK.out _ _ (((J3 M).1.t3 ((J2 M).1.t3 ((HRz.out.keep (J4 M)).c3)))) (fun hH86 => ?_)
         clear hK K hH74
         (try simp only [Act.put, List.setIfInBounds_toArray, List.set_cons_zero, List.set_cons_succ])
         exact at_node (by kernel_rfl) (hD2 w9 wk_.heap.size (by omega) (Lib.hid ⟨(M.out.1), (J1 M).1⟩))
        refine AllReadyH.cons at19 (fun K hK => ?_) AllReadyH.nil
        go_simp
        refine nmW (wk_.alloc (.cells #[.int .i64 0, .slice none 0 0, .int .i64 0, .slice none 0 0] 38)) fun w9 hv => ?_
        rw [← hv]
        have ow2_ : w6.heap.size < wk_.heap.size := ((J1 M).1).lt
        replace M := alM hv M
        clear hv
        refine hK.out _ _ (((J3 M).1.t3 ((J2 M).1.t3 ((HRz.out.keep (J4 M)).c3)))) (fun hH87 => ?_)
        clear hK K hH74
        (try simp only [Act.put, List.setIfInBounds_toArray, List.set_cons_zero, List.set_cons_succ])
        exact at_node (by kernel_rfl) (hD3 w9 wk_.heap.size (by omega) (Lib.hid ⟨(M.out.1), (J1 M).1⟩))
       simp only [ha0_, Act.put, List.setIfInBounds_toArray, List.set_cons_zero, List.set_cons_succ] at hD0
       subst hX_ ha0_
       exact at_node (by kernel_rfl) (hD0 w8 (Lib.hid (Below.refl _ _)))
      case rest =>
       obtain ⟨A11, A12, x_1, x_2, x_3, x_4, x_5, x_6, x_7, x_8, rfl, rfl, rfl, oA11, oA12, M⟩ := hcut
       obtain ⟨w8, rfl⟩ : ∃ w_ : World, w_ = wc := ⟨_, rfl⟩
       refine cj3 (J4 M).1.d3 fun aa ab ad => ?_
       refine cj3 (J5 M).1.d3 fun ae af ah => ?_
       go_wp2_with fail
       clear aa ab ad ae af ah
       refine (ctHigh_l (G := G) (day := xd) (qv := qx) (b_ := box) (nm := nm) (Nat.le_trans hG (J6 M).size) (HM.out.keep (J6 M)) (HR.out.keep (J6 M)) (HC.out.keep (J6 M)) (HQ.out.keep (J6 M)) (by omega) (by omega) (by omega) (by omega) (by omega) hqn HMx.out HKx.out).mono ?_
       rintro e w9 ⟨x_88, x_89, x_90, x_91, rfl, hd92, hb⟩
       replace M := adM hd92 hb M
       clear hb hd92
       refine cj4 (TQ.st (M.out.1)) fun bo bp bq bs => ?_
       go_upto_region 16 with fail
       clear bo bp bq bs
       refine nmW (w9.alloc (.cells #[x_88, x_89, x_90, x_91] 38)) fun w10 hv => ?_
       rw [← hv]
       have ow4_ : A12 < w9.heap.size := ((J2 M).1).lt
       replace M := alM hv M
       clear hv
       rcases hiv_ : ivl cs rr zs xc xd with _ | ⟨ilo, ihi⟩
       ·
        obtain rfl : ol = none := by rw [← HOL.out]; unfold loO; rw [hiv_]; rfl
        obtain rfl : oh = none := by rw [← HOH.out]; unfold hiO; rw [hiv_]; rfl
        obtain rfl : bv = false := by rw [← HBV.out]; unfold hasI; rw [hiv_]; rfl
        have HIV := Lib.hid hiv_; clear hiv_
        have HCL : Hid (clashB (ivOf cs rr) ms rs ⟨(q : Int), xd, xc⟩ = false) := clash_none HMT.out HIV.out
        rcases Bool.eq_false_or_eq_true cb with hcb_ | hcb_
        ·
         subst hcb_
         go_wp2_with fail
         go_roundw
         case rel => exact ⟨(k + 1), true, rfl, by go_num, (by show _ ≤ _; omega), (Lib.hid (by rw [any_nextC HEx.out HA.out HCL.out] <;> rfl)), Lib.hid (aI (J6 M).1 (J8 M))⟩
         case measure => simp [RowKit.intOf] <;> omega
        ·
         subst hcb_
         go_wp2_with fail
         go_roundw
         case rel => exact ⟨(k + 1), false, rfl, by go_num, (by show _ ≤ _; omega), (Lib.hid (by rw [any_nextC HEx.out HA.out HCL.out] <;> rfl)), Lib.hid (aI (J6 M).1 (J8 M))⟩
         case measure => simp [RowKit.intOf] <;> omega
       ·
        obtain rfl : ol = (some ilo) := by rw [← HOL.out]; unfold loO; rw [hiv_]; rfl
        obtain rfl : oh = (some ihi) := by rw [← HOH.out]; unfold hiO; rw [hiv_]; rfl
        obtain rfl : bv = true := by rw [← HBV.out]; unfold hasI; rw [hiv_]; rfl
        have hz_ := ivl_size hiv_
        have HZl : Hid (Fz ilo 60) := hz_.1.mono (by omega)
        have HIV := Lib.hid hiv_; clear hiv_ hz_
        rcases Bool.eq_false_or_eq_true box with hbo_ | hbo_
        ·
         subst hbo_
         obtain ⟨kv, hkv_⟩ : ∃ k, ordQ ilo qx = k := ⟨_, rfl⟩
         obtain ⟨t1, ht1_⟩ : ∃ b, decide (qx < ilo) = b := ⟨_, rfl⟩
         have hk1_ : decide (0 < kv) = t1 := by rw [← ht1_, ← hkv_, ordQ_gt0]
         have HKV := Lib.hid hkv_; have HT1 := Lib.hid ht1_; clear hkv_ ht1_
         have HCL : Hid (clashB (ivOf cs rr) ms rs ⟨(q : Int), xd, xc⟩ = t1) := clash_yes HMT.out HIV.out HMx.out HT1.out
         rcases Bool.eq_false_or_eq_true cb with hcb_ | hcb_
         ·
          subst hcb_
          go_wp2_with fail
          go_roundw
          case rel => exact ⟨(k + 1), true, rfl, by go_num, (by show _ ≤ _; omega), (Lib.hid (by rw [any_nextC HEx.out HA.out HCL.out] <;> rfl)), Lib.hid (aI (J6 M).1 (J8 M))⟩
          case measure => simp [RowKit.intOf] <;> omega
         ·
          subst hcb_
          refine cj4 (J2 M).1.d4 fun ba bc bf bh => ?_
          refine cj4 (M.out.1).d4 fun bt bu bw bx => ?_
          go_wp2_with fail
          clear ba bc bf bh bt bu bw bx
          refine (fqCompare (G := G) (q := ilo) (r := qx) (k := kv) (J4 M).1 (J1 M).1 (Fz.mono HZl.out (by omega)) (Fz.mono HZx.out (by omega)) HKV.out).mono ?_
          rintro e w11 ⟨rfl, hb⟩
          replace M := gnM hb M
          clear hb
          go_wp2_with fail
          go_roundw
          case rel => exact ⟨(k + 1), t1, rfl, by go_num, (by show _ ≤ _; omega), (Lib.hid (by rw [any_nextC HEx.out HA.out HCL.out] <;> rfl)), Lib.hid (aI (J6 M).1 (J8 M))⟩
          case measure => simp [RowKit.intOf] <;> omega
        ·
         subst hbo_
         have HCL : Hid (clashB (ivOf cs rr) ms rs ⟨(q : Int), xd, xc⟩ = false) := clash_no HMT.out HIV.out HMx.out
         rcases Bool.eq_false_or_eq_true cb with hcb_ | hcb_
         ·
          subst hcb_
          go_wp2_with fail
          go_roundw
          case rel => exact ⟨(k + 1), true, rfl, by go_num, (by show _ ≤ _; omega), (Lib.hid (by rw [any_nextC HEx.out HA.out HCL.out] <;> rfl)), Lib.hid (aI (J6 M).1 (J8 M))⟩
          case measure => simp [RowKit.intOf] <;> omega
         ·
          subst hcb_
          go_wp2_with fail
          go_roundw
          case rel => exact ⟨(k + 1), false, rfl, by go_num, (by show _ ≤ _; omega), (Lib.hid (by rw [any_nextC HEx.out HA.out HCL.out] <;> rfl)), Lib.hid (aI (J6 M).1 (J8 M))⟩
          case measure => simp [RowKit.intOf] <;> omega
     ·
      have e1_0 : decide (k < nr) = false := decide_eq_false (by omega)
      have e1_1 : decide ((k : Int) < (nr : Int)) = false := decide_eq_false (by omega)
      have e1_i : ¬ (k : Int) < (nr : Int) := by omega
      have HANY : Hid (rs.any (clashB (ivOf cs rr) ms rs) = cb) := by show _ = _; rw [← HA.out, take_all (by rw [HR.out.len]; omega)]
      have HIFF := clash_iff (ivOk cs rr) HFM0.out
      rw [HANY.out, HCE.out] at HIFF
      obtain rfl : cb = false := by cases cb with | false => rfl | true => exact absurd (HIFF.1 rfl) (by decide)
      clear HIFF
      refine cj3 (M.out.1).d3 fun aa ab ad => ?_
      go_upto_region 17 with fail
      clear aa ab ad
      have hB0_ : w.heap.size ≤ w6.heap.size := ((J1 M)).size
      have hGB_ : G ≤ w6.heap.size := Nat.le_trans hG hB0_
      have hlt0_ : w.heap.size < w6.heap.size := ((M.out.1)).lt
      replace M := Lib.hid (aI (Below.refl w6.heap.size w6) M.out)
      go_upto_region 18 with fail
      refine nmW (w6.alloc (.cells #[] 68)) fun w7 hv => ?_
      rw [← hv]
      have ow1_ : w.heap.size < w6.heap.size := ((J1 M).1).lt
      have ob1_ : w6.heap.size ≤ w6.heap.size := ((M.out.1)).size
      replace M := alM hv M
      clear hv
      go_wp2_with fail
      go_loopw [17, 18] (fun i17 i18 wr => ∃ (j : Nat) (hl : List HdX) (vg : Value), vg = i17 ∧ i18 = .int .i64 (j : Int) ∧ Hid (j ≤ nn) ∧ Hid (hl.length = j) ∧ Hid (hl.map HdX.vs = ((List.range j).map (leastE (ivOf cs rr) ms rs)).map (List.map some)) ∧ Hid (XZL hl 60) ∧ Hid (LenX hl 1000) ∧ Hid (OwVH G w6.heap.size wr vg hl ∧ Below w6.heap.size w6 wr ∧ Bx wr w.heap.size 25 #[.string nm, .slice am nn cm, .slice ar nr cr] ∧ Below w.heap.size w wr)) (fun i17 i18 _ => nn - (RowKit.intOf i18).toNat)
      case atStart =>
       exact ⟨0, [], (.slice (some ⟨w6.heap.size, 0, none⟩) 0 0), rfl, rfl, (by show _ ≤ _; omega), (Lib.hid rfl), (Lib.hid rfl), (Lib.hid (fun x hx => by cases hx)), (Lib.hid (fun x hx => by cases hx)), Lib.hid (aI (OwV.emptyC (M.out.1) hGB_ (Nat.le_refl _)) (aI (J1 M).1 (aI (J2 M).1 (J3 M))))⟩
      case round =>
       obtain ⟨w8, rfl⟩ : ∃ x, x = wr := ⟨_, rfl⟩
       clear M
       obtain ⟨j, hl, vg, rfl, rfl, hj, HGL, HGM, HGZ, HGX, M⟩ := hrel
       have hj := hj.out
       by_cases hlt2 : j < nn
       ·
        have e2_0 : decide (j < nn) = true := decide_eq_true (by omega)
        have e2_1 : decide ((j : Int) < (nn : Int)) = true := decide_eq_true (by omega)
        have e2_i : (j : Int) < (nn : Int) := by omega
        obtain ⟨bz, ofz, rfl, hb_⟩ := RdL.ptr HM.out (by omega : 0 < nn)
        have hbkbz := Lib.hid hb_
        have hkl_ : j < ms.length := by rw [HM.out.len]; exact hlt2
        obtain ⟨y_, hx_⟩ : ∃ x, ms[j]? = some x := ⟨ms[j], List.getElem?_eq_getElem hkl_⟩
        obtain ⟨ys, yf, yu⟩ := y_
        have HRy : Hid (Row w bz (ofz + j * 3) [.int .i64 ys, .int .i64 yf, .int .i64 yu]) := hb_.row hx_
        have HEy := Lib.hid hx_
        have hly := hkl_
        clear hx_ hb_ hkl_
        have hmz_ := HMZ.out _ _ HEy.out
        simp only at hmz_
        have hyf0 : 0 ≤ yf := hmz_.1
        have hyfu : yf ≤ yu := hmz_.2.1
        have hyu : yu ≤ 900 := hmz_.2.2
        clear hmz_
        refine cj3 (J2 M).1.d3 fun aa ab ad => ?_
        go_wp2_with fail
        clear aa ab ad
        refine nmW w8.drew fun w9 hv => ?_
        replace M := drM hv M
        refine wp_region_held_drew (S := (fun w' => w'.cell? ⟨w.heap.size, 0, none⟩ = some (.string nm) ∧ w'.cell? ⟨w.heap.size, 1, none⟩ = some (.slice (some ⟨bz, ofz, none⟩) nn cm) ∧ w'.cell? ⟨w.heap.size, 2, none⟩ = some (.slice ar nr cr) ∧ w'.cell? ⟨bz, ofz + j * 3, none⟩ = some (.int .i64 ys) ∧ w'.cell? ⟨bz, ofz + j * 3 + 1, none⟩ = some (.int .i64 yf) ∧ w'.cell? ⟨bz, ofz + j * 3 + 2, none⟩ = some (.int .i64 yu))) (by kernel_rfl) (by rw [← hv]; exact ((J2 M).1.t3 ((HRy.out.keep (J3 M)).c3))) (fun hH101 => ?_)
        rw [← hv] at hH101 ⊢
        clear hv
        refine tk at0 ?_
        refine tk at1 ?_
        refine tk at2 ?_
        refine tk at3 ?_
        refine tk at4 ?_
        refine tk at5 ?_
        refine tk at6 ?_
        refine tk at7 ?_
        refine tk at8 ?_
        refine tk at9 ?_
        refine tk at10 ?_
        refine tk at11 ?_
        refine tk at12 ?_
        refine tk at13 ?_
        refine tk at14 ?_
        refine tk at15 ?_
        refine tk at16 ?_
        refine wpAnyH_ready (rs := [17]) (by kernel_rfl) (by simp) ?_
        refine AllReadyH.cons at17 (fun K hK => ?_) AllReadyH.nil
        go_simp
        refine (ctFlat (G := G) (zs := ys) (zf := yf) (zu := yu) (da := yu) (db := yu) (nm := nm) (Nat.le_trans hG (J3 M).size) (HM.out.keep (J3 M)) (HR.out.keep (J3 M)) (HC.out.keep (J3 M)) (HQ.out.keep (J3 M)) (by omega) (by omega) (by omega) (by omega) (by omega) HEy.out (by omega) (by omega) (by omega)).mono ?_
        rintro e w10 ⟨ad_102, n__103, c__104, L_105, rfl, hd106, hu107, hu108, hu109, hb⟩
        replace M := adM hd106 hb M
        clear hb hd106
        replace hu107 := Lib.hid hu107
        replace hu108 := Lib.hid hu108
        (try go_wp2_with fail)
        refine hK.out _ _ (((J3 M).1.t3 ((HRy.out.keep (J4 M)).c3))) (fun hH110 => ?_)
        clear hK K hH101
        (try simp only [Act.put, List.setIfInBounds_toArray, List.set_cons_zero, List.set_cons_succ])
        refine wpAnyH_ready (rs := [18]) (by kernel_rfl) (by simp) ?_
        refine AllReadyH.cons at18 (fun K hK => ?_) AllReadyH.nil
        go_simp
        refine nmW (w10.alloc (.cells #[.slice ad_102 n__103 c__104] 68)) fun w11 hv => ?_
        rw [← hv]
        have ow2_ : w.heap.size < w10.heap.size := ((J3 M).1).lt
        have ob2_ : w6.heap.size ≤ w10.heap.size := ((J2 M).1).size
        replace M := alM hv M
        clear hv
        refine hK.out _ _ (((J4 M).1.t3 ((HRy.out.keep (J5 M)).c3))) (fun hH111 => ?_)
        clear hK K hH110
        (try simp only [Act.put, List.setIfInBounds_toArray, List.set_cons_zero, List.set_cons_succ])
        refine wpAnyH_ready (rs := [19]) (by kernel_rfl) (by simp) ?_
        refine AllReadyH.cons at19 (fun K hK => ?_) AllReadyH.nil
        have hlx_113 : L_105.length ≤ 1000 := by rw [((J1 M).1).len]; exact hu109
        rw [if_pos (by rfl)]
        refine wp_pushC (J2 M).1 HGL.out elemHdX (⟨ad_102, n__103, c__104, L_105⟩ : HdX) (M.out.1) rfl (J1 M).1 (by rfl) (by omega) (by omega) (J3 M).1.size rfl rfl rfl (fun vv_112 w12 ho_ hg_ => ?_)
        replace M := Lib.hid (aI ho_ (aI (below_grown (J3 M).1 (J2 M).1.own (Nat.le_refl _) (J3 M).1.size hg_) (aI ((J4 M).1.grownT (J2 M).1.own (by rfl) hg_) (below_grown (J5 M) (J2 M).1.own hB0_ (J5 M).size hg_))))
        clear ho_ hg_
        refine hK.out _ _ (((J2 M).1.t3 ((HRy.out.keep (J3 M)).c3))) (fun hH114 => ?_)
        clear hK K hH111
        (try simp only [Act.put, List.setIfInBounds_toArray, List.set_cons_zero, List.set_cons_succ])
        refine tk at20 ?_
        refine wpAnyH_done (by kernel_rfl) ?_ _
        clear hH114
        go_wp2_with fail
        go_roundw
        case rel => exact ⟨(j + 1), (hl ++ [(⟨ad_102, n__103, c__104, L_105⟩ : HdX)]), vv_112, rfl, by go_num, (by show _ ≤ _; omega), (Lib.hid (by rw [List.length_append, HGL.out]; rfl)), (Lib.hid (hx_next HGM.out (by rw [leastE_is HEy.out]; exact hu107.out))), (Lib.hid (HGZ.out.push hu108.out)), (Lib.hid (HGX.out.push hlx_113)), Lib.hid (aI (M.out.1) (aI (J1 M).1 (aI (J2 M).1 (J3 M))))⟩
        case measure => simp [RowKit.intOf] <;> omega
       ·
        have e2_0 : decide (j < nn) = false := decide_eq_false (by omega)
        have e2_1 : decide ((j : Int) < (nn : Int)) = false := decide_eq_false (by omega)
        have e2_i : ¬ (j : Int) < (nn : Int) := by omega
        have HEND := Lib.hid (least_is HGM.out (show j = nn by omega) HM.out.len)
        obtain ⟨ag, cg, hvg_, hrd_⟩ := OwV.rdl (M.out.1) HGL.out
        subst hvg_
        replace M := Lib.hid (aI hrd_ (aI (J1 M).1 (aI (J2 M).1 (J3 M))))
        clear hrd_
        refine cj3 (J2 M).1.d3 fun aa ab ad => ?_
        go_wp2_with fail
        clear aa ab ad
        refine (ctAllowed_l (G := G) (nm := nm) (nb := (nameOk nm.data.toList)) (big := (bigB ms rs cs.length rr.length)) (b_ := true) (Nat.le_trans hG (J3 M).size) (HM.out.keep (J3 M)) (HR.out.keep (J3 M)) (HC.out.keep (J3 M)) (HQ.out.keep (J3 M)) (by omega) (by omega) (by omega) (by omega) (by omega) (M.out.1) HGZ.out HGX.out rfl rfl (by rw [HEND.out]; exact least_allow (ivOk cs rr) HCE.out)).mono ?_
        rintro e w9 ⟨rfl, hb⟩
        replace M := gnM hb M
        clear hb
        go_wp2_with fail
        go_ret
        exact ⟨by rfl, (J3 M)⟩
   ·
    by_cases h16_ : ce = 16
    ·
     subst h16_
     have HFM0 : Hid (formedE (nameOk nm.data.toList) (bigB ms rs cs.length rr.length) ms rs = 0) := (form_of HCE.out (.inr rfl) (by omega))
     have HMZ : Hid (MtZ ms 900) := (short_z HSB.out (formed_zero.1 HFM0.out).2.2.1).mono (by omega)
     have HFM : Hid (RgIn ms.length rs) := rgIn_of HFM0.out
     go_wp2_with fail
     go_loopw [9, 10] (fun i9 i10 wr => ∃ (k : Nat) (cb : Bool), i9 = .bool cb ∧ i10 = .int .i64 (k : Int) ∧ Hid (k ≤ nr) ∧ Hid ((rs.take k).any (clashB (ivOf cs rr) ms rs) = cb) ∧ Hid (Bx wr w.heap.size 25 #[.string nm, .slice am nn cm, .slice ar nr cr] ∧ Below w.heap.size w wr)) (fun i9 i10 _ => nr - (RowKit.intOf i10).toNat)
     case atStart =>
      exact ⟨0, false, rfl, rfl, (by show _ ≤ _; omega), (Lib.hid rfl), Lib.hid (aI (M.out.1) (J1 M))⟩
     case round =>
      obtain ⟨w6, rfl⟩ : ∃ x, x = wr := ⟨_, rfl⟩
      clear M
      obtain ⟨k, cb, rfl, rfl, hk, HA, M⟩ := hrel
      have hk := hk.out
      by_cases hlt : k < nr
      ·
       have e1_0 : decide (k < nr) = true := decide_eq_true (by omega)
       have e1_1 : decide ((k : Int) < (nr : Int)) = true := decide_eq_true (by omega)
       have e1_i : (k : Int) < (nr : Int) := by omega
       obtain ⟨br, ofr, rfl, hb_⟩ := RdL.ptr HR.out (by omega : 0 < nr)
       have hbkbr := Lib.hid hb_
       have hkl_ : k < rs.length := by rw [HR.out.len]; exact hlt
       obtain ⟨x_, hx_⟩ : ∃ x, rs[k]? = some x := ⟨rs[k], List.getElem?_eq_getElem hkl_⟩
       obtain ⟨xm, xd, xc⟩ := x_
       have HRx : Hid (Row w br (ofr + k * 3) [.int .i64 xm, .int .i64 xd, .int .i64 xc]) := hb_.row hx_
       have HEx := Lib.hid hx_
       have hlx := hkl_
       clear hx_ hb_ hkl_
       have hx_ := HFM.out k _ HEx.out
       obtain ⟨q, hq_⟩ : ∃ q : Nat, xm = (q : Int) := ⟨xm.toNat, by have := hx_.1; simp only at this; omega⟩
       subst hq_
       have hqn : q < nn := by have h_ := hx_.2; have h2_ := HM.out.len; simp only at h_; omega
       clear hx_
       have eq0_ : decide ((q : Int) < 0) = false := decide_eq_false (by omega)
       have eq1_ : decide ((nn : Int) ≤ (q : Int)) = false := decide_eq_false (by omega)
       have eq2_ : decide (nn ≤ q) = false := decide_eq_false (by omega)
       obtain ⟨bm, ofm, rfl, hb_⟩ := RdL.ptr HM.out (by omega : 0 < nn)
       have hbkbm := Lib.hid hb_
       have hkl_ : q < ms.length := by rw [HM.out.len]; exact hqn
       obtain ⟨z_, hx_⟩ : ∃ x, ms[q]? = some x := ⟨ms[q], List.getElem?_eq_getElem hkl_⟩
       obtain ⟨zs, zf, zu⟩ := z_
       have HRz : Hid (Row w bm (ofm + q * 3) [.int .i64 zs, .int .i64 zf, .int .i64 zu]) := hb_.row hx_
       have HEz := Lib.hid hx_
       have hlz := hkl_
       clear hx_ hb_ hkl_
       have HMT : Hid ((mtAt ms (q : Int)).s = zs) := by show (ms.getD _ _).s = _; rw [show ((q : Int)).toNat = q from rfl, getD_of HEz.out]
       obtain ⟨ol, hol_⟩ : ∃ o, loO cs rr zs xc xd = o := ⟨_, rfl⟩
       have HOL := Lib.hid hol_; clear hol_
       obtain ⟨oh, hoh_⟩ : ∃ o, hiO cs rr zs xc xd = o := ⟨_, rfl⟩
       have HOH := Lib.hid hoh_; clear hoh_
       obtain ⟨bv, hbv_⟩ : ∃ o, hasI cs rr zs xc xd = o := ⟨_, rfl⟩
       have HBV := Lib.hid hbv_; clear hbv_
       obtain ⟨box, qx, hx_, kx_⟩ := opt_of (mostO (marksL (ivOf cs rr) ms rs (q : Int)) xd)
       have HZx : Hid (Fz qx 60) := optZ (by omega) (hx_ ▸ highZ cs rr ms rs (q : Int) xd) kx_
       have HTGx := Lib.hid (opt_getD kx_)
       have HMx := Lib.hid hx_; have HKx := Lib.hid kx_; clear hx_ kx_
       refine cj3 (M.out.1).d3 fun aa ab ad => ?_
       have z0 : w.heap.size < w6.heap.size := (M.out.1).lt
       refine cj3 (HRx.out.keep (J1 M)).c3 fun r0_0 r0_1 r0_2 => ?_
       go_upto_region 12 with fail
       clear aa ab ad z0 r0_0 r0_1 r0_2
       refine nmW (w6.alloc (.cells #[.int .i64 (q : Int), .int .i64 xd, .int .i64 xc] 29)) fun w7 hv => ?_
       rw [← hv]
       have ow1_ : w.heap.size < w6.heap.size := ((M.out.1)).lt
       replace M := alM hv M
       clear hv
       refine cj3 (M.out.1).d3 fun ae af ah => ?_
       refine cj3 (J1 M).1.d3 fun aa ab ad => ?_
       go_upto_region 14 with fail
       clear ae af ah aa ab ad
       go_cut [12, 13, 14] (fun s12 s13 s14 wx => ∃ (A125 : Nat), ∃ (A126 : Nat), ∃ (x_115 : Value), ∃ (x_116 : Value), ∃ (x_117 : Value), ∃ (x_118 : Value), ∃ (x_119 : Value), ∃ (x_120 : Value), ∃ (x_121 : Value), ∃ (x_122 : Value), s12 = .pointer (some ⟨A125, 0, none⟩) ∧ s13 = .pointer (some ⟨A126, 0, none⟩) ∧ s14 = .bool bv ∧ w6.heap.size < A125 ∧ (w6.heap.size < A126 ∧ A125 ≠ A126) ∧ Hid (Bx wx A125 38 #[x_115, x_116, x_117, x_118] ∧ Bx wx A126 38 #[x_119, x_120, x_121, x_122] ∧ OQ G wx x_115 x_116 x_117 x_118 ol ∧ OQ G wx x_119 x_120 x_121 x_122 oh ∧ Bx wx w.heap.size 25 #[.string nm, .slice (some ⟨bm, ofm, none⟩) nn cm, .slice (some ⟨br, ofr, none⟩) nr cr] ∧ Bx wx w6.heap.size 29 #[.int .i64 (q : Int), .int .i64 xd, .int .i64 xc] ∧ Below w.heap.size w wx))
       case first =>
        refine nmW w7.drew fun w8 hv => ?_
        replace M := drM hv M
        refine wp_region_held_drew (S := (fun w' => w'.cell? ⟨w.heap.size, 0, none⟩ = some (.string nm) ∧ w'.cell? ⟨w.heap.size, 1, none⟩ = some (.slice (some ⟨bm, ofm, none⟩) nn cm) ∧ w'.cell? ⟨w.heap.size, 2, none⟩ = some (.slice (some ⟨br, ofr, none⟩) nr cr) ∧ w'.cell? ⟨w6.heap.size, 0, none⟩ = some (.int .i64 (q : Int)) ∧ w'.cell? ⟨w6.heap.size, 1, none⟩ = some (.int .i64 xd) ∧ w'.cell? ⟨w6.heap.size, 2, none⟩ = some (.int .i64 xc) ∧ w'.cell? ⟨bm, ofm + q * 3, none⟩ = some (.int .i64 zs) ∧ w'.cell? ⟨bm, ofm + q * 3 + 1, none⟩ = some (.int .i64 zf) ∧ w'.cell? ⟨bm, ofm + q * 3 + 2, none⟩ = some (.int .i64 zu))) (by kernel_rfl) (by rw [← hv]; exact ((J1 M).1.t3 ((M.out.1).t3 ((HRz.out.keep (J2 M)).c3)))) (fun hH127 => ?_)
        rw [← hv] at hH127 ⊢
        clear hv
        have Mb_ := M
        have lb0_ : w.heap.size < w8.heap.size := ((J1 M).1).lt
        have lb1_ : w6.heap.size < w8.heap.size := ((M.out.1)).lt
        refine tk at0 ?_
        refine tk at1 ?_
        refine tk at2 ?_
        refine tk at3 ?_
        refine tk at4 ?_
        refine tk at5 ?_
        refine tk at6 ?_
        refine tk at7 ?_
        refine tk at8 ?_
        refine tk at9 ?_
        refine tk at10 ?_
        refine tk at11 ?_
        refine tk at12 ?_
        refine wpAnyH_abs (fun X_ a0_ hX_ ha0_ => ?_)
        clear hH127
        have hD9 : ∀ (wk_ : World) (x_128 : Value) (x_129 : Value) (x_130 : Value) (x_131 : Value) (x_132 : Value) (x_133 : Value) (x_134 : Value) (x_135 : Value) (A18_ : Nat) (A19_ : Nat), w8.heap.size ≤ A18_ → w8.heap.size ≤ A19_ → A18_ ≠ A19_ → Hid (Bx wk_ A19_ 38 #[x_132, x_133, x_134, x_135] ∧ Bx wk_ A18_ 38 #[x_128, x_129, x_130, x_131] ∧ OQ G wk_ x_128 x_129 x_130 x_131 ol ∧ OQ G wk_ x_132 x_133 x_134 x_135 oh ∧ Below w8.heap.size w8 wk_) → X_ 0 #[true, true, true, true, true, true, true, true, true, true, true, true, true, true, true, true, true, true, true, true, true, true, true] (Act.put (Act.put (Act.put (Act.put (Act.put (Act.put (Act.put (Act.put a0_ (some 86) (.tuple #[.agg #[x_128, x_129, x_130, x_131], .agg #[x_132, x_133, x_134, x_135], .bool bv])) (some 72) (.tuple #[.agg #[x_128, x_129, x_130, x_131], .agg #[x_132, x_133, x_134, x_135], .bool bv])) (some 87) (.agg #[x_128, x_129, x_130, x_131])) (some 88) (.agg #[x_132, x_133, x_134, x_135])) (some 89) (.bool bv)) (some 12) (.pointer (some ⟨A18_, 0, none⟩))) (some 13) (.pointer (some ⟨A19_, 0, none⟩))) (some 14) (.bool bv)) wk_ := by
         intro wk_ x_128 x_129 x_130 x_131 x_132 x_133 x_134 x_135 A18_ A19_ c0_ c1_ c2_ rel_
         subst hX_ ha0_
         have M := Lib.hid (aI rel_.out.1 (aI rel_.out.2.1 (aI rel_.out.2.2.1 (aI rel_.out.2.2.2.1 (aI rel_.out.2.2.2.2 (Goes.go Mb_.out rel_.out.2.2.2.2))))))
         clear rel_
         have hH138 : (fun w' => w'.cell? ⟨w.heap.size, 0, none⟩ = some (.string nm) ∧ w'.cell? ⟨w.heap.size, 1, none⟩ = some (.slice (some ⟨bm, ofm, none⟩) nn cm) ∧ w'.cell? ⟨w.heap.size, 2, none⟩ = some (.slice (some ⟨br, ofr, none⟩) nr cr) ∧ w'.cell? ⟨w6.heap.size, 0, none⟩ = some (.int .i64 (q : Int)) ∧ w'.cell? ⟨w6.heap.size, 1, none⟩ = some (.int .i64 xd) ∧ w'.cell? ⟨w6.heap.size, 2, none⟩ = some (.int .i64 xc) ∧ w'.cell? ⟨bm, ofm + q * 3, none⟩ = some (.int .i64 zs) ∧ w'.cell? ⟨bm, ofm + q * 3 + 1, none⟩ = some (.int .i64 zf) ∧ w'.cell? ⟨bm, ofm + q * 3 + 2, none⟩ = some (.int .i64 zu)) wk_ := ((J6 M).1.t3 ((J5 M).1.t3 ((HRz.out.keep (J7 M)).c3)))
         (try simp only [Act.put, List.setIfInBounds_toArray, List.set_cons_zero, List.set_cons_succ])
         refine wpAnyH_done (by kernel_rfl) ?_ _
         clear hH138
         go_wp2_with fail
         go_meet
         exact ⟨A18_, A19_, x_128, x_129, x_130, x_131, x_132, x_133, x_134, x_135, rfl, rfl, rfl, (by omega), (by omega), (J1 M).1, (M.out.1), (J2 M).1, (J3 M).1, (J6 M).1, (J5 M).1, (J7 M)⟩
        simp only [ha0_, Act.put, List.setIfInBounds_toArray, List.set_cons_zero, List.set_cons_succ] at hD9
        have hD8 : ∀ (wk_ : World) (x_128 : Value) (x_129 : Value) (x_130 : Value) (x_131 : Value) (x_132 : Value) (x_133 : Value) (x_134 : Value) (x_135 : Value) (A18_ : Nat) (A19_ : Nat), w8.heap.size ≤ A18_ → w8.heap.size ≤ A19_ → A18_ ≠ A19_ → Hid (Bx wk_ A19_ 38 #[.int .i64 0, .slice none 0 0, .int .i64 0, .slice none 0 0] ∧ Bx wk_ A18_ 38 #[x_128, x_129, x_130, x_131] ∧ OQ G wk_ x_128 x_129 x_130 x_131 ol ∧ OQ G wk_ x_132 x_133 x_134 x_135 oh ∧ Below w8.heap.size w8 wk_) → X_ 2 #[true, true, true, true, true, true, true, true, true, true, true, true, true, true, true, true, true, true, true, true, true, false, false] (Act.put (Act.put (Act.put (Act.put (Act.put (Act.put (Act.put a0_ (some 86) (.tuple #[.agg #[x_128, x_129, x_130, x_131], .agg #[x_132, x_133, x_134, x_135], .bool bv])) (some 72) (.tuple #[.agg #[x_128, x_129, x_130, x_131], .agg #[x_132, x_133, x_134, x_135], .bool bv])) (some 87) (.agg #[x_128, x_129, x_130, x_131])) (some 88) (.agg #[x_132, x_133, x_134, x_135])) (some 89) (.bool bv)) (some 12) (.pointer (some ⟨A18_, 0, none⟩))) (some 13) (.pointer (some ⟨A19_, 0, none⟩))) wk_ := by
         intro wk_ x_128 x_129 x_130 x_131 x_132 x_133 x_134 x_135 A18_ A19_ c0_ c1_ c2_ rel_
         subst hX_ ha0_
         have M := Lib.hid (aI rel_.out.1 (aI rel_.out.2.1 (aI rel_.out.2.2.1 (aI rel_.out.2.2.2.1 (aI rel_.out.2.2.2.2 (Goes.go Mb_.out rel_.out.2.2.2.2))))))
         clear rel_
         have hH139 : (fun w' => w'.cell? ⟨w.heap.size, 0, none⟩ = some (.string nm) ∧ w'.cell? ⟨w.heap.size, 1, none⟩ = some (.slice (some ⟨bm, ofm, none⟩) nn cm) ∧ w'.cell? ⟨w.heap.size, 2, none⟩ = some (.slice (some ⟨br, ofr, none⟩) nr cr) ∧ w'.cell? ⟨w6.heap.size, 0, none⟩ = some (.int .i64 (q : Int)) ∧ w'.cell? ⟨w6.heap.size, 1, none⟩ = some (.int .i64 xd) ∧ w'.cell? ⟨w6.heap.size, 2, none⟩ = some (.int .i64 xc) ∧ w'.cell? ⟨bm, ofm + q * 3, none⟩ = some (.int .i64 zs) ∧ w'.cell? ⟨bm, ofm + q * 3 + 1, none⟩ = some (.int .i64 zf) ∧ w'.cell? ⟨bm, ofm + q * 3 + 2, none⟩ = some (.int .i64 zu)) wk_ := ((J6 M).1.t3 ((J5 M).1.t3 ((HRz.out.keep (J7 M)).c3)))
         (try simp only [Act.put, List.setIfInBounds_toArray, List.set_cons_zero, List.set_cons_succ])
         have lw_ := ((J4 M).1).size
         have l18_ := ((J1 M).1).lt
         have l19_ := ((M.out.1)).lt
         refine wpAnyH_ready (rs := [21]) (by kernel_rfl) (by simp) ?_
         refine AllReadyH.cons at21 (fun K hK => ?_) AllReadyH.nil
         refine cj8 (M.out.1).c4 fun ai aj ak al ao ap au av => ?_
         refine cj4 (TQ.st (J3 M).1) fun ca cd cf ch => ?_
         go_simp
         clear ai aj ak al ao ap au av ca cd cf ch
         have hz : w.heap.size ≤ A19_ := by omega
         refine st4W (x_132) (x_133) (x_134) (x_135) (M.out.1) (J7 M) hz fun w9 hv og hk hbw => ?_
         rw [← hv]
         replace M := Lib.hid (aI hk (aI ((J1 M).1.only og (by omega)) (aI ((J2 M).1.far (M.out.1) (by rfl) (by omega) og) (aI ((J3 M).1.far (M.out.1) (by rfl) (by omega) og) (aI (show Below w8.heap.size w8 w9 from by rw [hv]; exact (Below.setCell (Below.setCell (Below.setCell (Below.setCell (J4 M).1 (by omega) _) (by omega) _) (by omega) _) (by omega) _)) (aI ((J5 M).1.only og (by omega)) (aI ((J6 M).1.only og (by omega)) hbw)))))))
         clear hk hbw og hv hz
         refine hK.out _ _ (((J6 M).1.t3 ((J5 M).1.t3 ((HRz.out.keep (J7 M)).c3)))) (fun hH140 => ?_)
         clear hK K hH139
         (try simp only [Act.put, List.setIfInBounds_toArray, List.set_cons_zero, List.set_cons_succ])
         refine tk at22 ?_
         exact at_node (by kernel_rfl) (hD9 w9 x_128 x_129 x_130 x_131 x_132 x_133 x_134 x_135 A18_ A19_ (by omega) (by omega) (by omega) (Lib.hid ⟨(M.out.1), (J1 M).1, (J2 M).1, (J3 M).1, (J4 M).1⟩))
        simp only [ha0_, Act.put, List.setIfInBounds_toArray, List.set_cons_zero, List.set_cons_succ] at hD8
        have hD7 : ∀ (wk_ : World) (x_128 : Value) (x_129 : Value) (x_130 : Value) (x_131 : Value) (x_132 : Value) (x_133 : Value) (x_134 : Value) (x_135 : Value) (A18_ : Nat) (A19_ : Nat), w8.heap.size ≤ A18_ → w8.heap.size ≤ A19_ → A18_ ≠ A19_ → Hid (Bx wk_ A19_ 38 #[.int .i64 0, .slice none 0 0, .int .i64 0, .slice none 0 0] ∧ Bx wk_ A18_ 38 #[.int .i64 0, .slice none 0 0, .int .i64 0, .slice none 0 0] ∧ OQ G wk_ x_128 x_129 x_130 x_131 ol ∧ OQ G wk_ x_132 x_133 x_134 x_135 oh ∧ Below w8.heap.size w8 wk_) → X_ 3 #[true, true, true, true, true, true, true, true, true, true, true, true, true, true, true, true, true, true, true, true, false, false, false] (Act.put (Act.put (Act.put (Act.put (Act.put (Act.put (Act.put a0_ (some 86) (.tuple #[.agg #[x_128, x_129, x_130, x_131], .agg #[x_132, x_133, x_134, x_135], .bool bv])) (some 72) (.tuple #[.agg #[x_128, x_129, x_130, x_131], .agg #[x_132, x_133, x_134, x_135], .bool bv])) (some 87) (.agg #[x_128, x_129, x_130, x_131])) (some 88) (.agg #[x_132, x_133, x_134, x_135])) (some 89) (.bool bv)) (some 12) (.pointer (some ⟨A18_, 0, none⟩))) (some 13) (.pointer (some ⟨A19_, 0, none⟩))) wk_ := by
         intro wk_ x_128 x_129 x_130 x_131 x_132 x_133 x_134 x_135 A18_ A19_ c0_ c1_ c2_ rel_
         subst hX_ ha0_
         have M := Lib.hid (aI rel_.out.1 (aI rel_.out.2.1 (aI rel_.out.2.2.1 (aI rel_.out.2.2.2.1 (aI rel_.out.2.2.2.2 (Goes.go Mb_.out rel_.out.2.2.2.2))))))
         clear rel_
         have hH141 : (fun w' => w'.cell? ⟨w.heap.size, 0, none⟩ = some (.string nm) ∧ w'.cell? ⟨w.heap.size, 1, none⟩ = some (.slice (some ⟨bm, ofm, none⟩) nn cm) ∧ w'.cell? ⟨w.heap.size, 2, none⟩ = some (.slice (some ⟨br, ofr, none⟩) nr cr) ∧ w'.cell? ⟨w6.heap.size, 0, none⟩ = some (.int .i64 (q : Int)) ∧ w'.cell? ⟨w6.heap.size, 1, none⟩ = some (.int .i64 xd) ∧ w'.cell? ⟨w6.heap.size, 2, none⟩ = some (.int .i64 xc) ∧ w'.cell? ⟨bm, ofm + q * 3, none⟩ = some (.int .i64 zs) ∧ w'.cell? ⟨bm, ofm + q * 3 + 1, none⟩ = some (.int .i64 zf) ∧ w'.cell? ⟨bm, ofm + q * 3 + 2, none⟩ = some (.int .i64 zu)) wk_ := ((J6 M).1.t3 ((J5 M).1.t3 ((HRz.out.keep (J7 M)).c3)))
         (try simp only [Act.put, List.setIfInBounds_toArray, List.set_cons_zero, List.set_cons_succ])
         have lw_ := ((J4 M).1).size
         have l18_ := ((J1 M).1).lt
         have l19_ := ((M.out.1)).lt
         refine wpAnyH_ready (rs := [20]) (by kernel_rfl) (by simp) ?_
         refine AllReadyH.cons at20 (fun K hK => ?_) AllReadyH.nil
         refine cj8 (J1 M).1.c4 fun ba bb bc bd bf bg bh bi => ?_
         refine cj4 (TQ.st (J2 M).1) fun ci cj ck cl => ?_
         go_simp
         clear ba bb bc bd bf bg bh bi ci cj ck cl
         have hz : w.heap.size ≤ A18_ := by omega
         refine st4W (x_128) (x_129) (x_130) (x_131) (J1 M).1 (J7 M) hz fun w9 hv og hk hbw => ?_
         rw [← hv]
         replace M := Lib.hid (aI ((M.out.1).only og (by omega)) (aI hk (aI ((J2 M).1.far (J1 M).1 (by rfl) (by omega) og) (aI ((J3 M).1.far (J1 M).1 (by rfl) (by omega) og) (aI (show Below w8.heap.size w8 w9 from by rw [hv]; exact (Below.setCell (Below.setCell (Below.setCell (Below.setCell (J4 M).1 (by omega) _) (by omega) _) (by omega) _) (by omega) _)) (aI ((J5 M).1.only og (by omega)) (aI ((J6 M).1.only og (by omega)) hbw)))))))
         clear hk hbw og hv hz
         refine hK.out _ _ (((J6 M).1.t3 ((J5 M).1.t3 ((HRz.out.keep (J7 M)).c3)))) (fun hH142 => ?_)
         clear hK K hH141
         (try simp only [Act.put, List.setIfInBounds_toArray, List.set_cons_zero, List.set_cons_succ])
         exact at_node (by kernel_rfl) (hD8 w9 x_128 x_129 x_130 x_131 x_132 x_133 x_134 x_135 A18_ A19_ (by omega) (by omega) (by omega) (Lib.hid ⟨(M.out.1), (J1 M).1, (J2 M).1, (J3 M).1, (J4 M).1⟩))
        simp only [ha0_, Act.put, List.setIfInBounds_toArray, List.set_cons_zero, List.set_cons_succ] at hD7
        have hD4 : ∀ (wk_ : World) (x_128 : Value) (x_129 : Value) (x_130 : Value) (x_131 : Value) (x_132 : Value) (x_133 : Value) (x_134 : Value) (x_135 : Value) (A18_ : Nat), w8.heap.size ≤ A18_ → Hid (Bx wk_ A18_ 38 #[.int .i64 0, .slice none 0 0, .int .i64 0, .slice none 0 0] ∧ OQ G wk_ x_128 x_129 x_130 x_131 ol ∧ OQ G wk_ x_132 x_133 x_134 x_135 oh ∧ Below w8.heap.size w8 wk_) → X_ 4 #[true, true, true, true, true, true, true, true, true, true, true, true, true, true, true, true, true, true, true, false, false, false, false] (Act.put (Act.put (Act.put (Act.put (Act.put (Act.put a0_ (some 86) (.tuple #[.agg #[x_128, x_129, x_130, x_131], .agg #[x_132, x_133, x_134, x_135], .bool bv])) (some 72) (.tuple #[.agg #[x_128, x_129, x_130, x_131], .agg #[x_132, x_133, x_134, x_135], .bool bv])) (some 87) (.agg #[x_128, x_129, x_130, x_131])) (some 88) (.agg #[x_132, x_133, x_134, x_135])) (some 89) (.bool bv)) (some 12) (.pointer (some ⟨A18_, 0, none⟩))) wk_ := by
         intro wk_ x_128 x_129 x_130 x_131 x_132 x_133 x_134 x_135 A18_ c0_ rel_
         subst hX_ ha0_
         have M := Lib.hid (aI rel_.out.1 (aI rel_.out.2.1 (aI rel_.out.2.2.1 (aI rel_.out.2.2.2 (Goes.go Mb_.out rel_.out.2.2.2)))))
         clear rel_
         have hH143 : (fun w' => w'.cell? ⟨w.heap.size, 0, none⟩ = some (.string nm) ∧ w'.cell? ⟨w.heap.size, 1, none⟩ = some (.slice (some ⟨bm, ofm, none⟩) nn cm) ∧ w'.cell? ⟨w.heap.size, 2, none⟩ = some (.slice (some ⟨br, ofr, none⟩) nr cr) ∧ w'.cell? ⟨w6.heap.size, 0, none⟩ = some (.int .i64 (q : Int)) ∧ w'.cell? ⟨w6.heap.size, 1, none⟩ = some (.int .i64 xd) ∧ w'.cell? ⟨w6.heap.size, 2, none⟩ = some (.int .i64 xc) ∧ w'.cell? ⟨bm, ofm + q * 3, none⟩ = some (.int .i64 zs) ∧ w'.cell? ⟨bm, ofm + q * 3 + 1, none⟩ = some (.int .i64 zf) ∧ w'.cell? ⟨bm, ofm + q * 3 + 2, none⟩ = some (.int .i64 zu)) wk_ := ((J5 M).1.t3 ((J4 M).1.t3 ((HRz.out.keep (J6 M)).c3)))
         (try simp only [Act.put, List.setIfInBounds_toArray, List.set_cons_zero, List.set_cons_succ])
         have lw_ := ((J3 M).1).size
         have l18_ := ((M.out.1)).lt
         refine wpAnyH_ready (rs := [19]) (by kernel_rfl) (by simp) ?_
         refine AllReadyH.cons at19 (fun K hK => ?_) AllReadyH.nil
         go_simp
         refine nmW (wk_.alloc (.cells #[.int .i64 0, .slice none 0 0, .int .i64 0, .slice none 0 0] 38)) fun w9 hv => ?_
         rw [← hv]
         have ow3_ : A18_ < wk_.heap.size := ((M.out.1)).lt
         have ob3_ : w8.heap.size ≤ wk_.heap.size := ((J3 M).1).size
         replace M := alM hv M
         clear hv
         refine hK.out _ _ (((J6 M).1.t3 ((J5 M).1.t3 ((HRz.out.keep (J7 M)).c3)))) (fun hH144 => ?_)
         clear hK K hH143
         (try simp only [Act.put, List.setIfInBounds_toArray, List.set_cons_zero, List.set_cons_succ])
         exact at_node (by kernel_rfl) (hD7 w9 x_128 x_129 x_130 x_131 x_132 x_133 x_134 x_135 A18_ wk_.heap.size (by omega) (by omega) (by omega) (Lib.hid ⟨(M.out.1), (J1 M).1, (J2 M).1, (J3 M).1, (J4 M).1⟩))
        simp only [ha0_, Act.put, List.setIfInBounds_toArray, List.set_cons_zero, List.set_cons_succ] at hD4
        have hD5 : ∀ (wk_ : World) (x_128 : Value) (x_129 : Value) (x_130 : Value) (x_131 : Value) (x_132 : Value) (x_133 : Value) (x_134 : Value) (x_135 : Value) (A19_ : Nat), w8.heap.size ≤ A19_ → Hid (Bx wk_ A19_ 38 #[.int .i64 0, .slice none 0 0, .int .i64 0, .slice none 0 0] ∧ OQ G wk_ x_128 x_129 x_130 x_131 ol ∧ OQ G wk_ x_132 x_133 x_134 x_135 oh ∧ Below w8.heap.size w8 wk_) → X_ 4 #[true, true, true, true, true, true, true, true, true, true, true, true, true, true, true, true, true, true, false, true, false, false, false] (Act.put (Act.put (Act.put (Act.put (Act.put (Act.put a0_ (some 86) (.tuple #[.agg #[x_128, x_129, x_130, x_131], .agg #[x_132, x_133, x_134, x_135], .bool bv])) (some 72) (.tuple #[.agg #[x_128, x_129, x_130, x_131], .agg #[x_132, x_133, x_134, x_135], .bool bv])) (some 87) (.agg #[x_128, x_129, x_130, x_131])) (some 88) (.agg #[x_132, x_133, x_134, x_135])) (some 89) (.bool bv)) (some 13) (.pointer (some ⟨A19_, 0, none⟩))) wk_ := by
         intro wk_ x_128 x_129 x_130 x_131 x_132 x_133 x_134 x_135 A19_ c0_ rel_
         subst hX_ ha0_
         have M := Lib.hid (aI rel_.out.1 (aI rel_.out.2.1 (aI rel_.out.2.2.1 (aI rel_.out.2.2.2 (Goes.go Mb_.out rel_.out.2.2.2)))))
         clear rel_
         have hH145 : (fun w' => w'.cell? ⟨w.heap.size, 0, none⟩ = some (.string nm) ∧ w'.cell? ⟨w.heap.size, 1, none⟩ = some (.slice (some ⟨bm, ofm, none⟩) nn cm) ∧ w'.cell? ⟨w.heap.size, 2, none⟩ = some (.slice (some ⟨br, ofr, none⟩) nr cr) ∧ w'.cell? ⟨w6.heap.size, 0, none⟩ = some (.int .i64 (q : Int)) ∧ w'.cell? ⟨w6.heap.size, 1, none⟩ = some (.int .i64 xd) ∧ w'.cell? ⟨w6.heap.size, 2, none⟩ = some (.int .i64 xc) ∧ w'.cell? ⟨bm, ofm + q * 3, none⟩ = some (.int .i64 zs) ∧ w'.cell? ⟨bm, ofm + q * 3 + 1, none⟩ = some (.int .i64 zf) ∧ w'.cell? ⟨bm, ofm + q * 3 + 2, none⟩ = some (.int .i64 zu)) wk_ := ((J5 M).1.t3 ((J4 M).1.t3 ((HRz.out.keep (J6 M)).c3)))
         (try simp only [Act.put, List.setIfInBounds_toArray, List.set_cons_zero, List.set_cons_succ])
         have lw_ := ((J3 M).1).size
         have l19_ := ((M.out.1)).lt
         refine wpAnyH_ready (rs := [18]) (by kernel_rfl) (by simp) ?_
         refine AllReadyH.cons at18 (fun K hK => ?_) AllReadyH.nil
         go_simp
         refine nmW (wk_.alloc (.cells #[.int .i64 0, .slice none 0 0, .int .i64 0, .slice none 0 0] 38)) fun w9 hv => ?_
         rw [← hv]
         have ow3_ : A19_ < wk_.heap.size := ((M.out.1)).lt
         have ob3_ : w8.heap.size ≤ wk_.heap.size := ((J3 M).1).size
         replace M := alM hv M
         clear hv
         refine hK.out _ _ (((J6 M).1.t3 ((J5 M).1.t3 ((HRz.out.keep (J7 M)).c3)))) (fun hH146 => ?_)
         clear hK K hH145
         (try simp only [Act.put, List.setIfInBounds_toArray, List.set_cons_zero, List.set_cons_succ])
         exact at_node (by kernel_rfl) (hD7 w9 x_128 x_129 x_130 x_131 x_132 x_133 x_134 x_135 wk_.heap.size A19_ (by omega) (by omega) (by omega) (Lib.hid ⟨(J1 M).1, (M.out.1), (J2 M).1, (J3 M).1, (J4 M).1⟩))
        simp only [ha0_, Act.put, List.setIfInBounds_toArray, List.set_cons_zero, List.set_cons_succ] at hD5
        have hD6 : ∀ (wk_ : World) (A18_ : Nat) (A19_ : Nat), w8.heap.size ≤ A18_ → w8.heap.size ≤ A19_ → A18_ ≠ A19_ → Hid (Bx wk_ A19_ 38 #[.int .i64 0, .slice none 0 0, .int .i64 0, .slice none 0 0] ∧ Bx wk_ A18_ 38 #[.int .i64 0, .slice none 0 0, .int .i64 0, .slice none 0 0] ∧ Below w8.heap.size w8 wk_) → X_ 8 #[true, true, true, true, true, true, true, true, true, true, true, true, true, false, false, false, false, false, true, true, false, false, false] (Act.put (Act.put a0_ (some 12) (.pointer (some ⟨A18_, 0, none⟩))) (some 13) (.pointer (some ⟨A19_, 0, none⟩))) wk_ := by
         intro wk_ A18_ A19_ c0_ c1_ c2_ rel_
         subst hX_ ha0_
         have M := Lib.hid (aI rel_.out.1 (aI rel_.out.2.1 (aI rel_.out.2.2 (Goes.go Mb_.out rel_.out.2.2))))
         clear rel_
         have hH147 : (fun w' => w'.cell? ⟨w.heap.size, 0, none⟩ = some (.string nm) ∧ w'.cell? ⟨w.heap.size, 1, none⟩ = some (.slice (some ⟨bm, ofm, none⟩) nn cm) ∧ w'.cell? ⟨w.heap.size, 2, none⟩ = some (.slice (some ⟨br, ofr, none⟩) nr cr) ∧ w'.cell? ⟨w6.heap.size, 0, none⟩ = some (.int .i64 (q : Int)) ∧ w'.cell? ⟨w6.heap.size, 1, none⟩ = some (.int .i64 xd) ∧ w'.cell? ⟨w6.heap.size, 2, none⟩ = some (.int .i64 xc) ∧ w'.cell? ⟨bm, ofm + q * 3, none⟩ = some (.int .i64 zs) ∧ w'.cell? ⟨bm, ofm + q * 3 + 1, none⟩ = some (.int .i64 zf) ∧ w'.cell? ⟨bm, ofm + q * 3 + 2, none⟩ = some (.int .i64 zu)) wk_ := ((J4 M).1.t3 ((J3 M).1.t3 ((HRz.out.keep (J5 M)).c3)))
         (try simp only [Act.put, List.setIfInBounds_toArray, List.set_cons_zero, List.set_cons_succ])
         have lw_ := ((J2 M).1).size
         have l18_ := ((J1 M).1).lt
         have l19_ := ((M.out.1)).lt
         refine wpAnyH_ready (rs := [13]) (by kernel_rfl) (by simp) ?_
         refine AllReadyH.cons at13 (fun K hK => ?_) AllReadyH.nil
         go_simp
         refine (iv_u2 (G := G) (sc := zs) (rd := xc) (day := xd) (lo := ol) (hi := oh) (b_ := bv) (Nat.le_trans hG (J5 M).size) (HC.out.keep (J5 M)) (HQ.out.keep (J5 M)) (by omega) (by omega) HOL.out HOH.out HBV.out).mono ?_
         rintro e w9 ⟨x_148, x_149, x_150, x_151, x_152, x_153, x_154, x_155, rfl, hd156, hd157, hb⟩
         replace M := ad2M hd156 hd157 hb M
         clear hb hd156 hd157
         (try go_wp2_with fail)
         refine hK.out _ _ (((J6 M).1.t3 ((J5 M).1.t3 ((HRz.out.keep (J7 M)).c3)))) (fun hH158 => ?_)
         clear hK K hH147
         (try simp only [Act.put, List.setIfInBounds_toArray, List.set_cons_zero, List.set_cons_succ])
         refine tk at14 ?_
         refine tk at15 ?_
         refine tk at16 ?_
         refine tk at17 ?_
         exact at_node (by kernel_rfl) (hD7 w9 x_148 x_149 x_150 x_151 x_152 x_153 x_154 x_155 A18_ A19_ (by omega) (by omega) (by omega) (Lib.hid ⟨(J2 M).1, (J3 M).1, (M.out.1), (J1 M).1, (J4 M).1⟩))
        simp only [ha0_, Act.put, List.setIfInBounds_toArray, List.set_cons_zero, List.set_cons_succ] at hD6
        have hD1 : ∀ (wk_ : World) (x_128 : Value) (x_129 : Value) (x_130 : Value) (x_131 : Value) (x_132 : Value) (x_133 : Value) (x_134 : Value) (x_135 : Value), Hid (OQ G wk_ x_128 x_129 x_130 x_131 ol ∧ OQ G wk_ x_132 x_133 x_134 x_135 oh ∧ Below w8.heap.size w8 wk_) → X_ 5 #[true, true, true, true, true, true, true, true, true, true, true, true, true, true, true, true, true, true, false, false, false, false, false] (Act.put (Act.put (Act.put (Act.put (Act.put a0_ (some 86) (.tuple #[.agg #[x_128, x_129, x_130, x_131], .agg #[x_132, x_133, x_134, x_135], .bool bv])) (some 72) (.tuple #[.agg #[x_128, x_129, x_130, x_131], .agg #[x_132, x_133, x_134, x_135], .bool bv])) (some 87) (.agg #[x_128, x_129, x_130, x_131])) (some 88) (.agg #[x_132, x_133, x_134, x_135])) (some 89) (.bool bv)) wk_ := by
         intro wk_ x_128 x_129 x_130 x_131 x_132 x_133 x_134 x_135 rel_
         subst hX_ ha0_
         have M := Lib.hid (aI rel_.out.1 (aI rel_.out.2.1 (aI rel_.out.2.2 (Goes.go Mb_.out rel_.out.2.2))))
         clear rel_
         have hH159 : (fun w' => w'.cell? ⟨w.heap.size, 0, none⟩ = some (.string nm) ∧ w'.cell? ⟨w.heap.size, 1, none⟩ = some (.slice (some ⟨bm, ofm, none⟩) nn cm) ∧ w'.cell? ⟨w.heap.size, 2, none⟩ = some (.slice (some ⟨br, ofr, none⟩) nr cr) ∧ w'.cell? ⟨w6.heap.size, 0, none⟩ = some (.int .i64 (q : Int)) ∧ w'.cell? ⟨w6.heap.size, 1, none⟩ = some (.int .i64 xd) ∧ w'.cell? ⟨w6.heap.size, 2, none⟩ = some (.int .i64 xc) ∧ w'.cell? ⟨bm, ofm + q * 3, none⟩ = some (.int .i64 zs) ∧ w'.cell? ⟨bm, ofm + q * 3 + 1, none⟩ = some (.int .i64 zf) ∧ w'.cell? ⟨bm, ofm + q * 3 + 2, none⟩ = some (.int .i64 zu)) wk_ := ((J4 M).1.t3 ((J3 M).1.t3 ((HRz.out.keep (J5 M)).c3)))
         (try simp only [Act.put, List.setIfInBounds_toArray, List.set_cons_zero, List.set_cons_succ])
         have lw_ := ((J2 M).1).size
         refine wpAnyH_ready (rs := [18, 19]) (by kernel_rfl) (by simp) ?_
         refine AllReadyH.cons at18 (fun K hK => ?_) ?_
         ·
          go_simp
          refine nmW (wk_.alloc (.cells #[.int .i64 0, .slice none 0 0, .int .i64 0, .slice none 0 0] 38)) fun w9 hv => ?_
          rw [← hv]
          have ow2_ : w6.heap.size < wk_.heap.size := ((J3 M).1).lt
          have ob2_ : w8.heap.size ≤ wk_.heap.size := ((J2 M).1).size
          replace M := alM hv M
          clear hv
          refine hK.out _ _ (((J5 M).1.t3 ((J4 M).1.t3 ((HRz.out.keep (J6 M)).c3)))) (fun hH160 => ?_)
          clear hK K hH159
          (try simp only [Act.put, List.setIfInBounds_toArray, List.set_cons_zero, List.set_cons_succ])
          exact at_node (by kernel_rfl) (hD4 w9 x_128 x_129 x_130 x_131 x_132 x_133 x_134 x_135 wk_.heap.size (by omega) (Lib.hid ⟨(M.out.1), (J1 M).1, (J2 M).1, (J3 M).1⟩))
         refine AllReadyH.cons at19 (fun K hK => ?_) AllReadyH.nil
         go_simp
         refine nmW (wk_.alloc (.cells #[.int .i64 0, .slice none 0 0, .int .i64 0, .slice none 0 0] 38)) fun w9 hv => ?_
         rw [← hv]
         have ow2_ : w6.heap.size < wk_.heap.size := ((J3 M).1).lt
         have ob2_ : w8.heap.size ≤ wk_.heap.size := ((J2 M).1).size
         replace M := alM hv M
         clear hv
         refine hK.out _ _ (((J5 M).1.t3 ((J4 M).1.t3 ((HRz.out.keep (J6 M)).c3)))) (fun hH161 => ?_)
         clear hK K hH159
         (try simp only [Act.put, List.setIfInBounds_toArray, List.set_cons_zero, List.set_cons_succ])
         exact at_node (by kernel_rfl) (hD5 w9 x_128 x_129 x_130 x_131 x_132 x_133 x_134 x_135 wk_.heap.size (by omega) (Lib.hid ⟨(M.out.1), (J1 M).1, (J2 M).1, (J3 M).1⟩))
        simp only [ha0_, Act.put, List.setIfInBounds_toArray, List.set_cons_zero, List.set_cons_succ] at hD1
        have hD2 : ∀ (wk_ : World) (A18_ : Nat), w8.heap.size ≤ A18_ → Hid (Bx wk_ A18_ 38 #[.int .i64 0, .slice none 0 0, .int .i64 0, .slice none 0 0] ∧ Below w8.heap.size w8 wk_) → X_ 9 #[true, true, true, true, true, true, true, true, true, true, true, true, true, false, false, false, false, false, true, false, false, false, false] (Act.put a0_ (some 12) (.pointer (some ⟨A18_, 0, none⟩))) wk_ := by
         intro wk_ A18_ c0_ rel_
         subst hX_ ha0_
         have M := Lib.hid (aI rel_.out.1 (aI rel_.out.2 (Goes.go Mb_.out rel_.out.2)))
         clear rel_
         have hH162 : (fun w' => w'.cell? ⟨w.heap.size, 0, none⟩ = some (.string nm) ∧ w'.cell? ⟨w.heap.size, 1, none⟩ = some (.slice (some ⟨bm, ofm, none⟩) nn cm) ∧ w'.cell? ⟨w.heap.size, 2, none⟩ = some (.slice (some ⟨br, ofr, none⟩) nr cr) ∧ w'.cell? ⟨w6.heap.size, 0, none⟩ = some (.int .i64 (q : Int)) ∧ w'.cell? ⟨w6.heap.size, 1, none⟩ = some (.int .i64 xd) ∧ w'.cell? ⟨w6.heap.size, 2, none⟩ = some (.int .i64 xc) ∧ w'.cell? ⟨bm, ofm + q * 3, none⟩ = some (.int .i64 zs) ∧ w'.cell? ⟨bm, ofm + q * 3 + 1, none⟩ = some (.int .i64 zf) ∧ w'.cell? ⟨bm, ofm + q * 3 + 2, none⟩ = some (.int .i64 zu)) wk_ := ((J3 M).1.t3 ((J2 M).1.t3 ((HRz.out.keep (J4 M)).c3)))
         (try simp only [Act.put, List.setIfInBounds_toArray, List.set_cons_zero, List.set_cons_succ])
         have lw_ := ((J1 M).1).size
         have l18_ := ((M.out.1)).lt
         refine wpAnyH_ready (rs := [13, 19]) (by kernel_rfl) (by simp) ?_
         refine AllReadyH.cons at13 (fun K hK => ?_) ?_
         ·
          go_simp
          refine (iv_u2 (G := G) (sc := zs) (rd := xc) (day := xd) (lo := ol) (hi := oh) (b_ := bv) (Nat.le_trans hG (J4 M).size) (HC.out.keep (J4 M)) (HQ.out.keep (J4 M)) (by omega) (by omega) HOL.out HOH.out HBV.out).mono ?_
          rintro e w9 ⟨x_163, x_164, x_165, x_166, x_167, x_168, x_169, x_170, rfl, hd171, hd172, hb⟩
          replace M := ad2M hd171 hd172 hb M
          clear hb hd171 hd172
          (try go_wp2_with fail)
          refine hK.out _ _ (((J5 M).1.t3 ((J4 M).1.t3 ((HRz.out.keep (J6 M)).c3)))) (fun hH173 => ?_)
          clear hK K hH162
          (try simp only [Act.put, List.setIfInBounds_toArray, List.set_cons_zero, List.set_cons_succ])
          refine tk at14 ?_
          refine tk at15 ?_
          refine tk at16 ?_
          refine tk at17 ?_
          exact at_node (by kernel_rfl) (hD4 w9 x_163 x_164 x_165 x_166 x_167 x_168 x_169 x_170 A18_ (by omega) (Lib.hid ⟨(J2 M).1, (M.out.1), (J1 M).1, (J3 M).1⟩))
         refine AllReadyH.cons at19 (fun K hK => ?_) AllReadyH.nil
         go_simp
         refine nmW (wk_.alloc (.cells #[.int .i64 0, .slice none 0 0, .int .i64 0, .slice none 0 0] 38)) fun w9 hv => ?_
         rw [← hv]
         have ow3_ : A18_ < wk_.heap.size := ((M.out.1)).lt
         have ob3_ : w8.heap.size ≤ wk_.heap.size := ((J1 M).1).size
         replace M := alM hv M
         clear hv
         refine hK.out _ _ (((J4 M).1.t3 ((J3 M).1.t3 ((HRz.out.keep (J5 M)).c3)))) (fun hH174 => ?_)
         clear hK K hH162
         (try simp only [Act.put, List.setIfInBounds_toArray, List.set_cons_zero, List.set_cons_succ])
         exact at_node (by kernel_rfl) (hD6 w9 A18_ wk_.heap.size (by omega) (by omega) (by omega) (Lib.hid ⟨(M.out.1), (J1 M).1, (J2 M).1⟩))
        simp only [ha0_, Act.put, List.setIfInBounds_toArray, List.set_cons_zero, List.set_cons_succ] at hD2
        have hD3 : ∀ (wk_ : World) (A19_ : Nat), w8.heap.size ≤ A19_ → Hid (Bx wk_ A19_ 38 #[.int .i64 0, .slice none 0 0, .int .i64 0, .slice none 0 0] ∧ Below w8.heap.size w8 wk_) → X_ 9 #[true, true, true, true, true, true, true, true, true, true, true, true, true, false, false, false, false, false, false, true, false, false, false] (Act.put a0_ (some 13) (.pointer (some ⟨A19_, 0, none⟩))) wk_ := by
         intro wk_ A19_ c0_ rel_
         subst hX_ ha0_
         have M := Lib.hid (aI rel_.out.1 (aI rel_.out.2 (Goes.go Mb_.out rel_.out.2)))
         clear rel_
         have hH175 : (fun w' => w'.cell? ⟨w.heap.size, 0, none⟩ = some (.string nm) ∧ w'.cell? ⟨w.heap.size, 1, none⟩ = some (.slice (some ⟨bm, ofm, none⟩) nn cm) ∧ w'.cell? ⟨w.heap.size, 2, none⟩ = some (.slice (some ⟨br, ofr, none⟩) nr cr) ∧ w'.cell? ⟨w6.heap.size, 0, none⟩ = some (.int .i64 (q : Int)) ∧ w'.cell? ⟨w6.heap.size, 1, none⟩ = some (.int .i64 xd) ∧ w'.cell? ⟨w6.heap.size, 2, none⟩ = some (.int .i64 xc) ∧ w'.cell? ⟨bm, ofm + q * 3, none⟩ = some (.int .i64 zs) ∧ w'.cell? ⟨bm, ofm + q * 3 + 1, none⟩ = some (.int .i64 zf) ∧ w'.cell? ⟨bm, ofm + q * 3 + 2, none⟩ = some (.int .i64 zu)) wk_ := ((J3 M).1.t3 ((J2 M).1.t3 ((HRz.out.keep (J4 M)).c3)))
         (try simp only [Act.put, List.setIfInBounds_toArray, List.set_cons_zero, List.set_cons_succ])
         have lw_ := ((J1 M).1).size
         have l19_ := ((M.out.1)).lt
         refine wpAnyH_ready (rs := [13, 18]) (by kernel_rfl) (by simp) ?_
         refine AllReadyH.cons at13 (fun K hK => ?_) ?_
         ·
          go_simp
          refine (iv_u2 (G := G) (sc := zs) (rd := xc) (day := xd) (lo := ol) (hi := oh) (b_ := bv) (Nat.le_trans hG (J4 M).size) (HC.out.keep (J4 M)) (HQ.out.keep (J4 M)) (by omega) (by omega) HOL.out HOH.out HBV.out).mono ?_
          rintro e w9 ⟨x_176, x_177, x_178, x_179, x_180, x_181, x_182, x_183, rfl, hd184, hd185, hb⟩
          replace M := ad2M hd184 hd185 hb M
          clear hb hd184 hd185
          (try go_wp2_with fail)
          refine hK.out _ _ (((J5 M).1.t3 ((J4 M).1.t3 ((HRz.out.keep (J6 M)).c3)))) (fun hH186 => ?_)
          clear hK K hH175
          (try simp only [Act.put, List.setIfInBounds_toArray, List.set_cons_zero, List.set_cons_succ])
          refine tk at14 ?_
          refine tk at15 ?_
          refine tk at16 ?_
          refine tk at17 ?_
          exact at_node (by kernel_rfl) (hD5 w9 x_176 x_177 x_178 x_179 x_180 x_181 x_182 x_183 A19_ (by omega) (Lib.hid ⟨(J2 M).1, (M.out.1), (J1 M).1, (J3 M).1⟩))
         refine AllReadyH.cons at18 (fun K hK => ?_) AllReadyH.nil
         go_simp
         refine nmW (wk_.alloc (.cells #[.int .i64 0, .slice none 0 0, .int .i64 0, .slice none 0 0] 38)) fun w9 hv => ?_
         rw [← hv]
         have ow3_ : A19_ < wk_.heap.size := ((M.out.1)).lt
         have ob3_ : w8.heap.size ≤ wk_.heap.size := ((J1 M).1).size
         replace M := alM hv M
         clear hv
         refine hK.out _ _ (((J4 M).1.t3 ((J3 M).1.t3 ((HRz.out.keep (J5 M)).c3)))) (fun hH187 => ?_)
         clear hK K hH175
         (try simp only [Act.put, List.setIfInBounds_toArray, List.set_cons_zero, List.set_cons_succ])
         exact at_node (by kernel_rfl) (hD6 w9 wk_.heap.size A19_ (by omega) (by omega) (by omega) (Lib.hid ⟨(J1 M).1, (M.out.1), (J2 M).1⟩))
        simp only [ha0_, Act.put, List.setIfInBounds_toArray, List.set_cons_zero, List.set_cons_succ] at hD3
        have hD0 : ∀ (wk_ : World) , Hid (Below w8.heap.size w8 wk_) → X_ 10 #[true, true, true, true, true, true, true, true, true, true, true, true, true, false, false, false, false, false, false, false, false, false, false] a0_ wk_ := by
         intro wk_ rel_
         subst hX_ ha0_
         have M := Lib.hid (aI rel_.out (Goes.go Mb_.out rel_.out))
         clear rel_
         have hH188 : (fun w' => w'.cell? ⟨w.heap.size, 0, none⟩ = some (.string nm) ∧ w'.cell? ⟨w.heap.size, 1, none⟩ = some (.slice (some ⟨bm, ofm, none⟩) nn cm) ∧ w'.cell? ⟨w.heap.size, 2, none⟩ = some (.slice (some ⟨br, ofr, none⟩) nr cr) ∧ w'.cell? ⟨w6.heap.size, 0, none⟩ = some (.int .i64 (q : Int)) ∧ w'.cell? ⟨w6.heap.size, 1, none⟩ = some (.int .i64 xd) ∧ w'.cell? ⟨w6.heap.size, 2, none⟩ = some (.int .i64 xc) ∧ w'.cell? ⟨bm, ofm + q * 3, none⟩ = some (.int .i64 zs) ∧ w'.cell? ⟨bm, ofm + q * 3 + 1, none⟩ = some (.int .i64 zf) ∧ w'.cell? ⟨bm, ofm + q * 3 + 2, none⟩ = some (.int .i64 zu)) wk_ := ((J2 M).1.t3 ((J1 M).1.t3 ((HRz.out.keep (J3 M)).c3)))
         (try simp only [Act.put, List.setIfInBounds_toArray, List.set_cons_zero, List.set_cons_succ])
         have lw_ := ((M.out.1)).size
         refine wpAnyH_ready (rs := [13, 18, 19]) (by kernel_rfl) (by simp) ?_
         refine AllReadyH.cons at13 (fun K hK => ?_) ?_
         ·
          go_simp
          refine (iv_u2 (G := G) (sc := zs) (rd := xc) (day := xd) (lo := ol) (hi := oh) (b_ := bv) (Nat.le_trans hG (J3 M).size) (HC.out.keep (J3 M)) (HQ.out.keep (J3 M)) (by omega) (by omega) HOL.out HOH.out HBV.out).mono ?_
          rintro e w9 ⟨x_189, x_190, x_191, x_192, x_193, x_194, x_195, x_196, rfl, hd197, hd198, hb⟩
          replace M := ad2M hd197 hd198 hb M
          clear hb hd197 hd198
          (try go_wp2_with fail)
          refine hK.out _ _ (((J4 M).1.t3 ((J3 M).1.t3 ((HRz.out.keep (J5 M)).c3)))) (fun hH199 => ?_)
          clear hK K hH188
          (try simp only [Act.put, List.setIfInBounds_toArray, List.set_cons_zero, List.set_cons_succ])
          refine tk at14 ?_
          refine tk at15 ?_
          refine tk at16 ?_
          refine tk at17 ?_
          exact at_node (by kernel_rfl) (hD1 w9 x_189 x_190 x_191 x_192 x_193 x_194 x_195 x_196 (Lib.hid ⟨(M.out.1), (J1 M).1, (J2 M).1⟩))
         refine AllReadyH.cons at18 (fun K hK => ?_) ?_
         ·
          go_simp
          refine nmW (wk_.alloc (.cells #[.int .i64 0, .slice none 0 0, .int .i64 0, .slice none 0 0] 38)) fun w9 hv => ?_
          rw [← hv]
          have ow2_ : w6.heap.size < wk_.heap.size := ((J1 M).1).lt
          have ob2_ : w8.heap.size ≤ wk_.heap.size := ((M.out.1)).size
          replace M := alM hv M
          clear hv
          refine hK.out _ _ (((J3 M).1.t3 ((J2 M).1.t3 ((HRz.out.keep (J4 M)).c3)))) (fun hH200 => ?_)
          clear hK K hH188
          (try simp only [Act.put, List.setIfInBounds_toArray, List.set_cons_zero, List.set_cons_succ])
          exact at_node (by kernel_rfl) (hD2 w9 wk_.heap.size (by omega) (Lib.hid ⟨(M.out.1), (J1 M).1⟩))
         refine AllReadyH.cons at19 (fun K hK => ?_) AllReadyH.nil
         go_simp
         refine nmW (wk_.alloc (.cells #[.int .i64 0, .slice none 0 0, .int .i64 0, .slice none 0 0] 38)) fun w9 hv => ?_
         rw [← hv]
         have ow2_ : w6.heap.size < wk_.heap.size := ((J1 M).1).lt
         have ob2_ : w8.heap.size ≤ wk_.heap.size := ((M.out.1)).size
         replace M := alM hv M
         clear hv
         refine hK.out _ _ (((J3 M).1.t3 ((J2 M).1.t3 ((HRz.out.keep (J4 M)).c3)))) (fun hH201 => ?_)
         clear hK K hH188
         (try simp only [Act.put, List.setIfInBounds_toArray, List.set_cons_zero, List.set_cons_succ])
         exact at_node (by kernel_rfl) (hD3 w9 wk_.heap.size (by omega) (Lib.hid ⟨(M.out.1), (J1 M).1⟩))
        simp only [ha0_, Act.put, List.setIfInBounds_toArray, List.set_cons_zero, List.set_cons_succ] at hD0
        subst hX_ ha0_
        exact at_node (by kernel_rfl) (hD0 w8 (Lib.hid (Below.refl _ _)))
       case rest =>
        obtain ⟨A125, A126, x_115, x_116, x_117, x_118, x_119, x_120, x_121, x_122, rfl, rfl, rfl, oA125, oA126, M⟩ := hcut
        obtain ⟨w8, rfl⟩ : ∃ w_ : World, w_ = wc := ⟨_, rfl⟩
        refine cj3 (J4 M).1.d3 fun aa ab ad => ?_
        refine cj3 (J5 M).1.d3 fun ae af ah => ?_
        go_wp2_with fail
        clear aa ab ad ae af ah
        refine (ctHigh_l (G := G) (day := xd) (qv := qx) (b_ := box) (nm := nm) (Nat.le_trans hG (J6 M).size) (HM.out.keep (J6 M)) (HR.out.keep (J6 M)) (HC.out.keep (J6 M)) (HQ.out.keep (J6 M)) (by omega) (by omega) (by omega) (by omega) (by omega) hqn HMx.out HKx.out).mono ?_
        rintro e w9 ⟨x_202, x_203, x_204, x_205, rfl, hd206, hb⟩
        replace M := adM hd206 hb M
        clear hb hd206
        refine cj4 (TQ.st (M.out.1)) fun cn co cp ct => ?_
        go_upto_region 16 with fail
        clear cn co cp ct
        refine nmW (w9.alloc (.cells #[x_202, x_203, x_204, x_205] 38)) fun w10 hv => ?_
        rw [← hv]
        have ow4_ : A126 < w9.heap.size := ((J2 M).1).lt
        replace M := alM hv M
        clear hv
        rcases hiv_ : ivl cs rr zs xc xd with _ | ⟨ilo, ihi⟩
        ·
         obtain rfl : ol = none := by rw [← HOL.out]; unfold loO; rw [hiv_]; rfl
         obtain rfl : oh = none := by rw [← HOH.out]; unfold hiO; rw [hiv_]; rfl
         obtain rfl : bv = false := by rw [← HBV.out]; unfold hasI; rw [hiv_]; rfl
         have HIV := Lib.hid hiv_; clear hiv_
         have HCL : Hid (clashB (ivOf cs rr) ms rs ⟨(q : Int), xd, xc⟩ = false) := clash_none HMT.out HIV.out
         rcases Bool.eq_false_or_eq_true cb with hcb_ | hcb_
         ·
          subst hcb_
          go_wp2_with fail
          go_roundw
          case rel => exact ⟨(k + 1), true, rfl, by go_num, (by show _ ≤ _; omega), (Lib.hid (by rw [any_nextC HEx.out HA.out HCL.out] <;> rfl)), Lib.hid (aI (J6 M).1 (J8 M))⟩
          case measure => simp [RowKit.intOf] <;> omega
         ·
          subst hcb_
          go_wp2_with fail
          go_roundw
          case rel => exact ⟨(k + 1), false, rfl, by go_num, (by show _ ≤ _; omega), (Lib.hid (by rw [any_nextC HEx.out HA.out HCL.out] <;> rfl)), Lib.hid (aI (J6 M).1 (J8 M))⟩
          case measure => simp [RowKit.intOf] <;> omega
        ·
         obtain rfl : ol = (some ilo) := by rw [← HOL.out]; unfold loO; rw [hiv_]; rfl
         obtain rfl : oh = (some ihi) := by rw [← HOH.out]; unfold hiO; rw [hiv_]; rfl
         obtain rfl : bv = true := by rw [← HBV.out]; unfold hasI; rw [hiv_]; rfl
         have hz_ := ivl_size hiv_
         have HZl : Hid (Fz ilo 60) := hz_.1.mono (by omega)
         have HIV := Lib.hid hiv_; clear hiv_ hz_
         rcases Bool.eq_false_or_eq_true box with hbo_ | hbo_
         ·
          subst hbo_
          obtain ⟨kv, hkv_⟩ : ∃ k, ordQ ilo qx = k := ⟨_, rfl⟩
          obtain ⟨t1, ht1_⟩ : ∃ b, decide (qx < ilo) = b := ⟨_, rfl⟩
          have hk1_ : decide (0 < kv) = t1 := by rw [← ht1_, ← hkv_, ordQ_gt0]
          have HKV := Lib.hid hkv_; have HT1 := Lib.hid ht1_; clear hkv_ ht1_
          have HCL : Hid (clashB (ivOf cs rr) ms rs ⟨(q : Int), xd, xc⟩ = t1) := clash_yes HMT.out HIV.out HMx.out HT1.out
          rcases Bool.eq_false_or_eq_true cb with hcb_ | hcb_
          ·
           subst hcb_
           go_wp2_with fail
           go_roundw
           case rel => exact ⟨(k + 1), true, rfl, by go_num, (by show _ ≤ _; omega), (Lib.hid (by rw [any_nextC HEx.out HA.out HCL.out] <;> rfl)), Lib.hid (aI (J6 M).1 (J8 M))⟩
           case measure => simp [RowKit.intOf] <;> omega
          ·
           subst hcb_
           refine cj4 (J2 M).1.d4 fun ba bc bf bh => ?_
           refine cj4 (M.out.1).d4 fun bt bu bw bx => ?_
           go_wp2_with fail
           clear ba bc bf bh bt bu bw bx
           refine (fqCompare (G := G) (q := ilo) (r := qx) (k := kv) (J4 M).1 (J1 M).1 (Fz.mono HZl.out (by omega)) (Fz.mono HZx.out (by omega)) HKV.out).mono ?_
           rintro e w11 ⟨rfl, hb⟩
           replace M := gnM hb M
           clear hb
           go_wp2_with fail
           go_roundw
           case rel => exact ⟨(k + 1), t1, rfl, by go_num, (by show _ ≤ _; omega), (Lib.hid (by rw [any_nextC HEx.out HA.out HCL.out] <;> rfl)), Lib.hid (aI (J6 M).1 (J8 M))⟩
           case measure => simp [RowKit.intOf] <;> omega
         ·
          subst hbo_
          have HCL : Hid (clashB (ivOf cs rr) ms rs ⟨(q : Int), xd, xc⟩ = false) := clash_no HMT.out HIV.out HMx.out
          rcases Bool.eq_false_or_eq_true cb with hcb_ | hcb_
          ·
           subst hcb_
           go_wp2_with fail
           go_roundw
           case rel => exact ⟨(k + 1), true, rfl, by go_num, (by show _ ≤ _; omega), (Lib.hid (by rw [any_nextC HEx.out HA.out HCL.out] <;> rfl)), Lib.hid (aI (J6 M).1 (J8 M))⟩
           case measure => simp [RowKit.intOf] <;> omega
          ·
           subst hcb_
           go_wp2_with fail
           go_roundw
           case rel => exact ⟨(k + 1), false, rfl, by go_num, (by show _ ≤ _; omega), (Lib.hid (by rw [any_nextC HEx.out HA.out HCL.out] <;> rfl)), Lib.hid (aI (J6 M).1 (J8 M))⟩
           case measure => simp [RowKit.intOf] <;> omega
      ·
       have e1_0 : decide (k < nr) = false := decide_eq_false (by omega)
       have e1_1 : decide ((k : Int) < (nr : Int)) = false := decide_eq_false (by omega)
       have e1_i : ¬ (k : Int) < (nr : Int) := by omega
       have HANY : Hid (rs.any (clashB (ivOf cs rr) ms rs) = cb) := by show _ = _; rw [← HA.out, take_all (by rw [HR.out.len]; omega)]
       have HIFF := clash_iff (ivOk cs rr) HFM0.out
       rw [HANY.out, HCE.out] at HIFF
       obtain rfl : cb = true := HIFF.2 rfl
       clear HIFF
       refine cj3 (M.out.1).d3 fun aa ab ad => ?_
       go_upto_region 17 with fail
       clear aa ab ad
       have hB0_ : w.heap.size ≤ w6.heap.size := ((J1 M)).size
       have hGB_ : G ≤ w6.heap.size := Nat.le_trans hG hB0_
       have hlt0_ : w.heap.size < w6.heap.size := ((M.out.1)).lt
       replace M := Lib.hid (aI (Below.refl w6.heap.size w6) M.out)
       go_upto_region 18 with fail
       refine nmW (w6.alloc (.cells #[] 68)) fun w7 hv => ?_
       rw [← hv]
       have ow1_ : w.heap.size < w6.heap.size := ((J1 M).1).lt
       have ob1_ : w6.heap.size ≤ w6.heap.size := ((M.out.1)).size
       replace M := alM hv M
       clear hv
       go_wp2_with fail
       go_loopw [17, 18] (fun i17 i18 wr => ∃ (j : Nat) (hl : List HdX) (vg : Value), vg = i17 ∧ i18 = .int .i64 (j : Int) ∧ Hid (j ≤ nn) ∧ Hid (hl.length = j) ∧ Hid (hl.map HdX.vs = ((List.range j).map (leastE (ivOf cs rr) ms rs)).map (List.map some)) ∧ Hid (XZL hl 60) ∧ Hid (LenX hl 1000) ∧ Hid (OwVH G w6.heap.size wr vg hl ∧ Below w6.heap.size w6 wr ∧ Bx wr w.heap.size 25 #[.string nm, .slice am nn cm, .slice ar nr cr] ∧ Below w.heap.size w wr)) (fun i17 i18 _ => nn - (RowKit.intOf i18).toNat)
       case atStart =>
        exact ⟨0, [], (.slice (some ⟨w6.heap.size, 0, none⟩) 0 0), rfl, rfl, (by show _ ≤ _; omega), (Lib.hid rfl), (Lib.hid rfl), (Lib.hid (fun x hx => by cases hx)), (Lib.hid (fun x hx => by cases hx)), Lib.hid (aI (OwV.emptyC (M.out.1) hGB_ (Nat.le_refl _)) (aI (J1 M).1 (aI (J2 M).1 (J3 M))))⟩
       case round =>
        obtain ⟨w8, rfl⟩ : ∃ x, x = wr := ⟨_, rfl⟩
        clear M
        obtain ⟨j, hl, vg, rfl, rfl, hj, HGL, HGM, HGZ, HGX, M⟩ := hrel
        have hj := hj.out
        by_cases hlt2 : j < nn
        ·
         have e2_0 : decide (j < nn) = true := decide_eq_true (by omega)
         have e2_1 : decide ((j : Int) < (nn : Int)) = true := decide_eq_true (by omega)
         have e2_i : (j : Int) < (nn : Int) := by omega
         obtain ⟨bz, ofz, rfl, hb_⟩ := RdL.ptr HM.out (by omega : 0 < nn)
         have hbkbz := Lib.hid hb_
         have hkl_ : j < ms.length := by rw [HM.out.len]; exact hlt2
         obtain ⟨y_, hx_⟩ : ∃ x, ms[j]? = some x := ⟨ms[j], List.getElem?_eq_getElem hkl_⟩
         obtain ⟨ys, yf, yu⟩ := y_
         have HRy : Hid (Row w bz (ofz + j * 3) [.int .i64 ys, .int .i64 yf, .int .i64 yu]) := hb_.row hx_
         have HEy := Lib.hid hx_
         have hly := hkl_
         clear hx_ hb_ hkl_
         have hmz_ := HMZ.out _ _ HEy.out
         simp only at hmz_
         have hyf0 : 0 ≤ yf := hmz_.1
         have hyfu : yf ≤ yu := hmz_.2.1
         have hyu : yu ≤ 900 := hmz_.2.2
         clear hmz_
         refine cj3 (J2 M).1.d3 fun aa ab ad => ?_
         go_wp2_with fail
         clear aa ab ad
         refine nmW w8.drew fun w9 hv => ?_
         replace M := drM hv M
         refine wp_region_held_drew (S := (fun w' => w'.cell? ⟨w.heap.size, 0, none⟩ = some (.string nm) ∧ w'.cell? ⟨w.heap.size, 1, none⟩ = some (.slice (some ⟨bz, ofz, none⟩) nn cm) ∧ w'.cell? ⟨w.heap.size, 2, none⟩ = some (.slice ar nr cr) ∧ w'.cell? ⟨bz, ofz + j * 3, none⟩ = some (.int .i64 ys) ∧ w'.cell? ⟨bz, ofz + j * 3 + 1, none⟩ = some (.int .i64 yf) ∧ w'.cell? ⟨bz, ofz + j * 3 + 2, none⟩ = some (.int .i64 yu))) (by kernel_rfl) (by rw [← hv]; exact ((J2 M).1.t3 ((HRy.out.keep (J3 M)).c3))) (fun hH215 => ?_)
         rw [← hv] at hH215 ⊢
         clear hv
         refine tk at0 ?_
         refine tk at1 ?_
         refine tk at2 ?_
         refine tk at3 ?_
         refine tk at4 ?_
         refine tk at5 ?_
         refine tk at6 ?_
         refine tk at7 ?_
         refine tk at8 ?_
         refine tk at9 ?_
         refine tk at10 ?_
         refine tk at11 ?_
         refine tk at12 ?_
         refine tk at13 ?_
         refine tk at14 ?_
         refine tk at15 ?_
         refine tk at16 ?_
         refine wpAnyH_ready (rs := [17]) (by kernel_rfl) (by simp) ?_
         refine AllReadyH.cons at17 (fun K hK => ?_) AllReadyH.nil
         go_simp
         refine (ctFlat (G := G) (zs := ys) (zf := yf) (zu := yu) (da := yu) (db := yu) (nm := nm) (Nat.le_trans hG (J3 M).size) (HM.out.keep (J3 M)) (HR.out.keep (J3 M)) (HC.out.keep (J3 M)) (HQ.out.keep (J3 M)) (by omega) (by omega) (by omega) (by omega) (by omega) HEy.out (by omega) (by omega) (by omega)).mono ?_
         rintro e w10 ⟨ad_216, n__217, c__218, L_219, rfl, hd220, hu221, hu222, hu223, hb⟩
         replace M := adM hd220 hb M
         clear hb hd220
         replace hu221 := Lib.hid hu221
         replace hu222 := Lib.hid hu222
         (try go_wp2_with fail)
         refine hK.out _ _ (((J3 M).1.t3 ((HRy.out.keep (J4 M)).c3))) (fun hH224 => ?_)
         clear hK K hH215
         (try simp only [Act.put, List.setIfInBounds_toArray, List.set_cons_zero, List.set_cons_succ])
         refine wpAnyH_ready (rs := [18]) (by kernel_rfl) (by simp) ?_
         refine AllReadyH.cons at18 (fun K hK => ?_) AllReadyH.nil
         go_simp
         refine nmW (w10.alloc (.cells #[.slice ad_216 n__217 c__218] 68)) fun w11 hv => ?_
         rw [← hv]
         have ow2_ : w.heap.size < w10.heap.size := ((J3 M).1).lt
         have ob2_ : w6.heap.size ≤ w10.heap.size := ((J2 M).1).size
         replace M := alM hv M
         clear hv
         refine hK.out _ _ (((J4 M).1.t3 ((HRy.out.keep (J5 M)).c3))) (fun hH225 => ?_)
         clear hK K hH224
         (try simp only [Act.put, List.setIfInBounds_toArray, List.set_cons_zero, List.set_cons_succ])
         refine wpAnyH_ready (rs := [19]) (by kernel_rfl) (by simp) ?_
         refine AllReadyH.cons at19 (fun K hK => ?_) AllReadyH.nil
         have hlx_227 : L_219.length ≤ 1000 := by rw [((J1 M).1).len]; exact hu223
         rw [if_pos (by rfl)]
         refine wp_pushC (J2 M).1 HGL.out elemHdX (⟨ad_216, n__217, c__218, L_219⟩ : HdX) (M.out.1) rfl (J1 M).1 (by rfl) (by omega) (by omega) (J3 M).1.size rfl rfl rfl (fun vv_226 w12 ho_ hg_ => ?_)
         replace M := Lib.hid (aI ho_ (aI (below_grown (J3 M).1 (J2 M).1.own (Nat.le_refl _) (J3 M).1.size hg_) (aI ((J4 M).1.grownT (J2 M).1.own (by rfl) hg_) (below_grown (J5 M) (J2 M).1.own hB0_ (J5 M).size hg_))))
         clear ho_ hg_
         refine hK.out _ _ (((J2 M).1.t3 ((HRy.out.keep (J3 M)).c3))) (fun hH228 => ?_)
         clear hK K hH225
         (try simp only [Act.put, List.setIfInBounds_toArray, List.set_cons_zero, List.set_cons_succ])
         refine tk at20 ?_
         refine wpAnyH_done (by kernel_rfl) ?_ _
         clear hH228
         go_wp2_with fail
         go_roundw
         case rel => exact ⟨(j + 1), (hl ++ [(⟨ad_216, n__217, c__218, L_219⟩ : HdX)]), vv_226, rfl, by go_num, (by show _ ≤ _; omega), (Lib.hid (by rw [List.length_append, HGL.out]; rfl)), (Lib.hid (hx_next HGM.out (by rw [leastE_is HEy.out]; exact hu221.out))), (Lib.hid (HGZ.out.push hu222.out)), (Lib.hid (HGX.out.push hlx_227)), Lib.hid (aI (M.out.1) (aI (J1 M).1 (aI (J2 M).1 (J3 M))))⟩
         case measure => simp [RowKit.intOf] <;> omega
        ·
         have e2_0 : decide (j < nn) = false := decide_eq_false (by omega)
         have e2_1 : decide ((j : Int) < (nn : Int)) = false := decide_eq_false (by omega)
         have e2_i : ¬ (j : Int) < (nn : Int) := by omega
         have HEND := Lib.hid (least_is HGM.out (show j = nn by omega) HM.out.len)
         obtain ⟨ag, cg, hvg_, hrd_⟩ := OwV.rdl (M.out.1) HGL.out
         subst hvg_
         replace M := Lib.hid (aI hrd_ (aI (J1 M).1 (aI (J2 M).1 (J3 M))))
         clear hrd_
         refine cj3 (J2 M).1.d3 fun aa ab ad => ?_
         go_wp2_with fail
         clear aa ab ad
         refine (ctAllowed_l (G := G) (nm := nm) (nb := (nameOk nm.data.toList)) (big := (bigB ms rs cs.length rr.length)) (b_ := false) (Nat.le_trans hG (J3 M).size) (HM.out.keep (J3 M)) (HR.out.keep (J3 M)) (HC.out.keep (J3 M)) (HQ.out.keep (J3 M)) (by omega) (by omega) (by omega) (by omega) (by omega) (M.out.1) HGZ.out HGX.out rfl rfl (by rw [HEND.out]; exact allow_not (ivOk cs rr) _ (by rw [HCE.out]; decide))).mono ?_
         rintro e w9 ⟨rfl, hb⟩
         replace M := gnM hb M
         clear hb
         go_wp2_with fail
         go_ret
         exact ⟨by rfl, (J3 M)⟩
    ·
     have m0_ : (ce != 0) = true := bne_iff_ne.2 h0_
     have m1_ : (ce != 16) = true := bne_iff_ne.2 h16_
     have HAL : Hid (allowB (ivOf cs rr) (nameOk nm.data.toList) (bigB ms rs cs.length rr.length) ms rs (([] : List HdX).map HdX.vs) = false) := allow_not (ivOk cs rr) _ (by rw [HCE.out]; exact h0_)
     clear h0_ h16_
     refine cj3 (M.out.1).d3 fun aa ab ad => ?_
     go_wp2_with fail
     clear aa ab ad
     refine (ctAllowed_l (G := G) (nm := nm) (nb := (nameOk nm.data.toList)) (big := (bigB ms rs cs.length rr.length)) (b_ := false) (Nat.le_trans hG (J1 M).size) (HM.out.keep (J1 M)) (HR.out.keep (J1 M)) (HC.out.keep (J1 M)) (HQ.out.keep (J1 M)) (by omega) (by omega) (by omega) (by omega) (by omega) (HN0.out.keep (J1 M)) (fun x hx => by cases hx) (fun x hx => by cases hx) rfl rfl HAL.out).mono ?_
     rintro e w6 ⟨rfl, hb⟩
     replace M := gnM hb M
     clear hb
     go_wp2_with fail
     go_ret
     exact ⟨by rfl, (J1 M)⟩
  ·
   have HSB : Hid (shortB ms = false) := hsb_
   clear hsb_
   refine cj3 (M.out.1).d3 fun aa ab ad => ?_
   go_wp2_with fail
   clear aa ab ad
   refine (ctFew (nm := nm) (b_ := true) HFW.out).mono ?_
   rintro e w3 ⟨rfl, hb⟩
   replace M := gnM hb M
   clear hb
   refine cj3 (M.out.1).d3 fun aa ab ad => ?_
   go_wp2_with fail
   clear aa ab ad
   refine (ctShort (G := G) (nm := nm) (b_ := false) (Nat.le_trans hG (J1 M).size) (HM.out.keep (J1 M)) (by omega) HSB.out).mono ?_
   rintro e w4 ⟨rfl, hb⟩
   replace M := gnM hb M
   clear hb
   go_wp2_with fail
   go_ret
   exact ⟨by rfl, (J1 M)⟩
 ·
  have HFW : Hid (fewCt nn nr nm.size kc kq = false) := hfw_
  refine cj3 (M.out.1).d3 fun aa ab ad => ?_
  go_wp2_with fail
  clear aa ab ad
  refine (ctFew (nm := nm) (b_ := false) HFW.out).mono ?_
  rintro e w3 ⟨rfl, hb⟩
  replace M := gnM hb M
  clear hb
  go_wp2_with fail
  go_ret
  exact ⟨by rfl, (J1 M)⟩
end Go.Proofs.Ytlcgckelamhnpaa
