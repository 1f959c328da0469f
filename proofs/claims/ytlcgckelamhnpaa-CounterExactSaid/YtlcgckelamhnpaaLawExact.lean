/- CounterExact: whatever the arguments, it returns true. -/
import Derived.Test.YtlcgckelamhnpaaBase
import Derived.Test.YtlcgckelamhnpaaBigSpec
import Derived.Test.YtlcgckelamhnpaaBigB
import Derived.Test.YtlcgckelamhnpaaBigC
import Derived.Test.YtlcgckelamhnpaaBigD
import Derived.Test.YtlcgckelamhnpaaBigQ
import Derived.Test.YtlcgckelamhnpaaFd
import Derived.Test.YtlcgckelamhnpaaHeld
import Derived.Test.YtlcgckelamhnpaaAw
import Derived.Test.YtlcgckelamhnpaaFracC
import Derived.Test.YtlcgckelamhnpaaFz
import Derived.Test.YtlcgckelamhnpaaFracR
import Derived.Test.YtlcgckelamhnpaaRw
import Derived.Test.YtlcgckelamhnpaaScaleE
import Derived.Test.YtlcgckelamhnpaaCtLaws
import Derived.Test.YtlcgckelamhnpaaCtA
import Derived.Test.YtlcgckelamhnpaaCtC
import Derived.Test.YtlcgckelamhnpaaLexSpec
import Derived.Test.YtlcgckelamhnpaaCtE
import Derived.Test.YtlcgckelamhnpaaCtL
import Derived.Test.YtlcgckelamhnpaaCtHist
import Derived.Test.YtlcgckelamhnpaaCtU
import Derived.Test.YtlcgckelamhnpaaCtV
import Derived.Test.YtlcgckelamhnpaaCtW
import Derived.Test.YtlcgckelamhnpaaLawAdds
import Derived.Test.YtlcgckelamhnpaaOpenRw
import Derived.Test.YtlcgckelamhnpaaProg
import Derived.Test.YtlcgckelamhnpaaShelf
import Derived.WalkKit
import Derived.WalkSpells
import Derived.WalkLawsBesides
import Derived.Handy
import Derived.Lib.Hide
import Derived.Lib.Strings
import Derived.Lib.Builder
import Derived.BigQuiet
import Derived.OwnWalk
import Derived.Laws.BitsLemmas
import Derived.WalkSmall
import Derived.Deep.QuietTactic
import Derived.StillTailTactics
import Derived.Maps.AppendAt
import Derived.IntWalk
import Derived.Deep.RegionHeld3
import Derived.Deep.DeepFit
import Derived.Deep.LoopGhost
import Derived.Deep.DeepCutAuto
import Derived.Lib.ItoaNum
import Derived.Lib.Repeat
import Derived.Lib.AppendIntMem
import Derived.Sort.OwnSorted
import Derived.Shelf.Strings.SlTrimAscii
import Derived.Lib.ConvBytes
import Derived.Lib.CutLaws
import Derived.Deep.Slices
import Derived.Deep.Fields
import Derived.ChangeSame
import Derived.Shelf.Strings.Builder1
import Derived.ArgAppend
namespace Go.Proofs.Ytlcgckelamhnpaa
open Go.RowKit Go.WideShapes Go.ChangeShapes Go.Deep

theorem trod_rdl {α : Type} [El α] {H : Type} {enc : TypeId × Value → H} {P : Program} {w : World} {spare : Nat → Bool} {held : Bool} {t : TypeId} {fuel : Nat} {cs : List Value} {y : DataW H × List MemPlace}
    (ht : P.underlying t = some (.slice (El.T α))) (hC : P.cellsOf (El.T α) = El.sz α) (hpos : 0 < El.sz α)
    (helem : ∀ (n : Nat) (cs : List Value) (y : DataW H × List MemPlace), DataW.trod enc P w 0 spare held n (El.T α) cs = some y → ∃ x : α, cs = El.cells x ∧ El.ok w.heap.size w x)
    (hf : DataW.trod enc P w 0 spare held fuel t cs = some y) : ∃ (a : Option Addr) (n c : Nat) (l : List α), cs = [.slice a n c] ∧ n ≤ 9223372036854775807 ∧ RdL w.heap.size w a n c l := by
  rcases open_slice ht hf with ⟨h0, -⟩ | ⟨a', len, cap, m, n', D, Pl, hcs, -, hl, hm, hmm, -, hi⟩
  · exact ⟨none, 0, 0, [], h0, by omega, RdL.nil _ _ _⟩
  · subst hcs
    refine ⟨some a', len, cap, ?_⟩
    unfold maxLen at hm
    obtain ⟨l, hll, hp⟩ := choose_list (p := fun i (x : α) => El.ok w.heap.size w x ∧ ∀ (j : Nat) (u : Value), (El.cells x)[j]? = some u → w.cell? (a'.add (i * El.sz α + j)) = some u) len (fun i hil => by
      obtain ⟨cs', hc, ht'⟩ := hi i (by rw [hmm]; split <;> omega)
      obtain ⟨x, hx, hok⟩ := helem _ _ _ ht'
      rw [hC] at hc
      obtain ⟨_, hcl, hat⟩ := World.cells?_some hc
      refine ⟨x, hok, fun j u hj => ?_⟩
      subst hx
      have hjl : j < El.sz α := by have := (List.getElem?_eq_some_iff.1 hj).1; rwa [El.len] at this
      rw [← Go.Deep.add_add, hat _ hjl]; exact hj)
    rcases Nat.eq_zero_or_pos len with h0 | h0
    · subst h0
      obtain rfl := List.eq_nil_of_length_eq_zero hll
      exact ⟨[], rfl, by omega, RdL.nil _ _ _⟩
    · have hx0 : l[0]? = some (l[0]'(by omega)) := List.getElem?_eq_getElem (by omega)
      have hc0 : (El.cells (l[0]'(by omega)))[0]? = some ((El.cells (l[0]'(by omega)))[0]'(by rw [El.len]; exact hpos)) := List.getElem?_eq_getElem _
      have h1 := (hp 0 _ hx0).2 0 _ hc0
      have ha0 : a'.add (0 * El.sz α + 0) = a' := by simp [Addr.add]
      rw [ha0] at h1
      obtain ⟨q1, q2⟩ := cell_at h1
      obtain ⟨b, o, pp⟩ := a'
      obtain rfl : pp = none := congrArg Addr.spot q1
      refine ⟨l, rfl, by omega, RdL.of ⟨q2, .inl q2, fun x hx => ?_, fun k x j u hk hj => ?_⟩ hll hl⟩
      · obtain ⟨k, hk⟩ := List.getElem?_of_mem hx
        exact (hp k x hk).1
      · have := (hp k x hk).2 j u hj
        rw [add_off] at this
        rw [Nat.add_assoc]; exact this
theorem RcIn.shape_ {w : World} {v : Value} {rs : List Rc} (h : RcIn w v rs) : ∃ a cap, v = .slice a rs.length cap := by
 obtain ⟨a, cap, hv, _⟩ := h; exact ⟨a, cap, hv⟩
set_option maxRecDepth 100000 in
theorem meterParts : ∃ f0 f1 f2 : Field, Try.prog.underlying 52 = some (.struct #[f0, f1, f2]) ∧ f0.type = 3 ∧ f0.offset = 0 ∧ f1.type = 3 ∧ f1.offset = 1 ∧ f2.type = 3 ∧ f2.offset = 2 :=
 ⟨_, _, _, Try.underlying52, rfl, rfl, rfl, rfl, rfl, rfl⟩
set_option maxRecDepth 100000 in
theorem readingParts : ∃ f0 f1 f2 : Field, Try.prog.underlying 29 = some (.struct #[f0, f1, f2]) ∧ f0.type = 3 ∧ f0.offset = 0 ∧ f1.type = 3 ∧ f1.offset = 1 ∧ f2.type = 3 ∧ f2.offset = 2 :=
 ⟨_, _, _, Try.underlying29, rfl, rfl, rfl, rfl, rfl, rfl⟩
set_option maxRecDepth 100000 in
theorem stationParts : ∃ f0 f1 f2 : Field, Try.prog.underlying 25 = some (.struct #[f0, f1, f2]) ∧ f0.type = 9 ∧ f0.offset = 0 ∧ f1.type = 22 ∧ f1.offset = 1 ∧ f2.type = 23 ∧ f2.offset = 2 :=
 ⟨_, _, _, Try.underlying25, rfl, rfl, rfl, rfl, rfl, rfl⟩
theorem cells1_int : Try.prog.cellsOf 3 = 1 := by kernel_rfl
theorem cells1_str : Try.prog.cellsOf 9 = 1 := by kernel_rfl
theorem cells1_ms : Try.prog.cellsOf 22 = 1 := by kernel_rfl
theorem cells1_rs : Try.prog.cellsOf 23 = 1 := by kernel_rfl
theorem cells3_mt : Try.prog.cellsOf 52 = 3 := by kernel_rfl
theorem cells3_rg : Try.prog.cellsOf 29 = 3 := by kernel_rfl
theorem cells3_st : Try.prog.cellsOf 25 = 3 := by kernel_rfl
set_option maxRecDepth 100000 in
theorem trod_ints3 {H : Type} {enc : TypeId × Value → H} {w : World} {spare : Nat → Bool} {held : Bool} {n : Nat} {cs : List Value} {y : DataW H × List MemPlace} {T : TypeId} (hp : ∃ f0 f1 f2 : Field, Try.prog.underlying T = some (.struct #[f0, f1, f2]) ∧ f0.type = 3 ∧ f0.offset = 0 ∧ f1.type = 3 ∧ f1.offset = 1 ∧ f2.type = 3 ∧ f2.offset = 2) (hc : Try.prog.cellsOf T = 3)
  (h : DataW.trod enc Try.prog w 0 spare held n T cs = some y) : ∃ a b c : Int, cs = [.int .i64 a, .int .i64 b, .int .i64 c] := by
 obtain ⟨f0, f1, f2, he, t0, o0, t1, o1, t2, o2⟩ := hp
 obtain ⟨xs, n', -, -, hlen, hxl, hg⟩ := DataW.trod_struct he h
 obtain ⟨y0, g0⟩ := trod_field (j := 0) (f := f0) hg hxl rfl
 obtain ⟨y1, g1⟩ := trod_field (j := 1) (f := f1) hg hxl rfl
 obtain ⟨y2, g2⟩ := trod_field (j := 2) (f := f2) hg hxl rfl
 rw [t0, o0, cells1_int] at g0
 rw [t1, o1, cells1_int] at g1
 rw [t2, o2, cells1_int] at g2
 rw [hc] at hlen
 match cs, hlen with
 | [a, b, c], _ =>
  obtain ⟨m0, e0, -, -⟩ := DataW.trod_int Try.underlying3 g0
  obtain ⟨m1, e1, -, -⟩ := DataW.trod_int Try.underlying3 g1
  obtain ⟨m2, e2, -, -⟩ := DataW.trod_int Try.underlying3 g2
  simp at e0 e1 e2
  subst e0 e1 e2
  exact ⟨m0, m1, m2, rfl⟩
set_option maxRecDepth 100000 in
theorem trod_station {H : Type} {enc : TypeId × Value → H} {w : World} {spare : Nat → Bool} {held : Bool} {n : Nat} {cs : List Value} {y : DataW H × List MemPlace} (h : DataW.trod enc Try.prog w 0 spare held n 25 cs = some y) :
  ∃ (nm : ByteArray) (am ar : Option Addr) (nn cm nr cr : Nat) (ms : List Mt) (rs : List Rg), cs = [.string nm, .slice am nn cm, .slice ar nr cr] ∧ RdMt w.heap.size w am nn cm ms ∧ RdRg w.heap.size w ar nr cr rs := by
 obtain ⟨f0, f1, f2, he, t0, o0, t1, o1, t2, o2⟩ := stationParts
 obtain ⟨xs, n', -, -, hlen, hxl, hg⟩ := DataW.trod_struct he h
 obtain ⟨y0, g0⟩ := trod_field (j := 0) (f := f0) hg hxl rfl
 obtain ⟨y1, g1⟩ := trod_field (j := 1) (f := f1) hg hxl rfl
 obtain ⟨y2, g2⟩ := trod_field (j := 2) (f := f2) hg hxl rfl
 rw [t0, o0, cells1_str] at g0
 rw [t1, o1, cells1_ms] at g1
 rw [t2, o2, cells1_rs] at g2
 rw [cells3_st] at hlen
 match cs, hlen with
 | [a, b, c], _ =>
  obtain ⟨s, e0, -, -⟩ := DataW.trod_string Try.underlying9 g0
  obtain ⟨am, nn, cm, ms, e1, -, hm⟩ := trod_rdl (α := Mt) Try.underlying22 cells3_mt (by decide) (fun _ _ _ h => by
   obtain ⟨a, b, c, rfl⟩ := trod_ints3 meterParts cells3_mt h
   exact ⟨⟨a, b, c⟩, rfl, trivial⟩) g1
  obtain ⟨ar, nr, cr, rs, e2, -, hr⟩ := trod_rdl (α := Rg) Try.underlying23 cells3_rg (by decide) (fun _ _ _ h => by
   obtain ⟨a, b, c, rfl⟩ := trod_ints3 readingParts cells3_rg h
   exact ⟨⟨a, b, c⟩, rfl, trivial⟩) g2
  simp at e0 e1 e2
  subst e0 e1 e2
  exact ⟨s, am, ar, nn, cm, nr, cr, ms, rs, rfl, hm, hr⟩
set_option maxRecDepth 100000 in
theorem open_station {H : Type} {enc : TypeId × Value → H} {w : World} {spare : Nat → Bool} {held : Bool} {v : Value} {d : DataW H} {p : List MemPlace}
  (hv : Value.okWide Try.prog w .any 0 25 v) (h : DataW.Trod enc Try.prog w 0 spare held 25 v d p) :
  ∃ (nm : ByteArray) (am ar : Option Addr) (nn cm nr cr : Nat) (ms : List Mt) (rs : List Rg), v = .agg #[.string nm, .slice am nn cm, .slice ar nr cr] ∧ RdMt w.heap.size w am nn cm ms ∧ RdRg w.heap.size w ar nr cr rs := by
 obtain ⟨f0, f1, f2, he, -⟩ := stationParts
 obtain ⟨cs, rfl, hsz⟩ := okWide_struct he hv
 obtain ⟨fuel, hf⟩ := h
 obtain ⟨nm, am, ar, nn, cm, nr, cr, ms, rs, e, h1, h2⟩ := trod_station hf
 refine ⟨nm, am, ar, nn, cm, nr, cr, ms, rs, ?_, h1, h2⟩
 congr 1
 exact Array.ext' e
end Go.Proofs.Ytlcgckelamhnpaa
namespace Go.Proofs.Ytlcgckelamhnpaa
open Go.RowKit Go.Lib
variable {G : Nat}

theorem ordQ_same (q : Rat) : ordQ q q = 0 := by unfold ordQ; rw [if_neg (by grind), if_neg (by grind)]
theorem MtZ.mono {ms : List Mt} {a b : Int} (h : MtZ ms a) (hab : a ≤ b) : MtZ ms b := fun i z hz => by have := h i z hz; omega
theorem ends_len {iv : Iv} {ms : List Mt} {rs : List Rg} {a b : Int} {much : Bool} {L : List HdX} {w : World} {ad : Option Addr} {n c nn : Nat} (hr : RdHX G w ad n c L) (h : L.map HdX.vs = (endsH iv ms rs a b much).map (List.map some)) (hn : ms.length = nn) : n = nn := by
 have h1 := congrArg List.length h
 unfold endsH at h1
 simp only [List.length_map, List.length_range] at h1
 have := hr.len
 omega
theorem exact_facts {iv : Iv} (hv : IvOk iv) {nb big : Bool} {ms : List Mt} {rs : List Rg} {a b : Int} {x y : Rat} (h : betw iv nb big ms rs a b = (0, some (x, y))) (hs : shortB ms = true) : MtZ ms 900 ∧ 0 ≤ a ∧ a ≤ b ∧ b ≤ 200000 ∧ x ≤ y := by
 obtain ⟨hc, ⟨d1, d2, d3, d4⟩, -⟩ := betw_zero (show (betw iv nb big ms rs a b).1 = 0 by rw [h])
 have hm := (formed_zero.1 (check_zero.1 hc).1).2.2.1
 have hz := short_z hs hm
 have e0 := mErr_zero (i := 0) (by omega) (hm 0 (by omega))
 have e1 := mErr_zero (i := ms.length - 1) (by omega) (hm _ (by omega))
 exact ⟨hz.mono (by omega), by omega, d1, by omega, (betw_ord hv h).2⟩
theorem betw_16 {iv : Iv} {nb big : Bool} {ms : List Mt} {rs : List Rg} {a b : Int} (h : betw iv nb big ms rs a b = (16, none)) : checkE iv nb big ms rs ≠ 0 := fun hc => by
  unfold betw at h
  rw [if_pos hc] at h
  split at h
  · cases h
  · split at h
    · cases h
    · split at h
      · cases h
      · cases h
theorem allow_hq {iv : Iv} {nb big : Bool} {ms : List Mt} {rs : List Rg} {vs : List (List (Option Rat))} (h : allowB iv nb big ms rs vs = true) : vs.length = ms.length ∧ ∃ Hq : List (List Rat), vs = Hq.map (List.map some) := by
 obtain ⟨-, h2, h3⟩ := allow_iff.1 h
 refine ⟨h2, vs.map (fun v => v.map fun o => o.getD 0), ?_⟩
 rw [List.map_map]
 have : ∀ v ∈ vs, v = List.map some (v.map fun o => o.getD 0) := fun v hv => by
  obtain ⟨i, hi⟩ := List.getElem?_of_mem hv
  obtain ⟨qs, hq, -⟩ := h3 i (by have := (List.getElem?_eq_some_iff.1 hi).1; omega)
  rw [show vs.getD i [] = v by rw [List.getD_eq_getElem?_getD, hi]; rfl] at hq
  rw [hq, List.map_map]
  rw [List.map_map]
  exact List.map_congr_left fun q _ => rfl
 exact (List.map_id vs).symm.trans (List.map_congr_left fun v hv => this v hv)
theorem cntM_fz {m : Mt} {qs : List Rat} (h : ∀ q ∈ qs, Fz q 60) (a b : Int) : Fz (cntM m qs a b) 121 := by
  have h0 : ∀ i, Fz (qs.getD i 0) 60 := fun i => by
    rw [List.getD_eq_getElem?_getD]
    cases hq : qs[i]? with
    | none => exact (Fz.int64 (x := 0) (by decide)).mono (by omega)
    | some q => exact h q (List.mem_of_getElem? hq)
  unfold cntM
  split
  · exact Fz.sub (h0 _) (h0 _)
  · exact (Fz.int64 (x := 0) (by decide)).mono (by omega)
theorem cntS_fz {F : Nat → Rat} (h : ∀ i, Fz (F i) 121) : ∀ k, Fz (cntS F k) (4 + 122 * k)
 | 0 => Fz.int64 (x := 0) (by decide)
 | k + 1 => by
  refine (Fz.add (cntS_fz h k) (h k)).mono ?_
  omega
theorem cnt_fz {H : List HdX} {Hq : List (List Rat)} {ms : List Mt} {a b : Int} (hz : XZL H 60) (hh : H.map HdX.vs = Hq.map (List.map some)) (hn : ms.length ≤ 1000) : Fz (cntA ms Hq a b) 130000 := by
 refine (cntS_fz (fun i => cntM_fz (fun q hq => ?_) a b) ms.length).mono (by omega)
 rw [List.getD_eq_getElem?_getD] at hq
 cases hi : Hq[i]? with
 | none => rw [hi] at hq; cases hq
 | some qs =>
  rw [hi] at hq
  have hq' : q ∈ qs := hq
  have h1 : (H.map HdX.vs)[i]? = some (qs.map some) := by rw [hh, List.getElem?_map, hi]; rfl
  rw [List.getElem?_map] at h1
  cases hy : H[i]? with
  | none => rw [hy] at h1; cases h1
  | some y =>
   rw [hy] at h1
   have h2 : y.l.map XC.o = qs.map some := Option.some.inj h1
   have h3 : some q ∈ y.l.map XC.o := by rw [h2]; exact List.mem_map.2 ⟨q, hq', rfl⟩
   obtain ⟨x, hx, hxo⟩ := List.mem_map.1 h3
   exact (hz y (List.mem_of_getElem? hy) x hx).2.2 q hxo
set_option maxRecDepth 100000 in
set_option maxHeartbeats 4000000 in
theorem ctExact {nm : ByteArray} {am ar ac aq : Option Addr} {nn cm nr cr kc cc kq cq : Nat} {ms : List Mt} {rs : List Rg} {cs : List Ct} {rr : List Rc} {ah : Option Addr} {nh ch : Nat} {H : List HdX} {da db : Int} {w : World} (hG : G ≤ w.heap.size) (hm : RdMt G w am nn cm ms) (hr : RdRg G w ar nr cr rs) (hc : CtS w ac kc cc cs) (hq : RcS w aq kq cq rr) (hh : RdHX G w ah nh ch H) (_hnh : nh ≤ 9223372036854775807)  :
  Calls Try.prog 5 #[.agg #[.string nm, .slice am nn cm, .slice ar nr cr], .slice ac kc cc, .slice aq kq cq, .slice ah nh ch, .int .i64 da, .int .i64 db] w fun e w' => e = .returned (.bool true) ∧ Below w.heap.size w w' := by
 obtain ⟨⟨e1, o1⟩, hb1_⟩ : ∃ p, betw (ivOf cs rr) (nameOk nm.data.toList) (bigB ms rs cs.length rr.length) ms rs da db = p := ⟨_, rfl⟩
 obtain ⟨l1, hl1_⟩ : ∃ q, o1.map Prod.fst = q := ⟨_, rfl⟩
 obtain ⟨g1, hg1_⟩ : ∃ q, o1.map Prod.snd = q := ⟨_, rfl⟩
 have HE1 := Lib.hid hb1_; have HL1 := Lib.hid hl1_; have HG1 := Lib.hid hg1_; clear hb1_ hl1_ hg1_
 have HM : Hid (RdMt G w am nn cm ms) := hm
 have HR : Hid (RdRg G w ar nr cr rs) := hr
 have HC : Hid (CtS w ac kc cc cs) := hc
 have HQ : Hid (RcS w aq kq cq rr) := hq
 have HHX : Hid (RdHX G w ah nh ch H) := hh
 clear hm hr hc hq hh
 have M : Hid (Below w.heap.size w w) := Below.refl _ _
 go_enter Try.func5, Try.ntmps5
 go_upto_region 1 with fail
 refine nmW (w.alloc (.cells #[.string nm, .slice am nn cm, .slice ar nr cr] 25)) fun w1 hv => ?_
 rw [← hv]
 replace M := alM hv M
 clear hv
 go_wp2_with fail
 refine (ctSane (G := G) (Nat.le_trans hG (J1 M).size)).mono ?_
 rintro e w2 ⟨rfl, hb⟩
 replace M := gnM hb M
 clear hb
 go_upto_region 2 with fail
 rcases Bool.eq_false_or_eq_true (fewCt nn nr nm.size kc kq) with hfw_ | hfw_
 ·
  have HFW : Hid (fewCt nn nr nm.size kc kq = true) := hfw_
  have hln_ := fewCt_len hfw_
  have hnn := hln_.1; have hnr := hln_.2.1; have hsz := hln_.2.2.1; have hkc := hln_.2.2.2.1; have hkq := hln_.2.2.2.2; clear hln_
  rcases Bool.eq_false_or_eq_true (fewHB H) with hfh_ | hfh_
  ·
   have HFH : Hid (fewHB H = true) := hfh_
   have hz_ := fewH_z hfh_
   have HLX : Hid (LenX H 1000) := hz_.2.1
   have HZXL : Hid (XZL H 60) := few_xz HHX.out hz_.2.2
   clear hfh_ hz_
   rcases Bool.eq_false_or_eq_true (shortB ms) with hsb_ | hsb_
   ·
    have HSB : Hid (shortB ms = true) := hsb_
    clear hsb_
    refine cj3 (M.out.1).d3 fun aa ab ad => ?_
    go_wp2_with fail
    clear aa ab ad
    refine (ctFew (nm := nm) (b_ := true) HFW.out).mono ?_
    rintro e w3 ⟨rfl, hb⟩
    replace M := gnM hb M
    clear hb
    go_wp2_with fail
    refine (ctFewH (G := G) (b_ := true) (Nat.le_trans hG (J1 M).size) (HHX.out.keep (J1 M)) (by omega) HFH.out).mono ?_
    rintro e w4 ⟨rfl, hb⟩
    replace M := gnM hb M
    clear hb
    refine cj3 (M.out.1).d3 fun aa ab ad => ?_
    go_wp2_with fail
    clear aa ab ad
    refine (ctShort (G := G) (nm := nm) (b_ := true) (Nat.le_trans hG (J1 M).size) (HM.out.keep (J1 M)) (by omega) HSB.out).mono ?_
    rintro e w5 ⟨rfl, hb⟩
    replace M := gnM hb M
    clear hb
    refine cj3 (M.out.1).d3 fun aa ab ad => ?_
    go_wp2_with fail
    clear aa ab ad
    refine (ctBetween_l (G := G) (nm := nm) (nb := (nameOk nm.data.toList)) (big := (bigB ms rs cs.length rr.length)) (da := da) (db := db) (er := e1) (ol := l1) (oh := g1) (Nat.le_trans hG (J1 M).size) (HM.out.keep (J1 M)) (HR.out.keep (J1 M)) (HC.out.keep (J1 M)) (HQ.out.keep (J1 M)) (by omega) (by omega) (by omega) (by omega) (by omega) rfl rfl HE1.out HL1.out HG1.out).mono ?_
    rintro e w6 ⟨x_1, x_2, x_3, x_4, x_5, x_6, x_7, x_8, rfl, hd9, hd10, hu11, hu12, hb⟩
    replace M := ad2M hd9 hd10 hb M
    clear hb hd9 hd10
    replace hu11 := Lib.hid hu11
    replace hu12 := Lib.hid hu12
    refine cj4 (TQ.st (M.out.1)) fun ae af ag ai => ?_
    refine cj4 (TQ.st (J1 M).1) fun aj ak al ao => ?_
    go_upto_region 5 with fail
    clear ae af ag ai aj ak al ao
    refine nmW (w6.alloc (.cells #[x_1, x_2, x_3, x_4, x_5, x_6, x_7, x_8] 40)) fun w7 hv => ?_
    rw [← hv]
    have ow1_ : w.heap.size < w6.heap.size := ((J2 M).1).lt
    replace M := alM hv M
    clear hv
    rcases betw_cases (ivOf cs rr) (nameOk nm.data.toList) (bigB ms rs cs.length rr.length) ms rs da db with ⟨x1, y1, k1⟩ | ⟨v1, k1, k1n⟩
    ·
     have HB1 := Lib.hid k1
     obtain ⟨rfl, rfl, rfl⟩ := b_some HE1.out HL1.out HG1.out k1
     have hef_ := exact_facts (ivOk cs rr) k1 HSB.out
     have HMZ := Lib.hid hef_.1
     have hda := hef_.2.1; have hdb := hef_.2.2.1; have hdc := hef_.2.2.2.1
     have HXY : Hid (decide (x1 ≤ y1) = true) := decide_eq_true hef_.2.2.2.2
     have HXO : Hid (x1 ≤ y1) := hef_.2.2.2.2
     clear hef_ k1
     rcases Bool.eq_false_or_eq_true (allowB (ivOf cs rr) (nameOk nm.data.toList) (bigB ms rs cs.length rr.length) ms rs (H.map HdX.vs)) with hal_ | hal_
     ·
      obtain ⟨hl1_, Hq, hq_⟩ := allow_hq hal_
      have HHQ := Lib.hid hq_
      have HHL : Hid (nh = nn) := by have h_ := HM.out.len; have h2_ := HHX.out.len; rw [List.length_map] at hl1_; show _ = _; omega
      obtain ⟨qh, hqh_⟩ : ∃ z : Rat, cntA ms Hq da db = z := ⟨_, rfl⟩
      have hei_ := exact_in HB1.out (H := Hq) (by rw [← hq_]; exact hal_)
      rw [hqh_] at hei_
      have HIN : Hid ((decide (x1 ≤ qh) && decide (qh ≤ y1)) = true) := by show _ = _; rw [decide_eq_true hei_.1, decide_eq_true hei_.2]; rfl
      have HZQ : Hid (Fz qh 130000) := by have h_ := cnt_fz (ms := ms) (a := da) (b := db) HZXL.out hq_ (by have := HM.out.len; omega); rw [hqh_] at h_; exact h_
      have HQH := Lib.hid hqh_; have HAL := Lib.hid hal_; clear hl1_ hq_ hqh_ hei_ hal_
      go_wp2_with fail
      refine nmW w7.drew fun w8 hv => ?_
      replace M := drM hv M
      refine wp_region_held_drew (S := (fun w' => w'.cell? ⟨w.heap.size, 0, none⟩ = some (.string nm) ∧ w'.cell? ⟨w.heap.size, 1, none⟩ = some (.slice am nn cm) ∧ w'.cell? ⟨w.heap.size, 2, none⟩ = some (.slice ar nr cr) ∧ w'.cell? ⟨w6.heap.size, 0, none⟩ = some (x_1) ∧ w'.cell? ⟨w6.heap.size, 1, none⟩ = some (x_2) ∧ w'.cell? ⟨w6.heap.size, 2, none⟩ = some (x_3) ∧ w'.cell? ⟨w6.heap.size, 3, none⟩ = some (x_4) ∧ w'.cell? ⟨w6.heap.size, 4, none⟩ = some (x_5) ∧ w'.cell? ⟨w6.heap.size, 5, none⟩ = some (x_6) ∧ w'.cell? ⟨w6.heap.size, 6, none⟩ = some (x_7) ∧ w'.cell? ⟨w6.heap.size, 7, none⟩ = some (x_8))) (by kernel_rfl) (by rw [← hv]; exact ((J3 M).1.t3 ((M.out.1).d8))) (fun hH19 => ?_)
      rw [← hv] at hH19 ⊢
      clear hv
      refine tk at0 ?_
      refine wpAnyH_ready (rs := [1]) (by kernel_rfl) (by simp) ?_
      refine AllReadyH.cons at1 (fun K hK => ?_) AllReadyH.nil
      go_simp
      refine (spRight_q (G := G) (p := x1) (q := y1) (b_ := true) (J1 M).1 (J2 M).1 (Fz.mono (show Fz x1 200000 from hu11.out) (by omega)) (Fz.mono (show Fz y1 200000 from hu12.out) (by omega)) HXY.out).mono ?_
      rintro e w9 ⟨rfl, hb⟩
      replace M := gnM hb M
      clear hb
      (try go_wp2_with fail)
      refine hK.out _ _ (((J3 M).1.t3 ((M.out.1).d8))) (fun hH20 => ?_)
      clear hK K hH19
      (try simp only [Act.put, List.setIfInBounds_toArray, List.set_cons_zero, List.set_cons_succ])
      refine tk at2 ?_
      refine tk at3 ?_
      refine tk at4 ?_
      refine tk at5 ?_
      refine tk at6 ?_
      refine tk at7 ?_
      refine wpAnyH_ready (rs := [8]) (by kernel_rfl) (by simp) ?_
      refine AllReadyH.cons at8 (fun K hK => ?_) AllReadyH.nil
      go_simp
      refine (ctAllowed_l (G := G) (nm := nm) (nb := (nameOk nm.data.toList)) (big := (bigB ms rs cs.length rr.length)) (b_ := true) (Nat.le_trans hG (J4 M).size) (HM.out.keep (J4 M)) (HR.out.keep (J4 M)) (HC.out.keep (J4 M)) (HQ.out.keep (J4 M)) (by omega) (by omega) (by omega) (by omega) (by omega) (HHX.out.keep (J4 M)) HZXL.out HLX.out rfl rfl HAL.out).mono ?_
      rintro e w10 ⟨rfl, hb⟩
      replace M := gnM hb M
      clear hb
      (try go_wp2_with fail)
      refine hK.out _ _ (((J3 M).1.t3 ((M.out.1).d8))) (fun hH21 => ?_)
      clear hK K hH20
      (try simp only [Act.put, List.setIfInBounds_toArray, List.set_cons_zero, List.set_cons_succ])
      refine tk at9 ?_
      refine tk at10 ?_
      refine tk at11 ?_
      refine tk at12 ?_
      refine tk at13 ?_
      refine tk at14 ?_
      refine wpAnyH_ready (rs := [15]) (by kernel_rfl) (by simp) ?_
      refine AllReadyH.cons at15 (fun K hK => ?_) AllReadyH.nil
      go_simp
      refine (ctCnt (G := G) (nm := nm) (da := da) (db := db) (qv := qh) (Nat.le_trans hG (J4 M).size) (HM.out.keep (J4 M)) (HHX.out.keep (J4 M)) (by omega) HZXL.out HLX.out HMZ.out HHQ.out HHL.out hda hdb hdc HQH.out).mono ?_
      rintro e w11 ⟨x_22, x_23, x_24, x_25, rfl, hd26, hu27, hb⟩
      replace M := adM hd26 hb M
      clear hb hd26
      replace hu27 := Lib.hid hu27
      (try go_wp2_with fail)
      refine hK.out _ _ (((J4 M).1.t3 ((J1 M).1.d8))) (fun hH28 => ?_)
      clear hK K hH21
      (try simp only [Act.put, List.setIfInBounds_toArray, List.set_cons_zero, List.set_cons_succ])
      refine wpAnyH_ready (rs := [16]) (by kernel_rfl) (by simp) ?_
      refine AllReadyH.cons at16 (fun K hK => ?_) AllReadyH.nil
      go_simp
      refine (spHas_q (G := G) (p := x1) (q := y1) (x := qh) (b_ := true) (Nat.le_trans hG (J5 M).size) (J2 M).1 (J3 M).1 (Fz.mono (show Fz x1 200000 from hu11.out) (by omega)) (Fz.mono (show Fz y1 200000 from hu12.out) (by omega)) HXO.out (M.out.1) (Fz.mono HZQ.out (by omega)) HIN.out).mono ?_
      rintro e w12 ⟨rfl, hb⟩
      replace M := gnM hb M
      clear hb
      (try go_wp2_with fail)
      refine hK.out _ _ (((J4 M).1.t3 ((J1 M).1.d8))) (fun hH29 => ?_)
      clear hK K hH28
      (try simp only [Act.put, List.setIfInBounds_toArray, List.set_cons_zero, List.set_cons_succ])
      refine tk at17 ?_
      refine tk at18 ?_
      refine tk at19 ?_
      refine wpAnyH_done (by kernel_rfl) ?_ _
      clear hH29
      refine cj3 (J4 M).1.d3 fun aa ab ad => ?_
      go_wp2_with fail
      clear aa ab ad
      refine (ctEnds (G := G) (da := da) (db := db) (bm := false) (nm := nm) (Nat.le_trans hG (J5 M).size) (HM.out.keep (J5 M)) (HR.out.keep (J5 M)) (HC.out.keep (J5 M)) (HQ.out.keep (J5 M)) (by omega) (by omega) (by omega) (by omega) (by omega) HMZ.out).mono ?_
      rintro e w13 ⟨ad_30, n__31, c__32, L_33, rfl, hd34, hu35, hu36, hu37, hb⟩
      replace M := adM hd34 hb M
      clear hb hd34
      replace hu35 := Lib.hid hu35
      replace hu36 := Lib.hid hu36
      replace hu37 := Lib.hid hu37
      refine cj3 (J5 M).1.d3 fun aa ab ad => ?_
      go_wp2_with fail
      clear aa ab ad
      refine (ctEnds (G := G) (da := da) (db := db) (bm := true) (nm := nm) (Nat.le_trans hG (J6 M).size) (HM.out.keep (J6 M)) (HR.out.keep (J6 M)) (HC.out.keep (J6 M)) (HQ.out.keep (J6 M)) (by omega) (by omega) (by omega) (by omega) (by omega) HMZ.out).mono ?_
      rintro e w14 ⟨ad_38, n__39, c__40, L_41, rfl, hd42, hu43, hu44, hu45, hb⟩
      replace M := adM hd42 hb M
      clear hb hd42
      replace hu43 := Lib.hid hu43
      replace hu44 := Lib.hid hu44
      replace hu45 := Lib.hid hu45
      refine cj3 (J6 M).1.d3 fun aa ab ad => ?_
      go_wp2_with fail
      clear aa ab ad
      refine (ctAllowed_l (G := G) (nm := nm) (nb := (nameOk nm.data.toList)) (big := (bigB ms rs cs.length rr.length)) (b_ := true) (Nat.le_trans hG (J7 M).size) (HM.out.keep (J7 M)) (HR.out.keep (J7 M)) (HC.out.keep (J7 M)) (HQ.out.keep (J7 M)) (by omega) (by omega) (by omega) (by omega) (by omega) (J1 M).1 hu36.out hu37.out rfl rfl (by rw [hu35.out]; exact ends_allow (ivOk cs rr) HB1.out false)).mono ?_
      rintro e w15 ⟨rfl, hb⟩
      replace M := gnM hb M
      clear hb
      refine cj3 (J6 M).1.d3 fun aa ab ad => ?_
      go_wp2_with fail
      clear aa ab ad
      refine (ctAllowed_l (G := G) (nm := nm) (nb := (nameOk nm.data.toList)) (big := (bigB ms rs cs.length rr.length)) (b_ := true) (Nat.le_trans hG (J7 M).size) (HM.out.keep (J7 M)) (HR.out.keep (J7 M)) (HC.out.keep (J7 M)) (HQ.out.keep (J7 M)) (by omega) (by omega) (by omega) (by omega) (by omega) (M.out.1) hu44.out hu45.out rfl rfl (by rw [hu43.out]; exact ends_allow (ivOk cs rr) HB1.out true)).mono ?_
      rintro e w16 ⟨rfl, hb⟩
      replace M := gnM hb M
      clear hb
      go_wp2_with fail
      replace M := Lib.hid (aI (M.out.1) (aI (J1 M).1 (aI (J3 M).1 (aI (J4 M).1 (aI (J5 M).1 (aI (J6 M).1 (J7 M)))))))
      refine nmW w16.drew fun w17 hv => ?_
      replace M := drM hv M
      refine wp_region_held_drew (S := (fun w' => w'.cell? ⟨w.heap.size, 0, none⟩ = some (.string nm) ∧ w'.cell? ⟨w.heap.size, 1, none⟩ = some (.slice am nn cm) ∧ w'.cell? ⟨w.heap.size, 2, none⟩ = some (.slice ar nr cr) ∧ w'.cell? ⟨w6.heap.size, 0, none⟩ = some (x_1) ∧ w'.cell? ⟨w6.heap.size, 1, none⟩ = some (x_2) ∧ w'.cell? ⟨w6.heap.size, 2, none⟩ = some (x_3) ∧ w'.cell? ⟨w6.heap.size, 3, none⟩ = some (x_4) ∧ w'.cell? ⟨w6.heap.size, 4, none⟩ = some (x_5) ∧ w'.cell? ⟨w6.heap.size, 5, none⟩ = some (x_6) ∧ w'.cell? ⟨w6.heap.size, 6, none⟩ = some (x_7) ∧ w'.cell? ⟨w6.heap.size, 7, none⟩ = some (x_8))) (by kernel_rfl) (by rw [← hv]; exact ((J5 M).1.t3 ((J2 M).1.d8))) (fun hH58 => ?_)
      rw [← hv] at hH58 ⊢
      clear hv
      refine tk at0 ?_
      refine tk at1 ?_
      refine tk at2 ?_
      refine tk at3 ?_
      refine tk at4 ?_
      refine tk at5 ?_
      refine tk at7 ?_
      refine tk at8 ?_
      refine wpAnyH_ready (rs := [6]) (by kernel_rfl) (by simp) ?_
      refine AllReadyH.cons at6 (fun K hK => ?_) AllReadyH.nil
      go_simp
      refine (ctCnt (G := G) (nm := nm) (da := da) (db := db) (qv := x1) (Nat.le_trans hG (J6 M).size) (HM.out.keep (J6 M)) (J1 M).1 (by omega) hu36.out hu37.out HMZ.out hu35.out (ends_len (J1 M).1 hu35.out HM.out.len) hda hdb hdc (ends_lo (ivOk cs rr) HB1.out)).mono ?_
      rintro e w18 ⟨x_59, x_60, x_61, x_62, rfl, hd63, hu64, hb⟩
      replace M := adM hd63 hb M
      clear hb hd63
      replace hu64 := Lib.hid hu64
      (try go_wp2_with fail)
      refine hK.out _ _ (((J6 M).1.t3 ((J3 M).1.d8))) (fun hH65 => ?_)
      clear hK K hH58
      (try simp only [Act.put, List.setIfInBounds_toArray, List.set_cons_zero, List.set_cons_succ])
      refine wpAnyH_ready (rs := [9]) (by kernel_rfl) (by simp) ?_
      refine AllReadyH.cons at9 (fun K hK => ?_) AllReadyH.nil
      go_simp
      refine (fqCompare (G := G) (q := x1) (r := x1) (k := 0) (M.out.1) (J4 M).1 (Fz.mono (show Fz x1 200000 from hu11.out) (by omega)) (Fz.mono (show Fz x1 200000 from hu11.out) (by omega)) (ordQ_same _)).mono ?_
      rintro e w19 ⟨rfl, hb⟩
      replace M := gnM hb M
      clear hb
      (try go_wp2_with fail)
      refine hK.out _ _ (((J6 M).1.t3 ((J3 M).1.d8))) (fun hH66 => ?_)
      clear hK K hH65
      (try simp only [Act.put, List.setIfInBounds_toArray, List.set_cons_zero, List.set_cons_succ])
      refine tk at10 ?_
      refine tk at11 ?_
      refine tk at12 ?_
      refine tk at13 ?_
      refine tk at14 ?_
      refine tk at15 ?_
      refine tk at16 ?_
      refine tk at18 ?_
      refine tk at19 ?_
      refine wpAnyH_ready (rs := [17]) (by kernel_rfl) (by simp) ?_
      refine AllReadyH.cons at17 (fun K hK => ?_) AllReadyH.nil
      go_simp
      refine (ctCnt (G := G) (nm := nm) (da := da) (db := db) (qv := y1) (Nat.le_trans hG (J7 M).size) (HM.out.keep (J7 M)) (J1 M).1 (by omega) hu44.out hu45.out HMZ.out hu43.out (ends_len (J1 M).1 hu43.out HM.out.len) hda hdb hdc (ends_hi HB1.out)).mono ?_
      rintro e w20 ⟨x_67, x_68, x_69, x_70, rfl, hd71, hu72, hb⟩
      replace M := adM hd71 hb M
      clear hb hd71
      replace hu72 := Lib.hid hu72
      (try go_wp2_with fail)
      refine hK.out _ _ (((J7 M).1.t3 ((J4 M).1.d8))) (fun hH73 => ?_)
      clear hK K hH66
      (try simp only [Act.put, List.setIfInBounds_toArray, List.set_cons_zero, List.set_cons_succ])
      refine wpAnyH_ready (rs := [20]) (by kernel_rfl) (by simp) ?_
      refine AllReadyH.cons at20 (fun K hK => ?_) AllReadyH.nil
      go_simp
      refine (fqCompare (G := G) (q := y1) (r := y1) (k := 0) (M.out.1) (J6 M).1 (Fz.mono (show Fz y1 200000 from hu12.out) (by omega)) (Fz.mono (show Fz y1 200000 from hu12.out) (by omega)) (ordQ_same _)).mono ?_
      rintro e w21 ⟨rfl, hb⟩
      replace M := gnM hb M
      clear hb
      (try go_wp2_with fail)
      refine hK.out _ _ (((J7 M).1.t3 ((J4 M).1.d8))) (fun hH74 => ?_)
      clear hK K hH73
      (try simp only [Act.put, List.setIfInBounds_toArray, List.set_cons_zero, List.set_cons_succ])
      refine tk at21 ?_
      refine tk at22 ?_
      refine tk at23 ?_
      refine wpAnyH_done (by kernel_rfl) ?_ _
      clear hH74
      go_wp2_with fail
      go_ret
      exact ⟨by rfl, (J8 M)⟩
     ·
      have HAL := Lib.hid hal_; clear hal_
      go_wp2_with fail
      refine nmW w7.drew fun w8 hv => ?_
      replace M := drM hv M
      refine wp_region_held_drew (S := (fun w' => w'.cell? ⟨w.heap.size, 0, none⟩ = some (.string nm) ∧ w'.cell? ⟨w.heap.size, 1, none⟩ = some (.slice am nn cm) ∧ w'.cell? ⟨w.heap.size, 2, none⟩ = some (.slice ar nr cr) ∧ w'.cell? ⟨w6.heap.size, 0, none⟩ = some (x_1) ∧ w'.cell? ⟨w6.heap.size, 1, none⟩ = some (x_2) ∧ w'.cell? ⟨w6.heap.size, 2, none⟩ = some (x_3) ∧ w'.cell? ⟨w6.heap.size, 3, none⟩ = some (x_4) ∧ w'.cell? ⟨w6.heap.size, 4, none⟩ = some (x_5) ∧ w'.cell? ⟨w6.heap.size, 5, none⟩ = some (x_6) ∧ w'.cell? ⟨w6.heap.size, 6, none⟩ = some (x_7) ∧ w'.cell? ⟨w6.heap.size, 7, none⟩ = some (x_8))) (by kernel_rfl) (by rw [← hv]; exact ((J3 M).1.t3 ((M.out.1).d8))) (fun hH75 => ?_)
      rw [← hv] at hH75 ⊢
      clear hv
      refine tk at0 ?_
      refine wpAnyH_ready (rs := [1]) (by kernel_rfl) (by simp) ?_
      refine AllReadyH.cons at1 (fun K hK => ?_) AllReadyH.nil
      go_simp
      refine (spRight_q (G := G) (p := x1) (q := y1) (b_ := true) (J1 M).1 (J2 M).1 (Fz.mono (show Fz x1 200000 from hu11.out) (by omega)) (Fz.mono (show Fz y1 200000 from hu12.out) (by omega)) HXY.out).mono ?_
      rintro e w9 ⟨rfl, hb⟩
      replace M := gnM hb M
      clear hb
      (try go_wp2_with fail)
      refine hK.out _ _ (((J3 M).1.t3 ((M.out.1).d8))) (fun hH76 => ?_)
      clear hK K hH75
      (try simp only [Act.put, List.setIfInBounds_toArray, List.set_cons_zero, List.set_cons_succ])
      refine tk at2 ?_
      refine tk at3 ?_
      refine tk at4 ?_
      refine tk at5 ?_
      refine tk at6 ?_
      refine tk at7 ?_
      refine wpAnyH_ready (rs := [8]) (by kernel_rfl) (by simp) ?_
      refine AllReadyH.cons at8 (fun K hK => ?_) AllReadyH.nil
      go_simp
      refine (ctAllowed_l (G := G) (nm := nm) (nb := (nameOk nm.data.toList)) (big := (bigB ms rs cs.length rr.length)) (b_ := false) (Nat.le_trans hG (J4 M).size) (HM.out.keep (J4 M)) (HR.out.keep (J4 M)) (HC.out.keep (J4 M)) (HQ.out.keep (J4 M)) (by omega) (by omega) (by omega) (by omega) (by omega) (HHX.out.keep (J4 M)) HZXL.out HLX.out rfl rfl HAL.out).mono ?_
      rintro e w10 ⟨rfl, hb⟩
      replace M := gnM hb M
      clear hb
      (try go_wp2_with fail)
      refine hK.out _ _ (((J3 M).1.t3 ((M.out.1).d8))) (fun hH77 => ?_)
      clear hK K hH76
      (try simp only [Act.put, List.setIfInBounds_toArray, List.set_cons_zero, List.set_cons_succ])
      refine tk at9 ?_
      refine tu at10 ?_
      refine tu at11 ?_
      refine tu at12 ?_
      refine tu at13 ?_
      refine tu at14 ?_
      refine wpAnyH_ready (rs := [15]) (by kernel_rfl) (by simp) ?_
      refine AllReadyH.cons at15 (fun K hK => ?_) AllReadyH.nil
      rw [if_neg]
      rotate_left
      focus (intro h; exact Bool.noConfusion h)
      refine hK.out _ _ hH77 (fun _ => ?_)
      clear hK K
      (try simp only [Act.put, List.setIfInBounds_toArray, List.set_cons_zero, List.set_cons_succ])
      refine wpAnyH_ready (rs := [16]) (by kernel_rfl) (by simp) ?_
      refine AllReadyH.cons at16 (fun K hK => ?_) AllReadyH.nil
      rw [if_neg]
      rotate_left
      focus (intro h; exact Bool.noConfusion h)
      refine hK.out _ _ hH77 (fun _ => ?_)
      clear hK K
      (try simp only [Act.put, List.setIfInBounds_toArray, List.set_cons_zero, List.set_cons_succ])
      refine tu at17 ?_
      refine tk at18 ?_
      refine tk at19 ?_
      refine wpAnyH_done (by kernel_rfl) ?_ _
      clear hH77
      refine cj3 (J3 M).1.d3 fun aa ab ad => ?_
      go_wp2_with fail
      clear aa ab ad
      refine (ctEnds (G := G) (da := da) (db := db) (bm := false) (nm := nm) (Nat.le_trans hG (J4 M).size) (HM.out.keep (J4 M)) (HR.out.keep (J4 M)) (HC.out.keep (J4 M)) (HQ.out.keep (J4 M)) (by omega) (by omega) (by omega) (by omega) (by omega) HMZ.out).mono ?_
      rintro e w11 ⟨ad_78, n__79, c__80, L_81, rfl, hd82, hu83, hu84, hu85, hb⟩
      replace M := adM hd82 hb M
      clear hb hd82
      replace hu83 := Lib.hid hu83
      replace hu84 := Lib.hid hu84
      replace hu85 := Lib.hid hu85
      refine cj3 (J4 M).1.d3 fun aa ab ad => ?_
      go_wp2_with fail
      clear aa ab ad
      refine (ctEnds (G := G) (da := da) (db := db) (bm := true) (nm := nm) (Nat.le_trans hG (J5 M).size) (HM.out.keep (J5 M)) (HR.out.keep (J5 M)) (HC.out.keep (J5 M)) (HQ.out.keep (J5 M)) (by omega) (by omega) (by omega) (by omega) (by omega) HMZ.out).mono ?_
      rintro e w12 ⟨ad_86, n__87, c__88, L_89, rfl, hd90, hu91, hu92, hu93, hb⟩
      replace M := adM hd90 hb M
      clear hb hd90
      replace hu91 := Lib.hid hu91
      replace hu92 := Lib.hid hu92
      replace hu93 := Lib.hid hu93
      refine cj3 (J5 M).1.d3 fun aa ab ad => ?_
      go_wp2_with fail
      clear aa ab ad
      refine (ctAllowed_l (G := G) (nm := nm) (nb := (nameOk nm.data.toList)) (big := (bigB ms rs cs.length rr.length)) (b_ := true) (Nat.le_trans hG (J6 M).size) (HM.out.keep (J6 M)) (HR.out.keep (J6 M)) (HC.out.keep (J6 M)) (HQ.out.keep (J6 M)) (by omega) (by omega) (by omega) (by omega) (by omega) (J1 M).1 hu84.out hu85.out rfl rfl (by rw [hu83.out]; exact ends_allow (ivOk cs rr) HB1.out false)).mono ?_
      rintro e w13 ⟨rfl, hb⟩
      replace M := gnM hb M
      clear hb
      refine cj3 (J5 M).1.d3 fun aa ab ad => ?_
      go_wp2_with fail
      clear aa ab ad
      refine (ctAllowed_l (G := G) (nm := nm) (nb := (nameOk nm.data.toList)) (big := (bigB ms rs cs.length rr.length)) (b_ := true) (Nat.le_trans hG (J6 M).size) (HM.out.keep (J6 M)) (HR.out.keep (J6 M)) (HC.out.keep (J6 M)) (HQ.out.keep (J6 M)) (by omega) (by omega) (by omega) (by omega) (by omega) (M.out.1) hu92.out hu93.out rfl rfl (by rw [hu91.out]; exact ends_allow (ivOk cs rr) HB1.out true)).mono ?_
      rintro e w14 ⟨rfl, hb⟩
      replace M := gnM hb M
      clear hb
      go_wp2_with fail
      refine nmW w14.drew fun w15 hv => ?_
      replace M := drM hv M
      refine wp_region_held_drew (S := (fun w' => w'.cell? ⟨w.heap.size, 0, none⟩ = some (.string nm) ∧ w'.cell? ⟨w.heap.size, 1, none⟩ = some (.slice am nn cm) ∧ w'.cell? ⟨w.heap.size, 2, none⟩ = some (.slice ar nr cr) ∧ w'.cell? ⟨w6.heap.size, 0, none⟩ = some (x_1) ∧ w'.cell? ⟨w6.heap.size, 1, none⟩ = some (x_2) ∧ w'.cell? ⟨w6.heap.size, 2, none⟩ = some (x_3) ∧ w'.cell? ⟨w6.heap.size, 3, none⟩ = some (x_4) ∧ w'.cell? ⟨w6.heap.size, 4, none⟩ = some (x_5) ∧ w'.cell? ⟨w6.heap.size, 5, none⟩ = some (x_6) ∧ w'.cell? ⟨w6.heap.size, 6, none⟩ = some (x_7) ∧ w'.cell? ⟨w6.heap.size, 7, none⟩ = some (x_8))) (by kernel_rfl) (by rw [← hv]; exact ((J5 M).1.t3 ((J2 M).1.d8))) (fun hH106 => ?_)
      rw [← hv] at hH106 ⊢
      clear hv
      refine tk at0 ?_
      refine tk at1 ?_
      refine tk at2 ?_
      refine tk at3 ?_
      refine tk at4 ?_
      refine tk at5 ?_
      refine tk at7 ?_
      refine tk at8 ?_
      refine wpAnyH_ready (rs := [6]) (by kernel_rfl) (by simp) ?_
      refine AllReadyH.cons at6 (fun K hK => ?_) AllReadyH.nil
      go_simp
      refine (ctCnt (G := G) (nm := nm) (da := da) (db := db) (qv := x1) (Nat.le_trans hG (J6 M).size) (HM.out.keep (J6 M)) (J1 M).1 (by omega) hu84.out hu85.out HMZ.out hu83.out (ends_len (J1 M).1 hu83.out HM.out.len) hda hdb hdc (ends_lo (ivOk cs rr) HB1.out)).mono ?_
      rintro e w16 ⟨x_107, x_108, x_109, x_110, rfl, hd111, hu112, hb⟩
      replace M := adM hd111 hb M
      clear hb hd111
      replace hu112 := Lib.hid hu112
      (try go_wp2_with fail)
      refine hK.out _ _ (((J6 M).1.t3 ((J3 M).1.d8))) (fun hH113 => ?_)
      clear hK K hH106
      (try simp only [Act.put, List.setIfInBounds_toArray, List.set_cons_zero, List.set_cons_succ])
      refine wpAnyH_ready (rs := [9]) (by kernel_rfl) (by simp) ?_
      refine AllReadyH.cons at9 (fun K hK => ?_) AllReadyH.nil
      go_simp
      refine (fqCompare (G := G) (q := x1) (r := x1) (k := 0) (M.out.1) (J4 M).1 (Fz.mono (show Fz x1 200000 from hu11.out) (by omega)) (Fz.mono (show Fz x1 200000 from hu11.out) (by omega)) (ordQ_same _)).mono ?_
      rintro e w17 ⟨rfl, hb⟩
      replace M := gnM hb M
      clear hb
      (try go_wp2_with fail)
      refine hK.out _ _ (((J6 M).1.t3 ((J3 M).1.d8))) (fun hH114 => ?_)
      clear hK K hH113
      (try simp only [Act.put, List.setIfInBounds_toArray, List.set_cons_zero, List.set_cons_succ])
      refine tk at10 ?_
      refine tk at11 ?_
      refine tk at12 ?_
      refine tk at13 ?_
      refine tk at14 ?_
      refine tk at15 ?_
      refine tk at16 ?_
      refine tk at18 ?_
      refine tk at19 ?_
      refine wpAnyH_ready (rs := [17]) (by kernel_rfl) (by simp) ?_
      refine AllReadyH.cons at17 (fun K hK => ?_) AllReadyH.nil
      go_simp
      refine (ctCnt (G := G) (nm := nm) (da := da) (db := db) (qv := y1) (Nat.le_trans hG (J7 M).size) (HM.out.keep (J7 M)) (J1 M).1 (by omega) hu92.out hu93.out HMZ.out hu91.out (ends_len (J1 M).1 hu91.out HM.out.len) hda hdb hdc (ends_hi HB1.out)).mono ?_
      rintro e w18 ⟨x_115, x_116, x_117, x_118, rfl, hd119, hu120, hb⟩
      replace M := adM hd119 hb M
      clear hb hd119
      replace hu120 := Lib.hid hu120
      (try go_wp2_with fail)
      refine hK.out _ _ (((J7 M).1.t3 ((J4 M).1.d8))) (fun hH121 => ?_)
      clear hK K hH114
      (try simp only [Act.put, List.setIfInBounds_toArray, List.set_cons_zero, List.set_cons_succ])
      refine wpAnyH_ready (rs := [20]) (by kernel_rfl) (by simp) ?_
      refine AllReadyH.cons at20 (fun K hK => ?_) AllReadyH.nil
      go_simp
      refine (fqCompare (G := G) (q := y1) (r := y1) (k := 0) (M.out.1) (J6 M).1 (Fz.mono (show Fz y1 200000 from hu12.out) (by omega)) (Fz.mono (show Fz y1 200000 from hu12.out) (by omega)) (ordQ_same _)).mono ?_
      rintro e w19 ⟨rfl, hb⟩
      replace M := gnM hb M
      clear hb
      (try go_wp2_with fail)
      refine hK.out _ _ (((J7 M).1.t3 ((J4 M).1.d8))) (fun hH122 => ?_)
      clear hK K hH121
      (try simp only [Act.put, List.setIfInBounds_toArray, List.set_cons_zero, List.set_cons_succ])
      refine tk at21 ?_
      refine tk at22 ?_
      refine tk at23 ?_
      refine wpAnyH_done (by kernel_rfl) ?_ _
      clear hH122
      go_wp2_with fail
      go_ret
      exact ⟨by rfl, (J8 M)⟩
    ·
     have HB1 := Lib.hid k1
     obtain ⟨rfl, rfl, rfl⟩ := b_none HE1.out HL1.out HG1.out k1
     have n0e1_ : (e1 == 0) = false := beq_false_of_ne k1n
     have n1e1_ : (e1 != 0) = true := bne_iff_ne.2 k1n
     by_cases h16 : e1 = 16
     ·
      subst h16
      have HAL := Lib.hid (allow_not (ivOk cs rr) (H.map HdX.vs) (betw_16 HB1.out))
      clear k1
      refine cj3 (J3 M).1.d3 fun aa ab ad => ?_
      go_wp2_with fail
      clear aa ab ad
      refine (ctAllowed_l (G := G) (nm := nm) (nb := (nameOk nm.data.toList)) (big := (bigB ms rs cs.length rr.length)) (b_ := false) (Nat.le_trans hG (J4 M).size) (HM.out.keep (J4 M)) (HR.out.keep (J4 M)) (HC.out.keep (J4 M)) (HQ.out.keep (J4 M)) (by omega) (by omega) (by omega) (by omega) (by omega) (HHX.out.keep (J4 M)) HZXL.out HLX.out rfl rfl HAL.out).mono ?_
      rintro e w8 ⟨rfl, hb⟩
      replace M := gnM hb M
      clear hb
      go_wp2_with fail
      go_ret
      exact ⟨by rfl, (J4 M)⟩
     ·
      have n16_ : (e1 != 16) = true := bne_iff_ne.2 h16
      clear h16 k1
      go_wp2_with fail
      go_ret
      exact ⟨by rfl, (J4 M)⟩
   ·
    have HSB : Hid (shortB ms = false) := hsb_
    clear hsb_
    refine cj3 (M.out.1).d3 fun aa ab ad => ?_
    go_wp2_with fail
    clear aa ab ad
    refine (ctFew (nm := nm) (b_ := true) HFW.out).mono ?_
    rintro e w3 ⟨rfl, hb⟩
    replace M := gnM hb M
    clear hb
    go_wp2_with fail
    refine (ctFewH (G := G) (b_ := true) (Nat.le_trans hG (J1 M).size) (HHX.out.keep (J1 M)) (by omega) HFH.out).mono ?_
    rintro e w4 ⟨rfl, hb⟩
    replace M := gnM hb M
    clear hb
    refine cj3 (M.out.1).d3 fun aa ab ad => ?_
    go_wp2_with fail
    clear aa ab ad
    refine (ctShort (G := G) (nm := nm) (b_ := false) (Nat.le_trans hG (J1 M).size) (HM.out.keep (J1 M)) (by omega) HSB.out).mono ?_
    rintro e w5 ⟨rfl, hb⟩
    replace M := gnM hb M
    clear hb
    go_wp2_with fail
    go_ret
    exact ⟨by rfl, (J1 M)⟩
  ·
   have HFH : Hid (fewHB H = false) := hfh_
   clear hfh_
   refine cj3 (M.out.1).d3 fun aa ab ad => ?_
   go_wp2_with fail
   clear aa ab ad
   refine (ctFew (nm := nm) (b_ := true) HFW.out).mono ?_
   rintro e w3 ⟨rfl, hb⟩
   replace M := gnM hb M
   clear hb
   go_wp2_with fail
   refine (ctFewH (G := G) (b_ := false) (Nat.le_trans hG (J1 M).size) (HHX.out.keep (J1 M)) (by omega) HFH.out).mono ?_
   rintro e w4 ⟨rfl, hb⟩
   replace M := gnM hb M
   clear hb
   go_wp2_with fail
   go_ret
   exact ⟨by rfl, (J1 M)⟩
 ·
  have HFW : Hid (fewCt nn nr nm.size kc kq = false) := hfw_
  refine cj3 (M.out.1).d3 fun aa ab ad => ?_
  go_wp2_with fail
  clear aa ab ad
  refine (ctFew (nm := nm) (b_ := false) HFW.out).mono ?_
  rintro e w3 ⟨rfl, hb⟩
  replace M := gnM hb M
  clear hb
  go_wp2_with fail
  go_ret
  exact ⟨by rfl, (J1 M)⟩
end Go.Proofs.Ytlcgckelamhnpaa
