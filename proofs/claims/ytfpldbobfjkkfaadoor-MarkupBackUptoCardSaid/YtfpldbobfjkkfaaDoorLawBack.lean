/- The walks of the laws MarkupBack and MarkupApart. -/
import Derived.Test.YtfpldbobfjkkfaaDoorFlat
import Derived.Test.YtfpldbobfjkkfaaDoorRowTree
namespace Go.Proofs.YtfpldbobfjkkfaaDoor
open Go.RowKit Go.Proofs Go.Proofs.YtfpldbobfjkkfaaDoorW.PrintWords Go.Proofs.YtfpldbobfjkkfaaDoorW.PrintLast
set_option linter.unusedSimpArgs false

theorem small_of {keys : Bool} {t : VN} (hF : ∀ p ∈ flatD 0 t, Fits p.2) : checkV t = 0 → (∀ p ∈ flatD 0 t, Small p.2) ∧ (textT keys t).length ≤ 100000000000000 := fun h =>
  ⟨fun p hp => ((checkV_small hF h).2 p hp).1, by
    have h1 := textT_len keys _ t (Nat.le_refl _) 0 (fun p hp => ((checkV_small hF h).2 p hp).2)
    have h2 := (checkV_small hF h).1
    omega⟩

theorem parseV_fits {s : ByteArray} (h : (parseV s).2 = 0) : ∀ p ∈ flatD 0 (parseV s).1, Fits p.2 := by
  unfold parseV at h ⊢
  by_cases hl : 262144 < s.size
  · rw [if_pos hl] at h; cases h
  · rw [if_neg hl] at h ⊢
    cases hr : readW s.data.toList with
    | none => rw [hr] at h; cases h
    | some t =>
      rw [hr] at h
      dsimp only at h ⊢
      by_cases hc : checkV t = 0
      · rw [if_pos hc]
        exact readW_fits (by rw [len_list]; omega) hr 0
      · rw [if_neg hc] at h; cases h

set_option maxHeartbeats 8000000 in
set_option maxRecDepth 1000000 in
theorem back_any (t : VN) (cs : Array Value) {w : World} (hK : R.k32.K w t cs.toList) (hT : rows.TreeOk 1048576 t) (s : ByteArray) (hs : s.size ≤ 1048576) (hG : Glob w) (hgt : gTop ≤ w.heap.size) :
    Calls Tryd.prog 4 #[.agg cs, .string s] w fun e w' => e = .returned (.bool true) ∧ Below w.heap.size w w' := by
  have hF := hT.fits
  obtain ⟨A4, c4, A5, c5, hcs, _, _, _, _⟩ := R.k32_open hK
  obtain rfl : cs = #[.int .i64 t.f0.f0, .int .i64 t.f0.f1, .string t.f1, .string t.f2, .slice A4 t.f3.length c4, .slice A5 t.f4.length c5] := Array.toList_inj.1 hcs
  have G2 := blk_new w (.cells #[.int .i64 t.f0.f0, .int .i64 t.f0.f1, .string t.f1, .string t.f2, .slice A4 t.f3.length c4, .slice A5 t.f4.length c5] 32)
  have hb0 := below_alloc (Below.refl w.heap.size w) (.cells #[.int .i64 t.f0.f0, .int .i64 t.f0.f1, .string t.f1, .string t.f2, .slice A4 t.f3.length c4, .slice A5 t.f4.length c5] 32)
  have hs0 : w.heap.size + 1 = (w.alloc (.cells #[.int .i64 t.f0.f0, .int .i64 t.f0.f1, .string t.f1, .string t.f2, .slice A4 t.f3.length c4, .slice A5 t.f4.length c5] 32)).heap.size := (World.size_alloc ..).symm
  have hL := light_any t _ _ (R.k32.K_below hb0 hK) (hT 0).1 (fun p hp => (hT.fits p hp).kids)
  obtain ⟨⟨c0, c1, c2, c3, c4', c5'⟩, _⟩ := cells6 G2
  go_enter Tryd.func4, Tryd.ntmps4
  go_wp2_with fail
  refine hL.mono ?_
  rintro e w1 ⟨rfl, hb⟩
  have hb1 := hb0.trans (hb.mono (by omega))
  have hs1 := hb.size
  have G21 := blk_below G2 hb
  clear hL c0 c1 c2 c3 c4' c5' G2 hb
  obtain ⟨⟨c0, c1, c2, c3, c4', c5'⟩, _⟩ := cells6 G21
  by_cases hl : (flatD 0 t).length ≤ 1000
  case neg =>
    have d0 : decide ((flatD 0 t).length ≤ 1000) = false := decide_eq_false hl
    have hA := awake_any w1 (hG.below hb1) (by omega)
    go_wp2_with fail
    refine hA.mono ?_
    rintro e w3 ⟨rfl, hc3⟩
    go_wp2
    go_ret
    exact ⟨rfl, hb1.trans (hc3.mono (by omega))⟩
  have d0 : decide ((flatD 0 t).length ≤ 1000) = true := decide_eq_true hl
  by_cases hl2 : 20000 < s.size
  · have d1 : decide ((20000 : Int) < s.size) = true := decide_eq_true (by omega)
    have hA := awake_any w1 (hG.below hb1) (by omega)
    go_wp2_with fail
    refine hA.mono ?_
    rintro e w3 ⟨rfl, hc3⟩
    go_wp2
    go_ret
    exact ⟨rfl, hb1.trans (hc3.mono (by omega))⟩
  have d1 : decide ((20000 : Int) < s.size) = false := decide_eq_false (by omega)
  have hP1 := print_any t _ w1 (hG.below hb1) (by omega) (R.k32.K_below hb1 hK) hF (small_of hF)
  obtain ⟨pb, hpb⟩ : ∃ pb : ByteArray, pb = ⟨(textV true t).1.toArray⟩ := ⟨_, rfl⟩
  obtain ⟨pe, hpe⟩ : ∃ pe : Int, pe = (textV true t).2 := ⟨_, rfl⟩
  rw [← hpb, ← hpe] at hP1
  have hpp1 : pe = 0 → parseV pb = (t, 0) := by rw [hpb, hpe]; exact print_parse
  clear hpb hpe hl hl2
  go_wp2_with fail
  refine hP1.mono ?_
  rintro e w2 ⟨rfl, hb⟩
  have hb2 := hb1.trans (hb.mono (by omega))
  have hs2 := hb.size
  have G22 := blk_below G21 hb
  clear hP1 c0 c1 c2 c3 c4' c5' G21 hb d0 d1
  obtain ⟨⟨c0, c1, c2, c3, c4', c5'⟩, _⟩ := cells6 G22
  by_cases hp0 : pe = 0
  case neg =>
    have e0 : (pe == 0) = false := by simpa using hp0
    have hbW := hb2
    clear hpp1 hp0 c0 c1 c2 c3 c4' c5' hb2 hb1
    have hbq := hbW.size
    have hP2 := parse_any s _ (hG.below hbW) (by omega)
    go_wp2_with fail
    refine hP2.mono ?_
    rintro e v1 ⟨hc1, ds, rfl, hM⟩
    have hb5 := hbW.trans (hc1.mono hbq)
    have hK2 := R.k32.K_of_M hM
    obtain ⟨u, hu⟩ : ∃ u, u = (parseV s).1 := ⟨_, rfl⟩
    obtain ⟨f, hf⟩ : ∃ f, f = (parseV s).2 := ⟨_, rfl⟩
    have hpp : f = 0 → textV true u = (s.data.toList, 0) := by rw [hu, hf]; exact parse_print
    have hfit : f = 0 → ∀ p ∈ flatD 0 u, Fits p.2 := by rw [hu, hf]; exact parseV_fits
    rw [← hu] at hK2
    rw [← hf]
    clear hM hu hf hP2
    obtain ⟨B4, d4, B5, d5, hds, _, _, _, _⟩ := R.k32_open hK2
    obtain rfl : ds = #[.int .i64 u.f0.f0, .int .i64 u.f0.f1, .string u.f1, .string u.f2, .slice B4 u.f3.length d4, .slice B5 u.f4.length d5] := Array.toList_inj.1 hds
    have hb6 := below_alloc hb5 (.cells #[.int .i64 u.f0.f0, .int .i64 u.f0.f1, .string u.f1, .string u.f2, .slice B4 u.f3.length d4, .slice B5 u.f4.length d5] 32)
    have hK3 := R.k32.K_below (below_alloc (Below.refl v1.heap.size v1) (.cells #[.int .i64 u.f0.f0, .int .i64 u.f0.f1, .string u.f1, .string u.f2, .slice B4 u.f3.length d4, .slice B5 u.f4.length d5] 32)) hK2
    have G7 := blk_new v1 (.cells #[.int .i64 u.f0.f0, .int .i64 u.f0.f1, .string u.f1, .string u.f2, .slice B4 u.f3.length d4, .slice B5 u.f4.length d5] 32)
    obtain ⟨⟨q0, q1, q2, q3, q4, q5⟩, _⟩ := cells6 G7
    have hs6 := hb6.size
    clear hK2 hds
    by_cases hfz : f = 0
    · have e1 : (f == 0) = true := by simpa using hfz
      have hP3 := print_any u _ _ (hG.below hb6) (by omega) hK3 (hfit hfz) (small_of (hfit hfz))
      rw [hpp hfz] at hP3
      simp only [mk_data] at hP3
      clear hpp hfit hfz hK3
      go_wp2_with fail
      refine hP3.mono ?_
      rintro e v2 ⟨rfl, hc2⟩
      have hb7 := hb6.trans (hc2.mono hs6)
      have hs7 := hb7.size
      have hA := awake_any v2 (hG.below hb7) (by omega)
      clear hP3 q0 q1 q2 q3 q4 q5
      go_wp2_with fail
      refine hA.mono ?_
      rintro e v3 ⟨rfl, hc3⟩
      go_wp2
      go_ret
      exact ⟨rfl, hb7.trans (hc3.mono hs7)⟩
    · have e1 : (f == 0) = false := by simpa using hfz
      have hA := awake_any _ (hG.below hb6) (by omega)
      clear hpp hfit hfz hK3 q0 q1 q2 q3 q4 q5
      go_wp2_with fail
      refine hA.mono ?_
      rintro e v3 ⟨rfl, hc3⟩
      go_wp2
      go_ret
      exact ⟨rfl, hb6.trans (hc3.mono hs6)⟩
  have e0 : (pe == 0) = true := by simpa using hp0
  have hP := parse_any pb w2 (hG.below hb2) (by omega)
  go_wp2_with fail
  refine hP.mono ?_
  rintro e w3 ⟨hb, ps, rfl, hM⟩
  rw [hpp1 hp0] at hM ⊢
  clear hP hpp1 hp0
  have hb3 := hb2.trans (hb.mono (by omega))
  have hs3 := hb.size
  have G23 := blk_below G22 hb
  have hKp := R.k32.K_of_M hM
  obtain ⟨C4, e4, C5, e5, hps, _, _, _, _⟩ := R.k32_open hKp
  obtain rfl : ps = #[.int .i64 t.f0.f0, .int .i64 t.f0.f1, .string t.f1, .string t.f2, .slice C4 t.f3.length e4, .slice C5 t.f4.length e5] := Array.toList_inj.1 hps
  have hb4 := below_alloc hb3 (.cells #[.int .i64 t.f0.f0, .int .i64 t.f0.f1, .string t.f1, .string t.f2, .slice C4 t.f3.length e4, .slice C5 t.f4.length e5] 32)
  have hs4 : w3.heap.size + 1 = (w3.alloc (.cells #[.int .i64 t.f0.f0, .int .i64 t.f0.f1, .string t.f1, .string t.f2, .slice C4 t.f3.length e4, .slice C5 t.f4.length e5] 32)).heap.size := (World.size_alloc ..).symm
  have hS := same_any t t _ _ (w3.alloc (.cells #[.int .i64 t.f0.f0, .int .i64 t.f0.f1, .string t.f1, .string t.f2, .slice C4 t.f3.length e4, .slice C5 t.f4.length e5] 32)) hT.fitS (R.k32.K_below hb4 hK) (R.k32.K_below (below_alloc (Below.refl w3.heap.size w3) _) hKp)
  have G24 := blk_alloc G23 (.cells #[.int .i64 t.f0.f0, .int .i64 t.f0.f1, .string t.f1, .string t.f2, .slice C4 t.f3.length e4, .slice C5 t.f4.length e5] 32)
  have G5 := blk_new w3 (.cells #[.int .i64 t.f0.f0, .int .i64 t.f0.f1, .string t.f1, .string t.f2, .slice C4 t.f3.length e4, .slice C5 t.f4.length e5] 32)
  clear c0 c1 c2 c3 c4' c5' G22 G23 hb hb2 hb1 hM hKp hps hb3
  obtain ⟨⟨c0, c1, c2, c3, c4', c5'⟩, _⟩ := cells6 G24
  obtain ⟨⟨p0, p1, p2, p3, p4, p5⟩, _⟩ := cells6 G5
  go_wp2_with fail
  refine hS.mono ?_
  rintro e w4 ⟨⟨r, rfl, hr⟩, hb⟩
  obtain rfl : r = true := hr.2 trivial
  have hbW := hb4.trans (hb.mono hb4.size)
  have hs5 := hb.size
  clear hS c0 c1 c2 c3 c4' c5' p0 p1 p2 p3 p4 p5 hb hb4 G5 hr
  have hbq := hbW.size
  have hP2 := parse_any s _ (hG.below hbW) (by omega)
  go_wp2_with fail
  refine hP2.mono ?_
  rintro e v1 ⟨hc1, ds, rfl, hM⟩
  have hb5 := hbW.trans (hc1.mono hbq)
  have hK2 := R.k32.K_of_M hM
  obtain ⟨u, hu⟩ : ∃ u, u = (parseV s).1 := ⟨_, rfl⟩
  obtain ⟨f, hf⟩ : ∃ f, f = (parseV s).2 := ⟨_, rfl⟩
  have hpp : f = 0 → textV true u = (s.data.toList, 0) := by rw [hu, hf]; exact parse_print
  have hfit : f = 0 → ∀ p ∈ flatD 0 u, Fits p.2 := by rw [hu, hf]; exact parseV_fits
  rw [← hu] at hK2
  rw [← hf]
  clear hM hu hf hP2
  obtain ⟨B4, d4, B5, d5, hds, _, _, _, _⟩ := R.k32_open hK2
  obtain rfl : ds = #[.int .i64 u.f0.f0, .int .i64 u.f0.f1, .string u.f1, .string u.f2, .slice B4 u.f3.length d4, .slice B5 u.f4.length d5] := Array.toList_inj.1 hds
  have hb6 := below_alloc hb5 (.cells #[.int .i64 u.f0.f0, .int .i64 u.f0.f1, .string u.f1, .string u.f2, .slice B4 u.f3.length d4, .slice B5 u.f4.length d5] 32)
  have hK3 := R.k32.K_below (below_alloc (Below.refl v1.heap.size v1) (.cells #[.int .i64 u.f0.f0, .int .i64 u.f0.f1, .string u.f1, .string u.f2, .slice B4 u.f3.length d4, .slice B5 u.f4.length d5] 32)) hK2
  have G7 := blk_new v1 (.cells #[.int .i64 u.f0.f0, .int .i64 u.f0.f1, .string u.f1, .string u.f2, .slice B4 u.f3.length d4, .slice B5 u.f4.length d5] 32)
  obtain ⟨⟨q0, q1, q2, q3, q4, q5⟩, _⟩ := cells6 G7
  have hs6 := hb6.size
  clear hK2 hds
  by_cases hfz : f = 0
  · have e1 : (f == 0) = true := by simpa using hfz
    have hP3 := print_any u _ _ (hG.below hb6) (by omega) hK3 (hfit hfz) (small_of (hfit hfz))
    rw [hpp hfz] at hP3
    simp only [mk_data] at hP3
    clear hpp hfit hfz hK3
    go_wp2_with fail
    refine hP3.mono ?_
    rintro e v2 ⟨rfl, hc2⟩
    have hb7 := hb6.trans (hc2.mono hs6)
    have hs7 := hb7.size
    have hA := awake_any v2 (hG.below hb7) (by omega)
    clear hP3 q0 q1 q2 q3 q4 q5
    go_wp2_with fail
    refine hA.mono ?_
    rintro e v3 ⟨rfl, hc3⟩
    go_wp2
    go_ret
    exact ⟨rfl, hb7.trans (hc3.mono hs7)⟩
  · have e1 : (f == 0) = false := by simpa using hfz
    have hA := awake_any _ (hG.below hb6) (by omega)
    clear hpp hfit hfz hK3 q0 q1 q2 q3 q4 q5
    go_wp2_with fail
    refine hA.mono ?_
    rintro e v3 ⟨rfl, hc3⟩
    go_wp2
    go_ret
    exact ⟨rfl, hb6.trans (hc3.mono hs6)⟩

theorem texts_iff {a b : VN} {sa sb : ByteArray} (ha : sa = ⟨(textV true a).1.toArray⟩) (hb : sb = ⟨(textV true b).1.toArray⟩) (h1 : (textV true a).2 = 0) (h2 : (textV true b).2 = 0) : (sa.toList == sb.toList) = true ↔ a = b := by
  rw [beq_iff_eq, toList_eq, ← print_inj h1 h2, ha, hb]
  constructor
  · intro h
    have := congrArg (fun x : ByteArray => x.data.toList) h
    simpa using this
  · intro h; rw [h]

set_option maxHeartbeats 8000000 in
set_option maxRecDepth 1000000 in
theorem apart_any (a : VN) (ca : Array Value) {w : World} (hKa : R.k32.K w a ca.toList) (hTa : rows.TreeOk 1048576 a) (b : VN) (cb : Array Value) (hKb : R.k32.K w b cb.toList) (hTb : rows.TreeOk 1048576 b) (hG : Glob w) (hgt : gTop ≤ w.heap.size) :
    Calls Tryd.prog 6 #[.agg ca, .agg cb] w fun e w' => e = .returned (.bool true) ∧ Below w.heap.size w w' := by
  obtain ⟨A4, c4, A5, c5, hcs, _, _, _, _⟩ := R.k32_open hKa
  obtain rfl : ca = #[.int .i64 a.f0.f0, .int .i64 a.f0.f1, .string a.f1, .string a.f2, .slice A4 a.f3.length c4, .slice A5 a.f4.length c5] := Array.toList_inj.1 hcs
  obtain ⟨B4, d4, B5, d5, hds, _, _, _, _⟩ := R.k32_open hKb
  obtain rfl : cb = #[.int .i64 b.f0.f0, .int .i64 b.f0.f1, .string b.f1, .string b.f2, .slice B4 b.f3.length d4, .slice B5 b.f4.length d5] := Array.toList_inj.1 hds
  have Ga := blk_alloc (blk_new w (.cells #[.int .i64 a.f0.f0, .int .i64 a.f0.f1, .string a.f1, .string a.f2, .slice A4 a.f3.length c4, .slice A5 a.f4.length c5] 32)) (.cells #[.int .i64 b.f0.f0, .int .i64 b.f0.f1, .string b.f1, .string b.f2, .slice B4 b.f3.length d4, .slice B5 b.f4.length d5] 32)
  have Gb := blk_new (w.alloc (.cells #[.int .i64 a.f0.f0, .int .i64 a.f0.f1, .string a.f1, .string a.f2, .slice A4 a.f3.length c4, .slice A5 a.f4.length c5] 32)) (.cells #[.int .i64 b.f0.f0, .int .i64 b.f0.f1, .string b.f1, .string b.f2, .slice B4 b.f3.length d4, .slice B5 b.f4.length d5] 32)
  have hb0 := below_alloc (below_alloc (Below.refl w.heap.size w) (.cells #[.int .i64 a.f0.f0, .int .i64 a.f0.f1, .string a.f1, .string a.f2, .slice A4 a.f3.length c4, .slice A5 a.f4.length c5] 32)) (.cells #[.int .i64 b.f0.f0, .int .i64 b.f0.f1, .string b.f1, .string b.f2, .slice B4 b.f3.length d4, .slice B5 b.f4.length d5] 32)
  have hz0 := hb0.size
  have hL := light_any a _ _ (R.k32.K_below hb0 hKa) (hTa 0).1 (fun p hp => (hTa.fits p hp).kids)
  rw [World.size_alloc] at Gb
  obtain ⟨⟨c0, c1, c2, c3, c4', c5'⟩, _⟩ := cells6 Ga
  go_enter Tryd.func6, Tryd.ntmps6
  go_wp2_with fail
  refine hL.mono ?_
  rintro e w1 ⟨rfl, hb⟩
  have hb1 := hb0.trans (hb.mono hz0)
  have hz1 := hb1.size
  have Ga := blk_below Ga hb
  have Gb := blk_below Gb hb
  clear hL c0 c1 c2 c3 c4' c5' hb hb0 hz0
  obtain ⟨⟨c0, c1, c2, c3, c4', c5'⟩, _⟩ := cells6 Ga
  obtain ⟨⟨p0, p1, p2, p3, p4, p5⟩, _⟩ := cells6 Gb
  by_cases hl : (flatD 0 a).length ≤ 1000
  case neg =>
    have d0 : decide ((flatD 0 a).length ≤ 1000) = false := decide_eq_false hl
    have hA := awake_any w1 (hG.below hb1) (by omega)
    go_wp2_with fail
    refine hA.mono ?_
    rintro e w3 ⟨rfl, hc3⟩
    go_wp2
    go_ret
    exact ⟨rfl, hb1.trans (hc3.mono (by omega))⟩
  have d0 : decide ((flatD 0 a).length ≤ 1000) = true := decide_eq_true hl
  have hL := light_any b _ w1 (R.k32.K_below hb1 hKb) (hTb 0).1 (fun p hp => (hTb.fits p hp).kids)
  go_wp2_with fail
  refine hL.mono ?_
  rintro e w2 ⟨rfl, hb⟩
  have hb2 := hb1.trans (hb.mono hz1)
  have hz2 := hb2.size
  have Ga := blk_below Ga hb
  have Gb := blk_below Gb hb
  clear hL c0 c1 c2 c3 c4' c5' p0 p1 p2 p3 p4 p5 hb hb1 hz1
  obtain ⟨⟨c0, c1, c2, c3, c4', c5'⟩, _⟩ := cells6 Ga
  obtain ⟨⟨p0, p1, p2, p3, p4, p5⟩, _⟩ := cells6 Gb
  by_cases hl2 : (flatD 0 b).length ≤ 1000
  case neg =>
    have d1 : decide ((flatD 0 b).length ≤ 1000) = false := decide_eq_false hl2
    have hA := awake_any w2 (hG.below hb2) (by omega)
    go_wp2_with fail
    refine hA.mono ?_
    rintro e w3 ⟨rfl, hc3⟩
    go_wp2
    go_ret
    exact ⟨rfl, hb2.trans (hc3.mono (by omega))⟩
  have d1 : decide ((flatD 0 b).length ≤ 1000) = true := decide_eq_true hl2
  have hP := print_any a _ w2 (hG.below hb2) (by omega) (R.k32.K_below hb2 hKa) hTa.fits (small_of hTa.fits)
  obtain ⟨sa, hsa⟩ : ∃ sa : ByteArray, sa = ⟨(textV true a).1.toArray⟩ := ⟨_, rfl⟩
  obtain ⟨pe, hpe⟩ : ∃ pe : Int, pe = (textV true a).2 := ⟨_, rfl⟩
  rw [← hsa, ← hpe] at hP
  have HA := Lib.hid (And.intro hsa hpe)
  clear hsa hpe hl hl2
  go_wp2_with fail
  refine hP.mono ?_
  rintro e w3 ⟨rfl, hb⟩
  have hb3 := hb2.trans (hb.mono hz2)
  have hz3 := hb3.size
  have Ga := blk_below Ga hb
  have Gb := blk_below Gb hb
  clear hP c0 c1 c2 c3 c4' c5' p0 p1 p2 p3 p4 p5 hb hb2 hz2 d0 d1
  obtain ⟨⟨c0, c1, c2, c3, c4', c5'⟩, _⟩ := cells6 Ga
  obtain ⟨⟨p0, p1, p2, p3, p4, p5⟩, _⟩ := cells6 Gb
  have hP := print_any b _ w3 (hG.below hb3) (by omega) (R.k32.K_below hb3 hKb) hTb.fits (small_of hTb.fits)
  obtain ⟨sb, hsb⟩ : ∃ sb : ByteArray, sb = ⟨(textV true b).1.toArray⟩ := ⟨_, rfl⟩
  obtain ⟨pf, hpf⟩ : ∃ pf : Int, pf = (textV true b).2 := ⟨_, rfl⟩
  rw [← hsb, ← hpf] at hP
  have HB := Lib.hid (And.intro hsb hpf)
  clear hsb hpf
  go_wp2_with fail
  refine hP.mono ?_
  rintro e w4 ⟨rfl, hb⟩
  have hb4 := hb3.trans (hb.mono hz3)
  have hz4 := hb4.size
  have Ga := blk_below Ga hb
  have Gb := blk_below Gb hb
  clear hP c0 c1 c2 c3 c4' c5' p0 p1 p2 p3 p4 p5 hb hb3 hz3
  obtain ⟨⟨c0, c1, c2, c3, c4', c5'⟩, _⟩ := cells6 Ga
  obtain ⟨⟨p0, p1, p2, p3, p4, p5⟩, _⟩ := cells6 Gb
  have hA := awake_any w4 (hG.below hb4) (by omega)
  by_cases h0 : pe = 0
  case neg =>
    have e0 : (pe == 0) = false := by simpa using h0
    have e0' : (pe != 0) = true := by simpa using h0
    clear h0
    go_wp2_with fail
    refine hA.mono ?_
    rintro e w5 ⟨rfl, hc3⟩
    go_wp2
    go_ret
    exact ⟨rfl, hb4.trans (hc3.mono (by omega))⟩
  by_cases h1 : pf = 0
  case neg =>
    have e0 : (pe == 0) = true := by simpa using h0
    have e0' : (pe != 0) = false := by simpa using h0
    have e1 : (pf == 0) = false := by simpa using h1
    have e1' : (pf != 0) = true := by simpa using h1
    clear h0 h1
    go_wp2_with fail
    refine hA.mono ?_
    rintro e w5 ⟨rfl, hc3⟩
    go_wp2
    go_ret
    exact ⟨rfl, hb4.trans (hc3.mono (by omega))⟩
  have hI := texts_iff HA.out.1 HB.out.1 (by rw [← HA.out.2, h0]) (by rw [← HB.out.2, h1])
  have e0 : (pe == 0) = true := by simpa using h0
  have e0' : (pe != 0) = false := by simpa using h0
  have e1 : (pf == 0) = true := by simpa using h1
  have e1' : (pf != 0) = false := by simpa using h1
  have hS := same_any a b _ _ w4 hTa.fitS (R.k32.K_below hb4 hKa) (R.k32.K_below hb4 hKb)
  have HI := Lib.hid hI
  clear h0 h1 hI hA HA HB
  go_wp2_with fail
  refine hS.mono ?_
  rintro e w5 ⟨⟨r, rfl, hr⟩, hb⟩
  have hb5 := hb4.trans (hb.mono hz4)
  have hz5 := hb5.size
  obtain rfl : r = (sa.toList == sb.toList) := by rw [Bool.eq_iff_iff, hr, HI.out]
  have hA := awake_any w5 (hG.below hb5) (by omega)
  clear hS hb hr HI
  go_wp2_with fail
  refine hA.mono ?_
  rintro e w6 ⟨rfl, hc3⟩
  go_wp2
  go_ret
  exact ⟨rfl, hb5.trans (hc3.mono (by omega))⟩

end Go.Proofs.YtfpldbobfjkkfaaDoor
