/- The walk of the law MarkupParses. -/
import Derived.Test.YtfpldbobfjkkfaaGreatDoorZParse
import Derived.Test.YtfpldbobfjkkfaaGreatDoorAwake
namespace Go.Proofs.YtfpldbobfjkkfaaGreatDoor
open Go.RowKit Go.Proofs Go.Proofs.YtfpldbobfjkkfaaGreatDoorW.PrintWords Go.Proofs.YtfpldbobfjkkfaaGreatDoorW.PrintLast
set_option linter.unusedSimpArgs false

set_option maxHeartbeats 2000000 in
set_option maxRecDepth 1000000 in
theorem parses_any (s : ByteArray) (w : World) (hG : Glob w) (hgt : gTop ≤ w.heap.size) :
    Calls Tryz.prog 3 #[.string s] w fun e w' => e = .returned (.bool true) ∧ Below w.heap.size w w' := by
  by_cases hbig : 20000 < s.size ∧ s.size ≤ 262144
  · have d0 : decide ((20000 : Int) < s.size) = true := decide_eq_true (by omega)
    have d1 : decide ((s.size : Int) ≤ 262144) = true := decide_eq_true (by omega)
    have d2 : ((20000 : Int) < s.size) = True := eq_true (by omega)
    have d3 : ((s.size : Int) ≤ 262144) = True := eq_true (by omega)
    have hA := awake_any w hG hgt
    clear hbig
    go_enter Tryz.func3, Tryz.ntmps3
    go_wp2_with fail
    refine hA.mono ?_
    rintro e w3 ⟨rfl, hc3⟩
    go_wp2
    go_ret
    exact ⟨rfl, hc3⟩
  have hP1 := parse_any s w hG hgt
  have hP2 := refParse_any s
  have hfit := parse_fitS s
  obtain ⟨u, hu⟩ : ∃ u, u = (parseV s).1 := ⟨_, rfl⟩
  obtain ⟨f, hf⟩ : ∃ f, f = (parseV s).2 := ⟨_, rfl⟩
  have hP1 : Calls Tryz.prog 5 #[.string s] w fun e w' => Below w.heap.size w w' ∧ ∃ cs : Array Value, e = .returned (.tuple #[.agg cs, .int .i64 f]) ∧ R.k28.M w' w.heap.size (fun _ => True) u cs.toList := by rw [hu, hf]; exact hP1
  have hP2 : ∀ w, Calls Tryz.prog 6 #[.string s] w fun e w' => Below w.heap.size w w' ∧ ∃ cs : Array Value, e = .returned (.tuple #[.agg cs, .int .i64 f]) ∧ R.k28.M w' w.heap.size (fun _ => True) u cs.toList := by rw [hu, hf]; exact hP2
  rw [← hu] at hfit
  clear hu hf
  have main : Calls Tryz.prog 3 #[.string s] w fun e w' => e = .returned (.bool true) ∧ Below w.heap.size w w' := by
    by_cases h20 : 20000 < s.size
    · have d0 : decide ((20000 : Int) < s.size) = true := decide_eq_true (by omega)
      have d1 : decide ((s.size : Int) ≤ 262144) = false := decide_eq_false (by omega)
      have d2 : ((20000 : Int) < s.size) = True := eq_true (by omega)
      have d3 : ((s.size : Int) ≤ 262144) = False := eq_false (by omega)
      clear hbig h20
      go_enter Tryz.func3, Tryz.ntmps3
      go_wp2_with fail
      refine hP1.mono ?_
      rintro e w1 ⟨hb, ps, rfl, hM⟩
      have hK1 := R.k28.K_of_M hM
      obtain ⟨A4, c4, A5, c5, hps, _, _, _, _⟩ := R.k28_open hK1
      obtain rfl : ps = #[.int .i64 u.f0.f0, .int .i64 u.f0.f1, .string u.f1, .string u.f2, .slice A4 u.f3.length c4, .slice A5 u.f4.length c5] := Array.toList_inj.1 hps
      have hb2 := below_alloc hb (.cells #[.int .i64 u.f0.f0, .int .i64 u.f0.f1, .string u.f1, .string u.f2, .slice A4 u.f3.length c4, .slice A5 u.f4.length c5] 28)
      have hK2 := R.k28.K_below (below_alloc (Below.refl w1.heap.size w1) (.cells #[.int .i64 u.f0.f0, .int .i64 u.f0.f1, .string u.f1, .string u.f2, .slice A4 u.f3.length c4, .slice A5 u.f4.length c5] 28)) hK1
      have G3 := blk_new w1 (.cells #[.int .i64 u.f0.f0, .int .i64 u.f0.f1, .string u.f1, .string u.f2, .slice A4 u.f3.length c4, .slice A5 u.f4.length c5] 28)
      have hs2 := hb2.size
      clear hP1 hb hM hK1 hps
      go_wp2_with fail
      refine (hP2 _).mono ?_
      rintro e w2 ⟨hc, qs, rfl, hM⟩
      have hb3 := hb2.trans (hc.mono hs2)
      have hs3 := hb3.size
      have hK3 := R.k28.K_of_M hM
      have hK2 := R.k28.K_below hc hK2
      have G3 := blk_below G3 hc
      obtain ⟨B4, e4, B5, e5, hqs, _, _, _, _⟩ := R.k28_open hK3
      obtain rfl : qs = #[.int .i64 u.f0.f0, .int .i64 u.f0.f1, .string u.f1, .string u.f2, .slice B4 u.f3.length e4, .slice B5 u.f4.length e5] := Array.toList_inj.1 hqs
      have hb4 := below_alloc hb3 (.cells #[.int .i64 u.f0.f0, .int .i64 u.f0.f1, .string u.f1, .string u.f2, .slice B4 u.f3.length e4, .slice B5 u.f4.length e5] 28)
      have hs4 := hb4.size
      have hS := same_any u u _ _ (w2.alloc (.cells #[.int .i64 u.f0.f0, .int .i64 u.f0.f1, .string u.f1, .string u.f2, .slice B4 u.f3.length e4, .slice B5 u.f4.length e5] 28)) hfit (R.k28.K_below (below_alloc (Below.refl w2.heap.size w2) _) hK2) (R.k28.K_below (below_alloc (Below.refl w2.heap.size w2) _) hK3)
      have G4 := blk_alloc G3 (.cells #[.int .i64 u.f0.f0, .int .i64 u.f0.f1, .string u.f1, .string u.f2, .slice B4 u.f3.length e4, .slice B5 u.f4.length e5] 28)
      have G5 := blk_new w2 (.cells #[.int .i64 u.f0.f0, .int .i64 u.f0.f1, .string u.f1, .string u.f2, .slice B4 u.f3.length e4, .slice B5 u.f4.length e5] 28)
      obtain ⟨⟨c0, c1, c2, c3, c4', c5'⟩, _⟩ := cells6 G4
      obtain ⟨⟨p0, p1, p2, p3, p4, p5⟩, _⟩ := cells6 G5
      clear hP2 hc hM hK2 hK3 hqs hb2 hb3
      go_wp2_with fail
      refine hS.mono ?_
      rintro e w4 ⟨⟨r, rfl, hr⟩, hb⟩
      obtain rfl : r = true := hr.2 trivial
      have hb5 := hb4.trans (hb.mono hs4)
      have hs5 := hb5.size
      have hff : (f == f) = true := by simp
      have hA := awake_any w4 (hG.below hb5) (by omega)
      clear hS c0 c1 c2 c3 c4' c5' p0 p1 p2 p3 p4 p5 hb hb4 hr
      go_wp2_with fail
      refine hA.mono ?_
      rintro e w5 ⟨rfl, hc⟩
      go_wp2
      go_ret
      exact ⟨rfl, hb5.trans (hc.mono hs5)⟩
    · have d0 : decide ((20000 : Int) < s.size) = false := decide_eq_false (by omega)
      have d2 : ((20000 : Int) < s.size) = False := eq_false (by omega)
      clear hbig h20
      go_enter Tryz.func3, Tryz.ntmps3
      go_wp2_with fail
      refine hP1.mono ?_
      rintro e w1 ⟨hb, ps, rfl, hM⟩
      have hK1 := R.k28.K_of_M hM
      obtain ⟨A4, c4, A5, c5, hps, _, _, _, _⟩ := R.k28_open hK1
      obtain rfl : ps = #[.int .i64 u.f0.f0, .int .i64 u.f0.f1, .string u.f1, .string u.f2, .slice A4 u.f3.length c4, .slice A5 u.f4.length c5] := Array.toList_inj.1 hps
      have hb2 := below_alloc hb (.cells #[.int .i64 u.f0.f0, .int .i64 u.f0.f1, .string u.f1, .string u.f2, .slice A4 u.f3.length c4, .slice A5 u.f4.length c5] 28)
      have hK2 := R.k28.K_below (below_alloc (Below.refl w1.heap.size w1) (.cells #[.int .i64 u.f0.f0, .int .i64 u.f0.f1, .string u.f1, .string u.f2, .slice A4 u.f3.length c4, .slice A5 u.f4.length c5] 28)) hK1
      have G3 := blk_new w1 (.cells #[.int .i64 u.f0.f0, .int .i64 u.f0.f1, .string u.f1, .string u.f2, .slice A4 u.f3.length c4, .slice A5 u.f4.length c5] 28)
      have hs2 := hb2.size
      clear hP1 hb hM hK1 hps
      go_wp2_with fail
      refine (hP2 _).mono ?_
      rintro e w2 ⟨hc, qs, rfl, hM⟩
      have hb3 := hb2.trans (hc.mono hs2)
      have hs3 := hb3.size
      have hK3 := R.k28.K_of_M hM
      have hK2 := R.k28.K_below hc hK2
      have G3 := blk_below G3 hc
      obtain ⟨B4, e4, B5, e5, hqs, _, _, _, _⟩ := R.k28_open hK3
      obtain rfl : qs = #[.int .i64 u.f0.f0, .int .i64 u.f0.f1, .string u.f1, .string u.f2, .slice B4 u.f3.length e4, .slice B5 u.f4.length e5] := Array.toList_inj.1 hqs
      have hb4 := below_alloc hb3 (.cells #[.int .i64 u.f0.f0, .int .i64 u.f0.f1, .string u.f1, .string u.f2, .slice B4 u.f3.length e4, .slice B5 u.f4.length e5] 28)
      have hs4 := hb4.size
      have hS := same_any u u _ _ (w2.alloc (.cells #[.int .i64 u.f0.f0, .int .i64 u.f0.f1, .string u.f1, .string u.f2, .slice B4 u.f3.length e4, .slice B5 u.f4.length e5] 28)) hfit (R.k28.K_below (below_alloc (Below.refl w2.heap.size w2) _) hK2) (R.k28.K_below (below_alloc (Below.refl w2.heap.size w2) _) hK3)
      have G4 := blk_alloc G3 (.cells #[.int .i64 u.f0.f0, .int .i64 u.f0.f1, .string u.f1, .string u.f2, .slice B4 u.f3.length e4, .slice B5 u.f4.length e5] 28)
      have G5 := blk_new w2 (.cells #[.int .i64 u.f0.f0, .int .i64 u.f0.f1, .string u.f1, .string u.f2, .slice B4 u.f3.length e4, .slice B5 u.f4.length e5] 28)
      obtain ⟨⟨c0, c1, c2, c3, c4', c5'⟩, _⟩ := cells6 G4
      obtain ⟨⟨p0, p1, p2, p3, p4, p5⟩, _⟩ := cells6 G5
      clear hP2 hc hM hK2 hK3 hqs hb2 hb3
      go_wp2_with fail
      refine hS.mono ?_
      rintro e w4 ⟨⟨r, rfl, hr⟩, hb⟩
      obtain rfl : r = true := hr.2 trivial
      have hb5 := hb4.trans (hb.mono hs4)
      have hs5 := hb5.size
      have hff : (f == f) = true := by simp
      have hA := awake_any w4 (hG.below hb5) (by omega)
      clear hS c0 c1 c2 c3 c4' c5' p0 p1 p2 p3 p4 p5 hb hb4 hr
      go_wp2_with fail
      refine hA.mono ?_
      rintro e w5 ⟨rfl, hc⟩
      go_wp2
      go_ret
      exact ⟨rfl, hb5.trans (hc.mono hs5)⟩
  exact main

end Go.Proofs.YtfpldbobfjkkfaaGreatDoor
