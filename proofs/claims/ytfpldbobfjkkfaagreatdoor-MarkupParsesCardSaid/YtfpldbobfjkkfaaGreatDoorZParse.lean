/- The walk of topiaryref20.Parse: what markup.Parse says. -/
import Derived.Test.YtfpldbobfjkkfaaGreatDoorZNode
namespace Go.Proofs.YtfpldbobfjkkfaaGreatDoor
open Go.RowKit Go.Proofs Go.Proofs.YtfpldbobfjkkfaaGreatDoorW.PrintWords Go.Proofs.YtfpldbobfjkkfaaGreatDoorW.PrintLast
set_option linter.unusedSimpArgs false

set_option maxHeartbeats 1000000 in
set_option maxRecDepth 1000000 in
theorem refParse_any (s : ByteArray) (w : World) : Calls Tryz.prog 6 #[.string s] w (ParsePost s w) := by
  have G2 := blk_new w (.cells #[.int .i64 0, .int .i64 0, .string ⟨#[]⟩, .string ⟨#[]⟩, .slice none 0 0, .slice none 0 0] 28)
  have hb0 := below_alloc (Below.refl w.heap.size w) (.cells #[.int .i64 0, .int .i64 0, .string ⟨#[]⟩, .string ⟨#[]⟩, .slice none 0 0, .slice none 0 0] 28)
  have hs0 : (w.alloc (.cells #[.int .i64 0, .int .i64 0, .string ⟨#[]⟩, .string ⟨#[]⟩, .slice none 0 0, .slice none 0 0] 28)).heap.size = w.heap.size + 1 := World.size_alloc ..
  by_cases hl : 262144 < s.size
  · have d0 : ((262144 : Int) < s.size) = True := eq_true (by omega)
    obtain ⟨⟨c0, c1, c2, c3, c4, c5⟩, f0, f1, f2, f3, f4, f5⟩ := cells6 G2
    have HP := Lib.hid (show parseV s = (zeroV, 3) from if_pos hl)
    clear hl
    go_enter Tryz.func6, Tryz.ntmps6
    go_wp2_with fail
    refine bodyPost_ret (results_ct rfl _ _ w.heap.size 28 _ (0, 0) _ rfl G2 Tryz.underlying28 rfl (by kernel_rfl)) rfl ?_
    exact ⟨hb0, _, by rw [HP.out]; rfl, by rw [HP.out]; exact R.k28_mkM _ _ _ zeroV (Kd.R_nil _ _ _ _ _) (Kd.R_nil _ _ _ _ _)⟩
  have d0 : ((262144 : Int) < s.size) = False := eq_false (by omega)
  have hN := refNodeR s (by omega) (2 * s.size + 2) 0 (w.alloc (.cells #[.int .i64 0, .int .i64 0, .string ⟨#[]⟩, .string ⟨#[]⟩, .slice none 0 0, .slice none 0 0] 28)) (Nat.zero_le _) (by omega)
  rw [show ((0 : Nat) : Int) = 0 from rfl] at hN
  have hV := refV (s := s) (by omega)
  go_enter Tryz.func6, Tryz.ntmps6
  go_wp2_with fail
  refine hN.mono ?_
  rintro e w1 ⟨hb, t, cs, too, rfl, hM, ho⟩
  rw [List.drop_zero] at ho
  clear hN
  have hb1 := hb0.trans (hb.mono (by omega))
  have hKK := R.k28.K_of_M hM
  obtain ⟨va, vk, hcs, h88, h32⟩ := R.k28_openM hM
  obtain ⟨A1, C1, rfl⟩ := Kd.R_slice h88
  obtain ⟨A2, C2, rfl⟩ := Kd.R_slice h32
  obtain rfl : cs = #[.int .i64 t.f0.f0, .int .i64 t.f0.f1, .string t.f1, .string t.f2, .slice A1 t.f3.length C1, .slice A2 t.f4.length C2] := Array.toList_inj.1 hcs
  have G21 := blk_alloc (blk_below G2 hb) (.cells #[.int .i64 t.f0.f0, .int .i64 t.f0.f1, .string t.f1, .string t.f2, .slice A1 t.f3.length C1, .slice A2 t.f4.length C2] 28)
  have hb2 := below_alloc hb1 (.cells #[.int .i64 t.f0.f0, .int .i64 t.f0.f1, .string t.f1, .string t.f2, .slice A1 t.f3.length C1, .slice A2 t.f4.length C2] 28)
  by_cases hj : too = (s.size : Int)
  case neg =>
    have d1 : (too == (s.size : Int)) = false := by simpa using hj
    have d3 : (too = (s.size : Int)) = False := eq_false hj
    have d4 : decide (too = (s.size : Int)) = false := decide_eq_false hj
    have hp : parseV s = (zeroV, 2) := by
      rw [hV]
      rcases ho with ⟨j, g1, g2, g3, rfl⟩ | ⟨g1, _⟩
      · rw [g1, drop_cons s j (by omega)]
      · rw [g1]
    have HP := Lib.hid hp
    obtain ⟨⟨c0, c1, c2, c3, c4, c5⟩, f0, f1, f2, f3, f4, f5⟩ := cells6 G21
    clear hp hcs hM hKK h88 h32 ho hV hj
    go_wp2
    refine bodyPost_ret (results_ct rfl _ _ w.heap.size 28 _ (0, 0) _ rfl (put6_blk G21 (.int .i64 0) (.int .i64 0) (.string ⟨#[]⟩) (.string ⟨#[]⟩) (.slice none 0 0) (.slice none 0 0)) Tryz.underlying28 rfl (by kernel_rfl)) rfl ?_
    exact ⟨below_put6 hb2 (Nat.le_refl _) (.int .i64 0) (.int .i64 0) (.string ⟨#[]⟩) (.string ⟨#[]⟩) (.slice none 0 0) (.slice none 0 0), _, by rw [HP.out]; rfl, by rw [HP.out]; exact R.k28_mkM _ _ _ zeroV (Kd.R_nil _ _ _ _ _) (Kd.R_nil _ _ _ _ _)⟩
  subst hj
  have hq : nodeU (2 * s.size + 2) s.data.toList = some (t, []) := by
    rcases ho with ⟨j, g1, g2, g3, g4⟩ | ⟨g1, g2⟩
    · rw [g1, List.drop_of_length_le (by rw [len_list]; omega)]
    · omega
  have hfit := fitR_of (t := t) (by
    have h1 := (nodeU_back _).1 _ _ _ hq
    rw [List.append_nil] at h1
    rw [← h1, len_list]
    omega)
  rw [hq] at hV
  have hV : parseV s = if checkV t = 0 then (t, 0) else (zeroV, 2) := hV
  have HV := Lib.hid hV
  have hC := refCheck_any t _ _ (R.k28.K_below (below_alloc (Below.refl w1.heap.size w1) (.cells #[.int .i64 t.f0.f0, .int .i64 t.f0.f1, .string t.f1, .string t.f2, .slice A1 t.f3.length C1, .slice A2 t.f4.length C2] 28)) hKK) hfit.1 hfit.2
  have G4 := blk_new w1 (.cells #[.int .i64 t.f0.f0, .int .i64 t.f0.f1, .string t.f1, .string t.f2, .slice A1 t.f3.length C1, .slice A2 t.f4.length C2] 28)
  clear hcs hM hKK ho hV hq hfit
  go_wp2_with fail
  refine hC.mono ?_
  rintro e w2 ⟨rfl, hb3⟩
  clear hC
  have G22 := blk_below G21 hb3
  have hb4 := hb2.trans (hb3.mono hb2.size)
  obtain ⟨⟨c0, c1, c2, c3, c4, c5⟩, f0, f1, f2, f3, f4, f5⟩ := cells6 G22
  by_cases hk : checkV t = 0
  · have d2 : (checkV t == 0) = true := by simpa using hk
    have HP := Lib.hid (show parseV s = (t, 0) by rw [HV.out]; exact if_pos hk)
    obtain ⟨⟨q0, q1, q2, q3, q4, q5⟩, _⟩ := cells6 (blk_below G4 hb3)
    have far : ∀ k, w.heap.size + 1 ≤ k → k < w2.heap.size → (put6 w2 w.heap.size (.int .i64 t.f0.f0) (.int .i64 t.f0.f1) (.string t.f1) (.string t.f2) (.slice A1 t.f3.length C1) (.slice A2 t.f4.length C2)).heap[k]? = w2.heap[k]? := fun k hk _ => put6_far (by omega) _ _ _ _ _ _
    have e1 := Kd.R_step (Kd.R_mono (Kd.R_bound (Kd.R_below (Kd.R_alloc h88 _) hb3)) (ok' := fun k => w.heap.size + 1 ≤ k) (fun k hk => by have := hk.2.1; omega)) far
    have e2 := Kd.R_step (Kd.R_mono (Kd.R_bound (Kd.R_below (Kd.R_alloc h32 _) hb3)) (ok' := fun k => w.heap.size + 1 ≤ k) (fun k hk => by have := hk.2.1; omega)) far
    have e1 := Kd.R_mono (Kd.R_lower e1 (base' := w.heap.size) (by omega)) (ok' := fun _ => True) (fun _ _ => trivial)
    have e2 := Kd.R_mono (Kd.R_lower e2 (base' := w.heap.size) (by omega)) (ok' := fun _ => True) (fun _ _ => trivial)
    have HE := Lib.hid (And.intro e1 e2)
    clear e1 e2 far h88 h32 hk
    go_wp2
    refine bodyPost_ret (results_ct rfl _ _ w.heap.size 28 _ (0, 0) _ rfl (put6_blk G22 (.int .i64 t.f0.f0) (.int .i64 t.f0.f1) (.string t.f1) (.string t.f2) (.slice A1 t.f3.length C1) (.slice A2 t.f4.length C2)) Tryz.underlying28 rfl (by kernel_rfl)) rfl ?_
    exact ⟨below_put6 hb4 (Nat.le_refl _) (.int .i64 t.f0.f0) (.int .i64 t.f0.f1) (.string t.f1) (.string t.f2) (.slice A1 t.f3.length C1) (.slice A2 t.f4.length C2), _, by rw [HP.out]; rfl, by rw [HP.out]; exact R.k28_mkM _ _ _ t HE.out.1 HE.out.2⟩
  · have d2 : (checkV t == 0) = false := by simpa using hk
    have HP := Lib.hid (show parseV s = (zeroV, 2) by rw [HV.out]; exact if_neg hk)
    clear h88 h32 hk
    go_wp2
    refine bodyPost_ret (results_ct rfl _ _ w.heap.size 28 _ (0, 0) _ rfl (put6_blk G22 (.int .i64 0) (.int .i64 0) (.string ⟨#[]⟩) (.string ⟨#[]⟩) (.slice none 0 0) (.slice none 0 0)) Tryz.underlying28 rfl (by kernel_rfl)) rfl ?_
    exact ⟨below_put6 hb4 (Nat.le_refl _) (.int .i64 0) (.int .i64 0) (.string ⟨#[]⟩) (.string ⟨#[]⟩) (.slice none 0 0) (.slice none 0 0), _, by rw [HP.out]; rfl, by rw [HP.out]; exact R.k28_mkM _ _ _ zeroV (Kd.R_nil _ _ _ _ _) (Kd.R_nil _ _ _ _ _)⟩

end Go.Proofs.YtfpldbobfjkkfaaGreatDoor
