/- The walk of markup.Parse. The walk of markup.text, Print, Plain. -/
import Derived.Test.YtfpldbobfjkkfaaGreatDoorCheck
import Derived.Test.YtfpldbobfjkkfaaGreatDoorPureW
import Derived.Test.YtfpldbobfjkkfaaGreatDoorWrite
namespace Go.Proofs.YtfpldbobfjkkfaaGreatDoor
open Go.RowKit Go.Proofs Go.Proofs.YtfpldbobfjkkfaaGreatDoorW.PrintWords Go.Proofs.YtfpldbobfjkkfaaGreatDoorW.PrintLast
set_option linter.unusedSimpArgs false

def zeroV : VN := ⟨⟨0, 0⟩, ⟨#[]⟩, ⟨#[]⟩, [], []⟩
/-- The tree of a text, and an error. -/
def parseV (s : ByteArray) : VN × Int :=
  if 262144 < s.size then (zeroV, 3)
  else match readW s.data.toList with
    | none => (zeroV, 2)
    | some t => if checkV t = 0 then (t, 0) else (zeroV, 2)

def ParsePost (s : ByteArray) (w : World) (e : Ending) (w' : World) : Prop :=
  Below w.heap.size w w' ∧ ∃ cs : Array Value, e = .returned (.tuple #[.agg cs, .int .i64 (parseV s).2]) ∧ R.k28.M w' w.heap.size (fun _ => True) (parseV s).1 cs.toList

theorem below_put6 {n g : Nat} {w W : World} (h : Below n w W) (hg : n ≤ g) (b0 b1 b2 b3 b4 b5 : Value) : Below n w (put6 W g b0 b1 b2 b3 b4 b5) :=
  (((((h.setCell (p := ⟨g, 0, none⟩) hg b0).setCell (p := ⟨g, 1, none⟩) hg b1).setCell (p := ⟨g, 2, none⟩) hg b2).setCell (p := ⟨g, 3, none⟩) hg b3).setCell (p := ⟨g, 4, none⟩) hg b4).setCell (p := ⟨g, 5, none⟩) hg b5

set_option maxHeartbeats 4000000 in
set_option maxRecDepth 1000000 in
theorem parse_any (s : ByteArray) (w : World) (hG : Glob w) (hgt : gTop ≤ w.heap.size) : Calls Tryz.prog 5 #[.string s] w (ParsePost s w) := by
  have G2 := blk_new w (.cells #[.int .i64 0, .int .i64 0, .string ⟨#[]⟩, .string ⟨#[]⟩, .slice none 0 0, .slice none 0 0] 28)
  have hb0 := below_alloc (Below.refl w.heap.size w) (.cells #[.int .i64 0, .int .i64 0, .string ⟨#[]⟩, .string ⟨#[]⟩, .slice none 0 0, .slice none 0 0] 28)
  have hs0 : (w.alloc (.cells #[.int .i64 0, .int .i64 0, .string ⟨#[]⟩, .string ⟨#[]⟩, .slice none 0 0, .slice none 0 0] 28)).heap.size = w.heap.size + 1 := World.size_alloc ..
  obtain ⟨⟨c0, c1, c2, c3, c4, c5⟩, f0, f1, f2, f3, f4, f5⟩ := cells6 G2
  by_cases hl : 262144 < s.size
  · have d0 : ((262144 : Int) < s.size) = True := eq_true (by omega)
    go_enter Tryz.func5, Tryz.ntmps5
    go_wp2_with fail
    have hp : parseV s = (zeroV, 3) := if_pos hl
    refine bodyPost_ret (results_ct rfl _ _ w.heap.size 28 _ (0, 0) _ rfl G2 Tryz.underlying28 rfl (by kernel_rfl)) rfl ?_
    exact ⟨hb0, _, by rw [hp]; rfl, by rw [hp]; exact R.k28_mkM _ _ _ zeroV (Kd.R_nil _ _ _ _ _) (Kd.R_nil _ _ _ _ _)⟩
  · have d0 : ((262144 : Int) < s.size) = False := eq_false (by omega)
    clear c0 c1 c2 c3 c4 c5 f0 f1 f2 f3 f4 f5
    go_enter Tryz.func5, Tryz.ntmps5
    go_wp2_with fail
    refine (read_any s (by omega) _ (hG.below hb0) (by omega)).mono ?_
    rintro e w1 ⟨hb, t, ok, cs, rfl, hM, hr⟩
    have hb1 := hb0.trans (hb.mono (by omega))
    have hKK := R.k28.K_of_M hM
    obtain ⟨va, vk, hcs, h88, h32⟩ := R.k28_openM hM
    obtain ⟨A1, C1, rfl⟩ := Kd.R_slice h88
    obtain ⟨A2, C2, rfl⟩ := Kd.R_slice h32
    obtain rfl : cs = #[.int .i64 t.f0.f0, .int .i64 t.f0.f1, .string t.f1, .string t.f2, .slice A1 t.f3.length C1, .slice A2 t.f4.length C2] := Array.toList_inj.1 hcs
    have G21 := blk_alloc (blk_below G2 hb) (.cells #[.int .i64 t.f0.f0, .int .i64 t.f0.f1, .string t.f1, .string t.f2, .slice A1 t.f3.length C1, .slice A2 t.f4.length C2] 28)
    have hb2 := below_alloc hb1 (.cells #[.int .i64 t.f0.f0, .int .i64 t.f0.f1, .string t.f1, .string t.f2, .slice A1 t.f3.length C1, .slice A2 t.f4.length C2] 28)
    have HR := Lib.hid hr
    cases ok with
    | false =>
      have hp : parseV s = (zeroV, 2) := by rw [parseV, if_neg hl, HR.out]; rfl
      have HP := Lib.hid hp
      obtain ⟨⟨c0, c1, c2, c3, c4, c5⟩, f0, f1, f2, f3, f4, f5⟩ := cells6 G21
      clear hp hr hcs hM hKK h88 h32
      go_wp2
      refine bodyPost_ret (results_ct rfl _ _ w.heap.size 28 _ (0, 0) _ rfl (put6_blk G21 (.int .i64 0) (.int .i64 0) (.string ⟨#[]⟩) (.string ⟨#[]⟩) (.slice none 0 0) (.slice none 0 0)) Tryz.underlying28 rfl (by kernel_rfl)) rfl ?_
      exact ⟨below_put6 hb2 (Nat.le_refl _) (.int .i64 0) (.int .i64 0) (.string ⟨#[]⟩) (.string ⟨#[]⟩) (.slice none 0 0) (.slice none 0 0), _, by rw [HP.out]; rfl, by rw [HP.out]; exact R.k28_mkM _ _ _ zeroV (Kd.R_nil _ _ _ _ _) (Kd.R_nil _ _ _ _ _)⟩
    | true =>
      have hC := check_any t _ _ (R.k28.K_below (below_alloc (Below.refl w1.heap.size w1) (.cells #[.int .i64 t.f0.f0, .int .i64 t.f0.f1, .string t.f1, .string t.f2, .slice A1 t.f3.length C1, .slice A2 t.f4.length C2] 28)) hKK) (readW_fits (by rw [len_list]; omega) hr 0)
      have G4 := blk_new w1 (.cells #[.int .i64 t.f0.f0, .int .i64 t.f0.f1, .string t.f1, .string t.f2, .slice A1 t.f3.length C1, .slice A2 t.f4.length C2] 28)
      clear hr hcs hM hKK
      go_wp2_with fail
      refine hC.mono ?_
      rintro e w2 ⟨rfl, hb3⟩
      have G22 := blk_below G21 hb3
      have hb4 := hb2.trans (hb3.mono hb2.size)
      obtain ⟨⟨c0, c1, c2, c3, c4, c5⟩, f0, f1, f2, f3, f4, f5⟩ := cells6 G22
      by_cases hk : checkV t = 0
      · have d1 : (checkV t == 0) = true := by simpa using hk
        have HP := Lib.hid (show parseV s = (t, 0) by rw [parseV, if_neg hl, HR.out]; exact if_pos hk)
        obtain ⟨⟨q0, q1, q2, q3, q4, q5⟩, _⟩ := cells6 (blk_below G4 hb3)
        have far : ∀ k, w.heap.size + 1 ≤ k → k < w2.heap.size → (put6 w2 w.heap.size (.int .i64 t.f0.f0) (.int .i64 t.f0.f1) (.string t.f1) (.string t.f2) (.slice A1 t.f3.length C1) (.slice A2 t.f4.length C2)).heap[k]? = w2.heap[k]? := fun k hk _ => put6_far (by omega) _ _ _ _ _ _
        have e1 := Kd.R_step (Kd.R_mono (Kd.R_bound (Kd.R_below (Kd.R_alloc h88 _) hb3)) (ok' := fun k => w.heap.size + 1 ≤ k) (fun k hk => by have := hk.2.1; omega)) far
        have e2 := Kd.R_step (Kd.R_mono (Kd.R_bound (Kd.R_below (Kd.R_alloc h32 _) hb3)) (ok' := fun k => w.heap.size + 1 ≤ k) (fun k hk => by have := hk.2.1; omega)) far
        have e1 := Kd.R_mono (Kd.R_lower e1 (base' := w.heap.size) (by omega)) (ok' := fun _ => True) (fun _ _ => trivial)
        have e2 := Kd.R_mono (Kd.R_lower e2 (base' := w.heap.size) (by omega)) (ok' := fun _ => True) (fun _ _ => trivial)
        have HE := Lib.hid (And.intro e1 e2)
        clear e1 e2 far h88 h32 hk
        go_wp2
        refine bodyPost_ret (results_ct rfl _ _ w.heap.size 28 _ (0, 0) _ rfl (put6_blk G22 (.int .i64 t.f0.f0) (.int .i64 t.f0.f1) (.string t.f1) (.string t.f2) (.slice A1 t.f3.length C1) (.slice A2 t.f4.length C2)) Tryz.underlying28 rfl (by kernel_rfl)) rfl ?_
        exact ⟨below_put6 hb4 (Nat.le_refl _) (.int .i64 t.f0.f0) (.int .i64 t.f0.f1) (.string t.f1) (.string t.f2) (.slice A1 t.f3.length C1) (.slice A2 t.f4.length C2), _, by rw [HP.out]; rfl, by rw [HP.out]; exact R.k28_mkM _ _ _ t HE.out.1 HE.out.2⟩
      · have d1 : (checkV t == 0) = false := by simpa using hk
        have HP := Lib.hid (show parseV s = (zeroV, 2) by rw [parseV, if_neg hl, HR.out]; exact if_neg hk)
        clear h88 h32 hk
        go_wp2
        refine bodyPost_ret (results_ct rfl _ _ w.heap.size 28 _ (0, 0) _ rfl (put6_blk G22 (.int .i64 0) (.int .i64 0) (.string ⟨#[]⟩) (.string ⟨#[]⟩) (.slice none 0 0) (.slice none 0 0)) Tryz.underlying28 rfl (by kernel_rfl)) rfl ?_
        exact ⟨below_put6 hb4 (Nat.le_refl _) (.int .i64 0) (.int .i64 0) (.string ⟨#[]⟩) (.string ⟨#[]⟩) (.slice none 0 0) (.slice none 0 0), _, by rw [HP.out]; rfl, by rw [HP.out]; exact R.k28_mkM _ _ _ zeroV (Kd.R_nil _ _ _ _ _) (Kd.R_nil _ _ _ _ _)⟩

end Go.Proofs.YtfpldbobfjkkfaaGreatDoor

namespace Go.Proofs.YtfpldbobfjkkfaaGreatDoor
open Go.RowKit Go.Proofs Go.Proofs.YtfpldbobfjkkfaaGreatDoorW.PrintWords Go.Proofs.YtfpldbobfjkkfaaGreatDoorW.PrintLast
set_option linter.unusedSimpArgs false

/-- A tree's text, and an error. -/
def textV (keys : Bool) (t : VN) : List UInt8 × Int :=
  if checkV t = 0 then (if 262144 < (textT keys t).length then ([], 3) else (textT keys t, 0)) else ([], checkV t)

set_option maxHeartbeats 4000000 in
set_option maxRecDepth 1000000 in
theorem text_any (keys : Bool) (t : VN) (cs : Array Value) (w : World) (hG : Glob w) (hgt : gTop ≤ w.heap.size) (hK : R.k28.K w t cs.toList) (hF : ∀ p ∈ flatD 0 t, Fits p.2)
    (hsm : checkV t = 0 → (∀ p ∈ flatD 0 t, Small p.2) ∧ (textT keys t).length ≤ 100000000000000) :
    Calls Tryz.prog 14 #[.agg cs, .bool keys] w fun e w' => e = .returned (.tuple #[.string ⟨(textV keys t).1.toArray⟩, .int .i64 (textV keys t).2]) ∧ Below w.heap.size w w' := by
  have hC := fun w1 hb => check_any t cs w1 (R.k28.K_below hb hK) hF
  obtain ⟨A4, c4, A5, c5, hcs, _, _, _, _⟩ := R.k28_open hK
  obtain rfl : cs = #[.int .i64 t.f0.f0, .int .i64 t.f0.f1, .string t.f1, .string t.f2, .slice A4 t.f3.length c4, .slice A5 t.f4.length c5] := Array.toList_inj.1 hcs
  have G2 := blk_new w (.cells #[.int .i64 t.f0.f0, .int .i64 t.f0.f1, .string t.f1, .string t.f2, .slice A4 t.f3.length c4, .slice A5 t.f4.length c5] 28)
  have hb0 := below_alloc (Below.refl w.heap.size w) (.cells #[.int .i64 t.f0.f0, .int .i64 t.f0.f1, .string t.f1, .string t.f2, .slice A4 t.f3.length c4, .slice A5 t.f4.length c5] 28)
  go_enter Tryz.func14, Tryz.ntmps14
  go_wp2_with fail
  refine (hC _ hb0).mono ?_
  rintro e w1 ⟨rfl, hb⟩
  have G21 := blk_below G2 hb
  have hb1 := hb0.trans (hb.mono (by simp))
  by_cases hc : checkV t = 0
  · have d1 : (checkV t == 0) = true := by simpa using hc
    have hS := hsm hc
    have hfr := Bld.fresh w1
    have hb2 := below_alloc hb1 (.cells #[.pointer none, .slice none 0 0] 64)
    have hbs := hb1.size
    have hW := write_in w1.heap.size w1.heap.size keys w hbs hG hgt _ t (Nat.le_refl _) 0 hS.1 _ hK [] _ hb2 (by simp) (by simp) hfr (by simpa using hS.2)
    obtain ⟨⟨c0, c1, c2, c3, c4, c5⟩, _⟩ := cells6 (blk_alloc G21 (.cells #[.pointer none, .slice none 0 0] 64))
    go_wp2_with fail
    refine hW.mono ?_
    rintro e w2 ⟨rfl, hO⟩
    obtain ⟨hB, hbel, hoth⟩ := hO
    rw [List.nil_append] at hB
    have hbw2 : Below w.heap.size w w2 := hb2.trans (hbel.mono hbs)
    have hsz := hbel.size
    rw [World.size_alloc] at hsz
    clear hW c0 c1 c2 c3 c4 c5
    go_wp2_with fail
    refine (len_l w1.heap.size w1.heap.size _ w2 hB).mono ?_
    rintro e w3 ⟨rfl, rfl⟩
    by_cases hl : 262144 < (textT keys t).length
    · have d2 : ((262144 : Int) < (textT keys t).length) = True := eq_true (by omega)
      go_wp2
      go_ret2
      exact ⟨by rw [textV, if_pos hc, if_pos hl]; rfl, hbw2⟩
    · have d2 : ((262144 : Int) < (textT keys t).length) = False := eq_false (by omega)
      go_wp2_with fail
      refine (string_l w1.heap.size w1.heap.size _ _ hB (by omega)).mono ?_
      rintro e w4 ⟨rfl, hb4⟩
      go_wp2
      go_ret2
      exact ⟨by rw [textV, if_pos hc, if_neg hl]; rfl, hbw2.trans (hb4.mono hbs)⟩
  · have d1 : (checkV t == 0) = false := by simpa using hc
    go_wp2
    go_ret2
    exact ⟨by rw [textV, if_neg hc]; rfl, hb1⟩

set_option maxHeartbeats 1000000 in
set_option maxRecDepth 1000000 in
theorem print_any (t : VN) (cs : Array Value) (w : World) (hG : Glob w) (hgt : gTop ≤ w.heap.size) (hK : R.k28.K w t cs.toList) (hF : ∀ p ∈ flatD 0 t, Fits p.2)
    (hsm : checkV t = 0 → (∀ p ∈ flatD 0 t, Small p.2) ∧ (textT true t).length ≤ 100000000000000) :
    Calls Tryz.prog 8 #[.agg cs] w fun e w' => e = .returned (.tuple #[.string ⟨(textV true t).1.toArray⟩, .int .i64 (textV true t).2]) ∧ Below w.heap.size w w' := by
  have hb0 := below_alloc (Below.refl w.heap.size w) (.cells cs 28)
  have hT := text_any true t cs (w.alloc (.cells cs 28)) (hG.below hb0) (by rw [World.size_alloc]; omega) (R.k28.K_below hb0 hK) hF hsm
  obtain ⟨A4, c4, A5, c5, hcs, _, _, _, _⟩ := R.k28_open hK
  obtain rfl : cs = #[.int .i64 t.f0.f0, .int .i64 t.f0.f1, .string t.f1, .string t.f2, .slice A4 t.f3.length c4, .slice A5 t.f4.length c5] := Array.toList_inj.1 hcs
  go_enter Tryz.func8, Tryz.ntmps8
  go_wp2_with fail
  refine hT.mono ?_
  rintro e w1 ⟨rfl, hb⟩
  go_wp2
  go_ret2
  exact ⟨rfl, hb0.trans (hb.mono (by simp))⟩

end Go.Proofs.YtfpldbobfjkkfaaGreatDoor
