/- The walks of ident.Text and ident.Parse. -/
import Derived.Test.YtfpldbobfjkkfaaGreatDoorPureR
import Derived.Deep.QuietTactic
import Derived.BigQuiet
import Derived.RegionTactic
import Derived.Deep.RegionHeld3
namespace Go.Proofs.YtfpldbobfjkkfaaGreatDoor
open Go.RowKit Go.Proofs Go.Proofs.YtfpldbobfjkkfaaGreatDoorW.PrintWords Go.Proofs.YtfpldbobfjkkfaaGreatDoorW.PrintLast
set_option linter.unusedSimpArgs false

theorem decDigits_len13 (n : Nat) (h : n < 10000000000000) : (Lib.decDigits n).length ≤ 13 := by
  have key : ∀ (d n : Nat), n < 10 ^ (d + 1) → (Lib.decDigits n).length ≤ d + 1 := by
    intro d
    induction d with
    | zero => intro n hn; rw [Lib.decDigits, dif_pos (by omega)]; simp
    | succ d ih =>
      intro n hn
      rw [Lib.decDigits]
      split
      · simp
      · have := ih (n / 10) (by rw [Nat.pow_succ] at hn; omega)
        simp; omega
  exact key 12 n (by omega)

theorem held2 {w w1 w2 : World} {g : Nat} {x y : Value} (h : (w1.cell? ⟨g, 0, none⟩ = some x ∧ w1.cell? ⟨g, 1, none⟩ = some y) ∧ Below w.heap.size w w1 ∧ Glob w1) (hb : Below w1.heap.size w1 w2) :
    (w2.cell? ⟨g, 0, none⟩ = some x ∧ w2.cell? ⟨g, 1, none⟩ = some y) ∧ Below w.heap.size w w2 ∧ Glob w2 :=
  ⟨⟨pw_cell_below hb h.1.1, pw_cell_below hb h.1.2⟩, h.2.1.trans (hb.mono h.2.1.size), h.2.2.below hb⟩

theorem held_below {w w1 : World} {g : Nat} {x y : Value} (h : (w1.cell? ⟨g, 0, none⟩ = some x ∧ w1.cell? ⟨g, 1, none⟩ = some y) ∧ Below w.heap.size w w1 ∧ Glob w1) : Below w.heap.size w w1 := h.2.1

set_option maxHeartbeats 2000000 in
set_option maxRecDepth 100000 in
theorem keyText_right (c r : Nat) (h1 : 1 ≤ c) (h2 : c ≤ 1099511627776) (h3 : r < 64) (w : World) (hG : Glob w) :
    Calls Tryz.prog 48 #[.agg #[.int .i64 c, .int .i64 r]] w fun e w' => e = .returned (.tuple #[.string (⟨(Lib.decDigits c).toArray⟩ ++ ⟨#[46]⟩ ++ ⟨(Lib.decDigits r).toArray⟩), .int .i64 0]) ∧ Below w.heap.size w w' := by
  have hb0 : Below w.heap.size w (w.alloc (.cells #[.int .i64 c, .int .i64 r] 24)) := (Below.refl _ w).alloc (Nat.le_refl _) _
  have hR := right_any c r (w.alloc (.cells #[.int .i64 c, .int .i64 r] 24))
  have hr : rightB c r = true := by unfold rightB; simp; omega
  rw [hr] at hR
  have d1 := decDigits_len13 c (by omega)
  have d2 := decDigits_len13 r (by omega)
  have z1 : (9223372036854775807 < (Lib.decDigits c).length + 1) = False := eq_false (by omega)
  have z2 : (9223372036854775807 < (Lib.decDigits c).length + 1 + (Lib.decDigits r).length) = False := eq_false (by omega)
  clear hr d1 d2
  go_enter Tryz.func48, Tryz.ntmps48
  go_wp2_with fail
  refine hR.mono ?_
  rintro e w1 ⟨rfl, hb1⟩
  have c0 : w1.cell? ⟨w.heap.size, 0, none⟩ = some (.int .i64 c) := (hb1.cell (p := ⟨w.heap.size, 0, none⟩) (by simp)).trans (by simp)
  have c1 : w1.cell? ⟨w.heap.size, 1, none⟩ = some (.int .i64 r) := (hb1.cell (p := ⟨w.heap.size, 1, none⟩) (by simp)).trans (by simp)
  have hbb : Below w.heap.size w w1 := hb0.trans (hb1.mono hb0.size)
  clear hR hb0 hb1
  go_wp2_with fail
  go_region_held3 (fun w' => (w'.cell? ⟨w.heap.size, 0, none⟩ = some (.int .i64 c) ∧ w'.cell? ⟨w.heap.size, 1, none⟩ = some (.int .i64 r)) ∧ Below w.heap.size w w' ∧ Glob w') (first | exact ⟨⟨c0, c1⟩, pw_below_drewN hbb 1, hG.below (pw_below_drewN hbb 1)⟩ | exact held2 (by assumption) (by assumption))
    (first | (go_at_call 58; refine (itoa_nat _ (by omega) _ (And.right (And.right (by assumption)))).mono ?_; rintro e w' ⟨rfl, hb⟩))
  have hfin : Below w.heap.size w w' := held_below (by assumption)
  go_wp2
  go_ret2
  exact ⟨rfl, hfin⟩

attribute [local go_sem high] R.eqA24

set_option maxHeartbeats 2000000 in
set_option maxRecDepth 100000 in
theorem keyText_other (c r : Int) (hr : rightB c r = false) (w : World) :
    Calls Tryz.prog 48 #[.agg #[.int .i64 c, .int .i64 r]] w fun e w' => e = .returned (.tuple #[.string ⟨(keyText c r).1.toArray⟩, .int .i64 (keyText c r).2]) ∧ Below w.heap.size w w' := by
  have hb0 : Below w.heap.size w (w.alloc (.cells #[.int .i64 c, .int .i64 r] 24)) := (Below.refl _ w).alloc (Nat.le_refl _) _
  have hR := right_any c r (w.alloc (.cells #[.int .i64 c, .int .i64 r] 24))
  have hk : keyText c r = if c = 0 ∧ r = 0 then ([114, 111, 111, 116], 0) else if c = 0 ∧ r = 1 then ([116, 114, 97, 115, 104], 0) else ([], 2) := by unfold keyText; rw [hr]; simp
  rw [hr] at hR
  have hways : ((c == 0 && (r == 0)) = true ∧ keyText c r = ([114, 111, 111, 116], 0)) ∨ ((c == 0 && (r == 0)) = false ∧ (c == 0 && (r == 1)) = true ∧ keyText c r = ([116, 114, 97, 115, 104], 0)) ∨ ((c == 0 && (r == 0)) = false ∧ (c == 0 && (r == 1)) = false ∧ keyText c r = ([], 2)) := by
    by_cases h0 : c = 0
    · subst h0
      by_cases h1 : r = 0
      · subst h1; left; simp [hk]
      · by_cases h2 : r = 1
        · subst h2; right; left; simp [hk]
        · right; right; simp [hk, h1, h2]
    · right; right; simp [hk, h0]
  clear hk hr
  rcases hways with ⟨k1, hk⟩ | ⟨k1, k2, hk⟩ | ⟨k1, k2, hk⟩
  all_goals
    rw [hk]
    clear hk
    go_enter Tryz.func48, Tryz.ntmps48
    go_wp2_with fail
    refine hR.mono ?_
    rintro e w1 ⟨rfl, hb1⟩
    have c0 : w1.cell? ⟨w.heap.size, 0, none⟩ = some (.int .i64 c) := (hb1.cell (p := ⟨w.heap.size, 0, none⟩) (by simp)).trans (by simp)
    have c1 : w1.cell? ⟨w.heap.size, 1, none⟩ = some (.int .i64 r) := (hb1.cell (p := ⟨w.heap.size, 1, none⟩) (by simp)).trans (by simp)
    have hbb : Below w.heap.size w w1 := hb0.trans (hb1.mono hb0.size)
    clear hR hb0 hb1
    go_wp2
    go_ret2
    exact ⟨rfl, hbb⟩

theorem keyText_any (c r : Int) (w : World) (hG : Glob w) :
    Calls Tryz.prog 48 #[.agg #[.int .i64 c, .int .i64 r]] w fun e w' => e = .returned (.tuple #[.string ⟨(keyText c r).1.toArray⟩, .int .i64 (keyText c r).2]) ∧ Below w.heap.size w w' := by
  cases hr : rightB c r with
  | false => exact keyText_other c r hr w
  | true =>
    have hb : 1 ≤ c ∧ c ≤ 1099511627776 ∧ 0 ≤ r ∧ r < 64 := by simp [rightB] at hr; omega
    obtain ⟨h1, h2, h3, h4⟩ := hb
    obtain ⟨n, rfl⟩ : ∃ n : Nat, c = n := ⟨c.toNat, by omega⟩
    obtain ⟨m, rfl⟩ : ∃ m : Nat, r = m := ⟨r.toNat, by omega⟩
    refine (keyText_right n m (by omega) (by omega) (by omega) w hG).mono ?_
    rintro e w' ⟨rfl, hb⟩
    refine ⟨?_, hb⟩
    have e1 : (⟨(Lib.decDigits n).toArray⟩ ++ ⟨#[46]⟩ ++ ⟨(Lib.decDigits m).toArray⟩ : ByteArray) = ⟨(keyText n m).1.toArray⟩ := by
      unfold keyText
      rw [hr]
      apply ByteArray.ext
      simp [ByteArray.data_append]
    have e2 : (keyText n m).2 = 0 := by unfold keyText; rw [hr]; rfl
    rw [e1, e2]

theorem keyOf_root {l : List UInt8} (h : (l == [114, 111, 111, 116]) = true) : keyOf l = (0, 0, 0) := by unfold keyOf; rw [if_pos (by simpa using h)]
theorem keyOf_trash {l : List UInt8} (h : (l == [114, 111, 111, 116]) = false) (h' : (l == [116, 114, 97, 115, 104]) = true) : keyOf l = (0, 1, 0) := by
  unfold keyOf; rw [if_neg (by simpa using h), if_pos (by simpa using h')]
theorem keyOf_else {l : List UInt8} (h : (l == [114, 111, 111, 116]) = false) (h' : (l == [116, 114, 97, 115, 104]) = false) :
    keyOf l = if (Lib.cut l [46]).2.2 && (wholeV 14 (Lib.cut l [46]).1).2 && (wholeV 14 (Lib.cut l [46]).2.1).2 && rightB (wholeV 14 (Lib.cut l [46]).1).1 (wholeV 14 (Lib.cut l [46]).2.1).1
    then ((wholeV 14 (Lib.cut l [46]).1).1, (wholeV 14 (Lib.cut l [46]).2.1).1, 0) else (0, 0, 2) := by
  conv => lhs; unfold keyOf
  rw [if_neg (by simpa using h), if_neg (by simpa using h')]

theorem cut_len2 (s sep : List UInt8) : (Lib.cut s sep).2.1.length ≤ s.length := by
  unfold Lib.cut
  split
  · simp only [List.length_drop]; omega
  · simp

set_option maxHeartbeats 2000000 in
set_option maxRecDepth 100000 in
theorem keyParse_any (s : ByteArray) (hs : s.size ≤ 1000000000) (w : World) (hG : Glob w) :
    Calls Tryz.prog 35 #[.string s] w fun e w' => e = .returned (.tuple #[.agg #[.int .i64 (keyOf s.data.toList).1, .int .i64 (keyOf s.data.toList).2.1], .int .i64 (keyOf s.data.toList).2.2]) ∧ Below w.heap.size w w' := by
  cases h1 : s.toList == [114, 111, 111, 116] with
  | true =>
    have hk := keyOf_root (l := s.data.toList) (by rw [← Lib.toList_data]; exact h1)
    rw [hk]; clear hk
    go_enter Tryz.func35, Tryz.ntmps35
    go_wp2
    refine bodyPost_ret (results_ct rfl _ _ w.heap.size 24 #[.int .i64 0, .int .i64 0] (0, 0) _ rfl (blk_new _ _) Tryz.underlying24 rfl (by kernel_rfl)) rfl ⟨rfl, (Below.refl _ w).alloc (Nat.le_refl _) _⟩
  | false =>
  cases h2 : s.toList == [116, 114, 97, 115, 104] with
  | true =>
    have hk := keyOf_trash (l := s.data.toList) (by rw [← Lib.toList_data]; exact h1) (by rw [← Lib.toList_data]; exact h2)
    rw [hk]; clear hk
    go_enter Tryz.func35, Tryz.ntmps35
    go_wp2
    refine bodyPost_ret (results_ct rfl _ _ w.heap.size 24 #[.int .i64 0, .int .i64 1] (0, 0) _ rfl (blk_new _ _) Tryz.underlying24 rfl (by kernel_rfl)) rfl ⟨rfl, (Below.refl _ w).alloc (Nat.le_refl _) _⟩
  | false =>
    have hk := keyOf_else (l := s.data.toList) (by rw [← Lib.toList_data]; exact h1) (by rw [← Lib.toList_data]; exact h2)
    have b0 : Below w.heap.size w (w.alloc (.cells #[.int .i64 0, .int .i64 0] 24)) := (Below.refl _ w).alloc (Nat.le_refl _) _
    have hC := cut_any s ⟨#[46]⟩ (by omega) _ (hG.below b0)
    have hcl := cut_len' s.data.toList [46]
    have hcl2 := cut_len2 s.data.toList [46]
    rw [len_list] at hcl hcl2
    rw [show (⟨#[46]⟩ : ByteArray).data.toList = [46] from rfl] at hC
    generalize Lib.cut s.data.toList [46] = cw at hk hC hcl hcl2
    obtain ⟨⟨n1, k1⟩, hw1⟩ : ∃ p, wholeV 14 cw.1 = p := ⟨_, rfl⟩
    obtain ⟨⟨n2, k2⟩, hw2⟩ : ∃ p, wholeV 14 cw.2.1 = p := ⟨_, rfl⟩
    rw [hw1, hw2] at hk
    obtain ⟨⟨r1, r2, r3⟩, hr⟩ : ∃ p, (if cw.2.2 && k1 && k2 && rightB n1 n2 then ((n1, n2, 0) : Int × Int × Int) else (0, 0, 2)) = p := ⟨_, rfl⟩
    have hk2 : keyOf s.data.toList = (r1, r2, r3) := hk.trans hr
    rw [hk2]
    dsimp only
    obtain ⟨a, b, f⟩ := cw
    dsimp only at hC hcl hcl2 hw1 hw2 hr ⊢
    have hways : (f = false ∧ r1 = 0 ∧ r2 = 0 ∧ r3 = 2) ∨ (f = true ∧ k1 = false ∧ r1 = 0 ∧ r2 = 0 ∧ r3 = 2) ∨ (f = true ∧ k1 = true ∧ k2 = false ∧ r1 = 0 ∧ r2 = 0 ∧ r3 = 2) ∨ (f = true ∧ k1 = true ∧ k2 = true ∧ rightB n1 n2 = false ∧ r1 = 0 ∧ r2 = 0 ∧ r3 = 2) ∨ (f = true ∧ k1 = true ∧ k2 = true ∧ rightB n1 n2 = true ∧ r1 = n1 ∧ r2 = n2 ∧ r3 = 0) := by
      cases f <;> cases k1 <;> cases k2 <;> cases hrb : rightB n1 n2 <;> simp [hrb] at hr <;> obtain ⟨rfl, rfl, rfl⟩ := hr <;> simp
    clear hk hk2 hr
    have hRt := fun wx => right_any n1 n2 wx
    rcases hways with ⟨rfl, rfl, rfl, rfl⟩ | ⟨rfl, rfl, rfl, rfl, rfl⟩ | ⟨rfl, rfl, rfl, rfl, rfl, rfl⟩ | ⟨rfl, rfl, rfl, hrb, rfl, rfl, rfl⟩ | ⟨rfl, rfl, rfl, hrb, rfl, rfl, rfl⟩
    all_goals
      try rw [hrb] at hRt
      try clear hrb
      go_enter Tryz.func35, Tryz.ntmps35
      go_wp2_with fail
      refine hC.mono ?_
      rintro e w1 ⟨rfl, hb1⟩
      have b1 : Below w.heap.size w w1 := b0.trans (hb1.mono b0.size)
      have g1 : w1.heap[w.heap.size]? = some (.cells #[.int .i64 0, .int .i64 0] 24 (0, 0)) := blk_below (blk_new _ _) hb1
      clear hC hb1 b0
      have hA := whole_any ⟨a.toArray⟩ (by rw [mk_size]; omega) w1
      rw [mk_list, hw1] at hA
      go_wp2_with fail
      refine hA.mono ?_
      rintro e w2 ⟨rfl, hb2⟩
      have b2 : Below w.heap.size w w2 := b1.trans (hb2.mono b1.size)
      have g2 := blk_below g1 hb2
      clear hA hb2 b1 g1
      have hB := whole_any ⟨b.toArray⟩ (by rw [mk_size]; omega) w2
      rw [mk_list, hw2] at hB
      go_wp2_with fail
      refine hB.mono ?_
      rintro e w3 ⟨rfl, hb3⟩
      have b3 : Below w.heap.size w w3 := b2.trans (hb3.mono b2.size)
      have g3 := blk_below g2 hb3
      clear hB hb3 b2 g2 hw1 hw2 hcl hcl2 hG
      have hlt : w.heap.size < w3.heap.size := blk_lt g3
      have c0 : w3.cell? ⟨w.heap.size, 0, none⟩ = some (.int .i64 0) := blk_cell g3 0
      have c1 : w3.cell? ⟨w.heap.size, 1, none⟩ = some (.int .i64 0) := blk_cell g3 1
      have f0 : w3.frozen? ⟨w.heap.size, 0, none⟩ = false := blk_frozen g3 0
      have f1 : w3.frozen? ⟨w.heap.size, 1, none⟩ = false := blk_frozen g3 1
    · go_wp2_with fail
      refine bodyPost_ret (results_ct rfl _ _ w.heap.size 24 #[.int .i64 0, .int .i64 0] (0, 0) _ rfl (blk_alloc (blk_set (blk_set g3 0 (.int .i64 0)) 1 (.int .i64 0)) _) Tryz.underlying24 rfl (by kernel_rfl)) rfl ⟨rfl, ?_⟩
      exact ((b3.setCell (p := ⟨w.heap.size, 0, none⟩) (Nat.le_refl _) _).setCell (p := ⟨w.heap.size, 1, none⟩) (Nat.le_refl _) _).alloc (by simp [World.setCell]; omega) _
    · go_wp2_with fail
      refine bodyPost_ret (results_ct rfl _ _ w.heap.size 24 #[.int .i64 0, .int .i64 0] (0, 0) _ rfl (blk_alloc (blk_set (blk_set g3 0 (.int .i64 0)) 1 (.int .i64 0)) _) Tryz.underlying24 rfl (by kernel_rfl)) rfl ⟨rfl, ?_⟩
      exact ((b3.setCell (p := ⟨w.heap.size, 0, none⟩) (Nat.le_refl _) _).setCell (p := ⟨w.heap.size, 1, none⟩) (Nat.le_refl _) _).alloc (by simp [World.setCell]; omega) _
    · go_wp2_with fail
      refine bodyPost_ret (results_ct rfl _ _ w.heap.size 24 #[.int .i64 0, .int .i64 0] (0, 0) _ rfl (blk_alloc (blk_set (blk_set g3 0 (.int .i64 0)) 1 (.int .i64 0)) _) Tryz.underlying24 rfl (by kernel_rfl)) rfl ⟨rfl, ?_⟩
      exact ((b3.setCell (p := ⟨w.heap.size, 0, none⟩) (Nat.le_refl _) _).setCell (p := ⟨w.heap.size, 1, none⟩) (Nat.le_refl _) _).alloc (by simp [World.setCell]; omega) _
    · go_wp2_with fail
      refine (hRt _).mono ?_
      rintro e w4 ⟨rfl, hb4⟩
      have b4 : Below w.heap.size w w4 := (b3.alloc (Nat.le_of_lt hlt) _).trans (hb4.mono (by simp; omega))
      have g4 := blk_below (blk_alloc g3 _) hb4
      have h4 := blk_below (blk_new w3 _) hb4
      clear hb4 hRt c0 c1 f0 f1
      have hlt4 : w.heap.size < w4.heap.size := blk_lt g4
      have c0 : w4.cell? ⟨w.heap.size, 0, none⟩ = some (.int .i64 0) := blk_cell g4 0
      have c1 : w4.cell? ⟨w.heap.size, 1, none⟩ = some (.int .i64 0) := blk_cell g4 1
      have f0 : w4.frozen? ⟨w.heap.size, 0, none⟩ = false := blk_frozen g4 0
      have f1 : w4.frozen? ⟨w.heap.size, 1, none⟩ = false := blk_frozen g4 1
      clear h4
      go_wp2_with fail
      refine bodyPost_ret (results_ct rfl _ _ w.heap.size 24 #[.int .i64 0, .int .i64 0] (0, 0) _ rfl (blk_set (blk_set g4 0 (.int .i64 0)) 1 (.int .i64 0)) Tryz.underlying24 rfl (by kernel_rfl)) rfl ⟨rfl, ?_⟩
      exact (b4.setCell (p := ⟨w.heap.size, 0, none⟩) (Nat.le_refl _) _).setCell (p := ⟨w.heap.size, 1, none⟩) (Nat.le_refl _) _
    · go_wp2_with fail
      refine (hRt _).mono ?_
      rintro e w4 ⟨rfl, hb4⟩
      have b4 : Below w.heap.size w w4 := (b3.alloc (Nat.le_of_lt hlt) _).trans (hb4.mono (by simp; omega))
      have g4 := blk_below (blk_alloc g3 _) hb4
      have h4 := blk_below (blk_new w3 _) hb4
      clear hb4 hRt c0 c1 f0 f1
      have hlt4 : w.heap.size < w4.heap.size := blk_lt g4
      have c0 : w4.cell? ⟨w.heap.size, 0, none⟩ = some (.int .i64 0) := blk_cell g4 0
      have c1 : w4.cell? ⟨w.heap.size, 1, none⟩ = some (.int .i64 0) := blk_cell g4 1
      have f0 : w4.frozen? ⟨w.heap.size, 0, none⟩ = false := blk_frozen g4 0
      have f1 : w4.frozen? ⟨w.heap.size, 1, none⟩ = false := blk_frozen g4 1
      have d0 : w4.cell? ⟨w3.heap.size, 0, none⟩ = some (.int .i64 r1) := blk_cell h4 0
      have d1 : w4.cell? ⟨w3.heap.size, 1, none⟩ = some (.int .i64 r2) := blk_cell h4 1
      go_wp2_with fail
      refine bodyPost_ret (results_ct rfl _ _ w.heap.size 24 #[.int .i64 r1, .int .i64 r2] (0, 0) _ rfl (blk_set (blk_set g4 0 (.int .i64 r1)) 1 (.int .i64 r2)) Tryz.underlying24 rfl (by kernel_rfl)) rfl ⟨rfl, ?_⟩
      exact (b4.setCell (p := ⟨w.heap.size, 0, none⟩) (Nat.le_refl _) _).setCell (p := ⟨w.heap.size, 1, none⟩) (Nat.le_refl _) _

end Go.Proofs.YtfpldbobfjkkfaaGreatDoor
