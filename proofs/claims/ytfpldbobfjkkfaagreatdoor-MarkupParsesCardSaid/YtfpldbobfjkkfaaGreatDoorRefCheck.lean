/- topiaryref15.node: why a node's own fields are not right. topiaryref15.Check: what the program's Check says. -/
import Derived.Test.YtfpldbobfjkkfaaGreatDoorWalk
import Derived.Test.YtfpldbobfjkkfaaGreatDoorVNode
import Derived.Test.YtfpldbobfjkkfaaGreatDoorPureX
import Derived.Test.YtfpldbobfjkkfaaGreatDoorFlat
namespace Go.Proofs.YtfpldbobfjkkfaaGreatDoor
open Go.RowKit Go.Proofs Go.Proofs.YtfpldbobfjkkfaaGreatDoorW.PrintWords Go.Proofs.YtfpldbobfjkkfaaGreatDoorW.PrintLast
set_option linter.unusedSimpArgs false

set_option maxHeartbeats 4000000 in
set_option maxRecDepth 1000000 in
theorem refNode_any (t : VN) (A4 A5 : Option Addr) (c4 c5 : Nat) (w : World) (g4 : R.k60.C w A4 t.f3.length t.f3) (hs : t.f1.size ≤ 1000000000000000000) (hsa : ∀ a ∈ t.f3, a.f0.size ≤ 1000000000000000000) :
    Calls Tryz.prog 27 #[.agg #[.int .i64 t.f0.f0, .int .i64 t.f0.f1, .string t.f1, .string t.f2, .slice A4 t.f3.length c4, .slice A5 t.f4.length c5]] w fun e w' => e = .returned (.int .i64 (nodeE t)) ∧ Below w.heap.size w w' := by
  have G1 := blk_new w (.cells #[.int .i64 t.f0.f0, .int .i64 t.f0.f1, .string t.f1, .string t.f2, .slice A4 t.f3.length c4, .slice A5 t.f4.length c5] 28)
  have hb0 := below_alloc (Below.refl w.heap.size w) (.cells #[.int .i64 t.f0.f0, .int .i64 t.f0.f1, .string t.f1, .string t.f2, .slice A4 t.f3.length c4, .slice A5 t.f4.length c5] 28)
  have hN := refName_any t.f1 hs
  have c1 : (w.alloc (.cells #[.int .i64 t.f0.f0, .int .i64 t.f0.f1, .string t.f1, .string t.f2, .slice A4 t.f3.length c4, .slice A5 t.f4.length c5] 28)).cell? ⟨w.heap.size, 2, none⟩ = some (.string t.f1) := blk_cell G1 2
  go_enter Tryz.func27, Tryz.ntmps27
  go_wp2_with fail
  refine (hN _).mono ?_
  rintro e w1 ⟨rfl, hb⟩
  have G1 := blk_below G1 hb
  have hb1 := hb0.trans (hb.mono (by simp))
  clear hb0 hb hN c1
  cases hnm : nameB t.f1.data.toList with
  | false =>
    go_wp2
    go_ret
    exact ⟨by rw [nodeE, if_pos hnm]; rfl, hb1⟩
  | true =>
  have c2 : w1.cell? ⟨w.heap.size, 3, none⟩ = some (.string t.f2) := blk_cell G1 3
  have c3 : w1.cell? ⟨w.heap.size, 4, none⟩ = some (.slice A4 t.f3.length c4) := blk_cell G1 4
  by_cases ht : 256 < t.f2.size
  · have d0 : decide ((256 : Int) < t.f2.size) = true := decide_eq_true (by omega)
    go_wp2
    go_ret
    exact ⟨by rw [nodeE, if_neg (by rw [hnm]; decide), if_pos (.inl ht)]; rfl, hb1⟩
  have d0 : decide ((256 : Int) < t.f2.size) = false := decide_eq_false (by omega)
  by_cases ha : 4096 < t.f3.length
  · have d1 : decide ((4096 : Int) < t.f3.length) = true := decide_eq_true (by omega)
    go_wp2
    go_ret
    exact ⟨by rw [nodeE, if_neg (by rw [hnm]; decide), if_pos (.inr ha)]; rfl, hb1⟩
  have d1 : decide ((4096 : Int) < t.f3.length) = false := decide_eq_false (by omega)
  have hE : nodeE t = attrsE none t.f3 := by rw [nodeE, if_neg (by rw [hnm]; decide), if_neg (by omega)]
  have HE := Lib.hid hE
  have g41 := Kd.C_below g4 hb1
  have hl4 : t.f3.length ≤ 4096 := by omega
  clear hE g4 ht ha hnm
  go_wp2
  go_loopw [3] (fun i wr => ∃ k : Nat, k ≤ t.f3.length ∧ i = .int .i64 k ∧ attrsE none t.f3 = attrsE (prevOf t.f3 k) (t.f3.drop k) ∧ Below w1.heap.size w1 wr) (fun i _ => t.f3.length - (intOf i).toNat)
  case atStart => exact ⟨0, Nat.zero_le _, rfl, by rw [List.drop_zero, prevOf, if_pos rfl], Below.refl _ _⟩
  case round =>
    obtain ⟨k, hk, rfl, hq, hbr⟩ := hrel
    have HQ := Lib.hid hq
    have c3r : wr.cell? ⟨w.heap.size, 4, none⟩ = some (.slice A4 t.f3.length c4) := blk_cell (blk_below G1 hbr) 4
    clear hq
    by_cases hlt : k < t.f3.length
    · have hD := Lib.hid (HE.out.trans (HQ.out.trans (congrArg _ (drop_rd hlt))))
      obtain ⟨ad, hA, q0, q1⟩ := R.at_T60 (Kd.C_below g41 hbr) (k : Int) (by omega) (by omega)
      subst hA
      obtain ⟨a, ha⟩ : ∃ a, a = R.rd_T60 t.f3 (k : Int) := ⟨_, rfl⟩
      rw [← ha] at q0 q1 hD
      rw [Int.toNat_natCast] at q0 q1
      have HA := Lib.hid ha
      clear ha
      have hi : (0 : Int) ≤ k ∧ (k : Int) < t.f3.length := by omega
      have hasz : a.f0.size ≤ 1000000000000000000 := hsa a (by rw [HA.out]; exact rd_memA hlt)
      have hN := refName_any a.f0 hasz
      go_wp2_with fail
      refine (hN _).mono ?_
      rintro e w2 ⟨rfl, hb⟩
      have hbb : Below w1.heap.size w1 w2 := hbr.trans (hb.mono hbr.size)
      have r0 := cell_keep hb q0
      have r1 := cell_keep hb q1
      have c3r2 : w2.cell? ⟨w.heap.size, 4, none⟩ = some (.slice (some ad) t.f3.length c4) := blk_cell (blk_below G1 hbb) 4
      clear hb hN q0 q1 c3r
      cases hnm : nameB a.f0.data.toList with
      | false =>
        go_wp2
        go_ret
        exact ⟨by rw [hD.out, attrsE_cons, if_pos hnm]; rfl, hb1.trans (hbb.mono hb1.size)⟩
      | true =>
      by_cases hv : 256 < a.f1.size
      · have d2 : ((256 : Int) < a.f1.size) = True := eq_true (by omega)
        go_wp2
        go_ret
        exact ⟨by rw [hD.out, attrsE_cons, if_neg (by rw [hnm]; decide), if_pos hv]; rfl, hb1.trans (hbb.mono hb1.size)⟩
      have d2 : ((256 : Int) < a.f1.size) = False := eq_false (by omega)
      by_cases hk0 : k = 0
      · subst hk0
        have d3 : decide ((0 : Int) < 0) = false := rfl
        have r1' : w2.cell? ⟨ad.block, ad.off + 1, none⟩ = some (.string a.f1) := by simpa [Addr.add] using r1
        have r0' : w2.cell? ad = some (.string a.f0) := by simpa [Addr.add] using r0
        go_wp2
        go_quiet (fail)
        go_wp2
        go_roundw
        case rel =>
          refine ⟨1, by omega, rfl, HE.out.symm.trans (hD.out.trans ?_), pw_below_drewN hbb nq⟩
          rw [attrsE_cons, if_neg (by rw [hnm]; decide), if_neg hv]
          simp [prevOf, HA.out]
        case measure => simp [intOf]; omega
      · have hkp : (0 : Int) < k := by omega
        have hkn : 0 < k := by omega
        have d3 : decide (0 < k) = true := decide_eq_true hkn
        clear hkp
        obtain ⟨ad', hA', p0, p1⟩ := R.at_T60 (Kd.C_below g41 hbb) ((k : Int) - 1) (by omega) (by omega)
        obtain rfl := Option.some.inj hA'
        have s1 : IntKind.i64.wrap ((k : Int) - 1) = (k : Int) - 1 := by rw [IntKind.wrap_i64]; omega
        have s2 : (0 : Int) ≤ (k : Int) - 1 ∧ (k : Int) - 1 < t.f3.length := by omega
        have hstep : attrsE (prevOf t.f3 k) (a :: t.f3.drop (k + 1)) = if Op.bytesLess (R.rd_T60 t.f3 ((k : Int) - 1)).f0.toList a.f0.toList = false then 2 else attrsE (prevOf t.f3 (k + 1)) (t.f3.drop (k + 1)) := by
          rw [attrsE_cons, if_neg (by rw [hnm]; decide), if_neg hv]
          simp only [prevOf, if_neg hk0, if_neg (Nat.succ_ne_zero k), HA.out]
          simp
        have HS := Lib.hid hstep
        clear hstep p1 hA'
        simp only [Int.pred_toNat, Int.toNat_natCast] at p0
        cases hbl : Op.bytesLess (R.rd_T60 t.f3 ((k : Int) - 1)).f0.toList a.f0.toList with
        | false =>
          go_wp2
          go_quiet (fail)
          clear s1 s2
          go_wp2
          go_ret
          exact ⟨by rw [hD.out, HS.out, if_pos hbl]; rfl, hb1.trans ((pw_below_drewN hbb nq).mono hb1.size)⟩
        | true =>
          go_wp2
          go_quiet (fail)
          clear s1 s2
          go_wp2
          go_roundw
          case rel => exact ⟨k + 1, by omega, by go_num, HE.out.symm.trans (hD.out.trans (HS.out.trans (if_neg (by rw [hbl]; decide)))), pw_below_drewN hbb nq⟩
          case measure => simp [intOf]; omega
    · obtain rfl : k = t.f3.length := by omega
      go_wp2
      go_ret
      exact ⟨by rw [HE.out, HQ.out, List.drop_length, attrsE_nil]; rfl, hb1.trans (hbr.mono hb1.size)⟩

end Go.Proofs.YtfpldbobfjkkfaaGreatDoor

namespace Go.Proofs.YtfpldbobfjkkfaaGreatDoor
open Go.RowKit Go.Proofs Go.Proofs.YtfpldbobfjkkfaaGreatDoorW.PrintWords Go.Proofs.YtfpldbobfjkkfaaGreatDoorW.PrintLast
set_option linter.unusedSimpArgs false

/-- What the reference's Check can go through. -/
structure FitR (n : VN) : Prop where
  tag : n.f1.size ≤ 1000000000000000000
  names : ∀ a ∈ n.f3, a.f0.size ≤ 1000000000000000000
  kids : n.f4.length ≤ 9000000000000000000

theorem pairAll_get {α β : Type} {P : α → β → Prop} : ∀ {l : List α} {r : List β}, PairAll P l r → ∀ (i : Nat) (h1 : i < l.length) (h2 : i < r.length), P l[i] r[i]
  | [], _, _, i, h1, _ => by simp at h1
  | _ :: _, [], h, _, _, _ => h.elim
  | _ :: _, _ :: _, h, 0, _, _ => h.1
  | _ :: _, _ :: _, h, i + 1, h1, h2 => pairAll_get h.2 i (by simpa using h1) (by simpa using h2)

/-- The first node has none above it, every other one has. -/
theorem flatD_first {t : VN} (hl : (flatD 0 t).length ≤ 1048576) (k : Nat) (hk : k < (flatD 0 t).length) : (k = 0 → (flatD 0 t)[k].1 = 0) ∧ (0 < k → 0 < (flatD 0 t)[k].1) := by
  have hw : wrap64 ((0 : Int) + 1) = 1 := wrap_in (by omega) (by omega)
  have he := flatD_eq 0 t
  rw [hw] at he
  constructor
  · rintro rfl
    simp [he]
  · intro h0
    obtain ⟨j, rfl⟩ : ∃ j, k = j + 1 := ⟨k - 1, by omega⟩
    have hm : (flatD 0 t)[j + 1] ∈ flatDs 1 t.f4 := by
      have hj : j < (flatDs 1 t.f4).length := by rw [he, List.length_cons] at hk; omega
      have : (flatD 0 t)[j + 1] = (flatDs 1 t.f4)[j] := by simp [he]
      rw [this]
      exact List.getElem_mem hj
    rw [he, List.length_cons] at hl
    rw [flatDs_eq] at hm hl
    obtain ⟨kd, hkd, hp⟩ := List.mem_flatMap.1 hm
    obtain ⟨a, b, hab⟩ := List.append_of_mem hkd
    rw [hab, List.flatMap_append, List.flatMap_cons] at hl
    simp only [List.length_append] at hl
    have := flatD_deep _ kd (Nat.le_refl _) 1 (by omega) (by omega) _ hp
    omega

theorem has_keys (l : List (Int × VN)) (c r : Int) : ((l.map fun p => p.2.f0).any fun x => x.f0 == c && x.f1 == r) = decide ((c, r) ∈ l.map keyP) := by
  rw [Bool.eq_iff_iff, decide_eq_true_eq, List.any_map, List.any_eq_true, List.mem_map]
  constructor
  · rintro ⟨x, hx, h⟩
    simp only [Function.comp, Bool.and_eq_true, beq_iff_eq] at h
    exact ⟨x, hx, by unfold keyP; rw [h.1, h.2]⟩
  · rintro ⟨x, hx, h⟩
    unfold keyP at h
    obtain ⟨h1, h2⟩ := Prod.mk.inj h
    exact ⟨x, hx, by simp only [Function.comp, Bool.and_eq_true, beq_iff_eq]; exact ⟨h1, h2⟩⟩

theorem checkV_step {t : VN} (hl : ¬ 8192 < (flatD 0 t).length) {k : Nat} (hk : k < (flatD 0 t).length) (h0 : checkL [] ((flatD 0 t).take k) = 0) {e : Int} (he : stepE (((flatD 0 t).take k).map keyP) (flatD 0 t)[k] = e) : (e ≠ 0 → checkV t = e) ∧ checkL [] ((flatD 0 t).take (k + 1)) = e := by
  have h1 : checkL [] ((flatD 0 t).take (k + 1)) = e := by rw [List.take_succ_eq_append_getElem hk, checkL_snoc h0]; exact he
  refine ⟨fun hne => ?_, h1⟩
  rw [checkV, if_neg hl, checkL_pre (List.take_prefix _ _) (by rw [h1]; exact hne), h1]

theorem info24 : (Tryz.prog.info? 24).map (fun i => (i.zero, i.size, i.bytes)) = some (some (.agg #[.int .i64 0, .int .i64 0]), 2, 16) := by kernel_rfl

/-- One row of a list of nodes' cells. -/
theorem rows_at {w : World} {A : Option Addr} {rows : List (List Value)} (h : (Kd.raw 6).C w A rows.length rows) {k : Nat} (hk : k < rows.length) {b0 b1 b2 b3 b4 b5 : Value} (hr : rows[k] = [b0, b1, b2, b3, b4, b5]) :
    ∃ ad, A = some ad ∧ w.cell? (ad.add (k * 6)) = some b0 ∧ w.cell? ⟨(ad.add (k * 6)).block, (ad.add (k * 6)).off + 1, none⟩ = some b1 ∧ w.cell? ⟨(ad.add (k * 6)).block, (ad.add (k * 6)).off + 2, none⟩ = some b2 ∧ w.cell? ⟨(ad.add (k * 6)).block, (ad.add (k * 6)).off + 3, none⟩ = some b3 ∧ w.cell? ⟨(ad.add (k * 6)).block, (ad.add (k * 6)).off + 4, none⟩ = some b4 ∧ w.cell? ⟨(ad.add (k * 6)).block, (ad.add (k * 6)).off + 5, none⟩ = some b5 := by
  obtain ⟨ad, c, e, _, hK, hc⟩ := Kd.C_get h [] (k : Int) (by omega) (by omega)
  obtain ⟨hcx, _, _⟩ := hK
  rw [Int.toNat_natCast, List.getD_eq_getElem?_getD, List.getElem?_eq_getElem hk, Option.getD_some, hr] at hcx
  subst hcx
  rw [Int.toNat_natCast] at hc
  exact ⟨ad, e, hc 0 _ rfl, by rw [← add_field _ _ 1 (by omega)]; exact hc 1 _ rfl, by rw [← add_field _ _ 2 (by omega)]; exact hc 2 _ rfl, by rw [← add_field _ _ 3 (by omega)]; exact hc 3 _ rfl, by rw [← add_field _ _ 4 (by omega)]; exact hc 4 _ rfl, by rw [← add_field _ _ 5 (by omega)]; exact hc 5 _ rfl⟩

set_option maxHeartbeats 8000000 in
set_option maxRecDepth 1000000 in
theorem refCheck_any (t : VN) (cs : Array Value) (w : World) (hK : R.k28.K w t cs.toList) (hF : ∀ p ∈ flatD 0 t, FitR p.2) (hlen : (flatD 0 t).length ≤ 1048576) :
    Calls Tryz.prog 12 #[.agg cs] w fun e w' => e = .returned (.int .i64 (checkV t)) ∧ Below w.heap.size w w' := by
  have hb0 := below_alloc (Below.refl w.heap.size w) (.cells cs 28)
  have hC := flat_any t cs (w.alloc (.cells cs 28)) (R.k28.K_below hb0 hK) (fun p hp => (hF p hp).kids) hlen
  obtain ⟨A4, c4, A5, c5, hcs, _, g4, _, g5⟩ := R.k28_open hK
  obtain rfl : cs = #[.int .i64 t.f0.f0, .int .i64 t.f0.f1, .string t.f1, .string t.f2, .slice A4 t.f3.length c4, .slice A5 t.f4.length c5] := Array.toList_inj.1 hcs
  have G2 := blk_new w (.cells #[.int .i64 t.f0.f0, .int .i64 t.f0.f1, .string t.f1, .string t.f2, .slice A4 t.f3.length c4, .slice A5 t.f4.length c5] 28)
  obtain ⟨⟨c0, c1, c2, c3, c4', c5'⟩, _⟩ := cells6 G2
  go_enter Tryz.func12, Tryz.ntmps12
  go_wp2_with fail
  refine hC.mono ?_
  rintro e w2 ⟨v, rows, rfl, hR, hP, hb⟩
  have hl := pairAll_len hP
  obtain ⟨sA, sC, rfl, hcap, hCr⟩ := Kd.R_reads hR
  have hb2 := hb0.trans (hb.mono hb0.size)
  have hPK : PairAll (fun (p : Int × VN) (c : List Value) => R.k28.K w2 p.2 c) (flatD 0 t) rows := pairAll_imp hP (fun p c h => R.k28.K_below hb h)
  clear hC c0 c1 c2 c3 c4' c5' hb hP hR
  by_cases h8 : 8192 < (flatD 0 t).length
  · have d0 : ((8192 : Int) < rows.length) = True := eq_true (by omega)
    go_wp2
    go_ret
    exact ⟨by rw [checkV, if_pos h8]; rfl, hb2⟩
  have d0 : ((8192 : Int) < rows.length) = False := eq_false (by omega)
  go_wp2_with ((with_reducible refine gate_dst (N := 11) rfl ?_); refine Aside0.out ?_)
  refine Aside0.mk ?_
  refine Kd.R_lit R.k24 (w0 := w2) w2.heap.size 24 (by rfl) (N := 11) (by rfl) (xs := []) (inner := []) (ok := fun _ => True) (okp := fun _ => True) (by first | (go_simp; done) | (go_simp; rfl)) (Reps.none _ _) (fun _ hk => hk) trivial (Below.refl _ _) (Nat.le_refl _) (by simp) ?_
  intro v1 w3 hR1 hb3 _ _
  clear d0
  have HP := Lib.hid hPK
  have HCr := Lib.hid hCr
  have HR1 := Lib.hid hR1
  clear hPK hCr hR1
  go_wp2
  go_loopw [4, 5] (fun u i wr => ∃ k : Nat, k ≤ rows.length ∧ i = .int .i64 k ∧ R.k24.R 24 wr w2.heap.size (fun _ => True) u (((flatD 0 t).take k).map fun p => p.2.f0) ∧ checkL [] ((flatD 0 t).take k) = 0 ∧ Below w2.heap.size w2 wr) (fun _ i _ => rows.length - (intOf i).toNat)
  case atStart => exact ⟨0, Nat.zero_le _, rfl, HR1.out, rfl, hb3⟩
  case round =>
    obtain ⟨k, hk, rfl, hRk, hck, hbr⟩ := hrel
    by_cases hlt : k < rows.length
    · have hlt' : k < (flatD 0 t).length := by omega
      have hx := pairAll_get HP.out k hlt' hlt
      have hdp := flatD_first hlen k hlt'
      have hfr := hF _ (List.getElem_mem hlt')
      obtain ⟨x, hxe⟩ : ∃ x, x = (flatD 0 t)[k] := ⟨_, rfl⟩
      have hst := fun e => checkV_step (e := e) h8 hlt' hck
      rw [← hxe] at hx hdp hfr
      simp only [← hxe] at hst
      obtain ⟨B4, e4, B5, e5, hrk, _, k4, _, k5⟩ := R.k28_open hx
      have HXE := Lib.hid hxe
      clear hxe hx
      obtain ⟨ks, hks⟩ : ∃ ks, ks = ((flatD 0 t).take k).map (fun p => p.2.f0) := ⟨_, rfl⟩
      have hany : (ks.any fun y => y.f0 == x.2.f0.f0 && y.f1 == x.2.f0.f1) = decide (keyP x ∈ ((flatD 0 t).take k).map keyP) := by rw [hks]; exact has_keys _ _ _
      have hkl : ks.length ≤ 1048576 := by rw [hks, List.length_map, List.length_take]; omega
      rw [← hks] at hRk
      have HKS := Lib.hid hks
      clear hks
      obtain ⟨uA, uC, rfl, hucap, huC⟩ := Kd.R_reads hRk
      obtain ⟨ad, hsA, p0, p1, p2, p3, p4, p5⟩ := rows_at (Kd.C_below HCr.out hbr) hlt hrk
      subst hsA
      by_cases hk0 : k = 0
      · have hx0 := Lib.hid (hdp.1 hk0)
        have f1 : ((k : Int) == 0) = true := by rw [beq_iff_eq]; omega
        have f2 : decide ((0 : Int) < k) = false := decide_eq_false (by omega)
        have f2' : decide (0 < k) = false := decide_eq_false (by omega)
        have hi : (0 : Int) ≤ k ∧ (k : Int) < rows.length := by omega
        have hq := refNodeB_any x.2.f0.f0 x.2.f0.f1 wr
        clear hk0 hdp
        go_wp2_with fail
        refine hq.mono ?_
        rintro e wq ⟨rfl, hb⟩
        have hbq := hbr.trans (hb.mono hbr.size)
        have hbqr := hb
        clear hq p0 p1 p2 p3 p4 p5
        cases hnb : nodeB x.2.f0.f0 x.2.f0.f1 with
        | false =>
          have HS := Lib.hid ((hst 2 (by rw [stepE, hx0.out, hnb]; rfl)).1 (by decide))
          clear hst hany
          go_wp2
          go_ret
          exact ⟨by rw [HS.out]; rfl, hb2.trans (hbq.mono hb2.size)⟩
        | true =>
          have hcond : ¬ ((decide (x.1 = 0) && !nodeB x.2.f0.f0 x.2.f0.f1) || (decide (0 < x.1) && !rightB x.2.f0.f0 x.2.f0.f1)) = true := by rw [hx0.out, hnb]; simp
          clear hb
          have hH := refHas_any uA uC ks x.2.f0.f0 x.2.f0.f1 wq (Kd.C_below huC hbqr) hucap (by omega)
          obtain ⟨hv, hhv⟩ : ∃ hv : Bool, hv = decide (keyP x ∈ ((flatD 0 t).take k).map keyP) := ⟨_, rfl⟩
          rw [hany, ← hhv] at hH
          have HV := Lib.hid hhv
          clear hhv
          obtain ⟨ad', hsA', p0, p1, p2, p3, p4, p5⟩ := rows_at (Kd.C_below HCr.out hbq) hlt hrk
          obtain rfl := Option.some.inj hsA'
          clear hsA'
          go_wp2_with fail
          refine hH.mono ?_
          rintro e w5 ⟨rfl, hb⟩
          have hbq5 := hbq.trans (hb.mono hbq.size)
          have hb25 := hbqr.trans (hb.mono hbqr.size)
          have p0 := cell_keep hb p0
          have p1 := cell_keep hb p1
          have hR5 := Kd.R_below hRk hb25
          clear hH p2 p3 p4 p5
          cases hv with
          | true =>
            have hmem := of_decide_eq_true HV.out.symm
            have HS := Lib.hid ((hst 5 (by rw [stepE, if_neg hcond, if_pos hmem])).1 (by decide))
            clear hst hany hmem hcond
            go_wp2
            go_ret
            exact ⟨by rw [HS.out]; rfl, hb2.trans (hbq5.mono hb2.size)⟩
          | false =>
            have hmem := of_decide_eq_false HV.out.symm
            have HS := Lib.hid (hst (nodeE x.2) (by rw [stepE, if_neg hcond, if_neg hmem]))
            clear hst hany hmem hcond hb
            go_wp2_with ((with_reducible refine gate_dst (N := 56) rfl ?_); refine Aside0.out ?_)
            refine Aside0.mk ?_
            refine Kd.R_append R.k24 (w0 := w2) (W := w5) w2.heap.size (by rfl) (.tmp 49) (.tmp 55) 57 24 (.agg #[.int .i64 0, .int .i64 0]) 16 rfl Tryz.underlying57 info24 rfl (by decide) (by decide) (.slice uA ks.length uC) ks x.2.f0 [.int .i64 x.2.f0.f0, .int .i64 x.2.f0.f1] (fun _ => True) (fun _ => False) (by rfl) (by rfl) (R.k24_mkM _ _ _ x.2.f0) (fun _ h => h.elim) (fun _ _ => trivial) hR5 hbq5 hbq5.size (by omega) ?_
            intro v6 w6 hR6 hb6 _ _
            obtain ⟨ad', hsA', p0, p1, p2, p3, p4, p5⟩ := rows_at (Kd.C_below HCr.out hb6) hlt hrk
            obtain rfl := Option.some.inj hsA'
            have hN := fun w7 (hb7 : Below w2.heap.size w2 w7) => refNode_any x.2 B4 B5 e4 e5 w7 (Kd.C_below k4 hb7) hfr.tag hfr.names
            have HR6 := Lib.hid hR6
            clear hsA' hR6 hR5
            go_wp2_with fail
            refine (hN w6 hb6).mono ?_
            rintro e w7 ⟨rfl, hb⟩
            have hb7 := hb6.trans (hb.mono hb6.size)
            have p0 := cell_keep hb p0
            have p1 := cell_keep hb p1
            have p2 := cell_keep hb p2
            have p3 := cell_keep hb p3
            have p4 := cell_keep hb p4
            have p5 := cell_keep hb p5
            by_cases hne : nodeE x.2 = 0
            · have d10 : (nodeE x.2 == 0) = true := by simpa using hne
              have d11 : (nodeE x.2 != 0) = false := by simpa using hne
              have HC := Lib.hid (HS.out.2.trans hne)
              have HR7 := Lib.hid (Kd.R_below HR6.out hb)
              clear hne hN p0 p1 p2 p3 p4 p5 HS
              go_wp2
              go_roundw
              case rel => exact ⟨k + 1, by omega, by go_num, by rw [List.take_succ_eq_append_getElem hlt', List.map_append, ← HKS.out, ← HXE.out]; exact HR7.out, HC.out, hb7⟩
              case measure => simp [intOf]; omega
            · have d10 : (nodeE x.2 == 0) = false := by simpa using hne
              have d11 : (nodeE x.2 != 0) = true := by simpa using hne
              have HC := Lib.hid (HS.out.1 hne)
              clear hne
              go_wp2_with fail
              refine (hN w7 hb7).mono ?_
              rintro e w8 ⟨rfl, hb⟩
              clear hN p0 p1 p2 p3 p4 p5 d10 d11
              go_wp2
              go_ret
              exact ⟨by rw [HC.out]; rfl, hb2.trans ((hb7.trans (hb.mono hb7.size)).mono hb2.size)⟩
      · have hx0 := Lib.hid (hdp.2 (by omega))
        have f1 : ((k : Int) == 0) = false := by rw [beq_eq_false_iff_ne]; omega
        have f2 : decide ((0 : Int) < k) = true := decide_eq_true (by omega)
        have f2' : decide (0 < k) = true := decide_eq_true (by omega)
        have hi : (0 : Int) ≤ k ∧ (k : Int) < rows.length := by omega
        have hq := refRight_any x.2.f0.f0 x.2.f0.f1 wr
        clear hk0 hdp
        go_wp2_with fail
        refine hq.mono ?_
        rintro e wq ⟨rfl, hb⟩
        have hbq := hbr.trans (hb.mono hbr.size)
        have hbqr := hb
        clear hq p0 p1 p2 p3 p4 p5
        have hxn : decide (x.1 = 0) = false := decide_eq_false (by have := hx0.out; omega)
        have hxp : decide (0 < x.1) = true := decide_eq_true hx0.out
        have HX := Lib.hid (And.intro hxn hxp)
        clear hxn hxp
        cases hnb : rightB x.2.f0.f0 x.2.f0.f1 with
        | false =>
          have HS := Lib.hid ((hst 2 (by rw [stepE, HX.out.1, HX.out.2, hnb]; rfl)).1 (by decide))
          clear hst hany
          go_wp2
          go_ret
          exact ⟨by rw [HS.out]; rfl, hb2.trans (hbq.mono hb2.size)⟩
        | true =>
          have hcond : ¬ ((decide (x.1 = 0) && !nodeB x.2.f0.f0 x.2.f0.f1) || (decide (0 < x.1) && !rightB x.2.f0.f0 x.2.f0.f1)) = true := by rw [HX.out.1, HX.out.2, hnb]; simp
          clear hb
          have hH := refHas_any uA uC ks x.2.f0.f0 x.2.f0.f1 wq (Kd.C_below huC hbqr) hucap (by omega)
          obtain ⟨hv, hhv⟩ : ∃ hv : Bool, hv = decide (keyP x ∈ ((flatD 0 t).take k).map keyP) := ⟨_, rfl⟩
          rw [hany, ← hhv] at hH
          have HV := Lib.hid hhv
          clear hhv
          obtain ⟨ad', hsA', p0, p1, p2, p3, p4, p5⟩ := rows_at (Kd.C_below HCr.out hbq) hlt hrk
          obtain rfl := Option.some.inj hsA'
          clear hsA'
          go_wp2_with fail
          refine hH.mono ?_
          rintro e w5 ⟨rfl, hb⟩
          have hbq5 := hbq.trans (hb.mono hbq.size)
          have hb25 := hbqr.trans (hb.mono hbqr.size)
          have p0 := cell_keep hb p0
          have p1 := cell_keep hb p1
          have hR5 := Kd.R_below hRk hb25
          clear hH p2 p3 p4 p5
          cases hv with
          | true =>
            have hmem := of_decide_eq_true HV.out.symm
            have HS := Lib.hid ((hst 5 (by rw [stepE, if_neg hcond, if_pos hmem])).1 (by decide))
            clear hst hany hmem hcond
            go_wp2
            go_ret
            exact ⟨by rw [HS.out]; rfl, hb2.trans (hbq5.mono hb2.size)⟩
          | false =>
            have hmem := of_decide_eq_false HV.out.symm
            have HS := Lib.hid (hst (nodeE x.2) (by rw [stepE, if_neg hcond, if_neg hmem]))
            clear hst hany hmem hcond hb
            go_wp2_with ((with_reducible refine gate_dst (N := 56) rfl ?_); refine Aside0.out ?_)
            refine Aside0.mk ?_
            refine Kd.R_append R.k24 (w0 := w2) (W := w5) w2.heap.size (by rfl) (.tmp 49) (.tmp 55) 57 24 (.agg #[.int .i64 0, .int .i64 0]) 16 rfl Tryz.underlying57 info24 rfl (by decide) (by decide) (.slice uA ks.length uC) ks x.2.f0 [.int .i64 x.2.f0.f0, .int .i64 x.2.f0.f1] (fun _ => True) (fun _ => False) (by rfl) (by rfl) (R.k24_mkM _ _ _ x.2.f0) (fun _ h => h.elim) (fun _ _ => trivial) hR5 hbq5 hbq5.size (by omega) ?_
            intro v6 w6 hR6 hb6 _ _
            obtain ⟨ad', hsA', p0, p1, p2, p3, p4, p5⟩ := rows_at (Kd.C_below HCr.out hb6) hlt hrk
            obtain rfl := Option.some.inj hsA'
            have hN := fun w7 (hb7 : Below w2.heap.size w2 w7) => refNode_any x.2 B4 B5 e4 e5 w7 (Kd.C_below k4 hb7) hfr.tag hfr.names
            have HR6 := Lib.hid hR6
            clear hsA' hR6 hR5
            go_wp2_with fail
            refine (hN w6 hb6).mono ?_
            rintro e w7 ⟨rfl, hb⟩
            have hb7 := hb6.trans (hb.mono hb6.size)
            have p0 := cell_keep hb p0
            have p1 := cell_keep hb p1
            have p2 := cell_keep hb p2
            have p3 := cell_keep hb p3
            have p4 := cell_keep hb p4
            have p5 := cell_keep hb p5
            by_cases hne : nodeE x.2 = 0
            · have d10 : (nodeE x.2 == 0) = true := by simpa using hne
              have d11 : (nodeE x.2 != 0) = false := by simpa using hne
              have HC := Lib.hid (HS.out.2.trans hne)
              have HR7 := Lib.hid (Kd.R_below HR6.out hb)
              clear hne hN p0 p1 p2 p3 p4 p5 HS
              go_wp2
              go_roundw
              case rel => exact ⟨k + 1, by omega, by go_num, by rw [List.take_succ_eq_append_getElem hlt', List.map_append, ← HKS.out, ← HXE.out]; exact HR7.out, HC.out, hb7⟩
              case measure => simp [intOf]; omega
            · have d10 : (nodeE x.2 == 0) = false := by simpa using hne
              have d11 : (nodeE x.2 != 0) = true := by simpa using hne
              have HC := Lib.hid (HS.out.1 hne)
              clear hne
              go_wp2_with fail
              refine (hN w7 hb7).mono ?_
              rintro e w8 ⟨rfl, hb⟩
              clear hN p0 p1 p2 p3 p4 p5 d10 d11
              go_wp2
              go_ret
              exact ⟨by rw [HC.out]; rfl, hb2.trans ((hb7.trans (hb.mono hb7.size)).mono hb2.size)⟩
    · obtain rfl : k = rows.length := by omega
      rw [List.take_of_length_le (by omega)] at hck
      have HF := Lib.hid (And.intro hck hbr)
      clear hck hbr hRk
      go_wp2
      go_ret
      exact ⟨by rw [checkV, if_neg h8, HF.out.1]; rfl, hb2.trans (HF.out.2.mono hb2.size)⟩

end Go.Proofs.YtfpldbobfjkkfaaGreatDoor
