/- vtree.node: why a node's own fields are not right. -/
import Derived.Test.YtfpldbobfjkkfaaGreatDoorRead
namespace Go.Proofs.YtfpldbobfjkkfaaGreatDoor
open Go.RowKit Go.Proofs Go.Proofs.YtfpldbobfjkkfaaGreatDoorW.PrintWords Go.Proofs.YtfpldbobfjkkfaaGreatDoorW.PrintLast
set_option linter.unusedSimpArgs false

/-- Why a list of attributes is not right; what stands ahead of it. -/
def attrsE : Option ByteArray → List At → Int
  | _, [] => 0
  | p, a :: r =>
    if nameB a.f0.data.toList = false then 8
    else if 256 < a.f1.size then 3
    else if (match p with | none => true | some q => Op.bytesLess q.toList a.f0.toList) = false then 2
    else attrsE (some a.f0) r
/-- Why a node's own fields are not right. -/
def nodeE (t : VN) : Int :=
  if nameB t.f1.data.toList = false then 8
  else if 256 < t.f2.size ∨ 4096 < t.f3.length then 3
  else attrsE none t.f3

theorem attrsE_cons (p : Option ByteArray) (a : At) (r : List At) : attrsE p (a :: r) = if nameB a.f0.data.toList = false then 8
    else if 256 < a.f1.size then 3
    else if (match p with | none => true | some q => Op.bytesLess q.toList a.f0.toList) = false then 2
    else attrsE (some a.f0) r := by cases p <;> rfl
theorem attrsE_nil (p : Option ByteArray) : attrsE p [] = 0 := by cases p <;> rfl

def prevOf (as_ : List At) (k : Nat) : Option ByteArray := if k = 0 then none else some (R.rd_T60 as_ ((k : Int) - 1)).f0
theorem drop_rd {as_ : List At} {k : Nat} (h : k < as_.length) : as_.drop k = R.rd_T60 as_ (k : Int) :: as_.drop (k + 1) := by
  rw [List.drop_eq_getElem_cons h]
  unfold R.rd_T60
  simp [List.getD_eq_getElem?_getD, List.getElem?_eq_getElem h]

theorem rd_memA {as_ : List At} {k : Nat} (h : k < as_.length) : R.rd_T60 as_ (k : Int) ∈ as_ := by
  unfold R.rd_T60
  rw [Int.toNat_natCast, List.getD_eq_getElem?_getD, List.getElem?_eq_getElem h, Option.getD_some]
  exact List.getElem_mem h

set_option maxHeartbeats 4000000 in
set_option maxRecDepth 1000000 in
theorem vnode_any (t : VN) (A4 A5 : Option Addr) (c4 c5 : Nat) (w : World) (g4 : R.k60.C w A4 t.f3.length t.f3) (hs : t.f1.size ≤ 9000000000000000000) (hsa : ∀ a ∈ t.f3, a.f0.size ≤ 9000000000000000000) :
    Calls Tryz.prog 20 #[.agg #[.int .i64 t.f0.f0, .int .i64 t.f0.f1, .string t.f1, .string t.f2, .slice A4 t.f3.length c4, .slice A5 t.f4.length c5]] w fun e w' => e = .returned (.int .i64 (nodeE t)) ∧ Below w.heap.size w w' := by
  have G1 := blk_new w (.cells #[.int .i64 t.f0.f0, .int .i64 t.f0.f1, .string t.f1, .string t.f2, .slice A4 t.f3.length c4, .slice A5 t.f4.length c5] 28)
  have hb0 := below_alloc (Below.refl w.heap.size w) (.cells #[.int .i64 t.f0.f0, .int .i64 t.f0.f1, .string t.f1, .string t.f2, .slice A4 t.f3.length c4, .slice A5 t.f4.length c5] 28)
  have hN := isName_any t.f1 hs
  go_enter Tryz.func20, Tryz.ntmps20
  go_wp2_with fail
  refine (hN _).mono ?_
  rintro e w1 ⟨rfl, hb⟩
  have G1 := blk_below G1 hb
  have hb1 := hb0.trans (hb.mono (by simp))
  clear hb0 hb hN
  cases hnm : nameB t.f1.data.toList with
  | false =>
    go_wp2
    go_ret
    exact ⟨by rw [nodeE, if_pos hnm]; rfl, hb1⟩
  | true =>
  have c2 : w1.cell? ⟨w.heap.size, 3, none⟩ = some (.string t.f2) := blk_cell G1 3
  have c3 : w1.cell? ⟨w.heap.size, 4, none⟩ = some (.slice A4 t.f3.length c4) := blk_cell G1 4
  by_cases ht : 256 < t.f2.size
  · have d0 : ((256 : Int) < t.f2.size) = True := eq_true (by omega)
    go_wp2
    go_ret
    exact ⟨by rw [nodeE, if_neg (by rw [hnm]; decide), if_pos (.inl ht)]; rfl, hb1⟩
  have d0 : ((256 : Int) < t.f2.size) = False := eq_false (by omega)
  by_cases ha : 4096 < t.f3.length
  · have d1 : ((4096 : Int) < t.f3.length) = True := eq_true (by omega)
    go_wp2
    go_ret
    exact ⟨by rw [nodeE, if_neg (by rw [hnm]; decide), if_pos (.inr ha)]; rfl, hb1⟩
  have d1 : ((4096 : Int) < t.f3.length) = False := eq_false (by omega)
  have hE : nodeE t = attrsE none t.f3 := by rw [nodeE, if_neg (by rw [hnm]; decide), if_neg (by omega)]
  have HE := Lib.hid hE
  have g41 := Kd.C_below g4 hb1
  have hl4 : t.f3.length ≤ 4096 := by omega
  clear hE g4 ht ha hnm
  go_wp2
  go_loopw [22] (fun i wr => ∃ k : Nat, k ≤ t.f3.length ∧ i = .int .i64 k ∧ attrsE none t.f3 = attrsE (prevOf t.f3 k) (t.f3.drop k) ∧ Below w1.heap.size w1 wr) (fun i _ => t.f3.length - (intOf i).toNat)
  case atStart => exact ⟨0, Nat.zero_le _, rfl, by rw [List.drop_zero, prevOf, if_pos rfl], Below.refl _ _⟩
  case round =>
    obtain ⟨k, hk, rfl, hq, hbr⟩ := hrel
    have HQ := Lib.hid hq
    clear hq
    by_cases hlt : k < t.f3.length
    · have hD := Lib.hid (HE.out.trans (HQ.out.trans (congrArg _ (drop_rd hlt))))
      obtain ⟨ad, hA, q0, q1⟩ := R.at_T60 (Kd.C_below g41 hbr) (k : Int) (by omega) (by omega)
      subst hA
      obtain ⟨a, ha⟩ : ∃ a, a = R.rd_T60 t.f3 (k : Int) := ⟨_, rfl⟩
      rw [← ha] at q0 q1 hD
      rw [Int.toNat_natCast] at q0 q1
      have HA := Lib.hid ha
      clear ha
      have hi : (0 : Int) ≤ k ∧ (k : Int) < t.f3.length := by omega
      have hasz : a.f0.size ≤ 9000000000000000000 := hsa a (by rw [HA.out]; exact rd_memA hlt)
      have hN := isName_any a.f0 hasz
      have G4 := blk_new wr (.cells #[.string a.f0, .string a.f1] 60)
      have hb2 := below_alloc (Below.refl wr.heap.size wr) (.cells #[.string a.f0, .string a.f1] 60)
      go_wp2_with fail
      refine (hN _).mono ?_
      rintro e w2 ⟨rfl, hb⟩
      have G4 := blk_below G4 hb
      have hb3 := hb2.trans (hb.mono (by simp))
      have hbb : Below w1.heap.size w1 w2 := hbr.trans (hb3.mono hbr.size)
      have c41 : w2.cell? ⟨wr.heap.size, 1, none⟩ = some (.string a.f1) := blk_cell G4 1
      have c40 : w2.cell? ⟨wr.heap.size, 0, none⟩ = some (.string a.f0) := blk_cell G4 0
      clear hb hb2 hN q0 q1
      cases hnm : nameB a.f0.data.toList with
      | false =>
        go_wp2
        go_ret
        exact ⟨by rw [hD.out, attrsE_cons, if_pos hnm]; rfl, hb1.trans (hbb.mono hb1.size)⟩
      | true =>
      by_cases hv : 256 < a.f1.size
      · have d2 : ((256 : Int) < a.f1.size) = True := eq_true (by omega)
        go_wp2
        go_ret
        exact ⟨by rw [hD.out, attrsE_cons, if_neg (by rw [hnm]; decide), if_pos hv]; rfl, hb1.trans (hbb.mono hb1.size)⟩
      have d2 : ((256 : Int) < a.f1.size) = False := eq_false (by omega)
      by_cases hk0 : k = 0
      · subst hk0
        have d3 : decide ((0 : Int) < 0) = false := rfl
        go_wp2
        go_quiet (fail)
        go_wp2
        go_roundw
        case rel =>
          refine ⟨1, by omega, rfl, HE.out.symm.trans (hD.out.trans ?_), pw_below_drewN hbb nq⟩
          rw [attrsE_cons, if_neg (by rw [hnm]; decide), if_neg hv]
          simp [prevOf, HA.out]
        case measure => simp [intOf]; omega
      · have hkp : (0 : Int) < k := by omega
        have hkn : 0 < k := by omega
        have d3 : decide (0 < k) = true := decide_eq_true hkn
        clear hkp
        obtain ⟨ad', hA', p0, p1⟩ := R.at_T60 (Kd.C_below g41 hbb) ((k : Int) - 1) (by omega) (by omega)
        obtain rfl := Option.some.inj hA'
        have c43 : w2.cell? ⟨w.heap.size, 4, none⟩ = some (.slice (some ad) t.f3.length c4) := blk_cell (blk_below G1 hbb) 4
        have s1 : IntKind.i64.wrap ((k : Int) - 1) = (k : Int) - 1 := by rw [IntKind.wrap_i64]; omega
        have s2 : (0 : Int) ≤ (k : Int) - 1 ∧ (k : Int) - 1 < t.f3.length := by omega
        have hstep : attrsE (prevOf t.f3 k) (a :: t.f3.drop (k + 1)) = if Op.bytesLess (R.rd_T60 t.f3 ((k : Int) - 1)).f0.toList a.f0.toList = false then 2 else attrsE (prevOf t.f3 (k + 1)) (t.f3.drop (k + 1)) := by
          rw [attrsE_cons, if_neg (by rw [hnm]; decide), if_neg hv]
          simp only [prevOf, if_neg hk0, if_neg (Nat.succ_ne_zero k), HA.out]
          simp
        have HS := Lib.hid hstep
        clear hstep p1 hA'
        simp only [Int.pred_toNat, Int.toNat_natCast] at p0
        cases hbl : Op.bytesLess (R.rd_T60 t.f3 ((k : Int) - 1)).f0.toList a.f0.toList with
        | false =>
          go_wp2
          go_quiet (fail)
          clear s1 s2
          go_wp2
          go_ret
          exact ⟨by rw [hD.out, HS.out, if_pos hbl]; rfl, hb1.trans ((pw_below_drewN hbb nq).mono hb1.size)⟩
        | true =>
          go_wp2
          go_quiet (fail)
          clear s1 s2
          go_wp2
          go_roundw
          case rel => exact ⟨k + 1, by omega, by go_num, HE.out.symm.trans (hD.out.trans (HS.out.trans (if_neg (by rw [hbl]; decide)))), pw_below_drewN hbb nq⟩
          case measure => simp [intOf]; omega
    · obtain rfl : k = t.f3.length := by omega
      go_wp2
      go_ret
      exact ⟨by rw [HE.out, HQ.out, List.drop_length, attrsE_nil]; rfl, hb1.trans (hbr.mono hb1.size)⟩

end Go.Proofs.YtfpldbobfjkkfaaGreatDoor
