/- What the reference's functions of reading come to: plain functions on what is left of a text. -/
import Derived.Test.YtfpldbobfjkkfaaGreatDoorPureX
import Derived.Test.YtfpldbobfjkkfaaGreatDoorPureX
namespace Go.Proofs.YtfpldbobfjkkfaaGreatDoor
open Go Go.RowKit Go.Proofs Go.Proofs.YtfpldbobfjkkfaaGreatDoorW.PrintWords Go.Proofs.YtfpldbobfjkkfaaGreatDoorW.PrintLast Go.Proofs.YtfpldbobfjkkfaaGreatDoor.R

theorem ext_l (s : ByteArray) (a b : Nat) : (s.extract a b).data.toList = (s.data.toList.drop a).take (b - a) := Lib.extract_data s a b

/-! ### whole numbers and keys -/

theorem whole01_l0 (s : ByteArray) (hs : s.size ≤ 13) : ∀ (m i k : Nat), s.size - i = m → i ≤ s.size → m < k → ((s.data.toList.take i).all digB = true) →
    topiaryref01_Whole.l0 k s (numOf (s.data.toList.take i) : Int) (i : Int) = some (if s.data.toList.all digB then ((numOf s.data.toList : Int), decide (numOf s.data.toList ≤ 1099511627776)) else (0, false)) := by
  intro m
  induction m with
  | zero =>
    intro i k hm hi hk hd
    obtain ⟨k, rfl⟩ : ∃ m, k = m + 1 := ⟨k - 1, by omega⟩
    rw [List.take_of_length_le (by rw [len_list]; omega)] at hd ⊢
    rw [topiaryref01_Whole.l0, if_neg (by omega), if_pos hd]
    congr 2
    simp only [decide_eq_decide]
    omega
  | succ m ih =>
    intro i k hm hi hk hd
    obtain ⟨k, rfl⟩ : ∃ m, k = m + 1 := ⟨k - 1, by omega⟩
    have hlt : i < s.size := by omega
    have hlt' : i < s.data.toList.length := by rw [len_list]; exact hlt
    have htk : s.data.toList.take (i + 1) = s.data.toList.take i ++ [s.data.toList[i]] := List.take_succ_eq_append_getElem hlt'
    have hall : s.data.toList.all digB = ((s.data.toList.take i).all digB && (s.data.toList.drop i).all digB) := by rw [← List.all_append, List.take_append_drop]
    have hnb := numOf_lt _ hd
    have hln : (s.data.toList.take i).length = i := by rw [List.length_take]; omega
    rw [hln] at hnb
    have hpw : (10 : Nat) ^ i ≤ 10 ^ 12 := Nat.pow_le_pow_right (by omega) (by omega)
    rw [topiaryref01_Whole.l0, if_pos (by omega), if_pos (by omega), bt_nat s i hlt]
    have hdr := drop_cons s i hlt
    rw [hdr, List.all_cons, hd, Bool.true_and] at hall
    generalize s.data.toList[i]'hlt' = c at htk hall ⊢
    by_cases h1 : (c.toNat : Int) < 48
    · have : digB c = false := by
        unfold digB
        have : decide (48 ≤ c.toNat) = false := decide_eq_false (by omega)
        rw [this]; rfl
      rw [if_pos h1, hall, this]
      rfl
    · rw [if_neg h1]
      by_cases h2 : (c.toNat : Int) > 57
      · have : digB c = false := by
          unfold digB
          have : decide (c.toNat ≤ 57) = false := decide_eq_false (by omega)
          rw [this, Bool.and_false]
        rw [if_pos h2, hall, this]
        rfl
      · have hc : digB c = true := by
          unfold digB
          rw [Bool.and_eq_true, decide_eq_true_eq, decide_eq_true_eq]
          omega
        have e1 : wrap64 (10 * (numOf (s.data.toList.take i) : Int)) = 10 * (numOf (s.data.toList.take i) : Int) := wrap_in (by omega) (by omega)
        have e2 : wrap64 (10 * (numOf (s.data.toList.take i) : Int) + (((c.toNat : Int) - 48) % 256)) = ((numOf (s.data.toList.take (i + 1)) : Nat) : Int) := by
          rw [wrap_in (by omega) (by omega), htk, numOf_snoc]
          omega
        have e3 : wrap64 ((i : Int) + 1) = ((i + 1 : Nat) : Int) := by rw [wrap_in (by omega) (by omega)]; rfl
        rw [if_neg h2, e1, e2, e3]
        clear e1 e2 e3 hpw hnb
        exact ih (i + 1) k (by omega) (by omega) (by omega) (by rw [htk, List.all_append, hd]; simpa using hc)

/-- The reference's whole numbers are the program's, up to the greatest count. -/
theorem whole01_f (s : ByteArray) (k : Nat) (hk : 20 ≤ k) : ∃ r : Int × Bool, topiaryref01_Whole.f k s = some r ∧ (r.2 = true ↔ (wholeV 14 s.data.toList).2 = true ∧ (wholeV 14 s.data.toList).1 ≤ 1099511627776) ∧ (r.2 = true → r.1 = (wholeV 14 s.data.toList).1) := by
  obtain ⟨k, rfl⟩ : ∃ m, k = m + 1 := ⟨k - 1, by omega⟩
  have hno : ∀ (b : Bool), b = true → topiaryref01_Whole.j0 (k + 1) s b = some (0, false) := fun b hb => by rw [topiaryref01_Whole.j0, if_pos hb]
  have hsl := len_list s
  unfold topiaryref01_Whole.f
  by_cases h0 : s.size = 0
  · rw [if_pos (by omega), hno true rfl]
    refine ⟨_, rfl, ?_, by simp⟩
    have : s.data.toList = [] := List.eq_nil_of_length_eq_zero (by omega)
    rw [this]
    simp [wholeV]
  rw [if_neg (by omega)]
  have hne : s.data.toList ≠ [] := fun h => by rw [h] at hsl; simp at hsl; omega
  by_cases h13 : 13 < s.size
  · rw [if_pos (by omega), hno true rfl]
    refine ⟨_, rfl, ?_, by simp⟩
    constructor
    · intro h; cases h
    · rintro ⟨h1, h2⟩
      exfalso
      obtain ⟨n, e1, e2⟩ := wholeV_back h1
      rw [e1] at h2
      have := dec_len13 n (by omega)
      rw [e2, hsl] at this
      omega
  rw [if_neg (by omega), if_pos (by omega)]
  have hb := bt_nat s 0 (by omega)
  rw [show ((0 : Nat) : Int) = 0 from rfl] at hb
  have hhd : (s.data.toList.headD 0) = s.data.toList[0]'(by rw [hsl]; omega) := by
    rw [List.headD_eq_head?_getD, List.head?_eq_getElem?, List.getElem?_eq_getElem (by rw [hsl]; omega)]
    rfl
  rw [hb, ← hhd]
  have hj : topiaryref01_Whole.j0 (k + 1) s false = some (if s.data.toList.all digB then ((numOf s.data.toList : Int), decide (numOf s.data.toList ≤ 1099511627776)) else (0, false)) := by
    rw [topiaryref01_Whole.j0, if_neg (by decide)]
    have := whole01_l0 s (by omega) s.size 0 k rfl (Nat.zero_le _) (by omega) (by simp)
    simpa [numOf] using this
  have fin : ¬ ((s.data.toList.headD 0).toNat = 48 ∧ 1 < s.size) → ∃ r : Int × Bool, topiaryref01_Whole.j0 (k + 1) s false = some r ∧ (r.2 = true ↔ (wholeV 14 s.data.toList).2 = true ∧ (wholeV 14 s.data.toList).1 ≤ 1099511627776) ∧ (r.2 = true → r.1 = (wholeV 14 s.data.toList).1) := by
    intro hz
    refine ⟨_, hj, ?_⟩
    have hw : wholeV 14 s.data.toList = if s.data.toList.all digB then ((numOf s.data.toList : Int), true) else (0, false) := by
      unfold wholeV
      rw [if_neg]
      rintro (h | h | h)
      · exact hne h
      · omega
      · rw [hsl] at h; exact hz h
    rw [hw]
    by_cases ha : s.data.toList.all digB = true
    · rw [if_pos ha, if_pos ha]
      refine ⟨?_, fun _ => rfl⟩
      simp
      omega
    · rw [if_neg ha, if_neg ha]
      simp
  by_cases h48 : ((s.data.toList.headD 0).toNat : Int) = 48
  · rw [if_pos h48]
    by_cases h1 : 1 < s.size
    · have : decide ((s.size : Int) > 1) = true := decide_eq_true (by omega)
      rw [this, hno true rfl]
      refine ⟨_, rfl, ?_, by simp⟩
      have hw : wholeV 14 s.data.toList = (0, false) := by
        unfold wholeV
        rw [if_pos]
        exact .inr (.inr ⟨by omega, by rw [hsl]; exact h1⟩)
      rw [hw]
      simp
    · have : decide ((s.size : Int) > 1) = false := decide_eq_false (by omega)
      rw [this]
      exact fin (fun h => h1 h.2)
  · rw [if_neg h48]
    exact fin (fun h => h48 (by omega))

/-- What stands behind the two names in keyOf. -/
def keyDot (l : List UInt8) : Int × Int × Int :=
  if (Lib.cut l [46]).2.2 && (wholeV 14 (Lib.cut l [46]).1).2 && (wholeV 14 (Lib.cut l [46]).2.1).2 && rightB (wholeV 14 (Lib.cut l [46]).1).1 (wholeV 14 (Lib.cut l [46]).2.1).1
    then ((wholeV 14 (Lib.cut l [46]).1).1, (wholeV 14 (Lib.cut l [46]).2.1).1, 0) else (0, 0, 2)

theorem parse01_l0 (s : ByteArray) (hs : s.size ≤ 1000000000000000000) : ∀ (m i k : Nat), s.size - i = m → i ≤ s.size → m + 20 < k → (46 : UInt8) ∉ s.data.toList.take i →
    topiaryref01_Parse.l0 k s (i : Int) = some (keyDot s.data.toList) := by
  intro m
  induction m with
  | zero =>
    intro i k hm hi hk hn
    obtain ⟨k, rfl⟩ : ∃ m, k = m + 1 := ⟨k - 1, by omega⟩
    rw [List.take_of_length_le (by rw [len_list]; omega)] at hn
    rw [topiaryref01_Parse.l0, if_neg (by omega), keyDot, cut_no hn]
    rfl
  | succ m ih =>
    intro i k hm hi hk hn
    obtain ⟨k, rfl⟩ : ∃ m, k = m + 1 := ⟨k - 1, by omega⟩
    have hlt : i < s.size := by omega
    have hlt' : i < s.data.toList.length := by rw [len_list]; exact hlt
    have e3 : wrap64 ((i : Int) + 1) = ((i + 1 : Nat) : Int) := by rw [wrap_in (by omega) (by omega)]; rfl
    rw [topiaryref01_Parse.l0, if_pos (by omega), if_pos (by omega), bt_nat s i hlt]
    by_cases hc : s.data.toList[i] = 46
    · have hsplit : s.data.toList = s.data.toList.take i ++ 46 :: s.data.toList.drop (i + 1) := by
        conv => lhs; rw [← List.take_append_drop i s.data.toList, drop_cons s i hlt, hc]
      have hcut : Lib.cut s.data.toList [46] = (s.data.toList.take i, s.data.toList.drop (i + 1), true) := by
        conv => lhs; rw [hsplit]
        exact cut_at hn
      have h46 : ((s.data.toList[i]).toNat : Int) = 46 := by rw [hc]; rfl
      obtain ⟨r1, w1, w2, w3⟩ := whole01_f (s.extract 0 i) k (by omega)
      obtain ⟨r2, v1, v2, v3⟩ := whole01_f (s.extract (i + 1) s.size) k (by omega)
      have l1 : (s.extract 0 i).data.toList = s.data.toList.take i := by rw [ext_l]; simp
      have l2 : (s.extract (i + 1) s.size).data.toList = s.data.toList.drop (i + 1) := by
        rw [ext_l, List.take_of_length_le (by rw [List.length_drop, len_list]; exact Nat.le_refl _)]
      rw [l1] at w2 w3
      rw [l2] at v2 v3
      rw [if_pos h46, if_pos (by omega), e3, Int.toNat_natCast, Int.toNat_natCast, w1, Option.bind_some, if_pos (by omega), if_pos (by omega), v1, Option.bind_some, keyDot, hcut]
      dsimp only
      rw [Bool.true_and]
      generalize wholeV 14 (s.data.toList.take i) = a at w2 w3 ⊢
      generalize wholeV 14 (s.data.toList.drop (i + 1)) = b at v2 v3 ⊢
      by_cases hr1 : r1.2 = true
      · rw [if_pos hr1]
        by_cases hr2 : r2.2 = true
        · rw [if_pos hr2, right01_f, Option.bind_some, w3 hr1, v3 hr2, (w2.1 hr1).1, (v2.1 hr2).1, Bool.true_and, Bool.true_and]
          by_cases hR : rightB a.1 b.1 = true
          · rw [if_pos hR, if_pos hR]
          · rw [if_neg hR, if_neg hR]
        · rw [if_neg hr2, if_neg]
          intro h
          simp only [Bool.and_eq_true] at h
          have hb := h.2
          simp only [rightB, Bool.and_eq_true, decide_eq_true_eq] at hb
          exact hr2 (v2.2 ⟨h.1.2, by omega⟩)
      · rw [if_neg hr1, if_neg]
        intro h
        simp only [Bool.and_eq_true] at h
        have hb := h.2
        simp only [rightB, Bool.and_eq_true, decide_eq_true_eq] at hb
        exact hr1 (w2.2 ⟨h.1.1, by omega⟩)
    · have hne : ¬ ((s.data.toList[i]).toNat : Int) = 46 := by
        intro h
        apply hc
        apply UInt8.toNat_inj.1
        have : (46 : UInt8).toNat = 46 := rfl
        omega
      rw [if_neg hne, e3]
      refine ih (i + 1) k (by omega) (by omega) (by omega) ?_
      rw [List.take_succ_eq_append_getElem hlt', List.mem_append, List.mem_singleton]
      rintro (h | h)
      · exact hn h
      · exact hc h.symm

theorem parse01_f (s : ByteArray) (hs : s.size ≤ 1000000000000000000) (k : Nat) (hk : s.size + 20 < k) : topiaryref01_Parse.f k s = some (keyOf s.data.toList) := by
  have := parse01_l0 s hs s.size 0 k rfl (Nat.zero_le _) hk (by simp)
  unfold topiaryref01_Parse.f keyOf
  rw [Lib.toList_data]
  by_cases h1 : s.data.toList = [114, 111, 111, 116]
  · rw [if_pos h1, if_pos h1]
  rw [if_neg h1, if_neg h1]
  by_cases h2 : s.data.toList = [116, 114, 97, 115, 104]
  · rw [if_pos h2, if_pos h2]
  rw [if_neg h2, if_neg h2]
  exact this

/-! ### until -/

theorem until_f (s : ByteArray) (hs : s.size ≤ 1000000000000000000) (a b : UInt8) : ∀ (m i k : Nat), s.size - i = m → i ≤ s.size → m < k →
    topiaryref20_until.f k s (i : Int) (a.toNat : Int) (b.toNat : Int) = some (match anyIdx (s.data.toList.drop i) [a, b] with | some n => ((i + n : Nat) : Int) | none => -1) := by
  intro m
  induction m with
  | zero =>
    intro i k hm hi hk
    obtain ⟨k, rfl⟩ : ∃ m, k = m + 1 := ⟨k - 1, by omega⟩
    rw [topiaryref20_until.f, topiaryref20_until.l0, if_neg (by omega), List.drop_of_length_le (by rw [len_list]; omega)]
    rfl
  | succ m ih =>
    intro i k hm hi hk
    obtain ⟨k, rfl⟩ : ∃ m, k = m + 1 := ⟨k - 1, by omega⟩
    have hlt : i < s.size := by omega
    have e3 : wrap64 ((i : Int) + 1) = ((i + 1 : Nat) : Int) := by rw [wrap_in (by omega) (by omega)]; rfl
    have hr := ih (i + 1) k (by omega) (by omega) (by omega)
    rw [topiaryref20_until.f] at hr
    rw [topiaryref20_until.f, topiaryref20_until.l0, if_pos (by omega), if_pos (by omega), bt_nat s i hlt, drop_cons s i hlt]
    generalize s.data.toList[i]'(by rw [len_list]; exact hlt) = c
    have hcons : anyIdx (c :: s.data.toList.drop (i + 1)) [a, b] = if c = a ∨ c = b then some 0 else (anyIdx (s.data.toList.drop (i + 1)) [a, b]).map (· + 1) := by
      unfold anyIdx
      rw [List.findIdx?_cons]
      by_cases h : c = a ∨ c = b
      · rw [if_pos h, if_pos (by simpa using h)]
      · rw [if_neg h, if_neg (by simpa using h)]
    rw [hcons]
    have toN : ∀ x y : UInt8, ((x.toNat : Int) = (y.toNat : Int)) ↔ x = y := fun x y => by
      constructor
      · intro h; exact UInt8.toNat_inj.1 (by omega)
      · rintro rfl; rfl
    by_cases h1 : c = a
    · rw [if_pos ((toN c a).2 h1), if_pos (.inl h1)]
      simp
    · rw [if_neg (fun h => h1 ((toN c a).1 h))]
      by_cases h2 : c = b
      · rw [if_pos ((toN c b).2 h2), if_pos (.inr h2)]
        simp
      · rw [if_neg (fun h => h2 ((toN c b).1 h)), if_neg (fun h => h.elim h1 h2), e3, hr]
        clear hr e3 hcons ih
        cases anyIdx (s.data.toList.drop (i + 1)) [a, b] with
        | none => rfl
        | some n =>
          show some (((i + 1 + n : Nat)) : Int) = some ((i + (n + 1) : Nat) : Int)
          rw [show i + 1 + n = i + (n + 1) by omega]

theorem anyIdx_two (l : List UInt8) (a : UInt8) : anyIdx l [a, a] = anyIdx l [a] := by
  unfold anyIdx
  congr 1
  funext c
  simp

end Go.Proofs.YtfpldbobfjkkfaaGreatDoor
