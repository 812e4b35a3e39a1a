/- What the laid functions of names, numbers and keys come to. -/
import Derived.Test.YtfpldbobfjkkfaaGreatDoorPureA
import Derived.Test.YtfpldbobfjkkfaaGreatDoorBase
import Derived.Test.YtfpldbobfjkkfaaGreatDoorR1
import Derived.Test.YtfpldbobfjkkfaaGreatDoorR2
import Derived.Test.YtfpldbobfjkkfaaGreatDoorR3
namespace Go.Proofs.YtfpldbobfjkkfaaGreatDoor
open Go.RowKit Go.Proofs Go.Proofs.YtfpldbobfjkkfaaGreatDoorW.PrintWords Go.Proofs.YtfpldbobfjkkfaaGreatDoorW.PrintLast Go.Proofs.YtfpldbobfjkkfaaGreatDoor.R

theorem wrap_in {n : Int} (h0 : -9223372036854775808 ≤ n) (h1 : n ≤ 9223372036854775807) : wrap64 n = n := by unfold wrap64; omega

theorem bt_nat (s : ByteArray) (k : Nat) (h : k < s.size) : bt s (k : Int) = ((s.data.toList[k]'(by rw [len_list]; exact h)).toNat : Int) := by
  have h' : ((k : Int)).toNat < s.size := by simpa using h
  unfold bt
  rw [dif_pos h']
  simp
  rfl

theorem drop_cons (s : ByteArray) (k : Nat) (h : k < s.size) : s.data.toList.drop k = (s.data.toList[k]'(by rw [len_list]; exact h)) :: s.data.toList.drop (k + 1) := List.drop_eq_getElem_cons _

theorem replica_f (r : Int) : ident_replica.f r = some (decide (0 ≤ r) && decide (r < 64)) := by
  unfold ident_replica.f
  by_cases h : r ≥ 0
  · rw [if_pos h]; have : decide (0 ≤ r) = true := by simpa using h
    rw [this, Bool.true_and]
  · rw [if_neg h]; have : decide (0 ≤ r) = false := by simpa using h
    rw [this, Bool.false_and]

theorem right_f (c r : Int) : ident_Right.f c r = some (rightB c r) := by
  unfold ident_Right.f rightB
  rw [replica_f]
  by_cases h1 : c ≥ 1
  · rw [if_pos h1]
    by_cases h2 : c ≤ 1099511627776
    · rw [if_pos h2]; simp [show (1 : Int) ≤ c from h1, h2]
    · rw [if_neg h2]; simp [h2]
  · rw [if_neg h1]; have : ¬ (1 : Int) ≤ c := h1; simp [this]

theorem node_f (c r : Int) : ident_Node.f c r = some (nodeB c r) := by
  unfold ident_Node.f nodeB
  rw [right_f]
  cases rightB c r
  · simp only [Option.bind_some, Bool.false_eq_true, if_false, Bool.false_or]
    by_cases h0 : c = 0
    · subst h0
      by_cases h1 : r = 0
      · subst h1; simp
      · by_cases h2 : r = 1
        · subst h2; simp
        · simp [h1, h2]
    · simp [h0]
  · simp

theorem right_any (c r : Int) (w : World) : Calls Tryz.prog 19 #[.agg #[.int .i64 c, .int .i64 r]] w fun e w' => e = .returned (.bool (rightB c r)) ∧ Below w.heap.size w w' := ident_Right.calls c r _ w (right_f c r)
theorem node_any (c r : Int) (w : World) : Calls Tryz.prog 18 #[.agg #[.int .i64 c, .int .i64 r]] w fun e w' => e = .returned (.bool (nodeB c r)) ∧ Below w.heap.size w w' := ident_Node.calls c r _ w (node_f c r)

theorem name_l0 (s : ByteArray) (hs : s.size ≤ 9000000000000000000) (d : Nat) : ∀ (k i : Nat), i ≤ s.size → s.size - i = d → d < k →
    change_Name.l0 k s (s.size : Int) (i : Int) = some ((s.data.toList.drop i).all nameCh) := by
  induction d with
  | zero =>
    intro k i hi hd hk
    obtain ⟨k, rfl⟩ : ∃ m, k = m + 1 := ⟨k - 1, by omega⟩
    simp only [change_Name.l0]
    rw [if_neg (by omega), List.drop_of_length_le (by rw [len_list]; omega)]
    rfl
  | succ d ih =>
    intro k i hi hd hk
    obtain ⟨k, rfl⟩ : ∃ m, k = m + 1 := ⟨k - 1, by omega⟩
    have hlt : i < s.size := by omega
    have hrec := ih k (i + 1) (by omega) (by omega) (by omega)
    rw [show ((i + 1 : Nat) : Int) = (i : Int) + 1 by omega] at hrec
    simp only [change_Name.l0]
    rw [if_pos (by omega), if_pos (by omega), if_pos (by omega), wrap_in (by omega) (by omega), hrec, bt_nat s i hlt, drop_cons s i hlt, List.all_cons]
    generalize s.data.toList[i]'(by rw [len_list]; exact hlt) = c
    generalize (s.data.toList.drop (i + 1)).all nameCh = b
    unfold nameCh letterB digB
    by_cases h1 : (c.toNat : Int) < 97
    · rw [if_pos h1]
      by_cases h2 : (c.toNat : Int) < 48
      · rw [if_pos h2]
        by_cases h3 : (c.toNat : Int) = 45
        · rw [if_pos h3]; have : c.toNat = 45 := by omega
          simp [this]
        · rw [if_neg h3]; simp; omega
      · rw [if_neg h2]
        by_cases h4 : (c.toNat : Int) > 57
        · rw [if_pos h4]
          rw [if_neg (by omega)]; simp; omega
        · rw [if_neg h4]
          have e1 : decide (48 ≤ c.toNat) = true := by simp; omega
          have e2 : decide (c.toNat ≤ 57) = true := by simp; omega
          simp [e1, e2]
    · rw [if_neg h1]
      by_cases h2 : (c.toNat : Int) > 122
      · rw [if_pos h2, if_neg (by omega), if_pos (by omega), if_neg (by omega)]; simp; omega
      · rw [if_neg h2]
        have e1 : decide (97 ≤ c.toNat) = true := by simp; omega
        have e2 : decide (c.toNat ≤ 122) = true := by simp; omega
        simp [e1, e2]

theorem headD_get (l : List UInt8) (h : 0 < l.length) : l.headD 0 = l[0] := by
  cases l with
  | nil => simp at h
  | cons a r => rfl

theorem head_nat (s : ByteArray) (h : 0 < s.size) : bt s 0 = ((s.data.toList.headD 0).toNat : Int) := by
  have := bt_nat s 0 h
  rw [show ((0 : Nat) : Int) = 0 from rfl] at this
  rw [this, headD_get _ (by rw [len_list]; exact h)]

theorem name_f (s : ByteArray) (hs : s.size ≤ 9000000000000000000) : change_Name.f (s.size + 2) s = some (nameB s.data.toList) := by
  have hl := len_list s
  have hk := name_l0 s hs s.size (s.size + 1) 0 (by omega) (by omega) (by omega)
  rw [List.drop_zero, show ((0 : Nat) : Int) = 0 from rfl] at hk
  have hh := head_nat s
  generalize s.data.toList = l at hl hk hh ⊢
  unfold change_Name.f nameB
  by_cases h0 : (s.size : Int) = 0
  · rw [if_pos h0]
    have : decide (1 ≤ l.length) = false := decide_eq_false (by omega)
    simp only [change_Name.j0, this]; simp
  · rw [if_neg h0]
    by_cases h1 : (s.size : Int) > 32
    · rw [if_pos h1]
      have : decide (l.length ≤ 32) = false := by simp; omega
      simp only [change_Name.j0, this]; simp
    · rw [if_neg h1, if_pos (by omega)]
      have e1 : decide (1 ≤ l.length) = true := by simp; omega
      have e2 : decide (l.length ≤ 32) = true := by simp; omega
      rw [e1, e2, hh (by omega)]
      generalize l.headD 0 = c
      unfold letterB
      by_cases h2 : (c.toNat : Int) < 97
      · rw [if_pos h2]
        have : decide (97 ≤ c.toNat) = false := by simp; omega
        simp [change_Name.j0, this]
      · rw [if_neg h2]
        have e3 : decide (97 ≤ c.toNat) = true := by simp; omega
        rw [e3]
        by_cases h3 : (c.toNat : Int) > 122
        · have e4 : decide (c.toNat ≤ 122) = false := by simp; omega
          simp only [change_Name.j0]
          rw [if_pos (by simpa using h3), e4]; simp
        · have e4 : decide (c.toNat ≤ 122) = true := by simp; omega
          simp only [change_Name.j0]
          rw [if_neg (by simpa using h3), e4, hk]; simp

theorem isName_any (s : ByteArray) (hs : s.size ≤ 9000000000000000000) (w : World) : Calls Tryz.prog 34 #[.string s] w fun e w' => e = .returned (.bool (nameB s.data.toList)) ∧ Below w.heap.size w w' :=
  (change_Name.calls _ s _ w (name_f s hs)).mono fun _ _ ⟨he, hd⟩ => ⟨he, hd.below⟩

theorem whole_l0 (s : ByteArray) (hs : s.size ≤ 14) (d : Nat) : ∀ (k i : Nat), i ≤ s.size → s.size - i = d → d < k → (s.data.toList.take i).all digB = true →
    ident_whole.l0 k s (numOf (s.data.toList.take i) : Int) (s.size : Int) (i : Int) = some (if s.data.toList.all digB then ((numOf s.data.toList : Int), true) else (0, false)) := by
  have hl := len_list s
  induction d with
  | zero =>
    intro k i hi hd hk hall
    obtain ⟨k, rfl⟩ : ∃ m, k = m + 1 := ⟨k - 1, by omega⟩
    rw [List.take_of_length_le (by omega)] at hall ⊢
    simp only [ident_whole.l0]
    rw [if_neg (by omega), hall, if_pos rfl]
  | succ d ih =>
    intro k i hi hd hk hall
    obtain ⟨k, rfl⟩ : ∃ m, k = m + 1 := ⟨k - 1, by omega⟩
    have hlt : i < s.size := by omega
    have hts : s.data.toList.take (i + 1) = s.data.toList.take i ++ [s.data.toList[i]'(by omega)] := List.take_succ_eq_append_getElem (by omega)
    have hn := numOf_lt _ hall
    have hp : 10 ^ (s.data.toList.take i).length ≤ 10 ^ 13 := Nat.pow_le_pow_right (by omega) (by rw [List.length_take]; omega)
    have hrec := ih k (i + 1) (by omega) (by omega) (by omega)
    simp only [ident_whole.l0]
    rw [if_pos (by omega), if_pos (by omega), if_pos (by omega), bt_nat s i hlt]
    rw [hts, numOf_snoc] at hrec
    have hin : s.data.toList[i]'(by omega) ∈ s.data.toList := List.getElem_mem _
    generalize s.data.toList[i]'(by omega) = c at hrec hin hts ⊢
    have hc := c.toNat_lt
    by_cases h1 : (c.toNat : Int) < 48
    · rw [if_pos h1]
      have : s.data.toList.all digB = false := by
        rw [Bool.eq_false_iff]; intro h; rw [List.all_eq_true] at h
        have := h c hin; simp [digB] at this; omega
      rw [this]; rfl
    · rw [if_neg h1]
      by_cases h2 : (c.toNat : Int) > 57
      · rw [if_pos h2]
        have : s.data.toList.all digB = false := by
          rw [Bool.eq_false_iff]; intro h; rw [List.all_eq_true] at h
          have := h c hin; simp [digB] at this; omega
        rw [this]; rfl
      · rw [if_neg h2]
        have e1 : wrap64 (wrap64 (10 * (numOf (s.data.toList.take i) : Int)) + (((c.toNat : Int) - 48) % 256)) = ((10 * numOf (s.data.toList.take i) + (c.toNat - 48) : Nat) : Int) := by
          rw [wrap_in (n := 10 * _) (by omega) (by omega), wrap_in (by omega) (by omega)]
          omega
        rw [e1, wrap_in (by omega) (by omega), show ((i : Int) + 1) = ((i + 1 : Nat) : Int) by omega]
        exact hrec (by rw [List.all_append, hall]; simp [digB]; omega)

theorem whole_f (s : ByteArray) (hs : s.size ≤ 9000000000000000000) : ident_whole.f (s.size + 2) s = some (wholeV 14 s.data.toList) := by
  have hl := len_list s
  unfold ident_whole.f wholeV
  by_cases h0 : (s.size : Int) = 0
  · rw [if_pos h0, if_pos (.inl (List.eq_nil_of_length_eq_zero (by omega)))]
    simp [ident_whole.j0]
  · rw [if_neg h0]
    by_cases h1 : (s.size : Int) > 14
    · rw [if_pos h1, if_pos (.inr (.inl (by omega)))]
      simp [ident_whole.j0]
    · rw [if_neg h1, if_pos (by omega), head_nat s (by omega)]
      have hne : ¬ s.data.toList = [] := by intro h; rw [h] at hl; simp at hl; omega
      have hk := whole_l0 s (by omega) s.size (s.size + 1) 0 (by omega) (by omega) (by omega) (by simp)
      rw [List.take_zero, show ((numOf [] : Nat) : Int) = 0 from rfl, show ((0 : Nat) : Int) = 0 from rfl] at hk
      by_cases h2 : ((s.data.toList.headD 0).toNat : Int) = 48
      · rw [if_pos h2]
        by_cases h3 : (s.size : Int) > 1
        · have : decide ((s.size : Int) > 1) = true := by simpa using h3
          rw [this, if_pos (.inr (.inr ⟨by omega, by omega⟩))]; simp [ident_whole.j0]
        · have : decide ((s.size : Int) > 1) = false := by simpa using h3
          rw [this, if_neg (fun h => h.elim hne (fun h => h.elim (fun h => by omega) (fun h => by omega)))]
          simp only [ident_whole.j0, Bool.false_eq_true, if_false]; exact hk
      · rw [if_neg h2, if_neg (fun h => h.elim hne (fun h => h.elim (fun h => by omega) (fun h => h2 (by omega))))]
        simp only [ident_whole.j0, Bool.false_eq_true, if_false]; exact hk

theorem whole_any (s : ByteArray) (hs : s.size ≤ 9000000000000000000) (w : World) : Calls Tryz.prog 53 #[.string s] w fun e w' => e = .returned (.tuple #[.int .i64 (wholeV 14 s.data.toList).1, .bool (wholeV 14 s.data.toList).2]) ∧ Below w.heap.size w w' :=
  (ident_whole.calls _ s _ _ w (whole_f s hs)).mono fun _ _ ⟨he, hd⟩ => ⟨he, hd.below⟩

end Go.Proofs.YtfpldbobfjkkfaaGreatDoor
