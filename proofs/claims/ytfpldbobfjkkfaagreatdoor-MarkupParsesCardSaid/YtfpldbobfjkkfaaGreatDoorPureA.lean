/- Plain functions on bytes, no program in sight: what the markup's functions compute. Plain functions on names, whole numbers and keys, no program in sight. The laws of escaping, of whole numbers' and keys' texts: plain Lean, no program in sight. -/
import Derived.Lib.ItoaNum
import Derived.Lib.ParseIntB
import Derived.Lib.Strings
import Derived.Lib.IndexMore
namespace Go.Proofs.YtfpldbobfjkkfaaGreatDoor
open Go

/-- A byte's escaped text. -/
def escB (b : UInt8) : List UInt8 :=
  if b.toNat = 38 then [38, 97, 109, 112, 59] else if b.toNat = 60 then [38, 108, 116, 59] else if b.toNat = 62 then [38, 103, 116, 59] else if b.toNat = 34 then [38, 113, 117, 111, 116, 59]
  else if b.toNat < 32 ∨ 126 < b.toNat then [38, 35] ++ Lib.decDigits b.toNat ++ [59] else [b]

/-- A text's escaped text. -/
def escL (l : List UInt8) : List UInt8 := l.flatMap escB

theorem decDigits_len (u : Nat) (h : u < 1000) : (Lib.decDigits u).length ≤ 3 := by
  rw [Lib.decDigits]
  split
  · simp
  · rw [Lib.decDigits]
    split
    · simp
    · rw [Lib.decDigits]
      split
      · simp
      · omega

theorem escB_len (b : UInt8) : (escB b).length ≤ 6 := by
  unfold escB
  have h := decDigits_len b.toNat (by have := b.toNat_lt; omega)
  split
  · simp
  · split
    · simp
    · split
      · simp
      · split
        · simp
        · split
          · simp; omega
          · simp

theorem escL_len (l : List UInt8) : (escL l).length ≤ 6 * l.length := by
  induction l with
  | nil => simp [escL]
  | cons b r ih =>
    have h := escB_len b
    simp only [escL, List.flatMap_cons, List.length_append, List.length_cons] at ih ⊢
    omega

theorem escL_snoc (l : List UInt8) (b : UInt8) : escL (l ++ [b]) = escL l ++ escB b := by simp [escL]

/-- What ParseUint(.., 10, 8) makes of a text, as a byte, and whether it is a number. -/
def numL (l : List UInt8) : Int × Bool :=
  match Lib.parseUintB 8 l with
  | .ok u => (u, true)
  | .syntax => (0, false)
  | .range => (255, false)

/-- The byte of an entity; false: it is none. -/
def nameL (l : List UInt8) : Int × Bool :=
  if l == [97, 109, 112] then (38, true) else if l == [108, 116] then (60, true) else if l == [103, 116] then (62, true) else if l == [113, 117, 111, 116] then (34, true)
  else numL (Lib.trimPrefix l [35])

theorem parseUintM_lt (M : Nat) : ∀ (l : List UInt8) (acc u : Nat), acc ≤ M → Lib.parseUintM M acc l = .ok u → u ≤ M
  | [], acc, u, ha, h => by simp only [Lib.parseUintM, Lib.NumEnd.ok.injEq] at h; omega
  | c :: r, acc, u, ha, h => by
    simp only [Lib.parseUintM] at h
    split at h
    · split at h
      · cases h
      · split at h
        · cases h
        · exact parseUintM_lt M r _ u (by omega) h
    · cases h

theorem parse8_lt {l : List UInt8} {u : Nat} (h : Lib.parseUintB 8 l = .ok u) : u < 256 := by
  unfold Lib.parseUintB at h
  split at h
  · cases h
  · have := parseUintM_lt _ l 0 u (by omega) h
    omega

/-- What the loop of Unescape makes of a text. -/
def unescRaw : List UInt8 → Option (List UInt8)
  | [] => some []
  | c :: r =>
    if c.toNat = 38 then
      if (Lib.cut r [59]).2.2 && (nameL (Lib.cut r [59]).1).2 then (unescRaw (r.drop ((Lib.cut r [59]).1.length + 1))).map fun l => (nameL (Lib.cut r [59]).1).1.toNat.toUInt8 :: l
      else none
    else (unescRaw r).map fun l => c :: l
termination_by l => l.length
decreasing_by all_goals simp_wf; try omega

/-- The text of an escaped one. -/
def unescL (l : List UInt8) : Option (List UInt8) :=
  match unescRaw l with
  | some o => if escL o = l then some o else none
  | none => none

theorem unescL_none {l : List UInt8} (h : unescRaw l = none) : unescL l = none := by unfold unescL; rw [h]
theorem unescL_yes {l o : List UInt8} (h : unescRaw l = some o) (e : escL o = l) : unescL l = some o := by unfold unescL; rw [h]; simp [e]
theorem unescL_no {l o : List UInt8} (h : unescRaw l = some o) (e : escL o ≠ l) : unescL l = none := by unfold unescL; rw [h]; simp [e]

theorem unescRaw_start (l : List UInt8) : unescRaw l = (unescRaw (l.drop 0)).map (fun x => [] ++ x) := by
  rw [List.drop_zero]
  cases unescRaw l <;> simp

theorem unescRaw_end (l acc : List UInt8) (k : Nat) (h : l.length ≤ k) : (unescRaw (l.drop k)).map (fun x => acc ++ x) = some acc := by
  rw [List.drop_of_length_le h, unescRaw]
  simp

theorem unescRaw_plain {l : List UInt8} {k : Nat} (h : k < l.length) (hc : l[k].toNat ≠ 38) (acc : List UInt8) :
    (unescRaw (l.drop k)).map (fun x => acc ++ x) = (unescRaw (l.drop (k + 1))).map (fun x => (acc ++ [l[k]]) ++ x) := by
  rw [List.drop_eq_getElem_cons h, unescRaw, if_neg hc]
  cases unescRaw (l.drop (k + 1)) <;> simp

theorem unescRaw_amp {l : List UInt8} {k : Nat} (h : k < l.length) (hc : l[k].toNat = 38) (acc : List UInt8) (h1 : (Lib.cut (l.drop (k + 1)) [59]).2.2 = true) (h2 : (nameL (Lib.cut (l.drop (k + 1)) [59]).1).2 = true) :
    (unescRaw (l.drop k)).map (fun x => acc ++ x) = (unescRaw (l.drop (k + ((Lib.cut (l.drop (k + 1)) [59]).1.length + 2)))).map (fun x => (acc ++ [(nameL (Lib.cut (l.drop (k + 1)) [59]).1).1.toNat.toUInt8]) ++ x) := by
  rw [List.drop_eq_getElem_cons h, unescRaw, if_pos hc, h1, h2]
  simp only [Bool.and_self, if_true, List.drop_drop]
  have e : k + 1 + ((Lib.cut (l.drop (k + 1)) [59]).1.length + 1) = k + ((Lib.cut (l.drop (k + 1)) [59]).1.length + 2) := by omega
  rw [e]
  cases unescRaw (l.drop (k + ((Lib.cut (l.drop (k + 1)) [59]).1.length + 2))) <;> simp

theorem unescRaw_fall {l : List UInt8} {k : Nat} (h : k < l.length) (hc : l[k].toNat = 38) (acc : List UInt8) (h1 : ((Lib.cut (l.drop (k + 1)) [59]).2.2 && (nameL (Lib.cut (l.drop (k + 1)) [59]).1).2) = false) :
    (unescRaw (l.drop k)).map (fun x => acc ++ x) = none := by
  rw [List.drop_eq_getElem_cons h, unescRaw, if_pos hc, h1]
  simp

theorem cut_len (s sep : List UInt8) (h : (Lib.cut s sep).2.2 = true) : (Lib.cut s sep).1.length + sep.length ≤ s.length := by
  unfold Lib.cut at h ⊢
  split
  · rename_i h0
    have := Lib.index_room s sep h0
    simp only [List.length_take]
    omega
  · rename_i h0
    rw [if_neg h0] at h
    cases h

theorem cut_len' (s sep : List UInt8) : (Lib.cut s sep).1.length ≤ s.length := by
  unfold Lib.cut
  split
  · simp only [List.length_take]; omega
  · exact Nat.le_refl _

theorem nameL_bd (l : List UInt8) : 0 ≤ (nameL l).1 ∧ (nameL l).1 < 256 := by
  unfold nameL
  split
  · simp
  · split
    · simp
    · split
      · simp
      · split
        · simp
        · unfold numL
          split
          · rename_i h; have := parse8_lt h; simp; omega
          · simp
          · simp

end Go.Proofs.YtfpldbobfjkkfaaGreatDoor

namespace Go.Proofs.YtfpldbobfjkkfaaGreatDoor
open Go

def letterB (c : UInt8) : Bool := decide (97 ≤ c.toNat) && decide (c.toNat ≤ 122)
def digB (c : UInt8) : Bool := decide (48 ≤ c.toNat) && decide (c.toNat ≤ 57)
def nameCh (c : UInt8) : Bool := letterB c || digB c || decide (c.toNat = 45)
/-- Is a text a name? -/
def nameB (l : List UInt8) : Bool := decide (1 ≤ l.length) && decide (l.length ≤ 32) && letterB (l.headD 0) && l.all nameCh

def numStep (n : Nat) (c : UInt8) : Nat := 10 * n + (c.toNat - 48)
def numOf (l : List UInt8) : Nat := l.foldl numStep 0

theorem numOf_snoc (l : List UInt8) (c : UInt8) : numOf (l ++ [c]) = 10 * numOf l + (c.toNat - 48) := by simp [numOf, numStep]

theorem foldNum_lt (l : List UInt8) : ∀ n, l.all digB = true → l.foldl numStep n < (n + 1) * 10 ^ l.length := by
  induction l with
  | nil => intro n _; simp
  | cons c r ih =>
    intro n h
    rw [List.all_cons, Bool.and_eq_true] at h
    have hc : c.toNat ≤ 57 := by have := h.1; simp [digB] at this; exact this.2
    have := ih (numStep n c) h.2
    rw [List.foldl_cons, List.length_cons, Nat.pow_succ]
    have e : (numStep n c + 1) * 10 ^ r.length ≤ (10 * (n + 1)) * 10 ^ r.length := Nat.mul_le_mul_right _ (by unfold numStep; omega)
    have e2 : (10 * (n + 1)) * 10 ^ r.length = (n + 1) * (10 ^ r.length * 10) := by
      rw [Nat.mul_comm 10 (n + 1), Nat.mul_assoc, Nat.mul_comm 10]
    omega

theorem numOf_lt (l : List UInt8) (h : l.all digB = true) : numOf l < 10 ^ l.length := by
  have := foldNum_lt l 0 h
  simpa [numOf] using this

/-- A whole number of at most so many digits, in its one form. -/
def wholeV (most : Nat) (l : List UInt8) : Int × Bool :=
  if l = [] ∨ most < l.length ∨ (l.headD 0).toNat = 48 ∧ 1 < l.length then (0, false)
  else if l.all digB then (numOf l, true) else (0, false)

def rightB (c r : Int) : Bool := decide (1 ≤ c) && decide (c ≤ 1099511627776) && decide (0 ≤ r) && decide (r < 64)
def nodeB (c r : Int) : Bool := rightB c r || decide (c = 0 ∧ (r = 0 ∨ r = 1))

/-- A key's text, and an error. -/
def keyText (c r : Int) : List UInt8 × Int :=
  if rightB c r then (Lib.decDigits c.toNat ++ [46] ++ Lib.decDigits r.toNat, 0) else if c = 0 ∧ r = 0 then ([114, 111, 111, 116], 0) else if c = 0 ∧ r = 1 then ([116, 114, 97, 115, 104], 0) else ([], 2)

/-- The key of which a text is that: count, replica, error. -/
def keyOf (l : List UInt8) : Int × Int × Int :=
  if l = [114, 111, 111, 116] then (0, 0, 0) else if l = [116, 114, 97, 115, 104] then (0, 1, 0)
  else if (Lib.cut l [46]).2.2 && (wholeV 14 (Lib.cut l [46]).1).2 && (wholeV 14 (Lib.cut l [46]).2.1).2 && rightB (wholeV 14 (Lib.cut l [46]).1).1 (wholeV 14 (Lib.cut l [46]).2.1).1
    then ((wholeV 14 (Lib.cut l [46]).1).1, (wholeV 14 (Lib.cut l [46]).2.1).1, 0) else (0, 0, 2)

end Go.Proofs.YtfpldbobfjkkfaaGreatDoor

namespace Go.Proofs.YtfpldbobfjkkfaaGreatDoor
open Go

/-! ### cut at one byte -/

theorem cut_at {a b : List UInt8} {c : UInt8} (h : c ∉ a) : Lib.cut (a ++ c :: b) [c] = (a, b, true) := by
  have hi : Lib.index (a ++ c :: b) [c] = (a.length : Int) := by
    refine Lib.index_first (by simp) (by simp [Lib.occAt]) (fun j hj => ?_)
    unfold Lib.occAt
    rw [List.drop_append_of_le_length (by omega), List.drop_eq_getElem_cons hj]
    simp only [List.cons_append, List.isPrefixOf, Bool.and_true, beq_eq_false_iff_ne]
    intro e
    exact h (e ▸ List.getElem_mem hj)
  unfold Lib.cut
  rw [hi, if_pos (by omega)]
  simp

theorem cut_no {l : List UInt8} {c : UInt8} (h : c ∉ l) : Lib.cut l [c] = (l, [], false) := by
  have hi : Lib.index l [c] = -1 := by
    refine Lib.index_none (fun j _ => ?_)
    unfold Lib.occAt
    by_cases hj : j < l.length
    · rw [List.drop_eq_getElem_cons hj]
      simp only [List.isPrefixOf, Bool.and_true, beq_eq_false_iff_ne]
      intro e
      exact h (e ▸ List.getElem_mem hj)
    · rw [List.drop_of_length_le (by omega)]; rfl
  unfold Lib.cut
  rw [hi, if_neg (by omega)]

theorem cut_yes {l : List UInt8} {c : UInt8} (h : (Lib.cut l [c]).2.2 = true) : l = (Lib.cut l [c]).1 ++ c :: (Lib.cut l [c]).2.1 ∧ c ∉ (Lib.cut l [c]).1 := by
  by_cases hc : c ∈ l
  · obtain ⟨a, b, rfl, hn⟩ := List.eq_append_cons_of_mem hc
    rw [cut_at hn]
    exact ⟨rfl, hn⟩
  · rw [cut_no hc] at h
    cases h

/-! ### whole numbers -/

theorem dec_eq (u : Nat) : Lib.decDigits u = if u < 10 then [UInt8.ofNat (48 + u)] else Lib.decDigits (u / 10) ++ [UInt8.ofNat (48 + u % 10)] := by
  rw [Lib.decDigits]
  by_cases h : u < 10
  · rw [dif_pos h, if_pos h]
  · rw [dif_neg h, if_neg h]

theorem ofNat_dig {u : Nat} (h : u < 10) : (UInt8.ofNat (48 + u)).toNat = 48 + u := by rw [UInt8.toNat_ofNat']; omega
theorem digB_of {u : Nat} (h : u < 10) : digB (UInt8.ofNat (48 + u)) = true := by
  simp only [digB, Bool.and_eq_true, decide_eq_true_eq, ofNat_dig h]
  omega

theorem dec_digs (u : Nat) : (Lib.decDigits u).all digB = true := by
  induction u using Nat.strongRecOn with
  | ind u ih =>
    rw [dec_eq]
    split
    · rename_i h; simpa using digB_of h
    · rename_i h
      rw [List.all_append, ih (u / 10) (by omega)]
      simpa using digB_of (show u % 10 < 10 by omega)

theorem dec_ne (u : Nat) : Lib.decDigits u ≠ [] := by
  rw [dec_eq]
  split
  · simp
  · simp

/-- No number but 0 begins with 0. -/
theorem dec_head (u : Nat) (h : 0 < u) : ((Lib.decDigits u).headD 0).toNat ≠ 48 := by
  induction u using Nat.strongRecOn with
  | ind u ih =>
    rw [dec_eq]
    split
    · rename_i h1
      simp only [List.headD_cons, ofNat_dig h1]
      omega
    · rename_i h1
      have := ih (u / 10) (by omega) (by omega)
      cases hd : Lib.decDigits (u / 10) with
      | nil => exact absurd hd (dec_ne _)
      | cons a r => rw [hd] at this; simpa using this

theorem numOf_dec (u : Nat) : numOf (Lib.decDigits u) = u := by
  induction u using Nat.strongRecOn with
  | ind u ih =>
    rw [dec_eq]
    split
    · rename_i h
      simp only [numOf, List.foldl_cons, List.foldl_nil, numStep, ofNat_dig h]
      omega
    · rename_i h
      rw [numOf_snoc, ih _ (by omega), ofNat_dig (by omega)]
      omega

theorem dig_back {c : UInt8} (h : digB c = true) : UInt8.ofNat (48 + (c.toNat - 48)) = c := by
  simp only [digB, Bool.and_eq_true, decide_eq_true_eq] at h
  apply UInt8.toNat_inj.1
  rw [UInt8.toNat_ofNat']
  omega

/-- A text of digits in its one form is its number's text. -/
theorem dec_numOf : ∀ (n : Nat) (l : List UInt8), l.length = n → l ≠ [] → l.all digB = true → ((l.headD 0).toNat = 48 → l.length ≤ 1) → Lib.decDigits (numOf l) = l := by
  intro n
  induction n with
  | zero => intro l hl hne; exact absurd (List.eq_nil_of_length_eq_zero hl) hne
  | succ n ih =>
    intro l hl hne hd h0
    obtain ⟨r, c, rfl⟩ : ∃ r c, l = r ++ [c] := ⟨_, _, (List.dropLast_concat_getLast hne).symm⟩
    rw [List.all_append, Bool.and_eq_true] at hd
    have hc : digB c = true := by simpa using hd.2
    have hc' := hc
    simp only [digB, Bool.and_eq_true, decide_eq_true_eq] at hc'
    rw [numOf_snoc, dec_eq]
    cases r with
    | nil =>
      have : numOf ([] : List UInt8) = 0 := rfl
      rw [this, if_pos (by omega), Nat.mul_zero, Nat.zero_add, dig_back hc]
      rfl
    | cons a r =>
      have hr : ((a :: r).headD 0).toNat ≠ 48 := fun h => by
        have := h0 (by simpa using h)
        simp at this
      have h1 := ih (a :: r) (by simpa using hl) (by simp) hd.1 (fun h => absurd h hr)
      have hpos : numOf (a :: r) ≠ 0 := fun h => by
        rw [h] at h1
        rw [← h1] at hr
        exact hr (by rw [dec_eq]; rfl)
      rw [if_neg (by omega), show (10 * numOf (a :: r) + (c.toNat - 48)) / 10 = numOf (a :: r) by omega, show (10 * numOf (a :: r) + (c.toNat - 48)) % 10 = c.toNat - 48 by omega, h1, dig_back hc]

theorem wholeV_dec {most n : Nat} (h : (Lib.decDigits n).length ≤ most) : wholeV most (Lib.decDigits n) = ((n : Int), true) := by
  unfold wholeV
  rw [if_neg, if_pos (dec_digs n), numOf_dec]
  rintro (h1 | h1 | ⟨h1, h2⟩)
  · exact dec_ne _ h1
  · omega
  · rcases Nat.eq_zero_or_pos n with rfl | hn
    · rw [dec_eq, if_pos (by omega)] at h2
      simp at h2
    · exact dec_head n hn h1

theorem wholeV_back {most : Nat} {l : List UInt8} (h : (wholeV most l).2 = true) : ∃ n : Nat, (wholeV most l).1 = n ∧ Lib.decDigits n = l := by
  unfold wholeV at h ⊢
  split
  · rename_i h1; rw [if_pos h1] at h; cases h
  · rename_i h1
    rw [if_neg h1] at h
    split
    · rename_i h2
      refine ⟨numOf l, rfl, dec_numOf _ l rfl (fun e => h1 (.inl e)) h2 (fun e => ?_)⟩
      rcases Nat.lt_or_ge 1 l.length with h3 | h3
      · exact absurd (.inr (.inr ⟨e, h3⟩)) h1
      · exact h3
    · rename_i h2; rw [if_neg h2] at h; cases h

/-! ### keys -/

theorem dot_dec (n : Nat) : (46 : UInt8) ∉ Lib.decDigits n := fun h => by
  have := List.all_eq_true.1 (dec_digs n) _ h
  simp [digB] at this

theorem dec_len13 (u : Nat) (h : u ≤ 1099511627776) : (Lib.decDigits u).length ≤ 13 := by
  rw [Lib.decDigits_length]
  rcases Nat.lt_or_ge u 1 with h0 | h0
  · have : Lib.nDigits u = 1 := Lib.nDigits_small (by omega)
    omega
  · apply Nat.le_of_not_lt
    intro hc
    have key : ∀ k u : Nat, k + 1 ≤ Lib.nDigits u → 1 ≤ k → 10 ^ k ≤ u := by
      intro k
      induction k with
      | zero => intro u _ h; omega
      | succ k ih =>
        intro u h _
        by_cases h10 : u < 10
        · rw [Lib.nDigits_small h10] at h; omega
        · rw [Lib.nDigits_big h10] at h
          rcases Nat.eq_zero_or_pos k with rfl | hk
          · simp; omega
          · have := ih (u / 10) (by omega) hk
            rw [Nat.pow_succ]
            omega
    have := key 13 u (by omega) (by omega)
    omega

theorem keyOf_text {c r : Int} (h : nodeB c r = true) : keyOf (keyText c r).1 = (c, r, 0) ∧ (keyText c r).2 = 0 := by
  unfold keyText
  by_cases hr : rightB c r = true
  · rw [if_pos hr]
    refine ⟨?_, rfl⟩
    have hb := hr
    simp only [rightB, Bool.and_eq_true, decide_eq_true_eq] at hb
    have e1 : (c.toNat : Int) = c := by omega
    have e2 : (r.toNat : Int) = r := by omega
    have hcut : Lib.cut (Lib.decDigits c.toNat ++ [46] ++ Lib.decDigits r.toNat) [46] = (Lib.decDigits c.toNat, Lib.decDigits r.toNat, true) := by
      rw [List.append_assoc]
      exact cut_at (dot_dec _)
    have hw1 : wholeV 14 (Lib.decDigits c.toNat) = (c, true) := by rw [wholeV_dec (by have := dec_len13 c.toNat (by omega); omega), e1]
    have hw2 : wholeV 14 (Lib.decDigits r.toNat) = (r, true) := by rw [wholeV_dec (by have := dec_len13 r.toNat (by omega); omega), e2]
    have hd : ∀ x ∈ Lib.decDigits c.toNat ++ [46] ++ Lib.decDigits r.toNat, x.toNat ≤ 57 := by
      intro x hx
      rw [List.mem_append, List.mem_append] at hx
      have key : ∀ n, x ∈ Lib.decDigits n → x.toNat ≤ 57 := fun n h => by
        have := List.all_eq_true.1 (dec_digs n) _ h
        simp only [digB, Bool.and_eq_true, decide_eq_true_eq] at this
        exact this.2
      rcases hx with (hx | hx) | hx
      · exact key _ hx
      · simp only [List.mem_singleton] at hx; subst hx; decide
      · exact key _ hx
    dsimp only
    unfold keyOf
    rw [if_neg (fun e => by rw [e] at hd; have := hd 114 (by simp); revert this; decide), if_neg (fun e => by rw [e] at hd; have := hd 116 (by simp); revert this; decide), hcut, hw1, hw2]
    simp [hr]
  · rw [if_neg hr]
    simp only [nodeB, Bool.or_eq_true, decide_eq_true_eq] at h
    obtain ⟨rfl, h2⟩ := h.resolve_left hr
    rcases h2 with rfl | rfl
    · exact ⟨rfl, rfl⟩
    · exact ⟨rfl, rfl⟩

theorem keyOf_back {l : List UInt8} (h : (keyOf l).2.2 = 0) : nodeB (keyOf l).1 (keyOf l).2.1 = true ∧ (keyText (keyOf l).1 (keyOf l).2.1).1 = l := by
  unfold keyOf at h ⊢
  by_cases h1 : l = [114, 111, 111, 116]
  · rw [if_pos h1]; exact ⟨rfl, h1.symm⟩
  · rw [if_neg h1] at h ⊢
    by_cases h2 : l = [116, 114, 97, 115, 104]
    · rw [if_pos h2]; exact ⟨rfl, h2.symm⟩
    · rw [if_neg h2] at h ⊢
      split
      · rename_i h3
        simp only [Bool.and_eq_true] at h3
        obtain ⟨⟨⟨a1, a2⟩, a3⟩, a4⟩ := h3
        obtain ⟨n, e1, d1⟩ := wholeV_back a2
        obtain ⟨m, e2, d2⟩ := wholeV_back a3
        rw [e1, e2] at a4 ⊢
        refine ⟨by unfold nodeB; rw [a4]; rfl, ?_⟩
        unfold keyText
        rw [if_pos a4]
        dsimp only
        rw [Int.toNat_natCast, Int.toNat_natCast, d1, d2, List.append_assoc]
        exact (cut_yes a1).1.symm
      · rename_i h3
        rw [if_neg h3] at h
        cases h

/-! ### escaping -/

theorem parseM_snoc (M : Nat) (c : UInt8) : ∀ (l : List UInt8) (acc u : Nat), Lib.parseUintM M acc l = .ok u → Lib.parseUintM M acc (l ++ [c]) = Lib.parseUintM M u [c]
  | [], acc, u, h => by simp only [Lib.parseUintM, Lib.NumEnd.ok.injEq] at h; subst h; rfl
  | x :: r, acc, u, h => by
    rw [List.cons_append]
    rw [Lib.parseUintM] at h ⊢
    split at h
    · rename_i h1
      rw [if_pos h1]
      split at h
      · cases h
      · rename_i h2
        rw [if_neg h2]
        split at h
        · cases h
        · rename_i h3
          rw [if_neg h3]
          exact parseM_snoc M c r _ u h
    · cases h

theorem parse8_dec : ∀ (u : Nat), u < 256 → Lib.parseUintM 255 0 (Lib.decDigits u) = .ok u := by
  intro u
  induction u using Nat.strongRecOn with
  | ind u ih =>
    intro hu
    rw [dec_eq]
    split
    · rename_i h
      simp only [Lib.parseUintM, ofNat_dig h]
      rw [if_pos (by omega), if_neg (by omega), if_neg (by omega)]
      congr 1
      omega
    · rename_i h
      rw [parseM_snoc _ _ _ _ _ (ih (u / 10) (by omega) (by omega))]
      simp only [Lib.parseUintM, ofNat_dig (show u % 10 < 10 by omega)]
      rw [if_pos (by omega), if_neg (by omega), if_neg (by omega)]
      congr 1
      omega

theorem byte_of {b : UInt8} {n : Nat} (h : b.toNat = n) : n.toUInt8 = b := by
  apply UInt8.toNat_inj.1
  rw [← h]
  simp

/-- A byte stands for itself, or its escaped text is an entity. -/
theorem escB_form (b : UInt8) : (escB b = [b] ∧ b.toNat ≠ 38 ∧ b.toNat ≠ 60 ∧ b.toNat ≠ 62 ∧ b.toNat ≠ 34 ∧ 32 ≤ b.toNat ∧ b.toNat ≤ 126) ∨ ∃ e, escB b = 38 :: (e ++ [59]) ∧ (59 : UInt8) ∉ e ∧ nameL e = ((b.toNat : Int), true) ∧ 1 ≤ e.length ∧ ∀ x ∈ e, 35 ≤ x.toNat ∧ x.toNat ≤ 122 ∧ x.toNat ≠ 60 ∧ x.toNat ≠ 62 := by
  unfold escB
  split
  · rename_i h; exact .inr ⟨[97, 109, 112], rfl, by decide, by rw [h]; decide, by decide, by decide⟩
  · split
    · rename_i h; exact .inr ⟨[108, 116], rfl, by decide, by rw [h]; decide, by decide, by decide⟩
    · split
      · rename_i h; exact .inr ⟨[103, 116], rfl, by decide, by rw [h]; decide, by decide, by decide⟩
      · split
        · rename_i h; exact .inr ⟨[113, 117, 111, 116], rfl, by decide, by rw [h]; decide, by decide, by decide⟩
        · split
          · refine .inr ⟨35 :: Lib.decDigits b.toNat, by simp, ?_, ?_, by simp, ?_⟩
            · intro h
              rcases List.mem_cons.1 h with h | h
              · exact absurd h (by decide)
              · have := List.all_eq_true.1 (dec_digs _) _ h
                simp [digB] at this
            · unfold nameL
              rw [if_neg (by simp), if_neg (by simp), if_neg (by simp), if_neg (by simp)]
              have ht : Lib.trimPrefix (35 :: Lib.decDigits b.toNat) [35] = Lib.decDigits b.toNat := by simp [Lib.trimPrefix, Lib.hasPrefix]
              rw [ht]
              unfold numL Lib.parseUintB
              rw [if_neg (dec_ne _)]
              have := parse8_dec b.toNat b.toNat_lt
              rw [show (2 : Nat) ^ 8 - 1 = 255 from rfl, this]
            · intro x hx
              rcases List.mem_cons.1 hx with rfl | hx
              · decide
              · have := List.all_eq_true.1 (dec_digs _) _ hx
                simp only [digB, Bool.and_eq_true, decide_eq_true_eq] at this
                omega
          · exact .inl ⟨rfl, by omega, by omega, by omega, by omega, by omega, by omega⟩

theorem unescRaw_escB (b : UInt8) (r : List UInt8) : unescRaw (escB b ++ r) = (unescRaw r).map fun l => b :: l := by
  rcases escB_form b with ⟨h1, h2, _⟩ | ⟨e, h1, h2, h3, _⟩
  · rw [h1, List.singleton_append, unescRaw, if_neg h2]
  · have hc : Lib.cut (e ++ 59 :: r) [59] = (e, r, true) := cut_at h2
    rw [h1, List.cons_append, List.append_assoc, List.singleton_append, unescRaw, if_pos (by decide), hc, h3]
    dsimp only
    have hd : (e ++ 59 :: r).drop (e.length + 1) = r := by simp [List.drop_append, List.drop_eq_nil_of_le]
    rw [hd]
    simp

theorem unescRaw_escL (l : List UInt8) : unescRaw (escL l) = some l := by
  induction l with
  | nil => rw [escL, List.flatMap_nil, unescRaw]
  | cons b r ih =>
    have : escL (b :: r) = escB b ++ escL r := by simp [escL]
    rw [this, unescRaw_escB, ih]
    rfl

theorem unescL_escL (l : List UInt8) : unescL (escL l) = some l := unescL_yes (unescRaw_escL l) rfl
theorem unescL_back {l o : List UInt8} (h : unescL l = some o) : escL o = l := by
  unfold unescL at h
  cases hr : unescRaw l with
  | none => rw [hr] at h; cases h
  | some x =>
    rw [hr] at h
    dsimp only at h
    split at h
    · rename_i h1; cases h; exact h1
    · cases h
theorem unescL_iff {l o : List UInt8} : unescL l = some o ↔ escL o = l := ⟨unescL_back, fun h => h ▸ unescL_escL o⟩
theorem escL_inj {a b : List UInt8} (h : escL a = escL b) : a = b := by
  have h1 := unescL_escL a
  rw [h, unescL_escL] at h1
  exact (Option.some.inj h1).symm

theorem escB_safe (b : UInt8) : ∀ x ∈ escB b, 32 ≤ x.toNat ∧ x.toNat ≤ 126 ∧ x.toNat ≠ 60 ∧ x.toNat ≠ 62 ∧ x.toNat ≠ 34 := by
  intro x hx
  rcases escB_form b with ⟨h1, h2⟩ | ⟨e, h1, h2, h3, h4, h5⟩
  · rw [h1, List.mem_singleton] at hx
    subst hx
    omega
  · rw [h1] at hx
    rcases List.mem_cons.1 hx with rfl | hx
    · decide
    · rcases List.mem_append.1 hx with hx | hx
      · have := h5 x hx
        omega
      · rw [List.mem_singleton] at hx
        subst hx
        decide

theorem escL_safe (l : List UInt8) : ∀ x ∈ escL l, 32 ≤ x.toNat ∧ x.toNat ≤ 126 ∧ x.toNat ≠ 60 ∧ x.toNat ≠ 62 ∧ x.toNat ≠ 34 := by
  intro x hx
  obtain ⟨b, _, h⟩ := List.mem_flatMap.1 hx
  exact escB_safe b x h

theorem escB_pos (b : UInt8) : 1 ≤ (escB b).length := by
  rcases escB_form b with ⟨h1, _⟩ | ⟨e, h1, _⟩
  · rw [h1]; simp
  · rw [h1]; simp

theorem escL_ge (l : List UInt8) : l.length ≤ (escL l).length := by
  induction l with
  | nil => simp [escL]
  | cons b r ih =>
    have h := escB_pos b
    simp only [escL, List.flatMap_cons, List.length_append, List.length_cons] at ih ⊢
    omega

end Go.Proofs.YtfpldbobfjkkfaaGreatDoor
