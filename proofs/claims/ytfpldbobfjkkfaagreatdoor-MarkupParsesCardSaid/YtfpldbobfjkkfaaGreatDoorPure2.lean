/- The reader as plain functions on bytes: what markup.reader.node makes of what is left of a text. -/
import Derived.Test.YtfpldbobfjkkfaaGreatDoorPureA
import Derived.Test.YtfpldbobfjkkfaaGreatDoorR0
namespace Go.Proofs.YtfpldbobfjkkfaaGreatDoor
open Go

abbrev VN := R.S28
abbrev St := R.S24
abbrev At := R.S60

/-- Where one of some bytes first stands. -/
def anyIdx (l stops : List UInt8) : Option Nat := l.findIdx? (fun c => stops.contains c)

theorem anyIdx_room {l stops : List UInt8} {n : Nat} (h : anyIdx l stops = some n) : n < l.length := by
  unfold anyIdx at h
  exact (List.findIdx?_eq_some_iff_getElem.1 h).1

/-- The attributes that stand ahead, and what follows them. -/
def attrsW (l : List UInt8) : Option (List At × List UInt8) :=
  if [32].isPrefixOf l then
    (anyIdx (l.drop 1) [61]).bind fun i =>
      if [61, 34].isPrefixOf ((l.drop 1).drop i) then
        (anyIdx (((l.drop 1).drop i).drop 2) [34]).bind fun j =>
          (unescL ((((l.drop 1).drop i).drop 2).take j)).bind fun v =>
            if [34].isPrefixOf ((((l.drop 1).drop i).drop 2).drop j) then
              (attrsW (((((l.drop 1).drop i).drop 2).drop j).drop 1)).map fun p => (⟨⟨((l.drop 1).take i).toArray⟩, ⟨v.toArray⟩⟩ :: p.1, p.2)
            else none
      else none
  else some ([], l)
termination_by l.length
decreasing_by
  have hl : l.length ≠ 0 := by
    intro h0
    have : l = [] := List.eq_nil_of_length_eq_zero h0
    subst this
    simp_all
  simp only [List.length_drop]
  omega

/-- A node's key, tag, text and attributes, and what follows: as far as its kids. -/
def headW (l : List UInt8) : Option (VN × List UInt8) :=
  if [60].isPrefixOf l then
    (anyIdx (l.drop 1) [32, 62]).bind fun i =>
      if nameB ((l.drop 1).take i) then
        if [32, 35].isPrefixOf ((l.drop 1).drop i) then
          (anyIdx (((l.drop 1).drop i).drop 2) [32, 62]).bind fun j =>
            if (keyOf ((((l.drop 1).drop i).drop 2).take j)).2.2 = 0 then
              (attrsW ((((l.drop 1).drop i).drop 2).drop j)).bind fun p =>
                if [62].isPrefixOf p.2 then
                  (anyIdx (p.2.drop 1) [60]).bind fun n =>
                    (unescL ((p.2.drop 1).take n)).bind fun t =>
                      some (⟨⟨(keyOf ((((l.drop 1).drop i).drop 2).take j)).1, (keyOf ((((l.drop 1).drop i).drop 2).take j)).2.1⟩, ⟨((l.drop 1).take i).toArray⟩, ⟨t.toArray⟩, p.1, []⟩, (p.2.drop 1).drop n)
                else none
            else none
        else none
      else none
  else none

/-- What a node ends with. -/
def endW (n : VN) : List UInt8 := [60, 47] ++ n.f1.data.toList ++ [62]

mutual
/-- The node that stands ahead, what follows it, and how many nodes there were. -/
def nodeW : Nat → Nat → List UInt8 → Option (VN × List UInt8 × Nat)
  | 0, _, _ => none
  | f + 1, many, l =>
    if many + 1 ≤ 8192 then
      (headW l).bind fun p => (kidsW f (many + 1) p.2).bind fun q =>
        if (endW p.1).isPrefixOf q.2.1 then some ({ p.1 with f4 := q.1 }, q.2.1.drop (endW p.1).length, q.2.2) else none
    else none
/-- The kids that stand ahead. -/
def kidsW : Nat → Nat → List UInt8 → Option (List VN × List UInt8 × Nat)
  | 0, _, _ => none
  | f + 1, many, l =>
    if [60, 47].isPrefixOf l then some ([], l, many)
    else (nodeW f many l).bind fun p => (kidsW f p.2.2 p.2.1).map fun q => (p.1 :: q.1, q.2.1, q.2.2)
end

/-- The tree that a text can be. -/
def readW (l : List UInt8) : Option VN := (nodeW (2 * l.length + 2) 0 l).bind fun p => if p.2.1 = [] then some p.1 else none

/-! ### what each way out says -/

theorem attrsW_end {l : List UInt8} (h : [32].isPrefixOf l = false) : attrsW l = some ([], l) := by rw [attrsW, if_neg (by rw [h]; decide)]
theorem attrsW_no1 {l : List UInt8} (h : [32].isPrefixOf l = true) (h1 : anyIdx (l.drop 1) [61] = none) : attrsW l = none := by rw [attrsW, if_pos h, h1]; rfl
theorem attrsW_no2 {l : List UInt8} {i : Nat} (h : [32].isPrefixOf l = true) (h1 : anyIdx (l.drop 1) [61] = some i) (h2 : [61, 34].isPrefixOf ((l.drop 1).drop i) = false) : attrsW l = none := by
  rw [attrsW, if_pos h, h1, Option.bind_some, if_neg (by rw [h2]; decide)]
theorem attrsW_no3 {l : List UInt8} {i : Nat} (h : [32].isPrefixOf l = true) (h1 : anyIdx (l.drop 1) [61] = some i) (h2 : [61, 34].isPrefixOf ((l.drop 1).drop i) = true) (h3 : anyIdx (((l.drop 1).drop i).drop 2) [34] = none ∨ ∃ j, anyIdx (((l.drop 1).drop i).drop 2) [34] = some j ∧ unescL ((((l.drop 1).drop i).drop 2).take j) = none) : attrsW l = none := by
  rw [attrsW, if_pos h, h1, Option.bind_some, if_pos h2]
  rcases h3 with h3 | ⟨j, h3, h4⟩
  · rw [h3]; rfl
  · rw [h3, Option.bind_some, h4]; rfl
theorem attrsW_no4 {l : List UInt8} {i j : Nat} {v : List UInt8} (h : [32].isPrefixOf l = true) (h1 : anyIdx (l.drop 1) [61] = some i) (h2 : [61, 34].isPrefixOf ((l.drop 1).drop i) = true) (h3 : anyIdx (((l.drop 1).drop i).drop 2) [34] = some j) (h4 : unescL ((((l.drop 1).drop i).drop 2).take j) = some v) (h5 : [34].isPrefixOf ((((l.drop 1).drop i).drop 2).drop j) = false) : attrsW l = none := by
  rw [attrsW, if_pos h, h1, Option.bind_some, if_pos h2, h3, Option.bind_some, h4, Option.bind_some, if_neg (by rw [h5]; decide)]
theorem attrsW_go {l : List UInt8} {i j : Nat} {v : List UInt8} (h : [32].isPrefixOf l = true) (h1 : anyIdx (l.drop 1) [61] = some i) (h2 : [61, 34].isPrefixOf ((l.drop 1).drop i) = true) (h3 : anyIdx (((l.drop 1).drop i).drop 2) [34] = some j) (h4 : unescL ((((l.drop 1).drop i).drop 2).take j) = some v) (h5 : [34].isPrefixOf ((((l.drop 1).drop i).drop 2).drop j) = true) (acc : List At) :
    (attrsW l).map (fun p => (acc ++ p.1, p.2)) = (attrsW (((((l.drop 1).drop i).drop 2).drop j).drop 1)).map (fun p => ((acc ++ [⟨⟨((l.drop 1).take i).toArray⟩, ⟨v.toArray⟩⟩]) ++ p.1, p.2)) := by
  conv => lhs; rw [attrsW]
  rw [if_pos h, h1, Option.bind_some, if_pos h2, h3, Option.bind_some, h4, Option.bind_some, if_pos h5]
  cases attrsW (((((l.drop 1).drop i).drop 2).drop j).drop 1) <;> simp

theorem headW_no1 {l : List UInt8} (h : [60].isPrefixOf l = false) : headW l = none := by rw [headW, if_neg (by rw [h]; decide)]
theorem headW_no2 {l : List UInt8} (h : [60].isPrefixOf l = true) (h1 : anyIdx (l.drop 1) [32, 62] = none) : headW l = none := by rw [headW, if_pos h, h1]; rfl
theorem headW_no3 {l : List UInt8} {i : Nat} (h : [60].isPrefixOf l = true) (h1 : anyIdx (l.drop 1) [32, 62] = some i) (h2 : nameB ((l.drop 1).take i) = false) : headW l = none := by
  rw [headW, if_pos h, h1, Option.bind_some, if_neg (by rw [h2]; decide)]
theorem headW_no4 {l : List UInt8} {i : Nat} (h : [60].isPrefixOf l = true) (h1 : anyIdx (l.drop 1) [32, 62] = some i) (h2 : nameB ((l.drop 1).take i) = true) (h3 : [32, 35].isPrefixOf ((l.drop 1).drop i) = false) : headW l = none := by
  rw [headW, if_pos h, h1, Option.bind_some, if_pos h2, if_neg (by rw [h3]; decide)]
theorem headW_no5 {l : List UInt8} {i : Nat} (h : [60].isPrefixOf l = true) (h1 : anyIdx (l.drop 1) [32, 62] = some i) (h2 : nameB ((l.drop 1).take i) = true) (h3 : [32, 35].isPrefixOf ((l.drop 1).drop i) = true) (h4 : anyIdx (((l.drop 1).drop i).drop 2) [32, 62] = none) : headW l = none := by
  rw [headW, if_pos h, h1, Option.bind_some, if_pos h2, if_pos h3, h4]; rfl
theorem headW_no6 {l : List UInt8} {i j : Nat} (h : [60].isPrefixOf l = true) (h1 : anyIdx (l.drop 1) [32, 62] = some i) (h2 : nameB ((l.drop 1).take i) = true) (h3 : [32, 35].isPrefixOf ((l.drop 1).drop i) = true) (h4 : anyIdx (((l.drop 1).drop i).drop 2) [32, 62] = some j) (h5 : (keyOf ((((l.drop 1).drop i).drop 2).take j)).2.2 ≠ 0) : headW l = none := by
  rw [headW, if_pos h, h1, Option.bind_some, if_pos h2, if_pos h3, h4, Option.bind_some, if_neg h5]
/-- Behind the key. -/
theorem headW_key {l : List UInt8} {i j : Nat} (h : [60].isPrefixOf l = true) (h1 : anyIdx (l.drop 1) [32, 62] = some i) (h2 : nameB ((l.drop 1).take i) = true) (h3 : [32, 35].isPrefixOf ((l.drop 1).drop i) = true) (h4 : anyIdx (((l.drop 1).drop i).drop 2) [32, 62] = some j) (h5 : (keyOf ((((l.drop 1).drop i).drop 2).take j)).2.2 = 0) :
    headW l = (attrsW ((((l.drop 1).drop i).drop 2).drop j)).bind fun p =>
      if [62].isPrefixOf p.2 then
        (anyIdx (p.2.drop 1) [60]).bind fun n =>
          (unescL ((p.2.drop 1).take n)).bind fun t =>
            some (⟨⟨(keyOf ((((l.drop 1).drop i).drop 2).take j)).1, (keyOf ((((l.drop 1).drop i).drop 2).take j)).2.1⟩, ⟨((l.drop 1).take i).toArray⟩, ⟨t.toArray⟩, p.1, []⟩, (p.2.drop 1).drop n)
      else none := by
  rw [headW, if_pos h, h1, Option.bind_some, if_pos h2, if_pos h3, h4, Option.bind_some, if_pos h5]

theorem nodeW_many {f many : Nat} {l : List UInt8} (h : ¬ many + 1 ≤ 8192) : nodeW (f + 1) many l = none := by rw [nodeW, if_neg h]
theorem nodeW_head {f many : Nat} {l : List UInt8} (h : headW l = none) : nodeW (f + 1) many l = none := by
  rw [nodeW]
  split
  · rw [h]; rfl
  · rfl
theorem nodeW_kids {f many : Nat} {l r : List UInt8} {n : VN} (hm : many + 1 ≤ 8192) (h : headW l = some (n, r)) : nodeW (f + 1) many l = (kidsW f (many + 1) r).bind fun q =>
    if (endW n).isPrefixOf q.2.1 then some ({ n with f4 := q.1 }, q.2.1.drop (endW n).length, q.2.2) else none := by
  rw [nodeW, if_pos hm, h]; rfl

theorem kidsW_end {f many : Nat} {l : List UInt8} (h : [60, 47].isPrefixOf l = true) : kidsW (f + 1) many l = some ([], l, many) := by rw [kidsW, if_pos h]
theorem kidsW_no {f many : Nat} {l : List UInt8} (h : [60, 47].isPrefixOf l = false) (h1 : nodeW f many l = none) : kidsW (f + 1) many l = none := by rw [kidsW, if_neg (by rw [h]; decide), h1]; rfl
theorem kidsW_go {f many m : Nat} {l r : List UInt8} {n : VN} (h : [60, 47].isPrefixOf l = false) (h1 : nodeW f many l = some (n, r, m)) (acc : List VN) :
    (kidsW (f + 1) many l).map (fun q => (acc ++ q.1, q.2)) = (kidsW f m r).map (fun q => ((acc ++ [n]) ++ q.1, q.2)) := by
  rw [kidsW, if_neg (by rw [h]; decide), h1, Option.bind_some]
  cases kidsW f m r <;> simp

theorem pre_cons {a : UInt8} {t l : List UInt8} (h : (a :: t).isPrefixOf l = true) : 1 ≤ l.length := by
  cases l with
  | nil => simp at h
  | cons b r => simp

theorem attrsW_len : ∀ (n : Nat) (l : List UInt8) (p : List At × List UInt8), l.length ≤ n → attrsW l = some p → p.2.length ≤ l.length := by
  intro n
  induction n with
  | zero =>
    intro l p hl h
    have : l = [] := List.eq_nil_of_length_eq_zero (by omega)
    subst this
    rw [attrsW_end (by simp)] at h
    simp only [Option.some.injEq] at h
    subst h
    simp
  | succ n ih =>
    intro l p hl h
    cases hp : [32].isPrefixOf l with
    | false =>
      rw [attrsW_end hp] at h
      simp only [Option.some.injEq] at h
      subst h
      simp
    | true =>
      have hlen := pre_cons hp
      rw [attrsW, if_pos hp] at h
      obtain ⟨i, h1, h⟩ := Option.bind_eq_some_iff.1 h
      split at h
      · obtain ⟨j, h2, h⟩ := Option.bind_eq_some_iff.1 h
        obtain ⟨v, h3, h⟩ := Option.bind_eq_some_iff.1 h
        split at h
        · obtain ⟨q, h4, h5⟩ := Option.map_eq_some_iff.1 h
          have := ih _ q (by simp only [List.length_drop]; omega) h4
          simp only [List.length_drop] at this
          subst h5
          dsimp only
          omega
        · cases h
      · cases h

theorem headW_len {l r : List UInt8} {n : VN} (h : headW l = some (n, r)) : r.length + 1 ≤ l.length := by
  rw [headW] at h
  split at h
  · rename_i hp
    have hlen := pre_cons hp
    obtain ⟨i, h1, h⟩ := Option.bind_eq_some_iff.1 h
    split at h
    · split at h
      · obtain ⟨j, h2, h⟩ := Option.bind_eq_some_iff.1 h
        split at h
        · obtain ⟨p, h3, h⟩ := Option.bind_eq_some_iff.1 h
          split at h
          · obtain ⟨k, h4, h⟩ := Option.bind_eq_some_iff.1 h
            obtain ⟨t, h5, h⟩ := Option.bind_eq_some_iff.1 h
            simp only [Option.some.injEq, Prod.mk.injEq] at h
            have := attrsW_len _ _ p (Nat.le_refl _) h3
            simp only [List.length_drop] at this
            obtain ⟨_, rfl⟩ := h
            simp only [List.length_drop]
            omega
          · cases h
        · cases h
      · cases h
    · cases h
  · cases h

theorem nodeW_len : ∀ (f : Nat), (∀ many l n r m, nodeW f many l = some (n, r, m) → r.length + 1 ≤ l.length ∧ m ≤ 8192) ∧ (∀ many l ks r m, many ≤ 8192 → kidsW f many l = some (ks, r, m) → r.length ≤ l.length ∧ m ≤ 8192) := by
  intro f
  induction f with
  | zero =>
    constructor
    · intro many l n r m h; simp [nodeW] at h
    · intro many l ks r m _ h; simp [kidsW] at h
  | succ f ih =>
    constructor
    · intro many l n r m h
      rw [nodeW] at h
      split at h
      · rename_i hm
        obtain ⟨p, h1, h⟩ := Option.bind_eq_some_iff.1 h
        obtain ⟨q, h2, h⟩ := Option.bind_eq_some_iff.1 h
        have e1 := headW_len (n := p.1) (r := p.2) h1
        have e2 := ih.2 _ _ q.1 q.2.1 q.2.2 hm h2
        split at h
        · simp only [Option.some.injEq, Prod.mk.injEq] at h
          obtain ⟨_, rfl, rfl⟩ := h
          simp only [List.length_drop]
          omega
        · cases h
      · cases h
    · intro many l ks r m hm h
      rw [kidsW] at h
      split at h
      · simp only [Option.some.injEq, Prod.mk.injEq] at h
        obtain ⟨_, rfl, rfl⟩ := h
        exact ⟨Nat.le_refl _, hm⟩
      · obtain ⟨p, h1, h⟩ := Option.bind_eq_some_iff.1 h
        obtain ⟨q, h2, h⟩ := Option.map_eq_some_iff.1 h
        have e1 := ih.1 _ _ p.1 p.2.1 p.2.2 h1
        have e2 := ih.2 _ _ q.1 q.2.1 q.2.2 e1.2 h2
        simp only [Prod.mk.injEq] at h
        obtain ⟨_, rfl, rfl⟩ := h
        omega

theorem map_start {α β : Type} (o : Option (List α × β)) : o = o.map (fun p => ([] ++ p.1, p.2)) := by cases o <;> simp

end Go.Proofs.YtfpldbobfjkkfaaGreatDoor
