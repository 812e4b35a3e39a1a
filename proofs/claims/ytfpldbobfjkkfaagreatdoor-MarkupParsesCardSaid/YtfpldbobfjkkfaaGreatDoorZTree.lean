/- The node that stands ahead without a bound on how many there are; the reference's tree of a text is the program's. Plain Lean, no program in sight. -/
import Derived.Test.YtfpldbobfjkkfaaGreatDoorPureT
import Derived.Test.YtfpldbobfjkkfaaGreatDoorText
import Derived.Test.YtfpldbobfjkkfaaGreatDoorRefCheck
namespace Go.Proofs.YtfpldbobfjkkfaaGreatDoor
open Go Go.RowKit

mutual
def nodeU : Nat → List UInt8 → Option (VN × List UInt8)
  | 0, _ => none
  | f + 1, l => (headW l).bind fun p => (kidsU f p.2).bind fun q => if (endW p.1).isPrefixOf q.2 then some ({ p.1 with f4 := q.1 }, q.2.drop (endW p.1).length) else none
def kidsU : Nat → List UInt8 → Option (List VN × List UInt8)
  | 0, _ => none
  | f + 1, l => if [60, 47].isPrefixOf l then some ([], l) else (nodeU f l).bind fun p => (kidsU f p.2).map fun q => (p.1 :: q.1, q.2)
end

theorem nodeU_head {f : Nat} {l : List UInt8} (h : headW l = none) : nodeU (f + 1) l = none := by rw [nodeU, h]; rfl
theorem nodeU_kids {f : Nat} {l r : List UInt8} {n : VN} (h : headW l = some (n, r)) : nodeU (f + 1) l = (kidsU f r).bind fun q =>
    if (endW n).isPrefixOf q.2 then some ({ n with f4 := q.1 }, q.2.drop (endW n).length) else none := by rw [nodeU, h]; rfl
theorem kidsU_end {f : Nat} {l : List UInt8} (h : [60, 47].isPrefixOf l = true) : kidsU (f + 1) l = some ([], l) := by rw [kidsU, if_pos h]
theorem kidsU_no {f : Nat} {l : List UInt8} (h : [60, 47].isPrefixOf l = false) (h1 : nodeU f l = none) : kidsU (f + 1) l = none := by rw [kidsU, if_neg (by rw [h]; decide), h1]; rfl
theorem kidsU_go {f : Nat} {l r : List UInt8} {n : VN} (h : [60, 47].isPrefixOf l = false) (h1 : nodeU f l = some (n, r)) (acc : List VN) :
    (kidsU (f + 1) l).map (fun q => (acc ++ q.1, q.2)) = (kidsU f r).map (fun q => ((acc ++ [n]) ++ q.1, q.2)) := by
  rw [kidsU, if_neg (by rw [h]; decide), h1, Option.bind_some]
  cases kidsU f r <;> simp

theorem nodeW_U : ∀ (f : Nat), (∀ many l n r m, nodeW f many l = some (n, r, m) → nodeU f l = some (n, r)) ∧ (∀ many l ks r m, kidsW f many l = some (ks, r, m) → kidsU f l = some (ks, r)) := by
  intro f
  induction f with
  | zero =>
    constructor
    · intro many l n r m h; simp [nodeW] at h
    · intro many l ks r m h; simp [kidsW] at h
  | succ f ih =>
    constructor
    · intro many l n r m h
      rw [nodeW] at h
      split at h
      · obtain ⟨p, h1, h⟩ := Option.bind_eq_some_iff.1 h
        obtain ⟨q, h2, h⟩ := Option.bind_eq_some_iff.1 h
        have e2 := ih.2 _ _ q.1 q.2.1 q.2.2 h2
        split at h
        · rename_i hp
          simp only [Option.some.injEq, Prod.mk.injEq] at h
          obtain ⟨rfl, rfl, _⟩ := h
          rw [nodeU, h1, Option.bind_some, e2, Option.bind_some, if_pos hp]
        · cases h
      · cases h
    · intro many l ks r m h
      rw [kidsW] at h
      split at h
      · rename_i hp
        simp only [Option.some.injEq, Prod.mk.injEq] at h
        obtain ⟨rfl, rfl, rfl⟩ := h
        rw [kidsU, if_pos hp]
      · rename_i hp
        obtain ⟨p, h1, h⟩ := Option.bind_eq_some_iff.1 h
        obtain ⟨q, h2, h⟩ := Option.map_eq_some_iff.1 h
        have e2 := ih.1 _ _ p.1 p.2.1 p.2.2 h1
        have e3 := ih.2 _ _ q.1 q.2.1 q.2.2 h2
        simp only [Prod.mk.injEq] at h
        obtain ⟨rfl, rfl, rfl⟩ := h
        rw [kidsU, if_neg hp, e2, Option.bind_some]
        dsimp only
        rw [e3]
        rfl

theorem nodeU_back : ∀ (f : Nat), (∀ l n r, nodeU f l = some (n, r) → l = textT true n ++ r) ∧ (∀ l ks r, kidsU f l = some (ks, r) → l = textsT true ks ++ r) := by
  intro f
  induction f with
  | zero =>
    constructor
    · intro l n r h; simp [nodeU] at h
    · intro l ks r h; simp [kidsU] at h
  | succ f ih =>
    constructor
    · intro l n r h
      rw [nodeU] at h
      obtain ⟨p, h1, h⟩ := Option.bind_eq_some_iff.1 h
      obtain ⟨q, h2, h⟩ := Option.bind_eq_some_iff.1 h
      have e1 := (headW_back (n := p.1) (r := p.2) h1).1
      have e2 := ih.2 _ q.1 q.2 h2
      split at h
      · rename_i hp
        have e3 := pre_eq hp
        simp only [Option.some.injEq, Prod.mk.injEq] at h
        obtain ⟨rfl, rfl⟩ := h
        rw [textT_eq]
        dsimp only
        rw [e1, e2]
        conv => lhs; rw [e3]
        simp [endW]
      · cases h
    · intro l ks r h
      rw [kidsU] at h
      split at h
      · simp only [Option.some.injEq, Prod.mk.injEq] at h
        obtain ⟨rfl, rfl⟩ := h
        rw [textsT]; rfl
      · obtain ⟨p, h1, h⟩ := Option.bind_eq_some_iff.1 h
        obtain ⟨q, h2, h⟩ := Option.map_eq_some_iff.1 h
        have e2 := ih.1 _ p.1 p.2 h1
        have e3 := ih.2 _ q.1 q.2 h2
        simp only [Prod.mk.injEq] at h
        obtain ⟨rfl, rfl⟩ := h
        rw [textsT, List.append_assoc, ← e3]
        exact e2

/-- What is left behind a node is shorter. -/
theorem nodeU_len {f : Nat} {l r : List UInt8} {n : VN} (h : nodeU f l = some (n, r)) : r.length + 1 ≤ l.length := by
  have h1 := (nodeU_back f).1 _ _ _ h
  have h2 := textT_ge _ n (Nat.le_refl _) 0 true
  rw [flatD_eq, List.length_cons] at h2
  rw [h1, List.length_append]
  omega

/-- The reference's tree of a text is the program's. -/
theorem refV {s : ByteArray} (hl : s.size ≤ 262144) : parseV s = (match nodeU (2 * s.size + 2) s.data.toList with
    | some (t, []) => if checkV t = 0 then (t, 0) else (zeroV, 2)
    | _ => (zeroV, 2)) := by
  rw [parseV, if_neg (by omega)]
  cases hr : readW s.data.toList with
  | some t =>
    have hr' := hr
    rw [readW, len_list] at hr'
    obtain ⟨p, h1, h⟩ := Option.bind_eq_some_iff.1 hr'
    split at h
    · rename_i hnil
      obtain ⟨u, r, m⟩ := p
      dsimp only at hnil h
      subst hnil
      obtain rfl : u = t := by simpa using h
      rw [(nodeW_U _).1 _ _ _ _ _ h1]
    · cases h
  | none =>
    cases hu : nodeU (2 * s.size + 2) s.data.toList with
    | none => rfl
    | some p =>
      obtain ⟨u, r⟩ := p
      cases r with
      | cons a b => rfl
      | nil =>
        dsimp only
        by_cases hc : checkV u = 0
        · have h1 := (nodeU_back _).1 _ _ _ hu
          rw [List.append_nil] at h1
          have h2 := read_text hc
          rw [← h1, hr] at h2
          cases h2
        · rw [if_neg hc]

theorem len_flatMap {α β : Type} (f : α → List β) {l : List α} {x : α} (h : x ∈ l) : (f x).length ≤ (l.flatMap f).length := by
  obtain ⟨a, b, rfl⟩ := List.append_of_mem h
  simp only [List.flatMap_append, List.flatMap_cons, List.length_append]
  omega
theorem len_kids {α β : Type} (f : α → List β) {l : List α} (h : ∀ x ∈ l, 1 ≤ (f x).length) : l.length ≤ (l.flatMap f).length := by
  induction l with
  | nil => simp
  | cons a r ih =>
    have h1 := h a List.mem_cons_self
    have h2 := ih (fun x hx => h x (List.mem_cons_of_mem _ hx))
    simp only [List.flatMap_cons, List.length_append, List.length_cons]
    omega

theorem text_sub : ∀ (s : Nat) (t : VN), SizeOf.sizeOf t ≤ s → ∀ (d : Int), ∀ p ∈ flatD d t, (textT true p.2).length ≤ (textT true t).length := by
  intro s
  induction s with
  | zero =>
    intro t hs
    obtain ⟨a, b, c, d, e⟩ := t
    simp only [R.S28.mk.sizeOf_spec] at hs
    omega
  | succ s ih =>
    intro t hs d p hp
    rw [flatD_eq, List.mem_cons] at hp
    rcases hp with rfl | hp
    · exact Nat.le_refl _
    · rw [flatDs_eq] at hp
      obtain ⟨k, hk, hp⟩ := List.mem_flatMap.1 hp
      have h1 := ih k (by have := size_kid hk; omega) _ p hp
      have h2 := len_flatMap (textT true) hk
      rw [textT_eq true t, textsT_eq]
      simp only [List.length_append]
      omega

/-- A tree with a text that is not too long can be gone through. -/
theorem fitR_of {t : VN} (h : (textT true t).length ≤ 1000000) : (∀ p ∈ flatD 0 t, FitR p.2) ∧ (flatD 0 t).length ≤ 1048576 := by
  refine ⟨fun p hp => ?_, by have := textT_ge _ t (Nat.le_refl _) 0 true; omega⟩
  have h1 := text_sub _ t (Nat.le_refl _) 0 p hp
  obtain ⟨d, n⟩ := p
  dsimp only at h1 ⊢
  have h2 : (textT true n).length ≤ 1000000 := by omega
  have hk := len_kids (textT true) (l := n.f4) (fun x _ => by
    have := textT_ge _ x (Nat.le_refl _) 0 true
    rw [flatD_eq, List.length_cons] at this
    omega)
  rw [textT_eq, textsT_eq, headT] at h2
  simp only [List.length_append] at h2
  refine ⟨by rw [← len_list]; omega, fun a ha => ?_, by omega⟩
  have h3 := len_flatMap attrT ha
  have h4 : a.f0.size ≤ (attrT a).length := by
    rw [attrT, ← len_list]
    simp only [List.length_append]
    omega
  omega

/-- What is read can be compared. -/
theorem parse_fitS (s : ByteArray) : ∀ p ∈ flatD 0 (parseV s).1, FitS p.2 := by
  have hz : ∀ p ∈ flatD 0 zeroV, FitS p.2 := by
    intro p hp
    rw [flatD_eq] at hp
    simp only [zeroV, flatDs, List.mem_singleton] at hp
    subst hp
    exact ⟨by simp, by simp⟩
  unfold parseV
  by_cases hl : 262144 < s.size
  · rw [if_pos hl]; exact hz
  rw [if_neg hl]
  cases hr : readW s.data.toList with
  | none => exact hz
  | some t =>
    dsimp only
    by_cases hc : checkV t = 0
    case neg => rw [if_neg hc]; exact hz
    rw [if_pos hc]
    intro p hp
    have hb := congrArg List.length (readW_back hr)
    rw [len_list] at hb
    have h1 := text_sub _ t (Nat.le_refl _) 0 p hp
    obtain ⟨d, n⟩ := p
    dsimp only at h1 ⊢
    have h2 : (textT true n).length ≤ 1000000 := by omega
    have hk := len_kids (textT true) (l := n.f4) (fun x _ => by
      have := textT_ge _ x (Nat.le_refl _) 0 true
      rw [flatD_eq, List.length_cons] at this
      omega)
    have ha := len_kids attrT (l := n.f3) (fun x _ => by rw [attrT]; simp only [List.length_append, List.length_cons]; omega)
    rw [textT_eq, textsT_eq, headT] at h2
    simp only [List.length_append] at h2
    exact ⟨by omega, by omega⟩

end Go.Proofs.YtfpldbobfjkkfaaGreatDoor
