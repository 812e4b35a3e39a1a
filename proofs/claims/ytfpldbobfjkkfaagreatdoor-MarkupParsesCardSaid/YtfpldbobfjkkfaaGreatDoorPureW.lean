/- A tree that the reader gives is of a size that the machine can have. A tree's text, as bytes. -/
import Derived.Test.YtfpldbobfjkkfaaGreatDoorWalk
namespace Go.Proofs.YtfpldbobfjkkfaaGreatDoor
open Go Go.RowKit

theorem wf_int {a : Int} (h1 : -9223372036854775808 ≤ a) (h2 : a ≤ 9223372036854775807) : (Lit.int .i64 a).wf = true := by
  have hmin : IntKind.i64.min = -9223372036854775808 := rfl
  have hmax : IntKind.i64.max = 9223372036854775807 := rfl
  simp only [Lit.wf, Bool.and_eq_true, decide_eq_true_eq]
  omega

theorem attrsW_names : ∀ (n : Nat) (l : List UInt8) (p : List At × List UInt8), l.length ≤ n → attrsW l = some p → ∀ a ∈ p.1, a.f0.size ≤ l.length := by
  intro n
  induction n with
  | zero =>
    intro l p hl h
    have : l = [] := List.eq_nil_of_length_eq_zero (by omega)
    subst this
    rw [attrsW_end (by simp)] at h
    simp only [Option.some.injEq] at h
    subst h
    simp
  | succ n ih =>
    intro l p hl h
    cases hp : [32].isPrefixOf l with
    | false =>
      rw [attrsW_end hp] at h
      simp only [Option.some.injEq] at h
      subst h
      simp
    | true =>
      have hlen := pre_cons hp
      rw [attrsW, if_pos hp] at h
      obtain ⟨i, h1, h⟩ := Option.bind_eq_some_iff.1 h
      split at h
      · obtain ⟨j, h2, h⟩ := Option.bind_eq_some_iff.1 h
        obtain ⟨v, h3, h⟩ := Option.bind_eq_some_iff.1 h
        split at h
        · obtain ⟨q, h4, h5⟩ := Option.map_eq_some_iff.1 h
          have hi := ih _ q (by simp only [List.length_drop]; omega) h4
          subst h5
          intro a ha
          rcases List.mem_cons.1 ha with rfl | ha
          · show (ByteArray.mk ((l.drop 1).take i).toArray).size ≤ _
            rw [mk_size, List.length_take, List.length_drop]
            omega
          · have := hi a ha
            simp only [List.length_drop] at this
            omega
        · cases h
      · cases h

theorem keyOf_wf (l : List UInt8) : (Lit.int .i64 (keyOf l).1).wf = true ∧ (Lit.int .i64 (keyOf l).2.1).wf = true := by
  unfold keyOf
  split
  · exact ⟨rfl, rfl⟩
  · split
    · exact ⟨rfl, rfl⟩
    · split
      · rename_i h
        simp only [rightB, Bool.and_eq_true, decide_eq_true_eq] at h
        exact ⟨wf_int (by omega) (by omega), wf_int (by dsimp only; omega) (by dsimp only; omega)⟩
      · exact ⟨rfl, rfl⟩

/-- A node's own parts, its kids apart. -/
theorem headW_fits {l r : List UInt8} {n : VN} (h : headW l = some (n, r)) (hl : l.length ≤ 1000000000) : n.f1.size ≤ l.length ∧ (∀ a ∈ n.f3, a.f0.size ≤ l.length) ∧ (Lit.int .i64 n.f0.f0).wf = true ∧ (Lit.int .i64 n.f0.f1).wf = true := by
  rw [headW] at h
  split at h
  · obtain ⟨i, h1, h⟩ := Option.bind_eq_some_iff.1 h
    split at h
    · split at h
      · obtain ⟨j, h2, h⟩ := Option.bind_eq_some_iff.1 h
        split at h
        · obtain ⟨p, h3, h⟩ := Option.bind_eq_some_iff.1 h
          split at h
          · obtain ⟨k, h4, h⟩ := Option.bind_eq_some_iff.1 h
            obtain ⟨t, h5, h⟩ := Option.bind_eq_some_iff.1 h
            simp only [Option.some.injEq, Prod.mk.injEq] at h
            obtain ⟨rfl, _⟩ := h
            refine ⟨?_, ?_, (keyOf_wf _).1, (keyOf_wf _).2⟩
            · show (ByteArray.mk ((l.drop 1).take i).toArray).size ≤ _
              rw [mk_size, List.length_take, List.length_drop]
              omega
            · intro a ha
              have := attrsW_names _ _ p (Nat.le_refl _) h3 a ha
              simp only [List.length_drop] at this
              omega
          · cases h
        · cases h
      · cases h
    · cases h
  · cases h

theorem nodeW_fits : ∀ (f : Nat),
    (∀ many l n r m, l.length ≤ 1000000000 → nodeW f many l = some (n, r, m) → ∀ d, ∀ p ∈ flatD d n, Fits p.2) ∧
    (∀ many l ks r m, l.length ≤ 1000000000 → kidsW f many l = some (ks, r, m) → ks.length + r.length ≤ l.length ∧ ∀ k ∈ ks, ∀ d, ∀ p ∈ flatD d k, Fits p.2) := by
  intro f
  induction f with
  | zero =>
    constructor
    · intro many l n r m _ h; simp [nodeW] at h
    · intro many l ks r m _ h; simp [kidsW] at h
  | succ f ih =>
    constructor
    · intro many l n r m hl h
      rw [nodeW] at h
      split at h
      · obtain ⟨p, h1, h⟩ := Option.bind_eq_some_iff.1 h
        obtain ⟨q, h2, h⟩ := Option.bind_eq_some_iff.1 h
        have e1 := headW_len (n := p.1) (r := p.2) h1
        have e2 := headW_fits (n := p.1) (r := p.2) h1 hl
        have e3 := ih.2 _ _ q.1 q.2.1 q.2.2 (by omega) h2
        split at h
        · simp only [Option.some.injEq, Prod.mk.injEq] at h
          obtain ⟨rfl, _, _⟩ := h
          intro d x hx
          rw [flatD_eq] at hx
          rcases List.mem_cons.1 hx with rfl | hx
          · exact ⟨by dsimp only; omega, by dsimp only; omega, fun a ha => by have := e2.2.1 a ha; omega, e2.2.2.1, e2.2.2.2⟩
          · rw [flatDs_eq] at hx
            obtain ⟨k, hk, hx⟩ := List.mem_flatMap.1 hx
            exact e3.2 k hk _ x hx
        · cases h
      · cases h
    · intro many l ks r m hl h
      rw [kidsW] at h
      split at h
      · simp only [Option.some.injEq, Prod.mk.injEq] at h
        obtain ⟨rfl, rfl, rfl⟩ := h
        exact ⟨by simp, by simp⟩
      · obtain ⟨p, h1, h⟩ := Option.bind_eq_some_iff.1 h
        obtain ⟨q, h2, h⟩ := Option.map_eq_some_iff.1 h
        have e1 := (nodeW_len f).1 _ _ p.1 p.2.1 p.2.2 h1
        have e2 := ih.1 _ _ p.1 p.2.1 p.2.2 hl h1
        have e3 := ih.2 _ _ q.1 q.2.1 q.2.2 (by omega) h2
        simp only [Prod.mk.injEq] at h
        obtain ⟨rfl, rfl, rfl⟩ := h
        refine ⟨by rw [List.length_cons]; omega, fun k hk => ?_⟩
        rcases List.mem_cons.1 hk with rfl | hk
        · exact e2
        · exact e3.2 k hk

theorem readW_fits {l : List UInt8} {t : VN} (hl : l.length ≤ 1000000000) (h : readW l = some t) : ∀ d, ∀ p ∈ flatD d t, Fits p.2 := by
  rw [readW] at h
  obtain ⟨p, h1, h⟩ := Option.bind_eq_some_iff.1 h
  split at h
  · simp only [Option.some.injEq] at h
    subst h
    exact (nodeW_fits _).1 _ _ p.1 p.2.1 p.2.2 hl h1
  · cases h

end Go.Proofs.YtfpldbobfjkkfaaGreatDoor

namespace Go.Proofs.YtfpldbobfjkkfaaGreatDoor
open Go Go.RowKit

/-- An attribute's text. -/
def attrT (a : At) : List UInt8 := [32] ++ a.f0.data.toList ++ [61, 34] ++ escL a.f1.data.toList ++ [34]
/-- What a node's text begins with: as far as its kids. -/
def headT (keys : Bool) (k : St) (tg tx : ByteArray) (as_ : List At) : List UInt8 :=
  ([60] ++ tg.data.toList) ++ (if keys then [32, 35] ++ (keyText k.f0 k.f1).1 else []) ++ as_.flatMap attrT ++ ([62] ++ escL tx.data.toList)
mutual
/-- A tree's text. -/
def textT (keys : Bool) : VN → List UInt8
  | ⟨k, tg, tx, as_, ks⟩ => headT keys k tg tx as_ ++ textsT keys ks ++ ([60, 47] ++ tg.data.toList ++ [62])
def textsT (keys : Bool) : List VN → List UInt8
  | [] => []
  | k :: r => textT keys k ++ textsT keys r
end
theorem textT_eq (keys : Bool) (t : VN) : textT keys t = headT keys t.f0 t.f1 t.f2 t.f3 ++ textsT keys t.f4 ++ ([60, 47] ++ t.f1.data.toList ++ [62]) := by
  obtain ⟨k, tg, tx, as_, ks⟩ := t
  rw [textT]
theorem textsT_eq (keys : Bool) (ks : List VN) : textsT keys ks = ks.flatMap (textT keys) := by
  induction ks with
  | nil => rw [textsT]; rfl
  | cons k r ih => rw [textsT, ih]; rfl

/-- What a node's own parts must be that its text can be made. -/
structure Small (n : VN) : Prop where
  tag : n.f1.size ≤ 1000000000
  text : n.f2.size ≤ 1000000000
  attrs : n.f3.length ≤ 1000000000
  vals : ∀ a ∈ n.f3, a.f0.size ≤ 1000000000 ∧ a.f1.size ≤ 1000000000
  kids : n.f4.length ≤ 9000000000000000000

end Go.Proofs.YtfpldbobfjkkfaaGreatDoor
