/- A right tree is small. The round trip: a right tree's text is read as the tree, and what is read has the text that was read. Plain Lean, no program in sight. topiaryref15.Same is equality. -/
import Derived.Test.YtfpldbobfjkkfaaGreatDoorText
import Derived.Test.YtfpldbobfjkkfaaGreatDoorPureA
import Derived.Test.YtfpldbobfjkkfaaGreatDoorR1
import Derived.Test.YtfpldbobfjkkfaaGreatDoorR2
import Derived.Test.YtfpldbobfjkkfaaGreatDoorR3
namespace Go.Proofs.YtfpldbobfjkkfaaGreatDoor
open Go Go.RowKit

theorem nameB_len {l : List UInt8} (h : nameB l = true) : l.length ≤ 32 := by
  simp only [nameB, Bool.and_eq_true, decide_eq_true_eq] at h
  exact h.1.1.2
theorem attrsE_small : ∀ (as_ : List At) (p : Option ByteArray), attrsE p as_ = 0 → ∀ a ∈ as_, a.f0.size ≤ 32 ∧ a.f1.size ≤ 256 := by
  intro as_
  induction as_ with
  | nil => intro p _ a ha; cases ha
  | cons x r ih =>
    intro p h a ha
    rw [attrsE_cons] at h
    split at h
    · cases h
    · rename_i hn
      split at h
      · cases h
      · rename_i hv
        have hr : attrsE (some x.f0) r = 0 := by
          cases p with
          | none => simpa using h
          | some q =>
            dsimp only at h
            split at h
            · cases h
            · exact h
        rcases List.mem_cons.1 ha with rfl | ha
        · exact ⟨by rw [← len_list]; exact nameB_len (by simpa using hn), by omega⟩
        · exact ih _ hr a ha

theorem checkL_nodes : ∀ (l : List (Int × VN)) (s : List (Int × Int)), checkL s l = 0 → ∀ p ∈ l, nodeE p.2 = 0 := by
  intro l
  induction l with
  | nil => intro s _ p hp; cases hp
  | cons x r ih =>
    intro s h p hp
    rw [checkL] at h
    split at h
    · cases h
    · split at h
      · cases h
      · split at h
        · rename_i hx
          rcases List.mem_cons.1 hp with rfl | hp
          · exact hx
          · exact ih _ h p hp
        · rename_i hx
          exact absurd h hx

theorem nodeE_small {n : VN} (h : nodeE n = 0) : n.f1.size ≤ 32 ∧ n.f2.size ≤ 256 ∧ n.f3.length ≤ 4096 ∧ ∀ a ∈ n.f3, a.f0.size ≤ 32 ∧ a.f1.size ≤ 256 := by
  rw [nodeE] at h
  split at h
  · cases h
  · rename_i hn
    split at h
    · cases h
    · exact ⟨by rw [← len_list]; exact nameB_len (by simpa using hn), by omega, by omega, attrsE_small _ _ h⟩

theorem checkV_small {t : VN} (hF : ∀ p ∈ flatD 0 t, Fits p.2) (h : checkV t = 0) : (flatD 0 t).length ≤ 8192 ∧ ∀ p ∈ flatD 0 t, Small p.2 ∧ nodeE p.2 = 0 := by
  rw [checkV] at h
  split at h
  · cases h
  · refine ⟨by omega, fun p hp => ?_⟩
    have he := checkL_nodes _ _ h p hp
    obtain ⟨h1, h2, h3, h4⟩ := nodeE_small he
    exact ⟨⟨by omega, by omega, by omega, fun a ha => by have := h4 a ha; omega, (hF p hp).kids⟩, he⟩

theorem keyText_len (c r : Int) : (keyText c r).1.length ≤ 40 := by
  unfold keyText
  split
  · rename_i h
    simp only [rightB, Bool.and_eq_true, decide_eq_true_eq] at h
    have h1 := decDigits_len13 c.toNat (by omega)
    have h2 := decDigits_len13 r.toNat (by omega)
    simp only [List.length_append, List.length_cons, List.length_nil]
    omega
  · split
    · decide
    · split
      · decide
      · decide

theorem attrT_len {as_ : List At} (h : ∀ a ∈ as_, a.f0.size ≤ 32 ∧ a.f1.size ≤ 256) : (as_.flatMap attrT).length ≤ 1600 * as_.length := by
  induction as_ with
  | nil => simp
  | cons a r ih =>
    have h1 := h a List.mem_cons_self
    have h2 := ih (fun x hx => h x (List.mem_cons_of_mem _ hx))
    have h3 := escL_len a.f1.data.toList
    rw [len_list] at h3
    rw [List.flatMap_cons, List.length_append, List.length_cons]
    have h4 : (attrT a).length = 1 + a.f0.size + 2 + (escL a.f1.data.toList).length + 1 := by unfold attrT; simp only [List.length_append, List.length_cons, List.length_nil, len_list]
    omega

theorem headT_len {n : VN} (h : nodeE n = 0) (keys : Bool) : (headT keys n.f0 n.f1 n.f2 n.f3).length + (n.f1.size + 3) ≤ 7000000 := by
  obtain ⟨h1, h2, h3, h4⟩ := nodeE_small h
  have h5 := attrT_len h4
  have h6 := escL_len n.f2.data.toList
  have h7 := keyText_len n.f0.f0 n.f0.f1
  rw [len_list] at h6
  have h8 : (if keys then [32, 35] ++ (keyText n.f0.f0 n.f0.f1).1 else [] : List UInt8).length ≤ 42 := by
    cases keys
    · simp
    · simp only [if_true, List.length_append, List.length_cons, List.length_nil]; omega
  unfold headT
  simp only [List.length_append, List.length_cons, List.length_nil, len_list] at h8 ⊢
  omega

theorem textT_len (keys : Bool) : ∀ (s : Nat) (t : VN), SizeOf.sizeOf t ≤ s → ∀ (d : Int), (∀ p ∈ flatD d t, nodeE p.2 = 0) → (textT keys t).length ≤ 7000000 * (flatD d t).length := by
  intro s
  induction s with
  | zero =>
    intro t hs
    obtain ⟨a, b, c, d, e⟩ := t
    simp only [R.S28.mk.sizeOf_spec] at hs
    omega
  | succ s ih =>
    intro t hs d hF
    have h1 := headT_len (hF (d, t) (by rw [flatD_eq]; exact List.mem_cons_self)) keys
    have h2 : ∀ (ks : List VN), (∀ k ∈ ks, k ∈ t.f4) → (textsT keys ks).length ≤ 7000000 * (flatDs (wrap64 (d + 1)) ks).length := by
      intro ks
      induction ks with
      | nil => intro _; rw [textsT]; simp
      | cons k r ihk =>
        intro hk
        have hkm := hk k List.mem_cons_self
        have h3 := ih k (by have := size_kid hkm; omega) (wrap64 (d + 1)) (fun p hp => hF p (by rw [flatD_eq, flatDs_eq]; exact List.mem_cons_of_mem _ (List.mem_flatMap.2 ⟨k, hkm, hp⟩)))
        have h4 := ihk (fun x hx => hk x (List.mem_cons_of_mem _ hx))
        rw [textsT, flatDs, List.length_append, List.length_append]
        omega
    have h3 := h2 t.f4 (fun _ h => h)
    rw [textT_eq, flatD_eq]
    simp only [List.length_append, List.length_cons, List.length_nil, len_list]
    dsimp only at h1
    omega

end Go.Proofs.YtfpldbobfjkkfaaGreatDoor

namespace Go.Proofs.YtfpldbobfjkkfaaGreatDoor
open Go Go.RowKit

theorem pre_eq {p l : List UInt8} (h : p.isPrefixOf l = true) : l = p ++ l.drop p.length := by
  obtain ⟨r, rfl⟩ := List.isPrefixOf_iff_prefix.1 h
  simp

theorem anyIdx_at {a b : List UInt8} {c : UInt8} {stops : List UInt8} (h : ∀ x ∈ a, x ∉ stops) (hc : c ∈ stops) : anyIdx (a ++ c :: b) stops = some a.length := by
  unfold anyIdx
  rw [List.findIdx?_eq_some_iff_getElem]
  refine ⟨by simp, by simpa using hc, fun j hj => ?_⟩
  rw [List.getElem_append_left hj]
  simpa using h _ (List.getElem_mem hj)

/-! ### what was read -/

theorem attrsW_back : ∀ (n : Nat) (l : List UInt8) (p : List At × List UInt8), l.length ≤ n → attrsW l = some p → l = p.1.flatMap attrT ++ p.2 := by
  intro n
  induction n with
  | zero =>
    intro l p hl h
    have : l = [] := List.eq_nil_of_length_eq_zero (by omega)
    subst this
    rw [attrsW_end (by simp)] at h
    simp only [Option.some.injEq] at h
    subst h
    simp
  | succ n ih =>
    intro l p hl h
    cases hp : [32].isPrefixOf l with
    | false =>
      rw [attrsW_end hp] at h
      simp only [Option.some.injEq] at h
      subst h
      simp
    | true =>
      have hlen := pre_cons hp
      rw [attrsW, if_pos hp] at h
      obtain ⟨i, h1, h⟩ := Option.bind_eq_some_iff.1 h
      split at h
      · rename_i hp2
        obtain ⟨j, h2, h⟩ := Option.bind_eq_some_iff.1 h
        obtain ⟨v, h3, h⟩ := Option.bind_eq_some_iff.1 h
        split at h
        · rename_i hp3
          obtain ⟨q, h4, h5⟩ := Option.map_eq_some_iff.1 h
          have e6 := ih _ q (by simp only [List.length_drop]; omega) h4
          have e1 := pre_eq hp
          have e3 := pre_eq hp2
          have e5 := pre_eq hp3
          have hv := unescL_back h3
          subst h5
          simp only [List.length_cons, List.length_nil] at e1 e3 e5
          clear ih hl h h1 h2 h3 h4 hp hp2 hp3 hlen
          generalize l.drop 1 = A at *
          have e2 : A = A.take i ++ A.drop i := (List.take_append_drop i A).symm
          generalize A.take i = T at *
          generalize A.drop i = B at *
          generalize B.drop 2 = C at *
          have e4 : C = C.take j ++ C.drop j := (List.take_append_drop j C).symm
          generalize C.take j = U at *
          generalize C.drop j = D at *
          generalize D.drop 1 = E at *
          rw [e1, e2, e3, e4, e5, e6, ← hv]
          simp [attrT]
        · cases h
      · cases h

theorem headW_back {l r : List UInt8} {n : VN} (h : headW l = some (n, r)) : l = headT true n.f0 n.f1 n.f2 n.f3 ++ r ∧ n.f4 = [] ∧ nodeB n.f0.f0 n.f0.f1 = true := by
  rw [headW] at h
  split at h
  · rename_i hp1
    obtain ⟨i, h1, h⟩ := Option.bind_eq_some_iff.1 h
    split at h
    · split at h
      · rename_i hp2
        obtain ⟨j, h2, h⟩ := Option.bind_eq_some_iff.1 h
        split at h
        · rename_i hk
          obtain ⟨p, h3, h⟩ := Option.bind_eq_some_iff.1 h
          split at h
          · rename_i hp3
            obtain ⟨k, h4, h⟩ := Option.bind_eq_some_iff.1 h
            obtain ⟨t, h5, h⟩ := Option.bind_eq_some_iff.1 h
            simp only [Option.some.injEq, Prod.mk.injEq] at h
            obtain ⟨rfl, rfl⟩ := h
            obtain ⟨hk1, hk2⟩ := keyOf_back hk
            refine ⟨?_, rfl, hk1⟩
            have e6 := attrsW_back _ _ p (Nat.le_refl _) h3
            have e1 := pre_eq hp1
            have e3 := pre_eq hp2
            have e5 := pre_eq hp3
            have ht := unescL_back h5
            simp only [List.length_cons, List.length_nil] at e1 e3 e5
            clear h1 h2 h3 h4 h5 hp1 hp2 hp3 hk hk1
            dsimp only
            generalize keyOf _ = K at *
            generalize l.drop 1 = A at *
            have e2 : A = A.take i ++ A.drop i := (List.take_append_drop i A).symm
            generalize A.take i = T at *
            generalize A.drop i = B at *
            generalize B.drop 2 = C at *
            have e4 : C = C.take j ++ C.drop j := (List.take_append_drop j C).symm
            generalize C.take j = U at *
            generalize C.drop j = D at *
            obtain ⟨as_, E⟩ := p
            dsimp only at *
            generalize E.drop 1 = F at *
            have e7 : F = F.take k ++ F.drop k := (List.take_append_drop k F).symm
            generalize F.take k = V at *
            generalize F.drop k = G at *
            rw [e1, e2, e3, e4, e6, e5, e7, ← ht, ← hk2]
            simp [headT]
          · cases h
        · cases h
      · cases h
    · cases h
  · cases h

theorem nodeW_back : ∀ (f : Nat), (∀ many l n r m, nodeW f many l = some (n, r, m) → l = textT true n ++ r) ∧ (∀ many l ks r m, kidsW f many l = some (ks, r, m) → l = textsT true ks ++ r) := by
  intro f
  induction f with
  | zero =>
    constructor
    · intro many l n r m h; simp [nodeW] at h
    · intro many l ks r m h; simp [kidsW] at h
  | succ f ih =>
    constructor
    · intro many l n r m h
      rw [nodeW] at h
      split at h
      · obtain ⟨p, h1, h⟩ := Option.bind_eq_some_iff.1 h
        obtain ⟨q, h2, h⟩ := Option.bind_eq_some_iff.1 h
        have e1 := (headW_back (n := p.1) (r := p.2) h1).1
        have e2 := ih.2 _ _ q.1 q.2.1 q.2.2 h2
        split at h
        · rename_i hp
          have e3 := pre_eq hp
          simp only [Option.some.injEq, Prod.mk.injEq] at h
          obtain ⟨rfl, rfl, _⟩ := h
          rw [textT_eq]
          dsimp only
          rw [e1, e2]
          conv => lhs; rw [e3]
          simp [endW]
        · cases h
      · cases h
    · intro many l ks r m h
      rw [kidsW] at h
      split at h
      · simp only [Option.some.injEq, Prod.mk.injEq] at h
        obtain ⟨rfl, rfl, rfl⟩ := h
        rw [textsT]; rfl
      · obtain ⟨p, h1, h⟩ := Option.bind_eq_some_iff.1 h
        obtain ⟨q, h2, h⟩ := Option.map_eq_some_iff.1 h
        have e2 := ih.1 _ _ p.1 p.2.1 p.2.2 h1
        have e3 := ih.2 _ _ q.1 q.2.1 q.2.2 h2
        simp only [Prod.mk.injEq] at h
        obtain ⟨rfl, rfl, rfl⟩ := h
        rw [textsT, List.append_assoc, ← e3]
        exact e2

/-- What is read has the text that was read. -/
theorem readW_back {l : List UInt8} {t : VN} (h : readW l = some t) : textT true t = l := by
  rw [readW] at h
  obtain ⟨p, h1, h⟩ := Option.bind_eq_some_iff.1 h
  split at h
  · rename_i hr
    simp only [Option.some.injEq] at h
    subst h
    have := (nodeW_back _).1 _ _ p.1 p.2.1 p.2.2 h1
    rw [hr, List.append_nil] at this
    exact this.symm
  · cases h

/-! ### a right tree's text -/

theorem nameB_ch {l : List UInt8} (h : nameB l = true) : ∀ x ∈ l, nameCh x = true := by
  simp only [nameB, Bool.and_eq_true] at h
  exact List.all_eq_true.1 h.2
theorem nameB_head {l : List UInt8} (h : nameB l = true) : ∃ a r, l = a :: r ∧ letterB a = true := by
  simp only [nameB, Bool.and_eq_true, decide_eq_true_eq] at h
  cases l with
  | nil => simp at h
  | cons a r => exact ⟨a, r, rfl, by simpa using h.1.2⟩
theorem nameCh_bd {x : UInt8} (h : nameCh x = true) : 45 ≤ x.toNat ∧ x.toNat ≤ 122 ∧ x.toNat ≠ 61 ∧ x.toNat ≠ 62 ∧ x.toNat ≠ 60 := by
  simp only [nameCh, letterB, digB, Bool.or_eq_true, Bool.and_eq_true, decide_eq_true_eq] at h
  omega
theorem keyText_ch {c r : Int} : ∀ x ∈ (keyText c r).1, x ∉ ([32, 62] : List UInt8) := by
  have hd : ∀ n, ∀ x ∈ Lib.decDigits n, x ∉ ([32, 62] : List UInt8) := fun n x h => by
    have := List.all_eq_true.1 (dec_digs n) _ h
    simp only [digB, Bool.and_eq_true, decide_eq_true_eq] at this
    intro hx
    simp only [List.mem_cons, List.not_mem_nil, or_false] at hx
    rcases hx with rfl | rfl
    · revert this; decide
    · revert this; decide
  unfold keyText
  split
  · intro x hx
    rcases List.mem_append.1 hx with hx | hx
    · rcases List.mem_append.1 hx with hx | hx
      · exact hd _ x hx
      · simp only [List.mem_singleton] at hx
        subst hx
        decide
    · exact hd _ x hx
  · split
    · decide
    · split
      · decide
      · decide

theorem attrsW_text (rest : List UInt8) : ∀ (as_ : List At), (∀ a ∈ as_, nameB a.f0.data.toList = true) → attrsW (as_.flatMap attrT ++ 62 :: rest) = some (as_, 62 :: rest) := by
  intro as_
  induction as_ with
  | nil => intro _; exact attrsW_end rfl
  | cons a r ih =>
    intro hn
    have ih := ih (fun x hx => hn x (List.mem_cons_of_mem _ hx))
    have ha := nameB_ch (hn a List.mem_cons_self)
    obtain ⟨⟨⟨n⟩⟩, ⟨⟨v⟩⟩⟩ := a
    dsimp only at ha
    have e : (((⟨⟨⟨n⟩⟩, ⟨⟨v⟩⟩⟩ : At) :: r).flatMap attrT ++ 62 :: rest) = 32 :: (n ++ 61 :: (34 :: (escL v ++ 34 :: (r.flatMap attrT ++ 62 :: rest)))) := by simp [attrT]
    rw [e]
    generalize r.flatMap attrT ++ 62 :: rest = T at ih
    have h1 : anyIdx (n ++ 61 :: (34 :: (escL v ++ 34 :: T))) [61] = some n.length := anyIdx_at (fun x hx hm => by
      have := nameCh_bd (ha x hx)
      simp only [List.mem_singleton] at hm
      subst hm
      revert this
      decide) (by simp)
    have h2 : anyIdx (escL v ++ 34 :: T) [34] = some (escL v).length := anyIdx_at (fun x hx hm => by
      have := escL_safe v x hx
      simp only [List.mem_singleton] at hm
      subst hm
      revert this
      decide) (by simp)
    have d1 : (n ++ 61 :: (34 :: (escL v ++ 34 :: T))).drop n.length = 61 :: 34 :: (escL v ++ 34 :: T) := List.drop_left
    have t1 : (n ++ 61 :: (34 :: (escL v ++ 34 :: T))).take n.length = n := List.take_left
    have d2 : (escL v ++ 34 :: T).drop (escL v).length = 34 :: T := List.drop_left
    have t2 : (escL v ++ 34 :: T).take (escL v).length = escL v := List.take_left
    rw [attrsW, if_pos (by simp)]
    simp only [List.drop_succ_cons, List.drop_zero]
    rw [h1, Option.bind_some, d1, if_pos (by simp)]
    simp only [List.drop_succ_cons, List.drop_zero]
    rw [h2, Option.bind_some, t2, unescL_escL, Option.bind_some, d2, if_pos (by simp)]
    simp only [List.drop_succ_cons, List.drop_zero]
    rw [ih, t1]
    rfl

theorem headW_text {k : St} {tg tx : ByteArray} {as_ : List At} {rest : List UInt8} (hk : nodeB k.f0 k.f1 = true) (ht : nameB tg.data.toList = true) (ha : ∀ a ∈ as_, nameB a.f0.data.toList = true) :
    headW (headT true k tg tx as_ ++ 60 :: rest) = some (⟨k, tg, tx, as_, []⟩, 60 :: rest) := by
  have hc := nameB_ch ht
  obtain ⟨hkey, _⟩ := keyOf_text hk
  have hkc := keyText_ch (c := k.f0) (r := k.f1)
  obtain ⟨⟨g⟩⟩ := tg
  obtain ⟨⟨x⟩⟩ := tx
  obtain ⟨k0, k1⟩ := k
  dsimp only at *
  generalize hK : (keyText k0 k1).1 = K at *
  have e : headT true ⟨k0, k1⟩ ⟨⟨g⟩⟩ ⟨⟨x⟩⟩ as_ ++ 60 :: rest = 60 :: (g ++ 32 :: (35 :: (K ++ (as_.flatMap attrT ++ 62 :: (escL x ++ 60 :: rest))))) := by simp [headT, hK]
  rw [e]
  have hA := attrsW_text (escL x ++ 60 :: rest) as_ ha
  have h1 : anyIdx (g ++ 32 :: (35 :: (K ++ (as_.flatMap attrT ++ 62 :: (escL x ++ 60 :: rest))))) [32, 62] = some g.length := anyIdx_at (fun x hx hm => by
      have := nameCh_bd (hc x hx)
      simp only [List.mem_cons, List.not_mem_nil, or_false] at hm
      rcases hm with rfl | rfl
      · revert this; decide
      · revert this; decide) (by simp)
  obtain ⟨c, B, hB, hcm⟩ : ∃ c B, as_.flatMap attrT ++ 62 :: (escL x ++ 60 :: rest) = c :: B ∧ c ∈ ([32, 62] : List UInt8) := by
    cases as_ with
    | nil => exact ⟨62, _, rfl, by simp⟩
    | cons a r => exact ⟨32, _, by simp only [List.flatMap_cons, attrT, List.cons_append, List.nil_append, List.append_assoc]; rfl, by simp⟩
  have h2 : anyIdx (K ++ (as_.flatMap attrT ++ 62 :: (escL x ++ 60 :: rest))) [32, 62] = some K.length := by rw [hB]; exact anyIdx_at hkc hcm
  have h3 : anyIdx (escL x ++ 60 :: rest) [60] = some (escL x).length := anyIdx_at (fun y hy hm => by
      have := escL_safe x y hy
      simp only [List.mem_singleton] at hm
      subst hm
      revert this
      decide) (by simp)
  have d1 : (g ++ 32 :: (35 :: (K ++ (as_.flatMap attrT ++ 62 :: (escL x ++ 60 :: rest))))).drop g.length = 32 :: (35 :: (K ++ (as_.flatMap attrT ++ 62 :: (escL x ++ 60 :: rest)))) := List.drop_left
  have t1 : (g ++ 32 :: (35 :: (K ++ (as_.flatMap attrT ++ 62 :: (escL x ++ 60 :: rest))))).take g.length = g := List.take_left
  have d2 : (K ++ (as_.flatMap attrT ++ 62 :: (escL x ++ 60 :: rest))).drop K.length = as_.flatMap attrT ++ 62 :: (escL x ++ 60 :: rest) := List.drop_left
  have t2 : (K ++ (as_.flatMap attrT ++ 62 :: (escL x ++ 60 :: rest))).take K.length = K := List.take_left
  have d3 : (escL x ++ 60 :: rest).drop (escL x).length = 60 :: rest := List.drop_left
  have t3 : (escL x ++ 60 :: rest).take (escL x).length = escL x := List.take_left
  rw [headW, if_pos (by simp)]
  simp only [List.drop_succ_cons, List.drop_zero]
  rw [h1, Option.bind_some, t1, if_pos ht, d1, if_pos (by simp)]
  simp only [List.drop_succ_cons, List.drop_zero]
  rw [h2, Option.bind_some, t2, hkey, if_pos rfl, d2, hA, Option.bind_some]
  simp only [List.drop_succ_cons, List.drop_zero]
  rw [if_pos (by simp), h3, Option.bind_some, t3, unescL_escL, Option.bind_some, d3]

/-- A node is right, its key too. -/
def okN (p : Int × VN) : Prop := nodeB p.2.f0.f0 p.2.f0.f1 = true ∧ nameB p.2.f1.data.toList = true ∧ ∀ a ∈ p.2.f3, nameB a.f0.data.toList = true

theorem textT_head {t : VN} (h : nameB t.f1.data.toList = true) (keys : Bool) (r : List UInt8) : ∃ a q, textT keys t ++ r = 60 :: a :: q ∧ letterB a = true := by
  obtain ⟨a, q, h1, h2⟩ := nameB_head h
  obtain ⟨X, hX⟩ : ∃ X, textT keys t ++ r = 60 :: (t.f1.data.toList ++ X) := ⟨_, by rw [textT_eq, headT]; simp only [List.cons_append, List.nil_append, List.append_assoc]; rfl⟩
  exact ⟨a, q ++ X, by rw [hX, h1, List.cons_append], h2⟩

theorem nodeW_text : ∀ (s : Nat) (t : VN), SizeOf.sizeOf t ≤ s → ∀ (d : Int), (∀ p ∈ flatD d t, okN p) → ∀ (f many : Nat) (r : List UInt8), 2 * (flatD d t).length ≤ f → many + (flatD d t).length ≤ 8192 → nodeW f many (textT true t ++ r) = some (t, r, many + (flatD d t).length) := by
  intro s
  induction s with
  | zero =>
    intro t hs
    obtain ⟨a, b, c, d, e⟩ := t
    simp only [R.S28.mk.sizeOf_spec] at hs
    omega
  | succ s ih =>
    intro t hs d hF f many r hf hm
    have hself : (d, t) ∈ flatD d t := by rw [flatD_eq]; exact List.mem_cons_self
    have h1 := hF (d, t) hself
    have h2 : ∀ (ks : List VN), (∀ k ∈ ks, k ∈ t.f4) → ∀ (f many : Nat) (r : List UInt8), 2 * (flatDs (wrap64 (d + 1)) ks).length + 1 ≤ f → many + (flatDs (wrap64 (d + 1)) ks).length ≤ 8192 → [60, 47].isPrefixOf r = true → kidsW f many (textsT true ks ++ r) = some (ks, r, many + (flatDs (wrap64 (d + 1)) ks).length) := by
      intro ks
      induction ks with
      | nil =>
        intro _ f many r hf hm hr
        obtain ⟨f, rfl⟩ : ∃ j, f = j + 1 := ⟨f - 1, by omega⟩
        rw [textsT, List.nil_append, kidsW_end hr, flatDs]
        rfl
      | cons k q ihk =>
        intro hk f many r hf hm hr
        have hkm := hk k List.mem_cons_self
        have hFk : ∀ p ∈ flatD (wrap64 (d + 1)) k, okN p := fun p hp => hF p (by rw [flatD_eq, flatDs_eq]; exact List.mem_cons_of_mem _ (List.mem_flatMap.2 ⟨k, hkm, hp⟩))
        have hk1 : 1 ≤ (flatD (wrap64 (d + 1)) k).length := by rw [flatD_eq]; simp
        rw [flatDs, List.length_append] at hf hm ⊢
        obtain ⟨f, rfl⟩ : ∃ j, f = j + 1 := ⟨f - 1, by omega⟩
        have e1 := ih k (by have := size_kid hkm; omega) (wrap64 (d + 1)) hFk f many (textsT true q ++ r) (by omega) (by omega)
        have e2 := ihk (fun x hx => hk x (List.mem_cons_of_mem _ hx)) f (many + (flatD (wrap64 (d + 1)) k).length) r (by omega) (by omega) hr
        have hpre : [60, 47].isPrefixOf (textT true k ++ (textsT true q ++ r)) = false := by
          obtain ⟨a, q', h3, h4⟩ := textT_head (hFk (wrap64 (d + 1), k) (by rw [flatD_eq]; exact List.mem_cons_self)).2.1 true (textsT true q ++ r)
          rw [h3]
          have : ((47 : UInt8) == a) = false := by
            rw [beq_eq_false_iff_ne]
            rintro rfl
            revert h4
            decide
          simp [List.isPrefixOf, this]
        rw [textsT, List.append_assoc, kidsW, if_neg (by rw [hpre]; decide), e1, Option.bind_some]
        dsimp only
        rw [e2, Option.map_some, Nat.add_assoc]
    have hk1 : (flatD d t).length = 1 + (flatDs (wrap64 (d + 1)) t.f4).length := by rw [flatD_eq, List.length_cons]; omega
    obtain ⟨f, rfl⟩ : ∃ j, f = j + 1 := ⟨f - 1, by omega⟩
    obtain ⟨rest, hrest⟩ : ∃ rest, textsT true t.f4 ++ ([60, 47] ++ t.f1.data.toList ++ [62] ++ r) = 60 :: rest := by
      cases hks : t.f4 with
      | nil => exact ⟨_, by rw [textsT]; rfl⟩
      | cons k q =>
        obtain ⟨a, q', h3, _⟩ := textT_head (t := k) (hF (wrap64 (d + 1), k) (by rw [flatD_eq, flatDs_eq]; exact List.mem_cons_of_mem _ (List.mem_flatMap.2 ⟨k, by rw [hks]; exact List.mem_cons_self, by rw [flatD_eq]; exact List.mem_cons_self⟩))).2.1 true (textsT true q ++ ([60, 47] ++ t.f1.data.toList ++ [62] ++ r))
        exact ⟨_, by rw [textsT, List.append_assoc]; exact h3⟩
    have hH := headW_text (k := t.f0) (tg := t.f1) (tx := t.f2) (as_ := t.f3) (rest := rest) h1.1 h1.2.1 h1.2.2
    have hK := h2 t.f4 (fun _ h => h) f (many + 1) ([60, 47] ++ t.f1.data.toList ++ [62] ++ r) (by omega) (by omega) rfl
    rw [textT_eq, List.append_assoc, List.append_assoc, hrest, nodeW, if_pos (by omega), hH, Option.bind_some]
    dsimp only
    rw [← hrest, hK, Option.bind_some]
    dsimp only
    have hE : endW ⟨t.f0, t.f1, t.f2, t.f3, []⟩ = [60, 47] ++ t.f1.data.toList ++ [62] := rfl
    rw [hE, if_pos (by rw [List.isPrefixOf_iff_prefix]; exact List.prefix_append _ _), List.drop_left, hk1, Nat.add_assoc, show (⟨t.f0, t.f1, t.f2, t.f3, t.f4⟩ : VN) = t by cases t; rfl]

theorem textT_ge : ∀ (s : Nat) (t : VN), SizeOf.sizeOf t ≤ s → ∀ (d : Int) (keys : Bool), (flatD d t).length ≤ (textT keys t).length := by
  intro s
  induction s with
  | zero =>
    intro t hs
    obtain ⟨a, b, c, d, e⟩ := t
    simp only [R.S28.mk.sizeOf_spec] at hs
    omega
  | succ s ih =>
    intro t hs d keys
    have h2 : ∀ (ks : List VN), (∀ k ∈ ks, k ∈ t.f4) → (flatDs (wrap64 (d + 1)) ks).length ≤ (textsT keys ks).length := by
      intro ks
      induction ks with
      | nil => intro _; rw [flatDs]; simp
      | cons k r ihk =>
        intro hk
        have hkm := hk k List.mem_cons_self
        have h3 := ih k (by have := size_kid hkm; omega) (wrap64 (d + 1)) keys
        have h4 := ihk (fun x hx => hk x (List.mem_cons_of_mem _ hx))
        rw [textsT, flatDs, List.length_append, List.length_append]
        omega
    have h3 := h2 t.f4 (fun _ h => h)
    rw [textT_eq, flatD_eq]
    simp only [List.length_append, List.length_cons]
    omega

/-- A right tree's text is read as the tree. -/
theorem readW_text {t : VN} (h : ∀ p ∈ flatD 0 t, okN p) (hm : (flatD 0 t).length ≤ 8192) : readW (textT true t) = some t := by
  have h1 := textT_ge _ t (Nat.le_refl _) 0 true
  have h2 := nodeW_text _ t (Nat.le_refl _) 0 h (2 * (textT true t).length + 2) 0 [] (by omega) (by omega)
  rw [List.append_nil] at h2
  rw [readW, h2, Option.bind_some]
  rfl

/-! ### a tree that Check takes -/

theorem attrsE_names : ∀ (as_ : List At) (p : Option ByteArray), attrsE p as_ = 0 → ∀ a ∈ as_, nameB a.f0.data.toList = true := by
  intro as_
  induction as_ with
  | nil => intro p _ a ha; cases ha
  | cons x r ih =>
    intro p h a ha
    rw [attrsE_cons] at h
    split at h
    · cases h
    · rename_i hn
      split at h
      · cases h
      · have hr : attrsE (some x.f0) r = 0 := by
          cases p with
          | none => simpa using h
          | some q =>
            dsimp only at h
            split at h
            · cases h
            · exact h
        rcases List.mem_cons.1 ha with rfl | ha
        · simpa using hn
        · exact ih _ hr a ha

theorem nodeE_names {n : VN} (h : nodeE n = 0) : nameB n.f1.data.toList = true ∧ ∀ a ∈ n.f3, nameB a.f0.data.toList = true := by
  rw [nodeE] at h
  split at h
  · cases h
  · rename_i hn
    split at h
    · cases h
    · exact ⟨by simpa using hn, attrsE_names _ _ h⟩

theorem flatD_deep : ∀ (s : Nat) (t : VN), SizeOf.sizeOf t ≤ s → ∀ (d : Int), 0 ≤ d → d + (flatD d t).length ≤ 1000000000000 → ∀ p ∈ flatD d t, d ≤ p.1 := by
  intro s
  induction s with
  | zero =>
    intro t hs
    obtain ⟨a, b, c, d, e⟩ := t
    simp only [R.S28.mk.sizeOf_spec] at hs
    omega
  | succ s ih =>
    intro t hs d hd hl p hp
    rw [flatD_eq] at hp hl
    rw [List.length_cons] at hl
    have hw : wrap64 (d + 1) = d + 1 := wrap_in (by omega) (by omega)
    rw [hw] at hp hl
    rcases List.mem_cons.1 hp with rfl | hp
    · exact Int.le_refl _
    · rw [flatDs_eq] at hp hl
      obtain ⟨k, hk, hp⟩ := List.mem_flatMap.1 hp
      obtain ⟨a, b, hab⟩ := List.append_of_mem hk
      rw [hab, List.flatMap_append, List.flatMap_cons] at hl
      simp only [List.length_append] at hl
      have := ih k (by have := size_kid hk; omega) (d + 1) (by omega) (by omega) p hp
      omega

theorem checkL_keys : ∀ (l : List (Int × VN)) (s : List (Int × Int)), checkL s l = 0 → ∀ p ∈ l, 0 ≤ p.1 → nodeB p.2.f0.f0 p.2.f0.f1 = true := by
  intro l
  induction l with
  | nil => intro s _ p hp; cases hp
  | cons x r ih =>
    intro s h p hp h0
    rw [checkL] at h
    split at h
    · cases h
    · rename_i hk
      split at h
      · cases h
      · split at h
        · rcases List.mem_cons.1 hp with rfl | hp
          · simp only [Bool.or_eq_true, Bool.and_eq_true, decide_eq_true_eq, Bool.not_eq_true', not_or, not_and, Bool.not_eq_false] at hk
            rcases Int.lt_or_le 0 p.1 with h1 | h1
            · have := hk.2 h1
              unfold nodeB
              rw [this]
              rfl
            · exact hk.1 (by omega)
          · exact ih _ h p hp h0
        · rename_i hx
          exact absurd h hx

theorem checkV_ok {t : VN} (h : checkV t = 0) : (flatD 0 t).length ≤ 8192 ∧ ∀ p ∈ flatD 0 t, okN p := by
  rw [checkV] at h
  split at h
  · cases h
  · refine ⟨by omega, fun p hp => ?_⟩
    obtain ⟨h1, h2⟩ := nodeE_names (checkL_nodes _ _ h p hp)
    exact ⟨checkL_keys _ _ h p hp (flatD_deep _ t (Nat.le_refl _) 0 (Int.le_refl _) (by omega) p hp), h1, h2⟩

theorem read_text {t : VN} (h : checkV t = 0) : readW (textT true t) = some t := readW_text (checkV_ok h).2 (checkV_ok h).1

/-! ### the laws -/

/-- A tree's text, read, is the tree. -/
theorem print_parse {t : VN} (h : (textV true t).2 = 0) : parseV ⟨(textV true t).1.toArray⟩ = (t, 0) := by
  unfold textV at h ⊢
  by_cases hc : checkV t = 0
  · rw [if_pos hc] at h ⊢
    by_cases hl : 262144 < (textT true t).length
    · rw [if_pos hl] at h; cases h
    · rw [if_neg hl]
      dsimp only
      rw [parseV, mk_size, if_neg hl, mk_list, read_text hc]
      exact if_pos hc
  · rw [if_neg hc] at h
    exact absurd h hc

/-- What was read is told as it stood. -/
theorem parse_print {s : ByteArray} (h : (parseV s).2 = 0) : textV true (parseV s).1 = (s.data.toList, 0) := by
  unfold parseV at h ⊢
  by_cases hl : 262144 < s.size
  · rw [if_pos hl] at h; cases h
  · rw [if_neg hl] at h ⊢
    cases hr : readW s.data.toList with
    | none => rw [hr] at h; cases h
    | some t =>
      rw [hr] at h
      dsimp only at h ⊢
      by_cases hc : checkV t = 0
      · rw [if_pos hc]
        have := readW_back hr
        rw [textV, if_pos hc, this, len_list, if_neg hl]
      · rw [if_neg hc] at h; cases h

/-- Two right trees have one text just if they are the same. -/
theorem print_inj {a b : VN} (ha : (textV true a).2 = 0) (hb : (textV true b).2 = 0) : (textV true a).1 = (textV true b).1 ↔ a = b := by
  constructor
  · intro h
    have h1 := print_parse ha
    have h2 := print_parse hb
    rw [h, h2] at h1
    exact (Prod.mk.inj h1).1.symm
  · rintro rfl; rfl

end Go.Proofs.YtfpldbobfjkkfaaGreatDoor

namespace Go.Proofs.YtfpldbobfjkkfaaGreatDoor
open Go Go.RowKit Go.Proofs.YtfpldbobfjkkfaaGreatDoorW.PrintWords Go.Proofs.YtfpldbobfjkkfaaGreatDoorW.PrintLast

theorem toList_eq {a b : ByteArray} : a.toList = b.toList ↔ a = b := by
  constructor
  · intro h
    rw [Lib.toList_data, Lib.toList_data] at h
    have h2 : a.data = b.data := Array.toList_inj.1 h
    cases a
    cases b
    exact congrArg ByteArray.mk h2
  · intro h; rw [h]

theorem sameAttrs_l0 (as_ bs : List At) (hl : as_.length = bs.length) (hb : as_.length ≤ 9000000000000000000) : ∀ (n i k : Nat), as_.length - i = n → i ≤ as_.length → n < k →
    ∃ r, (r = true ↔ as_.drop i = bs.drop i) ∧ R.topiaryref15_SameAttrs.l0 k as_ bs (i : Int) = some r := by
  intro n
  induction n with
  | zero =>
    intro i k hn hi hk
    obtain ⟨k, rfl⟩ : ∃ j, k = j + 1 := ⟨k - 1, by omega⟩
    refine ⟨true, ?_, ?_⟩
    · rw [List.drop_of_length_le (by omega), List.drop_of_length_le (by omega)]; simp
    · rw [R.topiaryref15_SameAttrs.l0, if_neg (by omega)]
  | succ n ih =>
    intro i k hn hi hk
    obtain ⟨k, rfl⟩ : ∃ j, k = j + 1 := ⟨k - 1, by omega⟩
    have hlt : i < as_.length := by omega
    have hlt2 : i < bs.length := by omega
    obtain ⟨r, h1, h2⟩ := ih (i + 1) k (by omega) (by omega) (by omega)
    have hw : wrap64 ((i : Int) + 1) = ((i + 1 : Nat) : Int) := by rw [wrap_in (by omega) (by omega)]; rfl
    rw [drop_rd hlt, drop_rd hlt2, R.topiaryref15_SameAttrs.l0, if_pos (by omega), if_pos (by omega), if_pos (by omega), hw]
    by_cases he : R.rd_T60 as_ (i : Int) = R.rd_T60 bs (i : Int)
    · refine ⟨r, ?_, ?_⟩
      · rw [h1, he]; simp
      · rw [he, if_neg (by simp)]; exact h2
    · refine ⟨false, ?_, ?_⟩
      · simp [he]
      · rw [if_pos]
        generalize R.rd_T60 as_ (i : Int) = a at he ⊢
        generalize R.rd_T60 bs (i : Int) = b at he ⊢
        obtain ⟨a0, a1⟩ := a
        obtain ⟨b0, b1⟩ := b
        simp only [R.S60.mk.injEq, not_and] at he
        by_cases h0 : a0 = b0
        · have h3 := he h0
          have : ¬ a1.toList = b1.toList := fun h => h3 (toList_eq.1 h)
          simp [this]
        · have : ¬ a0.toList = b0.toList := fun h => h0 (toList_eq.1 h)
          simp [this]

theorem sameAttrs_f (as_ bs : List At) (hb : as_.length ≤ 9000000000000000000) : ∀ k, as_.length < k → ∃ r, (r = true ↔ as_ = bs) ∧ R.topiaryref15_SameAttrs.f k as_ bs = some r := by
  intro k hk
  by_cases hl : as_.length = bs.length
  · obtain ⟨r, h1, h2⟩ := sameAttrs_l0 as_ bs hl hb _ 0 k rfl (Nat.zero_le _) (by omega)
    exact ⟨r, by simpa using h1, by rw [R.topiaryref15_SameAttrs.f, if_pos (by omega)]; exact h2⟩
  · exact ⟨false, by constructor; (· intro h; cases h); (· intro h; exact absurd (congrArg List.length h) hl), by rw [R.topiaryref15_SameAttrs.f, if_neg (by omega)]⟩

theorem drop_rdV {ks : List VN} {k : Nat} (h : k < ks.length) : ks.drop k = R.rd_T28 ks (k : Int) :: ks.drop (k + 1) := by
  rw [List.drop_eq_getElem_cons h]
  unfold R.rd_T28
  simp [List.getD_eq_getElem?_getD, List.getElem?_eq_getElem h]

/-- A node's lists can be gone through. -/
structure FitS (n : VN) : Prop where
  attrs : n.f3.length ≤ 9000000000000000000
  kids : n.f4.length ≤ 9000000000000000000

theorem same_l0 (a b : VN) (hl : a.f4.length = b.f4.length) (hb : a.f4.length ≤ 9000000000000000000)
    (ih : ∀ k ∈ a.f4, ∀ c : VN, ∃ K r, (r = true ↔ k = c) ∧ ∀ j, K ≤ j → R.topiaryref15_Same.f j k.f0.f0 k.f0.f1 k.f1 k.f2 k.f3 k.f4 c.f0.f0 c.f0.f1 c.f1 c.f2 c.f3 c.f4 = some r) : ∀ (n i : Nat), a.f4.length - i = n → i ≤ a.f4.length →
    ∃ K r, (r = true ↔ a.f4.drop i = b.f4.drop i) ∧ ∀ k, K ≤ k → R.topiaryref15_Same.l0 k (i : Int) a.f0.f0 a.f0.f1 a.f1 a.f2 a.f3 a.f4 b.f0.f0 b.f0.f1 b.f1 b.f2 b.f3 b.f4 = some r := by
  intro n
  induction n with
  | zero =>
    intro i hn hi
    refine ⟨1, true, ?_, fun k hk => ?_⟩
    · rw [List.drop_of_length_le (by omega), List.drop_of_length_le (by omega)]; simp
    · obtain ⟨k, rfl⟩ : ∃ j, k = j + 1 := ⟨k - 1, by omega⟩
      rw [R.topiaryref15_Same.l0, if_neg (by omega)]
  | succ n ihn =>
    intro i hn hi
    have hlt : i < a.f4.length := by omega
    have hlt2 : i < b.f4.length := by omega
    obtain ⟨K1, r1, e1, f1⟩ := ih (R.rd_T28 a.f4 (i : Int)) (rd_mem hlt) (R.rd_T28 b.f4 (i : Int))
    obtain ⟨K2, r2, e2, f2⟩ := ihn (i + 1) (by omega) (by omega)
    have hw : wrap64 ((i : Int) + 1) = ((i + 1 : Nat) : Int) := by rw [wrap_in (by omega) (by omega)]; rfl
    refine ⟨K1 + K2 + 1, if r1 = true then r2 else false, ?_, fun k hk => ?_⟩
    · rw [drop_rdV hlt, drop_rdV hlt2, List.cons.injEq, ← e1, ← e2]
      cases r1 <;> simp
    · obtain ⟨k, rfl⟩ : ∃ j, k = j + 1 := ⟨k - 1, by omega⟩
      rw [R.topiaryref15_Same.l0, if_pos (by omega), if_pos (by omega), if_pos (by omega), f1 k (by omega), Option.bind_some, hw, f2 k (by omega)]
      cases r1 <;> rfl

theorem same_f : ∀ (s : Nat) (a : VN), SizeOf.sizeOf a ≤ s → ∀ (d : Int), (∀ p ∈ flatD d a, FitS p.2) → ∀ b : VN,
    ∃ K r, (r = true ↔ a = b) ∧ ∀ k, K ≤ k → R.topiaryref15_Same.f k a.f0.f0 a.f0.f1 a.f1 a.f2 a.f3 a.f4 b.f0.f0 b.f0.f1 b.f1 b.f2 b.f3 b.f4 = some r := by
  intro s
  induction s with
  | zero =>
    intro t hs
    obtain ⟨a, b, c, d, e⟩ := t
    simp only [R.S28.mk.sizeOf_spec] at hs
    omega
  | succ s ih =>
    intro a hs d hF b
    have hself : FitS a := hF (d, a) (by rw [flatD_eq]; exact List.mem_cons_self)
    have hj : ∀ k, R.topiaryref15_Same.j0 (k + 1) true a.f0.f0 a.f0.f1 a.f1 a.f2 a.f3 a.f4 b.f0.f0 b.f0.f1 b.f1 b.f2 b.f3 b.f4 = some false := fun k => by rw [R.topiaryref15_Same.j0, if_pos rfl]
    have no : (a ≠ b) → (∀ k, R.topiaryref15_Same.f (k + 3 + a.f3.length) a.f0.f0 a.f0.f1 a.f1 a.f2 a.f3 a.f4 b.f0.f0 b.f0.f1 b.f1 b.f2 b.f3 b.f4 = some false) →
        ∃ K r, (r = true ↔ a = b) ∧ ∀ k, K ≤ k → R.topiaryref15_Same.f k a.f0.f0 a.f0.f1 a.f1 a.f2 a.f3 a.f4 b.f0.f0 b.f0.f1 b.f1 b.f2 b.f3 b.f4 = some r := fun hne h =>
      ⟨3 + a.f3.length, false, by simp [hne], fun k hk => by have := h (k - 3 - a.f3.length); rwa [show k - 3 - a.f3.length + 3 + a.f3.length = k by omega] at this⟩
    by_cases h0 : a.f0.f0 = b.f0.f0 ∧ a.f0.f1 = b.f0.f1
    · have c0 : (!(a.f0.f0 == b.f0.f0) || (!(a.f0.f1 == b.f0.f1))) = false := by rw [h0.1, h0.2]; simp
      by_cases h1 : a.f1 = b.f1
      · by_cases h2 : a.f2 = b.f2
        · by_cases h3 : a.f3 = b.f3
          · by_cases h4 : a.f4.length = b.f4.length
            · obtain ⟨K, r, e, f⟩ := same_l0 a b h4 hself.kids (fun k hk c => ih k (by have := size_kid hk; omega) (wrap64 (d + 1)) (fun p hp => hF p (by rw [flatD_eq, flatDs_eq]; exact List.mem_cons_of_mem _ (List.mem_flatMap.2 ⟨k, hk, hp⟩))) c) _ 0 rfl (Nat.zero_le _)
              refine ⟨K + a.f3.length + 3, r, ?_, fun k hk => ?_⟩
              · rw [e]
                obtain ⟨⟨x0, x1⟩, x2, x3, x4, x5⟩ := a
                obtain ⟨⟨y0, y1⟩, y2, y3, y4, y5⟩ := b
                dsimp only at *
                obtain ⟨h0, h0'⟩ := h0
                subst h0 h0' h1 h2 h3
                simp
              · obtain ⟨k, rfl⟩ : ∃ j, k = j + 1 + 1 := ⟨k - 2, by omega⟩
                obtain ⟨r', e', f'⟩ := sameAttrs_f a.f3 b.f3 hself.attrs (k + 1) (by omega)
                have : r' = true := e'.2 h3
                subst this
                rw [R.topiaryref15_Same.f, if_neg (by rw [c0]; decide), if_pos (toList_eq.2 h1), if_pos (toList_eq.2 h2), f', Option.bind_some, if_pos rfl, h4]
                rw [R.topiaryref15_Same.j0, if_neg (by simp)]
                exact f k (by omega)
            · refine no (fun e => h4 (by rw [e])) (fun k => ?_)
              obtain ⟨r', e', f'⟩ := sameAttrs_f a.f3 b.f3 hself.attrs (k + 2 + a.f3.length) (by omega)
              have : r' = true := e'.2 h3
              subst this
              rw [show k + 3 + a.f3.length = (k + 2 + a.f3.length) + 1 by omega, R.topiaryref15_Same.f, if_neg (by rw [c0]; decide), if_pos (toList_eq.2 h1), if_pos (toList_eq.2 h2), f', Option.bind_some, if_pos rfl]
              have c4 : ((a.f4.length : Int) != (b.f4.length : Int)) = true := by rw [bne_iff_ne]; omega
              rw [c4, show k + 2 + a.f3.length = (k + 1 + a.f3.length) + 1 by omega, hj]
          · refine no (fun e => h3 (by rw [e])) (fun k => ?_)
            obtain ⟨r', e', f'⟩ := sameAttrs_f a.f3 b.f3 hself.attrs (k + 2 + a.f3.length) (by omega)
            have : r' = false := by cases r' with | false => rfl | true => exact absurd (e'.1 rfl) h3
            subst this
            rw [show k + 3 + a.f3.length = (k + 2 + a.f3.length) + 1 by omega, R.topiaryref15_Same.f, if_neg (by rw [c0]; decide), if_pos (toList_eq.2 h1), if_pos (toList_eq.2 h2), f', Option.bind_some, if_neg (by decide), show k + 2 + a.f3.length = (k + 1 + a.f3.length) + 1 by omega, hj]
        · refine no (fun e => h2 (by rw [e])) (fun k => ?_)
          rw [show k + 3 + a.f3.length = (k + 1 + a.f3.length) + 1 + 1 by omega, R.topiaryref15_Same.f, if_neg (by rw [c0]; decide), if_pos (toList_eq.2 h1), if_neg (fun h => h2 (toList_eq.1 h)), hj]
      · refine no (fun e => h1 (by rw [e])) (fun k => ?_)
        rw [show k + 3 + a.f3.length = (k + 1 + a.f3.length) + 1 + 1 by omega, R.topiaryref15_Same.f, if_neg (by rw [c0]; decide), if_neg (fun h => h1 (toList_eq.1 h)), hj]
    · refine no (fun e => h0 (by rw [e]; exact ⟨rfl, rfl⟩)) (fun k => ?_)
      have c0 : (!(a.f0.f0 == b.f0.f0) || (!(a.f0.f1 == b.f0.f1))) = true := by
        simp only [Bool.or_eq_true, Bool.not_eq_true', beq_eq_false_iff_ne]
        by_cases h : a.f0.f0 = b.f0.f0
        · exact .inr (fun h' => h0 ⟨h, h'⟩)
        · exact .inl h
      rw [show k + 3 + a.f3.length = (k + 1 + a.f3.length) + 1 + 1 by omega, R.topiaryref15_Same.f, if_pos c0, hj]

/-- The walk of topiaryref15.Same: equality. -/
theorem same_any (a b : VN) (ca cb : Array Value) (w : World) (hF : ∀ p ∈ flatD 0 a, FitS p.2) (ha : R.k28.K w a ca.toList) (hb : R.k28.K w b cb.toList) :
    Calls Tryz.prog 7 #[.agg ca, .agg cb] w fun e w' => (∃ r : Bool, e = .returned (.bool r) ∧ (r = true ↔ a = b)) ∧ Below w.heap.size w w' := by
  obtain ⟨A4, c4, A5, c5, hca, h1, h2, h3, h4⟩ := R.k28_open ha
  obtain ⟨B4, d4, B5, d5, hcb, g1, g2, g3, g4⟩ := R.k28_open hb
  obtain rfl : ca = #[.int .i64 a.f0.f0, .int .i64 a.f0.f1, .string a.f1, .string a.f2, .slice A4 a.f3.length c4, .slice A5 a.f4.length c5] := Array.toList_inj.1 hca
  obtain rfl : cb = #[.int .i64 b.f0.f0, .int .i64 b.f0.f1, .string b.f1, .string b.f2, .slice B4 b.f3.length d4, .slice B5 b.f4.length d5] := Array.toList_inj.1 hcb
  obtain ⟨K, r, e, f⟩ := same_f _ a (Nat.le_refl _) 0 hF b
  refine (R.topiaryref15_Same.calls K a.f0.f0 a.f0.f1 a.f1 a.f2 A4 c4 a.f3 A5 c5 a.f4 b.f0.f0 b.f0.f1 b.f1 b.f2 B4 d4 b.f3 B5 d5 b.f4 r w h2 h1 h4 h3 g2 g1 g4 g3 (f K (Nat.le_refl _))).mono ?_
  rintro e' w' ⟨rfl, hbel⟩
  exact ⟨⟨r, rfl, e⟩, hbel⟩

end Go.Proofs.YtfpldbobfjkkfaaGreatDoor
