/- What the reference's functions of escaping come to: the program's own. What the reference's functions of names and keys come to: the program's own. -/
import Derived.Test.YtfpldbobfjkkfaaGreatDoorPureA
import Derived.Test.YtfpldbobfjkkfaaGreatDoorPureR
import Derived.Test.YtfpldbobfjkkfaaGreatDoorPure2
namespace Go.Proofs.YtfpldbobfjkkfaaGreatDoor
open Go Go.RowKit Go.Proofs Go.Proofs.YtfpldbobfjkkfaaGreatDoorW.PrintWords Go.Proofs.YtfpldbobfjkkfaaGreatDoorW.PrintLast Go.Proofs.YtfpldbobfjkkfaaGreatDoor.R

theorem nums_back (l : List UInt8) : strOfNums (l.map fun b => (b.toNat : Int)) = ⟨l.toArray⟩ := by
  unfold strOfNums
  rw [List.map_map]
  congr 1
  congr 1
  conv => rhs; rw [← List.map_id l]
  apply List.map_congr_left
  intro b _
  simp

theorem num_one {n : Int} (h0 : 0 ≤ n) (h1 : n ≤ 9) : strOfNums [(wrap64 (48 + n)) % 256] = ⟨[UInt8.ofNat (48 + n.toNat)].toArray⟩ := by
  rw [wrap_in (by omega) (by omega)]
  unfold strOfNums
  have : ((48 + n) % 256).toNat = 48 + n.toNat := by omega
  simp [this]

/-- The digits of a whole number. -/
theorem digits_l0 : ∀ (u k : Nat) (rest : List UInt8), u + rest.length ≤ 1000000000000000000 → u < k →
    topiaryref01_Digits.l0 k (u : Int) ⟨([UInt8.ofNat (48 + u % 10)] ++ rest).toArray⟩ = some ⟨(Lib.decDigits u ++ rest).toArray⟩ := by
  intro u
  induction u using Nat.strongRecOn with
  | ind u ih =>
    intro k rest hb hk
    obtain ⟨k, rfl⟩ : ∃ m, k = m + 1 := ⟨k - 1, by omega⟩
    rw [topiaryref01_Digits.l0, dec_eq]
    by_cases h : u < 10
    · rw [if_neg (by omega), if_pos h, Nat.mod_eq_of_lt h]
    · have e1 : wrap64 (Int.tdiv (u : Int) 10) = ((u / 10 : Nat) : Int) := by
        rw [Int.tdiv_eq_ediv_of_nonneg (by omega)]
        rw [wrap_in (by omega) (by omega)]
        omega
      have e2 : Int.tmod ((u / 10 : Nat) : Int) 10 = ((u / 10 % 10 : Nat) : Int) := by
        rw [Int.tmod_eq_emod_of_nonneg (by omega)]
        omega
      rw [if_pos (by omega), if_neg h, e1, e2, Option.bind_some, num_one (by omega) (by omega), Int.toNat_natCast, if_pos]
      · have := ih (u / 10) (by omega) k ([UInt8.ofNat (48 + u % 10)] ++ rest) (by simp; omega) (by omega)
        rw [List.append_assoc, ← this]
        congr 1
      · rw [mk_size, mk_size]
        simp
        omega

theorem digits_f (u k : Nat) (hb : u ≤ 1000000000000000000) (hk : u < k) : topiaryref01_Digits.f k (u : Int) = some ⟨(Lib.decDigits u).toArray⟩ := by
  unfold topiaryref01_Digits.f
  rw [Int.tmod_eq_emod_of_nonneg (by omega), num_one (by omega) (by omega)]
  have := digits_l0 u k [] (by simpa using hb) hk
  simp only [List.append_nil] at this
  have e : ((u : Int) % 10).toNat = u % 10 := by omega
  rw [e, this]

theorem one_f (b : UInt8) (k : Nat) (hk : 256 ≤ k) : topiaryref20_One.f k (b.toNat : Int) = some ⟨(escB b).toArray⟩ := by
  have hlt := b.toNat_lt
  have hd := digits_f b.toNat k (by omega) (by omega)
  have hdl := decDigits_len b.toNat (by omega)
  unfold topiaryref20_One.f escB
  by_cases h1 : b.toNat = 38
  · rw [if_pos (by omega), if_pos h1]
  rw [if_neg (by omega), if_neg h1]
  by_cases h2 : b.toNat = 60
  · rw [if_pos (by omega), if_pos h2]
  rw [if_neg (by omega), if_neg h2]
  by_cases h3 : b.toNat = 62
  · rw [if_pos (by omega), if_pos h3]
  rw [if_neg (by omega), if_neg h3]
  by_cases h4 : b.toNat = 34
  · rw [if_pos (by omega), if_pos h4]
  rw [if_neg (by omega), if_neg h4]
  have hw : wrap64 ((b.toNat : Int)) = (b.toNat : Int) := wrap_in (by omega) (by omega)
  have hs1 : (⟨(Lib.decDigits b.toNat).toArray⟩ : ByteArray).size ≤ 3 := by rw [mk_size]; exact hdl
  have hs2 : ((⟨#[38, 35]⟩ : ByteArray) ++ (⟨(Lib.decDigits b.toNat).toArray⟩ : ByteArray)).size ≤ 5 := by
    rw [ByteArray.size_append]
    have : (⟨#[38, 35]⟩ : ByteArray).size = 2 := rfl
    omega
  have hjoin : ((⟨#[38, 35]⟩ : ByteArray) ++ (⟨(Lib.decDigits b.toNat).toArray⟩ : ByteArray)) ++ (⟨#[59]⟩ : ByteArray) = ⟨([38, 35] ++ Lib.decDigits b.toNat ++ [59]).toArray⟩ := by
    apply ByteArray.ext
    simp
  by_cases h5 : b.toNat < 32
  · rw [if_pos (by omega), if_pos (.inl h5), hw, hd, Option.bind_some, if_pos (by omega), if_pos (by omega), hjoin]
  rw [if_neg (by omega)]
  by_cases h6 : 126 < b.toNat
  · rw [if_pos (by omega), if_pos (.inr h6), hw, hd, Option.bind_some, if_pos (by omega), if_pos (by omega), hjoin]
  rw [if_neg (by omega), if_neg (by omega)]
  have := nums_back [b]
  rw [List.map_cons, List.map_nil] at this
  rw [this]

theorem begins_f (s t : ByteArray) (i : Nat) (hi : i ≤ s.size) (hs : s.size ≤ 1000000000000000000) (ht : t.size ≤ 1000000000000000000) : topiaryref20_begins.f s (i : Int) t = some (t.data.toList.isPrefixOf (s.data.toList.drop i)) := by
  have hw : wrap64 ((i : Int) + (t.size : Int)) = ((i + t.size : Nat) : Int) := by rw [wrap_in (by omega) (by omega)]; rfl
  unfold topiaryref20_begins.f
  rw [hw]
  by_cases h : i + t.size ≤ s.size
  · rw [if_pos (by omega), if_pos (by omega), if_pos (by omega), Int.toNat_natCast, Int.toNat_natCast, Lib.toList_data, Lib.toList_data, Lib.extract_data, Nat.add_sub_cancel_left]
    congr 1
    rw [Bool.eq_iff_iff, beq_iff_eq, List.isPrefixOf_iff_prefix, List.prefix_iff_eq_take, len_list]
    exact eq_comm
  · rw [if_neg (by omega)]
    congr 1
    symm
    rw [Bool.eq_false_iff]
    intro hp
    have := (List.isPrefixOf_iff_prefix.1 hp).length_le
    rw [len_list, List.length_drop, len_list] at this
    omega

theorem next_l0 (s : ByteArray) (i : Nat) (hi : i ≤ s.size) (hs : s.size ≤ 100000000000000000) : ∀ (n j k : Nat), 256 - j = n → j ≤ 256 → n + 256 < k →
    ∃ r : Int × Int, topiaryref20_next.l0 k s (i : Int) (j : Int) = some r ∧ ((∃ b : UInt8, r = ((b.toNat : Int), ((i + (escB b).length : Nat) : Int)) ∧ (escB b).isPrefixOf (s.data.toList.drop i) = true) ∨
      (r = (0, -1) ∧ ∀ b : UInt8, j ≤ b.toNat → 1 < (escB b).length → (escB b).isPrefixOf (s.data.toList.drop i) = false)) := by
  intro n
  induction n with
  | zero =>
    intro j k hn hj hk
    obtain ⟨k, rfl⟩ : ∃ m, k = m + 1 := ⟨k - 1, by omega⟩
    refine ⟨(0, -1), by rw [topiaryref20_next.l0, if_neg (by omega)], .inr ⟨rfl, fun b hb => ?_⟩⟩
    have := b.toNat_lt
    omega
  | succ n ih =>
    intro j k hn hj hk
    obtain ⟨k, rfl⟩ : ∃ m, k = m + 1 := ⟨k - 1, by omega⟩
    have hjb : (UInt8.ofNat j).toNat = j := by rw [UInt8.toNat_ofNat']; omega
    have hm : ((j : Int)) % 256 = ((UInt8.ofNat j).toNat : Int) := by rw [hjb]; omega
    have hl := escB_len (UInt8.ofNat j)
    have hw : wrap64 ((j : Int) + 1) = ((j + 1 : Nat) : Int) := by rw [wrap_in (by omega) (by omega)]; rfl
    have hw2 : wrap64 ((i : Int) + ((escB (UInt8.ofNat j)).length : Int)) = ((i + (escB (UInt8.ofNat j)).length : Nat) : Int) := by rw [wrap_in (by omega) (by omega)]; rfl
    obtain ⟨r, h1, h2⟩ := ih (j + 1) k (by omega) (by omega) (by omega)
    have hrest : ((1 < (escB (UInt8.ofNat j)).length → (escB (UInt8.ofNat j)).isPrefixOf (s.data.toList.drop i) = false)) → ((∃ b : UInt8, r = ((b.toNat : Int), ((i + (escB b).length : Nat) : Int)) ∧ (escB b).isPrefixOf (s.data.toList.drop i) = true) ∨
      (r = (0, -1) ∧ ∀ b : UInt8, j ≤ b.toNat → 1 < (escB b).length → (escB b).isPrefixOf (s.data.toList.drop i) = false)) := by
      intro h
      rcases h2 with h2 | ⟨h2, h3⟩
      · exact .inl h2
      · refine .inr ⟨h2, fun b hb hb1 => ?_⟩
        by_cases e : j = b.toNat
        · have : UInt8.ofNat j = b := by rw [e]; simp
          rw [this] at h
          exact h hb1
        · exact h3 b (by omega) hb1
    rw [topiaryref20_next.l0, if_pos (by omega), hm, one_f _ _ (by omega), Option.bind_some, mk_size]
    by_cases hlen : 1 < (escB (UInt8.ofNat j)).length
    · rw [if_pos (by omega), begins_f s _ i hi (by omega) (by rw [mk_size]; omega), Option.bind_some, mk_list]
      by_cases hp : (escB (UInt8.ofNat j)).isPrefixOf (s.data.toList.drop i) = true
      · refine ⟨_, by rw [if_pos hp], .inl ⟨UInt8.ofNat j, ?_, hp⟩⟩
        rw [hw2]
      · refine ⟨r, ?_, hrest (fun _ => Bool.eq_false_iff.2 hp)⟩
        rw [if_neg hp, hw, h1]
    · refine ⟨r, ?_, hrest (fun h => absurd h hlen)⟩
      rw [if_neg (by omega), hw, h1]

theorem next_f (s : ByteArray) (i : Nat) (hi : i < s.size) (hs : s.size ≤ 100000000000000000) (k : Nat) (hk : 1000 ≤ k) :
    ∃ r : Int × Int, topiaryref20_next.f k s (i : Int) = some r ∧ ((∃ b : UInt8, r = ((b.toNat : Int), ((i + (escB b).length : Nat) : Int)) ∧ (escB b).isPrefixOf (s.data.toList.drop i) = true) ∨
      (r = (0, -1) ∧ ∀ b : UInt8, (escB b).isPrefixOf (s.data.toList.drop i) = false)) := by
  unfold topiaryref20_next.f
  rw [if_pos (by omega), if_pos (by omega), bt_nat s i hi]
  have hd := drop_cons s i hi
  generalize s.data.toList[i]'(by rw [len_list]; exact hi) = c at hd ⊢
  by_cases hc : (c.toNat : Int) = 38
  · rw [if_pos hc]
    obtain ⟨r, h1, h2⟩ := next_l0 s i (by omega) hs 256 0 k rfl (by omega) (by omega)
    refine ⟨r, h1, ?_⟩
    rcases h2 with h2 | ⟨h2, h3⟩
    · exact .inl h2
    · refine .inr ⟨h2, fun b => ?_⟩
      rcases escB_form b with ⟨e1, e2, _⟩ | ⟨e, e1, _, _, e4, _⟩
      · rw [e1, hd]
        have : (b == c) = false := by
          rw [beq_eq_false_iff_ne]
          rintro rfl
          omega
        simp [List.isPrefixOf, this]
      · exact h3 b (Nat.zero_le _) (by rw [e1]; simp)
  · rw [if_neg hc, one_f _ _ (by omega), Option.bind_some, show ([(c.toNat : Int)] : List Int) = [c].map fun b => (b.toNat : Int) from rfl, nums_back, Lib.toList_data, Lib.toList_data, mk_list, mk_list]
    by_cases he : escB c = [c]
    · rw [if_pos he]
      refine ⟨_, rfl, .inl ⟨c, ?_, by rw [he, hd]; simp [List.isPrefixOf]⟩⟩
      rw [he, wrap_in (by omega) (by omega)]
      rfl
    · rw [if_neg he]
      refine ⟨_, rfl, .inr ⟨rfl, fun b => ?_⟩⟩
      rcases escB_form b with ⟨e1, e2, _⟩ | ⟨e, e1, _⟩
      · rw [e1, hd]
        have : (b == c) = false := by
          rw [beq_eq_false_iff_ne]
          rintro rfl
          exact he e1
        simp [List.isPrefixOf, this]
      · rw [e1, hd]
        have : ((38 : UInt8) == c) = false := by
          rw [beq_eq_false_iff_ne]
          rintro rfl
          exact hc rfl
        simp [List.isPrefixOf, this]

theorem unescL_step {b : UInt8} {l : List UInt8} (h : (escB b).isPrefixOf l = true) : unescL l = (unescL (l.drop (escB b).length)).map fun o => b :: o := by
  obtain ⟨r, rfl⟩ := List.isPrefixOf_iff_prefix.1 h
  rw [List.drop_left]
  have e : ∀ o, escL (b :: o) = escB b ++ escL o := fun o => by simp [escL]
  cases hr : unescL r with
  | some o => rw [Option.map_some, unescL_iff, e, unescL_back hr]
  | none =>
    rw [Option.map_none]
    unfold unescL
    rw [unescRaw_escB]
    cases hr2 : unescRaw r with
    | none => rfl
    | some o =>
      dsimp only [Option.map_some]
      rw [if_neg]
      intro h3
      rw [e, List.append_cancel_left_eq] at h3
      rw [unescL_iff.2 h3] at hr
      cases hr
theorem unescL_stop {l : List UInt8} (hl : l ≠ []) (h : ∀ b : UInt8, (escB b).isPrefixOf l = false) : unescL l = none := by
  cases hu : unescL l with
  | none => rfl
  | some o =>
    exfalso
    have he := unescL_back hu
    cases o with
    | nil => exact hl he.symm
    | cons b r =>
      have : (escB b).isPrefixOf l = true := by
        rw [List.isPrefixOf_iff_prefix, ← he]
        exact ⟨escL r, by simp [escL]⟩
      rw [h b] at this
      cases this

/-- What Unescape tells. -/
def unescR (acc : List UInt8) (o : Option (List UInt8)) : ByteArray × Bool :=
  match o with
  | some x => (⟨(acc ++ x).toArray⟩, true)
  | none => (⟨#[]⟩, false)

theorem unescape_l0 (s : ByteArray) (hs : s.size ≤ 10000000000000) : ∀ (n i k : Nat) (acc : List UInt8), s.size - i ≤ n → i ≤ s.size → acc.length + n ≤ 100000000000000 → n + 1001 < k →
    topiaryref20_Unescape.l0 k s (acc.map fun b => (b.toNat : Int)) (i : Int) = some (unescR acc (unescL (s.data.toList.drop i))) := by
  intro n
  induction n with
  | zero =>
    intro i k acc hn hi hb hk
    obtain ⟨k, rfl⟩ : ∃ m, k = m + 1 := ⟨k - 1, by omega⟩
    rw [topiaryref20_Unescape.l0, if_neg (by omega), List.drop_of_length_le (by rw [len_list]; omega), nums_back]
    have : unescL [] = some [] := unescL_iff.2 rfl
    rw [this]
    simp [unescR]
  | succ n ih =>
    intro i k acc hn hi hb hk
    obtain ⟨k, rfl⟩ : ∃ m, k = m + 1 := ⟨k - 1, by omega⟩
    by_cases hlt : i < s.size
    · obtain ⟨r, h1, h2⟩ := next_f s i hlt (by omega) k (by omega)
      rw [topiaryref20_Unescape.l0, if_pos (by omega), h1, Option.bind_some]
      rcases h2 with ⟨b, rfl, hp⟩ | ⟨rfl, h3⟩
      · have hpos := escB_pos b
        have hlen := (List.isPrefixOf_iff_prefix.1 hp).length_le
        rw [List.length_drop, len_list] at hlen
        dsimp only
        rw [if_neg (by omega), if_pos (by rw [List.length_map]; omega), show (acc.map (fun b => (b.toNat : Int)) ++ [(b.toNat : Int)]) = (acc ++ [b]).map (fun b => (b.toNat : Int)) by simp, ih (i + (escB b).length) k (acc ++ [b]) (by omega) (by omega) (by rw [List.length_append, List.length_singleton]; omega) (by omega), unescL_step hp, List.drop_drop]
        cases unescL (s.data.toList.drop (i + (escB b).length)) with
        | none => rfl
        | some o => simp [unescR]
      · dsimp only
        rw [if_pos (by omega), unescL_stop (by rw [drop_cons s i hlt]; simp) h3]
        rfl
    · rw [topiaryref20_Unescape.l0, if_neg (by omega), List.drop_of_length_le (by rw [len_list]; omega), nums_back]
      have : unescL [] = some [] := unescL_iff.2 rfl
      rw [this]
      simp [unescR]

theorem unescape_f (s : ByteArray) (hs : s.size ≤ 10000000000000) (k : Nat) (hk : s.size + 1001 < k) : topiaryref20_Unescape.f k s = some (⟨((unescL s.data.toList).getD []).toArray⟩, (unescL s.data.toList).isSome) := by
  have := unescape_l0 s hs s.size 0 k [] (by omega) (Nat.zero_le _) (by simp; omega) hk
  rw [topiaryref20_Unescape.f]
  rw [List.map_nil, List.drop_zero] at this
  refine this.trans ?_
  cases unescL s.data.toList with
  | none => rfl
  | some o => simp [unescR]

theorem refUnescape_any (s : ByteArray) (hs : s.size ≤ 10000000000000) (w : World) : Calls Tryz.prog 45 #[.string s] w fun e w' => e = .returned (.tuple #[.string ⟨((unescL s.data.toList).getD []).toArray⟩, .bool (unescL s.data.toList).isSome]) ∧ Below w.heap.size w w' :=
  R.topiaryref20_Unescape.calls _ s _ _ w (unescape_f s hs (s.size + 1002) (by omega))

end Go.Proofs.YtfpldbobfjkkfaaGreatDoor

namespace Go.Proofs.YtfpldbobfjkkfaaGreatDoor
open Go Go.RowKit Go.Proofs Go.Proofs.YtfpldbobfjkkfaaGreatDoorW.PrintWords Go.Proofs.YtfpldbobfjkkfaaGreatDoorW.PrintLast Go.Proofs.YtfpldbobfjkkfaaGreatDoor.R

theorem ch_if {α : Type} (c : UInt8) (X Y : α) :
    (if (c.toNat : Int) ≥ 97 then (if (c.toNat : Int) ≤ 122 then X else (if (c.toNat : Int) = 45 then X else (if (c.toNat : Int) < 48 then Y else (if (c.toNat : Int) > 57 then Y else X)))) else (if (c.toNat : Int) = 45 then X else (if (c.toNat : Int) < 48 then Y else (if (c.toNat : Int) > 57 then Y else X)))) = if nameCh c = true then X else Y := by
  have key : nameCh c = true ↔ (97 ≤ c.toNat ∧ c.toNat ≤ 122) ∨ (48 ≤ c.toNat ∧ c.toNat ≤ 57) ∨ c.toNat = 45 := by
    simp only [nameCh, letterB, digB, Bool.or_eq_true, Bool.and_eq_true, decide_eq_true_eq]
    omega
  by_cases hc : nameCh c = true
  · have := key.1 hc
    rw [if_pos hc]
    repeat' split
    all_goals first | rfl | omega
  · have : ¬ ((97 ≤ c.toNat ∧ c.toNat ≤ 122) ∨ (48 ≤ c.toNat ∧ c.toNat ≤ 57) ∨ c.toNat = 45) := fun h => hc (key.2 h)
    rw [if_neg hc]
    repeat' split
    all_goals first | rfl | omega

theorem name05_l0 (s : ByteArray) (hs : s.size ≤ 1000000000000000000) : ∀ (n i k : Nat), s.size - i = n → 1 ≤ i → i ≤ s.size → n < k →
    topiaryref05_Name.l0 k s (i : Int) = some ((s.data.toList.drop i).all nameCh && decide (s.size ≤ 32)) := by
  intro n
  induction n with
  | zero =>
    intro i k hn h1 hi hk
    obtain ⟨k, rfl⟩ : ∃ m, k = m + 1 := ⟨k - 1, by omega⟩
    rw [topiaryref05_Name.l0, if_neg (by omega), if_pos (by omega), List.drop_of_length_le (by rw [len_list]; omega)]
    congr 1
    simp
    omega
  | succ n ih =>
    intro i k hn h1 hi hk
    obtain ⟨k, rfl⟩ : ∃ m, k = m + 1 := ⟨k - 1, by omega⟩
    have hlt : i < s.size := by omega
    have hw : wrap64 ((i : Int) + 1) = ((i + 1 : Nat) : Int) := by rw [wrap_in (by omega) (by omega)]; rfl
    have hz : ¬ (i : Int) = 0 := by omega
    rw [topiaryref05_Name.l0, if_pos (by omega), if_pos (by omega), bt_nat s i hlt, drop_cons s i hlt, List.all_cons]
    generalize s.data.toList[i]'(by rw [len_list]; exact hlt) = c
    simp only [if_neg hz, hw]
    rw [ch_if, ih (i + 1) k (by omega) (by omega) (by omega) (by omega)]
    cases nameCh c <;> simp

theorem name05_f (s : ByteArray) (hs : s.size ≤ 1000000000000000000) (k : Nat) (hk : s.size < k) : topiaryref05_Name.f k s = some (nameB s.data.toList) := by
  unfold topiaryref05_Name.f nameB
  obtain ⟨k, rfl⟩ : ∃ m, k = m + 1 := ⟨k - 1, by omega⟩
  rw [topiaryref05_Name.l0, len_list]
  by_cases h0 : 0 < s.size
  · have hd := drop_cons s 0 h0
    rw [List.drop_zero] at hd
    have hb := bt_nat s 0 h0
    have hw : wrap64 ((0 : Int) + 1) = ((1 : Nat) : Int) := by rw [wrap_in (by omega) (by omega)]; rfl
    have h1 := name05_l0 s hs (s.size - 1) 1 k rfl (Nat.le_refl _) (by omega) (by omega)
    rw [if_pos (by omega), if_pos (by omega), hw, h1, hd, List.headD_cons, List.all_cons]
    rw [show ((0 : Nat) : Int) = 0 from rfl] at hb
    rw [hb]
    generalize s.data.toList[0]'(by rw [len_list]; exact h0) = c
    have h1s : decide (1 ≤ s.size) = true := decide_eq_true (by omega)
    rw [h1s, Bool.true_and]
    by_cases hl : letterB c = true
    · have hl' := hl
      simp only [letterB, Bool.and_eq_true, decide_eq_true_eq] at hl'
      have hc : nameCh c = true := by simp [nameCh, hl]
      rw [if_pos (by omega), if_pos (by omega), hl, hc, Bool.and_true, Bool.true_and, Bool.and_comm]
      rfl
    · have hl' : ¬ (97 ≤ c.toNat ∧ c.toNat ≤ 122) := by
        intro h
        exact hl (by simp only [letterB, Bool.and_eq_true, decide_eq_true_eq]; exact h)
      have hlf : letterB c = false := Bool.eq_false_iff.2 hl
      rw [hlf, Bool.and_false, Bool.false_and]
      by_cases h97 : (c.toNat : Int) ≥ 97
      · rw [if_pos h97, if_neg (by omega), if_pos rfl]
      · rw [if_neg h97, if_pos rfl]
  · have : s.size = 0 := by omega
    rw [if_neg (by omega), if_neg (by omega), this]
    rfl

theorem right01_f (c r : Int) : topiaryref01_Right.f c r = some (rightB c r) := by
  unfold topiaryref01_Right.f rightB
  by_cases h1 : c ≥ 1
  · rw [if_pos h1]
    by_cases h2 : c ≤ 1099511627776
    · rw [if_pos h2]
      by_cases h3 : r ≥ 0
      · rw [if_pos h3]; simp [show (1 : Int) ≤ c from h1, h2, show (0 : Int) ≤ r from h3]
      · rw [if_neg h3]; have : ¬ (0 : Int) ≤ r := h3; simp [this]
    · rw [if_neg h2]; simp [h2]
  · rw [if_neg h1]; have : ¬ (1 : Int) ≤ c := h1; simp [this]

theorem node01_f (c r : Int) : topiaryref01_Node.f c r = some (nodeB c r) := by
  unfold topiaryref01_Node.f nodeB
  rw [right01_f, Option.bind_some]
  cases rightB c r with
  | true => rfl
  | false =>
    rw [if_neg (by decide), Bool.false_or]
    by_cases h0 : c = 0
    · rw [if_pos h0]
      by_cases h1 : r = 0
      · rw [if_pos h1]; simp [h0, h1]
      · rw [if_neg h1]
        by_cases h2 : r = 1
        · simp [h0, h2]
        · have : (r == 1) = false := by simpa using h2
          rw [this]
          simp [h1, h2]
    · rw [if_neg h0]; simp [h0]

theorem has_l0 (xs : List St) (c r : Int) (hs : xs.length ≤ 1000000000000000000) : ∀ (n i k : Nat), xs.length - i = n → i ≤ xs.length → n < k →
    topiaryref01_Has.l0 k xs (i : Int) c r = some ((xs.drop i).any fun x => x.f0 == c && x.f1 == r) := by
  intro n
  induction n with
  | zero =>
    intro i k hn hi hk
    obtain ⟨k, rfl⟩ : ∃ m, k = m + 1 := ⟨k - 1, by omega⟩
    rw [topiaryref01_Has.l0, if_neg (by omega), List.drop_of_length_le (by omega)]
    rfl
  | succ n ih =>
    intro i k hn hi hk
    obtain ⟨k, rfl⟩ : ∃ m, k = m + 1 := ⟨k - 1, by omega⟩
    have hlt : i < xs.length := by omega
    have hw : wrap64 ((i : Int) + 1) = ((i + 1 : Nat) : Int) := by rw [wrap_in (by omega) (by omega)]; rfl
    have hr : R.rd_T24 xs (i : Int) = xs[i] := by
      unfold R.rd_T24
      simp [List.getD_eq_getElem?_getD, List.getElem?_eq_getElem hlt]
    rw [topiaryref01_Has.l0, if_pos (by omega), if_pos (by omega), hr, hw, ih (i + 1) k (by omega) (by omega) (by omega), List.drop_eq_getElem_cons hlt, List.any_cons]
    cases ((xs[i]).f0 == c && (xs[i]).f1 == r) <;> simp

theorem has_f (xs : List St) (c r : Int) (hs : xs.length ≤ 1000000000000000000) (k : Nat) (hk : xs.length < k) : topiaryref01_Has.f k xs c r = some (xs.any fun x => x.f0 == c && x.f1 == r) := by
  have := has_l0 xs c r hs xs.length 0 k rfl (Nat.zero_le _) hk
  simpa [topiaryref01_Has.f] using this

/-! ### by contract -/

theorem refName_any (s : ByteArray) (hs : s.size ≤ 1000000000000000000) (w : World) : Calls Tryz.prog 42 #[.string s] w fun e w' => e = .returned (.bool (nameB s.data.toList)) ∧ Below w.heap.size w w' := by
  refine (topiaryref05_Name.calls _ s _ w (name05_f s hs (s.size + 1) (by omega))).mono ?_
  rintro e w' ⟨rfl, hd⟩
  exact ⟨rfl, hd.below⟩
theorem refRight_any (c r : Int) (w : World) : Calls Tryz.prog 25 #[.agg #[.int .i64 c, .int .i64 r]] w fun e w' => e = .returned (.bool (rightB c r)) ∧ Below w.heap.size w w' := topiaryref01_Right.calls c r _ w (right01_f c r)
theorem refNodeB_any (c r : Int) (w : World) : Calls Tryz.prog 24 #[.agg #[.int .i64 c, .int .i64 r]] w fun e w' => e = .returned (.bool (nodeB c r)) ∧ Below w.heap.size w w' := topiaryref01_Node.calls c r _ w (node01_f c r)
theorem refHas_any (A : Option Addr) (cap : Nat) (xs : List St) (c r : Int) (w : World) (hA : R.k24.C w A xs.length xs) (hc : xs.length ≤ cap) (hs : xs.length ≤ 1000000000000000000) :
    Calls Tryz.prog 26 #[.slice A xs.length cap, .agg #[.int .i64 c, .int .i64 r]] w fun e w' => e = .returned (.bool (xs.any fun x => x.f0 == c && x.f1 == r)) ∧ Below w.heap.size w w' :=
  topiaryref01_Has.calls _ A cap xs c r _ w hA hc (has_f xs c r hs (xs.length + 1) (by omega))

end Go.Proofs.YtfpldbobfjkkfaaGreatDoor
