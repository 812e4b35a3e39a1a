/- What the reference's attrs and head come to. -/
import Derived.Test.YtfpldbobfjkkfaaGreatDoorPureZ
namespace Go.Proofs.YtfpldbobfjkkfaaGreatDoor
open Go Go.RowKit Go.Proofs Go.Proofs.YtfpldbobfjkkfaaGreatDoorW.PrintWords Go.Proofs.YtfpldbobfjkkfaaGreatDoorW.PrintLast Go.Proofs.YtfpldbobfjkkfaaGreatDoor.R

theorem anyIdx_hd {l : List UInt8} {c : UInt8} {b : Nat} (h : anyIdx l [c] = some b) : [c].isPrefixOf (l.drop b) = true := by
  unfold anyIdx at h
  obtain ⟨h1, h2, _⟩ := List.findIdx?_eq_some_iff_getElem.1 h
  rw [List.drop_eq_getElem_cons h1]
  have : l[b] = c := by simpa using h2
  rw [this]
  simp

theorem anyIdx_cons {l : List UInt8} {c : UInt8} {st : List UInt8} (h : c ∉ st) : anyIdx (c :: l) st = (anyIdx l st).map (· + 1) := by
  unfold anyIdx
  rw [List.findIdx?_cons, if_neg (by simpa using h)]

theorem wr1 (i : Nat) (h : i ≤ 1000000000) : wrap64 ((i : Int) + 1) = ((i + 1 : Nat) : Int) := by rw [wrap_in (by omega) (by omega)]; rfl
theorem wr2 (i : Nat) (h : i ≤ 1000000000) : wrap64 ((i : Int) + 2) = ((i + 2 : Nat) : Int) := by rw [wrap_in (by omega) (by omega)]; rfl

theorem pre_len {p l : List UInt8} (h : p.isPrefixOf l = true) : p.length ≤ l.length := (List.isPrefixOf_iff_prefix.1 h).length_le

theorem beg (s : ByteArray) (t : List UInt8) (i : Nat) (hi : i ≤ s.size) (hs : s.size ≤ 1000000) (ht : t.length ≤ 1000) : topiaryref20_begins.f s (i : Int) ⟨t.toArray⟩ = some (t.isPrefixOf (s.data.toList.drop i)) := by
  have := begins_f s ⟨t.toArray⟩ i hi (by omega) (by have : (⟨t.toArray⟩ : ByteArray).size = t.length := rfl; omega)
  exact this

theorem unt (s : ByteArray) (hs : s.size ≤ 1000000) (a b : UInt8) (i k : Nat) (hi : i ≤ s.size) (hk : s.size < k) : topiaryref20_until.f k s (i : Int) (a.toNat : Int) (b.toNat : Int) = some (match anyIdx (s.data.toList.drop i) [a, b] with | some n => ((i + n : Nat) : Int) | none => -1) :=
  until_f s (by omega) a b (s.size - i) i k rfl hi (by omega)

theorem attrs_l0 (s : ByteArray) (hs : s.size ≤ 1000000) : ∀ (n i k : Nat) (acc : List At), s.size - i ≤ n → i ≤ s.size → acc.length + n ≤ 4000000000 → 2 * n + s.size + 2000 < k →
    ∃ r, topiaryref20_attrs.l0 k s (i : Int) acc = some r ∧ ((∃ as_ j, attrsW (s.data.toList.drop i) = some (as_, s.data.toList.drop j) ∧ i ≤ j ∧ j ≤ s.size ∧ r = (acc ++ as_, (j : Int))) ∨ (attrsW (s.data.toList.drop i) = none ∧ r.2 = -1)) := by
  intro n
  induction n with
  | zero =>
    intro i k acc hn hi ha hk
    obtain ⟨k, rfl⟩ : ∃ m, k = m + 1 := ⟨k - 1, by omega⟩
    have h0 : s.data.toList.drop i = [] := List.drop_of_length_le (by rw [len_list]; omega)
    have hb := beg s [32] i hi hs (by simp)
    rw [topiaryref20_attrs.l0]
    rw [show (⟨#[32]⟩ : ByteArray) = ⟨[32].toArray⟩ from rfl, hb, h0]
    refine ⟨_, rfl, .inl ⟨[], i, ?_, Nat.le_refl _, hi, by simp⟩⟩
    rw [h0]; exact attrsW_end rfl
  | succ n ih =>
    intro i k acc hn hi ha hk
    obtain ⟨k, rfl⟩ : ∃ m, k = m + 1 := ⟨k - 1, by omega⟩
    have hb := beg s [32] i hi hs (by simp)
    rw [topiaryref20_attrs.l0]
    rw [show (⟨#[32]⟩ : ByteArray) = ⟨[32].toArray⟩ from rfl, hb, Option.bind_some]
    cases hp : [32].isPrefixOf (s.data.toList.drop i) with
    | false =>
      refine ⟨_, rfl, .inl ⟨[], i, attrsW_end hp, Nat.le_refl _, hi, by simp⟩⟩
    | true =>
    have hlt : i < s.size := by have := pre_len hp; rw [List.length_drop, len_list] at this; simp at this; omega
    have hcons := drop_cons s i hlt
    have hc : s.data.toList[i]'(by rw [len_list]; exact hlt) = 32 := by
      rw [hcons] at hp
      have h32 : (32 : UInt8) = s.data.toList[i]'(by rw [len_list]; exact hlt) := by simpa using hp
      exact h32.symm
    rw [hc] at hcons
    have d1 : (s.data.toList.drop i).drop 1 = s.data.toList.drop (i + 1) := by rw [List.drop_drop]
    rw [if_pos rfl]
    have hu := unt s hs 61 61 i k hi (by omega)
    rw [anyIdx_two, hcons, anyIdx_cons (by decide)] at hu
    rw [show ((61 : Int)) = ((61 : UInt8).toNat : Int) from rfl]
    obtain ⟨k, rfl⟩ : ∃ m, k = m + 1 := ⟨k - 1, by omega⟩
    have hno : ∀ (x7 : Int), topiaryref20_attrs.j1 (k + 1) s (i : Int) acc x7 true = some (acc, -1) := fun x7 => by rw [topiaryref20_attrs.j1, if_pos rfl]
    cases h1 : anyIdx (s.data.toList.drop (i + 1)) [61] with
    | none =>
      rw [h1] at hu
      rw [show _ = some (-1 : Int) from hu, Option.bind_some, if_pos (by omega), hno]
      exact ⟨_, rfl, .inr ⟨attrsW_no1 hp (by rw [d1]; exact h1), rfl⟩⟩
    | some a =>
    have ha1 := anyIdx_room h1
    rw [List.length_drop, len_list] at ha1
    obtain ⟨j, hj⟩ : ∃ j, j = i + 1 + a := ⟨_, rfl⟩
    rw [h1] at hu
    rw [show _ = some ((j : Nat) : Int) from hu.trans (by show some ((i + (a + 1) : Nat) : Int) = _; rw [show i + (a + 1) = j by omega]), Option.bind_some]
    have d2 : (s.data.toList.drop (i + 1)).drop a = s.data.toList.drop j := by rw [List.drop_drop, hj]
    rw [if_neg (by omega)]
    have hb := beg s [61, 34] j (by omega) hs (by simp)
    rw [show (⟨#[61, 34]⟩ : ByteArray) = ⟨[61, 34].toArray⟩ from rfl, hb, Option.bind_some]
    cases hp2 : [61, 34].isPrefixOf (s.data.toList.drop j) with
    | false =>
      rw [Bool.not_false, hno]
      exact ⟨_, rfl, .inr ⟨attrsW_no2 hp (by rw [d1]; exact h1) (by rw [d1, d2]; exact hp2), rfl⟩⟩
    | true =>
    have hj2 : j + 2 ≤ s.size := by have := pre_len hp2; rw [List.length_drop, len_list] at this; simp at this; omega
    have d3 : (s.data.toList.drop j).drop 2 = s.data.toList.drop (j + 2) := by rw [List.drop_drop]
    have hu := unt s hs 34 34 (j + 2) k (by omega) (by omega)
    rw [anyIdx_two] at hu
    rw [Bool.not_true, topiaryref20_attrs.j1, if_neg (by decide), wr2 j (by omega)]
    rw [show ((34 : Int)) = ((34 : UInt8).toNat : Int) from rfl]
    cases h3 : anyIdx (s.data.toList.drop (j + 2)) [34] with
    | none =>
      rw [h3] at hu
      rw [show _ = some (-1 : Int) from hu, Option.bind_some, if_pos (by omega)]
      exact ⟨_, rfl, .inr ⟨attrsW_no3 hp (by rw [d1]; exact h1) (by rw [d1, d2]; exact hp2) (.inl (by rw [d1, d2, d3]; exact h3)), rfl⟩⟩
    | some b =>
    have hb1 := anyIdx_room h3
    rw [List.length_drop, len_list] at hb1
    have hb2 := anyIdx_hd h3
    rw [h3] at hu
    rw [show _ = some ((j + 2 + b : Nat) : Int) from hu, Option.bind_some, if_neg (by omega), if_pos (by omega), if_pos (by omega), if_pos (by omega), Int.toNat_natCast, Int.toNat_natCast]
    have hux := unescape_f (s.extract (j + 2) (j + 2 + b)) (by rw [ByteArray.size_extract]; omega) k (by rw [ByteArray.size_extract]; omega)
    have hxl : (s.extract (j + 2) (j + 2 + b)).data.toList = (s.data.toList.drop (j + 2)).take b := by rw [ext_l, show j + 2 + b - (j + 2) = b by omega]
    rw [hxl] at hux
    rw [hux, Option.bind_some]
    dsimp only
    cases h4 : unescL ((s.data.toList.drop (j + 2)).take b) with
    | none =>
      rw [Option.isSome_none, if_neg (by decide)]
      exact ⟨_, rfl, .inr ⟨attrsW_no3 hp (by rw [d1]; exact h1) (by rw [d1, d2]; exact hp2) (.inr ⟨b, by rw [d1, d2, d3]; exact h3, by rw [d1, d2, d3]; exact h4⟩), rfl⟩⟩
    | some v =>
    rw [Option.isSome_some, if_pos rfl, wr1 i (by omega), if_pos (by omega), if_pos (by omega), if_pos (by omega), if_pos (by omega), wr1 (j + 2 + b) (by omega), Int.toNat_natCast, Int.toNat_natCast, Option.getD_some]
    have hnm : s.extract (i + 1) j = ⟨((s.data.toList.drop (i + 1)).take a).toArray⟩ := by
      have := ext_l s (i + 1) j
      rw [show j - (i + 1) = a by omega] at this
      rw [← this]
    have d4 : ((s.data.toList.drop (j + 2)).drop b).drop 1 = s.data.toList.drop (j + 2 + b + 1) := by
      rw [List.drop_drop, List.drop_drop, show j + 2 + (b + 1) = j + 2 + b + 1 by omega]
    have hgo := attrsW_go hp (by rw [d1]; exact h1) (by rw [d1, d2]; exact hp2) (by rw [d1, d2, d3]; exact h3) (by rw [d1, d2, d3]; exact h4) (by rw [d1, d2, d3]; exact hb2) []
    rw [d1, d2, d3, d4, ← hnm] at hgo
    obtain ⟨r, hr, hor⟩ := ih (j + 2 + b + 1) k (acc ++ [⟨s.extract (i + 1) j, ⟨v.toArray⟩⟩]) (by omega) (by omega) (by simp; omega) (by omega)
    refine ⟨r, hr, ?_⟩
    rcases hor with ⟨as_, q, g1, g2, g3, g4⟩ | ⟨g1, g2⟩
    · rw [g1] at hgo
      refine .inl ⟨⟨s.extract (i + 1) j, ⟨v.toArray⟩⟩ :: as_, q, ?_, by omega, g3, by rw [g4]; simp⟩
      have := hgo
      simp only [Option.map_some, List.nil_append] at this
      obtain ⟨p, g5, g6⟩ := Option.map_eq_some_iff.1 this
      rw [g5]
      exact congrArg some g6
    · rw [g1] at hgo
      exact .inr ⟨by simpa using hgo, g2⟩

theorem attrs_f (s : ByteArray) (hs : s.size ≤ 1000000) (i k : Nat) (hi : i ≤ s.size) (hk : 5000000 < k) :
    ∃ r, topiaryref20_attrs.f k s (i : Int) = some r ∧ ((∃ as_ j, attrsW (s.data.toList.drop i) = some (as_, s.data.toList.drop j) ∧ i ≤ j ∧ j ≤ s.size ∧ r = (as_, (j : Int))) ∨ (attrsW (s.data.toList.drop i) = none ∧ r.2 = -1)) := by
  obtain ⟨r, h1, h2⟩ := attrs_l0 s hs s.size i k [] (by omega) hi (by simp; omega) (by omega)
  exact ⟨r, h1, by simpa using h2⟩

def noHead : Int × Int × ByteArray × ByteArray × List At × List VN × Int := (0, 0, ⟨#[]⟩, ⟨#[]⟩, [], [], -1)

theorem head_f (s : ByteArray) (hs : s.size ≤ 1000000) (i k : Nat) (hi : i ≤ s.size) (hk : 6000000 < k) :
    ∃ r, topiaryref20_head.f k s (i : Int) = some r ∧ ((∃ n j, headW (s.data.toList.drop i) = some (n, s.data.toList.drop j) ∧ i < j ∧ j ≤ s.size ∧ n.f4 = [] ∧ r = (n.f0.f0, n.f0.f1, n.f1, n.f2, n.f3, [], (j : Int))) ∨ (headW (s.data.toList.drop i) = none ∧ r = noHead)) := by
  have hb := beg s [60] i hi hs (by simp)
  rw [topiaryref20_head.f, show (⟨#[60]⟩ : ByteArray) = ⟨[60].toArray⟩ from rfl, hb, Option.bind_some]
  cases hp : [60].isPrefixOf (s.data.toList.drop i) with
  | false => exact ⟨_, rfl, .inr ⟨headW_no1 hp, rfl⟩⟩
  | true =>
  have hlt : i < s.size := by have := pre_len hp; rw [List.length_drop, len_list] at this; simp at this; omega
  have d1 : (s.data.toList.drop i).drop 1 = s.data.toList.drop (i + 1) := by rw [List.drop_drop]
  have hu := unt s hs 32 62 (i + 1) k (by omega) (by omega)
  obtain ⟨k, rfl⟩ : ∃ m, k = m + 1 := ⟨k - 1, by omega⟩
  have hno : ∀ (x7 : Int), topiaryref20_head.j0 (k + 1) s (i : Int) x7 true 0 0 ⟨#[]⟩ ⟨#[]⟩ = some noHead := fun x7 => by rw [topiaryref20_head.j0, if_pos rfl]; rfl
  rw [if_pos rfl, wr1 i (by omega), show ((32 : Int)) = ((32 : UInt8).toNat : Int) from rfl, show ((62 : Int)) = ((62 : UInt8).toNat : Int) from rfl]
  cases h1 : anyIdx (s.data.toList.drop (i + 1)) [32, 62] with
  | none =>
    rw [h1] at hu
    rw [show _ = some (-1 : Int) from hu, Option.bind_some, if_pos (by omega), hno]
    exact ⟨_, rfl, .inr ⟨headW_no2 hp (by rw [d1]; exact h1), rfl⟩⟩
  | some a =>
  have ha1 := anyIdx_room h1
  rw [List.length_drop, len_list] at ha1
  obtain ⟨p, hpj⟩ : ∃ p, p = i + 1 + a := ⟨_, rfl⟩
  rw [h1] at hu
  rw [show _ = some ((p : Nat) : Int) from hu.trans (by show some ((i + 1 + a : Nat) : Int) = _; rw [hpj]), Option.bind_some]
  have d2 : (s.data.toList.drop (i + 1)).drop a = s.data.toList.drop p := by rw [List.drop_drop, hpj]
  have hb := beg s [32, 35] p (by omega) hs (by simp)
  rw [if_neg (by omega), show (⟨#[32, 35]⟩ : ByteArray) = ⟨[32, 35].toArray⟩ from rfl, hb, Option.bind_some]
  have hnm : s.extract (i + 1) p = ⟨((s.data.toList.drop (i + 1)).take a).toArray⟩ := by
    have := ext_l s (i + 1) p
    rw [show p - (i + 1) = a by omega] at this
    rw [← this]
  have hnl : (s.extract (i + 1) p).data.toList = (s.data.toList.drop (i + 1)).take a := by rw [hnm]
  cases hp2 : [32, 35].isPrefixOf (s.data.toList.drop p) with
  | false =>
    rw [if_neg (by decide), hno]
    refine ⟨_, rfl, .inr ⟨?_, rfl⟩⟩
    rw [headW, if_pos hp, d1, h1, Option.bind_some, d2, hp2]
    simp
  | true =>
  rw [if_pos rfl, if_pos (by omega), if_pos (by omega), if_pos (by omega), Int.toNat_natCast, Int.toNat_natCast, name05_f _ (by rw [ByteArray.size_extract]; omega) _ (by rw [ByteArray.size_extract]; omega), Option.bind_some, hnl]
  cases hnb : nameB ((s.data.toList.drop (i + 1)).take a) with
  | false =>
    rw [Bool.not_false, hno]
    exact ⟨_, rfl, .inr ⟨headW_no3 hp (by rw [d1]; exact h1) (by rw [d1]; exact hnb), rfl⟩⟩
  | true =>
  have hp22 : p + 2 ≤ s.size := by have := pre_len hp2; rw [List.length_drop, len_list] at this; simp at this; omega
  have d3 : (s.data.toList.drop p).drop 2 = s.data.toList.drop (p + 2) := by rw [List.drop_drop]
  have hu := unt s hs 32 62 (p + 2) k (by omega) (by omega)
  rw [Bool.not_true, topiaryref20_head.j0, if_neg (by decide), wr2 p (by omega), show ((32 : Int)) = ((32 : UInt8).toNat : Int) from rfl, show ((62 : Int)) = ((62 : UInt8).toNat : Int) from rfl]
  cases h3 : anyIdx (s.data.toList.drop (p + 2)) [32, 62] with
  | none =>
    rw [h3] at hu
    rw [show _ = some (-1 : Int) from hu, Option.bind_some, if_pos (by omega)]
    exact ⟨_, rfl, .inr ⟨headW_no5 hp (by rw [d1]; exact h1) (by rw [d1]; exact hnb) (by rw [d1, d2]; exact hp2) (by rw [d1, d2, d3]; exact h3), rfl⟩⟩
  | some b =>
  have hb1 := anyIdx_room h3
  rw [List.length_drop, len_list] at hb1
  obtain ⟨q, hq⟩ : ∃ q, q = p + 2 + b := ⟨_, rfl⟩
  rw [h3] at hu
  rw [show _ = some ((q : Nat) : Int) from hu.trans (by show some ((p + 2 + b : Nat) : Int) = _; rw [hq]), Option.bind_some]
  have d4 : (s.data.toList.drop (p + 2)).drop b = s.data.toList.drop q := by rw [List.drop_drop, hq]
  have hkl : (s.extract (p + 2) q).data.toList = (s.data.toList.drop (p + 2)).take b := by rw [ext_l, show q - (p + 2) = b by omega]
  obtain ⟨r, ra, ho⟩ := attrs_f s hs q k (by omega) (by omega)
  rw [if_neg (by omega), if_pos (by omega), if_pos (by omega), if_pos (by omega), Int.toNat_natCast, Int.toNat_natCast, parse01_f _ (by rw [ByteArray.size_extract]; omega) _ (by rw [ByteArray.size_extract]; omega), Option.bind_some, ra, Option.bind_some, hkl]
  obtain ⟨k, rfl⟩ : ∃ m, k = m + 1 := ⟨k - 1, by omega⟩
  have hno : ∀ (x7 : Int) (x11 : List At) (x12 c d : Int), topiaryref20_head.j1 (k + 1) s (i : Int) x7 x11 x12 true 0 0 ⟨#[]⟩ ⟨#[]⟩ c d = some noHead := fun x7 x11 x12 c d => by rw [topiaryref20_head.j1, if_pos rfl]; rfl
  by_cases h5 : (keyOf ((s.data.toList.drop (p + 2)).take b)).2.2 = 0
  case neg =>
    rw [if_neg h5, hno]
    exact ⟨_, rfl, .inr ⟨headW_no6 hp (by rw [d1]; exact h1) (by rw [d1]; exact hnb) (by rw [d1, d2]; exact hp2) (by rw [d1, d2, d3]; exact h3) (by rw [d1, d2, d3]; exact h5), rfl⟩⟩
  have hK := headW_key hp (by rw [d1]; exact h1) (by rw [d1]; exact hnb) (by rw [d1, d2]; exact hp2) (by rw [d1, d2, d3]; exact h3) (by rw [d1, d2, d3]; exact h5)
  rw [d1, d2, d3, d4] at hK
  rw [if_pos h5, hK]
  rcases ho with ⟨as_, j, g1, g2, g3, g4⟩ | ⟨g1, g2⟩
  · subst g4
    dsimp only
    have hb := beg s [62] j g3 hs (by simp)
    rw [if_neg (by omega), show (⟨#[62]⟩ : ByteArray) = ⟨[62].toArray⟩ from rfl, hb, Option.bind_some, g1, Option.bind_some]
    dsimp only
    cases hp5 : [62].isPrefixOf (s.data.toList.drop j) with
    | false =>
      rw [Bool.not_false, hno]
      exact ⟨_, rfl, .inr ⟨if_neg (by decide), rfl⟩⟩
    | true =>
    have hj1 : j + 1 ≤ s.size := by have := pre_len hp5; rw [List.length_drop, len_list] at this; simp at this; omega
    have d5 : (s.data.toList.drop j).drop 1 = s.data.toList.drop (j + 1) := by rw [List.drop_drop]
    have hu := unt s hs 60 60 (j + 1) k (by omega) (by omega)
    rw [anyIdx_two] at hu
    rw [if_pos rfl, d5, Bool.not_true, topiaryref20_head.j1, if_neg (by decide), wr1 j (by omega), show ((60 : Int)) = ((60 : UInt8).toNat : Int) from rfl]
    cases h6 : anyIdx (s.data.toList.drop (j + 1)) [60] with
    | none =>
      rw [h6] at hu
      rw [show _ = some (-1 : Int) from hu, Option.bind_some, if_pos (by omega)]
      exact ⟨_, rfl, .inr ⟨rfl, rfl⟩⟩
    | some c =>
    have hc1 := anyIdx_room h6
    rw [List.length_drop, len_list] at hc1
    rw [h6] at hu
    rw [show _ = some ((j + 1 + c : Nat) : Int) from hu, Option.bind_some]
    have d6 : (s.data.toList.drop (j + 1)).drop c = s.data.toList.drop (j + 1 + c) := by rw [List.drop_drop]
    have hux := unescape_f (s.extract (j + 1) (j + 1 + c)) (by rw [ByteArray.size_extract]; omega) k (by rw [ByteArray.size_extract]; omega)
    have hxl : (s.extract (j + 1) (j + 1 + c)).data.toList = (s.data.toList.drop (j + 1)).take c := by rw [ext_l, show j + 1 + c - (j + 1) = c by omega]
    rw [hxl] at hux
    rw [if_neg (by omega), if_pos (by omega), if_pos (by omega), if_pos (by omega), Int.toNat_natCast, Int.toNat_natCast, hux, Option.bind_some, Option.bind_some]
    dsimp only
    cases h7 : unescL ((s.data.toList.drop (j + 1)).take c) with
    | none =>
      rw [Option.isSome_none, if_neg (by decide)]
      exact ⟨_, rfl, .inr ⟨rfl, rfl⟩⟩
    | some v =>
      rw [Option.isSome_some, if_pos rfl, wr1 i (by omega), if_pos (by omega), if_pos (by omega), if_pos (by omega), Int.toNat_natCast, Int.toNat_natCast, hnm, Option.bind_some, d6]
      exact ⟨_, rfl, .inl ⟨_, j + 1 + c, rfl, by omega, by omega, rfl, rfl⟩⟩
  · rw [if_pos (by omega), hno, g1]
    exact ⟨_, rfl, .inr ⟨rfl, rfl⟩⟩

end Go.Proofs.YtfpldbobfjkkfaaGreatDoor
