/- The walks of the laws MarkupThere and MarkupSafe. -/
import Derived.Test.YtfpldbobfjkkfaaDoorAwake
namespace Go.Proofs.YtfpldbobfjkkfaaDoor
open Go.RowKit Go.Proofs Go.Proofs.YtfpldbobfjkkfaaDoorW.PrintWords Go.Proofs.YtfpldbobfjkkfaaDoorW.PrintLast
set_option linter.unusedSimpArgs false

theorem unescape_yes (es s : ByteArray) (h : unescL es.data.toList = some s.data.toList) (w : World) (hG : Glob w) (hs : es.size ≤ 1000000000) :
    Calls Tryd.prog 9 #[.string es] w fun e w' => e = .returned (.tuple #[.string s, .bool true]) ∧ Below w.heap.size w w' := by
  have := unescape_any es w hG hs
  rw [h] at this
  simpa only [Option.getD_some, mk_data, Option.isSome_some] using this
theorem unescape_no (es : ByteArray) (h : unescL es.data.toList = none) (w : World) (hG : Glob w) (hs : es.size ≤ 1000000000) :
    Calls Tryd.prog 9 #[.string es] w fun e w' => e = .returned (.tuple #[.string ⟨#[]⟩, .bool false]) ∧ Below w.heap.size w w' := by
  have := unescape_any es w hG hs
  rw [h] at this
  simpa only [Option.getD_none, Option.isSome_none] using this
theorem escape_to (s es : ByteArray) (h : escL s.data.toList = es.data.toList) (w : World) (hG : Glob w) (hs : s.size ≤ 20000000000000) :
    Calls Tryd.prog 11 #[.string s] w fun e w' => e = .returned (.string es) ∧ Below w.heap.size w w' := by
  have := escape_any s w hG hs
  rw [h, mk_data] at this
  exact this

set_option maxHeartbeats 4000000 in
set_option maxRecDepth 1000000 in
theorem there_any (s : ByteArray) (hs : s.size ≤ 1048576) (t : ByteArray) (ht : t.size ≤ 1048576) (w : World) (hG : Glob w) (hgt : gTop ≤ w.heap.size) :
    Calls Tryd.prog 5 #[.string s, .string t] w fun e w' => e = .returned (.bool true) ∧ Below w.heap.size w w' := by
  obtain ⟨es, hes⟩ : ∃ es : ByteArray, es = ⟨(escL s.data.toList).toArray⟩ := ⟨_, rfl⟩
  have hel : escL s.data.toList = es.data.toList := by rw [hes]
  have hez : es.size ≤ 1000000000 := by
    have := escL_len s.data.toList
    rw [len_list] at this
    rw [hes, mk_size]
    omega
  have hE := escape_to s es hel w hG (by omega)
  have hU := fun w1 h => unescape_yes es s (by rw [← hel, unescL_escL]) w1 h hez
  clear hes hel
  go_enter Tryd.func5, Tryd.ntmps5
  go_wp2_with fail
  refine hE.mono ?_
  rintro e w1 ⟨rfl, hb1⟩
  go_wp2_with fail
  refine (hU w1 (hG.below hb1)).mono ?_
  rintro e w2 ⟨rfl, hb2⟩
  have hb2 := hb1.trans (hb2.mono hb1.size)
  have hz2 := hb2.size
  clear hb1 hE hU
  cases hu : unescL t.data.toList with
  | none =>
    have hU := unescape_no t hu w2 (hG.below hb2) (by omega)
    clear hu
    go_wp2_with fail
    refine hU.mono ?_
    rintro e w3 ⟨rfl, hb3⟩
    have hb3 := hb2.trans (hb3.mono hz2)
    have hz3 := hb3.size
    have hA := awake_any w3 (hG.below hb3) (by omega)
    clear hU hb2
    go_wp2_with fail
    refine hA.mono ?_
    rintro e w4 ⟨rfl, hb4⟩
    go_wp2
    go_ret
    exact ⟨rfl, hb3.trans (hb4.mono hz3)⟩
  | some o =>
    obtain ⟨ob, hob⟩ : ∃ ob : ByteArray, ob = ⟨o.toArray⟩ := ⟨_, rfl⟩
    have hol : ob.data.toList = o := by rw [hob]
    have hoe := unescL_back hu
    have hoz : ob.size ≤ 20000000000000 := by
      have := escL_ge o
      rw [hoe, len_list] at this
      rw [hob, mk_size]
      omega
    have hU := unescape_yes t ob (by rw [hol]; exact hu) w2 (hG.below hb2) (by omega)
    have hE := fun w3 h => escape_to ob t (by rw [hol]; exact hoe) w3 h hoz
    clear hu hob hol hoe
    go_wp2_with fail
    refine hU.mono ?_
    rintro e w3 ⟨rfl, hb3⟩
    have hb3 := hb2.trans (hb3.mono hz2)
    have hz3 := hb3.size
    clear hU hb2
    go_wp2_with fail
    refine (hE w3 (hG.below hb3)).mono ?_
    rintro e w4 ⟨rfl, hb4⟩
    have hb4 := hb3.trans (hb4.mono hz3)
    have hz4 := hb4.size
    have hA := awake_any w4 (hG.below hb4) (by omega)
    clear hE hb3
    go_wp2_with fail
    refine hA.mono ?_
    rintro e w5 ⟨rfl, hb5⟩
    go_wp2
    go_ret
    exact ⟨rfl, hb4.trans (hb5.mono hz4)⟩

set_option maxHeartbeats 4000000 in
set_option maxRecDepth 1000000 in
theorem safe_any (s : ByteArray) (hs : s.size ≤ 1048576) (w : World) (hG : Glob w) (hgt : gTop ≤ w.heap.size) :
    Calls Tryd.prog 7 #[.string s] w fun e w' => e = .returned (.bool true) ∧ Below w.heap.size w w' := by
  obtain ⟨es, hes⟩ : ∃ es : ByteArray, es = ⟨(escL s.data.toList).toArray⟩ := ⟨_, rfl⟩
  have hel : escL s.data.toList = es.data.toList := by rw [hes]
  have hez : es.size ≤ 1000000000 ∧ s.size ≤ es.size := by
    have h1 := escL_len s.data.toList
    have h2 := escL_ge s.data.toList
    rw [len_list] at h1 h2
    rw [hes, mk_size]
    omega
  have hsafe : ∀ (k : Nat) (h : k < es.size), 32 ≤ es[k].toNat ∧ es[k].toNat ≤ 126 ∧ es[k].toNat ≠ 60 ∧ es[k].toNat ≠ 62 ∧ es[k].toNat ≠ 34 := fun k h =>
    escL_safe s.data.toList _ (by rw [hel]; exact List.getElem_mem (l := es.data.toList) (n := k) (by rw [len_list]; exact h))
  have hE := escape_to s es hel w hG (by omega)
  obtain ⟨hez, hge⟩ := hez
  clear hes hel
  go_enter Tryd.func7, Tryd.ntmps7
  go_wp2_with fail
  refine hE.mono ?_
  rintro e w1 ⟨rfl, hb1⟩
  have hz1 := hb1.size
  go_wp2
  go_loopw [4] (fun i wr => ∃ k : Nat, k ≤ es.size ∧ i = .int .i64 k ∧ Below w.heap.size w wr) (fun i _ => es.size - (intOf i).toNat)
  case atStart => exact ⟨0, Nat.zero_le _, rfl, hb1⟩
  case round =>
    obtain ⟨k, hk, rfl, hb⟩ := hrel
    by_cases hlt : k < es.size
    · have hS := hsafe k hlt
      have d1 : decide ((es[k].toNat : Int) < 32) = false := decide_eq_false (by omega)
      have d2 : decide ((126 : Int) < es[k].toNat) = false := decide_eq_false (by omega)
      have d3 : ((es[k].toNat : Int) == 60) = false := by rw [beq_eq_false_iff_ne]; omega
      have d4 : ((es[k].toNat : Int) == 62) = false := by rw [beq_eq_false_iff_ne]; omega
      have d5 : ((es[k].toNat : Int) == 34) = false := by rw [beq_eq_false_iff_ne]; omega
      go_wp2
      go_roundw
      case rel => exact ⟨k + 1, by omega, by go_num, hb⟩
      case measure => simp [intOf]; omega
    · obtain rfl : k = es.size := by omega
      have hA := awake_any wr (hG.below hb) (by have := hb.size; omega)
      have hz := hb.size
      go_wp2_with fail
      refine hA.mono ?_
      rintro e w2 ⟨rfl, hb2⟩
      go_wp2
      go_ret
      exact ⟨rfl, hb.trans (hb2.mono hz)⟩

end Go.Proofs.YtfpldbobfjkkfaaDoor
