/- The walks of markup.escaped and markup.Escape. -/
import Derived.Test.YtfpldbobfjkkfaaGreatDoorBase
import Derived.Test.YtfpldbobfjkkfaaGreatDoorPureA
import Derived.Test.YtfpldbobfjkkfaaGreatDoorR0
import Derived.Lib.ConvBytes
namespace Go.Proofs.YtfpldbobfjkkfaaGreatDoor
open Go.RowKit Go.Proofs Go.Proofs.YtfpldbobfjkkfaaGreatDoorW.PrintWords Go.Proofs.YtfpldbobfjkkfaaGreatDoorW.PrintLast
set_option linter.unusedSimpArgs false

set_option maxHeartbeats 1000000 in
set_option maxRecDepth 100000 in
theorem escaped_any (c : UInt8) (w : World) (hG : Glob w) :
    Calls Tryz.prog 59 #[.int .u8 c.toNat] w fun e w' => e = .returned (.string ⟨(escB c).toArray⟩) ∧ Below w.heap.size w w' := by
  have hc := c.toNat_lt
  obtain ⟨n, hn⟩ : ∃ n : Nat, c.toNat = n := ⟨_, rfl⟩
  have e0 : escB c = if n = 38 then [38, 97, 109, 112, 59] else if n = 60 then [38, 108, 116, 59] else if n = 62 then [38, 103, 116, 59] else if n = 34 then [38, 113, 117, 111, 116, 59] else if n < 32 ∨ 126 < n then [38, 35] ++ Lib.decDigits n ++ [59] else [c] := by unfold escB; rw [hn]
  by_cases h1 : n = 38
  · rw [e0, if_pos h1, hn]; subst h1
    go_enter Tryz.func59, Tryz.ntmps59
    go_wp2
    go_ret
    exact ⟨rfl, Below.refl _ _⟩
  rw [if_neg h1] at e0
  by_cases h2 : n = 60
  · rw [e0, if_pos h2, hn]; subst h2
    go_enter Tryz.func59, Tryz.ntmps59
    go_wp2
    go_ret
    exact ⟨rfl, Below.refl _ _⟩
  rw [if_neg h2] at e0
  by_cases h3 : n = 62
  · rw [e0, if_pos h3, hn]; subst h3
    go_enter Tryz.func59, Tryz.ntmps59
    go_wp2
    go_ret
    exact ⟨rfl, Below.refl _ _⟩
  rw [if_neg h3] at e0
  by_cases h4 : n = 34
  · rw [e0, if_pos h4, hn]; subst h4
    go_enter Tryz.func59, Tryz.ntmps59
    go_wp2
    go_ret
    exact ⟨rfl, Below.refl _ _⟩
  rw [if_neg h4] at e0
  have b1 : ((n : Int) == 38) = false := by simp; omega
  have b2 : ((n : Int) == 60) = false := by simp; omega
  have b3 : ((n : Int) == 62) = false := by simp; omega
  have b4 : ((n : Int) == 34) = false := by simp; omega
  by_cases h5 : n < 32 ∨ 126 < n
  · rw [e0, if_pos h5, hn]
    have hl := decDigits_len n (by omega)
    have z1 : (9223372036854775807 < 2 + (Lib.decDigits n).length) = False := eq_false (by omega)
    have z2 : (9223372036854775807 < 2 + (Lib.decDigits n).length + 1) = False := eq_false (by omega)
    have H := itoa_nat n (by omega) w hG
    have hfin : (⟨#[38, 35]⟩ ++ ⟨(Lib.decDigits n).toArray⟩ ++ ⟨#[59]⟩ : ByteArray) = ⟨([38, 35] ++ Lib.decDigits n ++ [59]).toArray⟩ := by
      apply ByteArray.ext
      simp [ByteArray.data_append]
    rw [← hfin]
    have bd : n < 256 := by omega
    have b5 : (decide ((n : Int) < 32) = true) ∨ (decide ((n : Int) < 32) = false ∧ decide (126 < (n : Int)) = true) := by
      by_cases h6 : n < 32
      · exact .inl (by simp; omega)
      · exact .inr ⟨by simp; omega, by simp; omega⟩
    have HF := Aside0.mk hfin
    clear h5 h1 h2 h3 h4 e0 hG hc hl hn hfin
    rcases b5 with b5 | ⟨b5, b6⟩
    all_goals
      go_enter Tryz.func59, Tryz.ntmps59
      go_wp2_with (go_at_call 58; refine H.mono ?_; rintro e w1 ⟨rfl, hb⟩)
      go_ret
      exact ⟨rfl, hb⟩
  · rw [e0, if_neg h5, hn]
    have b5 : decide ((n : Int) < 32) = false := by simp; omega
    have b6 : decide (126 < (n : Int)) = false := by simp; omega
    clear h5 h1 h2 h3 h4 e0
    have hcv : (convert 62 9 (.slice (some ⟨w.heap.size, 0, none⟩) 1 1)).run Tryz.prog (w.alloc (.cells #[.int .u8 n] 5)) = .ok (.string ⟨#[c]⟩) (w.alloc (.cells #[.int .u8 n] 5)) :=
      run_convert_bytes_back (w.alloc (.cells #[.int .u8 n] 5)) 62 9 5 ⟨w.heap.size, 0, none⟩ 1 [c] Tryz.underlying62 Tryz.underlying5 Tryz.underlying9 (by
        intro j hj
        obtain rfl : j = 0 := by simp at hj; omega
        show _ = some (Value.int .u8 (c.toNat : Int))
        rw [hn]
        simp [Addr.add])
    go_enter Tryz.func59, Tryz.ntmps59
    go_wp2
    go_ret
    exact ⟨rfl, (Below.refl _ _).alloc (Nat.le_refl _) _⟩

theorem take_snoc (s : ByteArray) (k : Nat) (h : k < s.size) : s.data.toList.take (k + 1) = s.data.toList.take k ++ [s[k]] := by
  rw [List.take_succ_eq_append_getElem (by simpa using h)]; rfl

set_option maxHeartbeats 1000000 in
set_option maxRecDepth 100000 in
theorem escape_any (s : ByteArray) (w : World) (hG : Glob w) (hs : s.size ≤ 20000000000000) :
    Calls Tryz.prog 49 #[.string s] w fun e w' => e = .returned (.string ⟨(escL s.data.toList).toArray⟩) ∧ Below w.heap.size w w' := by
  have h0 := Bld.fresh w
  have b0 : Below w.heap.size w (w.alloc (.cells #[.pointer none, .slice none 0 0] 64)) := (Below.refl _ w).alloc (Nat.le_refl _) _
  have hsl : s.data.toList.length = s.size := by rw [Array.length_toList]; rfl
  go_enter Tryz.func49, Tryz.ntmps49
  go_wp2
  go_loopw [7] (fun i wr => ∃ k : Nat, k ≤ s.size ∧ i = .int .i64 k ∧ Bld w.heap.size w.heap.size (escL (s.data.toList.take k)) wr ∧ Below w.heap.size w wr) (fun i _ => s.size - (intOf i).toNat)
  case atStart => exact ⟨0, Nat.zero_le _, rfl, h0, b0⟩
  case round =>
    obtain ⟨k, hk, rfl, hB, hb⟩ := hrel
    by_cases hlt : k < s.size
    · have hl := escL_len (s.data.toList.take k)
      have hl' : (s.data.toList.take k).length ≤ k := List.length_take_le _ _
      have hts := Lib.hid (take_snoc s k hlt)
      have hGr := hG.below hb
      have H := escaped_any s[k] wr hGr
      go_wp2_with (go_at_call 59; refine H.mono ?_; rintro e w1 ⟨rfl, hb1⟩)
      have hz : (⟨(escB s[k]).toArray⟩ : ByteArray).size ≤ 6 := by rw [mk_size]; exact escB_len s[k]
      refine (write_l w.heap.size w.heap.size _ _ w1 (hB.below hb1) (by omega) (by have := hb.size; have := hb1.size; omega)).mono ?_
      rintro e w2 ⟨rfl, hB2, hb2, -⟩
      have hb3 : Below w.heap.size w w2 := (hb.trans (hb1.mono hb.size)).trans hb2
      have hB3 := Lib.hid hB2
      clear hb1 hb2 H hz hB2 hB hb hGr hl hl'
      go_wp2
      go_roundw
      case rel => exact ⟨k + 1, by omega, by go_num, by rw [hts.out, escL_snoc]; exact hB3.out, hb3⟩
      case measure => simp [intOf]; omega
    · obtain rfl : k = s.size := by omega
      rw [List.take_of_length_le (by omega)] at hB
      go_wp2_with (go_at_call 30; refine (string_l w.heap.size w.heap.size _ _ hB hb.size).mono ?_; rintro e w1 ⟨rfl, hb1⟩)
      go_ret
      exact ⟨rfl, hb.trans hb1⟩

end Go.Proofs.YtfpldbobfjkkfaaGreatDoor
