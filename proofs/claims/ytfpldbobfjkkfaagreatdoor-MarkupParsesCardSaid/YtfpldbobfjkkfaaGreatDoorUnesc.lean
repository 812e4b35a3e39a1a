/- The walks of markup.name and markup.Unescape. -/
import Derived.Test.YtfpldbobfjkkfaaGreatDoorEsc
import Derived.Deep.QuietTactic
import Derived.BigQuiet
import Derived.RegionTactic
namespace Go.Proofs.YtfpldbobfjkkfaaGreatDoor
open Go.RowKit Go.Proofs Go.Proofs.YtfpldbobfjkkfaaGreatDoorW.PrintWords Go.Proofs.YtfpldbobfjkkfaaGreatDoorW.PrintLast
set_option linter.unusedSimpArgs false

/-- strconv.ParseUint(s, 10, 8). -/
theorem parse8_any (s : ByteArray) (hs : s.size ≤ 281474976710656) (w : World) (hG : Glob w) :
    Calls Tryz.prog 67 #[.string s, .int .i64 10, .int .i64 8] w fun e w' => ∃ (v : Nat) (ok : Bool) (err : Value), e = .returned (.tuple #[.int .u64 v, err]) ∧ v < 256 ∧ Below w.heap.size w w' ∧ numL s.data.toList = ((v : Int), ok) ∧
      ((ok = true ∧ err = .nilIface) ∨ (ok = false ∧ ∃ a, err = .iface 122 a)) := by
  obtain ⟨ts, ps, hsyn⟩ := hG.syn
  obtain ⟨tr, pr, hrng⟩ := hG.rng
  match h : Lib.parseUintB 8 s.data.toList with
  | .ok u =>
    refine (Tryz.strconv_ParseUint_10_at8_ok s (by omega) u h w).mono ?_
    rintro e w' ⟨rfl, hw⟩
    refine ⟨u, true, .nilIface, rfl, parse8_lt h, ?_, by unfold numL; rw [h], .inl ⟨rfl, rfl⟩⟩
    rcases hw with rfl | rfl
    · exact Below.refl _ _
    · exact bytes_below (Below.refl _ _) (Nat.le_refl _) _ _
  | .syntax =>
    refine (Tryz.strconv_ParseUint_10_at8_syntax s hs h _ w hsyn (.inr ⟨_, _, rfl⟩)).mono ?_
    rintro e w' ⟨N, rfl, _, _, hb⟩
    exact ⟨0, false, _, rfl, by omega, hb, by unfold numL; rw [h]; rfl, .inr ⟨rfl, _, rfl⟩⟩
  | .range =>
    refine (Tryz.strconv_ParseUint_10_at8_range s hs h _ w hrng (.inr ⟨_, _, rfl⟩)).mono ?_
    rintro e w' ⟨N, rfl, _, _, hb⟩
    exact ⟨255, false, _, rfl, by omega, hb, by unfold numL; rw [h]; rfl, .inr ⟨rfl, _, rfl⟩⟩

theorem trim_len (l p : List UInt8) : (Lib.trimPrefix l p).length ≤ l.length := by
  unfold Lib.trimPrefix
  split
  · simp
  · exact Nat.le_refl _

set_option maxHeartbeats 1000000 in
set_option maxRecDepth 100000 in
theorem name_any (s : ByteArray) (w : World) (hG : Glob w) (hs : s.size ≤ 20000000000000) :
    Calls Tryz.prog 62 #[.string s] w fun e w' => e = .returned (.tuple #[.int .u8 (nameL s.data.toList).1, .bool (nameL s.data.toList).2]) ∧ Below w.heap.size w w' := by
  have e0 : nameL s.data.toList = if s.toList == [97, 109, 112] then (38, true) else if s.toList == [108, 116] then (60, true) else if s.toList == [103, 116] then (62, true) else if s.toList == [113, 117, 111, 116] then (34, true)
      else numL (Lib.trimPrefix s.data.toList [35]) := by rw [Lib.toList_data]; rfl
  rw [e0]
  cases h1 : s.toList == [97, 109, 112] with
  | true =>
    go_enter Tryz.func62, Tryz.ntmps62
    go_wp2
    go_ret2
    exact ⟨rfl, Below.refl _ _⟩
  | false =>
  cases h2 : s.toList == [108, 116] with
  | true =>
    go_enter Tryz.func62, Tryz.ntmps62
    go_wp2
    go_ret2
    exact ⟨rfl, Below.refl _ _⟩
  | false =>
  cases h3 : s.toList == [103, 116] with
  | true =>
    go_enter Tryz.func62, Tryz.ntmps62
    go_wp2
    go_ret2
    exact ⟨rfl, Below.refl _ _⟩
  | false =>
  cases h4 : s.toList == [113, 117, 111, 116] with
  | true =>
    go_enter Tryz.func62, Tryz.ntmps62
    go_wp2
    go_ret2
    exact ⟨rfl, Below.refl _ _⟩
  | false =>
  have hT := Tryz.strings_TrimPrefix s ⟨#[35]⟩ w
  have hP := parse8_any ⟨(Lib.trimPrefix s.data.toList [35]).toArray⟩ (by rw [mk_size]; have := trim_len s.data.toList [35]; rw [len_list] at this; omega) w hG
  rw [mk_list] at hP
  simp only [Bool.false_eq_true, if_false]
  clear e0
  go_enter Tryz.func62, Tryz.ntmps62
  go_wp2_with fail
  refine hT.mono ?_
  rintro e w1 ⟨rfl, rfl⟩
  go_wp2_with fail
  refine hP.mono ?_
  rintro e w1 ⟨v, ok, err, rfl, hv, hb, hn, hc⟩
  have HN := Lib.hid hn
  clear hT hP hn
  have hw : (v : Int) % 256 = v := by omega
  rcases hc with ⟨rfl, rfl⟩ | ⟨rfl, a, rfl⟩
  all_goals
    go_wp2
    go_quiet (fail)
    go_wp2
    go_ret2
    exact ⟨by rw [HN.out]; rfl, pw_below_drewN hb nq⟩

theorem own_str {W : World} {base n : Nat} {v : Value} {l : List UInt8} (h : W.ownsRow base 5 1 v n (Lib.byteCells l)) : (convert 62 9 v).run Tryz.prog W = .ok (.string ⟨l.toArray⟩) W := by
  have hl : l.length = n := by have := h.1; simpa [Lib.byteCells_length] using this
  rcases h.2 with ⟨rfl, rfl⟩ | ⟨g, cap, cur, rfl, _⟩
  · obtain rfl : l = [] := List.eq_nil_of_length_eq_zero hl
    exact run_convert_bytes_nil W 62 5 Tryz.underlying62 Tryz.underlying5 0 0 9 Tryz.underlying9
  · subst hl
    refine run_convert_bytes_back W 62 9 5 ⟨g, 0, none⟩ cap l Tryz.underlying62 Tryz.underlying5 Tryz.underlying9 (fun j hj => ?_)
    have hc := h.cells (g := g) rfl j (.int .u8 (l[j].toNat : Int)) (by simp [Lib.byteCells, hj])
    exact hc

theorem ext_list (s : ByteArray) (a : Nat) : (s.extract a s.size).data.toList = s.data.toList.drop a := by
  rw [Lib.extract_data, List.take_of_length_le (by rw [List.length_drop, len_list]; exact Nat.le_refl _)]

set_option maxHeartbeats 2000000 in
set_option maxRecDepth 100000 in
theorem unescape_any (s : ByteArray) (w : World) (hG : Glob w) (hs : s.size ≤ 1000000000) :
    Calls Tryz.prog 54 #[.string s] w fun e w' => e = .returned (.tuple #[.string ⟨((unescL s.data.toList).getD []).toArray⟩, .bool (unescL s.data.toList).isSome]) ∧ Below w.heap.size w w' := by
  obtain ⟨i0, hi, hz0, hz1, hz2⟩ := info_parts infoByte
  have hsl := len_list s
  go_enter Tryz.func54, Tryz.ntmps54
  go_wp2
  go_loopw [4, 5] (fun v i wr => ∃ (k : Nat) (acc : List UInt8), k ≤ s.size ∧ i = .int .i64 k ∧ acc.length ≤ k ∧ unescRaw s.data.toList = (unescRaw (s.data.toList.drop k)).map (fun x => acc ++ x) ∧ wr.ownsRow w.heap.size 5 1 v acc.length (Lib.byteCells acc) ∧ Below w.heap.size w wr) (fun _ i _ => s.size - (intOf i).toNat)
  case atStart => exact ⟨0, [], Nat.zero_le _, rfl, Nat.zero_le _, unescRaw_start _, own_nil _ _ _ _, Below.refl _ _⟩
  case round =>
    obtain ⟨k, acc, hk, rfl, hacc, he, hown, hb⟩ := hrel
    have HE := Lib.hid he
    clear he
    by_cases hlt : k < s.size
    · have hlt' : k < s.data.toList.length := by omega
      have hsk : s.data.toList[k] = s[k] := rfl
      by_cases hc : s[k].toNat = 38
      · have hb0 : ((s[k].toNat : Int) != 38) = false := by simp; omega
        have hGr := hG.below hb
        have hext := ext_list s (k + 1)
        have hcl := cut_len' (s.data.toList.drop (k + 1)) [59]
        rw [List.length_drop] at hcl
        have hC := cut_any (s.extract (k + 1) s.size) ⟨#[59]⟩ (by rw [← len_list, hext, List.length_drop]; omega) wr hGr
        rw [hext] at hC
        obtain ⟨cw, hcw⟩ : ∃ cw, cw = Lib.cut (s.data.toList.drop (k + 1)) [59] := ⟨_, rfl⟩
        have hC' : Calls Tryz.prog 52 #[.string (s.extract (k + 1) s.size), .string ⟨#[59]⟩] wr fun e w' => e = .returned (.tuple #[.string ⟨cw.1.toArray⟩, .string ⟨cw.2.1.toArray⟩, .bool cw.2.2]) ∧ Below wr.heap.size wr w' := by rw [hcw]; exact hC
        rw [← hcw] at hcl
        have HCW := Lib.hid hcw
        clear hC hext hcw
        go_wp2_with fail
        refine hC'.mono ?_
        rintro e w1 ⟨rfl, hb1⟩
        clear hC'
        have hN := name_any ⟨cw.1.toArray⟩ w1 (hGr.below hb1) (by rw [mk_size]; omega)
        rw [mk_list] at hN
        go_wp2_with fail
        refine hN.mono ?_
        rintro e w2 ⟨rfl, hb2⟩
        clear hN
        have hb3 : Below wr.heap.size wr w2 := hb1.trans (hb2.mono hb1.size)
        have hbb : Below w.heap.size w w2 := hb.trans (hb3.mono hb.size)
        have hown2 := pw_own_below hown hb3
        cases hok : cw.2.2 && (nameL cw.1).2 with
        | false =>
          have hx : cw.2.2 = false ∨ (cw.2.2 = true ∧ (nameL cw.1).2 = false) := by
            cases h1 : cw.2.2 <;> cases h2 : (nameL cw.1).2 <;> simp_all
          have HN := Lib.hid (show unescRaw s.data.toList = none by rw [HE.out]; exact unescRaw_fall hlt' (by rw [hsk]; exact hc) acc (by rw [← HCW.out]; exact hok))
          clear hok hc hb1 hb2 hown hown2 hb hGr hcl
          rcases hx with h1 | ⟨h1, h2⟩
          all_goals
            go_wp2
            go_ret2
            exact ⟨by rw [unescL_none HN.out]; rfl, hbb⟩
        | true =>
          have h1 : cw.2.2 = true := by cases h1 : cw.2.2 <;> simp_all
          have h2 : (nameL cw.1).2 = true := by cases h2 : (nameL cw.1).2 <;> simp_all
          have hnb := nameL_bd cw.1
          have hcl2 : cw.1.length + 1 ≤ s.size - (k + 1) := by
            have := cut_len (s.data.toList.drop (k + 1)) [59] (by rw [← HCW.out]; exact h1)
            rw [← HCW.out, List.length_drop, hsl] at this
            exact this
          have hun := Lib.hid (unescRaw_amp hlt' (by rw [hsk]; exact hc) acc (by rw [← HCW.out]; exact h1) (by rw [← HCW.out]; exact h2))
          obtain ⟨n, hn⟩ : ∃ n : Nat, (nameL cw.1).1 = n := ⟨(nameL cw.1).1.toNat, by omega⟩
          have hn256 : n < 256 := by omega
          have HNM := Lib.hid hn
          clear hok hc hb1 hb2 hown hb hGr hnb hb3
          rw [hn]
          clear hn
          go_wp2_with (at_builtin; refine wpList_append_own _ rfl _ _ 62 rfl w.heap.size 5 i0 (.int .u8 0) 1 1 Tryz.underlying62 hi hz0 hz1 hz2 rfl (by decide) _ _ _ rfl (hown2.alloc _) ⟨w2.heap.size, 0, none⟩ 1 1 [.int .u8 (n : Int)] rfl rfl ?c1 ?c2 ?c3 ?c4 ?c5 ?_)
          case c1 =>
            intro j u hj
            match j, hj with
            | 0, hj => simp at hj; subst hj; simp [Addr.add]
          case c2 => intro u hu; simp at hu; subst hu; rfl
          case c3 => unfold maxLen; omega
          case c4 => omega
          case c5 => have := hbb.size; simp; omega
          intro v' w3 hown' hgrow _
          have hb4 : Below w.heap.size w w3 := (hbb.alloc hbb.size _).grown hgrow (by have := hbb.size; simp; omega) (fun j hj => own_base hown2 j hj)
          have HO := Lib.hid hown'
          clear hown2 hown' hgrow hbb
          go_wp2
          go_roundw
          case rel =>
            refine ⟨k + (cw.1.length + 2), acc ++ [n.toUInt8], by omega, by go_num, by simp; omega, HE.out.trans (hun.out.trans ?_), ?_, hb4⟩
            · rw [← HCW.out, HNM.out]; rfl
            · have := HO.out
              simpa [Lib.byteCells, Nat.mod_eq_of_lt hn256] using this
          case measure => simp [intOf]; omega
      · have hb0 : ((s[k].toNat : Int) != 38) = true := by simp; omega
        have hun := Lib.hid (unescRaw_plain hlt' (by rw [hsk]; exact hc) acc)
        clear hc
        go_wp2_with (at_builtin; refine wpList_append_own _ rfl _ _ 62 rfl w.heap.size 5 i0 (.int .u8 0) 1 1 Tryz.underlying62 hi hz0 hz1 hz2 rfl (by decide) _ _ _ rfl (hown.alloc _) ⟨wr.heap.size, 0, none⟩ 1 1 [.int .u8 (s[k].toNat : Int)] rfl rfl ?c1 ?c2 ?c3 ?c4 ?c5 ?_)
        case c1 =>
          intro j u hj
          match j, hj with
          | 0, hj => simp at hj; subst hj; simp [Addr.add]
        case c2 => intro u hu; simp at hu; subst hu; rfl
        case c3 => unfold maxLen; omega
        case c4 => omega
        case c5 => have := hb.size; simp; omega
        intro v' w2 hown' hgrow _
        have hb2 : Below w.heap.size w w2 := (hb.alloc hb.size _).grown hgrow (by have := hb.size; simp; omega) (fun j hj => own_base hown j hj)
        have HO := Lib.hid hown'
        clear hown hown' hgrow hb
        go_wp2
        go_roundw
        case rel =>
          refine ⟨k + 1, acc ++ [s[k]], by omega, by go_num, by simp; omega, HE.out.trans hun.out, ?_, hb2⟩
          have := HO.out
          simpa [Lib.byteCells] using this
        case measure => simp [intOf]; omega
    · obtain rfl : k = s.size := by omega
      have hcv := own_str hown
      have hEs := escape_any ⟨acc.toArray⟩ wr (hG.below hb) (by rw [mk_size]; omega)
      rw [mk_list] at hEs
      have HR := Lib.hid (HE.out.trans (unescRaw_end s.data.toList acc s.size (by omega)))
      go_wp2_with fail
      refine hEs.mono ?_
      rintro e w1 ⟨rfl, hb1⟩
      have hcv1 := own_str (pw_own_below hown hb1)
      cases hq : (escL acc == s.toList) with
      | true =>
        have hz : escL acc = s.data.toList := by rw [← Lib.toList_data]; simpa using hq
        have HZ := Lib.hid (unescL_yes HR.out hz)
        clear hz
        go_wp2
        go_ret2
        exact ⟨by rw [HZ.out]; rfl, hb.trans (hb1.mono hb.size)⟩
      | false =>
        have hz : escL acc ≠ s.data.toList := by rw [← Lib.toList_data]; simpa using hq
        have HZ := Lib.hid (unescL_no HR.out hz)
        clear hz
        go_wp2
        go_ret2
        exact ⟨by rw [HZ.out]; rfl, hb.trans (hb1.mono hb.size)⟩

end Go.Proofs.YtfpldbobfjkkfaaGreatDoor
