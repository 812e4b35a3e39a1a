/- The walk of markup.anyAt: a range over a text's runes, for stops that are single bytes below 128. The walks of markup.scan's methods. The scan's methods, told by what is left of the text. -/
import Derived.Test.YtfpldbobfjkkfaaGreatDoorBase
import Derived.Test.YtfpldbobfjkkfaaGreatDoorPure2
import Derived.Laws.RangeAny
import Derived.Lib.OthersKept
import Derived.Test.YtfpldbobfjkkfaaGreatDoorUnesc
import Derived.Test.YtfpldbobfjkkfaaGreatDoorIdent
import Derived.WalkLawsBesides
import Derived.IntWalk
namespace Go.Proofs.YtfpldbobfjkkfaaGreatDoor
open Go.RowKit Go.Proofs Go.Proofs.YtfpldbobfjkkfaaGreatDoorW.PrintWords Go.Proofs.YtfpldbobfjkkfaaGreatDoorW.PrintLast
set_option linter.unusedSimpArgs false

theorem anyIdx_some {l stops : List UInt8} {k : Nat} (h : k < l.length) (h0 : ∀ j (hj : j < l.length), j < k → l[j] ∉ stops) (h1 : l[k] ∈ stops) : anyIdx l stops = some k := by
  unfold anyIdx
  rw [List.findIdx?_eq_some_iff_getElem]
  exact ⟨h, by simpa using h1, fun j hj => by have := h0 j (by omega) hj; simpa using this⟩

theorem anyIdx_none {l stops : List UInt8} (h0 : ∀ j (hj : j < l.length), l[j] ∉ stops) : anyIdx l stops = none := by
  unfold anyIdx
  rw [List.findIdx?_eq_none_iff]
  intro x hx
  obtain ⟨j, hj, rfl⟩ := List.getElem_of_mem hx
  have := h0 j hj
  simpa using this

/-- The same as a number. -/
def anyInt (l stops : List UInt8) : Int := match anyIdx l stops with | some k => (k : Int) | none => -1

theorem anyInt_some {l stops : List UInt8} {k : Nat} (h : anyIdx l stops = some k) : anyInt l stops = k := by unfold anyInt; rw [h]
theorem anyInt_none {l stops : List UInt8} (h : anyIdx l stops = none) : anyInt l stops = -1 := by unfold anyInt; rw [h]

theorem get_bang (s : ByteArray) (p : Nat) (h : p < s.size) : s.get! p = s[p]'h := by
  simp [ByteArray.get!, getElem!_pos, h]
  rfl

theorem width_pos (s : ByteArray) (pos : Nat) (h : pos < s.size) : 1 ≤ (Utf8.decode s pos).2 := by
  by_cases ha : (s[pos]'h).toNat < 128
  · rw [decode_ascii s pos h ha]; exact Nat.le_refl _
  · exact (decode_high s pos h (by omega)).2

/-- What a rune's further bytes are. -/
theorem decode_skip (s : ByteArray) (pos : Nat) : ∀ j, 1 ≤ j → j < (Utf8.decode s pos).2 → pos + j < s.size ∧ 128 ≤ (s.get! (pos + j)).toNat := by
  intro j hj1 hj2
  simp only [Utf8.decode] at hj2
  split at hj2
  · omega
  split at hj2
  · rename_i h1
    simp only [Bool.and_eq_true, decide_eq_true_eq, beq_iff_eq] at h1
    split at hj2
    · obtain rfl : j = 1 := by simp at hj2; omega
      exact ⟨h1.2.1, by omega⟩
    · simp at hj2; omega
  split at hj2
  · rename_i h1
    simp only [Bool.and_eq_true, decide_eq_true_eq, beq_iff_eq] at h1
    split at hj2
    · simp at hj2
      rcases (by omega : j = 1 ∨ j = 2) with rfl | rfl
      · exact ⟨h1.1.2.1, by omega⟩
      · exact ⟨h1.2.1, by omega⟩
    · simp at hj2; omega
  split at hj2
  · rename_i h1
    simp only [Bool.and_eq_true, decide_eq_true_eq, beq_iff_eq] at h1
    split at hj2
    · simp at hj2
      rcases (by omega : j = 1 ∨ j = 2 ∨ j = 3) with rfl | rfl | rfl
      · exact ⟨h1.1.1.2.1, by omega⟩
      · exact ⟨h1.1.2.1, by omega⟩
      · exact ⟨h1.2.1, by omega⟩
    · simp at hj2; omega
  · simp at hj2; omega

theorem decode_eq (s : ByteArray) (pos : Nat) (h : pos < s.size) (d : UInt8) (hd : d.toNat < 128) : (Utf8.decode s pos).1 = d.toNat ↔ s[pos]'h = d := by
  by_cases ha : (s[pos]'h).toNat < 128
  · rw [decode_ascii s pos h ha]
    exact ⟨fun e => UInt8.toNat.inj e, fun e => by rw [e]⟩
  · have := (decode_high s pos h (by omega)).1
    exact ⟨fun e => by omega, fun e => by rw [e] at ha; omega⟩

set_option maxHeartbeats 4000000 in
set_option maxRecDepth 1000000 in
theorem anyAt_any (s stops : ByteArray) (hA : ∀ j (h : j < stops.size), (stops[j]'h).toNat < 128) (w : World) :
    Calls Tryz.prog 51 #[.string s, .string stops] w fun e w' => e = .returned (.int .i64 (anyInt s.data.toList stops.data.toList)) ∧ Below w.heap.size w w' := by
  go_enter Tryz.func51, Tryz.ntmps51
  go_wp2
  go_loopw [] (fun wr => ∃ (pos : Nat), wr.heap[w.heap.size]? = some (.stringIter s pos) ∧ Below w.heap.size w wr ∧ (∀ j (hj : j < s.size), j < pos → (s[j]'hj) ∉ stops.data.toList)) (fun wr => s.size - wr.iterPos w.heap.size)
  case atStart =>
    exact ⟨0, World.iter_heap w s 0, (Below.refl _ w).alloc (Nat.le_refl _) _, fun j hj h => by omega⟩
  case round =>
    obtain ⟨pos, hit, hbw, hno⟩ := hrel
    have HNO := Lib.hid hno
    clear hno
    have hsz : w.heap.size < wr.heap.size := (Array.getElem?_eq_some_iff.1 hit).1
    by_cases hp : pos < s.size
    · have hnx : ∀ ty, (Instr.next (.pointer (some ⟨w.heap.size, 0, none⟩)) true ty).run Tryz.prog wr = _ := fun ty => Lib.run_next_any_at wr w.heap.size s pos ty hit hp
      have hwd := width_pos s pos hp
      have hd1 := decode_le s pos
      have hit2 := Lib.iterAt_heap wr w.heap.size s pos (pos + (Utf8.decode s pos).2) hit
      have hbw2 := Lib.below_iterAt hbw (k := w.heap.size) (by omega) s (pos + (Utf8.decode s pos).2)
      obtain ⟨wo, hwo⟩ : ∃ wo, wo = wr.iterAt w.heap.size s (pos + (Utf8.decode s pos).2) := ⟨_, rfl⟩
      rw [← hwo] at hit2 hbw2 hnx
      have HW := Lib.hid hwo
      clear hwo
      obtain ⟨c, hc⟩ : ∃ c, c = (Utf8.decode s pos).1 := ⟨_, rfl⟩
      obtain ⟨n, hn⟩ : ∃ n, n = (Utf8.decode s pos).2 := ⟨_, rfl⟩
      rw [← hc] at hnx hd1
      rw [← hn] at hwd hit2
      have HC := Lib.hid hc
      have HN := Lib.hid hn
      clear hc hn
      go_wp2
      go_loopw [] (fun wr2 => ∃ (q : Nat), wr2.heap[wo.heap.size]? = some (.stringIter stops q) ∧ wr2.heap[w.heap.size]? = some (.stringIter s (pos + n)) ∧ Below w.heap.size w wr2 ∧ (∀ j (hj : j < stops.size), j < q → (stops[j]'hj).toNat ≠ c)) (fun wr2 => stops.size - wr2.iterPos wo.heap.size)
      case atStart =>
        exact ⟨0, World.iter_heap wo stops 0, blk_alloc hit2 _, hbw2.alloc hbw2.size _, fun j hj h => by omega⟩
      case round =>
        obtain ⟨q, hit3, hit4, hb3, hnq⟩ := hrel
        have HNQ := Lib.hid hnq
        clear hnq hnx
        have hszo : w.heap.size < wo.heap.size := (Array.getElem?_eq_some_iff.1 hit2).1
        by_cases hq : q < stops.size
        · have ha := hA q hq
          have hnx : ∀ ty, (Instr.next (.pointer (some ⟨wo.heap.size, 0, none⟩)) true ty).run Tryz.prog wr = _ := fun ty => Lib.run_next_ascii_at wr wo.heap.size stops q ty hit3 hq ha
          have hit3' := Lib.iterAt_heap wr wo.heap.size stops q (q + 1) hit3
          have hit4' : (wr.iterAt wo.heap.size stops (q + 1)).heap[w.heap.size]? = some (.stringIter s (pos + n)) := (Lib.iterAt_other wr wo.heap.size w.heap.size stops (q + 1) (by omega)).trans hit4
          have hb3' := Lib.below_iterAt hb3 (k := wo.heap.size) (by omega) stops (q + 1)
          by_cases hcq : (stops[q]'hq).toNat = c
          · have hb : ((c : Int) == ((stops[q]'hq).toNat : Int)) = true := by simp [hcq]
            have hmem : (s[pos]'hp) ∈ stops.data.toList := by
              have := (decode_eq s pos hp (stops[q]'hq) ha).1 (by rw [← HC.out, hcq])
              rw [this]
              exact List.getElem_mem (by rw [len_list]; exact hq)
            have HI := Lib.hid (anyInt_some (anyIdx_some (l := s.data.toList) (stops := stops.data.toList) (k := pos) (by rw [len_list]; exact hp) (fun j hj h => HNO.out j (by rw [← len_list]; exact hj) h) hmem))
            clear hmem hcq ha
            go_wp2
            go_ret
            exact ⟨by rw [HI.out]; rfl, hb3'⟩
          · have hb : ((c : Int) == ((stops[q]'hq).toNat : Int)) = false := by simp; omega
            have HQ := Lib.hid hcq
            clear hcq
            go_wp2
            go_roundw
            case rel =>
              refine ⟨q + 1, hit3', hit4', hb3', fun j hj h => ?_⟩
              by_cases hjq : j < q
              · exact HNQ.out j hj hjq
              · obtain rfl : j = q := by omega
                exact HQ.out
            case measure =>
              simp only [World.iterPos, hit3', hit3]
              omega
        · have hnx : ∀ ty, (Instr.next (.pointer (some ⟨wo.heap.size, 0, none⟩)) true ty).run Tryz.prog wr = _ := fun ty => Lib.run_next_end_at wr wo.heap.size stops q ty hit3 hq
          go_wp2
          go_roundw
          case rel =>
            refine ⟨pos + n, hit4, hb3, fun j hj h => ?_⟩
            by_cases hjp : j < pos
            · exact HNO.out j hj hjp
            · intro hmem
              obtain ⟨i, hi, hij⟩ := List.getElem_of_mem hmem
              rw [len_list] at hi
              have hsi : stops[i]'hi = s[j]'hj := hij
              by_cases hjp2 : j = pos
              · subst hjp2
                have := (decode_eq s j hp (stops[i]'hi) (hA i hi)).2 (by rw [hsi])
                exact HNQ.out i hi (by omega) (by rw [HC.out, this])
              · have := decode_skip s pos (j - pos) (by omega) (by rw [← HN.out]; omega)
                rw [show pos + (j - pos) = j by omega, get_bang s j hj, ← hsi] at this
                have := hA i hi
                omega
          case measure =>
            simp only [World.iterPos, hit4, hit]
            omega
    · have hnx : ∀ ty, (Instr.next (.pointer (some ⟨w.heap.size, 0, none⟩)) true ty).run Tryz.prog wr = _ := fun ty => Lib.run_next_end_at wr w.heap.size s pos ty hit hp
      have HI := Lib.hid (anyInt_none (anyIdx_none (l := s.data.toList) (stops := stops.data.toList) (fun j hj => HNO.out j (by rw [← len_list]; exact hj) (by rw [len_list] at hj; omega))))
      go_wp2
      go_ret
      exact ⟨by rw [HI.out]; rfl, hbw⟩

end Go.Proofs.YtfpldbobfjkkfaaGreatDoor

namespace Go.Proofs.YtfpldbobfjkkfaaGreatDoor
open Go.RowKit Go.Proofs Go.Proofs.YtfpldbobfjkkfaaGreatDoorW.PrintWords Go.Proofs.YtfpldbobfjkkfaaGreatDoorW.PrintLast
set_option linter.unusedSimpArgs false

/-- The scan in block x: a text, and a place in it. -/
def ScanAt (x : Nat) (s : ByteArray) (p : Nat) (w : World) : Prop := w.heap[x]? = some (.cells #[.string s, .int .i64 (p : Int)] 46 (0, 0))

/-- The call leaves by the program's own panic. -/
def Dies (e : Ending) : Prop := ∃ v, e = .panicked [{ v := .iface 88 v, recovered := false }]

theorem grown_of_below0 {w w1 : World} (h : Below w.heap.size w w1) (row : Option Nat) : w.grownBy w1 row := ⟨h.os, h.tape, h.output, h.size, fun i hi _ => h.block i hi⟩

set_option maxHeartbeats 2000000 in
set_option maxRecDepth 100000 in
theorem fail_any (x p : Nat) (s : ByteArray) (w : World) (h : ScanAt x s p w) :
    Calls Tryz.prog 31 #[.pointer (some ⟨x, 0, none⟩)] w fun e w' => Dies e ∧ Below w.heap.size w w' := by
  have c1 : w.cell? ⟨x, 1, none⟩ = some (.int .i64 p) := blk_cell h 1
  go_enter Tryz.func31, Tryz.ntmps31
  go_wp2
  exact ⟨rfl, ⟨_, rfl⟩, Below.refl _ _⟩

theorem ScanAt.below {x p : Nat} {s : ByteArray} {w w' : World} (h : ScanAt x s p w) (hb : Below w.heap.size w w') : ScanAt x s p w' := blk_below h hb

theorem scan_set {x p : Nat} {s : ByteArray} {w : World} (h : ScanAt x s p w) (q : Nat) (v : Int) (hv : v = q) : ScanAt x s q (w.setCell ⟨x, 1, none⟩ (.int .i64 v)) := by
  subst hv
  exact blk_set h 1 _

theorem grown_set {x : Nat} {w w1 : World} (h : Below w.heap.size w w1) (j : Nat) (v : Value) : w.grownBy (w1.setCell ⟨x, j, none⟩ v) (some x) :=
  ⟨h.os, h.tape, h.output, by rw [World.size_setCell]; exact h.size, fun k hk hne => (Below.heap_setCell _ _ _ _ (fun e => hne (congrArg some e))).trans (h.block k hk)⟩

/-- What follows a place. -/
def rest (s : ByteArray) (p : Nat) : List UInt8 := s.data.toList.drop p

theorem rest_len (s : ByteArray) (p : Nat) : (rest s p).length = s.size - p := by unfold rest; rw [List.length_drop, len_list]

/-- strings.HasPrefix of what follows a place. -/
theorem pre_at (s t : ByteArray) (p : Nat) (b : Bool) (hb : t.data.toList.isPrefixOf (rest s p) = b) (w : World) : Calls Tryz.prog 50 #[.string (s.extract p s.size), .string t] w fun e w' => e = .returned (.bool b) ∧ w' = w := by
  refine (Tryz.strings_HasPrefix (s.extract p s.size) t w).mono ?_
  rintro e w' ⟨rfl, rfl⟩
  refine ⟨?_, rfl⟩
  rw [ext_list]
  unfold Lib.hasPrefix
  unfold rest at hb
  rw [hb]

theorem pre_room {s t : ByteArray} {p : Nat} (hp : p ≤ s.size) (h : t.data.toList.isPrefixOf (rest s p) = true) : p + t.size ≤ s.size := by
  have := (List.isPrefixOf_iff_prefix.1 h).length_le
  rw [rest_len, len_list] at this
  omega

set_option maxHeartbeats 2000000 in
set_option maxRecDepth 100000 in
theorem next_any (x p : Nat) (s t : ByteArray) (b : Bool) (w : World) (h : ScanAt x s p w) (hp : p ≤ s.size) (hb : t.data.toList.isPrefixOf (rest s p) = b) :
    Calls Tryz.prog 36 #[.pointer (some ⟨x, 0, none⟩), .string t] w fun e w' => e = .returned (.bool b) ∧ Below w.heap.size w w' := by
  have c0 : w.cell? ⟨x, 0, none⟩ = some (.string s) := blk_cell h 0
  have c1 : w.cell? ⟨x, 1, none⟩ = some (.int .i64 p) := blk_cell h 1
  have hpre := pre_at s t p b hb
  clear hb
  go_enter Tryz.func36, Tryz.ntmps36
  go_wp2
  go_quiet ((go_at_call 50; exact Calls.quiet_of_same (hpre _)))
  go_wp2
  go_ret
  exact ⟨rfl, below_drewN0 _ _⟩

set_option maxHeartbeats 2000000 in
set_option maxRecDepth 100000 in
theorem want_yes (x p : Nat) (s t : ByteArray) (w : World) (h : ScanAt x s p w) (hp : p ≤ s.size) (hs : s.size ≤ 9000000000000000000) (hy : t.data.toList.isPrefixOf (rest s p) = true) :
    Calls Tryz.prog 32 #[.pointer (some ⟨x, 0, none⟩), .string t] w fun e w' => e = .returned (.tuple #[]) ∧ ScanAt x s (p + t.size) w' ∧ w.grownBy w' (some x) := by
  have c0 : w.cell? ⟨x, 0, none⟩ = some (.string s) := blk_cell h 0
  have c1 : w.cell? ⟨x, 1, none⟩ = some (.int .i64 p) := blk_cell h 1
  have f1 : w.frozen? ⟨x, 1, none⟩ = false := blk_frozen h 1
  have hroom := pre_room hp hy
  have hpre := pre_at s t p true hy
  clear hy
  go_enter Tryz.func32, Tryz.ntmps32
  go_wp2
  go_quiet ((go_at_call 50; exact Calls.quiet_of_same (hpre _)))
  go_wp2
  go_end0
  exact ⟨rfl, scan_set (h.below (below_drewN0 w nq)) _ _ (by omega), grown_set (below_drewN0 w nq) _ _⟩

set_option maxHeartbeats 2000000 in
set_option maxRecDepth 100000 in
theorem want_no (x p : Nat) (s t : ByteArray) (w : World) (h : ScanAt x s p w) (hp : p ≤ s.size) (hy : t.data.toList.isPrefixOf (rest s p) = false) :
    Calls Tryz.prog 32 #[.pointer (some ⟨x, 0, none⟩), .string t] w fun e w' => Dies e ∧ Below w.heap.size w w' := by
  have c0 : w.cell? ⟨x, 0, none⟩ = some (.string s) := blk_cell h 0
  have c1 : w.cell? ⟨x, 1, none⟩ = some (.int .i64 p) := blk_cell h 1
  have hpre := pre_at s t p false hy
  clear hy
  go_enter Tryz.func32, Tryz.ntmps32
  go_wp2
  go_quiet ((go_at_call 50; exact Calls.quiet_of_same (hpre _)))
  go_wp2_with fail
  refine (fail_any x p s (w.drewN nq) h).mono ?_
  rintro e w' ⟨⟨v, rfl⟩, hb⟩
  go_wp2
  exact ⟨rfl, ⟨_, rfl⟩, (below_drewN0 w nq).trans hb⟩

theorem held3 {w w1 w2 : World} {g : Nat} {x y : Value} (h : (w1.cell? ⟨g, 0, none⟩ = some x ∧ w1.cell? ⟨g, 1, none⟩ = some y) ∧ Below w.heap.size w w1) (hb : Below w1.heap.size w1 w2) :
    (w2.cell? ⟨g, 0, none⟩ = some x ∧ w2.cell? ⟨g, 1, none⟩ = some y) ∧ Below w.heap.size w w2 :=
  ⟨⟨pw_cell_below hb h.1.1, pw_cell_below hb h.1.2⟩, h.2.trans (hb.mono h.2.size)⟩
theorem held3_below {w w1 : World} {g : Nat} {x y : Value} (h : (w1.cell? ⟨g, 0, none⟩ = some x ∧ w1.cell? ⟨g, 1, none⟩ = some y) ∧ Below w.heap.size w w1) : Below w.heap.size w w1 := h.2

theorem anyAt_at (s stops : ByteArray) (p : Nat) (r : Int) (hA : ∀ j (h : j < stops.size), (stops[j]'h).toNat < 128) (hr : anyInt (rest s p) stops.data.toList = r) (w : World) :
    Calls Tryz.prog 51 #[.string (s.extract p s.size), .string stops] w fun e w' => e = .returned (.int .i64 r) ∧ Below w.heap.size w w' := by
  refine (anyAt_any (s.extract p s.size) stops hA w).mono ?_
  rintro e w' ⟨rfl, hb⟩
  refine ⟨?_, hb⟩
  rw [ext_list]
  unfold rest at hr
  rw [hr]

set_option maxHeartbeats 2000000 in
set_option maxRecDepth 100000 in
theorem to_yes (x p n : Nat) (s stops : ByteArray) (w : World) (h : ScanAt x s p w) (hp : p ≤ s.size) (hs : s.size ≤ 9000000000000000000) (hA : ∀ j (h : j < stops.size), (stops[j]'h).toNat < 128)
    (hy : anyIdx (rest s p) stops.data.toList = some n) :
    Calls Tryz.prog 33 #[.pointer (some ⟨x, 0, none⟩), .string stops] w fun e w' => e = .returned (.string (s.extract p (p + n))) ∧ ScanAt x s (p + n) w' ∧ w.grownBy w' (some x) := by
  have c0 : w.cell? ⟨x, 0, none⟩ = some (.string s) := blk_cell h 0
  have c1 : w.cell? ⟨x, 1, none⟩ = some (.int .i64 p) := blk_cell h 1
  have hroom := anyIdx_room hy
  rw [rest_len] at hroom
  have hany := anyAt_at s stops p n hA (anyInt_some hy)
  clear hy hA
  have h0 : ((n : Int) < 0) = False := eq_false (by omega)
  go_enter Tryz.func33, Tryz.ntmps33
  go_wp2
  go_region_held3 (fun w' => (w'.cell? ⟨x, 0, none⟩ = some (.string s) ∧ w'.cell? ⟨x, 1, none⟩ = some (.int .i64 p)) ∧ Below w.heap.size w w') (first | exact ⟨⟨c0, c1⟩, below_drewN0 w 1⟩ | exact held3 (by assumption) (by assumption))
    (first | (go_at_call 51; refine (hany _).mono ?_; rintro e w1 ⟨rfl, hb⟩))
  have hb1 : Below w.heap.size w w1 := held3_below (by assumption)
  have h1 := h.below hb1
  clear c0 c1 h hany hb
  have c0 : w1.cell? ⟨x, 0, none⟩ = some (.string s) := blk_cell h1 0
  have c1 : w1.cell? ⟨x, 1, none⟩ = some (.int .i64 p) := blk_cell h1 1
  have f1 : w1.frozen? ⟨x, 1, none⟩ = false := blk_frozen h1 1
  go_wp2
  have e1 : IntKind.i64.wrap ((p : Int) + (n : Int)) = (p : Int) + (n : Int) := IntWalk.i64_in _ (by omega)
  have e2 : (0 : Int) ≤ (p : Int) + (n : Int) := by omega
  have e3 : ((p : Int) + (n : Int)).toNat = p + n := by omega
  have e4 : ((p : Int) + (n : Int) ≤ (s.size : Int)) := by omega
  have e5 : ((p : Int) ≤ (p : Int) + (n : Int)) := by omega
  go_quiet (fail)
  clear e1 e2 e3 e4 e5
  go_wp2
  go_ret
  exact ⟨rfl, scan_set (h1.below (below_drewN0 w1 nq)) _ _ (by omega), grown_set (hb1.trans ((below_drewN0 w1 nq).mono hb1.size)) _ _⟩

set_option maxHeartbeats 2000000 in
set_option maxRecDepth 100000 in
theorem to_no (x p : Nat) (s stops : ByteArray) (w : World) (h : ScanAt x s p w) (hp : p ≤ s.size) (hA : ∀ j (h : j < stops.size), (stops[j]'h).toNat < 128)
    (hy : anyIdx (rest s p) stops.data.toList = none) :
    Calls Tryz.prog 33 #[.pointer (some ⟨x, 0, none⟩), .string stops] w fun e w' => Dies e ∧ Below w.heap.size w w' := by
  have c0 : w.cell? ⟨x, 0, none⟩ = some (.string s) := blk_cell h 0
  have c1 : w.cell? ⟨x, 1, none⟩ = some (.int .i64 p) := blk_cell h 1
  have hany := anyAt_at s stops p (-1) hA (anyInt_none hy)
  clear hy hA
  go_enter Tryz.func33, Tryz.ntmps33
  go_wp2
  go_region_held3 (fun w' => (w'.cell? ⟨x, 0, none⟩ = some (.string s) ∧ w'.cell? ⟨x, 1, none⟩ = some (.int .i64 p)) ∧ Below w.heap.size w w') (first | exact ⟨⟨c0, c1⟩, below_drewN0 w 1⟩ | exact held3 (by assumption) (by assumption))
    (first | (go_at_call 51; refine (hany _).mono ?_; rintro e w1 ⟨rfl, hb⟩))
  have hb1 : Below w.heap.size w w1 := held3_below (by assumption)
  have h1 := h.below hb1
  clear c0 c1 h hany hb
  go_wp2_with fail
  refine (fail_any x p s w1 h1).mono ?_
  rintro e w2 ⟨⟨v, rfl⟩, hb⟩
  go_wp2
  exact ⟨rfl, ⟨_, rfl⟩, hb1.trans (hb.mono hb1.size)⟩

theorem ext_take (s : ByteArray) (p n : Nat) : (s.extract p (p + n)).data.toList = (rest s p).take n := by
  rw [Lib.extract_data, Nat.add_sub_cancel_left]; rfl

theorem ext_size (s : ByteArray) (p n : Nat) : (s.extract p (p + n)).size ≤ s.size := by
  rw [← len_list, ext_take, List.length_take, rest_len]; omega

theorem grown_trans {w w1 w2 : World} {x : Nat} (h : w.grownBy w1 (some x)) (hb : Below w1.heap.size w1 w2) : w.grownBy w2 (some x) :=
  ⟨hb.os.trans h.os, hb.tape.trans h.tape, hb.output.trans h.output, Nat.le_trans h.size hb.size, fun k hk hne => (hb.block k (Nat.lt_of_lt_of_le hk h.size)).trans (h.block k hk hne)⟩

set_option maxHeartbeats 2000000 in
set_option maxRecDepth 100000 in
theorem plain_yes (x p n : Nat) (s stops : ByteArray) (o : List UInt8) (w : World) (hG : ∀ w', w.grownBy w' (some x) → Glob w') (h : ScanAt x s p w) (hp : p ≤ s.size) (hs : s.size ≤ 1000000000) (hA : ∀ j (h : j < stops.size), (stops[j]'h).toNat < 128)
    (hy : anyIdx (rest s p) stops.data.toList = some n) (ho : unescL ((rest s p).take n) = some o) :
    Calls Tryz.prog 37 #[.pointer (some ⟨x, 0, none⟩), .string stops] w fun e w' => e = .returned (.string ⟨o.toArray⟩) ∧ ScanAt x s (p + n) w' ∧ w.grownBy w' (some x) := by
  have hto := to_yes x p n s stops w h hp (by omega) hA hy
  clear hy hA h
  go_enter Tryz.func37, Tryz.ntmps37
  go_wp2_with fail
  refine hto.mono ?_
  rintro e w1 ⟨rfl, h1, hg⟩
  clear hto
  have hun := unescape_any (s.extract p (p + n)) w1 (hG w1 hg) (Nat.le_trans (ext_size s p n) hs)
  rw [ext_take, ho] at hun
  clear hG ho
  go_wp2_with fail
  refine hun.mono ?_
  rintro e w2 ⟨rfl, hb⟩
  clear hun
  go_wp2
  go_ret
  exact ⟨rfl, h1.below hb, grown_trans hg hb⟩

set_option maxHeartbeats 2000000 in
set_option maxRecDepth 100000 in
theorem plain_no1 (x p : Nat) (s stops : ByteArray) (w : World) (h : ScanAt x s p w) (hp : p ≤ s.size) (hA : ∀ j (h : j < stops.size), (stops[j]'h).toNat < 128)
    (hy : anyIdx (rest s p) stops.data.toList = none) :
    Calls Tryz.prog 37 #[.pointer (some ⟨x, 0, none⟩), .string stops] w fun e w' => Dies e ∧ w.grownBy w' (some x) := by
  have hto := to_no x p s stops w h hp hA hy
  clear hy hA h
  go_enter Tryz.func37, Tryz.ntmps37
  go_wp2_with fail
  refine hto.mono ?_
  rintro e w1 ⟨⟨v, rfl⟩, hb⟩
  go_wp2
  exact ⟨rfl, ⟨_, rfl⟩, grown_of_below0 hb _⟩

set_option maxHeartbeats 2000000 in
set_option maxRecDepth 100000 in
theorem plain_no2 (x p n : Nat) (s stops : ByteArray) (w : World) (hG : ∀ w', w.grownBy w' (some x) → Glob w') (h : ScanAt x s p w) (hp : p ≤ s.size) (hs : s.size ≤ 1000000000) (hA : ∀ j (h : j < stops.size), (stops[j]'h).toNat < 128)
    (hy : anyIdx (rest s p) stops.data.toList = some n) (ho : unescL ((rest s p).take n) = none) :
    Calls Tryz.prog 37 #[.pointer (some ⟨x, 0, none⟩), .string stops] w fun e w' => Dies e ∧ w.grownBy w' (some x) := by
  have hto := to_yes x p n s stops w h hp (by omega) hA hy
  clear hy hA h
  go_enter Tryz.func37, Tryz.ntmps37
  go_wp2_with fail
  refine hto.mono ?_
  rintro e w1 ⟨rfl, h1, hg⟩
  clear hto
  have hun := unescape_any (s.extract p (p + n)) w1 (hG w1 hg) (Nat.le_trans (ext_size s p n) hs)
  rw [ext_take, ho] at hun
  clear hG ho
  go_wp2_with fail
  refine hun.mono ?_
  rintro e w2 ⟨rfl, hb⟩
  have h2 := h1.below hb
  have hg2 := grown_trans hg hb
  clear hun h1 hg hb
  go_wp2_with fail
  refine (fail_any x (p + n) s w2 h2).mono ?_
  rintro e w3 ⟨⟨v, rfl⟩, hb⟩
  go_wp2
  exact ⟨rfl, ⟨_, rfl⟩, grown_trans hg2 hb⟩

end Go.Proofs.YtfpldbobfjkkfaaGreatDoor

namespace Go.Proofs.YtfpldbobfjkkfaaGreatDoor
open Go.RowKit Go.Proofs Go.Proofs.YtfpldbobfjkkfaaGreatDoorW.PrintWords Go.Proofs.YtfpldbobfjkkfaaGreatDoorW.PrintLast

/-- The scan in block x: of the text s it has l ahead. -/
def ScanL (x : Nat) (s : ByteArray) (l : List UInt8) (w : World) : Prop := ∃ p, p ≤ s.size ∧ ScanAt x s p w ∧ rest s p = l

theorem ScanL.below {x : Nat} {s : ByteArray} {l : List UInt8} {w w' : World} (h : ScanL x s l w) (hb : Below w.heap.size w w') : ScanL x s l w' := by
  obtain ⟨p, h1, h2, h3⟩ := h
  exact ⟨p, h1, h2.below hb, h3⟩

theorem ScanL.len {x : Nat} {s : ByteArray} {l : List UInt8} {w : World} (h : ScanL x s l w) : l.length ≤ s.size := by
  obtain ⟨p, h1, h2, rfl⟩ := h
  rw [rest_len]
  omega

theorem rest_drop (s : ByteArray) (p n : Nat) : (rest s p).drop n = rest s (p + n) := by unfold rest; rw [List.drop_drop]

theorem stops_ok {stops : ByteArray} (h : (stops.data.toList.all fun c => decide (c.toNat < 128)) = true) : ∀ j (h : j < stops.size), (stops[j]'h).toNat < 128 := by
  intro j hj
  rw [List.all_eq_true] at h
  have := h (stops[j]'hj) (List.getElem_mem (l := stops.data.toList) (by rw [len_list]; exact hj))
  simpa using this

def NextPost (t l : List UInt8) (w : World) (e : Ending) (w' : World) : Prop := e = .returned (.bool (t.isPrefixOf l)) ∧ Below w.heap.size w w'

theorem next_l (x : Nat) (s t : ByteArray) (l : List UInt8) (w : World) (h : ScanL x s l w) :
    Calls Tryz.prog 36 #[.pointer (some ⟨x, 0, none⟩), .string t] w (NextPost t.data.toList l w) := by
  obtain ⟨p, h1, h2, rfl⟩ := h
  exact next_any x p s t _ w h2 h1 rfl

theorem next_is (x : Nat) (s t : ByteArray) (l : List UInt8) (b : Bool) (w : World) (h : ScanL x s l w) (hp : t.data.toList.isPrefixOf l = b) :
    Calls Tryz.prog 36 #[.pointer (some ⟨x, 0, none⟩), .string t] w fun e w' => e = .returned (.bool b) ∧ Below w.heap.size w w' := by
  subst hp
  exact next_l x s t l w h

def WantPost (x : Nat) (s : ByteArray) (t l : List UInt8) (w : World) (e : Ending) (w' : World) : Prop :=
  w.grownBy w' (some x) ∧ ((t.isPrefixOf l = true ∧ e = .returned (.tuple #[]) ∧ ScanL x s (l.drop t.length) w') ∨ (t.isPrefixOf l = false ∧ Dies e))

theorem want_l (x : Nat) (s t : ByteArray) (l : List UInt8) (w : World) (h : ScanL x s l w) (hs : s.size ≤ 1000000000) :
    Calls Tryz.prog 32 #[.pointer (some ⟨x, 0, none⟩), .string t] w (WantPost x s t.data.toList l w) := by
  obtain ⟨p, h1, h2, rfl⟩ := h
  cases hy : t.data.toList.isPrefixOf (rest s p) with
  | true =>
    refine (want_yes x p s t w h2 h1 (by omega) hy).mono ?_
    rintro e w' ⟨rfl, h3, h4⟩
    refine ⟨h4, .inl ⟨hy, rfl, p + t.size, pre_room h1 hy, h3, ?_⟩⟩
    rw [rest_drop, len_list]
  | false =>
    refine (want_no x p s t w h2 h1 hy).mono ?_
    rintro e w' ⟨h3, h4⟩
    exact ⟨grown_of_below0 h4 _, .inr ⟨hy, h3⟩⟩

def ToPost (x : Nat) (s : ByteArray) (stops l : List UInt8) (w : World) (e : Ending) (w' : World) : Prop :=
  w.grownBy w' (some x) ∧ ((∃ n, anyIdx l stops = some n ∧ e = .returned (.string ⟨(l.take n).toArray⟩) ∧ ScanL x s (l.drop n) w') ∨ (anyIdx l stops = none ∧ Dies e))

theorem ext_eq (s : ByteArray) (p n : Nat) : s.extract p (p + n) = ⟨((rest s p).take n).toArray⟩ := by rw [← ext_take, mk_data]

theorem to_l (x : Nat) (s stops : ByteArray) (l : List UInt8) (w : World) (h : ScanL x s l w) (hs : s.size ≤ 1000000000) (hA : (stops.data.toList.all fun c => decide (c.toNat < 128)) = true) :
    Calls Tryz.prog 33 #[.pointer (some ⟨x, 0, none⟩), .string stops] w (ToPost x s stops.data.toList l w) := by
  obtain ⟨p, h1, h2, rfl⟩ := h
  cases hy : anyIdx (rest s p) stops.data.toList with
  | some n =>
    refine (to_yes x p n s stops w h2 h1 (by omega) (stops_ok hA) hy).mono ?_
    rintro e w' ⟨rfl, h3, h4⟩
    have := anyIdx_room hy
    rw [rest_len] at this
    exact ⟨h4, .inl ⟨n, hy, by rw [ext_eq], p + n, by omega, h3, (rest_drop s p n).symm⟩⟩
  | none =>
    refine (to_no x p s stops w h2 h1 (stops_ok hA) hy).mono ?_
    rintro e w' ⟨h3, h4⟩
    exact ⟨grown_of_below0 h4 _, .inr ⟨hy, h3⟩⟩

def PlainPost (x : Nat) (s : ByteArray) (stops l : List UInt8) (w : World) (e : Ending) (w' : World) : Prop :=
  w.grownBy w' (some x) ∧ ((∃ n o, anyIdx l stops = some n ∧ unescL (l.take n) = some o ∧ e = .returned (.string ⟨o.toArray⟩) ∧ ScanL x s (l.drop n) w') ∨ ((anyIdx l stops = none ∨ ∃ n, anyIdx l stops = some n ∧ unescL (l.take n) = none) ∧ Dies e))

theorem plain_l (x : Nat) (s stops : ByteArray) (l : List UInt8) (w : World) (hG : ∀ w', w.grownBy w' (some x) → Glob w') (h : ScanL x s l w) (hs : s.size ≤ 1000000000) (hA : (stops.data.toList.all fun c => decide (c.toNat < 128)) = true) :
    Calls Tryz.prog 37 #[.pointer (some ⟨x, 0, none⟩), .string stops] w (PlainPost x s stops.data.toList l w) := by
  obtain ⟨p, h1, h2, rfl⟩ := h
  cases hy : anyIdx (rest s p) stops.data.toList with
  | some n =>
    have hr := anyIdx_room hy
    rw [rest_len] at hr
    cases ho : unescL ((rest s p).take n) with
    | some o =>
      refine (plain_yes x p n s stops o w hG h2 h1 hs (stops_ok hA) hy ho).mono ?_
      rintro e w' ⟨rfl, h3, h4⟩
      exact ⟨h4, .inl ⟨n, o, hy, ho, rfl, p + n, by omega, h3, (rest_drop s p n).symm⟩⟩
    | none =>
      refine (plain_no2 x p n s stops w hG h2 h1 hs (stops_ok hA) hy ho).mono ?_
      rintro e w' ⟨h3, h4⟩
      exact ⟨h4, .inr ⟨.inr ⟨n, hy, ho⟩, h3⟩⟩
  | none =>
    refine (plain_no1 x p s stops w h2 h1 (stops_ok hA) hy).mono ?_
    rintro e w' ⟨h3, h4⟩
    exact ⟨h4, .inr ⟨.inl hy, h3⟩⟩

theorem fail_l (x : Nat) (s : ByteArray) (l : List UInt8) (w : World) (h : ScanL x s l w) :
    Calls Tryz.prog 31 #[.pointer (some ⟨x, 0, none⟩)] w fun e w' => Dies e ∧ Below w.heap.size w w' := by
  obtain ⟨p, _, h2, _⟩ := h
  exact fail_any x p s w h2

end Go.Proofs.YtfpldbobfjkkfaaGreatDoor
