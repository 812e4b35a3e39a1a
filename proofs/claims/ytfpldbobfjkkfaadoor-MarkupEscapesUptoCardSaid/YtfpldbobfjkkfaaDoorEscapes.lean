/- The walk of the law MarkupEscapes. -/
import Derived.Test.YtfpldbobfjkkfaaDoorThere
import Derived.Test.YtfpldbobfjkkfaaDoorPureX
namespace Go.Proofs.YtfpldbobfjkkfaaDoor
open Go.RowKit Go.Proofs Go.Proofs.YtfpldbobfjkkfaaDoorW.PrintWords Go.Proofs.YtfpldbobfjkkfaaDoorW.PrintLast
set_option linter.unusedSimpArgs false

/-- The reference's Escape and Unescape. -/
theorem refEscape_any (s : ByteArray) (hs : s.size ≤ 10000000000000) (w : World) : Calls Tryd.prog 12 #[.string s] w fun e w' => e = .returned (.string ⟨(escL s.data.toList).toArray⟩) ∧ Below w.heap.size w w' :=
  R.topiaryref20_Escape.calls _ s _ w (escape_f s hs (s.size + 257) (by omega))
theorem refUnescape_any (s : ByteArray) (hs : s.size ≤ 10000000000000) (w : World) : Calls Tryd.prog 10 #[.string s] w fun e w' => e = .returned (.tuple #[.string ⟨((unescL s.data.toList).getD []).toArray⟩, .bool (unescL s.data.toList).isSome]) ∧ Below w.heap.size w w' :=
  R.topiaryref20_Unescape.calls _ s _ _ w (unescape_f s hs (s.size + 1002) (by omega))

set_option maxHeartbeats 4000000 in
set_option maxRecDepth 1000000 in
theorem escapes_any (s : ByteArray) (hs : s.size ≤ 1048576) (t : ByteArray) (ht : t.size ≤ 1048576) (w : World) (hG : Glob w) (hgt : gTop ≤ w.heap.size) :
    Calls Tryd.prog 3 #[.string s, .string t] w fun e w' => e = .returned (.bool true) ∧ Below w.heap.size w w' := by
  have hU := unescape_any t w hG (by omega)
  have hV := refUnescape_any t (by omega)
  have hE := fun w1 h => escape_any s w1 h (by omega)
  have hF := refEscape_any s (by omega)
  obtain ⟨ub, hub⟩ : ∃ ub : ByteArray, ub = ⟨((unescL t.data.toList).getD []).toArray⟩ := ⟨_, rfl⟩
  obtain ⟨us, hus⟩ : ∃ us : Bool, us = (unescL t.data.toList).isSome := ⟨_, rfl⟩
  obtain ⟨es, hes⟩ : ∃ es : ByteArray, es = ⟨(escL s.data.toList).toArray⟩ := ⟨_, rfl⟩
  rw [← hub, ← hus] at hU
  simp only [← hub, ← hus] at hV
  simp only [← hes] at hE hF
  clear hub hus hes
  have z0 := hgt
  go_enter Tryd.func3, Tryd.ntmps3
  go_wp2_with fail
  refine hU.mono ?_
  rintro e w1 ⟨rfl, hb1⟩
  go_wp2_with fail
  refine (hV w1).mono ?_
  rintro e w2 ⟨rfl, hb2⟩
  have hb2 := hb1.trans (hb2.mono hb1.size)
  have hz2 := hb2.size
  clear hb1 hU hV
  go_wp2_with fail
  refine (hE w2 (hG.below hb2)).mono ?_
  rintro e w3 ⟨rfl, hb3⟩
  have hb3 := hb2.trans (hb3.mono hz2)
  have hz3 := hb3.size
  clear hE hb2
  go_wp2_with fail
  refine (hF w3).mono ?_
  rintro e w4 ⟨rfl, hb4⟩
  have hb4 := hb3.trans (hb4.mono hz3)
  have hz4 := hb4.size
  have hA := awake_any w4 (hG.below hb4) (by omega)
  clear hF hb3
  go_wp2_with fail
  refine hA.mono ?_
  rintro e w5 ⟨rfl, hb5⟩
  go_wp2
  go_ret
  exact ⟨rfl, hb4.trans (hb5.mono hz4)⟩

end Go.Proofs.YtfpldbobfjkkfaaDoor
