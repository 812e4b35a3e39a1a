/- The walk of topiarylaw20.awake: it says true. -/
import Derived.Test.YtfpldbobfjkkfaaGreatDoorText
import Derived.Test.YtfpldbobfjkkfaaGreatDoorPureT
import Derived.Test.YtfpldbobfjkkfaaGreatDoorPureT
namespace Go.Proofs.YtfpldbobfjkkfaaGreatDoor
open Go.RowKit Go.Proofs Go.Proofs.YtfpldbobfjkkfaaGreatDoorW.PrintWords Go.Proofs.YtfpldbobfjkkfaaGreatDoorW.PrintLast
set_option linter.unusedSimpArgs false

def awakeT : VN := ⟨⟨1, 0⟩, ⟨#[112]⟩, ⟨#[97, 60, 98]⟩, [], []⟩
def awakeS : ByteArray := ⟨#[60, 112, 32, 35, 49, 46, 48, 62, 97, 38, 108, 116, 59, 98, 60, 47, 112, 62]⟩

theorem awake_flat : flatD 0 awakeT = [(0, awakeT)] := by rw [flatD_eq]; rfl
theorem awake_check : checkV awakeT = 0 := by
  rw [checkV, awake_flat]
  rfl
theorem awake_text : textT true awakeT = awakeS.data.toList := by
  rw [textT_eq]
  simp [headT, keyText, rightB, dec_eq, escL, escB, textsT, awakeT, awakeS]
theorem awake_print : textV true awakeT = (awakeS.data.toList, 0) := by
  rw [textV, if_pos awake_check, awake_text]
  rfl
theorem awake_parse : parseV awakeS = (awakeT, 0) := by
  have := print_parse (t := awakeT) (by rw [awake_print])
  rw [awake_print] at this
  exact this
theorem awake_fits : ∀ p ∈ flatD 0 awakeT, Fits p.2 := by
  rw [awake_flat]
  intro p hp
  rw [List.mem_singleton] at hp
  subst hp
  exact ⟨by decide, by decide, (by intro a ha; cases ha), rfl, rfl⟩
theorem awake_fitS : ∀ p ∈ flatD 0 awakeT, FitS p.2 := by
  rw [awake_flat]
  intro p hp
  rw [List.mem_singleton] at hp
  subst hp
  exact ⟨by decide, by decide⟩
theorem awake_small : ∀ p ∈ flatD 0 awakeT, Small p.2 := fun p hp => ((checkV_small awake_fits awake_check).2 p hp).1
theorem awake_K (w : World) : R.k28.K w awakeT (#[.int .i64 1, .int .i64 0, .string ⟨#[112]⟩, .string ⟨#[97, 60, 98]⟩, .slice none 0 0, .slice none 0 0] : Array Value).toList :=
  R.k28.K_of_M (R.k28_mkM w w.heap.size (fun _ => True) awakeT (Kd.R_nil _ _ _ _ _) (Kd.R_nil _ _ _ _ _))

set_option maxHeartbeats 4000000 in
set_option maxRecDepth 1000000 in
theorem awake_any (w : World) (hG : Glob w) (hgt : gTop ≤ w.heap.size) : Calls Tryz.prog 4 #[] w fun e w' => e = .returned (.bool true) ∧ Below w.heap.size w w' := by
  have hP := fun w1 h h' => print_any awakeT _ w1 h h' (awake_K w1) awake_fits (fun _ => ⟨awake_small, by rw [awake_text]; decide⟩)
  rw [awake_print] at hP
  go_enter Tryz.func4, Tryz.ntmps4
  go_wp2_with fail
  have G1 := blk_new w (.cells #[.int .i64 1, .int .i64 0, .string ⟨#[112]⟩, .string ⟨#[97, 60, 98]⟩, .slice none 0 0, .slice none 0 0] 28)
  have hb0 := below_alloc (Below.refl w.heap.size w) (.cells #[.int .i64 1, .int .i64 0, .string ⟨#[112]⟩, .string ⟨#[97, 60, 98]⟩, .slice none 0 0, .slice none 0 0] 28)
  have hs0 : (w.alloc (.cells #[.int .i64 1, .int .i64 0, .string ⟨#[112]⟩, .string ⟨#[97, 60, 98]⟩, .slice none 0 0, .slice none 0 0] 28)).heap.size = w.heap.size + 1 := World.size_alloc ..
  refine (hP _ (hG.below hb0) (by omega)).mono ?_
  rintro e w1 ⟨rfl, hb⟩
  have hb1 := hb0.trans (hb.mono (by omega))
  have G2 := blk_below G1 hb
  have hs1 := hb.size
  clear hP G1 hb
  have hQ := parse_any awakeS w1 (hG.below hb1) (by omega)
  go_wp2_with fail
  refine hQ.mono ?_
  rintro e w2 ⟨hb2, cs, rfl, hM⟩
  rw [awake_parse] at hM ⊢
  have hb3 := hb1.trans (hb2.mono (by omega))
  have G3 := blk_below G2 hb2
  have hs2 := hb2.size
  have hK := R.k28.K_of_M hM
  obtain ⟨A4, c4, A5, c5, hcs, _, _, _, _⟩ := R.k28_open hK
  obtain rfl : cs = #[.int .i64 1, .int .i64 0, .string ⟨#[112]⟩, .string ⟨#[97, 60, 98]⟩, .slice A4 0 c4, .slice A5 0 c5] := Array.toList_inj.1 hcs
  have G4 := blk_alloc G3 (.cells #[.int .i64 1, .int .i64 0, .string ⟨#[112]⟩, .string ⟨#[97, 60, 98]⟩, .slice A4 0 c4, .slice A5 0 c5] 28)
  have G5 := blk_new w2 (.cells #[.int .i64 1, .int .i64 0, .string ⟨#[112]⟩, .string ⟨#[97, 60, 98]⟩, .slice A4 0 c4, .slice A5 0 c5] 28)
  have hb4 := below_alloc hb3 (.cells #[.int .i64 1, .int .i64 0, .string ⟨#[112]⟩, .string ⟨#[97, 60, 98]⟩, .slice A4 0 c4, .slice A5 0 c5] 28)
  have hS := same_any awakeT awakeT _ _ (w2.alloc (.cells #[.int .i64 1, .int .i64 0, .string ⟨#[112]⟩, .string ⟨#[97, 60, 98]⟩, .slice A4 0 c4, .slice A5 0 c5] 28)) awake_fitS (awake_K _) (R.k28.K_below (below_alloc (Below.refl w2.heap.size w2) _) hK)
  obtain ⟨⟨q0, q1, q2, q3, q4, q5⟩, _⟩ := cells6 G4
  obtain ⟨⟨p0, p1, p2, p3, p4, p5⟩, _⟩ := cells6 G5
  have hd : ((⟨awakeS.data⟩ : ByteArray).toList == [60, 112, 32, 35, 49, 46, 48, 62, 97, 38, 108, 116, 59, 98, 60, 47, 112, 62]) = true := by rw [Lib.toList_data]; rfl
  clear hM hK hcs hQ G2 G3
  go_wp2_with fail
  refine hS.mono ?_
  rintro e w3 ⟨⟨r, rfl, hr⟩, hb5⟩
  obtain rfl : r = true := hr.2 trivial
  go_wp2
  go_ret
  exact ⟨rfl, hb4.trans (hb5.mono hb4.size)⟩

end Go.Proofs.YtfpldbobfjkkfaaGreatDoor
