/- The walk of markup.Plain. topiaryref20.Text: a tree's text. The walks of topiaryref20.Text at a whole tree, of Told, and of the law MarkupPrints. -/
import Derived.Test.YtfpldbobfjkkfaaDoorText
import Derived.Test.YtfpldbobfjkkfaaDoorMarked
import Derived.Test.YtfpldbobfjkkfaaDoorRefCheck
import Derived.Test.YtfpldbobfjkkfaaDoorPureX
import Derived.Test.YtfpldbobfjkkfaaDoorRowTree
namespace Go.Proofs.YtfpldbobfjkkfaaDoor
open Go.RowKit Go.Proofs Go.Proofs.YtfpldbobfjkkfaaDoorW.PrintWords Go.Proofs.YtfpldbobfjkkfaaDoorW.PrintLast
set_option linter.unusedSimpArgs false

set_option maxHeartbeats 1000000 in
set_option maxRecDepth 1000000 in
theorem plain_any (t : VN) (cs : Array Value) (w : World) (hG : Glob w) (hgt : gTop ≤ w.heap.size) (hK : R.k32.K w t cs.toList) (hF : ∀ p ∈ flatD 0 t, Fits p.2)
    (hsm : checkV t = 0 → (∀ p ∈ flatD 0 t, Small p.2) ∧ (textT false t).length ≤ 100000000000000) :
    Calls Tryd.prog 19 #[.agg cs] w fun e w' => e = .returned (.tuple #[.string ⟨(textV false t).1.toArray⟩, .int .i64 (textV false t).2]) ∧ Below w.heap.size w w' := by
  have hb0 := below_alloc (Below.refl w.heap.size w) (.cells cs 32)
  have hT := text_any false t cs (w.alloc (.cells cs 32)) (hG.below hb0) (by rw [World.size_alloc]; omega) (R.k32.K_below hb0 hK) hF hsm
  obtain ⟨A4, c4, A5, c5, hcs, _, _, _, _⟩ := R.k32_open hK
  obtain rfl : cs = #[.int .i64 t.f0.f0, .int .i64 t.f0.f1, .string t.f1, .string t.f2, .slice A4 t.f3.length c4, .slice A5 t.f4.length c5] := Array.toList_inj.1 hcs
  go_enter Tryd.func19, Tryd.ntmps19
  go_wp2_with fail
  refine hT.mono ?_
  rintro e w1 ⟨rfl, hb⟩
  go_wp2
  go_ret2
  exact ⟨rfl, hb0.trans (hb.mono (by simp))⟩

end Go.Proofs.YtfpldbobfjkkfaaDoor

namespace Go.Proofs.YtfpldbobfjkkfaaDoor
open Go.RowKit Go.Proofs Go.Proofs.YtfpldbobfjkkfaaDoorW.PrintWords Go.Proofs.YtfpldbobfjkkfaaDoorW.PrintLast
set_option linter.unusedSimpArgs false

/-- Between two steps: the node's box, and the bytes told so far. -/
structure TextAt (w : World) (o : Obj) (v : Value) (l : List UInt8) (wr : World) : Prop where
  bel : Below w.heap.size w wr
  box : wr.heap[w.heap.size]? = some o
  row : BytesAt 5 (w.heap.size + 1) v l wr
theorem TextAt.app {w wr w' : World} {cs : Array Value} {ty : TypeId} {fr : Nat × Nat} {v v' : Value} {l l' : List UInt8} (h : TextAt w (.cells cs ty fr) v l wr) (hg : wr.grownBy w' v.ownBlock) (hr : BytesAt 5 (w.heap.size + 1) v' l' w') : TextAt w (.cells cs ty fr) v' l' w' := by
  obtain ⟨g, hv, hb, hlt⟩ := h.row.own
  refine ⟨h.bel.grown hg h.bel.size (fun k e => by
    rw [hv] at e
    have := Option.some.inj e
    omega), ?_, hr⟩
  · refine (hg.block _ (blk_lt h.box) (fun e => ?_)).trans h.box
    rw [hv] at e
    have := Option.some.inj e
    omega
theorem TextAt.below {w wr w' : World} {cs : Array Value} {ty : TypeId} {fr : Nat × Nat} {v : Value} {l : List UInt8} (h : TextAt w (.cells cs ty fr) v l wr) (hb : Below wr.heap.size wr w') : TextAt w (.cells cs ty fr) v l w' :=
  ⟨h.bel.trans (hb.mono h.bel.size), blk_below h.box hb, h.row.below hb⟩

/-- []byte(s). -/
theorem made_at {W : World} {B : Nat} (s : ByteArray) (hB : B ≤ W.heap.size) (hs : s.size ≤ maxLen) :
    ∃ v1 w1, (convert 9 43 (.string s)).run Tryd.prog W = .ok v1 w1 ∧ BytesAt 5 B v1 s.data.toList w1 ∧ Below W.heap.size W w1 := by
  have h1 := print_bytes (P := Tryd.prog) 9 43 5 Tryd.underlying9 Tryd.underlying43 Tryd.underlying5 s W
  have h2 := BytesAt.made W 5 s hB hs
  have h3 : Below W.heap.size W (Lib.bytesWorld W 5 s) := bytes_below (Below.refl _ _) (Nat.le_refl _) _ _
  exact ⟨_, _, h1, h2, h3⟩

/-- What Text does at a tree. -/
def RefTextSays (w0 : World) (keys : Bool) (cs : Array Value) (t : VN) : Prop :=
  ∀ w : World, Below w0.heap.size w0 w → (textT keys t).length ≤ 100000000000000 →
    Calls Tryd.prog 33 #[.agg cs, .bool keys] w fun e w' => ∃ v, e = .returned v ∧ BytesAt 5 w.heap.size v (textT keys t) w' ∧ Below w.heap.size w w'

set_option maxRecDepth 1000000 in
set_option maxHeartbeats 8000000 in
theorem refText_step (keys : Bool) (w0 : World) (t : VN) (hsm : Small t) (A4 A5 : Option Addr) (c4 c5 : Nat) (k4 : R.k88.C w0 A4 t.f3.length t.f3)
    (kid : ∀ i, i < t.f4.length → ∃ ad a4 d4 a5 d5, A5 = some ad ∧
      (w0.cell? (ad.add (i * 6)) = some (.int .i64 (R.rd_T32 t.f4 i).f0.f0) ∧ w0.cell? ⟨(ad.add (i * 6)).block, (ad.add (i * 6)).off + 1, none⟩ = some (.int .i64 (R.rd_T32 t.f4 i).f0.f1) ∧ w0.cell? ⟨(ad.add (i * 6)).block, (ad.add (i * 6)).off + 2, none⟩ = some (.string (R.rd_T32 t.f4 i).f1) ∧ w0.cell? ⟨(ad.add (i * 6)).block, (ad.add (i * 6)).off + 3, none⟩ = some (.string (R.rd_T32 t.f4 i).f2) ∧ w0.cell? ⟨(ad.add (i * 6)).block, (ad.add (i * 6)).off + 4, none⟩ = some (.slice a4 (R.rd_T32 t.f4 i).f3.length d4) ∧ w0.cell? ⟨(ad.add (i * 6)).block, (ad.add (i * 6)).off + 5, none⟩ = some (.slice a5 (R.rd_T32 t.f4 i).f4.length d5)) ∧
      RefTextSays w0 keys #[.int .i64 (R.rd_T32 t.f4 i).f0.f0, .int .i64 (R.rd_T32 t.f4 i).f0.f1, .string (R.rd_T32 t.f4 i).f1, .string (R.rd_T32 t.f4 i).f2, .slice a4 (R.rd_T32 t.f4 i).f3.length d4, .slice a5 (R.rd_T32 t.f4 i).f4.length d5] (R.rd_T32 t.f4 i)) :
    RefTextSays w0 keys #[.int .i64 t.f0.f0, .int .i64 t.f0.f1, .string t.f1, .string t.f2, .slice A4 t.f3.length c4, .slice A5 t.f4.length c5] t := by
  intro w hbw hlen
  have hlt : (textT keys t).length = (headT keys t.f0 t.f1 t.f2 t.f3).length + (textsT keys t.f4).length + (t.f1.size + 3) := by rw [textT_eq]; simp only [List.length_append, List.length_cons, List.length_nil, len_list]; omega
  have hhd : (headT keys t.f0 t.f1 t.f2 t.f3).length = 1 + t.f1.size + (if keys then [32, 35] ++ (keyText t.f0.f0 t.f0.f1).1 else [] : List UInt8).length + (t.f3.flatMap attrT).length + (1 + (escL t.f2.data.toList).length) := by
    unfold headT
    simp only [List.length_append, List.length_cons, List.length_nil, len_list]
  have G2 := blk_new w (.cells #[.int .i64 t.f0.f0, .int .i64 t.f0.f1, .string t.f1, .string t.f2, .slice A4 t.f3.length c4, .slice A5 t.f4.length c5] 32)
  have hb0 := below_alloc (Below.refl w.heap.size w) (.cells #[.int .i64 t.f0.f0, .int .i64 t.f0.f1, .string t.f1, .string t.f2, .slice A4 t.f3.length c4, .slice A5 t.f4.length c5] 32)
  have c1 : (w.alloc (.cells #[.int .i64 t.f0.f0, .int .i64 t.f0.f1, .string t.f1, .string t.f2, .slice A4 t.f3.length c4, .slice A5 t.f4.length c5] 32)).cell? ⟨w.heap.size, 2, none⟩ = some (.string t.f1) := blk_cell G2 2
  have htg := hsm.tag
  have hz1 : (9223372036854775807 < 1 + t.f1.size) = False := eq_false (by omega)
  have hcs1 : ((⟨#[60]⟩ : ByteArray) ++ t.f1).size = 1 + t.f1.size := ByteArray.size_append
  have hcat1 : ((⟨#[60]⟩ : ByteArray) ++ t.f1).data.toList = [60] ++ t.f1.data.toList := by simp [ByteArray.data_append]
  obtain ⟨v1, w1, hrun1, hB1, hb1⟩ := made_at (W := (w.alloc (.cells #[.int .i64 t.f0.f0, .int .i64 t.f0.f1, .string t.f1, .string t.f2, .slice A4 t.f3.length c4, .slice A5 t.f4.length c5] 32))) (B := w.heap.size + 1) (⟨#[60]⟩ ++ t.f1) (by rw [World.size_alloc]; exact Nat.le_refl _) (by rw [hcs1]; unfold maxLen; omega)
  rw [hcat1] at hB1
  have hT1 : TextAt w (.cells #[.int .i64 t.f0.f0, .int .i64 t.f0.f1, .string t.f1, .string t.f2, .slice A4 t.f3.length c4, .slice A5 t.f4.length c5] 32 (0, 0)) v1 ([60] ++ t.f1.data.toList) w1 := ⟨hb0.trans (hb1.mono hb0.size), blk_below G2 hb1, hB1⟩
  have HL := Lib.hid (And.intro hlt hhd)
  have hal := hsm.attrs
  clear hB1 hb1 hb0 hcat1 G2 hlt hhd
  go_enter Tryd.func33, Tryd.ntmps33
  cases keys with
  | true =>
    have k0 : w1.cell? ⟨w.heap.size, 0, none⟩ = some (.int .i64 t.f0.f0) := blk_cell hT1.box 0
    have k1 : w1.cell? ⟨w.heap.size, 1, none⟩ = some (.int .i64 t.f0.f1) := blk_cell hT1.box 1
    have hX := refText_any t.f0.f0 t.f0.f1 w1
    obtain ⟨kb, hkb⟩ : ∃ kb : ByteArray, kb = ⟨(keyText t.f0.f0 t.f0.f1).1.toArray⟩ := ⟨_, rfl⟩
    obtain ⟨ke, hke⟩ : ∃ ke : Int, ke = (keyText t.f0.f0 t.f0.f1).2 := ⟨_, rfl⟩
    rw [← hkb, ← hke] at hX
    have hkl : kb.data.toList = (keyText t.f0.f0 t.f0.f1).1 := by rw [hkb]
    have hks : kb.size = (keyText t.f0.f0 t.f0.f1).1.length := by rw [← hkl, len_list]
    have HK := Lib.hid (And.intro hkl hks)
    clear hkb hke hkl hks
    go_wp2_with fail
    refine hX.mono ?_
    rintro e w2 ⟨rfl, hb2⟩
    have hT2 := hT1.below hb2
    have hl1 : ([60] ++ t.f1.data.toList).length = 1 + t.f1.size := by simp only [List.length_append, List.length_cons, List.length_nil, len_list]
    have hb20 : kb.size ≤ 40 := by rw [HK.out.2]; exact keyText_len _ _
    clear hX k0 k1 hT1 hb2 hrun1 c1 hz1 hcs1
    go_wp2_with ((with_reducible refine gate_dst (N := 26) rfl ?_); refine Aside0.out ?_)
    refine Aside0.mk ?_
    refine wp_append_text (w := w2) (by rfl) (.tmp 25) (.const (.string ⟨#[32, 35]⟩)) 43 9 rfl Tryd.underlying43 Tryd.underlying9 infoByte (by rfl) ⟨#[32, 35]⟩ (by rfl) hT2.row (by rw [hl1]; have : (⟨#[32, 35]⟩ : ByteArray).size = 2 := rfl; omega) (by have := blk_lt hT2.box; omega) ?_
    intro v3 w3 hR3 hg3
    have hT3 := hT2.app hg3 hR3
    clear hT2 hR3 hg3
    go_wp2_with ((with_reducible refine gate_dst (N := 29) rfl ?_); refine Aside0.out ?_)
    refine Aside0.mk ?_
    refine wp_append_text (w := w3) (by rfl) (.tmp 27) (.tmp 28) 43 9 rfl Tryd.underlying43 Tryd.underlying9 infoByte (by rfl) kb (by rfl) hT3.row (by simp only [List.length_append, List.length_cons, List.length_nil, len_list]; omega) (by have := blk_lt hT3.box; omega) ?_
    intro v4 wx hR4 hg4
    have hT := hT3.app hg4 hR4
    obtain ⟨l2, hl2⟩ : ∃ l2, l2 = [60] ++ t.f1.data.toList ++ [32, 35] ++ kb.data.toList := ⟨_, rfl⟩
    have hT : TextAt w (.cells #[.int .i64 t.f0.f0, .int .i64 t.f0.f1, .string t.f1, .string t.f2, .slice A4 t.f3.length c4, .slice A5 t.f4.length c5] 32 (0, 0)) v4 l2 wx := by rw [hl2]; exact hT
    have hl2l : l2.length = 1 + t.f1.size + (2 + kb.size) := by rw [hl2]; simp only [List.length_append, List.length_cons, List.length_nil, len_list]; omega
    have HLL := Lib.hid (show l2 = ([60] ++ t.f1.data.toList) ++ (if true = true then [32, 35] ++ (keyText t.f0.f0 t.f0.f1).1 else []) by rw [hl2, HK.out.1, if_pos rfl]; simp)
    have hrest : l2.length + (t.f3.flatMap attrT).length + (1 + (escL t.f2.data.toList).length) + (textsT true t.f4).length + (t.f1.size + 3) ≤ 100000000000000 := by
      have h1 := HL.out.1
      have h2 := HL.out.2
      simp only [if_true, List.length_append, List.length_cons, List.length_nil] at h2
      have h3 := HK.out.2
      omega
    clear hT3 hR4 hg4 hl2 hl1
    have q4 : wx.cell? ⟨w.heap.size, 4, none⟩ = some (.slice A4 t.f3.length c4) := blk_cell hT.box 4
    go_wp2
    go_loopw [5, 8] (fun u i wr => ∃ k : Nat, k ≤ t.f3.length ∧ i = .int .i64 k ∧ TextAt w (.cells #[.int .i64 t.f0.f0, .int .i64 t.f0.f1, .string t.f1, .string t.f2, .slice A4 t.f3.length c4, .slice A5 t.f4.length c5] 32 (0, 0)) u (l2 ++ (t.f3.take k).flatMap attrT) wr) (fun _ i _ => t.f3.length - (intOf i).toNat)
    case atStart => exact ⟨0, Nat.zero_le _, rfl, by simpa using hT⟩
    case round =>
      obtain ⟨k, hk, rfl, hTk⟩ := hrel
      clear q4 hT
      have g4 : wr.cell? ⟨w.heap.size, 4, none⟩ = some (.slice A4 t.f3.length c4) := blk_cell hTk.box 4
      have hal := hsm.attrs
      by_cases hlt : k < t.f3.length
      · obtain ⟨ad, hA, q0, q1⟩ := R.at_T88 (Kd.C_below k4 (hbw.trans (hTk.bel.mono hbw.size))) (k : Int) (by omega) (by omega)
        obtain ⟨a, ha⟩ : ∃ a, a = R.rd_T88 t.f3 (k : Int) := ⟨_, rfl⟩
        rw [← ha] at q0 q1
        rw [Int.toNat_natCast] at q0 q1
        have hav := hsm.vals a (by rw [ha]; exact rd_memA hlt)
        have htk : t.f3.take (k + 1) = t.f3.take k ++ [a] := by
          rw [List.take_succ_eq_append_getElem hlt, ha]
          unfold R.rd_T88
          rw [Int.toNat_natCast, List.getD_eq_getElem?_getD, List.getElem?_eq_getElem hlt, Option.getD_some]
        have HA := Lib.hid ha
        have HTK := Lib.hid htk
        clear ha htk
        subst hA
        have hi : (0 : Int) ≤ k ∧ (k : Int) < t.f3.length := by omega
        obtain ⟨es, hes⟩ : ∃ es : ByteArray, es = ⟨(escL a.f1.data.toList).toArray⟩ := ⟨_, rfl⟩
        have hE : ∀ W, Calls Tryd.prog 12 #[.string a.f1] W fun e w' => e = .returned (.string es) ∧ Below W.heap.size W w' := fun W => by rw [hes]; exact refEscape_any a.f1 (by omega) W
        have hesl : es.data.toList = escL a.f1.data.toList := by rw [hes]
        have hess : es.size ≤ 6000000000 := by rw [← len_list, hesl]; have := escL_len a.f1.data.toList; rw [len_list] at this; omega
        have hcat : (⟨#[32]⟩ ++ a.f0 ++ ⟨#[61, 34]⟩ ++ es ++ ⟨#[34]⟩ : ByteArray).data.toList = attrT a := by rw [attrT, ← hesl]; simp [ByteArray.data_append]
        have hcs : (⟨#[32]⟩ ++ a.f0 ++ ⟨#[61, 34]⟩ ++ es ++ ⟨#[34]⟩ : ByteArray).size = (attrT a).length := by rw [← len_list, hcat]
        have hpre : ((t.f3.take k).flatMap attrT).length + (attrT a).length ≤ (t.f3.flatMap attrT).length := by
          have h1 : (t.f3.take (k + 1)).flatMap attrT = (t.f3.take k).flatMap attrT ++ attrT a := by rw [HTK.out, List.flatMap_append]; simp
          have h2 : t.f3.flatMap attrT = (t.f3.take (k + 1)).flatMap attrT ++ (t.f3.drop (k + 1)).flatMap attrT := by rw [← List.flatMap_append, List.take_append_drop]
          rw [h2, h1]
          simp only [List.length_append]
          omega
        have hlk : (l2 ++ (t.f3.take k).flatMap attrT).length = l2.length + ((t.f3.take k).flatMap attrT).length := List.length_append
        have hz3 : (9223372036854775807 < 1 + a.f0.size) = False := eq_false (by omega)
        have hz4 : (9223372036854775807 < 1 + a.f0.size + 2) = False := eq_false (by omega)
        have hz5 : (9223372036854775807 < 1 + a.f0.size + 2 + es.size) = False := eq_false (by omega)
        have hz6 : (9223372036854775807 < 1 + a.f0.size + 2 + es.size + 1) = False := eq_false (by omega)
        have HC := Lib.hid (And.intro hcat hcs)
        have HT := Lib.hid hTk
        clear hes hesl hcat hcs hTk
        go_wp2
        refine start_ (n := 18) (S := fun w' => w'.cell? ⟨w.heap.size, 4, none⟩ = some (.slice (some ad) t.f3.length c4) ∧ w'.cell? (ad.add (k * 2)) = some (.string a.f0) ∧ w'.cell? ⟨(ad.add (k * 2)).block, (ad.add (k * 2)).off + 1, none⟩ = some (.string a.f1)) (ds := []) #[false, false, false, false, false, false, false, false, false, false, false, false, false, false, false, false, false, false] (by kernel_rfl) rfl rfl ⟨g4, q0, q1⟩ (fun hHeld => ?_)
        refine pure_ (i := 0) (N := some 37) (v := ?_) (a' := ?_) #[true, false, false, false, false, false, false, false, false, false, false, false, false, false, false, false, false, false] rfl rfl (by kernel_rfl) (fun _ _ _ h => h) (Or.inl ⟨by rfl, ?_⟩) ?_ ?_
        rotate_left
        · intro w'
          go_simp
          with_reducible rfl
        rotate_left
        · simp only [Act.put, List.setIfInBounds_toArray, List.set_cons_zero, List.set_cons_succ, i64_w, i32_w]
          rfl
        refine pure_ (i := 2) (N := some 39) (v := ?_) (a' := ?_) #[true, false, true, false, false, false, false, false, false, false, false, false, false, false, false, false, false, false] rfl rfl (by kernel_rfl) (fun _ _ _ h => h) (Or.inl ⟨by rfl, ?_⟩) ?_ ?_
        rotate_left
        · intro w'
          go_simp
          with_reducible rfl
        rotate_left
        · simp only [Act.put, List.setIfInBounds_toArray, List.set_cons_zero, List.set_cons_succ, i64_w, i32_w]
          rfl
        refine pure_ (i := 8) (N := some 45) (v := ?_) (a' := ?_) #[true, false, true, false, false, false, false, false, true, false, false, false, false, false, false, false, false, false] rfl rfl (by kernel_rfl) (fun _ _ _ h => h) (Or.inl ⟨by rfl, ?_⟩) ?_ ?_
        rotate_left
        · intro w'
          go_simp
          with_reducible rfl
        rotate_left
        · simp only [Act.put, List.setIfInBounds_toArray, List.set_cons_zero, List.set_cons_succ, i64_w, i32_w]
          rfl
        refine pure_ (i := 10) (N := some 47) (v := ?_) (a' := ?_) #[true, false, true, false, false, false, false, false, true, false, true, false, false, false, false, false, false, false] rfl rfl (by kernel_rfl) (fun _ _ _ h => h) (Or.inl ⟨by rfl, ?_⟩) ?_ ?_
        rotate_left
        · intro w'
          go_simp
          with_reducible rfl
        rotate_left
        · simp only [Act.put, List.setIfInBounds_toArray, List.set_cons_zero, List.set_cons_succ, i64_w, i32_w]
          rfl
        refine take_ (i := 1) (N := some 38) (v := ?_) (a' := ?_) #[true, true, true, false, false, false, false, false, true, false, true, false, false, false, false, false, false, false] rfl rfl (by kernel_rfl) (fun _ _ _ h => h) (Or.inl ⟨by rfl, ?_⟩) hHeld ?_ ?_
        rotate_left
        · rintro w' ⟨s0, s1, s2⟩
          go_simp
          with_reducible rfl
        rotate_left
        · simp only [Act.put, List.setIfInBounds_toArray, List.set_cons_zero, List.set_cons_succ, i64_w, i32_w]
          rfl
        refine pure_ (i := 3) (N := some 40) (v := ?_) (a' := ?_) #[true, true, true, true, false, false, false, false, true, false, true, false, false, false, false, false, false, false] rfl rfl (by kernel_rfl) (fun _ _ _ h => h) (Or.inl ⟨by rfl, ?_⟩) ?_ ?_
        rotate_left
        · intro w'
          go_simp
          with_reducible rfl
        rotate_left
        · simp only [Act.put, List.setIfInBounds_toArray, List.set_cons_zero, List.set_cons_succ, i64_w, i32_w]
          rfl
        refine pure_ (i := 4) (N := some 41) (v := ?_) (a' := ?_) #[true, true, true, true, true, false, false, false, true, false, true, false, false, false, false, false, false, false] rfl rfl (by kernel_rfl) (fun _ _ _ h => h) (Or.inl ⟨by rfl, ?_⟩) ?_ ?_
        rotate_left
        · intro w'
          go_simp
          with_reducible rfl
        rotate_left
        · simp only [Act.put, List.setIfInBounds_toArray, List.set_cons_zero, List.set_cons_succ, i64_w, i32_w]
          rfl
        refine take_ (i := 5) (N := some 42) (v := ?_) (a' := ?_) #[true, true, true, true, true, true, false, false, true, false, true, false, false, false, false, false, false, false] rfl rfl (by kernel_rfl) (fun _ _ _ h => h) (Or.inl ⟨by rfl, ?_⟩) hHeld ?_ ?_
        rotate_left
        · rintro w' ⟨s0, s1, s2⟩
          go_simp
          with_reducible rfl
        rotate_left
        · simp only [Act.put, List.setIfInBounds_toArray, List.set_cons_zero, List.set_cons_succ, i64_w, i32_w]
          rfl
        refine pure_ (i := 6) (N := some 43) (v := ?_) (a' := ?_) #[true, true, true, true, true, true, true, false, true, false, true, false, false, false, false, false, false, false] rfl rfl (by kernel_rfl) (fun _ _ _ h => h) (Or.inl ⟨by rfl, ?_⟩) ?_ ?_
        rotate_left
        · intro w'
          go_simp
          with_reducible rfl
        rotate_left
        · simp only [Act.put, List.setIfInBounds_toArray, List.set_cons_zero, List.set_cons_succ, i64_w, i32_w]
          rfl
        refine pure_ (i := 7) (N := some 44) (v := ?_) (a' := ?_) #[true, true, true, true, true, true, true, true, true, false, true, false, false, false, false, false, false, false] rfl rfl (by kernel_rfl) (fun _ _ _ h => h) (Or.inl ⟨by rfl, ?_⟩) ?_ ?_
        rotate_left
        · intro w'
          go_simp
          with_reducible rfl
        rotate_left
        · simp only [Act.put, List.setIfInBounds_toArray, List.set_cons_zero, List.set_cons_succ, i64_w, i32_w]
          rfl
        refine take_ (i := 9) (N := some 46) (v := ?_) (a' := ?_) #[true, true, true, true, true, true, true, true, true, true, true, false, false, false, false, false, false, false] rfl rfl (by kernel_rfl) (fun _ _ _ h => h) (Or.inl ⟨by rfl, ?_⟩) hHeld ?_ ?_
        rotate_left
        · rintro w' ⟨s0, s1, s2⟩
          go_simp
          with_reducible rfl
        rotate_left
        · simp only [Act.put, List.setIfInBounds_toArray, List.set_cons_zero, List.set_cons_succ, i64_w, i32_w]
          rfl
        refine pure_ (i := 11) (N := some 48) (v := ?_) (a' := ?_) #[true, true, true, true, true, true, true, true, true, true, true, true, false, false, false, false, false, false] rfl rfl (by kernel_rfl) (fun _ _ _ h => h) (Or.inl ⟨by rfl, ?_⟩) ?_ ?_
        rotate_left
        · intro w'
          go_simp
          with_reducible rfl
        rotate_left
        · simp only [Act.put, List.setIfInBounds_toArray, List.set_cons_zero, List.set_cons_succ, i64_w, i32_w]
          rfl
        refine pure_ (i := 12) (N := some 49) (v := ?_) (a' := ?_) #[true, true, true, true, true, true, true, true, true, true, true, true, true, false, false, false, false, false] rfl rfl (by kernel_rfl) (fun _ _ _ h => h) (Or.inl ⟨by rfl, ?_⟩) ?_ ?_
        rotate_left
        · intro w'
          go_simp
          with_reducible rfl
        rotate_left
        · simp only [Act.put, List.setIfInBounds_toArray, List.set_cons_zero, List.set_cons_succ, i64_w, i32_w]
          rfl
        refine take_ (i := 13) (N := some 50) (v := ?_) (a' := ?_) #[true, true, true, true, true, true, true, true, true, true, true, true, true, true, false, false, false, false] rfl rfl (by kernel_rfl) (fun _ _ _ h => h) (Or.inl ⟨by rfl, ?_⟩) hHeld ?_ ?_
        rotate_left
        · rintro w' ⟨s0, s1, s2⟩
          go_simp
          with_reducible rfl
        rotate_left
        · simp only [Act.put, List.setIfInBounds_toArray, List.set_cons_zero, List.set_cons_succ, i64_w, i32_w]
          rfl
        refine one_ (i := 14) (N := some 51) #[true, true, true, true, true, true, true, true, true, true, true, true, true, true, true, false, false, false] rfl rfl (by kernel_rfl) (by decide) (fun K hK => ?_)
        refine goes_ Tryd.func12 (by kernel_rfl) rfl #[.string a.f1] (by rfl) rfl rfl (by simp only [List.map_toArray, List.map_cons, List.map_nil]; rfl) ?_
        with_reducible refine ((hE _)).mono ?_
        rintro e w5 ⟨rfl, hb5⟩
        refine ⟨_, rfl, ?_⟩
        have g45 := cell_keep hb5 g4
        have q05 := cell_keep hb5 q0
        have q15 := cell_keep hb5 q1
        refine hK.out _ _ ⟨g45, q05, q15⟩ (fun hHeld => ?_)
        clear hK K
        refine norm_ (a' := ?_) ?_ ?_
        rotate_left
        · show Act.put _ (some 51) _ = _
          simp only [Act.put, List.setIfInBounds_toArray, List.set_cons_zero, List.set_cons_succ, i64_w, i32_w]
          rfl
        refine pure_ (i := 15) (N := some 52) (v := ?_) (a' := ?_) #[true, true, true, true, true, true, true, true, true, true, true, true, true, true, true, true, false, false] rfl rfl (by kernel_rfl) (fun _ _ _ h => h) (Or.inl ⟨by rfl, ?_⟩) ?_ ?_
        rotate_left
        · intro w'
          go_simp
          with_reducible rfl
        rotate_left
        · simp only [Act.put, List.setIfInBounds_toArray, List.set_cons_zero, List.set_cons_succ, i64_w, i32_w]
          rfl
        refine pure_ (i := 16) (N := some 53) (v := ?_) (a' := ?_) #[true, true, true, true, true, true, true, true, true, true, true, true, true, true, true, true, true, false] rfl rfl (by kernel_rfl) (fun _ _ _ h => h) (Or.inl ⟨by rfl, ?_⟩) ?_ ?_
        rotate_left
        · intro w'
          go_simp
          with_reducible rfl
        rotate_left
        · simp only [Act.put, List.setIfInBounds_toArray, List.set_cons_zero, List.set_cons_succ, i64_w, i32_w]
          rfl
        refine pure_ (i := 17) (N := some 9) (v := ?_) (a' := ?_) #[true, true, true, true, true, true, true, true, true, true, true, true, true, true, true, true, true, true] rfl rfl (by kernel_rfl) (fun _ _ _ h => h) (Or.inl ⟨by rfl, ?_⟩) ?_ ?_
        rotate_left
        · intro w'
          go_simp
          with_reducible rfl
        rotate_left
        · simp only [Act.put, List.setIfInBounds_toArray, List.set_cons_zero, List.set_cons_succ, i64_w, i32_w]
          rfl
        refine done_ (by kernel_rfl) ?_
        have hT5 := (HT.out.below (below_drew (Below.refl _ _))).below hb5
        clear g4 q0 q1 g45 q05 q15 hb5 hE hz3 hz4 hz5 hz6
        go_wp2_with ((with_reducible refine gate_dst (N := 56) rfl ?_); refine Aside0.out ?_)
        refine Aside0.mk ?_
        refine wp_append_text (w := w5) (by rfl) (.tmp 54) (.tmp 55) 43 9 rfl Tryd.underlying43 Tryd.underlying9 infoByte (by rfl) (⟨#[32]⟩ ++ a.f0 ++ ⟨#[61, 34]⟩ ++ es ++ ⟨#[34]⟩) (by rfl) hT5.row (by rw [HC.out.2]; omega) (by have := blk_lt hT5.box; omega) ?_
        intro v6 w6 hR6 hg6
        have hT6 := hT5.app hg6 hR6
        rw [HC.out.1, List.append_assoc, show (t.f3.take k).flatMap attrT ++ attrT a = (t.f3.take (k + 1)).flatMap attrT by rw [HTK.out, List.flatMap_append]; simp] at hT6
        clear hT5 hR6 hg6
        go_wp2
        go_roundw
        case rel => exact ⟨k + 1, by omega, by go_num, hT6⟩
        case measure => simp [intOf]; omega
      · obtain rfl : k = t.f3.length := by omega
        rw [List.take_length] at hTk
        have q2 : wr.cell? ⟨w.heap.size, 3, none⟩ = some (.string t.f2) := blk_cell hTk.box 3
        obtain ⟨es, hes⟩ : ∃ es : ByteArray, es = ⟨(escL t.f2.data.toList).toArray⟩ := ⟨_, rfl⟩
        have hE : ∀ W, Calls Tryd.prog 12 #[.string t.f2] W fun e w' => e = .returned (.string es) ∧ Below W.heap.size W w' := fun W => by rw [hes]; exact refEscape_any t.f2 (by have := hsm.text; omega) W
        have hesl : es.data.toList = escL t.f2.data.toList := by rw [hes]
        have hess : es.size = (escL t.f2.data.toList).length := by rw [← len_list, hesl]
        have hcs : ((⟨#[62]⟩ : ByteArray) ++ es).size = 1 + es.size := ByteArray.size_append
        have hcat : ((⟨#[62]⟩ : ByteArray) ++ es).data.toList = [62] ++ escL t.f2.data.toList := by rw [← hesl]; simp [ByteArray.data_append]
        have hz3 : (9223372036854775807 < 1 + es.size) = False := eq_false (by omega)
        have hlk : (l2 ++ t.f3.flatMap attrT).length = l2.length + (t.f3.flatMap attrT).length := List.length_append
        have HC := Lib.hid (And.intro hcat hcs)
        clear hes hesl hcat hcs
        go_wp2_with fail
        refine (hE wr).mono ?_
        rintro e w4 ⟨rfl, hb4⟩
        have hT4 := hTk.below hb4
        clear q2 g4 hE hTk hb4
        go_wp2_with ((with_reducible refine gate_dst (N := 63) rfl ?_); refine Aside0.out ?_)
        refine Aside0.mk ?_
        refine wp_append_text (w := w4) (by rfl) (.tmp 61) (.tmp 62) 43 9 rfl Tryd.underlying43 Tryd.underlying9 infoByte (by rfl) (⟨#[62]⟩ ++ es) (by rfl) hT4.row (by rw [HC.out.2]; omega) (by have := blk_lt hT4.box; omega) ?_
        intro v5 w5 hR5 hg5
        have hT5 := hT4.app hg5 hR5
        rw [HC.out.1] at hT5
        obtain ⟨l3, hl3⟩ : ∃ l3, l3 = l2 ++ t.f3.flatMap attrT ++ ([62] ++ escL t.f2.data.toList) := ⟨_, rfl⟩
        rw [← hl3] at hT5
        have hl3l : l3.length = l2.length + (t.f3.flatMap attrT).length + (1 + (escL t.f2.data.toList).length) := by rw [hl3]; simp only [List.length_append, List.length_cons, List.length_nil]
        have HL3 := Lib.hid hl3
        have q5 : w5.cell? ⟨w.heap.size, 5, none⟩ = some (.slice A5 t.f4.length c5) := blk_cell hT5.box 5
        clear hT4 hR5 hg5 hl3
        go_wp2
        go_loopw [5, 11] (fun u i wr => ∃ k : Nat, k ≤ t.f4.length ∧ i = .int .i64 k ∧ TextAt w (.cells #[.int .i64 t.f0.f0, .int .i64 t.f0.f1, .string t.f1, .string t.f2, .slice A4 t.f3.length c4, .slice A5 t.f4.length c5] 32 (0, 0)) u (l3 ++ textsT true (t.f4.take k)) wr) (fun _ i _ => t.f4.length - (intOf i).toNat)
        case atStart => exact ⟨0, Nat.zero_le _, rfl, by simpa [textsT] using hT5⟩
        case round =>
          obtain ⟨k, hk, rfl, hTk⟩ := hrel
          clear q5 hT5
          have g5 : wr.cell? ⟨w.heap.size, 5, none⟩ = some (.slice A5 t.f4.length c5) := blk_cell hTk.box 5
          have hkl := hsm.kids
          by_cases hlt : k < t.f4.length
          · obtain ⟨ad, a4, d4, a5, d5, hA5, ⟨e0, e1, e2, e3, e4, e5⟩, hS⟩ := kid k hlt
            subst hA5
            have hbr := hbw.trans (hTk.bel.mono hbw.size)
            have q0 := cell_keep hbr e0
            have q1 := cell_keep hbr e1
            have q2 := cell_keep hbr e2
            have q3 := cell_keep hbr e3
            have q4 := cell_keep hbr e4
            have q5 := cell_keep hbr e5
            have hi : (0 : Int) ≤ k ∧ (k : Int) < t.f4.length := by omega
            have htk : textsT true (t.f4.take (k + 1)) = textsT true (t.f4.take k) ++ textT true (R.rd_T32 t.f4 k) := by
              rw [List.take_succ_eq_append_getElem hlt, textsT_eq, textsT_eq, List.flatMap_append]
              have : R.rd_T32 t.f4 (k : Int) = t.f4[k] := by
                unfold R.rd_T32
                rw [Int.toNat_natCast, List.getD_eq_getElem?_getD, List.getElem?_eq_getElem hlt, Option.getD_some]
              rw [this]
              simp
            have hpre : (textsT true (t.f4.take (k + 1))).length ≤ (textsT true t.f4).length := by
              have h2 : textsT true t.f4 = textsT true (t.f4.take (k + 1)) ++ textsT true (t.f4.drop (k + 1)) := by
                rw [textsT_eq, textsT_eq, textsT_eq, ← List.flatMap_append, List.take_append_drop]
              rw [h2, List.length_append]
              omega
            have hpre2 : (textsT true (t.f4.take k)).length + (textT true (R.rd_T32 t.f4 k)).length ≤ (textsT true t.f4).length := by rw [htk, List.length_append] at hpre; exact hpre
            have hC := hS wr hbr (by omega)
            have hlk : (l3 ++ textsT true (t.f4.take k)).length = l3.length + (textsT true (t.f4.take k)).length := List.length_append
            have HTK := Lib.hid htk
            have HT := Lib.hid hTk
            clear e0 e1 e2 e3 e4 e5 hS htk hpre hTk
            go_wp2_with fail
            refine hC.mono ?_
            rintro e w6 ⟨kv, rfl, hKB, hb6⟩
            have hT6 := HT.out.below hb6
            have hTr := blk_lt HT.out.box
            clear hC q0 q1 q2 q3 q4 q5 g5
            go_wp2_with ((with_reducible refine gate_dst (N := 80) rfl ?_); refine Aside0.out ?_)
            refine Aside0.mk ?_
            refine wp_append_row (w := w6) (by rfl) (.tmp 78) (.tmp 79) 43 rfl Tryd.underlying43 infoByte (by rfl) (by rfl) hT6.row hKB (by omega) (by have := blk_lt hT6.box; omega) ?_
            intro v7 w7 hR7 hg7
            have hT7 := hT6.app hg7 hR7
            rw [List.append_assoc, ← HTK.out] at hT7
            clear hT6 hR7 hg7 hKB hb6
            go_wp2
            go_roundw
            case rel => exact ⟨k + 1, by omega, by go_num, hT7⟩
            case measure => simp [intOf]; omega
          · obtain rfl : k = t.f4.length := by omega
            rw [List.take_length] at hTk
            have q1 : wr.cell? ⟨w.heap.size, 2, none⟩ = some (.string t.f1) := blk_cell hTk.box 2
            have hcs : ((⟨#[60, 47]⟩ : ByteArray) ++ t.f1 ++ ⟨#[62]⟩).size = 2 + t.f1.size + 1 := by rw [ByteArray.size_append, ByteArray.size_append]; rfl
            have hcat : ((⟨#[60, 47]⟩ : ByteArray) ++ t.f1 ++ ⟨#[62]⟩).data.toList = [60, 47] ++ t.f1.data.toList ++ [62] := by simp [ByteArray.data_append]
            have htg := hsm.tag
            have hz3 : (9223372036854775807 < 2 + t.f1.size) = False := eq_false (by omega)
            have hz4 : (9223372036854775807 < 2 + t.f1.size + 1) = False := eq_false (by omega)
            have hlk : (l3 ++ textsT true t.f4).length = l3.length + (textsT true t.f4).length := List.length_append
            have HC := Lib.hid (And.intro hcat hcs)
            clear hcat hcs
            go_wp2_with ((with_reducible refine gate_dst (N := 87) rfl ?_); refine Aside0.out ?_)
            refine Aside0.mk ?_
            refine wp_append_text (w := wr) (by rfl) (.tmp 85) (.tmp 86) 43 9 rfl Tryd.underlying43 Tryd.underlying9 infoByte (by rfl) (⟨#[60, 47]⟩ ++ t.f1 ++ ⟨#[62]⟩) (by rfl) hTk.row (by rw [HC.out.2]; omega) (by have := blk_lt hTk.box; omega) ?_
            intro v8 w8 hR8 hg8
            have hT8 := hTk.app hg8 hR8
            rw [HC.out.1, HL3.out, HLL.out] at hT8
            have HF := Lib.hid hT8
            clear hTk hR8 hg8 hT8 q1 hz3 hz4
            go_wp2
            go_ret
            refine ⟨_, rfl, ?_, HF.out.bel⟩
            have := HF.out.row.lower (Nat.le_succ w.heap.size)
            rw [textT_eq, headT]
            exact this
  | false =>
    clear c1 hz1 hcs1
    obtain ⟨wx, hwx⟩ : ∃ wx, wx = w1 := ⟨_, rfl⟩
    subst hwx
    obtain ⟨l2, hl2⟩ : ∃ l2, l2 = [60] ++ t.f1.data.toList := ⟨_, rfl⟩
    have hT := hT1
    rw [← hl2] at hT
    have hl2l : l2.length = 1 + t.f1.size := by rw [hl2]; simp only [List.length_append, List.length_cons, List.length_nil, len_list]
    have HLL := Lib.hid (show l2 = ([60] ++ t.f1.data.toList) ++ (if false = true then [32, 35] ++ (keyText t.f0.f0 t.f0.f1).1 else []) by rw [hl2, if_neg (by decide), List.append_nil])
    have hrest : l2.length + (t.f3.flatMap attrT).length + (1 + (escL t.f2.data.toList).length) + (textsT false t.f4).length + (t.f1.size + 3) ≤ 100000000000000 := by
      have h1 := HL.out.1
      have h2 := HL.out.2
      rw [if_neg (by decide), List.length_nil] at h2
      omega
    clear hT1 hl2
    have q4 : wx.cell? ⟨w.heap.size, 4, none⟩ = some (.slice A4 t.f3.length c4) := blk_cell hT.box 4
    go_wp2
    go_loopw [5, 8] (fun u i wr => ∃ k : Nat, k ≤ t.f3.length ∧ i = .int .i64 k ∧ TextAt w (.cells #[.int .i64 t.f0.f0, .int .i64 t.f0.f1, .string t.f1, .string t.f2, .slice A4 t.f3.length c4, .slice A5 t.f4.length c5] 32 (0, 0)) u (l2 ++ (t.f3.take k).flatMap attrT) wr) (fun _ i _ => t.f3.length - (intOf i).toNat)
    case atStart => exact ⟨0, Nat.zero_le _, rfl, by simpa using hT⟩
    case round =>
      obtain ⟨k, hk, rfl, hTk⟩ := hrel
      clear q4 hT
      have g4 : wr.cell? ⟨w.heap.size, 4, none⟩ = some (.slice A4 t.f3.length c4) := blk_cell hTk.box 4
      have hal := hsm.attrs
      by_cases hlt : k < t.f3.length
      · obtain ⟨ad, hA, q0, q1⟩ := R.at_T88 (Kd.C_below k4 (hbw.trans (hTk.bel.mono hbw.size))) (k : Int) (by omega) (by omega)
        obtain ⟨a, ha⟩ : ∃ a, a = R.rd_T88 t.f3 (k : Int) := ⟨_, rfl⟩
        rw [← ha] at q0 q1
        rw [Int.toNat_natCast] at q0 q1
        have hav := hsm.vals a (by rw [ha]; exact rd_memA hlt)
        have htk : t.f3.take (k + 1) = t.f3.take k ++ [a] := by
          rw [List.take_succ_eq_append_getElem hlt, ha]
          unfold R.rd_T88
          rw [Int.toNat_natCast, List.getD_eq_getElem?_getD, List.getElem?_eq_getElem hlt, Option.getD_some]
        have HA := Lib.hid ha
        have HTK := Lib.hid htk
        clear ha htk
        subst hA
        have hi : (0 : Int) ≤ k ∧ (k : Int) < t.f3.length := by omega
        obtain ⟨es, hes⟩ : ∃ es : ByteArray, es = ⟨(escL a.f1.data.toList).toArray⟩ := ⟨_, rfl⟩
        have hE : ∀ W, Calls Tryd.prog 12 #[.string a.f1] W fun e w' => e = .returned (.string es) ∧ Below W.heap.size W w' := fun W => by rw [hes]; exact refEscape_any a.f1 (by omega) W
        have hesl : es.data.toList = escL a.f1.data.toList := by rw [hes]
        have hess : es.size ≤ 6000000000 := by rw [← len_list, hesl]; have := escL_len a.f1.data.toList; rw [len_list] at this; omega
        have hcat : (⟨#[32]⟩ ++ a.f0 ++ ⟨#[61, 34]⟩ ++ es ++ ⟨#[34]⟩ : ByteArray).data.toList = attrT a := by rw [attrT, ← hesl]; simp [ByteArray.data_append]
        have hcs : (⟨#[32]⟩ ++ a.f0 ++ ⟨#[61, 34]⟩ ++ es ++ ⟨#[34]⟩ : ByteArray).size = (attrT a).length := by rw [← len_list, hcat]
        have hpre : ((t.f3.take k).flatMap attrT).length + (attrT a).length ≤ (t.f3.flatMap attrT).length := by
          have h1 : (t.f3.take (k + 1)).flatMap attrT = (t.f3.take k).flatMap attrT ++ attrT a := by rw [HTK.out, List.flatMap_append]; simp
          have h2 : t.f3.flatMap attrT = (t.f3.take (k + 1)).flatMap attrT ++ (t.f3.drop (k + 1)).flatMap attrT := by rw [← List.flatMap_append, List.take_append_drop]
          rw [h2, h1]
          simp only [List.length_append]
          omega
        have hlk : (l2 ++ (t.f3.take k).flatMap attrT).length = l2.length + ((t.f3.take k).flatMap attrT).length := List.length_append
        have hz3 : (9223372036854775807 < 1 + a.f0.size) = False := eq_false (by omega)
        have hz4 : (9223372036854775807 < 1 + a.f0.size + 2) = False := eq_false (by omega)
        have hz5 : (9223372036854775807 < 1 + a.f0.size + 2 + es.size) = False := eq_false (by omega)
        have hz6 : (9223372036854775807 < 1 + a.f0.size + 2 + es.size + 1) = False := eq_false (by omega)
        have HC := Lib.hid (And.intro hcat hcs)
        have HT := Lib.hid hTk
        clear hes hesl hcat hcs hTk
        go_wp2
        refine start_ (n := 18) (S := fun w' => w'.cell? ⟨w.heap.size, 4, none⟩ = some (.slice (some ad) t.f3.length c4) ∧ w'.cell? (ad.add (k * 2)) = some (.string a.f0) ∧ w'.cell? ⟨(ad.add (k * 2)).block, (ad.add (k * 2)).off + 1, none⟩ = some (.string a.f1)) (ds := []) #[false, false, false, false, false, false, false, false, false, false, false, false, false, false, false, false, false, false] (by kernel_rfl) rfl rfl ⟨g4, q0, q1⟩ (fun hHeld => ?_)
        refine pure_ (i := 0) (N := some 37) (v := ?_) (a' := ?_) #[true, false, false, false, false, false, false, false, false, false, false, false, false, false, false, false, false, false] rfl rfl (by kernel_rfl) (fun _ _ _ h => h) (Or.inl ⟨by rfl, ?_⟩) ?_ ?_
        rotate_left
        · intro w'
          go_simp
          with_reducible rfl
        rotate_left
        · simp only [Act.put, List.setIfInBounds_toArray, List.set_cons_zero, List.set_cons_succ, i64_w, i32_w]
          rfl
        refine pure_ (i := 2) (N := some 39) (v := ?_) (a' := ?_) #[true, false, true, false, false, false, false, false, false, false, false, false, false, false, false, false, false, false] rfl rfl (by kernel_rfl) (fun _ _ _ h => h) (Or.inl ⟨by rfl, ?_⟩) ?_ ?_
        rotate_left
        · intro w'
          go_simp
          with_reducible rfl
        rotate_left
        · simp only [Act.put, List.setIfInBounds_toArray, List.set_cons_zero, List.set_cons_succ, i64_w, i32_w]
          rfl
        refine pure_ (i := 8) (N := some 45) (v := ?_) (a' := ?_) #[true, false, true, false, false, false, false, false, true, false, false, false, false, false, false, false, false, false] rfl rfl (by kernel_rfl) (fun _ _ _ h => h) (Or.inl ⟨by rfl, ?_⟩) ?_ ?_
        rotate_left
        · intro w'
          go_simp
          with_reducible rfl
        rotate_left
        · simp only [Act.put, List.setIfInBounds_toArray, List.set_cons_zero, List.set_cons_succ, i64_w, i32_w]
          rfl
        refine pure_ (i := 10) (N := some 47) (v := ?_) (a' := ?_) #[true, false, true, false, false, false, false, false, true, false, true, false, false, false, false, false, false, false] rfl rfl (by kernel_rfl) (fun _ _ _ h => h) (Or.inl ⟨by rfl, ?_⟩) ?_ ?_
        rotate_left
        · intro w'
          go_simp
          with_reducible rfl
        rotate_left
        · simp only [Act.put, List.setIfInBounds_toArray, List.set_cons_zero, List.set_cons_succ, i64_w, i32_w]
          rfl
        refine take_ (i := 1) (N := some 38) (v := ?_) (a' := ?_) #[true, true, true, false, false, false, false, false, true, false, true, false, false, false, false, false, false, false] rfl rfl (by kernel_rfl) (fun _ _ _ h => h) (Or.inl ⟨by rfl, ?_⟩) hHeld ?_ ?_
        rotate_left
        · rintro w' ⟨s0, s1, s2⟩
          go_simp
          with_reducible rfl
        rotate_left
        · simp only [Act.put, List.setIfInBounds_toArray, List.set_cons_zero, List.set_cons_succ, i64_w, i32_w]
          rfl
        refine pure_ (i := 3) (N := some 40) (v := ?_) (a' := ?_) #[true, true, true, true, false, false, false, false, true, false, true, false, false, false, false, false, false, false] rfl rfl (by kernel_rfl) (fun _ _ _ h => h) (Or.inl ⟨by rfl, ?_⟩) ?_ ?_
        rotate_left
        · intro w'
          go_simp
          with_reducible rfl
        rotate_left
        · simp only [Act.put, List.setIfInBounds_toArray, List.set_cons_zero, List.set_cons_succ, i64_w, i32_w]
          rfl
        refine pure_ (i := 4) (N := some 41) (v := ?_) (a' := ?_) #[true, true, true, true, true, false, false, false, true, false, true, false, false, false, false, false, false, false] rfl rfl (by kernel_rfl) (fun _ _ _ h => h) (Or.inl ⟨by rfl, ?_⟩) ?_ ?_
        rotate_left
        · intro w'
          go_simp
          with_reducible rfl
        rotate_left
        · simp only [Act.put, List.setIfInBounds_toArray, List.set_cons_zero, List.set_cons_succ, i64_w, i32_w]
          rfl
        refine take_ (i := 5) (N := some 42) (v := ?_) (a' := ?_) #[true, true, true, true, true, true, false, false, true, false, true, false, false, false, false, false, false, false] rfl rfl (by kernel_rfl) (fun _ _ _ h => h) (Or.inl ⟨by rfl, ?_⟩) hHeld ?_ ?_
        rotate_left
        · rintro w' ⟨s0, s1, s2⟩
          go_simp
          with_reducible rfl
        rotate_left
        · simp only [Act.put, List.setIfInBounds_toArray, List.set_cons_zero, List.set_cons_succ, i64_w, i32_w]
          rfl
        refine pure_ (i := 6) (N := some 43) (v := ?_) (a' := ?_) #[true, true, true, true, true, true, true, false, true, false, true, false, false, false, false, false, false, false] rfl rfl (by kernel_rfl) (fun _ _ _ h => h) (Or.inl ⟨by rfl, ?_⟩) ?_ ?_
        rotate_left
        · intro w'
          go_simp
          with_reducible rfl
        rotate_left
        · simp only [Act.put, List.setIfInBounds_toArray, List.set_cons_zero, List.set_cons_succ, i64_w, i32_w]
          rfl
        refine pure_ (i := 7) (N := some 44) (v := ?_) (a' := ?_) #[true, true, true, true, true, true, true, true, true, false, true, false, false, false, false, false, false, false] rfl rfl (by kernel_rfl) (fun _ _ _ h => h) (Or.inl ⟨by rfl, ?_⟩) ?_ ?_
        rotate_left
        · intro w'
          go_simp
          with_reducible rfl
        rotate_left
        · simp only [Act.put, List.setIfInBounds_toArray, List.set_cons_zero, List.set_cons_succ, i64_w, i32_w]
          rfl
        refine take_ (i := 9) (N := some 46) (v := ?_) (a' := ?_) #[true, true, true, true, true, true, true, true, true, true, true, false, false, false, false, false, false, false] rfl rfl (by kernel_rfl) (fun _ _ _ h => h) (Or.inl ⟨by rfl, ?_⟩) hHeld ?_ ?_
        rotate_left
        · rintro w' ⟨s0, s1, s2⟩
          go_simp
          with_reducible rfl
        rotate_left
        · simp only [Act.put, List.setIfInBounds_toArray, List.set_cons_zero, List.set_cons_succ, i64_w, i32_w]
          rfl
        refine pure_ (i := 11) (N := some 48) (v := ?_) (a' := ?_) #[true, true, true, true, true, true, true, true, true, true, true, true, false, false, false, false, false, false] rfl rfl (by kernel_rfl) (fun _ _ _ h => h) (Or.inl ⟨by rfl, ?_⟩) ?_ ?_
        rotate_left
        · intro w'
          go_simp
          with_reducible rfl
        rotate_left
        · simp only [Act.put, List.setIfInBounds_toArray, List.set_cons_zero, List.set_cons_succ, i64_w, i32_w]
          rfl
        refine pure_ (i := 12) (N := some 49) (v := ?_) (a' := ?_) #[true, true, true, true, true, true, true, true, true, true, true, true, true, false, false, false, false, false] rfl rfl (by kernel_rfl) (fun _ _ _ h => h) (Or.inl ⟨by rfl, ?_⟩) ?_ ?_
        rotate_left
        · intro w'
          go_simp
          with_reducible rfl
        rotate_left
        · simp only [Act.put, List.setIfInBounds_toArray, List.set_cons_zero, List.set_cons_succ, i64_w, i32_w]
          rfl
        refine take_ (i := 13) (N := some 50) (v := ?_) (a' := ?_) #[true, true, true, true, true, true, true, true, true, true, true, true, true, true, false, false, false, false] rfl rfl (by kernel_rfl) (fun _ _ _ h => h) (Or.inl ⟨by rfl, ?_⟩) hHeld ?_ ?_
        rotate_left
        · rintro w' ⟨s0, s1, s2⟩
          go_simp
          with_reducible rfl
        rotate_left
        · simp only [Act.put, List.setIfInBounds_toArray, List.set_cons_zero, List.set_cons_succ, i64_w, i32_w]
          rfl
        refine one_ (i := 14) (N := some 51) #[true, true, true, true, true, true, true, true, true, true, true, true, true, true, true, false, false, false] rfl rfl (by kernel_rfl) (by decide) (fun K hK => ?_)
        refine goes_ Tryd.func12 (by kernel_rfl) rfl #[.string a.f1] (by rfl) rfl rfl (by simp only [List.map_toArray, List.map_cons, List.map_nil]; rfl) ?_
        with_reducible refine ((hE _)).mono ?_
        rintro e w5 ⟨rfl, hb5⟩
        refine ⟨_, rfl, ?_⟩
        have g45 := cell_keep hb5 g4
        have q05 := cell_keep hb5 q0
        have q15 := cell_keep hb5 q1
        refine hK.out _ _ ⟨g45, q05, q15⟩ (fun hHeld => ?_)
        clear hK K
        refine norm_ (a' := ?_) ?_ ?_
        rotate_left
        · show Act.put _ (some 51) _ = _
          simp only [Act.put, List.setIfInBounds_toArray, List.set_cons_zero, List.set_cons_succ, i64_w, i32_w]
          rfl
        refine pure_ (i := 15) (N := some 52) (v := ?_) (a' := ?_) #[true, true, true, true, true, true, true, true, true, true, true, true, true, true, true, true, false, false] rfl rfl (by kernel_rfl) (fun _ _ _ h => h) (Or.inl ⟨by rfl, ?_⟩) ?_ ?_
        rotate_left
        · intro w'
          go_simp
          with_reducible rfl
        rotate_left
        · simp only [Act.put, List.setIfInBounds_toArray, List.set_cons_zero, List.set_cons_succ, i64_w, i32_w]
          rfl
        refine pure_ (i := 16) (N := some 53) (v := ?_) (a' := ?_) #[true, true, true, true, true, true, true, true, true, true, true, true, true, true, true, true, true, false] rfl rfl (by kernel_rfl) (fun _ _ _ h => h) (Or.inl ⟨by rfl, ?_⟩) ?_ ?_
        rotate_left
        · intro w'
          go_simp
          with_reducible rfl
        rotate_left
        · simp only [Act.put, List.setIfInBounds_toArray, List.set_cons_zero, List.set_cons_succ, i64_w, i32_w]
          rfl
        refine pure_ (i := 17) (N := some 9) (v := ?_) (a' := ?_) #[true, true, true, true, true, true, true, true, true, true, true, true, true, true, true, true, true, true] rfl rfl (by kernel_rfl) (fun _ _ _ h => h) (Or.inl ⟨by rfl, ?_⟩) ?_ ?_
        rotate_left
        · intro w'
          go_simp
          with_reducible rfl
        rotate_left
        · simp only [Act.put, List.setIfInBounds_toArray, List.set_cons_zero, List.set_cons_succ, i64_w, i32_w]
          rfl
        refine done_ (by kernel_rfl) ?_
        have hT5 := (HT.out.below (below_drew (Below.refl _ _))).below hb5
        clear g4 q0 q1 g45 q05 q15 hb5 hE hz3 hz4 hz5 hz6
        go_wp2_with ((with_reducible refine gate_dst (N := 56) rfl ?_); refine Aside0.out ?_)
        refine Aside0.mk ?_
        refine wp_append_text (w := w5) (by rfl) (.tmp 54) (.tmp 55) 43 9 rfl Tryd.underlying43 Tryd.underlying9 infoByte (by rfl) (⟨#[32]⟩ ++ a.f0 ++ ⟨#[61, 34]⟩ ++ es ++ ⟨#[34]⟩) (by rfl) hT5.row (by rw [HC.out.2]; omega) (by have := blk_lt hT5.box; omega) ?_
        intro v6 w6 hR6 hg6
        have hT6 := hT5.app hg6 hR6
        rw [HC.out.1, List.append_assoc, show (t.f3.take k).flatMap attrT ++ attrT a = (t.f3.take (k + 1)).flatMap attrT by rw [HTK.out, List.flatMap_append]; simp] at hT6
        clear hT5 hR6 hg6
        go_wp2
        go_roundw
        case rel => exact ⟨k + 1, by omega, by go_num, hT6⟩
        case measure => simp [intOf]; omega
      · obtain rfl : k = t.f3.length := by omega
        rw [List.take_length] at hTk
        have q2 : wr.cell? ⟨w.heap.size, 3, none⟩ = some (.string t.f2) := blk_cell hTk.box 3
        obtain ⟨es, hes⟩ : ∃ es : ByteArray, es = ⟨(escL t.f2.data.toList).toArray⟩ := ⟨_, rfl⟩
        have hE : ∀ W, Calls Tryd.prog 12 #[.string t.f2] W fun e w' => e = .returned (.string es) ∧ Below W.heap.size W w' := fun W => by rw [hes]; exact refEscape_any t.f2 (by have := hsm.text; omega) W
        have hesl : es.data.toList = escL t.f2.data.toList := by rw [hes]
        have hess : es.size = (escL t.f2.data.toList).length := by rw [← len_list, hesl]
        have hcs : ((⟨#[62]⟩ : ByteArray) ++ es).size = 1 + es.size := ByteArray.size_append
        have hcat : ((⟨#[62]⟩ : ByteArray) ++ es).data.toList = [62] ++ escL t.f2.data.toList := by rw [← hesl]; simp [ByteArray.data_append]
        have hz3 : (9223372036854775807 < 1 + es.size) = False := eq_false (by omega)
        have hlk : (l2 ++ t.f3.flatMap attrT).length = l2.length + (t.f3.flatMap attrT).length := List.length_append
        have HC := Lib.hid (And.intro hcat hcs)
        clear hes hesl hcat hcs
        go_wp2_with fail
        refine (hE wr).mono ?_
        rintro e w4 ⟨rfl, hb4⟩
        have hT4 := hTk.below hb4
        clear q2 g4 hE hTk hb4
        go_wp2_with ((with_reducible refine gate_dst (N := 63) rfl ?_); refine Aside0.out ?_)
        refine Aside0.mk ?_
        refine wp_append_text (w := w4) (by rfl) (.tmp 61) (.tmp 62) 43 9 rfl Tryd.underlying43 Tryd.underlying9 infoByte (by rfl) (⟨#[62]⟩ ++ es) (by rfl) hT4.row (by rw [HC.out.2]; omega) (by have := blk_lt hT4.box; omega) ?_
        intro v5 w5 hR5 hg5
        have hT5 := hT4.app hg5 hR5
        rw [HC.out.1] at hT5
        obtain ⟨l3, hl3⟩ : ∃ l3, l3 = l2 ++ t.f3.flatMap attrT ++ ([62] ++ escL t.f2.data.toList) := ⟨_, rfl⟩
        rw [← hl3] at hT5
        have hl3l : l3.length = l2.length + (t.f3.flatMap attrT).length + (1 + (escL t.f2.data.toList).length) := by rw [hl3]; simp only [List.length_append, List.length_cons, List.length_nil]
        have HL3 := Lib.hid hl3
        have q5 : w5.cell? ⟨w.heap.size, 5, none⟩ = some (.slice A5 t.f4.length c5) := blk_cell hT5.box 5
        clear hT4 hR5 hg5 hl3
        go_wp2
        go_loopw [5, 11] (fun u i wr => ∃ k : Nat, k ≤ t.f4.length ∧ i = .int .i64 k ∧ TextAt w (.cells #[.int .i64 t.f0.f0, .int .i64 t.f0.f1, .string t.f1, .string t.f2, .slice A4 t.f3.length c4, .slice A5 t.f4.length c5] 32 (0, 0)) u (l3 ++ textsT false (t.f4.take k)) wr) (fun _ i _ => t.f4.length - (intOf i).toNat)
        case atStart => exact ⟨0, Nat.zero_le _, rfl, by simpa [textsT] using hT5⟩
        case round =>
          obtain ⟨k, hk, rfl, hTk⟩ := hrel
          clear q5 hT5
          have g5 : wr.cell? ⟨w.heap.size, 5, none⟩ = some (.slice A5 t.f4.length c5) := blk_cell hTk.box 5
          have hkl := hsm.kids
          by_cases hlt : k < t.f4.length
          · obtain ⟨ad, a4, d4, a5, d5, hA5, ⟨e0, e1, e2, e3, e4, e5⟩, hS⟩ := kid k hlt
            subst hA5
            have hbr := hbw.trans (hTk.bel.mono hbw.size)
            have q0 := cell_keep hbr e0
            have q1 := cell_keep hbr e1
            have q2 := cell_keep hbr e2
            have q3 := cell_keep hbr e3
            have q4 := cell_keep hbr e4
            have q5 := cell_keep hbr e5
            have hi : (0 : Int) ≤ k ∧ (k : Int) < t.f4.length := by omega
            have htk : textsT false (t.f4.take (k + 1)) = textsT false (t.f4.take k) ++ textT false (R.rd_T32 t.f4 k) := by
              rw [List.take_succ_eq_append_getElem hlt, textsT_eq, textsT_eq, List.flatMap_append]
              have : R.rd_T32 t.f4 (k : Int) = t.f4[k] := by
                unfold R.rd_T32
                rw [Int.toNat_natCast, List.getD_eq_getElem?_getD, List.getElem?_eq_getElem hlt, Option.getD_some]
              rw [this]
              simp
            have hpre : (textsT false (t.f4.take (k + 1))).length ≤ (textsT false t.f4).length := by
              have h2 : textsT false t.f4 = textsT false (t.f4.take (k + 1)) ++ textsT false (t.f4.drop (k + 1)) := by
                rw [textsT_eq, textsT_eq, textsT_eq, ← List.flatMap_append, List.take_append_drop]
              rw [h2, List.length_append]
              omega
            have hpre2 : (textsT false (t.f4.take k)).length + (textT false (R.rd_T32 t.f4 k)).length ≤ (textsT false t.f4).length := by rw [htk, List.length_append] at hpre; exact hpre
            have hC := hS wr hbr (by omega)
            have hlk : (l3 ++ textsT false (t.f4.take k)).length = l3.length + (textsT false (t.f4.take k)).length := List.length_append
            have HTK := Lib.hid htk
            have HT := Lib.hid hTk
            clear e0 e1 e2 e3 e4 e5 hS htk hpre hTk
            go_wp2_with fail
            refine hC.mono ?_
            rintro e w6 ⟨kv, rfl, hKB, hb6⟩
            have hT6 := HT.out.below hb6
            have hTr := blk_lt HT.out.box
            clear hC q0 q1 q2 q3 q4 q5 g5
            go_wp2_with ((with_reducible refine gate_dst (N := 80) rfl ?_); refine Aside0.out ?_)
            refine Aside0.mk ?_
            refine wp_append_row (w := w6) (by rfl) (.tmp 78) (.tmp 79) 43 rfl Tryd.underlying43 infoByte (by rfl) (by rfl) hT6.row hKB (by omega) (by have := blk_lt hT6.box; omega) ?_
            intro v7 w7 hR7 hg7
            have hT7 := hT6.app hg7 hR7
            rw [List.append_assoc, ← HTK.out] at hT7
            clear hT6 hR7 hg7 hKB hb6
            go_wp2
            go_roundw
            case rel => exact ⟨k + 1, by omega, by go_num, hT7⟩
            case measure => simp [intOf]; omega
          · obtain rfl : k = t.f4.length := by omega
            rw [List.take_length] at hTk
            have q1 : wr.cell? ⟨w.heap.size, 2, none⟩ = some (.string t.f1) := blk_cell hTk.box 2
            have hcs : ((⟨#[60, 47]⟩ : ByteArray) ++ t.f1 ++ ⟨#[62]⟩).size = 2 + t.f1.size + 1 := by rw [ByteArray.size_append, ByteArray.size_append]; rfl
            have hcat : ((⟨#[60, 47]⟩ : ByteArray) ++ t.f1 ++ ⟨#[62]⟩).data.toList = [60, 47] ++ t.f1.data.toList ++ [62] := by simp [ByteArray.data_append]
            have htg := hsm.tag
            have hz3 : (9223372036854775807 < 2 + t.f1.size) = False := eq_false (by omega)
            have hz4 : (9223372036854775807 < 2 + t.f1.size + 1) = False := eq_false (by omega)
            have hlk : (l3 ++ textsT false t.f4).length = l3.length + (textsT false t.f4).length := List.length_append
            have HC := Lib.hid (And.intro hcat hcs)
            clear hcat hcs
            go_wp2_with ((with_reducible refine gate_dst (N := 87) rfl ?_); refine Aside0.out ?_)
            refine Aside0.mk ?_
            refine wp_append_text (w := wr) (by rfl) (.tmp 85) (.tmp 86) 43 9 rfl Tryd.underlying43 Tryd.underlying9 infoByte (by rfl) (⟨#[60, 47]⟩ ++ t.f1 ++ ⟨#[62]⟩) (by rfl) hTk.row (by rw [HC.out.2]; omega) (by have := blk_lt hTk.box; omega) ?_
            intro v8 w8 hR8 hg8
            have hT8 := hTk.app hg8 hR8
            rw [HC.out.1, HL3.out, HLL.out] at hT8
            have HF := Lib.hid hT8
            clear hTk hR8 hg8 hT8 q1 hz3 hz4
            go_wp2
            go_ret
            refine ⟨_, rfl, ?_, HF.out.bel⟩
            have := HF.out.row.lower (Nat.le_succ w.heap.size)
            rw [textT_eq, headT]
            exact this

end Go.Proofs.YtfpldbobfjkkfaaDoor

namespace Go.Proofs.YtfpldbobfjkkfaaDoor
open Go.RowKit Go.Proofs Go.Proofs.YtfpldbobfjkkfaaDoorW.PrintWords Go.Proofs.YtfpldbobfjkkfaaDoorW.PrintLast
set_option linter.unusedSimpArgs false

theorem refText_in (keys : Bool) (w0 : World) : ∀ (s : Nat) (t : VN), SizeOf.sizeOf t ≤ s → ∀ (d : Int), (∀ p ∈ flatD d t, Small p.2) → ∀ (cs : Array Value), R.k32.K w0 t cs.toList → RefTextSays w0 keys cs t := by
  intro s
  induction s with
  | zero =>
    intro t hs
    obtain ⟨a, b, c, d, e⟩ := t
    simp only [R.S32.mk.sizeOf_spec] at hs
    omega
  | succ s ih =>
    intro t hs d hF cs hK
    obtain ⟨A4, c4, A5, c5, hcs, _, g4, _, g5⟩ := R.k32_open hK
    obtain rfl : cs = #[.int .i64 t.f0.f0, .int .i64 t.f0.f1, .string t.f1, .string t.f2, .slice A4 t.f3.length c4, .slice A5 t.f4.length c5] := Array.toList_inj.1 hcs
    refine refText_step keys w0 t (hF (d, t) (by rw [flatD_eq]; exact List.mem_cons_self)) A4 A5 c4 c5 g4 (fun i hi => ?_)
    obtain ⟨ad, a4, d4, a5, d5, hA, e0, e1, e2, e3, e4, e5, k4, q4, k5, q5⟩ := R.at_T32 g5 (i : Int) (by omega) (by omega)
    exact ⟨ad, a4, d4, a5, d5, hA, ⟨e0, e1, e2, e3, e4, e5⟩, ih (R.rd_T32 t.f4 i) (by have := size_kid (rd_mem hi); omega) (wrap64 (d + 1)) (fun p hp => hF p (flatD_kid hi hp)) _ (R.k32_mk w0 (R.rd_T32 t.f4 i) k4 q4 k5 q5)⟩

/-- string(b). -/
theorem text_of {w : World} {B : Nat} {v : Value} {l : List UInt8} (h : BytesAt 5 B v l w) (hl : l.length ≤ 9223372036854775807) : (convert 43 9 v).run Tryd.prog w = .ok (.string ⟨l.toArray⟩) w := by
  obtain ⟨g, cap, rfl, hc⟩ := h.cells
  have hC : (Kd.int .u8).C w (some ⟨g, 0, none⟩) l.length (l.map fun b => (b.toNat : Int)) := by
    refine ⟨by rw [List.length_map], hl, fun _ => ⟨⟨g, 0, none⟩, rfl, fun j p hj => ⟨[.int .u8 p], rfl, rfl, fun i u hi => ?_⟩⟩⟩
    have hi0 : i = 0 := by
      have := (List.getElem?_eq_some_iff.1 hi).1
      simpa using this
    subst hi0
    have hu : u = .int .u8 p := by simpa using hi.symm
    subst hu
    have := hc j (.int .u8 p) (by
      rw [List.getElem?_map] at hj
      obtain ⟨b, hb, rfl⟩ := Option.map_eq_some_iff.1 hj
      unfold Lib.byteCells
      rw [List.getElem?_map, hb]
      rfl)
    have e : j * (Kd.int IntKind.u8).sz + 0 = j := Nat.mul_one j
    rw [e]
    exact this
  have := Kd.C_string (P := Tryd.prog) (src := 43) (dst := 9) (e := 5) (c := cap) Tryd.underlying43 Tryd.underlying5 Tryd.underlying9 hC
  rw [nums_back] at this
  exact this

set_option maxHeartbeats 4000000 in
set_option maxRecDepth 1000000 in
theorem told_any (keys : Bool) (t : VN) (cs : Array Value) (w : World) (hK : R.k32.K w t cs.toList) (hR : ∀ p ∈ flatD 0 t, FitR p.2) (hlen : (flatD 0 t).length ≤ 1048576)
    (hsm : checkV t = 0 → (∀ p ∈ flatD 0 t, Small p.2) ∧ (textT keys t).length ≤ 100000000000000) :
    Calls Tryd.prog 18 #[.agg cs, .bool keys] w fun e w' => e = .returned (.tuple #[.string ⟨(textV keys t).1.toArray⟩, .int .i64 (textV keys t).2]) ∧ Below w.heap.size w w' := by
  have hC := fun w1 hb => refCheck_any t cs w1 (R.k32.K_below hb hK) hR hlen
  have hX := fun (h : checkV t = 0) => refText_in keys w _ t (Nat.le_refl _) 0 (hsm h).1 cs hK
  obtain ⟨A4, c4, A5, c5, hcs, _, _, _, _⟩ := R.k32_open hK
  obtain rfl : cs = #[.int .i64 t.f0.f0, .int .i64 t.f0.f1, .string t.f1, .string t.f2, .slice A4 t.f3.length c4, .slice A5 t.f4.length c5] := Array.toList_inj.1 hcs
  have G2 := blk_new w (.cells #[.int .i64 t.f0.f0, .int .i64 t.f0.f1, .string t.f1, .string t.f2, .slice A4 t.f3.length c4, .slice A5 t.f4.length c5] 32)
  have hb0 := below_alloc (Below.refl w.heap.size w) (.cells #[.int .i64 t.f0.f0, .int .i64 t.f0.f1, .string t.f1, .string t.f2, .slice A4 t.f3.length c4, .slice A5 t.f4.length c5] 32)
  obtain ⟨⟨c0, c1, c2, c3, c4', c5'⟩, _⟩ := cells6 G2
  go_enter Tryd.func18, Tryd.ntmps18
  go_wp2_with fail
  refine (hC _ hb0).mono ?_
  rintro e w1 ⟨rfl, hb⟩
  have G21 := blk_below G2 hb
  have hb1 := hb0.trans (hb.mono hb0.size)
  clear c0 c1 c2 c3 c4' c5'
  obtain ⟨⟨c0, c1, c2, c3, c4', c5'⟩, _⟩ := cells6 G21
  by_cases hc : checkV t = 0
  · have d1 : (checkV t == 0) = true := by simpa using hc
    have d1' : (checkV t != 0) = false := by simpa using hc
    have hl := (hsm hc).2
    have hT := hX hc w1 hb1 hl
    obtain ⟨l, hll⟩ : ∃ l, l = textT keys t := ⟨_, rfl⟩
    have hV : textV keys t = if 262144 < l.length then ([], 3) else (l, 0) := by rw [textV, if_pos hc, hll]
    rw [← hll] at hT hl
    have HV := Lib.hid hV
    clear hV hll hsm hX hC hc
    go_wp2_with fail
    refine hT.mono ?_
    rintro e w2 ⟨v, rfl, hB, hb2⟩
    have hb3 := hb1.trans (hb2.mono hb1.size)
    have hconv := text_of hB (by omega)
    obtain ⟨g, cap, rfl⟩ := hB.slice
    clear hT hB c0 c1 c2 c3 c4' c5'
    by_cases hlt : 262144 < l.length
    · have d2 : decide ((262144 : Int) < l.length) = true := decide_eq_true (by omega)
      have d2' : ((262144 : Int) < l.length) = True := eq_true (by omega)
      have HL := Lib.hid (HV.out.trans (if_pos hlt))
      clear hlt
      go_wp2
      go_ret2
      exact ⟨by rw [HL.out]; rfl, hb3⟩
    · have d2 : decide ((262144 : Int) < l.length) = false := decide_eq_false (by omega)
      have d2' : ((262144 : Int) < l.length) = False := eq_false (by omega)
      have HL := Lib.hid (HV.out.trans (if_neg hlt))
      clear hlt
      go_wp2
      go_ret2
      exact ⟨by rw [HL.out]; rfl, hb3⟩
  · have d1 : (checkV t == 0) = false := by simpa using hc
    have d1' : (checkV t != 0) = true := by simpa using hc
    have HV := Lib.hid (show textV keys t = ([], checkV t) by rw [textV, if_neg hc])
    clear hX hc
    go_wp2_with fail
    refine (hC w1 hb1).mono ?_
    rintro e w2 ⟨rfl, hb2⟩
    have hb3 := hb1.trans (hb2.mono hb1.size)
    clear hC c0 c1 c2 c3 c4' c5' d1 d1'
    go_wp2
    go_ret2
    exact ⟨by rw [HV.out]; rfl, hb3⟩

set_option maxHeartbeats 8000000 in
set_option maxRecDepth 1000000 in
theorem prints_any (t : VN) (cs : Array Value) {w : World} (hK : R.k32.K w t cs.toList) (hT : rows.TreeOk 1048576 t) (hG : Glob w) (hgt : gTop ≤ w.heap.size) :
    Calls Tryd.prog 8 #[.agg cs] w fun e w' => e = .returned (.bool true) ∧ Below w.heap.size w w' := by
  have hF := hT.fits
  have hR : ∀ p ∈ flatD 0 t, FitR p.2 := fun p hp => by
    have := (hT 0).2 p hp
    exact ⟨by have := this.tag; omega, fun a ha => by have := this.each a ha; omega, by have := this.kids; omega⟩
  have hlen := (hT 0).1
  obtain ⟨A4, c4, A5, c5, hcs, _, _, _, _⟩ := R.k32_open hK
  obtain rfl : cs = #[.int .i64 t.f0.f0, .int .i64 t.f0.f1, .string t.f1, .string t.f2, .slice A4 t.f3.length c4, .slice A5 t.f4.length c5] := Array.toList_inj.1 hcs
  have G2 := blk_new w (.cells #[.int .i64 t.f0.f0, .int .i64 t.f0.f1, .string t.f1, .string t.f2, .slice A4 t.f3.length c4, .slice A5 t.f4.length c5] 32)
  have hb0 := below_alloc (Below.refl w.heap.size w) (.cells #[.int .i64 t.f0.f0, .int .i64 t.f0.f1, .string t.f1, .string t.f2, .slice A4 t.f3.length c4, .slice A5 t.f4.length c5] 32)
  have hs0 := hb0.size
  have hL := light_any t _ _ (R.k32.K_below hb0 hK) hlen (fun p hp => (hF p hp).kids)
  obtain ⟨⟨c0, c1, c2, c3, c4', c5'⟩, _⟩ := cells6 G2
  go_enter Tryd.func8, Tryd.ntmps8
  go_wp2_with fail
  refine hL.mono ?_
  rintro e w1 ⟨rfl, hb⟩
  have hb1 := hb0.trans (hb.mono hs0)
  have hs1 := hb1.size
  have G3 := blk_below G2 hb
  clear hL c0 c1 c2 c3 c4' c5' G2 hb hb0 hs0
  obtain ⟨⟨c0, c1, c2, c3, c4', c5'⟩, _⟩ := cells6 G3
  by_cases hl : (flatD 0 t).length ≤ 1000
  case neg =>
    have d0 : decide ((flatD 0 t).length ≤ 1000) = false := decide_eq_false hl
    have hA := awake_any w1 (hG.below hb1) (by omega)
    go_wp2_with fail
    refine hA.mono ?_
    rintro e w3 ⟨rfl, hc3⟩
    go_wp2
    go_ret
    exact ⟨rfl, hb1.trans (hc3.mono (by omega))⟩
  have d0 : decide ((flatD 0 t).length ≤ 1000) = true := decide_eq_true hl
  have hP1 := print_any t _ w1 (hG.below hb1) (by omega) (R.k32.K_below hb1 hK) hF (small_of hF)
  have hP2 := fun w2 (hb2 : Below w.heap.size w w2) => told_any true t _ w2 (R.k32.K_below hb2 hK) hR hlen (small_of hF)
  have hP3 := fun w2 (hb2 : Below w.heap.size w w2) => plain_any t _ w2 (hG.below hb2) (Nat.le_trans hgt hb2.size) (R.k32.K_below hb2 hK) hF (small_of hF)
  have hP4 := fun w2 (hb2 : Below w.heap.size w w2) => told_any false t _ w2 (R.k32.K_below hb2 hK) hR hlen (small_of hF)
  obtain ⟨sa, hsa⟩ : ∃ sa : ByteArray, sa = ⟨(textV true t).1.toArray⟩ := ⟨_, rfl⟩
  obtain ⟨pe, hpe⟩ : ∃ pe : Int, pe = (textV true t).2 := ⟨_, rfl⟩
  obtain ⟨sb, hsb⟩ : ∃ sb : ByteArray, sb = ⟨(textV false t).1.toArray⟩ := ⟨_, rfl⟩
  obtain ⟨pf, hpf⟩ : ∃ pf : Int, pf = (textV false t).2 := ⟨_, rfl⟩
  rw [← hsa, ← hpe] at hP1
  simp only [← hsa, ← hpe] at hP2
  simp only [← hsb, ← hpf] at hP3 hP4
  clear hsa hpe hsb hpf hl
  go_wp2_with fail
  refine hP1.mono ?_
  rintro e w2 ⟨rfl, hb⟩
  have hb2 := hb1.trans (hb.mono hs1)
  have hs2 := hb2.size
  have G4 := blk_below G3 hb
  clear hP1 c0 c1 c2 c3 c4' c5' G3 hb hb1 d0
  obtain ⟨⟨c0, c1, c2, c3, c4', c5'⟩, _⟩ := cells6 G4
  go_wp2_with fail
  refine (hP2 w2 hb2).mono ?_
  rintro e w3 ⟨rfl, hb⟩
  have hb3 := hb2.trans (hb.mono hs2)
  have hs3 := hb3.size
  have G5 := blk_below G4 hb
  clear hP2 c0 c1 c2 c3 c4' c5' G4 hb hb2
  obtain ⟨⟨c0, c1, c2, c3, c4', c5'⟩, _⟩ := cells6 G5
  go_wp2_with fail
  refine (hP3 w3 hb3).mono ?_
  rintro e w4 ⟨rfl, hb⟩
  have hb4 := hb3.trans (hb.mono hs3)
  have hs4 := hb4.size
  have G6 := blk_below G5 hb
  clear hP3 c0 c1 c2 c3 c4' c5' G5 hb hb3
  obtain ⟨⟨c0, c1, c2, c3, c4', c5'⟩, _⟩ := cells6 G6
  go_wp2_with fail
  refine (hP4 w4 hb4).mono ?_
  rintro e w5 ⟨rfl, hb⟩
  have hb5 := hb4.trans (hb.mono hs4)
  have hs5 := hb5.size
  have hA := awake_any w5 (hG.below hb5) (by omega)
  clear hP4 c0 c1 c2 c3 c4' c5' G6 hb hb4
  go_wp2_with fail
  refine hA.mono ?_
  rintro e w6 ⟨rfl, hc3⟩
  go_wp2
  go_ret
  exact ⟨rfl, hb5.trans (hc3.mono (by omega))⟩

end Go.Proofs.YtfpldbobfjkkfaaDoor
