/- The walk of topiaryref20.node. -/
import Derived.Test.YtfpldbobfjkkfaaGreatDoorZHead
import Derived.Test.YtfpldbobfjkkfaaGreatDoorZTree
namespace Go.Proofs.YtfpldbobfjkkfaaGreatDoor
open Go.RowKit Go.Proofs Go.Proofs.YtfpldbobfjkkfaaGreatDoorW.PrintWords Go.Proofs.YtfpldbobfjkkfaaGreatDoorW.PrintLast Go.Proofs.YtfpldbobfjkkfaaGreatDoor.R
set_option linter.unusedSimpArgs false

theorem beg_any (s t : ByteArray) (i : Nat) (hi : i ≤ s.size) (hs : s.size ≤ 1000000) (ht : t.size ≤ 1000000000) (w : World) : Calls Tryz.prog 22 #[.string s, .int .i64 (i : Int), .string t] w fun e w' => e = .returned (.bool (t.data.toList.isPrefixOf (s.data.toList.drop i))) ∧ Below w.heap.size w w' :=
  (topiaryref20_begins.calls s i t _ w (begins_f s t i hi (by omega) (by omega))).mono fun _ _ ⟨he, hd⟩ => ⟨he, hd.below⟩

theorem head_any (s : ByteArray) (hs : s.size ≤ 262144) (i : Nat) (hi : i ≤ s.size) (w : World) : Calls Tryz.prog 21 #[.string s, .int .i64 (i : Int)] w fun e w' => Below w.heap.size w w' ∧
    ∃ (n : VN) (too : Int) (v4 v5 : Value), e = .returned (.tuple #[.agg #[.int .i64 n.f0.f0, .int .i64 n.f0.f1, .string n.f1, .string n.f2, v4, v5], .int .i64 too]) ∧ R.k60.R 60 w' w.heap.size (fun _ => True) v4 n.f3 ∧ R.k28.R 28 w' w.heap.size (fun _ => True) v5 n.f4 ∧
      ((∃ j, headW (s.data.toList.drop i) = some (n, s.data.toList.drop j) ∧ i < j ∧ j ≤ s.size ∧ too = (j : Int) ∧ n.f4 = [] ∧ n.f1.size ≤ 1000000) ∨ (headW (s.data.toList.drop i) = none ∧ too = -1)) := by
  obtain ⟨r, h1, h2⟩ := head_f s (by omega) i 6000001 hi (by omega)
  rcases h2 with ⟨n, j, g1, g2, g3, g4, rfl⟩ | ⟨g1, rfl⟩
  · refine (topiaryref20_head.calls _ s i _ _ _ _ _ _ _ w h1).mono ?_
    rintro e w' ⟨v4, v5, rfl, hR4, hR5, hb⟩
    have hf := headW_fits g1 (by rw [List.length_drop, len_list]; omega)
    have hf1 := hf.1
    rw [List.length_drop, len_list] at hf1
    exact ⟨hb, n, j, v4, v5, rfl, hR4, by rw [g4]; exact Kd.R_mono hR5 (fun _ _ => trivial), .inl ⟨j, g1, g2, g3, rfl, g4, by omega⟩⟩
  · refine (topiaryref20_head.calls _ s i _ _ _ _ _ _ _ w h1).mono ?_
    rintro e w' ⟨v4, v5, rfl, hR4, hR5, hb⟩
    exact ⟨hb, zeroV, -1, v4, v5, rfl, hR4, Kd.R_mono hR5 (fun _ _ => trivial), .inr ⟨g1, rfl⟩⟩

/-- The node in block b6 as far as its kids; block w0.heap.size is the result's, untouched. -/
structure ZAt (w0 : World) (b6 : Nat) (kc kr : Int) (tg tx : ByteArray) (acc : List At) (va vk : Value) (ks : List VN) (w : World) : Prop where
  below : Below w0.heap.size w0 w
  g4 : w.heap[w0.heap.size]? = some (.cells #[.int .i64 0, .int .i64 0, .string ⟨#[]⟩, .string ⟨#[]⟩, .slice none 0 0, .slice none 0 0] 28 (0, 0))
  g6 : w.heap[b6]? = some (.cells #[.int .i64 kc, .int .i64 kr, .string tg, .string tx, va, vk] 28 (0, 0))
  row : R.k60.R 60 w (w0.heap.size + 1) (fun k => w0.heap.size < k ∧ k ≠ b6) va acc
  kids : R.k28.R 28 w (w0.heap.size + 1) (fun k => w0.heap.size < k ∧ k ≠ b6) vk ks

theorem ZAt.grow {w0 : World} {b6 : Nat} {kc kr : Int} {tg tx : ByteArray} {acc : List At} {va vk : Value} {ks : List VN} {w w' : World} (h : ZAt w0 b6 kc kr tg tx acc va vk ks w) (hb : Below w.heap.size w w') : ZAt w0 b6 kc kr tg tx acc va vk ks w' :=
  ⟨h.below.trans (hb.mono h.below.size), blk_below h.g4 hb, blk_below h.g6 hb, Kd.R_below h.row hb, Kd.R_below h.kids hb⟩
theorem ZAt.alloc {w0 : World} {b6 : Nat} {kc kr : Int} {tg tx : ByteArray} {acc : List At} {va vk : Value} {ks : List VN} {w : World} (h : ZAt w0 b6 kc kr tg tx acc va vk ks w) (o : Obj) : ZAt w0 b6 kc kr tg tx acc va vk ks (w.alloc o) := h.grow (below_alloc (Below.refl _ w) o)

theorem ZAt.done {w0 : World} {b6 : Nat} {kc kr : Int} {tg tx : ByteArray} {acc : List At} {va vk : Value} {ks : List VN} {w : World} (h : ZAt w0 b6 kc kr tg tx acc va vk ks w) :
    Below w0.heap.size w0 (put6 w w0.heap.size (.int .i64 kc) (.int .i64 kr) (.string tg) (.string tx) va vk) ∧ R.k28.M (put6 w w0.heap.size (.int .i64 kc) (.int .i64 kr) (.string tg) (.string tx) va vk) w0.heap.size (fun _ => True) ⟨⟨kc, kr⟩, tg, tx, acc, ks⟩ [.int .i64 kc, .int .i64 kr, .string tg, .string tx, va, vk] := by
  have far : ∀ k, (w0.heap.size < k ∧ k ≠ b6) → k < w.heap.size → (put6 w w0.heap.size (.int .i64 kc) (.int .i64 kr) (.string tg) (.string tx) va vk).heap[k]? = w.heap[k]? := fun k hk _ => put6_far (by omega) _ _ _ _ _ _
  refine ⟨below_put6 h.below (Nat.le_refl _) _ _ _ _ _ _, ?_⟩
  exact R.k28_mkM _ _ _ ⟨⟨kc, kr⟩, tg, tx, acc, ks⟩ (Kd.R_mono (Kd.R_lower (Kd.R_step h.row far) (base' := w0.heap.size) (by omega)) (ok' := fun _ => True) (fun _ _ => trivial)) (Kd.R_mono (Kd.R_lower (Kd.R_step h.kids far) (base' := w0.heap.size) (by omega)) (ok' := fun _ => True) (fun _ _ => trivial))

/-- A kid appended. -/
theorem ZAt.app {w0 : World} {b6 : Nat} {kc kr : Int} {tg tx : ByteArray} {acc : List At} {va vk v1 : Value} {ks : List VN} {t : VN} {W w4 : World} (h : ZAt w0 b6 kc kr tg tx acc va vk ks W) (hb6 : w0.heap.size < b6) (hrow : R.k28.R 28 w4 (w0.heap.size + 1) (fun k => w0.heap.size < k ∧ k ≠ b6) v1 (ks ++ [t])) (hb : Below (w0.heap.size + 1) W w4) (hg : W.grownBy w4 vk.ownBlock) :
    w4.heap[b6]? = some (.cells #[.int .i64 kc, .int .i64 kr, .string tg, .string tx, va, vk] 28 (0, 0)) ∧ ZAt w0 b6 kc kr tg tx acc va v1 (ks ++ [t]) (w4.setCell ⟨b6, 5, none⟩ v1) := by
  have g6 : w4.heap[b6]? = some (.cells #[.int .i64 kc, .int .i64 kr, .string tg, .string tx, va, vk] 28 (0, 0)) := (hg.block b6 (blk_lt h.g6) (fun e => (h.kids.1 b6 e.symm).2 rfl)).trans h.g6
  exact ⟨g6, (h.below.trans (hb.mono (by omega))).setCell (p := ⟨b6, 5, none⟩) (by show w0.heap.size ≤ b6; omega) v1, blk_far ((hb.block w0.heap.size (by omega)).trans h.g4) (show w0.heap.size ≠ b6 by omega) v1, blk_set g6 5 v1,
    Kd.R_far (Kd.R_over h.row h.kids (by decide) hg) (fun k hk => hk.2) v1, Kd.R_far hrow (fun k hk => hk.2) v1⟩

def RefNodePost (s : ByteArray) (f i : Nat) (w : World) (e : Ending) (w' : World) : Prop :=
  Below w.heap.size w w' ∧ ∃ (t : VN) (cs : Array Value) (too : Int), e = .returned (.tuple #[.agg cs, .int .i64 too]) ∧ R.k28.M w' w.heap.size (fun _ => True) t cs.toList ∧
    ((∃ j, nodeU f (s.data.toList.drop i) = some (t, s.data.toList.drop j) ∧ i < j ∧ j ≤ s.size ∧ too = (j : Int)) ∨ (nodeU f (s.data.toList.drop i) = none ∧ too = -1))

set_option maxHeartbeats 1000000 in
set_option maxRecDepth 1000000 in
theorem refNodeR (s : ByteArray) (hs : s.size ≤ 262144) : ∀ (f i : Nat) (w : World), i ≤ s.size → 2 * (s.size - i) + 2 ≤ f → Calls Tryz.prog 11 #[.string s, .int .i64 (i : Int)] w (RefNodePost s f i w) := by
  intro f
  induction f using Nat.strongRecOn with
  | _ f ih =>
  intro i w hi hf
  obtain ⟨f, rfl⟩ : ∃ g, f = g + 1 := ⟨f - 1, by omega⟩
  have IH := Lib.hid ih
  clear ih
  have G4 := blk_new w (.cells #[.int .i64 0, .int .i64 0, .string ⟨#[]⟩, .string ⟨#[]⟩, .slice none 0 0, .slice none 0 0] 28)
  have hb0 := below_alloc (Below.refl w.heap.size w) (.cells #[.int .i64 0, .int .i64 0, .string ⟨#[]⟩, .string ⟨#[]⟩, .slice none 0 0, .slice none 0 0] 28)
  have hs0 : (w.alloc (.cells #[.int .i64 0, .int .i64 0, .string ⟨#[]⟩, .string ⟨#[]⟩, .slice none 0 0, .slice none 0 0] 28)).heap.size = w.heap.size + 1 := World.size_alloc ..
  have hH := head_any s hs i hi (w.alloc (.cells #[.int .i64 0, .int .i64 0, .string ⟨#[]⟩, .string ⟨#[]⟩, .slice none 0 0, .slice none 0 0] 28))
  rw [hs0] at hH
  go_enter Tryz.func11, Tryz.ntmps11
  go_wp2_with fail
  refine hH.mono ?_
  rintro e w1 ⟨hb, ⟨⟨kc, kr⟩, tg, tx, acc, ks⟩, too, va, vk, rfl, hR4, hR5, ho⟩
  clear hH
  dsimp only at hR4 hR5 ho ⊢
  obtain ⟨A1, C1, rfl⟩ := Kd.R_slice hR4
  obtain ⟨A2, C2, rfl⟩ := Kd.R_slice hR5
  have hz1 : w.heap.size + 1 ≤ w1.heap.size := by have := hb.size; omega
  have hZ : ZAt w w1.heap.size kc kr tg tx acc (.slice A1 acc.length C1) (.slice A2 ks.length C2) ks (w1.alloc (.cells #[.int .i64 kc, .int .i64 kr, .string tg, .string tx, .slice A1 acc.length C1, .slice A2 ks.length C2] 28)) :=
    ⟨below_alloc (hb0.trans (hb.mono (by omega))) _, blk_alloc ((hb.block _ (by omega)).trans G4) _, blk_new w1 _, Kd.R_alloc (Kd.R_mono (Kd.R_bound hR4) (fun k hk => ⟨by have := hk.2.1; omega, by have := hk.2.2.1; omega⟩)) _, Kd.R_alloc (Kd.R_mono (Kd.R_bound hR5) (fun k hk => ⟨by have := hk.2.1; omega, by have := hk.2.2.1; omega⟩)) _⟩
  have HO := Lib.hid ho
  have hbw : w.heap.size < w1.heap.size := by omega
  have G41 := (hb.block _ (by omega)).trans G4
  have hB : Below w.heap.size w w1 := hb0.trans (hb.mono (by omega))
  have hF4 := Lib.hid (Kd.R_mono (Kd.R_bound hR4) (ok' := fun k => w.heap.size < k) (fun k hk => by have := hk.2.1; omega))
  have hF5 := Lib.hid (Kd.R_mono (Kd.R_bound hR5) (ok' := fun k => w.heap.size < k) (fun k hk => by have := hk.2.1; omega))
  clear hR4 hR5 hb hb0 hs0 G4 hz1 ho
  rcases HO.out with ⟨j, g1, g2, g3, g4, g5, g6⟩ | ⟨g1, g2⟩
  case inr =>
    obtain ⟨⟨c0, c1, c2, c3, c4, c5⟩, f0, f1, f2, f3, f4, f5⟩ := cells6 G41
    subst g2
    have HN := Lib.hid (nodeU_head (f := f) g1)
    clear HO g1
    go_wp2
    have far : ∀ k, w.heap.size < k → k < w1.heap.size → (put6 w1 w.heap.size (.int .i64 kc) (.int .i64 kr) (.string tg) (.string tx) (.slice A1 acc.length C1) (.slice A2 ks.length C2)).heap[k]? = w1.heap[k]? := fun k hk _ => put6_far (by omega) _ _ _ _ _ _
    have hD := below_alloc (below_put6 hB (Nat.le_refl _) (.int .i64 kc) (.int .i64 kr) (.string tg) (.string tx) (.slice A1 acc.length C1) (.slice A2 ks.length C2)) (.cells #[.int .i64 kc, .int .i64 kr, .string tg, .string tx, .slice A1 acc.length C1, .slice A2 ks.length C2] 28)
    have hE := R.k28_mkM _ _ _ ⟨⟨kc, kr⟩, tg, tx, acc, ks⟩ (Kd.R_mono (Kd.R_lower (Kd.R_alloc (Kd.R_step hF4.out far) (.cells #[.int .i64 kc, .int .i64 kr, .string tg, .string tx, .slice A1 acc.length C1, .slice A2 ks.length C2] 28)) (base' := w.heap.size) (by omega)) (ok' := fun _ => True) (fun _ _ => trivial)) (Kd.R_mono (Kd.R_lower (Kd.R_alloc (Kd.R_step hF5.out far) (.cells #[.int .i64 kc, .int .i64 kr, .string tg, .string tx, .slice A1 acc.length C1, .slice A2 ks.length C2] 28)) (base' := w.heap.size) (by omega)) (ok' := fun _ => True) (fun _ _ => trivial))
    have hG := blk_alloc (put6_blk G41 (.int .i64 kc) (.int .i64 kr) (.string tg) (.string tx) (.slice A1 acc.length C1) (.slice A2 ks.length C2)) (.cells #[.int .i64 kc, .int .i64 kr, .string tg, .string tx, .slice A1 acc.length C1, .slice A2 ks.length C2] 28)
    refine bodyPost_ret (results_ct rfl _ _ w.heap.size 28 _ (0, 0) _ rfl hG Tryz.underlying28 rfl (by kernel_rfl)) rfl ?_
    exact ⟨hD, _, _, _, rfl, hE, .inr ⟨HN.out, rfl⟩⟩
  subst g4
  replace g5 : ks = [] := g5
  replace g6 : tg.size ≤ 1000000 := g6
  have HNO := Lib.hid (nodeU_kids (f := f) g1)
  have d0 : ((j : Int) < 0) = False := eq_false (by omega)
  have d0' : decide ((j : Int) < 0) = false := decide_eq_false (by omega)
  have HK := Lib.hid g5
  clear HO g1 g5 G41 hB hF4 hF5
  go_wp2
  go_loopw [7] (fun u wr => ∃ (g p : Nat) (vk : Value) (kk : List VN), u = .int .i64 (p : Int) ∧ ZAt w w1.heap.size kc kr tg tx acc (.slice A1 acc.length C1) vk kk wr ∧ i < p ∧ p ≤ s.size ∧ 2 * (s.size - p) + 3 ≤ g ∧ g ≤ f ∧ kk.length ≤ p ∧ kidsU f (s.data.toList.drop j) = (kidsU g (s.data.toList.drop p)).map (fun q => (kk ++ q.1, q.2))) (fun u _ => s.size - (intOf u).toNat)
  case atStart =>
    refine ⟨f, j, _, ks, rfl, hZ, g2, g3, by omega, Nat.le_refl _, by rw [HK.out]; simp, ?_⟩
    rw [HK.out]
    exact map_start _
  case round =>
    obtain ⟨g, p, vk, kk, rfl, hZ, h1, h2, h3, h4, h5, hke⟩ := hrel
    obtain ⟨g, rfl⟩ : ∃ m, g = m + 1 := ⟨g - 1, by omega⟩
    have hN := beg_any s ⟨#[60, 47]⟩ p h2 (by omega) (by decide) wr
    rw [show (⟨#[60, 47]⟩ : ByteArray).data.toList = [60, 47] from rfl] at hN
    have HKE := Lib.hid hke
    clear hke d0 d0'
    cases hp : [60, 47].isPrefixOf (s.data.toList.drop p) with
    | true =>
      rw [hp] at hN
      have hNo := HNO.out
      rw [HKE.out, kidsU_end hp, Option.map_some, Option.bind_some, List.append_nil] at hNo
      have HN := Lib.hid hNo
      clear hNo HNO HKE hp HK
      go_wp2_with fail
      refine hN.mono ?_
      rintro e wq ⟨rfl, hb⟩
      have hZ := hZ.grow hb
      obtain ⟨A3, C3, rfl⟩ := Kd.R_slice hZ.kids
      have hy1 : (9223372036854775807 < 2 + tg.size) = False := eq_false (by omega)
      have hy2 : (9223372036854775807 < 2 + tg.size + 1) = False := eq_false (by omega)
      clear hN hb
      obtain ⟨⟨c0, c1, c2, c3, c4, c5⟩, f0, f1, f2, f3, f4, f5⟩ := cells6 hZ.g4
      obtain ⟨⟨q0, q1, q2, q3, q4, q5⟩, _⟩ := cells6 hZ.g6
      have hsz : ((⟨#[60, 47]⟩ : ByteArray) ++ tg ++ ⟨#[62]⟩).size = 2 + tg.size + 1 := by simp only [ByteArray.size_append]; rfl
      have hE := beg_any s ((⟨#[60, 47]⟩ : ByteArray) ++ tg ++ ⟨#[62]⟩) p h2 (by omega) (by omega)
      rw [endW_cat kc kr tg tx acc] at hE
      have hel : (endW ⟨⟨kc, kr⟩, tg, tx, acc, []⟩).length = 2 + tg.size + 1 := by rw [← endW_cat, len_list, hsz]
      go_wp2_with fail
      refine (hE _).mono ?_
      rintro e w2 ⟨rfl, hb⟩
      have hZ := hZ.grow hb
      clear hE hb c0 c1 c2 c3 c4 c5 f0 f1 f2 f3 f4 f5 q0 q1 q2 q3 q4 q5
      obtain ⟨⟨c0, c1, c2, c3, c4, c5⟩, f0, f1, f2, f3, f4, f5⟩ := cells6 hZ.g4
      obtain ⟨⟨q0, q1, q2, q3, q4, q5⟩, _⟩ := cells6 hZ.g6
      cases hq : (endW ⟨⟨kc, kr⟩, tg, tx, acc, []⟩).isPrefixOf (s.data.toList.drop p) with
      | false =>
        have HN := Lib.hid (HN.out.trans (if_neg (by rw [show (endW ⟨⟨kc, kr⟩, tg, tx, acc, ks⟩).isPrefixOf (s.data.toList.drop p) = false from hq]; decide)))
        clear hq
        go_wp2
        refine bodyPost_ret (results_ct rfl _ _ w.heap.size 28 _ (0, 0) _ rfl (put6_blk hZ.g4 (.int .i64 kc) (.int .i64 kr) (.string tg) (.string tx) (.slice A1 acc.length C1) (.slice A3 kk.length C3)) Tryz.underlying28 rfl (by kernel_rfl)) rfl ?_
        exact ⟨hZ.done.1, _, _, _, rfl, hZ.done.2, .inr ⟨HN.out, rfl⟩⟩
      | true =>
        have hpl := pre_len hq
        rw [List.length_drop, len_list, hel] at hpl
        have HN := Lib.hid (HN.out.trans (if_pos hq))
        clear hq
        go_wp2
        refine bodyPost_ret (results_ct rfl _ _ w.heap.size 28 _ (0, 0) _ rfl (put6_blk hZ.g4 (.int .i64 kc) (.int .i64 kr) (.string tg) (.string tx) (.slice A1 acc.length C1) (.slice A3 kk.length C3)) Tryz.underlying28 rfl (by kernel_rfl)) rfl ?_
        refine ⟨hZ.done.1, _, _, _, rfl, hZ.done.2, .inl ⟨p + (2 + tg.size + 1), ?_, by omega, by omega, by omega⟩⟩
        rw [HN.out]
        congr 2
        rw [show (endW ⟨⟨kc, kr⟩, tg, tx, acc, ks⟩).length = 2 + tg.size + 1 from hel, List.drop_drop]
    | false =>
      rw [hp] at hN
      have hI := fun w' => IH.out g (by omega) p w' h2 (by omega)
      have HGO := Lib.hid (fun (t : VN) (r : List UInt8) => kidsU_go (f := g) (l := s.data.toList.drop p) (n := t) (r := r) hp)
      have HNN := Lib.hid (fun h => kidsU_no (f := g) (l := s.data.toList.drop p) hp h)
      clear hp HK
      go_wp2_with fail
      refine hN.mono ?_
      rintro e wq ⟨rfl, hb⟩
      have hZ := hZ.grow hb
      clear hN hb
      go_wp2_with fail
      refine (hI _).mono ?_
      rintro e w3 ⟨hb, ⟨⟨tc, tr⟩, ttg, ttx, tas, tks⟩, cs, too, rfl, hM, ho⟩
      clear hI
      have HM := Lib.hid hM
      obtain ⟨va3, vk3, hcs, hM4, hM5⟩ := R.k28_openM hM
      dsimp only at hcs hM4 hM5
      obtain ⟨A5, C5, rfl⟩ := Kd.R_slice hM4
      obtain ⟨A6, C6, rfl⟩ := Kd.R_slice hM5
      obtain rfl : cs = #[.int .i64 tc, .int .i64 tr, .string ttg, .string ttx, .slice A5 tas.length C5, .slice A6 tks.length C6] := Array.toList_inj.1 hcs
      have hkb := Kd.R_lt hZ.kids
      have hq6 := blk_lt hZ.g6
      have hZ := (hZ.grow hb).alloc (.cells #[.int .i64 tc, .int .i64 tr, .string ttg, .string ttx, .slice A5 tas.length C5, .slice A6 tks.length C6] 28)
      have G8 := blk_new w3 (.cells #[.int .i64 tc, .int .i64 tr, .string ttg, .string ttx, .slice A5 tas.length C5, .slice A6 tks.length C6] 28)
      have hM1 : R.k28.M (w3.alloc (.cells #[.int .i64 tc, .int .i64 tr, .string ttg, .string ttx, .slice A5 tas.length C5, .slice A6 tks.length C6] 28)) (w.heap.size + 1) (fun k => wq.heap.size ≤ k) ⟨⟨tc, tr⟩, ttg, ttx, tas, tks⟩ [.int .i64 tc, .int .i64 tr, .string ttg, .string ttx, .slice A5 tas.length C5, .slice A6 tks.length C6] :=
        R.k28.M_lower (by omega) (R.k28.M_mono (fun k hk => hk.2.1) (R.k28.M_move (fun k hk => (below_alloc (Below.refl _ w3) _).block k hk.2.2.1) (R.k28.M_bound HM.out)))
      have hz3 := hb.size
      clear hM hM4 hM5 hcs HM hb
      have HO := Lib.hid ho
      clear ho
      rcases HO.out with ⟨p2, g1, g2, g3, g4⟩ | ⟨g1, g2⟩
      case inr =>
        subst g2
        have HN := Lib.hid (HNO.out.trans (by rw [HKE.out, HNN.out g1]))
        obtain ⟨A3, C3, rfl⟩ := Kd.R_slice hZ.kids
        obtain ⟨⟨c0, c1, c2, c3, c4, c5⟩, f0, f1, f2, f3, f4, f5⟩ := cells6 hZ.g4
        obtain ⟨⟨q0, q1, q2, q3, q4, q5⟩, _⟩ := cells6 hZ.g6
        clear HO g1 HNO HKE HNN HGO G8 hM1
        go_wp2
        refine bodyPost_ret (results_ct rfl _ _ w.heap.size 28 _ (0, 0) _ rfl (put6_blk hZ.g4 (.int .i64 kc) (.int .i64 kr) (.string tg) (.string tx) (.slice A1 acc.length C1) (.slice A3 kk.length C3)) Tryz.underlying28 rfl (by kernel_rfl)) rfl ?_
        exact ⟨hZ.done.1, _, _, _, rfl, hZ.done.2, .inr ⟨HN.out, rfl⟩⟩
      subst g4
      have d0 : ((p2 : Int) < 0) = False := eq_false (by omega)
      have d0' : decide ((p2 : Int) < 0) = false := decide_eq_false (by omega)
      have hgo := HGO.out _ _ g1 kk
      have HKE := Lib.hid (HKE.out.trans hgo)
      have c5 : (w3.alloc (.cells #[.int .i64 tc, .int .i64 tr, .string ttg, .string ttx, .slice A5 tas.length C5, .slice A6 tks.length C6] 28)).cell? ⟨w1.heap.size, 5, none⟩ = some vk := blk_cell hZ.g6 5
      obtain ⟨⟨q0, q1, q2, q3, q4, q5⟩, _⟩ := cells6 G8
      have hW := below_alloc (Below.refl w3.heap.size w3) (.cells #[.int .i64 tc, .int .i64 tr, .string ttg, .string ttx, .slice A5 tas.length C5, .slice A6 tks.length C6] 28)
      clear HO g1 HGO HNN hgo G8
      go_wp2_with ((with_reducible refine gate_dst (N := 37) rfl ?_); refine Aside0.out ?_)
      refine Aside0.mk ?_
      refine Kd.R_append R.k28 (w0 := w3.alloc (.cells #[.int .i64 tc, .int .i64 tr, .string ttg, .string ttx, .slice A5 tas.length C5, .slice A6 tks.length C6] 28)) (W := w3.alloc (.cells #[.int .i64 tc, .int .i64 tr, .string ttg, .string ttx, .slice A5 tas.length C5, .slice A6 tks.length C6] 28)) (w.heap.size + 1) (by rfl) (.tmp 34) (.tmp 36) 26 28 (.agg #[.int .i64 0, .int .i64 0, .string ⟨#[]⟩, .string ⟨#[]⟩, .slice none 0 0, .slice none 0 0]) 96 rfl Tryz.underlying26 info28 rfl (by decide) (by decide) vk kk ⟨⟨tc, tr⟩, ttg, ttx, tas, tks⟩ [.int .i64 tc, .int .i64 tr, .string ttg, .string ttx, .slice A5 tas.length C5, .slice A6 tks.length C6] (fun k => w.heap.size < k ∧ k ≠ w1.heap.size) (fun k => wq.heap.size ≤ k) (by rfl) (by rw [World.size_alloc]; rfl) hM1 (fun k hk => ⟨⟨by omega, by omega⟩, fun e => by have := hkb k e.symm; omega⟩) (fun k hk => by rw [World.size_alloc] at hk; exact ⟨by omega, by omega⟩) hZ.kids (Below.refl _ _) (by rw [World.size_alloc]; omega) (by omega) ?_
      intro v1 w4 hrow hbel hgrow _
      obtain ⟨sA, sC, hv1⟩ := Kd.R_slice hrow
      rw [List.length_append, List.length_singleton] at hv1
      obtain ⟨G6, hZ4⟩ := hZ.app hbw hrow hbel hgrow
      subst hv1
      have f5 := blk_frozen G6 5
      have e5 : w4.cell? ⟨w1.heap.size, 5, none⟩ = some vk := blk_cell G6 5
      clear hZ hrow hgrow c5 q0 q1 q2 q3 q4 q5 hM1
      go_wp2
      go_roundw
      case rel => exact ⟨g, p2, _, _, rfl, hZ4, by omega, g3, by omega, by omega, by simp; omega, HKE.out⟩
      case measure => simp [intOf]; omega

end Go.Proofs.YtfpldbobfjkkfaaGreatDoor
