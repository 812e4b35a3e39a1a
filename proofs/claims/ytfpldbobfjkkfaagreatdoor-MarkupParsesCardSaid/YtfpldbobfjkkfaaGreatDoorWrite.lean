/- The walk of markup.write. -/
import Derived.Test.YtfpldbobfjkkfaaGreatDoorPureW
import Derived.Test.YtfpldbobfjkkfaaGreatDoorCheck
namespace Go.Proofs.YtfpldbobfjkkfaaGreatDoor
open Go.RowKit Go.Proofs Go.Proofs.YtfpldbobfjkkfaaGreatDoorW.PrintWords Go.Proofs.YtfpldbobfjkkfaaGreatDoorW.PrintLast
set_option linter.unusedSimpArgs false

/-- What the builder holds, and what stands as it stood at w0. -/
structure OutAt (B b : Nat) (l : List UInt8) (w0 w : World) : Prop where
  bld : Bld B b l w
  bel : Below B w0 w
  oth : Lib.OthersKept 5 (some b) w0 w
theorem OutAt.below {B b : Nat} {l : List UInt8} {w0 w w' : World} (h : OutAt B b l w0 w) (hB : B ≤ w0.heap.size) (hb : Below w.heap.size w w') : OutAt B b l w0 w' :=
  ⟨h.bld.below hb, h.bel.trans (hb.mono (Nat.le_trans hB h.bel.size)), fun k o hk h1 h2 => blk_below (h.oth k o hk h1 h2) hb⟩
theorem OutAt.alloc {B b : Nat} {l : List UInt8} {w0 w : World} (h : OutAt B b l w0 w) (hB : B ≤ w0.heap.size) (o : Obj) : OutAt B b l w0 (w.alloc o) := h.below hB ((Below.refl _ w).alloc (Nat.le_refl _) o)
theorem OutAt.next {B b : Nat} {l l' : List UInt8} {w0 w w' : World} (h : OutAt B b l w0 w) (k : OutAt B b l' w w') : OutAt B b l' w0 w' := ⟨k.bld, h.bel.trans k.bel, h.oth.trans k.oth⟩
theorem blk_others {b g : Nat} {w w' : World} {cs : Array Value} {ty : TypeId} {fr : Nat × Nat} (h : w.heap[g]? = some (.cells cs ty fr)) (ho : Lib.OthersKept 5 (some b) w w') (hg : g ≠ b) (ht : ty ≠ 5) : w'.heap[g]? = some (.cells cs ty fr) :=
  ho g _ h (fun e => hg (Option.some.inj e)) (fun c fz e => by injection e with _ e _; exact ht e)

/-- What a call of write leaves. -/
def WritePost (B b : Nat) (keys : Bool) (l : List UInt8) (t : VN) (w : World) (e : Ending) (w' : World) : Prop := e = .returned (.tuple #[]) ∧ OutAt B b (l ++ textT keys t) w w'

/-- What write does at a tree that lies in w0. -/
def WriteSays (B b : Nat) (keys : Bool) (w0 : World) (cs : Array Value) (t : VN) : Prop :=
  ∀ (l : List UInt8) (w : World), Below w0.heap.size w0 w → B ≤ w.heap.size → b < w.heap.size → Bld B b l w → l.length + (textT keys t).length ≤ 100000000000000 →
    Calls Tryz.prog 28 #[.pointer (some ⟨b, 0, none⟩), .agg cs, .bool keys] w (WritePost B b keys l t w)
/-- One kid of a row, as it lies in w0. -/
def KidW (B b : Nat) (keys : Bool) (w0 : World) (A5 : Option Addr) (ks : List VN) (i : Nat) : Prop :=
  ∃ ad a4 d4 a5 d5, A5 = some ad ∧
    (w0.cell? (ad.add (i * 6)) = some (.int .i64 (R.rd_T28 ks i).f0.f0) ∧ w0.cell? ⟨(ad.add (i * 6)).block, (ad.add (i * 6)).off + 1, none⟩ = some (.int .i64 (R.rd_T28 ks i).f0.f1) ∧ w0.cell? ⟨(ad.add (i * 6)).block, (ad.add (i * 6)).off + 2, none⟩ = some (.string (R.rd_T28 ks i).f1) ∧ w0.cell? ⟨(ad.add (i * 6)).block, (ad.add (i * 6)).off + 3, none⟩ = some (.string (R.rd_T28 ks i).f2) ∧ w0.cell? ⟨(ad.add (i * 6)).block, (ad.add (i * 6)).off + 4, none⟩ = some (.slice a4 (R.rd_T28 ks i).f3.length d4) ∧ w0.cell? ⟨(ad.add (i * 6)).block, (ad.add (i * 6)).off + 5, none⟩ = some (.slice a5 (R.rd_T28 ks i).f4.length d5)) ∧
    WriteSays B b keys w0 #[.int .i64 (R.rd_T28 ks i).f0.f0, .int .i64 (R.rd_T28 ks i).f0.f1, .string (R.rd_T28 ks i).f1, .string (R.rd_T28 ks i).f2, .slice a4 (R.rd_T28 ks i).f3.length d4, .slice a5 (R.rd_T28 ks i).f4.length d5] (R.rd_T28 ks i)
theorem textsT_upto (keys : Bool) (ks : List VN) : textsT keys ks = (List.range ks.length).flatMap (fun (i : Nat) => textT keys (R.rd_T28 ks i)) := by
  rw [textsT_eq, range_get R.z28]
  rfl

set_option maxHeartbeats 4000000 in
set_option maxRecDepth 1000000 in
theorem write_step (B b : Nat) (keys : Bool) (w0 : World) (hB0 : w0.heap.size ≤ B) (hGw : Glob w0) (hg0 : gTop ≤ w0.heap.size) (t : VN) (hsm : Small t) (A4 A5 : Option Addr) (c4 c5 : Nat)
    (g4 : R.k60.C w0 A4 t.f3.length t.f3) (kid : ∀ i, i < t.f4.length → KidW B b keys w0 A5 t.f4 i)
    (l : List UInt8) (w : World) (hbw : Below w0.heap.size w0 w) (hBw : B ≤ w.heap.size) (hbb : b < w.heap.size) (hbld : Bld B b l w) (hlen : l.length + (textT keys t).length ≤ 100000000000000) :
    Calls Tryz.prog 28 #[.pointer (some ⟨b, 0, none⟩), .agg #[.int .i64 t.f0.f0, .int .i64 t.f0.f1, .string t.f1, .string t.f2, .slice A4 t.f3.length c4, .slice A5 t.f4.length c5], .bool keys] w (WritePost B b keys l t w) := by
  have hO : OutAt B b l w w := ⟨hbld, Below.refl _ _, Lib.OthersKept.refl _ _ _⟩
  have G4 := blk_new w (.cells #[.int .i64 t.f0.f0, .int .i64 t.f0.f1, .string t.f1, .string t.f2, .slice A4 t.f3.length c4, .slice A5 t.f4.length c5] 28)
  have hO1 := hO.alloc hBw (.cells #[.int .i64 t.f0.f0, .int .i64 t.f0.f1, .string t.f1, .string t.f2, .slice A4 t.f3.length c4, .slice A5 t.f4.length c5] 28)
  have hlt : (textT keys t).length = (headT keys t.f0 t.f1 t.f2 t.f3).length + (textsT keys t.f4).length + (t.f1.size + 3) := by rw [textT_eq]; simp; omega
  have hhd : (headT keys t.f0 t.f1 t.f2 t.f3).length = (1 + t.f1.size) + (if keys then [32, 35] ++ (keyText t.f0.f0 t.f0.f1).1 else []).length + (t.f3.flatMap attrT).length + (1 + (escL t.f2.data.toList).length) := by
    unfold headT
    simp only [List.length_append, List.length_cons, List.length_nil, len_list]
  have hz1 : (9223372036854775807 < 1 + t.f1.size) = False := eq_false (by have := hsm.tag; omega)
  have hs1 : ((⟨#[60]⟩ : ByteArray) ++ t.f1).size = 1 + t.f1.size := ByteArray.size_append
  go_enter Tryz.func28, Tryz.ntmps28
  go_wp2_with fail
  refine (write_l B b l _ _ hO1.bld (by omega) (by rw [World.size_alloc]; omega)).mono ?_
  rintro e w1 ⟨rfl, h1, h2, h3⟩
  have hO2 := hO1.next ⟨h1, h2, h3⟩
  have G4 := blk_others G4 h3 (by omega) (by decide)
  obtain ⟨l1, hl1⟩ : ∃ l1, l1 = l ++ ([60] ++ t.f1.data.toList) := ⟨_, rfl⟩
  have hO2 : OutAt B b l1 w w1 := by rw [hl1]; have := hO2; rw [ByteArray.data_append, Array.toList_append] at this; exact this
  have hll1 : l1.length = l.length + 1 + t.f1.size := by rw [hl1]; simp [len_list]; omega
  have HL1 := Lib.hid hl1
  clear hO1 h1 h2 h3 hl1 hs1 hz1 hO hbld
  have hOw := hO2.bel.size
  cases keys with
  | true =>
    have k0 : w1.cell? ⟨w.heap.size, 0, none⟩ = some (.int .i64 t.f0.f0) := blk_cell G4 0
    have k1 : w1.cell? ⟨w.heap.size, 1, none⟩ = some (.int .i64 t.f0.f1) := blk_cell G4 1
    have hGl : Glob w1 := (hGw.below hbw).keep (fun k hk => hO2.bel.block k (by omega))
    have hT := keyText_any t.f0.f0 t.f0.f1 w1 hGl
    obtain ⟨kb, hkb⟩ : ∃ kb : ByteArray, kb = ⟨(keyText t.f0.f0 t.f0.f1).1.toArray⟩ := ⟨_, rfl⟩
    obtain ⟨ke, hke⟩ : ∃ ke : Int, ke = (keyText t.f0.f0 t.f0.f1).2 := ⟨_, rfl⟩
    rw [← hkb, ← hke] at hT
    have hkl : kb.data.toList = (keyText t.f0.f0 t.f0.f1).1 := by rw [hkb]
    have hks : (([32, 35] ++ (keyText t.f0.f0 t.f0.f1).1 : List UInt8)).length = 2 + kb.size := by rw [← hkl]; simp [len_list]; omega
    rw [if_pos rfl, hks] at hhd
    have hz2 : (9223372036854775807 < 2 + kb.size) = False := eq_false (by omega)
    have hs2 : ((⟨#[32, 35]⟩ : ByteArray) ++ kb).size = 2 + kb.size := ByteArray.size_append
    have HKL := Lib.hid hkl
    clear hkb hke hkl hks
    go_wp2_with fail
    refine hT.mono ?_
    rintro e w2 ⟨rfl, hb⟩
    have hO3 := hO2.below hBw hb
    have G4 := blk_below G4 hb
    clear hT k0 k1 hO2
    go_wp2_with fail
    refine (write_l B b l1 _ _ hO3.bld (by omega) (by have := hO3.bel.size; omega)).mono ?_
    rintro e w3 ⟨rfl, h1, h2, h3⟩
    have hO4 := hO3.next ⟨h1, h2, h3⟩
    have G4 := blk_others G4 h3 (by omega) (by decide)
    obtain ⟨l2, hl2⟩ : ∃ l2, l2 = l1 ++ ([32, 35] ++ kb.data.toList) := ⟨_, rfl⟩
    have hO4 : OutAt B b l2 w w3 := by rw [hl2]; have := hO4; rw [ByteArray.data_append, Array.toList_append] at this; exact this
    have hll2 : l2.length = l1.length + 2 + kb.size := by rw [hl2]; simp [len_list]; omega
    have HL2 := Lib.hid hl2
    clear h1 h2 h3 hl2 hs2 hz2 hO3
    have hrest : l2.length + (t.f3.flatMap attrT).length + (1 + (escL t.f2.data.toList).length) + (textsT true t.f4).length + (t.f1.size + 3) ≤ 100000000000000 := by omega
    have HLL := Lib.hid (show l2 = l ++ (([60] ++ t.f1.data.toList) ++ (if true = true then [32, 35] ++ (keyText t.f0.f0 t.f0.f1).1 else [])) by rw [HL2.out, HL1.out, HKL.out, if_pos rfl, List.append_assoc])
    clear hll2 hll1 hlt hhd hlen HL1 HL2 HKL hOw hGl
    have q4 : w3.cell? ⟨w.heap.size, 4, none⟩ = some (.slice A4 t.f3.length c4) := blk_cell G4 4
    go_wp2
    go_loopw [31] (fun i wr => ∃ k : Nat, k ≤ t.f3.length ∧ i = .int .i64 k ∧ OutAt B b (l2 ++ (t.f3.take k).flatMap attrT) w wr ∧ wr.heap[w.heap.size]? = some (.cells #[.int .i64 t.f0.f0, .int .i64 t.f0.f1, .string t.f1, .string t.f2, .slice A4 t.f3.length c4, .slice A5 t.f4.length c5] 28 (0, 0))) (fun i _ => t.f3.length - (intOf i).toNat)
    case atStart => exact ⟨0, Nat.zero_le _, rfl, by simpa using hO4, G4⟩
    case round =>
      obtain ⟨k, hk, rfl, hOk, Gk⟩ := hrel
      clear q4 G4 hO4
      have hal := hsm.attrs
      by_cases hlt : k < t.f3.length
      · obtain ⟨ad, hA, q0, q1⟩ := R.at_T60 (Kd.C_below g4 (hbw.trans (hOk.bel.mono hB0))) (k : Int) (by omega) (by omega)
        obtain ⟨a, ha⟩ : ∃ a, a = R.rd_T60 t.f3 (k : Int) := ⟨_, rfl⟩
        rw [← ha] at q0 q1
        rw [Int.toNat_natCast] at q0 q1
        have hav := hsm.vals a (by rw [ha]; exact rd_memA hlt)
        have htk : t.f3.take (k + 1) = t.f3.take k ++ [a] := by
          rw [List.take_succ_eq_append_getElem hlt, ha]
          unfold R.rd_T60
          rw [Int.toNat_natCast, List.getD_eq_getElem?_getD, List.getElem?_eq_getElem hlt, Option.getD_some]
        have HA := Lib.hid ha
        have HTK := Lib.hid htk
        clear ha htk
        subst hA
        have hi : (0 : Int) ≤ k ∧ (k : Int) < t.f3.length := by omega
        obtain ⟨es, hes⟩ : ∃ es : ByteArray, es = ⟨(escL a.f1.data.toList).toArray⟩ := ⟨_, rfl⟩
        have hE : ∀ W, Glob W → Calls Tryz.prog 49 #[.string a.f1] W fun e w' => e = .returned (.string es) ∧ Below W.heap.size W w' := fun W hG => by rw [hes]; exact escape_any a.f1 W hG (by omega)
        have hesl : es.data.toList = escL a.f1.data.toList := by rw [hes]
        have hess : es.size ≤ 6000000000 := by rw [← len_list, hesl]; have := escL_len a.f1.data.toList; rw [len_list] at this; omega
        have hcat : (⟨#[32]⟩ ++ a.f0 ++ ⟨#[61, 34]⟩ ++ es ++ ⟨#[34]⟩ : ByteArray).data.toList = attrT a := by rw [attrT, ← hesl]; simp [ByteArray.data_append]
        have hcs : (⟨#[32]⟩ ++ a.f0 ++ ⟨#[61, 34]⟩ ++ es ++ ⟨#[34]⟩ : ByteArray).size = (attrT a).length := by rw [← len_list, hcat]
        have hpre : ((t.f3.take k).flatMap attrT).length + (attrT a).length ≤ (t.f3.flatMap attrT).length := by
          have h1 : (t.f3.take (k + 1)).flatMap attrT = (t.f3.take k).flatMap attrT ++ attrT a := by rw [HTK.out, List.flatMap_append]; simp
          have h2 : t.f3.flatMap attrT = (t.f3.take (k + 1)).flatMap attrT ++ (t.f3.drop (k + 1)).flatMap attrT := by rw [← List.flatMap_append, List.take_append_drop]
          rw [h2, h1]
          simp only [List.length_append]
          omega
        have hlk : (l2 ++ (t.f3.take k).flatMap attrT).length = l2.length + ((t.f3.take k).flatMap attrT).length := List.length_append
        have hz3 : (9223372036854775807 < 1 + a.f0.size) = False := eq_false (by omega)
        have hz4 : (9223372036854775807 < 1 + a.f0.size + 2) = False := eq_false (by omega)
        have hz5 : (9223372036854775807 < 1 + a.f0.size + 2 + es.size) = False := eq_false (by omega)
        have hz6 : (9223372036854775807 < 1 + a.f0.size + 2 + es.size + 1) = False := eq_false (by omega)
        have G9 := blk_drew (blk_new wr (.cells #[.string a.f0, .string a.f1] 60))
        have hO8 := (hOk.alloc hBw (.cells #[.string a.f0, .string a.f1] 60)).below hBw (below_drew (Below.refl _ _))
        have hGl : Glob (wr.alloc (.cells #[.string a.f0, .string a.f1] 60)).drew := (hGw.below hbw).keep (fun k hk => hO8.bel.block k (by omega))
        have HC := Lib.hid hcat
        have hwr := blk_lt Gk
        clear hes hesl hcat
        go_wp2
        refine start_ (n := 11) (S := fun w' => w'.cell? ⟨wr.heap.size, 0, none⟩ = some (.string a.f0) ∧ w'.cell? ⟨wr.heap.size, 1, none⟩ = some (.string a.f1)) (ds := []) #[false, false, false, false, false, false, false, false, false, false, false] (by kernel_rfl) rfl rfl ⟨blk_cell G9 0, blk_cell G9 1⟩ (fun hHeld => ?_)
        refine pure_ (i := 0) (N := some 35) (v := ?_) (a' := ?_) #[true, false, false, false, false, false, false, false, false, false, false] rfl rfl (by kernel_rfl) (fun _ _ _ h => h) (Or.inl ⟨by rfl, ?_⟩) ?_ ?_
        rotate_left
        · intro w'
          go_simp
          with_reducible rfl
        rotate_left
        · simp only [Act.put, List.setIfInBounds_toArray, List.set_cons_zero, List.set_cons_succ, i64_w, i32_w]
          rfl
        refine pure_ (i := 1) (N := some 36) (v := ?_) (a' := ?_) #[true, true, false, false, false, false, false, false, false, false, false] rfl rfl (by kernel_rfl) (fun _ _ _ h => h) (Or.inl ⟨by rfl, ?_⟩) ?_ ?_
        rotate_left
        · intro w'
          go_simp
          with_reducible rfl
        rotate_left
        · simp only [Act.put, List.setIfInBounds_toArray, List.set_cons_zero, List.set_cons_succ, i64_w, i32_w]
          rfl
        refine pure_ (i := 5) (N := some 40) (v := ?_) (a' := ?_) #[true, true, false, false, false, true, false, false, false, false, false] rfl rfl (by kernel_rfl) (fun _ _ _ h => h) (Or.inl ⟨by rfl, ?_⟩) ?_ ?_
        rotate_left
        · intro w'
          go_simp
          with_reducible rfl
        rotate_left
        · simp only [Act.put, List.setIfInBounds_toArray, List.set_cons_zero, List.set_cons_succ, i64_w, i32_w]
          rfl
        refine take_ (i := 2) (N := some 37) (v := ?_) (a' := ?_) #[true, true, true, false, false, true, false, false, false, false, false] rfl rfl (by kernel_rfl) (fun _ _ _ h => h) (Or.inl ⟨by rfl, ?_⟩) hHeld ?_ ?_
        rotate_left
        · rintro w' ⟨s0, s1⟩
          go_simp
          with_reducible rfl
        rotate_left
        · simp only [Act.put, List.setIfInBounds_toArray, List.set_cons_zero, List.set_cons_succ, i64_w, i32_w]
          rfl
        refine pure_ (i := 3) (N := some 38) (v := ?_) (a' := ?_) #[true, true, true, true, false, true, false, false, false, false, false] rfl rfl (by kernel_rfl) (fun _ _ _ h => h) (Or.inl ⟨by rfl, ?_⟩) ?_ ?_
        rotate_left
        · intro w'
          go_simp
          with_reducible rfl
        rotate_left
        · simp only [Act.put, List.setIfInBounds_toArray, List.set_cons_zero, List.set_cons_succ, i64_w, i32_w]
          rfl
        refine pure_ (i := 4) (N := some 39) (v := ?_) (a' := ?_) #[true, true, true, true, true, true, false, false, false, false, false] rfl rfl (by kernel_rfl) (fun _ _ _ h => h) (Or.inl ⟨by rfl, ?_⟩) ?_ ?_
        rotate_left
        · intro w'
          go_simp
          with_reducible rfl
        rotate_left
        · simp only [Act.put, List.setIfInBounds_toArray, List.set_cons_zero, List.set_cons_succ, i64_w, i32_w]
          rfl
        refine take_ (i := 6) (N := some 41) (v := ?_) (a' := ?_) #[true, true, true, true, true, true, true, false, false, false, false] rfl rfl (by kernel_rfl) (fun _ _ _ h => h) (Or.inl ⟨by rfl, ?_⟩) hHeld ?_ ?_
        rotate_left
        · rintro w' ⟨s0, s1⟩
          go_simp
          with_reducible rfl
        rotate_left
        · simp only [Act.put, List.setIfInBounds_toArray, List.set_cons_zero, List.set_cons_succ, i64_w, i32_w]
          rfl
        refine one_ (i := 7) (N := some 42) #[true, true, true, true, true, true, true, true, false, false, false] rfl rfl (by kernel_rfl) (by decide) (fun K hK => ?_)
        refine goes_ Tryz.func49 (by kernel_rfl) rfl #[.string a.f1] (by rfl) rfl rfl (by simp only [List.map_toArray, List.map_cons, List.map_nil]; rfl) ?_
        with_reducible refine ((hE _ hGl)).mono ?_
        rintro e w5 ⟨rfl, hb5⟩
        refine ⟨_, rfl, ?_⟩
        have G95 := blk_below G9 hb5
        refine hK.out _ _ ⟨(blk_cell G95 0), (blk_cell G95 1)⟩ (fun hHeld => ?_)
        clear hK K
        refine norm_ (a' := ?_) ?_ ?_
        rotate_left
        · show Act.put _ (some 42) _ = _
          simp only [Act.put, List.setIfInBounds_toArray, List.set_cons_zero, List.set_cons_succ, i64_w, i32_w]
          rfl
        refine pure_ (i := 8) (N := some 43) (v := ?_) (a' := ?_) #[true, true, true, true, true, true, true, true, true, false, false] rfl rfl (by kernel_rfl) (fun _ _ _ h => h) (Or.inl ⟨by rfl, ?_⟩) ?_ ?_
        rotate_left
        · intro w'
          go_simp
          with_reducible rfl
        rotate_left
        · simp only [Act.put, List.setIfInBounds_toArray, List.set_cons_zero, List.set_cons_succ, i64_w, i32_w]
          rfl
        refine pure_ (i := 9) (N := some 44) (v := ?_) (a' := ?_) #[true, true, true, true, true, true, true, true, true, true, false] rfl rfl (by kernel_rfl) (fun _ _ _ h => h) (Or.inl ⟨by rfl, ?_⟩) ?_ ?_
        rotate_left
        · intro w'
          go_simp
          with_reducible rfl
        rotate_left
        · simp only [Act.put, List.setIfInBounds_toArray, List.set_cons_zero, List.set_cons_succ, i64_w, i32_w]
          rfl
        refine one_ (i := 10) (N := some 45) #[true, true, true, true, true, true, true, true, true, true, true] rfl rfl (by kernel_rfl) (by decide) (fun K hK => ?_)
        refine goes_ Tryz.func47 (by kernel_rfl) rfl #[.pointer (some ⟨b, 0, none⟩), .string (⟨#[32]⟩ ++ a.f0 ++ ⟨#[61, 34]⟩ ++ es ++ ⟨#[34]⟩)] (by rfl) rfl rfl (by simp only [List.map_toArray, List.map_cons, List.map_nil]; rfl) ?_
        with_reducible refine ((write_l B b _ _ w5 (hO8.below hBw hb5).bld (by omega) (by have := (hO8.below hBw hb5).bel.size; omega))).mono ?_
        rintro e w6 ⟨rfl, h1, h2, h3⟩
        refine ⟨_, rfl, ?_⟩
        have G96 := blk_others G95 h3 (by omega) (by decide)
        refine hK.out _ _ ⟨(blk_cell G96 0), (blk_cell G96 1)⟩ (fun hHeld => ?_)
        clear hK K
        refine norm_ (a' := ?_) ?_ ?_
        rotate_left
        · show Act.put _ (some 45) _ = _
          simp only [Act.put, List.setIfInBounds_toArray, List.set_cons_zero, List.set_cons_succ, i64_w, i32_w]
          rfl
        refine done_ (by kernel_rfl) ?_

        have hO9 := (hO8.below hBw hb5).next ⟨h1, h2, h3⟩
        rw [HC.out, List.append_assoc, show (t.f3.take k).flatMap attrT ++ attrT a = (t.f3.take (k + 1)).flatMap attrT by rw [HTK.out, List.flatMap_append]; simp] at hO9
        have Gk6 := blk_others (blk_below (blk_drew (blk_alloc Gk (.cells #[.string a.f0, .string a.f1] 60))) hb5) h3 (by omega) (by decide)
        go_wp2
        go_roundw
        case rel => exact ⟨k + 1, by omega, by go_num, hO9, Gk6⟩
        case measure => simp [intOf]; omega
      · obtain rfl : k = t.f3.length := by omega
        rw [List.take_length] at hOk
        have q2 : wr.cell? ⟨w.heap.size, 3, none⟩ = some (.string t.f2) := blk_cell Gk 3
        obtain ⟨es, hes⟩ : ∃ es : ByteArray, es = ⟨(escL t.f2.data.toList).toArray⟩ := ⟨_, rfl⟩
        have hE : ∀ W, Glob W → Calls Tryz.prog 49 #[.string t.f2] W fun e w' => e = .returned (.string es) ∧ Below W.heap.size W w' := fun W hG => by rw [hes]; exact escape_any t.f2 W hG (by have := hsm.text; omega)
        have hesl : es.data.toList = escL t.f2.data.toList := by rw [hes]
        have hess : es.size = (escL t.f2.data.toList).length := by rw [← len_list, hesl]
        have hcs : ((⟨#[62]⟩ : ByteArray) ++ es).size = 1 + es.size := ByteArray.size_append
        have hcat : ((⟨#[62]⟩ : ByteArray) ++ es).data.toList = [62] ++ escL t.f2.data.toList := by rw [← hesl]; simp [ByteArray.data_append]
        have hz3 : (9223372036854775807 < 1 + es.size) = False := eq_false (by omega)
        have hGl : Glob wr := (hGw.below hbw).keep (fun k hk => hOk.bel.block k (by omega))
        have hlk : (l2 ++ t.f3.flatMap attrT).length = l2.length + (t.f3.flatMap attrT).length := List.length_append
        have HC := Lib.hid hcat
        clear hes hesl hcat
        go_wp2_with fail
        refine (hE wr hGl).mono ?_
        rintro e w4 ⟨rfl, hb4⟩
        have hO4 := hOk.below hBw hb4
        have Gk4 := blk_below Gk hb4
        clear q2
        go_wp2_with fail
        refine (write_l B b _ _ w4 hO4.bld (by omega) (by have := hO4.bel.size; omega)).mono ?_
        rintro e w5 ⟨rfl, h1, h2, h3⟩
        have hO5 := hO4.next ⟨h1, h2, h3⟩
        have Gk5 := blk_others Gk4 h3 (by omega) (by decide)
        rw [HC.out] at hO5
        obtain ⟨l3, hl3⟩ : ∃ l3, l3 = l2 ++ t.f3.flatMap attrT ++ ([62] ++ escL t.f2.data.toList) := ⟨_, rfl⟩
        rw [← hl3] at hO5
        have hll3 : l3.length = l2.length + (t.f3.flatMap attrT).length + (1 + (escL t.f2.data.toList).length) := by rw [hl3]; simp; omega
        have HL3 := Lib.hid hl3
        have q5 : w5.cell? ⟨w.heap.size, 5, none⟩ = some (.slice A5 t.f4.length c5) := blk_cell Gk5 5
        clear h1 h2 h3 hl3 hE hO4 Gk4 Gk hOk hz3 hcs
        rw [textsT_upto] at hrest
        go_wp2
        go_loopw [56] (fun i wr => ∃ k : Nat, k ≤ t.f4.length ∧ i = .int .i64 k ∧ OutAt B b (l3 ++ (List.range k).flatMap (fun (j : Nat) => textT true (R.rd_T28 t.f4 j))) w wr ∧ wr.heap[w.heap.size]? = some (.cells #[.int .i64 t.f0.f0, .int .i64 t.f0.f1, .string t.f1, .string t.f2, .slice A4 t.f3.length c4, .slice A5 t.f4.length c5] 28 (0, 0))) (fun i _ => t.f4.length - (intOf i).toNat)
        case atStart => exact ⟨0, Nat.zero_le _, rfl, by simpa using hO5, Gk5⟩
        case round =>
          obtain ⟨k, hk, rfl, hOk, Gk⟩ := hrel
          have hkl := hsm.kids
          clear q5 Gk5 hO5
          by_cases hlt : k < t.f4.length
          · obtain ⟨ad, a4, d4, a5, d5, hA5, ⟨e0, e1, e2, e3, e4, e5⟩, hWS⟩ := kid k hlt
            subst hA5
            have hbr := hbw.trans (hOk.bel.mono hB0)
            have q0 := cell_keep hbr e0
            have q1 := cell_keep hbr e1
            have q2 := cell_keep hbr e2
            have q3 := cell_keep hbr e3
            have q4 := cell_keep hbr e4
            have q5 := cell_keep hbr e5
            have hi : (0 : Int) ≤ k ∧ (k : Int) < t.f4.length := by omega
            have hup := upto_len (fun (j : Nat) => textT true (R.rd_T28 t.f4 j)) hlt
            have hO6 := hOk.alloc hBw (.cells #[.int .i64 (R.rd_T28 t.f4 k).f0.f0, .int .i64 (R.rd_T28 t.f4 k).f0.f1, .string (R.rd_T28 t.f4 k).f1, .string (R.rd_T28 t.f4 k).f2, .slice a4 (R.rd_T28 t.f4 k).f3.length d4, .slice a5 (R.rd_T28 t.f4 k).f4.length d5] 28)
            have hC := hWS _ _ (hbw.trans (hO6.bel.mono hB0)) (Nat.le_trans hBw hO6.bel.size) (Nat.lt_of_lt_of_le hbb hO6.bel.size) hO6.bld (by rw [List.length_append]; omega)
            clear e0 e1 e2 e3 e4 e5 hWS
            go_wp2_with fail
            refine hC.mono ?_
            clear hC q0 q1 q2 q3 q4 q5
            rintro e w6 ⟨rfl, hO7⟩
            have hO8 := hO6.next hO7
            have Gk8 := blk_others (blk_alloc Gk (.cells #[.int .i64 (R.rd_T28 t.f4 k).f0.f0, .int .i64 (R.rd_T28 t.f4 k).f0.f1, .string (R.rd_T28 t.f4 k).f1, .string (R.rd_T28 t.f4 k).f2, .slice a4 (R.rd_T28 t.f4 k).f3.length d4, .slice a5 (R.rd_T28 t.f4 k).f4.length d5] 28)) hO7.oth (by omega) (by decide)
            rw [List.append_assoc, ← upto_succ (fun (j : Nat) => textT true (R.rd_T28 t.f4 j))] at hO8
            go_wp2
            go_roundw
            case rel => exact ⟨k + 1, by omega, by go_num, hO8, Gk8⟩
            case measure => simp [intOf]; omega
          · obtain rfl : k = t.f4.length := by omega
            have q1 : wr.cell? ⟨w.heap.size, 2, none⟩ = some (.string t.f1) := blk_cell Gk 2
            have hz3 : (9223372036854775807 < 2 + t.f1.size) = False := eq_false (by have := hsm.tag; omega)
            have hz4 : (9223372036854775807 < 2 + t.f1.size + 1) = False := eq_false (by have := hsm.tag; omega)
            have hcs : ((⟨#[60, 47]⟩ : ByteArray) ++ t.f1 ++ ⟨#[62]⟩).size = 2 + t.f1.size + 1 := by rw [ByteArray.size_append, ByteArray.size_append]; rfl
            have hcat : ((⟨#[60, 47]⟩ : ByteArray) ++ t.f1 ++ ⟨#[62]⟩).data.toList = [60, 47] ++ t.f1.data.toList ++ [62] := by simp [ByteArray.data_append]
            have HC := Lib.hid hcat
            clear hcat
            go_wp2_with fail
            refine (write_l B b _ _ wr hOk.bld (by rw [List.length_append]; omega) (by have := hOk.bel.size; omega)).mono ?_
            rintro e w6 ⟨rfl, h1, h2, h3⟩
            have hO9 := hOk.next ⟨h1, h2, h3⟩
            rw [HC.out, HL3.out, HLL.out] at hO9
            go_wp2
            go_end0
            refine ⟨rfl, ?_⟩
            rw [textT_eq, textsT_upto, headT]
            simpa only [List.append_assoc] using hO9
  | false =>
    rw [if_neg (by decide), List.length_nil] at hhd
    have hrest : l1.length + (t.f3.flatMap attrT).length + (1 + (escL t.f2.data.toList).length) + (textsT false t.f4).length + (t.f1.size + 3) ≤ 100000000000000 := by omega
    have HLL := Lib.hid (show l1 = l ++ (([60] ++ t.f1.data.toList) ++ (if false = true then [32, 35] ++ (keyText t.f0.f0 t.f0.f1).1 else [])) by rw [HL1.out, if_neg (by decide), List.append_nil])
    clear hll1 hlt hhd hlen HL1 hOw
    have q4 : w1.cell? ⟨w.heap.size, 4, none⟩ = some (.slice A4 t.f3.length c4) := blk_cell G4 4
    go_wp2
    go_loopw [31] (fun i wr => ∃ k : Nat, k ≤ t.f3.length ∧ i = .int .i64 k ∧ OutAt B b (l1 ++ (t.f3.take k).flatMap attrT) w wr ∧ wr.heap[w.heap.size]? = some (.cells #[.int .i64 t.f0.f0, .int .i64 t.f0.f1, .string t.f1, .string t.f2, .slice A4 t.f3.length c4, .slice A5 t.f4.length c5] 28 (0, 0))) (fun i _ => t.f3.length - (intOf i).toNat)
    case atStart => exact ⟨0, Nat.zero_le _, rfl, by simpa using hO2, G4⟩
    case round =>
      obtain ⟨k, hk, rfl, hOk, Gk⟩ := hrel
      clear q4 G4 hO2
      have hal := hsm.attrs
      by_cases hlt : k < t.f3.length
      · obtain ⟨ad, hA, q0, q1⟩ := R.at_T60 (Kd.C_below g4 (hbw.trans (hOk.bel.mono hB0))) (k : Int) (by omega) (by omega)
        obtain ⟨a, ha⟩ : ∃ a, a = R.rd_T60 t.f3 (k : Int) := ⟨_, rfl⟩
        rw [← ha] at q0 q1
        rw [Int.toNat_natCast] at q0 q1
        have hav := hsm.vals a (by rw [ha]; exact rd_memA hlt)
        have htk : t.f3.take (k + 1) = t.f3.take k ++ [a] := by
          rw [List.take_succ_eq_append_getElem hlt, ha]
          unfold R.rd_T60
          rw [Int.toNat_natCast, List.getD_eq_getElem?_getD, List.getElem?_eq_getElem hlt, Option.getD_some]
        have HA := Lib.hid ha
        have HTK := Lib.hid htk
        clear ha htk
        subst hA
        have hi : (0 : Int) ≤ k ∧ (k : Int) < t.f3.length := by omega
        obtain ⟨es, hes⟩ : ∃ es : ByteArray, es = ⟨(escL a.f1.data.toList).toArray⟩ := ⟨_, rfl⟩
        have hE : ∀ W, Glob W → Calls Tryz.prog 49 #[.string a.f1] W fun e w' => e = .returned (.string es) ∧ Below W.heap.size W w' := fun W hG => by rw [hes]; exact escape_any a.f1 W hG (by omega)
        have hesl : es.data.toList = escL a.f1.data.toList := by rw [hes]
        have hess : es.size ≤ 6000000000 := by rw [← len_list, hesl]; have := escL_len a.f1.data.toList; rw [len_list] at this; omega
        have hcat : (⟨#[32]⟩ ++ a.f0 ++ ⟨#[61, 34]⟩ ++ es ++ ⟨#[34]⟩ : ByteArray).data.toList = attrT a := by rw [attrT, ← hesl]; simp [ByteArray.data_append]
        have hcs : (⟨#[32]⟩ ++ a.f0 ++ ⟨#[61, 34]⟩ ++ es ++ ⟨#[34]⟩ : ByteArray).size = (attrT a).length := by rw [← len_list, hcat]
        have hpre : ((t.f3.take k).flatMap attrT).length + (attrT a).length ≤ (t.f3.flatMap attrT).length := by
          have h1 : (t.f3.take (k + 1)).flatMap attrT = (t.f3.take k).flatMap attrT ++ attrT a := by rw [HTK.out, List.flatMap_append]; simp
          have h2 : t.f3.flatMap attrT = (t.f3.take (k + 1)).flatMap attrT ++ (t.f3.drop (k + 1)).flatMap attrT := by rw [← List.flatMap_append, List.take_append_drop]
          rw [h2, h1]
          simp only [List.length_append]
          omega
        have hlk : (l1 ++ (t.f3.take k).flatMap attrT).length = l1.length + ((t.f3.take k).flatMap attrT).length := List.length_append
        have hz3 : (9223372036854775807 < 1 + a.f0.size) = False := eq_false (by omega)
        have hz4 : (9223372036854775807 < 1 + a.f0.size + 2) = False := eq_false (by omega)
        have hz5 : (9223372036854775807 < 1 + a.f0.size + 2 + es.size) = False := eq_false (by omega)
        have hz6 : (9223372036854775807 < 1 + a.f0.size + 2 + es.size + 1) = False := eq_false (by omega)
        have G9 := blk_drew (blk_new wr (.cells #[.string a.f0, .string a.f1] 60))
        have hO8 := (hOk.alloc hBw (.cells #[.string a.f0, .string a.f1] 60)).below hBw (below_drew (Below.refl _ _))
        have hGl : Glob (wr.alloc (.cells #[.string a.f0, .string a.f1] 60)).drew := (hGw.below hbw).keep (fun k hk => hO8.bel.block k (by omega))
        have HC := Lib.hid hcat
        have hwr := blk_lt Gk
        clear hes hesl hcat
        go_wp2
        refine start_ (n := 11) (S := fun w' => w'.cell? ⟨wr.heap.size, 0, none⟩ = some (.string a.f0) ∧ w'.cell? ⟨wr.heap.size, 1, none⟩ = some (.string a.f1)) (ds := []) #[false, false, false, false, false, false, false, false, false, false, false] (by kernel_rfl) rfl rfl ⟨blk_cell G9 0, blk_cell G9 1⟩ (fun hHeld => ?_)
        refine pure_ (i := 0) (N := some 35) (v := ?_) (a' := ?_) #[true, false, false, false, false, false, false, false, false, false, false] rfl rfl (by kernel_rfl) (fun _ _ _ h => h) (Or.inl ⟨by rfl, ?_⟩) ?_ ?_
        rotate_left
        · intro w'
          go_simp
          with_reducible rfl
        rotate_left
        · simp only [Act.put, List.setIfInBounds_toArray, List.set_cons_zero, List.set_cons_succ, i64_w, i32_w]
          rfl
        refine pure_ (i := 1) (N := some 36) (v := ?_) (a' := ?_) #[true, true, false, false, false, false, false, false, false, false, false] rfl rfl (by kernel_rfl) (fun _ _ _ h => h) (Or.inl ⟨by rfl, ?_⟩) ?_ ?_
        rotate_left
        · intro w'
          go_simp
          with_reducible rfl
        rotate_left
        · simp only [Act.put, List.setIfInBounds_toArray, List.set_cons_zero, List.set_cons_succ, i64_w, i32_w]
          rfl
        refine pure_ (i := 5) (N := some 40) (v := ?_) (a' := ?_) #[true, true, false, false, false, true, false, false, false, false, false] rfl rfl (by kernel_rfl) (fun _ _ _ h => h) (Or.inl ⟨by rfl, ?_⟩) ?_ ?_
        rotate_left
        · intro w'
          go_simp
          with_reducible rfl
        rotate_left
        · simp only [Act.put, List.setIfInBounds_toArray, List.set_cons_zero, List.set_cons_succ, i64_w, i32_w]
          rfl
        refine take_ (i := 2) (N := some 37) (v := ?_) (a' := ?_) #[true, true, true, false, false, true, false, false, false, false, false] rfl rfl (by kernel_rfl) (fun _ _ _ h => h) (Or.inl ⟨by rfl, ?_⟩) hHeld ?_ ?_
        rotate_left
        · rintro w' ⟨s0, s1⟩
          go_simp
          with_reducible rfl
        rotate_left
        · simp only [Act.put, List.setIfInBounds_toArray, List.set_cons_zero, List.set_cons_succ, i64_w, i32_w]
          rfl
        refine pure_ (i := 3) (N := some 38) (v := ?_) (a' := ?_) #[true, true, true, true, false, true, false, false, false, false, false] rfl rfl (by kernel_rfl) (fun _ _ _ h => h) (Or.inl ⟨by rfl, ?_⟩) ?_ ?_
        rotate_left
        · intro w'
          go_simp
          with_reducible rfl
        rotate_left
        · simp only [Act.put, List.setIfInBounds_toArray, List.set_cons_zero, List.set_cons_succ, i64_w, i32_w]
          rfl
        refine pure_ (i := 4) (N := some 39) (v := ?_) (a' := ?_) #[true, true, true, true, true, true, false, false, false, false, false] rfl rfl (by kernel_rfl) (fun _ _ _ h => h) (Or.inl ⟨by rfl, ?_⟩) ?_ ?_
        rotate_left
        · intro w'
          go_simp
          with_reducible rfl
        rotate_left
        · simp only [Act.put, List.setIfInBounds_toArray, List.set_cons_zero, List.set_cons_succ, i64_w, i32_w]
          rfl
        refine take_ (i := 6) (N := some 41) (v := ?_) (a' := ?_) #[true, true, true, true, true, true, true, false, false, false, false] rfl rfl (by kernel_rfl) (fun _ _ _ h => h) (Or.inl ⟨by rfl, ?_⟩) hHeld ?_ ?_
        rotate_left
        · rintro w' ⟨s0, s1⟩
          go_simp
          with_reducible rfl
        rotate_left
        · simp only [Act.put, List.setIfInBounds_toArray, List.set_cons_zero, List.set_cons_succ, i64_w, i32_w]
          rfl
        refine one_ (i := 7) (N := some 42) #[true, true, true, true, true, true, true, true, false, false, false] rfl rfl (by kernel_rfl) (by decide) (fun K hK => ?_)
        refine goes_ Tryz.func49 (by kernel_rfl) rfl #[.string a.f1] (by rfl) rfl rfl (by simp only [List.map_toArray, List.map_cons, List.map_nil]; rfl) ?_
        with_reducible refine ((hE _ hGl)).mono ?_
        rintro e w5 ⟨rfl, hb5⟩
        refine ⟨_, rfl, ?_⟩
        have G95 := blk_below G9 hb5
        refine hK.out _ _ ⟨(blk_cell G95 0), (blk_cell G95 1)⟩ (fun hHeld => ?_)
        clear hK K
        refine norm_ (a' := ?_) ?_ ?_
        rotate_left
        · show Act.put _ (some 42) _ = _
          simp only [Act.put, List.setIfInBounds_toArray, List.set_cons_zero, List.set_cons_succ, i64_w, i32_w]
          rfl
        refine pure_ (i := 8) (N := some 43) (v := ?_) (a' := ?_) #[true, true, true, true, true, true, true, true, true, false, false] rfl rfl (by kernel_rfl) (fun _ _ _ h => h) (Or.inl ⟨by rfl, ?_⟩) ?_ ?_
        rotate_left
        · intro w'
          go_simp
          with_reducible rfl
        rotate_left
        · simp only [Act.put, List.setIfInBounds_toArray, List.set_cons_zero, List.set_cons_succ, i64_w, i32_w]
          rfl
        refine pure_ (i := 9) (N := some 44) (v := ?_) (a' := ?_) #[true, true, true, true, true, true, true, true, true, true, false] rfl rfl (by kernel_rfl) (fun _ _ _ h => h) (Or.inl ⟨by rfl, ?_⟩) ?_ ?_
        rotate_left
        · intro w'
          go_simp
          with_reducible rfl
        rotate_left
        · simp only [Act.put, List.setIfInBounds_toArray, List.set_cons_zero, List.set_cons_succ, i64_w, i32_w]
          rfl
        refine one_ (i := 10) (N := some 45) #[true, true, true, true, true, true, true, true, true, true, true] rfl rfl (by kernel_rfl) (by decide) (fun K hK => ?_)
        refine goes_ Tryz.func47 (by kernel_rfl) rfl #[.pointer (some ⟨b, 0, none⟩), .string (⟨#[32]⟩ ++ a.f0 ++ ⟨#[61, 34]⟩ ++ es ++ ⟨#[34]⟩)] (by rfl) rfl rfl (by simp only [List.map_toArray, List.map_cons, List.map_nil]; rfl) ?_
        with_reducible refine ((write_l B b _ _ w5 (hO8.below hBw hb5).bld (by omega) (by have := (hO8.below hBw hb5).bel.size; omega))).mono ?_
        rintro e w6 ⟨rfl, h1, h2, h3⟩
        refine ⟨_, rfl, ?_⟩
        have G96 := blk_others G95 h3 (by omega) (by decide)
        refine hK.out _ _ ⟨(blk_cell G96 0), (blk_cell G96 1)⟩ (fun hHeld => ?_)
        clear hK K
        refine norm_ (a' := ?_) ?_ ?_
        rotate_left
        · show Act.put _ (some 45) _ = _
          simp only [Act.put, List.setIfInBounds_toArray, List.set_cons_zero, List.set_cons_succ, i64_w, i32_w]
          rfl
        refine done_ (by kernel_rfl) ?_

        have hO9 := (hO8.below hBw hb5).next ⟨h1, h2, h3⟩
        rw [HC.out, List.append_assoc, show (t.f3.take k).flatMap attrT ++ attrT a = (t.f3.take (k + 1)).flatMap attrT by rw [HTK.out, List.flatMap_append]; simp] at hO9
        have Gk6 := blk_others (blk_below (blk_drew (blk_alloc Gk (.cells #[.string a.f0, .string a.f1] 60))) hb5) h3 (by omega) (by decide)
        go_wp2
        go_roundw
        case rel => exact ⟨k + 1, by omega, by go_num, hO9, Gk6⟩
        case measure => simp [intOf]; omega
      · obtain rfl : k = t.f3.length := by omega
        rw [List.take_length] at hOk
        have q2 : wr.cell? ⟨w.heap.size, 3, none⟩ = some (.string t.f2) := blk_cell Gk 3
        obtain ⟨es, hes⟩ : ∃ es : ByteArray, es = ⟨(escL t.f2.data.toList).toArray⟩ := ⟨_, rfl⟩
        have hE : ∀ W, Glob W → Calls Tryz.prog 49 #[.string t.f2] W fun e w' => e = .returned (.string es) ∧ Below W.heap.size W w' := fun W hG => by rw [hes]; exact escape_any t.f2 W hG (by have := hsm.text; omega)
        have hesl : es.data.toList = escL t.f2.data.toList := by rw [hes]
        have hess : es.size = (escL t.f2.data.toList).length := by rw [← len_list, hesl]
        have hcs : ((⟨#[62]⟩ : ByteArray) ++ es).size = 1 + es.size := ByteArray.size_append
        have hcat : ((⟨#[62]⟩ : ByteArray) ++ es).data.toList = [62] ++ escL t.f2.data.toList := by rw [← hesl]; simp [ByteArray.data_append]
        have hz3 : (9223372036854775807 < 1 + es.size) = False := eq_false (by omega)
        have hGl : Glob wr := (hGw.below hbw).keep (fun k hk => hOk.bel.block k (by omega))
        have hlk : (l1 ++ t.f3.flatMap attrT).length = l1.length + (t.f3.flatMap attrT).length := List.length_append
        have HC := Lib.hid hcat
        clear hes hesl hcat
        go_wp2_with fail
        refine (hE wr hGl).mono ?_
        rintro e w4 ⟨rfl, hb4⟩
        have hO4 := hOk.below hBw hb4
        have Gk4 := blk_below Gk hb4
        clear q2
        go_wp2_with fail
        refine (write_l B b _ _ w4 hO4.bld (by omega) (by have := hO4.bel.size; omega)).mono ?_
        rintro e w5 ⟨rfl, h1, h2, h3⟩
        have hO5 := hO4.next ⟨h1, h2, h3⟩
        have Gk5 := blk_others Gk4 h3 (by omega) (by decide)
        rw [HC.out] at hO5
        obtain ⟨l3, hl3⟩ : ∃ l3, l3 = l1 ++ t.f3.flatMap attrT ++ ([62] ++ escL t.f2.data.toList) := ⟨_, rfl⟩
        rw [← hl3] at hO5
        have hll3 : l3.length = l1.length + (t.f3.flatMap attrT).length + (1 + (escL t.f2.data.toList).length) := by rw [hl3]; simp; omega
        have HL3 := Lib.hid hl3
        have q5 : w5.cell? ⟨w.heap.size, 5, none⟩ = some (.slice A5 t.f4.length c5) := blk_cell Gk5 5
        clear h1 h2 h3 hl3 hE hO4 Gk4 Gk hOk hz3 hcs
        rw [textsT_upto] at hrest
        go_wp2
        go_loopw [56] (fun i wr => ∃ k : Nat, k ≤ t.f4.length ∧ i = .int .i64 k ∧ OutAt B b (l3 ++ (List.range k).flatMap (fun (j : Nat) => textT false (R.rd_T28 t.f4 j))) w wr ∧ wr.heap[w.heap.size]? = some (.cells #[.int .i64 t.f0.f0, .int .i64 t.f0.f1, .string t.f1, .string t.f2, .slice A4 t.f3.length c4, .slice A5 t.f4.length c5] 28 (0, 0))) (fun i _ => t.f4.length - (intOf i).toNat)
        case atStart => exact ⟨0, Nat.zero_le _, rfl, by simpa using hO5, Gk5⟩
        case round =>
          obtain ⟨k, hk, rfl, hOk, Gk⟩ := hrel
          have hkl := hsm.kids
          clear q5 Gk5 hO5
          by_cases hlt : k < t.f4.length
          · obtain ⟨ad, a4, d4, a5, d5, hA5, ⟨e0, e1, e2, e3, e4, e5⟩, hWS⟩ := kid k hlt
            subst hA5
            have hbr := hbw.trans (hOk.bel.mono hB0)
            have q0 := cell_keep hbr e0
            have q1 := cell_keep hbr e1
            have q2 := cell_keep hbr e2
            have q3 := cell_keep hbr e3
            have q4 := cell_keep hbr e4
            have q5 := cell_keep hbr e5
            have hi : (0 : Int) ≤ k ∧ (k : Int) < t.f4.length := by omega
            have hup := upto_len (fun (j : Nat) => textT false (R.rd_T28 t.f4 j)) hlt
            have hO6 := hOk.alloc hBw (.cells #[.int .i64 (R.rd_T28 t.f4 k).f0.f0, .int .i64 (R.rd_T28 t.f4 k).f0.f1, .string (R.rd_T28 t.f4 k).f1, .string (R.rd_T28 t.f4 k).f2, .slice a4 (R.rd_T28 t.f4 k).f3.length d4, .slice a5 (R.rd_T28 t.f4 k).f4.length d5] 28)
            have hC := hWS _ _ (hbw.trans (hO6.bel.mono hB0)) (Nat.le_trans hBw hO6.bel.size) (Nat.lt_of_lt_of_le hbb hO6.bel.size) hO6.bld (by rw [List.length_append]; omega)
            clear e0 e1 e2 e3 e4 e5 hWS
            go_wp2_with fail
            refine hC.mono ?_
            clear hC q0 q1 q2 q3 q4 q5
            rintro e w6 ⟨rfl, hO7⟩
            have hO8 := hO6.next hO7
            have Gk8 := blk_others (blk_alloc Gk (.cells #[.int .i64 (R.rd_T28 t.f4 k).f0.f0, .int .i64 (R.rd_T28 t.f4 k).f0.f1, .string (R.rd_T28 t.f4 k).f1, .string (R.rd_T28 t.f4 k).f2, .slice a4 (R.rd_T28 t.f4 k).f3.length d4, .slice a5 (R.rd_T28 t.f4 k).f4.length d5] 28)) hO7.oth (by omega) (by decide)
            rw [List.append_assoc, ← upto_succ (fun (j : Nat) => textT false (R.rd_T28 t.f4 j))] at hO8
            go_wp2
            go_roundw
            case rel => exact ⟨k + 1, by omega, by go_num, hO8, Gk8⟩
            case measure => simp [intOf]; omega
          · obtain rfl : k = t.f4.length := by omega
            have q1 : wr.cell? ⟨w.heap.size, 2, none⟩ = some (.string t.f1) := blk_cell Gk 2
            have hz3 : (9223372036854775807 < 2 + t.f1.size) = False := eq_false (by have := hsm.tag; omega)
            have hz4 : (9223372036854775807 < 2 + t.f1.size + 1) = False := eq_false (by have := hsm.tag; omega)
            have hcs : ((⟨#[60, 47]⟩ : ByteArray) ++ t.f1 ++ ⟨#[62]⟩).size = 2 + t.f1.size + 1 := by rw [ByteArray.size_append, ByteArray.size_append]; rfl
            have hcat : ((⟨#[60, 47]⟩ : ByteArray) ++ t.f1 ++ ⟨#[62]⟩).data.toList = [60, 47] ++ t.f1.data.toList ++ [62] := by simp [ByteArray.data_append]
            have HC := Lib.hid hcat
            clear hcat
            go_wp2_with fail
            refine (write_l B b _ _ wr hOk.bld (by rw [List.length_append]; omega) (by have := hOk.bel.size; omega)).mono ?_
            rintro e w6 ⟨rfl, h1, h2, h3⟩
            have hO9 := hOk.next ⟨h1, h2, h3⟩
            rw [HC.out, HL3.out, HLL.out] at hO9
            go_wp2
            go_end0
            refine ⟨rfl, ?_⟩
            rw [textT_eq, textsT_upto, headT]
            simpa only [List.append_assoc] using hO9

theorem write_in (B b : Nat) (keys : Bool) (w0 : World) (hB0 : w0.heap.size ≤ B) (hGw : Glob w0) (hg0 : gTop ≤ w0.heap.size) : ∀ (s : Nat) (t : VN), SizeOf.sizeOf t ≤ s → ∀ (d : Int), (∀ p ∈ flatD d t, Small p.2) → ∀ (cs : Array Value), R.k28.K w0 t cs.toList → WriteSays B b keys w0 cs t := by
  intro s
  induction s with
  | zero =>
    intro t hs
    obtain ⟨a, b, c, d, e⟩ := t
    simp only [R.S28.mk.sizeOf_spec] at hs
    omega
  | succ s ih =>
    intro t hs d hF cs hK l w hbw hBw hbb hbld hlen
    obtain ⟨A4, c4, A5, c5, hcs, _, g4, _, g5⟩ := R.k28_open hK
    obtain rfl : cs = #[.int .i64 t.f0.f0, .int .i64 t.f0.f1, .string t.f1, .string t.f2, .slice A4 t.f3.length c4, .slice A5 t.f4.length c5] := Array.toList_inj.1 hcs
    refine write_step B b keys w0 hB0 hGw hg0 t (hF (d, t) (by rw [flatD_eq]; exact List.mem_cons_self)) A4 A5 c4 c5 g4 (fun i hi => ?_) l w hbw hBw hbb hbld hlen
    obtain ⟨ad, a4, d4, a5, d5, hA, e0, e1, e2, e3, e4, e5, k4, q4, k5, q5⟩ := R.at_T28 g5 (i : Int) (by omega) (by omega)
    exact ⟨ad, a4, d4, a5, d5, hA, ⟨e0, e1, e2, e3, e4, e5⟩, ih (R.rd_T28 t.f4 i) (by have := size_kid (rd_mem hi); omega) (wrap64 (d + 1)) (fun p hp => hF p (flatD_kid hi hp)) _ (R.k28_mk w0 (R.rd_T28 t.f4 i) k4 q4 k5 q5)⟩

end Go.Proofs.YtfpldbobfjkkfaaGreatDoor
