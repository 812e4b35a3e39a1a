/- The walks of topiaryref15.flat and Flat, and of light: a tree's nodes in order. -/
import Derived.Test.YtfpldbobfjkkfaaGreatDoorAwake
namespace Go.Proofs.YtfpldbobfjkkfaaGreatDoor
open Go.RowKit Go.Proofs Go.Proofs.YtfpldbobfjkkfaaGreatDoorW.PrintWords Go.Proofs.YtfpldbobfjkkfaaGreatDoorW.PrintLast
set_option linter.unusedSimpArgs false

/-- Two rows, element by element. -/
def PairAll {α β : Type} (P : α → β → Prop) : List α → List β → Prop
  | [], [] => True
  | a :: r, b :: s => P a b ∧ PairAll P r s
  | _, _ => False
theorem pairAll_app {α β : Type} {P : α → β → Prop} : ∀ {a c : List α} {b d : List β}, PairAll P a b → PairAll P c d → PairAll P (a ++ c) (b ++ d)
  | [], _, [], _, _, h => h
  | [], _, _ :: _, _, h, _ => h.elim
  | _ :: _, _, [], _, h, _ => h.elim
  | _ :: _, _, _ :: _, _, h, k => ⟨h.1, pairAll_app h.2 k⟩
theorem pairAll_imp {α β : Type} {P Q : α → β → Prop} : ∀ {a : List α} {b : List β}, PairAll P a b → (∀ x y, P x y → Q x y) → PairAll Q a b
  | [], [], _, _ => trivial
  | [], _ :: _, h, _ => h.elim
  | _ :: _, [], h, _ => h.elim
  | _ :: _, _ :: _, h, i => ⟨i _ _ h.1, pairAll_imp h.2 i⟩
theorem pairAll_len {α β : Type} {P : α → β → Prop} : ∀ {a : List α} {b : List β}, PairAll P a b → a.length = b.length
  | [], [], _ => rfl
  | [], _ :: _, h => h.elim
  | _ :: _, [], h => h.elim
  | _ :: _, _ :: _, h => by rw [List.length_cons, List.length_cons, pairAll_len h.2]

theorem grown_next {w wr w3 : World} {r r' : Option Nat} (h1 : w.grownBy wr r) (h2 : wr.grownBy w3 r') (hr : ∀ k, r' = some k → some k = r ∨ w.heap.size ≤ k) : w.grownBy w3 r :=
  ⟨h2.os.trans h1.os, h2.tape.trans h1.tape, h2.output.trans h1.output, Nat.le_trans h1.size h2.size, fun i hi hne => (h2.block i (Nat.lt_of_lt_of_le hi h1.size) (fun e => by
    rcases hr i e.symm with h | h
    · exact hne h
    · omega)).trans (h1.block i hi hne)⟩

/-- A row of nodes' cells that the call itself has made. -/
def RowsAt (B : Nat) (v : Value) (rows : List (List Value)) (w : World) : Prop := (Kd.raw 6).R 28 w B (fun _ => True) v rows

/-- What flat leaves. -/
def FlatPost (B : Nat) (v : Value) (rows : List (List Value)) (w : World) (e : Ending) (w' : World) : Prop :=
  ∃ v', e = .returned v' ∧ RowsAt B v' rows w' ∧ w.grownBy w' v.ownBlock ∧ (v'.ownBlock = v.ownBlock ∨ ∃ b, v'.ownBlock = some b ∧ w.heap.size ≤ b)

/-- What flat does at a tree whose nodes' cells are out. -/
def FlatSays (w0 : World) (B : Nat) (cs : Array Value) (out : List (List Value)) : Prop :=
  ∀ (v : Value) (rows : List (List Value)) (w : World), Below w0.heap.size w0 w → B ≤ w.heap.size → RowsAt B v rows w → (rows.length + out.length) * 96 ≤ 140737488355328 →
    Calls Tryz.prog 46 #[.agg cs, v] w (FlatPost B v (rows ++ out) w)

set_option maxRecDepth 1000000 in
set_option maxHeartbeats 4000000 in
theorem flat_step (B : Nat) (w0 : World) (hB0 : w0.heap.size ≤ B) (t : VN) (A4 A5 : Option Addr) (c4 c5 : Nat) (hkl : t.f4.length ≤ 9000000000000000000) (ith : Nat → List (List Value))
    (kid : ∀ i, i < t.f4.length → ∃ ad a4 d4 a5 d5, A5 = some ad ∧
      (w0.cell? (ad.add (i * 6)) = some (.int .i64 (R.rd_T28 t.f4 i).f0.f0) ∧ w0.cell? ⟨(ad.add (i * 6)).block, (ad.add (i * 6)).off + 1, none⟩ = some (.int .i64 (R.rd_T28 t.f4 i).f0.f1) ∧ w0.cell? ⟨(ad.add (i * 6)).block, (ad.add (i * 6)).off + 2, none⟩ = some (.string (R.rd_T28 t.f4 i).f1) ∧ w0.cell? ⟨(ad.add (i * 6)).block, (ad.add (i * 6)).off + 3, none⟩ = some (.string (R.rd_T28 t.f4 i).f2) ∧ w0.cell? ⟨(ad.add (i * 6)).block, (ad.add (i * 6)).off + 4, none⟩ = some (.slice a4 (R.rd_T28 t.f4 i).f3.length d4) ∧ w0.cell? ⟨(ad.add (i * 6)).block, (ad.add (i * 6)).off + 5, none⟩ = some (.slice a5 (R.rd_T28 t.f4 i).f4.length d5)) ∧
      FlatSays w0 B #[.int .i64 (R.rd_T28 t.f4 i).f0.f0, .int .i64 (R.rd_T28 t.f4 i).f0.f1, .string (R.rd_T28 t.f4 i).f1, .string (R.rd_T28 t.f4 i).f2, .slice a4 (R.rd_T28 t.f4 i).f3.length d4, .slice a5 (R.rd_T28 t.f4 i).f4.length d5] (ith i)) :
    FlatSays w0 B #[.int .i64 t.f0.f0, .int .i64 t.f0.f1, .string t.f1, .string t.f2, .slice A4 t.f3.length c4, .slice A5 t.f4.length c5] ([.int .i64 t.f0.f0, .int .i64 t.f0.f1, .string t.f1, .string t.f2, .slice A4 t.f3.length c4, .slice A5 t.f4.length c5] :: (List.range t.f4.length).flatMap ith) := by
  intro v rows w hbw hBw hR hlen
  rw [List.length_cons] at hlen
  have G2 := blk_new w (.cells #[.int .i64 t.f0.f0, .int .i64 t.f0.f1, .string t.f1, .string t.f2, .slice A4 t.f3.length c4, .slice A5 t.f4.length c5] 28)
  have hR0 : RowsAt B v rows (w.alloc (.cells #[.int .i64 t.f0.f0, .int .i64 t.f0.f1, .string t.f1, .string t.f2, .slice A4 t.f3.length c4, .slice A5 t.f4.length c5] 28)) := Kd.R_alloc hR _
  obtain ⟨⟨c0, c1, c2, c3, c4', c5'⟩, _⟩ := cells6 G2
  go_enter Tryz.func46, Tryz.ntmps46
  go_wp2_with ((with_reducible refine gate_dst (N := 9) rfl ?_); refine Aside0.out ?_)
  refine Aside0.mk ?_
  refine Kd.R_append (Kd.raw 6) (w0 := w) (W := w.alloc (.cells #[.int .i64 t.f0.f0, .int .i64 t.f0.f1, .string t.f1, .string t.f2, .slice A4 t.f3.length c4, .slice A5 t.f4.length c5] 28)) B (by rfl) (.tmp 6) (.tmp 8) 26 28 (.agg #[.int .i64 0, .int .i64 0, .string ⟨#[]⟩, .string ⟨#[]⟩, .slice none 0 0, .slice none 0 0]) 96 rfl Tryz.underlying26 info28 rfl (by decide) (by decide) v rows [.int .i64 t.f0.f0, .int .i64 t.f0.f1, .string t.f1, .string t.f2, .slice A4 t.f3.length c4, .slice A5 t.f4.length c5] [.int .i64 t.f0.f0, .int .i64 t.f0.f1, .string t.f1, .string t.f2, .slice A4 t.f3.length c4, .slice A5 t.f4.length c5] (fun _ => True) (fun _ => False) (by rfl) (by rw [World.size_alloc]; rfl) ⟨rfl, rfl, by simp [Value.oneCell']⟩ (fun _ h => h.elim) (fun _ _ => trivial) hR0 ((below_alloc (Below.refl w.heap.size w) _).mono hBw) (by rw [World.size_alloc]; omega) (by omega) ?_
  intro v1 w2 hR1 hb1 hg1 hat1
  have hne : ∀ u : Value, (u.ownBlock = v.ownBlock ∨ ∃ b, u.ownBlock = some b ∧ w.heap.size + 1 ≤ b) → some w.heap.size ≠ u.ownBlock := by
    rintro u (h | ⟨b, h, hb⟩)
    · rw [h]
      intro he
      have := Kd.R_lt hR _ he.symm
      omega
    · rw [h]
      intro he
      have := Option.some.inj he
      omega
  rw [World.size_alloc] at hat1
  have hg01 : w.grownBy w2 v.ownBlock := grown_tr2 (World.grownBy_alloc w _ _) hg1
  have G21 := blk_grown G2 hg1 (hne v (.inl rfl))
  have hO1 := Lib.hid (And.intro hR1 (And.intro hg01 hat1))
  clear hR1 hb1 hg1 hat1 hg01 G2 hR0 c0 c1 c2 c3 c4' c5'
  go_wp2
  go_loopw [1, 5] (fun u i wr => ∃ k : Nat, k ≤ t.f4.length ∧ i = .int .i64 k ∧ RowsAt B u (rows ++ ([.int .i64 t.f0.f0, .int .i64 t.f0.f1, .string t.f1, .string t.f2, .slice A4 t.f3.length c4, .slice A5 t.f4.length c5] :: (List.range k).flatMap ith)) wr ∧ w.grownBy wr v.ownBlock ∧ (u.ownBlock = v.ownBlock ∨ ∃ b, u.ownBlock = some b ∧ w.heap.size + 1 ≤ b) ∧ wr.heap[w.heap.size]? = some (.cells #[.int .i64 t.f0.f0, .int .i64 t.f0.f1, .string t.f1, .string t.f2, .slice A4 t.f3.length c4, .slice A5 t.f4.length c5] 28 (0, 0))) (fun _ i _ => t.f4.length - (intOf i).toNat)
  case atStart => exact ⟨0, Nat.zero_le _, rfl, hO1.out.1, hO1.out.2.1, hO1.out.2.2, G21⟩
  case round =>
    obtain ⟨k, hk, rfl, hRk, hgk, hat, Gk⟩ := hrel
    obtain ⟨⟨c0, c1, c2, c3, c4', c5'⟩, _⟩ := cells6 Gk
    have hlk := blk_lt Gk
    by_cases hlt : k < t.f4.length
    · obtain ⟨ad, a4, d4, a5, d5, hA5, ⟨e0, e1, e2, e3, e4, e5⟩, hFS⟩ := kid k hlt
      subst hA5
      have hbr := hbw.grown hgk hbw.size (fun j e => Nat.le_trans hB0 (Kd.R_base hR j e))
      have q0 := cell_keep hbr e0
      have q1 := cell_keep hbr e1
      have q2 := cell_keep hbr e2
      have q3 := cell_keep hbr e3
      have q4 := cell_keep hbr e4
      have q5 := cell_keep hbr e5
      have hi : (0 : Int) ≤ k ∧ (k : Int) < t.f4.length := by omega
      have hlenk := upto_len ith hlt
      have hC := hFS _ _ wr hbr (by omega) hRk (by simp only [List.length_append, List.length_cons]; omega)
      have HK := Lib.hid (And.intro hgk hat)
      clear e0 e1 e2 e3 e4 e5 hFS hRk hgk hat
      go_wp2_with fail
      refine hC.mono ?_
      rintro e w3 ⟨u', rfl, hR3, hg3, hat3⟩
      obtain ⟨hgk, hat⟩ := HK.out
      have G3 := blk_grown Gk hg3 (hne _ hat)
      have hg4 : w.grownBy w3 v.ownBlock := grown_next hgk hg3 (fun j e => by
        rcases hat with h | ⟨b, h, hb⟩
        · rw [h] at e
          exact .inl e.symm
        · rw [h] at e
          have := Option.some.inj e
          exact .inr (by omega))
      have hat4 : u'.ownBlock = v.ownBlock ∨ ∃ b, u'.ownBlock = some b ∧ w.heap.size + 1 ≤ b := by
        rcases hat3 with h | ⟨b, h, hb⟩
        · rcases hat with h2 | ⟨b2, h2, hb2⟩
          · exact .inl (h.trans h2)
          · exact .inr ⟨b2, h.trans h2, hb2⟩
        · exact .inr ⟨b, h, by omega⟩
      have hfin : RowsAt B u' (rows ++ ([.int .i64 t.f0.f0, .int .i64 t.f0.f1, .string t.f1, .string t.f2, .slice A4 t.f3.length c4, .slice (some ad) t.f4.length c5] :: (List.range (k + 1)).flatMap ith)) w3 := by
        rw [upto_succ]
        simpa using hR3
      have HF := Lib.hid (And.intro hfin (And.intro hg4 (And.intro hat4 G3)))
      clear hC q0 q1 q2 q3 q4 q5 c0 c1 c2 c3 c4' c5' hR3 hg3 hat3 hgk hat G3 hg4 hat4 hfin Gk
      go_wp2
      go_roundw
      case rel => exact ⟨k + 1, by omega, by go_num, HF.out⟩
      case measure => simp [intOf]; omega
    · obtain rfl : k = t.f4.length := by omega
      have HF := Lib.hid (And.intro hRk (And.intro hgk hat))
      clear hRk hgk hat
      go_wp2
      go_ret
      obtain ⟨hRk, hgk, hat⟩ := HF.out
      refine ⟨_, rfl, hRk, hgk, ?_⟩
      rcases hat with h | ⟨b, h, hb⟩
      · exact .inl h
      · exact .inr ⟨b, h, by omega⟩

/-- The tree's nodes' cells. -/
theorem flat_in (B : Nat) (w0 : World) (hB0 : w0.heap.size ≤ B) : ∀ (s : Nat) (t : VN), SizeOf.sizeOf t ≤ s → ∀ (d : Int), (∀ p ∈ flatD d t, p.2.f4.length ≤ 9000000000000000000) → ∀ (cs : Array Value), R.k28.K w0 t cs.toList →
    ∃ out : List (List Value), PairAll (fun (p : Int × VN) (c : List Value) => R.k28.K w0 p.2 c) (flatD d t) out ∧ FlatSays w0 B cs out := by
  intro s
  induction s with
  | zero =>
    intro t hs
    obtain ⟨a, b, c, d, e⟩ := t
    simp only [R.S28.mk.sizeOf_spec] at hs
    omega
  | succ s ih =>
    intro t hs d hF cs hK
    obtain ⟨A4, c4, A5, c5, hcs, _, g4, _, g5⟩ := R.k28_open hK
    obtain rfl : cs = #[.int .i64 t.f0.f0, .int .i64 t.f0.f1, .string t.f1, .string t.f2, .slice A4 t.f3.length c4, .slice A5 t.f4.length c5] := Array.toList_inj.1 hcs
    have key : ∀ i : Fin t.f4.length, ∃ out : List (List Value), PairAll (fun (p : Int × VN) (c : List Value) => R.k28.K w0 p.2 c) (flatD (wrap64 (d + 1)) (R.rd_T28 t.f4 i.val)) out ∧ ∃ ad a4 d4 a5 d5, A5 = some ad ∧
      (w0.cell? (ad.add (i.val * 6)) = some (.int .i64 (R.rd_T28 t.f4 i.val).f0.f0) ∧ w0.cell? ⟨(ad.add (i.val * 6)).block, (ad.add (i.val * 6)).off + 1, none⟩ = some (.int .i64 (R.rd_T28 t.f4 i.val).f0.f1) ∧ w0.cell? ⟨(ad.add (i.val * 6)).block, (ad.add (i.val * 6)).off + 2, none⟩ = some (.string (R.rd_T28 t.f4 i.val).f1) ∧ w0.cell? ⟨(ad.add (i.val * 6)).block, (ad.add (i.val * 6)).off + 3, none⟩ = some (.string (R.rd_T28 t.f4 i.val).f2) ∧ w0.cell? ⟨(ad.add (i.val * 6)).block, (ad.add (i.val * 6)).off + 4, none⟩ = some (.slice a4 (R.rd_T28 t.f4 i.val).f3.length d4) ∧ w0.cell? ⟨(ad.add (i.val * 6)).block, (ad.add (i.val * 6)).off + 5, none⟩ = some (.slice a5 (R.rd_T28 t.f4 i.val).f4.length d5)) ∧
      FlatSays w0 B #[.int .i64 (R.rd_T28 t.f4 i.val).f0.f0, .int .i64 (R.rd_T28 t.f4 i.val).f0.f1, .string (R.rd_T28 t.f4 i.val).f1, .string (R.rd_T28 t.f4 i.val).f2, .slice a4 (R.rd_T28 t.f4 i.val).f3.length d4, .slice a5 (R.rd_T28 t.f4 i.val).f4.length d5] out := by
      rintro ⟨i, hi⟩
      obtain ⟨ad, a4, d4, a5, d5, hA, e0, e1, e2, e3, e4, e5, k4, q4, k5, q5⟩ := R.at_T28 g5 (i : Int) (by omega) (by omega)
      obtain ⟨out, h1, h2⟩ := ih (R.rd_T28 t.f4 i) (by have := size_kid (rd_mem hi); omega) (wrap64 (d + 1)) (fun p hp => hF p (flatD_kid hi hp)) _ (R.k28_mk w0 (R.rd_T28 t.f4 i) k4 q4 k5 q5)
      exact ⟨out, h1, ad, a4, d4, a5, d5, hA, ⟨e0, e1, e2, e3, e4, e5⟩, h2⟩
    let ith : Nat → List (List Value) := fun i => if h : i < t.f4.length then Classical.choose (key ⟨i, h⟩) else []
    have hith : ∀ (i : Nat) (h : i < t.f4.length), ith i = Classical.choose (key ⟨i, h⟩) := fun i h => dif_pos h
    refine ⟨_, ?_, flat_step B w0 hB0 t A4 A5 c4 c5 (hF (d, t) (by rw [flatD_eq]; exact List.mem_cons_self)) ith (fun i hi => ?_)⟩
    · rw [flatD_eq, flatDs_eq, range_get R.z28]
      refine ⟨hK, ?_⟩
      have : ∀ l : List Nat, (∀ i ∈ l, i < t.f4.length) → PairAll (fun (p : Int × VN) (c : List Value) => R.k28.K w0 p.2 c) (l.flatMap fun i => flatD (wrap64 (d + 1)) (t.f4.getD i R.z28)) (l.flatMap ith) := by
        intro l
        induction l with
        | nil => intro _; exact trivial
        | cons i r ihl =>
          intro h
          rw [List.flatMap_cons, List.flatMap_cons]
          have hi := h i List.mem_cons_self
          refine pairAll_app ?_ (ihl (fun j hj => h j (List.mem_cons_of_mem _ hj)))
          have := (Classical.choose_spec (key ⟨i, hi⟩)).1
          rw [← hith i hi] at this
          exact this
      exact this _ (fun i hi => List.mem_range.1 hi)
    · have := (Classical.choose_spec (key ⟨i, hi⟩)).2
      rw [← hith i hi] at this
      exact this

set_option maxHeartbeats 4000000 in
set_option maxRecDepth 1000000 in
/-- Flat: the nodes' cells, in order. -/
theorem flat_any (t : VN) (cs : Array Value) (w : World) (hK : R.k28.K w t cs.toList) (hF : ∀ p ∈ flatD 0 t, p.2.f4.length ≤ 9000000000000000000) (hlen : (flatD 0 t).length ≤ 1048576) :
    Calls Tryz.prog 23 #[.agg cs] w fun e w' => ∃ (v : Value) (rows : List (List Value)), e = .returned v ∧ RowsAt w.heap.size v rows w' ∧ PairAll (fun (p : Int × VN) (c : List Value) => R.k28.K w p.2 c) (flatD 0 t) rows ∧ Below w.heap.size w w' := by
  obtain ⟨out, hP, hS⟩ := flat_in w.heap.size w (Nat.le_refl _) _ t (Nat.le_refl _) 0 hF cs hK
  have hl := pairAll_len hP
  obtain ⟨A4, c4, A5, c5, hcs, _, g4, _, g5⟩ := R.k28_open hK
  obtain rfl : cs = #[.int .i64 t.f0.f0, .int .i64 t.f0.f1, .string t.f1, .string t.f2, .slice A4 t.f3.length c4, .slice A5 t.f4.length c5] := Array.toList_inj.1 hcs
  have G2 := blk_new w (.cells #[.int .i64 t.f0.f0, .int .i64 t.f0.f1, .string t.f1, .string t.f2, .slice A4 t.f3.length c4, .slice A5 t.f4.length c5] 28)
  have hb0 := below_alloc (Below.refl w.heap.size w) (.cells #[.int .i64 t.f0.f0, .int .i64 t.f0.f1, .string t.f1, .string t.f2, .slice A4 t.f3.length c4, .slice A5 t.f4.length c5] 28)
  obtain ⟨⟨c0, c1, c2, c3, c4', c5'⟩, _⟩ := cells6 G2
  go_enter Tryz.func23, Tryz.ntmps23
  go_wp2_with ((with_reducible refine gate_dst (N := 4) rfl ?_); refine Aside0.out ?_)
  refine Aside0.mk ?_
  refine Kd.R_lit (Kd.raw 6) (w0 := w) w.heap.size 28 (by rfl) (N := 4) (by rfl) (xs := []) (inner := []) (ok := fun _ => True) (okp := fun _ => True) (by first | (go_simp; done) | (go_simp; rfl)) (Reps.none _ _) (fun _ hk => hk) trivial hb0 hb0.size (by simp) ?_
  intro v1 w2 hR1 hb1 hg1 hat1
  have hbw : Below w.heap.size w w2 := hb1
  have hC := hS v1 [] w2 hbw hbw.size hR1 (by simp; omega)
  rw [List.nil_append] at hC
  clear hS c0 c1 c2 c3 c4' c5'
  go_wp2_with fail
  refine hC.mono ?_
  rintro e w3 ⟨u, rfl, hR3, hg3, hat3⟩
  have hfin : Below w.heap.size w w3 := hbw.grown hg3 hbw.size (fun k e => Kd.R_base hR1 k e)
  go_wp2
  go_ret
  exact ⟨u, out, rfl, hR3, hP, hfin⟩

end Go.Proofs.YtfpldbobfjkkfaaGreatDoor
