/- vtree.Check. -/
import Derived.Test.YtfpldbobfjkkfaaGreatDoorWalk
import Derived.Test.YtfpldbobfjkkfaaGreatDoorVNode
import Derived.Test.YtfpldbobfjkkfaaGreatDoorSeen
import Derived.RangeFuncWrites
import Derived.RangeFuncFrom
import Derived.RangeFuncBox
import Derived.Maps.OwnIn
import Derived.Maps.AppendAt
import Derived.DeepKeys4
import Derived.WideKeyEntry
namespace Go.Proofs.YtfpldbobfjkkfaaGreatDoor
open Go.ChangeMaps (setBlock heap_setBlock_same heap_setBlock_other)
open Go.RowKit Go.Shelf Go.Proofs Go.Proofs.YtfpldbobfjkkfaaGreatDoorW.PrintWords Go.Proofs.YtfpldbobfjkkfaaGreatDoorW.PrintLast
attribute [local go_sem] Oper.semAt_some
set_option linter.unusedSimpArgs false

/-- What Check says of a tree's nodes, one after the other; the keys that have been seen. -/
def checkL : List (Int × Int) → List (Int × VN) → Int
  | _, [] => 0
  | seen, x :: r =>
    if (decide (x.1 = 0) && !nodeB x.2.f0.f0 x.2.f0.f1) || (decide (0 < x.1) && !rightB x.2.f0.f0 x.2.f0.f1) then 2
    else if (x.2.f0.f0, x.2.f0.f1) ∈ seen then 5
    else if nodeE x.2 = 0 then checkL ((x.2.f0.f0, x.2.f0.f1) :: seen) r else nodeE x.2
/-- What Check says of a tree. -/
def checkV (t : VN) : Int := if 8192 < (flatD 0 t).length then 3 else checkL [] (flatD 0 t)

theorem cells4 {w : World} {g : Nat} {t : TypeId} {a : Value} (h : w.heap[g]? = some (.cells #[a] t (0, 0))) : w.cell? ⟨g, 0, none⟩ = some a ∧ w.frozen? ⟨g, 0, none⟩ = false := ⟨blk_cell h 0, blk_frozen h 0⟩

theorem kpV_set {n0 n1 g : Nat} (h0 : n0 ≤ g) (h1 : g < n1) (W : World) (j : Nat) (u : Value) : KpV n0 n1 W (W.setCell ⟨g, j, none⟩ u) :=
  ⟨(Below.refl _ _).setCell h0 u, fun k o hk ho _ => (Below.heap_setCell _ _ _ _ (by show k ≠ g; omega)).trans ho⟩

theorem own_blk {A B : World} {row : Option Nat} {n : Nat} {g : Nat} {cs : Array Value} {ty : TypeId} {fr : Nat × Nat} (h : A.heap[g]? = some (.cells cs ty fr)) (hg : A.grownBy B row) (hr : ∀ r, row = some r → n ≤ r ∧ ∃ o : Obj, A.heap[r]? = some o ∧ o.isCells = false) : B.heap[g]? = some (.cells cs ty fr) :=
  (hg.block g (blk_lt h) (fun e => by
    obtain ⟨_, o, ho, hc⟩ := hr g e.symm
    rw [h] at ho
    cases ho
    cases hc)).trans h
theorem grown_cells {A B : World} {D g : Nat} {cs : Array Value} {ty : TypeId} {fr : Nat × Nat} {o : Obj} (h : A.heap[g]? = some (.cells cs ty fr)) (hg : A.grownBy B (some D)) (hD : A.heap[D]? = some o) (ho : o.isCells = false) : B.heap[g]? = some (.cells cs ty fr) :=
  own_blk (n := 0) h hg (fun r e => by cases e; exact ⟨Nat.zero_le _, o, hD, ho⟩)
theorem load_errno (g : Nat) (e : Int) (w : World) (hg : w.heap[g]? = some (.cells #[.int .i64 e] 29 (0, 0))) : (loadVar 29 ⟨g, 0, none⟩).run Tryz.prog w = .ok (.int .i64 e) w := by
  have c0 : w.cell? ⟨g, 0, none⟩ = some (.int .i64 e) := blk_cell hg 0
  have h1 := Tryz.underlying29
  simp [loadVar, isAgg, go_sem, c0]
/-- Check's result lies in a variable. -/
theorem results_cell34 (tmps : Array Value) (w : World) (g : Nat) {e : Int} (hg : w.heap[g]? = some (.cells #[.int .i64 e] 29 (0, 0))) (hp : tmps.getD 2 undef = .pointer (some ⟨g, 0, none⟩) := by rfl) :
    (results Tryz.f10 tmps).run Tryz.prog w = .ok (.int .i64 e) w := by
  have h1 : tmps[2]?.getD undef = .pointer (some ⟨g, 0, none⟩) := by simpa using hp
  have hr : Tryz.f10.results = #[.cell 2 29] := rfl
  simp [results, hr, h1, asAddr, load_errno g e w hg]

def keyP (x : Int × VN) : Int × Int := (x.2.f0.f0, x.2.f0.f1)
theorem checkL_app : ∀ (l r : List (Int × VN)) (s : List (Int × Int)), checkL s (l ++ r) = if checkL s l = 0 then checkL ((l.map keyP).reverse ++ s) r else checkL s l := by
  intro l
  induction l with
  | nil => intro r s; simp [checkL]
  | cons x l ih =>
    intro r s
    rw [List.cons_append, checkL, checkL]
    split
    · rw [if_neg (by decide)]
    · split
      · rw [if_neg (by decide)]
      · split
        · rw [ih]
          simp [keyP]
        · rename_i h
          first | rfl | rw [if_neg h]
/-- What one more node says. -/
def stepE (S : List (Int × Int)) (x : Int × VN) : Int :=
  if (decide (x.1 = 0) && !nodeB x.2.f0.f0 x.2.f0.f1) || (decide (0 < x.1) && !rightB x.2.f0.f0 x.2.f0.f1) then 2
  else if keyP x ∈ S then 5 else nodeE x.2
theorem checkL_snoc {l : List (Int × VN)} (h : checkL [] l = 0) (x : Int × VN) : checkL [] (l ++ [x]) = stepE (l.map keyP) x := by
  rw [checkL_app, if_pos h, checkL, stepE]
  simp only [List.append_nil, List.mem_reverse, checkL]
  show (if _ then _ else if keyP x ∈ l.map keyP then _ else _) = _
  by_cases h1 : (decide (x.1 = 0) && !nodeB x.2.f0.f0 x.2.f0.f1 || decide (0 < x.1) && !rightB x.2.f0.f0 x.2.f0.f1) = true
  · rw [if_pos h1, if_pos h1]
  · rw [if_neg h1, if_neg h1]
    by_cases h2 : keyP x ∈ l.map keyP
    · rw [if_pos h2, if_pos h2]
    · rw [if_neg h2, if_neg h2]
      split
      · rename_i h; rw [h]
      · rfl
theorem checkL_pre {l r : List (Int × VN)} (hp : l <+: r) (h : checkL [] l ≠ 0) : checkL [] r = checkL [] l := by
  obtain ⟨q, rfl⟩ := hp
  rw [checkL_app, if_neg h]

/-- Between two rounds of the second loop. -/
structure MidB (w : World) (t : VN) (A4 A5 : Option Addr) (c4 c5 D m : Nat) (S : List (Int × Int)) (e : Int) (W : World) : Prop where
  g0 : W.heap[w.heap.size]? = some (.cells #[.int .i64 t.f0.f0, .int .i64 t.f0.f1, .string t.f1, .string t.f2, .slice A4 t.f3.length c4, .slice A5 t.f4.length c5] 28 (0, 0))
  g2 : W.heap[w.heap.size + 1]? = some (.cells #[.int .i64 e] 29 (0, 0))
  g4 : W.heap[m + 1]? = some (.cells #[.map (some m)] 53 (0, 0))
  gD : W.heap[D]? = some (.deferred (some []))
  seen : ∃ es clock, W.heap[m]? = some (.map es clock) ∧ SeenRaw S es clock
  bel : Below w.heap.size w W
theorem MidB.grown {w : World} {t : VN} {A4 A5 : Option Addr} {c4 c5 D m B : Nat} {S : List (Int × Int)} {e : Int} {X Y : World} {row : Option Nat} (h : MidB w t A4 A5 c4 c5 D m S e X) (hg : X.grownBy Y row) (hr : ∀ r, row = some r → B ≤ r ∧ ∃ o : Obj, X.heap[r]? = some o ∧ o.isCells = false) (hw : w.heap.size ≤ B) (hD : D < B) (hm : m < B) : MidB w t A4 A5 c4 c5 D m S e Y := by
  have far : ∀ {k o}, k < B → X.heap[k]? = some o → Y.heap[k]? = some o := fun hk ho => (hg.block _ (blk_lt ho) (fun e => by have := (hr _ e.symm).1; omega)).trans ho
  obtain ⟨es, clock, h1, h2⟩ := h.seen
  exact ⟨own_blk h.g0 hg hr, own_blk h.g2 hg hr, own_blk h.g4 hg hr, far hD h.gD, ⟨es, clock, far hm h1, h2⟩, h.bel.grown hg h.bel.size (fun k e => Nat.le_trans hw (hr k e).1)⟩
theorem MidB.below {w : World} {t : VN} {A4 A5 : Option Addr} {c4 c5 D m : Nat} {S : List (Int × Int)} {e : Int} {X Y : World} (h : MidB w t A4 A5 c4 c5 D m S e X) (hb : Below X.heap.size X Y) : MidB w t A4 A5 c4 c5 D m S e Y := by
  obtain ⟨es, clock, h1, h2⟩ := h.seen
  exact ⟨blk_below h.g0 hb, blk_below h.g2 hb, blk_below h.g4 hb, blk_below h.gD hb, ⟨es, clock, blk_below h1 hb, h2⟩, h.bel.trans (hb.mono h.bel.size)⟩
theorem MidB.setE {w : World} {t : VN} {A4 A5 : Option Addr} {c4 c5 D m : Nat} {S : List (Int × Int)} {e0 : Int} {X : World} (h : MidB w t A4 A5 c4 c5 D m S e0 X) (e : Int) (hm : w.heap.size + 1 < m) (hD : w.heap.size + 1 < D) : MidB w t A4 A5 c4 c5 D m S e (X.setCell ⟨w.heap.size + 1, 0, none⟩ (.int .i64 e)) := by
  obtain ⟨es, clock, h1, h2⟩ := h.seen
  exact ⟨blk_far h.g0 (show w.heap.size ≠ w.heap.size + 1 by omega) _, blk_set h.g2 0 _, blk_far h.g4 (show m + 1 ≠ w.heap.size + 1 by omega) _, (Below.heap_setCell _ _ _ _ (by show D ≠ w.heap.size + 1; omega)).trans h.gD, ⟨es, clock, (Below.heap_setCell _ _ _ _ (by show m ≠ w.heap.size + 1; omega)).trans h1, h2⟩, h.bel.setCell (by show w.heap.size ≤ w.heap.size + 1; omega) _⟩
theorem tell_snoc {w0 : World} (pre : List (Item w0)) (x : Item w0) : tell (pre ++ [x]) = tell pre ++ [(x.deep, x.t)] := by simp [tell]
/-- A round leaves with e. -/
theorem endB {w : World} {t : VN} {A4 A5 : Option Addr} {c4 c5 D m B : Nat} {S : List (Int × Int)} {e0 e : Int} {W' X : World} {pre : List (Item w)} {x : Item w} (h : MidB w t A4 A5 c4 c5 D m S e0 X) (hk : KeepsFrom B W' X) (hm : w.heap.size + 1 < m) (hD : w.heap.size + 1 < D) (hc : checkL [] (tell pre ++ [(x.deep, x.t)]) = e) (he : e ≠ 0) :
    KeepsFrom B W' (X.setCell ⟨w.heap.size + 1, 0, none⟩ (.int .i64 e)) ∧ (Code.ret = .ret ∧ ∃ S e', MidB w t A4 A5 c4 c5 D m S e' (X.setCell ⟨w.heap.size + 1, 0, none⟩ (.int .i64 e)) ∧ checkL [] (tell (pre ++ [x])) = e' ∧ e' ≠ 0) :=
  ⟨hk.trans ((KeepsOthers.setCell _ _ _).from _), rfl, S, e, h.setE e hm hD, by rw [tell_snoc]; exact hc, he⟩
theorem MidB.grownMap {w : World} {t : VN} {A4 A5 : Option Addr} {c4 c5 D m : Nat} {S S' : List (Int × Int)} {e : Int} {X Y : World} {es : Array MapEntry} {clock : Nat} (h : MidB w t A4 A5 c4 c5 D m S e X) (hg : X.grownBy Y (some m)) (ho : Y.heap[m]? = some (.map es clock)) (hr : SeenRaw S' es clock) (hm : w.heap.size + 1 < m) (hD : D < m) : MidB w t A4 A5 c4 c5 D m S' e Y := by
  have far : ∀ {k o}, k ≠ m → X.heap[k]? = some o → Y.heap[k]? = some o := fun hk ho => (hg.block _ (blk_lt ho) (fun e => hk (Option.some.inj e))).trans ho
  exact ⟨far (by omega) h.g0, far (by omega) h.g2, far (by omega) h.g4, far (by omega) h.gD, ⟨es, clock, ho, hr⟩, h.bel.grown hg h.bel.size (fun k e => by cases e; omega)⟩
theorem grown_setBlock {X : World} {m : Nat} {es : Array MapEntry} {clock : Nat} (h : X.heap[m]? = some (.map es clock)) (o : Obj) : X.grownBy (setBlock X m o) (some m) :=
  ⟨rfl, rfl, rfl, by simp [setBlock], fun k hk hne => heap_setBlock_other h o (fun e => hne (congrArg some e))⟩
theorem grown_tr2 {X Y Z : World} {r : Option Nat} (h : X.grownBy Y r) (k : Y.grownBy Z r) : X.grownBy Z r :=
  ⟨k.os.trans h.os, k.tape.trans h.tape, k.output.trans h.output, Nat.le_trans h.size k.size, fun i hi hne => (k.block i (Nat.lt_of_lt_of_le hi h.size) hne).trans (h.block i hi hne)⟩
theorem grown_drew {X Y : World} {r : Option Nat} (h : X.drew.grownBy Y r) : X.grownBy Y r := ⟨h.os, h.tape, h.output, h.size, h.block⟩
theorem kpV_grown {n0 n1 m : Nat} {X Y : World} (hg : X.grownBy Y (some m)) (h0 : n0 ≤ m) (h1 : m < n1) (hX : n0 ≤ X.heap.size) : KpV n0 n1 X Y :=
  ⟨(Below.refl _ _).grown hg hX (fun k e => by cases e; exact h0), fun k o hk ho _ => (hg.block k (blk_lt ho) (fun e => by have := Option.some.inj e; omega)).trans ho⟩
theorem kpV_below {n0 n1 : Nat} {X Y : World} (hb : Below X.heap.size X Y) (hX : n0 ≤ X.heap.size) : KpV n0 n1 X Y := ⟨hb.mono hX, fun _ _ _ ho _ => blk_below ho hb⟩
/-- The frame of a round of the second loop. -/
def actB (w : World) (t : VN) (A4 A5 : Option Addr) (c4 c5 m : Nat) (x : Item w) (g : Nat) : Act := { tmps := #[.agg #[.int .i64 t.f0.f0, .int .i64 t.f0.f1, .string t.f1, .string t.f2, .slice A4 t.f3.length c4, .slice A5 t.f4.length c5], .pointer (some ⟨w.heap.size, 0, none⟩), .pointer (some ⟨w.heap.size + 1, 0, none⟩), .pointer (some ⟨w.heap.size + 1 + 1, 0, none⟩), .pointer (some ⟨m + 1, 0, none⟩), .int .i64 x.deep, .pointer (some ⟨g, 0, none⟩), undef, .agg #[.int .i64 t.f0.f0, .int .i64 t.f0.f1, .string t.f1, .string t.f2, .slice A4 t.f3.length c4, .slice A5 t.f4.length c5], .func (.func 38) #[] #[.pointer (some ⟨w.heap.size + 1 + 1 + 1, 0, none⟩)], undef, undef, undef, undef, undef, undef, .map (some m), .agg #[.int .i64 t.f0.f0, .int .i64 t.f0.f1, .string t.f1, .string t.f2, .slice A4 t.f3.length c4, .slice A5 t.f4.length c5], .func (.func 38) #[] #[.pointer (some ⟨m + 1 + 1, 0, none⟩)], .int .i64 x.deep, .agg x.cs, undef, undef, undef, undef, undef, undef, undef, undef, undef, undef, undef, undef, undef, undef, undef, undef, undef, undef, undef, undef, undef, undef, undef, undef, undef, undef, undef, undef, undef, undef, undef, undef, undef, undef, undef], defers := [] }
/-- The box of the node of a round. -/
def AtNode (w : World) (t : VN) (A4 A5 : Option Addr) (c4 c5 m B : Nat) (x : Item w) (a' : Act) (W : World) : Prop :=
  ∃ g a4 a5 d4 d5, B ≤ g ∧ W.heap[g]? = some (.cells #[.int .i64 x.t.f0.f0, .int .i64 x.t.f0.f1, .string x.t.f1, .string x.t.f2, .slice a4 x.t.f3.length d4, .slice a5 x.t.f4.length d5] 28 (0, 0)) ∧ R.k60.C w a4 x.t.f3.length x.t.f3 ∧ a' = actB w t A4 A5 c4 c5 m x g

/-- Between two rounds of the first loop. -/
structure MidA (w W1 : World) (t : VN) (A4 A5 : Option Addr) (c4 c5 : Nat) (many e : Nat) (W : World) : Prop where
  g0 : W.heap[w.heap.size]? = some (.cells #[.int .i64 t.f0.f0, .int .i64 t.f0.f1, .string t.f1, .string t.f2, .slice A4 t.f3.length c4, .slice A5 t.f4.length c5] 28 (0, 0))
  g2 : W.heap[w.heap.size + 1]? = some (.cells #[.int .i64 (e : Int)] 29 (0, 0))
  g3 : W.heap[w.heap.size + 1 + 1]? = some (.cells #[.int .i64 (many : Int)] 3 (0, 0))
  bel : Below w.heap.size w W
theorem MidA.grown {w W1 : World} {t : VN} {A4 A5 : Option Addr} {c4 c5 many e : Nat} {A B : World} {row : Option Nat} (h : MidA w W1 t A4 A5 c4 c5 many e A) (hg : A.grownBy B row) (hr : ∀ r, row = some r → W1.heap.size ≤ r ∧ ∃ o : Obj, A.heap[r]? = some o ∧ o.isCells = false) (hw : w.heap.size ≤ W1.heap.size) : MidA w W1 t A4 A5 c4 c5 many e B :=
  ⟨own_blk h.g0 hg hr, own_blk h.g2 hg hr, own_blk h.g3 hg hr, h.bel.grown hg h.bel.size (fun k e => Nat.le_trans hw (hr k e).1)⟩

set_option maxRecDepth 1000000 in
set_option maxHeartbeats 4000000 in
theorem check_in (n : Nat) (hn : 4 ≤ n) (t : VN) (A4 A5 : Option Addr) (c4 c5 : Nat) (w : World) (_hK : R.k28.K w t (#[.int .i64 t.f0.f0, .int .i64 t.f0.f1, .string t.f1, .string t.f2, .slice A4 t.f3.length c4, .slice A5 t.f4.length c5] : Array Value).toList)
    (xs : List (Item w)) (hxs : tell xs = flatD 0 t) (hW : ∀ n1, WalkSays Fence.wide w n1 #[.int .i64 t.f0.f0, .int .i64 t.f0.f1, .string t.f1, .string t.f2, .slice A4 t.f3.length c4, .slice A5 t.f4.length c5] 0 xs) :
    CallsIn Fence.wide n Tryz.prog 10 #[.agg #[.int .i64 t.f0.f0, .int .i64 t.f0.f1, .string t.f1, .string t.f2, .slice A4 t.f3.length c4, .slice A5 t.f4.length c5]] w fun e w' => e = .returned (.int .i64 (checkV t)) ∧ Below w.heap.size w w' := by
  have h1 : 1 ≤ n := by omega
  have G0 := blk_alloc (blk_alloc (blk_alloc (blk_new w (.cells #[.int .i64 t.f0.f0, .int .i64 t.f0.f1, .string t.f1, .string t.f2, .slice A4 t.f3.length c4, .slice A5 t.f4.length c5] 28)) (.cells #[.int .i64 0] 29)) (.cells #[.int .i64 0] 3)) (.cells #[.int .i64 t.f0.f0, .int .i64 t.f0.f1, .string t.f1, .string t.f2, .slice A4 t.f3.length c4, .slice A5 t.f4.length c5] 28)
  have G2 := blk_alloc (blk_alloc (blk_new (w.alloc (.cells #[.int .i64 t.f0.f0, .int .i64 t.f0.f1, .string t.f1, .string t.f2, .slice A4 t.f3.length c4, .slice A5 t.f4.length c5] 28)) (.cells #[.int .i64 0] 29)) (.cells #[.int .i64 0] 3)) (.cells #[.int .i64 t.f0.f0, .int .i64 t.f0.f1, .string t.f1, .string t.f2, .slice A4 t.f3.length c4, .slice A5 t.f4.length c5] 28)
  have G3 := blk_alloc (blk_new ((w.alloc (.cells #[.int .i64 t.f0.f0, .int .i64 t.f0.f1, .string t.f1, .string t.f2, .slice A4 t.f3.length c4, .slice A5 t.f4.length c5] 28)).alloc (.cells #[.int .i64 0] 29)) (.cells #[.int .i64 0] 3)) (.cells #[.int .i64 t.f0.f0, .int .i64 t.f0.f1, .string t.f1, .string t.f2, .slice A4 t.f3.length c4, .slice A5 t.f4.length c5] 28)
  have G4 := blk_new (((w.alloc (.cells #[.int .i64 t.f0.f0, .int .i64 t.f0.f1, .string t.f1, .string t.f2, .slice A4 t.f3.length c4, .slice A5 t.f4.length c5] 28)).alloc (.cells #[.int .i64 0] 29)).alloc (.cells #[.int .i64 0] 3)) (.cells #[.int .i64 t.f0.f0, .int .i64 t.f0.f1, .string t.f1, .string t.f2, .slice A4 t.f3.length c4, .slice A5 t.f4.length c5] 28)
  have hb1 : Below w.heap.size w ((((w.alloc (.cells #[.int .i64 t.f0.f0, .int .i64 t.f0.f1, .string t.f1, .string t.f2, .slice A4 t.f3.length c4, .slice A5 t.f4.length c5] 28)).alloc (.cells #[.int .i64 0] 29)).alloc (.cells #[.int .i64 0] 3)).alloc (.cells #[.int .i64 t.f0.f0, .int .i64 t.f0.f1, .string t.f1, .string t.f2, .slice A4 t.f3.length c4, .slice A5 t.f4.length c5] 28)) := below_alloc (below_alloc (below_alloc (below_alloc (Below.refl _ _) _) _) _) _
  have hsz1 : ((((w.alloc (.cells #[.int .i64 t.f0.f0, .int .i64 t.f0.f1, .string t.f1, .string t.f2, .slice A4 t.f3.length c4, .slice A5 t.f4.length c5] 28)).alloc (.cells #[.int .i64 0] 29)).alloc (.cells #[.int .i64 0] 3)).alloc (.cells #[.int .i64 t.f0.f0, .int .i64 t.f0.f1, .string t.f1, .string t.f2, .slice A4 t.f3.length c4, .slice A5 t.f4.length c5] 28)).heap.size = w.heap.size + 1 + 1 + 1 + 1 := by simp only [World.size_alloc]
  simp only [World.size_alloc] at G2 G3 G4
  refine callsIn_of_wp_marks Tryz.func10 rfl trivial ?_ rfl
  simp only [Tryz.ntmps10, List.size_toArray, List.length_cons, List.length_nil, Nat.reduceAdd, Nat.reduceSub, Array.replicate_succ, Array.replicate_zero, List.push_toArray, List.append_toArray, List.nil_append, List.cons_append]
  gi_wp2_with ((try refine ⟨trivial, ?_⟩); gi_at_call 17; refine (nodes_in Fence.wide (n - 1) trivial rfl _ _ _ _ _ _ _).mono ?_; rintro e w' ⟨rfl, rfl⟩)
  generalize hW1 : ((((w.alloc (.cells #[.int .i64 t.f0.f0, .int .i64 t.f0.f1, .string t.f1, .string t.f2, .slice A4 t.f3.length c4, .slice A5 t.f4.length c5] 28)).alloc (.cells #[.int .i64 0] 29)).alloc (.cells #[.int .i64 0] 3)).alloc (.cells #[.int .i64 t.f0.f0, .int .i64 t.f0.f1, .string t.f1, .string t.f2, .slice A4 t.f3.length c4, .slice A5 t.f4.length c5] 28)) = W1 at G0 G2 G3 G4 hb1 hsz1 ⊢
  clear hW1
  refine wpIn_rangeFunc_ownG rfl h1 (gf := 38) (lb := #[.pointer (some ⟨w.heap.size + 1 + 1 + 1, 0, none⟩)]) rfl trivial (enters_of Tryz.func38 (by kernel_rfl) rfl)
    (nodes_stops Fence.wide rfl (n - 1) trivial trivial rfl w W1.heap.size _ _ _ _ _ _ _ _ _ _ xs (hW W1.heap.size) (w.heap.size + 1 + 1 + 1) W1 hb1 (Nat.le_refl _) G4) KpV.trans (kpV_b hb1.size) (Below.refl _ _) (fun _ => rfl)
    (fun pre W => MidA w W1 t A4 A5 c4 c5 pre.length 0 W ∧ pre.length ≤ 8192) (fun c pre W => c = .ret ∧ MidA w W1 t A4 A5 c4 c5 pre.length 3 W ∧ pre.length = 8193)
    (fun s A B row hs hg hr => ⟨hs.1.grown hg hr hb1.size, hs.2⟩) (fun _ s A B row hs hg hr => ⟨hs.1, hs.2.1.grown hg hr hb1.size, hs.2.2⟩) ⟨⟨G0, G2, G3, hb1⟩, Nat.zero_le _⟩ (fun x => { tmps := #[.agg #[.int .i64 t.f0.f0, .int .i64 t.f0.f1, .string t.f1, .string t.f2, .slice A4 t.f3.length c4, .slice A5 t.f4.length c5], .pointer (some ⟨w.heap.size, 0, none⟩), .pointer (some ⟨w.heap.size + 1, 0, none⟩), .pointer (some ⟨w.heap.size + 1 + 1, 0, none⟩), undef, undef, undef, undef, .agg #[.int .i64 t.f0.f0, .int .i64 t.f0.f1, .string t.f1, .string t.f2, .slice A4 t.f3.length c4, .slice A5 t.f4.length c5], .func (.func 38) #[] #[.pointer (some ⟨w.heap.size + 1 + 1 + 1, 0, none⟩)], .int .i64 x.deep, .agg x.cs, undef, undef, undef, undef, undef, undef, undef, undef, undef, undef, undef, undef, undef, undef, undef, undef, undef, undef, undef, undef, undef, undef, undef, undef, undef, undef, undef, undef, undef, undef, undef, undef, undef, undef, undef, undef, undef, undef, undef, undef, undef, undef, undef, undef], defers := [] }) ?assign ?body ?done ?stop
  case assign =>
    intro l x W K hK
    dsimp only [encI]
    gi_wp2
    exact hK
  case body =>
    rintro l pre x W ⟨hM, hle⟩ hlt
    have c3 : W.cell? ⟨w.heap.size + 1 + 1, 0, none⟩ = some (.int .i64 (pre.length : Int)) := blk_cell hM.g3 0
    have f3 := blk_frozen hM.g3 0
    by_cases hmax : pre.length + 1 ≤ 8192
    · have d0 : ((8192 : Int) < (pre.length : Int) + 1) = False := eq_false (by omega)
      gi_wp2
      refine ⟨(KeepsOthers.setCell _ _ _).from _, kpV_set (by omega) (by omega) _ _ _, ⟨blk_far hM.g0 (show w.heap.size ≠ w.heap.size + 1 + 1 by omega) _, blk_far hM.g2 (show w.heap.size + 1 ≠ w.heap.size + 1 + 1 by omega) _, ?_, hM.bel.setCell (by show w.heap.size ≤ w.heap.size + 1 + 1; omega) _⟩, by rw [List.length_append, List.length_singleton]; omega⟩
      have := blk_set hM.g3 0 (.int .i64 ((pre.length : Int) + 1))
      rw [List.length_append, List.length_singleton]
      simpa using this
    · have d0 : ((8192 : Int) < (pre.length : Int) + 1) = True := eq_true (by omega)
      have c2 : W.cell? ⟨w.heap.size + 1, 0, none⟩ = some (.int .i64 (0 : Int)) := blk_cell hM.g2 0
      have f2 := blk_frozen hM.g2 0
      gi_wp2
      refine ⟨((KeepsOthers.setCell _ _ _).trans (KeepsOthers.setCell _ _ _)).from _, rfl, ⟨blk_far (blk_far hM.g0 (show w.heap.size ≠ w.heap.size + 1 + 1 by omega) _) (show w.heap.size ≠ w.heap.size + 1 by omega) _, ?_, ?_, (hM.bel.setCell (by show w.heap.size ≤ w.heap.size + 1 + 1; omega) _).setCell (by show w.heap.size ≤ w.heap.size + 1; omega) _⟩, by rw [List.length_append, List.length_singleton]; omega⟩
      · have := blk_set (blk_far hM.g2 (p := ⟨w.heap.size + 1 + 1, 0, none⟩) (show w.heap.size + 1 ≠ w.heap.size + 1 + 1 by omega) (.int .i64 ((pre.length : Int) + 1))) 0 (.int .i64 3)
        simpa using this
      · have := blk_far (blk_set hM.g3 0 (.int .i64 ((pre.length : Int) + 1))) (p := ⟨w.heap.size + 1, 0, none⟩) (show w.heap.size + 1 + 1 ≠ w.heap.size + 1 by omega) (.int .i64 3)
        rw [List.length_append, List.length_singleton]
        simpa using this
  case done =>
    rintro D ys W hD rfl ⟨hM, hle⟩ hKD
    have H0 := blk_alloc (blk_alloc hM.g0 (.map #[] 0)) (.cells #[.map (some W.heap.size)] 53)
    have t0 : ((W.alloc (.map #[] 0)).alloc (.cells #[.map (some W.heap.size)] 53)).cell? ⟨w.heap.size, 0, none⟩ = some (.int .i64 t.f0.f0) := blk_cell H0 0
    have t1 : ((W.alloc (.map #[] 0)).alloc (.cells #[.map (some W.heap.size)] 53)).cell? ⟨w.heap.size, 1, none⟩ = some (.int .i64 t.f0.f1) := blk_cell H0 1
    have t2 : ((W.alloc (.map #[] 0)).alloc (.cells #[.map (some W.heap.size)] 53)).cell? ⟨w.heap.size, 2, none⟩ = some (.string t.f1) := blk_cell H0 2
    have t3 : ((W.alloc (.map #[] 0)).alloc (.cells #[.map (some W.heap.size)] 53)).cell? ⟨w.heap.size, 3, none⟩ = some (.string t.f2) := blk_cell H0 3
    have t4 : ((W.alloc (.map #[] 0)).alloc (.cells #[.map (some W.heap.size)] 53)).cell? ⟨w.heap.size, 4, none⟩ = some (.slice A4 t.f3.length c4) := blk_cell H0 4
    have t5 : ((W.alloc (.map #[] 0)).alloc (.cells #[.map (some W.heap.size)] 53)).cell? ⟨w.heap.size, 5, none⟩ = some (.slice A5 t.f4.length c5) := blk_cell H0 5
    have hmm := @run_makeMap Tryz.prog
    gi_wp2_with ((try refine ⟨trivial, ?_⟩); gi_at_call 17; refine (nodes_in Fence.wide (n - 1) trivial rfl _ _ _ _ _ _ _).mono ?_; rintro e w' ⟨rfl, rfl⟩)
    have H5 := blk_new ((W.alloc (.map #[] 0)).alloc (.cells #[.map (some W.heap.size)] 53)) (.cells #[.int .i64 t.f0.f0, .int .i64 t.f0.f1, .string t.f1, .string t.f2, .slice A4 t.f3.length c4, .slice A5 t.f4.length c5] 28)
    simp only [World.size_alloc] at H5
    have hDlt := blk_lt hKD
    have hB2 : MidB w t A4 A5 c4 c5 D W.heap.size [] 0 (((W.alloc (.map #[] 0)).alloc (.cells #[.map (some W.heap.size)] 53)).alloc (.cells #[.int .i64 t.f0.f0, .int .i64 t.f0.f1, .string t.f1, .string t.f2, .slice A4 t.f3.length c4, .slice A5 t.f4.length c5] 28)) :=
      ⟨blk_alloc H0 _, blk_alloc (blk_alloc (blk_alloc hM.g2 _) _) _, blk_alloc (by have := blk_new (W.alloc (.map #[] 0)) (.cells #[.map (some W.heap.size)] 53); simpa only [World.size_alloc] using this) _, blk_alloc (blk_alloc (blk_alloc hKD _) _) _, ⟨#[], 0, blk_alloc (blk_alloc (blk_new W _) _) _, seenRaw_none⟩, below_alloc (below_alloc (below_alloc hM.bel _) _) _⟩
    have hsz2 : (((W.alloc (.map #[] 0)).alloc (.cells #[.map (some W.heap.size)] 53)).alloc (.cells #[.int .i64 t.f0.f0, .int .i64 t.f0.f1, .string t.f1, .string t.f2, .slice A4 t.f3.length c4, .slice A5 t.f4.length c5] 28)).heap.size = W.heap.size + 1 + 1 + 1 := by simp only [World.size_alloc]
    have hwW := hM.bel.size
    clear t0 t1 t2 t3 t4 t5 H0 hKD hM
    generalize (((W.alloc (.map #[] 0)).alloc (.cells #[.map (some W.heap.size)] 53)).alloc (.cells #[.int .i64 t.f0.f0, .int .i64 t.f0.f1, .string t.f1, .string t.f2, .slice A4 t.f3.length c4, .slice A5 t.f4.length c5] 28)) = W2 at H5 hB2 hsz2 ⊢
    generalize hm : W.heap.size = m at *
    refine wpIn_rangeFunc_ownH rfl h1 (gf := 38) (lb := #[.pointer (some ⟨m + 1 + 1, 0, none⟩)]) rfl trivial (enters_of Tryz.func38 (by kernel_rfl) rfl)
      (nodes_stops Fence.wide rfl (n - 1) trivial trivial rfl w W2.heap.size _ _ _ _ _ _ _ _ _ _ ys (hW W2.heap.size) (m + 1 + 1) W2 hB2.bel (Nat.le_refl _) H5) KpV.trans (kpV_b hB2.bel.size) (Below.refl _ _) (fun _ => rfl)
      (fun pre W => MidB w t A4 A5 c4 c5 D m ((tell pre).map keyP) 0 W ∧ checkL [] (tell pre) = 0 ∧ W2.heap.size ≤ W.heap.size) (fun c pre W => c = .ret ∧ ∃ S e, MidB w t A4 A5 c4 c5 D m S e W ∧ checkL [] (tell pre) = e ∧ e ≠ 0)
      (fun s A B row hs hg hr => ⟨hs.1.grown hg hr hB2.bel.size (by omega) (by omega), hs.2.1, Nat.le_trans hs.2.2 hg.size⟩) (fun _ s A B row hs hg hr => ⟨hs.1, by obtain ⟨S, e, h1, h2⟩ := hs.2; exact ⟨S, e, h1.grown hg hr hB2.bel.size (by omega) (by omega), h2⟩⟩) ⟨hB2, rfl, Nat.le_refl _⟩
      (AtNode w t A4 A5 c4 c5 m W2.heap.size) (fun x a' s A B row hs hg hr => by obtain ⟨g, a4, a5, d4, d5, h1, h2, h3, h4⟩ := hs; exact ⟨g, a4, a5, d4, d5, h1, own_blk h2 hg hr, h3, h4⟩) ?assign2 ?body2 ?done2 ?stop2
    case assign2 =>
      rintro l pre x W' K ⟨hM, hz, hWs⟩ hK
      obtain ⟨a4, d4, a5, d5, hcs, _, g4, _, _⟩ := R.k28_open x.lies
      have hcs : x.cs = #[.int .i64 x.t.f0.f0, .int .i64 x.t.f0.f1, .string x.t.f1, .string x.t.f2, .slice a4 x.t.f3.length d4, .slice a5 x.t.f4.length d5] := Array.toList_inj.1 hcs
      dsimp only [encI]
      rw [hcs]
      have hM2 := hM.grown (B := W2.heap.size) (World.grownBy_alloc W' (.cells #[.int .i64 x.t.f0.f0, .int .i64 x.t.f0.f1, .string x.t.f1, .string x.t.f2, .slice a4 x.t.f3.length d4, .slice a5 x.t.f4.length d5] 28) none) (fun r e => by cases e) hB2.bel.size (by omega) (by omega)
      have HCS := Lib.hid hcs
      clear hcs
      gi_wp2
      refine hK _ _ ((KeepsOthers.alloc _ _).from _) ((KpV.refl _ _ _).alloc hM.bel.size _) ⟨hM2, hz, by rw [World.size_alloc]; omega⟩ ⟨W'.heap.size, a4, a5, d4, d5, hWs, blk_new _ _, g4, by rw [actB, HCS.out]⟩
    case body2 =>
      rintro l pre x a' W' hl ⟨r, hr⟩ ⟨hM, hz, hWs⟩ ⟨g, a4, a5, d4, d5, hg, hG, hC, rfl⟩ hlt
      have hsn := checkL_snoc hz (x.deep, x.t)
      have hkok := keyOk_of x.t.f0.f0 x.t.f0.f1 x.fits.count x.fits.rep
      have k0 : W'.cell? ⟨g, 0, none⟩ = some (.int .i64 x.t.f0.f0) := blk_cell hG 0
      have k1 : W'.cell? ⟨g, 1, none⟩ = some (.int .i64 x.t.f0.f1) := blk_cell hG 1
      unfold actB
      by_cases hd0 : x.deep = 0
      · have e0 : (x.deep == 0) = true := by simpa using hd0
        gi_wp2_with fail
        refine ⟨trivial, fun _ => by omega, ?_⟩
        refine (CallsIn.inRound l (callsIn_wide.2 (node_any x.t.f0.f0 x.t.f0.f1 _))).mono ?_
        rintro e w3 ⟨rfl, hb3⟩
        have hM3 := hM.below hb3
        have hG3 := blk_below hG hb3
        cases hnd : nodeB x.t.f0.f0 x.t.f0.f1 with
        | false =>
          have hb3' : KeepsFrom W2.heap.size W' w3 := KeepsFrom.of_grownBy (grown_of_below0 hb3 none) (fun j e => by cases e)
          have p2 : w3.cell? ⟨w.heap.size + 1, 0, none⟩ = some (.int .i64 0) := blk_cell hM3.g2 0
          have q2 := blk_frozen hM3.g2 0
          have HSN := Lib.hid (hsn.trans (by rw [stepE, if_pos (by simp [hd0, hnd])]))
          clear hsn
          gi_wp2
          exact endB hM3 hb3' (by omega) (by omega) HSN.out (by decide)
        | true =>
          have hgood : ¬ ((decide (x.deep = 0) && !nodeB x.t.f0.f0 x.t.f0.f1 || decide (0 < x.deep) && !rightB x.t.f0.f0 x.t.f0.f1) = true) := by simp [hd0, hnd]
          have hb3' : KeepsFrom W2.heap.size W' w3 := KeepsFrom.of_grownBy (grown_of_below0 hb3 none) (fun j e => by cases e)
          have p4 : w3.cell? ⟨m + 1, 0, none⟩ = some (.map (some m)) := blk_cell hM3.g4 0
          have p2 : w3.cell? ⟨w.heap.size + 1, 0, none⟩ = some (.int .i64 0) := blk_cell hM3.g2 0
          have q2 := blk_frozen hM3.g2 0
          have k0 : w3.cell? ⟨g, 0, none⟩ = some (.int .i64 x.t.f0.f0) := blk_cell hG3 0
          have k1 : w3.cell? ⟨g, 1, none⟩ = some (.int .i64 x.t.f0.f1) := blk_cell hG3 1
          obtain ⟨es, clock, hms, hraw⟩ := hM3.seen
          have hlk := look_seen hraw hms (keyP (x.deep, x.t)) hkok
          rw [show keyV (keyP (x.deep, x.t)) = .agg #[.int .i64 x.t.f0.f0, .int .i64 x.t.f0.f1] from rfl] at hlk
          by_cases hin : keyP (x.deep, x.t) ∈ (tell pre).map keyP
          · rw [if_pos hin] at hlk
            have HSN := Lib.hid (hsn.trans (by rw [stepE, if_neg hgood, if_pos hin]))
            clear hsn
            gi_wp2
            refine ⟨trivial, ?_⟩
            gi_wp2
            exact endB hM3 hb3' (by omega) (by omega) HSN.out (by decide)
          · rw [if_neg hin] at hlk
            have hsn2 := hsn.trans (show stepE _ _ = nodeE x.t by rw [stepE, if_neg hgood, if_neg hin])
            have HSN := Lib.hid hsn2
            clear hsn hsn2
            have o1 : (w3.drew).heap[m]? = some (.map es clock) := hms
            have L0 := look_seen hraw o1 (keyP (x.deep, x.t)) hkok
            rw [if_neg hin] at L0
            have E0 := entry_seen hraw o1 (keyP (x.deep, x.t)) hkok hin
            have o2 := heap_setBlock_same o1 (.map (es.push ⟨keyV (keyP (x.deep, x.t)), .int .i64 0, clock⟩) (clock + 1))
            have L1 := look_entry hraw (keyP (x.deep, x.t)) hkok hin o2
            have S1 := store_seen hraw (keyP (x.deep, x.t)) o2 (.int .i64 (IntKind.i64.wrap 1))
            rw [show goInt clock = .int .i64 (clock : Int) from rfl] at S1
            rw [show keyV (keyP (x.deep, x.t)) = .agg #[.int .i64 x.t.f0.f0, .int .i64 x.t.f0.f1] from rfl] at L0 E0 L1 S1 o2
            have hgz := grown_drew (grown_tr2 (grown_setBlock o1 (.map (es.push ⟨.agg #[.int .i64 x.t.f0.f0, .int .i64 x.t.f0.f1], .int .i64 0, clock⟩) (clock + 1))) (grown_setBlock o2 (.map (es.push ⟨.agg #[.int .i64 x.t.f0.f0, .int .i64 x.t.f0.f1], .int .i64 (IntKind.i64.wrap 1), clock⟩) (clock + 1))))
            have o3 := heap_setBlock_same o2 (.map (es.push ⟨.agg #[.int .i64 x.t.f0.f0, .int .i64 x.t.f0.f1], .int .i64 (IntKind.i64.wrap 1), clock⟩) (clock + 1))
            have HZ := Lib.hid (And.intro hgz o3)
            clear hgz o3
            gi_wp2
            refine ⟨trivial, ?_⟩
            gi_wp2
            gi_region
            all_goals
              have HZ' := HZ.out
              clear HZ L0 E0 L1 S1 o1 o2
              generalize setBlock (setBlock w3.drew m (.map (es.push ⟨.agg #[.int .i64 x.t.f0.f0, .int .i64 x.t.f0.f1], .int .i64 0, clock⟩) (clock + 1))) m (.map (es.push ⟨.agg #[.int .i64 x.t.f0.f0, .int .i64 x.t.f0.f1], .int .i64 (IntKind.i64.wrap 1), clock⟩) (clock + 1)) = w5 at HZ' ⊢
              obtain ⟨hgz, o3⟩ := HZ'
              have hM5 := hM3.grownMap hgz o3 (hraw.push (keyP (x.deep, x.t)) hkok) (by omega) (by omega)
              have hk5 := hb3'.trans (KeepsFrom.of_grownBy (B := W2.heap.size) hgz (fun j e => by cases e; omega))
              have hv5 := (kpV_below (n0 := w.heap.size) (n1 := W2.heap.size) hb3 hM.bel.size).trans (kpV_grown hgz (by omega) (by omega) hM3.bel.size)
              have hG5 := (hgz.block g (blk_lt hG3) (fun e => by have := Option.some.inj e; omega)).trans hG3
              obtain ⟨⟨r0, r1, r2, r3, r4, r5⟩, _⟩ := cells6 hG5
              have hV := vnode_any x.t a4 a5 d4 d5 w5 (Kd.C_below hC hM5.bel) x.fits.tag x.fits.names
              clear k0 k1 p4 p2 q2 hlk hms
              gi_wp2_with fail
              refine ⟨trivial, fun _ => by omega, ?_⟩
              refine (CallsIn.inRound l (callsIn_wide.2 hV)).mono ?_
              clear hV r0 r1 r2 r3 r4 r5
              rintro e w6 ⟨rfl, hb6⟩
              have hM6 := hM5.below hb6
              have p2 : w6.cell? ⟨w.heap.size + 1, 0, none⟩ = some (.int .i64 0) := blk_cell hM6.g2 0
              have q2 := blk_frozen hM6.g2 0
              have hk6 := hk5.trans (KeepsFrom.of_grownBy (B := W2.heap.size) (grown_of_below0 hb6 none) (fun j e => by cases e))
              have hv6 := hv5.trans (kpV_below (n1 := W2.heap.size) hb6 hM5.bel.size)
              by_cases hne : nodeE x.t = 0
              · have e9 : (nodeE x.t == 0) = true := by simpa using hne
                gi_wp2
                exact ⟨hk6, hv6, by rw [tell_snoc, List.map_append]; exact hM6, by rw [tell_snoc, HSN.out, hne], Nat.le_trans hWs hv6.1.size⟩
              · have e9 : (nodeE x.t == 0) = false := by simpa using hne
                gi_wp2
                exact endB hM6 hk6 (by omega) (by omega) HSN.out hne
      · by_cases hd1 : 0 < x.deep
        · have e0 : (x.deep == 0) = false := by simpa using hd0
          have e1 : decide (0 < x.deep) = true := decide_eq_true hd1
          gi_wp2_with fail
          refine ⟨trivial, ?_⟩
          gi_wp2_with fail
          refine ⟨trivial, fun _ => by omega, ?_⟩
          refine (CallsIn.inRound l (callsIn_wide.2 (right_any x.t.f0.f0 x.t.f0.f1 _))).mono ?_
          rintro e w3 ⟨rfl, hb3⟩
          have hM3 := hM.below hb3
          have hG3 := blk_below hG hb3
          cases hnd : rightB x.t.f0.f0 x.t.f0.f1 with
          | false =>
            have hb3' : KeepsFrom W2.heap.size W' w3 := KeepsFrom.of_grownBy (grown_of_below0 hb3 none) (fun j e => by cases e)
            have p2 : w3.cell? ⟨w.heap.size + 1, 0, none⟩ = some (.int .i64 0) := blk_cell hM3.g2 0
            have q2 := blk_frozen hM3.g2 0
            have HSN := Lib.hid (hsn.trans (by rw [stepE, if_pos (by simp [hd0, hd1, hnd])]))
            clear hsn
            gi_wp2
            exact endB hM3 hb3' (by omega) (by omega) HSN.out (by decide)
          | true =>
            have hgood : ¬ ((decide (x.deep = 0) && !nodeB x.t.f0.f0 x.t.f0.f1 || decide (0 < x.deep) && !rightB x.t.f0.f0 x.t.f0.f1) = true) := by simp [hd0, hd1, hnd]
            have hb3' : KeepsFrom W2.heap.size W' w3 := KeepsFrom.of_grownBy (grown_of_below0 hb3 none) (fun j e => by cases e)
            have p4 : w3.cell? ⟨m + 1, 0, none⟩ = some (.map (some m)) := blk_cell hM3.g4 0
            have p2 : w3.cell? ⟨w.heap.size + 1, 0, none⟩ = some (.int .i64 0) := blk_cell hM3.g2 0
            have q2 := blk_frozen hM3.g2 0
            have k0 : w3.cell? ⟨g, 0, none⟩ = some (.int .i64 x.t.f0.f0) := blk_cell hG3 0
            have k1 : w3.cell? ⟨g, 1, none⟩ = some (.int .i64 x.t.f0.f1) := blk_cell hG3 1
            obtain ⟨es, clock, hms, hraw⟩ := hM3.seen
            have hlk := look_seen hraw hms (keyP (x.deep, x.t)) hkok
            rw [show keyV (keyP (x.deep, x.t)) = .agg #[.int .i64 x.t.f0.f0, .int .i64 x.t.f0.f1] from rfl] at hlk
            by_cases hin : keyP (x.deep, x.t) ∈ (tell pre).map keyP
            · rw [if_pos hin] at hlk
              have HSN := Lib.hid (hsn.trans (by rw [stepE, if_neg hgood, if_pos hin]))
              clear hsn
              gi_wp2
              exact endB hM3 hb3' (by omega) (by omega) HSN.out (by decide)
            · rw [if_neg hin] at hlk
              have hsn2 := hsn.trans (show stepE _ _ = nodeE x.t by rw [stepE, if_neg hgood, if_neg hin])
              have HSN := Lib.hid hsn2
              clear hsn hsn2
              have o1 : (w3.drew).heap[m]? = some (.map es clock) := hms
              have L0 := look_seen hraw o1 (keyP (x.deep, x.t)) hkok
              rw [if_neg hin] at L0
              have E0 := entry_seen hraw o1 (keyP (x.deep, x.t)) hkok hin
              have o2 := heap_setBlock_same o1 (.map (es.push ⟨keyV (keyP (x.deep, x.t)), .int .i64 0, clock⟩) (clock + 1))
              have L1 := look_entry hraw (keyP (x.deep, x.t)) hkok hin o2
              have S1 := store_seen hraw (keyP (x.deep, x.t)) o2 (.int .i64 (IntKind.i64.wrap 1))
              rw [show goInt clock = .int .i64 (clock : Int) from rfl] at S1
              rw [show keyV (keyP (x.deep, x.t)) = .agg #[.int .i64 x.t.f0.f0, .int .i64 x.t.f0.f1] from rfl] at L0 E0 L1 S1 o2
              have hgz := grown_drew (grown_tr2 (grown_setBlock o1 (.map (es.push ⟨.agg #[.int .i64 x.t.f0.f0, .int .i64 x.t.f0.f1], .int .i64 0, clock⟩) (clock + 1))) (grown_setBlock o2 (.map (es.push ⟨.agg #[.int .i64 x.t.f0.f0, .int .i64 x.t.f0.f1], .int .i64 (IntKind.i64.wrap 1), clock⟩) (clock + 1))))
              have o3 := heap_setBlock_same o2 (.map (es.push ⟨.agg #[.int .i64 x.t.f0.f0, .int .i64 x.t.f0.f1], .int .i64 (IntKind.i64.wrap 1), clock⟩) (clock + 1))
              have HZ := Lib.hid (And.intro hgz o3)
              clear hgz o3
              gi_wp2
              gi_region
              all_goals
                have HZ' := HZ.out
                clear HZ L0 E0 L1 S1 o1 o2
                generalize setBlock (setBlock w3.drew m (.map (es.push ⟨.agg #[.int .i64 x.t.f0.f0, .int .i64 x.t.f0.f1], .int .i64 0, clock⟩) (clock + 1))) m (.map (es.push ⟨.agg #[.int .i64 x.t.f0.f0, .int .i64 x.t.f0.f1], .int .i64 (IntKind.i64.wrap 1), clock⟩) (clock + 1)) = w5 at HZ' ⊢
                obtain ⟨hgz, o3⟩ := HZ'
                have hM5 := hM3.grownMap hgz o3 (hraw.push (keyP (x.deep, x.t)) hkok) (by omega) (by omega)
                have hk5 := hb3'.trans (KeepsFrom.of_grownBy (B := W2.heap.size) hgz (fun j e => by cases e; omega))
                have hv5 := (kpV_below (n0 := w.heap.size) (n1 := W2.heap.size) hb3 hM.bel.size).trans (kpV_grown hgz (by omega) (by omega) hM3.bel.size)
                have hG5 := (hgz.block g (blk_lt hG3) (fun e => by have := Option.some.inj e; omega)).trans hG3
                obtain ⟨⟨r0, r1, r2, r3, r4, r5⟩, _⟩ := cells6 hG5
                have hV := vnode_any x.t a4 a5 d4 d5 w5 (Kd.C_below hC hM5.bel) x.fits.tag x.fits.names
                clear k0 k1 p4 p2 q2 hlk hms
                gi_wp2_with fail
                refine ⟨trivial, fun _ => by omega, ?_⟩
                refine (CallsIn.inRound l (callsIn_wide.2 hV)).mono ?_
                clear hV r0 r1 r2 r3 r4 r5
                rintro e w6 ⟨rfl, hb6⟩
                have hM6 := hM5.below hb6
                have p2 : w6.cell? ⟨w.heap.size + 1, 0, none⟩ = some (.int .i64 0) := blk_cell hM6.g2 0
                have q2 := blk_frozen hM6.g2 0
                have hk6 := hk5.trans (KeepsFrom.of_grownBy (B := W2.heap.size) (grown_of_below0 hb6 none) (fun j e => by cases e))
                have hv6 := hv5.trans (kpV_below (n1 := W2.heap.size) hb6 hM5.bel.size)
                by_cases hne : nodeE x.t = 0
                · have e9 : (nodeE x.t == 0) = true := by simpa using hne
                  gi_wp2
                  exact ⟨hk6, hv6, by rw [tell_snoc, List.map_append]; exact hM6, by rw [tell_snoc, HSN.out, hne], Nat.le_trans hWs hv6.1.size⟩
                · have e9 : (nodeE x.t == 0) = false := by simpa using hne
                  gi_wp2
                  exact endB hM6 hk6 (by omega) (by omega) HSN.out hne
        · have e0 : (x.deep == 0) = false := by simpa using hd0
          have hgood : ¬ ((decide (x.deep = 0) && !nodeB x.t.f0.f0 x.t.f0.f1 || decide (0 < x.deep) && !rightB x.t.f0.f0 x.t.f0.f1) = true) := by simp [hd0, hd1]
          have e1 : decide (0 < x.deep) = false := decide_eq_false hd1
          have hb3 := Below.refl W'.heap.size W'
          have hb3' : KeepsFrom W2.heap.size W' W' := KeepsFrom.of_grownBy (grown_of_below0 hb3 none) (fun j e => by cases e)
          have p4 : W'.cell? ⟨m + 1, 0, none⟩ = some (.map (some m)) := blk_cell hM.g4 0
          have p2 : W'.cell? ⟨w.heap.size + 1, 0, none⟩ = some (.int .i64 0) := blk_cell hM.g2 0
          have q2 := blk_frozen hM.g2 0
          have k0 : W'.cell? ⟨g, 0, none⟩ = some (.int .i64 x.t.f0.f0) := blk_cell hG 0
          have k1 : W'.cell? ⟨g, 1, none⟩ = some (.int .i64 x.t.f0.f1) := blk_cell hG 1
          obtain ⟨es, clock, hms, hraw⟩ := hM.seen
          have hlk := look_seen hraw hms (keyP (x.deep, x.t)) hkok
          rw [show keyV (keyP (x.deep, x.t)) = .agg #[.int .i64 x.t.f0.f0, .int .i64 x.t.f0.f1] from rfl] at hlk
          by_cases hin : keyP (x.deep, x.t) ∈ (tell pre).map keyP
          · rw [if_pos hin] at hlk
            have HSN := Lib.hid (hsn.trans (by rw [stepE, if_neg hgood, if_pos hin]))
            clear hsn
            gi_wp2
            refine ⟨trivial, ?_⟩
            gi_wp2
            refine ⟨trivial, ?_⟩
            gi_wp2
            exact endB hM hb3' (by omega) (by omega) HSN.out (by decide)
          · rw [if_neg hin] at hlk
            have hsn2 := hsn.trans (show stepE _ _ = nodeE x.t by rw [stepE, if_neg hgood, if_neg hin])
            have HSN := Lib.hid hsn2
            clear hsn hsn2
            have o1 : (W'.drew).heap[m]? = some (.map es clock) := hms
            have L0 := look_seen hraw o1 (keyP (x.deep, x.t)) hkok
            rw [if_neg hin] at L0
            have E0 := entry_seen hraw o1 (keyP (x.deep, x.t)) hkok hin
            have o2 := heap_setBlock_same o1 (.map (es.push ⟨keyV (keyP (x.deep, x.t)), .int .i64 0, clock⟩) (clock + 1))
            have L1 := look_entry hraw (keyP (x.deep, x.t)) hkok hin o2
            have S1 := store_seen hraw (keyP (x.deep, x.t)) o2 (.int .i64 (IntKind.i64.wrap 1))
            rw [show goInt clock = .int .i64 (clock : Int) from rfl] at S1
            rw [show keyV (keyP (x.deep, x.t)) = .agg #[.int .i64 x.t.f0.f0, .int .i64 x.t.f0.f1] from rfl] at L0 E0 L1 S1 o2
            have hgz := grown_drew (grown_tr2 (grown_setBlock o1 (.map (es.push ⟨.agg #[.int .i64 x.t.f0.f0, .int .i64 x.t.f0.f1], .int .i64 0, clock⟩) (clock + 1))) (grown_setBlock o2 (.map (es.push ⟨.agg #[.int .i64 x.t.f0.f0, .int .i64 x.t.f0.f1], .int .i64 (IntKind.i64.wrap 1), clock⟩) (clock + 1))))
            have o3 := heap_setBlock_same o2 (.map (es.push ⟨.agg #[.int .i64 x.t.f0.f0, .int .i64 x.t.f0.f1], .int .i64 (IntKind.i64.wrap 1), clock⟩) (clock + 1))
            have HZ := Lib.hid (And.intro hgz o3)
            clear hgz o3
            gi_wp2
            refine ⟨trivial, ?_⟩
            gi_wp2
            refine ⟨trivial, ?_⟩
            gi_wp2
            gi_region
            all_goals
              have HZ' := HZ.out
              clear HZ L0 E0 L1 S1 o1 o2
              generalize setBlock (setBlock W'.drew m (.map (es.push ⟨.agg #[.int .i64 x.t.f0.f0, .int .i64 x.t.f0.f1], .int .i64 0, clock⟩) (clock + 1))) m (.map (es.push ⟨.agg #[.int .i64 x.t.f0.f0, .int .i64 x.t.f0.f1], .int .i64 (IntKind.i64.wrap 1), clock⟩) (clock + 1)) = w5 at HZ' ⊢
              obtain ⟨hgz, o3⟩ := HZ'
              have hM5 := hM.grownMap hgz o3 (hraw.push (keyP (x.deep, x.t)) hkok) (by omega) (by omega)
              have hk5 := hb3'.trans (KeepsFrom.of_grownBy (B := W2.heap.size) hgz (fun j e => by cases e; omega))
              have hv5 := (kpV_below (n0 := w.heap.size) (n1 := W2.heap.size) hb3 hM.bel.size).trans (kpV_grown hgz (by omega) (by omega) hM.bel.size)
              have hG5 := (hgz.block g (blk_lt hG) (fun e => by have := Option.some.inj e; omega)).trans hG
              obtain ⟨⟨r0, r1, r2, r3, r4, r5⟩, _⟩ := cells6 hG5
              have hV := vnode_any x.t a4 a5 d4 d5 w5 (Kd.C_below hC hM5.bel) x.fits.tag x.fits.names
              clear k0 k1 p4 p2 q2 hlk hms
              gi_wp2_with fail
              refine ⟨trivial, fun _ => by omega, ?_⟩
              refine (CallsIn.inRound l (callsIn_wide.2 hV)).mono ?_
              clear hV r0 r1 r2 r3 r4 r5
              rintro e w6 ⟨rfl, hb6⟩
              have hM6 := hM5.below hb6
              have p2 : w6.cell? ⟨w.heap.size + 1, 0, none⟩ = some (.int .i64 0) := blk_cell hM6.g2 0
              have q2 := blk_frozen hM6.g2 0
              have hk6 := hk5.trans (KeepsFrom.of_grownBy (B := W2.heap.size) (grown_of_below0 hb6 none) (fun j e => by cases e))
              have hv6 := hv5.trans (kpV_below (n1 := W2.heap.size) hb6 hM5.bel.size)
              by_cases hne : nodeE x.t = 0
              · have e9 : (nodeE x.t == 0) = true := by simpa using hne
                gi_wp2
                exact ⟨hk6, hv6, by rw [tell_snoc, List.map_append]; exact hM6, by rw [tell_snoc, HSN.out, hne], Nat.le_trans hWs hv6.1.size⟩
              · have e9 : (nodeE x.t == 0) = false := by simpa using hne
                gi_wp2
                exact endB hM6 hk6 (by omega) (by omega) HSN.out hne
    case done2 =>
      rintro D2 zs Z hD2 rfl ⟨hM, hz, hs⟩ hK2
      have p2 : Z.cell? ⟨w.heap.size + 1, 0, none⟩ = some (.int .i64 0) := blk_cell hM.g2 0
      have q2 := blk_frozen hM.g2 0
      have hKs : (Z.setCell ⟨w.heap.size + 1, 0, none⟩ (.int .i64 0)).heap[D2]? = some (.deferred (some [])) := (Below.heap_setCell _ _ _ _ (by show D2 ≠ w.heap.size + 1; omega)).trans hK2
      have hMs := hM.setE 0 (by omega) (by omega)
      have hMt := hMs.grown (B := W2.heap.size) (grownBy_putObj' _ D2 (.deferred none)) (fun r e => by cases e; exact ⟨hD2, _, hKs, rfl⟩) hB2.bel.size (by omega) (by omega)
      have h2 := grown_cells hMt.g2 (grownBy_putObj' _ D (.deferred none)) hMt.gD rfl
      gi_wp2
      refine ⟨by simp, .inl ⟨_, _, rfl, run_takeDeferred hKs, ?_⟩⟩
      refine ⟨by simp, .inl ⟨_, _, rfl, run_takeDeferred hMt.gD, ?_⟩⟩
      refine ⟨_, results_cell34 _ _ _ h2, ?_, hMt.bel.grown (grownBy_putObj' _ D (.deferred none)) hMt.bel.size (fun k e => by cases e; omega)⟩
      rw [checkV, if_neg (by rw [← hxs]; unfold tell; rw [List.length_map]; omega), ← hxs, hz]
    case stop2 =>
      rintro D2 c pre Z hD2 hpre ⟨rfl, S, e, hM, hz, hne⟩ hK2
      have hMt := hM.grown (B := W2.heap.size) (grownBy_putObj' _ D2 (.deferred none)) (fun r e => by cases e; exact ⟨hD2, _, hK2, rfl⟩) hB2.bel.size (by omega) (by omega)
      gi_wp2
      refine ⟨by simp, .inl ⟨_, _, rfl, run_takeDeferred hK2, ?_⟩⟩
      refine ⟨by simp, .inl ⟨_, _, rfl, run_takeDeferred hMt.gD, ?_⟩⟩
      have h2 := grown_cells hMt.g2 (grownBy_putObj' _ D (.deferred none)) hMt.gD rfl
      refine ⟨_, results_cell34 _ _ _ h2, ?_, hMt.bel.grown (grownBy_putObj' _ D (.deferred none)) hMt.bel.size (fun k e => by cases e; omega)⟩
      have hp2 : tell pre <+: flatD 0 t := by
        rw [← hxs]
        obtain ⟨q, rfl⟩ := hpre
        exact ⟨tell q, by simp [tell]⟩
      rw [checkV, if_neg (by rw [← hxs]; unfold tell; rw [List.length_map]; omega), checkL_pre hp2 (by rw [hz]; exact hne), hz]
  case stop =>
    rintro D c pre W hD hpre ⟨rfl, hM, hle⟩ hKD
    gi_wp2
    refine ⟨by simp, .inl ⟨_, _, rfl, run_takeDeferred hKD, ?_⟩⟩
    have hlen : (flatD 0 t).length = xs.length := by rw [← hxs]; exact List.length_map ..
    have hpl := hpre.length_le
    have h2 := grown_cells hM.g2 (grownBy_putObj' W D (.deferred none)) hKD rfl
    refine ⟨_, results_cell34 _ _ _ h2, ?_, hM.bel.grown (grownBy_putObj' W D (.deferred none)) hM.bel.size (fun k e => by cases e; omega)⟩
    rw [checkV, if_pos (by omega)]
    rfl

theorem check_any (t : VN) (cs : Array Value) (w : World) (hK : R.k28.K w t cs.toList) (hF : ∀ p ∈ flatD 0 t, Fits p.2) :
    Calls Tryz.prog 10 #[.agg cs] w fun e w' => e = .returned (.int .i64 (checkV t)) ∧ Below w.heap.size w w' := by
  obtain ⟨A4, c4, A5, c5, hcs, _, _, _, _⟩ := R.k28_open hK
  obtain rfl : cs = #[.int .i64 t.f0.f0, .int .i64 t.f0.f1, .string t.f1, .string t.f2, .slice A4 t.f3.length c4, .slice A5 t.f4.length c5] := Array.toList_inj.1 hcs
  obtain ⟨xs, h1, h2⟩ := walk_in Fence.wide rfl trivial rfl w _ t (Nat.le_refl _) 0 hF _ hK
  exact (callsIn_wide (n := 4)).1 (check_in 4 (Nat.le_refl _) t A4 A5 c4 c5 w hK xs h1 h2)

end Go.Proofs.YtfpldbobfjkkfaaGreatDoor
