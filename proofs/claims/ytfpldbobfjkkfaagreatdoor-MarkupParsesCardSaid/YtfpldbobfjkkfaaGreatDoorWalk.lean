/- The walk over a tree (vtree.walk, vtree.nodes) as an iterator: its contract by induction on the tree. -/
import Derived.RangeFuncNested
import Derived.RangeFuncBound
import Derived.RangeFuncCalls
import Derived.RangeFuncLeaves
import Derived.Shelf.Abstract
import Derived.Shelf.RegionOpen
import Derived.WalkKit
import Derived.OwnWalkIn
import Derived.TacticsInMore
import Derived.LoopNIn
import Derived.LoopIn
import Derived.Test.YtfpldbobfjkkfaaGreatDoorRead
namespace Go.Proofs.YtfpldbobfjkkfaaGreatDoor
open Go.RowKit Go.Shelf Go.Proofs Go.Proofs.YtfpldbobfjkkfaaGreatDoorW.PrintWords Go.Proofs.YtfpldbobfjkkfaaGreatDoorW.PrintLast
attribute [local go_sem] Oper.semAt_some
set_option linter.unusedSimpArgs false

mutual
/-- A tree's nodes in its order, each with its depth as the machine counts it. -/
def flatD : Int → VN → List (Int × VN)
  | d, ⟨k, tg, tx, at_, ks⟩ => (d, ⟨k, tg, tx, at_, ks⟩) :: flatDs (wrap64 (d + 1)) ks
def flatDs : Int → List VN → List (Int × VN)
  | _, [] => []
  | d, k :: r => flatD d k ++ flatDs d r
end
theorem flatD_eq (d : Int) (t : VN) : flatD d t = (d, t) :: flatDs (wrap64 (d + 1)) t.f4 := by
  obtain ⟨k, tg, tx, at_, ks⟩ := t
  rw [flatD]
theorem flatDs_eq (d : Int) (ks : List VN) : flatDs d ks = ks.flatMap (flatD d) := by
  induction ks with
  | nil => rw [flatDs]; rfl
  | cons k r ih => rw [flatDs, ih]; rfl
theorem range_get {α β : Type} (z : α) (f : α → List β) (xs : List α) : xs.flatMap f = (List.range xs.length).flatMap (fun i => f (xs.getD i z)) := by
  induction xs with
  | nil => rfl
  | cons x r ih =>
    rw [List.flatMap_cons, List.length_cons, List.range_succ_eq_map, List.flatMap_cons, ih]
    simp [List.flatMap_map]

theorem room_of_none {F : Fence} (hd : F.depth = none) (k : Nat) : F.room k := fun d h => by rw [hd] at h; cases h
theorem roundIn_any {F : Fence} (hd : F.depth = none) {m m' : Nat} {P : Program} {l : Nat} {f : FuncId} {tmps : Array Value} {assign body : Code} {w : World} {R : Ending → World → Prop}
    (h : RoundIn F m P l f tmps assign body w R) : RoundIn F m' P l f tmps assign body w R := ⟨h.1, fun c cs _ => h.2 c cs (room_of_none hd _)⟩
theorem yieldAt_any {F : Fence} (hd : F.depth = none) {m : Nat} (m' : Nat) {P : Program} {l : Nat} {args : Array Value} {W : World} {R : Ending → World → Prop} (h : YieldAt F m P l args W R) : YieldAt F m' P l args W R := by
  obtain ⟨fn, tmps, assign, body, hy, hR⟩ := h
  exact ⟨fn, tmps, assign, body, hy, roundIn_any hd hR⟩

/-- A node's own parts are of a size that the machine can have. -/
structure Fits (n : VN) : Prop where
  kids : n.f4.length ≤ 9000000000000000000
  tag : n.f1.size ≤ 9000000000000000000
  names : ∀ a ∈ n.f3, a.f0.size ≤ 9000000000000000000
  count : (Lit.int .i64 n.f0.f0).wf = true
  rep : (Lit.int .i64 n.f0.f1).wf = true

/-- What a round is handed: a depth, and a node that lies in w0. -/
structure Item (w0 : World) where
  deep : Int
  t : VN
  cs : Array Value
  lies : R.k28.K w0 t cs.toList
  fits : Fits t
def encI {w0 : World} (x : Item w0) : Array Value := #[.int .i64 x.deep, .agg x.cs]
def tell {w0 : World} (xs : List (Item w0)) : List (Int × VN) := xs.map fun x => (x.deep, x.t)

theorem size_kid {t k : VN} (h : k ∈ t.f4) : SizeOf.sizeOf k < SizeOf.sizeOf t := by
  obtain ⟨a, b, c, d, e⟩ := t
  have := List.sizeOf_lt_of_mem h
  simp only [R.S28.mk.sizeOf_spec]
  dsimp only at this
  omega

/-- What an own step (new blocks alone) leaves of J. -/
theorem abides_new {β : Type} {B : Nat} {J : β → World → Prop} (h : AbidesFrom B J) {s : β} {W : World} (hs : J s W) (o : Obj) : J s (W.alloc o) := h s W _ none hs (World.grownBy_alloc W o none) (fun r e => by cases e)

/-- What a round keeps: whatever lies below n0, and the cells that were laid from n1 on. -/
def KpV (n0 n1 : Nat) (W W' : World) : Prop := Below n0 W W' ∧ ∀ k o, n1 ≤ k → W.heap[k]? = some o → o.isCells = true → W'.heap[k]? = some o
theorem KpV.trans {n0 n1 : Nat} {A B C : World} (h : KpV n0 n1 A B) (k : KpV n0 n1 B C) : KpV n0 n1 A C :=
  ⟨h.1.trans k.1, fun i o hi ho hc => k.2 i o hi (h.2 i o hi ho hc) hc⟩
theorem KpV.refl (n0 n1 : Nat) (A : World) : KpV n0 n1 A A := ⟨Below.refl _ _, fun _ _ _ h _ => h⟩
theorem KpV.alloc {n0 n1 : Nat} {A B : World} (h : KpV n0 n1 A B) (hn : n0 ≤ B.heap.size) (o : Obj) : KpV n0 n1 A (B.alloc o) :=
  ⟨h.1.alloc hn o, fun i x hi hx hc => blk_alloc (h.2 i x hi hx hc) o⟩
theorem kpV_b {n0 n1 : Nat} {w : World} (hn : n0 ≤ w.heap.size) (W : World) (l : Nat) (o o' : Obj) (hl : w.heap.size ≤ l) (h : W.heap[l]? = some o) (hc : o.isCells = false) (hw : o.isWalk = false) : KpV n0 n1 W (W.putObj l o') :=
  ⟨belowK_b hn W l o o' hl h hc hw, fun i x hi hx hxc => by
    have hne : i ≠ l := fun e => by subst e; rw [h] at hx; cases hx; rw [hc] at hxc; cases hxc
    exact ((grownBy_putObj' W l o').block i (blk_lt hx) (fun e => hne (Option.some.inj e))).trans hx⟩

theorem upto_succ {α : Type} (f : Nat → List α) (k : Nat) : (List.range (k + 1)).flatMap f = (List.range k).flatMap f ++ f k := by
  rw [List.range_succ, List.flatMap_append]
  simp
theorem upto_pre {α : Type} (f : Nat → List α) {k n : Nat} (h : k < n) : (List.range k).flatMap f ++ f k <+: (List.range n).flatMap f := by
  rw [← upto_succ]
  obtain ⟨d, rfl⟩ : ∃ d, n = k + 1 + d := ⟨n - (k + 1), by omega⟩
  induction d with
  | zero => exact List.prefix_refl _
  | succ d ih =>
    refine (ih (by omega)).trans ?_
    rw [show k + 1 + (d + 1) = (k + 1 + d) + 1 from rfl, upto_succ f (k + 1 + d)]
    exact List.prefix_append _ _
theorem upto_len {α : Type} (f : Nat → List α) {k n : Nat} (h : k < n) : ((List.range k).flatMap f).length + (f k).length ≤ ((List.range n).flatMap f).length := by
  have := (upto_pre f h).length_le
  rwa [List.length_append] at this

/-- What walk does at a tree whose nodes are xs: for every loop body that keeps what KpV says. -/
def WalkSays (F : Fence) (w0 : World) (n1 : Nat) (cs : Array Value) (deep : Int) (xs : List (Item w0)) : Prop :=
  ∀ (l N B : Nat) (J Jx : List (Item w0) → World → Prop), AbidesFrom B J →
    (∀ m pre x W, J pre W → pre.length < N → YieldAt F m Tryz.prog l (encI x) W fun e W' =>
      (e = .returned (.bool true) ∧ J (pre ++ [x]) W' ∧ KpV w0.heap.size n1 W W') ∨ (e = .returned (.bool false) ∧ Jx (pre ++ [x]) W')) →
    ∀ (n : Nat) (pre : List (Item w0)) (W : World), Below w0.heap.size w0 W → n1 ≤ W.heap.size → J pre W → pre.length + xs.length ≤ N →
      CallsIn F n Tryz.prog 39 #[.agg cs, .int .i64 deep, .func (.yield l) #[] #[]] W fun e W' =>
        (e = .returned (.bool true) ∧ J (pre ++ xs) W' ∧ KpV w0.heap.size n1 W W') ∨ (e = .returned (.bool false) ∧ ∃ q, q <+: xs ∧ Jx (pre ++ q) W')

/-- One kid of a row, as it lies in w0. -/
def KidAt (F : Fence) (w0 : World) (A5 : Option Addr) (ks : List VN) (deep : Int) (i : Nat) (xs : List (Item w0)) : Prop :=
  tell xs = flatD deep (R.rd_T28 ks i) ∧ ∃ ad a4 d4 a5 d5, A5 = some ad ∧
    (w0.cell? (ad.add (i * 6)) = some (.int .i64 (R.rd_T28 ks i).f0.f0) ∧ w0.cell? ⟨(ad.add (i * 6)).block, (ad.add (i * 6)).off + 1, none⟩ = some (.int .i64 (R.rd_T28 ks i).f0.f1) ∧ w0.cell? ⟨(ad.add (i * 6)).block, (ad.add (i * 6)).off + 2, none⟩ = some (.string (R.rd_T28 ks i).f1) ∧ w0.cell? ⟨(ad.add (i * 6)).block, (ad.add (i * 6)).off + 3, none⟩ = some (.string (R.rd_T28 ks i).f2) ∧ w0.cell? ⟨(ad.add (i * 6)).block, (ad.add (i * 6)).off + 4, none⟩ = some (.slice a4 (R.rd_T28 ks i).f3.length d4) ∧ w0.cell? ⟨(ad.add (i * 6)).block, (ad.add (i * 6)).off + 5, none⟩ = some (.slice a5 (R.rd_T28 ks i).f4.length d5)) ∧
    ∀ n1, WalkSays F w0 n1 #[.int .i64 (R.rd_T28 ks i).f0.f0, .int .i64 (R.rd_T28 ks i).f0.f1, .string (R.rd_T28 ks i).f1, .string (R.rd_T28 ks i).f2, .slice a4 (R.rd_T28 ks i).f3.length d4, .slice a5 (R.rd_T28 ks i).f4.length d5] deep xs

theorem cell_lt {w : World} {a : Addr} {v : Value} (h : w.cell? a = some v) : a.block < w.heap.size := by
  unfold World.cell? at h
  cases hq : w.heap[a.block]? with
  | none => simp [hq] at h
  | some o => exact blk_lt hq
theorem cell_keep {w w' : World} (hb : Below w.heap.size w w') {a : Addr} {v : Value} (h : w.cell? a = some v) : w'.cell? a = some v := (hb.cell (cell_lt h)).trans h

set_option maxRecDepth 1000000 in
set_option maxHeartbeats 4000000 in
/-- The walk of the node and of the loop over its kids. -/
theorem walk_step (F : Fence) (hd : F.depth = none) (h70 : F.fn 39) (hro : F.round = none) (w0 : World) (n1 : Nat) (t : VN) (hfit : Fits t) (A4 : Option Addr) (c4 : Nat) (A5 : Option Addr) (c5 : Nat) (deep : Int)
    (hK : R.k28.K w0 t (#[.int .i64 t.f0.f0, .int .i64 t.f0.f1, .string t.f1, .string t.f2, .slice A4 t.f3.length c4, .slice A5 t.f4.length c5] : Array Value).toList) (ith : Nat → List (Item w0))
    (kid : ∀ i, i < t.f4.length → KidAt F w0 A5 t.f4 (wrap64 (deep + 1)) i (ith i)) :
    WalkSays F w0 n1 #[.int .i64 t.f0.f0, .int .i64 t.f0.f1, .string t.f1, .string t.f2, .slice A4 t.f3.length c4, .slice A5 t.f4.length c5] deep (⟨deep, t, #[.int .i64 t.f0.f0, .int .i64 t.f0.f1, .string t.f1, .string t.f2, .slice A4 t.f3.length c4, .slice A5 t.f4.length c5], hK, hfit⟩ :: (List.range t.f4.length).flatMap ith) := by
  intro l N B J Jx hJ hY n pre W hbW hnW hJ0 hlen
  have hkl := hfit.kids
  have hdd : ∀ k : Nat, (F.depth.isSome = true → 1 ≤ k) := fun k h => by rw [hd] at h; cases h
  have hJ1 := abides_new hJ hJ0 (.cells #[.int .i64 t.f0.f0, .int .i64 t.f0.f1, .string t.f1, .string t.f2, .slice A4 t.f3.length c4, .slice A5 t.f4.length c5] 28)
  have G3 := blk_new W (.cells #[.int .i64 t.f0.f0, .int .i64 t.f0.f1, .string t.f1, .string t.f2, .slice A4 t.f3.length c4, .slice A5 t.f4.length c5] 28)
  have hk0 := (KpV.refl w0.heap.size n1 W).alloc hbW.size (.cells #[.int .i64 t.f0.f0, .int .i64 t.f0.f1, .string t.f1, .string t.f2, .slice A4 t.f3.length c4, .slice A5 t.f4.length c5] 28)
  rw [List.length_cons] at hlen
  obtain ⟨x0, hx0⟩ : ∃ x0 : Item w0, x0 = ⟨deep, t, #[.int .i64 t.f0.f0, .int .i64 t.f0.f1, .string t.f1, .string t.f2, .slice A4 t.f3.length c4, .slice A5 t.f4.length c5], hK, hfit⟩ := ⟨_, rfl⟩
  have hy0 := hY (n - 1) pre x0 _ hJ1 (by omega)
  rw [← hx0]
  have hex : encI x0 = #[.int .i64 deep, .agg #[.int .i64 t.f0.f0, .int .i64 t.f0.f1, .string t.f1, .string t.f2, .slice A4 t.f3.length c4, .slice A5 t.f4.length c5]] := by rw [hx0]; rfl
  rw [hex] at hy0
  obtain ⟨fn, tmps, assign, body, hy, hR⟩ := hy0
  clear hx0 hex hK hJ1 hJ0
  refine callsIn_of_wp Tryz.func39 rfl h70 ?_ hro
  simp only [Tryz.ntmps39, List.size_toArray, List.length_cons, List.length_nil, Nat.reduceAdd, Nat.reduceSub, Array.replicate_succ, Array.replicate_zero, List.push_toArray, List.append_toArray, List.nil_append, List.cons_append]
  gi_wp2
  refine hR.mono ?_
  rintro e W1 (⟨rfl, hJ1, hk1⟩ | ⟨rfl, hx1⟩)
  case inr =>
    gi_wp2
    go_ret
    exact .inr ⟨rfl, [x0], ⟨_, rfl⟩, hx1⟩
  have G31 := hk1.2 _ _ hnW G3 rfl
  have hkW := hk0.trans hk1
  have hbW1 : Below w0.heap.size w0 W1 := hbW.trans hkW.1
  have c35 : W1.cell? ⟨W.heap.size, 5, none⟩ = some (.slice A5 t.f4.length c5) := blk_cell G31 5
  clear G3 hk0 hk1 hy hR
  gi_wp2
  gi_loopw [17] (fun i wr => ∃ k : Nat, k ≤ t.f4.length ∧ i = .int .i64 k ∧ J (pre ++ x0 :: (List.range k).flatMap ith) wr ∧ KpV w0.heap.size n1 W wr) (fun i _ => t.f4.length - (intOf i).toNat)
  case atStart => exact ⟨0, Nat.zero_le _, rfl, by simpa using hJ1, hkW⟩
  case round =>
    obtain ⟨k, hk, rfl, hJk, hkk⟩ := hrel
    by_cases hlt : k < t.f4.length
    · obtain ⟨htell, ad, a4, d4, a5, d5, hA5, ⟨e0, e1, e2, e3, e4, e5⟩, hWS⟩ := kid k hlt
      subst hA5
      have hbr := hbW.trans hkk.1
      have q0 := cell_keep hbr e0
      have q1 := cell_keep hbr e1
      have q2 := cell_keep hbr e2
      have q3 := cell_keep hbr e3
      have q4 := cell_keep hbr e4
      have q5 := cell_keep hbr e5
      have hi : (0 : Int) ≤ k ∧ (k : Int) < t.f4.length := by omega
      have hlenk : (pre ++ x0 :: (List.range k).flatMap ith).length + (ith k).length ≤ N := by
        have h1 := upto_len ith hlt
        simp only [List.length_append, List.length_cons]
        omega
      have hk2 := hkk.alloc hbr.size (.cells #[.int .i64 (R.rd_T28 t.f4 k).f0.f0, .int .i64 (R.rd_T28 t.f4 k).f0.f1, .string (R.rd_T28 t.f4 k).f1, .string (R.rd_T28 t.f4 k).f2, .slice a4 (R.rd_T28 t.f4 k).f3.length d4, .slice a5 (R.rd_T28 t.f4 k).f4.length d5] 28)
      have hC := hWS n1 l N B J Jx hJ hY (n - 1) _ _ (hbW.trans hk2.1) (Nat.le_trans hnW hk2.1.size) (abides_new hJ hJk (.cells #[.int .i64 (R.rd_T28 t.f4 k).f0.f0, .int .i64 (R.rd_T28 t.f4 k).f0.f1, .string (R.rd_T28 t.f4 k).f1, .string (R.rd_T28 t.f4 k).f2, .slice a4 (R.rd_T28 t.f4 k).f3.length d4, .slice a5 (R.rd_T28 t.f4 k).f4.length d5] 28)) hlenk
      clear e0 e1 e2 e3 e4 e5 hWS
      gi_wp2_with ((try refine ⟨hdd _, ?_⟩); gi_at_call 39; refine hC.mono ?_; clear hC; rintro e W3 (⟨rfl, hJ3, hk3⟩ | ⟨rfl, q, hq, hx3⟩))
      · go_roundw
        case rel => exact ⟨k + 1, by omega, by go_num, by rw [upto_succ]; simpa using hJ3, hk2.trans hk3⟩
        case measure => simp [intOf]; omega
      · go_ret
        exact .inr ⟨rfl, x0 :: ((List.range k).flatMap ith ++ q), List.cons_prefix_cons.2 ⟨rfl, ((List.prefix_append_right_inj _).2 hq).trans (upto_pre ith hlt)⟩, by simpa using hx3⟩
    · obtain rfl : k = t.f4.length := by omega
      gi_wp2
      go_ret
      exact .inl ⟨rfl, hJk, hkk⟩

theorem rd_getD (ks : List VN) (i : Nat) : R.rd_T28 ks i = ks.getD i R.z28 := rfl
theorem rd_mem {ks : List VN} {i : Nat} (h : i < ks.length) : R.rd_T28 ks i ∈ ks := by
  rw [rd_getD, List.getD_eq_getElem?_getD, List.getElem?_eq_getElem h, Option.getD_some]
  exact List.getElem_mem h
theorem flatD_kid {d : Int} {t : VN} {i : Nat} (h : i < t.f4.length) {p : Int × VN} (hp : p ∈ flatD (wrap64 (d + 1)) (R.rd_T28 t.f4 i)) : p ∈ flatD d t := by
  rw [flatD_eq, flatDs_eq]
  exact List.mem_cons_of_mem _ (List.mem_flatMap.2 ⟨_, rd_mem h, hp⟩)

theorem flatMap_same {α β : Type} {f g : α → List β} : ∀ {xs : List α}, (∀ x ∈ xs, f x = g x) → xs.flatMap f = xs.flatMap g
  | [], _ => rfl
  | x :: r, h => by rw [List.flatMap_cons, List.flatMap_cons, h x List.mem_cons_self, flatMap_same (fun y hy => h y (List.mem_cons_of_mem _ hy))]

theorem walk_in (F : Fence) (hd : F.depth = none) (h70 : F.fn 39) (hro : F.round = none) (w0 : World) : ∀ (s : Nat) (t : VN), SizeOf.sizeOf t ≤ s → ∀ (deep : Int), (∀ p ∈ flatD deep t, Fits p.2) → ∀ (cs : Array Value), R.k28.K w0 t cs.toList → ∃ xs : List (Item w0), tell xs = flatD deep t ∧ ∀ n1, WalkSays F w0 n1 cs deep xs := by
  intro s
  induction s with
  | zero =>
    intro t hs
    obtain ⟨a, b, c, d, e⟩ := t
    simp only [R.S28.mk.sizeOf_spec] at hs
    omega
  | succ s ih =>
    intro t hs deep hF cs hK
    obtain ⟨A4, c4, A5, c5, hcs, _, _, _, g5⟩ := R.k28_open hK
    obtain rfl : cs = #[.int .i64 t.f0.f0, .int .i64 t.f0.f1, .string t.f1, .string t.f2, .slice A4 t.f3.length c4, .slice A5 t.f4.length c5] := Array.toList_inj.1 hcs
    have kid : ∀ i, i < t.f4.length → ∃ xs, KidAt F w0 A5 t.f4 (wrap64 (deep + 1)) i xs := by
      intro i hi
      obtain ⟨ad, a4, d4, a5, d5, hA, e0, e1, e2, e3, e4, e5, k4, q4, k5, q5⟩ := R.at_T28 g5 (i : Int) (by omega) (by omega)
      obtain ⟨xs, h1, h2⟩ := ih (R.rd_T28 t.f4 i) (by have := size_kid (rd_mem hi); omega) (wrap64 (deep + 1)) (fun p hp => hF p (flatD_kid hi hp)) _ (R.k28_mk w0 (R.rd_T28 t.f4 i) k4 q4 k5 q5)
      exact ⟨xs, h1, ad, a4, d4, a5, d5, hA, ⟨e0, e1, e2, e3, e4, e5⟩, h2⟩
    obtain ⟨ith, hith⟩ : ∃ ith : Nat → List (Item w0), ∀ i, i < t.f4.length → KidAt F w0 A5 t.f4 (wrap64 (deep + 1)) i (ith i) :=
      ⟨fun i => if h : i < t.f4.length then Classical.choose (kid i h) else [], fun i hi => by dsimp only; rw [dif_pos hi]; exact Classical.choose_spec (kid i hi)⟩
    have hft : Fits t := hF (deep, t) (by rw [flatD_eq]; exact List.mem_cons_self)
    clear hF
    refine ⟨_, ?_, fun n1 => walk_step F hd h70 hro w0 n1 t hft A4 c4 A5 c5 deep hK ith hith⟩
    rw [flatD_eq, flatDs_eq, range_get R.z28]
    unfold tell
    rw [List.map_cons, List.map_flatMap]
    congr 1
    refine flatMap_same (fun i hi => ?_)
    exact (hith i (List.mem_range.1 hi)).1

set_option maxRecDepth 1000000 in
set_option maxHeartbeats 1000000 in
/-- nodes' closure: from depth 0. -/
theorem nodes1_in (F : Fence) (hd : F.depth = none) (n : Nat) (h69 : F.fn 38) (h70 : F.fn 39) (hro : F.round = none) (w0 : World) (n1 : Nat) (k0 k1 : Int) (tg tx : ByteArray) (A4 A5 : Option Addr) (n4 c4 n5 c5 : Nat) (xs : List (Item w0)) (hW : WalkSays F w0 n1 #[.int .i64 k0, .int .i64 k1, .string tg, .string tx, .slice A4 n4 c4, .slice A5 n5 c5] 0 xs) (l Bt B : Nat) (J Jx : List (Item w0) → World → Prop) (hJ : AbidesFrom B J)
    (hY : ∀ pre x W, J pre W → pre.length < xs.length → YieldAt F (n - 1) Tryz.prog l (encI x) W fun e W' =>
      (e = .returned (.bool true) ∧ J (pre ++ [x]) W' ∧ KpV w0.heap.size n1 W W') ∨ (e = .returned (.bool false) ∧ Jx (pre ++ [x]) W'))
    (W : World) (hbW : Below w0.heap.size w0 W) (hn1 : n1 ≤ W.heap.size) (hBt : W.heap[Bt]? = some (.cells #[.int .i64 k0, .int .i64 k1, .string tg, .string tx, .slice A4 n4 c4, .slice A5 n5 c5] 28 (0, 0))) (h0 : J [] W) :
    CallsIn F n Tryz.prog 38 #[.func (.yield l) #[] #[], .pointer (some ⟨Bt, 0, none⟩)] W fun e W' => (∃ v, e = .returned v) ∧
      ((∃ ys, ys = xs ∧ J ys W') ∨ (∃ pre, pre <+: xs ∧ Jx pre W')) := by
  have hdd : ∀ k : Nat, (F.depth.isSome = true → 1 ≤ k) := fun k h => by rw [hd] at h; cases h
  have hp := hW l xs.length B J Jx hJ (fun m pre x W hj hl => yieldAt_any hd m (hY pre x W hj hl)) (n - 1) [] W hbW hn1 h0 (by simp)
  have q0 : W.cell? ⟨Bt, 0, none⟩ = some (.int .i64 k0) := blk_cell hBt 0
  have q1 : W.cell? ⟨Bt, 1, none⟩ = some (.int .i64 k1) := blk_cell hBt 1
  have q2 : W.cell? ⟨Bt, 2, none⟩ = some (.string tg) := blk_cell hBt 2
  have q3 : W.cell? ⟨Bt, 3, none⟩ = some (.string tx) := blk_cell hBt 3
  have q4 : W.cell? ⟨Bt, 4, none⟩ = some (.slice A4 n4 c4) := blk_cell hBt 4
  have q5 : W.cell? ⟨Bt, 5, none⟩ = some (.slice A5 n5 c5) := blk_cell hBt 5
  refine callsIn_of_wp Tryz.func38 rfl h69 ?_ hro
  simp only [Tryz.ntmps38, List.size_toArray, List.length_cons, List.length_nil, Nat.reduceAdd, Nat.reduceSub, Array.replicate_succ, Array.replicate_zero, List.push_toArray, List.append_toArray, List.nil_append, List.cons_append]
  gi_wp2_with ((try refine ⟨hdd _, ?_⟩); gi_at_call 39; refine hp.mono ?_; clear hp; rintro e W1 (⟨rfl, hJ1, _⟩ | ⟨rfl, q, hq, hx⟩))
  · go_end0
    exact ⟨⟨_, rfl⟩, .inl ⟨_, rfl, by simpa using hJ1⟩⟩
  · go_end0
    exact ⟨⟨_, rfl⟩, .inr ⟨q, hq, by simpa using hx⟩⟩

set_option maxHeartbeats 1000000 in
/-- nodes: the tree is boxed; the function value captures the box. -/
theorem nodes_in (F : Fence) (n : Nat) (h46 : F.fn 17) (hro : F.round = none) (a0 a1 a2 a3 a4 a5 : Value) (w : World) :
    CallsIn F n Tryz.prog 17 #[.agg #[a0, a1, a2, a3, a4, a5]] w fun e w' => e = .returned (.func (.func 38) #[] #[.pointer (some ⟨w.heap.size, 0, none⟩)]) ∧ w' = w.alloc (.cells #[a0, a1, a2, a3, a4, a5] 28) := by
  have hmf : ∀ (fn : Fn) (first cap : Array Value) (w : World), (Instr.makeFunc fn first cap).run Tryz.prog w = .ok (.func fn first cap) w := fun _ _ _ _ => rfl
  refine callsIn_of_wp Tryz.func17 rfl h46 ?_ hro
  simp only [Tryz.ntmps17, List.size_toArray, List.length_cons, List.length_nil, Nat.reduceAdd, Nat.reduceSub, Array.replicate_succ, Array.replicate_zero, List.push_toArray, List.append_toArray, List.nil_append, List.cons_append]
  gi_wp2
  go_ret
  exact ⟨rfl, rfl⟩

/-- nodes(t) hands back a value that goes over the tree. -/
theorem nodes_stops (F : Fence) (hd : F.depth = none) (n : Nat) (h69 : F.fn 38) (h70 : F.fn 39) (hro : F.round = none) (w0 : World) (n1 : Nat) (k0 k1 : Int) (tg tx : ByteArray) (A4 A5 : Option Addr) (n4 c4 n5 c5 : Nat) (xs : List (Item w0)) (hW : WalkSays F w0 n1 #[.int .i64 k0, .int .i64 k1, .string tg, .string tx, .slice A4 n4 c4, .slice A5 n5 c5] 0 xs) (Bt : Nat) (w : World) (hbw : Below w0.heap.size w0 w) (hn1 : n1 ≤ w.heap.size) (hBt : w.heap[Bt]? = some (.cells #[.int .i64 k0, .int .i64 k1, .string tg, .string tx, .slice A4 n4 c4, .slice A5 n5 c5] 28 (0, 0))) :
    SeqStopsK F n Tryz.prog 38 #[.pointer (some ⟨Bt, 0, none⟩)] (encI (w0 := w0)) (KpV w0.heap.size n1) (fun ys => ys = xs) (fun pre => pre <+: xs) xs.length w := fun l J Jx W hWb hJ _ hY h0 =>
  nodes1_in F hd n h69 h70 hro w0 n1 k0 k1 tg tx A4 A5 n4 c4 n5 c5 xs hW l Bt _ J Jx hJ hY W (hbw.trans (hWb.mono hbw.size)) (Nat.le_trans hn1 hWb.size) (blk_below hBt hWb) h0

end Go.Proofs.YtfpldbobfjkkfaaGreatDoor
