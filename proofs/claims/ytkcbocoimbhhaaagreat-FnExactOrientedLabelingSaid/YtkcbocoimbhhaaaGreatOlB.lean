/-
  Several texts in one: TreeP, DistP, Repeat, Ext, DistS, Frame, Back, Val, QuadP, SSet, BoolS, Edge, Find, IsNet, Edge2, Ori, Ori2, Basics, App, Pro, Ite, WkP, CoP, CmL, TokE, PrA, Stp, Bss, CyP, CyA. No condition on any program.
-/
import Derived.Test.YtkcbocoimbhhaaaGreatOlA
import Derived.Test.YtkcbocoimbhhaaaGreatShelf
import Derived.Laws.IdiomCopy
import Derived.Deep.Quiet
import Derived.BigQuiet
import Derived.Deep.RegionHeld3
import Derived.Shelf.Abstract
import Derived.Deep.Cut
import Derived.Laws.Cover3
import Derived.OwnWalkIn
import Derived.Maps.OwnIn
import Derived.Deep.QuietTactic

/- Plain: parents by ports, the root, the hops to it. -/
namespace Go.Proofs.YtkcbocoimbhhaaaGreat
set_option linter.unusedVariables false

/-- the outer row of a network's ends, opened -/
def NetO (w : World) (lo hi b off : Nat) (N : NetD) : Prop :=
  ∀ t, t < N.ends.length → ∃ A c, w.cell? ⟨b, off + t, none⟩ = some (.slice A (nthL N.ends t).length c) ∧ (nthL N.ends t).length ≤ c ∧ c ≤ 9223372036854775807 ∧
    (0 < (nthL N.ends t).length → ∃ b2 off2, A = some ⟨b2, off2, none⟩ ∧ lo ≤ b2 ∧ b2 < hi ∧ ∀ r, r < (nthL N.ends t).length → w.cell? ⟨b2, off2 + r * 2, none⟩ = some (.int .i64 (nthE (nthL N.ends t) r).1) ∧ w.cell? ⟨b2, off2 + r * 2 + 1, none⟩ = some (.int .i64 (nthE (nthL N.ends t) r).2))
open Go.RowKit in
theorem NetO.below {w w' : World} {lo hi b off B : Nat} {N : NetD} (h : NetO w lo hi b off N) (hb : Below B w w') (h1 : b < B) (h2 : hi ≤ B) : NetO w' lo hi b off N := by
  intro t ht
  obtain ⟨A, c, a1, a2, a3, a4⟩ := h t ht
  refine ⟨A, c, (hb.cell (p := ⟨b, off + t, none⟩) h1).trans a1, a2, a3, fun hp => ?_⟩
  obtain ⟨b2, off2, e, a5, a6, a7⟩ := a4 hp
  exact ⟨b2, off2, e, a5, a6, fun r hr => ⟨(hb.cell (p := ⟨b2, off2 + r * 2, none⟩) (by show b2 < B; omega)).trans (a7 r hr).1, (hb.cell (p := ⟨b2, off2 + r * 2 + 1, none⟩) (by show b2 < B; omega)).trans (a7 r hr).2⟩⟩
theorem NetO.port {w : World} {lo hi b off : Nat} {N : NetD} (h : NetO w lo hi b off N) {t r : Nat} (ht : t < N.ends.length) (hr : r < (nthL N.ends t).length) :
    ∃ b2 off2 c, w.cell? ⟨b, off + t, none⟩ = some (.slice (some ⟨b2, off2, none⟩) (nthL N.ends t).length c) ∧ (nthL N.ends t).length ≤ c ∧ c ≤ 9223372036854775807 ∧ lo ≤ b2 ∧ b2 < hi ∧
      w.cell? ⟨b2, off2 + r * 2, none⟩ = some (.int .i64 (nthE (nthL N.ends t) r).1) ∧ w.cell? ⟨b2, off2 + r * 2 + 1, none⟩ = some (.int .i64 (nthE (nthL N.ends t) r).2) := by
  obtain ⟨A, c, a1, a2, a3, a4⟩ := h t ht
  obtain ⟨b2, off2, rfl, a5, a6, a7⟩ := a4 (by omega)
  exact ⟨b2, off2, c, a1, a2, a3, a5, a6, (a7 r hr).1, (a7 r hr).2⟩
/-- a network in memory, taken apart -/
theorem Net.parts {w : World} {lo hi : Nat} {v : Value} {N : NetD} (h : Net w lo hi v N) : ∃ A c A2 c2 A3 c3, v = .agg #[.slice A N.ends.length c, .slice A2 N.ids.length c2, .slice A3 N.inputs.length c3] ∧ N.ends.length ≤ c ∧ c ≤ 9223372036854775807 ∧
    IntS w lo hi (.slice A2 N.ids.length c2) N.ids ∧ IntS w lo hi (.slice A3 N.inputs.length c3) N.inputs ∧ (0 < N.ends.length → ∃ b off, A = some ⟨b, off, none⟩ ∧ lo ≤ b ∧ b < hi ∧ NetO w lo hi b off N) := by
  obtain ⟨ve, vi, vn, rfl, he, hi1, hn1⟩ := h
  obtain ⟨A, c, rfl, hc1, hc2, hcell⟩ := he.form
  obtain ⟨A2, c2, rfl⟩ := hi1.shape
  obtain ⟨A3, c3, rfl⟩ := hn1.shape
  refine ⟨A, c, A2, c2, A3, c3, rfl, hc1, hc2, hi1, hn1, fun hp => ?_⟩
  obtain ⟨b, off, e, h1, h2, h3⟩ := hcell hp
  refine ⟨b, off, e, h1, h2, fun t ht => ?_⟩
  obtain ⟨u, hu, hR⟩ := h3 t ht
  obtain ⟨A4, c4, rfl, hd1, hd2, hcell4⟩ := hR.form
  exact ⟨A4, c4, hu, hd1, hd2, hcell4⟩

/-- what a good network gives -/
theorem good_n {N : NetD} (h : N.good = true) : 1 ≤ N.ends.length ∧ N.ends.length ≤ 40 := by
  unfold NetD.good NetD.headOk at h
  simp only [Bool.and_eq_true] at h
  have := inB_le h.1.1
  omega
theorem good_row_ok {N : NetD} (h : N.good = true) {v : Nat} (hv : v < N.ends.length) : N.rowOk v = true := by
  unfold NetD.good at h
  rw [Bool.and_eq_true, List.all_eq_true] at h
  exact h.2 v (List.mem_range.2 hv)
theorem good_deg {N : NetD} (h : N.good = true) {v : Nat} (hv : v < N.ends.length) : (nthL N.ends v).length ≤ 6 := by
  have := good_row_ok h hv
  unfold NetD.rowOk at this
  rw [Bool.and_eq_true] at this
  simpa using this.1
theorem good_end {N : NetD} (h : N.good = true) {v i : Nat} (hv : v < N.ends.length) (hi : i < (nthL N.ends v).length) :
    ∃ t r : Nat, nthE (nthL N.ends v) i = ((t : Int), (r : Int)) ∧ t < N.ends.length ∧ r < (nthL N.ends t).length ∧ nthE (nthL N.ends t) r = ((v : Int), (i : Int)) := by
  have := good_row_ok h hv
  unfold NetD.rowOk at this
  rw [Bool.and_eq_true, List.all_eq_true] at this
  have := this.2 i (List.mem_range.2 hi)
  unfold NetD.endOk NetD.port at this
  simp only [Bool.and_eq_true, decide_eq_true_eq] at this
  obtain ⟨⟨a1, a2⟩, a3⟩ := this
  have b1 := inB_le a1
  have b2 := inB_le a2
  refine ⟨(nthE (nthL N.ends v) i).1.toNat, (nthE (nthL N.ends v) i).2.toNat, ?_, by omega, by omega, a3⟩
  apply Prod.ext
  · show _ = ((Int.toNat _ : Nat) : Int); omega
  · show _ = ((Int.toNat _ : Nat) : Int); omega

def rootOf (ps : List Int) : Int := fidx (fun x => x == -1) ps
/-- node v spoils the parents -/
def badPar (N : NetD) (ps : List Int) (v : Nat) : Bool := (nth ps v == -1 && !decide ((v : Int) = rootOf ps)) || (nth ps v != -1 && !inB (nth ps v) 0 (((nthL N.ends v).length : Int) - 1))
theorem rootOf_none {ps : List Int} (h : ∀ j, j < ps.length → nth ps j ≠ -1) : rootOf ps = -1 := fidx_none fun j hj => by simpa using h j hj
/-- what the reference knows of the root behind k parents -/
def RInv (N : NetD) (ps : List Int) (k : Nat) (ρ : Int) : Prop := (∀ j, j < k → badPar N ps j = false) ∧ ((ρ = -1 ∧ ∀ j, j < k → nth ps j ≠ -1) ∨ (ρ = rootOf ps ∧ 0 ≤ ρ ∧ ρ < k))
theorem RInv.zero (N : NetD) (ps : List Int) : RInv N ps 0 (-1) := ⟨fun j hj => absurd hj (by omega), .inl ⟨rfl, fun j hj => absurd hj (by omega)⟩⟩
theorem not_bad {N : NetD} {ps : List Int} {k : Nat} (hm : nth ps k ≠ -1) (hi : inB (nth ps k) 0 (((nthL N.ends k).length : Int) - 1) = true) : badPar N ps k = false := by
  unfold badPar; rw [hi]; simp [hm]
theorem RInv.skip {N : NetD} {ps : List Int} {k : Nat} {ρ : Int} (h : RInv N ps k ρ) (hm : nth ps k ≠ -1) (hi : inB (nth ps k) 0 (((nthL N.ends k).length : Int) - 1) = true) : RInv N ps (k + 1) ρ := by
  obtain ⟨h1, h2⟩ := h
  refine ⟨fun j hj => ?_, ?_⟩
  · by_cases e : j = k
    · subst e; exact not_bad hm hi
    · exact h1 j (by omega)
  · rcases h2 with ⟨e, h3⟩ | ⟨e, e1, e2⟩
    · refine .inl ⟨e, fun j hj => ?_⟩
      by_cases e : j = k
      · subst e; exact hm
      · exact h3 j (by omega)
    · exact .inr ⟨e, e1, by omega⟩
theorem RInv.none {N : NetD} {ps : List Int} {ρ : Int} (h : RInv N ps ps.length ρ) (hρ : ρ < 0) : rootOf ps < 0 := by
  rcases h.2 with ⟨e, h3⟩ | ⟨e, e1, e2⟩
  · rw [rootOf_none h3]; omega
  · omega
theorem RInv.some {N : NetD} {ps : List Int} {ρ : Int} (h : RInv N ps ps.length ρ) (hρ : ¬ ρ < 0) : ρ = rootOf ps ∧ ρ < ps.length := by
  rcases h.2 with ⟨e, h3⟩ | ⟨e, e1, e2⟩
  · omega
  · exact ⟨e, e2⟩

end Go.Proofs.YtkcbocoimbhhaaaGreat

/- Plain: distances by a walk over the nodes in the order in which they are found. -/
namespace Go.Proofs.YtkcbocoimbhhaaaGreat
set_option linter.unusedVariables false

/-- the nodes at the other sides of a node's ports -/
def nbs (N : NetD) (u : Nat) : List Int := (nthL N.ends u).map Prod.fst
theorem nbs_length (N : NetD) (u : Nat) : (nbs N u).length = (nthL N.ends u).length := by simp [nbs]
theorem nth_nbs (N : NetD) (u : Nat) {i : Nat} (h : i < (nthL N.ends u).length) : nth (nbs N u) i = (nthE (nthL N.ends u) i).1 := by
  rw [nth_eq (by rw [nbs_length]; exact h)]
  simp [nbs, nthE, h]
/-- all ends lead to nodes -/
def NetD.nodes (N : NetD) : Prop := ∀ v, v < N.ends.length → ∀ i, i < (nthL N.ends v).length → ∃ t : Nat, (nthE (nthL N.ends v) i).1 = t ∧ t < N.ends.length
abbrev BSt := List Int × List Int
structure BInv (n : Nat) (st : BSt) : Prop where
  len : st.1.length = n
  count : st.2.length + st.1.countP (fun x => decide (x < 0)) = n
  node : ∀ i, i < st.2.length → ∃ t : Nat, nth st.2 i = t ∧ t < n ∧ 0 ≤ nth st.1 t ∧ nth st.1 t ≤ i
  low : ∀ j, j < n → -1 ≤ nth st.1 j ∧ nth st.1 j ≤ n
theorem BInv.le {n : Nat} {st : BSt} (h : BInv n st) : st.2.length ≤ n := by have := h.count; omega
/-- what one more node leaves: what was found stays, and so does its distance -/
structure Kept (st st' : BSt) : Prop where
  len : st.2.length ≤ st'.2.length
  walk : ∀ i, i < st.2.length → nth st'.2 i = nth st.2 i
  out : ∀ j, 0 ≤ nth st.1 j → nth st'.1 j = nth st.1 j
theorem Kept.refl (st : BSt) : Kept st st := ⟨Nat.le_refl _, fun _ _ => rfl, fun _ _ => rfl⟩
end Go.Proofs.YtkcbocoimbhhaaaGreat

/- slices.Repeat of a list of one number. -/
namespace Go.Proofs.YtkcbocoimbhhaaaGreat
open Go.ChangeShapes Go.WideShapes Go.ChangeAt Go.RowKit
set_option linter.unusedVariables false

theorem setCells_row {w : World} {g n : Nat} {t : TypeId} {f : Nat → Value} (h : w.rowIs g t n f) : ∀ (cs : List Value) (o : Nat), (w.setCells g o cs).rowIs g t n (fun j => if o ≤ j ∧ j < o + cs.length then cs.getD (j - o) undef else f j) := by
  intro cs
  induction cs generalizing w f with
  | nil => intro o; exact h.congr fun j hj => by rw [if_neg (by simp)]; 
  | cons x cs ih =>
    intro o
    have := ih (h.set o x) (o + 1)
    refine this.congr fun j hj => ?_
    by_cases e1 : j = o
    · subst e1; rw [if_neg (by omega), if_pos rfl, if_pos (by simp)]; simp
    · by_cases e2 : o + 1 ≤ j ∧ j < o + 1 + cs.length
      · rw [if_pos e2, if_pos (by rw [List.length_cons]; omega), show j - o = (j - (o + 1)) + 1 by omega]; rfl
      · rw [if_neg e2, if_neg e1, if_neg (by rw [List.length_cons]; omega)]
theorem below_setCells {B : Nat} {a w : World} (h : Below B a w) {g : Nat} (hg : B ≤ g) : ∀ (cs : List Value) (o : Nat), Below B a (w.setCells g o cs) := by
  intro cs
  induction cs generalizing w with
  | nil => intro o; exact h
  | cons x cs ih => intro o; exact ih (h.setCell (p := ⟨g, o, none⟩) hg x) (o + 1)

theorem mul1_any (n : Nat) (hn : n ≤ 1048576) (w : World) : Calls Tryz.prog 80 #[.int .u64 1, .int .u64 n] w fun e w' => e = .returned (.tuple #[.int .u64 0, .int .u64 n]) ∧ w = w' := by
  refine (Tryz.bits_Mul 1 n (by omega) (by omega) w).mono ?_
  rintro e w' ⟨rfl, rfl⟩
  refine ⟨?_, rfl⟩
  rw [Nat.one_mul, Nat.div_eq_of_lt (by omega), Nat.mod_eq_of_lt (by omega)]
  rfl

end Go.Proofs.YtkcbocoimbhhaaaGreat

/- Worlds that extend a world: all that was there is there still, new blocks may have come, draws may have been made. Regions whose operations read old memory and whose callees only make new memory: one walk of the text's order serves every order. -/
namespace Go.Proofs.YtkcbocoimbhhaaaGreat
open Go.RowKit

/-- what has come: new blocks, and how many draws there have been -/
structure More where
  blocks : Array Obj
  draws : Nat
instance : Nonempty More := ⟨⟨#[], 0⟩⟩
def ext (W : World) (p : More) : World := { W with heap := W.heap ++ p.blocks, drawn := p.draws }
theorem ext_heap_old (W : World) (p : More) {k : Nat} (h : k < W.heap.size) : (ext W p).heap[k]? = W.heap[k]? := by simp [ext, Array.getElem?_append, h]
theorem ext_below (W : World) (p : More) : Below W.heap.size W (ext W p) := ⟨rfl, rfl, rfl, by simp [ext], fun k hk => ext_heap_old W p hk⟩
theorem ext_of_below {W w : World} (h : Below W.heap.size W w) : ∃ p, w = ext W p := by
  refine ⟨⟨w.heap.extract W.heap.size w.heap.size, w.drawn⟩, ?_⟩
  obtain ⟨h1, h2, h3, h4, h5⟩ := h
  cases w with
  | mk hp tp dr os out =>
    simp only [ext]
    simp only at h1 h2 h3 h4 h5
    subst h1 h2 h3
    congr 1
    apply Array.ext_getElem?
    intro i
    rw [Array.getElem?_append]
    by_cases hi : i < W.heap.size
    · rw [if_pos hi]; exact h5 i hi
    · rw [if_neg hi, Array.getElem?_extract]
      by_cases hl : i < hp.size
      · rw [if_pos (by omega), show W.heap.size + (i - W.heap.size) = i by omega]
      · rw [if_neg (by omega), Array.getElem?_eq_none (by omega)]
theorem ext_cell (W : World) {a : Addr} (h : a.block < W.heap.size) {v : Value} (hc : W.cell? a = some v) : ∀ p, (ext W p).cell? a = some v := fun p => (World.cell?_of_block (w := W) (ext_heap_old W p h)).trans hc
theorem ext_size (W : World) (p : More) : W.heap.size ≤ (ext W p).heap.size := (ext_below W p).size
/-- a callee's contract, met in such a world -/
theorem ext_call {P : Program} {f : FuncId} {args : Array Value} {W : World} {p : More} {v : Value}
    (h : Calls P f args (ext W p) fun e w' => e = .returned v ∧ Below (ext W p).heap.size (ext W p) w') : Calls P f args (ext W p) fun e w'' => e = .returned v ∧ ∃ q, w'' = ext W q :=
  h.mono fun _ _ ⟨he, hb⟩ => ⟨he, ext_of_below ((ext_below W p).trans (hb.mono (ext_size W p)))⟩
theorem wp_region_ext {P : Program} {id : Nat} {Q : Exit → Act → World → Prop} {a : Act} {w : World} {l : List Oper} (hm : P.follows .mixedOrders = true) (hB : Region.lexB .any l.toArray = true)
    (h : wpQuiet P l.toArray (fun w' => ∃ p, w' = ext w p) (fun a' => ∀ w', (∃ p, w' = ext w p) → Q .normal a' w') l a) : (Code.region id l.toArray true).wp P Q a w :=
  wp_region_quiet (C := fun w' => ∃ p, w' = ext w p) hm hB ⟨⟨#[], w.drawn + 1⟩, by simp [ext]⟩ (by simpa using h)

end Go.Proofs.YtkcbocoimbhhaaaGreat

/- Contracts of the reference's neNear and meFrom. -/
namespace Go.Proofs.YtkcbocoimbhhaaaGreat
open Go.ChangeShapes Go.WideShapes Go.ChangeAt Go.RowKit
set_option linter.unusedVariables false

theorem Box3.grown {w w' : World} {g : Nat} {t : TypeId} {a b c : Value} {row : Option Nat} (h : Box3 w g t a b c) (hg : w.grownBy w' row) (hr : ∀ k, row = some k → k ≠ g) : Box3 w' g t a b c := (hg.block g h.lt (fun e => hr g e.symm rfl)).trans h
theorem IntS.of_row {w : World} {b n : Nat} {t : TypeId} {zs : List Int} (h : w.rowIs b t n (fun j => .int .i64 (nth zs j))) (hn : zs.length = n) (hm : n ≤ maxLen) : IntS w b (b + 1) (.slice (some ⟨b, 0, none⟩) n n) zs := by
  subst hn
  refine ⟨_, _, rfl, Nat.le_refl _, hm, fun hpos => ⟨b, 0, rfl, Nat.le_refl _, by omega, fun j hj => ?_⟩⟩
  rw [Nat.zero_add]
  exact ⟨h.cell (by omega), h.frozen j⟩

end Go.Proofs.YtkcbocoimbhhaaaGreat

/- Frames: one anchor world, at which what is read stays known; the world of the walk differs from it in a range of blocks that are written, and in new blocks. No condition on any program. -/
namespace Go.Proofs.YtkcbocoimbhhaaaGreat
open Go.RowKit

theorem nameC {P : Program} {c : Code} {Q : Exit → Act → World → Prop} {a : Act} {w : World} (h : ∀ W, Hid (W = w) → c.wp P Q a W) : c.wp P Q a w := h w (Lib.hid rfl)
theorem nameK {P : Program} {f : FuncId} {args : Array Value} {w : World} {Q : Ending → World → Prop} (h : ∀ W, Hid (W = w) → Calls P f args W Q) : Calls P f args w Q := h w (Lib.hid rfl)

section
variable {w w' : World}
theorem grown_below (h : Below w.heap.size w w') : w.grownBy w' none := ⟨h.os, h.tape, h.output, h.size, fun k hk _ => h.block k hk⟩
theorem grown_alloc (w : World) (o : Obj) : w.grownBy (w.alloc o) none := ⟨rfl, rfl, rfl, by simp, fun k hk _ => Below.heap_alloc _ _ _ hk⟩
theorem grown_set (w : World) (p : Addr) (u : Value) : w.grownBy (w.setCell p u) (some p.block) := grownBy_setCell (World.grownBy.refl _ _) rfl u
theorem grown_drewN (w : World) (n : Nat) : w.grownBy (w.drewN n) none := ⟨rfl, rfl, rfl, Nat.le_refl _, fun _ _ _ => rfl⟩
theorem grown_drew (w : World) : w.grownBy w.drew none := ⟨rfl, rfl, rfl, Nat.le_refl _, fun _ _ _ => rfl⟩
theorem grown_to_below (h : w.grownBy w' none) : Below w.heap.size w w' := ⟨h.os, h.tape, h.output, h.size, fun k hk => h.block k hk (by simp)⟩
theorem no_row (lo hi : Nat) : ∀ g : Nat, (none : Option Nat) = some g → g < lo ∨ hi ≤ g := fun _ h => by cases h
end

theorem Turned.grown {lo hi : Nat} {A W W' : World} {row : Option Nat} (h : Turned lo hi A W) (hg : W.grownBy W' row) (hr : ∀ g, row = some g → (lo ≤ g ∧ g < hi) ∨ A.heap.size ≤ g) : Turned lo hi A W' :=
  ⟨hg.os.trans h.os, hg.tape.trans h.tape, hg.output.trans h.output, Nat.le_trans h.size hg.size, fun k hk ho => (hg.block k (Nat.lt_of_lt_of_le hk h.size) (fun e => by have := hr k e.symm; omega)).trans (h.block k hk ho)⟩
theorem Turned.still {lo hi : Nat} {A W W' : World} (h : Turned lo hi A W) (hg : W.grownBy W' none) : Turned lo hi A W' := h.grown hg (fun g e => by cases e)
theorem Turned.below_of {B lo hi : Nat} {w A W : World} (h : Turned lo hi A W) (hb : Below B w A) (h1 : B ≤ lo) (h2 : B ≤ A.heap.size) : Below B w W :=
  ⟨h.os.trans hb.os, h.tape.trans hb.tape, h.output.trans hb.output, Nat.le_trans hb.size h.size, fun k hk => (h.block k (by omega) (by omega)).trans (hb.block k hk)⟩
theorem Turned.cell {lo hi : Nat} {A W : World} (h : Turned lo hi A W) {b o : Nat} (hl : b < A.heap.size) (hg : b < lo ∨ hi ≤ b) : W.cell? ⟨b, o, none⟩ = A.cell? ⟨b, o, none⟩ := World.cell?_of_block (a := ⟨b, o, none⟩) (h.block b hl hg)
theorem Turned.frozen {lo hi : Nat} {A W : World} (h : Turned lo hi A W) {b o : Nat} (hl : b < A.heap.size) (hg : b < lo ∨ hi ≤ b) : W.frozen? ⟨b, o, none⟩ = A.frozen? ⟨b, o, none⟩ := World.frozen?_of_block (a := ⟨b, o, none⟩) (h.block b hl hg)

section
variable {w w' : World} {lo hi base : Nat} {v : Value} {row : Option Nat}
theorem ISS.far {xss : List (List Int)} (h : IntSS w lo hi v xss) (hg : w.grownBy w' row) (hB : hi ≤ w.heap.size) (hr : ∀ g, row = some g → g < lo ∨ hi ≤ g) : IntSS w' lo hi v xss :=
  SS.keep (fun h => IntS.far h hg hB hr) h fun k h1 h2 => hg.block k (by omega) (fun e => by have := hr k e.symm; omega)
theorem OwnI.far {e : TypeId} {zs : List Int} (h : OwnI w base e v zs) (hg : w.grownBy w' row) (hr : ∀ g, row = some g → g < base ∨ v.ownBlock ≠ some g) : OwnI w' base e v zs :=
  h.kept hg (by
    rcases h.block with e1 | ⟨g, e1, h1, h2⟩
    · exact .inl e1
    · right; intro e2; rw [e1] at e2
      rcases hr g e2.symm with h3 | h3
      · omega
      · exact h3 e1)
theorem OwnI.still {e : TypeId} {zs : List Int} (h : OwnI w base e v zs) (hg : w.grownBy w' none) : OwnI w' base e v zs := h.far hg (fun g e => by cases e)
theorem IntS.still {zs : List Int} (h : IntS w lo hi v zs) (hg : w.grownBy w' none) (hB : hi ≤ w.heap.size) : IntS w' lo hi v zs := h.far hg hB (no_row _ _)
theorem ISS.still {xss : List (List Int)} (h : IntSS w lo hi v xss) (hg : w.grownBy w' none) (hB : hi ≤ w.heap.size) : IntSS w' lo hi v xss := ISS.far h hg hB (no_row _ _)
theorem Box3.still {g : Nat} {t : TypeId} {a b c : Value} (h : Box3 w g t a b c) (hg : w.grownBy w' none) : Box3 w' g t a b c := h.grown hg (fun k e => by cases e)
end

theorem rangeAll_false {n k : Nat} {p : Nat → Bool} (hk : k < n) (h : p k = false) : (List.range n).all p = false := by
  rw [Bool.eq_false_iff]; intro ha; rw [List.all_eq_true] at ha
  have := ha k (List.mem_range.2 hk); rw [h] at this; cases this
theorem rangeAll_true {n : Nat} {p : Nat → Bool} (h : ∀ k, k < n → p k = true) : (List.range n).all p = true := by
  rw [List.all_eq_true]; intro k hk; exact h k (List.mem_range.1 hk)
theorem rangeAll_at {n k : Nat} {p : Nat → Bool} (h : (List.range n).all p = true) (hk : k < n) : p k = true := by
  rw [List.all_eq_true] at h; exact h k (List.mem_range.2 hk)

theorem all_nth {zs : List Int} {p : Int → Bool} : zs.all p = true ↔ ∀ k, k < zs.length → p (nth zs k) = true := by
  rw [List.all_eq_true]
  constructor
  · intro h k hk; exact h _ (nth_mem hk)
  · intro h x hx
    obtain ⟨k, hk, e⟩ := List.mem_iff_getElem.1 hx
    have := h k hk
    rwa [nth_eq hk, e] at this
theorem nth_take {zs : List Int} {i j : Nat} (h : j < i) : nth (zs.take i) j = nth zs j := by simp [nth, List.getElem?_take_of_lt h]

/-- a block known whole -/
def BoxN (w : World) (g : Nat) (cs : Array Value) (t : TypeId) : Prop := w.heap[g]? = some (.cells cs t (0, 0))
section
variable {w w' A W : World} {g lo hi : Nat} {cs : Array Value} {t : TypeId} {row : Option Nat}
theorem BoxN.lt (h : BoxN w g cs t) : g < w.heap.size := (Array.getElem?_eq_some_iff.1 h).1
theorem BoxN.cell (h : BoxN w g cs t) (j : Nat) (hj : j < cs.size) : w.cell? ⟨g, j, none⟩ = some cs[j] := by
  rw [cell_of_row w g _ _ t (0, 0) h]; simp [hj]
theorem BoxN.frozen (h : BoxN w g cs t) (i : Nat) : w.frozen? ⟨g, i, none⟩ = false := by
  have h' : w.heap[g]? = some (.cells cs t (0, 0)) := h
  simp [World.frozen?, h']
theorem BoxN.far (h : BoxN w g cs t) (hg : w.grownBy w' row) (hr : ∀ k, row = some k → k ≠ g) : BoxN w' g cs t := (hg.block g h.lt (fun e => hr g e.symm rfl)).trans h
theorem BoxN.still (h : BoxN w g cs t) (hg : w.grownBy w' none) : BoxN w' g cs t := h.far hg (fun k e => by cases e)
theorem BoxN.below {B : Nat} (h : BoxN w g cs t) (hb : Below B w w') (hg : g < B) : BoxN w' g cs t := (hb.block g hg).trans h
theorem BoxN.new (w : World) (cs : Array Value) (t : TypeId) : BoxN (w.alloc (.cells cs t)) w.heap.size cs t := heap_alloc_new w _
theorem BoxN.new' (w : World) (cs : Array Value) (t : TypeId) {g : Nat} (hg : w.heap.size = g) : BoxN (w.alloc (.cells cs t)) g cs t := by subst hg; exact heap_alloc_new w _
theorem BoxN.set (h : BoxN w g cs t) (j : Nat) (u : Value) : BoxN (w.setCell ⟨g, j, none⟩ u) g (cs.setIfInBounds j u) t := by
  have h' : w.heap[g]? = some (.cells cs t (0, 0)) := h
  simp [BoxN, World.setCell, Array.getElem?_modify, h']
theorem Turned.boxN (h : Turned lo hi A W) (hb : BoxN A g cs t) (hg : g < lo ∨ hi ≤ g) : BoxN W g cs t := (h.block g hb.lt hg).trans hb
end
section
variable {w w' : World} {lo hi l2 h2 : Nat} {v : Value} {row : Option Nat}
theorem IntS.dims {zs : List Int} (h : IntS w lo hi v zs) : ∃ A c, v = .slice A zs.length c ∧ zs.length ≤ c ∧ c ≤ 9223372036854775807 := by
  obtain ⟨A, c, e, h1, h2, _⟩ := h; unfold maxLen at h2; exact ⟨A, c, e, h1, h2⟩
theorem SS.dims {α : Type} {R : World → Nat → Nat → Value → List α → Prop} {xss : List (List α)} (h : SS R w lo hi v xss) : ∃ A c, v = .slice A xss.length c ∧ xss.length ≤ c ∧ c ≤ 9223372036854775807 := by
  obtain ⟨_, ⟨A, c, e, h1, h2, _⟩, _⟩ := h; unfold maxLen at h2; exact ⟨A, c, e, h1, h2⟩
theorem EndS.dims {es : List (Int × Int)} (h : EndS w lo hi v es) : ∃ A c, v = .slice A es.length c ∧ es.length ≤ c ∧ c ≤ 9223372036854775807 := by
  obtain ⟨A, c, e, h1, h2, _⟩ := h; unfold maxLen at h2; exact ⟨A, c, e, h1, h2⟩
/-- one cell of a row of numbers -/
theorem IntS.opened {A : Option Addr} {n c : Nat} {zs : List Int} (h : IntS w lo hi (.slice A n c) zs) {j : Nat} (hj : j < zs.length) : ∃ b off, A = some ⟨b, off, none⟩ ∧ lo ≤ b ∧ b < hi ∧ w.cell? ⟨b, off + j, none⟩ = some (.int .i64 (nth zs j)) ∧ w.frozen? ⟨b, off + j, none⟩ = false := by
  obtain ⟨A', c', e, h1, h2, h3⟩ := h.form
  injection e with e1 e2 e3
  subst e1
  obtain ⟨b, off, e4, h4, h5, h6⟩ := h3 (by omega)
  exact ⟨b, off, e4, h4, h5, h6 j hj⟩
/-- one row of a slice of slices -/
theorem SS.opened {α : Type} {R : World → Nat → Nat → Value → List α → Prop} {A : Option Addr} {n c : Nat} {xss : List (List α)} (h : SS R w lo hi (.slice A n c) xss) {j : Nat} (hj : j < xss.length) : ∃ b off u, A = some ⟨b, off, none⟩ ∧ lo ≤ b ∧ b < hi ∧ w.cell? ⟨b, off + j, none⟩ = some u ∧ R w lo hi u (nthL xss j) := by
  obtain ⟨A', c', e, h1, h2, h3⟩ := h.form
  injection e with e1 e2 e3
  subst e1
  obtain ⟨b, off, e4, h4, h5, h6⟩ := h3 (by omega)
  obtain ⟨u, h7, h8⟩ := h6 j hj
  exact ⟨b, off, u, e4, h4, h5, h7, h8⟩
theorem SS.openedIn {α : Type} {R : World → Nat → Nat → Value → List α → Prop} {b off n c : Nat} {xss : List (List α)} (h : SS R w lo hi (.slice (some ⟨b, off, none⟩) n c) xss) {j : Nat} (hj : j < xss.length) : ∃ u, b < hi ∧ w.cell? ⟨b, off + j, none⟩ = some u ∧ R w lo hi u (nthL xss j) := by
  obtain ⟨b', off', u, e, h4, h5, h7, h8⟩ := h.opened hj
  injection e with e
  injection e with e1 e2
  subst e1 e2
  exact ⟨u, h5, h7, h8⟩
theorem EndS.opened {A : Option Addr} {n c : Nat} {es : List (Int × Int)} (h : EndS w lo hi (.slice A n c) es) {j : Nat} (hj : j < es.length) : ∃ b off, A = some ⟨b, off, none⟩ ∧ lo ≤ b ∧ b < hi ∧ w.cell? ⟨b, off + j * 2, none⟩ = some (.int .i64 (nthE es j).1) ∧ w.cell? ⟨b, off + j * 2 + 1, none⟩ = some (.int .i64 (nthE es j).2) := by
  obtain ⟨A', c', e, h1, h2, h3⟩ := h.form
  injection e with e1 e2 e3
  subst e1
  obtain ⟨b, off, e4, h4, h5, h6⟩ := h3 (by omega)
  exact ⟨b, off, e4, h4, h5, h6 j hj⟩
/-- a row of a network's ends, opened at a node -/
theorem Net.rowAt {A : Option Addr} {n c : Nat} {v2 v3 : Value} {N : NetD} (h : Net w lo hi (.agg #[.slice A n c, v2, v3]) N) {u : Nat} (hu : u < N.ends.length) :
    ∃ b off A4 c4, A = some ⟨b, off, none⟩ ∧ b < hi ∧ w.cell? ⟨b, off + u, none⟩ = some (.slice A4 (nthL N.ends u).length c4) ∧ (nthL N.ends u).length ≤ c4 ∧ c4 ≤ 9223372036854775807 ∧ EndS w lo hi (.slice A4 (nthL N.ends u).length c4) (nthL N.ends u) := by
  obtain ⟨ve, vi, vn, e, h1, _, _⟩ := h
  simp only [Value.agg.injEq, Array.mk.injEq, List.cons.injEq, and_true] at e
  obtain ⟨rfl, _, _⟩ := e
  obtain ⟨b, off, u', e4, h4, h5, h7, h8⟩ := h1.opened hu
  obtain ⟨A4, c4, rfl, h9, h10⟩ := h8.dims
  exact ⟨b, off, A4, c4, e4, h5, h7, h9, h10, h8⟩
theorem OwnSS.still {base top : Nat} {e : TypeId} {xss : List (List Int)} (h : OwnSS w base top e v xss) (hg : w.grownBy w' none) : OwnSS w' base top e v xss := h.below (grown_to_below hg)
theorem OwnQ.still {base : Nat} {zs : List Int} (h : OwnQ w base v zs) (hg : w.grownBy w' none) : OwnQ w' base v zs := h.below (grown_to_below hg) (Nat.le_refl _)
/-- a row of numbers just laid -/
theorem IntS.newN (w : World) (zs : List Int) (t : TypeId) {g : Nat} (hg : w.heap.size = g) (hl : zs.length ≤ 1048576) : IntS (w.alloc (.cells (zs.map (Value.int .i64)).toArray t)) g (g + 1) (.slice (some ⟨g, 0, none⟩) zs.length zs.length) zs := by
  subst hg
  refine ⟨_, _, rfl, Nat.le_refl _, by unfold maxLen; omega, fun hpos => ⟨w.heap.size, 0, rfl, Nat.le_refl _, by omega, fun j hj => ?_⟩⟩
  rw [Nat.zero_add, World.cell?_alloc_at _ _ _ _ rfl]
  refine ⟨?_, World.frozen?_alloc_at _ _ _ _ rfl⟩
  have hj' : j < zs.length := by omega
  simp [hj', nth]
theorem Net.rowIn {b off n c : Nat} {v2 v3 : Value} {N : NetD} (h : Net w lo hi (.agg #[.slice (some ⟨b, off, none⟩) n c, v2, v3]) N) {u : Nat} (hu : u < N.ends.length) :
    ∃ A4 c4, b < hi ∧ w.cell? ⟨b, off + u, none⟩ = some (.slice A4 (nthL N.ends u).length c4) ∧ (nthL N.ends u).length ≤ c4 ∧ c4 ≤ 9223372036854775807 ∧ EndS w lo hi (.slice A4 (nthL N.ends u).length c4) (nthL N.ends u) := by
  obtain ⟨b', off', A4, c4, e, h1, h2, h3, h4, h5⟩ := h.rowAt hu
  injection e with e
  injection e with e1 e2
  subst e1 e2
  exact ⟨A4, c4, h1, h2, h3, h4, h5⟩
theorem EndS.far {es : List (Int × Int)} (h : EndS w lo hi v es) (hg : w.grownBy w' row) (hB : hi ≤ w.heap.size) (hr : ∀ g, row = some g → g < lo ∨ hi ≤ g) : EndS w' lo hi v es :=
  EndS.keep h fun k h1 h2 => hg.block k (by omega) (fun e => by have := hr k e.symm; omega)
end

end Go.Proofs.YtkcbocoimbhhaaaGreat

/- The contract of slices.Backward at numbers: all come, the last first; each comes with its index. No condition on any program. -/
namespace Go.Proofs.YtkcbocoimbhhaaaGreat
open Go.RowKit Go.Shelf
attribute [local go_sem] Oper.semAt_some
set_option linter.unusedVariables false

/-- what comes: an index of the list -/
abbrev Ix (n : Nat) := { k : Nat // k < n }
/-- what a round keeps: the list's blocks and the box -/
def Kp2 (lo hi Bs : Nat) (W W' : World) : Prop := (∀ k, lo ≤ k → k < hi → W'.heap[k]? = W.heap[k]?) ∧ W'.heap[Bs]? = W.heap[Bs]?
theorem Kp2.trans {lo hi Bs : Nat} {A B C : World} (h : Kp2 lo hi Bs A B) (k : Kp2 lo hi Bs B C) : Kp2 lo hi Bs A C := ⟨fun i h1 h2 => (k.1 i h1 h2).trans (h.1 i h1 h2), k.2.trans h.2⟩
theorem Kp2.refl (lo hi Bs : Nat) (A : World) : Kp2 lo hi Bs A A := ⟨fun _ _ _ => rfl, rfl⟩
theorem Kp2.put {lo hi Bs : Nat} {w : World} (h1 : hi ≤ w.heap.size) (h2 : Bs < w.heap.size) (W : World) (l : Nat) (o o' : Obj) (hl : w.heap.size ≤ l) (ho : W.heap[l]? = some o) : Kp2 lo hi Bs W (W.putObj l o') := by
  have key : ∀ k, k ≠ l → (W.putObj l o').heap[k]? = W.heap[k]? := fun k hk => by
    simp only [World.putObj, Array.getElem?_setIfInBounds]
    rw [if_neg (fun e => hk e.symm)]
  exact ⟨fun k _ hk => key k (by omega), key Bs (by omega)⟩
theorem Kp2.grown {lo hi Bs : Nat} {w w' : World} {row : Option Nat} (hg : w.grownBy w' row) (h1 : hi ≤ w.heap.size) (h2 : Bs < w.heap.size) (hr : ∀ g, row = some g → (g < lo ∨ hi ≤ g) ∧ g ≠ Bs) : Kp2 lo hi Bs w w' :=
  ⟨fun k hk1 hk2 => hg.block k (by omega) (fun e => by have := hr k e.symm; omega), hg.block Bs h2 (fun e => (hr Bs e.symm).2 rfl)⟩
end Go.Proofs.YtkcbocoimbhhaaaGreat

/- The contract of slices.Values at numbers: all come, in order. No condition on any program. -/
namespace Go.Proofs.YtkcbocoimbhhaaaGreat
open Go.RowKit Go.Shelf
attribute [local go_sem] Oper.semAt_some
set_option linter.unusedVariables false

/-- the first k that come, of n: 0, 1, .. -/
def ups (n : Nat) : Nat → List (Ix n)
  | 0 => []
  | k + 1 => ups n k ++ (if h : k < n then [⟨k, h⟩] else [])
theorem ups_length {n : Nat} : ∀ {k : Nat}, k ≤ n → (ups n k).length = k
  | 0, _ => rfl
  | k + 1, h => by rw [ups, dif_pos (show k < n by omega), List.length_append, ups_length (show k ≤ n by omega)]; rfl
theorem ups_succ {n k : Nat} (h : k < n) : ups n (k + 1) = ups n k ++ [⟨k, h⟩] := by rw [ups, dif_pos h]

set_option maxRecDepth 100000 in
set_option maxHeartbeats 2000000 in
theorem vals1_in (n : Nat) (hn : 1 ≤ n) (l Bs lo hi : Nat) (v : Value) (zs : List Int) (hl : zs.length ≤ 1099511627776) (J Jx : List (Ix zs.length) → World → Prop)
    (hY : ∀ pre x W, J pre W → pre.length < zs.length → YieldAt Fence.wide (n - 1) Tryz.prog l #[.int .i64 (nth zs x.1)] W fun e W' =>
      (e = .returned (.bool true) ∧ J (pre ++ [x]) W' ∧ Kp2 lo hi Bs W W') ∨ (e = .returned (.bool false) ∧ Jx (pre ++ [x]) W'))
    (W : World) (hbx : BoxN W Bs #[v] 26) (hI : IntS W lo hi v zs) (h0 : J [] W) :
    CallsIn Fence.wide n Tryz.prog 105 #[.func (.yield l) #[] #[], .pointer (some ⟨Bs, 0, none⟩)] W fun e W' => (∃ v, e = .returned v) ∧
      ((∃ ys, ys = ups zs.length zs.length ∧ J ys W') ∨ (∃ pre, (∃ k, k ≤ zs.length ∧ pre = ups zs.length k) ∧ Jx pre W')) := by
  refine callsIn_of_wp Tryz.func105 rfl trivial ?_ rfl
  simp only [Tryz.ntmps105, List.size_toArray, List.length_cons, List.length_nil, Nat.reduceAdd, Nat.reduceSub, Array.replicate_succ, Array.replicate_zero, List.push_toArray, List.append_toArray, List.nil_append, List.cons_append]
  have HI := Lib.hid hI
  have HX := Lib.hid hbx
  obtain ⟨A, c, rfl, hc, hd⟩ := hI.dims
  obtain ⟨len, HLEN⟩ : ∃ m, Hid (zs.length = m) := ⟨_, Lib.hid rfl⟩
  have hl2 : len ≤ 1099511627776 := by rw [← HLEN.out]; exact hl
  have hvv : Hid (Value.slice A zs.length c = .slice A len c) := Lib.hid (by rw [HLEN.out])
  have kb : W.cell? ⟨Bs, 0, none⟩ = some (.slice A len c) := by rw [← hvv.out]; exact HX.out.cell 0 (by simp)
  clear hI hbx hl hc
  have HY := Lib.hid hY
  clear hY
  gi_wp2
  clear kb
  gi_loopw [7] (fun i wr => ∃ k : Nat, k ≤ len ∧ i = .int .i64 k ∧ J (ups zs.length k) wr ∧ Hid (Kp2 lo hi Bs W wr))
    (fun i _ => len - (intOf i).toNat)
  case atStart => exact ⟨0, Nat.zero_le _, rfl, h0, Lib.hid (Kp2.refl _ _ _ _)⟩
  case round =>
    obtain ⟨k, hk, rfl, hJs, HK⟩ := hrel
    have HI1 := Lib.hid (show IntS wr lo hi (.slice A zs.length c) zs from Sl.keep HI.out HK.out.1)
    by_cases hlt : k < len
    · have hilz : k < zs.length := by rw [HLEN.out]; exact hlt
      have hki : (k : Int) < len := by omega
      obtain ⟨b, off, rfl, _, _, hcx', _⟩ := IntS.opened HI1.out (j := k) hilz
      obtain ⟨fn, tmps, assign, body, hy, hR⟩ := HY.out _ (⟨k, hilz⟩ : Ix zs.length) wr hJs (by rw [ups_length (by rw [HLEN.out]; exact hk), HLEN.out]; exact hlt)
      dsimp only at hy
      obtain ⟨y, HYY⟩ : ∃ y, Hid (nth zs k = y) := ⟨_, Lib.hid rfl⟩
      rw [HYY.out] at hcx' hy
      gi_wp2
      refine hR.mono ?_
      rintro e W3 (⟨rfl, hJ3, hk3⟩ | ⟨rfl, hJx3⟩)
      · gi_wp2
        go_roundw
        case rel => exact ⟨k + 1, by omega, by go_num, by rw [ups_succ hilz]; exact hJ3, Lib.hid (HK.out.trans hk3)⟩
        case measure => simp [intOf] <;> omega
      · gi_wp2
        refine bodyPost_ret (results_none rfl _ _ _) rfl ?_
        exact ⟨⟨_, rfl⟩, .inr ⟨_, ⟨k + 1, by rw [HLEN.out]; omega, by rw [ups_succ hilz]⟩, hJx3⟩⟩
    · have hkl : k = zs.length := by rw [HLEN.out]; omega
      have hki : ¬ (k : Int) < len := by omega
      have HKL := Lib.hid hkl; clear hkl
      gi_wp2
      go_end0
      rw [HKL.out] at hJs
      refine ⟨⟨_, rfl⟩, .inl ?_⟩
      first | exact hJs | exact ⟨_, rfl, hJs⟩
set_option maxHeartbeats 1000000 in
theorem vals_any (A : Option Addr) (n c : Nat) (w : World) : Calls Tryz.prog 92 #[.slice A n c] w fun e w' => e = .returned (.func (.func 105) #[] #[.pointer (some ⟨w.heap.size, 0, none⟩)]) ∧ w' = w.alloc (.cells #[.slice A n c] 26) := by
  go_enter Tryz.func92, Tryz.ntmps92
  go_wp2
  go_ret
  exact ⟨rfl, rfl⟩
theorem vals_stops (n : Nat) (hn : 1 ≤ n) (Bs lo hi : Nat) (v : Value) (zs : List Int) (hl : zs.length ≤ 1099511627776) (w : World) (hB : Bs < w.heap.size) (hh : hi ≤ w.heap.size) (hbx : BoxN w Bs #[v] 26) (hI : IntS w lo hi v zs) :
    SeqStopsK Fence.wide n Tryz.prog 105 #[.pointer (some ⟨Bs, 0, none⟩)] (fun x : Ix zs.length => #[Value.int .i64 (nth zs x.1)]) (Kp2 lo hi Bs) (fun ys => ys = ups zs.length zs.length)
      (fun pre => ∃ k, k ≤ zs.length ∧ pre = ups zs.length k) zs.length w := fun l J Jx W hW _ _ hY h0 =>
  vals1_in n hn l Bs lo hi v zs hl J Jx hY W (hbx.below hW hB) (hI.below hW hh) h0

end Go.Proofs.YtkcbocoimbhhaaaGreat

/- Rows of four numbers: slices of edges in memory; the edges of a network as a list; plain laws on them. -/
namespace Go.Proofs.YtkcbocoimbhhaaaGreat
open Go.RowKit
set_option linter.unusedVariables false

/-- an edge: node and port, node and port -/
structure Quad where
  v : Int
  i : Int
  w : Int
  j : Int
def nthQ (l : List Quad) (k : Nat) : Quad := l.getD k ⟨0, 0, 0, 0⟩
theorem nthQ_eq {l : List Quad} {k : Nat} (h : k < l.length) : nthQ l k = l[k] := by simp [nthQ, h]
theorem nthQ_mem {l : List Quad} {k : Nat} (h : k < l.length) : nthQ l k ∈ l := by rw [nthQ_eq h]; exact List.getElem_mem h
def Quad.cells (q : Quad) : List Value := [.int .i64 q.v, .int .i64 q.i, .int .i64 q.w, .int .i64 q.j]
def Quad.ints (q : Quad) : List Int := [q.v, q.i, q.w, q.j]
def flatQ (l : List Quad) : List Value := l.flatMap Quad.cells
def quadCell (l : List Quad) (j : Nat) : Value := (nthQ l (j / 4)).cells.getD (j % 4) undef
theorem flatQ_get (l : List Quad) : ∀ j, j < l.length * 4 → (flatQ l)[j]? = some (quadCell l j) := by
  induction l with
  | nil => intro j hj; simp at hj
  | cons q l ih =>
    intro j hj
    have hc : flatQ (q :: l) = q.cells ++ flatQ l := rfl
    have h4 : q.cells.length = 4 := rfl
    rw [hc]
    by_cases h : j < 4
    · rw [List.getElem?_append_left (by omega)]
      unfold quadCell
      rw [show j / 4 = 0 by omega, show j % 4 = j by omega]
      have e0 : nthQ (q :: l) 0 = q := rfl
      rw [e0, List.getD_eq_getElem?_getD, List.getElem?_eq_getElem (by omega)]; rfl
    · rw [List.getElem?_append_right (by omega), h4, ih (j - 4) (by simp at hj; omega)]
      unfold quadCell
      rw [show j / 4 = (j - 4) / 4 + 1 by omega, show (j - 4) % 4 = j % 4 by omega]
      simp [nthQ]

/-- v reads as the list of edges qs -/
def QuadS (w : World) (lo hi : Nat) (v : Value) (qs : List Quad) : Prop := Sl w lo hi 4 v qs.length (quadCell qs)
/-- a row of edges that the call owns -/
def OwnQd (w : World) (base : Nat) (e : TypeId) (v : Value) (qs : List Quad) : Prop := w.ownsRow base e 4 v qs.length (flatQ qs)
section
variable {w w' : World} {lo hi lo' hi' base B l2 h2 : Nat} {v : Value} {qs : List Quad} {e : TypeId} {row : Option Nat}
theorem QuadS.dims (h : QuadS w lo hi v qs) : ∃ A c, v = .slice A qs.length c ∧ qs.length ≤ c ∧ c ≤ 9223372036854775807 := by
  obtain ⟨A, c, e, h1, h2, _⟩ := h; unfold maxLen at h2; exact ⟨A, c, e, h1, h2⟩
theorem QuadS.below (h : QuadS w lo hi v qs) (hb : Below B w w') (hB : hi ≤ B) : QuadS w' lo hi v qs := Sl.below h hb hB
theorem QuadS.turned (h : QuadS w lo hi v qs) (hb : Turned l2 h2 w w') (hB : hi ≤ w.heap.size) (hd : hi ≤ l2 ∨ h2 ≤ lo) : QuadS w' lo hi v qs := Sl.turned h hb hB hd
theorem QuadS.mono (h : QuadS w lo hi v qs) (h1 : lo' ≤ lo) (h2 : hi ≤ hi') : QuadS w lo' hi' v qs := Sl.mono h h1 h2
theorem QuadS.far (h : QuadS w lo hi v qs) (hg : w.grownBy w' row) (hB : hi ≤ w.heap.size) (hr : ∀ g, row = some g → g < lo ∨ hi ≤ g) : QuadS w' lo hi v qs :=
  Sl.keep h fun k h1 h2 => hg.block k (by omega) (fun e => by have := hr k e.symm; omega)
theorem QuadS.still (h : QuadS w lo hi v qs) (hg : w.grownBy w' none) (hB : hi ≤ w.heap.size) : QuadS w' lo hi v qs := h.far hg hB (no_row _ _)
theorem QuadS.opened {A : Option Addr} {n c : Nat} (h : QuadS w lo hi (.slice A n c) qs) {k : Nat} (hk : k < qs.length) : ∃ b off, A = some ⟨b, off, none⟩ ∧ lo ≤ b ∧ b < hi ∧
    w.cell? ⟨b, off + k * 4, none⟩ = some (.int .i64 (nthQ qs k).v) ∧ w.cell? ⟨b, off + k * 4 + 1, none⟩ = some (.int .i64 (nthQ qs k).i) ∧ w.cell? ⟨b, off + k * 4 + 2, none⟩ = some (.int .i64 (nthQ qs k).w) ∧ w.cell? ⟨b, off + k * 4 + 3, none⟩ = some (.int .i64 (nthQ qs k).j) := by
  obtain ⟨A', c', e, h1, h2, h3⟩ := h
  injection e with e1 e2 e3
  subst e1
  obtain ⟨b, off, e4, h4, h5, h6⟩ := h3 (by omega)
  have g : ∀ r, r < 4 → w.cell? ⟨b, off + k * 4 + r, none⟩ = some ((nthQ qs k).cells.getD r undef) := fun r hr => by
    have := (h6 (k * 4 + r) (by omega)).1
    unfold quadCell at this
    rw [show (k * 4 + r) / 4 = k by omega, show (k * 4 + r) % 4 = r by omega, ← Nat.add_assoc] at this
    exact this
  exact ⟨b, off, e4, h4, h5, g 0 (by omega), g 1 (by omega), g 2 (by omega), g 3 (by omega)⟩
theorem OwnQd.nil (w : World) (base : Nat) (e : TypeId) : OwnQd w base e (.slice none 0 0) [] := World.ownsRow_nil w base e 4
theorem OwnQd.lt (h : OwnQd w base e v qs) : ∀ k, v.ownBlock = some k → base ≤ k ∧ k < w.heap.size := World.ownsRow.lt h
theorem OwnQd.alloc (h : OwnQd w base e v qs) (o : Obj) : OwnQd (w.alloc o) base e v qs := World.ownsRow.alloc h o
theorem OwnQd.kept {row : Option Nat} (h : OwnQd w base e v qs) (hg : w.grownBy w' row) (hne : v.ownBlock = none ∨ v.ownBlock ≠ row) : OwnQd w' base e v qs := World.ownsRow.kept h hg hne
theorem OwnQd.still (h : OwnQd w base e v qs) (hg : w.grownBy w' none) : OwnQd w' base e v qs := h.kept hg (by
  cases hv : v.ownBlock with
  | none => exact .inl rfl
  | some g => right; simp)
theorem OwnQd.quads (h : OwnQd w base e v qs) : QuadS w base w.heap.size v qs := Sl.of_own h fun j hj => flatQ_get qs j (by omega)
end

/-- append onto a row of the call's own, the new elements' cells known -/
theorem append_row {P : Program} {ops : Array Oper} {rest : List Oper} {o : Oper} {a : Act} {Q : Exit → Act → World → Prop} {t e : TypeId} {z : Value} {sz bytes : Nat}
    (ht : P.underlying t = some (.slice e)) (hinfo : (P.info? e).map (fun i => (i.zero, i.size, i.bytes)) = some (some z, sz, bytes)) (hz1 : z.cells.size = sz) (hsz : 0 < sz) (hby : bytes ≤ 64)
    (w : World) (hgd : o.guard = none) {s : Operand} (x : Operand) (ho : o.op = .call { callee := .builtin .append, args := #[s, x], argTypes := #[t, t] })
    {base : Nat} {v : Value} {n : Nat} {xs : List Value} (hown : w.ownsRow base e sz v n xs) (hs : a.eval s = v) {ad : Addr} {m c : Nat} (news : List Value) (hx : a.eval x = .slice (some ad) m c)
    (hl : news.length = m * sz) (hnews : ∀ j u, news[j]? = some u → w.cell? (ad.add j) = some u) (h1 : ∀ u ∈ news, u.oneCell' = true)
    (hlen : n + m ≤ 1099511627776) (hbase : base ≤ w.heap.size)
    (h : ∀ v' w', w'.ownsRow base e sz v' (n + m) (xs ++ news) → w.grownBy w' v.ownBlock → (v'.ownBlock = v.ownBlock ∨ v'.ownBlock = some w.heap.size) → wpList P ops Q rest (a.put o.dst v') w') :
    wpList P ops Q (o :: rest) a w := by
  obtain ⟨i, hi, hzz⟩ := Option.map_eq_some_iff.1 hinfo
  simp only [Prod.mk.injEq] at hzz
  obtain ⟨hz, hsz2, hb⟩ := hzz
  refine wpList_append_own_at w hgd s x t ho base e i z sz bytes ht hi hz hsz2 hb hz1 hsz v n xs hs hown ad m c news hx hl hnews h1 (by unfold maxLen; omega) ?_ hbase ?_
  · have : (n + m) * bytes ≤ 1099511627776 * 64 := Nat.mul_le_mul hlen hby
    omega
  · intro v' w' a1 a2 _ a4
    exact h v' w' a1 a2 a4
/-- append of one edge, just laid in a block of its own -/
theorem append_quad {P : Program} {ops : Array Oper} {rest : List Oper} {o : Oper} {a : Act} {Q : Exit → Act → World → Prop} {t e : TypeId} {z : Value} {bytes : Nat}
    (ht : P.underlying t = some (.slice e)) (hinfo : (P.info? e).map (fun i => (i.zero, i.size, i.bytes)) = some (some z, 4, bytes)) (hz1 : z.cells.size = 4) (hby : bytes ≤ 64)
    (w : World) (hgd : o.guard = none) {s : Operand} (x : Operand) (ho : o.op = .call { callee := .builtin .append, args := #[s, x], argTypes := #[t, t] })
    {base : Nat} {v : Value} {qs : List Quad} (hown : OwnQd w base e v qs) (q : Quad) (te : TypeId) (hs : a.eval s = v) (hx : a.eval x = .slice (some ⟨w.heap.size, 0, none⟩) 1 1)
    (hlen : qs.length < 1099511627776) (hbase : base ≤ w.heap.size)
    (h : ∀ v' w', OwnQd w' base e v' (qs ++ [q]) → w.grownBy w' v.ownBlock → wpList P ops Q rest (a.put o.dst v') w') :
    wpList P ops Q (o :: rest) a (w.alloc (.cells #[.int .i64 q.v, .int .i64 q.i, .int .i64 q.w, .int .i64 q.j] te)) := by
  refine append_row ht hinfo hz1 (by omega) hby _ hgd x ho (hown.alloc _) hs q.cells hx rfl ?_ ?_ (by omega) (by simp; omega) fun v' w' a1 a2 _ => h v' w' ?_ ?_
  · intro j u hj
    rw [show (⟨w.heap.size, 0, none⟩ : Addr).add j = ⟨w.heap.size, j, none⟩ by simp [Addr.add, eq_comm], World.cell?_alloc_at _ _ _ _ rfl]
    simpa [Quad.cells] using hj
  · intro u hu
    simp only [Quad.cells, List.mem_cons, List.not_mem_nil, or_false] at hu
    rcases hu with rfl | rfl | rfl | rfl <;> rfl
  · unfold OwnQd
    have e1 : flatQ (qs ++ [q]) = flatQ qs ++ q.cells := by simp [flatQ]
    rw [e1, List.length_append]
    exact a1
  · exact ⟨a2.os, a2.tape, a2.output, Nat.le_trans (by simp) a2.size, fun k hk hne => (a2.block k (by simp; omega) hne).trans (Below.heap_alloc _ _ _ hk)⟩

/-- port i of v is the first one of its edge -/
def firstB (N : NetD) (v i : Nat) : Bool := decide ((v : Int) < (nthE (nthL N.ends v) i).1) || (decide ((v : Int) = (nthE (nthL N.ends v) i).1) && decide ((i : Int) ≤ (nthE (nthL N.ends v) i).2))
def quadAt (N : NetD) (v i : Nat) : Quad := ⟨v, i, (nthE (nthL N.ends v) i).1, (nthE (nthL N.ends v) i).2⟩
def rowE (N : NetD) (v m : Nat) : List Quad := ((List.range m).filter (firstB N v)).map (quadAt N v)
def edgesE (N : NetD) (k : Nat) : List Quad := (List.range k).flatMap fun v => rowE N v (nthL N.ends v).length
def edges (N : NetD) : List Quad := edgesE N N.ends.length
theorem rowE_zero (N : NetD) (v : Nat) : rowE N v 0 = [] := rfl
theorem rowE_yes {N : NetD} {v m : Nat} (h : firstB N v m = true) : rowE N v (m + 1) = rowE N v m ++ [quadAt N v m] := by simp [rowE, List.range_succ, h]
theorem rowE_no {N : NetD} {v m : Nat} (h : firstB N v m = false) : rowE N v (m + 1) = rowE N v m := by simp [rowE, List.range_succ, h]
theorem edgesE_succ (N : NetD) (k : Nat) : edgesE N (k + 1) = edgesE N k ++ rowE N k (nthL N.ends k).length := by simp [edgesE, List.range_succ]
theorem mem_rowE {N : NetD} {v m : Nat} {q : Quad} : q ∈ rowE N v m ↔ ∃ i, i < m ∧ firstB N v i = true ∧ q = quadAt N v i := by
  simp only [rowE, List.mem_map, List.mem_filter, List.mem_range]
  constructor
  · rintro ⟨i, ⟨h1, h2⟩, rfl⟩; exact ⟨i, h1, h2, rfl⟩
  · rintro ⟨i, h1, h2, rfl⟩; exact ⟨i, ⟨h1, h2⟩, rfl⟩
theorem mem_edges {N : NetD} {q : Quad} : q ∈ edges N ↔ ∃ v i, v < N.ends.length ∧ i < (nthL N.ends v).length ∧ firstB N v i = true ∧ q = quadAt N v i := by
  simp only [edges, edgesE, List.mem_flatMap, List.mem_range, mem_rowE]
  constructor
  · rintro ⟨v, h1, i, h2, h3, h4⟩; exact ⟨v, i, h1, h2, h3, h4⟩
  · rintro ⟨v, i, h1, h2, h3, h4⟩; exact ⟨v, h1, i, h2, h3, h4⟩
/-- an edge of a good network: its numbers, and that its two ports are joined -/
theorem edge_nat {N : NetD} (hg : N.good = true) {q : Quad} (hq : q ∈ edges N) : ∃ v i t r : Nat, q = ⟨v, i, t, r⟩ ∧ v < N.ends.length ∧ i < (nthL N.ends v).length ∧ t < N.ends.length ∧ r < (nthL N.ends t).length ∧ nthE (nthL N.ends v) i = ((t : Int), (r : Int)) ∧ nthE (nthL N.ends t) r = ((v : Int), (i : Int)) ∧ (v < t ∨ (v = t ∧ i ≤ r)) := by
  obtain ⟨v, i, h1, h2, h3, rfl⟩ := mem_edges.1 hq
  obtain ⟨t, r, e, e1, e2, e3⟩ := good_end hg h1 h2
  refine ⟨v, i, t, r, ?_, h1, h2, e1, e2, e, e3, ?_⟩
  · unfold quadAt; rw [e]
  · unfold firstB at h3; rw [e] at h3; simp at h3; omega
def stubB (q : Quad) : Bool := decide (q.v = q.w) && decide (q.i = q.j)
def NetD.stubless (N : NetD) : Bool := N.good && !(edges N).any stubB
/-- the reference's look: no port is joined with itself -/
def selfB (N : NetD) (v i : Nat) : Bool := decide (nthE (nthL N.ends v) i = ((v : Int), (i : Int)))
def noStub (N : NetD) : Bool := (List.range N.ends.length).all fun v => (List.range (nthL N.ends v).length).all fun i => !selfB N v i
theorem stub_at {N : NetD} {v i : Nat} : (firstB N v i && stubB (quadAt N v i)) = selfB N v i := by
  rw [Bool.eq_iff_iff]
  unfold firstB stubB quadAt selfB
  obtain ⟨a, b⟩ := nthE (nthL N.ends v) i
  simp
  omega
theorem noStub_eq (N : NetD) : noStub N = !(edges N).any stubB := by
  rw [Bool.eq_iff_iff, Bool.not_eq_true', Bool.eq_false_iff]
  constructor
  · intro h ha
    obtain ⟨q, hq, hs⟩ := List.any_eq_true.1 ha
    obtain ⟨v, i, h1, h2, h3, rfl⟩ := mem_edges.1 hq
    have := rangeAll_at (rangeAll_at h h1) h2
    rw [← stub_at, h3, hs] at this
    cases this
  · intro h
    refine rangeAll_true fun v hv => rangeAll_true fun i hi => ?_
    rw [Bool.not_eq_true', Bool.eq_false_iff, ← stub_at]
    intro hs
    rw [Bool.and_eq_true] at hs
    exact h (List.any_eq_true.2 ⟨_, mem_edges.2 ⟨v, i, hv, hi, hs.1, rfl⟩, hs.2⟩)
theorem stubless_good {N : NetD} (h : N.stubless = true) : N.good = true := by unfold NetD.stubless at h; rw [Bool.and_eq_true] at h; exact h.1
end Go.Proofs.YtkcbocoimbhhaaaGreat

/- Slices of slices of numbers that a call writes into: one number set, one row set. No condition on any program. -/
namespace Go.Proofs.YtkcbocoimbhhaaaGreat
open Go.RowKit
set_option linter.unusedVariables false

theorem nthL_set {α : Type} {xss : List (List α)} {a : Nat} (ha : a < xss.length) (x : List α) (j : Nat) : nthL (xss.set a x) j = if j = a then x else nthL xss j := by
  unfold nthL
  simp only [List.getD_eq_getElem?_getD, List.getElem?_set]
  by_cases e : a = j
  · subst e; simp [ha]
  · rw [if_neg e, if_neg (fun h => e h.symm)]
theorem ISSx.far {w w' : World} {lo hi : Nat} {v : Value} {xss : List (List Int)} {row : Option Nat} (h : IntSSx w lo hi v xss) (hg : w.grownBy w' row) (hB : hi ≤ w.heap.size) (hr : ∀ g, row = some g → g < lo ∨ hi ≤ g) : IntSSx w' lo hi v xss :=
  SSx.keep (fun h => IntS.far h hg hB hr) h fun k h1 h2 => hg.block k (by omega) (fun e => by have := hr k e.symm; omega)
theorem ISSx.still {w w' : World} {lo hi : Nat} {v : Value} {xss : List (List Int)} (h : IntSSx w lo hi v xss) (hg : w.grownBy w' none) (hB : hi ≤ w.heap.size) : IntSSx w' lo hi v xss := ISSx.far h hg hB (no_row _ _)
theorem ISSx.dims {w : World} {lo hi : Nat} {v : Value} {xss : List (List Int)} (h : IntSSx w lo hi v xss) : ∃ A c, v = .slice A xss.length c ∧ xss.length ≤ c ∧ c ≤ 9223372036854775807 := SS.dims h.ss
end Go.Proofs.YtkcbocoimbhhaaaGreat

/- Slices of truth values in memory; plain laws on least free numbers and on permutations. -/
namespace Go.Proofs.YtkcbocoimbhhaaaGreat
open Go.RowKit
set_option linter.unusedVariables false

def nthB (bs : List Bool) (i : Nat) : Bool := bs.getD i false
theorem nthB_eq {bs : List Bool} {i : Nat} (h : i < bs.length) : nthB bs i = bs[i] := by simp [nthB, h]
theorem nthB_set (bs : List Bool) (j i : Nat) (b : Bool) (hj : j < bs.length) : nthB (bs.set j b) i = if i = j then b else nthB bs i := by
  unfold nthB
  simp only [List.getD_eq_getElem?_getD, List.getElem?_set]
  by_cases e : j = i
  · subst e; simp [hj]
  · rw [if_neg e, if_neg (fun h => e h.symm)]
/-- v reads as the list of truth values bs -/
def BoolS (w : World) (lo hi : Nat) (v : Value) (bs : List Bool) : Prop := Sl w lo hi 1 v bs.length fun j => .bool (nthB bs j)
section
variable {w w' : World} {lo hi lo' hi' B l2 h2 : Nat} {v : Value} {bs : List Bool} {row : Option Nat}
theorem BoolS.dims (h : BoolS w lo hi v bs) : ∃ A c, v = .slice A bs.length c ∧ bs.length ≤ c ∧ c ≤ 9223372036854775807 := by
  obtain ⟨A, c, e, h1, h2, _⟩ := h; unfold maxLen at h2; exact ⟨A, c, e, h1, h2⟩
theorem BoolS.below (h : BoolS w lo hi v bs) (hb : Below B w w') (hB : hi ≤ B) : BoolS w' lo hi v bs := Sl.below h hb hB
theorem BoolS.turned (h : BoolS w lo hi v bs) (hb : Turned l2 h2 w w') (hB : hi ≤ w.heap.size) (hd : hi ≤ l2 ∨ h2 ≤ lo) : BoolS w' lo hi v bs := Sl.turned h hb hB hd
theorem BoolS.mono (h : BoolS w lo hi v bs) (h1 : lo' ≤ lo) (h2 : hi ≤ hi') : BoolS w lo' hi' v bs := Sl.mono h h1 h2
theorem BoolS.far (h : BoolS w lo hi v bs) (hg : w.grownBy w' row) (hB : hi ≤ w.heap.size) (hr : ∀ g, row = some g → g < lo ∨ hi ≤ g) : BoolS w' lo hi v bs :=
  Sl.keep h fun k h1 h2 => hg.block k (by omega) (fun e => by have := hr k e.symm; omega)
theorem BoolS.still (h : BoolS w lo hi v bs) (hg : w.grownBy w' none) (hB : hi ≤ w.heap.size) : BoolS w' lo hi v bs := h.far hg hB (no_row _ _)
theorem BoolS.at_ {b off n c : Nat} (h : BoolS w lo hi (.slice (some ⟨b, off, none⟩) n c) bs) {j : Nat} (hj : j < bs.length) : w.cell? ⟨b, off + j, none⟩ = some (.bool (nthB bs j)) ∧ w.frozen? ⟨b, off + j, none⟩ = false := by
  obtain ⟨A, c', e, _⟩ := id h
  injection e with e1 e2 e3
  subst e2
  exact Sl.at_ h (by omega)
theorem BoolS.set {b off n c : Nat} (h : BoolS w lo hi (.slice (some ⟨b, off, none⟩) n c) bs) {j : Nat} (hj : j < bs.length) (z : Bool) :
    BoolS (w.setCell ⟨b, off + j, none⟩ (.bool z)) lo hi (.slice (some ⟨b, off, none⟩) n c) (bs.set j z) := by
  obtain ⟨A, c', e, _⟩ := id h
  injection e with e1 e2 e3
  subst e2
  have := Sl.set h (j := j) (by omega) (.bool z)
  unfold BoolS
  rw [List.length_set]
  exact this.congr fun i hi => by
    rw [nthB_set _ _ _ _ hj]
    by_cases e : i = j <;> simp [e]
theorem BoolS.at0 {b n c : Nat} (h : BoolS w lo hi (.slice (some ⟨b, 0, none⟩) n c) bs) {j : Nat} (hj : j < bs.length) : w.cell? ⟨b, j, none⟩ = some (.bool (nthB bs j)) ∧ w.frozen? ⟨b, j, none⟩ = false := by
  have := h.at_ hj; rwa [Nat.zero_add] at this
theorem BoolS.set0 {b n c : Nat} (h : BoolS w lo hi (.slice (some ⟨b, 0, none⟩) n c) bs) {j : Nat} (hj : j < bs.length) (z : Bool) :
    BoolS (w.setCell ⟨b, j, none⟩ (.bool z)) lo hi (.slice (some ⟨b, 0, none⟩) n c) (bs.set j z) := by
  have := h.set hj z; rwa [Nat.zero_add] at this
theorem BoolS.opened {A : Option Addr} {n c : Nat} (h : BoolS w lo hi (.slice A n c) bs) {j : Nat} (hj : j < bs.length) : ∃ b off, A = some ⟨b, off, none⟩ ∧ lo ≤ b ∧ b < hi ∧ w.cell? ⟨b, off + j, none⟩ = some (.bool (nthB bs j)) ∧ w.frozen? ⟨b, off + j, none⟩ = false := by
  obtain ⟨A', c', e, h1, h2, h3⟩ := id h
  injection e with e1 e2 e3
  subst e1
  obtain ⟨b, off, e4, h4, h5, h6⟩ := h3 (by omega)
  exact ⟨b, off, e4, h4, h5, h6 j (by omega)⟩
theorem BoolS.of_row {b n : Nat} {t : TypeId} (h : w.rowIs b t n (fun j => .bool (nthB bs j))) (hn : bs.length = n) (hm : n ≤ maxLen) : BoolS w b (b + 1) (.slice (some ⟨b, 0, none⟩) n n) bs := by
  subst hn
  refine ⟨_, _, rfl, Nat.le_refl _, hm, fun hpos => ⟨b, 0, rfl, Nat.le_refl _, by omega, fun j hj => ?_⟩⟩
  rw [Nat.zero_add]
  exact ⟨h.cell (by omega), h.frozen j⟩
end
/-- rows just made -/
theorem made_ints (w : World) (n : Nat) (t : TypeId) {g : Nat} (hg : w.heap.size = g) (hn : n ≤ 1099511627776) : IntS (w.alloc (.cells (madeCells #[.int .i64 0] n) t)) g (g + 1) (.slice (some ⟨g, 0, none⟩) n n) (List.replicate n 0) := by
  subst hg
  exact IntS.of_row (t := t) ((World.rowIs_made w (.int .i64 0) n t).congr fun j hj => by rw [nth_replicate _ _ hj]) (by simp) (by unfold maxLen; omega)
end Go.Proofs.YtkcbocoimbhhaaaGreat

/- Contracts: the edges of a network (program and reference), stubs, and that a network has none. -/
namespace Go.Proofs.YtkcbocoimbhhaaaGreat
open Go.ChangeShapes Go.WideShapes Go.ChangeAt Go.RowKit
set_option linter.unusedVariables false

theorem Tryz.infoEdge : (Tryz.prog.info? 84).map (fun i => (i.zero, i.size, i.bytes)) = some (some (.agg #[.int .i64 0, .int .i64 0, .int .i64 0, .int .i64 0]), 4, 32) := by kernel_rfl
set_option maxHeartbeats 4000000 in
set_option maxRecDepth 100000 in
theorem edges_any (v1 : Value) (N : NetD) (lo1 hi1 : Nat) (w : World) (h1 : Net w lo1 hi1 v1 N) (hh1 : hi1 ≤ w.heap.size) (hg : N.good = true) :
    Calls Tryz.prog 63 #[v1] w fun e w' => ∃ r, e = .returned (r) ∧ QuadS w' w.heap.size w'.heap.size r (edges N) ∧ Below w.heap.size w w' := by
  obtain ⟨n1, n40⟩ := good_n hg
  have HG := Lib.hid hg; clear hg
  have F1 := Lib.hid h1
  obtain ⟨A1, c1, A1', c1', A1'', c1'', rfl, hc1, hd1, _⟩ := h1.parts
  obtain ⟨b1, o1, _, _, rfl, _⟩ := Net.rowAt F1.out (u := 0) (by omega)
  clear h1
  obtain ⟨WA, HWA⟩ : ∃ W, Hid (W = (w.alloc (.cells #[.slice (some ⟨b1, o1, none⟩) N.ends.length c1, .slice A1' N.ids.length c1', .slice A1'' N.inputs.length c1''] 38))) := ⟨_, Lib.hid rfl⟩
  have hbA : Below w.heap.size w WA := by rw [HWA.out]; exact ((Below.refl _ _).alloc (Nat.le_refl _) _)
  have hsA : w.heap.size + 1 ≤ WA.heap.size := by rw [HWA.out]; simp; try omega
  have bx1 : BoxN WA (w.heap.size) #[.slice (some ⟨b1, o1, none⟩) N.ends.length c1, .slice A1' N.ids.length c1', .slice A1'' N.inputs.length c1''] 38 := by rw [HWA.out]; exact (BoxN.new' _ _ _ (by simp))
  have G1 := Lib.hid (Net.below F1.out hbA hh1); clear F1
  go_enter Tryz.func63, Tryz.ntmps63
  go_upto_region 1 with (fail)
  rw [← HWA.out]; clear HWA
  have kbx1_0 : WA.cell? ⟨w.heap.size, 0, none⟩ = some (.slice (some ⟨b1, o1, none⟩) N.ends.length c1) := bx1.cell 0 (by simp)
  have kbx1_1 : WA.cell? ⟨w.heap.size, 1, none⟩ = some (.slice A1' N.ids.length c1') := bx1.cell 1 (by simp)
  have kbx1_2 : WA.cell? ⟨w.heap.size, 2, none⟩ = some (.slice A1'' N.inputs.length c1'') := bx1.cell 2 (by simp)
  go_wp2_with fail
  clear kbx1_0 kbx1_1 kbx1_2
  go_loopw [11, 3] (fun i ov wr => ∃ (k : Nat) (qs : List Quad), k ≤ N.ends.length ∧ i = .int .i64 k ∧ OwnQd wr WA.heap.size 84 ov qs ∧ Hid (qs = edgesE N k) ∧ qs.length ≤ 6 * k ∧ Hid (Turned WA.heap.size WA.heap.size WA wr)) (fun i ov _ => N.ends.length - (intOf i).toNat)
  case atStart => exact ⟨0, [], Nat.zero_le _, rfl, OwnQd.nil _ _ _, Lib.hid rfl, Nat.zero_le _, Lib.hid (Turned.refl WA.heap.size WA.heap.size WA)⟩
  case round =>
    obtain ⟨k, qs, hk, rfl, ho, HD, hl, HF1⟩ := hrel
    have hs1 := HF1.out.size
    by_cases hlt : k < N.ends.length
    case neg =>
      obtain rfl : k = N.ends.length := by omega
      go_wp2_with fail
      go_ret
      refine ⟨_, rfl, ?_, (HF1.out.below_of hbA (by omega) (by omega))⟩
      have e : edges N = qs := HD.out.symm
      rw [e]
      exact ho.quads.mono (by omega) (Nat.le_refl _)
    obtain ⟨Ar, cr, hbr, qr, hcr, hdr, hRr⟩ := Net.rowIn G1.out hlt
    replace qr := (HF1.out.cell (by omega) (by omega)).trans qr
    have Rr := Lib.hid hRr; clear hRr
    have hd6 := good_deg HG.out hlt
    obtain ⟨wo, rfl⟩ : ∃ wo : World, wo = wr := ⟨_, rfl⟩
    go_wp2_with fail
    clear qr
    go_loopw [18, 3] (fun i ov wi => ∃ (m : Nat) (qs : List Quad), m ≤ (nthL N.ends k).length ∧ i = .int .i64 m ∧ OwnQd wi WA.heap.size 84 ov qs ∧ Hid (qs = edgesE N k ++ rowE N k m) ∧ qs.length ≤ 6 * k + m ∧ Hid (Turned WA.heap.size WA.heap.size WA wi)) (fun i ov _ => (nthL N.ends k).length - (intOf i).toNat)
    case atStart => exact ⟨0, qs, Nat.zero_le _, rfl, ho, Lib.hid (by rw [HD.out, rowE_zero, List.append_nil]), hl, HF1⟩
    case round =>
      clear HF1
      obtain ⟨m, qs, hm, rfl, ho, HE, hl, HF2⟩ := hrel
      have hs2 := HF2.out.size
      by_cases hml : m < (nthL N.ends k).length
      case neg =>
        obtain rfl : m = (nthL N.ends k).length := by omega
        go_wp2_with fail
        go_roundw
        case rel => exact ⟨k + 1, _, by omega, by go_num, ho, Lib.hid (by rw [HE.out, edgesE_succ]), by omega, HF2⟩
        case measure => simp [intOf]; omega
      obtain ⟨br, or, rfl, _, hbr', er, er'⟩ := (EndS.turned Rr.out HF2.out (by omega) (by omega)).opened hml
      obtain ⟨t, r, etr, ht, hr, eur⟩ := good_end HG.out hlt hml
      rw [etr] at er er'
      dsimp only at er er'
      have ETr := Lib.hid etr
      have EUr := Lib.hid eur
      clear etr eur
      by_cases d1 : k < t
      case pos =>
        go_wp2_with (at_builtin; refine append_quad (s := .tmp 39) Tryz.underlying82 Tryz.infoEdge rfl (by decide) (wr.alloc (.cells #[.int .i64 t, .int .i64 r] 72)) rfl _ rfl (OwnQd.alloc ho _) ⟨k, m, t, r⟩ _ rfl (by simp [Act.eval, go_sem]) (by omega) (by simp; omega) ?_; intro v' w' ho' hg')
        go_roundw
        case rel =>
          have hgs := hg'.size
          refine ⟨m + 1, _, by omega, by go_num, ho', Lib.hid ?_, by simp; omega, Lib.hid ((HF2.out.still (grown_alloc _ _)).grown hg' fun g hg => .inr (by have := ho.lt g hg; omega))⟩
          rw [HE.out, List.append_assoc, rowE_yes (by unfold firstB; rw [ETr.out]; simp; omega)]
          unfold quadAt; rw [ETr.out]
        case measure => simp [intOf]; omega
      by_cases d2 : k = t
      case neg =>
        have c2' : ((k : Int) == (t : Int)) = false := by simp; omega
        go_wp2_with fail
        go_roundw
        case rel => exact ⟨m + 1, _, by omega, by go_num, ho.still (grown_alloc _ _), Lib.hid (by rw [HE.out, rowE_no (by unfold firstB; rw [ETr.out]; simp; omega)]), by omega, Lib.hid (HF2.out.still (grown_alloc _ _))⟩
        case measure => simp [intOf]; omega
      have c2' : ((k : Int) == (t : Int)) = true := by simp; omega
      have C2 := Lib.hid d2; clear d2
      have d4 : t ≤ k := by omega
      by_cases d3 : m ≤ r
      case pos =>
        go_wp2_with (at_builtin; refine append_quad (s := .tmp 39) Tryz.underlying82 Tryz.infoEdge rfl (by decide) (wr.alloc (.cells #[.int .i64 t, .int .i64 r] 72)) rfl _ rfl (OwnQd.alloc ho _) ⟨k, m, t, r⟩ _ rfl (by simp [Act.eval, go_sem]) (by omega) (by simp; omega) ?_; intro v' w' ho' hg')
        go_roundw
        case rel =>
          have hgs := hg'.size
          refine ⟨m + 1, _, by omega, by go_num, ho', Lib.hid ?_, by simp; omega, Lib.hid ((HF2.out.still (grown_alloc _ _)).grown hg' fun g hg => .inr (by have := ho.lt g hg; omega))⟩
          rw [HE.out, List.append_assoc, rowE_yes (by unfold firstB; rw [ETr.out]; simp; have := C2.out; omega)]
          unfold quadAt; rw [ETr.out]
        case measure => simp [intOf]; omega
      go_wp2_with fail
      go_roundw
      case rel => exact ⟨m + 1, _, by omega, by go_num, ho.still (grown_alloc _ _), Lib.hid (by rw [HE.out, rowE_no (by unfold firstB; rw [ETr.out]; simp; have := C2.out; omega)]), by omega, Lib.hid (HF2.out.still (grown_alloc _ _))⟩
      case measure => simp [intOf]; omega

end Go.Proofs.YtkcbocoimbhhaaaGreat

/- Contracts of slices.IndexFunc and slices.ContainsFunc at edges, ends and rows; a function value's contract is asked at each place. -/
namespace Go.Proofs.YtkcbocoimbhhaaaGreat
open Go.ChangeShapes Go.WideShapes Go.ChangeAt Go.RowKit
set_option linter.unusedVariables false

/-- the first number below n that a predicate takes, or -1 -/
def fidxN (p : Nat → Bool) (n : Nat) : Int := if (List.range n).any p then ((List.range n).findIdx p : Int) else -1
theorem fidxN_hit {p : Nat → Bool} {n k : Nat} (hk : k < n) (h : p k = true) (hb : ∀ j, j < k → p j = false) : fidxN p n = k := by
  have ha : (List.range n).any p = true := List.any_eq_true.2 ⟨k, List.mem_range.2 hk, h⟩
  unfold fidxN
  rw [if_pos ha]
  have : (List.range n).findIdx p = k := by
    rw [List.findIdx_eq (by simpa using hk)]
    refine ⟨by simpa using h, fun j hj => ?_⟩
    have := hb j hj
    simpa using this
  rw [this]
theorem fidxN_none {p : Nat → Bool} {n : Nat} (h : ∀ j, j < n → p j = false) : fidxN p n = -1 := by
  unfold fidxN
  rw [if_neg]
  intro ha
  obtain ⟨x, hx, hp⟩ := List.any_eq_true.1 ha
  have := h x (List.mem_range.1 hx)
  rw [hp] at this
  cases this
theorem fidxN_any (p : Nat → Bool) (n : Nat) : decide (0 ≤ fidxN p n) = (List.range n).any p := by
  unfold fidxN
  split
  · rename_i h; rw [h]; simp
  · rename_i h; rw [Bool.not_eq_true] at h; rw [h]; rfl
theorem IndexFunc_edge (f : Nat) (caps : Array Value) (eg : ∀ args w, (callFunc f args).run Tryz.prog w = .ok (.enter f args) w) (p : Nat → Bool) (v : Value) (qs : List Quad) (lo hi : Nat) (w : World) (h : QuadS w lo hi v qs) (hhi : hi ≤ w.heap.size)
    (hp : ∀ k, k < qs.length → ∀ W, Below w.heap.size w W → Calls Tryz.prog f (#[.agg #[.int .i64 (nthQ qs k).v, .int .i64 (nthQ qs k).i, .int .i64 (nthQ qs k).w, .int .i64 (nthQ qs k).j]] ++ caps) W fun e w' => e = .returned (.bool (p k)) ∧ Below W.heap.size W w') :
    Calls Tryz.prog 89 #[v, .func (.func f) #[] caps] w fun e w' => e = .returned (.int .i64 (fidxN p qs.length)) ∧ Below w.heap.size w w' := by
  obtain ⟨A, c, rfl, hc1, hc2⟩ := h.dims
  have HP := Lib.hid hp
  clear hp
  go_enter Tryz.func89, Tryz.ntmps89
  go_wp2
  go_loopw [8] (fun i wr => ∃ k : Nat, k ≤ qs.length ∧ i = .int .i64 k ∧ Hid (∀ j, j < k → p j = false) ∧ Below w.heap.size w wr) (fun i _ => qs.length - (intOf i).toNat)
  case atStart => exact ⟨0, Nat.zero_le _, rfl, Lib.hid fun j hj => absurd hj (by omega), Below.refl _ _⟩
  case round =>
    obtain ⟨k, hk, rfl, HU, hb⟩ := hrel
    have hs0 := hb.size
    by_cases hlt : k < qs.length
    · obtain ⟨b, off, rfl, hb1, hb2, z1, z2, z3, z4⟩ := (h.below hb hhi).opened hlt
      cases hq : p k with
      | true =>
        have HC := Lib.hid (HP.out k hlt wr hb)
        rw [hq] at HC
        have HQ := Lib.hid hq
        clear hq
        go_wp2_with (go_at_fn f; refine HC.out.mono ?_; rintro e w' ⟨rfl, hb'⟩)
        go_ret
        exact ⟨ret_int (fidxN_hit hlt HQ.out HU.out).symm, hb.trans (hb'.mono hs0)⟩
      | false =>
        have HC := Lib.hid (HP.out k hlt wr hb)
        rw [hq] at HC
        have HQ := Lib.hid hq
        clear hq
        go_wp2_with (go_at_fn f; refine HC.out.mono ?_; rintro e w' ⟨rfl, hb'⟩)
        go_roundw
        case rel =>
          refine ⟨k + 1, by omega, by go_num, Lib.hid fun j hj => ?_, hb.trans (hb'.mono hs0)⟩
          by_cases e : j = k
          · rw [e]; exact HQ.out
          · exact HU.out j (by omega)
        case measure => simp [intOf]; omega
    · obtain rfl : k = qs.length := by omega
      go_wp2
      go_ret
      exact ⟨ret_int (fidxN_none HU.out).symm, hb⟩

theorem ContainsFunc_edge (f : Nat) (caps : Array Value) (eg : ∀ args w, (callFunc f args).run Tryz.prog w = .ok (.enter f args) w) (p : Nat → Bool) (v : Value) (qs : List Quad) (lo hi : Nat) (w : World) (h : QuadS w lo hi v qs) (hhi : hi ≤ w.heap.size)
    (hp : ∀ k, k < qs.length → ∀ W, Below w.heap.size w W → Calls Tryz.prog f (#[.agg #[.int .i64 (nthQ qs k).v, .int .i64 (nthQ qs k).i, .int .i64 (nthQ qs k).w, .int .i64 (nthQ qs k).j]] ++ caps) W fun e w' => e = .returned (.bool (p k)) ∧ Below W.heap.size W w') :
    Calls Tryz.prog 62 #[v, .func (.func f) #[] caps] w fun e w' => e = .returned (.bool ((List.range qs.length).any p)) ∧ Below w.heap.size w w' := by
  have HC := Lib.hid (IndexFunc_edge f caps eg p v qs lo hi w h hhi hp)
  obtain ⟨A, c, rfl, hc1, hc2⟩ := h.dims
  clear hp h eg
  go_enter Tryz.func62, Tryz.ntmps62
  go_wp2_with (go_at_call 89; refine HC.out.mono ?_; rintro e w' ⟨rfl, hb'⟩)
  go_ret
  exact ⟨ret_bool (fidxN_any p _), hb'⟩

end Go.Proofs.YtkcbocoimbhhaaaGreat

/- Contract of the program's IsNetwork. -/
namespace Go.Proofs.YtkcbocoimbhhaaaGreat
open Go.ChangeShapes Go.WideShapes Go.ChangeAt Go.RowKit
set_option linter.unusedVariables false

theorem hasPort_is (v : Value) (N : NetD) (x i : Int) (b : Bool) (hb : N.port x i = b) (lo hi : Nat) (w : World) (h : Net w lo hi v N) (hhi : hi ≤ w.heap.size) :
    Calls Tryz.prog 58 #[v, .int .i64 x, .int .i64 i] w fun e w' => e = .returned (.bool b) ∧ Below w.heap.size w w' := by
  rw [← hb]; exact hasPort_any v N x i lo hi w h hhi

set_option maxHeartbeats 4000000 in
set_option maxRecDepth 100000 in
theorem IsNetwork_any (v : Value) (N : NetD) (lo hi : Nat) (w : World) (h : Net w lo hi v N) (hhi : hi ≤ w.heap.size) (hsz : N.sz ≤ 1048576) :
    Calls Tryz.prog 29 #[v] w fun e w' => e = .returned (.bool N.good) ∧ Below w.heap.size w w' := by
  unfold NetD.sz at hsz
  have HNET := Lib.hid h
  obtain ⟨ve, vi, vn, rfl, he, hi1, hn1⟩ := h
  obtain ⟨A, c, rfl, hc1, hc2, hcell⟩ := he.form
  unfold maxLen at hc2
  have hle : N.ends.length ≤ 1048576 := by unfold szSS at hsz; omega
  obtain ⟨A2, c2, rfl⟩ := hi1.shape
  obtain ⟨A3, c3, rfl⟩ := hn1.shape
  have HI0 := Lib.hid hi1
  have HN0 := Lib.hid hn1
  obtain ⟨W0, HW0⟩ : ∃ W0, Hid (W0 = w.alloc (.cells #[.slice A N.ends.length c, .slice A2 N.ids.length c2, .slice A3 N.inputs.length c3] 38)) := ⟨_, Lib.hid rfl⟩
  have b0 : Box3 W0 w.heap.size 38 (.slice A N.ends.length c) (.slice A2 N.ids.length c2) (.slice A3 N.inputs.length c3) := by rw [HW0.out]; exact Box3.new w 38 _ _ _
  have hb0 : Below w.heap.size w W0 := by rw [HW0.out]; exact below_a1 _ _
  have hs0 : w.heap.size + 1 ≤ W0.heap.size := by rw [HW0.out]; simp
  clear he hi1 hn1
  by_cases g1 : inB N.ends.length 1 40 = true
  case neg =>
    have g1' : inB N.ends.length 1 40 = false := by simpa using g1
    clear g1 hcell b0
    go_enter Tryz.func29, Tryz.ntmps29
    go_wp2_with (go_at_call 55; refine (within_any _ _ _ _).mono ?_; rintro e w' ⟨rfl, rfl⟩)
    go_ret
    exact ⟨ret_bool (good_head (by unfold NetD.headOk; rw [g1']; rfl)).symm, below_a1 _ _⟩
  obtain ⟨n1, n40⟩ := inB_le g1
  obtain ⟨b, off, rfl, hb1, hb2, hcs⟩ := hcell (by omega)
  have HCS := Lib.hid hcs
  clear hcell hcs
  go_enter Tryz.func29, Tryz.ntmps29
  go_wp2_with (go_at_call 55; refine (within_any _ _ _ _).mono ?_; rintro e w' ⟨rfl, rfl⟩)
  rw [← HW0.out]
  clear HW0
  refine (idsOk_any _ N.ids _ lo hi _ (HI0.out.below hb0 hhi) (by omega) (by omega)).mono ?_
  rintro e w1 ⟨rfl, hb1'⟩
  have hs1 := hb1'.size
  have b1 := b0.below hb1' (by omega)
  have hw1 := hb0.trans (hb1'.mono (by omega))
  clear b0 hb0 hb1'
  by_cases g2 : idsGood N.ids N.ends.length = true
  case neg =>
    have g2' : idsGood N.ids N.ends.length = false := by simpa using g2
    rw [g2']
    go_wp2_with fail
    go_ret
    exact ⟨ret_bool (good_head (by unfold NetD.headOk; rw [g2']; simp)).symm, hw1⟩
  rw [g2]
  obtain ⟨c1', c2', c3'⟩ := b1.cells
  go_wp2_with fail
  clear c1' c2' c3'
  refine (inputsOk_any _ N.inputs _ lo hi _ (HN0.out.below hw1 hhi) (by omega)).mono ?_
  rintro e w2 ⟨rfl, hb2'⟩
  have hs2 := hb2'.size
  have b2 := b1.below hb2' (by omega)
  have hw2 := hw1.trans (hb2'.mono (by omega))
  clear b1 hw1 hb2'
  by_cases g3 : insGood N.inputs N.ends.length = true
  case neg =>
    have g3' : insGood N.inputs N.ends.length = false := by simpa using g3
    rw [g3']
    go_wp2_with fail
    go_ret
    exact ⟨ret_bool (good_head (by unfold NetD.headOk; rw [g3']; simp)).symm, hw2⟩
  rw [g3]
  have HD := Lib.hid (show N.headOk = true by unfold NetD.headOk; rw [g1, g2, g3]; rfl)
  have d1' := b2.cells.1
  go_wp2_with fail
  clear d1'
  go_loopw [33] (fun i wr => ∃ k : Nat, k ≤ N.ends.length ∧ i = .int .i64 k ∧ Hid (∀ j, j < k → N.rowOk j = true) ∧ Box3 wr w.heap.size 38 (.slice (some ⟨b, off, none⟩) N.ends.length c) (.slice A2 N.ids.length c2) (.slice A3 N.inputs.length c3) ∧ Below w.heap.size w wr) (fun i _ => N.ends.length - (intOf i).toNat)
  case atStart => exact ⟨0, Nat.zero_le _, rfl, Lib.hid fun j hj => absurd hj (by omega), b2, hw2⟩
  case round =>
    clear b2 hw2
    obtain ⟨k, hk, rfl, HU, hbx, hb⟩ := hrel
    have hs0 := hb.size
    by_cases hlt : k < N.ends.length
    case neg =>
      obtain rfl : k = N.ends.length := by omega
      go_wp2
      go_ret
      exact ⟨ret_bool (good_yes HD.out HU.out).symm, hb⟩
    obtain ⟨u, hu, hR⟩ := HCS.out k hlt
    obtain ⟨A4, c4, rfl, hd1, hd2, hcell4⟩ := hR.form
    unfold maxLen at hd2
    have hck := (hb.cell (p := ⟨b, off + k, none⟩) (by show b < _; omega)).trans hu
    have HC4 := Lib.hid hcell4
    clear hu hcell4 hR
    by_cases hl6 : (nthL N.ends k).length ≤ 6
    case neg =>
      have hl6' : (6 : Int) < (nthL N.ends k).length := by omega
      go_wp2
      go_ret
      exact ⟨ret_bool (good_row hlt (row_wide (by omega))).symm, hb⟩
    obtain ⟨wo, rfl⟩ : ∃ wo : World, wo = wr := ⟨_, rfl⟩
    go_wp2
    go_loopw [43] (fun i wi => ∃ m : Nat, m ≤ (nthL N.ends k).length ∧ i = .int .i64 m ∧ Hid (∀ j, j < m → N.endOk k j = true) ∧ Box3 wi w.heap.size 38 (.slice (some ⟨b, off, none⟩) N.ends.length c) (.slice A2 N.ids.length c2) (.slice A3 N.inputs.length c3) ∧ Below w.heap.size w wi) (fun i _ => (nthL N.ends k).length - (intOf i).toNat)
    case atStart => exact ⟨0, Nat.zero_le _, rfl, Lib.hid fun j hj => absurd hj (by omega), hbx, hb⟩
    case round =>
      clear hbx hb hck
      obtain ⟨m, hm, rfl, HV, hbx, hb⟩ := hrel
      have hs1 := hb.size
      by_cases hml : m < (nthL N.ends k).length
      case neg =>
        obtain rfl : m = (nthL N.ends k).length := by omega
        go_wp2
        go_roundw
        case rel =>
          refine ⟨k + 1, by omega, by go_num, Lib.hid fun j hj => ?_, hbx, hb⟩
          by_cases e : j = k
          · subst e; exact row_yes hl6 HV.out
          · exact HU.out j (by omega)
        case measure => simp [intOf]; omega
      obtain ⟨b4, off4, rfl, hb5, hb6, hcs4⟩ := HC4.out (by omega)
      obtain ⟨x1, x2⟩ := hcs4 m hml
      have e1 := (hb.cell (p := ⟨b4, off4 + m * 2, none⟩) (by show b4 < _; omega)).trans x1
      have e2 := (hb.cell (p := ⟨b4, off4 + m * 2 + 1, none⟩) (by show b4 < _; omega)).trans x2
      clear hcs4 x1 x2
      obtain ⟨p1, p2, HP⟩ : ∃ p1 p2, Hid (nthE (nthL N.ends k) m = (p1, p2)) := ⟨_, _, Lib.hid rfl⟩
      rw [HP.out] at e1 e2
      dsimp only at e1 e2
      obtain ⟨W, HW⟩ : ∃ W, Hid (W = wr.alloc (.cells #[.int .i64 p1, .int .i64 p2] 72)) := ⟨_, Lib.hid rfl⟩
      have hbW : Below w.heap.size w W := by rw [HW.out]; exact hb.alloc hs1 _
      have hbxW : Box3 W w.heap.size 38 (.slice (some ⟨b, off, none⟩) N.ends.length c) (.slice A2 N.ids.length c2) (.slice A3 N.inputs.length c3) := by rw [HW.out]; exact hbx.alloc _
      have hsW : W.heap.size = wr.heap.size + 1 := by rw [HW.out]; simp
      have o0 : W.cell? ⟨wr.heap.size, 0, none⟩ = some (.int .i64 p1) := by rw [HW.out, World.cell?_alloc_at _ _ _ _ rfl]; rfl
      have o1 : W.cell? ⟨wr.heap.size, 1, none⟩ = some (.int .i64 p2) := by rw [HW.out, World.cell?_alloc_at _ _ _ _ rfl]; rfl
      have NW := Lib.hid (HNET.out.below hbW hhi)
      have hsW' : w.heap.size + 1 ≤ W.heap.size := by have := hbx.lt; omega
      have r0 := ext_cell W (a := ⟨w.heap.size, 0, none⟩) (by show w.heap.size < W.heap.size; omega) hbxW.cells.1
      have r1 := ext_cell W (a := ⟨w.heap.size, 1, none⟩) (by show w.heap.size < W.heap.size; omega) hbxW.cells.2.1
      have r2 := ext_cell W (a := ⟨w.heap.size, 2, none⟩) (by show w.heap.size < W.heap.size; omega) hbxW.cells.2.2
      have r3 := ext_cell W (a := ⟨wr.heap.size, 0, none⟩) (by show wr.heap.size < W.heap.size; omega) o0
      have r4 := ext_cell W (a := ⟨wr.heap.size, 1, none⟩) (by show wr.heap.size < W.heap.size; omega) o1
      have HSW := Lib.hid hsW
      clear hsW o0 o1
      by_cases k1 : N.port p1 p2 = true
      case neg =>
        have k1' : N.port p1 p2 = false := by simpa using k1
        have K1 := Lib.hid k1'
        clear k1 k1'
        go_wp2
        rw [← HW.out]
        refine wp_region_ext (by kernel_rfl) (by kernel_rfl) ?_
        repeat (go_big_quiet_step ((go_at_call 58; exact ext_call (hasPort_is _ N _ _ false K1.out lo hi _ (NW.out.below (ext_below _ _) (by omega)) (Nat.le_trans (by omega) (ext_size _ _))))))
        refine wpQuiet_nil ?_
        intro _ hw'
        obtain ⟨px, hw''⟩ := hw'
        subst hw''
        go_wp2
        go_ret
        exact ⟨ret_bool (good_row hlt (row_end hml (by unfold NetD.endOk; rw [HP.out]; dsimp only; rw [K1.out]; rfl))).symm, hbW.trans ((ext_below _ _).mono (by omega))⟩
      have K1 := Lib.hid k1
      unfold NetD.port at k1
      rw [Bool.and_eq_true] at k1
      obtain ⟨k1a, k1b⟩ := k1
      obtain ⟨y1, y2⟩ := inB_le k1a
      obtain ⟨t, rfl⟩ : ∃ t : Nat, p1 = t := ⟨p1.toNat, by omega⟩
      rw [Int.toNat_natCast] at k1b
      obtain ⟨z1, z2⟩ := inB_le k1b
      obtain ⟨r, rfl⟩ : ∃ r : Nat, p2 = r := ⟨p2.toNat, by omega⟩
      have htl : t < N.ends.length := by omega
      obtain ⟨u5, hu5, hR5⟩ := HCS.out t htl
      obtain ⟨A5, c5, rfl, hf1, hf2, hcell5⟩ := hR5.form
      unfold maxLen at hf2
      have hrl : r < (nthL N.ends t).length := by omega
      have hti : (t : Int) < N.ends.length := by omega
      have hri : (r : Int) < (nthL N.ends t).length := by omega
      obtain ⟨b6, off6, rfl, hb7, hb8, hcs6⟩ := hcell5 (by omega)
      obtain ⟨f1, f2⟩ := hcs6 r hrl
      have q5 := ext_cell W (a := ⟨b, off + t, none⟩) (by show b < W.heap.size; omega) ((hbW.cell (p := ⟨b, off + t, none⟩) (by show b < _; omega)).trans hu5)
      have d1 := ext_cell W (a := ⟨b6, off6 + r * 2, none⟩) (by show b6 < W.heap.size; omega) ((hbW.cell (p := ⟨b6, off6 + r * 2, none⟩) (by show b6 < _; omega)).trans f1)
      have d2 := ext_cell W (a := ⟨b6, off6 + r * 2 + 1, none⟩) (by show b6 < W.heap.size; omega) ((hbW.cell (p := ⟨b6, off6 + r * 2 + 1, none⟩) (by show b6 < _; omega)).trans f2)
      obtain ⟨s1, s2, HQ⟩ : ∃ s1 s2, Hid (nthE (nthL N.ends t) r = (s1, s2)) := ⟨_, _, Lib.hid rfl⟩
      rw [HQ.out] at d1 d2
      dsimp only at d1 d2
      clear f1 f2 hcs6 hcell5 hu5 hR5 k1a k1b
      by_cases k3 : ((s1, s2) : Int × Int) = ((k : Int), (m : Int))
      case neg =>
        have k3' : ∀ w, (binOp .neq 72 (.agg #[.int .i64 s1, .int .i64 s2]) (.agg #[.int .i64 k, .int .i64 m])).run Tryz.prog w = .ok (.bool true) w := fun w => by
          rw [neq_end, show (!(s1 == (k : Int) && s2 == (m : Int))) = true by
            rw [Bool.not_eq_true', Bool.and_eq_false_iff]; simp only [Prod.mk.injEq] at k3; by_cases q : s1 = (k : Int)
            · right; simpa using fun e => k3 ⟨q, e⟩
            · left; simpa using q]
        have K3 := Lib.hid k3
        clear k3
        go_wp2
        rw [← HW.out]
        refine wp_region_ext (by kernel_rfl) (by kernel_rfl) ?_
        repeat (go_big_quiet_step ((go_at_call 58; exact ext_call (hasPort_is _ N _ _ true K1.out lo hi _ (NW.out.below (ext_below _ _) (by omega)) (Nat.le_trans (by omega) (ext_size _ _))))))
        refine wpQuiet_nil ?_
        intro _ hw'
        obtain ⟨px, hw''⟩ := hw'
        subst hw''
        go_wp2
        go_ret
        exact ⟨ret_bool (good_row hlt (row_end hml (by unfold NetD.endOk; rw [HP.out]; dsimp only; rw [Int.toNat_natCast, Int.toNat_natCast, HQ.out, decide_eq_false K3.out, Bool.and_false]))).symm, hbW.trans ((ext_below _ _).mono (by omega))⟩
      have k3' : ∀ w, (binOp .neq 72 (.agg #[.int .i64 s1, .int .i64 s2]) (.agg #[.int .i64 k, .int .i64 m])).run Tryz.prog w = .ok (.bool false) w := fun w => by
        simp only [Prod.mk.injEq] at k3
        rw [neq_end, k3.1, k3.2]; simp
      have K3 := Lib.hid k3
      clear k3
      go_wp2
      rw [← HW.out]
      refine wp_region_ext (by kernel_rfl) (by kernel_rfl) ?_
      repeat (go_big_quiet_step ((go_at_call 58; exact ext_call (hasPort_is _ N _ _ true K1.out lo hi _ (NW.out.below (ext_below _ _) (by omega)) (Nat.le_trans (by omega) (ext_size _ _))))))
      refine wpQuiet_nil ?_
      intro _ hw'
      obtain ⟨px, hw''⟩ := hw'
      subst hw''
      go_wp2
      go_roundw
      case rel =>
        refine ⟨m + 1, by omega, by go_num, Lib.hid fun j hj => ?_, hbxW.below (ext_below _ _) (by omega), hbW.trans ((ext_below _ _).mono (by omega))⟩
        by_cases e : j = m
        · subst e
          unfold NetD.endOk
          rw [HP.out]
          dsimp only
          rw [Int.toNat_natCast, Int.toNat_natCast, HQ.out, decide_eq_true K3.out, Bool.and_true]
          exact K1.out
        · exact HV.out j (by omega)
      case measure => simp [intOf]; omega

end Go.Proofs.YtkcbocoimbhhaaaGreat

/- Contracts: stubs; that a network has no stubs (program and reference); the reference's edges. -/
namespace Go.Proofs.YtkcbocoimbhhaaaGreat
open Go.ChangeShapes Go.WideShapes Go.ChangeAt Go.RowKit
set_option linter.unusedVariables false

theorem stub_any (a b c d : Int) (w : World) : Calls Tryz.prog 86 #[.agg #[.int .i64 a, .int .i64 b, .int .i64 c, .int .i64 d]] w fun e w' => e = .returned (.bool (stubB ⟨a, b, c, d⟩)) ∧ Below w.heap.size w w' := by
  by_cases d1 : a = c
  · have d1' : (a == c) = true := by simp [d1]
    have D1 := Lib.hid d1; clear d1
    by_cases d2 : b = d
    · have d2' : (b == d) = true := by simp [d2]
      have D2 := Lib.hid d2; clear d2
      go_enter Tryz.func86, Tryz.ntmps86
      go_wp2
      go_ret
      exact ⟨ret_bool (by unfold stubB; simp [D1.out, D2.out]), below_a1 _ _⟩
    · have d2' : (b == d) = false := by simpa using d2
      have D2 := Lib.hid d2; clear d2
      go_enter Tryz.func86, Tryz.ntmps86
      go_wp2
      go_ret
      exact ⟨ret_bool (by unfold stubB; simp [D2.out]), below_a1 _ _⟩
  · have d1' : (a == c) = false := by simpa using d1
    have D1 := Lib.hid d1; clear d1
    go_enter Tryz.func86, Tryz.ntmps86
    go_wp2
    go_ret
    exact ⟨ret_bool (by unfold stubB; simp [D1.out]), below_a1 _ _⟩
theorem any_range_nthQ (l : List Quad) (p : Quad → Bool) : ((List.range l.length).any fun k => p (nthQ l k)) = l.any p := by
  rw [Bool.eq_iff_iff, List.any_eq_true, List.any_eq_true]
  constructor
  · rintro ⟨k, hk, hp⟩; exact ⟨_, nthQ_mem (List.mem_range.1 hk), hp⟩
  · rintro ⟨q, hq, hp⟩
    obtain ⟨k, hk, e⟩ := List.mem_iff_getElem.1 hq
    exact ⟨k, List.mem_range.2 hk, by rw [nthQ_eq hk, e]; exact hp⟩

set_option maxHeartbeats 4000000 in
set_option maxRecDepth 100000 in
theorem stubless_any (v1 : Value) (N : NetD) (lo1 hi1 : Nat) (w : World) (h1 : Net w lo1 hi1 v1 N) (hh1 : hi1 ≤ w.heap.size) (hsz : N.sz ≤ 1048576) :
    Calls Tryz.prog 59 #[v1] w fun e w' => e = .returned (.bool N.stubless) ∧ Below w.heap.size w w' := by
  have F1 := Lib.hid h1
  obtain ⟨A1, c1, A1', c1', A1'', c1'', rfl, hc1, hd1, _⟩ := h1.parts
  clear h1
  obtain ⟨WA, HWA⟩ : ∃ W, Hid (W = (w.alloc (.cells #[.slice A1 N.ends.length c1, .slice A1' N.ids.length c1', .slice A1'' N.inputs.length c1''] 38))) := ⟨_, Lib.hid rfl⟩
  have hbA : Below w.heap.size w WA := by rw [HWA.out]; exact ((Below.refl _ _).alloc (Nat.le_refl _) _)
  have hsA : w.heap.size + 1 ≤ WA.heap.size := by rw [HWA.out]; simp; try omega
  have bx1 : BoxN WA (w.heap.size) #[.slice A1 N.ends.length c1, .slice A1' N.ids.length c1', .slice A1'' N.inputs.length c1''] 38 := by rw [HWA.out]; exact (BoxN.new' _ _ _ (by simp))
  have G1 := Lib.hid (Net.below F1.out hbA hh1); clear F1
  go_enter Tryz.func59, Tryz.ntmps59
  go_upto_region 1 with (fail)
  rw [← HWA.out]; clear HWA
  have kbx1_0 : WA.cell? ⟨w.heap.size, 0, none⟩ = some (.slice A1 N.ends.length c1) := bx1.cell 0 (by simp)
  have kbx1_1 : WA.cell? ⟨w.heap.size, 1, none⟩ = some (.slice A1' N.ids.length c1') := bx1.cell 1 (by simp)
  have kbx1_2 : WA.cell? ⟨w.heap.size, 2, none⟩ = some (.slice A1'' N.inputs.length c1'') := bx1.cell 2 (by simp)
  go_wp2_with fail
  clear kbx1_0 kbx1_1 kbx1_2
  refine (IsNetwork_any _ N lo1 hi1 _ G1.out (by omega) hsz).mono ?_
  rintro e W1 ⟨rfl, hb1⟩
  have hg1 := grown_below hb1; clear hb1
  have hs1 := hg1.size
  have HF1 := Lib.hid ((Turned.refl WA.heap.size WA.heap.size WA).still hg1)
  by_cases hg : N.good = true
  case neg =>
    have hg' : N.good = false := by simpa using hg
    rw [hg']
    go_wp2_with fail
    go_ret
    exact ⟨ret_bool (by unfold NetD.stubless; rw [hg']; rfl), (HF1.out.below_of hbA (by omega) (by omega))⟩
  rw [hg]
  have HG := Lib.hid hg; clear hg
  have kbx1_0 : W1.cell? ⟨w.heap.size, 0, none⟩ = some (.slice A1 N.ends.length c1) := (HF1.out.boxN bx1 (by omega)).cell 0 (by simp)
  have kbx1_1 : W1.cell? ⟨w.heap.size, 1, none⟩ = some (.slice A1' N.ids.length c1') := (HF1.out.boxN bx1 (by omega)).cell 1 (by simp)
  have kbx1_2 : W1.cell? ⟨w.heap.size, 2, none⟩ = some (.slice A1'' N.inputs.length c1'') := (HF1.out.boxN bx1 (by omega)).cell 2 (by simp)
  go_wp2_with fail
  clear kbx1_0 kbx1_1 kbx1_2
  refine (edges_any _ N lo1 hi1 _ (Net.turned G1.out HF1.out (by omega) (by omega)) (by omega) HG.out).mono ?_
  rintro e W2 ⟨r, rfl, hr, hb2⟩
  have hg2 := grown_below hb2; clear hb2
  have hs2 := hg2.size
  have HF2 := Lib.hid (HF1.out.still hg2); clear HF1
  have R2 := Lib.hid hr; clear hr
  obtain ⟨Ar, cr, rfl, hcr, hdr⟩ := R2.out.dims
  go_wp2_with fail
  refine (ContainsFunc_edge 86 #[] (enters_of Tryz.func86 (by kernel_rfl) rfl) (fun k => stubB (nthQ (edges N) k)) _ (edges N) _ _ _ R2.out (Nat.le_refl _) (fun k hk W hW => stub_any _ _ _ _ W)).mono ?_
  rintro e W3 ⟨rfl, hb3⟩
  have hg3 := grown_below hb3; clear hb3
  have hs3 := hg3.size
  have HF3 := Lib.hid (HF2.out.still hg3); clear HF2
  have R3 := Lib.hid (QuadS.still R2.out hg3 (by omega)); clear R2
  go_wp2_with fail
  go_ret
  exact ⟨ret_bool (by unfold NetD.stubless; rw [HG.out, any_range_nthQ]; rfl), (HF3.out.below_of hbA (by omega) (by omega))⟩

end Go.Proofs.YtkcbocoimbhhaaaGreat

/- Contracts: numbers for all ports; orientations (program and reference). -/
namespace Go.Proofs.YtkcbocoimbhhaaaGreat
open Go.ChangeShapes Go.WideShapes Go.ChangeAt Go.RowKit
set_option linter.unusedVariables false

def portsB (N : NetD) (o : List (List Int)) : Bool := decide (o.length = N.ends.length) && (List.range o.length).all fun v => decide ((nthL o v).length = (nthL N.ends v).length)
def rowIn (o : List (List Int)) (lo hi : Int) (v : Nat) : Bool := (nthL o v).all fun x => inB x lo hi
def rowsIn (o : List (List Int)) (lo hi : Int) : Bool := (List.range o.length).all (rowIn o lo hi)
def portIn (N : NetD) (o : List (List Int)) (lo hi : Int) (v : Nat) : Bool := decide ((nthL o v).length = (nthL N.ends v).length) && rowIn o lo hi v
def portsIn (N : NetD) (o : List (List Int)) (lo hi : Int) : Bool := decide (o.length = N.ends.length) && (List.range o.length).all (portIn N o lo hi)
theorem range_and (n : Nat) (p q : Nat → Bool) : ((List.range n).all fun k => p k && q k) = ((List.range n).all p && (List.range n).all q) := by
  rw [Bool.eq_iff_iff]; simp only [List.all_eq_true, Bool.and_eq_true]
  exact ⟨fun h => ⟨fun k hk => (h k hk).1, fun k hk => (h k hk).2⟩, fun h k hk => ⟨h.1 k hk, h.2 k hk⟩⟩
theorem portsIn_eq (N : NetD) (o : List (List Int)) (lo hi : Int) : portsIn N o lo hi = (portsB N o && rowsIn o lo hi) := by
  unfold portsIn portsB rowsIn
  rw [Bool.and_assoc, ← range_and]
  rfl
def edgeSum (o : List (List Int)) (q : Quad) : Int := nth (nthL o q.v.toNat) q.i.toNat + nth (nthL o q.w.toNat) q.j.toNat
def edgeOne (o : List (List Int)) (q : Quad) : Bool := decide (edgeSum o q = 1)
theorem edgeOne_nat (o : List (List Int)) (a b c d : Nat) : edgeOne o ⟨a, b, c, d⟩ = decide (nth (nthL o a) b + nth (nthL o c) d = 1) := rfl
def oriE (N : NetD) (o : List (List Int)) : Bool := (edges N).all (edgeOne o)
def oriB (N : NetD) (o : List (List Int)) : Bool := (portsB N o && rowsIn o 0 1) && oriE N o
def oriOk (N : NetD) (o : List (List Int)) : Bool := N.stubless && oriB N o
theorem ports_len {N : NetD} {o : List (List Int)} (h : portsB N o = true) : o.length = N.ends.length := by unfold portsB at h; rw [Bool.and_eq_true] at h; simpa using h.1
theorem ports_row {N : NetD} {o : List (List Int)} (h : portsB N o = true) {v : Nat} (hv : v < N.ends.length) : (nthL o v).length = (nthL N.ends v).length := by
  have hl := ports_len h
  unfold portsB at h; rw [Bool.and_eq_true] at h
  simpa using rangeAll_at h.2 (by omega : v < o.length)
theorem rows_val {o : List (List Int)} {lo hi : Int} (h : rowsIn o lo hi = true) {v i : Nat} (hv : v < o.length) (hi' : i < (nthL o v).length) : lo ≤ nth (nthL o v) i ∧ nth (nthL o v) i ≤ hi := by
  have := rangeAll_at h hv
  unfold rowIn at this
  exact inB_le (all_nth.1 this i hi')
set_option maxHeartbeats 4000000 in
set_option maxRecDepth 100000 in
theorem portsOk_any (v1 : Value) (N : NetD) (lo1 hi1 : Nat) (v2 : Value) (o : List (List Int)) (lo2 hi2 : Nat) (w : World) (h1 : Net w lo1 hi1 v1 N) (hh1 : hi1 ≤ w.heap.size) (h2 : IntSS w lo2 hi2 v2 o) (hh2 : hi2 ≤ w.heap.size) (hg : N.good = true) :
    Calls Tryz.prog 60 #[v1, v2] w fun e w' => e = .returned (.bool (portsB N o)) ∧ Below w.heap.size w w' := by
  obtain ⟨n1, n40⟩ := good_n hg
  have HG := Lib.hid hg; clear hg
  have F1 := Lib.hid h1
  obtain ⟨A1, c1, A1', c1', A1'', c1'', rfl, hc1, hd1, _⟩ := h1.parts
  obtain ⟨b1, o1, _, _, rfl, _⟩ := Net.rowAt F1.out (u := 0) (by omega)
  clear h1
  have F2 := Lib.hid h2
  obtain ⟨A2, c2, rfl, hc2, hd2⟩ := h2.dims
  clear h2
  obtain ⟨WA, HWA⟩ : ∃ W, Hid (W = (w.alloc (.cells #[.slice (some ⟨b1, o1, none⟩) N.ends.length c1, .slice A1' N.ids.length c1', .slice A1'' N.inputs.length c1''] 38))) := ⟨_, Lib.hid rfl⟩
  have hbA : Below w.heap.size w WA := by rw [HWA.out]; exact ((Below.refl _ _).alloc (Nat.le_refl _) _)
  have hsA : w.heap.size + 1 ≤ WA.heap.size := by rw [HWA.out]; simp; try omega
  have bx1 : BoxN WA (w.heap.size) #[.slice (some ⟨b1, o1, none⟩) N.ends.length c1, .slice A1' N.ids.length c1', .slice A1'' N.inputs.length c1''] 38 := by rw [HWA.out]; exact (BoxN.new' _ _ _ (by simp))
  have G1 := Lib.hid (Net.below F1.out hbA hh1); clear F1
  have G2 := Lib.hid (ISS.below F2.out hbA hh2); clear F2
  go_enter Tryz.func60, Tryz.ntmps60
  go_upto_region 1 with (fail)
  rw [← HWA.out]; clear HWA
  have kbx1_0 : WA.cell? ⟨w.heap.size, 0, none⟩ = some (.slice (some ⟨b1, o1, none⟩) N.ends.length c1) := bx1.cell 0 (by simp)
  have kbx1_1 : WA.cell? ⟨w.heap.size, 1, none⟩ = some (.slice A1' N.ids.length c1') := bx1.cell 1 (by simp)
  have kbx1_2 : WA.cell? ⟨w.heap.size, 2, none⟩ = some (.slice A1'' N.inputs.length c1'') := bx1.cell 2 (by simp)
  by_cases hl : o.length = N.ends.length
  case neg =>
    have hl' : ((o.length : Int) != (N.ends.length : Int)) = true := by simp; omega
    go_wp2_with fail
    go_ret
    exact ⟨ret_bool (by unfold portsB; rw [decide_eq_false hl]; rfl), hbA⟩
  have hl' : ((o.length : Int) != (N.ends.length : Int)) = false := by simp; omega
  have HL := Lib.hid hl
  have hle : o.length ≤ N.ends.length := by omega
  clear hl
  go_wp2_with fail
  go_loop [15] (fun i => ∃ (k : Nat), k ≤ o.length ∧ i = .int .i64 k ∧ Hid (∀ j, j < k → decide ((nthL o j).length = (nthL N.ends j).length) = true)) (fun i => o.length - (intOf i).toNat)
  case atStart => exact ⟨0, Nat.zero_le _, rfl, Lib.hid fun j hj => absurd hj (by omega)⟩
  case round =>
    obtain ⟨k, hk, rfl, HU⟩ := hrel
    by_cases hlt : k < o.length
    case neg =>
      obtain rfl : k = o.length := by omega
      go_wp2_with fail
      go_ret
      exact ⟨ret_bool (by unfold portsB; rw [decide_eq_true HL.out, rangeAll_true HU.out]; rfl), hbA⟩
    obtain ⟨Ar, cr, hbr, qr, hcr, hdr, hRr⟩ := Net.rowIn G1.out (Nat.lt_of_lt_of_le hlt hle)
    have Rr := Lib.hid hRr; clear hRr
    obtain ⟨bs, os, us, rfl, _, hbs, zs, hus⟩ := SS.opened G2.out hlt
    obtain ⟨As, cs, rfl, hcs, hds⟩ := hus.dims
    have Us := Lib.hid hus; clear hus
    have hki : (k : Int) < N.ends.length := by omega
    by_cases he : (nthL o k).length = (nthL N.ends k).length
    case neg =>
      have he' : (((nthL o k).length : Int) != ((nthL N.ends k).length : Int)) = true := by simp; omega
      have HE := Lib.hid he; clear he
      go_wp2_with fail
      go_ret
      exact ⟨ret_bool (by unfold portsB; rw [rangeAll_false hlt (decide_eq_false HE.out), Bool.and_false]), hbA⟩
    have he' : (((nthL o k).length : Int) != ((nthL N.ends k).length : Int)) = false := by simp; omega
    have HE := Lib.hid he; clear he
    go_wp2_with fail
    go_round
    case rel =>
      refine ⟨k + 1, by omega, by go_num, Lib.hid fun j hj => ?_⟩
      by_cases e : j = k
      · rw [e]; exact decide_eq_true HE.out
      · exact HU.out j (by omega)
    case measure => simp [intOf]; omega

set_option maxHeartbeats 4000000 in
set_option maxRecDepth 100000 in
theorem isOri1_any (a b c d g : Nat) (A : Option Addr) (cp : Nat) (o : List (List Int)) (lo hi : Nat) (w : World) (hbx : BoxN w g #[.slice A o.length cp] 22) (hO : IntSS w lo hi (.slice A o.length cp) o) (hhi : hi ≤ w.heap.size)
    (ha : a < o.length) (hb : b < (nthL o a).length) (hc : c < o.length) (hd : d < (nthL o c).length) (hr : rowsIn o 0 1 = true) :
    Calls Tryz.prog 64 #[.agg #[.int .i64 a, .int .i64 b, .int .i64 c, .int .i64 d], .pointer (some ⟨g, 0, none⟩)] w fun e w' => e = .returned (.bool (!edgeOne o ⟨a, b, c, d⟩)) ∧ Below w.heap.size w w' := by
  obtain ⟨x1, x2⟩ := rows_val hr ha hb
  obtain ⟨x3, x4⟩ := rows_val hr hc hd
  clear hr
  have gl := hbx.lt
  obtain ⟨WA, HWA⟩ : ∃ W, Hid (W = w.alloc (.cells #[.int .i64 a, .int .i64 b, .int .i64 c, .int .i64 d] 84)) := ⟨_, Lib.hid rfl⟩
  have hbA : Below w.heap.size w WA := by rw [HWA.out]; exact below_a1 _ _
  have bxe : BoxN WA w.heap.size #[.int .i64 a, .int .i64 b, .int .i64 c, .int .i64 d] 84 := by rw [HWA.out]; exact BoxN.new _ _ _
  have k0 : WA.cell? ⟨w.heap.size, 0, none⟩ = some (.int .i64 a) := bxe.cell 0 (by simp)
  have k1 : WA.cell? ⟨w.heap.size, 1, none⟩ = some (.int .i64 b) := bxe.cell 1 (by simp)
  have k2 : WA.cell? ⟨w.heap.size, 2, none⟩ = some (.int .i64 c) := bxe.cell 2 (by simp)
  have k3 : WA.cell? ⟨w.heap.size, 3, none⟩ = some (.int .i64 d) := bxe.cell 3 (by simp)
  have kg : WA.cell? ⟨g, 0, none⟩ = some (.slice A o.length cp) := (hbx.below hbA gl).cell 0 (by simp)
  have hO' := ISS.below hO hbA hhi
  obtain ⟨bo, oo, u1, rfl, _, hbo, z1, hu1⟩ := SS.opened hO' ha
  obtain ⟨u2, _, z2, hu2⟩ := SS.openedIn hO' hc
  obtain ⟨A1, c1, rfl, _, _⟩ := hu1.dims
  obtain ⟨A2, c2, rfl, _, _⟩ := hu2.dims
  obtain ⟨b1, o1, rfl, _, _, y1, _⟩ := hu1.opened hb
  obtain ⟨b2, o2, rfl, _, _, y2, _⟩ := hu2.opened hd
  have i1 : (a : Int) < o.length := by omega
  have i2 : (c : Int) < o.length := by omega
  have i3 : (b : Int) < (nthL o a).length := by omega
  have i4 : (d : Int) < (nthL o c).length := by omega
  obtain ⟨s1, H1⟩ : ∃ s, Hid (nth (nthL o a) b = s) := ⟨_, Lib.hid rfl⟩
  obtain ⟨s2, H2⟩ : ∃ s, Hid (nth (nthL o c) d = s) := ⟨_, Lib.hid rfl⟩
  rw [H1.out] at y1 x1 x2
  rw [H2.out] at y2 x3 x4
  have hsum : IntKind.i64.wrap (s1 + s2) = s1 + s2 := IntWalk.i64_in _ (by omega)
  clear hO hO' hu1 hu2 hbx bxe
  by_cases he : s1 + s2 = 1
  · have he' : ((s1 + s2 : Int) != 1) = false := by simp [he]
    have HE := Lib.hid he; clear he
    go_enter Tryz.func64, Tryz.ntmps64
    go_upto_region 1 with (fail)
    rw [← HWA.out]; clear HWA
    go_quiet (fail)
    go_wp2_with fail
    go_ret
    exact ⟨ret_bool (by rw [edgeOne_nat, H1.out, H2.out, decide_eq_true HE.out]; rfl), below_drewN hbA _⟩
  · have he' : ((s1 + s2 : Int) != 1) = true := by simpa using he
    have HE := Lib.hid he; clear he
    go_enter Tryz.func64, Tryz.ntmps64
    go_upto_region 1 with (fail)
    rw [← HWA.out]; clear HWA
    go_quiet (fail)
    go_wp2_with fail
    go_ret
    exact ⟨ret_bool (by rw [edgeOne_nat, H1.out, H2.out, decide_eq_false HE.out]; rfl), below_drewN hbA _⟩

set_option maxHeartbeats 4000000 in
set_option maxRecDepth 100000 in
theorem isOrientation_any (v1 : Value) (N : NetD) (lo1 hi1 : Nat) (v2 : Value) (o : List (List Int)) (lo2 hi2 : Nat) (w : World) (h1 : Net w lo1 hi1 v1 N) (hh1 : hi1 ≤ w.heap.size) (h2 : IntSS w lo2 hi2 v2 o) (hh2 : hi2 ≤ w.heap.size) (hsz : N.sz ≤ 1048576) :
    Calls Tryz.prog 30 #[v1, v2] w fun e w' => e = .returned (.bool (oriOk N o)) ∧ Below w.heap.size w w' := by
  have F1 := Lib.hid h1
  obtain ⟨A1, c1, A1', c1', A1'', c1'', rfl, hc1, hd1, _⟩ := h1.parts
  clear h1
  have F2 := Lib.hid h2
  obtain ⟨A2, c2, rfl, hc2, hd2⟩ := h2.dims
  clear h2
  obtain ⟨WA, HWA⟩ : ∃ W, Hid (W = ((w.alloc (.cells #[.slice A1 N.ends.length c1, .slice A1' N.ids.length c1', .slice A1'' N.inputs.length c1''] 38)).alloc (.cells #[.slice A2 o.length c2] 22))) := ⟨_, Lib.hid rfl⟩
  have hbA : Below w.heap.size w WA := by rw [HWA.out]; exact (((Below.refl _ _).alloc (Nat.le_refl _) _).alloc (by simp; try omega) _)
  have hsA : w.heap.size + 2 ≤ WA.heap.size := by rw [HWA.out]; simp; try omega
  have bx1 : BoxN WA (w.heap.size) #[.slice A1 N.ends.length c1, .slice A1' N.ids.length c1', .slice A1'' N.inputs.length c1''] 38 := by rw [HWA.out]; exact (BoxN.new' _ _ _ (by simp)).still (grown_alloc _ _)
  have bx2 : BoxN WA (w.heap.size + 1) #[.slice A2 o.length c2] 22 := by rw [HWA.out]; exact (BoxN.new' _ _ _ (by simp))
  have G1 := Lib.hid (Net.below F1.out hbA hh1); clear F1
  have G2 := Lib.hid (ISS.below F2.out hbA hh2); clear F2
  go_enter Tryz.func30, Tryz.ntmps30
  go_upto_region 1 with (fail)
  rw [← HWA.out]; clear HWA
  have kbx1_0 : WA.cell? ⟨w.heap.size, 0, none⟩ = some (.slice A1 N.ends.length c1) := bx1.cell 0 (by simp)
  have kbx1_1 : WA.cell? ⟨w.heap.size, 1, none⟩ = some (.slice A1' N.ids.length c1') := bx1.cell 1 (by simp)
  have kbx1_2 : WA.cell? ⟨w.heap.size, 2, none⟩ = some (.slice A1'' N.inputs.length c1'') := bx1.cell 2 (by simp)
  have kbx2_0 : WA.cell? ⟨w.heap.size + 1, 0, none⟩ = some (.slice A2 o.length c2) := bx2.cell 0 (by simp)
  go_wp2_with fail
  clear kbx1_0 kbx1_1 kbx1_2 kbx2_0
  refine (stubless_any _ N lo1 hi1 _ G1.out (by omega) hsz).mono ?_
  rintro e W1 ⟨rfl, hb1⟩
  have hg1 := grown_below hb1; clear hb1
  have hs1 := hg1.size
  have HF1 := Lib.hid ((Turned.refl WA.heap.size WA.heap.size WA).still hg1)
  by_cases hst : N.stubless = true
  case neg =>
    have hst' : N.stubless = false := by simpa using hst
    rw [hst']
    go_wp2_with fail
    go_ret
    exact ⟨ret_bool (by unfold oriOk; rw [hst']; rfl), (HF1.out.below_of hbA (by omega) (by omega))⟩
  rw [hst]
  have HST := Lib.hid hst
  have HG := Lib.hid (stubless_good hst); clear hst
  have kbx1_0 : W1.cell? ⟨w.heap.size, 0, none⟩ = some (.slice A1 N.ends.length c1) := (HF1.out.boxN bx1 (by omega)).cell 0 (by simp)
  have kbx1_1 : W1.cell? ⟨w.heap.size, 1, none⟩ = some (.slice A1' N.ids.length c1') := (HF1.out.boxN bx1 (by omega)).cell 1 (by simp)
  have kbx1_2 : W1.cell? ⟨w.heap.size, 2, none⟩ = some (.slice A1'' N.inputs.length c1'') := (HF1.out.boxN bx1 (by omega)).cell 2 (by simp)
  have kbx2_0 : W1.cell? ⟨w.heap.size + 1, 0, none⟩ = some (.slice A2 o.length c2) := (HF1.out.boxN bx2 (by omega)).cell 0 (by simp)
  go_wp2_with fail
  clear kbx1_0 kbx1_1 kbx1_2 kbx2_0
  refine (portsOk_any _ N lo1 hi1 _ o lo2 hi2 _ (Net.turned G1.out HF1.out (by omega) (by omega)) (by omega) (ISS.turned G2.out HF1.out (by omega) (by omega)) (by omega) HG.out).mono ?_
  rintro e W2 ⟨rfl, hb2⟩
  have hg2 := grown_below hb2; clear hb2
  have hs2 := hg2.size
  have HF2 := Lib.hid (HF1.out.still hg2); clear HF1
  by_cases hpb : portsB N o = true
  case neg =>
    have hpb' : portsB N o = false := by simpa using hpb
    rw [hpb']
    go_wp2_with fail
    go_ret
    exact ⟨ret_bool (by unfold oriOk oriB; rw [hpb']; simp), (HF2.out.below_of hbA (by omega) (by omega))⟩
  rw [hpb]
  have HPB := Lib.hid hpb; clear hpb
  have hle : o.length ≤ N.ends.length := by have := ports_len HPB.out; omega
  obtain ⟨n1, n40⟩ := good_n HG.out
  have N_2 := Lib.hid (Net.turned G1.out HF2.out (by omega) (by omega)); clear G1
  have o_2 := Lib.hid (ISS.turned G2.out HF2.out (by omega) (by omega)); clear G2
  have bx1_2 := HF2.out.boxN bx1 (by omega); clear bx1
  have bx2_2 := HF2.out.boxN bx2 (by omega); clear bx2
  have hbA2 := (HF2.out.below_of hbA (by omega) (by omega)); clear hbA HF2
  have kbx1_0 : W2.cell? ⟨w.heap.size, 0, none⟩ = some (.slice A1 N.ends.length c1) := bx1_2.cell 0 (by simp)
  have kbx1_1 : W2.cell? ⟨w.heap.size, 1, none⟩ = some (.slice A1' N.ids.length c1') := bx1_2.cell 1 (by simp)
  have kbx1_2 : W2.cell? ⟨w.heap.size, 2, none⟩ = some (.slice A1'' N.inputs.length c1'') := bx1_2.cell 2 (by simp)
  have kbx2_0 : W2.cell? ⟨w.heap.size + 1, 0, none⟩ = some (.slice A2 o.length c2) := bx2_2.cell 0 (by simp)
  go_wp2_with fail
  clear kbx1_0 kbx1_1 kbx1_2 kbx2_0
  go_loopw [18] (fun i wr => ∃ (k : Nat), k ≤ o.length ∧ i = .int .i64 k ∧ Hid (∀ j, j < k → rowIn o 0 1 j = true) ∧ Hid (Turned W2.heap.size W2.heap.size W2 wr)) (fun i _ => o.length - (intOf i).toNat)
  case atStart => exact ⟨0, Nat.zero_le _, rfl, Lib.hid fun j hj => absurd hj (by omega), Lib.hid (Turned.refl W2.heap.size W2.heap.size W2)⟩
  case round =>
    obtain ⟨k, hk, rfl, HU, HF3⟩ := hrel
    have hs3 := HF3.out.size
    by_cases hlt : k < o.length
    case pos =>
      obtain ⟨bs, os, us, rfl, _, hbs, zs, hus⟩ := SS.opened o_2.out hlt
      replace zs := (HF3.out.cell (by omega) (by omega)).trans zs
      obtain ⟨As, cs, rfl, hcs, hds⟩ := hus.dims
      have Us := Lib.hid hus; clear hus
      cases hq : rowIn o 0 1 k with
      | false =>
        have HQ := Lib.hid hq; clear hq
        go_wp2_with fail
        refine (allWithin_any _ (nthL o k) 0 1 _ _ _ (IntS.turned Us.out HF3.out (by omega) (by omega)) (by omega)).mono ?_
        rintro e W4 ⟨rfl, hb4⟩
        have hg4 := grown_below hb4; clear hb4
        have hs4 := hg4.size
        have HF4 := Lib.hid (HF3.out.still hg4); clear HF3
        rw [show ((nthL o k).all fun x => inB x 0 1) = false from HQ.out]
        go_wp2_with fail
        go_ret
        exact ⟨ret_bool (by unfold oriOk oriB rowsIn; rw [rangeAll_false hlt HQ.out]; simp), (HF4.out.below_of hbA2 (by omega) (by omega))⟩
      | true =>
        have HQ := Lib.hid hq; clear hq
        go_wp2_with fail
        refine (allWithin_any _ (nthL o k) 0 1 _ _ _ (IntS.turned Us.out HF3.out (by omega) (by omega)) (by omega)).mono ?_
        rintro e W5 ⟨rfl, hb5⟩
        have hg5 := grown_below hb5; clear hb5
        have hs5 := hg5.size
        have HF5 := Lib.hid (HF3.out.still hg5); clear HF3
        rw [show ((nthL o k).all fun x => inB x 0 1) = true from HQ.out]
        go_wp2_with fail
        go_roundw
        case rel =>
          refine ⟨k + 1, by omega, by go_num, Lib.hid fun j hj => ?_, HF5⟩
          by_cases e : j = k
          · rw [e]; exact HQ.out
          · exact HU.out j (by omega)
        case measure => simp [intOf]; omega
    obtain rfl : k = o.length := by omega
    have HRI := Lib.hid (show rowsIn o 0 1 = true from rangeAll_true HU.out)
    clear hlt HU hk
    have kbx1_0 : wr.cell? ⟨w.heap.size, 0, none⟩ = some (.slice A1 N.ends.length c1) := (HF3.out.boxN bx1_2 (by omega)).cell 0 (by simp)
    have kbx1_1 : wr.cell? ⟨w.heap.size, 1, none⟩ = some (.slice A1' N.ids.length c1') := (HF3.out.boxN bx1_2 (by omega)).cell 1 (by simp)
    have kbx1_2 : wr.cell? ⟨w.heap.size, 2, none⟩ = some (.slice A1'' N.inputs.length c1'') := (HF3.out.boxN bx1_2 (by omega)).cell 2 (by simp)
    have hmf : ∀ (fn : Fn) (first cap : Array Value) (w : World), (Instr.makeFunc fn first cap).run Tryz.prog w = .ok (.func fn first cap) w := fun _ _ _ _ => rfl
    go_wp2_with fail
    clear kbx1_0 kbx1_1 kbx1_2
    refine (edges_any _ N lo1 hi1 _ (Net.turned N_2.out HF3.out (by omega) (by omega)) (by omega) HG.out).mono ?_
    rintro e W6 ⟨r, rfl, hr, hb6⟩
    have hg6 := grown_below hb6; clear hb6
    have hs6 := hg6.size
    have HF6 := Lib.hid (HF3.out.still hg6); clear HF3
    have R6 := Lib.hid hr; clear hr
    obtain ⟨Ar, cr, rfl, hcr, hdr⟩ := R6.out.dims
    have b2x := HF6.out.boxN bx2_2 (by omega)
    have o2x := Lib.hid (ISS.turned o_2.out HF6.out (by omega) (by omega))
    have HCF := Lib.hid (ContainsFunc_edge 64 #[.pointer (some ⟨w.heap.size + 1, 0, none⟩)] (enters_of Tryz.func64 (by kernel_rfl) rfl) (fun k => !edgeOne o (nthQ (edges N) k)) _ (edges N) _ _ _ R6.out (Nat.le_refl _) (fun k hk W hW => by
      obtain ⟨a, b, c, d, eq, q1, q2, q3, q4, _⟩ := edge_nat HG.out (nthQ_mem hk)
      rw [eq]
      have hl := ports_len HPB.out
      have r1 := ports_row HPB.out q1
      have r2 := ports_row HPB.out q3
      have hws := hW.size
      exact isOri1_any a b c d (w.heap.size + 1) _ _ o lo2 hi2 W (b2x.below hW b2x.lt) (ISS.below o2x.out hW (by omega)) (by omega) (by omega) (by omega) (by omega) (by omega) HRI.out))
    clear b2x o2x
    go_wp2_with fail
    refine (HCF.out).mono ?_
    rintro e W7 ⟨rfl, hb7⟩
    have hg7 := grown_below hb7; clear hb7
    have hs7 := hg7.size
    have HF7 := Lib.hid (HF6.out.still hg7); clear HF6
    have R7 := Lib.hid (QuadS.still R6.out hg7 (by omega)); clear R6
    go_wp2_with fail
    go_ret
    exact ⟨ret_bool (by unfold oriOk oriB oriE; rw [HST.out, HPB.out, HRI.out, any_range_nthQ (edges N) (fun q => !edgeOne o q), not_any_not]; rfl), (HF7.out.below_of hbA2 (by omega) (by omega))⟩

end Go.Proofs.YtkcbocoimbhhaaaGreat

/- Contracts: orientations by the reference; sinks; the numbers of edges that leave. -/
namespace Go.Proofs.YtkcbocoimbhhaaaGreat
open Go.ChangeShapes Go.WideShapes Go.ChangeAt Go.RowKit
set_option linter.unusedVariables false

def onesI (zs : List Int) : Nat := (zs.filter fun x => x == 1).length
theorem onesI_le (zs : List Int) : onesI zs ≤ zs.length := List.length_filter_le _ _
end Go.Proofs.YtkcbocoimbhhaaaGreat

/- Contracts of small functions: numbers in order, lists of -1, the numbers of neighbours, ports with a number. -/
namespace Go.Proofs.YtkcbocoimbhhaaaGreat
open Go.ChangeShapes Go.WideShapes Go.ChangeAt Go.RowKit
set_option linter.unusedVariables false

/-- the numbers that a list gives to the neighbours -/
def nears (N : NetD) (v : Nat) (l : List Int) : List Int := (nbs N v).map fun x => nth l x.toNat
def cntI (c : Int) (zs : List Int) : Nat := (zs.filter fun x => x == c).length
def portsC (N : NetD) (v : Nat) (l : List Int) (c : Int) : Nat := cntI c (nears N v l)
end Go.Proofs.YtkcbocoimbhhaaaGreat

/- Contracts: slices.AppendSeq over slices.Values, Collect, Sorted at numbers. -/
namespace Go.Proofs.YtkcbocoimbhhaaaGreat
open Go.ChangeShapes Go.WideShapes Go.ChangeAt Go.RowKit Go.Shelf
attribute [local go_sem] Oper.semAt_some
set_option linter.unusedVariables false

/-- the own row's block holds cells -/
theorem Own.isCells {w : World} {base : Nat} {e : TypeId} {v : Value} {xs : List Value} (h : Own w base e v xs) : ∀ g, v.ownBlock = some g → ∃ o, w.heap[g]? = some o ∧ o.isCells = true := by
  rcases h.2 with ⟨rfl, _⟩ | ⟨g, cap, cur, rfl, _, hh, _⟩
  · intro g e; cases e
  · intro k e
    have e' : g = k := by simpa [Value.ownBlock] using e
    subst e'
    exact ⟨_, hh, rfl⟩
theorem OwnI.nc {w w' : World} {base : Nat} {e : TypeId} {v : Value} {zs : List Int} {row : Option Nat} (h : OwnI w base e v zs) (hg : w.grownBy w' row) (hr : ∀ r, row = some r → ∃ o : Obj, w.heap[r]? = some o ∧ o.isCells = false) : OwnI w' base e v zs := by
  refine h.far hg fun g hg' => .inr fun e2 => ?_
  obtain ⟨o, h1, h2⟩ := hr g hg'
  obtain ⟨o', h3, h4⟩ := Own.isCells h g e2
  rw [h1] at h3; injection h3 with h3; subst h3
  rw [h2] at h4; cases h4
theorem OwnI.lowerA {w : World} {base b' : Nat} {e : TypeId} {v : Value} {zs : List Int} (h : OwnI w base e v zs) (hb : b' ≤ base) : OwnI w b' e v zs := by
  obtain ⟨h1, h2⟩ := h
  refine ⟨h1, ?_⟩
  rcases h2 with h2 | ⟨g, cap, cur, e1, hg, r⟩
  · exact .inl h2
  · exact .inr ⟨g, cap, cur, e1, by omega, r⟩
/-- append of one number inside a fence -/
theorem append_intIn {F : Fence} {nF : Nat} {P : Program} {ops : Array Oper} {rest : List Oper} {o : Oper} {a : Act} {Q : Exit → Act → World → Prop} {t e : TypeId} {bytes : Nat}
    (ht : P.underlying t = some (.slice e)) (hinfo : (P.info? e).map (fun i => (i.zero, i.size, i.bytes)) = some (some (.int .i64 0), 1, bytes)) (hby : bytes ≤ 64)
    (w : World) (hgd : o.guard = none) {s : Operand} (x : Operand) (ho : o.op = .call { callee := .builtin .append, args := #[s, x], argTypes := #[t, t] })
    {base : Nat} {v : Value} {zs : List Int} (hown : OwnI w base e v zs) (z : Int) (te : TypeId) (hs : a.eval s = v) (hx : a.eval x = .slice (some ⟨w.heap.size, 0, none⟩) 1 1)
    (hlen : zs.length < 1099511627776) (hbase : base ≤ w.heap.size)
    (h : ∀ v' w', OwnI w' base e v' (zs ++ [z]) → w.grownBy w' v.ownBlock → (v'.ownBlock = v.ownBlock ∨ v'.ownBlock = some (w.heap.size + 1)) → wpListIn F nF P ops Q rest (a.put o.dst v') w') :
    wpListIn F nF P ops Q (o :: rest) a (w.alloc (.cells #[.int .i64 z] te)) := by
  obtain ⟨i, hi, hzz⟩ := Option.map_eq_some_iff.1 hinfo
  simp only [Prod.mk.injEq] at hzz
  obtain ⟨hz, hsz, hb⟩ := hzz
  have hown' : (w.alloc (.cells #[.int .i64 z] te)).ownsRow base e 1 v zs.length (zs.map (Value.int .i64)) := by
    have := World.ownsRow.alloc hown (.cells #[.int .i64 z] te)
    simpa using this
  refine wpListIn_append_own_at (w := w.alloc (.cells #[.int .i64 z] te)) hgd s x t ho base e i (.int .i64 0) 1 bytes ht hi hz hsz hb rfl (by omega) v zs.length (zs.map (Value.int .i64)) hs hown' ⟨w.heap.size, 0, none⟩ 1 1 [.int .i64 z] hx rfl ?_ ?_ ?_ ?_ ?_ ?_
  · intro j u' hj
    match j, hj with
    | 0, hj =>
      simp only [List.getElem?_cons_zero, Option.some.injEq] at hj
      subst hj
      rw [show (⟨w.heap.size, 0, none⟩ : Addr).add 0 = ⟨w.heap.size, 0, none⟩ from rfl, World.cell?_alloc_at _ _ _ _ rfl]
      rfl
  · intro u' hu'
    simp only [List.mem_singleton] at hu'
    subst hu'
    rfl
  · unfold maxLen; omega
  · have : (zs.length + 1) * bytes ≤ 1099511627776 * 64 := Nat.mul_le_mul (by omega) hby
    omega
  · simp; omega
  · intro v' w' h1 h2 _ h4
    refine h v' w' (by unfold OwnI Own; rw [List.map_append]; simpa using h1) ?_ (by simpa using h4)
    exact ⟨h2.os, h2.tape, h2.output, Nat.le_trans (by simp) h2.size, fun k hk hne => (h2.block k (by simp; omega) hne).trans (Below.heap_alloc _ _ _ hk)⟩
def pickX {n : Nat} (zs : List Int) (pre : List (Ix n)) : List Int := pre.map fun x => nth zs x.1
theorem pickX_snoc {n : Nat} (zs : List Int) (pre : List (Ix n)) (x : Ix n) : pickX zs (pre ++ [x]) = pickX zs pre ++ [nth zs x.1] := by simp [pickX]
theorem pickX_ups (zs : List Int) : ∀ k, k ≤ zs.length → pickX zs (ups zs.length k) = zs.take k
  | 0, _ => by simp [pickX, ups]
  | k + 1, h => by
    rw [ups_succ (show k < zs.length by omega), pickX_snoc, pickX_ups zs k (by omega), List.take_succ_eq_append_getElem (show k < zs.length by omega), nth_eq (show k < zs.length by omega)]
theorem pickX_len {n : Nat} (zs : List Int) (pre : List (Ix n)) : (pickX zs pre).length = pre.length := by simp [pickX]

set_option maxHeartbeats 4000000 in
set_option maxRecDepth 100000 in
theorem AppendSeq_any (Bs lo hi : Nat) (v : Value) (zs : List Int) (w : World) (hB : Bs < w.heap.size) (hh : hi ≤ w.heap.size) (hbx : BoxN w Bs #[v] 26) (hI0 : IntS w lo hi v zs) (hl : zs.length ≤ 1000) :
    Calls Tryz.prog 121 #[.slice none 0 0, .func (.func 105) #[] #[.pointer (some ⟨Bs, 0, none⟩)]] w fun e w' => ∃ r, e = .returned r ∧ OwnI w' w.heap.size 3 r zs ∧ Below w.heap.size w w' := by
  have HI0 := Lib.hid hI0; have HBX := Lib.hid hbx
  obtain ⟨WL, HWL⟩ : ∃ W, Hid (W = w.alloc (.cells #[.slice none 0 0] 26)) := ⟨_, Lib.hid rfl⟩
  have hgL : w.grownBy WL none := by rw [HWL.out]; exact grown_alloc _ _
  have hsL : WL.heap.size = w.heap.size + 1 := by rw [HWL.out]; simp
  have HSL := Lib.hid hsL
  have HG0 := Lib.hid (show BoxN WL w.heap.size #[.slice none 0 0] 26 by rw [HWL.out]; exact BoxN.new _ _ _)
  have HIL := Lib.hid (IntS.still HI0.out hgL hh)
  have HBL := Lib.hid (HBX.out.still hgL)
  clear hI0 hbx
  refine (callsIn_wide (n := 3)).1 ?_
  refine callsIn_of_wp_marks Tryz.func121 rfl trivial ?_
  simp only [Tryz.ntmps121, List.size_toArray, List.length_cons, List.length_nil, Nat.reduceAdd, Nat.reduceSub, Array.replicate_succ, Array.replicate_zero, List.push_toArray, List.append_toArray, List.nil_append, List.cons_append]
  refine wpIn_wide.2 ?_
  go_upto_region 1 with (fail)
  rw [← HWL.out]; clear HWL
  go_wp2_with fail
  refine (wpIn_wide (n := 3)).1 ?_
  have hLL : w.heap.size + 1 ≤ WL.heap.size := by omega
  have hI : OwnFrom WL.heap.size (fun (pre : List (Ix zs.length)) W => ∃ u : Value, BoxN W w.heap.size #[u] 26 ∧ OwnI W WL.heap.size 3 u (pickX zs pre) ∧ Turned w.heap.size (w.heap.size + 1) WL W) := fun s A B row ⟨u, h1, h2, h3⟩ hg hr =>
    ⟨u, h1.far hg (fun g e => by have := (hr g e).1; omega), h2.nc hg (fun g e => (hr g e).2), h3.grown hg (fun g e => .inr (hr g e).1)⟩
  have HH0 := Lib.hid (show ∃ u : Value, BoxN WL w.heap.size #[u] 26 ∧ OwnI WL WL.heap.size 3 u (pickX zs ([] : List (Ix zs.length))) ∧ Turned w.heap.size (w.heap.size + 1) WL WL from ⟨_, HG0.out, OwnI.nil _ _ _, Turned.refl _ _ _⟩)
  have HSEQ := Lib.hid (vals_stops 2 (by decide) Bs lo hi v zs (by omega) WL (by omega) (by omega) HBL.out HIL.out)
  have hKb := Kp2.put (lo := lo) (hi := hi) (Bs := Bs) (w := WL) (by omega) (by omega)
  apply wpIn_rangeFunc_ownG (F := Fence.wide) (encs := fun x : Ix zs.length => #[Value.int .i64 (nth zs x.1)]) (Kp := Kp2 lo hi Bs) (S := fun ys => ys = ups zs.length zs.length) (Sp := fun pre => ∃ k, k ≤ zs.length ∧ pre = ups zs.length k) (N := zs.length) (w0 := WL) rfl (by decide) (gf := 105) (lb := #[.pointer (some ⟨Bs, 0, none⟩)]) rfl trivial (enters_of Tryz.func105 (by kernel_rfl) rfl)
    HSEQ.out Kp2.trans (fun W l o1 o2 hl ho _ _ => hKb W l o1 o2 hl ho) (Below.refl _ _) (fun _ => rfl) _ (fun _ pre _ => False) hI (fun _ _ _ _ _ hs _ _ => hs) HH0.out _
  case hassign =>
    intro l x W K hK
    gi_wp2
    exact hK
  case hstop =>
    rintro D cc pre W _ ⟨k, hk, hp⟩ h _
    exact h.elim
  case hdone =>
    rintro D ys wd hD rfl ⟨u, hB2, hO2, hT2⟩ hK
    have HT := Lib.hid hT2; clear hT2
    have HO := Lib.hid hO2; clear hO2
    have hsd := HT.out.size
    rw [pickX_ups zs _ (Nat.le_refl _), List.take_length] at HO
    obtain ⟨Au, cu, rfl, hcu, hdu⟩ := HO.out.ints.dims
    have k8 : wd.cell? ⟨w.heap.size, 0, none⟩ = some (.slice Au zs.length cu) := hB2.cell 0 (by simp)
    go_wp2_with fail
    clear k8
    have hgp := grownBy_putObj' wd D (.deferred none)
    have HT3 := Lib.hid (HT.out.grown hgp (fun g e => by cases e; exact .inr hD))
    have hsp := hgp.size
    refine ⟨by simp, .inl ⟨_, _, rfl, run_takeDeferred hK, ?_⟩⟩
    refine ⟨_, results_tmp rfl _ _ _, ?_⟩
    refine ⟨_, rfl, ?_, ?_⟩
    · have h1 := HO.out.nc hgp (fun r e => by cases e; exact ⟨_, hK, rfl⟩)
      exact OwnI.lowerA h1 (by omega)
    · exact HT3.out.below_of (grown_to_below hgL) (Nat.le_refl _) (by omega)
  case hbody =>
    rintro l pre x wq ⟨u, hB2, hO2, hT2⟩ hlen
    have HT := Lib.hid hT2; clear hT2
    have HO := Lib.hid hO2; clear hO2
    have HB2 := Lib.hid hB2; clear hB2
    have hsq := HT.out.size
    have HNX := Lib.hid (pickX_snoc zs pre x)
    have hpl := pickX_len zs pre
    obtain ⟨q, HQ⟩ : ∃ q, Hid (pickX zs pre = q) := ⟨_, Lib.hid rfl⟩
    rw [HQ.out] at HO HNX hpl
    have hql : q.length ≤ 1000 := by omega
    have HQL := Lib.hid hql
    clear hpl
    obtain ⟨y, HY⟩ : ∃ y, Hid (nth zs x.1 = y) := ⟨_, Lib.hid rfl⟩
    rw [HY.out] at HNX
    rw [HY.out]
    obtain ⟨Au, cu, rfl, hcu, hdu⟩ := HO.out.ints.dims
    have k8 : wq.cell? ⟨w.heap.size, 0, none⟩ = some (.slice Au q.length cu) := HB2.out.cell 0 (by simp)
    have HLT := Lib.hid HO.out.lt
    have HCE := Lib.hid (Own.isCells HO.out)
    gi_wp2_with (gi_at_builtin; refine append_intIn (s := .tmp 8) Tryz.underlying26 Tryz.info3 (by decide) wq rfl _ rfl HO.out y _ rfl (by simp [Act.eval, go_sem]) (by have := HQL.out; omega) (by omega) ?_; intro v2 w7 ho7 hg7 hat7; obtain ⟨A7, c7, hq7, _, _⟩ := ho7.ints.dims; simp only [List.length_append, List.length_cons, List.length_nil, Nat.zero_add] at hq7; subst hq7; have HO7 := Lib.hid ho7; have HG7 := Lib.hid hg7; have HX7 := Lib.hid (BoxN.far HB2.out hg7 (fun g e => by have := HLT.out g e; omega)); have kq7 : w7.cell? ⟨w.heap.size, 0, none⟩ = some (.slice Au q.length cu) := HX7.out.cell 0 (by simp); have kfq7 := HX7.out.frozen 0; clear ho7 hg7)
    have HGS := Lib.hid (show w7.grownBy (w7.setCell ⟨w.heap.size, 0, none⟩ (.slice A7 (q.length + 1) c7)) (some w.heap.size) from grown_set w7 ⟨w.heap.size, 0, none⟩ (.slice A7 (q.length + 1) c7))
    have hs7 := HG7.out.size
    have key : ∀ k, k < wq.heap.size → k ≠ w.heap.size → (Value.slice Au q.length cu).ownBlock ≠ some k → (w7.setCell ⟨w.heap.size, 0, none⟩ (.slice A7 (q.length + 1) c7)).heap[k]? = wq.heap[k]? := fun k h1 h2 h3 =>
      (HGS.out.block k (by omega) (fun e => h2 (by injection e))).trans (HG7.out.block k h1 (fun e => h3 e.symm))
    refine ⟨⟨by rw [size_setCell]; omega, fun k o2 hB2' hk hnc => ?_⟩, ⟨fun k h1 h2 => ?_, ?_⟩, .slice A7 (q.length + 1) c7, HX7.out.set 0 _, ?_, ?_⟩
    · have hkl := (Array.getElem?_eq_some_iff.1 hk).1
      refine (key k hkl (by omega) fun e => ?_).trans hk
      obtain ⟨o', h3, h4⟩ := HCE.out k e
      rw [hk] at h3; injection h3 with h3; subst h3
      rw [hnc] at h4; cases h4
    · exact key k (by omega) (by omega) fun e => by have := HLT.out k e; omega
    · exact key Bs (by omega) (by omega) fun e => by have := HLT.out Bs e; omega
    · rw [HNX.out]; exact HO7.out.far HGS.out fun g e => .inl (by cases e; omega)
    · exact (HT.out.grown HG7.out fun g e => .inr (by have := HLT.out g e; omega)).grown HGS.out fun g e => .inl (by cases e; omega)

/-- slices.Collect of slices.Values -/
theorem Collect_any (Bs lo hi : Nat) (v : Value) (zs : List Int) (w : World) (hB : Bs < w.heap.size) (hh : hi ≤ w.heap.size) (hbx : BoxN w Bs #[v] 26) (hI0 : IntS w lo hi v zs) (hl : zs.length ≤ 1000) :
    Calls Tryz.prog 104 #[.func (.func 105) #[] #[.pointer (some ⟨Bs, 0, none⟩)]] w fun e w' => ∃ r, e = .returned r ∧ OwnI w' w.heap.size 3 r zs ∧ Below w.heap.size w w' := by
  go_enter Tryz.func104, Tryz.ntmps104
  go_wp2_with fail
  refine (AppendSeq_any Bs lo hi v zs w hB hh hbx hI0 hl).mono ?_
  rintro e w1 ⟨r, rfl, ho, hb⟩
  obtain ⟨A, c, rfl, _, _⟩ := ho.ints.dims
  go_wp2_with fail
  go_ret
  exact ⟨_, rfl, ho, hb⟩
set_option maxHeartbeats 1000000 in
/-- slices.Sorted of slices.Values: the sorted list -/
theorem Sorted_any (Bs lo hi : Nat) (v : Value) (zs : List Int) (w : World) (hB : Bs < w.heap.size) (hh : hi ≤ w.heap.size) (hbx : BoxN w Bs #[v] 26) (hI0 : IntS w lo hi v zs) (hl : zs.length ≤ 1000) :
    Calls Tryz.prog 91 #[.func (.func 105) #[] #[.pointer (some ⟨Bs, 0, none⟩)]] w fun e w' => ∃ r, e = .returned r ∧ IntS w' w.heap.size w'.heap.size r (sortI zs) ∧ Below w.heap.size w w' := by
  go_enter Tryz.func91, Tryz.ntmps91
  go_wp2_with fail
  refine (Collect_any Bs lo hi v zs w hB hh hbx hI0 hl).mono ?_
  rintro e w1 ⟨r, rfl, ho, hb⟩
  have hs1 := hb.size
  obtain ⟨A, c, rfl, _, _⟩ := ho.ints.dims
  have HO := Lib.hid ho; clear ho
  go_wp2_with fail
  refine (sort_any _ zs _ _ w1 HO.out.ints (Nat.le_refl _) (by omega)).mono ?_
  rintro e w2 ⟨rfl, h2, hg2⟩
  have hs2 := hg2.size
  go_wp2_with fail
  go_ret
  refine ⟨_, rfl, h2.mono (Nat.le_refl _) hs2, hb.grown hg2 hs1 fun g e => ?_⟩
  rcases Sl.row HO.out.ints with e1 | ⟨g1, e1, c1, c2⟩
  · rw [e1] at e; cases e
  · rw [e1] at e; injection e with e; omega
end Go.Proofs.YtkcbocoimbhhaaaGreat

/- Problems as data and in memory: two numbers, two slices of slices of numbers. No condition on any program. -/
namespace Go.Proofs.YtkcbocoimbhhaaaGreat
open Go.RowKit
set_option linter.unusedVariables false

/-- a problem as data -/
structure PrD where
  L : Int
  D : Int
  nodes : List (List Int)
  edges : List (List Int)
def PrD.sz (P : PrD) : Nat := szSS P.nodes + szSS P.edges
def PrD.cnt (P : PrD) : Nat := cntSS P.nodes + cntSS P.edges
structure PrD.Ok (P : PrD) : Prop where
  L : I64 P.L
  D : I64 P.D
  nodes : ∀ l ∈ P.nodes, ∀ z ∈ l, I64 z
  edges : ∀ l ∈ P.edges, ∀ z ∈ l, I64 z
/-- v is a problem in memory -/
def Pro (w : World) (lo hi : Nat) (v : Value) (P : PrD) : Prop := ∃ v1 v2, v = .agg #[.int .i64 P.L, .int .i64 P.D, v1, v2] ∧ IntSS w lo hi v1 P.nodes ∧ IntSS w lo hi v2 P.edges
/-- the same, its parts one behind the other -/
def ProX (w : World) (lo hi : Nat) (v : Value) (P : PrD) : Prop := ∃ v1 v2 m, v = .agg #[.int .i64 P.L, .int .i64 P.D, v1, v2] ∧ lo ≤ m ∧ m ≤ hi ∧ IntSSx w lo m v1 P.nodes ∧ IntSSx w m hi v2 P.edges
section
variable {w w' : World} {lo hi lo' hi' B l2 h2 : Nat} {v : Value} {P : PrD} {row : Option Nat}
theorem ProX.pro (h : ProX w lo hi v P) : Pro w lo hi v P := by
  obtain ⟨v1, v2, m, rfl, a1, a2, h1, h2⟩ := h
  exact ⟨v1, v2, rfl, ISS.mono h1.ss (Nat.le_refl _) a2, ISS.mono h2.ss a1 (Nat.le_refl _)⟩
theorem Pro.below (h : Pro w lo hi v P) (hb : Below B w w') (hB : hi ≤ B) : Pro w' lo hi v P := by
  obtain ⟨v1, v2, rfl, h1, h2⟩ := h
  exact ⟨v1, v2, rfl, ISS.below h1 hb hB, ISS.below h2 hb hB⟩
theorem Pro.turned (h : Pro w lo hi v P) (hb : Turned l2 h2 w w') (hB : hi ≤ w.heap.size) (hd : hi ≤ l2 ∨ h2 ≤ lo) : Pro w' lo hi v P := by
  obtain ⟨v1, v2, rfl, a, b⟩ := h
  exact ⟨v1, v2, rfl, ISS.turned a hb hB hd, ISS.turned b hb hB hd⟩
theorem Pro.mono (h : Pro w lo hi v P) (h1 : lo' ≤ lo) (h2 : hi ≤ hi') : Pro w lo' hi' v P := by
  obtain ⟨v1, v2, rfl, a, b⟩ := h
  exact ⟨v1, v2, rfl, ISS.mono a h1 h2, ISS.mono b h1 h2⟩
theorem Pro.far (h : Pro w lo hi v P) (hg : w.grownBy w' row) (hB : hi ≤ w.heap.size) (hr : ∀ g, row = some g → g < lo ∨ hi ≤ g) : Pro w' lo hi v P := by
  obtain ⟨v1, v2, rfl, a, b⟩ := h
  exact ⟨v1, v2, rfl, ISS.far a hg hB hr, ISS.far b hg hB hr⟩
theorem Pro.still (h : Pro w lo hi v P) (hg : w.grownBy w' none) (hB : hi ≤ w.heap.size) : Pro w' lo hi v P := h.far hg hB (no_row _ _)
theorem ProX.below (h : ProX w lo hi v P) (hb : Below B w w') (hB : hi ≤ B) : ProX w' lo hi v P := by
  obtain ⟨v1, v2, m, rfl, a1, a2, h1, h2⟩ := h
  exact ⟨v1, v2, m, rfl, a1, a2, ISSx.below h1 hb (by omega), ISSx.below h2 hb hB⟩
theorem ProX.turned (h : ProX w lo hi v P) (hb : Turned l2 h2 w w') (hB : hi ≤ w.heap.size) (hd : hi ≤ l2 ∨ h2 ≤ lo) : ProX w' lo hi v P := by
  obtain ⟨v1, v2, m, rfl, a1, a2, c1, c2⟩ := h
  exact ⟨v1, v2, m, rfl, a1, a2, ISSx.turned c1 hb (by omega) (by omega), ISSx.turned c2 hb (by omega) (by omega)⟩
theorem Pro.parts (h : Pro w lo hi v P) : ∃ A c A2 c2, v = .agg #[.int .i64 P.L, .int .i64 P.D, .slice A P.nodes.length c, .slice A2 P.edges.length c2] ∧ (P.nodes.length ≤ c ∧ c ≤ 9223372036854775807) ∧ P.edges.length ≤ c2 ∧ c2 ≤ 9223372036854775807 := by
  obtain ⟨v1, v2, rfl, a, b⟩ := h
  obtain ⟨A, c, rfl, h1, h2⟩ := SS.dims a
  obtain ⟨A2, c2, rfl, h3, h4⟩ := SS.dims b
  exact ⟨A, c, A2, c2, rfl, ⟨h1, h2⟩, h3, h4⟩
theorem Pro.nodesS {v0 v3 v1 v2 : Value} (h : Pro w lo hi (.agg #[v0, v3, v1, v2]) P) : IntSS w lo hi v1 P.nodes := by
  obtain ⟨u1, u2, e, a, b⟩ := h
  simp only [Value.agg.injEq, Array.mk.injEq, List.cons.injEq, and_true] at e
  obtain ⟨_, _, rfl, rfl⟩ := e
  exact a
theorem Pro.edgesS {v0 v3 v1 v2 : Value} (h : Pro w lo hi (.agg #[v0, v3, v1, v2]) P) : IntSS w lo hi v2 P.edges := by
  obtain ⟨u1, u2, e, a, b⟩ := h
  simp only [Value.agg.injEq, Array.mk.injEq, List.cons.injEq, and_true] at e
  obtain ⟨_, _, rfl, rfl⟩ := e
  exact b
theorem ProX.parts (h : ProX w lo hi v P) : ∃ A c A2 c2 m, v = .agg #[.int .i64 P.L, .int .i64 P.D, .slice A P.nodes.length c, .slice A2 P.edges.length c2] ∧ lo ≤ m ∧ m ≤ hi ∧ IntSSx w lo m (.slice A P.nodes.length c) P.nodes ∧ IntSSx w m hi (.slice A2 P.edges.length c2) P.edges := by
  obtain ⟨v1, v2, m, rfl, a1, a2, h1, h2⟩ := h
  obtain ⟨A, c, rfl⟩ := h1.ss.shape
  obtain ⟨A2, c2, rfl⟩ := h2.ss.shape
  exact ⟨A, c, A2, c2, m, rfl, a1, a2, h1, h2⟩
end

end Go.Proofs.YtkcbocoimbhhaaaGreat

/- One small lemma. No condition on any program. -/
namespace Go.Proofs.YtkcbocoimbhhaaaGreat
theorem ite_is {c : Prop} [Decidable c] {x y : Prop} (h : c) (k : x) : if c then x else y := by rw [if_pos h]; exact k
end Go.Proofs.YtkcbocoimbhhaaaGreat

/- Plain: the walk from a node, in the order in which nodes are found, and its code; a map that numbers the nodes of a list. No condition on any program. -/
namespace Go.Proofs.YtkcbocoimbhhaaaGreat
open Go.ChangeShapes Go.WideShapes Go.ChangeAt Go.RowKit
set_option linter.unusedVariables false

def wkStep (L : List Int) (x : Int) : List Int := if x ∈ L then L else L ++ [x]
def wkRow (N : NetD) (L : List Int) (u m : Nat) : List Int := ((nbs N u).take m).foldl wkStep L
theorem wkRow_succ (N : NetD) (L : List Int) (u : Nat) {m : Nat} (h : m < (nbs N u).length) : wkRow N L u (m + 1) = wkStep (wkRow N L u m) (nth (nbs N u) m) := by
  unfold wkRow; rw [List.take_succ_eq_append_getElem h, List.foldl_append, nth_eq h]; rfl
/-- the nodes found so far: each once -/
structure WkOk (N : NetD) (L : List Int) : Prop where
  nodup : L.Nodup
  node : ∀ x ∈ L, ∃ t : Nat, x = t ∧ t < N.ends.length
theorem WkOk.step {N : NetD} {L : List Int} (h : WkOk N L) {t : Nat} (ht : t < N.ends.length) : WkOk N (wkStep L (t : Int)) := by
  unfold wkStep
  split
  · exact h
  · rename_i hm
    refine ⟨?_, fun x hx => ?_⟩
    · rw [List.nodup_append]
      exact ⟨h.nodup, by simp, fun a ha b hb => by simp at hb; subst hb; rintro rfl; exact hm ha⟩
    · rw [List.mem_append, List.mem_singleton] at hx
      rcases hx with hx | rfl
      · exact h.node x hx
      · exact ⟨t, rfl, ht⟩
theorem nodupI_len : ∀ (l : List Int) (m : List Int), l.Nodup → (∀ x ∈ l, x ∈ m) → l.length ≤ m.length
  | [], m, _, _ => Nat.zero_le _
  | a :: l, m, hn, h => by
    rw [List.nodup_cons] at hn
    have ha : a ∈ m := h a (by simp)
    have hle := nodupI_len l (m.erase a) hn.2 fun x hx => (List.mem_erase_of_ne (fun e => hn.1 (by rw [← e]; exact hx))).2 (h x (List.mem_cons_of_mem _ hx))
    rw [List.length_erase_of_mem ha] at hle
    have := List.length_pos_of_mem ha
    simp only [List.length_cons]; omega
theorem WkOk.len {N : NetD} {L : List Int} (h : WkOk N L) : L.length ≤ N.ends.length := by
  have := nodupI_len L ((List.range N.ends.length).map fun (k : Nat) => (k : Int)) h.nodup (fun x hx => by
    obtain ⟨t, rfl, ht⟩ := h.node x hx
    exact List.mem_map.2 ⟨t, List.mem_range.2 ht, rfl⟩)
  simpa using this
theorem WkOk.at_ {N : NetD} {L : List Int} (h : WkOk N L) {k : Nat} (hk : k < L.length) : ∃ t : Nat, nth L k = t ∧ t < N.ends.length := h.node _ (nth_mem hk)
theorem WkOk.row {N : NetD} (hN : N.nodes) {L : List Int} (h : WkOk N L) {u : Nat} (hu : u < N.ends.length) : ∀ m, m ≤ (nbs N u).length → WkOk N (wkRow N L u m)
  | 0, _ => h
  | m + 1, hm => by
    rw [wkRow_succ _ _ _ (by omega)]
    obtain ⟨t, et, ht⟩ := hN u hu m (by rw [nbs_length] at hm; omega)
    rw [nth_nbs N u (by rw [nbs_length] at hm; omega), et]
    exact (WkOk.row hN h hu m (by omega)).step ht
/-- the index of a node in a list; 0 where it is not -/
def numV (L : List Int) (x : Int) : Int := if x ∈ L then (L.idxOf x : Int) else 0
/-! a map that numbers nodes -/
def rdN (v : Value) : Option (DataW Value × List MemPlace) := some (.held v, [])
theorem keyedN : Maps.Keyed Tryz.prog 3 := Maps.int_keyed Tryz.underlying3
theorem keyN {x : Int} (h : I64 x) : keyOf Tryz.prog 3 (.int .i64 x) = some (.int .i64 x) := Maps.keyOf_int_mk Tryz.underlying3 (WalkArith.wf_i64 h)
/-- block b is a map that numbers the nodes of L -/
def MpN (w : World) (b : Nat) (L : List Int) (m : Nat) : Prop :=
  ∃ (n : Nat) (D : DataW Value), n ≤ m ∧ w.ownsMap Tryz.prog 3 rdN b n D ∧ Maps.IsMap D ∧ (∀ x, I64 x → D.atKey (.int .i64 x) (.held (.int .i64 0)) = .held (.int .i64 (numV L x))) ∧ ∀ x, I64 x → Maps.has D (.int .i64 x) = decide (x ∈ L)
section
variable {w w' : World} {b m : Nat} {L : List Int}
theorem MpN.new (w : World) : MpN (w.alloc (.map #[] 0)) w.heap.size [] 0 :=
  ⟨0, .map [], Nat.le_refl _, World.ownsMap_made _ _ _ _, Maps.isMap_empty, fun x _ => rfl, fun x _ => rfl⟩
theorem MpN.lt (h : MpN w b L m) : b < w.heap.size := let ⟨_, _, _, h, _⟩ := h; h.lt
theorem MpN.mono (h : MpN w b L m) {m' : Nat} (hm : m ≤ m') : MpN w b L m' := let ⟨n, D, h1, h2⟩ := h; ⟨n, D, by omega, h2⟩
theorem MpN.kept {row : Option Nat} (h : MpN w b L m) (hg : w.grownBy w' row) (hr : some b ≠ row) : MpN w' b L m := let ⟨n, D, h1, h2, h3⟩ := h; ⟨n, D, h1, h2.kept hg hr, h3⟩
theorem MpN.far {row : Option Nat} (h : MpN w b L m) (hg : w.grownBy w' row) (hr : ∀ g, row = some g → g ≠ b) : MpN w' b L m := h.kept hg (fun e => hr b e.symm rfl)
theorem MpN.still (h : MpN w b L m) (hg : w.grownBy w' none) : MpN w' b L m := h.kept hg (by simp)
end
end Go.Proofs.YtkcbocoimbhhaaaGreat

/- Plain: the components of a network with their least codes, and their order. No condition on any program. -/
namespace Go.Proofs.YtkcbocoimbhhaaaGreat
set_option linter.unusedVariables false

/-- lexicographic order -/
def ltL : List Int → List Int → Bool
  | [], [] => false
  | [], _ :: _ => true
  | _ :: _, [] => false
  | a :: l, b :: m => if a = b then ltL l m else decide (a < b)
theorem ltL_irr : ∀ l, ltL l l = false
  | [] => rfl
  | a :: l => by simp only [ltL, if_pos]; exact ltL_irr l
theorem ltL_trans : ∀ {a b c : List Int}, ltL a b = true → ltL b c = true → ltL a c = true
  | [], [], _, h, _ => by cases h
  | [], _ :: _, [], _, h => by cases h
  | [], _ :: _, _ :: _, _, _ => rfl
  | _ :: _, [], _, h, _ => by cases h
  | _ :: _, _ :: _, [], _, h => by cases h
  | x :: l, y :: m, z :: n, h, k => by
    simp only [ltL] at h k ⊢
    by_cases e1 : x = y
    · rw [if_pos e1] at h
      by_cases e2 : y = z
      · rw [if_pos e2] at k
        rw [if_pos (e1.trans e2)]; exact ltL_trans h k
      · rw [if_neg e2, decide_eq_true_eq] at k
        rw [if_neg (by omega), decide_eq_true_eq]; omega
    · rw [if_neg e1, decide_eq_true_eq] at h
      by_cases e2 : y = z
      · rw [if_neg (by omega), decide_eq_true_eq]; omega
      · rw [if_neg e2, decide_eq_true_eq] at k
        rw [if_neg (by omega), decide_eq_true_eq]; omega
end Go.Proofs.YtkcbocoimbhhaaaGreat

/- Contracts: lexicographic comparison of lists (slices.Compare and isBefore). -/
namespace Go.Proofs.YtkcbocoimbhhaaaGreat
open Go.ChangeShapes Go.WideShapes Go.ChangeAt Go.RowKit
set_option linter.unusedVariables false

def cmpV (a b : Int) : Int := if a < b then -1 else if b < a then 1 else 0
theorem cmpV_eq (a b : Int) : Lib.compareInt a b = cmpV a b := by unfold Lib.compareInt cmpV; rfl
def cmpL (a b : List Int) : Int := if ltL a b = true then -1 else if a = b then 0 else 1
theorem ltL_drop : ∀ (k : Nat) (a b : List Int), k ≤ a.length → k ≤ b.length → a.take k = b.take k → ltL a b = ltL (a.drop k) (b.drop k) ∧ (a = b ↔ a.drop k = b.drop k)
  | 0, a, b, _, _, _ => ⟨rfl, Iff.rfl⟩
  | k + 1, [], _, h, _, _ => by simp at h
  | k + 1, _ :: _, [], _, h, _ => by simp at h
  | k + 1, x :: a, y :: b, h1, h2, e => by
    simp only [List.take_succ_cons, List.cons.injEq] at e
    obtain ⟨rfl, e⟩ := e
    obtain ⟨i1, i2⟩ := ltL_drop k a b (by simpa using h1) (by simpa using h2) e
    refine ⟨by simp only [ltL, if_pos, List.drop_succ_cons]; exact i1, ?_⟩
    simp only [List.cons.injEq, true_and, List.drop_succ_cons]
    exact i2
theorem drop_cons {a : List Int} {k : Nat} (h : k < a.length) : a.drop k = nth a k :: a.drop (k + 1) := by rw [List.drop_eq_getElem_cons h, nth_eq h]
theorem take_same {a b : List Int} {k : Nat} (ha : k < a.length) (hb : k < b.length) (h : a.take k = b.take k) (e : nth a k = nth b k) : a.take (k + 1) = b.take (k + 1) := by
  rw [List.take_succ_eq_append_getElem ha, List.take_succ_eq_append_getElem hb, h, ← nth_eq ha, ← nth_eq hb, e]
theorem lt_long {a b : List Int} {k : Nat} (ha : k < a.length) (hb : b.length = k) (h : a.take k = b.take k) : ltL a b = false ∧ cmpL a b = 1 := by
  obtain ⟨h1, h2⟩ := ltL_drop k a b (by omega) (by omega) h
  rw [drop_cons ha, show b.drop k = [] from List.drop_eq_nil_of_le (by omega)] at h1 h2
  have h3 : ltL a b = false := h1
  refine ⟨h3, ?_⟩
  unfold cmpL
  rw [h3, if_neg (by decide), if_neg (fun e => by have := h2.1 e; cases this)]
theorem lt_short {a b : List Int} {k : Nat} (ha : a.length = k) (hb : k < b.length) (h : a.take k = b.take k) : ltL a b = true ∧ cmpL a b = -1 := by
  obtain ⟨h1, _⟩ := ltL_drop k a b (by omega) (by omega) h
  rw [drop_cons hb, show a.drop k = [] from List.drop_eq_nil_of_le (by omega)] at h1
  have h3 : ltL a b = true := h1
  exact ⟨h3, by unfold cmpL; rw [h3, if_pos rfl]⟩
theorem lt_same {a b : List Int} {k : Nat} (ha : a.length = k) (hb : b.length = k) (h : a.take k = b.take k) : ltL a b = false ∧ cmpL a b = 0 := by
  have e : a = b := by rw [List.take_of_length_le (by omega), List.take_of_length_le (by omega)] at h; exact h
  subst e
  exact ⟨ltL_irr a, by unfold cmpL; rw [ltL_irr, if_neg (by decide), if_pos rfl]⟩
theorem lt_diff {a b : List Int} {k : Nat} (ha : k < a.length) (hb : k < b.length) (h : a.take k = b.take k) (hne : nth a k ≠ nth b k) : ltL a b = decide (nth a k < nth b k) ∧ cmpL a b = cmpV (nth a k) (nth b k) := by
  obtain ⟨h1, h2⟩ := ltL_drop k a b (by omega) (by omega) h
  rw [drop_cons ha, drop_cons hb] at h1 h2
  simp only [ltL] at h1
  rw [if_neg hne] at h1
  refine ⟨h1, ?_⟩
  unfold cmpL cmpV
  rw [h1]
  by_cases e : nth a k < nth b k
  · rw [if_pos (decide_eq_true e), if_pos e]
  · rw [if_neg (by simpa using e), if_neg e, if_neg (fun e2 => by have := h2.1 e2; injection this with this; exact hne this), if_pos (by omega)]
theorem cmpV_ne {a b : Int} (h : a ≠ b) : cmpV a b ≠ 0 := by
  unfold cmpV
  split
  · omega
  · split <;> omega
theorem cmpV_same (a : Int) : cmpV a a = 0 := by unfold cmpV; rw [if_neg (by omega), if_neg (by omega)]

set_option maxHeartbeats 4000000 in
set_option maxRecDepth 100000 in
theorem compareL_any (v1 : Value) (a : List Int) (lo1 hi1 : Nat) (v2 : Value) (b : List Int) (lo2 hi2 : Nat) (w : World) (h1 : IntS w lo1 hi1 v1 a) (hh1 : hi1 ≤ w.heap.size) (h2 : IntS w lo2 hi2 v2 b) (hh2 : hi2 ≤ w.heap.size)  :
    Calls Tryz.prog 93 #[v1, v2] w fun e w' => e = .returned (.int .i64 (cmpL a b)) ∧ w = w' := by
  have F1 := Lib.hid h1
  have F2 := Lib.hid h2
  obtain ⟨A1, c1, rfl, hc1, hd1⟩ := h1.dims
  obtain ⟨A2, c2, rfl, hc2, hd2⟩ := h2.dims
  clear h1 h2
  have HP0 : Hid (∀ (x y : Int) (W : World), Calls Tryz.prog 106 #[.int .i64 x, .int .i64 y] W fun e w' => e = .returned (.int .i64 (cmpV x y)) ∧ w' = W) := Lib.hid (fun x y W => by rw [← cmpV_eq]; exact Tryz.cmp_Compare_int x y W)
  go_enter Tryz.func93, Tryz.ntmps93
  go_wp2_with fail
  go_loop [11] (fun i => ∃ k : Nat, k ≤ a.length ∧ k ≤ b.length ∧ i = .int .i64 k ∧ Hid (a.take k = b.take k)) (fun i => a.length - (intOf i).toNat)
  case atStart => exact ⟨0, Nat.zero_le _, Nat.zero_le _, rfl, Lib.hid rfl⟩
  case round =>
    obtain ⟨k, hka, hkb, rfl, HE⟩ := hrel
    by_cases ha : k < a.length
    case neg =>
      obtain rfl : k = a.length := by omega
      by_cases hb : a.length < b.length
      case pos =>
        have hbi : (a.length : Int) < b.length := by omega
        have HR := Lib.hid (lt_short rfl hb HE.out).2
        go_wp2_with fail
        go_ret
        exact ⟨ret_int HR.out.symm, rfl⟩
      have hbi : ¬ (a.length : Int) < b.length := by omega
      have HR := Lib.hid (lt_same rfl (by omega) HE.out).2
      go_wp2_with fail
      go_ret
      exact ⟨ret_int HR.out.symm, rfl⟩
    have hai : (k : Int) < a.length := by omega
    obtain ⟨b1, o1, rfl, _, _, x1, _⟩ := IntS.opened F1.out ha
    by_cases hb : k < b.length
    case neg =>
      have hbi : (b.length : Int) ≤ k := by omega
      have HR := Lib.hid (lt_long ha (by omega) HE.out).2
      go_wp2_with fail
      go_ret
      exact ⟨ret_int HR.out.symm, rfl⟩
    have hbi : ¬ (b.length : Int) ≤ k := by omega
    have hbi2 : (k : Int) < b.length := by omega
    obtain ⟨b2, o2, rfl, _, _, x2, _⟩ := IntS.opened F2.out hb
    by_cases e : nth a k = nth b k
    case pos =>
      have HN := Lib.hid (take_same ha hb HE.out e)
      obtain ⟨x, HX⟩ : ∃ x, Hid (nth b k = x) := ⟨_, Lib.hid rfl⟩
      rw [e, HX.out] at x1
      rw [HX.out] at x2
      clear e
      go_wp2_with (go_at_call 106; refine (HP0.out x x _).mono ?_; rintro e w' ⟨rfl, rfl⟩; rw [cmpV_same])
      go_roundw
      case rel => exact ⟨k + 1, by omega, by omega, by go_num, HN⟩
      case measure => simp [intOf]; omega
    have HR := Lib.hid (lt_diff ha hb HE.out e).2
    have hne := cmpV_ne e
    obtain ⟨x, HX⟩ : ∃ x, Hid (nth a k = x) := ⟨_, Lib.hid rfl⟩
    obtain ⟨y, HY⟩ : ∃ x, Hid (nth b k = x) := ⟨_, Lib.hid rfl⟩
    rw [HX.out] at x1 HR hne
    rw [HY.out] at x2 HR hne
    obtain ⟨c, HC⟩ : ∃ c, Hid (cmpV x y = c) := ⟨_, Lib.hid rfl⟩
    rw [HC.out] at HR hne
    have hne' : (c != 0) = true := by simpa using hne
    clear e hne
    go_wp2_with (go_at_call 106; refine (HP0.out x y _).mono ?_; rintro e w' ⟨rfl, rfl⟩; rw [HC.out])
    go_ret
    exact ⟨ret_int HR.out.symm, rfl⟩

end Go.Proofs.YtkcbocoimbhhaaaGreat

/- Contracts: equality of two slices of numbers, of two slices of such slices. -/
namespace Go.Proofs.YtkcbocoimbhhaaaGreat
open Go.ChangeShapes Go.WideShapes Go.ChangeAt Go.RowKit
set_option linter.unusedVariables false

set_option maxHeartbeats 1000000 in
set_option maxRecDepth 100000 in
theorem l1Same_any (v1 v2 : Value) (a b : List Int) (lo1 hi1 lo2 hi2 : Nat) (w : World) (h1 : IntS w lo1 hi1 v1 a) (h2 : IntS w lo2 hi2 v2 b) (hh1 : hi1 ≤ w.heap.size) (hh2 : hi2 ≤ w.heap.size) :
    Calls Tryz.prog 133 #[v1, v2] w fun e w' => e = .returned (.bool (decide (a = b))) ∧ Below w.heap.size w w' := by
  obtain ⟨A, c, rfl, hc1, hc2, hcell⟩ := h1.form
  obtain ⟨A2, c2, rfl, hd1, hd2, hcell2⟩ := h2.form
  have HC := Lib.hid hcell; have HC2 := Lib.hid hcell2
  clear hcell hcell2 h1 h2
  unfold maxLen at hc2 hd2
  obtain ⟨m, HM⟩ : ∃ m, Hid (a.length = m) := ⟨_, Lib.hid rfl⟩
  obtain ⟨m2, HM2⟩ : ∃ m, Hid (b.length = m) := ⟨_, Lib.hid rfl⟩
  rw [HM.out] at hc1 ⊢
  rw [HM2.out] at hd1 ⊢
  by_cases hl : m = m2
  case neg =>
    have hl' : ((m : Int) != (m2 : Int)) = true := by simp; omega
    have HN := Lib.hid (show decide (a = b) = false from decide_eq_false (fun e => hl (by rw [← HM.out, ← HM2.out, e])))
    clear hl
    go_enter Tryz.func133, Tryz.ntmps133
    go_wp2_with fail
    go_ret
    exact ⟨ret_bool HN.out.symm, Below.refl _ _⟩
  have hl' : ((m : Int) != (m2 : Int)) = false := by simp; omega
  have HL := Lib.hid hl; clear hl
  go_enter Tryz.func133, Tryz.ntmps133
  go_wp2_with fail
  go_loopw [13] (fun i wr => ∃ k : Nat, k ≤ m ∧ i = .int .i64 k ∧ Hid (Below w.heap.size w wr) ∧ Hid (∀ j, j < k → nth a j = nth b j)) (fun i _ => m - (intOf i).toNat)
  case atStart => exact ⟨0, Nat.zero_le _, rfl, Lib.hid (Below.refl _ _), Lib.hid fun j hj => absurd hj (by omega)⟩
  case round =>
    obtain ⟨k, hk, rfl, HB, HU⟩ := hrel
    by_cases hlt : k < m
    case neg =>
      obtain rfl : k = m := by omega
      go_wp2_with fail
      go_ret
      exact ⟨ret_bool (decide_eq_true (ext_nth (by rw [HM.out, HM2.out, HL.out]) (by rw [HM.out]; exact HU.out))).symm, HB.out⟩
    obtain ⟨x, o, hA, _, hx2, hcs⟩ := HC.out (by rw [HM.out]; omega)
    obtain ⟨y, o2, hA2, _, hy2, hcs2⟩ := HC2.out (by rw [HM2.out]; have := HL.out; omega)
    subst hA hA2
    have hk2 : k < m2 := by have := HL.out; omega
    have p1 := (HB.out.cell (p := ⟨x, o + k, none⟩) (by show x < _; omega)).trans (hcs k (by rw [HM.out]; exact hlt)).1
    have p2 := (HB.out.cell (p := ⟨y, o2 + k, none⟩) (by show y < _; omega)).trans (hcs2 k (by rw [HM2.out]; exact hk2)).1
    clear hcs hcs2
    obtain ⟨z1, HZ1⟩ : ∃ z, Hid (nth a k = z) := ⟨_, Lib.hid rfl⟩
    obtain ⟨z2, HZ2⟩ : ∃ z, Hid (nth b k = z) := ⟨_, Lib.hid rfl⟩
    rw [HZ1.out] at p1
    rw [HZ2.out] at p2
    have hkm : (k : Int) < (m : Int) := by omega
    have hkm2 : (k : Int) < (m2 : Int) := by omega
    by_cases hz : z1 = z2
    · have hz' : (z1 != z2) = false := by simp [hz]
      have HZ := Lib.hid hz; clear hz
      go_wp2_with fail
      go_quiet (fail)
      go_wp2_with fail
      go_roundw
      case rel =>
        refine ⟨k + 1, by omega, by go_num, Lib.hid (below_drewN HB.out _), Lib.hid fun j hj => ?_⟩
        by_cases e : j = k
        · rw [e, HZ1.out, HZ2.out, HZ.out]
        · exact HU.out j (by omega)
      case measure => simp [intOf]; omega
    · have hz' : (z1 != z2) = true := by simp [hz]
      have HN := Lib.hid (show decide (a = b) = false from decide_eq_false (fun e => hz (by rw [← HZ1.out, ← HZ2.out, e])))
      clear hz
      go_wp2_with fail
      go_quiet (fail)
      go_wp2_with fail
      go_ret
      exact ⟨ret_bool HN.out.symm, below_drewN HB.out _⟩

end Go.Proofs.YtkcbocoimbhhaaaGreat

/- Contracts: sorted lists, configurations, problems (program). -/
namespace Go.Proofs.YtkcbocoimbhhaaaGreat
open Go.ChangeShapes Go.WideShapes Go.ChangeAt Go.RowKit
set_option linter.unusedVariables false

def sortedB (zs : List Int) : Bool := (List.range (zs.length - 1)).all fun i => decide (nth zs i ≤ nth zs (i + 1))
theorem sortedB_is {zs : List Int} : sortedB zs = true ↔ ∀ j, j + 1 < zs.length → nth zs j ≤ nth zs (j + 1) := by
  unfold sortedB
  rw [List.all_eq_true]
  constructor
  · intro h j hj; simpa using h j (by simp; omega)
  · intro h j hj; simp at hj; simpa using h j (by omega)
theorem sortedB_no {zs : List Int} {j : Nat} (h1 : j + 1 < zs.length) (h : nth zs (j + 1) < nth zs j) : sortedB zs = false := by
  cases hs : sortedB zs with
  | false => rfl
  | true => have := sortedB_is.1 hs j h1; omega
def cfgAt (size L : Int) (l : List (List Int)) (i : Nat) : Bool := decide (((nthL l i).length : Int) = size) && (sortedB (nthL l i) && (((nthL l i).all fun x => inB x 0 (L - 1)) && (decide (i = 0) || decide (cmpL (nthL l (i - 1)) (nthL l i) < 0))))
def cfgOk (size L : Int) (l : List (List Int)) : Bool := (List.range l.length).all (cfgAt size L l)
def PrD.good (P : PrD) : Bool := inB P.L 1 8 && (inB P.D 1 4 && (cfgOk P.D P.L P.nodes && cfgOk 2 P.L P.edges))

set_option maxHeartbeats 1000000 in
set_option maxRecDepth 100000 in
theorem IsSorted_any (v1 : Value) (Z : List Int) (lo1 hi1 : Nat) (w : World) (h1 : IntS w lo1 hi1 v1 Z) (hh1 : hi1 ≤ w.heap.size)  :
    Calls Tryz.prog 97 #[v1] w fun e w' => e = .returned (.bool (sortedB Z)) ∧ Below w.heap.size w w' := by
  have F1 := Lib.hid h1
  obtain ⟨A1, c1, rfl, hc1, hd1⟩ := h1.dims
  clear h1
  go_enter Tryz.func97, Tryz.ntmps97
  have HIN : Hid (∀ (x y : Int) (W : World), Calls Tryz.prog 109 #[.int .i64 x, .int .i64 y] W fun e w' => e = .returned (.bool (decide (x < y))) ∧ w' = W) := Lib.hid (fun x y W => Tryz.cmp_Less_int2 x y W)
  go_wp2_with fail
  go_loopw [3] (fun iv wr => ∃ (k : Nat), k ≤ Z.length ∧ iv = .int .i64 ((k : Int) - 1) ∧ Hid (∀ j, k ≤ j + 1 → j + 1 < Z.length → nth Z j ≤ nth Z (j + 1)) ∧ Hid (Turned w.heap.size w.heap.size w wr)) (fun iv _ => (intOf iv + 1).toNat)
  case atStart => exact ⟨Z.length, Nat.le_refl _, rfl, Lib.hid (fun j h1 h2 => absurd h1 (by omega)), Lib.hid (Turned.refl w.heap.size w.heap.size w)⟩
  case round =>
    obtain ⟨k, hk, rfl, HP, HF1⟩ := hrel
    have hs1 := HF1.out.size
    by_cases hk2 : 2 ≤ k
    case neg =>
      have hki : ¬ (0 : Int) < (k : Int) - 1 := by omega
      have HR := Lib.hid (show sortedB Z = true from sortedB_is.2 fun j hj => HP.out j (by omega) hj)
      go_wp2_with fail
      go_ret
      exact ⟨ret_bool HR.out.symm, (HF1.out.below_of (Below.refl _ _) (by omega) (by omega))⟩
    obtain ⟨q, hq⟩ : ∃ q, k = q + 2 := ⟨k - 2, by omega⟩
    obtain ⟨i1, HI1⟩ : ∃ z, Hid (q + 1 = z) := ⟨_, Lib.hid rfl⟩
    have hi1 : (k : Int) - 1 = (i1 : Int) := by have := HI1.out; omega
    rw [hi1]
    have hi0 : (0 : Int) < (i1 : Int) := by have := HI1.out; omega
    have hil : (i1 : Int) < Z.length := by have := HI1.out; omega
    have hql : (q : Int) < Z.length := by omega
    have hiq : (i1 : Int) - 1 = (q : Int) := by have := HI1.out; omega
    have hwq : IntKind.i64.wrap ((i1 : Int) - 1) = (q : Int) := by rw [hiq]; exact IntWalk.i64_in _ (by omega)
    obtain ⟨b, o, rfl, _, hb, xq, _⟩ := (IntS.turned F1.out HF1.out (by omega) (by omega)).opened (j := q) (by omega)
    obtain ⟨_, _, e9, _, _, xi, _⟩ := (IntS.turned F1.out HF1.out (by omega) (by omega)).opened (j := i1) (by have := HI1.out; omega)
    cases e9
    obtain ⟨y0, HY0⟩ : ∃ y, Hid (nth Z q = y) := ⟨_, Lib.hid rfl⟩
    obtain ⟨y1, HY1⟩ : ∃ y, Hid (nth Z i1 = y) := ⟨_, Lib.hid rfl⟩
    rw [HY0.out] at xq
    rw [HY1.out] at xi
    have HK := Lib.hid hq
    clear hq hi1 hiq
    obtain ⟨wq9, rfl⟩ : ∃ wq : World, wq = wr := ⟨_, rfl⟩
    go_wp2_with fail
    by_cases hlt : y1 < y0
    case pos =>
      have HIN1 := fun W => HIN.out y1 y0 W
      rw [decide_eq_true hlt] at HIN1
      have HLT := Lib.hid (show sortedB Z = false from sortedB_no (j := q) (by have := HK.out; omega) (by rw [HY0.out, HI1.out, HY1.out]; exact hlt))
      have HIN2 := Lib.hid HIN1; clear HIN1
      go_quiet ((go_at_call 109; exact Calls.quiet_of_same (HIN2.out _)))
      have HFQ := Lib.hid (HF1.out.still (grown_drewN _ nq))
      go_wp2_with fail
      go_ret
      exact ⟨ret_bool HLT.out.symm, (HFQ.out.below_of (Below.refl _ _) (by omega) (by omega))⟩
    have HIN1 := fun W => HIN.out y1 y0 W
    rw [decide_eq_false hlt] at HIN1
    have HIN2 := Lib.hid HIN1; clear HIN1
    have HPN := Lib.hid (show ∀ j, q + 1 ≤ j + 1 → j + 1 < Z.length → nth Z j ≤ nth Z (j + 1) from fun j h1 h2 => by
      by_cases e : j = q
      · subst e; rw [HY0.out, HI1.out, HY1.out]; omega
      · exact HP.out j (by have := HK.out; omega) h2)
    go_quiet ((go_at_call 109; exact Calls.quiet_of_same (HIN2.out _)))
    have HFQ := Lib.hid (HF1.out.still (grown_drewN _ nq))
    go_wp2_with fail
    go_roundw
    case rel => exact ⟨q + 1, by have := HK.out; omega, by have := HI1.out; go_num, HPN, HFQ⟩
    case measure => have := HI1.out; simp [intOf]; omega

theorem below_succY {p : Nat → Prop} {k : Nat} (h : ∀ j, j < k → p j) (hk : p k) : ∀ j, j < k + 1 → p j := fun j hj => by
  by_cases e : j = k
  · rw [e]; exact hk
  · exact h j (by omega)

set_option maxHeartbeats 4000000 in
set_option maxRecDepth 100000 in
theorem configurationsOk_any (v1 : Value) (l : List (List Int)) (lo1 hi1 : Nat) (size : Int) (L : Int) (w : World) (h1 : IntSS w lo1 hi1 v1 l) (hh1 : hi1 ≤ w.heap.size) (hL0 : -1000 ≤ L) (hL1 : L ≤ 1000) :
    Calls Tryz.prog 77 #[v1, .int .i64 size, .int .i64 L] w fun e w' => e = .returned (.bool (cfgOk size L l)) ∧ Below w.heap.size w w' := by
  have F1 := Lib.hid h1
  obtain ⟨A1, c1, rfl, hc1, hd1⟩ := h1.dims
  clear h1
  go_enter Tryz.func77, Tryz.ntmps77
  go_wp2_with fail
  go_loopw [11] (fun iv wr => ∃ (k : Nat), k ≤ l.length ∧ iv = .int .i64 k ∧ Hid (∀ j, j < k → cfgAt size L l j = true) ∧ Hid (Turned w.heap.size w.heap.size w wr)) (fun iv _ => l.length - (intOf iv).toNat)
  case atStart => exact ⟨0, Nat.zero_le _, rfl, Lib.hid (fun j hj => absurd hj (by omega)), Lib.hid (Turned.refl w.heap.size w.heap.size w)⟩
  case round =>
    obtain ⟨k, hk, rfl, HG, HF1⟩ := hrel
    have hs1 := HF1.out.size
    by_cases hlt : k < l.length
    case neg =>
      go_wp2_with fail
      go_ret
      exact ⟨ret_bool (by unfold cfgOk; exact (rangeAll_true fun j hj => HG.out j (by omega)).symm), (HF1.out.below_of (Below.refl _ _) (by omega) (by omega))⟩
    obtain ⟨br, or, ur, rfl, _, hbr, zr, hur⟩ := SS.opened F1.out hlt
    replace zr := (HF1.out.cell (by omega) (by omega)).trans zr
    obtain ⟨Ar, cr, rfl, hcr, hdr⟩ := hur.dims
    have Ur := Lib.hid hur; clear hur
    have hki : (k : Int) < l.length := by omega
    have hwL : IntKind.i64.wrap (L - 1) = L - 1 := IntWalk.i64_in _ (by omega)
    by_cases hl2 : ((nthL l k).length : Int) = size
    case neg =>
      have hne : (((nthL l k).length : Int) != size) = true := by simpa using hl2
      have HL2 := Lib.hid hl2; clear hl2
      go_wp2_with fail
      go_ret
      exact ⟨ret_bool (by unfold cfgOk; exact (rangeAll_false hlt (by unfold cfgAt; rw [decide_eq_false HL2.out]; rfl)).symm), (HF1.out.below_of (Below.refl _ _) (by omega) (by omega))⟩
    have hne : (((nthL l k).length : Int) != size) = false := by simpa using hl2
    have HL2 := Lib.hid hl2; clear hl2
    go_wp2_with fail
    refine (IsSorted_any _ (nthL l k) _ _ _ (IntS.turned Ur.out HF1.out (by omega) (by omega)) (by omega)).mono ?_
    rintro e W2 ⟨rfl, hb2⟩
    have hg2 := grown_below hb2; clear hb2
    have hs2 := hg2.size
    have HF2 := Lib.hid (HF1.out.still hg2); clear HF1
    cases hs : sortedB (nthL l k) with
    | false =>
      have HS := Lib.hid hs; clear hs
      go_wp2_with fail
      go_ret
      exact ⟨ret_bool (by unfold cfgOk; exact (rangeAll_false hlt (by unfold cfgAt; rw [HS.out, Bool.false_and, Bool.and_false])).symm), (HF2.out.below_of (Below.refl _ _) (by omega) (by omega))⟩
    | true =>
      have HS := Lib.hid hs; clear hs
      go_wp2_with fail
      refine (allWithin_any _ (nthL l k) 0 (L - 1) _ _ _ (IntS.turned Ur.out HF2.out (by omega) (by omega)) (by omega)).mono ?_
      rintro e W3 ⟨rfl, hb3⟩
      have hg3 := grown_below hb3; clear hb3
      have hs3 := hg3.size
      have HF3 := Lib.hid (HF2.out.still hg3); clear HF2
      by_cases ha : ((nthL l k).all fun x => inB x 0 (L - 1)) = true
      case neg =>
        have ha' : ((nthL l k).all fun x => inB x 0 (L - 1)) = false := by simpa using ha
        rw [ha']
        have HA := Lib.hid ha'; clear ha ha'
        go_wp2_with fail
        go_ret
        exact ⟨ret_bool (by unfold cfgOk; exact (rangeAll_false hlt (by unfold cfgAt; rw [HA.out, Bool.false_and, Bool.and_false, Bool.and_false])).symm), (HF3.out.below_of (Below.refl _ _) (by omega) (by omega))⟩
      rw [ha]
      have HA := Lib.hid ha; clear ha
      by_cases hk0 : k = 0
      case pos =>
        have hki0 : ¬ (0 : Int) < (k : Int) := by omega
        have HK0 := Lib.hid hk0; clear hk0
        go_wp2_with fail
        go_roundw
        case rel => exact ⟨k + 1, by omega, by go_num, Lib.hid (below_succY HG.out (by unfold cfgAt; rw [decide_eq_true HL2.out, HS.out, HA.out, decide_eq_true HK0.out]; rfl)), HF3⟩
        case measure => simp [intOf]; omega
      obtain ⟨p, HP⟩ : ∃ z, Hid (k - 1 = z) := ⟨_, Lib.hid rfl⟩
      have hpl : p < l.length := by have := HP.out; omega
      have hki0 : (0 : Int) < (k : Int) := by omega
      have hk1 : ((k : Int) - 1) = (p : Int) := by have := HP.out; omega
      have hk1i : (p : Int) < l.length := by omega
      obtain ⟨uq, hbq, zq, huq⟩ := SS.openedIn F1.out hpl
      replace zq := (HF3.out.cell (by omega) (by omega)).trans zq
      obtain ⟨Aq, cq, rfl, hcq, hdq⟩ := huq.dims
      have Uq := Lib.hid huq; clear huq
      have hwk : IntKind.i64.wrap ((k : Int) - 1) = (p : Int) := by rw [hk1]; exact IntWalk.i64_in _ (by omega)
      go_wp2_with fail
      refine (compareL_any _ (nthL l p) _ _ _ (nthL l k) _ _ _ (IntS.turned Uq.out HF3.out (by omega) (by omega)) (by omega) (IntS.turned Ur.out HF3.out (by omega) (by omega)) (by omega)).mono ?_
      rintro e w' ⟨rfl, rfl⟩
      obtain ⟨cv, HCV⟩ : ∃ x, Hid (cmpL (nthL l p) (nthL l k) = x) := ⟨_, Lib.hid rfl⟩
      rw [HCV.out]
      by_cases hcv : cv < 0
      case neg =>
        have hcge : (0 : Int) ≤ cv := by omega
        have HC0 := Lib.hid hcv; have HK0 := Lib.hid hk0; clear hcv hk0
        go_wp2_with fail
        go_ret
        exact ⟨ret_bool (by unfold cfgOk; exact (rangeAll_false hlt (by unfold cfgAt; rw [HP.out, HCV.out, decide_eq_false (show ¬ cv < 0 by have := HC0.out; omega), decide_eq_false HK0.out]; simp)).symm), (HF3.out.below_of (Below.refl _ _) (by omega) (by omega))⟩
      have hcge : ¬ (0 : Int) ≤ cv := by omega
      have HC0 := Lib.hid hcv; clear hcv
      go_wp2_with fail
      go_roundw
      case rel => exact ⟨k + 1, by omega, by go_num, Lib.hid (below_succY HG.out (by unfold cfgAt; rw [decide_eq_true HL2.out, HS.out, HA.out, HP.out, HCV.out, decide_eq_true HC0.out, Bool.or_true]; rfl)), HF3⟩
      case measure => simp [intOf]; omega

set_option maxHeartbeats 4000000 in
set_option maxRecDepth 100000 in
theorem IsProblem_any (v1 : Value) (P : PrD) (lo1 hi1 : Nat) (w : World) (h1 : Pro w lo1 hi1 v1 P) (hh1 : hi1 ≤ w.heap.size)  :
    Calls Tryz.prog 49 #[v1] w fun e w' => e = .returned (.bool P.good) ∧ Below w.heap.size w w' := by
  have F1 := Lib.hid h1
  obtain ⟨A1, c1, A1', c1', rfl, hc1, hd1⟩ := h1.parts
  clear h1
  obtain ⟨WA, HWA⟩ : ∃ W, Hid (W = (w.alloc (.cells #[.int .i64 P.L, .int .i64 P.D, .slice A1 P.nodes.length c1, .slice A1' P.edges.length c1'] 34))) := ⟨_, Lib.hid rfl⟩
  have hbA : Below w.heap.size w WA := by rw [HWA.out]; exact ((Below.refl _ _).alloc (Nat.le_refl _) _)
  have hsA : w.heap.size + 1 ≤ WA.heap.size := by rw [HWA.out]; simp; try omega
  have bx1 : BoxN WA (w.heap.size) #[.int .i64 P.L, .int .i64 P.D, .slice A1 P.nodes.length c1, .slice A1' P.edges.length c1'] 34 := by rw [HWA.out]; exact (BoxN.new' _ _ _ (by simp))
  have G1 := Lib.hid (Pro.below F1.out hbA hh1); clear F1
  go_enter Tryz.func49, Tryz.ntmps49
  go_upto_region 1 with (fail)
  rw [← HWA.out]; clear HWA
  have kbx1_0 : WA.cell? ⟨w.heap.size, 0, none⟩ = some (.int .i64 P.L) := bx1.cell 0 (by simp)
  have kbx1_1 : WA.cell? ⟨w.heap.size, 1, none⟩ = some (.int .i64 P.D) := bx1.cell 1 (by simp)
  have kbx1_2 : WA.cell? ⟨w.heap.size, 2, none⟩ = some (.slice A1 P.nodes.length c1) := bx1.cell 2 (by simp)
  have kbx1_3 : WA.cell? ⟨w.heap.size, 3, none⟩ = some (.slice A1' P.edges.length c1') := bx1.cell 3 (by simp)
  go_wp2_with fail
  refine (within_any P.L 1 8 _).mono ?_
  rintro e w' ⟨rfl, rfl⟩
  by_cases hL : inB P.L 1 8 = true
  case neg =>
    have hL' : inB P.L 1 8 = false := by simpa using hL
    rw [hL']
    have HR := Lib.hid (show P.good = false by unfold PrD.good; rw [hL']; rfl)
    clear hL hL'
    go_wp2_with fail
    go_ret
    exact ⟨ret_bool HR.out.symm, hbA⟩
  obtain ⟨l0, l1⟩ := inB_le hL
  rw [hL]
  have HL := Lib.hid hL; clear hL
  go_wp2_with fail
  refine (within_any P.D 1 4 _).mono ?_
  rintro e w' ⟨rfl, rfl⟩
  by_cases hD : inB P.D 1 4 = true
  case neg =>
    have hD' : inB P.D 1 4 = false := by simpa using hD
    rw [hD']
    have HR := Lib.hid (show P.good = false by unfold PrD.good; rw [HL.out, hD']; rfl)
    clear hD hD'
    go_wp2_with fail
    go_ret
    exact ⟨ret_bool HR.out.symm, hbA⟩
  obtain ⟨d0, d1⟩ := inB_le hD
  rw [hD]
  have HD := Lib.hid hD; clear hD
  go_wp2_with fail
  clear kbx1_0 kbx1_1 kbx1_2 kbx1_3
  refine (configurationsOk_any _ P.nodes _ _ P.D P.L _ (Pro.nodesS G1.out) (by omega) (by omega) (by omega)).mono ?_
  rintro e W1 ⟨rfl, hb1⟩
  have hg1 := grown_below hb1; clear hb1
  have hs1 := hg1.size
  have HF1 := Lib.hid ((Turned.refl WA.heap.size WA.heap.size WA).still hg1)
  cases hn : cfgOk P.D P.L P.nodes with
  | false =>
    have HR := Lib.hid (show P.good = false by unfold PrD.good; rw [HL.out, HD.out, hn]; rfl)
    clear hn
    go_wp2_with fail
    go_ret
    exact ⟨ret_bool HR.out.symm, (HF1.out.below_of hbA (by omega) (by omega))⟩
  | true =>
    have HN := Lib.hid hn; clear hn
    have kbx1_0 : W1.cell? ⟨w.heap.size, 0, none⟩ = some (.int .i64 P.L) := (HF1.out.boxN bx1 (by omega)).cell 0 (by simp)
    have kbx1_1 : W1.cell? ⟨w.heap.size, 1, none⟩ = some (.int .i64 P.D) := (HF1.out.boxN bx1 (by omega)).cell 1 (by simp)
    have kbx1_2 : W1.cell? ⟨w.heap.size, 2, none⟩ = some (.slice A1 P.nodes.length c1) := (HF1.out.boxN bx1 (by omega)).cell 2 (by simp)
    have kbx1_3 : W1.cell? ⟨w.heap.size, 3, none⟩ = some (.slice A1' P.edges.length c1') := (HF1.out.boxN bx1 (by omega)).cell 3 (by simp)
    go_wp2_with fail
    clear kbx1_0 kbx1_1 kbx1_2 kbx1_3
    refine (configurationsOk_any _ P.edges _ _ 2 P.L _ (Pro.edgesS (Pro.turned G1.out HF1.out (by omega) (by omega))) (by omega) (by omega) (by omega)).mono ?_
    rintro e W2 ⟨rfl, hb2⟩
    have hg2 := grown_below hb2; clear hb2
    have hs2 := hg2.size
    have HF2 := Lib.hid (HF1.out.still hg2); clear HF1
    have HR := Lib.hid (show P.good = cfgOk 2 P.L P.edges by unfold PrD.good; rw [HL.out, HD.out, HN.out]; rfl)
    obtain ⟨z, HZ⟩ : ∃ z, Hid (cfgOk 2 P.L P.edges = z) := ⟨_, Lib.hid rfl⟩
    rw [HZ.out] at HR
    rw [HZ.out]
    go_wp2_with fail
    go_ret
    exact ⟨ret_bool HR.out.symm, (HF2.out.below_of hbA (by omega) (by omega))⟩

end Go.Proofs.YtkcbocoimbhhaaaGreat

/- Steps of regions that draw their order: an append of a row that the call owns too; a region cut behind its operations. No condition on any program. -/
namespace Go.Proofs.YtkcbocoimbhhaaaGreat
open Go.ChangeShapes Go.WideShapes Go.ChangeAt Go.RowKit
set_option linter.unusedVariables false

/-- a cell that is known -/
structure CellH (w : World) (p : Addr) (v : Value) : Prop where
  cell : w.cell? p = some v
  lt : p.block < w.heap.size
theorem CellH.far {w w' : World} {p : Addr} {v : Value} {row : Option Nat} (h : CellH w p v) (hg : w.grownBy w' row) (hr : ∀ g, row = some g → g ≠ p.block) : CellH w' p v :=
  ⟨(World.cell?_of_block (hg.block p.block h.lt (fun e => hr _ e.symm rfl))).trans h.cell, Nat.lt_of_lt_of_le h.lt hg.size⟩
theorem CellH.still {w w' : World} {p : Addr} {v : Value} (h : CellH w p v) (hg : w.grownBy w' none) : CellH w' p v := h.far hg (fun g e => by cases e)
end Go.Proofs.YtkcbocoimbhhaaaGreat

/- Slices of slices of booleans that a call owns and appends rows to; a place of one, and what a store leaves. No condition on any program. -/
namespace Go.Proofs.YtkcbocoimbhhaaaGreat
open Go.RowKit
set_option linter.unusedVariables false
abbrev BoolSSx := SSx BoolS

/-- v is a slice of slices that reads as xss; its own row lies from block base on; its rows lie one behind the other, from base on and below top -/
def OwnBS (w : World) (base top : Nat) (e : TypeId) (v : Value) (xss : List (List Bool)) : Prop :=
  ∃ (vs : List Value) (lo hi : Nat → Nat), vs.length = xss.length ∧ Own w base e v vs ∧ base ≤ top ∧ top ≤ w.heap.size ∧
    (∀ j, j < xss.length → ∃ u, vs[j]? = some u ∧ base ≤ lo j ∧ hi j ≤ top ∧ BoolS w (lo j) (hi j) u (nthL xss j) ∧ ∀ g, v.ownBlock = some g → g < lo j ∨ hi j ≤ g) ∧
    ∀ i j, i < j → j < xss.length → hi i ≤ lo j


section
variable {w w' : World} {base top : Nat} {e : TypeId} {v : Value} {xss : List (List Bool)}
theorem OwnBS.nil (w : World) (base top : Nat) (e : TypeId) (h1 : base ≤ top) (h2 : top ≤ w.heap.size) : OwnBS w base top e (.slice none 0 0) [] :=
  ⟨[], fun _ => 0, fun _ => 0, rfl, Own.nil _ _ _, h1, h2, fun j hj => absurd hj (by simp), fun i j _ hj => absurd hj (by simp)⟩
theorem OwnBS.below (h : OwnBS w base top e v xss) (hb : Below w.heap.size w w') : OwnBS w' base top e v xss := by
  obtain ⟨vs, lo, hi, h1, h2, h3, h4, h5, h6⟩ := h
  refine ⟨vs, lo, hi, h1, h2.kept (row := none) ⟨hb.os, hb.tape, hb.output, hb.size, fun k hk _ => hb.block k hk⟩ (by cases hv : v.ownBlock with
    | none => exact .inl rfl
    | some g => right; simp), h3, Nat.le_trans h4 hb.size, fun j hj => ?_, h6⟩
  obtain ⟨u, a1, a2, a3, a4, a5⟩ := h5 j hj
  exact ⟨u, a1, a2, a3, a4.below hb (by omega), a5⟩
theorem OwnBS.alloc (h : OwnBS w base top e v xss) (o : Obj) : OwnBS (w.alloc o) base top e v xss := h.below ((Below.refl _ _).alloc (Nat.le_refl _) o)
theorem OwnBS.drew (h : OwnBS w base top e v xss) : OwnBS w.drew base top e v xss := h
theorem OwnBS.drewN (h : OwnBS w base top e v xss) (k : Nat) : OwnBS (w.drewN k) base top e v xss := h
theorem OwnBS.len (h : OwnBS w base top e v xss) : ∃ A c, v = .slice A xss.length c ∧ xss.length ≤ c ∧ c ≤ maxLen := by
  obtain ⟨vs, lo, hi, h1, h2, _⟩ := h
  obtain ⟨A, c, e, a1, a2, _⟩ := h2.form
  exact ⟨A, c, by rw [e, h1], by omega, a2⟩
theorem OwnBS.lt (h : OwnBS w base top e v xss) : ∀ k, v.ownBlock = some k → base ≤ k ∧ k < w.heap.size := by
  obtain ⟨vs, lo, hi, h1, h2, _⟩ := h
  exact h2.lt
theorem OwnBS.mono (h : OwnBS w base top e v xss) {top' : Nat} (h1 : top ≤ top') (h2 : top' ≤ w.heap.size) : OwnBS w base top' e v xss := by
  obtain ⟨vs, lo, hi, a1, a2, a3, a4, a5, a6⟩ := h
  refine ⟨vs, lo, hi, a1, a2, by omega, h2, fun j hj => ?_, a6⟩
  obtain ⟨u, b1, b2, b3, b4, b5⟩ := a5 j hj
  exact ⟨u, b1, b2, by omega, b4, b5⟩
theorem OwnBS.ssx (h : OwnBS w base top e v xss) : BoolSSx w base w.heap.size v xss := by
  obtain ⟨vs, lo, hi, h1, h2, h3, h4, h5, h6⟩ := h
  have hsl : Sl w base w.heap.size 1 v xss.length (fun j => vs.getD j undef) := by
    have := Sl.of_own (f := fun j => vs.getD j undef) h2 (fun j hj => by simp at hj; simp [hj])
    rwa [h1] at this
  have hr : ∀ j, j < xss.length → BoolS w (lo j) (hi j) (vs.getD j undef) (nthL xss j) ∧ base ≤ lo j ∧ hi j ≤ top ∧ ∀ g, v.ownBlock = some g → g < lo j ∨ hi j ≤ g := fun j hj => by
    obtain ⟨u, a1, a2, a3, a4, a5⟩ := h5 j hj
    have : vs.getD j undef = u := by simp [a1]
    rw [this]
    exact ⟨a4, a2, a3, a5⟩
  refine ⟨fun j => vs.getD j undef, hsl, fun i hi' => (hr i hi').1.mono (hr i hi').2.1 (by have := (hr i hi').2.2.1; omega), fun i j hij hj => ?_, fun i hi' => ?_⟩
  · obtain ⟨a1, _⟩ := hr i (by omega)
    obtain ⟨b1, _⟩ := hr j hj
    rcases Sl.row a1 with e1 | ⟨g1, e1, c1, c2⟩
    · exact .inl e1
    · right
      rw [e1]
      rcases Sl.row b1 with e2 | ⟨g2, e2, d1, d2⟩
      · rw [e2]; simp
      · rw [e2]; intro e3; injection e3 with e3; have := h6 i j hij hj; omega
  · obtain ⟨a1, _, _, a2⟩ := hr i hi'
    rcases Sl.row a1 with e1 | ⟨g1, e1, c1, c2⟩
    · exact .inl e1
    · right
      rw [e1]
      unfold rowOf
      rw [if_neg (by omega)]
      intro e3
      have := a2 g1 e3.symm
      omega
end

theorem OwnBS.far {w w' : World} {base top : Nat} {e : TypeId} {v : Value} {xss : List (List Bool)} {row : Option Nat} (h : OwnBS w base top e v xss) (hg : w.grownBy w' row) (hr : ∀ g, row = some g → g < base) : OwnBS w' base top e v xss := by
  obtain ⟨vs, lo, hi, h1, h2, h3, h4, h5, h6⟩ := h
  refine ⟨vs, lo, hi, h1, h2.kept hg ?_, h3, Nat.le_trans h4 hg.size, fun j hj => ?_, h6⟩
  · cases hv : v.ownBlock with
    | none => exact .inl rfl
    | some g =>
      right
      intro e
      have := (h2.lt g hv).1
      have := hr g e.symm
      omega
  · obtain ⟨u, a1, a2, a3, a4, a5⟩ := h5 j hj
    exact ⟨u, a1, a2, a3, a4.far hg (by omega) (fun g e => .inl (by have := hr g e; omega)), a5⟩



/-- one boolean of a list of lists replaced -/
def setAtB (xss : List (List Bool)) (a i : Nat) (z : Bool) : List (List Bool) := xss.set a ((nthL xss a).set i z)
theorem setAtB_length (xss : List (List Bool)) (a i : Nat) (z : Bool) : (setAtB xss a i z).length = xss.length := by simp [setAtB]
theorem nthL_setAtB {xss : List (List Bool)} {a : Nat} (ha : a < xss.length) (i : Nat) (z : Bool) (j : Nat) : nthL (setAtB xss a i z) j = if j = a then (nthL xss a).set i z else nthL xss j := nthL_set ha _ _
theorem setAtB_row (xss : List (List Bool)) {a : Nat} (ha : a < xss.length) (i : Nat) (z : Bool) (j : Nat) : (nthL (setAtB xss a i z) j).length = (nthL xss j).length := by
  rw [nthL_setAtB ha]
  by_cases e : j = a
  · rw [if_pos e, List.length_set, e]
  · rw [if_neg e]
theorem BSSx.far {w w' : World} {lo hi : Nat} {v : Value} {xss : List (List Bool)} {row : Option Nat} (h : BoolSSx w lo hi v xss) (hg : w.grownBy w' row) (hB : hi ≤ w.heap.size) (hr : ∀ g, row = some g → g < lo ∨ hi ≤ g) : BoolSSx w' lo hi v xss :=
  SSx.keep (fun h => BoolS.far h hg hB hr) h fun k h1 h2 => hg.block k (by omega) (fun e => by have := hr k e.symm; omega)
theorem BSSx.still {w w' : World} {lo hi : Nat} {v : Value} {xss : List (List Bool)} (h : BoolSSx w lo hi v xss) (hg : w.grownBy w' none) (hB : hi ≤ w.heap.size) : BoolSSx w' lo hi v xss := BSSx.far h hg hB (no_row _ _)
theorem BSSx.below {B : Nat} {w w' : World} {lo hi : Nat} {v : Value} {xss : List (List Bool)} (h : BoolSSx w lo hi v xss) (hb : Below B w w') (hB : hi ≤ B) : BoolSSx w' lo hi v xss := SSx.keep (fun h => BoolS.below h hb hB) h fun k _ hk => hb.block k (by omega)
theorem BSSx.turned {w w' : World} {l2 h2 lo hi : Nat} {v : Value} {xss : List (List Bool)} (h : BoolSSx w lo hi v xss) (hb : Turned l2 h2 w w') (hB : hi ≤ w.heap.size) (hd : hi ≤ l2 ∨ h2 ≤ lo) : BoolSSx w' lo hi v xss := SSx.keep (fun h => BoolS.turned h hb hB hd) h fun k h1 hk => hb.block k (by omega) (by omega)
theorem BSSx.mono {w : World} {lo hi lo' hi' : Nat} {v : Value} {xss : List (List Bool)} (h : BoolSSx w lo hi v xss) (h1 : lo' ≤ lo) (h2 : hi ≤ hi') : BoolSSx w lo' hi' v xss := SSx.mono (fun h => BoolS.mono h h1 h2) h h1 h2
theorem SSx.dims {α : Type} {R : World → Nat → Nat → Value → List α → Prop} {w : World} {lo hi : Nat} {v : Value} {xss : List (List α)} (h : SSx R w lo hi v xss) : ∃ A c, v = .slice A xss.length c ∧ xss.length ≤ c ∧ c ≤ 9223372036854775807 := SS.dims h.ss
theorem BSSx.dims {w : World} {lo hi : Nat} {v : Value} {xss : List (List Bool)} (h : BoolSSx w lo hi v xss) : ∃ A c, v = .slice A xss.length c ∧ xss.length ≤ c ∧ c ≤ 9223372036854775807 := SS.dims h.ss


/-- writes behind the rows -/
theorem OwnBS.farT {w w' : World} {base top : Nat} {e : TypeId} {v : Value} {xss : List (List Bool)} {row : Option Nat} (h : OwnBS w base top e v xss) (hg : w.grownBy w' row) (hr : ∀ g, row = some g → top ≤ g ∧ v.ownBlock ≠ some g) : OwnBS w' base top e v xss := by
  obtain ⟨vs, lo, hi, h1, h2, h3, h4, h5, h6⟩ := h
  refine ⟨vs, lo, hi, h1, h2.kept hg ?_, h3, Nat.le_trans h4 hg.size, fun j hj => ?_, h6⟩
  · cases hv : v.ownBlock with
    | none => exact .inl rfl
    | some g => right; intro e; exact (hr g e.symm).2 hv
  · obtain ⟨u, a1, a2, a3, a4, a5⟩ := h5 j hj
    exact ⟨u, a1, a2, a3, a4.far hg (by omega) (fun g e => .inr (by have := (hr g e).1; omega)), a5⟩
theorem OwnBS.still {w w' : World} {base top : Nat} {e : TypeId} {v : Value} {xss : List (List Bool)} (h : OwnBS w base top e v xss) (hg : w.grownBy w' none) : OwnBS w' base top e v xss := h.farT hg (fun g e => by cases e)

end Go.Proofs.YtkcbocoimbhhaaaGreat

/- Walk problems, in plain words: sets of labels as numbers, walks of a length, the first walk, counts of closed walks. -/
namespace Go.Proofs.YtkcbocoimbhhaaaGreat
open Go.ChangeShapes Go.WideShapes Go.ChangeAt Go.RowKit
set_option linter.unusedVariables false

def prs (arcs : List (List Int)) : List (Nat × Nat) := arcs.map fun x => ((nth x 0).toNat, (nth x 1).toNat)
def mayL (ps : List (Nat × Nat)) (a b : Nat) : Bool := ps.any fun x => x.1 == a && x.2 == b
def may (arcs : List (List Int)) (a b : Nat) : Bool := mayL (prs arcs) a b
theorem prs_take (arcs : List (List Int)) {k : Nat} (h : k < arcs.length) : prs (arcs.take (k + 1)) = prs (arcs.take k) ++ [((nth (nthL arcs k) 0).toNat, (nth (nthL arcs k) 1).toNat)] := by
  unfold prs
  rw [List.take_succ_eq_append_getElem h, List.map_append, nthL_eq h]; rfl
theorem may_take (arcs : List (List Int)) {k : Nat} (h : k < arcs.length) (a b : Nat) : may (arcs.take (k + 1)) a b = (may (arcs.take k) a b || ((nth (nthL arcs k) 0).toNat == a && (nth (nthL arcs k) 1).toNat == b)) := by
  unfold may mayL
  rw [prs_take arcs h, List.any_append]; simp
/-- the set of the numbers below n with a property -/
def setOf : Nat → (Nat → Bool) → Nat
  | 0, _ => 0
  | n + 1, f => setOf n f + if f n then 2 ^ n else 0
theorem setOf_lt (n : Nat) (f : Nat → Bool) : setOf n f < 2 ^ n := by
  induction n with
  | zero => simp [setOf]
  | succ n ih => unfold setOf; rw [Nat.pow_succ]; split <;> omega
theorem setOf_test (n : Nat) (f : Nat → Bool) (i : Nat) : (setOf n f).testBit i = (decide (i < n) && f i) := by
  induction n with
  | zero => simp [setOf]
  | succ n ih =>
    unfold setOf
    by_cases hf : f n = true
    · rw [if_pos hf, Nat.add_comm]
      rcases Nat.lt_trichotomy i n with h | h | h
      · rw [Nat.testBit_two_pow_add_gt h, ih]
        simp [h, show i < n + 1 by omega]
      · subst h
        rw [Nat.testBit_two_pow_add_eq, ih]
        simp [hf]
      · have h1 : 2 ^ n + setOf n f < 2 ^ i := by
          have h2 := setOf_lt n f
          have h3 : 2 ^ (n + 1) ≤ 2 ^ i := Nat.pow_le_pow_right (by decide) h
          rw [Nat.pow_succ] at h3
          omega
        rw [Nat.testBit_lt_two_pow h1]
        simp [show ¬ i < n + 1 by omega]
    · rw [if_neg hf, Nat.add_zero, ih]
      rcases Nat.lt_trichotomy i n with h | h | h
      · simp [h, show i < n + 1 by omega]
      · subst h; simp [show f i = false by simpa using hf]
      · simp [show ¬ i < n by omega, show ¬ i < n + 1 by omega]
theorem setOf_bit {n i : Nat} (f : Nat → Bool) (h : i < n) : setOf n f / 2 ^ i % 2 = if f i then 1 else 0 := by
  have := setOf_test n f i
  rw [Nat.testBit_eq_decide_div_mod_eq] at this
  have h2 : setOf n f / 2 ^ i % 2 < 2 := Nat.mod_lt _ (by decide)
  cases hf : f i
  · simp [h, hf] at this; rw [if_neg (by simp)]; omega
  · simp [h, hf] at this; rw [if_pos rfl]; exact this
theorem setOf_end {n i : Nat} {f : Nat → Bool} (h : setOf n f / 2 ^ i = 0) {j : Nat} (h1 : i ≤ j) (h2 : j < n) : f j = false := by
  have h3 : setOf n f < 2 ^ i := (Nat.div_eq_zero_iff_lt (Nat.two_pow_pos i)).1 h
  have h4 : setOf n f < 2 ^ j := Nat.lt_of_lt_of_le h3 (Nat.pow_le_pow_right (by decide) h1)
  have h5 := Nat.testBit_lt_two_pow h4
  rw [setOf_test] at h5
  simpa [h2] using h5
theorem setOf_big (n : Nat) (f : Nat → Bool) : setOf n f / 2 ^ n = 0 := (Nat.div_eq_zero_iff_lt (Nat.two_pow_pos n)).2 (setOf_lt n f)
/-- the numbers below n with a property, in order -/
def ascN (n : Nat) (f : Nat → Bool) : List Nat := (List.range n).filter f
def ascI (n : Nat) (f : Nat → Bool) : List Int := (ascN n f).map fun (k : Nat) => (k : Int)
theorem ascN_succ (n : Nat) (f : Nat → Bool) : ascN (n + 1) f = ascN n f ++ if f n then [n] else [] := by
  unfold ascN; rw [List.range_succ, List.filter_append]
  cases h : f n <;> simp [h]
theorem ascI_succ (n : Nat) (f : Nat → Bool) : ascI (n + 1) f = ascI n f ++ if f n then [(n : Int)] else [] := by
  unfold ascI; rw [ascN_succ, List.map_append]; cases h : f n <;> simp
theorem ascN_len (n : Nat) (f : Nat → Bool) : (ascN n f).length ≤ n := by
  unfold ascN; exact Nat.le_trans (List.length_filter_le _ _) (by simp)
theorem ascI_len (n : Nat) (f : Nat → Bool) : (ascI n f).length ≤ n := by unfold ascI; simpa using ascN_len n f
theorem ascN_end {n i : Nat} {f : Nat → Bool} (h : ∀ j, i ≤ j → j < n → f j = false) (hi : i ≤ n) : ascN i f = ascN n f := by
  induction n with
  | zero => rw [show i = 0 by omega]
  | succ n ih =>
    by_cases e : i = n + 1
    · rw [e]
    · rw [ascN_succ, h n (by omega) (by omega), ih (fun j h1 h2 => h j h1 (by omega)) (by omega)]; simp
theorem ascI_end {n i : Nat} {f : Nat → Bool} (h : ∀ j, i ≤ j → j < n → f j = false) (hi : i ≤ n) : ascI i f = ascI n f := by unfold ascI; rw [ascN_end h hi]
theorem ascN_mem {n : Nat} {f : Nat → Bool} {x : Nat} : x ∈ ascN n f ↔ x < n ∧ f x = true := by unfold ascN; simp
theorem ascI_at {n : Nat} {f : Nat → Bool} {k : Nat} (h : k < (ascI n f).length) : ∃ x : Nat, nth (ascI n f) k = x ∧ x < n ∧ f x = true ∧ (ascN n f)[k]? = some x := by
  have h' : k < (ascN n f).length := by unfold ascI at h; simpa using h
  have hm := ascN_mem.1 (List.getElem_mem h')
  refine ⟨(ascN n f)[k], ?_, hm.1, hm.2, List.getElem?_eq_getElem h'⟩
  unfold ascI; rw [nth_eq (by simpa using h')]; simp
end Go.Proofs.YtkcbocoimbhhaaaGreat

/- Contracts: which walk problems are good (program and reference). -/
namespace Go.Proofs.YtkcbocoimbhhaaaGreat
open Go.ChangeShapes Go.WideShapes Go.ChangeAt Go.RowKit
set_option linter.unusedVariables false

theorem ret_intI {x y : Int} (h : x = y) : Ending.returned (.int .i64 x) = .returned (.int .i64 y) := by rw [h]
set_option maxHeartbeats 1000000 in
set_option maxRecDepth 100000 in
theorem l1Sign_any (n : Int) (w : World)   :
    Calls Tryz.prog 107 #[.int .i64 n] w fun e w' => e = .returned (.int .i64 (cmpV n 0)) ∧ w = w' := by
  go_enter Tryz.func107, Tryz.ntmps107
  by_cases h1 : 0 < n
  case pos =>
    have hv : cmpV n 0 = 1 := by unfold cmpV; rw [if_neg (by omega), if_pos h1]
    rw [hv]
    go_wp2_with fail
    go_ret
    exact ⟨rfl, rfl⟩
  by_cases h2 : n < 0
  case pos =>
    have hv : cmpV n 0 = -1 := by unfold cmpV; rw [if_pos h2]
    rw [hv]
    go_wp2_with fail
    go_ret
    exact ⟨rfl, rfl⟩
  have hv : cmpV n 0 = 0 := by unfold cmpV; rw [if_neg (by omega), if_neg (by omega)]
  rw [hv]
  go_wp2_with fail
  go_ret
  exact ⟨rfl, rfl⟩

theorem cmpV_sub (a b : Int) : cmpV (a - b) 0 = cmpV a b := by
  unfold cmpV
  by_cases h1 : a < b
  · rw [if_pos (by omega), if_pos h1]
  · rw [if_neg (by omega), if_neg h1]
    by_cases h2 : b < a
    · rw [if_pos (by omega), if_pos h2]
    · rw [if_neg (by omega), if_neg h2]

set_option maxHeartbeats 2000000 in
set_option maxRecDepth 100000 in
theorem prOrder_any (v1 : Value) (X : List Int) (lo1 hi1 : Nat) (v2 : Value) (Y : List Int) (lo2 hi2 : Nat) (w : World) (h1 : IntS w lo1 hi1 v1 X) (hh1 : hi1 ≤ w.heap.size) (h2 : IntS w lo2 hi2 v2 Y) (hh2 : hi2 ≤ w.heap.size) (hl : X.length = Y.length) (hx : ∀ z ∈ X, -1000000 ≤ z ∧ z ≤ 1000000) (hy : ∀ z ∈ Y, -1000000 ≤ z ∧ z ≤ 1000000) :
    Calls Tryz.prog 95 #[v1, v2] w fun e w' => e = .returned (.int .i64 (cmpL X Y)) ∧ w = w' := by
  have HLL := Lib.hid hl; have HX := Lib.hid hx; have HY := Lib.hid hy; clear hl hx hy
  have F1 := Lib.hid h1
  obtain ⟨A1, c1, rfl, hc1, hd1⟩ := h1.dims
  clear h1
  have F2 := Lib.hid h2
  obtain ⟨A2, c2, rfl, hc2, hd2⟩ := h2.dims
  clear h2
  go_enter Tryz.func95, Tryz.ntmps95
  go_wp2_with fail
  go_loop [9] (fun iv => ∃ (k : Nat), k ≤ X.length ∧ iv = .int .i64 k ∧ Hid (X.take k = Y.take k)) (fun iv => X.length - (intOf iv).toNat)
  case atStart => exact ⟨0, Nat.zero_le _, rfl, Lib.hid rfl⟩
  case round =>
    obtain ⟨k, hk, rfl, HT⟩ := hrel
    by_cases hlt : k < X.length
    case neg =>
      go_wp2_with fail
      go_ret
      exact ⟨ret_intI (lt_same (k := k) (by omega) (by have := HLL.out; omega) HT.out).2.symm, rfl⟩
    have hlt2 : k < Y.length := by have := HLL.out; omega
    obtain ⟨ba, oa, rfl, _, hba', xa, _⟩ := F1.out.opened hlt
    obtain ⟨bb, ob, rfl, _, hbb', xb, _⟩ := F2.out.opened hlt2
    have hxa := HX.out _ (nth_mem hlt)
    have hyb := HY.out _ (nth_mem hlt2)
    obtain ⟨x, HXX⟩ : ∃ z, Hid (nth X k = z) := ⟨_, Lib.hid rfl⟩
    obtain ⟨y, HYY⟩ : ∃ z, Hid (nth Y k = z) := ⟨_, Lib.hid rfl⟩
    rw [HXX.out] at xa hxa
    rw [HYY.out] at xb hyb
    by_cases hxy : x = y
    case pos =>
      have hne : (x != y) = false := by simp [hxy]
      have HXY := Lib.hid hxy; clear hxy
      go_wp2_with fail
      go_round
      case rel => exact ⟨k + 1, by omega, by go_num, Lib.hid (take_same hlt hlt2 HT.out (by rw [HXX.out, HYY.out]; exact HXY.out))⟩
      case measure => simp [intOf]; omega
    have hne : (x != y) = true := by simp [hxy]
    have hw : IntKind.i64.wrap (x - y) = x - y := IntWalk.i64_in _ (by omega)
    have HXY := Lib.hid hxy; clear hxy
    go_wp2_with fail
    refine (l1Sign_any (x - y) _).mono ?_
    rintro e w' ⟨rfl, rfl⟩
    go_wp2_with fail
    go_ret
    exact ⟨ret_intI (by rw [cmpV_sub, (lt_diff hlt hlt2 HT.out (by rw [HXX.out, HYY.out]; exact HXY.out)).2, HXX.out, HYY.out]), rfl⟩

end Go.Proofs.YtkcbocoimbhhaaaGreat
