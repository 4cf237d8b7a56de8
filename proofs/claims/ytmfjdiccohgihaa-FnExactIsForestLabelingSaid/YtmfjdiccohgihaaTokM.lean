/-
  Memory of the token's walk: a map of ends to bools of the call's own; what a step may turn. No condition on any program.
-/
import Derived.Test.YtmfjdiccohgihaaOpen
import Derived.Test.YtmfjdiccohgihaaTokP
import Derived.Test.YtmfjdiccohgihaaOwnSS
import Derived.Test.YtmfjdiccohgihaaFrame
import Derived.Maps.OwnSet
import Derived.WideKeyEntry
import Derived.DeepKeys5
namespace Go.Proofs.Ytmfjdiccohgihaa
open Go.ChangeShapes Go.WideShapes Go.ChangeAt Go.RowKit
set_option linter.unusedVariables false

theorem Try.laidB : laidOutB Try.prog = true := by kernel_rfl
theorem Try.keyLawE : WideMaps.KeyLaw Try.prog 72 :=
  deep_law_gate Try.laidB (of_decide_eq_true (by kernel_rfl)) (of_decide_eq_true (by kernel_rfl)) (by kernel_rfl) (by rw [Try.underlying72])
theorem Try.keyedE : Maps.Keyed Try.prog 72 := Maps.Keyed.of_law Try.keyLawE
theorem Try.zeroB (w : World) : (zeroValue 4).run Try.prog w = .ok (.bool false) w := by kernel_rfl
theorem Try.sizeT : ∃ d, Try.prog.types.size = d + 1 := ⟨Try.prog.types.size - 1, by have : 0 < Try.prog.types.size := of_decide_eq_true (by kernel_rfl); omega⟩
theorem wfI {x : Int} (h : I64 x) : (Lit.int .i64 x).wf = true := by unfold I64 at h; simp [Lit.wf, IntKind.min, IntKind.max, IntKind.signed, IntKind.bits]; omega
/-- the literal of an end as a key -/
def kl (x y : Int) : Lit := .string (keyBytes [.int .i64 x, .int .i64 y])
theorem klE {x y : Int} (hx : I64 x) (hy : I64 y) : Try.prog.keyLits (Try.prog.types.size + 1) 72 [.int .i64 x, .int .i64 y] = some [.int .i64 x, .int .i64 y] := by
  obtain ⟨d, hd⟩ := Try.sizeT
  have h2 : Try.prog.cellsOf 72 = 2 := by kernel_rfl
  have h1 : Try.prog.cellsOf 3 = 1 := by kernel_rfl
  rw [hd]
  unfold Program.keyLits
  rw [Try.underlying72]
  simp [h2, h1, Program.keyLits, Try.underlying3, wfI hx, wfI hy]
theorem keyE {x y : Int} (hx : I64 x) (hy : I64 y) : keyOf Try.prog 72 (.agg #[.int .i64 x, .int .i64 y]) = some (kl x y) := by
  have h0 : Try.prog.keyType 72 = true := by kernel_rfl
  have h2 : Try.prog.cellsOf 72 = 2 := by kernel_rfl
  unfold keyOf
  rw [Try.underlying72]
  have hf : (Value.agg #[.int .i64 x, .int .i64 y]).formed Try.prog 72 = true := by simp [Value.formed, Try.underlying72, h2]
  have := klE hx hy
  simp only [h0, hf, Bool.and_self, if_true]
  rw [show (Value.agg #[Value.int IntKind.i64 x, Value.int IntKind.i64 y]).cells.toList = [.int .i64 x, .int .i64 y] from rfl, this]
  rfl
theorem kl_inj {x y a b : Int} (hx : I64 x) (hy : I64 y) (ha : I64 a) (hb : I64 b) (h : kl x y = kl a b) : x = a ∧ y = b := by
  unfold kl at h
  injection h with h
  have := keyLits_inj (klE hx hy) (klE ha hb) h
  simpa using this

set_option maxRecDepth 100000 in
theorem plainElem_bool_inv {v : Value} {c : Bool} {ps : List MemPlace} (h : plainElem (H := Unit) Try.prog 4 v = some (.lit (.bool c), ps)) : v = .bool c := by
  unfold plainElem at h
  rw [Try.underlying4] at h
  cases v <;> simp at h
  rw [h.1]
/-- block b is a map that reads as U; it has at most m entries -/
def MpT (w : World) (b : Nat) (U : Int → Int → Bool) (m : Nat) : Prop :=
  ∃ (n : Nat) (D : DataW Unit), n ≤ m ∧ w.ownsMap Try.prog 72 (plainElem Try.prog 4) b n D ∧ Maps.IsMap D ∧ ∀ x y, I64 x → I64 y → D.atKey (kl x y) (.lit (.bool false)) = .lit (.bool (U x y))
section
variable {w w' : World} {b m : Nat} {U : Int → Int → Bool}
theorem MpT.new (w : World) : MpT (w.alloc (.map #[] 0)) w.heap.size (fun _ _ => false) 0 :=
  ⟨0, .map [], Nat.le_refl _, World.ownsMap_made _ _ _ _, Maps.isMap_empty, fun x y _ _ => rfl⟩
theorem MpT.lt (h : MpT w b U m) : b < w.heap.size := let ⟨_, _, _, h, _⟩ := h; h.lt
theorem MpT.mono (h : MpT w b U m) {m' : Nat} (hm : m ≤ m') : MpT w b U m' := let ⟨n, D, h1, h2⟩ := h; ⟨n, D, by omega, h2⟩
theorem MpT.kept {row : Option Nat} (h : MpT w b U m) (hg : w.grownBy w' row) (hr : some b ≠ row) : MpT w' b U m := let ⟨n, D, h1, h2, h3⟩ := h; ⟨n, D, h1, h2.kept hg hr, h3⟩
end

/-- what the walk may turn: blocks from B on and below base, and the moves' own row; v, v' the moves' slices -/
structure Fr (B base : Nat) (w : World) (v : Value) (w' : World) (v' : Value) : Prop where
  os : w'.os = w.os
  tape : w'.tape = w.tape
  output : w'.output = w.output
  size : w.heap.size ≤ w'.heap.size
  block : ∀ k, k < w.heap.size → (k < B ∨ base ≤ k) → v.ownBlock ≠ some k → w'.heap[k]? = w.heap[k]?
  own : ∀ k, v'.ownBlock = some k → v.ownBlock = some k ∨ w.heap.size ≤ k
section
variable {B base : Nat} {w w1 w' : World} {v v1 v' : Value}
theorem Fr.refl (B base : Nat) (w : World) (v : Value) : Fr B base w v w v := ⟨rfl, rfl, rfl, Nat.le_refl _, fun _ _ _ _ => rfl, fun _ h => .inl h⟩
theorem Fr.trans (h : Fr B base w v w1 v1) (k : Fr B base w1 v1 w' v') : Fr B base w v w' v' :=
  ⟨k.os.trans h.os, k.tape.trans h.tape, k.output.trans h.output, Nat.le_trans h.size k.size,
    fun i hi ho hv => (k.block i (Nat.lt_of_lt_of_le hi h.size) ho (fun e => by rcases h.own i e with e | e; exact hv e; omega)).trans (h.block i hi ho hv),
    fun i hi => by rcases k.own i hi with e | e; exact h.own i e; right; exact Nat.le_trans h.size e⟩
theorem Fr.below {b : Nat} (h : Fr B base w v w' v') (hv : ∀ k, v.ownBlock = some k → b ≤ k) (h1 : b ≤ B) (hb : b ≤ w.heap.size) : Below b w w' :=
  ⟨h.os, h.tape, h.output, h.size, fun k hk => h.block k (by omega) (.inl (by omega)) (fun e => by have := hv k e; omega)⟩
theorem Fr.still (hg : w.grownBy w' none) : Fr B base w v w' v := ⟨hg.os, hg.tape, hg.output, hg.size, fun k hk _ _ => hg.block k hk (by simp), fun _ h => .inl h⟩
theorem Fr.turn {r : Nat} (hg : w.grownBy w' (some r)) (h1 : B ≤ r) (h2 : r < base) : Fr B base w v w' v :=
  ⟨hg.os, hg.tape, hg.output, hg.size, fun k hk ho _ => hg.block k hk (fun e => by injection e; omega), fun _ h => .inl h⟩
theorem Fr.row (hg : w.grownBy w' v.ownBlock) (ho : v'.ownBlock = v.ownBlock ∨ ∃ k, v'.ownBlock = some k ∧ w.heap.size ≤ k) : Fr B base w v w' v' :=
  ⟨hg.os, hg.tape, hg.output, hg.size, fun k hk _ hv => hg.block k hk (fun e => hv e.symm), fun k hk => by
    rcases ho with e | ⟨i, e, hi⟩
    · left; rw [← e]; exact hk
    · right; rw [e] at hk; injection hk with hk; omega⟩
theorem Fr.box {g : Nat} {cs : Array Value} {t : TypeId} (h : Fr B base w v w' v') (hb : BoxN w g cs t) (hg : g < B ∨ base ≤ g) (hv : v.ownBlock ≠ some g) : BoxN w' g cs t := (h.block g hb.lt hg hv).trans hb
end
theorem OwnSS.far {w w' : World} {base top : Nat} {e : TypeId} {v : Value} {xss : List (List Int)} {row : Option Nat} (h : OwnSS w base top e v xss) (hg : w.grownBy w' row) (hr : ∀ g, row = some g → g < base) : OwnSS w' base top e v xss := by
  obtain ⟨vs, lo, hi, h1, h2, h3, h4, h5, h6⟩ := h
  refine ⟨vs, lo, hi, h1, h2.kept hg ?_, h3, Nat.le_trans h4 hg.size, fun j hj => ?_, h6⟩
  · cases hv : v.ownBlock with
    | none => exact .inl rfl
    | some g =>
      right
      intro e
      have := (h2.lt g hv).1
      have := hr g e.symm
      omega
  · obtain ⟨u, a1, a2, a3, a4, a5⟩ := h5 j hj
    exact ⟨u, a1, a2, a3, a4.far hg (by omega) (fun g e => .inl (by have := hr g e; omega)), a5⟩

end Go.Proofs.Ytmfjdiccohgihaa
