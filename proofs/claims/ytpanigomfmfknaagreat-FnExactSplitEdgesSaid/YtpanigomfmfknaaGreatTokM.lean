/-
  Memory of the token's walk: a map of ends to bools of the call's own; what a step may turn. No condition on any program.
-/
import Derived.Test.YtpanigomfmfknaaGreatOpen
import Derived.Test.YtpanigomfmfknaaGreatTokP
import Derived.Test.YtpanigomfmfknaaGreatOwnSS
import Derived.Test.YtpanigomfmfknaaGreatFrame
import Derived.Maps.OwnSet
import Derived.WideKeyEntry
import Derived.DeepKeys5
namespace Go.Proofs.YtpanigomfmfknaaGreat
open Go.ChangeShapes Go.WideShapes Go.ChangeAt Go.RowKit
set_option linter.unusedVariables false

theorem Tryz.laidB : laidOutB Tryz.prog = true := by kernel_rfl
theorem Tryz.keyLawE : WideMaps.KeyLaw Tryz.prog 48 :=
  deep_law_gate Tryz.laidB (of_decide_eq_true (by kernel_rfl)) (of_decide_eq_true (by kernel_rfl)) (by kernel_rfl) (by rw [Tryz.underlying48])
theorem Tryz.keyedE : Maps.Keyed Tryz.prog 48 := Maps.Keyed.of_law Tryz.keyLawE
theorem Tryz.zeroB (w : World) : (zeroValue 4).run Tryz.prog w = .ok (.bool false) w := by kernel_rfl
theorem Tryz.sizeT : ∃ d, Tryz.prog.types.size = d + 1 := ⟨Tryz.prog.types.size - 1, by have : 0 < Tryz.prog.types.size := of_decide_eq_true (by kernel_rfl); omega⟩
theorem wfI {x : Int} (h : I64 x) : (Lit.int .i64 x).wf = true := by unfold I64 at h; simp [Lit.wf, IntKind.min, IntKind.max, IntKind.signed, IntKind.bits]; omega
/-- the literal of an end as a key -/
def kl (x y : Int) : Lit := .string (keyBytes [.int .i64 x, .int .i64 y])
theorem klE {x y : Int} (hx : I64 x) (hy : I64 y) : Tryz.prog.keyLits (Tryz.prog.types.size + 1) 48 [.int .i64 x, .int .i64 y] = some [.int .i64 x, .int .i64 y] := by
  obtain ⟨d, hd⟩ := Tryz.sizeT
  have h2 : Tryz.prog.cellsOf 48 = 2 := by kernel_rfl
  have h1 : Tryz.prog.cellsOf 3 = 1 := by kernel_rfl
  rw [hd]
  unfold Program.keyLits
  rw [Tryz.underlying48]
  simp [h2, h1, Program.keyLits, Tryz.underlying3, wfI hx, wfI hy]
theorem keyE {x y : Int} (hx : I64 x) (hy : I64 y) : keyOf Tryz.prog 48 (.agg #[.int .i64 x, .int .i64 y]) = some (kl x y) := by
  have h0 : Tryz.prog.keyType 48 = true := by kernel_rfl
  have h2 : Tryz.prog.cellsOf 48 = 2 := by kernel_rfl
  unfold keyOf
  rw [Tryz.underlying48]
  have hf : (Value.agg #[.int .i64 x, .int .i64 y]).formed Tryz.prog 48 = true := by simp [Value.formed, Tryz.underlying48, h2]
  have := klE hx hy
  simp only [h0, hf, Bool.and_self, if_true]
  rw [show (Value.agg #[Value.int IntKind.i64 x, Value.int IntKind.i64 y]).cells.toList = [.int .i64 x, .int .i64 y] from rfl, this]
  rfl
theorem kl_inj {x y a b : Int} (hx : I64 x) (hy : I64 y) (ha : I64 a) (hb : I64 b) (h : kl x y = kl a b) : x = a ∧ y = b := by
  unfold kl at h
  injection h with h
  have := keyLits_inj (klE hx hy) (klE ha hb) h
  simpa using this

set_option maxRecDepth 100000 in
theorem plainElem_bool_inv {v : Value} {c : Bool} {ps : List MemPlace} (h : plainElem (H := Unit) Tryz.prog 4 v = some (.lit (.bool c), ps)) : v = .bool c := by
  unfold plainElem at h
  rw [Tryz.underlying4] at h
  cases v <;> simp at h
  rw [h.1]
/-- block b is a map that reads as U; it has at most m entries -/
def MpT (w : World) (b : Nat) (U : Int → Int → Bool) (m : Nat) : Prop :=
  ∃ (n : Nat) (D : DataW Unit), n ≤ m ∧ w.ownsMap Tryz.prog 48 (plainElem Tryz.prog 4) b n D ∧ Maps.IsMap D ∧ ∀ x y, I64 x → I64 y → D.atKey (kl x y) (.lit (.bool false)) = .lit (.bool (U x y))
section
variable {w w' : World} {b m : Nat} {U : Int → Int → Bool}
theorem MpT.new (w : World) : MpT (w.alloc (.map #[] 0)) w.heap.size (fun _ _ => false) 0 :=
  ⟨0, .map [], Nat.le_refl _, World.ownsMap_made _ _ _ _, Maps.isMap_empty, fun x y _ _ => rfl⟩
theorem MpT.lt (h : MpT w b U m) : b < w.heap.size := let ⟨_, _, _, h, _⟩ := h; h.lt
theorem MpT.mono (h : MpT w b U m) {m' : Nat} (hm : m ≤ m') : MpT w b U m' := let ⟨n, D, h1, h2⟩ := h; ⟨n, D, by omega, h2⟩
theorem MpT.kept {row : Option Nat} (h : MpT w b U m) (hg : w.grownBy w' row) (hr : some b ≠ row) : MpT w' b U m := let ⟨n, D, h1, h2, h3⟩ := h; ⟨n, D, h1, h2.kept hg hr, h3⟩
theorem MpT.look (h : MpT w b U m) {x y : Int} (hx : I64 x) (hy : I64 y) : (Instr.lookup 65 (.map (some b)) (.agg #[.int .i64 x, .int .i64 y]) false).run Tryz.prog w = .ok (.bool (U x y)) w := by
  obtain ⟨n, D, _, h2, h3, h4⟩ := h
  obtain ⟨v, ps, hrun, hv⟩ := h2.lookup Tryz.keyedE Tryz.underlying65 (Tryz.zeroB w) (plainElem_bool Tryz.underlying4 false) (keyE hx hy)
  rw [h4 x y hx hy] at hv
  rw [hrun, plainElem_bool_inv hv]
theorem MpT.entry (h : MpT w b U m) (hm : m < 1099511627776) {x y : Int} (hx : I64 x) (hy : I64 y) :
    ∃ (v0 : Value) (st : Nat) (w1 w2 : World), (Instr.mapEntry 65 (.map (some b)) (.agg #[.int .i64 x, .int .i64 y])).run Tryz.prog w = .ok (.tuple #[v0, .int .i64 (st : Nat)]) w1 ∧
      (Instr.entryStore 65 (.map (some b)) (.int .i64 (st : Nat)) (.bool true)).run Tryz.prog w1 = .ok () w2 ∧ w.grownBy w1 (some b) ∧ w1.grownBy w2 (some b) ∧ MpT w2 b (setU U x y) (m + 1) := by
  obtain ⟨n, D, h1, h2, h3, h4⟩ := h
  have h20 := h2
  obtain ⟨es, clock, hb, F, hs, hD⟩ := h2
  obtain ⟨v0, st, es1, clock1, hE, _, hS⟩ := WideElems.entry_then_store Tryz.keyLawE Tryz.underlying65 Tryz.zeroB hb F (keyE hx hy)
  obtain ⟨w', hU, hown, hg⟩ := h20.update Tryz.keyedE Tryz.underlying65 (show n < maxLen by unfold maxLen; omega) (keyE hx hy) (plainElem_bool Tryz.underlying4 true)
  have hlt := (Array.getElem?_eq_some_iff.1 hb).1
  have hb1 := ChangeMaps.heap_setBlock_same hb (.map es1 clock1)
  obtain ⟨es', clock', hst, hup⟩ := hS _ (.bool true) hb1
  rw [hU] at hup
  injection hup with _ hw
  have hb2 := ChangeMaps.heap_setBlock_same hb1 (.map es' clock')
  have hg1 : w.grownBy (ChangeMaps.setBlock w b (.map es1 clock1)) (some b) := ⟨rfl, rfl, rfl, by simp [ChangeMaps.setBlock], fun i _ hi => ChangeMaps.heap_setBlock_other hb _ (fun e => hi (by rw [e]))⟩
  have hg2 : (ChangeMaps.setBlock w b (.map es1 clock1)).grownBy (ChangeMaps.setBlock (ChangeMaps.setBlock w b (.map es1 clock1)) b (.map es' clock')) (some b) := ⟨rfl, rfl, rfl, by simp [ChangeMaps.setBlock], fun i _ hi => ChangeMaps.heap_setBlock_other hb1 _ (fun e => hi (by rw [e]))⟩
  refine ⟨v0, st, _, _, hE, hst, hg1, hg2, n + 1, D.put (kl x y) (.lit (.bool true)), by omega, ?_, h3.put _ _, fun a c ha hc => ?_⟩
  · obtain ⟨es2, c2, hbb, rest⟩ := hown
    refine ⟨es2, c2, ?_, rest⟩
    rw [hb2, ← hbb, hw, ChangeMaps.heap_setBlock_same hb _]
  · by_cases e : a = x ∧ c = y
    · obtain ⟨rfl, rfl⟩ := e
      rw [Maps.atKey_put_same h3 (by trivial), setU_at]
    · rw [Maps.atKey_put_other (fun e2 => e (kl_inj ha hc hx hy e2)), h4 a c ha hc, setU_ne e]
end

/-- what the walk may turn: blocks from B on and below base, and the moves' own row; v, v' the moves' slices -/
structure Fr (B base : Nat) (w : World) (v : Value) (w' : World) (v' : Value) : Prop where
  os : w'.os = w.os
  tape : w'.tape = w.tape
  output : w'.output = w.output
  size : w.heap.size ≤ w'.heap.size
  block : ∀ k, k < w.heap.size → (k < B ∨ base ≤ k) → v.ownBlock ≠ some k → w'.heap[k]? = w.heap[k]?
  own : ∀ k, v'.ownBlock = some k → v.ownBlock = some k ∨ w.heap.size ≤ k
section
variable {B base : Nat} {w w1 w' : World} {v v1 v' : Value}
theorem Fr.refl (B base : Nat) (w : World) (v : Value) : Fr B base w v w v := ⟨rfl, rfl, rfl, Nat.le_refl _, fun _ _ _ _ => rfl, fun _ h => .inl h⟩
theorem Fr.trans (h : Fr B base w v w1 v1) (k : Fr B base w1 v1 w' v') : Fr B base w v w' v' :=
  ⟨k.os.trans h.os, k.tape.trans h.tape, k.output.trans h.output, Nat.le_trans h.size k.size,
    fun i hi ho hv => (k.block i (Nat.lt_of_lt_of_le hi h.size) ho (fun e => by rcases h.own i e with e | e; exact hv e; omega)).trans (h.block i hi ho hv),
    fun i hi => by rcases k.own i hi with e | e; exact h.own i e; right; exact Nat.le_trans h.size e⟩
theorem Fr.below {b : Nat} (h : Fr B base w v w' v') (hv : ∀ k, v.ownBlock = some k → b ≤ k) (h1 : b ≤ B) (hb : b ≤ w.heap.size) : Below b w w' :=
  ⟨h.os, h.tape, h.output, h.size, fun k hk => h.block k (by omega) (.inl (by omega)) (fun e => by have := hv k e; omega)⟩
theorem Fr.still (hg : w.grownBy w' none) : Fr B base w v w' v := ⟨hg.os, hg.tape, hg.output, hg.size, fun k hk _ _ => hg.block k hk (by simp), fun _ h => .inl h⟩
theorem Fr.turn {r : Nat} (hg : w.grownBy w' (some r)) (h1 : B ≤ r) (h2 : r < base) : Fr B base w v w' v :=
  ⟨hg.os, hg.tape, hg.output, hg.size, fun k hk ho _ => hg.block k hk (fun e => by injection e; omega), fun _ h => .inl h⟩
theorem Fr.row (hg : w.grownBy w' v.ownBlock) (ho : v'.ownBlock = v.ownBlock ∨ ∃ k, v'.ownBlock = some k ∧ w.heap.size ≤ k) : Fr B base w v w' v' :=
  ⟨hg.os, hg.tape, hg.output, hg.size, fun k hk _ hv => hg.block k hk (fun e => hv e.symm), fun k hk => by
    rcases ho with e | ⟨i, e, hi⟩
    · left; rw [← e]; exact hk
    · right; rw [e] at hk; injection hk with hk; omega⟩
theorem Fr.box {g : Nat} {cs : Array Value} {t : TypeId} (h : Fr B base w v w' v') (hb : BoxN w g cs t) (hg : g < B ∨ base ≤ g) (hv : v.ownBlock ≠ some g) : BoxN w' g cs t := (h.block g hb.lt hg hv).trans hb
end
theorem OwnSS.far {w w' : World} {base top : Nat} {e : TypeId} {v : Value} {xss : List (List Int)} {row : Option Nat} (h : OwnSS w base top e v xss) (hg : w.grownBy w' row) (hr : ∀ g, row = some g → g < base) : OwnSS w' base top e v xss := by
  obtain ⟨vs, lo, hi, h1, h2, h3, h4, h5, h6⟩ := h
  refine ⟨vs, lo, hi, h1, h2.kept hg ?_, h3, Nat.le_trans h4 hg.size, fun j hj => ?_, h6⟩
  · cases hv : v.ownBlock with
    | none => exact .inl rfl
    | some g =>
      right
      intro e
      have := (h2.lt g hv).1
      have := hr g e.symm
      omega
  · obtain ⟨u, a1, a2, a3, a4, a5⟩ := h5 j hj
    exact ⟨u, a1, a2, a3, a4.far hg (by omega) (fun g e => .inl (by have := hr g e; omega)), a5⟩

end Go.Proofs.YtpanigomfmfknaaGreat
