/-
  Several texts in one: TokM, OwnES, OwnE, Reg, Ite, PartM, DistC. No condition on any program.
-/
import Derived.Test.YtcmmklcampmkjaaBcB
import Derived.Test.YtcmmklcampmkjaaBcA
import Derived.Test.YtcmmklcampmkjaaBcE
import Derived.Maps.OwnSet
import Derived.WideKeyEntry
import Derived.DeepKeys5
import Derived.OrdersHeld
import Derived.StillTail
import Derived.Deep.RegionHeld
import Derived.Lib.Hide
import Derived.Laws.OwnMore
import Derived.Test.YtcmmklcampmkjaaBcD

/- Memory of the token's walk: a map of ends to bools of the call's own; what a step may turn. No condition on any program. -/
namespace Go.Proofs.Ytcmmklcampmkjaa
open Go.ChangeShapes Go.WideShapes Go.ChangeAt Go.RowKit
set_option linter.unusedVariables false

theorem Try.laidB : laidOutB Try.prog = true := by kernel_rfl
theorem Try.keyLawE : WideMaps.KeyLaw Try.prog 60 :=
  deep_law_gate Try.laidB (of_decide_eq_true (by kernel_rfl)) (of_decide_eq_true (by kernel_rfl)) (by kernel_rfl) (by rw [Try.underlying60])
theorem Try.keyedE : Maps.Keyed Try.prog 60 := Maps.Keyed.of_law Try.keyLawE
theorem Try.zeroB (w : World) : (zeroValue 4).run Try.prog w = .ok (.bool false) w := by kernel_rfl
theorem Try.sizeT : ∃ d, Try.prog.types.size = d + 1 := ⟨Try.prog.types.size - 1, by have : 0 < Try.prog.types.size := of_decide_eq_true (by kernel_rfl); omega⟩
theorem wfI {x : Int} (h : I64 x) : (Lit.int .i64 x).wf = true := by unfold I64 at h; simp [Lit.wf, IntKind.min, IntKind.max, IntKind.signed, IntKind.bits]; omega
/-- the literal of an end as a key -/
def kl (x y : Int) : Lit := .string (keyBytes [.int .i64 x, .int .i64 y])
theorem klE {x y : Int} (hx : I64 x) (hy : I64 y) : Try.prog.keyLits (Try.prog.types.size + 1) 60 [.int .i64 x, .int .i64 y] = some [.int .i64 x, .int .i64 y] := by
  obtain ⟨d, hd⟩ := Try.sizeT
  have h2 : Try.prog.cellsOf 60 = 2 := by kernel_rfl
  have h1 : Try.prog.cellsOf 3 = 1 := by kernel_rfl
  rw [hd]
  unfold Program.keyLits
  rw [Try.underlying60]
  simp [h2, h1, Program.keyLits, Try.underlying3, wfI hx, wfI hy]
theorem keyE {x y : Int} (hx : I64 x) (hy : I64 y) : keyOf Try.prog 60 (.agg #[.int .i64 x, .int .i64 y]) = some (kl x y) := by
  have h0 : Try.prog.keyType 60 = true := by kernel_rfl
  have h2 : Try.prog.cellsOf 60 = 2 := by kernel_rfl
  unfold keyOf
  rw [Try.underlying60]
  have hf : (Value.agg #[.int .i64 x, .int .i64 y]).formed Try.prog 60 = true := by simp [Value.formed, Try.underlying60, h2]
  have := klE hx hy
  simp only [h0, hf, Bool.and_self, if_true]
  rw [show (Value.agg #[Value.int IntKind.i64 x, Value.int IntKind.i64 y]).cells.toList = [.int .i64 x, .int .i64 y] from rfl, this]
  rfl
theorem kl_inj {x y a b : Int} (hx : I64 x) (hy : I64 y) (ha : I64 a) (hb : I64 b) (h : kl x y = kl a b) : x = a ∧ y = b := by
  unfold kl at h
  injection h with h
  have := keyLits_inj (klE hx hy) (klE ha hb) h
  simpa using this

set_option maxRecDepth 100000 in
theorem plainElem_bool_inv {v : Value} {c : Bool} {ps : List MemPlace} (h : plainElem (H := Unit) Try.prog 4 v = some (.lit (.bool c), ps)) : v = .bool c := by
  unfold plainElem at h
  rw [Try.underlying4] at h
  cases v <;> simp at h
  rw [h.1]
/-- block b is a map that reads as U; it has at most m entries -/
def MpT (w : World) (b : Nat) (U : Int → Int → Bool) (m : Nat) : Prop :=
  ∃ (n : Nat) (D : DataW Unit), n ≤ m ∧ w.ownsMap Try.prog 60 (plainElem Try.prog 4) b n D ∧ Maps.IsMap D ∧ ∀ x y, I64 x → I64 y → D.atKey (kl x y) (.lit (.bool false)) = .lit (.bool (U x y))
section
variable {w w' : World} {b m : Nat} {U : Int → Int → Bool}
theorem MpT.new (w : World) : MpT (w.alloc (.map #[] 0)) w.heap.size (fun _ _ => false) 0 :=
  ⟨0, .map [], Nat.le_refl _, World.ownsMap_made _ _ _ _, Maps.isMap_empty, fun x y _ _ => rfl⟩
theorem MpT.lt (h : MpT w b U m) : b < w.heap.size := let ⟨_, _, _, h, _⟩ := h; h.lt
theorem MpT.mono (h : MpT w b U m) {m' : Nat} (hm : m ≤ m') : MpT w b U m' := let ⟨n, D, h1, h2⟩ := h; ⟨n, D, by omega, h2⟩
theorem MpT.kept {row : Option Nat} (h : MpT w b U m) (hg : w.grownBy w' row) (hr : some b ≠ row) : MpT w' b U m := let ⟨n, D, h1, h2, h3⟩ := h; ⟨n, D, h1, h2.kept hg hr, h3⟩
end

/-- what the walk may turn: blocks from B on and below base, and the moves' own row; v, v' the moves' slices -/
structure Fr (B base : Nat) (w : World) (v : Value) (w' : World) (v' : Value) : Prop where
  os : w'.os = w.os
  tape : w'.tape = w.tape
  output : w'.output = w.output
  size : w.heap.size ≤ w'.heap.size
  block : ∀ k, k < w.heap.size → (k < B ∨ base ≤ k) → v.ownBlock ≠ some k → w'.heap[k]? = w.heap[k]?
  own : ∀ k, v'.ownBlock = some k → v.ownBlock = some k ∨ w.heap.size ≤ k
section
variable {B base : Nat} {w w1 w' : World} {v v1 v' : Value}
theorem Fr.refl (B base : Nat) (w : World) (v : Value) : Fr B base w v w v := ⟨rfl, rfl, rfl, Nat.le_refl _, fun _ _ _ _ => rfl, fun _ h => .inl h⟩
theorem Fr.trans (h : Fr B base w v w1 v1) (k : Fr B base w1 v1 w' v') : Fr B base w v w' v' :=
  ⟨k.os.trans h.os, k.tape.trans h.tape, k.output.trans h.output, Nat.le_trans h.size k.size,
    fun i hi ho hv => (k.block i (Nat.lt_of_lt_of_le hi h.size) ho (fun e => by rcases h.own i e with e | e; exact hv e; omega)).trans (h.block i hi ho hv),
    fun i hi => by rcases k.own i hi with e | e; exact h.own i e; right; exact Nat.le_trans h.size e⟩
theorem Fr.below {b : Nat} (h : Fr B base w v w' v') (hv : ∀ k, v.ownBlock = some k → b ≤ k) (h1 : b ≤ B) (hb : b ≤ w.heap.size) : Below b w w' :=
  ⟨h.os, h.tape, h.output, h.size, fun k hk => h.block k (by omega) (.inl (by omega)) (fun e => by have := hv k e; omega)⟩
theorem Fr.still (hg : w.grownBy w' none) : Fr B base w v w' v := ⟨hg.os, hg.tape, hg.output, hg.size, fun k hk _ _ => hg.block k hk (by simp), fun _ h => .inl h⟩
theorem Fr.row (hg : w.grownBy w' v.ownBlock) (ho : v'.ownBlock = v.ownBlock ∨ ∃ k, v'.ownBlock = some k ∧ w.heap.size ≤ k) : Fr B base w v w' v' :=
  ⟨hg.os, hg.tape, hg.output, hg.size, fun k hk _ hv => hg.block k hk (fun e => hv e.symm), fun k hk => by
    rcases ho with e | ⟨i, e, hi⟩
    · left; rw [← e]; exact hk
    · right; rw [e] at hk; injection hk with hk; omega⟩
end
theorem OwnSS.far {w w' : World} {base top : Nat} {e : TypeId} {v : Value} {xss : List (List Int)} {row : Option Nat} (h : OwnSS w base top e v xss) (hg : w.grownBy w' row) (hr : ∀ g, row = some g → g < base) : OwnSS w' base top e v xss := by
  obtain ⟨vs, lo, hi, h1, h2, h3, h4, h5, h6⟩ := h
  refine ⟨vs, lo, hi, h1, h2.kept hg ?_, h3, Nat.le_trans h4 hg.size, fun j hj => ?_, h6⟩
  · cases hv : v.ownBlock with
    | none => exact .inl rfl
    | some g =>
      right
      intro e
      have := (h2.lt g hv).1
      have := hr g e.symm
      omega
  · obtain ⟨u, a1, a2, a3, a4, a5⟩ := h5 j hj
    exact ⟨u, a1, a2, a3, a4.far hg (by omega) (fun g e => .inl (by have := hr g e; omega)), a5⟩

end Go.Proofs.Ytcmmklcampmkjaa

/- A slice of slices of ends that the call owns and appends rows to. No condition on any program. -/
namespace Go.Proofs.Ytcmmklcampmkjaa
open Go.RowKit

/-- v is a slice of slices that reads as xss; its own row lies from block base on; its rows lie one behind the other, from base on and below top -/
def OwnES (w : World) (base top : Nat) (e : TypeId) (v : Value) (xss : List (List (Int × Int))) : Prop :=
  ∃ (vs : List Value) (lo hi : Nat → Nat), vs.length = xss.length ∧ Own w base e v vs ∧ base ≤ top ∧ top ≤ w.heap.size ∧
    (∀ j, j < xss.length → ∃ u, vs[j]? = some u ∧ base ≤ lo j ∧ hi j ≤ top ∧ EndS w (lo j) (hi j) u (nthL xss j) ∧ ∀ g, v.ownBlock = some g → g < lo j ∨ hi j ≤ g) ∧
    ∀ i j, i < j → j < xss.length → hi i ≤ lo j


section
variable {w w' : World} {base top : Nat} {e : TypeId} {v : Value} {xss : List (List (Int × Int))}
theorem OwnES.nil (w : World) (base top : Nat) (e : TypeId) (h1 : base ≤ top) (h2 : top ≤ w.heap.size) : OwnES w base top e (.slice none 0 0) [] :=
  ⟨[], fun _ => 0, fun _ => 0, rfl, Own.nil _ _ _, h1, h2, fun j hj => absurd hj (by simp), fun i j _ hj => absurd hj (by simp)⟩
theorem OwnES.below (h : OwnES w base top e v xss) (hb : Below w.heap.size w w') : OwnES w' base top e v xss := by
  obtain ⟨vs, lo, hi, h1, h2, h3, h4, h5, h6⟩ := h
  refine ⟨vs, lo, hi, h1, h2.kept (row := none) ⟨hb.os, hb.tape, hb.output, hb.size, fun k hk _ => hb.block k hk⟩ (by cases hv : v.ownBlock with
    | none => exact .inl rfl
    | some g => right; simp), h3, Nat.le_trans h4 hb.size, fun j hj => ?_, h6⟩
  obtain ⟨u, a1, a2, a3, a4, a5⟩ := h5 j hj
  exact ⟨u, a1, a2, a3, a4.below hb (by omega), a5⟩
theorem OwnES.alloc (h : OwnES w base top e v xss) (o : Obj) : OwnES (w.alloc o) base top e v xss := h.below ((Below.refl _ _).alloc (Nat.le_refl _) o)
theorem OwnES.drew (h : OwnES w base top e v xss) : OwnES w.drew base top e v xss := h
theorem OwnES.drewN (h : OwnES w base top e v xss) (k : Nat) : OwnES (w.drewN k) base top e v xss := h
theorem OwnES.len (h : OwnES w base top e v xss) : ∃ A c, v = .slice A xss.length c ∧ xss.length ≤ c ∧ c ≤ maxLen := by
  obtain ⟨vs, lo, hi, h1, h2, _⟩ := h
  obtain ⟨A, c, e, a1, a2, _⟩ := h2.form
  exact ⟨A, c, by rw [e, h1], by omega, a2⟩
theorem OwnES.lt (h : OwnES w base top e v xss) : ∀ k, v.ownBlock = some k → base ≤ k ∧ k < w.heap.size := by
  obtain ⟨vs, lo, hi, h1, h2, _⟩ := h
  exact h2.lt
theorem OwnES.mono (h : OwnES w base top e v xss) {top' : Nat} (h1 : top ≤ top') (h2 : top' ≤ w.heap.size) : OwnES w base top' e v xss := by
  obtain ⟨vs, lo, hi, a1, a2, a3, a4, a5, a6⟩ := h
  refine ⟨vs, lo, hi, a1, a2, by omega, h2, fun j hj => ?_, a6⟩
  obtain ⟨u, b1, b2, b3, b4, b5⟩ := a5 j hj
  exact ⟨u, b1, b2, by omega, b4, b5⟩
theorem OwnES.ssx (h : OwnES w base top e v xss) : EndSSx w base w.heap.size v xss := by
  obtain ⟨vs, lo, hi, h1, h2, h3, h4, h5, h6⟩ := h
  have hsl : Sl w base w.heap.size 1 v xss.length (fun j => vs.getD j undef) := by
    have := Sl.of_own (f := fun j => vs.getD j undef) h2 (fun j hj => by simp at hj; simp [hj])
    rwa [h1] at this
  have hr : ∀ j, j < xss.length → EndS w (lo j) (hi j) (vs.getD j undef) (nthL xss j) ∧ base ≤ lo j ∧ hi j ≤ top ∧ ∀ g, v.ownBlock = some g → g < lo j ∨ hi j ≤ g := fun j hj => by
    obtain ⟨u, a1, a2, a3, a4, a5⟩ := h5 j hj
    have : vs.getD j undef = u := by simp [a1]
    rw [this]
    exact ⟨a4, a2, a3, a5⟩
  refine ⟨fun j => vs.getD j undef, hsl, fun i hi' => (hr i hi').1.mono (hr i hi').2.1 (by have := (hr i hi').2.2.1; omega), fun i j hij hj => ?_, fun i hi' => ?_⟩
  · obtain ⟨a1, _⟩ := hr i (by omega)
    obtain ⟨b1, _⟩ := hr j hj
    rcases Sl.row a1 with e1 | ⟨g1, e1, c1, c2⟩
    · exact .inl e1
    · right
      rw [e1]
      rcases Sl.row b1 with e2 | ⟨g2, e2, d1, d2⟩
      · rw [e2]; simp
      · rw [e2]; intro e3; injection e3 with e3; have := h6 i j hij hj; omega
  · obtain ⟨a1, _, _, a2⟩ := hr i hi'
    rcases Sl.row a1 with e1 | ⟨g1, e1, c1, c2⟩
    · exact .inl e1
    · right
      rw [e1]
      unfold rowOf
      rw [if_neg (by omega)]
      intro e3
      have := a2 g1 e3.symm
      omega
end

/-- append of one row onto a slice of slices of the call's own, the row's slice just laid in a block of its own -/
theorem append_es {P : Program} {ops : Array Oper} {rest : List Oper} {o : Oper} {a : Act} {Q : Exit → Act → World → Prop} {t e : TypeId} {bytes : Nat}
    (ht : P.underlying t = some (.slice e)) (hinfo : (P.info? e).map (fun i => (i.zero, i.size, i.bytes)) = some (some (.slice none 0 0), 1, bytes)) (hby : bytes ≤ 64)
    (w : World) (hgd : o.guard = none) {s : Operand} (x : Operand) (ho : o.op = .call { callee := .builtin .append, args := #[s, x], argTypes := #[t, t] })
    {base top : Nat} {v : Value} {xss : List (List (Int × Int))} (hown : OwnES w base top e v xss) {u : Value} {xs : List (Int × Int)} {lo hi : Nat} (hu : EndS w lo hi u xs) (hlo : top ≤ lo) (hhi : hi ≤ w.heap.size) (hlh : lo ≤ hi) (hfar : ∀ g, v.ownBlock = some g → g < lo ∨ hi ≤ g)
    (te : TypeId) (hs : a.eval s = v) (hx : a.eval x = .slice (some ⟨w.heap.size, 0, none⟩) 1 1) (hlen : xss.length < 1099511627776)
    (h : ∀ v' w', OwnES w' base hi e v' (xss ++ [xs]) → w.grownBy w' v.ownBlock → (v'.ownBlock = v.ownBlock ∨ v'.ownBlock = some (w.heap.size + 1)) → wpList P ops Q rest (a.put o.dst v') w') :
    wpList P ops Q (o :: rest) a (w.alloc (.cells #[u] te)) := by
  obtain ⟨vs, los, his, h1, h2, h3, h4, h5, h6⟩ := hown
  obtain ⟨A, c, rfl⟩ := (show ∃ A c, u = .slice A xs.length c from let ⟨A, c, e, _⟩ := hu; ⟨A, c, e⟩)
  refine append1 ht hinfo rfl hby w hgd x ho h2 _ te hs hx rfl (by omega) (by omega) fun v' w' ho' hg' hat' => h v' w' ?_ hg' hat'
  have hgs := hg'.size
  have hold : ∀ j, j < xss.length → ∃ u, vs[j]? = some u ∧ base ≤ los j ∧ his j ≤ top ∧ EndS w' (los j) (his j) u (nthL xss j) ∧ ∀ g, v'.ownBlock = some g → g < los j ∨ his j ≤ g := fun j hj => by
    obtain ⟨u, a1, a2, a3, a4, a5⟩ := h5 j hj
    refine ⟨u, a1, a2, a3, a4.far hg' (by omega) a5, fun g hg => ?_⟩
    rcases hat' with e1 | e1
    · exact a5 g (by rw [← e1]; exact hg)
    · rw [e1] at hg; injection hg with hg; omega
  refine ⟨vs ++ [.slice A xs.length c], fun j => if j < xss.length then los j else lo, fun j => if j < xss.length then his j else hi, by simp [h1], ho', by omega, by omega, fun j hj => ?_, fun i j hij hj => ?_⟩
  · dsimp only
    by_cases e1 : j < xss.length
    · obtain ⟨u, a1, a2, a3, a4, a5⟩ := hold j e1
      rw [if_pos e1, if_pos e1, nthL_append_left e1]
      exact ⟨u, by rw [List.getElem?_append_left (by omega)]; exact a1, a2, by omega, a4, a5⟩
    · obtain rfl : j = xss.length := by simp at hj; omega
      rw [if_neg e1, if_neg e1, nthL_append_at]
      refine ⟨.slice A xs.length c, by rw [← h1]; simp, by omega, Nat.le_refl _, hu.far hg' hhi hfar, fun g hg => ?_⟩
      rcases hat' with e2 | e2
      · exact hfar g (by rw [← e2]; exact hg)
      · rw [e2] at hg; injection hg with hg; omega
  · dsimp only
    rw [if_pos (by simp at hj; omega)]
    by_cases e1 : j < xss.length
    · rw [if_pos e1]; exact h6 i j hij e1
    · rw [if_neg e1]
      obtain ⟨u, _, _, a3, _⟩ := h5 i (by simp at hj; omega)
      omega

theorem OwnES.far {w w' : World} {base top : Nat} {e : TypeId} {v : Value} {xss : List (List (Int × Int))} {row : Option Nat} (h : OwnES w base top e v xss) (hg : w.grownBy w' row) (hr : ∀ g, row = some g → g < base) : OwnES w' base top e v xss := by
  obtain ⟨vs, lo, hi, h1, h2, h3, h4, h5, h6⟩ := h
  refine ⟨vs, lo, hi, h1, h2.kept hg ?_, h3, Nat.le_trans h4 hg.size, fun j hj => ?_, h6⟩
  · cases hv : v.ownBlock with
    | none => exact .inl rfl
    | some g =>
      right
      intro e
      have := (h2.lt g hv).1
      have := hr g e.symm
      omega
  · obtain ⟨u, a1, a2, a3, a4, a5⟩ := h5 j hj
    exact ⟨u, a1, a2, a3, a4.far hg (by omega) (fun g e => .inl (by have := hr g e; omega)), a5⟩


end Go.Proofs.Ytcmmklcampmkjaa

/- Rows of ends that a call owns and appends to. No condition on any program. -/
namespace Go.Proofs.Ytcmmklcampmkjaa
open Go.RowKit
set_option linter.unusedVariables false

/-- the cells of ends -/
def flatP : List Po → List Value
  | [] => []
  | p :: l => .int .i64 (p.1 : Int) :: .int .i64 (p.2 : Int) :: flatP l
theorem flatP_snoc : ∀ (l : List Po) (p : Po), flatP (l ++ [p]) = flatP l ++ [.int .i64 (p.1 : Int), .int .i64 (p.2 : Int)]
  | [], p => rfl
  | x :: l, p => by show _ :: _ :: flatP (l ++ [p]) = _; rw [flatP_snoc l p]; rfl
theorem flatP_get : ∀ (l : List Po) (j : Nat), j < l.length * 2 → (flatP l)[j]? = some (endCell (castL l) j)
  | [], j, h => absurd h (by simp)
  | p :: l, 0, h => rfl
  | p :: l, 1, h => rfl
  | p :: l, j + 2, h => by
    have := flatP_get l j (by simp only [List.length_cons] at h; omega)
    show (flatP l)[j]? = _
    rw [this]
    unfold endCell
    rw [show (j + 2) % 2 = j % 2 by omega, show (j + 2) / 2 = j / 2 + 1 by omega]
    rfl
/-- a row of ends that the call owns -/
def OwnE (w : World) (base : Nat) (e : TypeId) (v : Value) (l : List Po) : Prop := w.ownsRow base e 2 v l.length (flatP l)
section
variable {w w' : World} {lo hi base : Nat} {v : Value} {l : List Po} {e : TypeId} {row : Option Nat}
theorem OwnE.nil (w : World) (base : Nat) (e : TypeId) : OwnE w base e (.slice none 0 0) [] := World.ownsRow_nil w base e 2
theorem OwnE.lt (h : OwnE w base e v l) : ∀ k, v.ownBlock = some k → base ≤ k ∧ k < w.heap.size := World.ownsRow.lt h
theorem OwnE.alloc (h : OwnE w base e v l) (o : Obj) : OwnE (w.alloc o) base e v l := World.ownsRow.alloc h o
theorem OwnE.kept {row : Option Nat} (h : OwnE w base e v l) (hg : w.grownBy w' row) (hne : v.ownBlock = none ∨ v.ownBlock ≠ row) : OwnE w' base e v l := World.ownsRow.kept h hg hne
theorem OwnE.still (h : OwnE w base e v l) (hg : w.grownBy w' none) : OwnE w' base e v l := h.kept hg (by
  cases hv : v.ownBlock with
  | none => exact .inl rfl
  | some g => right; simp)
theorem OwnE.far (h : OwnE w base e v l) (hg : w.grownBy w' row) (hr : ∀ g, row = some g → v.ownBlock ≠ some g) : OwnE w' base e v l := h.kept hg (by
  cases hv : v.ownBlock with
  | none => exact .inl rfl
  | some g => right; intro e; exact hr g e.symm hv)
theorem OwnE.ends (h : OwnE w base e v l) : EndS w base w.heap.size v (castL l) := by
  have h1 : w.ownsRow base e 2 v (castL l).length (flatP l) := by rw [castL_length]; exact h
  exact Sl.of_own h1 fun j hj => flatP_get l j (by rw [castL_length] at hj; omega)
theorem OwnE.len (h : OwnE w base e v l) : ∃ A c, v = .slice A l.length c ∧ l.length ≤ c ∧ c ≤ 9223372036854775807 := by
  obtain ⟨A, c, e, h1, h2⟩ := h.ends.dims
  rw [castL_length] at e h1
  exact ⟨A, c, e, h1, h2⟩
end
/-- append of one end, just laid in a block of its own -/
theorem append_end {P : Program} {ops : Array Oper} {rest : List Oper} {o : Oper} {a : Act} {Q : Exit → Act → World → Prop} {t e : TypeId} {z : Value} {bytes : Nat}
    (ht : P.underlying t = some (.slice e)) (hinfo : (P.info? e).map (fun i => (i.zero, i.size, i.bytes)) = some (some z, 2, bytes)) (hz1 : z.cells.size = 2) (hby : bytes ≤ 64)
    (w : World) (hgd : o.guard = none) {s : Operand} (x : Operand) (ho : o.op = .call { callee := .builtin .append, args := #[s, x], argTypes := #[t, t] })
    {base : Nat} {v : Value} {l : List Po} (hown : OwnE w base e v l) (p : Po) (te : TypeId) (hs : a.eval s = v) (hx : a.eval x = .slice (some ⟨w.heap.size, 0, none⟩) 1 1)
    (hlen : l.length < 1099511627776) (hbase : base ≤ w.heap.size)
    (h : ∀ v' w', OwnE w' base e v' (l ++ [p]) → w.grownBy w' v.ownBlock → (v'.ownBlock = v.ownBlock ∨ v'.ownBlock = some (w.heap.size + 1)) → wpList P ops Q rest (a.put o.dst v') w') :
    wpList P ops Q (o :: rest) a (w.alloc (.cells #[.int .i64 (p.1 : Int), .int .i64 (p.2 : Int)] te)) := by
  refine append_row ht hinfo hz1 (by omega) hby _ hgd x ho (hown.alloc _) hs [.int .i64 (p.1 : Int), .int .i64 (p.2 : Int)] hx rfl ?_ ?_ (by omega) (by simp; omega) fun v' w' a1 a2 a3 => h v' w' ?_ ?_ ?_
  · intro j u hj
    rw [show (⟨w.heap.size, 0, none⟩ : Addr).add j = ⟨w.heap.size, j, none⟩ by simp [Addr.add, eq_comm], World.cell?_alloc_at _ _ _ _ rfl]
    simpa using hj
  · intro u hu
    simp only [List.mem_cons, List.not_mem_nil, or_false] at hu
    rcases hu with rfl | rfl <;> rfl
  · unfold OwnE
    rw [flatP_snoc, List.length_append]
    exact a1
  · exact ⟨a2.os, a2.tape, a2.output, Nat.le_trans (by simp) a2.size, fun k hk hne => (a2.block k (by simp; omega) hne).trans (Below.heap_alloc _ _ _ hk)⟩
  · simpa using a3

end Go.Proofs.Ytcmmklcampmkjaa

/- Regions that draw their order, whose last operations store into cells that the others load: a condition on the world that need hold only behind the operations before number T; each operation from T on waits for all of these. No condition on any program. -/
namespace Go.Proofs.Ytcmmklcampmkjaa
open Go.RowKit
set_option linter.unusedVariables false

section
variable {P : Program} {md : Region.Mode} {ops : Array Oper} {Q : Exit → Act → World → Prop} {S : World → Prop} {T : List Nat}
/-- whatever order is drawn; behind each operation before number T the condition S holds -/
def anyU (P : Program) (md : Region.Mode) (ops : Array Oper) (Q : Exit → Act → World → Prop) (S : World → Prop) (T : List Nat) : Nat → Array Bool → Act → World → Prop
  | 0, listed, a, w => Region.ready md ops listed = [] ∧ Q .normal a w
  | fuel + 1, listed, a, w => (Region.ready md ops listed = [] → Q .normal a w) ∧
    ∀ i ∈ Region.ready md ops listed, wpOp P ops Q i (fun a' w' => (T.contains i = false → S w') ∧ anyU P md ops Q S T fuel (listed.setIfInBounds i true) a' w') a w
theorem any_of_U : ∀ (fuel : Nat) (listed : Array Bool) (a : Act) (w : World), anyU P md ops Q S T fuel listed a w → wpAny P md ops Q fuel listed a w
  | 0, _, _, _, h => h
  | fuel + 1, _, _, _, h => ⟨h.1, fun i hi => wpOp_mono (fun _ _ k => any_of_U fuel _ _ _ k.2) (h.2 i hi)⟩
/-- whom an operation waits for -/
def onsOf (md : Region.Mode) (ops : Array Oper) (j : Nat) : List Nat := match ops[j]? with
  | some oj => (oj.after.toList.filter fun e => Region.binds md e).map fun e => e.on
  | none => []
/-- number j waits for number i, at first or at second hand -/
def ancB (md : Region.Mode) (ops : Array Oper) : Nat → Nat → Nat → Bool
  | 0, j, i => (onsOf md ops j).contains i
  | f + 1, j, i => (onsOf md ops j).contains i || (onsOf md ops j).any fun k => ancB md ops f k i
/-- each of the operations T has come up, or waits for number i -/
def waitsB (md : Region.Mode) (ops : Array Oper) (T : List Nat) (listed : Array Bool) (i : Nat) : Bool := T.all fun t => listed.getD t false || ancB md ops 7 t i
def Closed (md : Region.Mode) (ops : Array Oper) (listed : Array Bool) : Prop := ∀ j k, listed.getD j false = true → k ∈ onsOf md ops j → listed.getD k false = true
def closedB (md : Region.Mode) (ops : Array Oper) (listed : Array Bool) : Bool := (List.range ops.size).all fun j => !listed.getD j false || (onsOf md ops j).all fun k => listed.getD k false
theorem closedB_is {listed : Array Bool} (h : closedB md ops listed = true) : Closed md ops listed := fun j k hj hk => by
  have hjl : j < ops.size := by
    unfold onsOf at hk
    split at hk
    · rename_i oj ho; exact (Array.getElem?_eq_some_iff.1 ho).1
    · cases hk
  have := List.all_eq_true.1 h j (List.mem_range.2 hjl)
  rw [hj, Bool.not_true, Bool.false_or, List.all_eq_true] at this
  exact this k hk
theorem ready_ons {listed : Array Bool} {j : Nat} (h : j ∈ Region.ready md ops listed) : ∀ k ∈ onsOf md ops j, listed.getD k false = true := fun k hk => by
  obtain ⟨_, oj, hoj, hall⟩ := mem_ready.1 h
  unfold onsOf at hk
  rw [hoj] at hk
  simp only [List.mem_map, List.mem_filter] at hk
  obtain ⟨e, ⟨he, hb⟩, rfl⟩ := hk
  exact hall e (by simpa using he) hb
theorem anc_listed {listed : Array Bool} (hc : Closed md ops listed) : ∀ {f j i : Nat}, ancB md ops f j i = true → (∀ k ∈ onsOf md ops j, listed.getD k false = true) → listed.getD i false = true
  | 0, j, i, h, hj => hj i (by simpa [ancB] using h)
  | f + 1, j, i, h, hj => by
    rw [ancB, Bool.or_eq_true] at h
    rcases h with h | h
    · exact hj i (by simpa using h)
    · obtain ⟨k, hk, h⟩ := List.any_eq_true.1 h
      exact anc_listed hc h fun m hm => hc k m (hj k hk) hm
theorem Closed.set {listed : Array Bool} {j : Nat} (hc : Closed md ops listed) (h : j ∈ Region.ready md ops listed) : Closed md ops (listed.setIfInBounds j true) := fun a k ha hk => by
  by_cases e : j = a
  · subst e; exact getD_set_true (ready_ons h k hk)
  · rw [getD_set_ne false e] at ha
    exact getD_set_true (hc a k ha hk)
theorem anyU_first {i : Nat} {oi : Oper} {v : Value} (hi : ops[i]? = some oi) (hsel : ∀ (j : Nat) (o : Oper) cs b, ops[j]? = some o → o.op ≠ .select cs b)
    (hQ : ∀ c a w, Q (.panic c) (a.put oi.dst v) w → Q (.panic c) a w) :
    ∀ (fuel : Nat) (listed : Array Bool) (a : Act) (w : World),
      (∀ j oj, ops[j]? = some oj → j ≠ i → listed.getD j true = false → (∀ e ∈ oj.after, Region.binds md e = true → e.on ≠ i) → oi.apart ops oj = true) →
      Closed md ops listed → waitsB md ops T listed i = true → i ∈ Region.ready md ops listed → YieldsIf P ops S oi v a → S w →
      anyU P md ops Q S T fuel (listed.setIfInBounds i true) (a.put oi.dst v) w → anyU P md ops Q S T (fuel + 1) listed a w := by
  -- nobody who waits for number i is ready while i is not listed
  have hno : ∀ (listed : Array Bool) (j : Nat) (oj : Oper), i ∈ Region.ready md ops listed → (∀ e ∈ oj.after, Region.binds md e = true → listed.getD e.on false = true) → ∀ e ∈ oj.after, Region.binds md e = true → e.on ≠ i := by
    intro listed j oj hr hall e he hb heq
    have h1 := hall e he hb
    have h0 := (mem_ready.1 hr).1
    rw [heq] at h1
    rcases Nat.lt_or_ge i listed.size with h' | h'
    · simp [h'] at h0 h1; rw [h0] at h1; cases h1
    · simp [Array.getElem?_eq_none h'] at h1
  have hlow : ∀ (listed : Array Bool) (j : Nat), Closed md ops listed → waitsB md ops T listed i = true → i ∈ Region.ready md ops listed → j ∈ Region.ready md ops listed → T.contains j = false := by
    intro listed j hc hw hr hj
    rw [Bool.eq_false_iff]
    intro hT
    have h2 := List.all_eq_true.1 hw j (by simpa using hT)
    have hju := (mem_ready.1 hj).1
    have hjn : listed.getD j false = false := by
      rcases Nat.lt_or_ge j listed.size with h' | h'
      · simp [h'] at hju ⊢; exact hju
      · simp [Array.getElem?_eq_none h']
    rw [hjn, Bool.false_or] at h2
    have h1 := anc_listed hc h2 (ready_ons hj)
    have h0 := (mem_ready.1 hr).1
    rcases Nat.lt_or_ge i listed.size with h' | h'
    · simp [h'] at h0 h1; rw [h0] at h1; cases h1
    · simp [Array.getElem?_eq_none h'] at h1
  intro fuel
  induction fuel with
  | zero =>
    intro listed a w _ hc hw hr hy hS H
    refine ⟨fun h => (by rw [h] at hr; cases hr), fun j hj => ?_⟩
    by_cases hji : j = i
    · subst hji; exact hy.wpOp hi hS ⟨fun _ => hS, H⟩
    · have h1 := ready_mono hj hji
      rw [H.1] at h1; cases h1
  | succ fuel ih =>
    intro listed a w hfree hc hw hr hy hS H
    refine ⟨fun h => (by rw [h] at hr; cases hr), fun j hj => ?_⟩
    by_cases hji : j = i
    · subst hji; exact hy.wpOp hi hS ⟨fun _ => hS, H⟩
    · have hjT := hlow listed j hc hw hr hj
      have h1 := H.2 j (ready_mono hj hji)
      obtain ⟨hjun, oj, hoj, hall⟩ := mem_ready.1 hj
      have h2 := wpOp_putIf hoj (hfree j oj hoj hji hjun (hno listed j oj hr hall)) (fun cs b => hsel i oi cs b hi) (fun cs b => hsel j oj cs b hoj) hQ hy h1
      refine wpOp_mono (fun a' w' h3 => ⟨h3.2.1, ih (listed.setIfInBounds j true) a' w' (fun k ok hk hki hun hn => ?_) (hc.set hj) ?_ (ready_mono hr (Ne.symm hji)) h3.1 (h3.2.1 hjT) ?_⟩) h2
      · refine hfree k ok hk hki ?_ hn
        by_cases hjk : j = k
        · rw [← hjk]; exact hjun
        · rwa [getD_set_ne true hjk] at hun
      · unfold waitsB at hw ⊢
        rw [List.all_eq_true] at hw ⊢
        intro t ht
        have h5 := hw t ht
        rw [Bool.or_eq_true] at h5 ⊢
        exact h5.imp getD_set_true id
      · rw [Array.setIfInBounds_comm _ _ hji]
        exact h3.2.2
theorem anyU_take {i : Nat} {oi : Oper} {v : Value} {fuel : Nat} {listed : Array Bool} {a : Act} {w : World} (hi : ops[i]? = some oi)
    (hs : (Region.noSelect ops && waitsB md ops T listed i) = true) (hf : (Region.free md ops listed i && closedB md ops listed) = true) (hr : (Region.ready md ops listed).contains i = true)
    (hQ : ∀ c a w, Q (.panic c) (a.put oi.dst v) w → Q (.panic c) a w) (hy : Region.wanted oi (yielded ops a.tmps) = true ∧ ∀ w, S w → (execOp a.eval oi).run P w = .ok (.value v) w) (hS : S w)
    (h : anyU P md ops Q S T fuel (listed.setIfInBounds i true) (a.put oi.dst v) w) : anyU P md ops Q S T (fuel + 1) listed a w := by
  rw [Bool.and_eq_true] at hs hf
  exact anyU_first hi (Region.noSelect_spec hs.1) hQ fuel listed a w (Region.free_spec hi hf.1) (closedB_is hf.2) hs.2 (by simpa using hr) (.inl hy) hS h
/-- each of these comes up next -/
def ReadyU (P : Program) (md : Region.Mode) (ops : Array Oper) (Q : Exit → Act → World → Prop) (S : World → Prop) (T : List Nat) (fuel : Nat) (listed : Array Bool) (a : Act) (w : World) (rs : List Nat) : Prop :=
  ∀ i ∈ rs, wpOp P ops Q i (fun a' w' => (T.contains i = false → S w') ∧ anyU P md ops Q S T fuel (listed.setIfInBounds i true) a' w') a w
theorem ReadyU.nil {fuel : Nat} {listed : Array Bool} {a : Act} {w : World} : ReadyU P md ops Q S T fuel listed a w [] := fun _ h => by cases h
theorem ReadyU.cons {fuel : Nat} {listed : Array Bool} {a : Act} {w : World} {i : Nat} {o : Oper} {rs : List Nat} (ho : ops[i]? = some o)
    (h : ∀ K' : Act → World → Prop, Shut (∀ a w, ((T.contains i = false → S w) ∧ anyU P md ops Q S T fuel (listed.setIfInBounds i true) a w) → K' a w) → if Region.wanted o (yielded ops a.tmps) = true then Oper.wp P o a w K' Q else K' (a.put o.dst undef) w)
    (hs : ReadyU P md ops Q S T fuel listed a w rs) : ReadyU P md ops Q S T fuel listed a w (i :: rs) := fun j hj => by
  rcases List.mem_cons.1 hj with rfl | hj
  · exact wpOp_step ho (fun K' hK => h K' hK)
  · exact hs j hj
theorem anyU_ready {rs : List Nat} {fuel : Nat} {listed : Array Bool} {a : Act} {w : World} (hr : Region.ready md ops listed = rs) (hne : rs ≠ [])
    (h : ReadyU P md ops Q S T fuel listed a w rs) : anyU P md ops Q S T (fuel + 1) listed a w := ⟨fun h0 => absurd (hr ▸ h0) hne, hr ▸ h⟩
theorem anyU_done {listed : Array Bool} {a : Act} {w : World} (hr : Region.ready md ops listed = []) (h : Q .normal a w) : ∀ fuel, anyU P md ops Q S T fuel listed a w
  | 0 => ⟨hr, h⟩
  | _ + 1 => ⟨fun _ => h, by rw [hr]; simp⟩
theorem nameU {fuel : Nat} {listed : Array Bool} {a : Act} {w : World} (h : ∀ W, Hid (W = w) → anyU P md ops Q S T fuel listed a W) : anyU P md ops Q S T fuel listed a w := h w (Lib.hid rfl)
theorem wp_region_U {id : Nat} {a : Act} {w : World} (S : World → Prop) (T : List Nat) (hm : P.follows .mixedOrders = true)
    (h : anyU P .any ops Q S T ops.size (Array.replicate ops.size false) a w.drew) : (Code.region id ops true).wp P Q a w :=
  wp_region_any hm (any_of_U _ _ _ _ h)
end

/-- what two rows' growing leaves: blocks that are neither's row are as they were -/
structure Grown2 (w w' : World) (r1 r2 : Option Nat) : Prop where
  os : w'.os = w.os
  tape : w'.tape = w.tape
  output : w'.output = w.output
  size : w.heap.size ≤ w'.heap.size
  block : ∀ k, k < w.heap.size → some k ≠ r1 → some k ≠ r2 → w'.heap[k]? = w.heap[k]?
theorem Grown2.refl (w : World) (r1 r2 : Option Nat) : Grown2 w w r1 r2 := ⟨rfl, rfl, rfl, Nat.le_refl _, fun _ _ _ _ => rfl⟩
theorem Grown2.none {a b c : World} {r1 r2 : Option Nat} (h : Grown2 a b r1 r2) (k : b.grownBy c none) : Grown2 a c r1 r2 :=
  ⟨k.os.trans h.os, k.tape.trans h.tape, k.output.trans h.output, Nat.le_trans h.size k.size, fun i hi h1 h2 => (k.block i (Nat.lt_of_lt_of_le hi h.size) (by simp)).trans (h.block i hi h1 h2)⟩
theorem Grown2.fst {a b c : World} {r1 r2 : Option Nat} (h : Grown2 a b r1 r2) (k : b.grownBy c r1) : Grown2 a c r1 r2 :=
  ⟨k.os.trans h.os, k.tape.trans h.tape, k.output.trans h.output, Nat.le_trans h.size k.size, fun i hi h1 h2 => (k.block i (Nat.lt_of_lt_of_le hi h.size) h1).trans (h.block i hi h1 h2)⟩
end Go.Proofs.Ytcmmklcampmkjaa

/- One small lemma. No condition on any program. -/
namespace Go.Proofs.Ytcmmklcampmkjaa
theorem ite_is {c : Prop} [Decidable c] {x y : Prop} (h : c) (k : x) : if c then x else y := by rw [if_pos h]; exact k
end Go.Proofs.Ytcmmklcampmkjaa

/- Memory of the network that a call builds out of kept ports: a map of ends to ends of the call's own; three slices that grow in one struct. No condition on any program. -/
namespace Go.Proofs.Ytcmmklcampmkjaa
open Go.ChangeShapes Go.WideShapes Go.ChangeAt Go.RowKit
set_option linter.unusedVariables false

theorem results_cell1 {fn : Func} {t : Tmp} {ty : TypeId} (h : fn.results = #[.cell t ty]) (tmps : Array Value) (P : Program) (w : World) {p : Addr} {v : Value} (ha : tmps.getD t undef = .pointer (some p)) (hl : (loadVar ty p).run P w = .ok v w) :
    (results fn tmps).run P w = .ok v w := by
  have ha' : tmps[t]?.getD undef = .pointer (some p) := by simpa using ha
  simp [results, h, ha', asAddr, hl]
theorem load_net {w : World} {g : Nat} {a b c : Value} (h : BoxN w g #[a, b, c] 34) : (loadVar 34 ⟨g, 0, none⟩).run Try.prog w = .ok (.agg #[a, b, c]) w := by
  have k0 : w.cell? ⟨g, 0, none⟩ = some a := h.cell 0 (by simp)
  have k1 : w.cell? ⟨g, 1, none⟩ = some b := h.cell 1 (by simp)
  have k2 : w.cell? ⟨g, 2, none⟩ = some c := h.cell 2 (by simp)
  unfold loadVar
  simp [go_sem, k0, k1, k2]
/-- a map whose values are held as they are -/
def rdH (v : Value) : Option (DataW Value × List MemPlace) := some (.held v, [])
/-- an end as a value -/
def endP (p : Po) : Value := .agg #[.int .i64 ((p.1 : Nat) : Int), .int .i64 ((p.2 : Nat) : Int)]
/-- block b is a map with ends as keys that reads as U; it has at most m entries -/
def MpE (w : World) (b : Nat) (U : Int → Int → Po) (m : Nat) : Prop :=
  ∃ (n : Nat) (D : DataW Value), n ≤ m ∧ w.ownsMap Try.prog 60 rdH b n D ∧ Maps.IsMap D ∧ ∀ x y, I64 x → I64 y → D.atKey (kl x y) (.held (endP (0, 0))) = .held (endP (U x y))
def setUE (U : Int → Int → Po) (x y : Int) (v : Po) : Int → Int → Po := fun a b => if a = x ∧ b = y then v else U a b
theorem setUE_at (U : Int → Int → Po) (x y : Int) (v : Po) : setUE U x y v x y = v := by unfold setUE; rw [if_pos ⟨rfl, rfl⟩]
theorem setUE_ne {U : Int → Int → Po} {x y a b : Int} {v : Po} (h : ¬ (a = x ∧ b = y)) : setUE U x y v a b = U a b := by unfold setUE; rw [if_neg h]
section
variable {w w' : World} {b m : Nat} {U : Int → Int → Po}
theorem MpE.new (w : World) : MpE (w.alloc (.map #[] 0)) w.heap.size (fun _ _ => (0, 0)) 0 :=
  ⟨0, .map [], Nat.le_refl _, World.ownsMap_made _ _ _ _, Maps.isMap_empty, fun x y _ _ => rfl⟩
theorem MpE.lt (h : MpE w b U m) : b < w.heap.size := let ⟨_, _, _, h, _⟩ := h; h.lt
theorem MpE.mono (h : MpE w b U m) {m' : Nat} (hm : m ≤ m') : MpE w b U m' := let ⟨n, D, h1, h2⟩ := h; ⟨n, D, by omega, h2⟩
theorem MpE.kept {row : Option Nat} (h : MpE w b U m) (hg : w.grownBy w' row) (hr : some b ≠ row) : MpE w' b U m := let ⟨n, D, h1, h2, h3⟩ := h; ⟨n, D, h1, h2.kept hg hr, h3⟩
theorem MpE.far {row : Option Nat} (h : MpE w b U m) (hg : w.grownBy w' row) (hr : ∀ g, row = some g → g ≠ b) : MpE w' b U m := h.kept hg (fun e => hr b e.symm rfl)
theorem MpE.still (h : MpE w b U m) (hg : w.grownBy w' none) : MpE w' b U m := h.kept hg (by simp)
theorem MpE.look (h : MpE w b U m) {x y : Int} (hx : I64 x) (hy : I64 y) : (Instr.lookup 84 (.map (some b)) (.agg #[.int .i64 x, .int .i64 y]) false).run Try.prog w = .ok (endP (U x y)) w := by
  obtain ⟨n, D, _, h2, h3, h4⟩ := h
  obtain ⟨v, ps, hrun, hv⟩ := h2.lookup (R := rdH) Try.keyedE Try.underlying84 (show (zeroValue 60).run Try.prog w = .ok (endP (0, 0)) w by kernel_rfl) rfl (keyE hx hy)
  rw [h4 x y hx hy] at hv
  have hv1 : some ((DataW.held v : DataW Value), ([] : List MemPlace)) = some (DataW.held (endP (U x y)), ps) := hv
  have hv2 := Option.some.inj hv1
  have this : v = endP (U x y) := DataW.held.inj (Prod.mk.inj hv2).1
  rw [hrun, this]
theorem MpE.put (h : MpE w b U m) (hm : m < 1099511627776) {x y : Int} (hx : I64 x) (hy : I64 y) (v : Po) :
    ∃ w', (Instr.mapUpdate 84 (.map (some b)) (.agg #[.int .i64 x, .int .i64 y]) (endP v)).run Try.prog w = .ok () w' ∧ w.grownBy w' (some b) ∧ MpE w' b (setUE U x y v) (m + 1) := by
  obtain ⟨n, D, h1, h2, h3, h4⟩ := h
  obtain ⟨w', hU, hown, hg⟩ := h2.update (R := rdH) Try.keyedE Try.underlying84 (show n < maxLen by unfold maxLen; omega) (keyE hx hy) (show rdH (endP v) = some (.held (endP v), []) from rfl)
  refine ⟨w', hU, hg, n + 1, D.put (kl x y) (.held (endP v)), by omega, hown, h3.put _ _, fun a c ha hc => ?_⟩
  by_cases e : a = x ∧ c = y
  · obtain ⟨rfl, rfl⟩ := e
    rw [Maps.atKey_put_same h3 (by trivial), setUE_at]
  · rw [Maps.atKey_put_other (fun e2 => e (kl_inj ha hc hx hy e2)), h4 a c ha hc, setUE_ne e]
end

/-- no two own one block -/
def Ap (u v : Value) : Prop := ∀ g, u.ownBlock = some g → v.ownBlock ≠ some g
theorem Ap.symm {u v : Value} (h : Ap u v) : Ap v u := fun g h1 h2 => h g h2 h1
theorem Ap.nil (v : Value) : Ap (.slice none 0 0) v := fun g h => by cases h
theorem Ap.keeps {u v : Value} (h : Ap u v) : u.ownBlock = none ∨ u.ownBlock ≠ v.ownBlock := by
  cases hu : u.ownBlock with
  | none => exact .inl rfl
  | some g => right; exact fun e => h g hu e.symm
theorem Ap.new {u v v' : Value} {n : Nat} (h : Ap u v) (hu : ∀ g, u.ownBlock = some g → g < n) (hv : v'.ownBlock = v.ownBlock ∨ ∃ g, v'.ownBlock = some g ∧ n ≤ g) : Ap u v' := fun g h1 h2 => by
  rcases hv with e | ⟨g', e, hg⟩
  · exact h g h1 (by rw [← e]; exact h2)
  · rw [e] at h2; injection h2 with h2; have := hu g h1; omega
theorem OwnE.weak {w : World} {base base' : Nat} {e : TypeId} {v : Value} {l : List Po} (h : OwnE w base e v l) (hb : base' ≤ base) : OwnE w base' e v l := by
  obtain ⟨h1, h2⟩ := h
  refine ⟨h1, ?_⟩
  rcases h2 with h2 | ⟨g, cap, cur, e1, hg, hh, hn, hm, hs, ht⟩
  · exact .inl h2
  · exact .inr ⟨g, cap, cur, e1, Nat.le_trans hb hg, hh, hn, hm, hs, ht⟩
theorem own_appP {w : World} {base : Nat} {e : TypeId} {v : Value} {ps : List Int} {z : Int} (h : w.ownsRow base e 1 v (ps.length + 1) (ps.map (Value.int .i64) ++ [.int .i64 z])) : OwnI w base e v (ps ++ [z]) := by
  unfold OwnI Own
  rw [List.map_append]
  simpa using h
theorem netIds {w : World} {lo hi : Nat} {v1 v2 v3 : Value} {N : NetD} (h : Net w lo hi (.agg #[v1, v2, v3]) N) : IntS w lo hi v2 N.ids := by
  obtain ⟨a, b, c, e, _, h1, _⟩ := h
  simp only [Value.agg.injEq, Array.mk.injEq, List.cons.injEq, and_true] at e
  obtain ⟨rfl, rfl, rfl⟩ := e
  exact h1
theorem netIns {w : World} {lo hi : Nat} {v1 v2 v3 : Value} {N : NetD} (h : Net w lo hi (.agg #[v1, v2, v3]) N) : IntS w lo hi v3 N.inputs := by
  obtain ⟨a, b, c, e, _, _, h1⟩ := h
  simp only [Value.agg.injEq, Array.mk.injEq, List.cons.injEq, and_true] at e
  obtain ⟨rfl, rfl, rfl⟩ := e
  exact h1
/-- three slices that a call owns: rows of ends, and two rows of numbers -/
structure GN (w : World) (base : Nat) (vE vD vI : Value) (rows : List (List Po)) (ids ins : List Int) : Prop where
  intro ::
  all : ∃ us : List Value, us.length = rows.length ∧ Own w base 61 vE us ∧ OwnI w base 3 vD ids ∧ OwnI w base 3 vI ins ∧
    (∀ j, j < rows.length → ∃ u, us[j]? = some u ∧ OwnE w base 60 u (nthL rows j) ∧ Ap u vE ∧ Ap u vD ∧ Ap u vI) ∧ Ap vE vD ∧ Ap vE vI ∧ Ap vD vI
section
variable {w w' : World} {base : Nat} {vE vD vI : Value} {rows : List (List Po)} {ids ins : List Int}
theorem GN.nil (w : World) (base : Nat) : GN w base (.slice none 0 0) (.slice none 0 0) (.slice none 0 0) [] [] [] :=
  ⟨[], rfl, Own.nil _ _ _, OwnI.nil _ _ _, OwnI.nil _ _ _, fun j hj => absurd hj (by simp), Ap.nil _, Ap.nil _, Ap.nil _⟩
theorem GN.ltE (h : GN w base vE vD vI rows ids ins) : ∀ g, vE.ownBlock = some g → base ≤ g ∧ g < w.heap.size := let ⟨_, _, h, _⟩ := h.all; h.lt
theorem GN.ltD (h : GN w base vE vD vI rows ids ins) : ∀ g, vD.ownBlock = some g → base ≤ g ∧ g < w.heap.size := let ⟨_, _, _, h, _⟩ := h.all; h.lt
theorem GN.ltI (h : GN w base vE vD vI rows ids ins) : ∀ g, vI.ownBlock = some g → base ≤ g ∧ g < w.heap.size := let ⟨_, _, _, _, h, _⟩ := h.all; h.lt
theorem GN.idsO (h : GN w base vE vD vI rows ids ins) : OwnI w base 3 vD ids := let ⟨_, _, _, h, _⟩ := h.all; h
theorem GN.insO (h : GN w base vE vD vI rows ids ins) : OwnI w base 3 vI ins := let ⟨_, _, _, _, h, _⟩ := h.all; h
theorem GN.lenE (h : GN w base vE vD vI rows ids ins) : ∃ A c, vE = .slice A rows.length c ∧ rows.length ≤ c ∧ c ≤ maxLen := by
  obtain ⟨us, h1, h2, _⟩ := h.all
  obtain ⟨A, c, e, a1, a2, _⟩ := h2.form
  exact ⟨A, c, by rw [e, h1], by omega, a2⟩
/-- writes elsewhere -/
theorem GN.keptB {row : Option Nat} (h : GN w base vE vD vI rows ids ins) (hg : w.grownBy w' row) (hr : ∀ g, row = some g → g < base) : GN w' base vE vD vI rows ids ins := by
  obtain ⟨us, h1, h2, h3, h4, h5, h6⟩ := h.all
  have hk : ∀ v : Value, (∀ g, v.ownBlock = some g → base ≤ g ∧ g < w.heap.size) → v.ownBlock = none ∨ v.ownBlock ≠ row := fun v hv => by
    cases e : v.ownBlock with
    | none => exact .inl rfl
    | some g => right; intro e2; have := hr g e2.symm; have := (hv g e).1; omega
  refine ⟨us, h1, h2.kept hg (hk _ h2.lt), OwnI.kept h3 hg (hk _ h3.lt), OwnI.kept h4 hg (hk _ h4.lt), fun j hj => ?_, h6⟩
  obtain ⟨u, a1, a2, a3⟩ := h5 j hj
  exact ⟨u, a1, a2.kept hg (hk _ a2.lt), a3⟩
theorem GN.still (h : GN w base vE vD vI rows ids ins) (hg : w.grownBy w' none) : GN w' base vE vD vI rows ids ins := h.keptB hg (fun g e => by cases e)
/-- numbers behind the third -/
theorem GN.addI (h : GN w base vE vD vI rows ids ins) {vI' : Value} {x : Int} (hg : w.grownBy w' vI.ownBlock) (ho : OwnI w' base 3 vI' (ins ++ [x])) (hv : vI'.ownBlock = vI.ownBlock ∨ ∃ g, vI'.ownBlock = some g ∧ w.heap.size ≤ g) : GN w' base vE vD vI' rows ids (ins ++ [x]) := by
  obtain ⟨us, h1, h2, h3, h4, h5, h6, h7, h8⟩ := h.all
  refine ⟨us, h1, h2.kept hg h7.keeps, OwnI.kept h3 hg h8.keeps, ho, fun j hj => ?_, h6, h7.new (fun g e => (h2.lt g e).2) hv, h8.new (fun g e => (h3.lt g e).2) hv⟩
  obtain ⟨u, a1, a2, a3, a4, a5⟩ := h5 j hj
  exact ⟨u, a1, a2.kept hg a5.keeps, a3, a4, a5.new (fun g e => (a2.lt g e).2) hv⟩
/-- numbers behind the second -/
theorem GN.addD (h : GN w base vE vD vI rows ids ins) {vD' : Value} {x : Int} (hg : w.grownBy w' vD.ownBlock) (ho : OwnI w' base 3 vD' (ids ++ [x])) (hv : vD'.ownBlock = vD.ownBlock ∨ ∃ g, vD'.ownBlock = some g ∧ w.heap.size ≤ g) : GN w' base vE vD' vI rows (ids ++ [x]) ins := by
  obtain ⟨us, h1, h2, h3, h4, h5, h6, h7, h8⟩ := h.all
  refine ⟨us, h1, h2.kept hg h6.keeps, ho, OwnI.kept h4 hg h8.symm.keeps, fun j hj => ?_, h6.new (fun g e => (h2.lt g e).2) hv, h7, ((h8.symm).new (fun g e => (h4.lt g e).2) hv).symm⟩
  obtain ⟨u, a1, a2, a3, a4, a5⟩ := h5 j hj
  exact ⟨u, a1, a2.kept hg a4.keeps, a3, a4.new (fun g e => (a2.lt g e).2) hv, a5⟩
/-- what it reads as -/
theorem GN.net (h : GN w base vE vD vI rows ids ins) : Net w base w.heap.size (.agg #[vE, vD, vI]) ⟨rows.map castL, ids, ins⟩ := by
  obtain ⟨us, h1, h2, h3, h4, h5, _⟩ := h.all
  refine ⟨vE, vD, vI, rfl, ⟨fun j => us.getD j undef, ?_, fun j hj => ?_⟩, h3.ints, h4.ints⟩
  · have := Sl.of_own (f := fun j => us.getD j undef) h2 (fun j hj => by simp at hj; simp [hj])
    show Sl w base w.heap.size 1 vE (rows.map castL).length _
    rw [List.length_map, ← h1]
    exact this
  · simp only [List.length_map] at hj
    obtain ⟨u, a1, a2, _⟩ := h5 j hj
    have e : us.getD j undef = u := by simp [a1]
    show EndS w base w.heap.size (us.getD j undef) _
    rw [e]
    have := a2.ends
    have e2 : nthL (rows.map castL) j = castL (nthL rows j) := by simp [nthL, hj]
    show EndS w base w.heap.size u (nthL (rows.map castL) j)
    rw [e2]; exact this
end

theorem good_insl {N : NetD} (hg : N.good = true) : N.inputs.length = N.ends.length := by
  unfold NetD.good NetD.headOk at hg
  simp only [Bool.and_eq_true] at hg
  have hi := hg.1.2.2
  unfold insGood at hi
  simp only [Bool.and_eq_true, decide_eq_true_eq] at hi
  omega
theorem good_idsl {N : NetD} (hg : N.good = true) : N.ids.length = 0 ∨ N.ids.length = N.ends.length := by
  unfold NetD.good NetD.headOk at hg
  simp only [Bool.and_eq_true] at hg
  have hi := hg.1.2.1
  unfold idsGood at hi
  simp only [Bool.and_eq_true, Bool.or_eq_true, decide_eq_true_eq] at hi
  omega
/-! plain: what the network of kept ports is -/
def cntK (kp : Nat → Nat → Bool) (v m : Nat) : Nat := ((List.range m).filter (kp v)).length
theorem cntK_succ (kp : Nat → Nat → Bool) (v m : Nat) : cntK kp v (m + 1) = cntK kp v m + if kp v m = true then 1 else 0 := by
  unfold cntK
  rw [List.range_succ, List.filter_append, List.length_append]
  by_cases h : kp v m = true
  · rw [if_pos h]; simp [h]
  · rw [if_neg h]; simp [h]
theorem cntK_le (kp : Nat → Nat → Bool) (v m : Nat) : cntK kp v m ≤ m := by
  unfold cntK; exact Nat.le_trans (List.length_filter_le _ _) (by simp)
/-- the places of the kept ports of the node with index k, up to port m -/
def rowU (kp : Nat → Nat → Bool) (U : Int → Int → Po) (v k : Nat) : Nat → Int → Int → Po
  | 0 => U
  | m + 1 => if kp v m = true then setUE (rowU kp U v k m) v m (k, cntK kp v m) else rowU kp U v k m
def allU (N : NetD) (kp : Nat → Nat → Bool) (zs : List Int) : Nat → Int → Int → Po
  | 0 => fun _ _ => (0, 0)
  | k + 1 => rowU kp (allU N kp zs k) (nth zs k).toNat k (nthL N.ends (nth zs k).toNat).length
def partRow (N : NetD) (kp : Nat → Nat → Bool) (U : Int → Int → Po) (v m : Nat) : List Po := ((List.range m).filter (kp v)).map fun i => U (nthE (nthL N.ends v) i).1 (nthE (nthL N.ends v) i).2
theorem partRow_len (N : NetD) (kp : Nat → Nat → Bool) (U : Int → Int → Po) (v m : Nat) : (partRow N kp U v m).length = cntK kp v m := by simp [partRow, cntK]
theorem partRow_yes {N : NetD} {kp : Nat → Nat → Bool} {U : Int → Int → Po} {v m : Nat} (h : kp v m = true) : partRow N kp U v (m + 1) = partRow N kp U v m ++ [U (nthE (nthL N.ends v) m).1 (nthE (nthL N.ends v) m).2] := by simp [partRow, List.range_succ, h]
theorem partRow_no {N : NetD} {kp : Nat → Nat → Bool} {U : Int → Int → Po} {v m : Nat} (h : kp v m = false) : partRow N kp U v (m + 1) = partRow N kp U v m := by simp [partRow, List.range_succ, h]
def partRows (N : NetD) (kp : Nat → Nat → Bool) (U : Int → Int → Po) (zs : List Int) : List (List Po) := zs.map fun z => partRow N kp U z.toNat (nthL N.ends z.toNat).length
def pickL (l zs : List Int) : List Int := zs.map fun z => nth l z.toNat
def partN (N : NetD) (zs : List Int) (kp : Nat → Nat → Bool) : NetD :=
  ⟨(partRows N kp (allU N kp zs zs.length) zs).map castL, if 0 < N.ids.length then pickL N.ids zs else [], pickL N.inputs zs⟩
theorem partRows_take {N : NetD} {kp : Nat → Nat → Bool} {U : Int → Int → Po} {zs : List Int} {k : Nat} (h : k < zs.length) : partRows N kp U (zs.take (k + 1)) = partRows N kp U (zs.take k) ++ [partRow N kp U (nth zs k).toNat (nthL N.ends (nth zs k).toNat).length] := by
  unfold partRows; rw [List.take_succ_eq_append_getElem h, List.map_append, nth_eq h]; rfl
theorem pickL_take {l zs : List Int} {k : Nat} (h : k < zs.length) : pickL l (zs.take (k + 1)) = pickL l (zs.take k) ++ [nth l (nth zs k).toNat] := by
  unfold pickL; rw [List.take_succ_eq_append_getElem h, List.map_append, nth_eq h]; rfl
theorem partRows_len (N : NetD) (kp : Nat → Nat → Bool) (U : Int → Int → Po) (zs : List Int) : (partRows N kp U zs).length = zs.length := by simp [partRows]
theorem pickL_len (l zs : List Int) : (pickL l zs).length = zs.length := by simp [pickL]

end Go.Proofs.Ytcmmklcampmkjaa

/- Plain: the walk's distances are the lengths of shortest ways; in a good network they do not hang on the direction. -/
namespace Go.Proofs.Ytcmmklcampmkjaa
set_option linter.unusedVariables false

/-- an edge leads from u to s -/
def Adj (N : NetD) (u s : Nat) : Prop := u < N.ends.length ∧ s < N.ends.length ∧ ∃ i, i < (nthL N.ends u).length ∧ (nthE (nthL N.ends u) i).1 = s
def way (N : NetD) : Nat → Nat → Nat → Prop
  | 0, u, t => u = t
  | k + 1, u, t => ∃ s, way N k u s ∧ Adj N s t
theorem Adj.symm {N : NetD} (hg : N.good = true) {u s : Nat} (h : Adj N u s) : Adj N s u := by
  obtain ⟨h1, h2, i, hi, he⟩ := h
  obtain ⟨t, r, e, e1, e2, e3⟩ := good_end hg h1 hi
  rw [e] at he
  obtain rfl : t = s := by have he' : (t : Int) = s := he
                           omega
  exact ⟨h2, h1, r, e2, by rw [e3]⟩
theorem way_step {N : NetD} : ∀ {k u s t : Nat}, Adj N u s → way N k s t → way N (k + 1) u t
  | 0, u, s, t, h, e => ⟨u, rfl, by rw [← (show s = t from e)]; exact h⟩
  | k + 1, u, s, t, h, ⟨r, h1, h2⟩ => ⟨r, way_step h h1, h2⟩
theorem way_symm {N : NetD} (hg : N.good = true) : ∀ {k u t : Nat}, way N k u t → way N k t u
  | 0, u, t, e => Eq.symm e
  | k + 1, u, t, ⟨s, h1, h2⟩ => way_step (h2.symm hg) (way_symm hg h1)

/-- how the found nodes lie: by distance, and each behind one that was found before -/
structure BC (N : NetD) (v : Nat) (st : BSt) : Prop where
  sorted : ∀ i j, i ≤ j → j < st.2.length → nth st.1 (nth st.2 i).toNat ≤ nth st.1 (nth st.2 j).toNat
  found : ∀ j, j < N.ends.length → 0 ≤ nth st.1 j → way N (nth st.1 j).toNat v j
  inw : ∀ j, j < N.ends.length → 0 ≤ nth st.1 j → ∃ i, i < st.2.length ∧ nth st.2 i = j
/-- nodes before place a have found their neighbours -/
def BDone (N : NetD) (a : Nat) (st : BSt) : Prop := ∀ i, i < a → ∀ t, Adj N (nth st.2 i).toNat t → 0 ≤ nth st.1 t ∧ nth st.1 t ≤ nth st.1 (nth st.2 i).toNat + 1

theorem BC.start {N : NetD} {v : Nat} (hv : v < N.ends.length) : BC N v (bfs0 N v) := by
  have hz : nth (bfs0 N v).1 v = 0 := by simp only [bfs0]; rw [nth_set _ _ _ _ (by simpa using hv), if_pos rfl]
  have ho : ∀ j, j < N.ends.length → 0 ≤ nth (bfs0 N v).1 j → j = v := fun j hj h => by
    simp only [bfs0] at h
    rw [nth_set _ _ _ _ (by simpa using hv)] at h
    by_cases e : j = v
    · exact e
    · rw [if_neg e, nth_replicate _ _ hj] at h; omega
  refine ⟨fun i j hij hj => ?_, fun j hj h => ?_, fun j hj h => ?_⟩
  · have : j = 0 := by simp [bfs0] at hj; exact hj
    obtain rfl : i = 0 := by omega
    subst this; exact Int.le_refl _
  · obtain rfl := ho j hj h
    rw [hz]; rfl
  · obtain rfl := ho j hj h
    exact ⟨0, by simp [bfs0], rfl⟩

/-- what is known in the middle: the states between, and that no found node lies farther than one step behind -/
structure BCMid (N : NetD) (v a : Nat) (st : BSt) (u : Nat) (d : Int) (k : Nat) (sk : BSt) : Prop where
  mid : BMid N a st u d k sk
  bc : BC N v sk
  far : ∀ j, j < sk.2.length → nth sk.1 (nth sk.2 j).toNat ≤ d + 1
  done : BDone N a sk
  seen : ∀ i, i < k → ∀ t : Nat, (nthE (nthL N.ends u) i).1 = t → 0 ≤ nth sk.1 t ∧ nth sk.1 t ≤ d + 1
theorem BCMid.next {N : NetD} {v a : Nat} {st : BSt} {u : Nat} {d : Int} {k : Nat} {sk : BSt} (h : BCMid N v a st u d k sk) (hu : u < N.ends.length) (hk : k < (nthL N.ends u).length) {t : Nat} (ht : (nthE (nthL N.ends u) k).1 = t) (htl : t < N.ends.length) :
    BCMid N v a st u d (k + 1) (see (d + 1) sk t) := by
  have hm := h.mid.next hk ht htl
  have hle : sk.1.length = N.ends.length := h.mid.inv.len
  have hadj : Adj N u t := ⟨hu, htl, k, hk, ht⟩
  by_cases hn : nth sk.1 t < 0
  · rw [see_neg hn] at hm ⊢
    have hs : ∀ j, nth (sk.1.set t (d + 1)) j = if j = t then d + 1 else nth sk.1 j := fun j => nth_set _ _ _ _ (by omega)
    have hold : ∀ i, i < sk.2.length → nth (sk.2 ++ [(t : Int)]) i = nth sk.2 i ∧ nth (sk.1.set t (d + 1)) (nth sk.2 i).toNat = nth sk.1 (nth sk.2 i).toNat := fun i hi => by
      obtain ⟨x, e1, e2, e3, e4⟩ := h.mid.inv.node i hi
      refine ⟨nth_append_left hi, ?_⟩
      rw [e1, Int.toNat_natCast, hs, if_neg (by rintro rfl; omega)]
    refine ⟨hm, ⟨fun i j hij hj => ?_, fun j hj h0 => ?_, fun j hj h0 => ?_⟩, fun j hj => ?_, fun i hi s hadj2 => ?_, fun i hi s hs2 => ?_⟩
    · simp only [List.length_append, List.length_singleton] at hj
      dsimp only
      by_cases e2 : j < sk.2.length
      · rw [(hold i (by omega)).1, (hold i (by omega)).2, (hold j e2).1, (hold j e2).2]
        exact h.bc.sorted i j hij e2
      · obtain rfl : j = sk.2.length := by omega
        rw [nth_append_at, Int.toNat_natCast, hs t, if_pos rfl]
        by_cases e1 : i < sk.2.length
        · rw [(hold i e1).1, (hold i e1).2]; exact h.far i e1
        · obtain rfl : i = sk.2.length := by omega
          rw [nth_append_at, Int.toNat_natCast, hs t, if_pos rfl]; exact Int.le_refl _
    · dsimp only at h0 ⊢
      rw [hs] at h0 ⊢
      by_cases e : j = t
      · subst e
        rw [if_pos rfl]
        have hd0 := h.mid.d0
        have hw := h.bc.found u hu (by rw [h.mid.here]; exact hd0)
        rw [h.mid.here] at hw
        rw [show (d + 1).toNat = d.toNat + 1 by omega]
        exact ⟨u, hw, hadj⟩
      · rw [if_neg e] at h0 ⊢; exact h.bc.found j hj h0
    · dsimp only at h0 ⊢
      rw [hs] at h0
      by_cases e : j = t
      · subst e; exact ⟨sk.2.length, by simp, nth_append_at _ _⟩
      · rw [if_neg e] at h0
        obtain ⟨i, hi, e1⟩ := h.bc.inw j hj h0
        exact ⟨i, by simp; omega, by rw [nth_append_left hi]; exact e1⟩
    · simp only [List.length_append, List.length_singleton] at hj
      dsimp only
      by_cases e2 : j < sk.2.length
      · rw [(hold j e2).1, (hold j e2).2]; exact h.far j e2
      · obtain rfl : j = sk.2.length := by omega
        rw [nth_append_at, Int.toNat_natCast, hs, if_pos rfl]; exact Int.le_refl _
    · dsimp only at hadj2 ⊢
      have hil : i < sk.2.length := by have := h.mid.alt; omega
      rw [(hold i hil).1] at hadj2 ⊢
      rw [(hold i hil).2]
      have := h.done i hi s hadj2
      rw [hs, if_neg (by rintro rfl; omega)]
      exact this
    · dsimp only
      by_cases e : i = k
      · subst e
        rw [ht] at hs2
        obtain rfl : t = s := by omega
        rw [hs, if_pos rfl]
        have := h.mid.d0
        omega
      · have := h.seen i (by omega) s hs2
        rw [hs, if_neg (by rintro rfl; omega)]
        exact this
  · rw [see_pos hn] at hm ⊢
    refine ⟨hm, h.bc, h.far, h.done, fun i hi s hs2 => ?_⟩
    by_cases e : i = k
    · subst e
      rw [ht] at hs2
      obtain rfl : t = s := by omega
      obtain ⟨j, hj, e1⟩ := h.bc.inw t htl (by omega)
      have := h.far j hj
      rw [e1, Int.toNat_natCast] at this
      exact ⟨by omega, this⟩
    · exact h.seen i (by omega) s hs2

theorem dist_full {N : NetD} (hN : N.nodes) {v : Nat} (hv : v < N.ends.length) : ∃ st, BInv N.ends.length st ∧ BC N v st ∧ BDone N st.2.length st ∧ dist N v = st.1 := by
  have key : ∀ f a st, f = N.ends.length + 1 - a → BTop N v a st → BC N v st → BDone N a st → (∀ j, a < st.2.length → j < st.2.length → nth st.1 (nth st.2 j).toNat ≤ nth st.1 (nth st.2 a).toNat + 1) → ∃ st, BInv N.ends.length st ∧ BC N v st ∧ BDone N st.2.length st ∧ dist N v = st.1 := by
    intro f
    induction f with
    | zero => intro a st hf h; have := h.inv.le; have := h.le; omega
    | succ f ih =>
      intro a st hf h hc hd hfar
      by_cases ha : a < st.2.length
      · obtain ⟨u, e1, e2, e3, e4⟩ := h.inv.node a ha
        have mid : ∀ k, k ≤ (nthL N.ends u).length → ∃ sk, BCMid N v a st u (nth st.1 u) k sk := by
          intro k
          induction k with
          | zero => intro _; exact ⟨st, BMid.start h.inv ha e1 rfl, hc, fun j hj => by have := hfar j ha hj; rwa [e1, Int.toNat_natCast] at this, hd, fun i hi => absurd hi (by omega)⟩
          | succ k ihk =>
            intro hk
            obtain ⟨sk, hsk⟩ := ihk (by omega)
            obtain ⟨t, ht, htl⟩ := hN u e2 k (by omega)
            exact ⟨_, hsk.next e2 (by omega) ht htl⟩
        obtain ⟨sk, hsk⟩ := mid _ (Nat.le_refl _)
        have hat : nth sk.2 a = u := hsk.mid.at_
        refine ih (a + 1) sk (by omega) (h.next ha hsk.mid e1 rfl) hsk.bc (fun i hi t hadj => ?_) (fun j ha1 hj => ?_)
        · by_cases e : i = a
          · subst e
            rw [hat, Int.toNat_natCast] at hadj ⊢
            obtain ⟨_, _, p, hp, he⟩ := hadj
            rw [hsk.mid.here]
            exact hsk.seen p hp t he
          · exact hsk.done i (by omega) t hadj
        · have := hsk.far j hj
          have h2 := hsk.bc.sorted a (a + 1) (by omega) ha1
          rw [hat, Int.toNat_natCast, hsk.mid.here] at h2
          omega
      · have := h.le
        obtain rfl : a = st.2.length := by omega
        exact ⟨st, h.inv, hc, hd, h.stop⟩
  refine key _ 0 _ rfl (BTop.start hv) (BC.start hv) (fun i hi => absurd hi (by omega)) (fun j h0 hj => ?_)
  have : j = 0 := by simp [bfs0] at hj; exact hj
  subst this
  omega
theorem dist_way {N : NetD} (hN : N.nodes) {v : Nat} (hv : v < N.ends.length) {t : Nat} (ht : t < N.ends.length) (h0 : 0 ≤ nth (dist N v) t) : way N (nth (dist N v) t).toNat v t := by
  obtain ⟨st, h1, h2, h3, e⟩ := dist_full hN hv
  rw [e] at h0 ⊢
  exact h2.found t ht h0
theorem dist_self {N : NetD} (hN : N.nodes) {v : Nat} (hv : v < N.ends.length) : nth (dist N v) v = 0 := by
  have key : ∀ f a st, f = N.ends.length + 1 - a → BTop N v a st → nth st.1 v = 0 → nth (dist N v) v = 0 := by
    intro f
    induction f with
    | zero => intro a st hf h; have := h.inv.le; have := h.le; omega
    | succ f ih =>
      intro a st hf h hz
      by_cases ha : a < st.2.length
      · obtain ⟨u, e1, e2, e3, e4⟩ := h.inv.node a ha
        have mid : ∀ k, k ≤ (nthL N.ends u).length → ∃ sk, BMid N a st u (nth st.1 u) k sk := by
          intro k
          induction k with
          | zero => intro _; exact ⟨st, BMid.start h.inv ha e1 rfl⟩
          | succ k ihk =>
            intro hk
            obtain ⟨sk, hsk⟩ := ihk (by omega)
            obtain ⟨t, ht, htl⟩ := hN u e2 k (by omega)
            exact ⟨_, hsk.next (by omega) ht htl⟩
        obtain ⟨sk, hsk⟩ := mid _ (Nat.le_refl _)
        exact ih (a + 1) sk (by omega) (h.next ha hsk e1 rfl) (by rw [hsk.kept.out v (by omega)]; exact hz)
      · have := h.le
        obtain rfl : a = st.2.length := by omega
        rw [h.stop]; exact hz
  refine key _ 0 _ rfl (BTop.start hv) ?_
  simp only [bfs0]; rw [nth_set _ _ _ _ (by simpa using hv), if_pos rfl]
theorem dist_le {N : NetD} (hN : N.nodes) {v : Nat} (hv : v < N.ends.length) : ∀ {k t : Nat}, way N k v t → 0 ≤ nth (dist N v) t ∧ nth (dist N v) t ≤ k
  | 0, t, e => by rw [← (show v = t from e), dist_self hN hv]; omega
  | k + 1, t, ⟨s, h1, h2⟩ => by
    have hi := dist_le hN hv h1
    obtain ⟨st, a1, a2, a3, e⟩ := dist_full hN hv
    rw [e] at hi ⊢
    obtain ⟨i, hil, e1⟩ := a2.inw s h2.1 hi.1
    have := a3 i hil t (by rw [e1, Int.toNat_natCast]; exact h2)
    rw [e1, Int.toNat_natCast] at this
    omega
theorem dist_symm {N : NetD} (hg : N.good = true) {u v : Nat} (hu : u < N.ends.length) (hv : v < N.ends.length) : nth (dist N u) v = nth (dist N v) u := by
  have hN := good_nodes hg
  have h1 := dist_low hN hu hv
  have h2 := dist_low hN hv hu
  by_cases e1 : 0 ≤ nth (dist N u) v
  · have := dist_le hN hv (way_symm hg (dist_way hN hu hv e1))
    have := dist_le hN hu (way_symm hg (dist_way hN hv hu (by omega)))
    omega
  · by_cases e2 : 0 ≤ nth (dist N v) u
    · have := dist_le hN hu (way_symm hg (dist_way hN hv hu e2))
      omega
    · omega

end Go.Proofs.Ytcmmklcampmkjaa
