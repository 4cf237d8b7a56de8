/-
  Several texts in one: PartM, Part, PartP, FlP, FlQ, Fl, Fl2, Fls. No condition on any program.
-/
import Derived.Test.YtmfjdiccohgihaaOwnE
import Derived.Test.YtmfjdiccohgihaaReg
import Derived.Test.YtmfjdiccohgihaaQuadP
import Derived.Test.YtmfjdiccohgihaaBasics
import Derived.Deep.AppendLies
import Derived.Test.YtmfjdiccohgihaaCompP
import Derived.Test.YtmfjdiccohgihaaOri
import Derived.Test.YtmfjdiccohgihaaComp
import Derived.Test.YtmfjdiccohgihaaEdge2
import Derived.Test.YtmfjdiccohgihaaFind
import Derived.BigQuiet
import Derived.Deep.QuietTactic

/- Memory of the network that a call builds out of kept ports: a map of ends to ends of the call's own; three slices that grow in one struct. No condition on any program. -/
namespace Go.Proofs.Ytmfjdiccohgihaa
open Go.ChangeShapes Go.WideShapes Go.ChangeAt Go.RowKit
set_option linter.unusedVariables false

theorem ite_is {c : Prop} [Decidable c] {x y : Prop} (h : c) (k : x) : if c then x else y := by rw [if_pos h]; exact k
theorem results_cell1 {fn : Func} {t : Tmp} {ty : TypeId} (h : fn.results = #[.cell t ty]) (tmps : Array Value) (P : Program) (w : World) {p : Addr} {v : Value} (ha : tmps.getD t undef = .pointer (some p)) (hl : (loadVar ty p).run P w = .ok v w) :
    (results fn tmps).run P w = .ok v w := by
  have ha' : tmps[t]?.getD undef = .pointer (some p) := by simpa using ha
  simp [results, h, ha', asAddr, hl]
theorem load_net {w : World} {g : Nat} {a b c : Value} (h : BoxN w g #[a, b, c] 33) : (loadVar 33 ⟨g, 0, none⟩).run Try.prog w = .ok (.agg #[a, b, c]) w := by
  have k0 : w.cell? ⟨g, 0, none⟩ = some a := h.cell 0 (by simp)
  have k1 : w.cell? ⟨g, 1, none⟩ = some b := h.cell 1 (by simp)
  have k2 : w.cell? ⟨g, 2, none⟩ = some c := h.cell 2 (by simp)
  unfold loadVar
  simp [go_sem, k0, k1, k2]
/-- a map whose values are held as they are -/
def rdH (v : Value) : Option (DataW Value × List MemPlace) := some (.held v, [])
/-- an end as a value -/
def endP (p : Po) : Value := .agg #[.int .i64 ((p.1 : Nat) : Int), .int .i64 ((p.2 : Nat) : Int)]
/-- block b is a map with ends as keys that reads as U; it has at most m entries -/
def MpE (w : World) (b : Nat) (U : Int → Int → Po) (m : Nat) : Prop :=
  ∃ (n : Nat) (D : DataW Value), n ≤ m ∧ w.ownsMap Try.prog 72 rdH b n D ∧ Maps.IsMap D ∧ ∀ x y, I64 x → I64 y → D.atKey (kl x y) (.held (endP (0, 0))) = .held (endP (U x y))
def setUE (U : Int → Int → Po) (x y : Int) (v : Po) : Int → Int → Po := fun a b => if a = x ∧ b = y then v else U a b
theorem setUE_at (U : Int → Int → Po) (x y : Int) (v : Po) : setUE U x y v x y = v := by unfold setUE; rw [if_pos ⟨rfl, rfl⟩]
theorem setUE_ne {U : Int → Int → Po} {x y a b : Int} {v : Po} (h : ¬ (a = x ∧ b = y)) : setUE U x y v a b = U a b := by unfold setUE; rw [if_neg h]
section
variable {w w' : World} {b m : Nat} {U : Int → Int → Po}
theorem MpE.new (w : World) : MpE (w.alloc (.map #[] 0)) w.heap.size (fun _ _ => (0, 0)) 0 :=
  ⟨0, .map [], Nat.le_refl _, World.ownsMap_made _ _ _ _, Maps.isMap_empty, fun x y _ _ => rfl⟩
theorem MpE.lt (h : MpE w b U m) : b < w.heap.size := let ⟨_, _, _, h, _⟩ := h; h.lt
theorem MpE.mono (h : MpE w b U m) {m' : Nat} (hm : m ≤ m') : MpE w b U m' := let ⟨n, D, h1, h2⟩ := h; ⟨n, D, by omega, h2⟩
theorem MpE.kept {row : Option Nat} (h : MpE w b U m) (hg : w.grownBy w' row) (hr : some b ≠ row) : MpE w' b U m := let ⟨n, D, h1, h2, h3⟩ := h; ⟨n, D, h1, h2.kept hg hr, h3⟩
theorem MpE.far {row : Option Nat} (h : MpE w b U m) (hg : w.grownBy w' row) (hr : ∀ g, row = some g → g ≠ b) : MpE w' b U m := h.kept hg (fun e => hr b e.symm rfl)
theorem MpE.still (h : MpE w b U m) (hg : w.grownBy w' none) : MpE w' b U m := h.kept hg (by simp)
theorem MpE.look (h : MpE w b U m) {x y : Int} (hx : I64 x) (hy : I64 y) : (Instr.lookup 103 (.map (some b)) (.agg #[.int .i64 x, .int .i64 y]) false).run Try.prog w = .ok (endP (U x y)) w := by
  obtain ⟨n, D, _, h2, h3, h4⟩ := h
  obtain ⟨v, ps, hrun, hv⟩ := h2.lookup (R := rdH) Try.keyedE Try.underlying103 (show (zeroValue 72).run Try.prog w = .ok (endP (0, 0)) w by kernel_rfl) rfl (keyE hx hy)
  rw [h4 x y hx hy] at hv
  have hv1 : some ((DataW.held v : DataW Value), ([] : List MemPlace)) = some (DataW.held (endP (U x y)), ps) := hv
  have hv2 := Option.some.inj hv1
  have this : v = endP (U x y) := DataW.held.inj (Prod.mk.inj hv2).1
  rw [hrun, this]
theorem MpE.put (h : MpE w b U m) (hm : m < 1099511627776) {x y : Int} (hx : I64 x) (hy : I64 y) (v : Po) :
    ∃ w', (Instr.mapUpdate 103 (.map (some b)) (.agg #[.int .i64 x, .int .i64 y]) (endP v)).run Try.prog w = .ok () w' ∧ w.grownBy w' (some b) ∧ MpE w' b (setUE U x y v) (m + 1) := by
  obtain ⟨n, D, h1, h2, h3, h4⟩ := h
  obtain ⟨w', hU, hown, hg⟩ := h2.update (R := rdH) Try.keyedE Try.underlying103 (show n < maxLen by unfold maxLen; omega) (keyE hx hy) (show rdH (endP v) = some (.held (endP v), []) from rfl)
  refine ⟨w', hU, hg, n + 1, D.put (kl x y) (.held (endP v)), by omega, hown, h3.put _ _, fun a c ha hc => ?_⟩
  by_cases e : a = x ∧ c = y
  · obtain ⟨rfl, rfl⟩ := e
    rw [Maps.atKey_put_same h3 (by trivial), setUE_at]
  · rw [Maps.atKey_put_other (fun e2 => e (kl_inj ha hc hx hy e2)), h4 a c ha hc, setUE_ne e]
end

/-- no two own one block -/
def Ap (u v : Value) : Prop := ∀ g, u.ownBlock = some g → v.ownBlock ≠ some g
theorem Ap.symm {u v : Value} (h : Ap u v) : Ap v u := fun g h1 h2 => h g h2 h1
theorem Ap.nil (v : Value) : Ap (.slice none 0 0) v := fun g h => by cases h
theorem Ap.keeps {u v : Value} (h : Ap u v) : u.ownBlock = none ∨ u.ownBlock ≠ v.ownBlock := by
  cases hu : u.ownBlock with
  | none => exact .inl rfl
  | some g => right; exact fun e => h g hu e.symm
theorem Ap.new {u v v' : Value} {n : Nat} (h : Ap u v) (hu : ∀ g, u.ownBlock = some g → g < n) (hv : v'.ownBlock = v.ownBlock ∨ ∃ g, v'.ownBlock = some g ∧ n ≤ g) : Ap u v' := fun g h1 h2 => by
  rcases hv with e | ⟨g', e, hg⟩
  · exact h g h1 (by rw [← e]; exact h2)
  · rw [e] at h2; injection h2 with h2; have := hu g h1; omega
theorem OwnE.weak {w : World} {base base' : Nat} {e : TypeId} {v : Value} {l : List Po} (h : OwnE w base e v l) (hb : base' ≤ base) : OwnE w base' e v l := by
  obtain ⟨h1, h2⟩ := h
  refine ⟨h1, ?_⟩
  rcases h2 with h2 | ⟨g, cap, cur, e1, hg, hh, hn, hm, hs, ht⟩
  · exact .inl h2
  · exact .inr ⟨g, cap, cur, e1, Nat.le_trans hb hg, hh, hn, hm, hs, ht⟩
theorem own_appP {w : World} {base : Nat} {e : TypeId} {v : Value} {ps : List Int} {z : Int} (h : w.ownsRow base e 1 v (ps.length + 1) (ps.map (Value.int .i64) ++ [.int .i64 z])) : OwnI w base e v (ps ++ [z]) := by
  unfold OwnI Own
  rw [List.map_append]
  simpa using h
theorem netIds {w : World} {lo hi : Nat} {v1 v2 v3 : Value} {N : NetD} (h : Net w lo hi (.agg #[v1, v2, v3]) N) : IntS w lo hi v2 N.ids := by
  obtain ⟨a, b, c, e, _, h1, _⟩ := h
  simp only [Value.agg.injEq, Array.mk.injEq, List.cons.injEq, and_true] at e
  obtain ⟨rfl, rfl, rfl⟩ := e
  exact h1
theorem netIns {w : World} {lo hi : Nat} {v1 v2 v3 : Value} {N : NetD} (h : Net w lo hi (.agg #[v1, v2, v3]) N) : IntS w lo hi v3 N.inputs := by
  obtain ⟨a, b, c, e, _, _, h1⟩ := h
  simp only [Value.agg.injEq, Array.mk.injEq, List.cons.injEq, and_true] at e
  obtain ⟨rfl, rfl, rfl⟩ := e
  exact h1
/-- three slices that a call owns: rows of ends, and two rows of numbers -/
structure GN (w : World) (base : Nat) (vE vD vI : Value) (rows : List (List Po)) (ids ins : List Int) : Prop where
  intro ::
  all : ∃ us : List Value, us.length = rows.length ∧ Own w base 73 vE us ∧ OwnI w base 3 vD ids ∧ OwnI w base 3 vI ins ∧
    (∀ j, j < rows.length → ∃ u, us[j]? = some u ∧ OwnE w base 72 u (nthL rows j) ∧ Ap u vE ∧ Ap u vD ∧ Ap u vI) ∧ Ap vE vD ∧ Ap vE vI ∧ Ap vD vI
section
variable {w w' : World} {base : Nat} {vE vD vI : Value} {rows : List (List Po)} {ids ins : List Int}
theorem GN.nil (w : World) (base : Nat) : GN w base (.slice none 0 0) (.slice none 0 0) (.slice none 0 0) [] [] [] :=
  ⟨[], rfl, Own.nil _ _ _, OwnI.nil _ _ _, OwnI.nil _ _ _, fun j hj => absurd hj (by simp), Ap.nil _, Ap.nil _, Ap.nil _⟩
theorem GN.ltE (h : GN w base vE vD vI rows ids ins) : ∀ g, vE.ownBlock = some g → base ≤ g ∧ g < w.heap.size := let ⟨_, _, h, _⟩ := h.all; h.lt
theorem GN.ltD (h : GN w base vE vD vI rows ids ins) : ∀ g, vD.ownBlock = some g → base ≤ g ∧ g < w.heap.size := let ⟨_, _, _, h, _⟩ := h.all; h.lt
theorem GN.ltI (h : GN w base vE vD vI rows ids ins) : ∀ g, vI.ownBlock = some g → base ≤ g ∧ g < w.heap.size := let ⟨_, _, _, _, h, _⟩ := h.all; h.lt
theorem GN.idsO (h : GN w base vE vD vI rows ids ins) : OwnI w base 3 vD ids := let ⟨_, _, _, h, _⟩ := h.all; h
theorem GN.insO (h : GN w base vE vD vI rows ids ins) : OwnI w base 3 vI ins := let ⟨_, _, _, _, h, _⟩ := h.all; h
theorem GN.lenE (h : GN w base vE vD vI rows ids ins) : ∃ A c, vE = .slice A rows.length c ∧ rows.length ≤ c ∧ c ≤ maxLen := by
  obtain ⟨us, h1, h2, _⟩ := h.all
  obtain ⟨A, c, e, a1, a2, _⟩ := h2.form
  exact ⟨A, c, by rw [e, h1], by omega, a2⟩
/-- writes elsewhere -/
theorem GN.keptB {row : Option Nat} (h : GN w base vE vD vI rows ids ins) (hg : w.grownBy w' row) (hr : ∀ g, row = some g → g < base) : GN w' base vE vD vI rows ids ins := by
  obtain ⟨us, h1, h2, h3, h4, h5, h6⟩ := h.all
  have hk : ∀ v : Value, (∀ g, v.ownBlock = some g → base ≤ g ∧ g < w.heap.size) → v.ownBlock = none ∨ v.ownBlock ≠ row := fun v hv => by
    cases e : v.ownBlock with
    | none => exact .inl rfl
    | some g => right; intro e2; have := hr g e2.symm; have := (hv g e).1; omega
  refine ⟨us, h1, h2.kept hg (hk _ h2.lt), OwnI.kept h3 hg (hk _ h3.lt), OwnI.kept h4 hg (hk _ h4.lt), fun j hj => ?_, h6⟩
  obtain ⟨u, a1, a2, a3⟩ := h5 j hj
  exact ⟨u, a1, a2.kept hg (hk _ a2.lt), a3⟩
theorem GN.still (h : GN w base vE vD vI rows ids ins) (hg : w.grownBy w' none) : GN w' base vE vD vI rows ids ins := h.keptB hg (fun g e => by cases e)
/-- numbers behind the third -/
theorem GN.addI (h : GN w base vE vD vI rows ids ins) {vI' : Value} {x : Int} (hg : w.grownBy w' vI.ownBlock) (ho : OwnI w' base 3 vI' (ins ++ [x])) (hv : vI'.ownBlock = vI.ownBlock ∨ ∃ g, vI'.ownBlock = some g ∧ w.heap.size ≤ g) : GN w' base vE vD vI' rows ids (ins ++ [x]) := by
  obtain ⟨us, h1, h2, h3, h4, h5, h6, h7, h8⟩ := h.all
  refine ⟨us, h1, h2.kept hg h7.keeps, OwnI.kept h3 hg h8.keeps, ho, fun j hj => ?_, h6, h7.new (fun g e => (h2.lt g e).2) hv, h8.new (fun g e => (h3.lt g e).2) hv⟩
  obtain ⟨u, a1, a2, a3, a4, a5⟩ := h5 j hj
  exact ⟨u, a1, a2.kept hg a5.keeps, a3, a4, a5.new (fun g e => (a2.lt g e).2) hv⟩
/-- numbers behind the second -/
theorem GN.addD (h : GN w base vE vD vI rows ids ins) {vD' : Value} {x : Int} (hg : w.grownBy w' vD.ownBlock) (ho : OwnI w' base 3 vD' (ids ++ [x])) (hv : vD'.ownBlock = vD.ownBlock ∨ ∃ g, vD'.ownBlock = some g ∧ w.heap.size ≤ g) : GN w' base vE vD' vI rows (ids ++ [x]) ins := by
  obtain ⟨us, h1, h2, h3, h4, h5, h6, h7, h8⟩ := h.all
  refine ⟨us, h1, h2.kept hg h6.keeps, ho, OwnI.kept h4 hg h8.symm.keeps, fun j hj => ?_, h6.new (fun g e => (h2.lt g e).2) hv, h7, ((h8.symm).new (fun g e => (h4.lt g e).2) hv).symm⟩
  obtain ⟨u, a1, a2, a3, a4, a5⟩ := h5 j hj
  exact ⟨u, a1, a2.kept hg a4.keeps, a3, a4.new (fun g e => (a2.lt g e).2) hv, a5⟩
/-- what it reads as -/
theorem GN.net (h : GN w base vE vD vI rows ids ins) : Net w base w.heap.size (.agg #[vE, vD, vI]) ⟨rows.map castL, ids, ins⟩ := by
  obtain ⟨us, h1, h2, h3, h4, h5, _⟩ := h.all
  refine ⟨vE, vD, vI, rfl, ⟨fun j => us.getD j undef, ?_, fun j hj => ?_⟩, h3.ints, h4.ints⟩
  · have := Sl.of_own (f := fun j => us.getD j undef) h2 (fun j hj => by simp at hj; simp [hj])
    show Sl w base w.heap.size 1 vE (rows.map castL).length _
    rw [List.length_map, ← h1]
    exact this
  · simp only [List.length_map] at hj
    obtain ⟨u, a1, a2, _⟩ := h5 j hj
    have e : us.getD j undef = u := by simp [a1]
    show EndS w base w.heap.size (us.getD j undef) _
    rw [e]
    have := a2.ends
    have e2 : nthL (rows.map castL) j = castL (nthL rows j) := by simp [nthL, hj]
    show EndS w base w.heap.size u (nthL (rows.map castL) j)
    rw [e2]; exact this
end

/-- append of one row of ends onto the first, the row's slice just laid in a block of its own -/
theorem append_gn {P : Program} {ops : Array Oper} {rest : List Oper} {o : Oper} {a : Act} {Q : Exit → Act → World → Prop} {t : TypeId} {bytes : Nat}
    (ht : P.underlying t = some (.slice 73)) (hinfo : (P.info? 73).map (fun i => (i.zero, i.size, i.bytes)) = some (some (.slice none 0 0), 1, bytes)) (hby : bytes ≤ 64)
    (w : World) (hgd : o.guard = none) {s : Operand} (x : Operand) (ho : o.op = .call { callee := .builtin .append, args := #[s, x], argTypes := #[t, t] })
    {base : Nat} {vE vD vI : Value} {rows : List (List Po)} {ids ins : List Int} (hown : GN w base vE vD vI rows ids ins) {u : Value} {l : List Po} (hu : OwnE w base 72 u l) (hE : Ap u vE) (hD : Ap u vD) (hI : Ap u vI)
    (te : TypeId) (hs : a.eval s = vE) (hx : a.eval x = .slice (some ⟨w.heap.size, 0, none⟩) 1 1) (hlen : rows.length < 1099511627776) (hbase : base ≤ w.heap.size)
    (h : ∀ v' w', GN w' base v' vD vI (rows ++ [l]) ids ins → w.grownBy w' vE.ownBlock → wpList P ops Q rest (a.put o.dst v') w') :
    wpList P ops Q (o :: rest) a (w.alloc (.cells #[u] te)) := by
  obtain ⟨us, h1, h2, h3, h4, h5, h6, h7, h8⟩ := hown.all
  obtain ⟨A, c, hf, _⟩ := hu.len
  refine append1 ht hinfo rfl hby w hgd x ho h2 _ te hs hx (by rw [hf]; rfl) (by omega) hbase fun v' w' ho' hg' hat' => h v' w' ?_ hg'
  have hat2 : v'.ownBlock = vE.ownBlock ∨ ∃ g, v'.ownBlock = some g ∧ w.heap.size ≤ g := hat'.imp id fun e => ⟨_, e, by omega⟩
  refine ⟨us ++ [u], by simp [h1], ho', OwnI.kept h3 hg' h6.symm.keeps, OwnI.kept h4 hg' h7.symm.keeps, fun j hj => ?_, ((h6.symm).new (fun g e => (h3.lt g e).2) hat2).symm, ((h7.symm).new (fun g e => (h4.lt g e).2) hat2).symm, h8⟩
  by_cases e1 : j < rows.length
  · obtain ⟨u', a1, a2, a3, a4, a5⟩ := h5 j e1
    rw [nthL_append_left e1]
    exact ⟨u', by rw [List.getElem?_append_left (by omega)]; exact a1, a2.kept hg' a3.keeps, a3.new (fun g e => (a2.lt g e).2) hat2, a4, a5⟩
  · obtain rfl : j = rows.length := by simp at hj; omega
    rw [nthL_append_at]
    exact ⟨u, by rw [← h1]; simp, hu.kept hg' hE.keeps, hE.new (fun g e => (hu.lt g e).2) hat2, hD, hI⟩

theorem good_insl {N : NetD} (hg : N.good = true) : N.inputs.length = N.ends.length := by
  unfold NetD.good NetD.headOk at hg
  simp only [Bool.and_eq_true] at hg
  have hi := hg.1.2.2
  unfold insGood at hi
  simp only [Bool.and_eq_true, decide_eq_true_eq] at hi
  omega
theorem good_idsl {N : NetD} (hg : N.good = true) : N.ids.length = 0 ∨ N.ids.length = N.ends.length := by
  unfold NetD.good NetD.headOk at hg
  simp only [Bool.and_eq_true] at hg
  have hi := hg.1.2.1
  unfold idsGood at hi
  simp only [Bool.and_eq_true, Bool.or_eq_true, decide_eq_true_eq] at hi
  omega
/-! plain: what the network of kept ports is -/
def cntK (kp : Nat → Nat → Bool) (v m : Nat) : Nat := ((List.range m).filter (kp v)).length
theorem cntK_succ (kp : Nat → Nat → Bool) (v m : Nat) : cntK kp v (m + 1) = cntK kp v m + if kp v m = true then 1 else 0 := by
  unfold cntK
  rw [List.range_succ, List.filter_append, List.length_append]
  by_cases h : kp v m = true
  · rw [if_pos h]; simp [h]
  · rw [if_neg h]; simp [h]
theorem cntK_le (kp : Nat → Nat → Bool) (v m : Nat) : cntK kp v m ≤ m := by
  unfold cntK; exact Nat.le_trans (List.length_filter_le _ _) (by simp)
/-- the places of the kept ports of the node with index k, up to port m -/
def rowU (kp : Nat → Nat → Bool) (U : Int → Int → Po) (v k : Nat) : Nat → Int → Int → Po
  | 0 => U
  | m + 1 => if kp v m = true then setUE (rowU kp U v k m) v m (k, cntK kp v m) else rowU kp U v k m
def allU (N : NetD) (kp : Nat → Nat → Bool) (zs : List Int) : Nat → Int → Int → Po
  | 0 => fun _ _ => (0, 0)
  | k + 1 => rowU kp (allU N kp zs k) (nth zs k).toNat k (nthL N.ends (nth zs k).toNat).length
def partRow (N : NetD) (kp : Nat → Nat → Bool) (U : Int → Int → Po) (v m : Nat) : List Po := ((List.range m).filter (kp v)).map fun i => U (nthE (nthL N.ends v) i).1 (nthE (nthL N.ends v) i).2
theorem partRow_len (N : NetD) (kp : Nat → Nat → Bool) (U : Int → Int → Po) (v m : Nat) : (partRow N kp U v m).length = cntK kp v m := by simp [partRow, cntK]
theorem partRow_yes {N : NetD} {kp : Nat → Nat → Bool} {U : Int → Int → Po} {v m : Nat} (h : kp v m = true) : partRow N kp U v (m + 1) = partRow N kp U v m ++ [U (nthE (nthL N.ends v) m).1 (nthE (nthL N.ends v) m).2] := by simp [partRow, List.range_succ, h]
theorem partRow_no {N : NetD} {kp : Nat → Nat → Bool} {U : Int → Int → Po} {v m : Nat} (h : kp v m = false) : partRow N kp U v (m + 1) = partRow N kp U v m := by simp [partRow, List.range_succ, h]
def partRows (N : NetD) (kp : Nat → Nat → Bool) (U : Int → Int → Po) (zs : List Int) : List (List Po) := zs.map fun z => partRow N kp U z.toNat (nthL N.ends z.toNat).length
def pickL (l zs : List Int) : List Int := zs.map fun z => nth l z.toNat
def partN (N : NetD) (zs : List Int) (kp : Nat → Nat → Bool) : NetD :=
  ⟨(partRows N kp (allU N kp zs zs.length) zs).map castL, if 0 < N.ids.length then pickL N.ids zs else [], pickL N.inputs zs⟩
theorem partRows_take {N : NetD} {kp : Nat → Nat → Bool} {U : Int → Int → Po} {zs : List Int} {k : Nat} (h : k < zs.length) : partRows N kp U (zs.take (k + 1)) = partRows N kp U (zs.take k) ++ [partRow N kp U (nth zs k).toNat (nthL N.ends (nth zs k).toNat).length] := by
  unfold partRows; rw [List.take_succ_eq_append_getElem h, List.map_append, nth_eq h]; rfl
theorem pickL_take {l zs : List Int} {k : Nat} (h : k < zs.length) : pickL l (zs.take (k + 1)) = pickL l (zs.take k) ++ [nth l (nth zs k).toNat] := by
  unfold pickL; rw [List.take_succ_eq_append_getElem h, List.map_append, nth_eq h]; rfl
theorem partRows_len (N : NetD) (kp : Nat → Nat → Bool) (U : Int → Int → Po) (zs : List Int) : (partRows N kp U zs).length = zs.length := by simp [partRows]
theorem pickL_len (l zs : List Int) : (pickL l zs).length = zs.length := by simp [pickL]

end Go.Proofs.Ytmfjdiccohgihaa

/- Contract: the network of some nodes with the ports that a function keeps (program). -/
namespace Go.Proofs.Ytmfjdiccohgihaa
open Go.ChangeShapes Go.WideShapes Go.ChangeAt Go.RowKit
set_option linter.unusedVariables false

set_option maxHeartbeats 8000000 in
set_option maxRecDepth 100000 in
theorem part_any (v1 : Value) (N : NetD) (lo1 hi1 : Nat) (v2 : Value) (zs : List Int) (lo2 hi2 : Nat) (keep : Nat) (caps : Array Value) (w : World) (h1 : Net w lo1 hi1 v1 N) (hh1 : hi1 ≤ w.heap.size) (h2 : IntS w lo2 hi2 v2 zs) (hh2 : hi2 ≤ w.heap.size) (eg : ∀ args w, (callFunc keep args).run Try.prog w = .ok (.enter keep args) w) (kp : Nat → Nat → Bool) (hkp : ∀ v i : Nat, v < N.ends.length → i < (nthL N.ends v).length → ∀ W, Below w.heap.size w W → Calls Try.prog keep (#[.int .i64 (v : Nat), .int .i64 (i : Nat)] ++ caps) W fun e w' => e = .returned (.bool (kp v i)) ∧ Below W.heap.size W w') (hg : N.good = true) (hzn : ∀ j, j < zs.length → ∃ t : Nat, nth zs j = t ∧ t < N.ends.length) (hzl : zs.length ≤ 40) :
    Calls Try.prog 45 #[v1, v2, .func (.func keep) #[] caps] w fun e w' => ∃ r, e = .returned (r) ∧ Net w' w.heap.size w'.heap.size r (partN N zs kp) ∧ Below w.heap.size w w' := by
  obtain ⟨n1, n40⟩ := good_n hg
  have HG := Lib.hid hg; clear hg
  have hmm := @run_makeMap Try.prog
  have HKP := Lib.hid hkp; clear hkp
  have HZN := Lib.hid hzn; clear hzn
  have HNI := Lib.hid (good_idsl HG.out)
  have HNN := Lib.hid (good_insl HG.out)
  have F1 := Lib.hid h1
  obtain ⟨A1, c1, A1', c1', A1'', c1'', rfl, hc1, hd1, _⟩ := h1.parts
  obtain ⟨b1, o1, _, _, rfl, _⟩ := Net.rowAt F1.out (u := 0) (by omega)
  clear h1
  have F2 := Lib.hid h2
  obtain ⟨A2, c2, rfl, hc2, hd2⟩ := h2.dims
  clear h2
  obtain ⟨WA, HWA⟩ : ∃ W, Hid (W = ((w.alloc (.cells #[.slice (some ⟨b1, o1, none⟩) N.ends.length c1, .slice A1' N.ids.length c1', .slice A1'' N.inputs.length c1''] 33)).alloc (.cells #[.slice none 0 0, .slice none 0 0, .slice none 0 0] 33))) := ⟨_, Lib.hid rfl⟩
  have hbA : Below w.heap.size w WA := by rw [HWA.out]; exact (((Below.refl _ _).alloc (Nat.le_refl _) _).alloc (by simp; try omega) _)
  have hsA : w.heap.size + 2 ≤ WA.heap.size := by rw [HWA.out]; simp; try omega
  have bx1 : BoxN WA (w.heap.size) #[.slice (some ⟨b1, o1, none⟩) N.ends.length c1, .slice A1' N.ids.length c1', .slice A1'' N.inputs.length c1''] 33 := by rw [HWA.out]; exact ((BoxN.new' _ _ _ (by simp)).still (grown_alloc _ _))
  have bxx0 : BoxN WA (w.heap.size + 1) #[.slice none 0 0, .slice none 0 0, .slice none 0 0] 33 := by rw [HWA.out]; exact (BoxN.new' _ _ _ (by simp))
  have G1 := Lib.hid (Net.below F1.out hbA hh1); clear F1
  have G2 := Lib.hid (IntS.below F2.out hbA hh2); clear F2
  go_enter Try.func45, Try.ntmps45
  go_upto_region 1 with (fail)
  rw [← HWA.out]; clear HWA
  obtain ⟨bI, oI, rfl, _, hbI, _, _⟩ := (netIns G1.out).opened (j := 0) (by rw [HNN.out]; omega)
  go_upto_region 2 with (fail)
  refine nameC ?_
  intro W1 HW1
  have hg1 : WA.grownBy W1 none := by rw [HW1.out]; exact grown_alloc _ _
  have hs1 := hg1.size
  have HF1 := Lib.hid ((Turned.refl WA.heap.size WA.heap.size WA).still hg1)
  have OUT1 := Lib.hid (show BoxN W1 WA.heap.size #[.slice none 0 0, .slice none 0 0, .slice none 0 0] 33 by rw [HW1.out]; exact BoxN.new _ _ _)
  clear HW1
  have hgo := OUT1.out.lt
  go_upto_region 3 with (fail)
  refine nameC ?_
  intro W2 HW2
  have hg2 : W1.grownBy W2 none := by rw [HW2.out]; exact grown_alloc _ _
  have hs2 := hg2.size
  have HF2 := Lib.hid (HF1.out.still hg2); clear HF1
  have OUT2 := Lib.hid (BoxN.still OUT1.out hg2); clear OUT1
  have HM0 := Lib.hid (show MpE W2 W1.heap.size (fun _ _ => (0, 0)) 0 by rw [HW2.out]; exact MpE.new _)
  have hzm : W1.heap.size + 1 ≤ W2.heap.size := by rw [HW2.out]; simp
  clear HW2
  skip
  have N_2 := Lib.hid (Net.turned G1.out HF2.out (by omega) (by omega)); clear G1
  have zs_2 := Lib.hid (IntS.turned G2.out HF2.out (by omega) (by omega)); clear G2
  have bx1_2 := HF2.out.boxN bx1 (by omega); clear bx1
  have bxx0_2 := HF2.out.boxN bxx0 (by omega); clear bxx0
  have hbA2 : Below w.heap.size w W2 := (HF2.out.below_of hbA (by omega) (by omega)); clear hbA HF2
  have HB0 := Lib.hid (show BoxN W2 WA.heap.size #[.slice none 0 0, .slice none 0 0, .slice none 0 0] 33 from OUT2.out)
  go_wp2_with fail
  go_loopw [21] (fun kv wr => ∃ (k : Nat), k ≤ zs.length ∧ kv = .int .i64 k ∧ Hid (MpE wr W1.heap.size (allU N kp zs k) (6 * k)) ∧ Hid (BoxN wr WA.heap.size #[.slice none 0 0, .slice none 0 0, .slice none 0 0] 33) ∧ Hid (Turned WA.heap.size (W1.heap.size + 1) W2 wr)) (fun kv _ => zs.length - (intOf kv).toNat)
  case atStart => exact ⟨0, Nat.zero_le _, rfl, HM0, HB0, Lib.hid (Turned.refl WA.heap.size (W1.heap.size + 1) W2)⟩
  case round =>
    obtain ⟨k, hk, rfl, HM, HB, HF3⟩ := hrel
    have hs3 := HF3.out.size
    obtain ⟨wq, rfl⟩ : ∃ wq : World, wq = wr := ⟨_, rfl⟩
    by_cases hkl : k < zs.length
    case pos =>
      obtain ⟨v, hv, hvn⟩ := HZN.out k hkl
      obtain ⟨bz, oz, rfl, _, _, xz, _⟩ := IntS.opened (IntS.turned zs_2.out HF3.out (by omega) (by omega)) hkl
      rw [hv] at xz
      have hki : (k : Int) < zs.length := by omega
      have hd6 := good_deg HG.out hvn
      have HAU := Lib.hid (show allU N kp zs (k + 1) = rowU kp (allU N kp zs k) v k (nthL N.ends v).length by show rowU kp (allU N kp zs k) (nth zs k).toNat k _ = _; rw [hv, Int.toNat_natCast])
      have HV := Lib.hid hv; clear hv
      obtain ⟨Aa, ca, hba, qa, hca, hda, hRa⟩ := Net.rowIn N_2.out hvn
      replace qa := (HF3.out.cell (by omega) (by omega)).trans qa
      have Ra := Lib.hid hRa; clear hRa
      have kbx1_0 : wq.cell? ⟨w.heap.size, 0, none⟩ = some (.slice (some ⟨b1, o1, none⟩) N.ends.length c1) := (HF3.out.boxN bx1_2 (by omega)).cell 0 (by simp)
      have kbx1_1 : wq.cell? ⟨w.heap.size, 1, none⟩ = some (.slice A1' N.ids.length c1') := (HF3.out.boxN bx1_2 (by omega)).cell 1 (by simp)
      have kbx1_2 : wq.cell? ⟨w.heap.size, 2, none⟩ = some (.slice (some ⟨bI, oI, none⟩) N.inputs.length c1'') := (HF3.out.boxN bx1_2 (by omega)).cell 2 (by simp)
      have hvi : (v : Int) < N.ends.length := by omega
      go_wp2_with fail
      clear xz kbx1_0 kbx1_1 kbx1_2
      go_loopw [32, 11] (fun mv pv wr => ∃ (m : Nat), m ≤ (nthL N.ends v).length ∧ mv = .int .i64 m ∧ pv = .int .i64 (cntK kp v m : Nat) ∧ Hid (MpE wr W1.heap.size (rowU kp (allU N kp zs k) v k m) (6 * k + m)) ∧ Hid (BoxN wr WA.heap.size #[.slice none 0 0, .slice none 0 0, .slice none 0 0] 33) ∧ Hid (Turned WA.heap.size (W1.heap.size + 1) W2 wr)) (fun mv pv _ => (nthL N.ends v).length - (intOf mv).toNat)
      case atStart => exact ⟨0, Nat.zero_le _, rfl, rfl, HM, HB, HF3⟩
      case round =>
        clear HF3
        obtain ⟨m, hm, rfl, rfl, HM, HB, HF4⟩ := hrel
        have hs4 := HF4.out.size
        obtain ⟨ws, rfl⟩ : ∃ ws : World, ws = wr := ⟨_, rfl⟩
        have hck := cntK_le kp v m
        by_cases hml : m < (nthL N.ends v).length
        case neg =>
          obtain rfl : m = (nthL N.ends v).length := by omega
          go_wp2_with fail
          go_roundw
          case rel => exact ⟨k + 1, by omega, by go_num, Lib.hid (by rw [HAU.out]; exact HM.out.mono (by omega)), HB, HF4⟩
          case measure => simp [intOf]; omega
        have HCK := Lib.hid (HKP.out v m hvn hml ws (HF4.out.below_of hbA2 (by omega) (by omega)))
        have HCS := Lib.hid (cntK_succ kp v m)
        cases hb : kp v m with
        | false =>
          rw [hb] at HCK
          have HKB := Lib.hid hb; clear hb
          go_upto_region 13 with (go_at_fn keep; refine HCK.out.mono ?_; rintro e W5 ⟨rfl, hbl5⟩; have hg5 := grown_below hbl5; clear hbl5)
          have hs5 := hg5.size
          have HF5 := Lib.hid (HF4.out.still hg5); clear HF4
          have HM5 := Lib.hid (MpE.kept HM.out hg5 (by simp))
          have HB5 := Lib.hid (BoxN.still HB.out hg5)
          clear HM HB HCK
          have HRU := Lib.hid (show rowU kp (allU N kp zs k) v k (m + 1) = rowU kp (allU N kp zs k) v k m by simp only [rowU]; rw [HKB.out]; rfl)
          rw [HKB.out] at HCS
          go_wp2_with fail
          go_roundw
          case rel => exact ⟨m + 1, by omega, by go_num, by rw [HCS.out]; rfl, Lib.hid (by rw [HRU.out]; exact HM5.out.mono (by omega)), HB5, HF5⟩
          case measure => simp [intOf]; omega
        | true =>
          rw [hb] at HCK
          have HKB := Lib.hid hb; clear hb
          go_upto_region 11 with (go_at_fn keep; refine HCK.out.mono ?_; rintro e W6 ⟨rfl, hbl6⟩; have hg6 := grown_below hbl6; clear hbl6)
          have hs6 := hg6.size
          have HF6 := Lib.hid (HF4.out.still hg6); clear HF4
          have HM6 := Lib.hid (MpE.kept HM.out hg6 (by simp))
          have HB6 := Lib.hid (BoxN.still HB.out hg6)
          clear HM HB HCK
          have HRU := Lib.hid (show rowU kp (allU N kp zs k) v k (m + 1) = setUE (rowU kp (allU N kp zs k) v k m) v m (k, cntK kp v m) by simp only [rowU]; rw [if_pos HKB.out])
          rw [HKB.out] at HCS
          obtain ⟨w5, hU, hg5, HM5⟩ := HM6.out.put (by omega) (x := (v : Int)) (y := (m : Int)) (by unfold I64; omega) (by unfold I64; omega) (k, cntK kp v m)
          have HMM := Lib.hid HM5; clear HM5
          unfold endP at hU
          dsimp only at hU
          have HBB := Lib.hid (BoxN.far HB6.out hg5 (fun g e => by cases e; omega))
          have HF5 := Lib.hid (HF6.out.grown hg5 fun g e => .inl (by cases e; omega))
          go_wp2_with fail
          go_roundw
          case rel => exact ⟨m + 1, by omega, by go_num, by rw [HCS.out]; go_num, Lib.hid (by rw [HRU.out]; exact HMM.out.mono (by omega)), HBB, HF5⟩
          case measure => simp [intOf]; omega
    obtain rfl : k = zs.length := by omega
    obtain ⟨U, HU⟩ : ∃ U, Hid (allU N kp zs zs.length = U) := ⟨_, Lib.hid rfl⟩
    rw [HU.out] at HM
    go_wp2_with fail
    obtain ⟨hm0, HMU⟩ : ∃ m0, Hid (MpE wq W1.heap.size U m0) := ⟨_, HM⟩
    clear HM
    go_loopw [52] (fun kv wr => ∃ (k : Nat) (vE vD vI : Value), k ≤ zs.length ∧ kv = .int .i64 k ∧ Hid (MpE wr W1.heap.size U hm0) ∧ Hid (BoxN wr WA.heap.size #[vE, vD, vI] 33) ∧ Hid (GN wr W2.heap.size vE vD vI (partRows N kp U (zs.take k)) (if 0 < N.ids.length then pickL N.ids (zs.take k) else []) (pickL N.inputs (zs.take k))) ∧ W2.heap.size ≤ wr.heap.size ∧ Hid (Turned WA.heap.size (W1.heap.size + 1) W2 wr)) (fun kv _ => zs.length - (intOf kv).toNat)
    case atStart => exact ⟨0, .slice none 0 0, .slice none 0 0, .slice none 0 0, Nat.zero_le _, rfl, HMU, HB, Lib.hid (by rw [List.take_zero]; simp only [partRows, pickL, List.map_nil, ite_self]; exact GN.nil _ _), by omega, HF3⟩
    case round =>
      clear HF3
      obtain ⟨k, vE, vD, vI, hk, rfl, HM, HB, HGN, hz, HF7⟩ := hrel
      have hs7 := HF7.out.size
      obtain ⟨wt, rfl⟩ : ∃ wt : World, wt = wr := ⟨_, rfl⟩
      by_cases hkl : k < zs.length
      case neg =>
        obtain rfl : k = zs.length := by omega
        rw [List.take_length] at HGN
        have HPE := Lib.hid (show partN N zs kp = ⟨(partRows N kp U zs).map castL, if 0 < N.ids.length then pickL N.ids zs else [], pickL N.inputs zs⟩ by unfold partN; rw [HU.out])
        obtain ⟨rows, HRS⟩ : ∃ l, Hid (partRows N kp U zs = l) := ⟨_, Lib.hid rfl⟩
        obtain ⟨ids, HIDS⟩ : ∃ l, Hid ((if 0 < N.ids.length then pickL N.ids zs else []) = l) := ⟨_, Lib.hid rfl⟩
        obtain ⟨ins, HINS⟩ : ∃ l, Hid (pickL N.inputs zs = l) := ⟨_, Lib.hid rfl⟩
        rw [HRS.out, HIDS.out, HINS.out] at HGN HPE
        obtain ⟨AE, cE, rfl, _⟩ := HGN.out.lenE
        obtain ⟨AD, cD, rfl, _⟩ := HGN.out.idsO.ints.dims
        obtain ⟨AI, cI, rfl, _⟩ := HGN.out.insO.ints.dims
        have HR := Lib.hid HGN.out.net
        have ko0 : wt.cell? ⟨WA.heap.size, 0, none⟩ = some (.slice AE rows.length cE) := HB.out.cell 0 (by simp)
        have ko1 : wt.cell? ⟨WA.heap.size, 1, none⟩ = some (.slice AD ids.length cD) := HB.out.cell 1 (by simp)
        have ko2 : wt.cell? ⟨WA.heap.size, 2, none⟩ = some (.slice AI ins.length cI) := HB.out.cell 2 (by simp)
        have HBR := Lib.hid (HF7.out.boxN bxx0_2 (by omega))
        have kr0 : wt.cell? ⟨w.heap.size + 1, 0, none⟩ = some (.slice none 0 0) := HBR.out.cell 0 (by simp)
        have kr1 : wt.cell? ⟨w.heap.size + 1, 1, none⟩ = some (.slice none 0 0) := HBR.out.cell 1 (by simp)
        have kr2 : wt.cell? ⟨w.heap.size + 1, 2, none⟩ = some (.slice none 0 0) := HBR.out.cell 2 (by simp)
        have kf0 := HBR.out.frozen 0
        have kf1 := HBR.out.frozen 1
        have kf2 := HBR.out.frozen 2
        go_wp2_with fail
        ((try simp only [Exit.inBlock, Exit.then]); refine bodyPost_ret (results_cell1 rfl _ _ _ rfl (load_net (((HBR.out.set 0 (.slice AE rows.length cE)).set 1 (.slice AD ids.length cD)).set 2 (.slice AI ins.length cI)))) rfl ?_)
        have hg9 : wt.grownBy (((wt.setCell ⟨w.heap.size + 1, 0, none⟩ (.slice AE rows.length cE)).setCell ⟨w.heap.size + 1, 1, none⟩ (.slice AD ids.length cD)).setCell ⟨w.heap.size + 1, 2, none⟩ (.slice AI ins.length cI)) (some (w.heap.size + 1)) := grownBy_setCell (p := ⟨w.heap.size + 1, 2, none⟩) (grownBy_setCell (p := ⟨w.heap.size + 1, 1, none⟩) (grown_set wt ⟨w.heap.size + 1, 0, none⟩ _) rfl _) rfl _
        refine ⟨_, rfl, ?_, ((HF7.out.below_of hbA2 (by omega) (by omega)).grown hg9 (by omega) fun g e => by cases e; omega)⟩
        rw [HPE.out]
        exact Net.mono (Net.turned HR.out ((Turned.refl (w.heap.size + 1) (w.heap.size + 1 + 1) wt).grown hg9 (fun g e => .inl (by cases e; omega))) (Nat.le_refl _) (.inr (by omega))) (by omega) (by simp)
      obtain ⟨v, hv, hvn⟩ := HZN.out k hkl
      obtain ⟨bz, oz, rfl, _, _, xz, _⟩ := IntS.opened (IntS.turned zs_2.out HF7.out (by omega) (by omega)) hkl
      rw [hv] at xz
      have hki : (k : Int) < zs.length := by omega
      have hd6 := good_deg HG.out hvn
      have HV := Lib.hid hv; clear hv
      obtain ⟨Aa, ca, hba, qa, hca, hda, hRa⟩ := Net.rowIn N_2.out hvn
      replace qa := (HF7.out.cell (by omega) (by omega)).trans qa
      have Ra := Lib.hid hRa; clear hRa
      have kbx1_0 : wt.cell? ⟨w.heap.size, 0, none⟩ = some (.slice (some ⟨b1, o1, none⟩) N.ends.length c1) := (HF7.out.boxN bx1_2 (by omega)).cell 0 (by simp)
      have kbx1_1 : wt.cell? ⟨w.heap.size, 1, none⟩ = some (.slice A1' N.ids.length c1') := (HF7.out.boxN bx1_2 (by omega)).cell 1 (by simp)
      have kbx1_2 : wt.cell? ⟨w.heap.size, 2, none⟩ = some (.slice (some ⟨bI, oI, none⟩) N.inputs.length c1'') := (HF7.out.boxN bx1_2 (by omega)).cell 2 (by simp)
      have hvi : (v : Int) < N.ends.length := by omega
      go_wp2_with fail
      clear xz kbx1_0 kbx1_1 kbx1_2
      go_loopw [62, 15] (fun mv ov wr => ∃ (m : Nat), m ≤ (nthL N.ends v).length ∧ mv = .int .i64 m ∧ Hid (OwnE wr wt.heap.size 72 ov (partRow N kp U v m)) ∧ Hid (Below wt.heap.size wt wr)) (fun mv ov _ => (nthL N.ends v).length - (intOf mv).toNat)
      case atStart => exact ⟨0, Nat.zero_le _, rfl, Lib.hid (OwnE.nil _ _ _), Lib.hid (Below.refl _ _)⟩
      case round =>
        obtain ⟨m, hm, rfl, HO, HBW⟩ := hrel
        obtain ⟨wu, rfl⟩ : ∃ wu : World, wu = wr := ⟨_, rfl⟩
        have hs9 := HBW.out.size
        by_cases hml : m < (nthL N.ends v).length
        case pos =>
          obtain ⟨be, oe, rfl, _, _, xe, xe'⟩ := (EndS.below (EndS.turned Ra.out HF7.out (by omega) (by omega)) HBW.out (by omega)).opened hml
          obtain ⟨t, r, et, ht, hr, eu⟩ := good_end HG.out hvn hml
          rw [et] at xe xe'
          dsimp only at xe xe'
          have ET := Lib.hid et
          clear et eu
          have hrd := good_deg HG.out ht
          go_upto_region 22 with (fail)
          refine nameC ?_
          intro W9 HW9
          have hg9 : wu.grownBy W9 none := by rw [HW9.out]; exact grown_alloc _ _
          have hs9 := hg9.size
          have BE := Lib.hid (show BoxN W9 wu.heap.size #[.int .i64 t, .int .i64 r] 72 by rw [HW9.out]; exact BoxN.new _ _ _)
          clear HW9 xe xe'
          have HB2 := Lib.hid (HBW.out.trans ((grown_to_below hg9).mono (by omega)))
          have HO2 := Lib.hid (OwnE.still HO.out hg9)
          clear HO hg9
          have HCK := Lib.hid (HKP.out v m hvn hml W9 (Below.trans (HF7.out.below_of hbA2 (by omega) (by omega)) (HB2.out.mono (by omega))))
          cases hb : kp v m with
          | false =>
            rw [hb] at HCK
            have HKB := Lib.hid hb; clear hb
            go_wp2_with (go_at_fn keep; refine HCK.out.mono ?_; rintro e w6 ⟨rfl, hb6⟩; have hs6 := hb6.size; have HO6 := Lib.hid (OwnE.still HO2.out (grown_below hb6)); have HB6 := Lib.hid (HB2.out.trans (hb6.mono (by omega))))
            go_roundw
            case rel => exact ⟨m + 1, by omega, by go_num, Lib.hid (by rw [partRow_no HKB.out]; exact HO6.out), HB6⟩
            case measure => simp [intOf]; omega
          | true =>
            rw [hb] at HCK
            have HKB := Lib.hid hb; clear hb
            go_upto_region 23 with (go_at_fn keep; refine HCK.out.mono ?_; rintro e w6 ⟨rfl, hb6⟩; have hs6 := hb6.size; have HO6 := Lib.hid (OwnE.still HO2.out (grown_below hb6)); have HB6 := Lib.hid (HB2.out.trans (hb6.mono (by omega))); have BE6 := Lib.hid (BoxN.still BE.out (grown_below hb6)))
            have ke0 : w6.cell? ⟨wu.heap.size, 0, none⟩ = some (.int .i64 t) := BE6.out.cell 0 (by simp)
            have ke1 : w6.cell? ⟨wu.heap.size, 1, none⟩ = some (.int .i64 r) := BE6.out.cell 1 (by simp)
            have hlk := (MpE.kept HM.out (grown_below HB6.out) (by simp)).look (x := (t : Int)) (y := (r : Int)) (by unfold I64; omega) (by unfold I64; omega)
            have HRY := Lib.hid (show partRow N kp U v (m + 1) = partRow N kp U v m ++ [U t r] by rw [partRow_yes HKB.out, ET.out])
            have hpl := partRow_len N kp U v m
            have hck := cntK_le kp v m
            obtain ⟨l, HL⟩ : ∃ l, Hid (partRow N kp U v m = l) := ⟨_, Lib.hid rfl⟩
            rw [HL.out] at HO6 HRY hpl
            obtain ⟨p, HP⟩ : ∃ p, Hid (U t r = p) := ⟨_, Lib.hid rfl⟩
            rw [HP.out] at hlk HRY
            unfold endP at hlk
            have hlv := HO6.out.lt
            go_wp2_with (at_builtin; refine append_end (s := .tmp 71) Try.underlying73 Try.info72 rfl (by decide) w6 rfl _ rfl HO6.out p _ rfl (by simp [Act.eval, go_sem]) (by omega) (by omega) ?_; intro v' w' ho' hg' hat')
            go_roundw
            case rel =>
              exact ⟨m + 1, by omega, by go_num, Lib.hid (by rw [HRY.out]; exact ho'), Lib.hid (HB6.out.grown hg' (by omega) fun g hg => by have := hlv g hg; omega)⟩
            case measure => simp [intOf]; omega
        obtain rfl : m = (nthL N.ends v).length := by omega
        have HGN2 := Lib.hid (GN.still HGN.out (grown_below HBW.out))
        have HLE := Lib.hid HGN.out.ltE; have HLD := Lib.hid HGN.out.ltD; have HLI := Lib.hid HGN.out.ltI
        have HB2 := Lib.hid (BoxN.still HB.out (grown_below HBW.out))
        have HM2 := Lib.hid (MpE.kept HM.out (grown_below HBW.out) (by simp))
        have HF2 := Lib.hid (HF7.out.still (grown_below HBW.out))
        clear HGN HB HM HF7
        have hag : ∀ q : Value, (∀ g, q.ownBlock = some g → W2.heap.size ≤ g ∧ g < wt.heap.size) → Ap u15 q := fun q hq g h1 h2 => by have := HO.out.lt g h1; have := (hq g h2).2; omega
        have HAE := Lib.hid (hag vE HLE.out); have HAD := Lib.hid (hag vD HLD.out); have HAI := Lib.hid (hag vI HLI.out)
        clear hag
        obtain ⟨row, HRW⟩ : ∃ row, Hid (partRow N kp U v (nthL N.ends v).length = row) := ⟨_, Lib.hid rfl⟩
        rw [HRW.out] at HO
        obtain ⟨Au, cu, rfl, hcu, hdu⟩ := HO.out.len
        have HPR := Lib.hid (show partRows N kp U (zs.take (k + 1)) = partRows N kp U (zs.take k) ++ [row] by rw [partRows_take hkl, HV.out, Int.toNat_natCast, HRW.out])
        obtain ⟨rows, HRS⟩ : ∃ rows, Hid (partRows N kp U (zs.take k) = rows) := ⟨_, Lib.hid rfl⟩
        have hrl : rows.length ≤ 40 := by rw [← HRS.out, partRows_len, List.length_take]; omega
        rw [HRS.out] at HGN2 HPR
        have HOW := Lib.hid (OwnE.weak HO.out (show W2.heap.size ≤ wt.heap.size by omega)); clear HO
        have ko0 : wu.cell? ⟨WA.heap.size, 0, none⟩ = some vE := HB2.out.cell 0 (by simp)
        have kof := HB2.out.frozen 0
        go_upto_region 26 with (at_builtin; refine append_gn (s := .tmp 79) Try.underlying31 Try.info73 (by decide) wu rfl _ rfl HGN2.out HOW.out HAE.out HAD.out HAI.out _ (by simp [Act.eval, go_sem]) (by simp [Act.eval, go_sem]) (by omega) (by omega) ?_; intro vE2 w7 hgn7 hg7; obtain ⟨A7, c7, hq7, _⟩ := hgn7.lenE; simp only [List.length_append, List.length_cons, List.length_nil, Nat.zero_add] at hq7; subst hq7; have HGN7 := Lib.hid hgn7; have HG7 := Lib.hid hg7; have HB7 := Lib.hid (BoxN.far HB2.out hg7 (fun g e => by have := HLE.out g e; omega)); have ko7 : w7.cell? ⟨WA.heap.size, 0, none⟩ = some vE := HB7.out.cell 0 (by simp); have kof7 := HB7.out.frozen 0; clear hgn7 hg7)
        clear ko0 kof ko7 kof7
        have hg7 := HG7.out
        have hs7 := hg7.size
        refine nameC ?_
        intro W80 HW80
        have hg80 : w7.grownBy W80 (some WA.heap.size) := by rw [HW80.out]; exact grown_set _ ⟨WA.heap.size, 0, none⟩ _
        have hs80 := hg80.size
        have HB80 := Lib.hid (show BoxN W80 WA.heap.size #[.slice A7 (rows.length + 1) c7, vD, vI] 33 by rw [HW80.out]; exact HB7.out.set 0 _)
        have HGN80 := Lib.hid (GN.keptB HGN7.out hg80 (fun g e => by cases e; omega))
        have HM80 := Lib.hid (MpE.far (MpE.far HM2.out hg7 (fun g e => by have := HLE.out g e; omega)) hg80 (fun g e => by cases e; omega))
        have HF80 := Lib.hid ((HF2.out.grown hg7 (fun g e => .inr (by have := (HLE.out g e).1; omega))).grown hg80 (fun g e => .inl (by cases e; omega)))
        clear HW80 HB7 HGN7 HM2 HF2 HB2 HGN2 HOW HAE HAD HAI HLE hg7 HG7 hg80
        obtain ⟨i1, hi1', hz1⟩ := Option.map_eq_some_iff.1 Try.info3
        simp only [Prod.mk.injEq] at hz1
        obtain ⟨hz1a, hz1b, hz1c⟩ := hz1
        have HI1 := Lib.hid hz1a; have HI2 := Lib.hid hz1b; have HI3 := Lib.hid hz1c; have HII := Lib.hid hi1'
        clear hz1a hz1b hz1c hi1'
        have hpi1 := pickL_len N.inputs (zs.take k)
        rw [List.length_take] at hpi1
        have HPI := Lib.hid (show pickL N.inputs (zs.take (k + 1)) = pickL N.inputs (zs.take k) ++ [nth N.inputs v] by rw [pickL_take hkl, HV.out, Int.toNat_natCast])
        have HPD := Lib.hid (show pickL N.ids (zs.take (k + 1)) = pickL N.ids (zs.take k) ++ [nth N.ids v] by rw [pickL_take hkl, HV.out, Int.toNat_natCast])
        obtain ⟨ins, HINS⟩ : ∃ l, Hid (pickL N.inputs (zs.take k) = l) := ⟨_, Lib.hid rfl⟩
        obtain ⟨x, HX⟩ : ∃ x, Hid (nth N.inputs v = x) := ⟨_, Lib.hid rfl⟩
        obtain ⟨ids, HIDS⟩ : ∃ l, Hid ((if 0 < N.ids.length then pickL N.ids (zs.take k) else []) = l) := ⟨_, Lib.hid rfl⟩
        rw [HINS.out] at hpi1 HPI HGN80
        rw [HX.out] at HPI
        rw [HIDS.out] at HGN80
        have hidl : ids.length ≤ 40 := by
          rw [← HIDS.out]
          split
          · rw [pickL_len, List.length_take]; omega
          · simp
        have hinl : ins.length ≤ 40 := by omega
        have hvin : (v : Int) < N.inputs.length := by rw [HNN.out]; exact hvi
        have hvinn : v < N.inputs.length := by rw [HNN.out]; exact hvn
        have GI := Lib.hid (netIns N_2.out)
        go_wp2_with fail
        refine wp_region_U (fun w' => w'.cell? ⟨WA.heap.size, 0, none⟩ = some (.slice A7 (rows.length + 1) c7) ∧ w'.cell? ⟨WA.heap.size, 1, none⟩ = some (vD) ∧ w'.cell? ⟨WA.heap.size, 2, none⟩ = some (vI) ∧ w'.cell? ⟨w.heap.size, 0, none⟩ = some (.slice (some ⟨b1, o1, none⟩) N.ends.length c1) ∧ w'.cell? ⟨w.heap.size, 1, none⟩ = some (.slice A1' N.ids.length c1') ∧ w'.cell? ⟨w.heap.size, 2, none⟩ = some (.slice (some ⟨bI, oI, none⟩) N.inputs.length c1'') ∧ w'.cell? ⟨bI, oI + v, none⟩ = some (.int .i64 x)) [10] (by kernel_rfl) ?_
        refine nameU ?_
        intro W81 HW81
        have hg81 : W80.grownBy W81 none := by rw [HW81.out]; exact grown_drew _
        clear HW81
        have hs81 := hg81.size
        have HF81 := Lib.hid (HF80.out.still hg81); clear HF80
        have OUT81 := Lib.hid (BoxN.still HB80.out hg81); clear HB80
        have M81 := Lib.hid (MpE.still HM80.out hg81); clear HM80
        have G81 := Lib.hid (GN.still HGN80.out hg81); clear HGN80
        have hS82 : W81.cell? ⟨WA.heap.size, 0, none⟩ = some (.slice A7 (rows.length + 1) c7) ∧ W81.cell? ⟨WA.heap.size, 1, none⟩ = some (vD) ∧ W81.cell? ⟨WA.heap.size, 2, none⟩ = some (vI) ∧ W81.cell? ⟨w.heap.size, 0, none⟩ = some (.slice (some ⟨b1, o1, none⟩) N.ends.length c1) ∧ W81.cell? ⟨w.heap.size, 1, none⟩ = some (.slice A1' N.ids.length c1') ∧ W81.cell? ⟨w.heap.size, 2, none⟩ = some (.slice (some ⟨bI, oI, none⟩) N.inputs.length c1'') ∧ W81.cell? ⟨bI, oI + v, none⟩ = some (.int .i64 x) := ⟨OUT81.out.cell 0 (by simp), OUT81.out.cell 1 (by simp), OUT81.out.cell 2 (by simp), (HF81.out.boxN bx1_2 (by omega)).cell 0 (by simp), (HF81.out.boxN bx1_2 (by omega)).cell 1 (by simp), (HF81.out.boxN bx1_2 (by omega)).cell 2 (by simp), (by have := (IntS.at_ (IntS.turned GI.out HF81.out (by omega) (by omega)) hvinn).1; rw [HX.out] at this; exact this)⟩
        refine anyU_take (i := 0) (v := .pointer (some ⟨WA.heap.size, 2, none⟩)) rfl (by kernel_rfl) (by kernel_rfl) (by kernel_rfl) (fun _ _ _ h => h) ⟨by rfl, fun w' hS' => (by obtain ⟨s1, s2, s3, s4, s5, s6, s7⟩ := hS'; go_simp)⟩ hS82 ?_
        simp only [List.getElem_toArray, List.getElem_cons_zero, Act.put, List.setIfInBounds_toArray, List.set_cons_zero, List.set_cons_succ]
        refine anyU_take (i := 1) (v := vI) rfl (by kernel_rfl) (by kernel_rfl) (by kernel_rfl) (fun _ _ _ h => h) ⟨by rfl, fun w' hS' => (by obtain ⟨s1, s2, s3, s4, s5, s6, s7⟩ := hS'; go_simp)⟩ hS82 ?_
        simp only [List.getElem_toArray, List.getElem_cons_succ, List.getElem_cons_zero, Act.put, List.setIfInBounds_toArray, List.set_cons_zero, List.set_cons_succ]
        refine anyU_take (i := 2) (v := .pointer (some ⟨w.heap.size, 2, none⟩)) rfl (by kernel_rfl) (by kernel_rfl) (by kernel_rfl) (fun _ _ _ h => h) ⟨by rfl, fun w' hS' => (by obtain ⟨s1, s2, s3, s4, s5, s6, s7⟩ := hS'; go_simp)⟩ hS82 ?_
        simp only [List.getElem_toArray, List.getElem_cons_succ, List.getElem_cons_zero, Act.put, List.setIfInBounds_toArray, List.set_cons_zero, List.set_cons_succ]
        refine anyU_take (i := 3) (v := .slice (some ⟨bI, oI, none⟩) N.inputs.length c1'') rfl (by kernel_rfl) (by kernel_rfl) (by kernel_rfl) (fun _ _ _ h => h) ⟨by rfl, fun w' hS' => (by obtain ⟨s1, s2, s3, s4, s5, s6, s7⟩ := hS'; go_simp)⟩ hS82 ?_
        simp only [List.getElem_toArray, List.getElem_cons_succ, List.getElem_cons_zero, Act.put, List.setIfInBounds_toArray, List.set_cons_zero, List.set_cons_succ]
        refine anyU_take (i := 4) (v := .int .i64 v) rfl (by kernel_rfl) (by kernel_rfl) (by kernel_rfl) (fun _ _ _ h => h) ⟨by rfl, fun w' hS' => (by obtain ⟨s1, s2, s3, s4, s5, s6, s7⟩ := hS'; go_simp)⟩ hS82 ?_
        simp only [List.getElem_toArray, List.getElem_cons_succ, List.getElem_cons_zero, Act.put, List.setIfInBounds_toArray, List.set_cons_zero, List.set_cons_succ]
        refine anyU_take (i := 5) (v := .pointer (some ⟨bI, oI + v, none⟩)) rfl (by kernel_rfl) (by kernel_rfl) (by kernel_rfl) (fun _ _ _ h => h) ⟨by rfl, fun w' hS' => (by obtain ⟨s1, s2, s3, s4, s5, s6, s7⟩ := hS'; simp [go_sem, hvin])⟩ hS82 ?_
        simp only [List.getElem_toArray, List.getElem_cons_succ, List.getElem_cons_zero, Act.put, List.setIfInBounds_toArray, List.set_cons_zero, List.set_cons_succ]
        refine anyU_take (i := 6) (v := .int .i64 x) rfl (by kernel_rfl) (by kernel_rfl) (by kernel_rfl) (fun _ _ _ h => h) ⟨by rfl, fun w' hS' => (by obtain ⟨s1, s2, s3, s4, s5, s6, s7⟩ := hS'; go_simp)⟩ hS82 ?_
        simp only [List.getElem_toArray, List.getElem_cons_succ, List.getElem_cons_zero, Act.put, List.setIfInBounds_toArray, List.set_cons_zero, List.set_cons_succ]
        refine anyU_ready (rs := [7]) (by kernel_rfl) (by simp) ?_
        refine ReadyU.cons (i := 7) rfl (fun K hK => ?_) ReadyU.nil
        simp only [List.getElem_toArray, List.getElem_cons_succ, List.getElem_cons_zero]
        refine ite_is (by rfl) ?_
        simp [go_sem]
        refine hK.out _ _ ⟨fun _ => ⟨(OUT81.out.still (grown_alloc _ _)).cell 0 (by simp), (OUT81.out.still (grown_alloc _ _)).cell 1 (by simp), (OUT81.out.still (grown_alloc _ _)).cell 2 (by simp), ((HF81.out.boxN bx1_2 (by omega)).still (grown_alloc _ _)).cell 0 (by simp), ((HF81.out.boxN bx1_2 (by omega)).still (grown_alloc _ _)).cell 1 (by simp), ((HF81.out.boxN bx1_2 (by omega)).still (grown_alloc _ _)).cell 2 (by simp), (by have := (IntS.at_ (IntS.still (IntS.turned GI.out HF81.out (by omega) (by omega)) (grown_alloc W81 (.cells #[.int .i64 x] 3)) (by omega)) hvinn).1; rw [HX.out] at this; exact this)⟩, ?_⟩
        clear hK K
        try simp only [List.getElem_toArray, List.getElem_cons_succ, List.getElem_cons_zero, Act.put, List.setIfInBounds_toArray, List.set_cons_zero, List.set_cons_succ]
        refine nameU ?_
        intro W83 HW83
        have hg83 : W81.grownBy W83 none := by rw [HW83.out]; exact grown_alloc _ _
        have BV83 := Lib.hid (show BoxN W83 W81.heap.size #[.int .i64 x] 3 by rw [HW83.out]; exact BoxN.new _ _ _)
        have hz83 : W81.heap.size < W83.heap.size := BV83.out.lt
        clear HW83
        have hs83 := hg83.size
        have HF83 := Lib.hid (HF81.out.still hg83); clear HF81
        have OUT83 := Lib.hid (BoxN.still OUT81.out hg83); clear OUT81
        have M83 := Lib.hid (MpE.still M81.out hg83); clear M81
        have G83 := Lib.hid (GN.still G81.out hg83); clear G81
        have hS84 : W83.cell? ⟨WA.heap.size, 0, none⟩ = some (.slice A7 (rows.length + 1) c7) ∧ W83.cell? ⟨WA.heap.size, 1, none⟩ = some (vD) ∧ W83.cell? ⟨WA.heap.size, 2, none⟩ = some (vI) ∧ W83.cell? ⟨w.heap.size, 0, none⟩ = some (.slice (some ⟨b1, o1, none⟩) N.ends.length c1) ∧ W83.cell? ⟨w.heap.size, 1, none⟩ = some (.slice A1' N.ids.length c1') ∧ W83.cell? ⟨w.heap.size, 2, none⟩ = some (.slice (some ⟨bI, oI, none⟩) N.inputs.length c1'') ∧ W83.cell? ⟨bI, oI + v, none⟩ = some (.int .i64 x) := ⟨OUT83.out.cell 0 (by simp), OUT83.out.cell 1 (by simp), OUT83.out.cell 2 (by simp), (HF83.out.boxN bx1_2 (by omega)).cell 0 (by simp), (HF83.out.boxN bx1_2 (by omega)).cell 1 (by simp), (HF83.out.boxN bx1_2 (by omega)).cell 2 (by simp), (by have := (IntS.at_ (IntS.turned GI.out HF83.out (by omega) (by omega)) hvinn).1; rw [HX.out] at this; exact this)⟩
        clear hS82
        have HOI83 := Lib.hid (G83.out.insO)
        have LOX := Lib.hid HOI83.out.lt
        refine anyU_ready (rs := [8]) (by kernel_rfl) (by simp) ?_
        refine ReadyU.cons (i := 8) rfl (fun K hK => ?_) ReadyU.nil
        refine step_append_lies W83 (by rfl) _ _ _ (by rfl) W2.heap.size 3 i1 _ 1 _ Try.underlying23 HII.out HI1.out HI2.out HI3.out rfl (by omega) vI _ (ins.map (Value.int .i64)) (by rfl) HOI83.out ⟨W81.heap.size, 0, none⟩ 1 1 [.int .i64 x] (by rfl) (by rfl) (World.news_of_block BV83.out) (by simp [Value.oneCell']) (by omega) (by rw [List.length_map]; unfold maxLen; omega) (by rw [List.length_map]; omega) (by omega) _ rfl ?_
        intro gp2 cp2 W85 hown hg85 hatp hltp
        simp only [List.length_map] at hown ⊢
        have hs85 := hg85.size
        have HF85 := Lib.hid (HF83.out.grown hg85 (fun g e => by have := LOX.out g e; omega)); clear HF83
        have OUT85 := Lib.hid (BoxN.far OUT83.out hg85 (fun g e => by have := LOX.out g e; omega)); clear OUT83
        have M85 := Lib.hid (MpE.far M83.out hg85 (fun g e => by have := LOX.out g e; omega)); clear M83
        have HOO85 := Lib.hid (own_appP hown)
        have G85 := Lib.hid (GN.addI G83.out hg85 HOO85.out (hatp.imp (fun e => e.symm) (fun e => ⟨_, rfl, Nat.le_of_eq e.symm⟩)))
        clear hown LOX hatp hltp HOI83 HOO85 BV83 G83
        have hS86 : W85.cell? ⟨WA.heap.size, 0, none⟩ = some (.slice A7 (rows.length + 1) c7) ∧ W85.cell? ⟨WA.heap.size, 1, none⟩ = some (vD) ∧ W85.cell? ⟨WA.heap.size, 2, none⟩ = some (vI) ∧ W85.cell? ⟨w.heap.size, 0, none⟩ = some (.slice (some ⟨b1, o1, none⟩) N.ends.length c1) ∧ W85.cell? ⟨w.heap.size, 1, none⟩ = some (.slice A1' N.ids.length c1') ∧ W85.cell? ⟨w.heap.size, 2, none⟩ = some (.slice (some ⟨bI, oI, none⟩) N.inputs.length c1'') ∧ W85.cell? ⟨bI, oI + v, none⟩ = some (.int .i64 x) := ⟨OUT85.out.cell 0 (by simp), OUT85.out.cell 1 (by simp), OUT85.out.cell 2 (by simp), (HF85.out.boxN bx1_2 (by omega)).cell 0 (by simp), (HF85.out.boxN bx1_2 (by omega)).cell 1 (by simp), (HF85.out.boxN bx1_2 (by omega)).cell 2 (by simp), (by have := (IntS.at_ (IntS.turned GI.out HF85.out (by omega) (by omega)) hvinn).1; rw [HX.out] at this; exact this)⟩
        refine hK.out _ _ ⟨fun _ => hS86, ?_⟩
        clear hK K hS84
        try simp only [List.getElem_toArray, List.getElem_cons_succ, List.getElem_cons_zero, Act.put, List.setIfInBounds_toArray, List.set_cons_zero, List.set_cons_succ]
        refine anyU_ready (rs := [9]) (by kernel_rfl) (by simp) ?_
        refine ReadyU.cons (i := 9) rfl (fun K hK => ?_) ReadyU.nil
        simp only [List.getElem_toArray, List.getElem_cons_succ, List.getElem_cons_zero]
        refine ite_is (by rfl) ?_
        simp [go_sem]
        refine hK.out _ _ ⟨fun _ => hS86, ?_⟩
        clear hK K
        try simp only [List.getElem_toArray, List.getElem_cons_succ, List.getElem_cons_zero, Act.put, List.setIfInBounds_toArray, List.set_cons_zero, List.set_cons_succ]
        have kd1 : W85.cell? ⟨WA.heap.size, 2, none⟩ = some vI := OUT85.out.cell 2 (by simp)
        have kdf := OUT85.out.frozen 2
        refine anyU_ready (rs := [10]) (by kernel_rfl) (by simp) ?_
        refine ReadyU.cons (i := 10) rfl (fun K hK => ?_) ReadyU.nil
        simp only [List.getElem_toArray, List.getElem_cons_succ, List.getElem_cons_zero]
        refine ite_is (by rfl) ?_
        simp [go_sem, kd1, kdf]
        refine hK.out _ _ ⟨fun h => absurd h (by decide), ?_⟩
        clear hK K
        try simp only [List.getElem_toArray, List.getElem_cons_succ, List.getElem_cons_zero, Act.put, List.setIfInBounds_toArray, List.set_cons_zero, List.set_cons_succ]
        refine nameU ?_
        intro W87 HW87
        have hg87 : W85.grownBy W87 (some WA.heap.size) := by rw [HW87.out]; exact grown_set _ _ _
        have hs87 := hg87.size
        have HF87 := Lib.hid (HF85.out.grown hg87 (fun g e => by cases e; omega)); clear HF85
        have M87 := Lib.hid (MpE.far M85.out hg87 (fun g e => by cases e; omega)); clear M85
        have HDN87 := Lib.hid (show BoxN W87 WA.heap.size #[.slice A7 (rows.length + 1) c7, vD, .slice (some ⟨gp2, 0, none⟩) (ins.length + 1) cp2] 33 by rw [HW87.out]; exact OUT85.out.set 2 _)
        have G87 := Lib.hid (GN.keptB G85.out hg87 (fun g e => by cases e; omega))
        clear HW87 kd1 kdf OUT85 G85
        clear hS86
        refine anyU_done (by kernel_rfl) ?_ _
        by_cases hid : 0 < N.ids.length
        case neg =>
          have kbx1_0 : W87.cell? ⟨w.heap.size, 0, none⟩ = some (.slice (some ⟨b1, o1, none⟩) N.ends.length c1) := (HF87.out.boxN bx1_2 (by omega)).cell 0 (by simp)
          have kbx1_1 : W87.cell? ⟨w.heap.size, 1, none⟩ = some (.slice A1' N.ids.length c1') := (HF87.out.boxN bx1_2 (by omega)).cell 1 (by simp)
          have kbx1_2 : W87.cell? ⟨w.heap.size, 2, none⟩ = some (.slice (some ⟨bI, oI, none⟩) N.inputs.length c1'') := (HF87.out.boxN bx1_2 (by omega)).cell 2 (by simp)
          have hidi : ¬ (0 : Int) < N.ids.length := by omega
          go_wp2_with fail
          go_roundw
          case rel =>
            have HRR := G87.out
            refine ⟨k + 1, .slice A7 (rows.length + 1) c7, vD, .slice (some ⟨gp2, 0, none⟩) (ins.length + 1) cp2, by omega, by go_num, M87, HDN87, Lib.hid ?_, by omega, HF87⟩
            rw [if_neg hid]; rw [if_neg hid] at HIDS; rw [← HIDS.out] at HRR
            rw [HPR.out, HPI.out]
            exact HRR
          case measure => simp [intOf]; omega
        have hidi : (0 : Int) < N.ids.length := by omega
        have hidn : N.ids.length = N.ends.length := by have := HNI.out; omega
        have hvid : (v : Int) < N.ids.length := by rw [hidn]; exact hvi
        have hvidn : v < N.ids.length := by rw [hidn]; exact hvn
        have HIDN := Lib.hid hidn; clear hidn
        have GD := Lib.hid (netIds N_2.out)
        obtain ⟨bD, oD, rfl, _, hbD, _, _⟩ := GD.out.opened (j := 0) hid
        obtain ⟨xd, HXD⟩ : ∃ x, Hid (nth N.ids v = x) := ⟨_, Lib.hid rfl⟩
        rw [HXD.out] at HPD
        rw [if_pos hid] at HIDS
        rw [HIDS.out] at HPD
        have kbx1_0 : W87.cell? ⟨w.heap.size, 0, none⟩ = some (.slice (some ⟨b1, o1, none⟩) N.ends.length c1) := (HF87.out.boxN bx1_2 (by omega)).cell 0 (by simp)
        have kbx1_1 : W87.cell? ⟨w.heap.size, 1, none⟩ = some (.slice (some ⟨bD, oD, none⟩) N.ids.length c1') := (HF87.out.boxN bx1_2 (by omega)).cell 1 (by simp)
        have kbx1_2 : W87.cell? ⟨w.heap.size, 2, none⟩ = some (.slice (some ⟨bI, oI, none⟩) N.inputs.length c1'') := (HF87.out.boxN bx1_2 (by omega)).cell 2 (by simp)
        go_wp2_with fail
        clear kbx1_0 kbx1_1 kbx1_2
        refine wp_region_U (fun w' => w'.cell? ⟨WA.heap.size, 0, none⟩ = some (.slice A7 (rows.length + 1) c7) ∧ w'.cell? ⟨WA.heap.size, 1, none⟩ = some (vD) ∧ w'.cell? ⟨WA.heap.size, 2, none⟩ = some (.slice (some ⟨gp2, 0, none⟩) (ins.length + 1) cp2) ∧ w'.cell? ⟨w.heap.size, 0, none⟩ = some (.slice (some ⟨b1, o1, none⟩) N.ends.length c1) ∧ w'.cell? ⟨w.heap.size, 1, none⟩ = some (.slice (some ⟨bD, oD, none⟩) N.ids.length c1') ∧ w'.cell? ⟨w.heap.size, 2, none⟩ = some (.slice (some ⟨bI, oI, none⟩) N.inputs.length c1'') ∧ w'.cell? ⟨bD, oD + v, none⟩ = some (.int .i64 xd)) [10] (by kernel_rfl) ?_
        refine nameU ?_
        intro W88 HW88
        have hg88 : W87.grownBy W88 none := by rw [HW88.out]; exact grown_drew _
        clear HW88
        have hs88 := hg88.size
        have HF88 := Lib.hid (HF87.out.still hg88); clear HF87
        have OUT88 := Lib.hid (BoxN.still HDN87.out hg88); clear HDN87
        have M88 := Lib.hid (MpE.still M87.out hg88); clear M87
        have G88 := Lib.hid (GN.still G87.out hg88); clear G87
        have hS89 : W88.cell? ⟨WA.heap.size, 0, none⟩ = some (.slice A7 (rows.length + 1) c7) ∧ W88.cell? ⟨WA.heap.size, 1, none⟩ = some (vD) ∧ W88.cell? ⟨WA.heap.size, 2, none⟩ = some (.slice (some ⟨gp2, 0, none⟩) (ins.length + 1) cp2) ∧ W88.cell? ⟨w.heap.size, 0, none⟩ = some (.slice (some ⟨b1, o1, none⟩) N.ends.length c1) ∧ W88.cell? ⟨w.heap.size, 1, none⟩ = some (.slice (some ⟨bD, oD, none⟩) N.ids.length c1') ∧ W88.cell? ⟨w.heap.size, 2, none⟩ = some (.slice (some ⟨bI, oI, none⟩) N.inputs.length c1'') ∧ W88.cell? ⟨bD, oD + v, none⟩ = some (.int .i64 xd) := ⟨OUT88.out.cell 0 (by simp), OUT88.out.cell 1 (by simp), OUT88.out.cell 2 (by simp), (HF88.out.boxN bx1_2 (by omega)).cell 0 (by simp), (HF88.out.boxN bx1_2 (by omega)).cell 1 (by simp), (HF88.out.boxN bx1_2 (by omega)).cell 2 (by simp), (by have := (IntS.at_ (IntS.turned GD.out HF88.out (by omega) (by omega)) hvidn).1; rw [HXD.out] at this; exact this)⟩
        refine anyU_take (i := 0) (v := .pointer (some ⟨WA.heap.size, 1, none⟩)) rfl (by kernel_rfl) (by kernel_rfl) (by kernel_rfl) (fun _ _ _ h => h) ⟨by rfl, fun w' hS' => (by obtain ⟨s1, s2, s3, s4, s5, s6, s7⟩ := hS'; go_simp)⟩ hS89 ?_
        simp only [List.getElem_toArray, List.getElem_cons_zero, Act.put, List.setIfInBounds_toArray, List.set_cons_zero, List.set_cons_succ]
        refine anyU_take (i := 1) (v := vD) rfl (by kernel_rfl) (by kernel_rfl) (by kernel_rfl) (fun _ _ _ h => h) ⟨by rfl, fun w' hS' => (by obtain ⟨s1, s2, s3, s4, s5, s6, s7⟩ := hS'; go_simp)⟩ hS89 ?_
        simp only [List.getElem_toArray, List.getElem_cons_succ, List.getElem_cons_zero, Act.put, List.setIfInBounds_toArray, List.set_cons_zero, List.set_cons_succ]
        refine anyU_take (i := 2) (v := .pointer (some ⟨w.heap.size, 1, none⟩)) rfl (by kernel_rfl) (by kernel_rfl) (by kernel_rfl) (fun _ _ _ h => h) ⟨by rfl, fun w' hS' => (by obtain ⟨s1, s2, s3, s4, s5, s6, s7⟩ := hS'; go_simp)⟩ hS89 ?_
        simp only [List.getElem_toArray, List.getElem_cons_succ, List.getElem_cons_zero, Act.put, List.setIfInBounds_toArray, List.set_cons_zero, List.set_cons_succ]
        refine anyU_take (i := 3) (v := .slice (some ⟨bD, oD, none⟩) N.ids.length c1') rfl (by kernel_rfl) (by kernel_rfl) (by kernel_rfl) (fun _ _ _ h => h) ⟨by rfl, fun w' hS' => (by obtain ⟨s1, s2, s3, s4, s5, s6, s7⟩ := hS'; go_simp)⟩ hS89 ?_
        simp only [List.getElem_toArray, List.getElem_cons_succ, List.getElem_cons_zero, Act.put, List.setIfInBounds_toArray, List.set_cons_zero, List.set_cons_succ]
        refine anyU_take (i := 4) (v := .int .i64 v) rfl (by kernel_rfl) (by kernel_rfl) (by kernel_rfl) (fun _ _ _ h => h) ⟨by rfl, fun w' hS' => (by obtain ⟨s1, s2, s3, s4, s5, s6, s7⟩ := hS'; go_simp)⟩ hS89 ?_
        simp only [List.getElem_toArray, List.getElem_cons_succ, List.getElem_cons_zero, Act.put, List.setIfInBounds_toArray, List.set_cons_zero, List.set_cons_succ]
        refine anyU_take (i := 5) (v := .pointer (some ⟨bD, oD + v, none⟩)) rfl (by kernel_rfl) (by kernel_rfl) (by kernel_rfl) (fun _ _ _ h => h) ⟨by rfl, fun w' hS' => (by obtain ⟨s1, s2, s3, s4, s5, s6, s7⟩ := hS'; simp [go_sem, hvid])⟩ hS89 ?_
        simp only [List.getElem_toArray, List.getElem_cons_succ, List.getElem_cons_zero, Act.put, List.setIfInBounds_toArray, List.set_cons_zero, List.set_cons_succ]
        refine anyU_take (i := 6) (v := .int .i64 xd) rfl (by kernel_rfl) (by kernel_rfl) (by kernel_rfl) (fun _ _ _ h => h) ⟨by rfl, fun w' hS' => (by obtain ⟨s1, s2, s3, s4, s5, s6, s7⟩ := hS'; go_simp)⟩ hS89 ?_
        simp only [List.getElem_toArray, List.getElem_cons_succ, List.getElem_cons_zero, Act.put, List.setIfInBounds_toArray, List.set_cons_zero, List.set_cons_succ]
        refine anyU_ready (rs := [7]) (by kernel_rfl) (by simp) ?_
        refine ReadyU.cons (i := 7) rfl (fun K hK => ?_) ReadyU.nil
        simp only [List.getElem_toArray, List.getElem_cons_succ, List.getElem_cons_zero]
        refine ite_is (by rfl) ?_
        simp [go_sem]
        refine hK.out _ _ ⟨fun _ => ⟨(OUT88.out.still (grown_alloc _ _)).cell 0 (by simp), (OUT88.out.still (grown_alloc _ _)).cell 1 (by simp), (OUT88.out.still (grown_alloc _ _)).cell 2 (by simp), ((HF88.out.boxN bx1_2 (by omega)).still (grown_alloc _ _)).cell 0 (by simp), ((HF88.out.boxN bx1_2 (by omega)).still (grown_alloc _ _)).cell 1 (by simp), ((HF88.out.boxN bx1_2 (by omega)).still (grown_alloc _ _)).cell 2 (by simp), (by have := (IntS.at_ (IntS.still (IntS.turned GD.out HF88.out (by omega) (by omega)) (grown_alloc W88 (.cells #[.int .i64 xd] 3)) (by omega)) hvidn).1; rw [HXD.out] at this; exact this)⟩, ?_⟩
        clear hK K
        try simp only [List.getElem_toArray, List.getElem_cons_succ, List.getElem_cons_zero, Act.put, List.setIfInBounds_toArray, List.set_cons_zero, List.set_cons_succ]
        refine nameU ?_
        intro W90 HW90
        have hg90 : W88.grownBy W90 none := by rw [HW90.out]; exact grown_alloc _ _
        have BV90 := Lib.hid (show BoxN W90 W88.heap.size #[.int .i64 xd] 3 by rw [HW90.out]; exact BoxN.new _ _ _)
        have hz90 : W88.heap.size < W90.heap.size := BV90.out.lt
        clear HW90
        have hs90 := hg90.size
        have HF90 := Lib.hid (HF88.out.still hg90); clear HF88
        have OUT90 := Lib.hid (BoxN.still OUT88.out hg90); clear OUT88
        have M90 := Lib.hid (MpE.still M88.out hg90); clear M88
        have G90 := Lib.hid (GN.still G88.out hg90); clear G88
        have hS91 : W90.cell? ⟨WA.heap.size, 0, none⟩ = some (.slice A7 (rows.length + 1) c7) ∧ W90.cell? ⟨WA.heap.size, 1, none⟩ = some (vD) ∧ W90.cell? ⟨WA.heap.size, 2, none⟩ = some (.slice (some ⟨gp2, 0, none⟩) (ins.length + 1) cp2) ∧ W90.cell? ⟨w.heap.size, 0, none⟩ = some (.slice (some ⟨b1, o1, none⟩) N.ends.length c1) ∧ W90.cell? ⟨w.heap.size, 1, none⟩ = some (.slice (some ⟨bD, oD, none⟩) N.ids.length c1') ∧ W90.cell? ⟨w.heap.size, 2, none⟩ = some (.slice (some ⟨bI, oI, none⟩) N.inputs.length c1'') ∧ W90.cell? ⟨bD, oD + v, none⟩ = some (.int .i64 xd) := ⟨OUT90.out.cell 0 (by simp), OUT90.out.cell 1 (by simp), OUT90.out.cell 2 (by simp), (HF90.out.boxN bx1_2 (by omega)).cell 0 (by simp), (HF90.out.boxN bx1_2 (by omega)).cell 1 (by simp), (HF90.out.boxN bx1_2 (by omega)).cell 2 (by simp), (by have := (IntS.at_ (IntS.turned GD.out HF90.out (by omega) (by omega)) hvidn).1; rw [HXD.out] at this; exact this)⟩
        clear hS89
        have HOI90 := Lib.hid (G90.out.idsO)
        have LOX := Lib.hid HOI90.out.lt
        refine anyU_ready (rs := [8]) (by kernel_rfl) (by simp) ?_
        refine ReadyU.cons (i := 8) rfl (fun K hK => ?_) ReadyU.nil
        refine step_append_lies W90 (by rfl) _ _ _ (by rfl) W2.heap.size 3 i1 _ 1 _ Try.underlying23 HII.out HI1.out HI2.out HI3.out rfl (by omega) vD _ (ids.map (Value.int .i64)) (by rfl) HOI90.out ⟨W88.heap.size, 0, none⟩ 1 1 [.int .i64 xd] (by rfl) (by rfl) (World.news_of_block BV90.out) (by simp [Value.oneCell']) (by omega) (by rw [List.length_map]; unfold maxLen; omega) (by rw [List.length_map]; omega) (by omega) _ rfl ?_
        intro gp1 cp1 W92 hown hg92 hatp hltp
        simp only [List.length_map] at hown ⊢
        have hs92 := hg92.size
        have HF92 := Lib.hid (HF90.out.grown hg92 (fun g e => by have := LOX.out g e; omega)); clear HF90
        have OUT92 := Lib.hid (BoxN.far OUT90.out hg92 (fun g e => by have := LOX.out g e; omega)); clear OUT90
        have M92 := Lib.hid (MpE.far M90.out hg92 (fun g e => by have := LOX.out g e; omega)); clear M90
        have HOO92 := Lib.hid (own_appP hown)
        have G92 := Lib.hid (GN.addD G90.out hg92 HOO92.out (hatp.imp (fun e => e.symm) (fun e => ⟨_, rfl, Nat.le_of_eq e.symm⟩)))
        clear hown LOX hatp hltp HOI90 HOO92 BV90 G90
        have hS93 : W92.cell? ⟨WA.heap.size, 0, none⟩ = some (.slice A7 (rows.length + 1) c7) ∧ W92.cell? ⟨WA.heap.size, 1, none⟩ = some (vD) ∧ W92.cell? ⟨WA.heap.size, 2, none⟩ = some (.slice (some ⟨gp2, 0, none⟩) (ins.length + 1) cp2) ∧ W92.cell? ⟨w.heap.size, 0, none⟩ = some (.slice (some ⟨b1, o1, none⟩) N.ends.length c1) ∧ W92.cell? ⟨w.heap.size, 1, none⟩ = some (.slice (some ⟨bD, oD, none⟩) N.ids.length c1') ∧ W92.cell? ⟨w.heap.size, 2, none⟩ = some (.slice (some ⟨bI, oI, none⟩) N.inputs.length c1'') ∧ W92.cell? ⟨bD, oD + v, none⟩ = some (.int .i64 xd) := ⟨OUT92.out.cell 0 (by simp), OUT92.out.cell 1 (by simp), OUT92.out.cell 2 (by simp), (HF92.out.boxN bx1_2 (by omega)).cell 0 (by simp), (HF92.out.boxN bx1_2 (by omega)).cell 1 (by simp), (HF92.out.boxN bx1_2 (by omega)).cell 2 (by simp), (by have := (IntS.at_ (IntS.turned GD.out HF92.out (by omega) (by omega)) hvidn).1; rw [HXD.out] at this; exact this)⟩
        refine hK.out _ _ ⟨fun _ => hS93, ?_⟩
        clear hK K hS91
        try simp only [List.getElem_toArray, List.getElem_cons_succ, List.getElem_cons_zero, Act.put, List.setIfInBounds_toArray, List.set_cons_zero, List.set_cons_succ]
        refine anyU_ready (rs := [9]) (by kernel_rfl) (by simp) ?_
        refine ReadyU.cons (i := 9) rfl (fun K hK => ?_) ReadyU.nil
        simp only [List.getElem_toArray, List.getElem_cons_succ, List.getElem_cons_zero]
        refine ite_is (by rfl) ?_
        simp [go_sem]
        refine hK.out _ _ ⟨fun _ => hS93, ?_⟩
        clear hK K
        try simp only [List.getElem_toArray, List.getElem_cons_succ, List.getElem_cons_zero, Act.put, List.setIfInBounds_toArray, List.set_cons_zero, List.set_cons_succ]
        have kd1 : W92.cell? ⟨WA.heap.size, 1, none⟩ = some vD := OUT92.out.cell 1 (by simp)
        have kdf := OUT92.out.frozen 1
        refine anyU_ready (rs := [10]) (by kernel_rfl) (by simp) ?_
        refine ReadyU.cons (i := 10) rfl (fun K hK => ?_) ReadyU.nil
        simp only [List.getElem_toArray, List.getElem_cons_succ, List.getElem_cons_zero]
        refine ite_is (by rfl) ?_
        simp [go_sem, kd1, kdf]
        refine hK.out _ _ ⟨fun h => absurd h (by decide), ?_⟩
        clear hK K
        try simp only [List.getElem_toArray, List.getElem_cons_succ, List.getElem_cons_zero, Act.put, List.setIfInBounds_toArray, List.set_cons_zero, List.set_cons_succ]
        refine nameU ?_
        intro W94 HW94
        have hg94 : W92.grownBy W94 (some WA.heap.size) := by rw [HW94.out]; exact grown_set _ _ _
        have hs94 := hg94.size
        have HF94 := Lib.hid (HF92.out.grown hg94 (fun g e => by cases e; omega)); clear HF92
        have M94 := Lib.hid (MpE.far M92.out hg94 (fun g e => by cases e; omega)); clear M92
        have HDN94 := Lib.hid (show BoxN W94 WA.heap.size #[.slice A7 (rows.length + 1) c7, .slice (some ⟨gp1, 0, none⟩) (ids.length + 1) cp1, .slice (some ⟨gp2, 0, none⟩) (ins.length + 1) cp2] 33 by rw [HW94.out]; exact OUT92.out.set 1 _)
        have G94 := Lib.hid (GN.keptB G92.out hg94 (fun g e => by cases e; omega))
        clear HW94 kd1 kdf OUT92 G92
        clear hS93
        refine anyU_done (by kernel_rfl) ?_ _
        go_wp2_with fail
        go_roundw
        case rel =>
          have HRR := G94.out
          refine ⟨k + 1, .slice A7 (rows.length + 1) c7, .slice (some ⟨gp1, 0, none⟩) (ids.length + 1) cp1, .slice (some ⟨gp2, 0, none⟩) (ins.length + 1) cp2, by omega, by go_num, M94, HDN94, Lib.hid ?_, by omega, HF94⟩
          rw [if_pos hid, HPD.out]
          rw [HPR.out, HPI.out]
          exact HRR
        case measure => simp [intOf]; omega

end Go.Proofs.Ytmfjdiccohgihaa

/- Plain: the network of kept ports is a network; its ends are those of the network, with other numbers. No condition on any program. -/
namespace Go.Proofs.Ytmfjdiccohgihaa
set_option linter.unusedVariables false

theorem cntK_mono (kp : Nat → Nat → Bool) (v : Nat) {m k : Nat} (h : m ≤ k) : cntK kp v m ≤ cntK kp v k := by
  induction k with
  | zero => rw [Nat.le_zero.1 h]; exact Nat.le_refl _
  | succ k ih =>
    rcases Nat.lt_or_eq_of_le h with h1 | rfl
    · have := ih (by omega); rw [cntK_succ]; omega
    · exact Nat.le_refl _
theorem cntK_lt (kp : Nat → Nat → Bool) (v : Nat) {m k : Nat} (h : m < k) (hk : kp v m = true) : cntK kp v m < cntK kp v k := by
  have h1 := cntK_succ kp v m
  rw [if_pos hk] at h1
  have := cntK_mono kp v (show m + 1 ≤ k by omega)
  omega
theorem cntK_inj {kp : Nat → Nat → Bool} {v i j : Nat} (hi : kp v i = true) (hj : kp v j = true) (h : cntK kp v i = cntK kp v j) : i = j := by
  rcases Nat.lt_trichotomy i j with e | e | e
  · have := cntK_lt kp v e hi; omega
  · exact e
  · have := cntK_lt kp v e hj; omega
/-- each new port is a port -/
theorem cntK_port (kp : Nat → Nat → Bool) (v : Nat) : ∀ (d c : Nat), c < cntK kp v d → ∃ i, i < d ∧ kp v i = true ∧ cntK kp v i = c
  | 0, c, h => by simp [cntK] at h
  | d + 1, c, h => by
    rw [cntK_succ] at h
    by_cases hd : kp v d = true
    · rw [if_pos hd] at h
      by_cases hc : c < cntK kp v d
      · obtain ⟨i, h1, h2⟩ := cntK_port kp v d c hc; exact ⟨i, by omega, h2⟩
      · exact ⟨d, by omega, hd, by omega⟩
    · rw [if_neg hd] at h
      obtain ⟨i, h1, h2⟩ := cntK_port kp v d c (by omega); exact ⟨i, by omega, h2⟩
theorem rowU_other (kp : Nat → Nat → Bool) (U : Int → Int → Po) {v k : Nat} {x y : Int} (hx : x ≠ (v : Int)) : ∀ m, rowU kp U v k m x y = U x y
  | 0 => rfl
  | m + 1 => by
    simp only [rowU]
    split
    · rw [setUE_ne (fun e => hx e.1)]; exact rowU_other kp U hx m
    · exact rowU_other kp U hx m
theorem rowU_at (kp : Nat → Nat → Bool) (U : Int → Int → Po) (v k : Nat) {i : Nat} (hi : kp v i = true) : ∀ m, i < m → rowU kp U v k m v i = (k, cntK kp v i)
  | 0, h => absurd h (by omega)
  | m + 1, h => by
    simp only [rowU]
    by_cases e : m = i
    · rw [e, if_pos hi, setUE_at]
    · have ih := rowU_at kp U v k hi m (by omega)
      split
      · rw [setUE_ne (fun e2 => e (by omega))]; exact ih
      · exact ih
/-- the elements are nodes, each once -/
structure PickOk (N : NetD) (zs : List Int) : Prop where
  node : ∀ k, k < zs.length → ∃ t : Nat, nth zs k = t ∧ t < N.ends.length
  once : ∀ a b, a < zs.length → b < zs.length → nth zs a = nth zs b → a = b
/-- kept ports come in pairs, and lead to picked nodes -/
structure KeepOk (N : NetD) (zs : List Int) (kp : Nat → Nat → Bool) : Prop where
  pair : ∀ k v i w j : Nat, k < zs.length → nth zs k = (v : Int) → i < (nthL N.ends v).length → kp v i = true → nthE (nthL N.ends v) i = ((w : Int), (j : Int)) → kp w j = true ∧ ∃ q, q < zs.length ∧ nth zs q = (w : Int)
section
variable {N : NetD} {kp : Nat → Nat → Bool} {zs : List Int}
theorem part_place (hz : PickOk N zs) {k v i : Nat} (hv : nth zs k = (v : Int)) (hi : i < (nthL N.ends v).length) (hk : kp v i = true) : ∀ K, K ≤ zs.length → k < K → allU N kp zs K v i = (k, cntK kp v i)
  | 0, _, h => absurd h (by omega)
  | K + 1, h1, h2 => by
    show rowU kp (allU N kp zs K) (nth zs K).toNat K (nthL N.ends (nth zs K).toNat).length v i = _
    by_cases e : K = k
    · rw [e, hv, Int.toNat_natCast]; exact rowU_at kp _ v k hk _ hi
    · obtain ⟨t, et, _⟩ := hz.node K (by omega)
      have e2 : (v : Int) ≠ ((nth zs K).toNat : Nat) := fun h => e (hz.once K k (by omega) (by omega) (by rw [hv, et]; rw [et] at h; omega))
      rw [rowU_other kp _ e2]; exact part_place hz hv hi hk K (by omega) (by omega)
theorem partRow_pre (N : NetD) (kp : Nat → Nat → Bool) (U : Int → Int → Po) (v m : Nat) : ∀ d, m ≤ d → partRow N kp U v m <+: partRow N kp U v d
  | 0, h => by rw [Nat.le_zero.1 h]; exact List.prefix_refl _
  | d + 1, h => by
    rcases Nat.lt_or_eq_of_le h with h1 | rfl
    · have ih := partRow_pre N kp U v m d (by omega)
      cases hk : kp v d with
      | true => rw [partRow_yes hk]; exact ih.trans (List.prefix_append _ _)
      | false => rw [partRow_no hk]; exact ih
    · exact List.prefix_refl _
theorem partRow_get {U : Int → Int → Po} {v i d : Nat} (hi : i < d) (hk : kp v i = true) : nthP (partRow N kp U v d) (cntK kp v i) = U (nthE (nthL N.ends v) i).1 (nthE (nthL N.ends v) i).2 := by
  obtain ⟨r, hr⟩ := partRow_pre N kp U v (i + 1) d (by omega)
  rw [← hr, partRow_yes hk]
  have hl := partRow_len N kp U v i
  unfold nthP
  rw [List.append_assoc, List.getD_eq_getElem?_getD, List.getElem?_append_right (by omega), hl]
  simp
theorem part_n (N : NetD) (zs : List Int) (kp : Nat → Nat → Bool) : (partN N zs kp).ends.length = zs.length := by simp [partN, partRows]
theorem part_row {k v : Nat} (hk : k < zs.length) (hv : nth zs k = (v : Int)) : nthL (partN N zs kp).ends k = castL (partRow N kp (allU N kp zs zs.length) v (nthL N.ends v).length) := by
  have hv' : zs[k] = (v : Int) := by rw [← nth_eq hk]; exact hv
  have e : (partN N zs kp).ends = zs.map fun z => castL (partRow N kp (allU N kp zs zs.length) z.toNat (nthL N.ends z.toNat).length) := by
    unfold partN partRows
    rw [List.map_map]; rfl
  rw [e]
  unfold nthL
  rw [List.getD_eq_getElem?_getD, List.getElem?_map, List.getElem?_eq_getElem hk, hv']
  simp
theorem part_deg {k v : Nat} (hk : k < zs.length) (hv : nth zs k = (v : Int)) : (nthL (partN N zs kp).ends k).length = cntK kp v (nthL N.ends v).length := by rw [part_row hk hv, castL_length, partRow_len]
theorem part_end (hz : PickOk N zs) (hK : KeepOk N zs kp) (hg : N.good = true) {k v i w j q : Nat} (hk : k < zs.length) (hv : nth zs k = (v : Int)) (hi : i < (nthL N.ends v).length) (hkp : kp v i = true) (he : nthE (nthL N.ends v) i = ((w : Int), (j : Int))) (hq : q < zs.length) (hw : nth zs q = (w : Int)) :
    nthE (nthL (partN N zs kp).ends k) (cntK kp v i) = ((q : Int), (cntK kp w j : Int)) := by
  obtain ⟨t, et, ht⟩ := hz.node k hk
  have hvn : v < N.ends.length := by rw [hv] at et; omega
  obtain ⟨w', j', e1, h1, h2, h3⟩ := good_end hg hvn hi
  rw [he] at e1
  simp only [Prod.mk.injEq] at e1
  have ew : w = w' := by omega
  have ej : j = j' := by omega
  subst ew ej
  rw [part_row hk hv, nthE_castL (by rw [partRow_len]; exact cntK_lt kp v hi hkp), partRow_get hi hkp, he]
  rw [part_place hz hw h2 (hK.pair k v i w j hk hv hi hkp he).1 zs.length (Nat.le_refl _) hq]
theorem nth_pickL {l : List Int} {k : Nat} (hk : k < zs.length) : nth (pickL l zs) k = nth l (nth zs k).toNat := by
  rw [nth_eq (by rw [pickL_len]; exact hk)]
  unfold pickL
  rw [List.getElem_map, ← nth_eq hk]
theorem ids_inj {ids : List Int} {n : Int} (h : idsGood ids n = true) {a b : Nat} (ha : a < ids.length) (hb : b < ids.length) (e : nth ids a = nth ids b) : a = b := by
  unfold idsGood at h
  rw [Bool.and_eq_true] at h
  have key : ∀ x y : Nat, x < y → y < ids.length → nth ids x ≠ nth ids y := fun x y hxy hy e => by
    have := rangeAll_at h.1 hy
    unfold idAt at this
    rw [Bool.and_eq_true, Bool.not_eq_true', decide_eq_false_iff_not] at this
    apply this.2
    rw [← e, nth_eq (show x < ids.length by omega)]
    exact List.mem_iff_getElem.2 ⟨x, by rw [List.length_take]; omega, by rw [List.getElem_take]⟩
  rcases Nat.lt_trichotomy a b with h1 | h1 | h1
  · exact absurd e (key a b h1 hb)
  · exact h1
  · exact absurd e.symm (key b a h1 ha)
/-- THE NETWORK OF KEPT PORTS IS A NETWORK -/
theorem part_good (hg : N.good = true) (hz : PickOk N zs) (hK : KeepOk N zs kp) (h1 : 1 ≤ zs.length) (h40 : zs.length ≤ 40) : (partN N zs kp).good = true := by
  have hhead : (partN N zs kp).headOk = true := by
    have hgh := hg
    unfold NetD.good NetD.headOk at hgh
    simp only [Bool.and_eq_true] at hgh
    obtain ⟨⟨_, hids, hins⟩, _⟩ := hgh
    unfold NetD.headOk
    rw [part_n]
    simp only [Bool.and_eq_true]
    refine ⟨by unfold inB; simp; omega, ?_, ?_⟩
    · show idsGood (if 0 < N.ids.length then pickL N.ids zs else []) _ = true
      split
      · rename_i h0
        have hidl : N.ids.length = N.ends.length := by rcases good_idsl hg with h | h <;> omega
        rw [idsGood_ok]
        · rw [pickL_len]; simp
        · intro k hk
          rw [pickL_len] at hk
          obtain ⟨t, et, ht⟩ := hz.node k hk
          unfold idAt
          rw [nth_pickL hk, et, Int.toNat_natCast, Bool.and_eq_true]
          have hat : idAt N.ids t = true := by
            unfold idsGood at hids
            rw [Bool.and_eq_true] at hids
            exact rangeAll_at hids.1 (by omega)
          unfold idAt at hat
          rw [Bool.and_eq_true] at hat
          refine ⟨hat.1, ?_⟩
          rw [Bool.not_eq_true', decide_eq_false_iff_not]
          intro hm
          obtain ⟨a, ha, e⟩ := List.mem_iff_getElem.1 hm
          rw [List.length_take, pickL_len] at ha
          rw [List.getElem_take, ← nth_eq (by rw [pickL_len]; omega), nth_pickL (by omega)] at e
          obtain ⟨s, es, hs⟩ := hz.node a (by omega)
          rw [es, Int.toNat_natCast] at e
          have := ids_inj hids (by omega) (by omega) e
          have := hz.once a k (by omega) hk (by rw [es, et, this])
          omega
      · rw [idsGood_ok (fun j hj => absurd hj (by simp))]; simp
    · show insGood (pickL N.inputs zs) _ = true
      unfold insGood at hins ⊢
      rw [pickL_len]
      simp only [Bool.and_eq_true, decide_eq_true_eq, List.all_eq_true] at hins ⊢
      refine ⟨trivial, fun x hx => ?_⟩
      unfold pickL at hx
      obtain ⟨z, hzm, rfl⟩ := List.mem_map.1 hx
      obtain ⟨a, ha, e⟩ := List.mem_iff_getElem.1 hzm
      obtain ⟨t, et, ht⟩ := hz.node a ha
      rw [nth_eq ha, e] at et
      rw [et, Int.toNat_natCast]
      exact hins.2 _ (nth_mem (by have := good_insl hg; omega))
  refine good_yes hhead fun k hk => ?_
  rw [part_n] at hk
  obtain ⟨v, hv, hvn⟩ := hz.node k hk
  have hd6 := good_deg hg hvn
  have hle := cntK_le kp v (nthL N.ends v).length
  refine row_yes (by rw [part_deg hk hv]; omega) fun c hc => ?_
  rw [part_deg hk hv] at hc
  obtain ⟨i, hi, hkp, rfl⟩ := cntK_port kp v _ c hc
  obtain ⟨w, j, he, hw, hj, hback⟩ := good_end hg hvn hi
  obtain ⟨hkw, q, hq, hqw⟩ := hK.pair k v i w j hk hv hi hkp he
  unfold NetD.endOk NetD.port
  rw [part_end hz hK hg hk hv hi hkp he hq hqw]
  have hb := part_end hz hK hg hq hqw hj hkw hback hk hv
  have hlt := cntK_lt kp w hj hkw
  simp only [Int.toNat_natCast, Bool.and_eq_true, decide_eq_true_eq]
  rw [part_n, part_deg hq hqw]
  refine ⟨⟨?_, ?_⟩, hb⟩
  · unfold inB; simp; omega
  · unfold inB; simp; omega
end
end Go.Proofs.Ytmfjdiccohgihaa

/- Plain: edges that join parts one after another join each time two parts exactly if their count is that of the nodes less the components. No condition on any program. -/
namespace Go.Proofs.Ytmfjdiccohgihaa
set_option linter.unusedVariables false

def mg (P : Nat → Nat) (v w : Nat) : Nat → Nat := fun u => if P u = P w then P v else P u
def mgs : (Nat → Nat) → List (Nat × Nat) → Nat → Nat
  | P, [] => P
  | P, (v, w) :: L => mgs (mg P v w) L
def okM : (Nat → Nat) → List (Nat × Nat) → Bool
  | P, [] => true
  | P, (v, w) :: L => !decide (P v = P w) && okM (mg P v w) L
def fixN (P : Nat → Nat) (n : Nat) : Nat := ((List.range n).filter fun u => decide (P u = u)).length
structure Rep (P : Nat → Nat) (n : Nat) : Prop where
  idem : ∀ u, u < n → P (P u) = P u
  lt : ∀ u, u < n → P u < n
theorem mg_same {P : Nat → Nat} {v w : Nat} (h : P v = P w) : mg P v w = P := funext fun u => by
  unfold mg; split
  · rename_i e; rw [h, e]
  · rfl
theorem Rep.mg {P : Nat → Nat} {n v w : Nat} (h : Rep P n) (hv : v < n) (hw : w < n) : Rep (mg P v w) n := by
  refine ⟨fun u hu => ?_, fun u hu => ?_⟩
  · unfold Go.Proofs.Ytmfjdiccohgihaa.mg
    by_cases e : P u = P w
    · rw [if_pos e]
      have := h.idem v hv
      split
      · rfl
      · exact this
    · rw [if_neg e, h.idem u hu, if_neg e]
  · unfold Go.Proofs.Ytmfjdiccohgihaa.mg
    split
    · exact h.lt v hv
    · exact h.lt u hu
theorem filter_drop (p q : Nat → Bool) (y : Nat) (hp : p y = true) (hq : q y = false) (he : ∀ u, u ≠ y → q u = p u) : ∀ n, ((List.range n).filter q).length + (if y < n then 1 else 0) = ((List.range n).filter p).length
  | 0 => by simp
  | n + 1 => by
    have ih := filter_drop p q y hp hq he n
    rw [List.range_succ, List.filter_append, List.filter_append, List.length_append, List.length_append]
    by_cases e : n = y
    · subst e
      rw [if_neg (by omega)] at ih
      rw [if_pos (by omega)]
      simp [hp, hq]; omega
    · have h1 := he n e
      have h2 : (List.filter q [n]).length = (List.filter p [n]).length := by simp only [List.filter_cons, List.filter_nil, h1]
      rw [h2]
      have h3 : (if y < n + 1 then 1 else 0) = (if y < n then 1 else 0) := by split <;> split <;> omega
      rw [h3]; omega
theorem fix_drop {P : Nat → Nat} {n v w : Nat} (h : Rep P n) (hv : v < n) (hw : w < n) (hne : P v ≠ P w) : fixN (mg P v w) n + 1 = fixN P n := by
  unfold fixN
  -- outside the nodes the two differ perhaps: only nodes count
  have hf : ((List.range n).filter fun u => decide (mg P v w u = u)) = ((List.range n).filter fun u => decide (P u = u) && !decide (u = P w)) := by
    apply List.filter_congr
    intro u hu
    have hun := List.mem_range.1 hu
    rw [Bool.eq_iff_iff]
    simp only [Bool.and_eq_true, Bool.not_eq_true', decide_eq_true_eq, decide_eq_false_iff_not]
    unfold mg
    by_cases e : P u = P w
    · rw [if_pos e]
      constructor
      · intro e2
        have h1 := h.idem v hv
        rw [e2] at h1
        exact absurd (h1.symm.trans e |> fun h3 => by rw [← e2] at h3; exact h3) hne
      · rintro ⟨h1, h2⟩; exact absurd (h1.symm.trans e) h2
    · rw [if_neg e]
      constructor
      · intro e2
        refine ⟨e2, fun e3 => e ?_⟩
        rw [e3, h.idem w hw]
      · exact fun h => h.1
  rw [hf]
  have := filter_drop (fun u => decide (P u = u)) (fun u => decide (P u = u) && !decide (u = P w)) (P w) (by simp [h.idem w hw]) (by simp) (fun u hu => by simp [hu]) n
  rw [if_pos (h.lt w hw)] at this
  exact this
theorem ok_count : ∀ (L : List (Nat × Nat)) (P : Nat → Nat) {n : Nat}, Rep P n → (∀ e ∈ L, e.1 < n ∧ e.2 < n) → fixN P n ≤ fixN (mgs P L) n + L.length ∧ okM P L = decide (fixN (mgs P L) n + L.length = fixN P n)
  | [], P, n, _, _ => ⟨Nat.le_refl _, by simp [okM, mgs]⟩
  | (v, w) :: L, P, n, h, hL => by
    obtain ⟨hv, hw⟩ := hL (v, w) (by simp)
    obtain ⟨h1, h2⟩ := ok_count L (mg P v w) (h.mg hv hw) (fun e he => hL e (List.mem_cons_of_mem _ he))
    show fixN P n ≤ fixN (mgs (mg P v w) L) n + (L.length + 1) ∧ (!decide (P v = P w) && okM (mg P v w) L) = decide (fixN (mgs (mg P v w) L) n + (L.length + 1) = fixN P n)
    by_cases e : P v = P w
    · rw [mg_same e] at h1 h2 ⊢
      refine ⟨by omega, ?_⟩
      rw [decide_eq_true e, decide_eq_false (by omega)]; rfl
    · have h3 : fixN (mg P v w) n + 1 = fixN P n := fix_drop h hv hw e
      refine ⟨by omega, ?_⟩
      rw [decide_eq_false e, h2, Bool.not_false, Bool.true_and]
      congr 1
      apply propext
      omega
theorem mgs_keep : ∀ (L : List (Nat × Nat)) (P : Nat → Nat) {u t : Nat}, P u = P t → mgs P L u = mgs P L t
  | [], P, u, t, h => h
  | (v, w) :: L, P, u, t, h => mgs_keep L (mg P v w) (by unfold mg; rw [h])
theorem mgs_join : ∀ (L : List (Nat × Nat)) (P : Nat → Nat) {v w : Nat}, (v, w) ∈ L → mgs P L v = mgs P L w
  | (a, b) :: L, P, v, w, h => by
    rcases List.mem_cons.1 h with h | h
    · simp only [Prod.mk.injEq] at h
      obtain ⟨rfl, rfl⟩ := h
      refine mgs_keep L _ ?_
      unfold mg
      rw [if_pos (rfl : P w = P w)]
      split
      · rfl
      · rfl
    · exact mgs_join L _ h
theorem mgs_in {R : Nat → Nat → Prop} {n : Nat} (hs : ∀ {a b}, a < n → b < n → R a b → R b a) (ht : ∀ {a b c}, a < n → b < n → c < n → R a b → R b c → R a c) : ∀ (L : List (Nat × Nat)) (P : Nat → Nat), Rep P n → (∀ e ∈ L, e.1 < n ∧ e.2 < n ∧ R e.1 e.2) → (∀ u, u < n → R u (P u)) → ∀ u, u < n → R u (mgs P L u)
  | [], P, _, _, h, u, hu => h u hu
  | (v, w) :: L, P, hp, hL, h, u, hu => by
    obtain ⟨hv, hw, hr⟩ := hL (v, w) (by simp)
    refine mgs_in hs ht L (mg P v w) (hp.mg hv hw) (fun e he => hL e (List.mem_cons_of_mem _ he)) (fun x hx => ?_) u hu
    unfold mg
    split
    · rename_i e
      have h1 := h x hx
      rw [e] at h1
      have h2 : R x w := ht hx (hp.lt w hw) hw h1 (hs hw (hp.lt w hw) (h w hw))
      exact ht hx hv (hp.lt v hv) (ht hx hw hv h2 (hs hv hw hr)) (h v hv)
    · exact h x hx
theorem mgs_rep : ∀ (L : List (Nat × Nat)) (P : Nat → Nat) {n : Nat}, Rep P n → (∀ e ∈ L, e.1 < n ∧ e.2 < n) → Rep (mgs P L) n
  | [], P, n, h, _ => h
  | (v, w) :: L, P, n, h, hL => mgs_rep L _ (h.mg (hL (v, w) (by simp)).1 (hL (v, w) (by simp)).2) fun e he => hL e (List.mem_cons_of_mem _ he)
theorem nodup_sub_len : ∀ {a b : List Nat}, a.Nodup → (∀ x ∈ a, x ∈ b) → a.length ≤ b.length
  | [], b, _, _ => Nat.zero_le _
  | x :: a, b, h, hs => by
    rw [List.nodup_cons] at h
    have h1 := nodup_sub_len (a := a) (b := b.erase x) h.2 (fun y hy => (List.mem_erase_of_ne (fun e => h.1 (by rw [← e]; exact hy))).2 (hs y (List.mem_cons_of_mem _ hy)))
    have h2 := List.length_erase_of_mem (hs x (by simp))
    have h3 := List.length_pos_of_mem (hs x (by simp))
    simp only [List.length_cons]; omega
theorem fix_le {P Q : Nat → Nat} {n : Nat} (hP : Rep P n) (hQ : Rep Q n) (h : ∀ u t, u < n → t < n → P u = P t → Q u = Q t) : fixN Q n ≤ fixN P n := by
  unfold fixN
  have hl : (((List.range n).filter fun u => decide (Q u = u)).map P).length = ((List.range n).filter fun u => decide (Q u = u)).length := by simp
  rw [← hl]
  refine nodup_sub_len ?_ fun x hx => ?_
  · unfold List.Nodup
    rw [List.pairwise_map]
    have hnd : ((List.range n).filter fun u => decide (Q u = u)).Pairwise (· ≠ ·) := List.Pairwise.filter _ List.nodup_range
    refine hnd.imp_of_mem fun {a b} ha hb hab => ?_
    simp only [List.mem_filter, List.mem_range, decide_eq_true_eq] at ha hb
    intro e
    have := h a b ha.1 hb.1 e
    rw [ha.2, hb.2] at this
    exact hab this
  · simp only [List.mem_map, List.mem_filter, List.mem_range, decide_eq_true_eq] at hx ⊢
    obtain ⟨a, ⟨ha, _⟩, rfl⟩ := hx
    exact ⟨hP.lt a ha, hP.idem a ha⟩

def pq (q : Quad) : Nat × Nat := (q.v.toNat, q.w.toNat)
def rootsN (M : NetD) : Nat := fixN (comp M) M.ends.length
def forestB (M : NetD) : Bool := !(edges M).any stubB && decide (((edges M).length : Int) = (M.ends.length : Int) - rootsN M)
theorem comp_rep {M : NetD} (hg : M.good = true) : Rep (comp M) M.ends.length := by
  refine ⟨fun u hu => ?_, fun u hu => (comp_spec hg hu).1⟩
  obtain ⟨h1, h2, _⟩ := comp_spec hg hu
  exact ((comp_reach hg hu h1).1 h2).symm
theorem id_rep (n : Nat) : Rep (fun u => u) n := ⟨fun _ _ => rfl, fun _ h => h⟩
theorem pairs_lt {M : NetD} (hg : M.good = true) : ∀ e ∈ (edges M).map pq, e.1 < M.ends.length ∧ e.2 < M.ends.length := fun e he => by
  obtain ⟨q, hq, rfl⟩ := List.mem_map.1 he
  obtain ⟨v, i, t, r, rfl, h1, _, h2, _⟩ := edge_nat hg hq
  simp only [pq, Int.toNat_natCast]
  exact ⟨h1, h2⟩
theorem reach_adj {M : NetD} (hg : M.good = true) {s t i : Nat} (hs : s < M.ends.length) (ht : t < M.ends.length) (hi : i < (nthL M.ends s).length) (he : (nthE (nthL M.ends s) i).1 = (t : Int)) : Reach M s t :=
  (dist_le (good_nodes hg) hs (k := 1) (t := t) ⟨s, rfl, hs, ht, i, hi, he⟩).1
theorem joined_adj {M : NetD} (hg : M.good = true) (P : Nat → Nat) {s t : Nat} (h : Adj M s t) : mgs P ((edges M).map pq) s = mgs P ((edges M).map pq) t := by
  obtain ⟨hs, ht, i, hi, he⟩ := h
  obtain ⟨t', r, e, _, hr, e3⟩ := good_end hg hs hi
  have htt : t' = t := by rw [e] at he; simp only at he; omega
  subst htt
  by_cases hf : firstB M s i = true
  · refine mgs_join _ _ (List.mem_map.2 ⟨quadAt M s i, mem_edges.2 ⟨s, i, hs, hi, hf, rfl⟩, ?_⟩)
    unfold quadAt pq; rw [e]; simp
  · have hf2 : firstB M t' r = true := by
      unfold firstB at hf ⊢
      rw [e] at hf; rw [e3]
      simp at hf ⊢
      omega
    refine (mgs_join _ _ (List.mem_map.2 ⟨quadAt M t' r, mem_edges.2 ⟨t', r, ht, hr, hf2, rfl⟩, ?_⟩)).symm
    unfold quadAt pq; rw [e3]; simp
theorem joined_way {M : NetD} (hg : M.good = true) (P : Nat → Nat) : ∀ {k s t : Nat}, way M k s t → mgs P ((edges M).map pq) s = mgs P ((edges M).map pq) t
  | 0, s, t, h => by rw [show s = t from h]
  | k + 1, s, t, ⟨r, h1, h2⟩ => (joined_way hg P h1).trans (joined_adj hg P h2)
/-- A FOREST: each edge joins two parts -/
theorem forest_ok {M : NetD} (hg : M.good = true) (hs : (edges M).any stubB = false) : forestB M = okM (fun u => u) ((edges M).map pq) := by
  obtain ⟨h1, h2⟩ := ok_count ((edges M).map pq) (fun u => u) (id_rep M.ends.length) (pairs_lt hg)
  have hrep := mgs_rep ((edges M).map pq) (fun u => u) (id_rep M.ends.length) (pairs_lt hg)
  have hfid : fixN (fun u => u) M.ends.length = M.ends.length := by unfold fixN; rw [List.filter_eq_self.2 (by simp), List.length_range]
  have hin := mgs_in (R := Reach M) (n := M.ends.length) (fun ha hb h => Reach.symm hg ha hb h) (fun ha hb hc h k => Reach.trans hg ha hb hc h k) ((edges M).map pq) (fun u => u) (id_rep _) (fun e he => by
    obtain ⟨a, b⟩ := pairs_lt hg e he
    refine ⟨a, b, ?_⟩
    obtain ⟨q, hq, rfl⟩ := List.mem_map.1 he
    obtain ⟨v, i, t, r, rfl, k1, k2, k3, k4, k5, _⟩ := edge_nat hg hq
    simp only [pq, Int.toNat_natCast]
    exact reach_adj hg k1 k3 k2 (by rw [k5])) (fun u hu => Reach.self hg hu)
  have hc := comp_rep hg
  have hk1 : ∀ u t, u < M.ends.length → t < M.ends.length → comp M u = comp M t → mgs (fun u => u) ((edges M).map pq) u = mgs (fun u => u) ((edges M).map pq) t := fun u t hu ht e =>
    joined_way hg _ (dist_way (good_nodes hg) hu ht ((comp_reach hg hu ht).2 e))
  have hk2 : ∀ u t, u < M.ends.length → t < M.ends.length → mgs (fun u => u) ((edges M).map pq) u = mgs (fun u => u) ((edges M).map pq) t → comp M u = comp M t := fun u t hu ht e => by
    refine (comp_reach hg hu ht).1 ?_
    have a1 := hin u hu
    have a2 := hin t ht
    rw [← e] at a2
    exact Reach.trans hg hu (hrep.lt u hu) ht a1 (Reach.symm hg ht (hrep.lt u hu) a2)
  have hfix : rootsN M = fixN (mgs (fun u => u) ((edges M).map pq)) M.ends.length := Nat.le_antisymm (fix_le hrep hc hk2) (fix_le hc hrep hk1)
  rw [h2, hfid, ← hfix, List.length_map]
  unfold forestB
  rw [hs, Bool.not_false, Bool.true_and]
  rw [hfid, ← hfix, List.length_map] at h1
  congr 1
  apply propext
  omega

end Go.Proofs.Ytmfjdiccohgihaa

/- Plain: labels of edges by forests: the program's look and the reference's are one. No condition on any program. -/
namespace Go.Proofs.Ytmfjdiccohgihaa
set_option linter.unusedVariables false

def colF (f : List (List Int)) (v i : Nat) : Int := nth (nthL f v) i
def kpF (f : List (List Int)) (c : Nat) (v i : Nat) : Bool := decide (colF f v i = (c : Int))
def symAt (N : NetD) (f : List (List Int)) (v i : Nat) : Bool := decide (colF f v i = colF f (nthE (nthL N.ends v) i).1.toNat (nthE (nthL N.ends v) i).2.toNat)
def colQ (f : List (List Int)) (q : Quad) : Int := colF f q.v.toNat q.i.toNat
def symQ (f : List (List Int)) (q : Quad) : Bool := decide (colQ f q = colF f q.w.toNat q.j.toNat)
def symAll (N : NetD) (f : List (List Int)) : Bool := (List.range N.ends.length).all fun v => (List.range (nthL N.ends v).length).all fun i => symAt N f v i
theorem symQ_at {N : NetD} (f : List (List Int)) (v i : Nat) : symQ f (quadAt N v i) = symAt N f v i := rfl
theorem symAll_eq {N : NetD} (hg : N.good = true) (f : List (List Int)) : symAll N f = (edges N).all (symQ f) := by
  rw [Bool.eq_iff_iff, List.all_eq_true]
  constructor
  · intro h q hq
    obtain ⟨v, i, h1, h2, _, rfl⟩ := mem_edges.1 hq
    rw [symQ_at]
    exact rangeAll_at (rangeAll_at h h1) h2
  · intro h
    refine rangeAll_true fun v hv => rangeAll_true fun i hi => ?_
    obtain ⟨t, r, e, ht, hr, e3⟩ := good_end hg hv hi
    by_cases hf : firstB N v i = true
    · rw [← symQ_at]; exact h _ (mem_edges.2 ⟨v, i, hv, hi, hf, rfl⟩)
    · have hf2 : firstB N t r = true := by
        unfold firstB at hf ⊢
        rw [e] at hf; rw [e3]
        simp at hf ⊢
        omega
      have := h _ (mem_edges.2 ⟨t, r, ht, hr, hf2, rfl⟩)
      rw [symQ_at] at this
      unfold symAt at this ⊢
      rw [e3] at this
      rw [e]
      simp only [Int.toNat_natCast, decide_eq_true_eq] at this ⊢
      exact this.symm
def partF (N : NetD) (f : List (List Int)) (c : Nat) : NetD := partN N (upTo N.ends.length) (kpF f c)
theorem upTo_pick (N : NetD) : PickOk N (upTo N.ends.length) := by
  refine ⟨fun k hk => ?_, fun a b ha hb e => ?_⟩
  · rw [upTo_length] at hk; exact ⟨k, nth_upTo hk, hk⟩
  · rw [upTo_length] at ha hb
    rw [nth_upTo ha, nth_upTo hb] at e; omega
section
variable {N : NetD} {f : List (List Int)} {c : Nat}
theorem kpF_pair (hg : N.good = true) (hs : symAll N f = true) {v i w j : Nat} (hv : v < N.ends.length) (hi : i < (nthL N.ends v).length) (he : nthE (nthL N.ends v) i = ((w : Int), (j : Int))) : kpF f c v i = kpF f c w j := by
  have := rangeAll_at (rangeAll_at hs hv) hi
  unfold symAt at this
  rw [he] at this
  simp only [Int.toNat_natCast, decide_eq_true_eq] at this
  unfold kpF; rw [this]
theorem kpF_keep (hg : N.good = true) (hs : symAll N f = true) : KeepOk N (upTo N.ends.length) (kpF f c) := by
  refine ⟨fun k v i w j hk hv hi hkp he => ?_⟩
  rw [upTo_length] at hk
  rw [nth_upTo hk] at hv
  have hkv : k = v := by omega
  subst hkv
  refine ⟨by rw [← kpF_pair hg hs hk hi he]; exact hkp, w, ?_, ?_⟩
  · obtain ⟨t, r, e, ht, _⟩ := good_end hg hk hi
    rw [he] at e; simp only [Prod.mk.injEq] at e
    rw [upTo_length]; omega
  · obtain ⟨t, r, e, ht, _⟩ := good_end hg hk hi
    rw [he] at e; simp only [Prod.mk.injEq] at e
    exact nth_upTo (by omega)
theorem partF_n : (partF N f c).ends.length = N.ends.length := by unfold partF; rw [part_n, upTo_length]
theorem partF_good (hg : N.good = true) (hs : symAll N f = true) : (partF N f c).good = true := by
  obtain ⟨n1, n40⟩ := good_n hg
  exact part_good hg (upTo_pick N) (kpF_keep hg hs) (by rw [upTo_length]; exact n1) (by rw [upTo_length]; exact n40)
theorem partF_deg {v : Nat} (hv : v < N.ends.length) : (nthL (partF N f c).ends v).length = cntK (kpF f c) v (nthL N.ends v).length := part_deg (by rw [upTo_length]; exact hv) (nth_upTo hv)
theorem partF_end (hg : N.good = true) (hs : symAll N f = true) {v i w j : Nat} (hv : v < N.ends.length) (hi : i < (nthL N.ends v).length) (hk : kpF f c v i = true) (he : nthE (nthL N.ends v) i = ((w : Int), (j : Int))) (hw : w < N.ends.length) :
    nthE (nthL (partF N f c).ends v) (cntK (kpF f c) v i) = ((w : Int), (cntK (kpF f c) w j : Int)) :=
  part_end (upTo_pick N) (kpF_keep hg hs) hg (by rw [upTo_length]; exact hv) (nth_upTo hv) hi hk he (by rw [upTo_length]; exact hw) (nth_upTo hw)
/-- the order of the ports of an edge stays -/
theorem cnt_le_iff {kp : Nat → Nat → Bool} {v i j : Nat} (hi : kp v i = true) (hj : kp v j = true) : cntK kp v i ≤ cntK kp v j ↔ i ≤ j := by
  constructor
  · intro h
    rcases Nat.lt_or_ge j i with h2 | h2
    · have := cntK_lt kp v h2 hj; omega
    · exact h2
  · exact cntK_mono kp v
theorem rowE_part (hg : N.good = true) (hs : symAll N f = true) {v : Nat} (hv : v < N.ends.length) : ∀ m, m ≤ (nthL N.ends v).length → (rowE (partF N f c) v (cntK (kpF f c) v m)).map pq = ((rowE N v m).filter fun q => decide (colQ f q = (c : Int))).map pq
  | 0, _ => rfl
  | m + 1, hm => by
    have ih := rowE_part hg hs hv m (by omega)
    have hcs := cntK_succ (kpF f c) v m
    obtain ⟨w, j, he, hw, hj, hback⟩ := good_end hg hv (i := m) (by omega)
    have hcq : decide (colQ f (quadAt N v m) = (c : Int)) = kpF f c v m := rfl
    cases hk : kpF f c v m with
    | false =>
      rw [hk] at hcs
      rw [show cntK (kpF f c) v (m + 1) = cntK (kpF f c) v m by rw [hcs]; rfl, ih]
      cases hf : firstB N v m with
      | true => rw [rowE_yes hf, List.filter_append]; simp [hcq, hk]
      | false => rw [rowE_no hf]
    | true =>
      rw [hk, if_pos rfl] at hcs
      have hend := partF_end (c := c) hg hs hv (i := m) (by omega) hk he hw
      have hkw : kpF f c w j = true := by rw [← kpF_pair hg hs hv (by omega) he]; exact hk
      have hfe : firstB (partF N f c) v (cntK (kpF f c) v m) = firstB N v m := by
        unfold firstB
        rw [hend, he]
        rw [Bool.eq_iff_iff]
        simp only [Bool.or_eq_true, Bool.and_eq_true, decide_eq_true_eq]
        have h2 : (v : Int) = (w : Int) → (((cntK (kpF f c) v m : Nat) : Int) ≤ ((cntK (kpF f c) w j : Nat) : Int) ↔ (m : Int) ≤ (j : Int)) := fun e => by
          have hvw : v = w := by omega
          subst hvw
          have := cnt_le_iff (kp := kpF f c) hk hkw
          omega
        constructor
        · rintro (h | ⟨h, h3⟩)
          · exact .inl h
          · exact .inr ⟨h, (h2 h).1 h3⟩
        · rintro (h | ⟨h, h3⟩)
          · exact .inl h
          · exact .inr ⟨h, (h2 h).2 h3⟩
      rw [hcs]
      cases hf : firstB N v m with
      | true =>
        rw [rowE_yes hf, rowE_yes (by rw [hfe]; exact hf), List.filter_append, List.map_append, List.map_append, ih]
        simp only [List.filter_cons, List.filter_nil, hcq, hk, if_true]
        congr 1
        unfold quadAt pq
        rw [hend, he]
        simp
      | false => rw [rowE_no hf, rowE_no (by rw [hfe]; exact hf), ih]
theorem edgesE_part (hg : N.good = true) (hs : symAll N f = true) : ∀ k, k ≤ N.ends.length → (edgesE (partF N f c) k).map pq = ((edgesE N k).filter fun q => decide (colQ f q = (c : Int))).map pq
  | 0, _ => rfl
  | k + 1, hk => by
    rw [edgesE_succ, edgesE_succ, List.map_append, List.filter_append, List.map_append, edgesE_part hg hs k (by omega), partF_deg (by omega), rowE_part hg hs (by omega) _ (Nat.le_refl _)]
theorem edges_part (hg : N.good = true) (hs : symAll N f = true) : (edges (partF N f c)).map pq = ((edges N).filter fun q => decide (colQ f q = (c : Int))).map pq := by
  unfold edges; rw [partF_n]; exact edgesE_part hg hs _ (Nat.le_refl _)
theorem part_noStub (hg : N.good = true) (hn : noStub N = true) (hs : symAll N f = true) : (edges (partF N f c)).any stubB = false := by
  have h : noStub (partF N f c) = true := by
    refine rangeAll_true fun v hv => rangeAll_true fun d hd => ?_
    rw [partF_n] at hv
    rw [partF_deg hv] at hd
    obtain ⟨i, hi, hk, rfl⟩ := cntK_port (kpF f c) v _ d hd
    obtain ⟨w, j, he, hw, hj, _⟩ := good_end hg hv hi
    rw [Bool.not_eq_true', Bool.eq_false_iff]
    unfold selfB
    rw [partF_end (c := c) hg hs hv hi hk he hw]
    intro h
    simp only [decide_eq_true_eq, Prod.mk.injEq] at h
    have hvw : w = v := by omega
    subst hvw
    have hkw : kpF f c w j = true := by rw [← kpF_pair hg hs hv hi he]; exact hk
    have hij := cntK_inj (v := w) hkw hk (by omega)
    subst hij
    have := rangeAll_at (rangeAll_at hn hv) hi
    rw [Bool.not_eq_true'] at this
    unfold selfB at this
    rw [he] at this
    simp at this
  rw [noStub_eq] at h
  simpa using h
end

/-! the reference's look -/
def relab (p : List Int) (x y : Int) : List Int := p.map fun z => if z = y then x else z
def stE (f : List (List Int)) (k : Nat) : Option (List Int) → Quad → Option (List Int)
  | none, _ => none
  | some p, q => if symQ f q = true then (if colQ f q = (k : Int) then (if nth p q.v.toNat = nth p q.w.toNat then none else some (relab p (nth p q.v.toNat) (nth p q.w.toNat))) else some p) else none
def passF (N : NetD) (f : List (List Int)) (k : Nat) (qs : List Quad) : Option (List Int) := qs.foldl (stE f k) (some (upTo N.ends.length))
def passB (N : NetD) (f : List (List Int)) (k : Nat) : Bool := (passF N f k (edges N)).isSome
def lstP (P : Nat → Nat) (n : Nat) : List Int := (List.range n).map fun u => ((P u : Nat) : Int)
theorem lstP_nth {P : Nat → Nat} {n u : Nat} (h : u < n) : nth (lstP P n) u = (P u : Int) := by simp [nth, lstP, h]
theorem relab_lst (P : Nat → Nat) (n v w : Nat) : relab (lstP P n) (P v) (P w) = lstP (mg P v w) n := by
  unfold relab lstP
  rw [List.map_map]
  apply List.map_congr_left
  intro u _
  show (if ((P u : Nat) : Int) = ((P w : Nat) : Int) then ((P v : Nat) : Int) else ((P u : Nat) : Int)) = ((mg P v w u : Nat) : Int)
  unfold mg
  by_cases e : P u = P w
  · rw [if_pos e, if_pos (by rw [e])]
  · rw [if_neg e, if_neg (by omega)]
theorem foldl_none (f : List (List Int)) (k : Nat) : ∀ qs : List Quad, qs.foldl (stE f k) none = none
  | [] => rfl
  | q :: qs => foldl_none f k qs
theorem pass_ok {n : Nat} (f : List (List Int)) (k : Nat) : ∀ (qs : List Quad) (P : Nat → Nat), (∀ q ∈ qs, symQ f q = true ∧ q.v.toNat < n ∧ q.w.toNat < n) → (qs.foldl (stE f k) (some (lstP P n))).isSome = okM P ((qs.filter fun q => decide (colQ f q = (k : Int))).map pq)
  | [], P, _ => rfl
  | q :: qs, P, h => by
    obtain ⟨h1, h2, h3⟩ := h q (by simp)
    have h' := fun x hx => h x (List.mem_cons_of_mem q hx)
    rw [List.foldl_cons]
    by_cases hc : colQ f q = (k : Int)
    · have hf : List.filter (fun q => decide (colQ f q = (k : Int))) (q :: qs) = q :: List.filter (fun q => decide (colQ f q = (k : Int))) qs := by simp [hc]
      rw [hf, List.map_cons]
      show _ = (!decide (P q.v.toNat = P q.w.toNat) && okM (mg P q.v.toNat q.w.toNat) _)
      simp only [stE]
      rw [if_pos h1, if_pos hc, lstP_nth h2, lstP_nth h3]
      by_cases e : P q.v.toNat = P q.w.toNat
      · rw [if_pos (by rw [e]), foldl_none, decide_eq_true e]; rfl
      · rw [if_neg (by omega), relab_lst, pass_ok f k qs _ h', decide_eq_false e]; rfl
    · have hf : List.filter (fun q => decide (colQ f q = (k : Int))) (q :: qs) = List.filter (fun q => decide (colQ f q = (k : Int))) qs := by simp [hc]
      rw [hf]
      simp only [stE]
      rw [if_pos h1, if_neg hc]
      exact pass_ok f k qs P h'
theorem pass_bad (f : List (List Int)) (k : Nat) : ∀ (qs : List Quad) (s : Option (List Int)), (∃ q ∈ qs, symQ f q = false) → qs.foldl (stE f k) s = none
  | [], s, ⟨q, hq, _⟩ => by cases hq
  | q :: qs, s, ⟨q', hq, hs⟩ => by
    rw [List.foldl_cons]
    rcases List.mem_cons.1 hq with rfl | hq
    · have : stE f k s q' = none := by
        cases s with
        | none => rfl
        | some p => simp [stE, hs]
      rw [this]; exact foldl_none f k qs
    · exact pass_bad f k qs _ ⟨q', hq, hs⟩
def flB (N : NetD) (f : List (List Int)) (a : Nat) : Bool := portsB N f && ((List.range N.ends.length).all (fun v => (List.range (nthL N.ends v).length).all fun i => inB (colF f v i) 0 ((a : Int) - 1) && symAt N f v i) && (List.range a).all fun c => forestB (partF N f c))
def flS (N : NetD) (f : List (List Int)) (a : Nat) : Bool := portsIn N f 0 ((a : Int) - 1) && (List.range a).all (passB N f)
theorem passB_sym {N : NetD} (hg : N.good = true) (hn : noStub N = true) {f : List (List Int)} (hs : symAll N f = true) (k : Nat) : passB N f k = forestB (partF N f k) := by
  rw [forest_ok (partF_good hg hs) (part_noStub hg hn hs), edges_part hg hs]
  unfold passB passF
  have e : upTo N.ends.length = lstP (fun u => u) N.ends.length := rfl
  rw [e]
  refine pass_ok f k _ _ fun q hq => ?_
  have h1 := symAll_eq hg f
  rw [hs] at h1
  refine ⟨List.all_eq_true.1 h1.symm q hq, ?_⟩
  obtain ⟨v, i, t, r, rfl, k1, _, k3, _⟩ := edge_nat hg hq
  simp only [Int.toNat_natCast]
  exact ⟨k1, k3⟩
/-- THE TWO LOOKS ARE ONE -/
theorem fl_eq {N : NetD} (hg : N.good = true) (hn : noStub N = true) (f : List (List Int)) {a : Nat} (ha : 1 ≤ a) : flB N f a = flS N f a := by
  unfold flB flS
  rw [portsIn_eq]
  cases hp : portsB N f with
  | false => rfl
  | true =>
    simp only [Bool.true_and]
    have hp2 := hp
    unfold portsB at hp2
    rw [Bool.and_eq_true, decide_eq_true_eq] at hp2
    obtain ⟨hl, hrow⟩ := hp2
    have hrl : ∀ v, v < N.ends.length → (nthL f v).length = (nthL N.ends v).length := fun v hv => by simpa using rangeAll_at hrow (by omega : v < f.length)
    have hsplit : ((List.range N.ends.length).all fun v => (List.range (nthL N.ends v).length).all fun i => inB (colF f v i) 0 ((a : Int) - 1) && symAt N f v i) = (rowsIn f 0 ((a : Int) - 1) && symAll N f) := by
      rw [Bool.eq_iff_iff, Bool.and_eq_true]
      constructor
      · intro h
        refine ⟨?_, rangeAll_true fun v hv => rangeAll_true fun i hi => ?_⟩
        · unfold rowsIn
          refine rangeAll_true fun v hv => ?_
          unfold rowIn
          rw [List.all_eq_true]
          intro x hx
          obtain ⟨i, hi, rfl⟩ := List.mem_iff_getElem.1 hx
          have hvn : v < N.ends.length := by omega
          have := rangeAll_at (rangeAll_at h hvn) (by rw [← hrl v hvn]; exact hi : i < (nthL N.ends v).length)
          rw [Bool.and_eq_true] at this
          have h1 := this.1
          unfold colF at h1
          rw [nth_eq hi] at h1
          exact h1
        · have := rangeAll_at (rangeAll_at h hv) hi
          rw [Bool.and_eq_true] at this
          exact this.2
      · rintro ⟨h1, h2⟩
        refine rangeAll_true fun v hv => rangeAll_true fun i hi => ?_
        rw [Bool.and_eq_true]
        refine ⟨?_, rangeAll_at (rangeAll_at h2 hv) hi⟩
        have h3 := rangeAll_at h1 (by omega : v < f.length)
        unfold rowIn at h3
        exact List.all_eq_true.1 h3 _ (nth_mem (by rw [hrl v hv]; exact hi))
    rw [hsplit]
    cases hr : rowsIn f 0 ((a : Int) - 1) with
    | false => rfl
    | true =>
      simp only [Bool.true_and]
      cases hs : symAll N f with
      | true =>
        simp only [Bool.true_and]
        congr 1
        funext k
        exact (passB_sym hg hn hs k).symm
      | false =>
        simp only [Bool.false_and]
        symm
        rw [Bool.eq_false_iff]
        intro h
        have h0 := rangeAll_at h (show 0 < a by omega)
        unfold passB passF at h0
        have hb : ∃ q ∈ edges N, symQ f q = false := by
          have h1 := symAll_eq hg f
          rw [hs] at h1
          have h2 : ¬ ∀ q ∈ edges N, symQ f q = true := fun h => by
            have := List.all_eq_true.2 h
            rw [← h1] at this; cases this
          have h3 := Classical.not_forall.1 h2
          obtain ⟨q, hq⟩ := h3
          obtain ⟨hq1, hq2⟩ := Classical.not_imp.1 hq
          exact ⟨q, hq1, by simpa using hq2⟩
        rw [pass_bad f 0 _ _ hb] at h0
        cases h0

end Go.Proofs.Ytmfjdiccohgihaa

/- Contracts: labels of edges by forests (program). -/
namespace Go.Proofs.Ytmfjdiccohgihaa
open Go.ChangeShapes Go.WideShapes Go.ChangeAt Go.RowKit
set_option linter.unusedVariables false

def cntR (N : NetD) (k : Nat) : Nat := ((List.range k).filter fun u => decide (comp N u = u)).length
theorem cntR_succ (N : NetD) (k : Nat) : cntR N (k + 1) = cntR N k + if comp N k = k then 1 else 0 := by
  unfold cntR
  rw [List.range_succ, List.filter_append, List.length_append]
  by_cases h : comp N k = k
  · rw [if_pos h]; simp [h]
  · rw [if_neg h]; simp [h]
theorem cntR_le (N : NetD) (k : Nat) : cntR N k ≤ k := by unfold cntR; exact Nat.le_trans (List.length_filter_le _ _) (by simp)
theorem cntR_all (N : NetD) : cntR N N.ends.length = rootsN N := rfl

set_option maxHeartbeats 4000000 in
set_option maxRecDepth 100000 in
theorem isForest_any (v1 : Value) (N : NetD) (lo1 hi1 : Nat) (w : World) (h1 : Net w lo1 hi1 v1 N) (hh1 : hi1 ≤ w.heap.size) (hg : N.good = true) :
    Calls Try.prog 71 #[v1] w fun e w' => e = .returned (.bool (forestB N)) ∧ Below w.heap.size w w' := by
  obtain ⟨n1, n40⟩ := good_n hg
  have HG := Lib.hid hg; clear hg
  have F1 := Lib.hid h1
  obtain ⟨A1, c1, A1', c1', A1'', c1'', rfl, hc1, hd1, _⟩ := h1.parts
  obtain ⟨b1, o1, _, _, rfl, _⟩ := Net.rowAt F1.out (u := 0) (by omega)
  clear h1
  obtain ⟨WA, HWA⟩ : ∃ W, Hid (W = (w.alloc (.cells #[.slice (some ⟨b1, o1, none⟩) N.ends.length c1, .slice A1' N.ids.length c1', .slice A1'' N.inputs.length c1''] 33))) := ⟨_, Lib.hid rfl⟩
  have hbA : Below w.heap.size w WA := by rw [HWA.out]; exact ((Below.refl _ _).alloc (Nat.le_refl _) _)
  have hsA : w.heap.size + 1 ≤ WA.heap.size := by rw [HWA.out]; simp; try omega
  have bx1 : BoxN WA (w.heap.size) #[.slice (some ⟨b1, o1, none⟩) N.ends.length c1, .slice A1' N.ids.length c1', .slice A1'' N.inputs.length c1''] 33 := by rw [HWA.out]; exact (BoxN.new' _ _ _ (by simp))
  have G1 := Lib.hid (Net.below F1.out hbA hh1); clear F1
  go_enter Try.func71, Try.ntmps71
  go_upto_region 1 with (fail)
  rw [← HWA.out]; clear HWA
  have kbx1_0 : WA.cell? ⟨w.heap.size, 0, none⟩ = some (.slice (some ⟨b1, o1, none⟩) N.ends.length c1) := bx1.cell 0 (by simp)
  have kbx1_1 : WA.cell? ⟨w.heap.size, 1, none⟩ = some (.slice A1' N.ids.length c1') := bx1.cell 1 (by simp)
  have kbx1_2 : WA.cell? ⟨w.heap.size, 2, none⟩ = some (.slice A1'' N.inputs.length c1'') := bx1.cell 2 (by simp)
  go_wp2_with fail
  clear kbx1_0 kbx1_1 kbx1_2
  refine (edges_any _ N lo1 hi1 _ G1.out (by omega) HG.out).mono ?_
  rintro e W1 ⟨r, rfl, hr, hb1⟩
  have hg1 := grown_below hb1; clear hb1
  have hs1 := hg1.size
  have HF1 := Lib.hid ((Turned.refl WA.heap.size WA.heap.size WA).still hg1)
  have E1 := Lib.hid hr; clear hr
  obtain ⟨Ar, cr, rfl, hcr, hdr⟩ := E1.out.dims
  go_wp2_with fail
  refine (ContainsFunc_edge 69 #[] (enters_of Try.func69 (by kernel_rfl) rfl) (fun k => stubB (nthQ (edges N) k)) _ (edges N) _ _ _ E1.out (Nat.le_refl _) (fun k hk W hW => stub_any _ _ _ _ W)).mono ?_
  rintro e W2 ⟨rfl, hb2⟩
  have hg2 := grown_below hb2; clear hb2
  have hs2 := hg2.size
  have HF2 := Lib.hid (HF1.out.still hg2); clear HF1
  have E2 := Lib.hid (QuadS.still E1.out hg2 (by omega)); clear E1
  rw [any_range_nthQ]
  cases hst : (edges N).any stubB with
  | true =>
    have HST := Lib.hid hst; clear hst
    go_wp2_with fail
    go_ret
    exact ⟨ret_bool (by unfold forestB; rw [HST.out]; rfl), (HF2.out.below_of hbA (by omega) (by omega))⟩
  | false =>
    have HST := Lib.hid hst; clear hst
    have kbx1_0 : W2.cell? ⟨w.heap.size, 0, none⟩ = some (.slice (some ⟨b1, o1, none⟩) N.ends.length c1) := (HF2.out.boxN bx1 (by omega)).cell 0 (by simp)
    have kbx1_1 : W2.cell? ⟨w.heap.size, 1, none⟩ = some (.slice A1' N.ids.length c1') := (HF2.out.boxN bx1 (by omega)).cell 1 (by simp)
    have kbx1_2 : W2.cell? ⟨w.heap.size, 2, none⟩ = some (.slice A1'' N.inputs.length c1'') := (HF2.out.boxN bx1 (by omega)).cell 2 (by simp)
    go_wp2_with fail
    clear kbx1_0 kbx1_1 kbx1_2
    refine (components_any _ N lo1 hi1 _ (Net.turned G1.out HF2.out (by omega) (by omega)) (by omega) HG.out).mono ?_
    rintro e W3 ⟨r2, rfl, hr2, hb3⟩
    have hg3 := grown_below hb3; clear hb3
    have hs3 := hg3.size
    have HF3 := Lib.hid (HF2.out.still hg3); clear HF2
    have E3 := Lib.hid (QuadS.still E2.out hg3 (by omega)); clear E2
    have C3 := Lib.hid hr2; clear hr2
    have HCL := Lib.hid (compAll_length N)
    obtain ⟨Ac, cc, rfl, hcc, hdc⟩ := C3.out.dims
    rw [HCL.out] at hcc ⊢
    obtain ⟨el, HEL⟩ : ∃ e, Hid ((edges N).length = e) := ⟨_, Lib.hid rfl⟩
    have hel := hcr
    rw [HEL.out] at hcr hel ⊢
    have N_3 := Lib.hid (Net.turned G1.out HF3.out (by omega) (by omega)); clear G1
    have bx1_3 := HF3.out.boxN bx1 (by omega); clear bx1
    have hbA3 : Below w.heap.size w W3 := (HF3.out.below_of hbA (by omega) (by omega)); clear hbA HF3
    go_wp2_with fail
    go_loopw [14, 4] (fun iv rv wr => ∃ (k : Nat), k ≤ N.ends.length ∧ iv = .int .i64 k ∧ rv = .int .i64 (cntR N k : Nat) ∧ Hid (Turned W3.heap.size W3.heap.size W3 wr)) (fun iv rv _ => N.ends.length - (intOf iv).toNat)
    case atStart => exact ⟨0, Nat.zero_le _, rfl, rfl, Lib.hid (Turned.refl W3.heap.size W3.heap.size W3)⟩
    case round =>
      obtain ⟨k, hk, rfl, rfl, HF4⟩ := hrel
      have hs4 := HF4.out.size
      have hck := cntR_le N k
      have HCS := Lib.hid (cntR_succ N k)
      by_cases hlt : k < N.ends.length
      case pos =>
        obtain ⟨be, oe, rfl, _, hbe', xe, _⟩ := (IntS.turned C3.out HF4.out (by omega) (by omega)).opened (by rw [HCL.out]; exact hlt)
        rw [nth_compAll hlt] at xe
        obtain ⟨c, HC⟩ : ∃ c, Hid (comp N k = c) := ⟨_, Lib.hid rfl⟩
        rw [HC.out] at xe HCS
        by_cases hkc : c = k
        case pos =>
          have hkc' : ((k : Int) == (c : Int)) = true := by simp; omega
          rw [if_pos hkc] at HCS
          go_wp2_with fail
          go_roundw
          case rel => exact ⟨k + 1, by omega, by go_num, by rw [HCS.out]; go_num, HF4⟩
          case measure => simp [intOf]; omega
        have hkc' : ((k : Int) == (c : Int)) = false := by simp; omega
        rw [if_neg hkc] at HCS
        go_wp2_with fail
        go_roundw
        case rel => exact ⟨k + 1, by omega, by go_num, by rw [HCS.out]; rfl, HF4⟩
        case measure => simp [intOf]; omega
      have kbx1_0 : wr.cell? ⟨w.heap.size, 0, none⟩ = some (.slice (some ⟨b1, o1, none⟩) N.ends.length c1) := (HF4.out.boxN bx1_3 (by omega)).cell 0 (by simp)
      have kbx1_1 : wr.cell? ⟨w.heap.size, 1, none⟩ = some (.slice A1' N.ids.length c1') := (HF4.out.boxN bx1_3 (by omega)).cell 1 (by simp)
      have kbx1_2 : wr.cell? ⟨w.heap.size, 2, none⟩ = some (.slice A1'' N.inputs.length c1'') := (HF4.out.boxN bx1_3 (by omega)).cell 2 (by simp)
      obtain rfl : k = N.ends.length := by omega
      have HRT := Lib.hid (cntR_all N)
      obtain ⟨q, HQ⟩ : ∃ q, Hid (cntR N N.ends.length = q) := ⟨_, Lib.hid rfl⟩
      rw [HQ.out] at hck HRT ⊢
      have hwq : IntKind.i64.wrap ((N.ends.length : Int) - (q : Int)) = (N.ends.length : Int) - (q : Int) := IntWalk.i64_in _ (by omega)
      go_wp2_with fail
      go_ret
      refine ⟨ret_bool ?_, (HF4.out.below_of hbA3 (by omega) (by omega))⟩
      unfold forestB
      rw [HST.out, HEL.out, ← HRT.out]
      rw [Bool.eq_iff_iff]; simp

set_option maxHeartbeats 4000000 in
set_option maxRecDepth 100000 in
theorem fl1_any (v i c gf gc : Nat) (f : List (List Int)) (V : Value) (lo hi : Nat) (w : World) (x1 : w.cell? ⟨gf, 0, none⟩ = some V) (x2 : w.cell? ⟨gc, 0, none⟩ = some (.int .i64 c)) (h : IntSS w lo hi V f) (hv : v < f.length) (hi2 : i < (nthL f v).length) :
    Calls Try.prog 72 (#[.int .i64 (v : Nat), .int .i64 (i : Nat)] ++ #[.pointer (some ⟨gf, 0, none⟩), .pointer (some ⟨gc, 0, none⟩)]) w fun e w' => e = .returned (.bool (kpF f c v i)) ∧ Below w.heap.size w w' := by
  obtain ⟨A, k, rfl, hk1, hk2⟩ := h.dims
  obtain ⟨b, o, u, rfl, _, hb, z, hu⟩ := SS.opened h hv
  obtain ⟨A2, k2, rfl, hk3, hk4⟩ := hu.dims
  obtain ⟨b2, o2, rfl, _, hb2, y, _⟩ := hu.opened hi2
  obtain ⟨x, HX⟩ : ∃ x, Hid (nth (nthL f v) i = x) := ⟨_, Lib.hid rfl⟩
  rw [HX.out] at y
  have hvi : (v : Int) < f.length := by omega
  have hii : (i : Int) < (nthL f v).length := by omega
  have HK := Lib.hid (show kpF f c v i = (x == (c : Int)) by unfold kpF colF; rw [HX.out, Bool.eq_iff_iff]; simp)
  clear h hu
  show Calls Try.prog 72 #[.int .i64 (v : Nat), .int .i64 (i : Nat), .pointer (some ⟨gf, 0, none⟩), .pointer (some ⟨gc, 0, none⟩)] w _
  go_enter Try.func72, Try.ntmps72
  go_wp2_with fail
  go_quiet (fail)
  go_wp2_with fail
  go_ret
  exact ⟨ret_bool HK.out.symm, below_drewN (Below.refl _ _) _⟩

end Go.Proofs.Ytmfjdiccohgihaa

/- Contract: isForestLabeling (program). -/
namespace Go.Proofs.Ytmfjdiccohgihaa
open Go.ChangeShapes Go.WideShapes Go.ChangeAt Go.RowKit
set_option linter.unusedVariables false

theorem Net.still {w w' : World} {lo hi : Nat} {v : Value} {N : NetD} (h : Net w lo hi v N) (hg : w.grownBy w' none) (hB : hi ≤ w.heap.size) : Net w' lo hi v N := h.below (grown_to_below hg) hB
def okF (N : NetD) (f : List (List Int)) (a : Nat) (v i : Nat) : Bool := inB (colF f v i) 0 ((a : Int) - 1) && symAt N f v i

set_option maxHeartbeats 8000000 in
set_option maxRecDepth 100000 in
theorem isForestLabeling_any (v1 : Value) (N : NetD) (lo1 hi1 : Nat) (v2 : Value) (f : List (List Int)) (lo2 hi2 : Nat) (a : Nat) (w : World) (h1 : Net w lo1 hi1 v1 N) (hh1 : hi1 ≤ w.heap.size) (h2 : IntSS w lo2 hi2 v2 f) (hh2 : hi2 ≤ w.heap.size) (hg : N.good = true) (ha : 1 ≤ a) (ha6 : a ≤ 6) :
    Calls Try.prog 36 #[v1, v2, .int .i64 (a : Nat)] w fun e w' => e = .returned (.bool (flB N f a)) ∧ Below w.heap.size w w' := by
  obtain ⟨n1, n40⟩ := good_n hg
  have HG := Lib.hid hg; clear hg
  have F1 := Lib.hid h1
  obtain ⟨A1, c1, A1', c1', A1'', c1'', rfl, hc1, hd1, _⟩ := h1.parts
  obtain ⟨b1, o1, _, _, rfl, _⟩ := Net.rowAt F1.out (u := 0) (by omega)
  clear h1
  have F2 := Lib.hid h2
  obtain ⟨A2, c2, rfl, hc2, hd2⟩ := h2.dims
  clear h2
  obtain ⟨WA, HWA⟩ : ∃ W, Hid (W = ((w.alloc (.cells #[.slice (some ⟨b1, o1, none⟩) N.ends.length c1, .slice A1' N.ids.length c1', .slice A1'' N.inputs.length c1''] 33)).alloc (.cells #[.slice A2 f.length c2] 26))) := ⟨_, Lib.hid rfl⟩
  have hbA : Below w.heap.size w WA := by rw [HWA.out]; exact (((Below.refl _ _).alloc (Nat.le_refl _) _).alloc (by simp; try omega) _)
  have hsA : w.heap.size + 2 ≤ WA.heap.size := by rw [HWA.out]; simp; try omega
  have bx1 : BoxN WA (w.heap.size) #[.slice (some ⟨b1, o1, none⟩) N.ends.length c1, .slice A1' N.ids.length c1', .slice A1'' N.inputs.length c1''] 33 := by rw [HWA.out]; exact ((BoxN.new' _ _ _ (by simp)).still (grown_alloc _ _))
  have bx2 : BoxN WA (w.heap.size + 1) #[.slice A2 f.length c2] 26 := by rw [HWA.out]; exact (BoxN.new' _ _ _ (by simp))
  have G1 := Lib.hid (Net.below F1.out hbA hh1); clear F1
  have G2 := Lib.hid (ISS.below F2.out hbA hh2); clear F2
  go_enter Try.func36, Try.ntmps36
  go_upto_region 1 with (fail)
  rw [← HWA.out]; clear HWA
  have kbx1_0 : WA.cell? ⟨w.heap.size, 0, none⟩ = some (.slice (some ⟨b1, o1, none⟩) N.ends.length c1) := bx1.cell 0 (by simp)
  have kbx1_1 : WA.cell? ⟨w.heap.size, 1, none⟩ = some (.slice A1' N.ids.length c1') := bx1.cell 1 (by simp)
  have kbx1_2 : WA.cell? ⟨w.heap.size, 2, none⟩ = some (.slice A1'' N.inputs.length c1'') := bx1.cell 2 (by simp)
  have kbx2_0 : WA.cell? ⟨w.heap.size + 1, 0, none⟩ = some (.slice A2 f.length c2) := bx2.cell 0 (by simp)
  go_wp2_with fail
  clear kbx1_0 kbx1_1 kbx1_2 kbx2_0
  refine (portsOk_any _ N lo1 hi1 _ f lo2 hi2 _ G1.out (by omega) G2.out (by omega) HG.out).mono ?_
  rintro e W1 ⟨rfl, hb1⟩
  have hg1 := grown_below hb1; clear hb1
  have hs1 := hg1.size
  have HF1 := Lib.hid ((Turned.refl WA.heap.size WA.heap.size WA).still hg1)
  by_cases hP : portsB N f = true
  case neg =>
    have hP' : portsB N f = false := by simpa using hP
    rw [hP']
    have HP := Lib.hid hP'; clear hP hP'
    go_wp2_with fail
    go_ret
    exact ⟨ret_bool (by unfold flB; rw [HP.out]; rfl), (HF1.out.below_of hbA (by omega) (by omega))⟩
  rw [hP]
  have HP := Lib.hid hP; clear hP
  have hfl : f.length = N.ends.length := by have h := HP.out; unfold portsB at h; rw [Bool.and_eq_true, decide_eq_true_eq] at h; exact h.1
  have HFR := Lib.hid (show ∀ v, v < N.ends.length → (nthL f v).length = (nthL N.ends v).length from fun v hv => by have h := HP.out; unfold portsB at h; rw [Bool.and_eq_true] at h; simpa using rangeAll_at h.2 (by omega : v < f.length))
  have HFL := Lib.hid hfl
  have hfl1 : f.length ≤ N.ends.length := by omega
  have hfl2 : N.ends.length ≤ f.length := by omega
  clear hfl
  have HRES := Lib.hid (show flB N f a = ((List.range N.ends.length).all (fun v => (List.range (nthL N.ends v).length).all fun i => okF N f a v i) && (List.range a).all fun c => forestB (partF N f c)) by unfold flB; rw [HP.out]; rfl)
  have N_1 := Lib.hid (Net.turned G1.out HF1.out (by omega) (by omega)); clear G1
  have f_1 := Lib.hid (ISS.turned G2.out HF1.out (by omega) (by omega)); clear G2
  have bx1_1 := HF1.out.boxN bx1 (by omega); clear bx1
  have bx2_1 := HF1.out.boxN bx2 (by omega); clear bx2
  have hbA1 : Below w.heap.size w W1 := (HF1.out.below_of hbA (by omega) (by omega)); clear hbA HF1
  obtain ⟨bf, of, _, rfl, _, hbf, _, _⟩ := SS.opened f_1.out (j := 0) (by omega)
  have kbx1_0 : W1.cell? ⟨w.heap.size, 0, none⟩ = some (.slice (some ⟨b1, o1, none⟩) N.ends.length c1) := bx1_1.cell 0 (by simp)
  have kbx1_1 : W1.cell? ⟨w.heap.size, 1, none⟩ = some (.slice A1' N.ids.length c1') := bx1_1.cell 1 (by simp)
  have kbx1_2 : W1.cell? ⟨w.heap.size, 2, none⟩ = some (.slice A1'' N.inputs.length c1'') := bx1_1.cell 2 (by simp)
  go_wp2_with fail
  clear kbx1_0 kbx1_1 kbx1_2
  go_loopw [19] (fun kv wr => ∃ (v : Nat), v ≤ N.ends.length ∧ kv = .int .i64 v ∧ Hid (∀ u, u < v → ∀ i, i < (nthL N.ends u).length → okF N f a u i = true) ∧ Hid (Turned W1.heap.size W1.heap.size W1 wr)) (fun kv _ => N.ends.length - (intOf kv).toNat)
  case atStart => exact ⟨0, Nat.zero_le _, rfl, Lib.hid fun u hu => absurd hu (by omega), Lib.hid (Turned.refl W1.heap.size W1.heap.size W1)⟩
  case round =>
    obtain ⟨v, hv, rfl, HU, HF2⟩ := hrel
    have hs2 := HF2.out.size
    obtain ⟨wq, rfl⟩ : ∃ wq : World, wq = wr := ⟨_, rfl⟩
    by_cases hvl : v < N.ends.length
    case pos =>
      obtain ⟨Ar, cr, hbr, qr, hcr, hdr, hRr⟩ := Net.rowIn N_1.out hvl
      replace qr := (HF2.out.cell (by omega) (by omega)).trans qr
      have Rr := Lib.hid hRr; clear hRr
      have hvi : (v : Int) < N.ends.length := by omega
      have hd6 := good_deg HG.out hvl
      go_wp2_with fail
      clear qr
      go_loopw [26] (fun iv wr => ∃ (i : Nat), i ≤ (nthL N.ends v).length ∧ iv = .int .i64 i ∧ Hid (∀ j, j < i → okF N f a v j = true) ∧ Hid (Turned W1.heap.size W1.heap.size W1 wr)) (fun iv _ => (nthL N.ends v).length - (intOf iv).toNat)
      case atStart => exact ⟨0, Nat.zero_le _, rfl, Lib.hid fun j hj => absurd hj (by omega), HF2⟩
      case round =>
        clear HF2
        obtain ⟨i, hi, rfl, HW, HF3⟩ := hrel
        have hs3 := HF3.out.size
        by_cases hil : i < (nthL N.ends v).length
        case neg =>
          obtain rfl : i = (nthL N.ends v).length := by omega
          go_wp2_with fail
          go_roundw
          case rel => exact ⟨v + 1, by omega, by go_num, Lib.hid fun u hu i hi => (if e : u = v then by rw [e] at hi ⊢; exact HW.out i hi else HU.out u (by omega) i hi), HF3⟩
          case measure => simp [intOf]; omega
        obtain ⟨br, or, rfl, _, hbr', er, er'⟩ := (EndS.turned Rr.out HF3.out (by omega) (by omega)).opened hil
        obtain ⟨t, r, etr, ht, hr, eur⟩ := good_end HG.out hvl hil
        rw [etr] at er er'
        dsimp only at er er'
        have ETr := Lib.hid etr
        have EUr := Lib.hid eur
        clear etr eur
        go_upto_region 9 with (fail)
        refine nameC ?_
        intro W4 HW4
        have hg4 : wr.grownBy W4 none := by rw [HW4.out]; exact grown_alloc _ _
        have hs4 := hg4.size
        have HF4 := Lib.hid (HF3.out.still hg4); clear HF3
        have bxe4 := Lib.hid (show BoxN W4 wr.heap.size #[.int .i64 t, .int .i64 r] 72 by rw [HW4.out]; exact BoxN.new _ _ _)
        clear HW4
        clear er er'
        have hvf : v < f.length := by omega
        have htf : t < f.length := by omega
        have hvfi : (v : Int) < f.length := by omega
        have htfi : (t : Int) < f.length := by omega
        obtain ⟨u1, hb1, z1, hu1⟩ := SS.openedIn (ISS.turned f_1.out HF4.out (by omega) (by omega)) hvf
        obtain ⟨u2, hb2', z2, hu2⟩ := SS.openedIn (ISS.turned f_1.out HF4.out (by omega) (by omega)) htf
        obtain ⟨A3, c3, rfl, hc3, hd3⟩ := hu1.dims
        obtain ⟨A4, c4, rfl, hc4, hd4⟩ := hu2.dims
        have hi3 : i < (nthL f v).length := by rw [HFR.out v hvl]; exact hil
        have hr3 : r < (nthL f t).length := by rw [HFR.out t ht]; exact hr
        obtain ⟨b3, o3, rfl, _, hb3, y1, _⟩ := hu1.opened hi3
        obtain ⟨b4, o4, rfl, _, hb4, y2, _⟩ := hu2.opened hr3
        have hi3i : (i : Int) < (nthL f v).length := by omega
        have hr3i : (r : Int) < (nthL f t).length := by omega
        obtain ⟨x, HX⟩ : ∃ x, Hid (nth (nthL f v) i = x) := ⟨_, Lib.hid rfl⟩
        obtain ⟨y, HY⟩ : ∃ y, Hid (nth (nthL f t) r = y) := ⟨_, Lib.hid rfl⟩
        rw [HX.out] at y1
        rw [HY.out] at y2
        have HOKV := Lib.hid (show okF N f a v i = (inB x 0 ((a : Int) - 1) && decide (x = y)) by
          have hh : colF f (nthE (nthL N.ends v) i).1.toNat (nthE (nthL N.ends v) i).2.toNat = y := by rw [ETr.out]; exact HY.out
          unfold okF symAt
          rw [hh, show colF f v i = x from HX.out])
        have hai : ((a : Nat) : Int) - 1 = (a : Int) - 1 := rfl
        obtain ⟨am, HAM⟩ : ∃ am : Int, Hid ((a : Int) - 1 = am) := ⟨_, Lib.hid rfl⟩
        have wa1 : IntKind.i64.wrap ((a : Int) - 1) = am := by rw [IntWalk.i64_in _ (by omega)]; exact HAM.out
        rw [HAM.out] at HOKV
        clear hai hu1 hu2
        cases hin : inB x 0 am with
        | false =>
          have HIN := Lib.hid hin; clear hin
          have kbx2_0 : W4.cell? ⟨w.heap.size + 1, 0, none⟩ = some (.slice (some ⟨bf, of, none⟩) f.length c2) := (HF4.out.boxN bx2_1 (by omega)).cell 0 (by simp)
          have kbxe_0 : W4.cell? ⟨wr.heap.size, 0, none⟩ = some (.int .i64 t) := bxe4.out.cell 0 (by simp)
          have kbxe_1 : W4.cell? ⟨wr.heap.size, 1, none⟩ = some (.int .i64 r) := bxe4.out.cell 1 (by simp)
          go_quiet ((go_at_call 35; exact Calls.quiet_of_same ((within_any _ _ _ _).mono fun e w' ⟨he, hw⟩ => ⟨by rw [he, HIN.out], hw.symm⟩)))
          have HF5 := fun nd => Lib.hid (HF4.out.still (grown_drewN W4 nd))
          have HBAD := Lib.hid (show flB N f a = false by
            rw [HRES.out]
            have hno : ((List.range N.ends.length).all (fun v => (List.range (nthL N.ends v).length).all fun i => okF N f a v i)) = false := by
              rw [Bool.eq_false_iff]; intro h
              have h2 := rangeAll_at (rangeAll_at h hvl) hil
              rw [HOKV.out] at h2
              simp [HIN.out] at h2
            rw [hno]; rfl)
          go_wp2_with fail
          go_ret
          exact ⟨ret_bool HBAD.out.symm, ((HF5 _).out.below_of hbA1 (by omega) (by omega))⟩
        | true =>
          have HIN := Lib.hid hin; clear hin
          by_cases hxy : x = y
          case neg =>
            have hxy' : (x != y) = true := by simpa using hxy
            have kbx2_0 : W4.cell? ⟨w.heap.size + 1, 0, none⟩ = some (.slice (some ⟨bf, of, none⟩) f.length c2) := (HF4.out.boxN bx2_1 (by omega)).cell 0 (by simp)
            have kbxe_0 : W4.cell? ⟨wr.heap.size, 0, none⟩ = some (.int .i64 t) := bxe4.out.cell 0 (by simp)
            have kbxe_1 : W4.cell? ⟨wr.heap.size, 1, none⟩ = some (.int .i64 r) := bxe4.out.cell 1 (by simp)
            go_quiet ((go_at_call 35; exact Calls.quiet_of_same ((within_any _ _ _ _).mono fun e w' ⟨he, hw⟩ => ⟨by rw [he, HIN.out], hw.symm⟩)))
            have HF6 := fun nd => Lib.hid (HF4.out.still (grown_drewN W4 nd))
            have HBAD := Lib.hid (show flB N f a = false by
              rw [HRES.out]
              have hno : ((List.range N.ends.length).all (fun v => (List.range (nthL N.ends v).length).all fun i => okF N f a v i)) = false := by
                rw [Bool.eq_false_iff]; intro h
                have h2 := rangeAll_at (rangeAll_at h hvl) hil
                rw [HOKV.out] at h2
                simp [HIN.out, hxy] at h2
              rw [hno]; rfl)
            go_wp2_with fail
            go_ret
            exact ⟨ret_bool HBAD.out.symm, ((HF6 _).out.below_of hbA1 (by omega) (by omega))⟩
          have hxy' : (x != y) = false := by simpa using hxy
          have HXY := Lib.hid hxy; clear hxy
          have kbx2_0 : W4.cell? ⟨w.heap.size + 1, 0, none⟩ = some (.slice (some ⟨bf, of, none⟩) f.length c2) := (HF4.out.boxN bx2_1 (by omega)).cell 0 (by simp)
          have kbxe_0 : W4.cell? ⟨wr.heap.size, 0, none⟩ = some (.int .i64 t) := bxe4.out.cell 0 (by simp)
          have kbxe_1 : W4.cell? ⟨wr.heap.size, 1, none⟩ = some (.int .i64 r) := bxe4.out.cell 1 (by simp)
          go_quiet ((go_at_call 35; exact Calls.quiet_of_same ((within_any _ _ _ _).mono fun e w' ⟨he, hw⟩ => ⟨by rw [he, HIN.out], hw.symm⟩)))
          have HF7 := fun nd => Lib.hid (HF4.out.still (grown_drewN W4 nd))
          have HGD := Lib.hid (show okF N f a v i = true by rw [HOKV.out, HIN.out, decide_eq_true HXY.out]; rfl)
          go_wp2_with fail
          go_roundw
          case rel => exact ⟨i + 1, by omega, by go_num, Lib.hid fun j hj => (if e : j = i then by rw [e]; exact HGD.out else HW.out j (by omega)), HF7 _⟩
          case measure => simp [intOf]; omega
    obtain rfl : v = N.ends.length := by omega
    have HALL := Lib.hid (show flB N f a = (List.range a).all fun c => forestB (partF N f c) by
      rw [HRES.out]
      have h : ((List.range N.ends.length).all (fun v => (List.range (nthL N.ends v).length).all fun i => okF N f a v i)) = true := rangeAll_true fun v hv => rangeAll_true fun i hi => HU.out v hv i hi
      rw [h]; rfl)
    have HSY := Lib.hid (show symAll N f = true from rangeAll_true fun v hv => rangeAll_true fun i hi => by have h := HU.out v hv i hi; unfold okF at h; rw [Bool.and_eq_true] at h; exact h.2)
    clear HU HRES
    go_wp2_with fail
    go_loopw [64] (fun cv wr => ∃ (c : Nat), c ≤ a ∧ cv = .int .i64 c ∧ Hid (∀ d, d < c → forestB (partF N f d) = true) ∧ Hid (Turned W1.heap.size W1.heap.size W1 wr)) (fun cv _ => a - (intOf cv).toNat)
    case atStart => exact ⟨0, Nat.zero_le _, rfl, Lib.hid fun u hu => absurd hu (by omega), HF2⟩
    case round =>
      clear HF2
      obtain ⟨c, hc, rfl, HU, HF8⟩ := hrel
      have hs8 := HF8.out.size
      obtain ⟨wt, rfl⟩ : ∃ wt : World, wt = wr := ⟨_, rfl⟩
      by_cases hca : c < a
      case neg =>
        obtain rfl : c = a := by omega
        go_wp2_with fail
        go_ret
        exact ⟨ret_bool (by rw [HALL.out]; exact (rangeAll_true HU.out).symm), (HF8.out.below_of hbA1 (by omega) (by omega))⟩
      have hcai : (c : Int) < a := by omega
      go_upto_region 16 with (fail)
      refine nameC ?_
      intro W9 HW9
      have hg9 : wt.grownBy W9 none := by rw [HW9.out]; exact grown_alloc _ _
      have hs9 := hg9.size
      have HF9 := Lib.hid (HF8.out.still hg9); clear HF8
      have CB9 := Lib.hid (show BoxN W9 wt.heap.size #[.int .i64 (c : Nat)] 3 by rw [HW9.out]; exact BoxN.new _ _ _)
      clear HW9
      refine wp_region_U (fun w' => w'.cell? ⟨w.heap.size, 0, none⟩ = some (.slice (some ⟨b1, o1, none⟩) N.ends.length c1) ∧ w'.cell? ⟨w.heap.size, 1, none⟩ = some (.slice A1' N.ids.length c1') ∧ w'.cell? ⟨w.heap.size, 2, none⟩ = some (.slice A1'' N.inputs.length c1'')) [] (by kernel_rfl) ?_
      refine nameU ?_
      intro W10 HW10
      have hg10 : W9.grownBy W10 none := by rw [HW10.out]; exact grown_drew _
      clear HW10
      have hs10 := hg10.size
      have HF10 := Lib.hid (HF9.out.still hg10); clear HF9
      have CB10 := Lib.hid (BoxN.still CB9.out hg10); clear CB9
      have hS11 : W10.cell? ⟨w.heap.size, 0, none⟩ = some (.slice (some ⟨b1, o1, none⟩) N.ends.length c1) ∧ W10.cell? ⟨w.heap.size, 1, none⟩ = some (.slice A1' N.ids.length c1') ∧ W10.cell? ⟨w.heap.size, 2, none⟩ = some (.slice A1'' N.inputs.length c1'') := ⟨(HF10.out.boxN bx1_1 (by omega)).cell 0 (by simp), (HF10.out.boxN bx1_1 (by omega)).cell 1 (by simp), (HF10.out.boxN bx1_1 (by omega)).cell 2 (by simp)⟩
      refine anyU_take (i := 0) (v := .agg #[.slice (some ⟨b1, o1, none⟩) N.ends.length c1, .slice A1' N.ids.length c1', .slice A1'' N.inputs.length c1'']) rfl (by kernel_rfl) (by kernel_rfl) (by kernel_rfl) (fun _ _ _ h => h) ⟨by rfl, fun w' hS' => (by obtain ⟨s1, s2, s3⟩ := hS'; go_simp)⟩ hS11 ?_
      simp only [List.getElem_toArray, List.getElem_cons_zero, Act.put, List.setIfInBounds_toArray, List.set_cons_zero, List.set_cons_succ]
      refine anyU_take (i := 1) (v := .pointer (some ⟨w.heap.size, 0, none⟩)) rfl (by kernel_rfl) (by kernel_rfl) (by kernel_rfl) (fun _ _ _ h => h) ⟨by rfl, fun w' hS' => (by obtain ⟨s1, s2, s3⟩ := hS'; go_simp)⟩ hS11 ?_
      simp only [List.getElem_toArray, List.getElem_cons_succ, List.getElem_cons_zero, Act.put, List.setIfInBounds_toArray, List.set_cons_zero, List.set_cons_succ]
      refine anyU_take (i := 2) (v := .slice (some ⟨b1, o1, none⟩) N.ends.length c1) rfl (by kernel_rfl) (by kernel_rfl) (by kernel_rfl) (fun _ _ _ h => h) ⟨by rfl, fun w' hS' => (by obtain ⟨s1, s2, s3⟩ := hS'; go_simp)⟩ hS11 ?_
      simp only [List.getElem_toArray, List.getElem_cons_succ, List.getElem_cons_zero, Act.put, List.setIfInBounds_toArray, List.set_cons_zero, List.set_cons_succ]
      refine anyU_take (i := 3) (v := .int .i64 N.ends.length) rfl (by kernel_rfl) (by kernel_rfl) (by kernel_rfl) (fun _ _ _ h => h) ⟨by rfl, fun w' hS' => (by obtain ⟨s1, s2, s3⟩ := hS'; go_simp)⟩ hS11 ?_
      simp only [List.getElem_toArray, List.getElem_cons_succ, List.getElem_cons_zero, Act.put, List.setIfInBounds_toArray, List.set_cons_zero, List.set_cons_succ]
      refine anyU_take (i := 5) (v := .func (.func 72) #[] #[.pointer (some ⟨w.heap.size + 1, 0, none⟩), .pointer (some ⟨wt.heap.size, 0, none⟩)]) rfl (by kernel_rfl) (by kernel_rfl) (by kernel_rfl) (fun _ _ _ h => h) ⟨by rfl, fun w' hS' => (by obtain ⟨s1, s2, s3⟩ := hS'; simp [go_sem])⟩ hS11 ?_
      simp only [List.getElem_toArray, List.getElem_cons_succ, List.getElem_cons_zero, Act.put, List.setIfInBounds_toArray, List.set_cons_zero, List.set_cons_succ]
      refine anyU_ready (rs := [4]) (by kernel_rfl) (by simp) ?_
      refine ReadyU.cons (i := 4) rfl (fun K hK => ?_) ReadyU.nil
      simp only [List.getElem_toArray, List.getElem_cons_succ, List.getElem_cons_zero]
      refine ite_is (by rfl) ?_
      simp [go_sem]
      refine (numbersTo_any N.ends.length _ (by omega)).mono ?_
      rintro e W12 ⟨r, rfl, hr, hb12⟩
      have hg12 := grown_below hb12; clear hb12
      have hs12 := hg12.size
      have HF12 := Lib.hid (HF10.out.still hg12); clear HF10
      have CB12 := Lib.hid (BoxN.still CB10.out hg12); clear CB10
      have Z12 := Lib.hid hr; clear hr
      have hS13 : W12.cell? ⟨w.heap.size, 0, none⟩ = some (.slice (some ⟨b1, o1, none⟩) N.ends.length c1) ∧ W12.cell? ⟨w.heap.size, 1, none⟩ = some (.slice A1' N.ids.length c1') ∧ W12.cell? ⟨w.heap.size, 2, none⟩ = some (.slice A1'' N.inputs.length c1'') := ⟨(HF12.out.boxN bx1_1 (by omega)).cell 0 (by simp), (HF12.out.boxN bx1_1 (by omega)).cell 1 (by simp), (HF12.out.boxN bx1_1 (by omega)).cell 2 (by simp)⟩
      refine hK.out _ _ ⟨fun _ => hS13, ?_⟩
      clear hK K hS11
      try simp only [List.getElem_toArray, List.getElem_cons_succ, List.getElem_cons_zero, Act.put, List.setIfInBounds_toArray, List.set_cons_zero, List.set_cons_succ]
      obtain ⟨Az, cz, rfl, hcz, hdz⟩ := Z12.out.dims
      have HB2 := Lib.hid (show W12.cell? ⟨w.heap.size + 1, 0, none⟩ = some (.slice (some ⟨bf, of, none⟩) f.length c2) from (HF12.out.boxN bx2_1 (by omega)).cell 0 (by simp))
      have HBC := Lib.hid (show W12.cell? ⟨wt.heap.size, 0, none⟩ = some (.int .i64 (c : Nat)) from CB12.out.cell 0 (by simp))
      have HFS := Lib.hid (ISS.turned f_1.out HF12.out (by omega) (by omega))
      have hgf : w.heap.size + 1 < W12.heap.size := by omega
      have hgc : wt.heap.size < W12.heap.size := by have := CB12.out.lt; omega
      have hfh : hi2 ≤ W12.heap.size := by omega
      have HCL := Lib.hid (show ∀ v i : Nat, v < N.ends.length → i < (nthL N.ends v).length → ∀ W, Below W12.heap.size W12 W → Calls Try.prog 72 (#[.int .i64 (v : Nat), .int .i64 (i : Nat)] ++ #[.pointer (some ⟨w.heap.size + 1, 0, none⟩), .pointer (some ⟨wt.heap.size, 0, none⟩)]) W fun e w' => e = .returned (.bool (kpF f c v i)) ∧ Below W.heap.size W w' from fun v i hv hi W hW =>
        fl1_any v i c (w.heap.size + 1) (wt.heap.size) f _ lo2 hi2 W ((hW.cell (p := ⟨w.heap.size + 1, 0, none⟩) hgf).trans HB2.out) ((hW.cell (p := ⟨wt.heap.size, 0, none⟩) hgc).trans HBC.out) (ISS.below HFS.out hW hfh) (by rw [HFL.out]; exact hv) (by rw [HFR.out v hv]; exact hi))
      refine anyU_ready (rs := [6]) (by kernel_rfl) (by simp) ?_
      refine ReadyU.cons (i := 6) rfl (fun K hK => ?_) ReadyU.nil
      simp only [List.getElem_toArray, List.getElem_cons_succ, List.getElem_cons_zero]
      refine ite_is (by rfl) ?_
      simp [go_sem]
      refine (part_any _ N lo1 hi1 _ (upTo N.ends.length) _ _ 72 _ _ (Net.turned N_1.out HF12.out (by omega) (by omega)) (by omega) Z12.out (by omega) (enters_of Try.func72 (by kernel_rfl) rfl) (kpF f c) HCL.out HG.out (fun j hj => ⟨j, nth_upTo (by rw [upTo_length] at hj; exact hj), by rw [upTo_length] at hj; exact hj⟩) (by rw [upTo_length]; omega)).mono ?_
      rintro e W14 ⟨r2, rfl, hr2, hb14⟩
      have hg14 := grown_below hb14; clear hb14
      have hs14 := hg14.size
      have HF14 := Lib.hid (HF12.out.still hg14); clear HF12
      have CB14 := Lib.hid (BoxN.still CB12.out hg14); clear CB12
      have Z14 := Lib.hid (IntS.still Z12.out hg14 (by omega)); clear Z12
      have M14 := Lib.hid hr2; clear hr2
      have hS15 : W14.cell? ⟨w.heap.size, 0, none⟩ = some (.slice (some ⟨b1, o1, none⟩) N.ends.length c1) ∧ W14.cell? ⟨w.heap.size, 1, none⟩ = some (.slice A1' N.ids.length c1') ∧ W14.cell? ⟨w.heap.size, 2, none⟩ = some (.slice A1'' N.inputs.length c1'') := ⟨(HF14.out.boxN bx1_1 (by omega)).cell 0 (by simp), (HF14.out.boxN bx1_1 (by omega)).cell 1 (by simp), (HF14.out.boxN bx1_1 (by omega)).cell 2 (by simp)⟩
      refine hK.out _ _ ⟨fun _ => hS15, ?_⟩
      clear hK K hS13
      try simp only [List.getElem_toArray, List.getElem_cons_succ, List.getElem_cons_zero, Act.put, List.setIfInBounds_toArray, List.set_cons_zero, List.set_cons_succ]
      have HMG := Lib.hid (partF_good (c := c) HG.out HSY.out)
      refine anyU_ready (rs := [7]) (by kernel_rfl) (by simp) ?_
      refine ReadyU.cons (i := 7) rfl (fun K hK => ?_) ReadyU.nil
      simp only [List.getElem_toArray, List.getElem_cons_succ, List.getElem_cons_zero]
      refine ite_is (by rfl) ?_
      simp [go_sem]
      refine (isForest_any _ (partF N f c) _ _ _ M14.out (by omega) HMG.out).mono ?_
      rintro e W16 ⟨rfl, hb16⟩
      have hg16 := grown_below hb16; clear hb16
      have hs16 := hg16.size
      have HF16 := Lib.hid (HF14.out.still hg16); clear HF14
      have CB16 := Lib.hid (BoxN.still CB14.out hg16); clear CB14
      have Z16 := Lib.hid (IntS.still Z14.out hg16 (by omega)); clear Z14
      have M16 := Lib.hid (Net.still M14.out hg16 (by omega)); clear M14
      have hS17 : W16.cell? ⟨w.heap.size, 0, none⟩ = some (.slice (some ⟨b1, o1, none⟩) N.ends.length c1) ∧ W16.cell? ⟨w.heap.size, 1, none⟩ = some (.slice A1' N.ids.length c1') ∧ W16.cell? ⟨w.heap.size, 2, none⟩ = some (.slice A1'' N.inputs.length c1'') := ⟨(HF16.out.boxN bx1_1 (by omega)).cell 0 (by simp), (HF16.out.boxN bx1_1 (by omega)).cell 1 (by simp), (HF16.out.boxN bx1_1 (by omega)).cell 2 (by simp)⟩
      refine hK.out _ _ ⟨fun _ => hS17, ?_⟩
      clear hK K hS15
      try simp only [List.getElem_toArray, List.getElem_cons_succ, List.getElem_cons_zero, Act.put, List.setIfInBounds_toArray, List.set_cons_zero, List.set_cons_succ]
      cases hfo : forestB (partF N f c) with
      | false =>
        have HFO := Lib.hid hfo; clear hfo
        refine anyU_ready (rs := [8]) (by kernel_rfl) (by simp) ?_
        refine ReadyU.cons (i := 8) rfl (fun K hK => ?_) ReadyU.nil
        simp only [List.getElem_toArray, List.getElem_cons_succ, List.getElem_cons_zero]
        refine ite_is (by rfl) ?_
        simp [go_sem]
        refine hK.out _ _ ⟨fun _ => hS17, ?_⟩
        clear hK K
        try simp only [List.getElem_toArray, List.getElem_cons_succ, List.getElem_cons_zero, Act.put, List.setIfInBounds_toArray, List.set_cons_zero, List.set_cons_succ]
        clear hS17
        refine anyU_done (by kernel_rfl) ?_ _
        go_wp2_with fail
        go_ret
        exact ⟨ret_bool (by rw [HALL.out]; exact (rangeAll_false hca HFO.out).symm), (HF16.out.below_of hbA1 (by omega) (by omega))⟩
      | true =>
        have HFO := Lib.hid hfo; clear hfo
        refine anyU_ready (rs := [8]) (by kernel_rfl) (by simp) ?_
        refine ReadyU.cons (i := 8) rfl (fun K hK => ?_) ReadyU.nil
        simp only [List.getElem_toArray, List.getElem_cons_succ, List.getElem_cons_zero]
        refine ite_is (by rfl) ?_
        simp [go_sem]
        refine hK.out _ _ ⟨fun _ => hS17, ?_⟩
        clear hK K
        try simp only [List.getElem_toArray, List.getElem_cons_succ, List.getElem_cons_zero, Act.put, List.setIfInBounds_toArray, List.set_cons_zero, List.set_cons_succ]
        clear hS17
        refine anyU_done (by kernel_rfl) ?_ _
        go_wp2_with fail
        go_roundw
        case rel => exact ⟨c + 1, by omega, by go_num, Lib.hid fun d hd => (if e : d = c then by rw [e]; exact HFO.out else HU.out d (by omega)), HF16⟩
        case measure => simp [intOf]; omega

end Go.Proofs.Ytmfjdiccohgihaa

/- Contracts: IsForestLabeling, the program's and the reference's. -/
namespace Go.Proofs.Ytmfjdiccohgihaa
open Go.ChangeShapes Go.WideShapes Go.ChangeAt Go.RowKit
set_option linter.unusedVariables false

def flOk (N : NetD) (a : Int) : Bool := N.stubless && inB a 1 6
def flR (N : NetD) (f : List (List Int)) (a : Int) : Bool := flOk N a && flB N f a.toNat
theorem flR_no {N : NetD} {a : Int} (h : flOk N a = false) (f : List (List Int)) : flR N f a = false := by unfold flR; rw [h]; rfl
theorem flR_yes {N : NetD} {a : Nat} (h : flOk N a = true) (f : List (List Int)) : flR N f a = flB N f a := by unfold flR; rw [h, Int.toNat_natCast]; rfl
theorem stub_good {N : NetD} (h : N.stubless = true) : N.good = true := by unfold NetD.stubless at h; rw [Bool.and_eq_true] at h; exact h.1
theorem stub_no {N : NetD} (h : N.stubless = true) : noStub N = true := by unfold NetD.stubless at h; rw [Bool.and_eq_true] at h; rw [noStub_eq]; exact h.2
theorem passF_take {N : NetD} {f : List (List Int)} {k j : Nat} (hj : j < (edges N).length) : passF N f k ((edges N).take (j + 1)) = stE f k (passF N f k ((edges N).take j)) (nthQ (edges N) j) := by
  unfold passF
  rw [List.take_succ_eq_append_getElem hj, List.foldl_append, nthQ_eq hj]; rfl
theorem pass_stop {N : NetD} {f : List (List Int)} {k j : Nat} (h : passF N f k ((edges N).take j) = none) : passB N f k = false := by
  unfold passB passF
  rw [← List.take_append_drop j (edges N), List.foldl_append]
  unfold passF at h
  rw [h, foldl_none]; rfl
theorem nthL_ints {qs : List Quad} {j : Nat} (h : j < qs.length) : nthL (qs.map Quad.ints) j = (nthQ qs j).ints := by
  unfold nthL; simp [h, nthQ]
theorem nth_relab {p : List Int} {x y : Int} {u : Nat} (h : u < p.length) : nth (relab p x y) u = if nth p u = y then x else nth p u := by
  rw [nth_eq (by unfold relab; rw [List.length_map]; exact h), nth_eq h]; simp [relab]
theorem relab_len (p : List Int) (x y : Int) : (relab p x y).length = p.length := by simp [relab]

set_option maxHeartbeats 2000000 in
set_option maxRecDepth 100000 in
theorem IsForestLabeling_impl (v1 : Value) (N : NetD) (lo1 hi1 : Nat) (v2 : Value) (f : List (List Int)) (lo2 hi2 : Nat) (a : Int) (w : World) (h1 : Net w lo1 hi1 v1 N) (hh1 : hi1 ≤ w.heap.size) (h2 : IntSS w lo2 hi2 v2 f) (hh2 : hi2 ≤ w.heap.size) (hz1 : N.sz ≤ 1048576) (hz2 : szSS f ≤ 1048576) (ok1 : N.Ok) (ok2 : ∀ l ∈ f, ∀ z ∈ l, I64 z) (ok3 : I64 a) :
    Calls Try.prog 11 #[v1, v2, .int .i64 a] w fun e w' => e = .returned (.tuple #[.bool (flR N f a), .bool (flOk N a)]) ∧ Below w.heap.size w w' := by
  clear ok1 ok2 ok3
  have F1 := Lib.hid h1
  obtain ⟨A1, c1, A1', c1', A1'', c1'', rfl, hc1, hd1, _⟩ := h1.parts
  clear h1
  have F2 := Lib.hid h2
  obtain ⟨A2, c2, rfl, hc2, hd2⟩ := h2.dims
  clear h2
  obtain ⟨WA, HWA⟩ : ∃ W, Hid (W = (w.alloc (.cells #[.slice A1 N.ends.length c1, .slice A1' N.ids.length c1', .slice A1'' N.inputs.length c1''] 33))) := ⟨_, Lib.hid rfl⟩
  have hbA : Below w.heap.size w WA := by rw [HWA.out]; exact ((Below.refl _ _).alloc (Nat.le_refl _) _)
  have hsA : w.heap.size + 1 ≤ WA.heap.size := by rw [HWA.out]; simp; try omega
  have bx1 : BoxN WA (w.heap.size) #[.slice A1 N.ends.length c1, .slice A1' N.ids.length c1', .slice A1'' N.inputs.length c1''] 33 := by rw [HWA.out]; exact (BoxN.new' _ _ _ (by simp))
  have G1 := Lib.hid (Net.below F1.out hbA hh1); clear F1
  have G2 := Lib.hid (ISS.below F2.out hbA hh2); clear F2
  go_enter Try.func11, Try.ntmps11
  go_upto_region 1 with (fail)
  rw [← HWA.out]; clear HWA
  have kbx1_0 : WA.cell? ⟨w.heap.size, 0, none⟩ = some (.slice A1 N.ends.length c1) := bx1.cell 0 (by simp)
  have kbx1_1 : WA.cell? ⟨w.heap.size, 1, none⟩ = some (.slice A1' N.ids.length c1') := bx1.cell 1 (by simp)
  have kbx1_2 : WA.cell? ⟨w.heap.size, 2, none⟩ = some (.slice A1'' N.inputs.length c1'') := bx1.cell 2 (by simp)
  go_wp2_with fail
  clear kbx1_0 kbx1_1 kbx1_2
  refine (stubless_any _ N lo1 hi1 _ G1.out (by omega) hz1).mono ?_
  rintro e W1 ⟨rfl, hb1⟩
  have hg1 := grown_below hb1; clear hb1
  have hs1 := hg1.size
  have HF1 := Lib.hid ((Turned.refl WA.heap.size WA.heap.size WA).still hg1)
  by_cases hG : N.stubless = true
  case neg =>
    have hG' : N.stubless = false := by simpa using hG
    rw [hG']
    have HNO := Lib.hid (show flOk N a = false by unfold flOk; rw [hG']; rfl); clear hG hG'
    go_wp2_with fail
    go_ret2
    exact ⟨ret_bb (flR_no (HNO.out) f).symm HNO.out.symm, (HF1.out.below_of hbA (by omega) (by omega))⟩
  rw [hG]
  have HST := Lib.hid hG; clear hG
  have HG := Lib.hid (stub_good HST.out)
  obtain ⟨n1, n40⟩ := good_n HG.out
  go_wp2_with fail
  refine (within_any a 1 6 _).mono ?_
  rintro e w' ⟨rfl, rfl⟩
  by_cases hA : inB a 1 6 = true
  case neg =>
    have hA' : inB a 1 6 = false := by simpa using hA
    rw [hA']
    have HNO := Lib.hid (show flOk N a = false by unfold flOk; rw [hA', Bool.and_false]); clear hA hA'
    go_wp2_with fail
    go_ret2
    exact ⟨ret_bb (flR_no (HNO.out) f).symm HNO.out.symm, (HF1.out.below_of hbA (by omega) (by omega))⟩
  rw [hA]
  obtain ⟨a1, a6⟩ := inB_le hA
  obtain ⟨m, rfl⟩ : ∃ m : Nat, a = m := ⟨a.toNat, by omega⟩
  have HOK := Lib.hid (show flOk N m = true by unfold flOk; rw [HST.out, hA]; rfl); clear hA
  have m1 : 1 ≤ m := by omega
  have m6 : m ≤ 6 := by omega
  clear a1 a6
  have kbx1_0 : W1.cell? ⟨w.heap.size, 0, none⟩ = some (.slice A1 N.ends.length c1) := (HF1.out.boxN bx1 (by omega)).cell 0 (by simp)
  have kbx1_1 : W1.cell? ⟨w.heap.size, 1, none⟩ = some (.slice A1' N.ids.length c1') := (HF1.out.boxN bx1 (by omega)).cell 1 (by simp)
  have kbx1_2 : W1.cell? ⟨w.heap.size, 2, none⟩ = some (.slice A1'' N.inputs.length c1'') := (HF1.out.boxN bx1 (by omega)).cell 2 (by simp)
  go_wp2_with fail
  clear kbx1_0 kbx1_1 kbx1_2
  refine (isForestLabeling_any _ N lo1 hi1 _ f lo2 hi2 m _ (Net.turned G1.out HF1.out (by omega) (by omega)) (by omega) (ISS.turned G2.out HF1.out (by omega) (by omega)) (by omega) HG.out m1 m6).mono ?_
  rintro e W2 ⟨rfl, hb2⟩
  have hg2 := grown_below hb2; clear hb2
  have hs2 := hg2.size
  have HF2 := Lib.hid (HF1.out.still hg2); clear HF1
  go_wp2_with fail
  go_ret2
  exact ⟨ret_bb (flR_yes HOK.out f).symm HOK.out.symm, (HF2.out.below_of hbA (by omega) (by omega))⟩

set_option maxHeartbeats 8000000 in
set_option maxRecDepth 100000 in
theorem IsForestLabeling_spec (v1 : Value) (N : NetD) (lo1 hi1 : Nat) (v2 : Value) (f : List (List Int)) (lo2 hi2 : Nat) (a : Int) (w : World) (h1 : Net w lo1 hi1 v1 N) (hh1 : hi1 ≤ w.heap.size) (h2 : IntSS w lo2 hi2 v2 f) (hh2 : hi2 ≤ w.heap.size) (hz1 : N.sz ≤ 1048576) (hz2 : szSS f ≤ 1048576) (ok1 : N.Ok) (ok2 : ∀ l ∈ f, ∀ z ∈ l, I64 z) (ok3 : I64 a) :
    Calls Try.prog 8 #[v1, v2, .int .i64 a] w fun e w' => e = .returned (.tuple #[.bool (flR N f a), .bool (flOk N a)]) ∧ Below w.heap.size w w' := by
  clear ok1 ok2 ok3
  have F1 := Lib.hid h1
  obtain ⟨A1, c1, A1', c1', A1'', c1'', rfl, hc1, hd1, _⟩ := h1.parts
  clear h1
  have F2 := Lib.hid h2
  obtain ⟨A2, c2, rfl, hc2, hd2⟩ := h2.dims
  clear h2
  obtain ⟨WA, HWA⟩ : ∃ W, Hid (W = (w.alloc (.cells #[.slice A1 N.ends.length c1, .slice A1' N.ids.length c1', .slice A1'' N.inputs.length c1''] 33))) := ⟨_, Lib.hid rfl⟩
  have hbA : Below w.heap.size w WA := by rw [HWA.out]; exact ((Below.refl _ _).alloc (Nat.le_refl _) _)
  have hsA : w.heap.size + 1 ≤ WA.heap.size := by rw [HWA.out]; simp; try omega
  have bx1 : BoxN WA (w.heap.size) #[.slice A1 N.ends.length c1, .slice A1' N.ids.length c1', .slice A1'' N.inputs.length c1''] 33 := by rw [HWA.out]; exact (BoxN.new' _ _ _ (by simp))
  have G1 := Lib.hid (Net.below F1.out hbA hh1); clear F1
  have G2 := Lib.hid (ISS.below F2.out hbA hh2); clear F2
  go_enter Try.func8, Try.ntmps8
  go_upto_region 1 with (fail)
  rw [← HWA.out]; clear HWA
  have kbx1_0 : WA.cell? ⟨w.heap.size, 0, none⟩ = some (.slice A1 N.ends.length c1) := bx1.cell 0 (by simp)
  have kbx1_1 : WA.cell? ⟨w.heap.size, 1, none⟩ = some (.slice A1' N.ids.length c1') := bx1.cell 1 (by simp)
  have kbx1_2 : WA.cell? ⟨w.heap.size, 2, none⟩ = some (.slice A1'' N.inputs.length c1'') := bx1.cell 2 (by simp)
  go_wp2_with fail
  clear kbx1_0 kbx1_1 kbx1_2
  refine (orGood_any _ N lo1 hi1 _ G1.out (by omega) hz1).mono ?_
  rintro e W1 ⟨rfl, hb1⟩
  have hg1 := grown_below hb1; clear hb1
  have hs1 := hg1.size
  have HF1 := Lib.hid ((Turned.refl WA.heap.size WA.heap.size WA).still hg1)
  by_cases hG : N.stubless = true
  case neg =>
    have hG' : N.stubless = false := by simpa using hG
    rw [hG']
    have HNO := Lib.hid (show flOk N a = false by unfold flOk; rw [hG']; rfl); clear hG hG'
    go_wp2_with fail
    go_ret2
    exact ⟨ret_bb (flR_no (HNO.out) f).symm HNO.out.symm, (HF1.out.below_of hbA (by omega) (by omega))⟩
  rw [hG]
  have HST := Lib.hid hG; clear hG
  have HG := Lib.hid (stub_good HST.out)
  obtain ⟨n1, n40⟩ := good_n HG.out
  go_wp2_with fail
  refine (l1In_any a 1 6 _).mono ?_
  rintro e w' ⟨rfl, rfl⟩
  by_cases hA : inB a 1 6 = true
  case neg =>
    have hA' : inB a 1 6 = false := by simpa using hA
    rw [hA']
    have HNO := Lib.hid (show flOk N a = false by unfold flOk; rw [hA', Bool.and_false]); clear hA hA'
    go_wp2_with fail
    go_ret2
    exact ⟨ret_bb (flR_no (HNO.out) f).symm HNO.out.symm, (HF1.out.below_of hbA (by omega) (by omega))⟩
  rw [hA]
  obtain ⟨a1, a6⟩ := inB_le hA
  obtain ⟨m, rfl⟩ : ∃ m : Nat, a = m := ⟨a.toNat, by omega⟩
  have HOK := Lib.hid (show flOk N m = true by unfold flOk; rw [HST.out, hA]; rfl); clear hA
  have m1 : 1 ≤ m := by omega
  have m6 : m ≤ 6 := by omega
  clear a1 a6
  have HEQ := Lib.hid (show flR N f m = flS N f m by rw [flR_yes HOK.out f]; exact fl_eq HG.out (stub_no HST.out) f m1)
  have wm1 : IntKind.i64.wrap ((m : Int) - 1) = (m : Int) - 1 := IntWalk.i64_in _ (by omega)
  have kbx1_0 : W1.cell? ⟨w.heap.size, 0, none⟩ = some (.slice A1 N.ends.length c1) := (HF1.out.boxN bx1 (by omega)).cell 0 (by simp)
  have kbx1_1 : W1.cell? ⟨w.heap.size, 1, none⟩ = some (.slice A1' N.ids.length c1') := (HF1.out.boxN bx1 (by omega)).cell 1 (by simp)
  have kbx1_2 : W1.cell? ⟨w.heap.size, 2, none⟩ = some (.slice A1'' N.inputs.length c1'') := (HF1.out.boxN bx1 (by omega)).cell 2 (by simp)
  go_wp2_with fail
  clear kbx1_0 kbx1_1 kbx1_2
  refine (orPorts_any _ N lo1 hi1 _ f lo2 hi2 0 ((m : Int) - 1) _ (Net.turned G1.out HF1.out (by omega) (by omega)) (by omega) (ISS.turned G2.out HF1.out (by omega) (by omega)) (by omega) HG.out).mono ?_
  rintro e W2 ⟨rfl, hb2⟩
  have hg2 := grown_below hb2; clear hb2
  have hs2 := hg2.size
  have HF2 := Lib.hid (HF1.out.still hg2); clear HF1
  by_cases hP : portsIn N f 0 ((m : Int) - 1) = true
  case neg =>
    have hP' : portsIn N f 0 ((m : Int) - 1) = false := by simpa using hP
    rw [hP']
    have HNO := Lib.hid (show flS N f m = false by unfold flS; rw [hP']; rfl); clear hP hP'
    go_wp2_with fail
    go_ret2
    exact ⟨ret_bb (HEQ.out.trans HNO.out).symm HOK.out.symm, (HF2.out.below_of hbA (by omega) (by omega))⟩
  rw [hP]
  have HALL := Lib.hid (show flR N f m = (List.range m).all (passB N f) by rw [HEQ.out]; unfold flS; rw [hP]; rfl)
  have hpb := hP
  rw [portsIn_eq, Bool.and_eq_true] at hpb
  obtain ⟨hpb, _⟩ := hpb
  unfold portsB at hpb
  rw [Bool.and_eq_true, decide_eq_true_eq] at hpb
  obtain ⟨hfl, hfr⟩ := hpb
  have HFR := Lib.hid (show ∀ v, v < N.ends.length → (nthL f v).length = (nthL N.ends v).length from fun v hv => by simpa using rangeAll_at hfr (by omega : v < f.length))
  have hfl1 : f.length ≤ N.ends.length := by omega
  have hfl2 : N.ends.length ≤ f.length := by omega
  clear hP hfl hfr HEQ
  have hmk := fun W => run_make_row' (P := Try.prog) 23 3 (.int .i64 0) 8 Try.underlying23 Try.info3 rfl .i64 .i64 N.ends.length (by omega) (by omega) W
  obtain ⟨E, HE0⟩ : ∃ E, Hid ((edges N).map Quad.ints = E) := ⟨_, Lib.hid rfl⟩
  have HEL := Lib.hid (show E.length = (edges N).length by rw [← HE0.out, List.length_map])
  have N_2 := Lib.hid (Net.turned G1.out HF2.out (by omega) (by omega)); clear G1
  have f_2 := Lib.hid (ISS.turned G2.out HF2.out (by omega) (by omega)); clear G2
  have bx1_2 := HF2.out.boxN bx1 (by omega); clear bx1
  have hbA2 : Below w.heap.size w W2 := (HF2.out.below_of hbA (by omega) (by omega)); clear hbA HF2
  obtain ⟨bf, of, _, rfl, _, hbf, _, _⟩ := SS.opened f_2.out (j := 0) (by omega)
  go_wp2_with fail
  go_loopw [8] (fun kv wr => ∃ (k : Nat), k ≤ m ∧ kv = .int .i64 k ∧ Hid (∀ d, d < k → passB N f d = true) ∧ Hid (Turned W2.heap.size W2.heap.size W2 wr)) (fun kv _ => m - (intOf kv).toNat)
  case atStart => exact ⟨0, Nat.zero_le _, rfl, Lib.hid fun u hu => absurd hu (by omega), Lib.hid (Turned.refl W2.heap.size W2.heap.size W2)⟩
  case round =>
    obtain ⟨k, hk, rfl, HU, HF3⟩ := hrel
    have hs3 := HF3.out.size
    obtain ⟨wq, rfl⟩ : ∃ wq : World, wq = wr := ⟨_, rfl⟩
    by_cases hkm : k < m
    case neg =>
      obtain rfl : k = m := by omega
      go_wp2_with fail
      go_ret2
      exact ⟨ret_bb (by rw [HALL.out]; exact (rangeAll_true HU.out).symm) HOK.out.symm, (HF3.out.below_of hbA2 (by omega) (by omega))⟩
    have hkmi : (k : Int) < m := by omega
    have kbx1_0 : wq.cell? ⟨w.heap.size, 0, none⟩ = some (.slice A1 N.ends.length c1) := (HF3.out.boxN bx1_2 (by omega)).cell 0 (by simp)
    have kbx1_1 : wq.cell? ⟨w.heap.size, 1, none⟩ = some (.slice A1' N.ids.length c1') := (HF3.out.boxN bx1_2 (by omega)).cell 1 (by simp)
    have kbx1_2 : wq.cell? ⟨w.heap.size, 2, none⟩ = some (.slice A1'' N.inputs.length c1'') := (HF3.out.boxN bx1_2 (by omega)).cell 2 (by simp)
    go_upto_region 9 with (fail)
    clear kbx1_0 kbx1_1 kbx1_2
    refine nameC ?_
    intro W4 HW4
    have hg4 : wq.grownBy W4 none := by rw [HW4.out]; exact grown_alloc _ _
    have hs4 := hg4.size
    have HF4 := Lib.hid (HF3.out.still hg4); clear HF3
    have HO := Lib.hid (show IntS W4 wq.heap.size (wq.heap.size + 1) (.slice (some ⟨wq.heap.size, 0, none⟩) N.ends.length N.ends.length) (List.replicate N.ends.length 0) by rw [HW4.out]; exact made_ints _ _ _ rfl (by omega))
    have hz : wq.heap.size + 1 ≤ W4.heap.size := by rw [HW4.out]; simp
    clear HW4
    go_wp2_with fail
    go_loopw [42] (fun i wr => ∃ (u : Nat) (zs : List Int), u ≤ N.ends.length ∧ i = .int .i64 u ∧ Hid (IntS wr wq.heap.size (wq.heap.size + 1) (.slice (some ⟨wq.heap.size, 0, none⟩) N.ends.length N.ends.length) zs) ∧ Hid (zs.length = N.ends.length) ∧ Hid (∀ j, j < N.ends.length → nth zs j = if j < u then (fun j : Nat => (j : Int)) j else 0) ∧ wq.heap.size + 1 ≤ wr.heap.size ∧ Hid (Turned W2.heap.size W2.heap.size W2 wr)) (fun i _ => N.ends.length - (intOf i).toNat)
    case atStart => exact ⟨0, List.replicate N.ends.length 0, Nat.zero_le _, rfl, HO, Lib.hid (by simp), Lib.hid fun j hj => by rw [nth_replicate _ _ hj]; simp, hz, HF4⟩
    case round =>
      clear HF4
      obtain ⟨u, zs, hu, rfl, HO, HL, HZ, hz, HF5⟩ := hrel
      have hs5 := HF5.out.size
      by_cases hlt : u < N.ends.length
      case pos =>
        obtain ⟨x1, x2⟩ := HO.out.at0 (j := u) (by rw [HL.out]; exact hlt)
        have HS := Lib.hid (HO.out.set0 (j := u) (by rw [HL.out]; exact hlt) (u : Int))
        obtain ⟨y, HY⟩ : ∃ y, Hid (nth zs u = y) := ⟨_, Lib.hid rfl⟩
        rw [HY.out] at x1
        have hui : (u : Int) < N.ends.length := by omega
        go_wp2_with fail
        go_roundw
        case rel => exact ⟨u + 1, _, by omega, by go_num, HS, Lib.hid (by rw [List.length_set]; exact HL.out), Lib.hid (set_fold HL.out hlt HZ.out), by rw [size_setCell]; exact hz, Lib.hid (HF5.out.grown (grown_set _ ⟨wq.heap.size, u, none⟩ _) fun g hg => .inr (by cases hg; show _ ≤ wq.heap.size; omega))⟩
        case measure => simp [intOf]; omega
      obtain rfl : u = N.ends.length := by omega
      obtain rfl : zs = upTo N.ends.length := ext_nth (by rw [HL.out, upTo_length]) fun j hj => by
        rw [HL.out] at hj
        rw [HZ.out j hj, if_pos hj]; exact (nth_upTo hj).symm
      clear HL HZ hlt hu
      obtain ⟨wm, rfl⟩ : ∃ wm : World, wm = wr := ⟨_, rfl⟩
      have kbx1_0 : wm.cell? ⟨w.heap.size, 0, none⟩ = some (.slice A1 N.ends.length c1) := (HF5.out.boxN bx1_2 (by omega)).cell 0 (by simp)
      have kbx1_1 : wm.cell? ⟨w.heap.size, 1, none⟩ = some (.slice A1' N.ids.length c1') := (HF5.out.boxN bx1_2 (by omega)).cell 1 (by simp)
      have kbx1_2 : wm.cell? ⟨w.heap.size, 2, none⟩ = some (.slice A1'' N.inputs.length c1'') := (HF5.out.boxN bx1_2 (by omega)).cell 2 (by simp)
      go_wp2_with fail
      clear kbx1_0 kbx1_1 kbx1_2
      refine (neEdges_any _ N lo1 hi1 _ (Net.turned N_2.out HF5.out (by omega) (by omega)) (by omega) HG.out).mono ?_
      rintro e W6 ⟨r, rfl, hr, hb6⟩
      have hg6 := grown_below hb6; clear hb6
      have hs6 := hg6.size
      have HF6 := Lib.hid (HF5.out.still hg6); clear HF5
      have O6 := Lib.hid (IntS.still HO.out hg6 (by omega)); clear HO
      rw [HE0.out] at hr
      replace hr := hr.ss
      have E6 := Lib.hid hr; clear hr
      obtain ⟨Ae, ce, rfl, hce, hde⟩ := E6.out.dims
      go_wp2_with fail
      go_loopw [53] (fun jv wr => ∃ (j : Nat) (p : List Int), j ≤ E.length ∧ jv = .int .i64 j ∧ Hid (IntS wr wq.heap.size (wq.heap.size + 1) (.slice (some ⟨wq.heap.size, 0, none⟩) N.ends.length N.ends.length) p) ∧ Hid (p.length = N.ends.length) ∧ Hid (passF N f k ((edges N).take j) = some p) ∧ Hid (IntSS wr wm.heap.size W6.heap.size (.slice Ae E.length ce) E) ∧ W6.heap.size ≤ wr.heap.size ∧ Hid (Turned W2.heap.size W2.heap.size W2 wr)) (fun jv _ => E.length - (intOf jv).toNat)
      case atStart => exact ⟨0, upTo N.ends.length, Nat.zero_le _, rfl, O6, Lib.hid (upTo_length _), Lib.hid rfl, E6, Nat.le_refl _, HF6⟩
      case round =>
        clear HF6
        obtain ⟨j, p, hj, rfl, HO, HPL, HPF, HE, hze, HF7⟩ := hrel
        have hs7 := HF7.out.size
        obtain ⟨wt, rfl⟩ : ∃ wt : World, wt = wr := ⟨_, rfl⟩
        by_cases hje : j < E.length
        case neg =>
          obtain rfl : j = E.length := by omega
          have HPB := Lib.hid (show passB N f k = true by unfold passB; have h := HPF.out; rw [HEL.out, List.take_length] at h; rw [h]; rfl)
          go_wp2_with fail
          go_roundw
          case rel => exact ⟨k + 1, by omega, by go_num, Lib.hid fun d hd => (if e : d = k then by rw [e]; exact HPB.out else HU.out d (by omega)), HF7⟩
          case measure => simp [intOf]; omega
        have hje2 : j < (edges N).length := by rw [← HEL.out]; exact hje
        have hjei : (j : Int) < E.length := by omega
        obtain ⟨be, oe, ue, rfl, _, hbe, ze, hue⟩ := SS.opened HE.out hje
        have heq : nthL E j = (nthQ (edges N) j).ints := by rw [← HE0.out]; exact nthL_ints hje2
        obtain ⟨v, i, t, r, hq, hv, hi, ht, hr, het, het2, _⟩ := edge_nat HG.out (nthQ_mem hje2)
        rw [heq, hq] at hue
        have HTK := Lib.hid (show passF N f k ((edges N).take (j + 1)) = stE f k (some p) ⟨v, i, t, r⟩ by rw [passF_take hje2, HPF.out, hq])
        clear heq hq het het2
        simp only [Quad.ints] at hue
        obtain ⟨Ar, cr, rfl, hcr, hdr⟩ := hue.dims
        obtain ⟨br, orr, rfl, _, hbr, _, _⟩ := IntS.opened hue (j := 0) (by simp)
        have r0 : wt.cell? ⟨br, orr, none⟩ = some (.int .i64 v) := (IntS.at_ hue (j := 0) (by simp)).1
        have r1 : wt.cell? ⟨br, orr + 1, none⟩ = some (.int .i64 i) := (IntS.at_ hue (j := 1) (by simp)).1
        have r2 : wt.cell? ⟨br, orr + 2, none⟩ = some (.int .i64 t) := (IntS.at_ hue (j := 2) (by simp)).1
        have r3 : wt.cell? ⟨br, orr + 3, none⟩ = some (.int .i64 r) := (IntS.at_ hue (j := 3) (by simp)).1
        clear hue
        have hvf : v < f.length := by omega
        have htf : t < f.length := by omega
        have hvfi : (v : Int) < f.length := by omega
        have htfi : (t : Int) < f.length := by omega
        obtain ⟨u1, hb1, z1, hu1⟩ := SS.openedIn (ISS.turned f_2.out HF7.out (by omega) (by omega)) hvf
        obtain ⟨u2, hb2', z2, hu2⟩ := SS.openedIn (ISS.turned f_2.out HF7.out (by omega) (by omega)) htf
        obtain ⟨A3, c3, rfl, hc3, hd3⟩ := hu1.dims
        obtain ⟨A4, c4, rfl, hc4, hd4⟩ := hu2.dims
        have hi3 : i < (nthL f v).length := by rw [HFR.out v hv]; exact hi
        have hr3 : r < (nthL f t).length := by rw [HFR.out t ht]; exact hr
        obtain ⟨b3, o3, rfl, _, hb3, y1, _⟩ := hu1.opened hi3
        obtain ⟨b4, o4, rfl, _, hb4, y2, _⟩ := hu2.opened hr3
        have hi3i : (i : Int) < (nthL f v).length := by omega
        have hr3i : (r : Int) < (nthL f t).length := by omega
        obtain ⟨x, HX⟩ : ∃ x, Hid (nth (nthL f v) i = x) := ⟨_, Lib.hid rfl⟩
        obtain ⟨y, HY⟩ : ∃ y, Hid (nth (nthL f t) r = y) := ⟨_, Lib.hid rfl⟩
        rw [HX.out] at y1
        rw [HY.out] at y2
        have hpv : v < p.length := by rw [HPL.out]; exact hv
        have hpt : t < p.length := by rw [HPL.out]; exact ht
        have p1 := (IntS.at0 HO.out hpv).1
        have p2 := (IntS.at0 HO.out hpt).1
        obtain ⟨px, HPX⟩ : ∃ x, Hid (nth p v = x) := ⟨_, Lib.hid rfl⟩
        obtain ⟨py, HPY⟩ : ∃ y, Hid (nth p t = y) := ⟨_, Lib.hid rfl⟩
        rw [HPX.out] at p1
        rw [HPY.out] at p2
        have hvi : (v : Int) < N.ends.length := by omega
        have hti : (t : Int) < N.ends.length := by omega
        have HST2 := Lib.hid (show stE f k (some p) ⟨v, i, t, r⟩ = if x = y then (if x = (k : Int) then (if px = py then none else some (relab p px py)) else some p) else none by
          have h1 : symQ f ⟨v, i, t, r⟩ = decide (x = y) := by
            have e1 : colQ f ⟨v, i, t, r⟩ = x := HX.out
            have e2 : colF f (⟨v, i, t, r⟩ : Quad).w.toNat (⟨v, i, t, r⟩ : Quad).j.toNat = y := HY.out
            unfold symQ; rw [e1, e2]
          have h2 : colQ f ⟨v, i, t, r⟩ = x := HX.out
          simp only [stE, h1, h2, Int.toNat_natCast, HPX.out, HPY.out, decide_eq_true_eq])
        clear hu1 hu2
        by_cases hxy : x = y
        case neg =>
          have hxy' : (x != y) = true := by simpa using hxy
          go_wp2_with fail
          go_quiet (fail)
          have HPB := Lib.hid (show passB N f k = false from pass_stop (j := j + 1) (by rw [HTK.out, HST2.out]; rw [if_neg hxy]))
          go_wp2_with fail
          go_ret2
          exact ⟨ret_bb (by rw [HALL.out]; exact (rangeAll_false hkm HPB.out).symm) HOK.out.symm, (Turned.below_of (HF7.out.still (grown_drewN _ _)) hbA2 (by omega) (by omega))⟩
        have hxy' : (x != y) = false := by simpa using hxy
        rw [if_pos hxy] at HST2
        clear hxy
        go_wp2_with fail
        go_quiet (fail)
        go_wp2_with fail
        by_cases hxk : x = (k : Int)
        case neg =>
          have hxk' : (x != (k : Int)) = true := by simpa using hxk
          go_quiet (fail)
          go_wp2_with fail
          go_roundw
          case rel => exact ⟨j + 1, p, by omega, by go_num, Lib.hid (IntS.still HO.out (grown_drewN _ _) (by omega)), HPL, Lib.hid (by rw [HTK.out, HST2.out, if_neg hxk]), Lib.hid (ISS.still HE.out (grown_drewN _ _) (by omega)), by show _ ≤ wt.heap.size; omega, Lib.hid (HF7.out.still (grown_drewN _ _))⟩
          case measure => simp [intOf]; omega
        have hxk' : (x != (k : Int)) = false := by simpa using hxk
        rw [if_pos hxk] at HST2
        clear hxk
        go_quiet (fail)
        go_wp2_with fail
        go_quiet (fail)
        by_cases hpp : px = py
        case neg =>
          have hpp' : (px == py) = false := by simpa using hpp
          rw [if_neg hpp] at HST2
          have HPP := Lib.hid hpp; clear hpp
          go_upto_region 23 with (fail)
          clear r0 r1 r2 r3 y1 y2 z1 z2 ze p1 p2
          refine nameC ?_
          intro W90 HW90
          have hg90 : wt.grownBy W90 none := by rw [HW90.out]; first | exact ⟨rfl, rfl, rfl, Nat.le_refl _, fun _ _ _ => rfl⟩ | exact grown_drewN _ _
          clear HW90
          have hs90 := hg90.size
          have HF90 := Lib.hid (HF7.out.still hg90); clear HF7
          have O90 := Lib.hid (IntS.still HO.out hg90 (by omega)); clear HO
          have E90 := Lib.hid (ISS.still HE.out hg90 (by omega)); clear HE
          go_wp2_with fail
          go_loopw [110] (fun uv wr => ∃ (u : Nat) (zs : List Int), u ≤ N.ends.length ∧ uv = .int .i64 u ∧ Hid (IntS wr wq.heap.size (wq.heap.size + 1) (.slice (some ⟨wq.heap.size, 0, none⟩) N.ends.length N.ends.length) zs) ∧ Hid (zs.length = N.ends.length) ∧ Hid (∀ j, j < N.ends.length → nth zs j = if j < u then nth (relab p px py) j else nth p j) ∧ Hid (IntSS wr wm.heap.size W6.heap.size (.slice (some ⟨be, oe, none⟩) E.length ce) E) ∧ W6.heap.size ≤ wr.heap.size ∧ Hid (Turned W2.heap.size W2.heap.size W2 wr)) (fun uv _ => N.ends.length - (intOf uv).toNat)
          case atStart => exact ⟨0, p, Nat.zero_le _, rfl, O90, HPL, Lib.hid fun j hj => by rw [if_neg (by omega)], E90, by omega, HF90⟩
          case round =>
            clear HF90
            obtain ⟨u, zs, hu, rfl, HO, HL, HZ, HE, hze, HF91⟩ := hrel
            have hs91 := HF91.out.size
            by_cases hlt : u < N.ends.length
            case neg =>
              obtain rfl : u = N.ends.length := by omega
              obtain rfl : zs = relab p px py := ext_nth (by rw [HL.out, relab_len, HPL.out]) fun j hj => by
                rw [HL.out] at hj
                rw [HZ.out j hj, if_pos hj]
              go_wp2_with fail
              go_roundw
              case rel => exact ⟨j + 1, _, by omega, by go_num, HO, HL, Lib.hid (by rw [HTK.out, HST2.out]), HE, hze, HF91⟩
              case measure => simp [intOf]; omega
            obtain ⟨x1, x2⟩ := HO.out.at0 (j := u) (by rw [HL.out]; exact hlt)
            have hzu := HZ.out u hlt
            rw [if_neg (by omega)] at hzu
            have hui : (u : Int) < N.ends.length := by omega
            obtain ⟨z, HZ2⟩ : ∃ z, Hid (nth p u = z) := ⟨_, Lib.hid rfl⟩
            have HRU := Lib.hid (nth_relab (p := p) (x := px) (y := py) (u := u) (by rw [HPL.out]; exact hlt))
            rw [hzu, HZ2.out] at x1
            rw [HZ2.out] at HRU
            by_cases hzy : z = py
            case neg =>
              have hzy' : (z == py) = false := by simpa using hzy
              rw [if_neg hzy] at HRU
              have HZN := Lib.hid (show ∀ j, j < N.ends.length → nth zs j = if j < u + 1 then nth (relab p px py) j else nth p j from fun j hj => by
                rw [HZ.out j hj]
                by_cases e : j = u
                · rw [e, if_neg (by omega), if_pos (by omega), HRU.out, HZ2.out]
                · by_cases e2 : j < u
                  · rw [if_pos e2, if_pos (by omega)]
                  · rw [if_neg e2, if_neg (by omega)])
              clear hzy hzu
              go_wp2_with fail
              go_roundw
              case rel => exact ⟨u + 1, zs, by omega, by go_num, HO, HL, HZN, HE, hze, HF91⟩
              case measure => simp [intOf]; omega
            have hzy' : (z == py) = true := by simpa using hzy
            rw [if_pos hzy] at HRU
            have HS := Lib.hid (HO.out.set0 (j := u) (by rw [HL.out]; exact hlt) px)
            have HZN := Lib.hid (show ∀ j, j < N.ends.length → nth (zs.set u px) j = if j < u + 1 then nth (relab p px py) j else nth p j from fun j hj => by
              rw [nth_set _ _ _ _ (by rw [HL.out]; exact hlt)]
              by_cases e : j = u
              · rw [if_pos e, if_pos (by omega), e, HRU.out]
              · rw [if_neg e, HZ.out j hj]
                by_cases e2 : j < u
                · rw [if_pos e2, if_pos (by omega)]
                · rw [if_neg e2, if_neg (by omega)])
            clear hzy hzu
            have HEN := Lib.hid (ISS.far HE.out (grown_set _ ⟨wq.heap.size, u, none⟩ (.int .i64 px)) (by omega) (fun g hg => .inl (by cases hg; show wq.heap.size < _; omega)))
            have HFN := Lib.hid (HF91.out.grown (grown_set _ ⟨wq.heap.size, u, none⟩ (.int .i64 px)) fun g hg => .inr (by cases hg; show _ ≤ wq.heap.size; omega))
            go_wp2_with fail
            go_roundw
            case rel => exact ⟨u + 1, _, by omega, by go_num, HS, Lib.hid (by rw [List.length_set]; exact HL.out), HZN, HEN, by rw [size_setCell]; exact hze, HFN⟩
            case measure => simp [intOf]; omega
        have hpp' : (px == py) = true := by simpa using hpp
        have HPB := Lib.hid (show passB N f k = false from pass_stop (j := j + 1) (by rw [HTK.out, HST2.out]; rw [if_pos hpp]))
        go_wp2_with fail
        go_ret2
        exact ⟨ret_bb (by rw [HALL.out]; exact (rangeAll_false hkm HPB.out).symm) HOK.out.symm, (Turned.below_of (HF7.out.still (grown_drewN _ _)) hbA2 (by omega) (by omega))⟩

end Go.Proofs.Ytmfjdiccohgihaa
