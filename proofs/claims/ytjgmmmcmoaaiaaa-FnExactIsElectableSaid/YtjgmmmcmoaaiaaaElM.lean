/-
  Memory of the classes of views: a map whose keys are arrays of 14 numbers. No condition on any program.
-/
import Derived.Test.YtjgmmmcmoaaiaaaElP
import Derived.Test.YtjgmmmcmoaaiaaaFrame
import Derived.Test.YtjgmmmcmoaaiaaaReg
import Derived.Maps.OwnSet
import Derived.Maps.OwnOps
import Derived.WideKeyEntry
import Derived.DeepKeys5
namespace Go.Proofs.Ytjgmmmcmoaaiaaa
open Go.ChangeShapes Go.WideShapes Go.ChangeAt Go.RowKit
set_option linter.unusedVariables false

theorem Try.laidB : laidOutB Try.prog = true := by kernel_rfl
theorem Try.keyLawV : WideMaps.KeyLaw Try.prog 68 :=
  deep_law_gate Try.laidB (of_decide_eq_true (by kernel_rfl)) (of_decide_eq_true (by kernel_rfl)) (by kernel_rfl) (by rw [Try.underlying68])
theorem Try.keyedV : Maps.Keyed Try.prog 68 := Maps.Keyed.of_law Try.keyLawV
theorem Try.zeroI (w : World) : (zeroValue 3).run Try.prog w = .ok (.int .i64 0) w := by kernel_rfl
theorem Try.sizeT : ∃ d, Try.prog.types.size = d + 1 := ⟨Try.prog.types.size - 1, by have : 0 < Try.prog.types.size := of_decide_eq_true (by kernel_rfl); omega⟩
theorem wfI {x : Int} (h : I64 x) : (Lit.int .i64 x).wf = true := by unfold I64 at h; simp [Lit.wf, IntKind.min, IntKind.max, IntKind.signed, IntKind.bits]; omega
/-- the cells of an array of numbers -/
def arr (zs : List Int) : Array Value := (zs.map (Value.int .i64)).toArray
theorem arr_size (zs : List Int) : (arr zs).size = zs.length := by simp [arr]
theorem arr_at {zs : List Int} {j : Nat} (h : j < zs.length) : (arr zs)[j]? = some (.int .i64 (nth zs j)) := by
  rw [nth_eq h]; simp [arr, h]
theorem arr_set (zs : List Int) (j : Nat) (x : Int) : (arr zs).setIfInBounds j (.int .i64 x) = arr (zs.set j x) := by
  simp [arr, List.map_set]
/-- the literal of an array as a key -/
def lits (zs : List Int) : List Lit := zs.map (Lit.int .i64)
def ka (zs : List Int) : Lit := .string (keyBytes (lits zs))
theorem lits_inj {a b : List Int} (h : lits a = lits b) : a = b := by
  unfold lits at h
  exact (List.map_inj_right (fun x y h => by injection h)).1 h
theorem mapM_some {α β : Type} {f : α → Option β} {g : α → β} : ∀ {l : List α}, (∀ x ∈ l, f x = some (g x)) → l.mapM f = some (l.map g)
  | [], _ => by simp
  | a :: l, h => by
    rw [List.mapM_cons, h a (by simp), mapM_some (fun x hx => h x (by simp [hx]))]
    rfl
theorem flat_one {α : Type} {n : Nat} (f : Nat → α) : ((List.range n).map fun i => [f i]).flatten = (List.range n).map f := by
  rw [← List.flatMap_def]
  induction n with
  | zero => rfl
  | succ n ih => rw [List.range_succ, List.flatMap_append, ih, List.map_append]; simp
theorem kaL {zs : List Int} (hl : zs.length = 14) (h : ∀ z ∈ zs, I64 z) : Try.prog.keyLits (Try.prog.types.size + 1) 68 (zs.map (Value.int .i64)) = some (lits zs) := by
  obtain ⟨d, hd⟩ := Try.sizeT
  have h2 : Try.prog.cellsOf 68 = 14 := by kernel_rfl
  have h1 : Try.prog.cellsOf 3 = 1 := by kernel_rfl
  have hone : ∀ i ∈ List.range 14, Try.prog.keyLits (d + 1) 3 (((zs.map (Value.int .i64)).drop (i * 1)).take 1) = some [Lit.int .i64 (nth zs i)] := fun i hi => by
    have hi' : i < zs.length := by rw [hl]; exact List.mem_range.1 hi
    have e : ((zs.map (Value.int .i64)).drop (i * 1)).take 1 = [Value.int .i64 (nth zs i)] := by
      rw [Nat.mul_one, List.drop_eq_getElem_cons (by simpa using hi')]
      simp [nth_eq hi']
    rw [e]
    unfold Program.keyLits
    rw [Try.underlying3]
    simp [wfI (h _ (nth_mem hi'))]
  rw [hd]
  unfold Program.keyLits
  rw [Try.underlying68]
  have hm := mapM_some (g := fun i => [Lit.int .i64 (nth zs i)]) hone
  simp only [h2, h1, List.length_map, hl, if_true]
  rw [hm]
  simp only [Option.map_some]
  rw [flat_one]
  have HE : (List.range 14).map (fun i => Lit.int .i64 (nth zs i)) = lits zs := by
   unfold lits
   apply List.ext_getElem
   · simp [hl]
   · intro i hi _
     have hi' : i < zs.length := by simp at hi; omega
     simp [nth_eq hi']
  rw [HE]
theorem keyA {zs : List Int} (hl : zs.length = 14) (h : ∀ z ∈ zs, I64 z) : keyOf Try.prog 68 (.agg (arr zs)) = some (ka zs) := by
  have h0 : Try.prog.keyType 68 = true := by kernel_rfl
  have h2 : Try.prog.cellsOf 68 = 14 := by kernel_rfl
  unfold keyOf
  rw [Try.underlying68]
  have hf : (Value.agg (arr zs)).formed Try.prog 68 = true := by simp [Value.formed, Try.underlying68, h2, arr_size, hl]
  have := kaL hl h
  simp only [h0, hf, Bool.and_self, if_true]
  rw [show (Value.agg (arr zs)).cells.toList = zs.map (Value.int .i64) from by simp [Value.cells, arr], this]
  rfl
theorem ka_inj {a b : List Int} (ha : a.length = 14) (hb : b.length = 14) (h1 : ∀ z ∈ a, I64 z) (h2 : ∀ z ∈ b, I64 z) (h : ka a = ka b) : a = b := by
  unfold ka at h
  injection h with h
  exact lits_inj (keyLits_inj (kaL ha h1) (kaL hb h2) h)

/-- block b is a map from the keys of the first k nodes to their classes -/
def MpV (key : Nat → List Int) (k : Nat) (w : World) (b : Nat) : Prop :=
  ∃ D : DataW Unit, w.ownsMap Try.prog 68 (plainElem Try.prog 3) b k D ∧ Maps.size D = many key k ∧
    (∀ v, Maps.has D (ka (key v)) = true ↔ ∃ u, u < k ∧ key u = key v) ∧ ∀ v, v < k → D.atKey (ka (key v)) (.lit (.int .i64 0)) = .lit (.int .i64 (cls key v))
section
variable {key : Nat → List Int} {k b : Nat} {w w' : World}
theorem MpV.new (key : Nat → List Int) (w : World) : MpV key 0 (w.alloc (.map #[] 0)) w.heap.size :=
  ⟨.map [], World.ownsMap_made _ _ _ _, rfl, fun v => ⟨fun h => by simp [Maps.has_eq] at h, fun ⟨u, h, _⟩ => by omega⟩, fun v h => by omega⟩
theorem MpV.lt (h : MpV key k w b) : b < w.heap.size := let ⟨_, h, _⟩ := h; h.lt
theorem MpV.far {row : Option Nat} (h : MpV key k w b) (hg : w.grownBy w' row) (hr : ∀ g, row = some g → g ≠ b) : MpV key k w' b :=
  let ⟨D, h2, h3⟩ := h; ⟨D, h2.kept hg (fun e => hr b e.symm rfl), h3⟩
theorem MpV.still (h : MpV key k w b) (hg : w.grownBy w' none) : MpV key k w' b := h.far hg (fun _ e => by cases e)
theorem MpV.len (h : MpV key k w b) (ty : TypeId) : (Builtin.len_ #[66] ty #[.map (some b)]).run Try.prog w = .ok (.int .i64 (many key k : Nat)) w := by
  obtain ⟨D, h1, h2, _⟩ := h
  rw [h1.len Try.underlying66 ty, h2]
/-- the look-up of the next node's key -/
theorem MpV.look (h : MpV key k w b) (hl : ∀ v, (key v).length = 14) (hi : ∀ v, ∀ z ∈ key v, I64 z) :
    ∃ c : Int, (Instr.lookup 66 (.map (some b)) (.agg (arr (key k))) true).run Try.prog w = .ok (.tuple #[.int .i64 c, .bool (old key k)]) w ∧ (old key k = true → c = cls key k) := by
  obtain ⟨D, h1, h2, h3, h4⟩ := h
  obtain ⟨v, ps, hrun, hv⟩ := h1.look_ok Try.keyedV Try.underlying66 (Try.zeroI w) (plainElem_int Try.underlying3 (by decide) : plainElem (H := Unit) Try.prog 3 (.int .i64 0) = some (.lit (.int .i64 0), [])) (keyA (hl k) (hi k))
  obtain ⟨c, rfl, hc, hwc⟩ := plainElem_int_inv Try.underlying3 hv
  have hh : Maps.has D (ka (key k)) = old key k := by
    rw [Bool.eq_iff_iff, h3 k, old_iff]
  rw [hh] at hrun
  refine ⟨c, hrun, fun ho => ?_⟩
  obtain ⟨u, hu, hk⟩ := old_iff.1 ho
  have := h4 u hu
  rw [hk] at this
  have h5 := congrArg Prod.fst hc
  dsimp only at h5
  rw [this] at h5
  injection h5 with h5
  injection h5 with _ h5
  rw [← h5, cls_same hk]
theorem MpV.skip (h : MpV key k w b) (ho : old key k = true) : MpV key (k + 1) w b := by
  obtain ⟨D, h1, h2, h3, h4⟩ := h
  obtain ⟨u0, hu0, hk0⟩ := old_iff.1 ho
  refine ⟨D, h1.mono (by omega), by rw [many_succ, if_pos ho, h2]; rfl, fun v => ?_, fun v hv => ?_⟩
  · rw [h3 v]
    constructor
    · rintro ⟨u, hu, e⟩; exact ⟨u, by omega, e⟩
    · rintro ⟨u, hu, e⟩
      by_cases hu2 : u = k
      · subst hu2; exact ⟨u0, hu0, hk0.trans e⟩
      · exact ⟨u, by omega, e⟩
  · by_cases e : v = k
    · subst e
      have := h4 u0 hu0
      rw [hk0] at this
      rw [this, cls_same hk0]
    · exact h4 v (by omega)
theorem MpV.put (h : MpV key k w b) (hk : k < 100000) (hl : ∀ v, (key v).length = 14) (hi : ∀ v, ∀ z ∈ key v, I64 z) (ho : old key k = false) :
    ∃ w', (Instr.mapUpdate 66 (.map (some b)) (.agg (arr (key k))) (.int .i64 (many key k : Nat))).run Try.prog w = .ok () w' ∧ w.grownBy w' (some b) ∧ MpV key (k + 1) w' b := by
  obtain ⟨D, h1, h2, h3, h4⟩ := h
  have hm := many_le key k
  obtain ⟨w', hU, hown, hg⟩ := h1.update Try.keyedV Try.underlying66 (show k < maxLen by unfold maxLen; omega) (keyA (hl k) (hi k)) (plainElem_int (H := Unit) Try.underlying3 (wfI (x := (many key k : Nat)) (by unfold I64; omega)))
  have hno : Maps.has D (ka (key k)) = false := by
    rw [Bool.eq_false_iff]
    intro hh
    obtain ⟨u, hu, e⟩ := (h3 k).1 hh
    exact old_false.1 ho u hu e
  refine ⟨w', hU, hg, _, hown, ?_, fun v => ?_, fun v hv => ?_⟩
  · rw [Maps.size_put (h1.tidy Try.keyedV), hno, h2, many_succ, ho]; simp
  · by_cases e : key v = key k
    · rw [e, Maps.has_put_same h1.isMap (by trivial)]
      exact ⟨fun _ => ⟨k, by omega, rfl⟩, fun _ => rfl⟩
    · rw [Maps.has_put_other (fun e2 => e (ka_inj (hl v) (hl k) (hi v) (hi k) e2)), h3 v]
      constructor
      · rintro ⟨u, hu, e⟩; exact ⟨u, by omega, e⟩
      · rintro ⟨u, hu, e2⟩
        refine ⟨u, ?_, e2⟩
        by_cases hu2 : u = k
        · subst hu2; exact absurd e2.symm e
        · omega
  · by_cases e : v = k
    · subst e
      rw [Maps.atKey_put_same h1.isMap (by trivial), cls_new ho]
    · have : key v ≠ key k := old_false.1 ho v (by omega)
      rw [Maps.atKey_put_other (fun e2 => this (ka_inj (hl v) (hl k) (hi v) (hi k) e2)), h4 v (by omega)]
end

end Go.Proofs.Ytjgmmmcmoaaiaaa
