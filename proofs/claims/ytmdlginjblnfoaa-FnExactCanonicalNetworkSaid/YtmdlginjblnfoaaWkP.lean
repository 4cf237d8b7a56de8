/-
  Plain: the walk from a node, in the order in which nodes are found, and its code; a map that numbers the nodes of a list. No condition on any program.
-/
import Derived.Test.YtmdlginjblnfoaaGood
import Derived.Test.YtmdlginjblnfoaaDistP
import Derived.Test.YtmdlginjblnfoaaTreeP
import Derived.Test.YtmdlginjblnfoaaOwn
import Derived.Test.YtmdlginjblnfoaaIte
namespace Go.Proofs.Ytmdlginjblnfoaa
open Go.ChangeShapes Go.WideShapes Go.ChangeAt Go.RowKit
set_option linter.unusedVariables false

def wkStep (L : List Int) (x : Int) : List Int := if x ∈ L then L else L ++ [x]
def wkRow (N : NetD) (L : List Int) (u m : Nat) : List Int := ((nbs N u).take m).foldl wkStep L
def wkGo (N : NetD) : Nat → Nat → List Int → List Int
  | 0, _, L => L
  | f + 1, a, L => if a < L.length then wkGo N f (a + 1) (wkRow N L (nth L a).toNat (nbs N (nth L a).toNat).length) else L
def walkN (N : NetD) (v : Nat) : List Int := wkGo N (N.ends.length + 1) 0 [(v : Int)]
theorem wkRow_zero (N : NetD) (L : List Int) (u : Nat) : wkRow N L u 0 = L := rfl
theorem wkRow_succ (N : NetD) (L : List Int) (u : Nat) {m : Nat} (h : m < (nbs N u).length) : wkRow N L u (m + 1) = wkStep (wkRow N L u m) (nth (nbs N u) m) := by
  unfold wkRow; rw [List.take_succ_eq_append_getElem h, List.foldl_append, nth_eq h]; rfl
/-- the nodes found so far: each once -/
structure WkOk (N : NetD) (L : List Int) : Prop where
  nodup : L.Nodup
  node : ∀ x ∈ L, ∃ t : Nat, x = t ∧ t < N.ends.length
theorem WkOk.step {N : NetD} {L : List Int} (h : WkOk N L) {t : Nat} (ht : t < N.ends.length) : WkOk N (wkStep L (t : Int)) := by
  unfold wkStep
  split
  · exact h
  · rename_i hm
    refine ⟨?_, fun x hx => ?_⟩
    · rw [List.nodup_append]
      exact ⟨h.nodup, by simp, fun a ha b hb => by simp at hb; subst hb; rintro rfl; exact hm ha⟩
    · rw [List.mem_append, List.mem_singleton] at hx
      rcases hx with hx | rfl
      · exact h.node x hx
      · exact ⟨t, rfl, ht⟩
theorem nodupI_len : ∀ (l : List Int) (m : List Int), l.Nodup → (∀ x ∈ l, x ∈ m) → l.length ≤ m.length
  | [], m, _, _ => Nat.zero_le _
  | a :: l, m, hn, h => by
    rw [List.nodup_cons] at hn
    have ha : a ∈ m := h a (by simp)
    have hle := nodupI_len l (m.erase a) hn.2 fun x hx => (List.mem_erase_of_ne (fun e => hn.1 (by rw [← e]; exact hx))).2 (h x (List.mem_cons_of_mem _ hx))
    rw [List.length_erase_of_mem ha] at hle
    have := List.length_pos_of_mem ha
    simp only [List.length_cons]; omega
theorem WkOk.len {N : NetD} {L : List Int} (h : WkOk N L) : L.length ≤ N.ends.length := by
  have := nodupI_len L ((List.range N.ends.length).map fun (k : Nat) => (k : Int)) h.nodup (fun x hx => by
    obtain ⟨t, rfl, ht⟩ := h.node x hx
    exact List.mem_map.2 ⟨t, List.mem_range.2 ht, rfl⟩)
  simpa using this
theorem WkOk.at_ {N : NetD} {L : List Int} (h : WkOk N L) {k : Nat} (hk : k < L.length) : ∃ t : Nat, nth L k = t ∧ t < N.ends.length := h.node _ (nth_mem hk)
theorem WkOk.row {N : NetD} (hN : N.nodes) {L : List Int} (h : WkOk N L) {u : Nat} (hu : u < N.ends.length) : ∀ m, m ≤ (nbs N u).length → WkOk N (wkRow N L u m)
  | 0, _ => h
  | m + 1, hm => by
    rw [wkRow_succ _ _ _ (by omega)]
    obtain ⟨t, et, ht⟩ := hN u hu m (by rw [nbs_length] at hm; omega)
    rw [nth_nbs N u (by rw [nbs_length] at hm; omega), et]
    exact (WkOk.row hN h hu m (by omega)).step ht
theorem wkStep_pre (L : List Int) (x : Int) : L <+: wkStep L x := by
  unfold wkStep; split
  · exact List.prefix_refl _
  · exact List.prefix_append _ _
theorem wkRow_pre (N : NetD) (L : List Int) (u : Nat) : ∀ m, m ≤ (nbs N u).length → L <+: wkRow N L u m
  | 0, _ => List.prefix_refl _
  | m + 1, h => by rw [wkRow_succ _ _ _ (by omega)]; exact (wkRow_pre N L u m (by omega)).trans (wkStep_pre _ _)
theorem nth_pre {a b : List Int} (h : a <+: b) {k : Nat} (hk : k < a.length) : nth b k = nth a k := by
  obtain ⟨r, rfl⟩ := h
  unfold nth
  simp [List.getElem?_append_left hk]
/-- where the walk stands -/
structure WkTop (N : NetD) (v a : Nat) (L : List Int) : Prop where
  ok : WkOk N L
  le : a ≤ L.length
  eq : walkN N v = wkGo N (N.ends.length + 1 - a) a L
theorem WkTop.start {N : NetD} {v : Nat} (hv : v < N.ends.length) : WkTop N v 0 [(v : Int)] :=
  ⟨⟨by simp, fun x hx => ⟨v, by simpa using hx, hv⟩⟩, Nat.zero_le _, rfl⟩
theorem WkTop.next {N : NetD} (hN : N.nodes) {v a : Nat} {L : List Int} (h : WkTop N v a L) (ha : a < L.length) {u : Nat} (hu : nth L a = u) (hun : u < N.ends.length) : WkTop N v (a + 1) (wkRow N L u (nbs N u).length) := by
  have hl := h.ok.len
  have hp := (wkRow_pre N L u _ (Nat.le_refl _)).length_le
  refine ⟨h.ok.row hN hun _ (Nat.le_refl _), by omega, ?_⟩
  rw [h.eq, show N.ends.length + 1 - a = (N.ends.length + 1 - (a + 1)) + 1 by omega]
  show (if a < L.length then _ else _) = _
  rw [if_pos ha, hu, Int.toNat_natCast]
theorem WkTop.stop {N : NetD} {v : Nat} {L : List Int} (h : WkTop N v L.length L) : walkN N v = L := by
  rw [h.eq]
  have hl := h.ok.len
  rw [show N.ends.length + 1 - L.length = (N.ends.length - L.length) + 1 by omega]
  show (if L.length < L.length then _ else _) = _
  rw [if_neg (by omega)]
theorem walk_top {N : NetD} (hN : N.nodes) {v : Nat} (hv : v < N.ends.length) : WkTop N v (walkN N v).length (walkN N v) := by
  have key : ∀ f a L, WkTop N v a L → N.ends.length - a = f → ∃ L', WkTop N v L'.length L' := by
    intro f
    induction f with
    | zero =>
      intro a L h e
      have := h.ok.len; have := h.le
      exact ⟨L, by rw [show L.length = a by omega]; exact h⟩
    | succ f ih =>
      intro a L h e
      by_cases ha : a < L.length
      · obtain ⟨u, hu, hun⟩ := h.ok.at_ ha
        exact ih (a + 1) _ (h.next hN ha hu hun) (by omega)
      · exact ⟨L, by rw [show L.length = a by have := h.le; omega]; exact h⟩
  obtain ⟨L, h⟩ := key _ 0 _ (WkTop.start hv) rfl
  rw [h.stop]; exact h
theorem walk_ok {N : NetD} (hN : N.nodes) {v : Nat} (hv : v < N.ends.length) : WkOk N (walkN N v) := (walk_top hN hv).ok
theorem walk_pos {N : NetD} (hN : N.nodes) {v : Nat} (hv : v < N.ends.length) : (v : Int) ∈ walkN N v := by
  have key : ∀ f a L, (v : Int) ∈ L → (v : Int) ∈ wkGo N f a L := by
    intro f
    induction f with
    | zero => intro a L h; exact h
    | succ f ih =>
      intro a L h
      show (v : Int) ∈ (if a < L.length then _ else _)
      split
      · exact ih _ _ ((wkRow_pre N L _ _ (Nat.le_refl _)).subset h)
      · exact h
  exact key _ _ _ (by simp)

/-- the index of a node in a list; 0 where it is not -/
def numV (L : List Int) (x : Int) : Int := if x ∈ L then (L.idxOf x : Int) else 0
def codeRow (N : NetD) (L : List Int) (u m : Nat) : List Int := ((nthL N.ends u).take m).flatMap fun e => [numV L e.1, e.2]
def codeHead (N : NetD) (u : Nat) : List Int := [((nthL N.ends u).length : Int), nth N.inputs u, if 0 < N.ids.length then nth N.ids u else 0]
def codeTo (N : NetD) (L : List Int) (k : Nat) : List Int := (L.take k).flatMap fun x => codeHead N x.toNat ++ codeRow N L x.toNat (nthL N.ends x.toNat).length
def codeN (N : NetD) (L : List Int) : List Int := codeTo N L L.length
theorem codeRow_succ (N : NetD) (L : List Int) (u : Nat) {m : Nat} (h : m < (nthL N.ends u).length) : codeRow N L u (m + 1) = codeRow N L u m ++ [numV L (nthE (nthL N.ends u) m).1, (nthE (nthL N.ends u) m).2] := by
  unfold codeRow; rw [List.take_succ_eq_append_getElem h, List.flatMap_append, nthE_eq h]; simp
theorem codeTo_succ (N : NetD) (L : List Int) {k u : Nat} (h : k < L.length) (hu : nth L k = (u : Int)) : codeTo N L (k + 1) = codeTo N L k ++ (codeHead N u ++ codeRow N L u (nthL N.ends u).length) := by
  unfold codeTo; rw [List.take_succ_eq_append_getElem h, List.flatMap_append, ← nth_eq h, hu]; simp
theorem codeRow_len (N : NetD) (L : List Int) (u m : Nat) : (codeRow N L u m).length ≤ 2 * m := by
  unfold codeRow
  have h2 : ∀ l : List (Int × Int), (l.flatMap fun e => [numV L e.1, e.2]).length = 2 * l.length := by
    intro l
    induction l with
    | nil => rfl
    | cons a l ih => rw [List.flatMap_cons, List.length_append, ih, List.length_cons]; simp only [List.length_cons, List.length_nil]; omega
  rw [h2, List.length_take]; omega
theorem codeTo_len {N : NetD} (hg : N.good = true) {L : List Int} (hL : WkOk N L) : ∀ k, k ≤ L.length → (codeTo N L k).length ≤ 15 * k
  | 0, _ => by simp [codeTo]
  | k + 1, h => by
    obtain ⟨u, hu, hun⟩ := hL.at_ (show k < L.length by omega)
    have ih := codeTo_len hg hL k (by omega)
    have h1 := codeRow_len N L u (nthL N.ends u).length
    have h2 := good_deg hg hun
    rw [codeTo_succ N L (by omega) hu, List.length_append, List.length_append]
    have h3 : (codeHead N u).length = 3 := rfl
    omega

/-! a map that numbers nodes -/
def rdN (v : Value) : Option (DataW Value × List MemPlace) := some (.held v, [])
theorem keyedN : Maps.Keyed Try.prog 3 := Maps.int_keyed Try.underlying3
theorem keyN {x : Int} (h : I64 x) : keyOf Try.prog 3 (.int .i64 x) = some (.int .i64 x) := Maps.keyOf_int_mk Try.underlying3 (WalkArith.wf_i64 h)
/-- block b is a map that numbers the nodes of L -/
def MpN (w : World) (b : Nat) (L : List Int) (m : Nat) : Prop :=
  ∃ (n : Nat) (D : DataW Value), n ≤ m ∧ w.ownsMap Try.prog 3 rdN b n D ∧ Maps.IsMap D ∧ (∀ x, I64 x → D.atKey (.int .i64 x) (.held (.int .i64 0)) = .held (.int .i64 (numV L x))) ∧ ∀ x, I64 x → Maps.has D (.int .i64 x) = decide (x ∈ L)
section
variable {w w' : World} {b m : Nat} {L : List Int}
theorem MpN.new (w : World) : MpN (w.alloc (.map #[] 0)) w.heap.size [] 0 :=
  ⟨0, .map [], Nat.le_refl _, World.ownsMap_made _ _ _ _, Maps.isMap_empty, fun x _ => rfl, fun x _ => rfl⟩
theorem MpN.lt (h : MpN w b L m) : b < w.heap.size := let ⟨_, _, _, h, _⟩ := h; h.lt
theorem MpN.mono (h : MpN w b L m) {m' : Nat} (hm : m ≤ m') : MpN w b L m' := let ⟨n, D, h1, h2⟩ := h; ⟨n, D, by omega, h2⟩
theorem MpN.kept {row : Option Nat} (h : MpN w b L m) (hg : w.grownBy w' row) (hr : some b ≠ row) : MpN w' b L m := let ⟨n, D, h1, h2, h3⟩ := h; ⟨n, D, h1, h2.kept hg hr, h3⟩
theorem MpN.far {row : Option Nat} (h : MpN w b L m) (hg : w.grownBy w' row) (hr : ∀ g, row = some g → g ≠ b) : MpN w' b L m := h.kept hg (fun e => hr b e.symm rfl)
theorem MpN.still (h : MpN w b L m) (hg : w.grownBy w' none) : MpN w' b L m := h.kept hg (by simp)
theorem zeroN (w : World) : (zeroValue 3).run Try.prog w = .ok (.int .i64 0) w := by kernel_rfl
theorem MpN.look (h : MpN w b L m) {x : Int} (hx : I64 x) : (Instr.lookup 91 (.map (some b)) (.int .i64 x) false).run Try.prog w = .ok (.int .i64 (numV L x)) w := by
  obtain ⟨n, D, _, h2, h3, h4, _⟩ := h
  obtain ⟨v, ps, hrun, hv⟩ := h2.lookup (R := rdN) keyedN Try.underlying91 (zeroN w) rfl (keyN hx)
  rw [h4 x hx] at hv
  have hv1 : some ((DataW.held v : DataW Value), ([] : List MemPlace)) = some (DataW.held (.int .i64 (numV L x)), ps) := hv
  have : v = .int .i64 (numV L x) := DataW.held.inj (Prod.mk.inj (Option.some.inj hv1)).1
  rw [hrun, this]
theorem MpN.look_ok (h : MpN w b L m) {x : Int} (hx : I64 x) : (Instr.lookup 91 (.map (some b)) (.int .i64 x) true).run Try.prog w = .ok (.tuple #[.int .i64 (numV L x), .bool (decide (x ∈ L))]) w := by
  obtain ⟨n, D, _, h2, h3, h4, h5⟩ := h
  obtain ⟨v, ps, hrun, hv⟩ := h2.look_ok (R := rdN) keyedN Try.underlying91 (zeroN w) rfl (keyN hx)
  rw [h4 x hx] at hv
  have hv1 : some ((DataW.held v : DataW Value), ([] : List MemPlace)) = some (DataW.held (.int .i64 (numV L x)), ps) := hv
  have : v = .int .i64 (numV L x) := DataW.held.inj (Prod.mk.inj (Option.some.inj hv1)).1
  rw [hrun, this, h5 x hx]
set_option maxRecDepth 100000 in
theorem MpN.put (h : MpN w b L m) (hm : m < 1099511627776) {x : Int} (hx : I64 x) (hn : x ∉ L) :
    ∃ w', (Instr.mapUpdate 91 (.map (some b)) (.int .i64 x) (.int .i64 (L.length : Nat))).run Try.prog w = .ok () w' ∧ w.grownBy w' (some b) ∧ MpN w' b (L ++ [x]) (m + 1) := by
  obtain ⟨n, D, h1, h2, h3, h4, h5⟩ := h
  obtain ⟨w', hU, hown, hg⟩ := h2.update (R := rdN) keyedN Try.underlying91 (show n < maxLen by unfold maxLen; omega) (keyN hx) (show rdN (.int .i64 (L.length : Nat)) = some (.held (.int .i64 (L.length : Nat)), []) from rfl)
  have hK : WideAt.IsKeyLit (.int .i64 x) := by simp [WideAt.IsKeyLit]
  refine ⟨w', hU, hg, n + 1, D.put (.int .i64 x) (.held (.int .i64 (L.length : Nat))), by omega, hown, h3.put _ _, fun a ha => ?_, fun a ha => ?_⟩
  · by_cases e : a = x
    · subst e
      rw [Maps.atKey_put_same h3 hK]
      congr 2
      unfold numV
      rw [if_pos (by simp), List.idxOf_append, if_neg hn]
      simp
    · rw [Maps.atKey_put_other (fun e2 => e (by injection e2)), h4 a ha]
      have e2 : numV L a = numV (L ++ [x]) a := by
        unfold numV
        by_cases hm : a ∈ L
        · rw [if_pos hm, if_pos (by simp [hm]), List.idxOf_append, if_pos hm]
        · rw [if_neg hm, if_neg (by simp [hm, e])]
      exact congrArg (fun z => (DataW.held (Value.int .i64 z) : DataW Value)) e2
  · by_cases e : a = x
    · subst e
      rw [Maps.has_put_same h3 hK]; simp
    · rw [Maps.has_put_other (fun e2 => e (by injection e2)), h5 a ha]
      simp [e]
end
end Go.Proofs.Ytmdlginjblnfoaa
