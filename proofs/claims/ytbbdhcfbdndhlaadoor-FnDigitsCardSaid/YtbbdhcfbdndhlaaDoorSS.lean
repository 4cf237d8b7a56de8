/-
  Words for memory, continued: slices of pairs (ends), slices of slices, networks; kept over new blocks and over writes elsewhere. No condition on any program.
-/
import Derived.Test.YtbbdhcfbdndhlaaDoorMem
import Derived.Test.YtbbdhcfbdndhlaaDoorOwn
namespace Go.Proofs.YtbbdhcfbdndhlaaDoor
open Go.RowKit

/-- element i of a list of lists; the empty list past its end -/
def nthL {α : Type} (l : List (List α)) (i : Nat) : List α := l.getD i []
theorem nthL_eq {α : Type} {l : List (List α)} {i : Nat} (h : i < l.length) : nthL l i = l[i] := by simp [nthL, h]
theorem nthL_mem {α : Type} {l : List (List α)} {i : Nat} (h : i < l.length) : nthL l i ∈ l := by rw [nthL_eq h]; exact List.getElem_mem h
theorem nthL_cons_zero {α : Type} (x : List α) (l : List (List α)) : nthL (x :: l) 0 = x := rfl
theorem nthL_cons_succ {α : Type} (x : List α) (l : List (List α)) (i : Nat) : nthL (x :: l) (i + 1) = nthL l i := rfl
theorem ext_nthL {α : Type} {a b : List (List α)} (hl : a.length = b.length) (h : ∀ i, i < a.length → nthL a i = nthL b i) : a = b := by
  apply List.ext_getElem hl
  intro i h1 h2
  have := h i h1
  rwa [nthL_eq h1, nthL_eq h2] at this

/-- element i of a list of pairs -/
def nthE (l : List (Int × Int)) (i : Nat) : Int × Int := l.getD i (0, 0)
theorem nthE_eq {l : List (Int × Int)} {i : Nat} (h : i < l.length) : nthE l i = l[i] := by simp [nthE, h]
theorem nthE_mem {l : List (Int × Int)} {i : Nat} (h : i < l.length) : nthE l i ∈ l := by rw [nthE_eq h]; exact List.getElem_mem h
theorem nthE_cons_zero (x : Int × Int) (l : List (Int × Int)) : nthE (x :: l) 0 = x := rfl
theorem nthE_cons_succ (x : Int × Int) (l : List (Int × Int)) (i : Nat) : nthE (x :: l) (i + 1) = nthE l i := rfl
theorem ext_nthE {a b : List (Int × Int)} (hl : a.length = b.length) (h : ∀ i, i < a.length → nthE a i = nthE b i) : a = b := by
  apply List.ext_getElem hl
  intro i h1 h2
  have := h i h1
  rwa [nthE_eq h1, nthE_eq h2] at this

/-- the cells of a row of pairs -/
def endCell (es : List (Int × Int)) (j : Nat) : Value := .int .i64 (if j % 2 = 0 then (nthE es (j / 2)).1 else (nthE es (j / 2)).2)
theorem endCell_fst (es : List (Int × Int)) (k : Nat) : endCell es (k * 2) = .int .i64 (nthE es k).1 := by
  unfold endCell; rw [if_pos (by omega), show k * 2 / 2 = k by omega]
theorem endCell_snd (es : List (Int × Int)) (k : Nat) : endCell es (k * 2 + 1) = .int .i64 (nthE es k).2 := by
  unfold endCell; rw [if_neg (by omega), show (k * 2 + 1) / 2 = k by omega]

/-- make of a row of pairs -/
theorem make_pairs {P : Program} (t e : TypeId) (ht : P.underlying t = some (.slice e)) (hinfo : (P.info? e).map (fun i => (i.zero, i.size, i.bytes)) = some (some (.agg #[.int .i64 0, .int .i64 0]), 2, 16))
    (n : Nat) (hn : n ≤ 1099511627776) (w : World) :
    (Instr.makeSlice t (.int .i64 (n : Int)) (.int .i64 (n : Int))).run P w = .ok (.slice (some ⟨w.heap.size, 0, none⟩) n n) (w.alloc (.cells (madeCells #[.int .i64 0, .int .i64 0] (n * 2)) e)) := by
  obtain ⟨i, hi, hzz⟩ := Option.map_eq_some_iff.1 hinfo
  simp only [Prod.mk.injEq] at hzz
  obtain ⟨hz, hsz, hb⟩ := hzz
  have hr := run_make (P := P) w t e i _ ht hi hz .i64 .i64 n n (by omega) (by omega) (by rw [hb]; omega) (by omega)
  simp only [Int.toNat_natCast, hsz] at hr
  exact hr
theorem rowIs_pairs (w : World) (n : Nat) (t : TypeId) : (w.alloc (.cells (madeCells #[.int .i64 0, .int .i64 0] (n * 2)) t)).rowIs w.heap.size t (n * 2) (fun _ => .int .i64 0) := by
  refine ⟨_, (World.rowIs_made w (.int .i64 0) 0 t).lt |> fun _ => heap_alloc_new w _, size_madeCells _ _, fun i hi => ?_⟩
  have h2 : i % 2 = 0 ∨ i % 2 = 1 := by omega
  rcases h2 with h2 | h2 <;> simp [madeCells, hi, h2]

/-- v reads as the list of pairs es -/
def EndS (w : World) (lo hi : Nat) (v : Value) (es : List (Int × Int)) : Prop := Sl w lo hi 2 v es.length (endCell es)

section
variable {w w' : World} {lo hi lo' hi' : Nat} {v : Value} {es : List (Int × Int)}
theorem EndS.form (h : EndS w lo hi v es) : ∃ A c, v = .slice A es.length c ∧ es.length ≤ c ∧ c ≤ maxLen ∧
    (0 < es.length → ∃ b off, A = some ⟨b, off, none⟩ ∧ lo ≤ b ∧ b < hi ∧ ∀ k, k < es.length → w.cell? ⟨b, off + k * 2, none⟩ = some (.int .i64 (nthE es k).1) ∧ w.cell? ⟨b, off + k * 2 + 1, none⟩ = some (.int .i64 (nthE es k).2)) := by
  obtain ⟨A, c, e, h1, h2, h3⟩ := h
  refine ⟨A, c, e, h1, h2, fun hn => ?_⟩
  obtain ⟨b, off, e2, h4, h5, h6⟩ := h3 hn
  refine ⟨b, off, e2, h4, h5, fun k hk => ⟨?_, ?_⟩⟩
  · rw [← endCell_fst]; exact (h6 (k * 2) (by omega)).1
  · rw [← endCell_snd, Nat.add_assoc]; exact (h6 (k * 2 + 1) (by omega)).1
theorem EndS.mono (h : EndS w lo hi v es) (h1 : lo' ≤ lo) (h2 : hi ≤ hi') : EndS w lo' hi' v es := Sl.mono h h1 h2
theorem EndS.below {B : Nat} (h : EndS w lo hi v es) (hb : Below B w w') (hB : hi ≤ B) : EndS w' lo hi v es := Sl.below h hb hB
theorem EndS.keep (h : EndS w lo hi v es) (hk : ∀ k, lo ≤ k → k < hi → w'.heap[k]? = w.heap[k]?) : EndS w' lo hi v es := Sl.keep h hk
theorem EndS.turned {l2 h2 : Nat} (h : EndS w lo hi v es) (hb : Turned l2 h2 w w') (hB : hi ≤ w.heap.size) (hd : hi ≤ l2 ∨ h2 ≤ lo) : EndS w' lo hi v es := Sl.turned h hb hB hd
theorem EndS.setCell (h : EndS w lo hi v es) {p : Addr} (hp : p.block < lo ∨ hi ≤ p.block) (u : Value) : EndS (w.setCell p u) lo hi v es := Sl.setCell h hp u
theorem EndS.nil (w : World) (lo hi : Nat) : EndS w lo hi (.slice none 0 0) [] := Sl.nil _ _ _ _ _
end

/-- a slice of slices: element i is the slice vs i, which reads (by R) as xss i -/
def SS {α : Type} (R : World → Nat → Nat → Value → List α → Prop) (w : World) (lo hi : Nat) (v : Value) (xss : List (List α)) : Prop :=
  ∃ vs : Nat → Value, Sl w lo hi 1 v xss.length vs ∧ ∀ i, i < xss.length → R w lo hi (vs i) (nthL xss i)
/-- the same, and no two of its rows share a block -/
def SSx {α : Type} (R : World → Nat → Nat → Value → List α → Prop) (w : World) (lo hi : Nat) (v : Value) (xss : List (List α)) : Prop :=
  ∃ vs : Nat → Value, Sl w lo hi 1 v xss.length vs ∧ (∀ i, i < xss.length → R w lo hi (vs i) (nthL xss i)) ∧
    (∀ i j, i < j → j < xss.length → rowOf (nthL xss i).length (vs i) = none ∨ rowOf (nthL xss i).length (vs i) ≠ rowOf (nthL xss j).length (vs j)) ∧
    (∀ i, i < xss.length → rowOf (nthL xss i).length (vs i) = none ∨ rowOf (nthL xss i).length (vs i) ≠ rowOf xss.length v)
theorem SSx.ss {α : Type} {R : World → Nat → Nat → Value → List α → Prop} {w : World} {lo hi : Nat} {v : Value} {xss : List (List α)} (h : SSx R w lo hi v xss) : SS R w lo hi v xss :=
  let ⟨vs, h1, h2, _, _⟩ := h; ⟨vs, h1, h2⟩

section
variable {α : Type} {R : World → Nat → Nat → Value → List α → Prop} {w w' : World} {lo hi lo' hi' : Nat} {v : Value} {xss : List (List α)}
theorem SS.keep (hR : ∀ {v xs}, R w lo hi v xs → R w' lo hi v xs) (h : SS R w lo hi v xss) (hk : ∀ k, lo ≤ k → k < hi → w'.heap[k]? = w.heap[k]?) : SS R w' lo hi v xss := by
  obtain ⟨vs, h1, h2⟩ := h
  exact ⟨vs, h1.keep hk, fun i hi => hR (h2 i hi)⟩
theorem SSx.keep (hR : ∀ {v xs}, R w lo hi v xs → R w' lo hi v xs) (h : SSx R w lo hi v xss) (hk : ∀ k, lo ≤ k → k < hi → w'.heap[k]? = w.heap[k]?) : SSx R w' lo hi v xss := by
  obtain ⟨vs, h1, h2, h3, h4⟩ := h
  exact ⟨vs, h1.keep hk, fun i hi => hR (h2 i hi), h3, h4⟩
theorem SS.mono (hR : ∀ {v xs}, R w lo hi v xs → R w lo' hi' v xs) (h : SS R w lo hi v xss) (h1 : lo' ≤ lo) (h2 : hi ≤ hi') : SS R w lo' hi' v xss := by
  obtain ⟨vs, h3, h4⟩ := h
  exact ⟨vs, h3.mono h1 h2, fun i hi => hR (h4 i hi)⟩
theorem SSx.mono (hR : ∀ {v xs}, R w lo hi v xs → R w lo' hi' v xs) (h : SSx R w lo hi v xss) (h1 : lo' ≤ lo) (h2 : hi ≤ hi') : SSx R w lo' hi' v xss := by
  obtain ⟨vs, h3, h4, h5, h6⟩ := h
  exact ⟨vs, h3.mono h1 h2, fun i hi => hR (h4 i hi), h5, h6⟩
theorem SS.form (h : SS R w lo hi v xss) : ∃ A c, v = .slice A xss.length c ∧ xss.length ≤ c ∧ c ≤ maxLen ∧
    (0 < xss.length → ∃ b off, A = some ⟨b, off, none⟩ ∧ lo ≤ b ∧ b < hi ∧ ∀ k, k < xss.length → ∃ u, w.cell? ⟨b, off + k, none⟩ = some u ∧ R w lo hi u (nthL xss k)) := by
  obtain ⟨vs, ⟨A, c, e, h1, h2, h3⟩, h4⟩ := h
  refine ⟨A, c, e, h1, h2, fun hn => ?_⟩
  obtain ⟨b, off, e2, h5, h6, h7⟩ := h3 hn
  exact ⟨b, off, e2, h5, h6, fun k hk => ⟨vs k, (h7 k (by omega)).1, h4 k hk⟩⟩
theorem SS.nil (w : World) (lo hi : Nat) : SS R w lo hi (.slice none 0 0) [] := ⟨fun _ => undef, Sl.nil _ _ _ _ _, fun i hi => absurd hi (by simp)⟩
theorem SSx.nil (w : World) (lo hi : Nat) : SSx R w lo hi (.slice none 0 0) [] := ⟨fun _ => undef, Sl.nil _ _ _ _ _, fun i hi => absurd hi (by simp), fun i j _ hj => absurd hj (by simp), fun i hi => absurd hi (by simp)⟩
end

abbrev IntSS := SS IntS
abbrev IntSSx := SSx IntS
abbrev EndSS := SS EndS
abbrev EndSSx := SSx EndS
section
variable {w w' : World} {lo hi lo' hi' B l2 h2 : Nat} {v : Value} {xss : List (List Int)} {ess : List (List (Int × Int))}
theorem IntS.keep {zs : List Int} (h : IntS w lo hi v zs) (hk : ∀ k, lo ≤ k → k < hi → w'.heap[k]? = w.heap[k]?) : IntS w' lo hi v zs := Sl.keep h hk
theorem ISS.below (h : IntSS w lo hi v xss) (hb : Below B w w') (hB : hi ≤ B) : IntSS w' lo hi v xss := SS.keep (fun h => IntS.below h hb hB) h fun k _ hk => hb.block k (by omega)
theorem ISSx.below (h : IntSSx w lo hi v xss) (hb : Below B w w') (hB : hi ≤ B) : IntSSx w' lo hi v xss := SSx.keep (fun h => IntS.below h hb hB) h fun k _ hk => hb.block k (by omega)
theorem ESS.below (h : EndSS w lo hi v ess) (hb : Below B w w') (hB : hi ≤ B) : EndSS w' lo hi v ess := SS.keep (fun h => EndS.below h hb hB) h fun k _ hk => hb.block k (by omega)
theorem ESSx.below (h : EndSSx w lo hi v ess) (hb : Below B w w') (hB : hi ≤ B) : EndSSx w' lo hi v ess := SSx.keep (fun h => EndS.below h hb hB) h fun k _ hk => hb.block k (by omega)
theorem ISS.turned (h : IntSS w lo hi v xss) (hb : Turned l2 h2 w w') (hB : hi ≤ w.heap.size) (hd : hi ≤ l2 ∨ h2 ≤ lo) : IntSS w' lo hi v xss := SS.keep (fun h => IntS.turned h hb hB hd) h fun k h1 hk => hb.block k (by omega) (by omega)
theorem ISSx.turned (h : IntSSx w lo hi v xss) (hb : Turned l2 h2 w w') (hB : hi ≤ w.heap.size) (hd : hi ≤ l2 ∨ h2 ≤ lo) : IntSSx w' lo hi v xss := SSx.keep (fun h => IntS.turned h hb hB hd) h fun k h1 hk => hb.block k (by omega) (by omega)
theorem ESS.turned (h : EndSS w lo hi v ess) (hb : Turned l2 h2 w w') (hB : hi ≤ w.heap.size) (hd : hi ≤ l2 ∨ h2 ≤ lo) : EndSS w' lo hi v ess := SS.keep (fun h => EndS.turned h hb hB hd) h fun k h1 hk => hb.block k (by omega) (by omega)
theorem ESSx.turned (h : EndSSx w lo hi v ess) (hb : Turned l2 h2 w w') (hB : hi ≤ w.heap.size) (hd : hi ≤ l2 ∨ h2 ≤ lo) : EndSSx w' lo hi v ess := SSx.keep (fun h => EndS.turned h hb hB hd) h fun k h1 hk => hb.block k (by omega) (by omega)
theorem ISS.setCell (h : IntSS w lo hi v xss) {p : Addr} (hp : p.block < lo ∨ hi ≤ p.block) (u : Value) : IntSS (w.setCell p u) lo hi v xss := SS.keep (fun h => IntS.setCell h hp u) h fun k h1 h2 => Below.heap_setCell _ _ _ _ (by omega)
theorem ISSx.setCell (h : IntSSx w lo hi v xss) {p : Addr} (hp : p.block < lo ∨ hi ≤ p.block) (u : Value) : IntSSx (w.setCell p u) lo hi v xss := SSx.keep (fun h => IntS.setCell h hp u) h fun k h1 h2 => Below.heap_setCell _ _ _ _ (by omega)
theorem ESS.setCell (h : EndSS w lo hi v ess) {p : Addr} (hp : p.block < lo ∨ hi ≤ p.block) (u : Value) : EndSS (w.setCell p u) lo hi v ess := SS.keep (fun h => EndS.setCell h hp u) h fun k h1 h2 => Below.heap_setCell _ _ _ _ (by omega)
theorem ESSx.setCell (h : EndSSx w lo hi v ess) {p : Addr} (hp : p.block < lo ∨ hi ≤ p.block) (u : Value) : EndSSx (w.setCell p u) lo hi v ess := SSx.keep (fun h => EndS.setCell h hp u) h fun k h1 h2 => Below.heap_setCell _ _ _ _ (by omega)
theorem ISS.mono (h : IntSS w lo hi v xss) (h1 : lo' ≤ lo) (h2 : hi ≤ hi') : IntSS w lo' hi' v xss := SS.mono (fun h => IntS.mono h h1 h2) h h1 h2
theorem ISSx.mono (h : IntSSx w lo hi v xss) (h1 : lo' ≤ lo) (h2 : hi ≤ hi') : IntSSx w lo' hi' v xss := SSx.mono (fun h => IntS.mono h h1 h2) h h1 h2
theorem ESS.mono (h : EndSS w lo hi v ess) (h1 : lo' ≤ lo) (h2 : hi ≤ hi') : EndSS w lo' hi' v ess := SS.mono (fun h => EndS.mono h h1 h2) h h1 h2
theorem ESSx.mono (h : EndSSx w lo hi v ess) (h1 : lo' ≤ lo) (h2 : hi ≤ hi') : EndSSx w lo' hi' v ess := SSx.mono (fun h => EndS.mono h h1 h2) h h1 h2
end

theorem IntS.shape {w : World} {lo hi : Nat} {v : Value} {zs : List Int} (h : IntS w lo hi v zs) : ∃ A c, v = .slice A zs.length c := let ⟨A, c, e, _⟩ := h; ⟨A, c, e⟩
theorem EndS.shape {w : World} {lo hi : Nat} {v : Value} {es : List (Int × Int)} (h : EndS w lo hi v es) : ∃ A c, v = .slice A es.length c := let ⟨A, c, e, _⟩ := h; ⟨A, c, e⟩
theorem SS.shape {α : Type} {R : World → Nat → Nat → Value → List α → Prop} {w : World} {lo hi : Nat} {v : Value} {xss : List (List α)} (h : SS R w lo hi v xss) : ∃ A c, v = .slice A xss.length c := let ⟨_, ⟨A, c, e, _⟩, _⟩ := h; ⟨A, c, e⟩
/-- old cells and marks read as before -/
theorem bcell {W w1 : World} (hb : Below W.heap.size W w1) : (∀ b o, b < W.heap.size → w1.cell? ⟨b, o, none⟩ = W.cell? ⟨b, o, none⟩) ∧ (∀ b o, b < W.heap.size → w1.frozen? ⟨b, o, none⟩ = W.frozen? ⟨b, o, none⟩) :=
  ⟨fun b o h => hb.cell (p := ⟨b, o, none⟩) h, fun b o h => hb.frozen (p := ⟨b, o, none⟩) h⟩

/-- a block of three cells, known whole -/
def Box3 (w : World) (g : Nat) (t : TypeId) (a b c : Value) : Prop := w.heap[g]? = some (.cells #[a, b, c] t (0, 0))
section
variable {w w' : World} {g : Nat} {t : TypeId} {a b c : Value}
theorem Box3.lt (h : Box3 w g t a b c) : g < w.heap.size := (Array.getElem?_eq_some_iff.1 h).1
theorem Box3.cells (h : Box3 w g t a b c) : w.cell? ⟨g, 0, none⟩ = some a ∧ w.cell? ⟨g, 1, none⟩ = some b ∧ w.cell? ⟨g, 2, none⟩ = some c := by
  refine ⟨?_, ?_, ?_⟩ <;> rw [cell_of_row w g _ _ t (0, 0) h] <;> rfl
theorem Box3.frozen (h : Box3 w g t a b c) (i : Nat) : w.frozen? ⟨g, i, none⟩ = false := by
  have h' : w.heap[g]? = some (.cells #[a, b, c] t (0, 0)) := h
  simp [World.frozen?, h']
theorem Box3.new (w : World) (t : TypeId) (a b c : Value) : Box3 (w.alloc (.cells #[a, b, c] t)) w.heap.size t a b c := heap_alloc_new w _
theorem Box3.alloc (h : Box3 w g t a b c) (o : Obj) : Box3 (w.alloc o) g t a b c := (Below.heap_alloc w o g h.lt).trans h
theorem Box3.below {B : Nat} (h : Box3 w g t a b c) (hb : Below B w w') (hg : g < B) : Box3 w' g t a b c := (hb.block g hg).trans h
theorem Box3.far (h : Box3 w g t a b c) {p : Addr} (hp : g ≠ p.block) (u : Value) : Box3 (w.setCell p u) g t a b c := (Below.heap_setCell w p u g hp).trans h
theorem Box3.set0 (h : Box3 w g t a b c) (u : Value) : Box3 (w.setCell ⟨g, 0, none⟩ u) g t u b c := by
  have h' : w.heap[g]? = some (.cells #[a, b, c] t (0, 0)) := h
  simp [Box3, World.setCell, Array.getElem?_modify, h']
theorem Box3.set1 (h : Box3 w g t a b c) (u : Value) : Box3 (w.setCell ⟨g, 1, none⟩ u) g t a u c := by
  have h' : w.heap[g]? = some (.cells #[a, b, c] t (0, 0)) := h
  simp [Box3, World.setCell, Array.getElem?_modify, h']
theorem Box3.set2 (h : Box3 w g t a b c) (u : Value) : Box3 (w.setCell ⟨g, 2, none⟩ u) g t a b u := by
  have h' : w.heap[g]? = some (.cells #[a, b, c] t (0, 0)) := h
  simp [Box3, World.setCell, Array.getElem?_modify, h']
end
theorem size_setCell (w : World) (p : Addr) (u : Value) : (w.setCell p u).heap.size = w.heap.size := by simp [World.setCell]

/-- a network as data -/
structure NetD where
  ends : List (List (Int × Int))
  ids : List Int
  inputs : List Int

/-- v is a network in memory -/
def Net (w : World) (lo hi : Nat) (v : Value) (N : NetD) : Prop :=
  ∃ ve vi vn, v = .agg #[ve, vi, vn] ∧ EndSS w lo hi ve N.ends ∧ IntS w lo hi vi N.ids ∧ IntS w lo hi vn N.inputs
/-- the same, its parts one behind the other, no two rows in one block -/
def NetX (w : World) (lo hi : Nat) (v : Value) (N : NetD) : Prop :=
  ∃ ve vi vn m1 m2, v = .agg #[ve, vi, vn] ∧ lo ≤ m1 ∧ m1 ≤ m2 ∧ m2 ≤ hi ∧ EndSSx w lo m1 ve N.ends ∧ IntS w m1 m2 vi N.ids ∧ IntS w m2 hi vn N.inputs
section
variable {w w' : World} {lo hi lo' hi' B l2 h2 : Nat} {v : Value} {N : NetD}
theorem NetX.net (h : NetX w lo hi v N) : Net w lo hi v N := by
  obtain ⟨ve, vi, vn, m1, m2, rfl, a1, a2, a3, h1, h2, h3⟩ := h
  exact ⟨ve, vi, vn, rfl, ESS.mono h1.ss (Nat.le_refl _) (by omega), h2.mono (by omega) a3, h3.mono (by omega) (Nat.le_refl _)⟩
theorem Net.below (h : Net w lo hi v N) (hb : Below B w w') (hB : hi ≤ B) : Net w' lo hi v N := by
  obtain ⟨ve, vi, vn, rfl, h1, h2, h3⟩ := h
  exact ⟨ve, vi, vn, rfl, ESS.below h1 hb hB, h2.below hb hB, h3.below hb hB⟩
theorem Net.turned (h : Net w lo hi v N) (hb : Turned l2 h2 w w') (hB : hi ≤ w.heap.size) (hd : hi ≤ l2 ∨ h2 ≤ lo) : Net w' lo hi v N := by
  obtain ⟨ve, vi, vn, rfl, h1, h2, h3⟩ := h
  exact ⟨ve, vi, vn, rfl, ESS.turned h1 hb hB hd, h2.turned hb hB hd, h3.turned hb hB hd⟩
theorem Net.mono (h : Net w lo hi v N) (h1 : lo' ≤ lo) (h2 : hi ≤ hi') : Net w lo' hi' v N := by
  obtain ⟨ve, vi, vn, rfl, a, b, c⟩ := h
  exact ⟨ve, vi, vn, rfl, ESS.mono a h1 h2, b.mono h1 h2, c.mono h1 h2⟩
theorem NetX.below (h : NetX w lo hi v N) (hb : Below B w w') (hB : hi ≤ B) : NetX w' lo hi v N := by
  obtain ⟨ve, vi, vn, m1, m2, rfl, a1, a2, a3, h1, h2, h3⟩ := h
  exact ⟨ve, vi, vn, m1, m2, rfl, a1, a2, a3, ESSx.below h1 hb (by omega), h2.below hb (by omega), h3.below hb hB⟩
theorem NetX.turned (h : NetX w lo hi v N) (hb : Turned l2 h2 w w') (hB : hi ≤ w.heap.size) (hd : hi ≤ l2 ∨ h2 ≤ lo) : NetX w' lo hi v N := by
  obtain ⟨ve, vi, vn, m1, m2, rfl, a1, a2, a3, h1, h2, h3⟩ := h
  exact ⟨ve, vi, vn, m1, m2, rfl, a1, a2, a3, ESSx.turned h1 hb (by omega) (by omega), h2.turned hb (by omega) (by omega), h3.turned hb hB (by omega)⟩
end

end Go.Proofs.YtbbdhcfbdndhlaaDoor
