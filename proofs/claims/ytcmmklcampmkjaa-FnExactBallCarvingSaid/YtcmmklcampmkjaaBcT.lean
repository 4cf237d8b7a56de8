/-
  Several texts in one: PeelP, Colour, CarQ, Car4. No condition on any program.
-/
import Derived.Test.YtcmmklcampmkjaaBcH
import Derived.Test.YtcmmklcampmkjaaBcI
import Derived.Test.YtcmmklcampmkjaaBcJ
import Derived.Test.YtcmmklcampmkjaaBcP
import Derived.Test.YtcmmklcampmkjaaBcS

/- Plain: nodes get layers; the least number for which all get one. -/
namespace Go.Proofs.Ytcmmklcampmkjaa
set_option linter.unusedVariables false

def peelAt (N : NetD) (a : Int) (l : List Int) (v : Nat) : Bool := decide (nth l v < 0) && decide ((portsC N v l (-1) : Int) ≤ a)
def peelStep (N : NetD) (a : Int) (k : Nat) (l : List Int) : List Int := (List.range N.ends.length).map fun v => if peelAt N a l v = true then (k : Int) else nth l v
def anyPeel (N : NetD) (a : Int) (l : List Int) : Bool := (List.range N.ends.length).any (peelAt N a l)
def peel (N : NetD) (a : Int) : Nat → Nat → List Int → List Int
  | 0, _, l => l
  | f + 1, k, l => if anyPeel N a l = true then peel N a f (k + 1) (peelStep N a k l) else l
def peel0 (N : NetD) : List Int := List.replicate N.ends.length (-1)
def peelAll (N : NetD) (a : Int) : List Int := peel N a (N.ends.length + 1) 0 (peel0 N)
theorem peelStep_length (N : NetD) (a : Int) (k : Nat) (l : List Int) : (peelStep N a k l).length = N.ends.length := by simp [peelStep]
theorem nth_peelStep {N : NetD} {a : Int} {k : Nat} {l : List Int} {v : Nat} (hv : v < N.ends.length) : nth (peelStep N a k l) v = if peelAt N a l v = true then (k : Int) else nth l v := by simp [nth, peelStep, hv]
/-- the nodes without a layer -/
def leftN (l : List Int) : Nat := (l.filter fun x => decide (x < 0)).length
structure PInv (N : NetD) (k : Nat) (l : List Int) : Prop where
  len : l.length = N.ends.length
  low : ∀ j, j < N.ends.length → -1 ≤ nth l j ∧ nth l j ≤ k
  left : leftN l + k ≤ N.ends.length
theorem PInv.zero (N : NetD) : PInv N 0 (peel0 N) := ⟨by simp [peel0], fun j hj => by unfold peel0; rw [nth_replicate _ _ hj]; omega, by simp [leftN, peel0]⟩
theorem filter_map_lt {n : Nat} {f g : Nat → Int} (h : ∀ k, k < n → (f k < 0 → g k < 0)) (hex : ∃ k, k < n ∧ g k < 0 ∧ ¬ f k < 0) : leftN ((List.range n).map f) < leftN ((List.range n).map g) := by
  unfold leftN
  induction n with
  | zero => obtain ⟨k, hk, _⟩ := hex; omega
  | succ n ih =>
    rw [List.range_succ, List.map_append, List.map_append, List.filter_append, List.filter_append, List.length_append, List.length_append]
    have hle : ∀ m, m ≤ n → (List.filter (fun x => decide (x < 0)) ((List.range m).map f)).length ≤ (List.filter (fun x => decide (x < 0)) ((List.range m).map g)).length := by
      intro m
      induction m with
      | zero => intro _; exact Nat.le_refl _
      | succ m ihm =>
        intro hm
        rw [List.range_succ, List.map_append, List.map_append, List.filter_append, List.filter_append, List.length_append, List.length_append]
        have := ihm (by omega)
        have h1 := h m (by omega)
        by_cases c1 : f m < 0
        · simp [c1, h1 c1]; exact this
        · by_cases c2 : g m < 0 <;> simp [c1, c2] <;> omega
    by_cases hx : ∃ k, k < n ∧ g k < 0 ∧ ¬ f k < 0
    · have := ih (fun k hk => h k (by omega)) hx
      have h1 := h n (by omega)
      by_cases c1 : f n < 0
      · simp [c1, h1 c1]; exact this
      · by_cases c2 : g n < 0 <;> simp [c1, c2] <;> omega
    · obtain ⟨k, hk, h1, h2⟩ := hex
      have e : k = n := Classical.byContradiction fun e => hx ⟨k, by omega, h1, h2⟩
      subst e
      have := hle k (Nat.le_refl _)
      simp [h1, h2]
      omega
theorem map_nth (l : List Int) : (List.range l.length).map (fun v => nth l v) = l := by
  apply List.ext_getElem (by simp)
  intro i h1 h2
  simp at h1
  simp [nth_eq h1]
theorem anyPeel_at {N : NetD} {a : Int} {l : List Int} (h : anyPeel N a l = true) : ∃ v, v < N.ends.length ∧ peelAt N a l v = true := by
  obtain ⟨v, hv, h1⟩ := List.any_eq_true.1 h
  exact ⟨v, List.mem_range.1 hv, h1⟩
theorem PInv.step {N : NetD} {a : Int} {k : Nat} {l : List Int} (h : PInv N k l) (ha : anyPeel N a l = true) : PInv N (k + 1) (peelStep N a k l) := by
  refine ⟨peelStep_length _ _ _ _, fun j hj => ?_, ?_⟩
  · rw [nth_peelStep hj]
    have := h.low j hj
    split <;> omega
  · obtain ⟨v, hv, h1⟩ := anyPeel_at ha
    have hlt : leftN (peelStep N a k l) < leftN l := by
      have := filter_map_lt (n := N.ends.length) (f := fun v => if peelAt N a l v = true then (k : Int) else nth l v) (g := fun v => nth l v) (fun j hj hf => ?_) ⟨v, hv, ?_, ?_⟩
      · rwa [show (List.range N.ends.length).map (fun v => nth l v) = l by rw [← h.len]; exact map_nth l] at this
      · by_cases e : peelAt N a l j = true
        · simp only [if_pos e] at hf; omega
        · simpa only [if_neg e] using hf
      · unfold peelAt at h1; rw [Bool.and_eq_true] at h1; simpa using h1.1
      · simp only [if_pos h1]; omega
    have := h.left
    omega
/-- where no node gets a layer any more -/
theorem peel_stop {N : NetD} {a : Int} {f k : Nat} {l : List Int} (h : anyPeel N a l = false) : peel N a f k l = l := by
  cases f with
  | zero => rfl
  | succ f => rw [peel, if_neg (by rw [h]; simp)]
structure PTop (N : NetD) (a : Int) (k : Nat) (l : List Int) : Prop where
  inv : PInv N k l
  eq : peelAll N a = peel N a (N.ends.length + 1 - k) k l
theorem PTop.zero (N : NetD) (a : Int) : PTop N a 0 (peel0 N) := ⟨PInv.zero N, rfl⟩
theorem PTop.step {N : NetD} {a : Int} {k : Nat} {l : List Int} (h : PTop N a k l) (ha : anyPeel N a l = true) : PTop N a (k + 1) (peelStep N a k l) := by
  have := h.inv.left
  refine ⟨h.inv.step ha, ?_⟩
  rw [h.eq, show N.ends.length + 1 - k = (N.ends.length + 1 - (k + 1)) + 1 by omega, peel, if_pos ha]
theorem PTop.stop {N : NetD} {a : Int} {k : Nat} {l : List Int} (h : PTop N a k l) (ha : anyPeel N a l = false) : peelAll N a = l := by rw [h.eq, peel_stop ha]
theorem PInv.mem {N : NetD} {k : Nat} {l : List Int} (h : PInv N k l) {v : Nat} (hv : v < N.ends.length) : nth l v < 0 ↔ nth l v = -1 := by have := h.low v hv; omega
end Go.Proofs.Ytcmmklcampmkjaa

/- Contracts: greedy colours of nodes in an order, near and at distances (program and reference). -/
namespace Go.Proofs.Ytcmmklcampmkjaa
open Go.ChangeShapes Go.WideShapes Go.ChangeAt Go.RowKit
set_option linter.unusedVariables false

theorem orderB_parts {N : NetD} {zs : List Int} (h : orderB N zs = true) : N.good = true ∧ permB zs N.ends.length = true := by
  unfold orderB at h; rwa [Bool.and_eq_true] at h
/-- the neighbours but the node itself -/
def seen (N : NetD) (v : Nat) : List Int := (nbs N v).filter fun x => !decide (x = (v : Int))
end Go.Proofs.Ytcmmklcampmkjaa

/- Plain: what the inner loops of ball carving write; orders list each node; what ball carving hands back. No condition on any program. -/
namespace Go.Proofs.Ytcmmklcampmkjaa
set_option linter.unusedVariables false

theorem range_set {α : Type} {n u : Nat} {f g : Nat → α} {x : α} (h : ∀ v, v < n → g v = if v = u then x else f v) : ((List.range n).map f).set u x = (List.range n).map g := by
  apply List.ext_getElem (by simp)
  intro i h1 h2
  simp only [List.length_map, List.length_range] at h2
  rw [List.getElem_set]
  simp only [List.getElem_map, List.getElem_range]
  rw [h i h2]
  by_cases e : u = i
  · rw [if_pos e, if_pos e.symm]
  · rw [if_neg e, if_neg (fun h => e h.symm)]
theorem range_same {α : Type} {n : Nat} {f g : Nat → α} (h : ∀ v, v < n → f v = g v) : (List.range n).map f = (List.range n).map g := List.map_congr_left fun v hv => h v (List.mem_range.1 hv)
/-- the active nodes when the first r shells and j nodes of the next one have been struck out -/
def bsAt (ac : List Bool) (D : List Int) (n r j : Nat) : List Bool := (List.range n).map fun v => nthB ac v && !(inB (nth D v) 0 ((r : Int) - 1) || decide ((v : Int) ∈ (fibL D r n).take j))
/-- the clusters then -/
def zsAt (cl D : List Int) (K : Int) (n c r j : Nat) : List Int := (List.range n).map fun v => if inB (nth D v) 0 (((min r c : Nat) : Int) - 1) || (decide (r < c) && decide ((v : Int) ∈ (fibL D r n).take j)) then K else nth cl v
theorem bsAt_len (ac : List Bool) (D : List Int) (n r j : Nat) : (bsAt ac D n r j).length = n := by simp [bsAt]
theorem zsAt_len (cl D : List Int) (K : Int) (n c r j : Nat) : (zsAt cl D K n c r j).length = n := by simp [zsAt]
section
variable {ac : List Bool} {cl D : List Int} {K : Int} {n c r j u : Nat}
theorem take_mem {l : List Int} {j u : Nat} (hj : j < l.length) (hu : nth l j = (u : Int)) (v : Nat) : decide ((v : Int) ∈ l.take (j + 1)) = (decide ((v : Int) ∈ l.take j) || decide (v = u)) := by
  rw [List.take_succ_eq_append_getElem hj, ← nth_eq hj, hu, Bool.eq_iff_iff]
  simp only [List.mem_append, List.mem_singleton, Bool.or_eq_true, decide_eq_true_eq]
  constructor
  · rintro (h | h)
    · exact .inl h
    · exact .inr (by omega)
  · rintro (h | h)
    · exact .inl h
    · exact .inr (by omega)
theorem bsAt_step (hj : j < (fibL D r n).length) (hu : nth (fibL D r n) j = (u : Int)) : (bsAt ac D n r j).set u false = bsAt ac D n r (j + 1) := by
  refine range_set fun v hv => ?_
  rw [take_mem hj hu]
  by_cases e : v = u
  · rw [if_pos e, decide_eq_true e]; simp
  · rw [if_neg e, decide_eq_false e, Bool.or_false]
theorem zsAt_step (hr : r < c) (hj : j < (fibL D r n).length) (hu : nth (fibL D r n) j = (u : Int)) : (zsAt cl D K n c r j).set u K = zsAt cl D K n c r (j + 1) := by
  refine range_set fun v hv => ?_
  rw [take_mem hj hu, decide_eq_true hr]
  by_cases e : v = u
  · rw [if_pos e, decide_eq_true e]; simp
  · rw [if_neg e, decide_eq_false e, Bool.or_false]
theorem zsAt_skip (hr : ¬ r < c) : zsAt cl D K n c r (j + 1) = zsAt cl D K n c r j := by
  refine range_same fun v hv => ?_
  rw [decide_eq_false hr]; rfl
theorem shell_mem (hv : u < n) : ((u : Int) ∈ fibL D r n) ↔ nth D u = (r : Int) := by
  rw [mem_fibL]
  exact ⟨fun ⟨v, _, h, e⟩ => by rw [show u = v by omega]; exact h, fun h => ⟨u, hv, h, rfl⟩⟩
theorem inB_up {x : Int} : inB x 0 (((r + 1 : Nat) : Int) - 1) = (inB x 0 ((r : Int) - 1) || decide (x = (r : Int))) := by
  rw [Bool.eq_iff_iff]
  simp only [inB, Bool.or_eq_true, Bool.and_eq_true, decide_eq_true_eq]
  omega
theorem bsAt_shell : bsAt ac D n r (fibL D r n).length = bsAt ac D n (r + 1) 0 := by
  refine range_same fun v hv => ?_
  rw [List.take_length, List.take_zero, inB_up, show decide ((v : Int) ∈ fibL D r n) = decide (nth D v = (r : Int)) by rw [decide_eq_decide]; exact shell_mem hv]
  simp
theorem zsAt_shell : zsAt cl D K n c r (fibL D r n).length = zsAt cl D K n c (r + 1) 0 := by
  refine range_same fun v hv => ?_
  rw [List.take_length, List.take_zero, show decide ((v : Int) ∈ fibL D r n) = decide (nth D v = (r : Int)) by rw [decide_eq_decide]; exact shell_mem hv]
  by_cases h : r < c
  · rw [show min r c = r by omega, show min (r + 1) c = r + 1 by omega, inB_up, decide_eq_true h]; simp
  · rw [show min r c = c by omega, show min (r + 1) c = c by omega, decide_eq_false h]; simp
theorem bsAt_zero (h : ac.length = n) : bsAt ac D n 0 0 = ac := by
  apply List.ext_getElem (by rw [bsAt_len, h])
  intro i h1 h2
  have : inB (nth D i) 0 (((0 : Nat) : Int) - 1) = false := by
    cases e : inB (nth D i) 0 (((0 : Nat) : Int) - 1) with
    | false => rfl
    | true => have := inB_le e; omega
  simp [bsAt, nthB, h2] at this ⊢
  rw [this]; simp
theorem zsAt_zero (h : cl.length = n) : zsAt cl D K n c 0 0 = cl := by
  apply ext_nth (by rw [zsAt_len, h])
  intro i hi
  rw [zsAt_len] at hi
  unfold zsAt
  rw [nth_mapR hi, if_neg]
  intro e
  simp only [List.take_zero, List.not_mem_nil, decide_false, Bool.and_false, Bool.or_false] at e
  have := inB_le e
  omega
/-- behind the shells that are struck out -/
theorem bsAt_end {R mx T : Nat} (hm : ∀ v, v < n → nth D v ≤ (mx : Int)) (hT : T = min (R + 2) (mx + 1)) : bsAt ac D n T 0 = (List.range n).map fun v => nthB ac v && !inB (nth D v) 0 ((R + 1 : Nat) : Int) := by
  refine range_same fun v hv => ?_
  have := hm v hv
  rw [List.take_zero]
  congr 2
  simp only [List.not_mem_nil, decide_false, Bool.or_false]
  rw [Bool.eq_iff_iff]
  simp only [inB, Bool.and_eq_true, decide_eq_true_eq]
  omega
theorem zsAt_end {R mx T : Nat} (hm : ∀ v, v < n → nth D v ≤ (mx : Int)) (hT : T = min (R + 2) (mx + 1)) : zsAt cl D K n (R + 1) T 0 = (List.range n).map fun v => if inB (nth D v) 0 (R : Nat) then K else nth cl v := by
  refine range_same fun v hv => ?_
  have := hm v hv
  rw [List.take_zero]
  congr 1
  simp only [List.not_mem_nil, decide_false, Bool.and_false, Bool.or_false, eq_iff_iff]
  simp only [inB, Bool.and_eq_true, decide_eq_true_eq]
  omega
end
theorem radD_le {D : List Int} {n mx : Nat} (hm : ∀ v, v < n → nth D v ≤ (mx : Int)) (h40 : mx ≤ 40) : radD D n ≤ mx := by
  have key : ∀ f a, a ≤ mx → mx ≤ a + f → radG D n f a ≤ mx := by
    intro f
    induction f with
    | zero => intro a h1 h2; exact h1
    | succ f ih =>
      intro a h1 h2
      unfold radG
      by_cases e : stopB D n a = true
      · rw [if_pos e]; exact h1
      · rw [if_neg e]
        have : a ≠ mx := fun h => e (by rw [h]; exact stop_far hm)
        exact ih (a + 1) (by omega) (by omega)
  exact key 41 0 (Nat.zero_le _) (by omega)
theorem permB_len {zs : List Int} {n : Nat} (h : permB zs n = true) : zs.length = n := by
  unfold permB at h
  simp only [Bool.and_eq_true, decide_eq_true_eq] at h
  exact h.2
theorem nodupC_len : ∀ (n : Nat) (a : List Int), a.Nodup → (∀ x ∈ a, 0 ≤ x ∧ x < (n : Int)) → a.length ≤ n
  | 0, a, _, h => by
    cases a with
    | nil => simp
    | cons x a => have := h x (List.mem_cons_self ..); omega
  | n + 1, a, hn, h => by
    by_cases hm : (n : Int) ∈ a
    · have h1 := nodupC_len n (a.erase n) (hn.erase _) (fun x hx => by
        have h2 := (hn.mem_erase_iff).1 hx
        have := h x h2.2
        have := h2.1
        omega)
      rw [List.length_erase_of_mem hm] at h1
      omega
    · exact Nat.le_succ_of_le (nodupC_len n a hn fun x hx => by
        have := h x hx
        have : x ≠ (n : Int) := fun e => hm (by rw [← e]; exact hx)
        omega)
theorem perm_nodup {zs : List Int} {n : Nat} (h : permB zs n = true) : ∀ k, k ≤ zs.length → (zs.take k).Nodup
  | 0, _ => by simp
  | k + 1, hk => by
    obtain ⟨t, et, ht, hnot⟩ := perm_at h (k := k) (by omega)
    rw [List.take_succ_eq_append_getElem (by omega), ← nth_eq (by omega), List.nodup_append]
    refine ⟨perm_nodup h k (by omega), by simp, fun a ha b hb => ?_⟩
    rw [List.mem_singleton] at hb
    intro e
    rw [e, hb] at ha
    exact hnot ha
theorem perm_all {zs : List Int} {n : Nat} (h : permB zs n = true) {t : Nat} (ht : t < n) : (t : Int) ∈ zs := by
  apply Classical.byContradiction
  intro hm
  have hnd := perm_nodup h zs.length (Nat.le_refl _)
  rw [List.take_length] at hnd
  have hl := permB_len h
  have := nodupC_len n ((t : Int) :: zs) (List.nodup_cons.2 ⟨hm, hnd⟩) (fun x hx => by
    rcases List.mem_cons.1 hx with rfl | hx
    · omega
    · obtain ⟨k, hk, e⟩ := List.mem_iff_getElem.1 hx
      obtain ⟨s, es, hs, _⟩ := perm_at h hk
      rw [nth_eq hk, e] at es
      omega)
  simp only [List.length_cons] at this
  omega
theorem mem_bare {N : NetD} {cl co : List Int} (h : CarIn N cl co) : (-1 : Int) ∈ cl ↔ ¬ bareC cl N.ends.length = 0 := by
  rw [bareC_zero]
  constructor
  · intro hm he
    obtain ⟨j, hj, e⟩ := List.mem_iff_getElem.1 hm
    have := he j (by have := h.lcl; dsimp only at this; omega)
    rw [nth_eq hj, e] at this
    omega
  · intro he
    apply Classical.byContradiction
    intro hm
    refine he fun v hv hn => hm ?_
    have h1 := h.val v hv
    dsimp only at h1
    have hl := h.lcl
    dsimp only at hl
    have := nth_mem (zs := cl) (i := v) (by omega)
    rwa [show nth cl v = -1 by omega] at this
/-- what BallCarving hands back -/
def carOut (N : NetD) (ord : List Int) : DecD := if orderB N ord then ⟨(carN N ord).1, (carN N ord).2⟩ else ⟨[], []⟩
theorem carOut_yes {N : NetD} {ord : List Int} (h : orderB N ord = true) : carOut N ord = ⟨(carN N ord).1, (carN N ord).2⟩ := by unfold carOut; rw [if_pos h]
theorem carOut_no {N : NetD} {ord : List Int} (h : orderB N ord = false) : carOut N ord = ⟨[], []⟩ := by unfold carOut; rw [h]; rfl
theorem car_node {N : NetD} {ord : List Int} (h : permB ord N.ends.length = true) : ∀ j, j < ord.length → ∃ t : Nat, nth ord j = t ∧ t < N.ends.length := fun j hj => by
  obtain ⟨t, et, ht, _⟩ := perm_at h hj
  exact ⟨t, et, ht⟩
theorem carOut_len (N : NetD) (ord : List Int) : (carOut N ord).cluster.length ≤ 40 ∧ (carOut N ord).colour.length ≤ 40 := by
  by_cases h : orderB N ord = true
  · rw [carOut_yes h]
    obtain ⟨hg, hp⟩ := orderB_parts h
    have hc := carP_in hg (car_node hp) N.ends.length
    have h40 := (good_n hg).2
    have h1 := hc.lcl
    have h2 := hc.room
    dsimp only at h1 h2
    unfold carN
    dsimp only
    omega
  · rw [carOut_no (by simpa using h)]; simp
end Go.Proofs.Ytcmmklcampmkjaa

/- Contract: BallCarving (program). -/
namespace Go.Proofs.Ytcmmklcampmkjaa
open Go.ChangeShapes Go.WideShapes Go.ChangeAt Go.RowKit
set_option linter.unusedVariables false

theorem results_cellC {fn : Func} {t u : Tmp} {ty : TypeId} (h : fn.results = #[.cell t ty, .tmp u]) (tmps : Array Value) (P : Program) (w : World) {p : Addr} {v : Value} (ha : tmps.getD t undef = .pointer (some p)) (hl : (loadVar ty p).run P w = .ok v w) :
    (results fn tmps).run P w = .ok (.tuple #[v, tmps.getD u undef]) w := by
  have ha' : tmps[t]?.getD undef = .pointer (some p) := by simpa using ha
  simp [results, h, ha', asAddr, hl]
theorem load_decC {w : World} {g : Nat} {a b : Value} (h : BoxN w g #[a, b] 36) : (loadVar 36 ⟨g, 0, none⟩).run Try.prog w = .ok (.agg #[a, b]) w := by
  have k0 : w.cell? ⟨g, 0, none⟩ = some a := h.cell 0 (by simp)
  have k1 : w.cell? ⟨g, 1, none⟩ = some b := h.cell 1 (by simp)
  unfold loadVar
  simp [go_sem, k0, k1]
theorem DecX.mkC {w : World} {lo hi m : Nat} {v1 v2 : Value} {D : DecD} (h1 : lo ≤ m) (h2 : m ≤ hi) (h3 : IntS w lo m v1 D.cluster) (h4 : IntS w m hi v2 D.colour) : DecX w lo hi (.agg #[v1, v2]) D := ⟨v1, v2, m, rfl, h1, h2, h3, h4⟩
theorem carNo {N : NetD} {l : List Int} (h : orderB N l = false) (w : World) (lo hi : Nat) (hh : lo ≤ hi) : DecX w lo hi (.agg #[.slice none 0 0, .slice none 0 0]) (carOut N l) := by
  rw [carOut_no h]
  exact DecX.mkC (Nat.le_refl _) hh (IntS.nil _ _ _) (IntS.nil _ _ _)
theorem grownC_set2 (w : World) (o : Obj) (i j : Nat) (a b : Value) : w.grownBy (((w.alloc o).setCell ⟨w.heap.size, i, none⟩ a).setCell ⟨w.heap.size, j, none⟩ b) none := by
  have h1 := grown_alloc w o
  have h2 := grown_set (w.alloc o) ⟨w.heap.size, i, none⟩ a
  have h3 := grown_set ((w.alloc o).setCell ⟨w.heap.size, i, none⟩ a) ⟨w.heap.size, j, none⟩ b
  have s1 := h1.size; have s2 := h2.size; have s3 := h3.size
  exact ⟨h3.os.trans (h2.os.trans h1.os), h3.tape.trans (h2.tape.trans h1.tape), h3.output.trans (h2.output.trans h1.output), by omega, fun k hk _ =>
    (h3.block k (by omega) (fun e => by injection e with e; have e : k = w.heap.size := e; omega)).trans ((h2.block k (by omega) (fun e => by injection e with e; have e : k = w.heap.size := e; omega)).trans (h1.block k hk (by simp)))⟩
theorem opens_upto {cl : List Int} {n k : Nat} {bs : List Bool} (hl : bs.length = n) (hk : k < n) (h : ∀ j, j < n → nthB bs j = (decide (j < k) && decide (nth cl j < 0))) : ∀ j, j < n → nthB (bs.set k (decide (nth cl k < 0))) j = (decide (j < k + 1) && decide (nth cl j < 0)) := fun j hj => by
  rw [nthB_set _ _ _ _ (by omega)]
  by_cases e : j = k
  · subst e; rw [if_pos rfl, decide_eq_true (show j < j + 1 by omega)]; rfl
  · rw [if_neg e, h j hj]
    congr 1
    rw [decide_eq_decide]; omega
theorem opens_is {cl : List Int} {n : Nat} {bs : List Bool} (hl : bs.length = n) (h : ∀ j, j < n → nthB bs j = (decide (j < n) && decide (nth cl j < 0))) : bs = opens cl n := by
  apply List.ext_getElem (by rw [hl, opens_len])
  intro i h1 h2
  have := h i (by omega)
  rw [decide_eq_true (show i < n by omega), Bool.true_and, ← nthB_opens (n := n) (by omega)] at this
  unfold nthB at this
  rw [List.getD_eq_getElem?_getD, List.getD_eq_getElem?_getD, List.getElem?_eq_getElem h1, List.getElem?_eq_getElem h2] at this
  exact this

set_option maxHeartbeats 16000000 in
set_option maxRecDepth 100000 in
theorem BallCarving_impl (v1 : Value) (N : NetD) (lo1 hi1 : Nat) (v2 : Value) (ord : List Int) (lo2 hi2 : Nat) (w : World) (h1 : Net w lo1 hi1 v1 N) (hh1 : hi1 ≤ w.heap.size) (h2 : IntS w lo2 hi2 v2 ord) (hh2 : hi2 ≤ w.heap.size) (hz1 : N.sz ≤ 1048576) (hz2 : ord.length ≤ 1048576) (ok1 : N.Ok) (ok2 : ∀ z ∈ ord, I64 z) :
    Calls Try.prog 15 #[v1, v2] w fun e w' => ∃ r, e = .returned (.tuple #[r, .bool (orderB N ord)]) ∧ DecX w' w.heap.size w'.heap.size r (carOut N ord) ∧ Below w.heap.size w w' := by
  clear ok1 ok2
  have F1 := Lib.hid h1
  obtain ⟨A1, c1, A1', c1', A1'', c1'', rfl, hc1, hd1, _⟩ := h1.parts
  clear h1
  have F2 := Lib.hid h2
  obtain ⟨A2, c2, rfl, hc2, hd2⟩ := h2.dims
  clear h2
  obtain ⟨WA, HWA⟩ : ∃ W, Hid (W = ((w.alloc (.cells #[.slice A1 N.ends.length c1, .slice A1' N.ids.length c1', .slice A1'' N.inputs.length c1''] 34)).alloc (.cells #[.slice none 0 0, .slice none 0 0] 36))) := ⟨_, Lib.hid rfl⟩
  have hbA : Below w.heap.size w WA := by rw [HWA.out]; exact (((Below.refl _ _).alloc (Nat.le_refl _) _).alloc (by simp; try omega) _)
  have hsA : w.heap.size + 2 ≤ WA.heap.size := by rw [HWA.out]; simp; try omega
  have bx1 : BoxN WA (w.heap.size) #[.slice A1 N.ends.length c1, .slice A1' N.ids.length c1', .slice A1'' N.inputs.length c1''] 34 := by rw [HWA.out]; exact ((BoxN.new' _ _ _ (by simp)).still (grown_alloc _ _))
  have bxx0 : BoxN WA (w.heap.size + 1) #[.slice none 0 0, .slice none 0 0] 36 := by rw [HWA.out]; exact (BoxN.new' _ _ _ (by simp))
  have G1 := Lib.hid (Net.below F1.out hbA hh1); clear F1
  have G2 := Lib.hid (IntS.below F2.out hbA hh2); clear F2
  go_enter Try.func15, Try.ntmps15
  go_upto_region 1 with (fail)
  rw [← HWA.out]; clear HWA
  have kbx1_0 : WA.cell? ⟨w.heap.size, 0, none⟩ = some (.slice A1 N.ends.length c1) := bx1.cell 0 (by simp)
  have kbx1_1 : WA.cell? ⟨w.heap.size, 1, none⟩ = some (.slice A1' N.ids.length c1') := bx1.cell 1 (by simp)
  have kbx1_2 : WA.cell? ⟨w.heap.size, 2, none⟩ = some (.slice A1'' N.inputs.length c1'') := bx1.cell 2 (by simp)
  go_wp2_with fail
  clear kbx1_0 kbx1_1 kbx1_2
  refine (isOrder_any _ N lo1 hi1 _ ord lo2 hi2 _ G1.out (by omega) G2.out (by omega) hz1).mono ?_
  rintro e W1 ⟨rfl, hb1⟩
  have hg1 := grown_below hb1; clear hb1
  have hs1 := hg1.size
  have HF1 := Lib.hid ((Turned.refl WA.heap.size WA.heap.size WA).still hg1)
  by_cases hO : orderB N ord = true
  case neg =>
    have hO' : orderB N ord = false := by simpa using hO
    rw [hO']
    have HNO := Lib.hid hO'; clear hO hO'
    have kbxx0_0 : W1.cell? ⟨w.heap.size + 1, 0, none⟩ = some (.slice none 0 0) := (HF1.out.boxN bxx0 (by omega)).cell 0 (by simp)
    have kbxx0_1 : W1.cell? ⟨w.heap.size + 1, 1, none⟩ = some (.slice none 0 0) := (HF1.out.boxN bxx0 (by omega)).cell 1 (by simp)
    have krf := (HF1.out.boxN bxx0 (by omega)).frozen 0
    have krf1 := (HF1.out.boxN bxx0 (by omega)).frozen 1
    have hbE := (HF1.out.below_of hbA (by omega) (by omega))
    go_wp2_with fail
    ((try simp only [Exit.inBlock, Exit.then]); refine bodyPost_ret (results_cellC rfl _ _ _ rfl (load_decC (((HF1.out.boxN bxx0 (by omega)).set 0 (.slice none 0 0)).set 1 (.slice none 0 0)))) rfl ?_)
    refine ⟨_, ret_vb HNO.out.symm, carNo HNO.out _ _ _ (by simp; omega), ?_⟩
    exact (hbE.setCell (p := ⟨w.heap.size + 1, 0, none⟩) (by simp) _).setCell (p := ⟨w.heap.size + 1, 1, none⟩) (by simp) _
  rw [hO]
  have HOK := Lib.hid hO; clear hO
  have HG := Lib.hid (orderB_parts HOK.out).1
  have HPM := Lib.hid (orderB_parts HOK.out).2
  obtain ⟨n1, n40⟩ := good_n HG.out
  have HON := Lib.hid (car_node HPM.out)
  have hol : ord.length ≤ 40 := by rw [permB_len HPM.out]; exact n40
  have HIN := Lib.hid (carP_in HG.out HON.out)
  have HLS := Lib.hid (carP_less HG.out HON.out (fun t ht => perm_all HPM.out ht))
  have kbx1_0 : W1.cell? ⟨w.heap.size, 0, none⟩ = some (.slice A1 N.ends.length c1) := (HF1.out.boxN bx1 (by omega)).cell 0 (by simp)
  have kbx1_1 : W1.cell? ⟨w.heap.size, 1, none⟩ = some (.slice A1' N.ids.length c1') := (HF1.out.boxN bx1 (by omega)).cell 1 (by simp)
  have kbx1_2 : W1.cell? ⟨w.heap.size, 2, none⟩ = some (.slice A1'' N.inputs.length c1'') := (HF1.out.boxN bx1 (by omega)).cell 2 (by simp)
  go_wp2_with fail
  clear kbx1_0 kbx1_1 kbx1_2
  refine (noMatching_any _ N lo1 hi1 _ (Net.turned G1.out HF1.out (by omega) (by omega)) (by omega) (by omega)).mono ?_
  rintro e W2 ⟨r, rfl, hr, hb2⟩
  have hg2 := grown_below hb2; clear hb2
  have hs2 := hg2.size
  have HF2 := Lib.hid (HF1.out.still hg2); clear HF1
  have C2 := Lib.hid hr; clear hr
  obtain ⟨Ac, cC, rfl, hcC, hdC⟩ := C2.out.dims
  obtain ⟨bC, oC, rfl, hbC1, hbC2, _⟩ := C2.out.opened (j := 0) (by simp; omega)
  have hC0 := C2.out
  rw [show (List.replicate N.ends.length (-1 : Int)).length = N.ends.length by simp] at hC0 hcC ⊢
  have HC0 := Lib.hid hC0; clear hC0 C2
  go_upto_region 4 with (fail)
  refine nameC ?_
  intro W3 HW3
  have hg3 : W2.grownBy W3 none := by rw [HW3.out]; exact by first | exact (grownC_set2 _ _ _ _ _ _) | exact (grown_alloc _ _)
  have hs3 := hg3.size
  have HF3 := Lib.hid (HF2.out.still hg3); clear HF2
  have C3 := Lib.hid (IntS.still HC0.out hg3 (by omega)); clear HC0
  have DB3 := Lib.hid (show BoxN W3 W2.heap.size #[.slice (some ⟨bC, oC, none⟩) N.ends.length cC, .slice none 0 0] 36 by rw [HW3.out]; first | exact ((BoxN.new _ _ _).set 0 _).set 1 _ | exact BoxN.new _ _ _)
  have hzD : W2.heap.size + 1 ≤ W3.heap.size := by have := DB3.out.lt; omega
  clear HW3
  have N_3 := Lib.hid (Net.turned G1.out HF3.out (by omega) (by omega)); clear G1
  have ord_3 := Lib.hid (IntS.turned G2.out HF3.out (by omega) (by omega)); clear G2
  have bx1_3 := HF3.out.boxN bx1 (by omega); clear bx1
  have bxx0_3 := HF3.out.boxN bxx0 (by omega); clear bxx0
  have hbA3 : Below w.heap.size w W3 := (HF3.out.below_of hbA (by omega) (by omega)); clear hbA HF3
  have hLO : w.heap.size + 2 ≤ W1.heap.size := by omega
  have hLD : W1.heap.size ≤ W2.heap.size := by omega
  go_wp2_with fail
  go_loopw [7] (fun kv wr => ∃ (k : Nat) (vc : Value) (cl co : List Int), k ≤ N.ends.length ∧ kv = .int .i64 k ∧ Hid (carP N ord k = (cl, co)) ∧ Hid (k + bareC cl N.ends.length ≤ N.ends.length) ∧ Hid (IntS wr W1.heap.size W2.heap.size (.slice (some ⟨bC, oC, none⟩) N.ends.length cC) cl) ∧ Hid (BoxN wr (W2.heap.size) #[.slice (some ⟨bC, oC, none⟩) N.ends.length cC, vc] 36) ∧ Hid (OwnI wr W3.heap.size 3 vc co) ∧ Hid (Turned W1.heap.size W3.heap.size W3 wr)) (fun kv _ => N.ends.length - (intOf kv).toNat)
  case atStart => exact ⟨0, .slice none 0 0, _, [], Nat.zero_le _, rfl, Lib.hid rfl, Lib.hid (by have := (CarIn.start N).room; dsimp only at this; simpa using this), C3, DB3, Lib.hid (OwnI.nil _ _ _), Lib.hid (Turned.refl W1.heap.size W3.heap.size W3)⟩
  case round =>
    obtain ⟨k, vc, cl, co, hk, rfl, HP, HK, HZ, HD, HO, HF4⟩ := hrel
    have hs4 := HF4.out.size
    obtain ⟨wq, rfl⟩ : ∃ wq : World, wq = wr := ⟨_, rfl⟩
    have hin := HIN.out k
    rw [HP.out] at hin
    dsimp only at hin
    have HCI := Lib.hid hin; clear hin
    have HCL := Lib.hid (show cl.length = N.ends.length from HCI.out.lcl)
    have hcol : co.length ≤ 40 := by have := HCI.out.room; dsimp only at this; omega
    have HMB := Lib.hid (mem_bare HCI.out)
    obtain ⟨Av, cv, rfl, hcv, hdv⟩ := HO.out.ints.dims
    have kd0 : wq.cell? ⟨W2.heap.size, 0, none⟩ = some (.slice (some ⟨bC, oC, none⟩) N.ends.length cC) := HD.out.cell 0 (by simp)
    have kd1 : wq.cell? ⟨W2.heap.size, 1, none⟩ = some (.slice Av co.length cv) := HD.out.cell 1 (by simp)
    go_wp2_with fail
    refine (contains_any _ cl (-1) _ _ _ HZ.out).mono ?_
    rintro e w' ⟨rfl, rfl⟩
    by_cases hbare : (-1 : Int) ∈ cl
    case neg =>
      have kbxx0_0 : wq.cell? ⟨w.heap.size + 1, 0, none⟩ = some (.slice none 0 0) := (HF4.out.boxN bxx0_3 (by omega)).cell 0 (by simp)
      have kbxx0_1 : wq.cell? ⟨w.heap.size + 1, 1, none⟩ = some (.slice none 0 0) := (HF4.out.boxN bxx0_3 (by omega)).cell 1 (by simp)
      have HB0 := Lib.hid (show bareC cl N.ends.length = 0 from Classical.byContradiction fun h => hbare (HMB.out.2 h))
      have hdm : decide ((-1 : Int) ∈ cl) = false := decide_eq_false hbare
      rw [hdm]
      have HEND := Lib.hid (carN_is (N := N) (ord := ord) HON.out hk (by rw [HP.out]; exact HB0.out))
      rw [HP.out] at HEND
      have krf := (HF4.out.boxN bxx0_3 (by omega)).frozen 0
      have krf1 := (HF4.out.boxN bxx0_3 (by omega)).frozen 1
      have hbE := (HF4.out.below_of hbA3 (by omega) (by omega))
      go_wp2_with fail
      ((try simp only [Exit.inBlock, Exit.then]); refine bodyPost_ret (results_cellC rfl _ _ _ rfl (load_decC (((HF4.out.boxN bxx0_3 (by omega)).set 0 (.slice (some ⟨bC, oC, none⟩) N.ends.length cC)).set 1 (.slice Av co.length cv)))) rfl ?_)
      refine ⟨_, ret_vb HOK.out.symm, ?_, (hbE.setCell (p := ⟨w.heap.size + 1, 0, none⟩) (by simp) _).setCell (p := ⟨w.heap.size + 1, 1, none⟩) (by simp) _⟩
      rw [carOut_yes HOK.out, ← HEND.out]
      refine DecX.mkC (m := W3.heap.size) (by omega) (by simp; omega) ?_ ?_
      · exact (IntS.far HZ.out (grownBy_trans (grown_set _ ⟨w.heap.size + 1, 0, none⟩ _) (grown_set _ ⟨w.heap.size + 1, 1, none⟩ _)) (by omega) (fun g e => by injection e with e; have e : w.heap.size + 1 = g := e; omega)).mono (by omega) (by omega)
      · exact (IntS.far HO.out.ints (grownBy_trans (grown_set _ ⟨w.heap.size + 1, 0, none⟩ _) (grown_set _ ⟨w.heap.size + 1, 1, none⟩ _)) (by omega) (fun g e => by injection e with e; have e : w.heap.size + 1 = g := e; omega)).mono (by omega) (by simp)
    have HB0 := Lib.hid (HMB.out.1 hbare)
    have hdm : decide ((-1 : Int) ∈ cl) = true := decide_eq_true hbare
    rw [hdm]
    clear hbare hdm
    have hkn : k + 1 ≤ N.ends.length := by have := HB0.out; have := HK.out; omega
    have HL9 := Lib.hid (HLS.out k (by rw [HP.out]; exact Nat.pos_of_ne_zero HB0.out))
    rw [HP.out] at HL9
    have hmk := fun W => run_make_row' (P := Try.prog) 72 4 (.bool false) 1 Try.underlying72 Try.infoBool rfl .i64 .i64 N.ends.length (by omega) (by omega) W
    have kbx1_0 : wq.cell? ⟨w.heap.size, 0, none⟩ = some (.slice A1 N.ends.length c1) := (HF4.out.boxN bx1_3 (by omega)).cell 0 (by simp)
    have kbx1_1 : wq.cell? ⟨w.heap.size, 1, none⟩ = some (.slice A1' N.ids.length c1') := (HF4.out.boxN bx1_3 (by omega)).cell 1 (by simp)
    have kbx1_2 : wq.cell? ⟨w.heap.size, 2, none⟩ = some (.slice A1'' N.inputs.length c1'') := (HF4.out.boxN bx1_3 (by omega)).cell 2 (by simp)
    go_upto_region 8 with (fail)
    clear hmk kd0 kd1 kbx1_0 kbx1_1 kbx1_2
    have HLO := Lib.hid HO.out.lt
    refine nameC ?_
    intro W5 HW5
    have hg5 : wq.grownBy W5 none := by rw [HW5.out]; exact grown_alloc _ _
    have hs5 := hg5.size
    have HF5 := Lib.hid (HF4.out.still hg5); clear HF4
    have Z5 := Lib.hid (IntS.still HZ.out hg5 (by omega)); clear HZ
    have D5 := Lib.hid (BoxN.still HD.out hg5); clear HD
    have O5 := Lib.hid (OwnI.still HO.out hg5); clear HO
    have HB := Lib.hid (show BoolS W5 (wq.heap.size) (wq.heap.size + 1) (.slice (some ⟨wq.heap.size, 0, none⟩) N.ends.length N.ends.length) (List.replicate N.ends.length false) by rw [HW5.out]; exact made_bools _ _ _ rfl (by omega))
    have hzA : wq.heap.size + 1 ≤ W5.heap.size := by rw [HW5.out]; simp
    clear HW5
    have hgA : W3.heap.size ≤ wq.heap.size := by omega
    go_wp2_with fail
    go_loopw [37] (fun iv wr => ∃ (i : Nat) (bs : List Bool), i ≤ N.ends.length ∧ iv = .int .i64 i ∧ Hid (bs.length = N.ends.length) ∧ Hid (∀ j, j < N.ends.length → nthB bs j = (decide (j < i) && decide (nth cl j < 0))) ∧ Hid (BoolS wr (wq.heap.size) (wq.heap.size + 1) (.slice (some ⟨wq.heap.size, 0, none⟩) N.ends.length N.ends.length) bs) ∧ Hid (IntS wr W1.heap.size W2.heap.size (.slice (some ⟨bC, oC, none⟩) N.ends.length cC) cl) ∧ Hid (BoxN wr (W2.heap.size) #[.slice (some ⟨bC, oC, none⟩) N.ends.length cC, (Value.slice Av co.length cv)] 36) ∧ Hid (OwnI wr W3.heap.size 3 (Value.slice Av co.length cv) co) ∧ Hid (∀ g, (Value.slice Av co.length cv).ownBlock = some g → g ≠ wq.heap.size) ∧ wq.heap.size + 1 ≤ wr.heap.size ∧ Hid (Turned W1.heap.size W3.heap.size W3 wr)) (fun iv _ => N.ends.length - (intOf iv).toNat)
    case atStart => exact ⟨0, _, Nat.zero_le _, rfl, Lib.hid (by simp), Lib.hid (fun j hj => by rw [nthB_replicate _ _ hj]; simp), HB, Z5, D5, O5, Lib.hid (fun g e => by have := (HLO.out g e).2; omega), hzA, HF5⟩
    case round =>
      clear HF5
      obtain ⟨i, bs, hi, rfl, HBL, HBI, HB, HZ, HD, HO, HNE, hwA, HF6⟩ := hrel
      have hs6 := HF6.out.size
      obtain ⟨wt, rfl⟩ : ∃ wt : World, wt = wr := ⟨_, rfl⟩
      by_cases hin : i < N.ends.length
      case pos =>
        have hii : (i : Int) < N.ends.length := by omega
        have kd0 : wt.cell? ⟨W2.heap.size, 0, none⟩ = some (.slice (some ⟨bC, oC, none⟩) N.ends.length cC) := HD.out.cell 0 (by simp)
        have xc := (HZ.out.at_ (j := i) (by rw [HCL.out]; exact hin)).1
        obtain ⟨x, HX⟩ : ∃ x, Hid (nth cl i = x) := ⟨_, Lib.hid rfl⟩
        rw [HX.out] at xc
        obtain ⟨y1, y2⟩ := HB.out.at0 (j := i) (by rw [HBL.out]; exact hin)
        obtain ⟨z, HZ9⟩ : ∃ z, Hid (nthB bs i = z) := ⟨_, Lib.hid rfl⟩
        rw [HZ9.out] at y1
        have HSET := Lib.hid (HB.out.set0 (j := i) (by rw [HBL.out]; exact hin) (decide (x < 0)))
        have HNX := Lib.hid (opens_upto (cl := cl) HBL.out hin HBI.out)
        rw [HX.out] at HNX
        go_wp2_with fail
        go_roundw
        case rel =>
          have hg9 : wt.grownBy (wt.setCell ⟨wq.heap.size, i, none⟩ (.bool (decide (x < 0)))) (some (wq.heap.size)) := grown_set _ _ _
          exact ⟨i + 1, _, by omega, by go_num, Lib.hid (by rw [List.length_set]; exact HBL.out), HNX, HSET, Lib.hid (IntS.far HZ.out hg9 (by omega) (fun g e => .inr (by cases e; omega))), Lib.hid (BoxN.far HD.out hg9 (fun g e => by cases e; omega)), Lib.hid (OwnI.far HO.out hg9 (fun g e => .inr (fun e2 => HNE.out g e2 (by cases e; rfl)))), HNE, by rw [size_setCell]; omega, Lib.hid (HF6.out.grown hg9 (fun g e => .inr (by cases e; omega)))⟩
        case measure => simp [intOf]; omega
      obtain rfl : i = N.ends.length := by omega
      obtain rfl := opens_is HBL.out HBI.out
      have hdv2 : cv ≤ 9223372036854775807 := hdv
      go_wp2_with fail
      go_loopw [52] (fun qv wr => ∃ (q : Nat) (s : CarD) (va : Value), q ≤ ord.length ∧ qv = .int .i64 q ∧ Hid (carF N ord k cl co q = s) ∧ Hid (BoolS wr (wq.heap.size) (wq.heap.size + 1) (.slice (some ⟨wq.heap.size, 0, none⟩) N.ends.length N.ends.length) s.ac) ∧ Hid (IntS wr W1.heap.size W2.heap.size (.slice (some ⟨bC, oC, none⟩) N.ends.length cC) s.cl) ∧ Hid (BoxN wr (W2.heap.size) #[.slice (some ⟨bC, oC, none⟩) N.ends.length cC, va] 36) ∧ Hid (OwnI wr W3.heap.size 3 va s.co) ∧ Hid (∀ g, va.ownBlock = some g → g ≠ wq.heap.size) ∧ wq.heap.size + 1 ≤ wr.heap.size ∧ Hid (Turned W1.heap.size W3.heap.size W3 wr)) (fun qv _ => ord.length - (intOf qv).toNat)
      case atStart => exact ⟨0, _, (Value.slice Av co.length cv), Nat.zero_le _, rfl, Lib.hid rfl, HB, HZ, HD, HO, HNE, hwA, HF6⟩
      case round =>
        clear HF6
        obtain ⟨q, s, va, hq, rfl, HS, HB, HZ, HD, HO, HNE, hwA, HF7⟩ := hrel
        have hs7 := HF7.out.size
        obtain ⟨wx, rfl⟩ : ∃ wx : World, wx = wr := ⟨_, rfl⟩
        by_cases hqn : q < ord.length
        case neg =>
          obtain rfl : q = ord.length := by omega
          have HPN := Lib.hid (show carP N ord (k + 1) = (s.cl, s.co) by
            show ((carF N ord k (carP N ord k).1 (carP N ord k).2 ord.length).cl, (carF N ord k (carP N ord k).1 (carP N ord k).2 ord.length).co) = _
            rw [HP.out, HS.out])
          rw [HPN.out] at HL9
          go_wp2_with fail
          go_roundw
          case rel => exact ⟨k + 1, va, s.cl, s.co, hkn, by go_num, HPN, Lib.hid (by have h1 := HK.out; have h2 := HL9.out; dsimp only at h2; omega), HZ, HD, HO, HF7⟩
          case measure => simp [intOf]; omega
        have hqi : (q : Int) < ord.length := by omega
        obtain ⟨c, ec, hc⟩ := HON.out q hqn
        have hsk := (HCI.out.fold HG.out HON.out (ph := k) q (by omega)).1
        rw [HS.out] at hsk
        have HSK := Lib.hid hsk; clear hsk
        have HSN := Lib.hid (carF_succ (N := N) (ord := ord) k cl co hqn)
        rw [HS.out, ec] at HSN
        have HSL := Lib.hid HSK.out.lac
        have hscl : s.co.length ≤ 40 := by have := HSK.out.room; omega
        obtain ⟨bo, oo, rfl, _, hbo', xo, _⟩ := (IntS.turned ord_3.out HF7.out (by omega) (by omega)).opened hqn
        rw [ec] at xo
        clear ec
        obtain ⟨y1, y2⟩ := HB.out.at0 (j := c) (by rw [HSL.out]; exact hc)
        have hci : (c : Int) < N.ends.length := by omega
        cases hac : nthB s.ac c with
        | false =>
          rw [hac] at y1
          have HSS := Lib.hid (show carF N ord k cl co (q + 1) = s by rw [HSN.out]; exact carC_no (by rw [Int.toNat_natCast]; exact hac))
          go_wp2_with fail
          go_roundw
          case rel => exact ⟨q + 1, s, va, by omega, by go_num, HSS, HB, HZ, HD, HO, HNE, hwA, HF7⟩
          case measure => simp [intOf]; omega
        | true =>
          rw [hac] at y1
          have HAC := Lib.hid hac; clear hac
          have kbx1_0 : wx.cell? ⟨w.heap.size, 0, none⟩ = some (.slice A1 N.ends.length c1) := (HF7.out.boxN bx1_3 (by omega)).cell 0 (by simp)
          have kbx1_1 : wx.cell? ⟨w.heap.size, 1, none⟩ = some (.slice A1' N.ids.length c1') := (HF7.out.boxN bx1_3 (by omega)).cell 1 (by simp)
          have kbx1_2 : wx.cell? ⟨w.heap.size, 2, none⟩ = some (.slice A1'' N.inputs.length c1'') := (HF7.out.boxN bx1_3 (by omega)).cell 2 (by simp)
          go_wp2_with fail
          clear y1 y2 kbx1_0 kbx1_1 kbx1_2
          have HLV := Lib.hid HO.out.lt
          have hmx := mxD_at (ac := s.ac) HG.out hc
          obtain ⟨_, hmx2, hmx3⟩ := hmx
          have HM2 := Lib.hid hmx2; clear hmx2
          have HCE := Lib.hid (show carC N k s (c : Int) = ⟨(List.range N.ends.length).map fun v => if inB (nth (dA N s.ac c) v) 0 (radD (dA N s.ac c) N.ends.length : Nat) then (s.co.length : Int) else nth s.cl v, (List.range N.ends.length).map fun v => nthB s.ac v && !inB (nth (dA N s.ac c) v) 0 ((radD (dA N s.ac c) N.ends.length + 1 : Nat) : Int), s.co ++ [(k : Int)]⟩ by unfold carC; rw [Int.toNat_natCast, if_pos HAC.out])
          refine (activeBall_any _ N lo1 hi1 _ s.ac _ _ c _ (Net.turned N_3.out HF7.out (by omega) (by omega)) (by omega) HB.out (by omega) HG.out HSL.out hc).mono ?_
          generalize dA N s.ac c = D at *
          generalize mxD D = mx at *
          rintro e W8 ⟨rs, rfl, hrs, hb8⟩
          have hg8 := grown_below hb8; clear hb8
          have hs8 := hg8.size
          have HF8 := Lib.hid (HF7.out.still hg8); clear HF7
          have B8 := Lib.hid (BoolS.still HB.out hg8 (by omega)); clear HB
          have Z8 := Lib.hid (IntS.still HZ.out hg8 (by omega)); clear HZ
          have D8 := Lib.hid (BoxN.still HD.out hg8); clear HD
          have O8 := Lib.hid (OwnI.still HO.out hg8); clear HO
          obtain ⟨As, cs, rfl, hcs, hds⟩ := SS.dims hrs
          rw [fibsAt_length] at hcs ⊢
          obtain ⟨bs_, os_, us_, rfl, hbs1, hbs2, -, -⟩ := SS.opened hrs (j := 0) (by rw [fibsAt_length]; omega)
          have HSH0 := Lib.hid hrs; clear hrs
          rw [fibsAt_length] at HSH0
          have HRL := Lib.hid (radD_le HM2.out hmx3)
          obtain ⟨R, HR⟩ : ∃ R, Hid (radD D N.ends.length = R) := ⟨_, Lib.hid rfl⟩
          rw [HR.out] at HRL HCE
          have hRm := HRL.out
          go_wp2_with fail
          have hSL := Lib.hid (HSH0.out)
          refine (carve_any _ (fibsAt D (mx + 1) N.ends.length) _ _ _ hSL.out (by omega) D N.ends.length mx rfl HM2.out n40 hmx3).mono ?_
          rintro e w' ⟨rfl, rfl⟩
          rw [HR.out]
          clear hSL
          obtain ⟨T, HT⟩ : ∃ T, Hid (min (R + 2) (mx + 1) = T) := ⟨_, Lib.hid rfl⟩
          have hT1 : T ≤ mx + 1 := by have := HT.out; omega
          have hmin : min ((R : Int) + 1 + 1) ((mx : Int) + 1) = (T : Int) := by have := HT.out; omega
          have hTc : T ≤ cs := by omega
          have hTc2 : (T : Int) ≤ cs := by omega
          have hT0 : ¬ (T : Int) < 0 := by omega
          go_wp2_with fail
          go_loopw [75] (fun rv wr => ∃ (r : Nat), r ≤ T ∧ rv = .int .i64 r ∧ Hid (BoolS wr (wq.heap.size) (wq.heap.size + 1) (.slice (some ⟨wq.heap.size, 0, none⟩) N.ends.length N.ends.length) (bsAt s.ac D N.ends.length r 0)) ∧ Hid (IntS wr W1.heap.size W2.heap.size (.slice (some ⟨bC, oC, none⟩) N.ends.length cC) (zsAt s.cl D (s.co.length : Int) N.ends.length (R + 1) r 0)) ∧ Hid (BoxN wr (W2.heap.size) #[.slice (some ⟨bC, oC, none⟩) N.ends.length cC, va] 36) ∧ Hid (OwnI wr W3.heap.size 3 va s.co) ∧ Hid (IntSS wr wx.heap.size W8.heap.size (.slice (some ⟨bs_, os_, none⟩) (mx + 1) cs) (fibsAt D (mx + 1) N.ends.length)) ∧ W8.heap.size ≤ wr.heap.size ∧ Hid (Turned W1.heap.size W3.heap.size W3 wr)) (fun rv _ => T - (intOf rv).toNat)
          case atStart => exact ⟨0, Nat.zero_le _, rfl, Lib.hid (by rw [bsAt_zero HSL.out]; exact B8.out), Lib.hid (by rw [zsAt_zero HSK.out.lcl]; exact Z8.out), D8, O8, HSH0, Nat.le_refl _, HF8⟩
          case round =>
            clear HF8
            obtain ⟨r, hr, rfl, HB, HZ, HD, HO, HSH, hw8, HF9⟩ := hrel
            have hs9 := HF9.out.size
            obtain ⟨wy, rfl⟩ : ∃ wy : World, wy = wr := ⟨_, rfl⟩
            by_cases hrT : r < T
            case pos =>
              have hrm : r < mx + 1 := by omega
              obtain ⟨br, orr, ur, er, _, hbr, zr, hur⟩ := SS.opened HSH.out (j := r) (by rw [fibsAt_length]; exact hrm)
              injection er with er1
              injection er1 with er3 er4 _
              subst er3 er4
              rw [nthL_fibsAt hrm] at hur
              obtain ⟨Ar, cr, rfl, hcr, hdr⟩ := hur.dims
              have hfl := fibL_len D r N.ends.length
              have hrTi : (r : Int) < T := by omega
              have HFN := Lib.hid (fun j (hj : j < (fibL D r N.ends.length).length) => (show ∃ u : Nat, nth (fibL D r N.ends.length) j = u ∧ u < N.ends.length from by
                obtain ⟨u, hu, _, e⟩ := mem_fibL.1 (nth_mem hj)
                exact ⟨u, e, hu⟩))
              have HSTB := Lib.hid (fun j (u : Nat) (hj : j < (fibL D r N.ends.length).length) (hu : nth (fibL D r N.ends.length) j = (u : Int)) => bsAt_step (ac := s.ac) hj hu)
              have HSTZ := Lib.hid (fun (h : r < R + 1) j (u : Nat) (hj : j < (fibL D r N.ends.length).length) (hu : nth (fibL D r N.ends.length) j = (u : Int)) => zsAt_step (cl := s.cl) (K := (s.co.length : Int)) h hj hu)
              have HENB := Lib.hid (bsAt_shell (ac := s.ac) (D := D) (n := N.ends.length) (r := r))
              have HENZ := Lib.hid (zsAt_shell (cl := s.cl) (D := D) (K := (s.co.length : Int)) (n := N.ends.length) (c := R + 1) (r := r))
              obtain ⟨F, HF⟩ : ∃ F, Hid (fibL D r N.ends.length = F) := ⟨_, Lib.hid rfl⟩
              rw [HF.out] at hur hcr zr hfl HFN HSTB HSTZ HENB HENZ
              have HU0 := Lib.hid hur; clear hur
              go_wp2_with fail
              clear zr
              go_loopw [82] (fun jv wr => ∃ (j : Nat), j ≤ F.length ∧ jv = .int .i64 j ∧ Hid (BoolS wr (wq.heap.size) (wq.heap.size + 1) (.slice (some ⟨wq.heap.size, 0, none⟩) N.ends.length N.ends.length) (bsAt s.ac D N.ends.length r j)) ∧ Hid (IntS wr W1.heap.size W2.heap.size (.slice (some ⟨bC, oC, none⟩) N.ends.length cC) (zsAt s.cl D (s.co.length : Int) N.ends.length (R + 1) r j)) ∧ Hid (BoxN wr (W2.heap.size) #[.slice (some ⟨bC, oC, none⟩) N.ends.length cC, va] 36) ∧ Hid (OwnI wr W3.heap.size 3 va s.co) ∧ Hid (IntSS wr wx.heap.size W8.heap.size (.slice (some ⟨bs_, os_, none⟩) (mx + 1) cs) (fibsAt D (mx + 1) N.ends.length)) ∧ W8.heap.size ≤ wr.heap.size ∧ Hid (IntS wr wx.heap.size W8.heap.size (.slice Ar F.length cr) F) ∧ Hid (Turned W1.heap.size W3.heap.size W3 wr)) (fun jv _ => F.length - (intOf jv).toNat)
              case atStart => exact ⟨0, Nat.zero_le _, rfl, HB, HZ, HD, HO, HSH, hw8, HU0, HF9⟩
              case round =>
                clear HF9
                obtain ⟨j, hj, rfl, HB, HZ, HD, HO, HSH, hw8, HU, HF10⟩ := hrel
                have hs10 := HF10.out.size
                obtain ⟨wz, rfl⟩ : ∃ wz : World, wz = wr := ⟨_, rfl⟩
                by_cases hjn : j < F.length
                case neg =>
                  obtain rfl : j = F.length := by omega
                  go_wp2_with fail
                  go_roundw
                  case rel => exact ⟨r + 1, by omega, by go_num, Lib.hid (by rw [← HENB.out]; exact HB.out), Lib.hid (by rw [← HENZ.out]; exact HZ.out), HD, HO, HSH, hw8, HF10⟩
                  case measure => simp [intOf]; omega
                have hji : (j : Int) < F.length := by omega
                obtain ⟨u, eu, hun⟩ := HFN.out j hjn
                have HSB := Lib.hid (HSTB.out j u hjn eu)
                have HSZ := Lib.hid (fun h => HSTZ.out h j u hjn eu)
                obtain ⟨bu, ou, rfl, _, _, xu, _⟩ := HU.out.opened hjn
                rw [eu] at xu
                clear eu
                have hui : (u : Int) < N.ends.length := by omega
                obtain ⟨y1, y2⟩ := HB.out.at0 (j := u) (by rw [bsAt_len]; exact hun)
                obtain ⟨yb, HYB⟩ : ∃ yb, Hid (nthB (bsAt s.ac D N.ends.length r j) u = yb) := ⟨_, Lib.hid rfl⟩
                rw [HYB.out] at y1
                have HSET := Lib.hid (HB.out.set0 (j := u) (by rw [bsAt_len]; exact hun) false)
                rw [HSB.out] at HSET
                go_upto_region 26 with (fail)
                clear y1 y2 xu
                refine nameC ?_
                intro W11 HW11
                have hg11 : wz.grownBy W11 (some (wq.heap.size)) := by rw [HW11.out]; exact grown_set _ _ _
                have hs11 := hg11.size
                rw [← HW11.out] at HSET
                clear HW11
                have HF11 := Lib.hid (HF10.out.grown hg11 (fun g e => .inr (by cases e; omega)))
                have HZ1 := Lib.hid (IntS.far HZ.out hg11 (by omega) (fun g e => .inr (by cases e; omega)))
                have HD1 := Lib.hid (BoxN.far HD.out hg11 (fun g e => by cases e; omega))
                have HO1 := Lib.hid (OwnI.far HO.out hg11 (fun g e => .inr (fun e2 => HNE.out g e2 (by cases e; rfl))))
                have HSH1 := Lib.hid (ISS.far HSH.out hg11 (by omega) (fun g e => .inl (by cases e; omega)))
                have HU1 := Lib.hid (IntS.far HU.out hg11 (by omega) (fun g e => .inl (by cases e; omega)))
                clear HB HZ HD HO HSH HU
                by_cases hrR : r < R + 1
                case neg =>
                  have hrR2 : ¬ (r : Int) < (R : Int) + 1 := by omega
                  have HZS := Lib.hid (zsAt_skip (cl := s.cl) (D := D) (K := (s.co.length : Int)) (n := N.ends.length) (j := j) hrR)
                  go_wp2_with fail
                  go_roundw
                  case rel => exact ⟨j + 1, by omega, by go_num, HSET, Lib.hid (by rw [HZS.out]; exact HZ1.out), HD1, HO1, HSH1, by omega, HU1, HF11⟩
                  case measure => simp [intOf]; omega
                have hrR2 : (r : Int) < (R : Int) + 1 := by omega
                have HZS := Lib.hid (HSZ.out hrR)
                obtain ⟨Aw, cw, rfl, hcw, hdw⟩ := HO1.out.ints.dims
                have kd0 : W11.cell? ⟨W2.heap.size, 0, none⟩ = some (.slice (some ⟨bC, oC, none⟩) N.ends.length cC) := HD1.out.cell 0 (by simp)
                have kd1 : W11.cell? ⟨W2.heap.size, 1, none⟩ = some (.slice Aw s.co.length cw) := HD1.out.cell 1 (by simp)
                obtain ⟨x1, x2⟩ := HZ1.out.at_ (j := u) (by rw [zsAt_len]; exact hun)
                obtain ⟨yz, HYZ⟩ : ∃ yz, Hid (nth (zsAt s.cl D (s.co.length : Int) N.ends.length (R + 1) r j) u = yz) := ⟨_, Lib.hid rfl⟩
                rw [HYZ.out] at x1
                have HSET2 := Lib.hid (HZ1.out.set (j := u) (by rw [zsAt_len]; exact hun) (s.co.length : Int))
                rw [HZS.out] at HSET2
                go_wp2_with fail
                go_roundw
                case rel =>
                  have hg9 : W11.grownBy (W11.setCell ⟨bC, oC + u, none⟩ (.int .i64 (s.co.length : Nat))) (some bC) := grown_set _ _ _
                  exact ⟨j + 1, by omega, by go_num, Lib.hid (BoolS.far HSET.out hg9 (by omega) (fun g e => .inl (by cases e; omega))), HSET2, Lib.hid (BoxN.far HD1.out hg9 (fun g e => by cases e; omega)), Lib.hid (OwnI.far HO1.out hg9 (fun g e => .inl (by cases e; omega))), Lib.hid (ISS.far HSH1.out hg9 (by omega) (fun g e => .inl (by cases e; omega))), by rw [size_setCell]; omega, Lib.hid (IntS.far HU1.out hg9 (by omega) (fun g e => .inl (by cases e; omega))), Lib.hid (HF11.out.grown hg9 (fun g e => .inl (by cases e; omega)))⟩
                case measure => simp [intOf]; omega
            obtain rfl : r = T := by omega
            have HBE := Lib.hid (bsAt_end (ac := s.ac) HM2.out HT.out.symm)
            have HZE := Lib.hid (zsAt_end (cl := s.cl) (K := (s.co.length : Int)) HM2.out HT.out.symm)
            rw [HBE.out] at HB
            rw [HZE.out] at HZ
            have HB9 := Lib.hid (show BoolS wy (wq.heap.size) (wq.heap.size + 1) (.slice (some ⟨wq.heap.size, 0, none⟩) N.ends.length N.ends.length) (carC N k s (c : Int)).ac by rw [HCE.out]; exact HB.out)
            have HZ9 := Lib.hid (show IntS wy W1.heap.size W2.heap.size (.slice (some ⟨bC, oC, none⟩) N.ends.length cC) (carC N k s (c : Int)).cl by rw [HCE.out]; exact HZ.out)
            have HCO := Lib.hid (show (carC N k s (c : Int)).co = s.co ++ [(k : Int)] by rw [HCE.out])
            obtain ⟨s2, HS2⟩ : ∃ s2, Hid (carC N k s (c : Int) = s2) := ⟨_, Lib.hid rfl⟩
            rw [HS2.out] at HB9 HZ9 HCO HSN
            clear HB HZ HBE HZE
            obtain ⟨Aw, cw, rfl, hcw, hdw⟩ := HO.out.ints.dims
            have hlv := HO.out.lt
            have HLW := Lib.hid hlv; clear hlv
            have kd0 : wy.cell? ⟨W2.heap.size, 0, none⟩ = some (.slice (some ⟨bC, oC, none⟩) N.ends.length cC) := HD.out.cell 0 (by simp)
            have kd1 : wy.cell? ⟨W2.heap.size, 1, none⟩ = some (.slice Aw s.co.length cw) := HD.out.cell 1 (by simp)
            go_wp2_with (at_builtin; refine append_int (s := .tmp 102) Try.underlying23 Try.info3 (by decide) wy rfl _ rfl HO.out k _ rfl (by simp [Act.eval, go_sem]) (by omega) (by omega) ?_; intro v' w' ho' hg' hat'; have HD2 := Lib.hid (BoxN.far HD.out hg' (fun g e => by have := (HLW.out g e).1; omega)); have kc := HD2.out.cell 1 (by simp); have kf := HD2.out.frozen 1; have hd9 : ∃ A c, v' = .slice A (s.co.length + 1) c := (by obtain ⟨A, c, e, _, _⟩ := ho'.ints.dims; exact ⟨A, c, by simp [e]⟩); obtain ⟨Av', cv', rfl⟩ := hd9; have HO' := Lib.hid ho'; have HAT := Lib.hid hat')
            go_roundw
            case rel =>
              have hgs := hg'.size
              have hg9 : w'.grownBy (w'.setCell ⟨W2.heap.size, 1, none⟩ (.slice Av' (s.co.length + 1) cv')) (some (W2.heap.size)) := grown_set _ ⟨W2.heap.size, 1, none⟩ _
              exact ⟨q + 1, s2, .slice Av' (s.co.length + 1) cv', by omega, by go_num, HSN, Lib.hid (BoolS.far (BoolS.far HB9.out hg' (by omega) (fun g e => by have h1 := HLW.out g e; have h2 := HNE.out g e; omega)) hg9 (by omega) (fun g e => .inl (by cases e; omega))), Lib.hid (IntS.far (IntS.far HZ9.out hg' (by omega) (fun g e => .inr (by have := (HLW.out g e).1; omega))) hg9 (by omega) (fun g e => .inr (by cases e; omega))), Lib.hid (HD2.out.set 1 _), Lib.hid (by rw [HCO.out]; exact OwnI.far HO'.out hg9 (fun g e => .inl (by cases e; omega))), Lib.hid (fun g e => by rcases HAT.out with h | h; exact HNE.out g (by rw [← h]; exact e); rw [h] at e; injection e with e; omega), by rw [size_setCell]; omega, Lib.hid ((HF9.out.grown hg' (fun g e => .inr (HLW.out g e).1)).grown hg9 (fun g e => .inl (by cases e; omega)))⟩
            case measure => simp [intOf]; omega

end Go.Proofs.Ytcmmklcampmkjaa
