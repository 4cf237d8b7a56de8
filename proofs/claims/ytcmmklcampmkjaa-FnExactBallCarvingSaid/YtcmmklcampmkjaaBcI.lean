/-
  Several texts in one: DefP, Put, DomP, Perm. No condition on any program.
-/
import Derived.Test.YtcmmklcampmkjaaBcH
import Derived.Laws.AppendOwnNone
import Derived.Lib.SlicesCompact

/- Plain: colours that are changed one node at a time; the ports with an equal colour grow fewer. -/
namespace Go.Proofs.Ytcmmklcampmkjaa
set_option linter.unusedVariables false

def sumN (f : Nat → Nat) : Nat → Nat
  | 0 => 0
  | n + 1 => sumN f n + f n
theorem sumN_congr {f g : Nat → Nat} : ∀ {n : Nat}, (∀ k, k < n → f k = g k) → sumN f n = sumN g n
  | 0, _ => rfl
  | n + 1, h => by rw [sumN, sumN, sumN_congr (fun k hk => h k (by omega)), h n (by omega)]
theorem sumN_le {f g : Nat → Nat} : ∀ {n : Nat}, (∀ k, k < n → f k ≤ g k) → sumN f n ≤ sumN g n
  | 0, _ => Nat.le_refl _
  | n + 1, h => by rw [sumN, sumN]; exact Nat.add_le_add (sumN_le (fun k hk => h k (by omega))) (h n (by omega))
theorem sumN_add (f g : Nat → Nat) : ∀ n, sumN (fun k => f k + g k) n = sumN f n + sumN g n
  | 0 => rfl
  | n + 1 => by rw [sumN, sumN, sumN, sumN_add f g n]; omega
theorem sumN_zero : ∀ n, sumN (fun _ => 0) n = 0
  | 0 => rfl
  | n + 1 => by rw [sumN, sumN_zero n]
theorem sumN_const (c : Nat) : ∀ n, sumN (fun _ => c) n = n * c
  | 0 => by simp [sumN]
  | n + 1 => by rw [sumN, sumN_const c n, Nat.succ_mul]
theorem sumN_one (a c : Nat) : ∀ n, sumN (fun k => if k = a then c else 0) n = if a < n then c else 0
  | 0 => by simp [sumN]
  | n + 1 => by
    rw [sumN, sumN_one a c n]
    by_cases h : n = a
    · subst h; simp
    · have e : (a < n + 1) ↔ a < n := by omega
      simp [h, e]
theorem sumN_at {f : Nat → Nat} {a n : Nat} (h : a < n) (c : Nat) : sumN (fun k => f k + if k = a then c else 0) n = sumN f n + c := by rw [sumN_add, sumN_one, if_pos h]

theorem nodup_sub_len {α : Type} [DecidableEq α] : ∀ (l m : List α), l.Nodup → (∀ x ∈ l, x ∈ m) → l.length ≤ m.length
  | [], m, _, _ => Nat.zero_le _
  | x :: l, m, hn, h => by
    have hx : x ∈ m := h x (by simp)
    have hn' := List.nodup_cons.1 hn
    have := nodup_sub_len l (m.erase x) hn'.2 (fun y hy => (List.mem_erase_of_ne (by rintro rfl; exact hn'.1 hy)).2 (h y (List.mem_cons_of_mem _ hy)))
    rw [List.length_erase_of_mem hx] at this
    have := List.length_pos_of_mem hx
    simp only [List.length_cons]
    omega

/-- how many of the first m ports of v lead to w -/
def toK (N : NetD) (v m w : Nat) : Nat := ((List.range m).filter fun i => decide ((nthE (nthL N.ends v) i).1 = (w : Int))).length
def wgt (N : NetD) (v w : Nat) : Nat := toK N v (nthL N.ends v).length w
theorem toK_zero (N : NetD) (v w : Nat) : toK N v 0 w = 0 := rfl
theorem toK_succ (N : NetD) (v m w : Nat) : toK N v (m + 1) w = toK N v m w + if (nthE (nthL N.ends v) m).1 = (w : Int) then 1 else 0 := by
  unfold toK
  rw [List.range_succ, List.filter_append, List.length_append]
  by_cases h : (nthE (nthL N.ends v) m).1 = (w : Int)
  · rw [if_pos h]; simp [h]
  · rw [if_neg h]; simp [h]
theorem portsC_take {N : NetD} (hg : N.good = true) {v : Nat} (hv : v < N.ends.length) (l : List Int) (x : Int) : ∀ m, m ≤ (nthL N.ends v).length →
    cntI x ((nears N v l).take m) = sumN (fun w => if nth l w = x then toK N v m w else 0) N.ends.length
  | 0, _ => by
    rw [sumN_congr (g := fun _ => 0) (fun k _ => by rw [toK_zero]; split <;> rfl), sumN_zero]; rfl
  | m + 1, hm => by
    obtain ⟨t, r, e, ht, hr, _⟩ := good_end hg hv (i := m) (by omega)
    rw [cntI_take (by rw [nears_length]; omega), portsC_take hg hv l x m (by omega), nth_nears l (by omega), e, Int.toNat_natCast, ← sumN_at ht]
    refine sumN_congr fun w hw => ?_
    rw [toK_succ, e]
    dsimp only
    by_cases h1 : w = t
    · subst h1
      rw [if_pos rfl]
      by_cases h2 : nth l w = x
      · rw [if_pos h2, if_pos h2, if_pos h2, if_pos rfl]
      · rw [if_neg h2, if_neg h2, if_neg h2]
    · rw [if_neg h1, if_neg (c := (t : Int) = (w : Int)) (by omega)]; rfl
theorem portsC_sum {N : NetD} (hg : N.good = true) {v : Nat} (hv : v < N.ends.length) (l : List Int) (x : Int) :
    portsC N v l x = sumN (fun w => if nth l w = x then wgt N v w else 0) N.ends.length := by
  have := portsC_take hg hv l x _ (Nat.le_refl _)
  rw [← nears_length N v l, List.take_length, nears_length] at this
  exact this
theorem wgt_le {N : NetD} (hg : N.good = true) {v w : Nat} (hv : v < N.ends.length) (hw : w < N.ends.length) : wgt N v w ≤ wgt N w v := by
  unfold wgt toK
  rw [← List.length_map (f := fun i => (nthE (nthL N.ends v) i).2.toNat)]
  refine nodup_sub_len _ _ ?_ ?_
  · unfold List.Nodup
    rw [List.pairwise_map]
    have hn : (List.filter (fun i => decide ((nthE (nthL N.ends v) i).1 = (w : Int))) (List.range (nthL N.ends v).length)).Nodup := List.Pairwise.filter _ List.nodup_range
    unfold List.Nodup at hn
    refine hn.imp_of_mem ?_
    intro i j hi hj hne he
    simp only [List.mem_filter, List.mem_range, decide_eq_true_eq] at hi hj
    obtain ⟨t, r, e, ht, hr, e2⟩ := good_end hg hv hi.1
    obtain ⟨t', r', e', ht', hr', e2'⟩ := good_end hg hv hj.1
    rw [e, e'] at he
    rw [e] at hi
    rw [e'] at hj
    have h1 : t = w := by have := hi.2; dsimp only at this; omega
    have h2 : t' = w := by have := hj.2; dsimp only at this; omega
    dsimp only at he
    have h3 : r = r' := by omega
    subst h1; subst h2; subst h3
    rw [e2] at e2'
    injection e2' with _ h4
    omega
  · intro r hr
    simp only [List.mem_map, List.mem_filter, List.mem_range, decide_eq_true_eq] at hr
    obtain ⟨i, ⟨h1, h2⟩, rfl⟩ := hr
    obtain ⟨t, r, e, ht, hr, e2⟩ := good_end hg hv h1
    rw [e] at h2 ⊢
    dsimp only at h2
    have h3 : t = w := by omega
    subst h3
    simp only [List.mem_filter, List.mem_range, decide_eq_true_eq, Int.toNat_natCast]
    exact ⟨hr, by rw [e2]⟩
theorem wgt_symm {N : NetD} (hg : N.good = true) {v w : Nat} (hv : v < N.ends.length) (hw : w < N.ends.length) : wgt N v w = wgt N w v :=
  Nat.le_antisymm (wgt_le hg hv hw) (wgt_le hg hw hv)

/-- no port leads to its own node -/
def noLoop (N : NetD) : Bool := (List.range N.ends.length).all fun v => !decide ((v : Int) ∈ nbs N v)
theorem nbs_mem {N : NetD} {v : Nat} {x : Int} : x ∈ nbs N v ↔ ∃ i, i < (nthL N.ends v).length ∧ (nthE (nthL N.ends v) i).1 = x := by
  constructor
  · intro h
    obtain ⟨i, hi, e⟩ := List.mem_iff_getElem.1 h
    rw [nbs_length] at hi
    exact ⟨i, hi, by rw [← nth_nbs N v hi, nth_eq (by rw [nbs_length]; exact hi), e]⟩
  · rintro ⟨i, hi, e⟩
    rw [← e, ← nth_nbs N v hi]
    exact nth_mem (by rw [nbs_length]; exact hi)
theorem noLoop_wgt {N : NetD} (h : noLoop N = true) {v : Nat} (hv : v < N.ends.length) : wgt N v v = 0 := by
  unfold wgt toK
  rw [List.length_eq_zero_iff, List.filter_eq_nil_iff]
  intro i hi hd
  have := rangeAll_at h hv
  have hm : (v : Int) ∈ nbs N v := nbs_mem.2 ⟨i, List.mem_range.1 hi, of_decide_eq_true hd⟩
  rw [decide_eq_true hm] at this
  cases this

/-- the ports whose two nodes have one colour -/
def phi (N : NetD) (l : List Int) : Nat := sumN (fun v => portsC N v l (nth l v)) N.ends.length
theorem phi_step {N : NetD} (hg : N.good = true) (hn : noLoop N = true) {l : List Int} (hl : l.length = N.ends.length) {u : Nat} (hu : u < N.ends.length) (y : Int) :
    phi N (l.set u y) + 2 * portsC N u l (nth l u) = phi N l + 2 * portsC N u l y := by
  have hs : ∀ w, nth (l.set u y) w = if w = u then y else nth l w := fun w => nth_set _ _ _ _ (by omega)
  have hw0 := noLoop_wgt hn hu
  have hx : ∀ z, sumN (fun v => if nth l v = z then wgt N u v else 0) N.ends.length = portsC N u l z := fun z => (portsC_sum hg hu l z).symm
  have key : ∀ v, v < N.ends.length → portsC N v (l.set u y) (nth (l.set u y) v) + ((if nth l v = nth l u then wgt N u v else 0) + if v = u then portsC N u l (nth l u) else 0) =
      portsC N v l (nth l v) + ((if nth l v = y then wgt N u v else 0) + if v = u then portsC N u l y else 0) := by
    intro v hv
    rw [hs v]
    by_cases e : v = u
    · subst e
      rw [if_pos rfl, if_pos rfl, if_pos rfl, hw0]
      have : portsC N v (l.set v y) y = portsC N v l y := by
        rw [portsC_sum hg hv, portsC_sum hg hv]
        refine sumN_congr fun w hw => ?_
        rw [hs w]
        by_cases e2 : w = v
        · subst e2; rw [hw0]; simp
        · rw [if_neg e2]
      rw [this, if_pos rfl]
      split <;> omega
    · rw [if_neg e, if_neg e, if_neg e]
      have : portsC N v (l.set u y) (nth l v) + (if nth l v = nth l u then wgt N v u else 0) = portsC N v l (nth l v) + if nth l v = y then wgt N v u else 0 := by
        rw [portsC_sum hg hv, portsC_sum hg hv, ← sumN_at hu, ← sumN_at hu]
        refine sumN_congr fun w hw => ?_
        rw [hs w]
        by_cases e2 : w = u
        · subst e2
          rw [if_pos rfl, if_pos rfl, if_pos rfl]
          by_cases c1 : y = nth l v <;> by_cases c2 : nth l w = nth l v
          · simp [c1, c2]
          · have : ¬ nth l v = nth l w := fun h => c2 h.symm
            simp [c1, c2, this]
          · have : ¬ nth l v = y := fun h => c1 h.symm
            simp [c1, c2, this]
          · have h1 : ¬ nth l v = nth l w := fun h => c2 h.symm
            have h2 : ¬ nth l v = y := fun h => c1 h.symm
            simp [c1, c2, h1, h2]
        · rw [if_neg e2, if_neg e2, if_neg e2]
      rw [wgt_symm hg hu hv]
      omega
  have hsum := sumN_congr key
  rw [sumN_add, sumN_add, sumN_add, sumN_add, sumN_one, sumN_one, if_pos hu, if_pos hu, hx, hx] at hsum
  unfold phi
  omega
theorem phi_le {N : NetD} (hg : N.good = true) (l : List Int) : phi N l ≤ 240 := by
  obtain ⟨n1, n40⟩ := good_n hg
  have : phi N l ≤ sumN (fun _ => 6) N.ends.length := sumN_le fun v hv => Nat.le_trans (portsC_le N v l _) (good_deg hg hv)
  rw [sumN_const] at this
  omega
theorem cntI_cons (z x : Int) (zs : List Int) : cntI z (x :: zs) = (if x = z then 1 else 0) + cntI z zs := by
  unfold cntI
  by_cases h : x = z
  · subst h; simp; omega
  · simp [h]
theorem cntI_sum (k : Nat) : ∀ zs : List Int, sumN (fun z => cntI (z : Int) zs) k ≤ zs.length
  | [] => by
    have : sumN (fun z => cntI (z : Int) []) k = sumN (fun _ => 0) k := sumN_congr fun z _ => rfl
    rw [this, sumN_zero]; exact Nat.le_refl _
  | x :: zs => by
    rw [sumN_congr (g := fun (z : Nat) => (if x = (z : Int) then 1 else 0) + cntI (z : Int) zs) (fun z _ => cntI_cons _ _ _), sumN_add]
    have h1 := cntI_sum k zs
    have h2 : sumN (fun (z : Nat) => if x = (z : Int) then 1 else 0) k ≤ sumN (fun z => if z = x.toNat then 1 else 0) k := sumN_le fun z _ => by
      by_cases h : x = (z : Int)
      · rw [if_pos h, if_pos (by omega)]; exact Nat.le_refl _
      · rw [if_neg h]; exact Nat.zero_le _
    rw [sumN_one] at h2
    have h3 : (if x.toNat < k then 1 else 0) ≤ 1 := by split <;> omega
    simp only [List.length_cons]
    omega

/-- the least colour below j to which the fewest ports lead -/
def bestC (N : NetD) (v : Nat) (l : List Int) : Nat → Nat
  | 0 => 0
  | j + 1 => if portsC N v l (j : Int) < portsC N v l (bestC N v l j : Int) then j else bestC N v l j
theorem bestC_lt (N : NetD) (v : Nat) (l : List Int) : ∀ j, bestC N v l j ≤ j - 1
  | 0 => Nat.le_refl _
  | j + 1 => by rw [bestC]; have := bestC_lt N v l j; split <;> omega
theorem bestC_min (N : NetD) (v : Nat) (l : List Int) : ∀ j z, z < j → portsC N v l (bestC N v l j : Int) ≤ portsC N v l (z : Int)
  | j + 1, z, hz => by
    rw [bestC]
    by_cases e : z = j
    · subst e; split <;> omega
    · have := bestC_min N v l j z (by omega)
      split <;> omega
theorem bestC_few (N : NetD) (v : Nat) (l : List Int) {k : Nat} (hk : 0 < k) : portsC N v l (bestC N v l k : Int) ≤ (nthL N.ends v).length / k := by
  rw [Nat.le_div_iff_mul_le hk]
  have h1 : sumN (fun z => portsC N v l (z : Int)) k ≤ (nthL N.ends v).length := by
    have := cntI_sum k (nears N v l)
    rw [nears_length] at this
    exact this
  have h2 : sumN (fun _ => portsC N v l (bestC N v l k : Int)) k ≤ sumN (fun z => portsC N v l (z : Int)) k := sumN_le fun z hz => bestC_min N v l k z hz
  rw [sumN_const, Nat.mul_comm] at h2
  omega
/-- too many ports of v lead to its own colour -/
def crowdAt (N : NetD) (k : Nat) (l : List Int) (v : Nat) : Bool := decide ((nthL N.ends v).length / k < portsC N v l (nth l v))
def crowd (N : NetD) (k : Nat) (l : List Int) : Int := fidxN (crowdAt N k l) N.ends.length
def recol (N : NetD) (k : Nat) (l : List Int) : List Int := l.set (crowd N k l).toNat (bestC N (crowd N k l).toNat l k : Nat)
def defL (N : NetD) (k : Nat) : Nat → List Int → List Int
  | 0, l => l
  | f + 1, l => if crowd N k l < 0 then l else defL N k f (recol N k l)
def defS (N : NetD) (k : Nat) : Nat → Nat → List Int → Nat
  | 0, s, l => s
  | f + 1, s, l => if crowd N k l < 0 then s else defS N k f (s + 1) (recol N k l)
def def0 (N : NetD) : List Int := List.replicate N.ends.length 0
def defColours (N : NetD) (k : Nat) : List Int := defL N k 241 (def0 N)
def defSteps (N : NetD) (k : Nat) : Nat := defS N k 241 0 (def0 N)
structure DTop (N : NetD) (k s : Nat) (l : List Int) : Prop where
  len : l.length = N.ends.length
  col : ∀ j, j < N.ends.length → 0 ≤ nth l j ∧ nth l j < k
  pot : s + phi N l ≤ 240
  eqL : defColours N k = defL N k (241 - s) l
  eqS : defSteps N k = defS N k (241 - s) s l
theorem DTop.zero {N : NetD} (hg : N.good = true) {k : Nat} (hk : 0 < k) : DTop N k 0 (def0 N) :=
  ⟨by simp [def0], fun j hj => by unfold def0; rw [nth_replicate _ _ hj]; omega, by have := phi_le hg (def0 N); omega, rfl, rfl⟩
theorem DTop.stop {N : NetD} {k s : Nat} {l : List Int} (h : DTop N k s l) (hc : crowd N k l = -1) : defColours N k = l ∧ defSteps N k = s := by
  have := h.pot
  rw [h.eqL, h.eqS, show 241 - s = (240 - s) + 1 by omega, defL, defS, if_pos (by omega), if_pos (by omega)]
  exact ⟨rfl, rfl⟩
theorem DTop.step {N : NetD} (hg : N.good = true) (hn : noLoop N = true) {k s : Nat} (hk : 0 < k) {l : List Int} (h : DTop N k s l) {v : Nat} (hv : v < N.ends.length) (hc : crowd N k l = v) (hp : crowdAt N k l v = true) :
    DTop N k (s + 1) (l.set v (bestC N v l k : Nat)) := by
  have hst := phi_step hg hn h.len hv (bestC N v l k : Nat)
  have hb := bestC_few N v l hk
  have hc' := of_decide_eq_true hp
  have hpot := h.pot
  have hb2 := bestC_lt N v l k
  have er : recol N k l = l.set v (bestC N v l k : Nat) := by unfold recol; rw [hc, Int.toNat_natCast]
  refine ⟨by rw [List.length_set]; exact h.len, fun j hj => ?_, by omega, ?_, ?_⟩
  · rw [nth_set _ _ _ _ (by rw [h.len]; exact hv)]
    have := h.col j hj
    split <;> omega
  · rw [h.eqL, show 241 - s = (241 - (s + 1)) + 1 by omega, defL, if_neg (by omega), er]
  · rw [h.eqS, show 241 - s = (241 - (s + 1)) + 1 by omega, defS, if_neg (by omega), er]
end Go.Proofs.Ytcmmklcampmkjaa

/- Appends of whole slices of numbers onto rows of a call's own; the reference's l1Put: a number put into an increasing list. -/
namespace Go.Proofs.Ytcmmklcampmkjaa
open Go.ChangeShapes Go.WideShapes Go.ChangeAt Go.RowKit
set_option linter.unusedVariables false

theorem OwnI.empty (w : World) (base : Nat) (e : TypeId) {g : Nat} (hg : w.heap.size = g) (hb : base ≤ g) : OwnI (w.alloc (.cells #[] e)) base e (.slice (some ⟨g, 0, none⟩) 0 0) [] := by
  subst hg
  refine ⟨by simp, .inr ⟨w.heap.size, 0, #[], by simp, hb, heap_alloc_new w _, by simp, by simp, by simp, by simp⟩⟩
/-- append of a slice of numbers that is known cell by cell -/
theorem append_ints {P : Program} {ops : Array Oper} {rest : List Oper} {o : Oper} {a : Act} {Q : Exit → Act → World → Prop} {t e : TypeId} {bytes : Nat}
    (ht : P.underlying t = some (.slice e)) (hinfo : (P.info? e).map (fun i => (i.zero, i.size, i.bytes)) = some (some (.int .i64 0), 1, bytes)) (hby : bytes ≤ 64)
    (w : World) (hgd : o.guard = none) {s : Operand} (x : Operand) (ho : o.op = .call { callee := .builtin .append, args := #[s, x], argTypes := #[t, t] })
    {base : Nat} {v : Value} {zs : List Int} (hown : OwnI w base e v zs) (hs : a.eval s = v) {g off m c : Nat} (ys : List Int) (hm : ys.length = m) (hx : a.eval x = .slice (some ⟨g, off, none⟩) m c)
    (hcell : ∀ j, j < m → w.cell? ⟨g, off + j, none⟩ = some (.int .i64 (nth ys j))) (hlen : zs.length + m ≤ 1099511627776) (hbase : base ≤ w.heap.size)
    (h : ∀ v' w', OwnI w' base e v' (zs ++ ys) → w.grownBy w' v.ownBlock → wpList P ops Q rest (a.put o.dst v') w') :
    wpList P ops Q (o :: rest) a w := by
  refine append_row ht hinfo rfl (by omega) hby w hgd x ho hown hs (ys.map (Value.int .i64)) hx (by simp [hm]) ?_ ?_ (by simpa using hlen) hbase fun v' w' a1 a2 _ => h v' w' ?_ a2
  · intro j u hj
    have hjl : j < ys.length := by have := (List.getElem?_eq_some_iff.1 hj).1; simpa using this
    rw [List.getElem?_map, nth_get? hjl] at hj
    rw [show (⟨g, off, none⟩ : Addr).add j = ⟨g, off + j, none⟩ from Go.WideShapes.add_plain g off j, hcell j (by omega)]
    exact hj
  · intro u hu
    obtain ⟨z, _, rfl⟩ := List.mem_map.1 hu
    rfl
  · unfold OwnI Own
    rw [List.map_append]
    simpa [hm] using a1
end Go.Proofs.Ytcmmklcampmkjaa

/- Plain: the greedy dominating set; no condition on any program. -/
namespace Go.Proofs.Ytcmmklcampmkjaa
set_option linter.unusedVariables false

/-- strictly rising lists with the same members are one -/
theorem rise_ext {a b : List Int} (ha : a.Pairwise (· < ·)) (hb : b.Pairwise (· < ·)) (h : ∀ x, x ∈ a ↔ x ∈ b) : a = b := by
  have na : a.Nodup := ha.imp fun h => by omega
  have nb : b.Nodup := hb.imp fun h => by omega
  refine List.Perm.eq_of_pairwise (le := (· < ·)) (fun x y _ _ h1 h2 => by omega) ha hb ?_
  exact (List.perm_ext_iff_of_nodup na nb).2 h

theorem mem_nth {zs : List Int} {x : Int} : x ∈ zs ↔ ∃ j, j < zs.length ∧ nth zs j = x := by
  constructor
  · intro h
    obtain ⟨j, hj, e⟩ := List.mem_iff_getElem.1 h
    exact ⟨j, hj, by rw [nth_eq hj, e]⟩
  · rintro ⟨j, hj, rfl⟩; exact nth_mem hj
theorem mem_ball {N : NetD} {v : Nat} {r : Int} {x : Int} : x ∈ ball N v r ↔ ∃ t : Nat, t < N.ends.length ∧ inB (nth (dist N v) t) 0 r = true ∧ x = t := by
  unfold ball ballL
  rw [List.mem_map]
  constructor
  · rintro ⟨t, ht, e⟩
    rw [List.mem_filter, List.mem_range] at ht
    exact ⟨t, ht.1, ht.2, e.symm⟩
  · rintro ⟨t, h1, h2, e⟩
    exact ⟨t, by rw [List.mem_filter, List.mem_range]; exact ⟨h1, h2⟩, e.symm⟩
theorem ball_node {N : NetD} {v : Nat} {r : Int} {i : Nat} (h : i < (ball N v r).length) : ∃ t : Nat, nth (ball N v r) i = t ∧ t < N.ends.length := by
  obtain ⟨t, h1, _, h3⟩ := mem_ball.1 (nth_mem h)
  exact ⟨t, h3, h1⟩
/-- how many of the first m nodes of a list are not covered -/
def bare (cov : List Bool) (l : List Int) : Nat → Nat
  | 0 => 0
  | m + 1 => bare cov l m + if nthB cov (nth l m).toNat = true then 0 else 1
def gain (N : NetD) (cov : List Bool) (v : Nat) : Nat := bare cov (ball N v 1) (ball N v 1).length
theorem bare_pos {cov : List Bool} {l : List Int} : ∀ {m : Nat}, 0 < bare cov l m ↔ ∃ i, i < m ∧ nthB cov (nth l i).toNat = false := by
  intro m
  induction m with
  | zero => simp [bare]
  | succ m ih =>
    rw [bare]
    constructor
    · intro h
      by_cases hc : nthB cov (nth l m).toNat = true
      · rw [if_pos hc] at h
        obtain ⟨i, hi, e⟩ := ih.1 (by omega)
        exact ⟨i, by omega, e⟩
      · exact ⟨m, by omega, by simpa using hc⟩
    · rintro ⟨i, hi, e⟩
      by_cases h2 : i = m
      · subst h2; rw [if_neg (by rw [e]; simp)]; omega
      · have := ih.2 ⟨i, by omega, e⟩; omega
/-- the first node of greatest gain among the first k -/
def bestN (N : NetD) (cov : List Bool) : Nat → Nat
  | 0 => 0
  | k + 1 => if gain N cov (bestN N cov k) < gain N cov k then k else bestN N cov k
theorem bestN_lt (N : NetD) (cov : List Bool) : ∀ k, bestN N cov k ≤ k - 1
  | 0 => Nat.le_refl _
  | k + 1 => by have := bestN_lt N cov k; rw [bestN]; split <;> omega
/-- the first m nodes of a list are covered now -/
def coverL (cov : List Bool) (l : List Int) : Nat → List Bool
  | 0 => cov
  | m + 1 => (coverL cov l m).set (nth l m).toNat true
theorem coverL_len (cov : List Bool) (l : List Int) : ∀ m, (coverL cov l m).length = cov.length
  | 0 => rfl
  | m + 1 => by rw [coverL, List.length_set]; exact coverL_len cov l m
theorem coverL_at {cov : List Bool} {l : List Int} {j : Nat} : ∀ {m : Nat}, (∀ i, i < m → (nth l i).toNat < cov.length) → (nthB (coverL cov l m) j = true ↔ nthB cov j = true ∨ ∃ i, i < m ∧ (nth l i).toNat = j) := by
  intro m
  induction m with
  | zero => intro _; simp [coverL]
  | succ m ih =>
    intro h
    rw [coverL, nthB_set _ _ _ _ (by rw [coverL_len]; exact h m (by omega))]
    by_cases e : j = (nth l m).toNat
    · rw [if_pos e]; exact ⟨fun _ => .inr ⟨m, by omega, e.symm⟩, fun _ => rfl⟩
    · rw [if_neg e, ih fun i hi => h i (by omega)]
      constructor
      · rintro (h1 | ⟨i, hi, h1⟩)
        · exact .inl h1
        · exact .inr ⟨i, by omega, h1⟩
      · rintro (h1 | ⟨i, hi, h1⟩)
        · exact .inl h1
        · by_cases e2 : i = m
          · subst e2; exact absurd h1.symm e
          · exact .inr ⟨i, by omega, h1⟩
def cover (N : NetD) (cov : List Bool) (v : Nat) : List Bool := coverL cov (ball N v 1) (ball N v 1).length
theorem cover_len (N : NetD) (cov : List Bool) (v : Nat) : (cover N cov v).length = cov.length := coverL_len _ _ _
theorem cover_at {N : NetD} {cov : List Bool} (hl : cov.length = N.ends.length) {v j : Nat} (hj : j < N.ends.length) : nthB (cover N cov v) j = true ↔ nthB cov j = true ∨ (j : Int) ∈ ball N v 1 := by
  unfold cover
  rw [coverL_at fun i hi => by obtain ⟨t, e, ht⟩ := ball_node hi; rw [e]; omega, mem_nth]
  constructor
  · rintro (h | ⟨i, hi, e⟩)
    · exact .inl h
    · obtain ⟨t, e2, ht⟩ := ball_node hi
      exact .inr ⟨i, hi, by rw [e2] at e ⊢; omega⟩
  · rintro (h | ⟨i, hi, e⟩)
    · exact .inl h
    · exact .inr ⟨i, hi, by rw [e]; omega⟩
/-- how many nodes are not covered -/
def bareN (n : Nat) (cov : List Bool) : Nat := sumN (fun j => if nthB cov j = true then 0 else 1) n
theorem sumN_less {f g : Nat → Nat} {n : Nat} (h : ∀ k, k < n → f k ≤ g k) (hex : ∃ k, k < n ∧ f k < g k) : sumN f n < sumN g n := by
  induction n with
  | zero => obtain ⟨k, hk, _⟩ := hex; omega
  | succ n ih =>
    obtain ⟨k, hk, hl⟩ := hex
    rw [sumN, sumN]
    have h1 := h n (by omega)
    by_cases e : k = n
    · subst e; have := sumN_le (n := k) fun j hj => h j (by omega); omega
    · have := ih (fun j hj => h j (by omega)) ⟨k, by omega, hl⟩; omega
def best (N : NetD) (cov : List Bool) : Nat := bestN N cov N.ends.length
def domF (N : NetD) : Nat → List Bool → List Int → List Int
  | 0, _, U => U
  | f + 1, cov, U => if gain N cov (best N cov) = 0 then U else domF N f (cover N cov (best N cov)) (U ++ [(best N cov : Int)])
def dom (N : NetD) : List Int := domF N (N.ends.length + 1) (List.replicate N.ends.length false) []
structure DmTop (N : NetD) (cov : List Bool) (U : List Int) : Prop where
  len : cov.length = N.ends.length
  nodup : U.Nodup
  node : ∀ x ∈ U, ∃ t : Nat, x = t ∧ t < N.ends.length ∧ ∀ j : Nat, j < N.ends.length → (j : Int) ∈ ball N t 1 → nthB cov j = true
  count : U.length + bareN N.ends.length cov ≤ N.ends.length
  eq : dom N = domF N (N.ends.length + 1 - U.length) cov U
theorem bareN_all (n : Nat) : bareN n (List.replicate n false) ≤ n := by
  unfold bareN
  have := sumN_le (f := fun j => if nthB (List.replicate n false) j = true then 0 else 1) (g := fun _ => 1) (n := n) fun k _ => by split <;> omega
  rw [sumN_const] at this; omega
theorem DmTop.zero (N : NetD) : DmTop N (List.replicate N.ends.length false) [] :=
  ⟨by simp, List.nodup_nil, (fun x hx => by cases hx), by have := bareN_all N.ends.length; simpa using this, rfl⟩
theorem DmTop.le {N : NetD} {cov : List Bool} {U : List Int} (h : DmTop N cov U) : U.length ≤ N.ends.length := by have := h.count; omega
theorem DmTop.stop {N : NetD} {cov : List Bool} {U : List Int} (h : DmTop N cov U) (h0 : gain N cov (best N cov) = 0) : dom N = U := by
  have := h.le
  rw [h.eq, show N.ends.length + 1 - U.length = (N.ends.length - U.length) + 1 by omega, domF, if_pos h0]
theorem best_lt {N : NetD} (hg : N.good = true) (cov : List Bool) : best N cov < N.ends.length := by
  obtain ⟨n1, n40⟩ := good_n hg
  have := bestN_lt N cov N.ends.length; unfold best; omega
theorem DmTop.step {N : NetD} (hg : N.good = true) {cov : List Bool} {U : List Int} (h : DmTop N cov U) (h0 : gain N cov (best N cov) ≠ 0) :
    (best N cov : Int) ∉ U ∧ DmTop N (cover N cov (best N cov)) (U ++ [(best N cov : Int)]) := by
  have hb := best_lt hg cov
  have hle := h.le
  obtain ⟨i, hi, e⟩ := bare_pos.1 (show 0 < bare cov (ball N (best N cov) 1) (ball N (best N cov) 1).length from by unfold gain at h0; omega)
  obtain ⟨t, et, ht⟩ := ball_node hi
  rw [et, Int.toNat_natCast] at e
  have hmem : (t : Int) ∈ ball N (best N cov) 1 := by rw [← et]; exact nth_mem hi
  have hnot : (best N cov : Int) ∉ U := fun hx => by
    obtain ⟨s, es, hs, hc⟩ := h.node _ hx
    obtain rfl : best N cov = s := by omega
    have := hc t ht hmem
    rw [this] at e; cases e
  have hcov := fun {j} (hj : j < N.ends.length) => cover_at h.len (v := best N cov) hj
  refine ⟨hnot, by rw [cover_len]; exact h.len, ?_, fun x hx => ?_, ?_, ?_⟩
  · rw [List.nodup_append]
    exact ⟨h.nodup, by simp, fun a ha b hb => by simp at hb; subst hb; rintro rfl; exact hnot ha⟩
  · rcases List.mem_append.1 hx with hx | hx
    · obtain ⟨s, es, hs, hc⟩ := h.node _ hx
      exact ⟨s, es, hs, fun j hj hm => (hcov hj).2 (.inl (hc j hj hm))⟩
    · rw [List.mem_singleton] at hx
      exact ⟨_, hx, hb, fun j hj hm => (hcov hj).2 (.inr hm)⟩
  · have hlt : bareN N.ends.length (cover N cov (best N cov)) < bareN N.ends.length cov := by
      unfold bareN
      refine sumN_less (fun k hk => ?_) ⟨t, ht, ?_⟩
      · by_cases hc : nthB cov k = true
        · rw [if_pos ((hcov hk).2 (.inl hc)), if_pos hc]
          exact Nat.le_refl _
        · rw [if_neg hc]; split <;> omega
      · rw [if_pos ((hcov ht).2 (.inr hmem)), if_neg (by rw [e]; simp)]
        omega
    have := h.count
    rw [List.length_append, List.length_singleton]; omega
  · rw [h.eq, show N.ends.length + 1 - U.length = (N.ends.length - U.length) + 1 by omega, domF, if_neg h0]
    congr 1
    rw [List.length_append, List.length_singleton]; omega
end Go.Proofs.Ytcmmklcampmkjaa

/- Contracts: permutations, orders of a network's nodes, least free numbers (program and reference). -/
namespace Go.Proofs.Ytcmmklcampmkjaa
open Go.ChangeShapes Go.WideShapes Go.ChangeAt Go.RowKit
set_option linter.unusedVariables false

theorem Try.infoBool : (Try.prog.info? 4).map (fun i => (i.zero, i.size, i.bytes)) = some (some (.bool false), 1, 1) := by kernel_rfl
theorem permB_bad {zs : List Int} {n k : Nat} (hk : k < zs.length) (h : permAt zs n k = false) : permB zs n = false := by unfold permB; rw [rangeAll_false hk h]; rfl
def orderB (N : NetD) (zs : List Int) : Bool := N.good && permB zs N.ends.length
theorem seen_step {zs : List Int} {n k t : Nat} {bs : List Bool} (hl : bs.length = n) (hk : k < zs.length) (ht : nth zs k = t) (htn : t < n) (h : ∀ j : Nat, j < n → nthB bs j = decide ((j : Int) ∈ zs.take k)) : ∀ j : Nat, j < n → nthB (bs.set t true) j = decide ((j : Int) ∈ zs.take (k + 1)) := fun j hj => by
  rw [nthB_set _ _ _ _ (by omega), List.take_succ_eq_append_getElem hk, ← nth_eq hk, ht]
  by_cases e : j = t
  · rw [if_pos e, e]; simp
  · rw [if_neg e, h j hj, Bool.eq_iff_iff]
    simp only [decide_eq_true_eq, List.mem_append, List.mem_singleton]
    exact ⟨fun h => .inl h, fun h => h.resolve_right (by omega)⟩

set_option maxHeartbeats 4000000 in
set_option maxRecDepth 100000 in
theorem isPermutation_any (v1 : Value) (zs : List Int) (lo1 hi1 : Nat) (n : Nat) (w : World) (h1 : IntS w lo1 hi1 v1 zs) (hh1 : hi1 ≤ w.heap.size) (hn : n ≤ 1048576) :
    Calls Try.prog 65 #[v1, .int .i64 (n : Nat)] w fun e w' => e = .returned (.bool (permB zs n)) ∧ Below w.heap.size w w' := by
  have hmk := fun W => run_make_row' (P := Try.prog) 72 4 (.bool false) 1 Try.underlying72 Try.infoBool rfl .i64 .i64 n (by omega) (by omega) W
  have F1 := Lib.hid h1
  obtain ⟨A1, c1, rfl, hc1, hd1⟩ := h1.dims
  clear h1
  go_enter Try.func65, Try.ntmps65
  by_cases hl : zs.length = n
  case neg =>
    have hl' : ((zs.length : Int) != (n : Int)) = true := by simp; omega
    go_wp2_with fail
    go_ret
    exact ⟨ret_bool (by unfold permB; rw [decide_eq_false hl, Bool.and_false]), Below.refl _ _⟩
  have hl' : ((zs.length : Int) != (n : Int)) = false := by simp; omega
  have HLN := Lib.hid hl
  have hle : zs.length ≤ n := by omega
  clear hl
  go_wp2_with fail
  refine nameC ?_
  intro W1 HW1
  have hg1 : w.grownBy W1 none := by rw [HW1.out]; exact grown_alloc _ _
  have hs1 := hg1.size
  have HF1 := Lib.hid ((Turned.refl w.heap.size w.heap.size w).still hg1)
  have HO := Lib.hid (show BoolS W1 w.heap.size (w.heap.size + 1) (.slice (some ⟨w.heap.size, 0, none⟩) n n) (List.replicate n false) by rw [HW1.out]; exact made_bools _ _ _ rfl (by omega))
  have hz : w.heap.size + 1 ≤ W1.heap.size := by rw [HW1.out]; simp
  clear HW1 hmk
  go_loopw [16] (fun i wr => ∃ (k : Nat) (bs : List Bool), k ≤ zs.length ∧ i = .int .i64 k ∧ Hid (BoolS wr w.heap.size (w.heap.size + 1) (.slice (some ⟨w.heap.size, 0, none⟩) n n) bs) ∧ Hid (bs.length = n) ∧ Hid (∀ j : Nat, j < n → nthB bs j = decide ((j : Int) ∈ zs.take k)) ∧ Hid (∀ j, j < k → permAt zs n j = true) ∧ w.heap.size + 1 ≤ wr.heap.size ∧ Hid (Turned w.heap.size w.heap.size w wr)) (fun i _ => zs.length - (intOf i).toNat)
  case atStart => exact ⟨0, List.replicate n false, Nat.zero_le _, rfl, HO, Lib.hid (by simp), Lib.hid fun j hj => by rw [nthB_replicate _ _ hj]; simp, Lib.hid fun j hj => absurd hj (by omega), hz, HF1⟩
  case round =>
    clear HF1
    obtain ⟨k, bs, hk, rfl, HO, HL, HB, HU, hz, HF2⟩ := hrel
    have hs2 := HF2.out.size
    by_cases hlt : k < zs.length
    case neg =>
      obtain rfl : k = zs.length := by omega
      go_wp2_with fail
      go_ret
      exact ⟨ret_bool (by unfold permB; rw [rangeAll_true HU.out, decide_eq_true HLN.out]; rfl), (HF2.out.below_of (Below.refl _ _) (by omega) (by omega))⟩
    obtain ⟨be, oe, rfl, _, hbe', xe, _⟩ := (IntS.turned F1.out HF2.out (by omega) (by omega)).opened hlt
    obtain ⟨x, HX⟩ : ∃ x, Hid (nth zs k = x) := ⟨_, Lib.hid rfl⟩
    rw [HX.out] at xe
    by_cases hin : inB x 0 ((n : Int) - 1) = true
    case neg =>
      have hin' : inB x 0 ((n : Int) - 1) = false := by simpa using hin
      have HI := Lib.hid hin'; clear hin
      go_wp2_with (go_at_call 76; refine (within_any _ _ _ _).mono ?_; rintro e w' ⟨rfl, rfl⟩)
      go_ret
      exact ⟨ret_bool (permB_bad hlt (by unfold permAt; rw [HX.out, HI.out]; rfl)).symm, (HF2.out.below_of (Below.refl _ _) (by omega) (by omega))⟩
    obtain ⟨g1, g2⟩ := inB_le hin
    obtain ⟨t, rfl⟩ : ∃ t : Nat, x = t := ⟨x.toNat, by omega⟩
    have htn : t < n := by omega
    have HI := Lib.hid hin
    obtain ⟨x1, x2⟩ := HO.out.at0 (j := t) (by rw [HL.out]; exact htn)
    rw [HB.out t htn] at x1
    by_cases hm : (t : Int) ∈ zs.take k
    case pos =>
      rw [decide_eq_true hm] at x1
      have HM := Lib.hid (decide_eq_true hm); clear hm
      go_wp2_with (go_at_call 76; refine (within_any _ _ _ _).mono ?_; rintro e w' ⟨rfl, rfl⟩)
      go_ret
      exact ⟨ret_bool (permB_bad hlt (by unfold permAt; rw [HX.out, HM.out]; simp)).symm, (HF2.out.below_of (Below.refl _ _) (by omega) (by omega))⟩
    rw [decide_eq_false hm] at x1
    have HM := Lib.hid (decide_eq_false hm); clear hm
    have HS := Lib.hid (HO.out.set0 (j := t) (by rw [HL.out]; exact htn) true)
    go_wp2_with (go_at_call 76; refine (within_any _ _ _ _).mono ?_; rintro e w' ⟨rfl, rfl⟩)
    go_roundw
    case rel =>
      refine ⟨k + 1, _, by omega, by go_num, HS, Lib.hid (by rw [List.length_set]; exact HL.out), Lib.hid (seen_step HL.out hlt HX.out htn HB.out), Lib.hid fun j hj => ?_, by rw [size_setCell]; exact hz, Lib.hid (HF2.out.grown (grown_set _ ⟨w.heap.size, t, none⟩ _) fun g hg => .inr (by cases hg; exact Nat.le_refl _))⟩
      by_cases e : j = k
      · rw [e]; unfold permAt; rw [HX.out, HI.out, HM.out]; rfl
      · exact HU.out j (by omega)
    case measure => simp [intOf]; omega

set_option maxHeartbeats 4000000 in
set_option maxRecDepth 100000 in
theorem nePerm_any (v1 : Value) (zs : List Int) (lo1 hi1 : Nat) (n : Nat) (w : World) (h1 : IntS w lo1 hi1 v1 zs) (hh1 : hi1 ≤ w.heap.size) (hn : n ≤ 1048576) :
    Calls Try.prog 62 #[v1, .int .i64 (n : Nat)] w fun e w' => e = .returned (.bool (permB zs n)) ∧ w = w' := by
  have F1 := Lib.hid h1
  obtain ⟨A1, c1, rfl, hc1, hd1⟩ := h1.dims
  clear h1
  go_enter Try.func62, Try.ntmps62
  go_wp2_with fail
  go_loop [9] (fun i => ∃ (k : Nat), k ≤ zs.length ∧ i = .int .i64 k ∧ Hid (∀ j, j < k → permAt zs n j = true)) (fun i => zs.length - (intOf i).toNat)
  case atStart => exact ⟨0, Nat.zero_le _, rfl, Lib.hid fun j hj => absurd hj (by omega)⟩
  case round =>
    obtain ⟨k, hk, rfl, HU⟩ := hrel
    by_cases hlt : k < zs.length
    case neg =>
      obtain rfl : k = zs.length := by omega
      by_cases hl : zs.length = n
      · have hl' : ((zs.length : Int) == (n : Int)) = true := by simp; omega
        have HL := Lib.hid hl; clear hl
        go_wp2_with fail
        go_ret
        exact ⟨ret_bool (by unfold permB; rw [rangeAll_true HU.out, decide_eq_true HL.out]; rfl), rfl⟩
      · have hl' : ((zs.length : Int) == (n : Int)) = false := by simp; omega
        have HL := Lib.hid hl; clear hl
        go_wp2_with fail
        go_ret
        exact ⟨ret_bool (by unfold permB; rw [decide_eq_false HL.out, Bool.and_false]), rfl⟩
    have HT := Lib.hid (F1.out.take k hk)
    obtain ⟨be, oe, rfl, _, hbe', xe, _⟩ := F1.out.opened hlt
    obtain ⟨x, HX⟩ : ∃ x, Hid (nth zs k = x) := ⟨_, Lib.hid rfl⟩
    rw [HX.out] at xe
    by_cases hin : inB x 0 ((n : Int) - 1) = true
    case neg =>
      have hin' : inB x 0 ((n : Int) - 1) = false := by simpa using hin
      have HI := Lib.hid hin'; clear hin
      go_wp2_with (go_at_call 70; refine (l1In_any _ _ _ _).mono ?_; rintro e w' ⟨rfl, rfl⟩)
      go_ret
      exact ⟨ret_bool (permB_bad hlt (by unfold permAt; rw [HX.out, HI.out]; rfl)).symm, rfl⟩
    have HI := Lib.hid hin
    cases hm : decide (x ∈ zs.take k) with
    | true =>
      have HM := Lib.hid hm; clear hm
      go_wp2_with (first | (go_at_call 70; refine (l1In_any _ _ _ _).mono ?_; rintro e w' ⟨rfl, rfl⟩) | (go_at_call 51; refine (l1Has_any _ (zs.take k) _ _ _ _ HT.out).mono ?_; rintro e w' ⟨rfl, rfl⟩; rw [HM.out]))
      go_ret
      exact ⟨ret_bool (permB_bad hlt (by unfold permAt; rw [HX.out, HM.out]; simp)).symm, rfl⟩
    | false =>
      have HM := Lib.hid hm; clear hm
      go_wp2_with (first | (go_at_call 70; refine (l1In_any _ _ _ _).mono ?_; rintro e w' ⟨rfl, rfl⟩) | (go_at_call 51; refine (l1Has_any _ (zs.take k) _ _ _ _ HT.out).mono ?_; rintro e w' ⟨rfl, rfl⟩; rw [HM.out]))
      go_round
      case rel =>
        refine ⟨k + 1, by omega, by go_num, Lib.hid fun j hj => ?_⟩
        by_cases e : j = k
        · rw [e]; unfold permAt; rw [HX.out, HI.out, HM.out]; rfl
        · exact HU.out j (by omega)
      case measure => simp [intOf]; omega

set_option maxHeartbeats 4000000 in
set_option maxRecDepth 100000 in
theorem isOrder_any (v1 : Value) (N : NetD) (lo1 hi1 : Nat) (v2 : Value) (zs : List Int) (lo2 hi2 : Nat) (w : World) (h1 : Net w lo1 hi1 v1 N) (hh1 : hi1 ≤ w.heap.size) (h2 : IntS w lo2 hi2 v2 zs) (hh2 : hi2 ≤ w.heap.size) (hsz : N.sz ≤ 1048576) :
    Calls Try.prog 40 #[v1, v2] w fun e w' => e = .returned (.bool (orderB N zs)) ∧ Below w.heap.size w w' := by
  have F1 := Lib.hid h1
  obtain ⟨A1, c1, A1', c1', A1'', c1'', rfl, hc1, hd1, _⟩ := h1.parts
  clear h1
  have F2 := Lib.hid h2
  obtain ⟨A2, c2, rfl, hc2, hd2⟩ := h2.dims
  clear h2
  obtain ⟨WA, HWA⟩ : ∃ W, Hid (W = (w.alloc (.cells #[.slice A1 N.ends.length c1, .slice A1' N.ids.length c1', .slice A1'' N.inputs.length c1''] 34))) := ⟨_, Lib.hid rfl⟩
  have hbA : Below w.heap.size w WA := by rw [HWA.out]; exact ((Below.refl _ _).alloc (Nat.le_refl _) _)
  have hsA : w.heap.size + 1 ≤ WA.heap.size := by rw [HWA.out]; simp; try omega
  have bx1 : BoxN WA (w.heap.size) #[.slice A1 N.ends.length c1, .slice A1' N.ids.length c1', .slice A1'' N.inputs.length c1''] 34 := by rw [HWA.out]; exact (BoxN.new' _ _ _ (by simp))
  have G1 := Lib.hid (Net.below F1.out hbA hh1); clear F1
  have G2 := Lib.hid (IntS.below F2.out hbA hh2); clear F2
  go_enter Try.func40, Try.ntmps40
  go_upto_region 1 with (fail)
  rw [← HWA.out]; clear HWA
  have kbx1_0 : WA.cell? ⟨w.heap.size, 0, none⟩ = some (.slice A1 N.ends.length c1) := bx1.cell 0 (by simp)
  have kbx1_1 : WA.cell? ⟨w.heap.size, 1, none⟩ = some (.slice A1' N.ids.length c1') := bx1.cell 1 (by simp)
  have kbx1_2 : WA.cell? ⟨w.heap.size, 2, none⟩ = some (.slice A1'' N.inputs.length c1'') := bx1.cell 2 (by simp)
  go_wp2_with fail
  clear kbx1_0 kbx1_1 kbx1_2
  refine (IsNetwork_any _ N lo1 hi1 _ G1.out (by omega) hsz).mono ?_
  rintro e W1 ⟨rfl, hb1⟩
  have hg1 := grown_below hb1; clear hb1
  have hs1 := hg1.size
  have HF1 := Lib.hid ((Turned.refl WA.heap.size WA.heap.size WA).still hg1)
  by_cases hg : N.good = true
  case neg =>
    have hg' : N.good = false := by simpa using hg
    rw [hg']
    have HG := Lib.hid hg'; clear hg hg'
    go_wp2_with fail
    go_ret
    exact ⟨ret_bool (by unfold orderB; rw [HG.out]; rfl), (HF1.out.below_of hbA (by omega) (by omega))⟩
  rw [hg]
  have HG := Lib.hid hg; clear hg
  obtain ⟨n1, n40⟩ := good_n HG.out
  have kbx1_0 : W1.cell? ⟨w.heap.size, 0, none⟩ = some (.slice A1 N.ends.length c1) := (HF1.out.boxN bx1 (by omega)).cell 0 (by simp)
  have kbx1_1 : W1.cell? ⟨w.heap.size, 1, none⟩ = some (.slice A1' N.ids.length c1') := (HF1.out.boxN bx1 (by omega)).cell 1 (by simp)
  have kbx1_2 : W1.cell? ⟨w.heap.size, 2, none⟩ = some (.slice A1'' N.inputs.length c1'') := (HF1.out.boxN bx1 (by omega)).cell 2 (by simp)
  go_wp2_with fail
  clear kbx1_0 kbx1_1 kbx1_2
  refine (isPermutation_any _ zs lo2 hi2 N.ends.length _ (IntS.turned G2.out HF1.out (by omega) (by omega)) (by omega) (by omega)).mono ?_
  rintro e W2 ⟨rfl, hb2⟩
  have hg2 := grown_below hb2; clear hb2
  have hs2 := hg2.size
  have HF2 := Lib.hid (HF1.out.still hg2); clear HF1
  go_wp2_with fail
  go_ret
  exact ⟨ret_bool (by unfold orderB; rw [HG.out]; rfl), (HF2.out.below_of hbA (by omega) (by omega))⟩

set_option maxHeartbeats 4000000 in
set_option maxRecDepth 100000 in
theorem ruOrder_any (v1 : Value) (N : NetD) (lo1 hi1 : Nat) (v2 : Value) (zs : List Int) (lo2 hi2 : Nat) (w : World) (h1 : Net w lo1 hi1 v1 N) (hh1 : hi1 ≤ w.heap.size) (h2 : IntS w lo2 hi2 v2 zs) (hh2 : hi2 ≤ w.heap.size) (hsz : N.sz ≤ 1048576) :
    Calls Try.prog 38 #[v1, v2] w fun e w' => e = .returned (.bool (orderB N zs)) ∧ Below w.heap.size w w' := by
  have F1 := Lib.hid h1
  obtain ⟨A1, c1, A1', c1', A1'', c1'', rfl, hc1, hd1, _⟩ := h1.parts
  clear h1
  have F2 := Lib.hid h2
  obtain ⟨A2, c2, rfl, hc2, hd2⟩ := h2.dims
  clear h2
  obtain ⟨WA, HWA⟩ : ∃ W, Hid (W = (w.alloc (.cells #[.slice A1 N.ends.length c1, .slice A1' N.ids.length c1', .slice A1'' N.inputs.length c1''] 34))) := ⟨_, Lib.hid rfl⟩
  have hbA : Below w.heap.size w WA := by rw [HWA.out]; exact ((Below.refl _ _).alloc (Nat.le_refl _) _)
  have hsA : w.heap.size + 1 ≤ WA.heap.size := by rw [HWA.out]; simp; try omega
  have bx1 : BoxN WA (w.heap.size) #[.slice A1 N.ends.length c1, .slice A1' N.ids.length c1', .slice A1'' N.inputs.length c1''] 34 := by rw [HWA.out]; exact (BoxN.new' _ _ _ (by simp))
  have G1 := Lib.hid (Net.below F1.out hbA hh1); clear F1
  have G2 := Lib.hid (IntS.below F2.out hbA hh2); clear F2
  go_enter Try.func38, Try.ntmps38
  go_upto_region 1 with (fail)
  rw [← HWA.out]; clear HWA
  have kbx1_0 : WA.cell? ⟨w.heap.size, 0, none⟩ = some (.slice A1 N.ends.length c1) := bx1.cell 0 (by simp)
  have kbx1_1 : WA.cell? ⟨w.heap.size, 1, none⟩ = some (.slice A1' N.ids.length c1') := bx1.cell 1 (by simp)
  have kbx1_2 : WA.cell? ⟨w.heap.size, 2, none⟩ = some (.slice A1'' N.inputs.length c1'') := bx1.cell 2 (by simp)
  go_wp2_with fail
  clear kbx1_0 kbx1_1 kbx1_2
  refine (neGood_any _ N lo1 hi1 _ G1.out (by omega) hsz).mono ?_
  rintro e W1 ⟨rfl, hb1⟩
  have hg1 := grown_below hb1; clear hb1
  have hs1 := hg1.size
  have HF1 := Lib.hid ((Turned.refl WA.heap.size WA.heap.size WA).still hg1)
  by_cases hg : N.good = true
  case neg =>
    have hg' : N.good = false := by simpa using hg
    rw [hg']
    have HG := Lib.hid hg'; clear hg hg'
    go_wp2_with fail
    go_ret
    exact ⟨ret_bool (by unfold orderB; rw [HG.out]; rfl), (HF1.out.below_of hbA (by omega) (by omega))⟩
  rw [hg]
  have HG := Lib.hid hg; clear hg
  obtain ⟨n1, n40⟩ := good_n HG.out
  have kbx1_0 : W1.cell? ⟨w.heap.size, 0, none⟩ = some (.slice A1 N.ends.length c1) := (HF1.out.boxN bx1 (by omega)).cell 0 (by simp)
  have kbx1_1 : W1.cell? ⟨w.heap.size, 1, none⟩ = some (.slice A1' N.ids.length c1') := (HF1.out.boxN bx1 (by omega)).cell 1 (by simp)
  have kbx1_2 : W1.cell? ⟨w.heap.size, 2, none⟩ = some (.slice A1'' N.inputs.length c1'') := (HF1.out.boxN bx1 (by omega)).cell 2 (by simp)
  go_wp2_with fail
  clear kbx1_0 kbx1_1 kbx1_2
  refine (nePerm_any _ zs lo2 hi2 N.ends.length _ (IntS.turned G2.out HF1.out (by omega) (by omega)) (by omega) (by omega)).mono ?_
  rintro e w' ⟨rfl, rfl⟩
  go_wp2_with fail
  go_ret
  exact ⟨ret_bool (by unfold orderB; rw [HG.out]; rfl), (HF1.out.below_of hbA (by omega) (by omega))⟩

end Go.Proofs.Ytcmmklcampmkjaa
