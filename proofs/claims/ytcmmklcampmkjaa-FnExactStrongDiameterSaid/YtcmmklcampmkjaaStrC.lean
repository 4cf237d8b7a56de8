/-
  Several texts in one: TokP, TrP, TrS, TokM, OwnES, OwnE, Ite, PartM, PartP, NumP, RnM, KpP, SimP. No condition on any program.
-/
import Derived.Test.YtcmmklcampmkjaaSS
import Derived.Test.YtcmmklcampmkjaaQuadP
import Derived.Test.YtcmmklcampmkjaaOpen
import Derived.Test.YtcmmklcampmkjaaOwnSS
import Derived.Test.YtcmmklcampmkjaaFrame
import Derived.Maps.OwnSet
import Derived.WideKeyEntry
import Derived.DeepKeys5
import Derived.Test.YtcmmklcampmkjaaMem
import Derived.Test.YtcmmklcampmkjaaReg
import Derived.Test.YtcmmklcampmkjaaCompP

/- Plain: the walk of a token through a network; it ends, and it is short. No condition on any program. -/
namespace Go.Proofs.Ytcmmklcampmkjaa
set_option linter.unusedVariables false

/-- which ports were used, which nodes met, and the moves so far -/
structure Tk where
  used : Int → Int → Bool
  met : Nat → Bool
  moves : List (List Int)
def setU (u : Int → Int → Bool) (a b : Int) : Int → Int → Bool := fun x y => (x == a && y == b) || u x y
def setM (m : Nat → Bool) (a : Nat) : Nat → Bool := fun x => x == a || m x
def endAt (N : NetD) (v i : Nat) : Int × Int := nthE (nthL N.ends v) i
def degAt (N : NetD) (v : Nat) : Nat := (nthL N.ends v).length
/-- the token leaves node v by port i -/
def tpre (N : NetD) (v i : Nat) (σ : Tk) : Tk := ⟨setU (setU σ.used v i) (endAt N v i).1 (endAt N v i).2, σ.met, σ.moves ++ [[(v : Int), (i : Int)]]⟩
/-- and comes back -/
def tpost (e : Int × Int) (σ : Tk) : Tk := ⟨σ.used, σ.met, σ.moves ++ [[e.1, e.2]]⟩
def tstep (N : NetD) (rec : Nat → Tk → Tk) (v i : Nat) (σ : Tk) : Tk :=
  if σ.used v i = true then σ
  else tpost (endAt N v i) (if σ.met (endAt N v i).1.toNat = true then tpre N v i σ else rec (endAt N v i).1.toNat (tpre N v i σ))
def tloop (N : NetD) (rec : Nat → Tk → Tk) (v : Nat) : Nat → Tk → Tk
  | 0, σ => σ
  | k + 1, σ => tstep N rec v k (tloop N rec v k σ)
def tin (v : Nat) (σ : Tk) : Tk := ⟨σ.used, setM σ.met v, σ.moves⟩
def tvisit (N : NetD) : Nat → Nat → Tk → Tk
  | 0, _, σ => σ
  | f + 1, v, σ => tloop N (tvisit N f) v (degAt N v) (tin v σ)
theorem tvisit_succ (N : NetD) (f v : Nat) (σ : Tk) : tvisit N (f + 1) v σ = tloop N (tvisit N f) v (degAt N v) (tin v σ) := rfl
theorem tstep_used {N : NetD} {rec : Nat → Tk → Tk} {v i : Nat} {σ : Tk} (h : σ.used v i = true) : tstep N rec v i σ = σ := by unfold tstep; rw [if_pos h]
theorem tstep_met {N : NetD} {rec : Nat → Tk → Tk} {v i : Nat} {σ : Tk} (h : σ.used v i = false) (h2 : σ.met (endAt N v i).1.toNat = true) : tstep N rec v i σ = tpost (endAt N v i) (tpre N v i σ) := by unfold tstep; rw [if_neg (by rw [h]; simp), if_pos h2]
theorem tstep_new {N : NetD} {rec : Nat → Tk → Tk} {v i : Nat} {σ : Tk} (h : σ.used v i = false) (h2 : σ.met (endAt N v i).1.toNat = false) : tstep N rec v i σ = tpost (endAt N v i) (rec (endAt N v i).1.toNat (tpre N v i σ)) := by unfold tstep; rw [if_neg (by rw [h]; simp), if_neg (by rw [h2]; simp)]

/-- the met stay met -/
def KeepsMet (rec : Nat → Tk → Tk) : Prop := ∀ v σ x, σ.met x = true → (rec v σ).met x = true
theorem tstep_keeps {N : NetD} {rec : Nat → Tk → Tk} (h : KeepsMet rec) (v i : Nat) (σ : Tk) (x : Nat) (hx : σ.met x = true) : (tstep N rec v i σ).met x = true := by
  cases h1 : σ.used v i with
  | true => rw [tstep_used h1]; exact hx
  | false =>
    cases h2 : σ.met (endAt N v i).1.toNat with
    | true => rw [tstep_met h1 h2]; exact hx
    | false => rw [tstep_new h1 h2]; exact h _ _ x hx
theorem tloop_keeps {N : NetD} {rec : Nat → Tk → Tk} (h : KeepsMet rec) (v : Nat) : ∀ (k : Nat) (σ : Tk) (x : Nat), σ.met x = true → (tloop N rec v k σ).met x = true
  | 0, _, _, hx => hx
  | k + 1, σ, x, hx => tstep_keeps h v k _ x (tloop_keeps h v k σ x hx)
theorem tvisit_keeps (N : NetD) : ∀ f, KeepsMet (tvisit N f)
  | 0 => fun _ _ _ h => h
  | f + 1 => fun v σ x hx => tloop_keeps (tvisit_keeps N f) v _ _ x (by unfold tin setM; simp [hx])
theorem filter_lt {α : Type} {p q : α → Bool} (h : ∀ x, q x = true → p x = true) {a : α} (hp : p a = true) (hq : q a = false) : ∀ {l : List α}, a ∈ l → (l.filter q).length + 1 ≤ (l.filter p).length
  | [], ha => by cases ha
  | x :: l, ha => by
    have hle : ∀ l : List α, (l.filter q).length ≤ (l.filter p).length := fun l => by
      induction l with
      | nil => exact Nat.le_refl _
      | cons y l ih =>
        simp only [List.filter_cons]
        cases hy : q y with
        | true => rw [h y hy]; simpa using ih
        | false =>
          cases p y with
          | true => simp; omega
          | false => simpa using ih
    simp only [List.filter_cons]
    rcases List.mem_cons.1 ha with rfl | ha
    · rw [hp, hq]
      have := hle l
      simp; omega
    · have := filter_lt h hp hq ha
      cases hx : q x with
      | true => rw [h x hx]; simp; omega
      | false =>
        cases p x with
        | true => simp; omega
        | false => simpa using this
theorem filter_le {α : Type} {p q : α → Bool} (h : ∀ x, q x = true → p x = true) (l : List α) : (l.filter q).length ≤ (l.filter p).length := by
  induction l with
  | nil => exact Nat.le_refl _
  | cons y l ih =>
    simp only [List.filter_cons]
    cases hy : q y with
    | true => rw [h y hy]; simpa using ih
    | false =>
      cases p y with
      | true => simp; omega
      | false => simpa using ih
/-- how many of the first n nodes are not met -/
def unm (n : Nat) (m : Nat → Bool) : Nat := ((List.range n).filter fun x => !m x).length
theorem unm_mono {n : Nat} {m m' : Nat → Bool} (h : ∀ x, m x = true → m' x = true) : unm n m' ≤ unm n m :=
  filter_le (fun x hx => by
    cases hm : m x with
    | true => have := h x hm; simp [this] at hx
    | false => rfl) _
theorem unm_set {n v : Nat} {m : Nat → Bool} (hv : v < n) (hm : m v = false) : unm n (setM m v) + 1 ≤ unm n m :=
  filter_lt (fun x hx => by unfold setM at hx; cases h : m x with
    | true => simp [h] at hx
    | false => rfl) (a := v) (by simp [hm]) (by simp [setM]) (List.mem_range.2 hv)
theorem unm_le (n : Nat) (m : Nat → Bool) : unm n m ≤ n := Nat.le_trans (List.length_filter_le _ _) (by simp)
theorem unm_pos {n v : Nat} {m : Nat → Bool} (hv : v < n) (hm : m v = false) : 0 < unm n m := by have := unm_set hv hm; omega
/-- the places where a port may lie -/
def grid : List (Nat × Nat) := (List.range 40).flatMap fun v => (List.range 6).map fun i => (v, i)
theorem grid_len : grid.length = 240 := by decide +kernel
theorem mem_grid {v i : Nat} (hv : v < 40) (hi : i < 6) : (v, i) ∈ grid := by
  unfold grid
  rw [List.mem_flatMap]
  exact ⟨v, List.mem_range.2 hv, List.mem_map.2 ⟨i, List.mem_range.2 hi, rfl⟩⟩
def free (u : Int → Int → Bool) : Nat := (grid.filter fun p => !u p.1 p.2).length
theorem free_le (u : Int → Int → Bool) : free u ≤ 240 := by rw [← grid_len]; exact List.length_filter_le _ _
/-- the moves so far, and those that may come -/
def bnd (σ : Tk) : Nat := σ.moves.length + 2 * free σ.used
theorem setU_of {u : Int → Int → Bool} {a b x y : Int} (h : u x y = true) : setU u a b x y = true := by unfold setU; rw [h, Bool.or_true]
theorem setU_at (u : Int → Int → Bool) (a b : Int) : setU u a b a b = true := by unfold setU; simp
theorem setU_ne {u : Int → Int → Bool} {a b x y : Int} (h : ¬ (x = a ∧ y = b)) : setU u a b x y = u x y := by
  unfold setU
  have : (x == a && y == b) = false := by
    rw [Bool.and_eq_false_iff]
    by_cases e : x = a
    · right; simp; exact fun e2 => h ⟨e, e2⟩
    · left; simpa using e
  rw [this, Bool.false_or]
theorem bnd_pre {N : NetD} (h40 : N.ends.length ≤ 40) (h6 : ∀ v, degAt N v ≤ 6) {v i : Nat} {σ : Tk} (hi : i < degAt N v) (hu : σ.used v i = false) : bnd (tpre N v i σ) + 1 ≤ bnd σ := by
  have hv : v < N.ends.length := by
    rcases Nat.lt_or_ge v N.ends.length with h | h
    · exact h
    · exfalso
      unfold degAt nthL at hi
      rw [List.getD_eq_getElem?_getD, List.getElem?_eq_none h] at hi
      simp at hi
  have := filter_lt (l := grid) (p := fun p => !σ.used p.1 p.2) (q := fun p => !(setU (setU σ.used v i) (endAt N v i).1 (endAt N v i).2) p.1 p.2) (fun p hp => by
    cases h : σ.used p.1 p.2 with
    | true => rw [setU_of (setU_of h)] at hp; exact absurd hp (by simp)
    | false => rfl) (a := (v, i)) (by rw [hu]; rfl) (by rw [setU_of (setU_at _ _ _)]; rfl) (mem_grid (by omega) (by have := h6 v; omega))
  unfold bnd tpre free
  simp only [List.length_append, List.length_cons, List.length_nil]
  omega
theorem bnd_post (e : Int × Int) (σ : Tk) : bnd (tpost e σ) = bnd σ + 1 := by unfold bnd tpost; simp; omega
theorem bnd_in (v : Nat) (σ : Tk) : bnd (tin v σ) = bnd σ := rfl
def Shrinks (rec : Nat → Tk → Tk) : Prop := ∀ v σ, bnd (rec v σ) ≤ bnd σ
theorem tstep_bnd {N : NetD} (h40 : N.ends.length ≤ 40) (h6 : ∀ v, degAt N v ≤ 6) {rec : Nat → Tk → Tk} (h : Shrinks rec) {v i : Nat} (σ : Tk) (hi : i < degAt N v) : bnd (tstep N rec v i σ) ≤ bnd σ := by
  cases h1 : σ.used v i with
  | true => rw [tstep_used h1]; exact Nat.le_refl _
  | false =>
    have h0 := bnd_pre h40 h6 hi h1
    cases h2 : σ.met (endAt N v i).1.toNat with
    | true => rw [tstep_met h1 h2, bnd_post]; exact h0
    | false =>
      rw [tstep_new h1 h2, bnd_post]
      have := h (endAt N v i).1.toNat (tpre N v i σ)
      omega
theorem tloop_bnd {N : NetD} (h40 : N.ends.length ≤ 40) (h6 : ∀ v, degAt N v ≤ 6) {rec : Nat → Tk → Tk} (h : Shrinks rec) (v : Nat) : ∀ (k : Nat) (σ : Tk), k ≤ degAt N v → bnd (tloop N rec v k σ) ≤ bnd σ
  | 0, _, _ => Nat.le_refl _
  | k + 1, σ, hk => Nat.le_trans (tstep_bnd h40 h6 h _ (by omega)) (tloop_bnd h40 h6 h v k σ (by omega))
theorem tvisit_bnd {N : NetD} (h40 : N.ends.length ≤ 40) (h6 : ∀ v, degAt N v ≤ 6) : ∀ f, Shrinks (tvisit N f)
  | 0 => fun _ _ => Nat.le_refl _
  | f + 1 => fun v σ => by rw [tvisit_succ]; exact Nat.le_trans (tloop_bnd h40 h6 (tvisit_bnd h40 h6 f) v _ _ (Nat.le_refl _)) (Nat.le_of_eq (bnd_in v σ))
def tk0 : Tk := ⟨fun _ _ => false, fun _ => false, []⟩
/-- the moves of the token -/
def walkOf (N : NetD) (r : Nat) : List (List Int) := (tvisit N N.ends.length r tk0).moves
theorem walkOf_len {N : NetD} (h40 : N.ends.length ≤ 40) (h6 : ∀ v, degAt N v ≤ 6) (r : Nat) : (walkOf N r).length ≤ 480 := by
  have h1 := tvisit_bnd h40 h6 N.ends.length r tk0
  have h2 := free_le (tk0.used)
  unfold bnd at h1
  have : tk0.moves.length = 0 := rfl
  unfold walkOf
  omega

end Go.Proofs.Ytcmmklcampmkjaa

/- Plain: the trails of a network: from port to port over an edge and on to the port's partner; they end or close; they are marked and gathered in two passes. No condition on any program. -/
namespace Go.Proofs.Ytcmmklcampmkjaa
set_option linter.unusedVariables false

abbrev Po := Nat × Nat
def okP (N : NetD) (p : Po) : Prop := p.1 < N.ends.length ∧ p.2 < degAt N p.1
def fl (i : Nat) : Nat := if i % 2 = 0 then i + 1 else i - 1
theorem fl_fl (i : Nat) : fl (fl i) = i := by unfold fl; split <;> split <;> omega
theorem fl_le (i : Nat) : fl i ≤ i + 1 := by unfold fl; split <;> omega
/-- the other end of a port's edge -/
def ep (N : NetD) (p : Po) : Po := ((endAt N p.1 p.2).1.toNat, (endAt N p.1 p.2).2.toNat)
def pairedB (N : NetD) (p : Po) : Bool := decide (fl p.2 < degAt N p.1)
def pi (p : Po) : Po := (p.1, fl p.2)
theorem pi_pi (p : Po) : pi (pi p) = p := by unfold pi; rw [fl_fl]
/-- the next port of a trail -/
def nx (N : NetD) (p : Po) : Option Po := if pairedB N (ep N p) = true then some (pi (ep N p)) else none
section
variable {N : NetD}
theorem ep_cast (hg : N.good = true) {p : Po} (hp : okP N p) : endAt N p.1 p.2 = (((ep N p).1 : Int), ((ep N p).2 : Int)) := by
  obtain ⟨t, r, e, _⟩ := good_end hg hp.1 hp.2
  unfold ep endAt
  rw [e]; simp
theorem ep_ok (hg : N.good = true) {p : Po} (hp : okP N p) : okP N (ep N p) ∧ ep N (ep N p) = p := by
  obtain ⟨t, r, e, h1, h2, h3⟩ := good_end hg hp.1 hp.2
  have e1 : ep N p = (t, r) := by unfold ep endAt; rw [e]; simp
  rw [e1]
  refine ⟨⟨h1, h2⟩, ?_⟩
  unfold ep endAt
  rw [h3]; simp
theorem pi_ok {p : Po} (hp : okP N p) (h : pairedB N p = true) : okP N (pi p) ∧ pairedB N (pi p) = true := by
  unfold pairedB at *
  rw [decide_eq_true_eq] at *
  refine ⟨⟨hp.1, h⟩, ?_⟩
  unfold pi
  dsimp only
  rw [fl_fl]
  exact hp.2
theorem nx_yes {p : Po} (h : pairedB N (ep N p) = true) : nx N p = some (pi (ep N p)) := by unfold nx; rw [if_pos h]
theorem nx_no {p : Po} (h : pairedB N (ep N p) = false) : nx N p = none := by unfold nx; rw [if_neg (by rw [h]; simp)]
theorem nx_inv {p q : Po} (h : nx N p = some q) : pairedB N (ep N p) = true ∧ pi (ep N p) = q := by
  unfold nx at h
  split at h
  next h1 => injection h with h; exact ⟨h1, h⟩
  next => cases h
theorem nx_ok (hg : N.good = true) {p q : Po} (hp : okP N p) (h : nx N p = some q) : okP N q := by
  obtain ⟨h1, rfl⟩ := nx_inv h
  exact (pi_ok (ep_ok hg hp).1 h1).1
theorem nx_back (hg : N.good = true) {p q : Po} (hp : okP N p) (h : nx N p = some q) : pairedB N q = true ∧ pi q = ep N p ∧ ep N (pi q) = p := by
  obtain ⟨h1, rfl⟩ := nx_inv h
  refine ⟨(pi_ok (ep_ok hg hp).1 h1).2, pi_pi _, ?_⟩
  rw [pi_pi]
  exact (ep_ok hg hp).2
theorem nx_inj (hg : N.good = true) {p p' q : Po} (hp : okP N p) (hp' : okP N p') (h : nx N p = some q) (h' : nx N p' = some q) : p = p' := by
  rw [← (nx_back hg hp h).2.2, ← (nx_back hg hp' h').2.2]
end

def nthP (l : List Po) (i : Nat) : Po := l.getD i (0, 0)
theorem nthP_eq {l : List Po} {i : Nat} (h : i < l.length) : nthP l i = l[i] := by simp [nthP, h]
theorem nthP_mem {l : List Po} {i : Nat} (h : i < l.length) : nthP l i ∈ l := by rw [nthP_eq h]; exact List.getElem_mem h
theorem nthP_left {a b : List Po} {i : Nat} (h : i < a.length) : nthP (a ++ b) i = nthP a i := by simp [nthP, List.getElem?_append_left h]
theorem nthP_at (a : List Po) (x : Po) : nthP (a ++ [x]) a.length = x := by simp [nthP]
theorem mem_nthP {l : List Po} {x : Po} (h : x ∈ l) : ∃ i, i < l.length ∧ nthP l i = x := by
  obtain ⟨i, hi, e⟩ := List.mem_iff_getElem.1 h
  exact ⟨i, hi, by rw [nthP_eq hi]; exact e⟩
theorem nthP_inj {l : List Po} (h : l.Nodup) {i j : Nat} (hi : i < l.length) (hj : j < l.length) (e : nthP l i = nthP l j) : i = j := by
  rw [nthP_eq hi, nthP_eq hj] at e
  rcases Nat.lt_trichotomy i j with h1 | h1 | h1
  · exact absurd e (List.pairwise_iff_getElem.1 h i j hi hj h1)
  · exact h1
  · exact absurd e.symm (List.pairwise_iff_getElem.1 h j i hj hi h1)
theorem ext_nthP {a b : List Po} (hl : a.length = b.length) (h : ∀ i, i < a.length → nthP a i = nthP b i) : a = b := by
  apply List.ext_getElem hl
  intro i h1 h2
  have := h i h1
  rwa [nthP_eq h1, nthP_eq h2] at this
theorem subLen {α : Type} [DecidableEq α] : ∀ (l m : List α), l.Nodup → (∀ x ∈ l, x ∈ m) → l.length ≤ m.length
  | [], _, _, _ => Nat.zero_le _
  | x :: l, m, hn, h => by
    have hx := h x (List.mem_cons_self ..)
    have hn2 := List.nodup_cons.1 hn
    have := subLen l (m.erase x) hn2.2 (fun y hy => (List.mem_erase_of_ne (fun e => hn2.1 (by rw [← e]; exact hy))).2 (h y (List.mem_cons_of_mem _ hy)))
    rw [List.length_erase_of_mem hx] at this
    have : 0 < m.length := List.length_pos_of_mem hx
    simp only [List.length_cons]
    omega

/-- a stretch of a trail -/
structure Ch (N : NetD) (s : Po) (l : List Po) : Prop where
  pos : 0 < l.length
  head : nthP l 0 = s
  ok : ∀ p ∈ l, okP N p
  link : ∀ i, i + 1 < l.length → nx N (nthP l i) = some (nthP l (i + 1))
  nd : l.Nodup
def lastP (l : List Po) : Po := nthP l (l.length - 1)
theorem lastP_snoc (l : List Po) (x : Po) : lastP (l ++ [x]) = x := by unfold lastP; simp [nthP]
section
variable {N : NetD} {s : Po}
theorem Ch.one (h : okP N s) : Ch N s [s] :=
  ⟨by simp, rfl, fun p hp => by rw [List.mem_singleton.1 hp]; exact h, fun i hi => absurd hi (by simp), by simp⟩
theorem Ch.last {l : List Po} (h : Ch N s l) : okP N (lastP l) := h.ok _ (nthP_mem (by have := h.pos; omega))
theorem Ch.step (hg : N.good = true) {l : List Po} (h : Ch N s l) {q : Po} (hq : nx N (lastP l) = some q) (hs : q ≠ s) : Ch N s (l ++ [q]) := by
  have hp := h.pos
  refine ⟨by simp, by rw [nthP_left hp]; exact h.head, fun p hm => ?_, fun i hi => ?_, ?_⟩
  · rcases List.mem_append.1 hm with hm | hm
    · exact h.ok p hm
    · rw [List.mem_singleton.1 hm]; exact nx_ok hg h.last hq
  · simp only [List.length_append, List.length_cons, List.length_nil] at hi
    by_cases e : i + 1 < l.length
    · rw [nthP_left e, nthP_left (by omega)]; exact h.link i e
    · obtain rfl : i = l.length - 1 := by omega
      rw [nthP_left (by omega), show l.length - 1 + 1 = l.length by omega, nthP_at]
      exact hq
  · refine List.nodup_append.2 ⟨h.nd, by simp, fun a ha b hb e => ?_⟩
    rw [List.mem_singleton.1 hb] at e
    subst e
    obtain ⟨j, hj, e⟩ := mem_nthP ha
    match j, hj, e with
    | 0, _, e => exact hs (by rw [← e]; exact h.head)
    | j + 1, hj, e =>
      have h1 := h.link j hj
      rw [e] at h1
      have h2 := nx_inj hg (h.ok _ (nthP_mem (by omega))) h.last h1 hq
      have := nthP_inj h.nd (by omega) (by omega) h2
      omega
theorem Ch.len (hg : N.good = true) {l : List Po} (h : Ch N s l) : l.length ≤ 240 := by
  have h1 := subLen l grid h.nd (fun p hp => by
    obtain ⟨a, b⟩ := h.ok p hp
    have := (good_n hg).2
    have := good_deg hg a
    unfold degAt at b
    exact mem_grid (by omega) (by omega))
  rwa [grid_len] at h1
end

/-- l is the whole trail that begins at s; c: it is closed -/
def TrO (N : NetD) (s : Po) (l : List Po) (c : Bool) : Prop := Ch N s l ∧ nx N (lastP l) = if c = true then some s else none
section
variable {N : NetD} {s : Po}
theorem TrO.le {l l' : List Po} {c c' : Bool} (h : TrO N s l c) (h' : TrO N s l' c') : l'.length ≤ l.length ∧ ∀ i, i < l'.length → nthP l i = nthP l' i := by
  have hp := h.1.pos
  have key : ∀ i, i < l.length → i < l'.length → nthP l i = nthP l' i := by
    intro i
    induction i with
    | zero => intro _ _; rw [h.1.head, h'.1.head]
    | succ i ih =>
      intro h1 h2
      have e1 := h.1.link i h1
      have e2 := h'.1.link i h2
      rw [ih (by omega) (by omega), e2] at e1
      injection e1 with e1
      exact e1.symm
  have hle : l'.length ≤ l.length := by
    rcases Nat.lt_or_ge l.length l'.length with h1 | h1
    · exfalso
      have e1 := h'.1.link (l.length - 1) (by omega)
      rw [← key (l.length - 1) (by omega) (by omega)] at e1
      have e2 := h.2
      unfold lastP at e2
      rw [e1] at e2
      split at e2
      · injection e2 with e2
        rw [show l.length - 1 + 1 = l.length by omega] at e2
        have := nthP_inj h'.1.nd (i := l.length) (j := 0) h1 (by omega) (by rw [e2, h'.1.head])
        omega
      · cases e2
    · exact h1
  exact ⟨hle, fun i hi => key i (by omega) hi⟩
theorem TrO.uniq {l l' : List Po} {c c' : Bool} (h : TrO N s l c) (h' : TrO N s l' c') : l = l' ∧ c = c' := by
  have h1 := h.le h'
  have h2 := h'.le h
  obtain rfl : l = l' := ext_nthP (by omega) (fun i hi => h1.2 i (by omega))
  refine ⟨rfl, ?_⟩
  have e := h.2.symm.trans h'.2
  cases c <;> cases c' <;> simp at e <;> rfl
theorem TrO.ex (hg : N.good = true) (hs : okP N s) : ∃ l c, TrO N s l c := by
  suffices h : ∀ (k : Nat) (l : List Po), Ch N s l → 241 - l.length ≤ k → ∃ l c, TrO N s l c from h 241 [s] (Ch.one hs) (by simp)
  intro k
  induction k with
  | zero => intro l hl hk; have := hl.len hg; omega
  | succ k ih =>
    intro l hl hk
    cases hn : nx N (lastP l) with
    | none => exact ⟨l, false, hl, by rw [hn]; rfl⟩
    | some q =>
      by_cases e : q = s
      · exact ⟨l, true, hl, by rw [hn, e]; rfl⟩
      · exact ih _ (hl.step hg hn e) (by have := hl.len hg; simp; omega)
end
open Classical in
/-- the trail from s -/
noncomputable def trl (N : NetD) (s : Po) : List Po := if h : ∃ l c, TrO N s l c then h.choose else []
open Classical in
noncomputable def trc (N : NetD) (s : Po) : Bool := decide (∃ l, TrO N s l true)
section
variable {N : NetD} {s : Po}
theorem TrO.eq {l : List Po} {c : Bool} (h : TrO N s l c) : trl N s = l ∧ trc N s = c := by
  constructor
  · unfold trl
    have hx : ∃ l c, TrO N s l c := ⟨l, c, h⟩
    rw [dif_pos hx]
    obtain ⟨c', h'⟩ := hx.choose_spec
    exact (h'.uniq h).1
  · unfold trc
    cases c with
    | true => simp only [decide_eq_true_eq]; exact ⟨l, h⟩
    | false => simp only [decide_eq_false_iff_not]; exact fun ⟨l', h'⟩ => by have := (h'.uniq h).2; cases this
theorem trl_is (hg : N.good = true) (hs : okP N s) : TrO N s (trl N s) (trc N s) := by
  obtain ⟨l, c, h⟩ := TrO.ex hg hs
  rw [h.eq.1, h.eq.2]
  exact h
theorem trc_of_open (hg : N.good = true) (hs : okP N s) (h : pairedB N s = false) : trc N s = false := by
  have h1 := trl_is hg hs
  cases hc : trc N s with
  | false => rfl
  | true =>
    rw [hc] at h1
    have := (nx_back hg h1.1.last h1.2).1
    rw [h] at this; cases this
end

/-! ### marks -/
def markE (N : NetD) (U : Int → Int → Bool) (p : Po) : Int → Int → Bool := setU (setU U p.1 p.2) (ep N p).1 (ep N p).2
def markL (N : NetD) (U : Int → Int → Bool) (l : List Po) : Int → Int → Bool := l.foldl (markE N) U
def at_ (U : Int → Int → Bool) (p : Po) : Bool := U p.1 p.2
theorem at_setU (U : Int → Int → Bool) (q p : Po) : at_ (setU U q.1 q.2) p = (decide (p = q) || at_ U p) := by
  unfold at_ setU
  congr 1
  rw [Bool.eq_iff_iff]
  simp
  constructor
  · rintro ⟨h1, h2⟩; exact Prod.ext (by omega) (by omega)
  · rintro rfl; exact ⟨rfl, rfl⟩
theorem at_markE (N : NetD) (U : Int → Int → Bool) (q p : Po) : at_ (markE N U q) p = true ↔ at_ U p = true ∨ p = q ∨ p = ep N q := by
  unfold markE
  rw [at_setU _ (ep N q), at_setU _ q]
  simp only [Bool.or_eq_true, decide_eq_true_eq]
  constructor
  · rintro (h | h | h)
    · exact .inr (.inr h)
    · exact .inr (.inl h)
    · exact .inl h
  · rintro (h | h | h)
    · exact .inr (.inr h)
    · exact .inr (.inl h)
    · exact .inl h
theorem at_markL (N : NetD) (p : Po) : ∀ (l : List Po) (U : Int → Int → Bool), at_ (markL N U l) p = true ↔ at_ U p = true ∨ ∃ q ∈ l, p = q ∨ p = ep N q
  | [], U => by simp [markL]
  | x :: l, U => by
    show at_ (markL N (markE N U x) l) p = true ↔ _
    rw [at_markL N p l, at_markE]
    simp only [List.mem_cons, exists_eq_or_imp, or_assoc]
theorem markL_snoc (N : NetD) (U : Int → Int → Bool) (l : List Po) (x : Po) : markL N U (l ++ [x]) = markE N (markL N U l) x := by simp [markL]
theorem markL_take (N : NetD) (U : Int → Int → Bool) (l : List Po) {k : Nat} (h : k < l.length) : markL N U (l.take (k + 1)) = markE N (markL N U (l.take k)) (nthP l k) := by
  rw [List.take_succ_eq_append_getElem h, markL_snoc, nthP_eq h]

/-- marked ports come with their edges' other ends and with their partners -/
def Cl (N : NetD) (U : Int → Int → Bool) : Prop := ∀ p, okP N p → at_ U p = true → at_ U (ep N p) = true ∧ (pairedB N p = true → at_ U (pi p) = true)
def NoOp (N : NetD) (U : Int → Int → Bool) : Prop := ∀ p, okP N p → pairedB N p = false → at_ U p = true
section
variable {N : NetD}
theorem Cl.mark (hg : N.good = true) {U : Int → Int → Bool} (h : Cl N U) {s : Po} {l : List Po} {c : Bool} (ht : TrO N s l c) (hs : c = true ∨ pairedB N s = false) : Cl N (markL N U l) := by
  intro p hp hU
  have hpos := ht.1.pos
  have M : ∀ {x : Po}, at_ (markL N U l) x = true ↔ at_ U x = true ∨ ∃ q ∈ l, x = q ∨ x = ep N q := fun {x} => at_markL N x l U
  rcases M.1 hU with h1 | ⟨q, hq, h1⟩
  · obtain ⟨a, b⟩ := h p hp h1
    exact ⟨M.2 (.inl a), fun hpb => M.2 (.inl (b hpb))⟩
  · have hqo := ht.1.ok q hq
    obtain ⟨i, hi, hqi⟩ := mem_nthP hq
    rcases h1 with rfl | rfl
    · refine ⟨M.2 (.inr ⟨p, hq, .inr rfl⟩), fun hpb => ?_⟩
      match i, hi, hqi with
      | 0, hi, hqi =>
        rw [ht.1.head] at hqi
        subst hqi
        rcases hs with rfl | hs
        · have := ht.2
          rw [if_pos rfl] at this
          rw [(nx_back hg ht.1.last this).2.1]
          exact M.2 (.inr ⟨lastP l, nthP_mem (by omega), .inr rfl⟩)
        · rw [hpb] at hs; cases hs
      | i + 1, hi, hqi =>
        have h2 := ht.1.link i hi
        rw [hqi] at h2
        have hio := ht.1.ok _ (nthP_mem (l := l) (i := i) (by omega))
        rw [(nx_back hg hio h2).2.1]
        exact M.2 (.inr ⟨nthP l i, nthP_mem (by omega), .inr rfl⟩)
    · refine ⟨by rw [(ep_ok hg hqo).2]; exact M.2 (.inr ⟨q, hq, .inl rfl⟩), fun hpb => ?_⟩
      have h2 := nx_yes hpb
      by_cases e : i + 1 < l.length
      · have h3 := ht.1.link i e
        rw [hqi, h2] at h3
        injection h3 with h3
        rw [h3]
        exact M.2 (.inr ⟨_, nthP_mem e, .inl rfl⟩)
      · obtain rfl : i = l.length - 1 := by omega
        have h3 := ht.2
        rw [show lastP l = q from hqi, h2] at h3
        split at h3
        · injection h3 with h3
          rw [h3, ← ht.1.head]
          exact M.2 (.inr ⟨_, nthP_mem hpos, .inl rfl⟩)
        · cases h3
/-- what is left unmarked behind the first pass lies on closed trails -/
theorem Cl.closed (hg : N.good = true) {U : Int → Int → Bool} (h : Cl N U) (hn : NoOp N U) {s : Po} (hs : okP N s) (hU : at_ U s = false) : pairedB N s = true ∧ trc N s = true := by
  have hp : pairedB N s = true := by
    cases hc : pairedB N s with
    | true => rfl
    | false => rw [hn s hs hc] at hU; cases hU
  refine ⟨hp, ?_⟩
  cases hc : trc N s with
  | true => rfl
  | false =>
    exfalso
    have ht := trl_is hg hs
    rw [hc] at ht
    generalize trl N s = l at ht
    have hpos := ht.1.pos
    have hlo := ht.1.last
    have h1 : pairedB N (ep N (lastP l)) = false := by
      cases hx : pairedB N (ep N (lastP l)) with
      | false => rfl
      | true => have := ht.2; rw [nx_yes hx] at this; cases this
    have h2 := hn _ (ep_ok hg hlo).1 h1
    have h3 := (h _ (ep_ok hg hlo).1 h2).1
    rw [(ep_ok hg hlo).2] at h3
    have back : ∀ k, k < l.length → at_ U (nthP l (l.length - 1 - k)) = true := by
      intro k
      induction k with
      | zero => intro _; exact h3
      | succ k ih =>
        intro hk
        have a := ih (by omega)
        have hlk := ht.1.link (l.length - 1 - (k + 1)) (by omega)
        rw [show l.length - 1 - (k + 1) + 1 = l.length - 1 - k by omega] at hlk
        have hko := ht.1.ok _ (nthP_mem (l := l) (i := l.length - 1 - (k + 1)) (by omega))
        obtain ⟨b1, b2, b3⟩ := nx_back hg hko hlk
        have hqo := ht.1.ok _ (nthP_mem (l := l) (i := l.length - 1 - k) (by omega))
        have c1 := (h _ hqo a).2 b1
        have c2 := (h _ (pi_ok hqo b1).1 c1).1
        rw [b3] at c2
        exact c2
    have := back (l.length - 1) (by omega)
    rw [Nat.sub_self, ht.1.head, hU] at this
    cases this
end

/-! ### the two passes -/
structure TSt where
  seen : Int → Int → Bool
  out : List (List Po)
noncomputable def addT (N : NetD) (σ : TSt) (p : Po) : TSt := ⟨markL N σ.seen (trl N p), σ.out ++ [trl N p]⟩
/-- second: the pass that takes what is left -/
def skipB (N : NetD) (second : Bool) (σ : TSt) (p : Po) : Bool := at_ σ.seen p || (!second && pairedB N p)
noncomputable def stepT (N : NetD) (second : Bool) (v m : Nat) (σ : TSt) : TSt := if skipB N second σ (v, m) = true then σ else addT N σ (v, m)
noncomputable def rowT (N : NetD) (second : Bool) (v : Nat) : Nat → TSt → TSt
  | 0, σ => σ
  | m + 1, σ => stepT N second v m (rowT N second v m σ)
noncomputable def passT (N : NetD) (second : Bool) : Nat → TSt → TSt
  | 0, σ => σ
  | k + 1, σ => rowT N second k (degAt N k) (passT N second k σ)
def t0 : TSt := ⟨fun _ _ => false, []⟩
def headP (l : List Po) : Po := nthP l 0
/-- what holds all along -/
structure TInv (N : NetD) (σ : TSt) : Prop where
  cl : Cl N σ.seen
  mem : ∀ l ∈ σ.out, ∃ s c, okP N s ∧ TrO N s l c
  nd : (σ.out.map headP).Nodup
  hs : ∀ l ∈ σ.out, at_ σ.seen (headP l) = true
section
variable {N : NetD}
theorem TInv.zero (N : NetD) : TInv N t0 := ⟨fun p _ h => (by cases h), fun l hl => (by cases hl), (by simp [t0]), fun l hl => (by cases hl)⟩
theorem seen_mono {σ : TSt} {p q : Po} (h : at_ σ.seen q = true) : at_ (addT N σ p).seen q = true := (at_markL N q _ _).2 (.inl h)
theorem TInv.add (hg : N.good = true) {σ : TSt} (h : TInv N σ) {p : Po} (hp : okP N p) (hU : at_ σ.seen p = false) (hc : trc N p = true ∨ pairedB N p = false) : TInv N (addT N σ p) := by
  have ht := trl_is hg hp
  have hh : headP (trl N p) = p := ht.1.head
  refine ⟨h.cl.mark hg ht hc, fun l hl => ?_, ?_, fun l hl => ?_⟩
  · rcases List.mem_append.1 hl with hl | hl
    · exact h.mem l hl
    · rw [List.mem_singleton.1 hl]; exact ⟨p, _, hp, ht⟩
  · show ((σ.out ++ [trl N p]).map headP).Nodup
    rw [List.map_append]
    refine List.nodup_append.2 ⟨h.nd, by simp, fun a ha b hb e => ?_⟩
    simp only [List.map_cons, List.map_nil, List.mem_singleton] at hb
    obtain ⟨l, hl, rfl⟩ := List.mem_map.1 ha
    have := h.hs l hl
    rw [e, hb, hh, hU] at this
    cases this
  · rcases List.mem_append.1 hl with hl | hl
    · exact seen_mono (h.hs l hl)
    · rw [List.mem_singleton.1 hl, hh]
      exact (at_markL N p _ _).2 (.inr ⟨p, by have := nthP_mem ht.1.pos; rw [ht.1.head] at this; exact this, .inl rfl⟩)
theorem skip_no {second : Bool} {σ : TSt} {p : Po} (h : skipB N second σ p = false) : at_ σ.seen p = false ∧ (second = false → pairedB N p = false) := by
  unfold skipB at h
  rw [Bool.or_eq_false_iff] at h
  exact ⟨h.1, fun e => by rw [e] at h; simpa using h.2⟩
theorem stepT_skip {second : Bool} {v m : Nat} {σ : TSt} (h : skipB N second σ (v, m) = true) : stepT N second v m σ = σ := by unfold stepT; rw [if_pos h]
theorem stepT_add {second : Bool} {v m : Nat} {σ : TSt} (h : skipB N second σ (v, m) = false) : stepT N second v m σ = addT N σ (v, m) := by unfold stepT; rw [if_neg (by rw [h]; simp)]
theorem step_mono {second : Bool} {v m : Nat} {σ : TSt} {q : Po} (h : at_ σ.seen q = true) : at_ (stepT N second v m σ).seen q = true := by
  unfold stepT
  split
  · exact h
  · exact seen_mono h
theorem row_mono {second : Bool} {v : Nat} {σ : TSt} {q : Po} (h : at_ σ.seen q = true) : ∀ m, at_ (rowT N second v m σ).seen q = true
  | 0 => h
  | m + 1 => step_mono (row_mono h m)
/-- the first pass -/
theorem first_step (hg : N.good = true) {v m : Nat} {σ : TSt} (hp : okP N (v, m)) (h : TInv N σ) : TInv N (stepT N false v m σ) ∧ (pairedB N (v, m) = false → at_ (stepT N false v m σ).seen (v, m) = true) := by
  cases hs : skipB N false σ (v, m) with
  | true =>
    rw [stepT_skip hs]
    refine ⟨h, fun e => ?_⟩
    unfold skipB at hs
    rw [e] at hs
    simpa using hs
  | false =>
    rw [stepT_add hs]
    obtain ⟨h1, h2⟩ := skip_no hs
    refine ⟨h.add hg hp h1 (.inr (h2 rfl)), fun _ => ?_⟩
    have ht := trl_is hg hp
    exact (at_markL N _ _ _).2 (.inr ⟨(v, m), by have := nthP_mem ht.1.pos; rw [ht.1.head] at this; exact this, .inl rfl⟩)
theorem first_row (hg : N.good = true) {v : Nat} (hv : v < N.ends.length) {σ : TSt} (h : TInv N σ) : ∀ m, m ≤ degAt N v → TInv N (rowT N false v m σ) ∧ ∀ i, i < m → pairedB N (v, i) = false → at_ (rowT N false v m σ).seen (v, i) = true
  | 0, _ => ⟨h, fun i hi => absurd hi (by omega)⟩
  | m + 1, hm => by
    obtain ⟨h1, h2⟩ := first_row hg hv h m (by omega)
    obtain ⟨h3, h4⟩ := first_step hg (v := v) (m := m) ⟨hv, hm⟩ h1
    refine ⟨h3, fun i hi e => ?_⟩
    by_cases e2 : i = m
    · subst e2; exact h4 e
    · exact step_mono (h2 i (by omega) e)
theorem first_pass (hg : N.good = true) : ∀ k, k ≤ N.ends.length → TInv N (passT N false k t0) ∧ ∀ p : Po, okP N p → p.1 < k → pairedB N p = false → at_ (passT N false k t0).seen p = true
  | 0, _ => ⟨TInv.zero N, fun p _ hp => absurd hp (by omega)⟩
  | k + 1, hk => by
    obtain ⟨h1, h2⟩ := first_pass hg k (by omega)
    obtain ⟨h3, h4⟩ := first_row hg (v := k) (by omega) h1 (degAt N k) (Nat.le_refl _)
    refine ⟨h3, fun p hp hpk e => ?_⟩
    by_cases e2 : p.1 = k
    · obtain ⟨a, b⟩ := p
      dsimp only at e2
      subst e2
      exact h4 b hp.2 e
    · exact row_mono (h2 p hp (by omega) e) _
/-- the state behind the first pass -/
noncomputable def t1 (N : NetD) : TSt := passT N false N.ends.length t0
structure TInv2 (N : NetD) (σ : TSt) : Prop where
  inv : TInv N σ
  no : NoOp N σ.seen
theorem second_start (hg : N.good = true) : TInv2 N (t1 N) := ⟨(first_pass hg _ (Nat.le_refl _)).1, fun p hp e => (first_pass hg _ (Nat.le_refl _)).2 p hp hp.1 e⟩
theorem TInv2.left (hg : N.good = true) {σ : TSt} (h : TInv2 N σ) {p : Po} (hp : okP N p) (hU : at_ σ.seen p = false) : pairedB N p = true ∧ trc N p = true := h.inv.cl.closed hg h.no hp hU
theorem second_step (hg : N.good = true) {v m : Nat} {σ : TSt} (hp : okP N (v, m)) (h : TInv2 N σ) : TInv2 N (stepT N true v m σ) := by
  refine ⟨?_, fun p hp e => step_mono (h.no p hp e)⟩
  cases hs : skipB N true σ (v, m) with
  | true => rw [stepT_skip hs]; exact h.inv
  | false =>
    rw [stepT_add hs]
    obtain ⟨h1, _⟩ := skip_no hs
    exact h.inv.add hg hp h1 (.inl (h.left hg hp h1).2)
theorem second_row (hg : N.good = true) {v : Nat} (hv : v < N.ends.length) {σ : TSt} (h : TInv2 N σ) : ∀ m, m ≤ degAt N v → TInv2 N (rowT N true v m σ)
  | 0, _ => h
  | m + 1, hm => second_step hg (v := v) (m := m) ⟨hv, hm⟩ (second_row hg hv h m (by omega))
theorem second_pass (hg : N.good = true) : ∀ k, k ≤ N.ends.length → TInv2 N (passT N true k (t1 N))
  | 0, _ => second_start hg
  | k + 1, hk => second_row hg (by omega) (second_pass hg k (by omega)) _ (Nat.le_refl _)
/-- how many trails -/
theorem step_len (second : Bool) (v m : Nat) (σ : TSt) : (stepT N second v m σ).out.length ≤ σ.out.length + 1 := by
  unfold stepT
  split
  · omega
  · simp [addT]
theorem row_len (second : Bool) (v : Nat) (σ : TSt) : ∀ m, (rowT N second v m σ).out.length ≤ σ.out.length + m
  | 0 => Nat.le_refl _
  | m + 1 => by have := step_len (N := N) second v m (rowT N second v m σ); have := row_len second v σ m; show (stepT N second v m _).out.length ≤ _; omega
theorem TInv.len (hg : N.good = true) {σ : TSt} (h : TInv N σ) : σ.out.length ≤ 240 := by
  have h1 := subLen (σ.out.map headP) grid h.nd (fun p hp => by
    obtain ⟨l, hl, rfl⟩ := List.mem_map.1 hp
    obtain ⟨s, c, hs, ht⟩ := h.mem l hl
    have e : headP l = s := ht.1.head
    rw [e]
    have := (good_n hg).2
    have := good_deg hg hs.1
    have h1 := hs.1
    have := hs.2
    unfold degAt at this
    exact mem_grid (by omega) (by omega))
  rwa [grid_len, List.length_map] at h1
/-- the trails, in the order in which they are found -/
noncomputable def found (N : NetD) : List (List Po) := (passT N true N.ends.length (t1 N)).out
theorem found_inv (hg : N.good = true) : TInv N (passT N true N.ends.length (t1 N)) := (second_pass hg _ (Nat.le_refl _)).inv
theorem found_ch (hg : N.good = true) {l : List Po} (hl : l ∈ found N) : ∃ s, okP N s ∧ Ch N s l := by
  obtain ⟨s, c, hs, ht⟩ := (found_inv hg).mem l hl
  exact ⟨s, hs, ht.1⟩
end

end Go.Proofs.Ytcmmklcampmkjaa

/- Plain: trails that begin at different ports, sorted by where they begin: an insertion sort's result is the one sorted permutation. No condition on any program. -/
namespace Go.Proofs.Ytcmmklcampmkjaa
set_option linter.unusedVariables false

def keyP (p : Po) : Nat := p.1 * 8 + p.2
def keyL (l : List Po) : Nat := keyP (headP l)
theorem keyP_inj {N : NetD} (hg : N.good = true) {p q : Po} (hp : okP N p) (hq : okP N q) (e : keyP p = keyP q) : p = q := by
  have h1 := good_deg hg hp.1
  have h2 := good_deg hg hq.1
  have h3 := hp.2
  have h4 := hq.2
  unfold degAt at h3 h4
  unfold keyP at e
  exact Prod.ext (by omega) (by omega)
def nthT (l : List (List Po)) (i : Nat) : List Po := l.getD i []
theorem nthT_eq {l : List (List Po)} {i : Nat} (h : i < l.length) : nthT l i = l[i] := by simp [nthT, h]
/-- behind which element x goes, among the first k -/
def posK (out : List (List Po)) (x : Nat) : Nat → Nat
  | 0 => 0
  | k + 1 => if x < keyL (nthT out k) then posK out x k else k + 1
theorem posK_le (out : List (List Po)) (x : Nat) : ∀ k, posK out x k ≤ k
  | 0 => Nat.le_refl _
  | k + 1 => by unfold posK; split; have := posK_le out x k; omega; exact Nat.le_refl _
theorem posK_lo (out : List (List Po)) (x : Nat) : ∀ k, 0 < posK out x k → keyL (nthT out (posK out x k - 1)) ≤ x
  | 0, h => absurd h (by simp [posK])
  | k + 1, h => by
    by_cases e : x < keyL (nthT out k)
    · have e1 : posK out x (k + 1) = posK out x k := by rw [posK, if_pos e]
      rw [e1] at h ⊢
      exact posK_lo out x k h
    · have e1 : posK out x (k + 1) = k + 1 := by rw [posK, if_neg e]
      rw [e1]
      simp only [Nat.add_sub_cancel]
      omega
theorem posK_hi (out : List (List Po)) (x : Nat) : ∀ k j, posK out x k ≤ j → j < k → x < keyL (nthT out j)
  | 0, j, _, h => absurd h (by omega)
  | k + 1, j, h1, h2 => by
    by_cases e : x < keyL (nthT out k)
    · have e1 : posK out x (k + 1) = posK out x k := by rw [posK, if_pos e]
      rw [e1] at h1
      by_cases e2 : j = k
      · rw [e2]; exact e
      · exact posK_hi out x k j h1 (by omega)
    · have e1 : posK out x (k + 1) = k + 1 := by rw [posK, if_neg e]
      omega
def posT (out : List (List Po)) (x : List Po) : Nat := posK out (keyL x) out.length
def insT (out : List (List Po)) (x : List Po) : List (List Po) := out.take (posT out x) ++ [x] ++ out.drop (posT out x)
def srt (l : List (List Po)) : List (List Po) := l.foldl insT []
def srtK (l : List (List Po)) (k : Nat) : List (List Po) := srt (l.take k)
theorem srtK_succ {l : List (List Po)} {k : Nat} (h : k < l.length) : srtK l (k + 1) = insT (srtK l k) (nthT l k) := by
  unfold srtK srt
  rw [List.take_succ_eq_append_getElem h, List.foldl_append, nthT_eq h]
  rfl
theorem insT_perm (out : List (List Po)) (x : List Po) : (insT out x).Perm (out ++ [x]) := by
  unfold insT
  generalize posT out x = k
  have h1 : (out.take k ++ [x] ++ out.drop k).Perm (out.take k ++ (out.drop k ++ [x])) := by
    rw [List.append_assoc]
    exact List.Perm.append_left _ List.perm_append_comm
  rwa [← List.append_assoc, List.take_append_drop] at h1
theorem srt_perm (l : List (List Po)) : (srt l).Perm l := by
  suffices h : ∀ (l out : List (List Po)), (l.foldl insT out).Perm (out ++ l) from h l []
  intro l
  induction l with
  | nil => intro out; simp
  | cons x l ih =>
    intro out
    show (l.foldl insT (insT out x)).Perm _
    refine (ih _).trans ?_
    have := (insT_perm out x).append_right l
    rwa [List.append_assoc] at this
def LeT (l : List (List Po)) : Prop := l.Pairwise fun a b => keyL a ≤ keyL b
theorem insT_le {out : List (List Po)} (h : LeT out) (x : List Po) : LeT (insT out x) := by
  have hp := posK_le out (keyL x) out.length
  have lo : ∀ a ∈ out.take (posT out x), keyL a ≤ keyL x := fun a ha => by
    obtain ⟨i, hi, e⟩ := List.mem_iff_getElem.1 ha
    rw [List.getElem_take] at e
    have hi2 : i < posT out x := by rw [List.length_take] at hi; omega
    have hl : posT out x ≤ out.length := hp
    have h1 := posK_lo out (keyL x) out.length (by show 0 < posT out x; omega)
    rw [show posK out (keyL x) out.length = posT out x from rfl, nthT_eq (by omega)] at h1
    rw [← e]
    by_cases e2 : i = posT out x - 1
    · subst e2; exact h1
    · exact Nat.le_trans (List.pairwise_iff_getElem.1 h i (posT out x - 1) (by omega) (by omega) (by omega)) h1
  have hi' : ∀ b ∈ out.drop (posT out x), keyL x ≤ keyL b := fun b hb => by
    obtain ⟨i, hi, e⟩ := List.mem_iff_getElem.1 hb
    rw [List.getElem_drop] at e
    rw [List.length_drop] at hi
    have h1 := posK_hi out (keyL x) out.length (posT out x + i) (by show posT out x ≤ _; omega) (by omega)
    rw [nthT_eq (by omega)] at h1
    rw [← e]
    omega
  unfold LeT insT
  rw [List.append_assoc, List.pairwise_append]
  refine ⟨List.Pairwise.sublist (List.take_sublist _ _) h, ?_, fun a ha b hb => ?_⟩
  · show (x :: out.drop (posT out x)).Pairwise _
    rw [List.pairwise_cons]
    exact ⟨hi', List.Pairwise.sublist (List.drop_sublist _ _) h⟩
  · rcases List.mem_append.1 hb with hb | hb
    · rw [List.mem_singleton.1 hb]; exact lo a ha
    · exact Nat.le_trans (lo a ha) (hi' b hb)
theorem srt_le (l : List (List Po)) : LeT (srt l) := by
  suffices h : ∀ (l out : List (List Po)), LeT out → LeT (l.foldl insT out) from h l [] List.Pairwise.nil
  intro l
  induction l with
  | nil => intro out h; exact h
  | cons x l ih => intro out h; exact ih _ (insT_le h x)
def LtT (l : List (List Po)) : Prop := l.Pairwise fun a b => keyL a < keyL b
theorem lt_of_le {l : List (List Po)} (h : LeT l) (hn : (l.map keyL).Nodup) : LtT l := by
  unfold LtT
  unfold List.Nodup at hn
  rw [List.pairwise_map] at hn
  exact List.Pairwise.imp₂ (fun a b h1 h2 => by omega) h hn
theorem sorted_eq : ∀ (a b : List (List Po)), LtT a → LtT b → a.Perm b → a = b
  | [], b, _, _, h => by rw [List.nil_perm.1 h]
  | x :: a, [], _, _, h => by have := h.length_eq; simp at this
  | x :: a, y :: b, ha, hb, h => by
    unfold LtT at ha hb
    rw [List.pairwise_cons] at ha hb
    have hx : x ∈ y :: b := h.subset (List.mem_cons_self ..)
    have hy : y ∈ x :: a := h.symm.subset (List.mem_cons_self ..)
    have e : x = y := by
      rcases List.mem_cons.1 hx with e | e
      · exact e
      · rcases List.mem_cons.1 hy with e2 | e2
        · exact e2.symm
        · have := hb.1 x e; have := ha.1 y e2; omega
    subst e
    rw [sorted_eq a b ha.2 hb.2 (List.Perm.cons_inv h)]
theorem srt_unique {l l' : List (List Po)} (hn : (l.map keyL).Nodup) (hp : l'.Perm l) (hs : LtT l') : l' = srt l :=
  sorted_eq _ _ hs (lt_of_le (srt_le l) ((srt_perm l).map keyL |>.nodup_iff.2 hn)) (hp.trans (srt_perm l).symm)

/-- the trails of a network, in order -/
noncomputable def trails (N : NetD) : List (List Po) := srt (found N)
section
variable {N : NetD}
theorem found_keys (hg : N.good = true) : ((found N).map keyL).Nodup := by
  have h := (found_inv hg).nd
  show (List.map (fun l => keyP (headP l)) (found N)).Nodup
  have e : List.map (fun l => keyP (headP l)) (found N) = ((found N).map headP).map keyP := by rw [List.map_map]; rfl
  rw [e]
  unfold List.Nodup
  rw [List.pairwise_map]
  have hok : ∀ p ∈ (found N).map headP, okP N p := fun p hp => by
    obtain ⟨l, hl, rfl⟩ := List.mem_map.1 hp
    obtain ⟨s, hs, hc⟩ := found_ch hg hl
    rw [show headP l = s from hc.head]; exact hs
  refine List.Pairwise.imp_of_mem (fun {a b} ha hb hne e => hne (keyP_inj hg (hok a ha) (hok b hb) e)) h
theorem trails_mem {l : List Po} : l ∈ trails N ↔ l ∈ found N := (srt_perm _).mem_iff
theorem trails_ch (hg : N.good = true) {l : List Po} (hl : l ∈ trails N) : ∃ s, okP N s ∧ Ch N s l := found_ch hg (trails_mem.1 hl)
theorem trails_len (hg : N.good = true) : (trails N).length ≤ 240 := by
  unfold trails
  rw [(srt_perm _).length_eq]
  exact (found_inv hg).len hg
end

/-- ends as numbers -/
def castP (p : Po) : Int × Int := ((p.1 : Int), (p.2 : Int))
def castL (l : List Po) : List (Int × Int) := l.map castP
/-- the nodes and ports of a trail, as one list of numbers -/
def numsP : List Po → List Int
  | [] => []
  | p :: l => (p.1 : Int) :: (p.2 : Int) :: numsP l
theorem numsP_snoc : ∀ (l : List Po) (p : Po), numsP (l ++ [p]) = numsP l ++ [(p.1 : Int), (p.2 : Int)]
  | [], p => rfl
  | x :: l, p => by show _ :: _ :: numsP (l ++ [p]) = _; rw [numsP_snoc l p]; rfl
theorem numsP_length : ∀ l : List Po, (numsP l).length = 2 * l.length
  | [] => rfl
  | x :: l => by simp only [numsP, List.length_cons]; rw [numsP_length l]; omega
theorem nth_numsP : ∀ (l : List Po) (i : Nat), i < l.length → nth (numsP l) (2 * i) = ((nthP l i).1 : Int) ∧ nth (numsP l) (2 * i + 1) = ((nthP l i).2 : Int)
  | x :: l, 0, _ => ⟨rfl, rfl⟩
  | x :: l, i + 1, h => by
    have := nth_numsP l i (by simpa using h)
    rw [show 2 * (i + 1) = 2 * i + 1 + 1 by omega]
    exact this
theorem castL_length (l : List Po) : (castL l).length = l.length := by simp [castL]
theorem nthE_castL {l : List Po} {i : Nat} (h : i < l.length) : nthE (castL l) i = (((nthP l i).1 : Int), ((nthP l i).2 : Int)) := by
  simp [nthE, castL, castP, nthP, h]
theorem numsP_take {l : List Po} {k : Nat} (h : k < l.length) : numsP (l.take (k + 1)) = numsP (l.take k) ++ [((nthP l k).1 : Int), ((nthP l k).2 : Int)] := by
  rw [List.take_succ_eq_append_getElem h, numsP_snoc, nthP_eq h]
theorem castL_snoc (l : List Po) (p : Po) : castL (l ++ [p]) = castL l ++ [castP p] := by simp [castL]

end Go.Proofs.Ytcmmklcampmkjaa

/- Memory of the token's walk: a map of ends to bools of the call's own; what a step may turn. No condition on any program. -/
namespace Go.Proofs.Ytcmmklcampmkjaa
open Go.ChangeShapes Go.WideShapes Go.ChangeAt Go.RowKit
set_option linter.unusedVariables false

theorem Try.laidB : laidOutB Try.prog = true := by kernel_rfl
theorem Try.keyLawE : WideMaps.KeyLaw Try.prog 60 :=
  deep_law_gate Try.laidB (of_decide_eq_true (by kernel_rfl)) (of_decide_eq_true (by kernel_rfl)) (by kernel_rfl) (by rw [Try.underlying60])
theorem Try.keyedE : Maps.Keyed Try.prog 60 := Maps.Keyed.of_law Try.keyLawE
theorem Try.zeroB (w : World) : (zeroValue 4).run Try.prog w = .ok (.bool false) w := by kernel_rfl
theorem Try.sizeT : ∃ d, Try.prog.types.size = d + 1 := ⟨Try.prog.types.size - 1, by have : 0 < Try.prog.types.size := of_decide_eq_true (by kernel_rfl); omega⟩
theorem wfI {x : Int} (h : I64 x) : (Lit.int .i64 x).wf = true := by unfold I64 at h; simp [Lit.wf, IntKind.min, IntKind.max, IntKind.signed, IntKind.bits]; omega
/-- the literal of an end as a key -/
def kl (x y : Int) : Lit := .string (keyBytes [.int .i64 x, .int .i64 y])
theorem klE {x y : Int} (hx : I64 x) (hy : I64 y) : Try.prog.keyLits (Try.prog.types.size + 1) 60 [.int .i64 x, .int .i64 y] = some [.int .i64 x, .int .i64 y] := by
  obtain ⟨d, hd⟩ := Try.sizeT
  have h2 : Try.prog.cellsOf 60 = 2 := by kernel_rfl
  have h1 : Try.prog.cellsOf 3 = 1 := by kernel_rfl
  rw [hd]
  unfold Program.keyLits
  rw [Try.underlying60]
  simp [h2, h1, Program.keyLits, Try.underlying3, wfI hx, wfI hy]
theorem keyE {x y : Int} (hx : I64 x) (hy : I64 y) : keyOf Try.prog 60 (.agg #[.int .i64 x, .int .i64 y]) = some (kl x y) := by
  have h0 : Try.prog.keyType 60 = true := by kernel_rfl
  have h2 : Try.prog.cellsOf 60 = 2 := by kernel_rfl
  unfold keyOf
  rw [Try.underlying60]
  have hf : (Value.agg #[.int .i64 x, .int .i64 y]).formed Try.prog 60 = true := by simp [Value.formed, Try.underlying60, h2]
  have := klE hx hy
  simp only [h0, hf, Bool.and_self, if_true]
  rw [show (Value.agg #[Value.int IntKind.i64 x, Value.int IntKind.i64 y]).cells.toList = [.int .i64 x, .int .i64 y] from rfl, this]
  rfl
theorem kl_inj {x y a b : Int} (hx : I64 x) (hy : I64 y) (ha : I64 a) (hb : I64 b) (h : kl x y = kl a b) : x = a ∧ y = b := by
  unfold kl at h
  injection h with h
  have := keyLits_inj (klE hx hy) (klE ha hb) h
  simpa using this

set_option maxRecDepth 100000 in
theorem plainElem_bool_inv {v : Value} {c : Bool} {ps : List MemPlace} (h : plainElem (H := Unit) Try.prog 4 v = some (.lit (.bool c), ps)) : v = .bool c := by
  unfold plainElem at h
  rw [Try.underlying4] at h
  cases v <;> simp at h
  rw [h.1]
/-- block b is a map that reads as U; it has at most m entries -/
def MpT (w : World) (b : Nat) (U : Int → Int → Bool) (m : Nat) : Prop :=
  ∃ (n : Nat) (D : DataW Unit), n ≤ m ∧ w.ownsMap Try.prog 60 (plainElem Try.prog 4) b n D ∧ Maps.IsMap D ∧ ∀ x y, I64 x → I64 y → D.atKey (kl x y) (.lit (.bool false)) = .lit (.bool (U x y))
section
variable {w w' : World} {b m : Nat} {U : Int → Int → Bool}
theorem MpT.new (w : World) : MpT (w.alloc (.map #[] 0)) w.heap.size (fun _ _ => false) 0 :=
  ⟨0, .map [], Nat.le_refl _, World.ownsMap_made _ _ _ _, Maps.isMap_empty, fun x y _ _ => rfl⟩
theorem MpT.lt (h : MpT w b U m) : b < w.heap.size := let ⟨_, _, _, h, _⟩ := h; h.lt
theorem MpT.mono (h : MpT w b U m) {m' : Nat} (hm : m ≤ m') : MpT w b U m' := let ⟨n, D, h1, h2⟩ := h; ⟨n, D, by omega, h2⟩
theorem MpT.kept {row : Option Nat} (h : MpT w b U m) (hg : w.grownBy w' row) (hr : some b ≠ row) : MpT w' b U m := let ⟨n, D, h1, h2, h3⟩ := h; ⟨n, D, h1, h2.kept hg hr, h3⟩
end

/-- what the walk may turn: blocks from B on and below base, and the moves' own row; v, v' the moves' slices -/
structure Fr (B base : Nat) (w : World) (v : Value) (w' : World) (v' : Value) : Prop where
  os : w'.os = w.os
  tape : w'.tape = w.tape
  output : w'.output = w.output
  size : w.heap.size ≤ w'.heap.size
  block : ∀ k, k < w.heap.size → (k < B ∨ base ≤ k) → v.ownBlock ≠ some k → w'.heap[k]? = w.heap[k]?
  own : ∀ k, v'.ownBlock = some k → v.ownBlock = some k ∨ w.heap.size ≤ k
section
variable {B base : Nat} {w w1 w' : World} {v v1 v' : Value}
theorem Fr.refl (B base : Nat) (w : World) (v : Value) : Fr B base w v w v := ⟨rfl, rfl, rfl, Nat.le_refl _, fun _ _ _ _ => rfl, fun _ h => .inl h⟩
theorem Fr.trans (h : Fr B base w v w1 v1) (k : Fr B base w1 v1 w' v') : Fr B base w v w' v' :=
  ⟨k.os.trans h.os, k.tape.trans h.tape, k.output.trans h.output, Nat.le_trans h.size k.size,
    fun i hi ho hv => (k.block i (Nat.lt_of_lt_of_le hi h.size) ho (fun e => by rcases h.own i e with e | e; exact hv e; omega)).trans (h.block i hi ho hv),
    fun i hi => by rcases k.own i hi with e | e; exact h.own i e; right; exact Nat.le_trans h.size e⟩
theorem Fr.below {b : Nat} (h : Fr B base w v w' v') (hv : ∀ k, v.ownBlock = some k → b ≤ k) (h1 : b ≤ B) (hb : b ≤ w.heap.size) : Below b w w' :=
  ⟨h.os, h.tape, h.output, h.size, fun k hk => h.block k (by omega) (.inl (by omega)) (fun e => by have := hv k e; omega)⟩
theorem Fr.still (hg : w.grownBy w' none) : Fr B base w v w' v := ⟨hg.os, hg.tape, hg.output, hg.size, fun k hk _ _ => hg.block k hk (by simp), fun _ h => .inl h⟩
theorem Fr.turn {r : Nat} (hg : w.grownBy w' (some r)) (h1 : B ≤ r) (h2 : r < base) : Fr B base w v w' v :=
  ⟨hg.os, hg.tape, hg.output, hg.size, fun k hk ho _ => hg.block k hk (fun e => by injection e; omega), fun _ h => .inl h⟩
theorem Fr.row (hg : w.grownBy w' v.ownBlock) (ho : v'.ownBlock = v.ownBlock ∨ ∃ k, v'.ownBlock = some k ∧ w.heap.size ≤ k) : Fr B base w v w' v' :=
  ⟨hg.os, hg.tape, hg.output, hg.size, fun k hk _ hv => hg.block k hk (fun e => hv e.symm), fun k hk => by
    rcases ho with e | ⟨i, e, hi⟩
    · left; rw [← e]; exact hk
    · right; rw [e] at hk; injection hk with hk; omega⟩
theorem Fr.box {g : Nat} {cs : Array Value} {t : TypeId} (h : Fr B base w v w' v') (hb : BoxN w g cs t) (hg : g < B ∨ base ≤ g) (hv : v.ownBlock ≠ some g) : BoxN w' g cs t := (h.block g hb.lt hg hv).trans hb
end
theorem OwnSS.far {w w' : World} {base top : Nat} {e : TypeId} {v : Value} {xss : List (List Int)} {row : Option Nat} (h : OwnSS w base top e v xss) (hg : w.grownBy w' row) (hr : ∀ g, row = some g → g < base) : OwnSS w' base top e v xss := by
  obtain ⟨vs, lo, hi, h1, h2, h3, h4, h5, h6⟩ := h
  refine ⟨vs, lo, hi, h1, h2.kept hg ?_, h3, Nat.le_trans h4 hg.size, fun j hj => ?_, h6⟩
  · cases hv : v.ownBlock with
    | none => exact .inl rfl
    | some g =>
      right
      intro e
      have := (h2.lt g hv).1
      have := hr g e.symm
      omega
  · obtain ⟨u, a1, a2, a3, a4, a5⟩ := h5 j hj
    exact ⟨u, a1, a2, a3, a4.far hg (by omega) (fun g e => .inl (by have := hr g e; omega)), a5⟩

end Go.Proofs.Ytcmmklcampmkjaa

/- A slice of slices of ends that the call owns and appends rows to. No condition on any program. -/
namespace Go.Proofs.Ytcmmklcampmkjaa
open Go.RowKit

/-- v is a slice of slices that reads as xss; its own row lies from block base on; its rows lie one behind the other, from base on and below top -/
def OwnES (w : World) (base top : Nat) (e : TypeId) (v : Value) (xss : List (List (Int × Int))) : Prop :=
  ∃ (vs : List Value) (lo hi : Nat → Nat), vs.length = xss.length ∧ Own w base e v vs ∧ base ≤ top ∧ top ≤ w.heap.size ∧
    (∀ j, j < xss.length → ∃ u, vs[j]? = some u ∧ base ≤ lo j ∧ hi j ≤ top ∧ EndS w (lo j) (hi j) u (nthL xss j) ∧ ∀ g, v.ownBlock = some g → g < lo j ∨ hi j ≤ g) ∧
    ∀ i j, i < j → j < xss.length → hi i ≤ lo j


section
variable {w w' : World} {base top : Nat} {e : TypeId} {v : Value} {xss : List (List (Int × Int))}
theorem OwnES.nil (w : World) (base top : Nat) (e : TypeId) (h1 : base ≤ top) (h2 : top ≤ w.heap.size) : OwnES w base top e (.slice none 0 0) [] :=
  ⟨[], fun _ => 0, fun _ => 0, rfl, Own.nil _ _ _, h1, h2, fun j hj => absurd hj (by simp), fun i j _ hj => absurd hj (by simp)⟩
theorem OwnES.below (h : OwnES w base top e v xss) (hb : Below w.heap.size w w') : OwnES w' base top e v xss := by
  obtain ⟨vs, lo, hi, h1, h2, h3, h4, h5, h6⟩ := h
  refine ⟨vs, lo, hi, h1, h2.kept (row := none) ⟨hb.os, hb.tape, hb.output, hb.size, fun k hk _ => hb.block k hk⟩ (by cases hv : v.ownBlock with
    | none => exact .inl rfl
    | some g => right; simp), h3, Nat.le_trans h4 hb.size, fun j hj => ?_, h6⟩
  obtain ⟨u, a1, a2, a3, a4, a5⟩ := h5 j hj
  exact ⟨u, a1, a2, a3, a4.below hb (by omega), a5⟩
theorem OwnES.alloc (h : OwnES w base top e v xss) (o : Obj) : OwnES (w.alloc o) base top e v xss := h.below ((Below.refl _ _).alloc (Nat.le_refl _) o)
theorem OwnES.drew (h : OwnES w base top e v xss) : OwnES w.drew base top e v xss := h
theorem OwnES.drewN (h : OwnES w base top e v xss) (k : Nat) : OwnES (w.drewN k) base top e v xss := h
theorem OwnES.len (h : OwnES w base top e v xss) : ∃ A c, v = .slice A xss.length c ∧ xss.length ≤ c ∧ c ≤ maxLen := by
  obtain ⟨vs, lo, hi, h1, h2, _⟩ := h
  obtain ⟨A, c, e, a1, a2, _⟩ := h2.form
  exact ⟨A, c, by rw [e, h1], by omega, a2⟩
theorem OwnES.lt (h : OwnES w base top e v xss) : ∀ k, v.ownBlock = some k → base ≤ k ∧ k < w.heap.size := by
  obtain ⟨vs, lo, hi, h1, h2, _⟩ := h
  exact h2.lt
theorem OwnES.mono (h : OwnES w base top e v xss) {top' : Nat} (h1 : top ≤ top') (h2 : top' ≤ w.heap.size) : OwnES w base top' e v xss := by
  obtain ⟨vs, lo, hi, a1, a2, a3, a4, a5, a6⟩ := h
  refine ⟨vs, lo, hi, a1, a2, by omega, h2, fun j hj => ?_, a6⟩
  obtain ⟨u, b1, b2, b3, b4, b5⟩ := a5 j hj
  exact ⟨u, b1, b2, by omega, b4, b5⟩
theorem OwnES.ssx (h : OwnES w base top e v xss) : EndSSx w base w.heap.size v xss := by
  obtain ⟨vs, lo, hi, h1, h2, h3, h4, h5, h6⟩ := h
  have hsl : Sl w base w.heap.size 1 v xss.length (fun j => vs.getD j undef) := by
    have := Sl.of_own (f := fun j => vs.getD j undef) h2 (fun j hj => by simp at hj; simp [hj])
    rwa [h1] at this
  have hr : ∀ j, j < xss.length → EndS w (lo j) (hi j) (vs.getD j undef) (nthL xss j) ∧ base ≤ lo j ∧ hi j ≤ top ∧ ∀ g, v.ownBlock = some g → g < lo j ∨ hi j ≤ g := fun j hj => by
    obtain ⟨u, a1, a2, a3, a4, a5⟩ := h5 j hj
    have : vs.getD j undef = u := by simp [a1]
    rw [this]
    exact ⟨a4, a2, a3, a5⟩
  refine ⟨fun j => vs.getD j undef, hsl, fun i hi' => (hr i hi').1.mono (hr i hi').2.1 (by have := (hr i hi').2.2.1; omega), fun i j hij hj => ?_, fun i hi' => ?_⟩
  · obtain ⟨a1, _⟩ := hr i (by omega)
    obtain ⟨b1, _⟩ := hr j hj
    rcases Sl.row a1 with e1 | ⟨g1, e1, c1, c2⟩
    · exact .inl e1
    · right
      rw [e1]
      rcases Sl.row b1 with e2 | ⟨g2, e2, d1, d2⟩
      · rw [e2]; simp
      · rw [e2]; intro e3; injection e3 with e3; have := h6 i j hij hj; omega
  · obtain ⟨a1, _, _, a2⟩ := hr i hi'
    rcases Sl.row a1 with e1 | ⟨g1, e1, c1, c2⟩
    · exact .inl e1
    · right
      rw [e1]
      unfold rowOf
      rw [if_neg (by omega)]
      intro e3
      have := a2 g1 e3.symm
      omega
end

/-- append of one row onto a slice of slices of the call's own, the row's slice just laid in a block of its own -/
theorem append_es {P : Program} {ops : Array Oper} {rest : List Oper} {o : Oper} {a : Act} {Q : Exit → Act → World → Prop} {t e : TypeId} {bytes : Nat}
    (ht : P.underlying t = some (.slice e)) (hinfo : (P.info? e).map (fun i => (i.zero, i.size, i.bytes)) = some (some (.slice none 0 0), 1, bytes)) (hby : bytes ≤ 64)
    (w : World) (hgd : o.guard = none) {s : Operand} (x : Operand) (ho : o.op = .call { callee := .builtin .append, args := #[s, x], argTypes := #[t, t] })
    {base top : Nat} {v : Value} {xss : List (List (Int × Int))} (hown : OwnES w base top e v xss) {u : Value} {xs : List (Int × Int)} {lo hi : Nat} (hu : EndS w lo hi u xs) (hlo : top ≤ lo) (hhi : hi ≤ w.heap.size) (hlh : lo ≤ hi) (hfar : ∀ g, v.ownBlock = some g → g < lo ∨ hi ≤ g)
    (te : TypeId) (hs : a.eval s = v) (hx : a.eval x = .slice (some ⟨w.heap.size, 0, none⟩) 1 1) (hlen : xss.length < 1099511627776)
    (h : ∀ v' w', OwnES w' base hi e v' (xss ++ [xs]) → w.grownBy w' v.ownBlock → (v'.ownBlock = v.ownBlock ∨ v'.ownBlock = some (w.heap.size + 1)) → wpList P ops Q rest (a.put o.dst v') w') :
    wpList P ops Q (o :: rest) a (w.alloc (.cells #[u] te)) := by
  obtain ⟨vs, los, his, h1, h2, h3, h4, h5, h6⟩ := hown
  obtain ⟨A, c, rfl⟩ := (show ∃ A c, u = .slice A xs.length c from let ⟨A, c, e, _⟩ := hu; ⟨A, c, e⟩)
  refine append1 ht hinfo rfl hby w hgd x ho h2 _ te hs hx rfl (by omega) (by omega) fun v' w' ho' hg' hat' => h v' w' ?_ hg' hat'
  have hgs := hg'.size
  have hold : ∀ j, j < xss.length → ∃ u, vs[j]? = some u ∧ base ≤ los j ∧ his j ≤ top ∧ EndS w' (los j) (his j) u (nthL xss j) ∧ ∀ g, v'.ownBlock = some g → g < los j ∨ his j ≤ g := fun j hj => by
    obtain ⟨u, a1, a2, a3, a4, a5⟩ := h5 j hj
    refine ⟨u, a1, a2, a3, a4.far hg' (by omega) a5, fun g hg => ?_⟩
    rcases hat' with e1 | e1
    · exact a5 g (by rw [← e1]; exact hg)
    · rw [e1] at hg; injection hg with hg; omega
  refine ⟨vs ++ [.slice A xs.length c], fun j => if j < xss.length then los j else lo, fun j => if j < xss.length then his j else hi, by simp [h1], ho', by omega, by omega, fun j hj => ?_, fun i j hij hj => ?_⟩
  · dsimp only
    by_cases e1 : j < xss.length
    · obtain ⟨u, a1, a2, a3, a4, a5⟩ := hold j e1
      rw [if_pos e1, if_pos e1, nthL_append_left e1]
      exact ⟨u, by rw [List.getElem?_append_left (by omega)]; exact a1, a2, by omega, a4, a5⟩
    · obtain rfl : j = xss.length := by simp at hj; omega
      rw [if_neg e1, if_neg e1, nthL_append_at]
      refine ⟨.slice A xs.length c, by rw [← h1]; simp, by omega, Nat.le_refl _, hu.far hg' hhi hfar, fun g hg => ?_⟩
      rcases hat' with e2 | e2
      · exact hfar g (by rw [← e2]; exact hg)
      · rw [e2] at hg; injection hg with hg; omega
  · dsimp only
    rw [if_pos (by simp at hj; omega)]
    by_cases e1 : j < xss.length
    · rw [if_pos e1]; exact h6 i j hij e1
    · rw [if_neg e1]
      obtain ⟨u, _, _, a3, _⟩ := h5 i (by simp at hj; omega)
      omega

theorem OwnES.far {w w' : World} {base top : Nat} {e : TypeId} {v : Value} {xss : List (List (Int × Int))} {row : Option Nat} (h : OwnES w base top e v xss) (hg : w.grownBy w' row) (hr : ∀ g, row = some g → g < base) : OwnES w' base top e v xss := by
  obtain ⟨vs, lo, hi, h1, h2, h3, h4, h5, h6⟩ := h
  refine ⟨vs, lo, hi, h1, h2.kept hg ?_, h3, Nat.le_trans h4 hg.size, fun j hj => ?_, h6⟩
  · cases hv : v.ownBlock with
    | none => exact .inl rfl
    | some g =>
      right
      intro e
      have := (h2.lt g hv).1
      have := hr g e.symm
      omega
  · obtain ⟨u, a1, a2, a3, a4, a5⟩ := h5 j hj
    exact ⟨u, a1, a2, a3, a4.far hg (by omega) (fun g e => .inl (by have := hr g e; omega)), a5⟩


end Go.Proofs.Ytcmmklcampmkjaa

/- Rows of ends that a call owns and appends to. No condition on any program. -/
namespace Go.Proofs.Ytcmmklcampmkjaa
open Go.RowKit
set_option linter.unusedVariables false

/-- the cells of ends -/
def flatP : List Po → List Value
  | [] => []
  | p :: l => .int .i64 (p.1 : Int) :: .int .i64 (p.2 : Int) :: flatP l
theorem flatP_length : ∀ l : List Po, (flatP l).length = l.length * 2
  | [] => rfl
  | p :: l => by simp only [flatP, List.length_cons]; rw [flatP_length l]; omega
theorem flatP_snoc : ∀ (l : List Po) (p : Po), flatP (l ++ [p]) = flatP l ++ [.int .i64 (p.1 : Int), .int .i64 (p.2 : Int)]
  | [], p => rfl
  | x :: l, p => by show _ :: _ :: flatP (l ++ [p]) = _; rw [flatP_snoc l p]; rfl
theorem flatP_get : ∀ (l : List Po) (j : Nat), j < l.length * 2 → (flatP l)[j]? = some (endCell (castL l) j)
  | [], j, h => absurd h (by simp)
  | p :: l, 0, h => rfl
  | p :: l, 1, h => rfl
  | p :: l, j + 2, h => by
    have := flatP_get l j (by simp only [List.length_cons] at h; omega)
    show (flatP l)[j]? = _
    rw [this]
    unfold endCell
    rw [show (j + 2) % 2 = j % 2 by omega, show (j + 2) / 2 = j / 2 + 1 by omega]
    rfl
/-- a row of ends that the call owns -/
def OwnE (w : World) (base : Nat) (e : TypeId) (v : Value) (l : List Po) : Prop := w.ownsRow base e 2 v l.length (flatP l)
section
variable {w w' : World} {lo hi base : Nat} {v : Value} {l : List Po} {e : TypeId} {row : Option Nat}
theorem OwnE.nil (w : World) (base : Nat) (e : TypeId) : OwnE w base e (.slice none 0 0) [] := World.ownsRow_nil w base e 2
theorem OwnE.lt (h : OwnE w base e v l) : ∀ k, v.ownBlock = some k → base ≤ k ∧ k < w.heap.size := World.ownsRow.lt h
theorem OwnE.alloc (h : OwnE w base e v l) (o : Obj) : OwnE (w.alloc o) base e v l := World.ownsRow.alloc h o
theorem OwnE.kept {row : Option Nat} (h : OwnE w base e v l) (hg : w.grownBy w' row) (hne : v.ownBlock = none ∨ v.ownBlock ≠ row) : OwnE w' base e v l := World.ownsRow.kept h hg hne
theorem OwnE.still (h : OwnE w base e v l) (hg : w.grownBy w' none) : OwnE w' base e v l := h.kept hg (by
  cases hv : v.ownBlock with
  | none => exact .inl rfl
  | some g => right; simp)
theorem OwnE.far (h : OwnE w base e v l) (hg : w.grownBy w' row) (hr : ∀ g, row = some g → v.ownBlock ≠ some g) : OwnE w' base e v l := h.kept hg (by
  cases hv : v.ownBlock with
  | none => exact .inl rfl
  | some g => right; intro e; exact hr g e.symm hv)
theorem OwnE.ends (h : OwnE w base e v l) : EndS w base w.heap.size v (castL l) := by
  have h1 : w.ownsRow base e 2 v (castL l).length (flatP l) := by rw [castL_length]; exact h
  exact Sl.of_own h1 fun j hj => flatP_get l j (by rw [castL_length] at hj; omega)
theorem OwnE.len (h : OwnE w base e v l) : ∃ A c, v = .slice A l.length c ∧ l.length ≤ c ∧ c ≤ 9223372036854775807 := by
  obtain ⟨A, c, e, h1, h2⟩ := h.ends.dims
  rw [castL_length] at e h1
  exact ⟨A, c, e, h1, h2⟩
end
def lenV : Value → Nat
  | .slice _ n _ => n
  | _ => 0
theorem OwnE.lenV {w : World} {base : Nat} {e : TypeId} {v : Value} {l : List Po} (h : OwnE w base e v l) : lenV v = l.length := by
  obtain ⟨A, c, rfl, _⟩ := h.len
  rfl
/-- append of one end, just laid in a block of its own -/
theorem append_end {P : Program} {ops : Array Oper} {rest : List Oper} {o : Oper} {a : Act} {Q : Exit → Act → World → Prop} {t e : TypeId} {z : Value} {bytes : Nat}
    (ht : P.underlying t = some (.slice e)) (hinfo : (P.info? e).map (fun i => (i.zero, i.size, i.bytes)) = some (some z, 2, bytes)) (hz1 : z.cells.size = 2) (hby : bytes ≤ 64)
    (w : World) (hgd : o.guard = none) {s : Operand} (x : Operand) (ho : o.op = .call { callee := .builtin .append, args := #[s, x], argTypes := #[t, t] })
    {base : Nat} {v : Value} {l : List Po} (hown : OwnE w base e v l) (p : Po) (te : TypeId) (hs : a.eval s = v) (hx : a.eval x = .slice (some ⟨w.heap.size, 0, none⟩) 1 1)
    (hlen : l.length < 1099511627776) (hbase : base ≤ w.heap.size)
    (h : ∀ v' w', OwnE w' base e v' (l ++ [p]) → w.grownBy w' v.ownBlock → (v'.ownBlock = v.ownBlock ∨ v'.ownBlock = some (w.heap.size + 1)) → wpList P ops Q rest (a.put o.dst v') w') :
    wpList P ops Q (o :: rest) a (w.alloc (.cells #[.int .i64 (p.1 : Int), .int .i64 (p.2 : Int)] te)) := by
  refine append_row ht hinfo hz1 (by omega) hby _ hgd x ho (hown.alloc _) hs [.int .i64 (p.1 : Int), .int .i64 (p.2 : Int)] hx rfl ?_ ?_ (by omega) (by simp; omega) fun v' w' a1 a2 a3 => h v' w' ?_ ?_ ?_
  · intro j u hj
    rw [show (⟨w.heap.size, 0, none⟩ : Addr).add j = ⟨w.heap.size, j, none⟩ by simp [Addr.add, eq_comm], World.cell?_alloc_at _ _ _ _ rfl]
    simpa using hj
  · intro u hu
    simp only [List.mem_cons, List.not_mem_nil, or_false] at hu
    rcases hu with rfl | rfl <;> rfl
  · unfold OwnE
    rw [flatP_snoc, List.length_append]
    exact a1
  · exact ⟨a2.os, a2.tape, a2.output, Nat.le_trans (by simp) a2.size, fun k hk hne => (a2.block k (by simp; omega) hne).trans (Below.heap_alloc _ _ _ hk)⟩
  · simpa using a3

end Go.Proofs.Ytcmmklcampmkjaa

/- One small lemma. No condition on any program. -/
namespace Go.Proofs.Ytcmmklcampmkjaa
theorem ite_is {c : Prop} [Decidable c] {x y : Prop} (h : c) (k : x) : if c then x else y := by rw [if_pos h]; exact k
end Go.Proofs.Ytcmmklcampmkjaa

/- Memory of the network that a call builds out of kept ports: a map of ends to ends of the call's own; three slices that grow in one struct. No condition on any program. -/
namespace Go.Proofs.Ytcmmklcampmkjaa
open Go.ChangeShapes Go.WideShapes Go.ChangeAt Go.RowKit
set_option linter.unusedVariables false

theorem results_cell1 {fn : Func} {t : Tmp} {ty : TypeId} (h : fn.results = #[.cell t ty]) (tmps : Array Value) (P : Program) (w : World) {p : Addr} {v : Value} (ha : tmps.getD t undef = .pointer (some p)) (hl : (loadVar ty p).run P w = .ok v w) :
    (results fn tmps).run P w = .ok v w := by
  have ha' : tmps[t]?.getD undef = .pointer (some p) := by simpa using ha
  simp [results, h, ha', asAddr, hl]
theorem load_net {w : World} {g : Nat} {a b c : Value} (h : BoxN w g #[a, b, c] 34) : (loadVar 34 ⟨g, 0, none⟩).run Try.prog w = .ok (.agg #[a, b, c]) w := by
  have k0 : w.cell? ⟨g, 0, none⟩ = some a := h.cell 0 (by simp)
  have k1 : w.cell? ⟨g, 1, none⟩ = some b := h.cell 1 (by simp)
  have k2 : w.cell? ⟨g, 2, none⟩ = some c := h.cell 2 (by simp)
  unfold loadVar
  simp [go_sem, k0, k1, k2]
/-- a map whose values are held as they are -/
def rdH (v : Value) : Option (DataW Value × List MemPlace) := some (.held v, [])
/-- an end as a value -/
def endP (p : Po) : Value := .agg #[.int .i64 ((p.1 : Nat) : Int), .int .i64 ((p.2 : Nat) : Int)]
/-- block b is a map with ends as keys that reads as U; it has at most m entries -/
def MpE (w : World) (b : Nat) (U : Int → Int → Po) (m : Nat) : Prop :=
  ∃ (n : Nat) (D : DataW Value), n ≤ m ∧ w.ownsMap Try.prog 60 rdH b n D ∧ Maps.IsMap D ∧ ∀ x y, I64 x → I64 y → D.atKey (kl x y) (.held (endP (0, 0))) = .held (endP (U x y))
def setUE (U : Int → Int → Po) (x y : Int) (v : Po) : Int → Int → Po := fun a b => if a = x ∧ b = y then v else U a b
theorem setUE_at (U : Int → Int → Po) (x y : Int) (v : Po) : setUE U x y v x y = v := by unfold setUE; rw [if_pos ⟨rfl, rfl⟩]
theorem setUE_ne {U : Int → Int → Po} {x y a b : Int} {v : Po} (h : ¬ (a = x ∧ b = y)) : setUE U x y v a b = U a b := by unfold setUE; rw [if_neg h]
section
variable {w w' : World} {b m : Nat} {U : Int → Int → Po}
theorem MpE.new (w : World) : MpE (w.alloc (.map #[] 0)) w.heap.size (fun _ _ => (0, 0)) 0 :=
  ⟨0, .map [], Nat.le_refl _, World.ownsMap_made _ _ _ _, Maps.isMap_empty, fun x y _ _ => rfl⟩
theorem MpE.lt (h : MpE w b U m) : b < w.heap.size := let ⟨_, _, _, h, _⟩ := h; h.lt
theorem MpE.mono (h : MpE w b U m) {m' : Nat} (hm : m ≤ m') : MpE w b U m' := let ⟨n, D, h1, h2⟩ := h; ⟨n, D, by omega, h2⟩
theorem MpE.kept {row : Option Nat} (h : MpE w b U m) (hg : w.grownBy w' row) (hr : some b ≠ row) : MpE w' b U m := let ⟨n, D, h1, h2, h3⟩ := h; ⟨n, D, h1, h2.kept hg hr, h3⟩
theorem MpE.far {row : Option Nat} (h : MpE w b U m) (hg : w.grownBy w' row) (hr : ∀ g, row = some g → g ≠ b) : MpE w' b U m := h.kept hg (fun e => hr b e.symm rfl)
theorem MpE.still (h : MpE w b U m) (hg : w.grownBy w' none) : MpE w' b U m := h.kept hg (by simp)
theorem MpE.look (h : MpE w b U m) {x y : Int} (hx : I64 x) (hy : I64 y) : (Instr.lookup 84 (.map (some b)) (.agg #[.int .i64 x, .int .i64 y]) false).run Try.prog w = .ok (endP (U x y)) w := by
  obtain ⟨n, D, _, h2, h3, h4⟩ := h
  obtain ⟨v, ps, hrun, hv⟩ := h2.lookup (R := rdH) Try.keyedE Try.underlying84 (show (zeroValue 60).run Try.prog w = .ok (endP (0, 0)) w by kernel_rfl) rfl (keyE hx hy)
  rw [h4 x y hx hy] at hv
  have hv1 : some ((DataW.held v : DataW Value), ([] : List MemPlace)) = some (DataW.held (endP (U x y)), ps) := hv
  have hv2 := Option.some.inj hv1
  have this : v = endP (U x y) := DataW.held.inj (Prod.mk.inj hv2).1
  rw [hrun, this]
theorem MpE.put (h : MpE w b U m) (hm : m < 1099511627776) {x y : Int} (hx : I64 x) (hy : I64 y) (v : Po) :
    ∃ w', (Instr.mapUpdate 84 (.map (some b)) (.agg #[.int .i64 x, .int .i64 y]) (endP v)).run Try.prog w = .ok () w' ∧ w.grownBy w' (some b) ∧ MpE w' b (setUE U x y v) (m + 1) := by
  obtain ⟨n, D, h1, h2, h3, h4⟩ := h
  obtain ⟨w', hU, hown, hg⟩ := h2.update (R := rdH) Try.keyedE Try.underlying84 (show n < maxLen by unfold maxLen; omega) (keyE hx hy) (show rdH (endP v) = some (.held (endP v), []) from rfl)
  refine ⟨w', hU, hg, n + 1, D.put (kl x y) (.held (endP v)), by omega, hown, h3.put _ _, fun a c ha hc => ?_⟩
  by_cases e : a = x ∧ c = y
  · obtain ⟨rfl, rfl⟩ := e
    rw [Maps.atKey_put_same h3 (by trivial), setUE_at]
  · rw [Maps.atKey_put_other (fun e2 => e (kl_inj ha hc hx hy e2)), h4 a c ha hc, setUE_ne e]
end

/-- no two own one block -/
def Ap (u v : Value) : Prop := ∀ g, u.ownBlock = some g → v.ownBlock ≠ some g
theorem Ap.symm {u v : Value} (h : Ap u v) : Ap v u := fun g h1 h2 => h g h2 h1
theorem Ap.nil (v : Value) : Ap (.slice none 0 0) v := fun g h => by cases h
theorem Ap.keeps {u v : Value} (h : Ap u v) : u.ownBlock = none ∨ u.ownBlock ≠ v.ownBlock := by
  cases hu : u.ownBlock with
  | none => exact .inl rfl
  | some g => right; exact fun e => h g hu e.symm
theorem Ap.new {u v v' : Value} {n : Nat} (h : Ap u v) (hu : ∀ g, u.ownBlock = some g → g < n) (hv : v'.ownBlock = v.ownBlock ∨ ∃ g, v'.ownBlock = some g ∧ n ≤ g) : Ap u v' := fun g h1 h2 => by
  rcases hv with e | ⟨g', e, hg⟩
  · exact h g h1 (by rw [← e]; exact h2)
  · rw [e] at h2; injection h2 with h2; have := hu g h1; omega
theorem OwnE.weak {w : World} {base base' : Nat} {e : TypeId} {v : Value} {l : List Po} (h : OwnE w base e v l) (hb : base' ≤ base) : OwnE w base' e v l := by
  obtain ⟨h1, h2⟩ := h
  refine ⟨h1, ?_⟩
  rcases h2 with h2 | ⟨g, cap, cur, e1, hg, hh, hn, hm, hs, ht⟩
  · exact .inl h2
  · exact .inr ⟨g, cap, cur, e1, Nat.le_trans hb hg, hh, hn, hm, hs, ht⟩
theorem own_appP {w : World} {base : Nat} {e : TypeId} {v : Value} {ps : List Int} {z : Int} (h : w.ownsRow base e 1 v (ps.length + 1) (ps.map (Value.int .i64) ++ [.int .i64 z])) : OwnI w base e v (ps ++ [z]) := by
  unfold OwnI Own
  rw [List.map_append]
  simpa using h
theorem netIds {w : World} {lo hi : Nat} {v1 v2 v3 : Value} {N : NetD} (h : Net w lo hi (.agg #[v1, v2, v3]) N) : IntS w lo hi v2 N.ids := by
  obtain ⟨a, b, c, e, _, h1, _⟩ := h
  simp only [Value.agg.injEq, Array.mk.injEq, List.cons.injEq, and_true] at e
  obtain ⟨rfl, rfl, rfl⟩ := e
  exact h1
theorem netIns {w : World} {lo hi : Nat} {v1 v2 v3 : Value} {N : NetD} (h : Net w lo hi (.agg #[v1, v2, v3]) N) : IntS w lo hi v3 N.inputs := by
  obtain ⟨a, b, c, e, _, _, h1⟩ := h
  simp only [Value.agg.injEq, Array.mk.injEq, List.cons.injEq, and_true] at e
  obtain ⟨rfl, rfl, rfl⟩ := e
  exact h1
/-- three slices that a call owns: rows of ends, and two rows of numbers -/
structure GN (w : World) (base : Nat) (vE vD vI : Value) (rows : List (List Po)) (ids ins : List Int) : Prop where
  intro ::
  all : ∃ us : List Value, us.length = rows.length ∧ Own w base 61 vE us ∧ OwnI w base 3 vD ids ∧ OwnI w base 3 vI ins ∧
    (∀ j, j < rows.length → ∃ u, us[j]? = some u ∧ OwnE w base 60 u (nthL rows j) ∧ Ap u vE ∧ Ap u vD ∧ Ap u vI) ∧ Ap vE vD ∧ Ap vE vI ∧ Ap vD vI
section
variable {w w' : World} {base : Nat} {vE vD vI : Value} {rows : List (List Po)} {ids ins : List Int}
theorem GN.nil (w : World) (base : Nat) : GN w base (.slice none 0 0) (.slice none 0 0) (.slice none 0 0) [] [] [] :=
  ⟨[], rfl, Own.nil _ _ _, OwnI.nil _ _ _, OwnI.nil _ _ _, fun j hj => absurd hj (by simp), Ap.nil _, Ap.nil _, Ap.nil _⟩
theorem GN.ltE (h : GN w base vE vD vI rows ids ins) : ∀ g, vE.ownBlock = some g → base ≤ g ∧ g < w.heap.size := let ⟨_, _, h, _⟩ := h.all; h.lt
theorem GN.ltD (h : GN w base vE vD vI rows ids ins) : ∀ g, vD.ownBlock = some g → base ≤ g ∧ g < w.heap.size := let ⟨_, _, _, h, _⟩ := h.all; h.lt
theorem GN.ltI (h : GN w base vE vD vI rows ids ins) : ∀ g, vI.ownBlock = some g → base ≤ g ∧ g < w.heap.size := let ⟨_, _, _, _, h, _⟩ := h.all; h.lt
theorem GN.idsO (h : GN w base vE vD vI rows ids ins) : OwnI w base 3 vD ids := let ⟨_, _, _, h, _⟩ := h.all; h
theorem GN.insO (h : GN w base vE vD vI rows ids ins) : OwnI w base 3 vI ins := let ⟨_, _, _, _, h, _⟩ := h.all; h
theorem GN.lenE (h : GN w base vE vD vI rows ids ins) : ∃ A c, vE = .slice A rows.length c ∧ rows.length ≤ c ∧ c ≤ maxLen := by
  obtain ⟨us, h1, h2, _⟩ := h.all
  obtain ⟨A, c, e, a1, a2, _⟩ := h2.form
  exact ⟨A, c, by rw [e, h1], by omega, a2⟩
/-- writes elsewhere -/
theorem GN.keptB {row : Option Nat} (h : GN w base vE vD vI rows ids ins) (hg : w.grownBy w' row) (hr : ∀ g, row = some g → g < base) : GN w' base vE vD vI rows ids ins := by
  obtain ⟨us, h1, h2, h3, h4, h5, h6⟩ := h.all
  have hk : ∀ v : Value, (∀ g, v.ownBlock = some g → base ≤ g ∧ g < w.heap.size) → v.ownBlock = none ∨ v.ownBlock ≠ row := fun v hv => by
    cases e : v.ownBlock with
    | none => exact .inl rfl
    | some g => right; intro e2; have := hr g e2.symm; have := (hv g e).1; omega
  refine ⟨us, h1, h2.kept hg (hk _ h2.lt), OwnI.kept h3 hg (hk _ h3.lt), OwnI.kept h4 hg (hk _ h4.lt), fun j hj => ?_, h6⟩
  obtain ⟨u, a1, a2, a3⟩ := h5 j hj
  exact ⟨u, a1, a2.kept hg (hk _ a2.lt), a3⟩
theorem GN.still (h : GN w base vE vD vI rows ids ins) (hg : w.grownBy w' none) : GN w' base vE vD vI rows ids ins := h.keptB hg (fun g e => by cases e)
/-- numbers behind the third -/
theorem GN.addI (h : GN w base vE vD vI rows ids ins) {vI' : Value} {x : Int} (hg : w.grownBy w' vI.ownBlock) (ho : OwnI w' base 3 vI' (ins ++ [x])) (hv : vI'.ownBlock = vI.ownBlock ∨ ∃ g, vI'.ownBlock = some g ∧ w.heap.size ≤ g) : GN w' base vE vD vI' rows ids (ins ++ [x]) := by
  obtain ⟨us, h1, h2, h3, h4, h5, h6, h7, h8⟩ := h.all
  refine ⟨us, h1, h2.kept hg h7.keeps, OwnI.kept h3 hg h8.keeps, ho, fun j hj => ?_, h6, h7.new (fun g e => (h2.lt g e).2) hv, h8.new (fun g e => (h3.lt g e).2) hv⟩
  obtain ⟨u, a1, a2, a3, a4, a5⟩ := h5 j hj
  exact ⟨u, a1, a2.kept hg a5.keeps, a3, a4, a5.new (fun g e => (a2.lt g e).2) hv⟩
/-- numbers behind the second -/
theorem GN.addD (h : GN w base vE vD vI rows ids ins) {vD' : Value} {x : Int} (hg : w.grownBy w' vD.ownBlock) (ho : OwnI w' base 3 vD' (ids ++ [x])) (hv : vD'.ownBlock = vD.ownBlock ∨ ∃ g, vD'.ownBlock = some g ∧ w.heap.size ≤ g) : GN w' base vE vD' vI rows (ids ++ [x]) ins := by
  obtain ⟨us, h1, h2, h3, h4, h5, h6, h7, h8⟩ := h.all
  refine ⟨us, h1, h2.kept hg h6.keeps, ho, OwnI.kept h4 hg h8.symm.keeps, fun j hj => ?_, h6.new (fun g e => (h2.lt g e).2) hv, h7, ((h8.symm).new (fun g e => (h4.lt g e).2) hv).symm⟩
  obtain ⟨u, a1, a2, a3, a4, a5⟩ := h5 j hj
  exact ⟨u, a1, a2.kept hg a4.keeps, a3, a4.new (fun g e => (a2.lt g e).2) hv, a5⟩
/-- what it reads as -/
theorem GN.net (h : GN w base vE vD vI rows ids ins) : Net w base w.heap.size (.agg #[vE, vD, vI]) ⟨rows.map castL, ids, ins⟩ := by
  obtain ⟨us, h1, h2, h3, h4, h5, _⟩ := h.all
  refine ⟨vE, vD, vI, rfl, ⟨fun j => us.getD j undef, ?_, fun j hj => ?_⟩, h3.ints, h4.ints⟩
  · have := Sl.of_own (f := fun j => us.getD j undef) h2 (fun j hj => by simp at hj; simp [hj])
    show Sl w base w.heap.size 1 vE (rows.map castL).length _
    rw [List.length_map, ← h1]
    exact this
  · simp only [List.length_map] at hj
    obtain ⟨u, a1, a2, _⟩ := h5 j hj
    have e : us.getD j undef = u := by simp [a1]
    show EndS w base w.heap.size (us.getD j undef) _
    rw [e]
    have := a2.ends
    have e2 : nthL (rows.map castL) j = castL (nthL rows j) := by simp [nthL, hj]
    show EndS w base w.heap.size u (nthL (rows.map castL) j)
    rw [e2]; exact this
end

/-- append of one row of ends onto the first, the row's slice just laid in a block of its own -/
theorem append_gn {P : Program} {ops : Array Oper} {rest : List Oper} {o : Oper} {a : Act} {Q : Exit → Act → World → Prop} {t : TypeId} {bytes : Nat}
    (ht : P.underlying t = some (.slice 61)) (hinfo : (P.info? 61).map (fun i => (i.zero, i.size, i.bytes)) = some (some (.slice none 0 0), 1, bytes)) (hby : bytes ≤ 64)
    (w : World) (hgd : o.guard = none) {s : Operand} (x : Operand) (ho : o.op = .call { callee := .builtin .append, args := #[s, x], argTypes := #[t, t] })
    {base : Nat} {vE vD vI : Value} {rows : List (List Po)} {ids ins : List Int} (hown : GN w base vE vD vI rows ids ins) {u : Value} {l : List Po} (hu : OwnE w base 60 u l) (hE : Ap u vE) (hD : Ap u vD) (hI : Ap u vI)
    (te : TypeId) (hs : a.eval s = vE) (hx : a.eval x = .slice (some ⟨w.heap.size, 0, none⟩) 1 1) (hlen : rows.length < 1099511627776) (hbase : base ≤ w.heap.size)
    (h : ∀ v' w', GN w' base v' vD vI (rows ++ [l]) ids ins → w.grownBy w' vE.ownBlock → wpList P ops Q rest (a.put o.dst v') w') :
    wpList P ops Q (o :: rest) a (w.alloc (.cells #[u] te)) := by
  obtain ⟨us, h1, h2, h3, h4, h5, h6, h7, h8⟩ := hown.all
  obtain ⟨A, c, hf, _⟩ := hu.len
  refine append1 ht hinfo rfl hby w hgd x ho h2 _ te hs hx (by rw [hf]; rfl) (by omega) hbase fun v' w' ho' hg' hat' => h v' w' ?_ hg'
  have hat2 : v'.ownBlock = vE.ownBlock ∨ ∃ g, v'.ownBlock = some g ∧ w.heap.size ≤ g := hat'.imp id fun e => ⟨_, e, by omega⟩
  refine ⟨us ++ [u], by simp [h1], ho', OwnI.kept h3 hg' h6.symm.keeps, OwnI.kept h4 hg' h7.symm.keeps, fun j hj => ?_, ((h6.symm).new (fun g e => (h3.lt g e).2) hat2).symm, ((h7.symm).new (fun g e => (h4.lt g e).2) hat2).symm, h8⟩
  by_cases e1 : j < rows.length
  · obtain ⟨u', a1, a2, a3, a4, a5⟩ := h5 j e1
    rw [nthL_append_left e1]
    exact ⟨u', by rw [List.getElem?_append_left (by omega)]; exact a1, a2.kept hg' a3.keeps, a3.new (fun g e => (a2.lt g e).2) hat2, a4, a5⟩
  · obtain rfl : j = rows.length := by simp at hj; omega
    rw [nthL_append_at]
    exact ⟨u, by rw [← h1]; simp, hu.kept hg' hE.keeps, hE.new (fun g e => (hu.lt g e).2) hat2, hD, hI⟩

theorem good_insl {N : NetD} (hg : N.good = true) : N.inputs.length = N.ends.length := by
  unfold NetD.good NetD.headOk at hg
  simp only [Bool.and_eq_true] at hg
  have hi := hg.1.2.2
  unfold insGood at hi
  simp only [Bool.and_eq_true, decide_eq_true_eq] at hi
  omega
theorem good_idsl {N : NetD} (hg : N.good = true) : N.ids.length = 0 ∨ N.ids.length = N.ends.length := by
  unfold NetD.good NetD.headOk at hg
  simp only [Bool.and_eq_true] at hg
  have hi := hg.1.2.1
  unfold idsGood at hi
  simp only [Bool.and_eq_true, Bool.or_eq_true, decide_eq_true_eq] at hi
  omega
/-! plain: what the network of kept ports is -/
def cntK (kp : Nat → Nat → Bool) (v m : Nat) : Nat := ((List.range m).filter (kp v)).length
theorem cntK_succ (kp : Nat → Nat → Bool) (v m : Nat) : cntK kp v (m + 1) = cntK kp v m + if kp v m = true then 1 else 0 := by
  unfold cntK
  rw [List.range_succ, List.filter_append, List.length_append]
  by_cases h : kp v m = true
  · rw [if_pos h]; simp [h]
  · rw [if_neg h]; simp [h]
theorem cntK_le (kp : Nat → Nat → Bool) (v m : Nat) : cntK kp v m ≤ m := by
  unfold cntK; exact Nat.le_trans (List.length_filter_le _ _) (by simp)
/-- the places of the kept ports of the node with index k, up to port m -/
def rowU (kp : Nat → Nat → Bool) (U : Int → Int → Po) (v k : Nat) : Nat → Int → Int → Po
  | 0 => U
  | m + 1 => if kp v m = true then setUE (rowU kp U v k m) v m (k, cntK kp v m) else rowU kp U v k m
def allU (N : NetD) (kp : Nat → Nat → Bool) (zs : List Int) : Nat → Int → Int → Po
  | 0 => fun _ _ => (0, 0)
  | k + 1 => rowU kp (allU N kp zs k) (nth zs k).toNat k (nthL N.ends (nth zs k).toNat).length
def partRow (N : NetD) (kp : Nat → Nat → Bool) (U : Int → Int → Po) (v m : Nat) : List Po := ((List.range m).filter (kp v)).map fun i => U (nthE (nthL N.ends v) i).1 (nthE (nthL N.ends v) i).2
theorem partRow_len (N : NetD) (kp : Nat → Nat → Bool) (U : Int → Int → Po) (v m : Nat) : (partRow N kp U v m).length = cntK kp v m := by simp [partRow, cntK]
theorem partRow_yes {N : NetD} {kp : Nat → Nat → Bool} {U : Int → Int → Po} {v m : Nat} (h : kp v m = true) : partRow N kp U v (m + 1) = partRow N kp U v m ++ [U (nthE (nthL N.ends v) m).1 (nthE (nthL N.ends v) m).2] := by simp [partRow, List.range_succ, h]
theorem partRow_no {N : NetD} {kp : Nat → Nat → Bool} {U : Int → Int → Po} {v m : Nat} (h : kp v m = false) : partRow N kp U v (m + 1) = partRow N kp U v m := by simp [partRow, List.range_succ, h]
def partRows (N : NetD) (kp : Nat → Nat → Bool) (U : Int → Int → Po) (zs : List Int) : List (List Po) := zs.map fun z => partRow N kp U z.toNat (nthL N.ends z.toNat).length
def pickL (l zs : List Int) : List Int := zs.map fun z => nth l z.toNat
def partN (N : NetD) (zs : List Int) (kp : Nat → Nat → Bool) : NetD :=
  ⟨(partRows N kp (allU N kp zs zs.length) zs).map castL, if 0 < N.ids.length then pickL N.ids zs else [], pickL N.inputs zs⟩
theorem partRows_take {N : NetD} {kp : Nat → Nat → Bool} {U : Int → Int → Po} {zs : List Int} {k : Nat} (h : k < zs.length) : partRows N kp U (zs.take (k + 1)) = partRows N kp U (zs.take k) ++ [partRow N kp U (nth zs k).toNat (nthL N.ends (nth zs k).toNat).length] := by
  unfold partRows; rw [List.take_succ_eq_append_getElem h, List.map_append, nth_eq h]; rfl
theorem pickL_take {l zs : List Int} {k : Nat} (h : k < zs.length) : pickL l (zs.take (k + 1)) = pickL l (zs.take k) ++ [nth l (nth zs k).toNat] := by
  unfold pickL; rw [List.take_succ_eq_append_getElem h, List.map_append, nth_eq h]; rfl
theorem partRows_len (N : NetD) (kp : Nat → Nat → Bool) (U : Int → Int → Po) (zs : List Int) : (partRows N kp U zs).length = zs.length := by simp [partRows]
theorem pickL_len (l zs : List Int) : (pickL l zs).length = zs.length := by simp [pickL]

end Go.Proofs.Ytcmmklcampmkjaa

/- Plain: the network of kept ports is a network; its ends are those of the network, with other numbers. No condition on any program. -/
namespace Go.Proofs.Ytcmmklcampmkjaa
set_option linter.unusedVariables false

theorem cntK_mono (kp : Nat → Nat → Bool) (v : Nat) {m k : Nat} (h : m ≤ k) : cntK kp v m ≤ cntK kp v k := by
  induction k with
  | zero => rw [Nat.le_zero.1 h]; exact Nat.le_refl _
  | succ k ih =>
    rcases Nat.lt_or_eq_of_le h with h1 | rfl
    · have := ih (by omega); rw [cntK_succ]; omega
    · exact Nat.le_refl _
theorem cntK_lt (kp : Nat → Nat → Bool) (v : Nat) {m k : Nat} (h : m < k) (hk : kp v m = true) : cntK kp v m < cntK kp v k := by
  have h1 := cntK_succ kp v m
  rw [if_pos hk] at h1
  have := cntK_mono kp v (show m + 1 ≤ k by omega)
  omega
theorem cntK_inj {kp : Nat → Nat → Bool} {v i j : Nat} (hi : kp v i = true) (hj : kp v j = true) (h : cntK kp v i = cntK kp v j) : i = j := by
  rcases Nat.lt_trichotomy i j with e | e | e
  · have := cntK_lt kp v e hi; omega
  · exact e
  · have := cntK_lt kp v e hj; omega
/-- each new port is a port -/
theorem cntK_port (kp : Nat → Nat → Bool) (v : Nat) : ∀ (d c : Nat), c < cntK kp v d → ∃ i, i < d ∧ kp v i = true ∧ cntK kp v i = c
  | 0, c, h => by simp [cntK] at h
  | d + 1, c, h => by
    rw [cntK_succ] at h
    by_cases hd : kp v d = true
    · rw [if_pos hd] at h
      by_cases hc : c < cntK kp v d
      · obtain ⟨i, h1, h2⟩ := cntK_port kp v d c hc; exact ⟨i, by omega, h2⟩
      · exact ⟨d, by omega, hd, by omega⟩
    · rw [if_neg hd] at h
      obtain ⟨i, h1, h2⟩ := cntK_port kp v d c (by omega); exact ⟨i, by omega, h2⟩
theorem rowU_other (kp : Nat → Nat → Bool) (U : Int → Int → Po) {v k : Nat} {x y : Int} (hx : x ≠ (v : Int)) : ∀ m, rowU kp U v k m x y = U x y
  | 0 => rfl
  | m + 1 => by
    simp only [rowU]
    split
    · rw [setUE_ne (fun e => hx e.1)]; exact rowU_other kp U hx m
    · exact rowU_other kp U hx m
theorem rowU_at (kp : Nat → Nat → Bool) (U : Int → Int → Po) (v k : Nat) {i : Nat} (hi : kp v i = true) : ∀ m, i < m → rowU kp U v k m v i = (k, cntK kp v i)
  | 0, h => absurd h (by omega)
  | m + 1, h => by
    simp only [rowU]
    by_cases e : m = i
    · rw [e, if_pos hi, setUE_at]
    · have ih := rowU_at kp U v k hi m (by omega)
      split
      · rw [setUE_ne (fun e2 => e (by omega))]; exact ih
      · exact ih
/-- the elements are nodes, each once -/
structure PickOk (N : NetD) (zs : List Int) : Prop where
  node : ∀ k, k < zs.length → ∃ t : Nat, nth zs k = t ∧ t < N.ends.length
  once : ∀ a b, a < zs.length → b < zs.length → nth zs a = nth zs b → a = b
/-- kept ports come in pairs, and lead to picked nodes -/
structure KeepOk (N : NetD) (zs : List Int) (kp : Nat → Nat → Bool) : Prop where
  pair : ∀ k v i w j : Nat, k < zs.length → nth zs k = (v : Int) → i < (nthL N.ends v).length → kp v i = true → nthE (nthL N.ends v) i = ((w : Int), (j : Int)) → kp w j = true ∧ ∃ q, q < zs.length ∧ nth zs q = (w : Int)
section
variable {N : NetD} {kp : Nat → Nat → Bool} {zs : List Int}
theorem part_place (hz : PickOk N zs) {k v i : Nat} (hv : nth zs k = (v : Int)) (hi : i < (nthL N.ends v).length) (hk : kp v i = true) : ∀ K, K ≤ zs.length → k < K → allU N kp zs K v i = (k, cntK kp v i)
  | 0, _, h => absurd h (by omega)
  | K + 1, h1, h2 => by
    show rowU kp (allU N kp zs K) (nth zs K).toNat K (nthL N.ends (nth zs K).toNat).length v i = _
    by_cases e : K = k
    · rw [e, hv, Int.toNat_natCast]; exact rowU_at kp _ v k hk _ hi
    · obtain ⟨t, et, _⟩ := hz.node K (by omega)
      have e2 : (v : Int) ≠ ((nth zs K).toNat : Nat) := fun h => e (hz.once K k (by omega) (by omega) (by rw [hv, et]; rw [et] at h; omega))
      rw [rowU_other kp _ e2]; exact part_place hz hv hi hk K (by omega) (by omega)
theorem partRow_pre (N : NetD) (kp : Nat → Nat → Bool) (U : Int → Int → Po) (v m : Nat) : ∀ d, m ≤ d → partRow N kp U v m <+: partRow N kp U v d
  | 0, h => by rw [Nat.le_zero.1 h]; exact List.prefix_refl _
  | d + 1, h => by
    rcases Nat.lt_or_eq_of_le h with h1 | rfl
    · have ih := partRow_pre N kp U v m d (by omega)
      cases hk : kp v d with
      | true => rw [partRow_yes hk]; exact ih.trans (List.prefix_append _ _)
      | false => rw [partRow_no hk]; exact ih
    · exact List.prefix_refl _
theorem partRow_get {U : Int → Int → Po} {v i d : Nat} (hi : i < d) (hk : kp v i = true) : nthP (partRow N kp U v d) (cntK kp v i) = U (nthE (nthL N.ends v) i).1 (nthE (nthL N.ends v) i).2 := by
  obtain ⟨r, hr⟩ := partRow_pre N kp U v (i + 1) d (by omega)
  rw [← hr, partRow_yes hk]
  have hl := partRow_len N kp U v i
  unfold nthP
  rw [List.append_assoc, List.getD_eq_getElem?_getD, List.getElem?_append_right (by omega), hl]
  simp
theorem part_n (N : NetD) (zs : List Int) (kp : Nat → Nat → Bool) : (partN N zs kp).ends.length = zs.length := by simp [partN, partRows]
theorem part_row {k v : Nat} (hk : k < zs.length) (hv : nth zs k = (v : Int)) : nthL (partN N zs kp).ends k = castL (partRow N kp (allU N kp zs zs.length) v (nthL N.ends v).length) := by
  have hv' : zs[k] = (v : Int) := by rw [← nth_eq hk]; exact hv
  have e : (partN N zs kp).ends = zs.map fun z => castL (partRow N kp (allU N kp zs zs.length) z.toNat (nthL N.ends z.toNat).length) := by
    unfold partN partRows
    rw [List.map_map]; rfl
  rw [e]
  unfold nthL
  rw [List.getD_eq_getElem?_getD, List.getElem?_map, List.getElem?_eq_getElem hk, hv']
  simp
theorem part_deg {k v : Nat} (hk : k < zs.length) (hv : nth zs k = (v : Int)) : (nthL (partN N zs kp).ends k).length = cntK kp v (nthL N.ends v).length := by rw [part_row hk hv, castL_length, partRow_len]
theorem part_end (hz : PickOk N zs) (hK : KeepOk N zs kp) (hg : N.good = true) {k v i w j q : Nat} (hk : k < zs.length) (hv : nth zs k = (v : Int)) (hi : i < (nthL N.ends v).length) (hkp : kp v i = true) (he : nthE (nthL N.ends v) i = ((w : Int), (j : Int))) (hq : q < zs.length) (hw : nth zs q = (w : Int)) :
    nthE (nthL (partN N zs kp).ends k) (cntK kp v i) = ((q : Int), (cntK kp w j : Int)) := by
  obtain ⟨t, et, ht⟩ := hz.node k hk
  have hvn : v < N.ends.length := by rw [hv] at et; omega
  obtain ⟨w', j', e1, h1, h2, h3⟩ := good_end hg hvn hi
  rw [he] at e1
  simp only [Prod.mk.injEq] at e1
  have ew : w = w' := by omega
  have ej : j = j' := by omega
  subst ew ej
  rw [part_row hk hv, nthE_castL (by rw [partRow_len]; exact cntK_lt kp v hi hkp), partRow_get hi hkp, he]
  rw [part_place hz hw h2 (hK.pair k v i w j hk hv hi hkp he).1 zs.length (Nat.le_refl _) hq]
theorem nth_pickL {l : List Int} {k : Nat} (hk : k < zs.length) : nth (pickL l zs) k = nth l (nth zs k).toNat := by
  rw [nth_eq (by rw [pickL_len]; exact hk)]
  unfold pickL
  rw [List.getElem_map, ← nth_eq hk]
theorem ids_inj {ids : List Int} {n : Int} (h : idsGood ids n = true) {a b : Nat} (ha : a < ids.length) (hb : b < ids.length) (e : nth ids a = nth ids b) : a = b := by
  unfold idsGood at h
  rw [Bool.and_eq_true] at h
  have key : ∀ x y : Nat, x < y → y < ids.length → nth ids x ≠ nth ids y := fun x y hxy hy e => by
    have := rangeAll_at h.1 hy
    unfold idAt at this
    rw [Bool.and_eq_true, Bool.not_eq_true', decide_eq_false_iff_not] at this
    apply this.2
    rw [← e, nth_eq (show x < ids.length by omega)]
    exact List.mem_iff_getElem.2 ⟨x, by rw [List.length_take]; omega, by rw [List.getElem_take]⟩
  rcases Nat.lt_trichotomy a b with h1 | h1 | h1
  · exact absurd e (key a b h1 hb)
  · exact h1
  · exact absurd e.symm (key b a h1 ha)
/-- THE NETWORK OF KEPT PORTS IS A NETWORK -/
theorem part_good (hg : N.good = true) (hz : PickOk N zs) (hK : KeepOk N zs kp) (h1 : 1 ≤ zs.length) (h40 : zs.length ≤ 40) : (partN N zs kp).good = true := by
  have hhead : (partN N zs kp).headOk = true := by
    have hgh := hg
    unfold NetD.good NetD.headOk at hgh
    simp only [Bool.and_eq_true] at hgh
    obtain ⟨⟨_, hids, hins⟩, _⟩ := hgh
    unfold NetD.headOk
    rw [part_n]
    simp only [Bool.and_eq_true]
    refine ⟨by unfold inB; simp; omega, ?_, ?_⟩
    · show idsGood (if 0 < N.ids.length then pickL N.ids zs else []) _ = true
      split
      · rename_i h0
        have hidl : N.ids.length = N.ends.length := by rcases good_idsl hg with h | h <;> omega
        rw [idsGood_ok]
        · rw [pickL_len]; simp
        · intro k hk
          rw [pickL_len] at hk
          obtain ⟨t, et, ht⟩ := hz.node k hk
          unfold idAt
          rw [nth_pickL hk, et, Int.toNat_natCast, Bool.and_eq_true]
          have hat : idAt N.ids t = true := by
            unfold idsGood at hids
            rw [Bool.and_eq_true] at hids
            exact rangeAll_at hids.1 (by omega)
          unfold idAt at hat
          rw [Bool.and_eq_true] at hat
          refine ⟨hat.1, ?_⟩
          rw [Bool.not_eq_true', decide_eq_false_iff_not]
          intro hm
          obtain ⟨a, ha, e⟩ := List.mem_iff_getElem.1 hm
          rw [List.length_take, pickL_len] at ha
          rw [List.getElem_take, ← nth_eq (by rw [pickL_len]; omega), nth_pickL (by omega)] at e
          obtain ⟨s, es, hs⟩ := hz.node a (by omega)
          rw [es, Int.toNat_natCast] at e
          have := ids_inj hids (by omega) (by omega) e
          have := hz.once a k (by omega) hk (by rw [es, et, this])
          omega
      · rw [idsGood_ok (fun j hj => absurd hj (by simp))]; simp
    · show insGood (pickL N.inputs zs) _ = true
      unfold insGood at hins ⊢
      rw [pickL_len]
      simp only [Bool.and_eq_true, decide_eq_true_eq, List.all_eq_true] at hins ⊢
      refine ⟨trivial, fun x hx => ?_⟩
      unfold pickL at hx
      obtain ⟨z, hzm, rfl⟩ := List.mem_map.1 hx
      obtain ⟨a, ha, e⟩ := List.mem_iff_getElem.1 hzm
      obtain ⟨t, et, ht⟩ := hz.node a ha
      rw [nth_eq ha, e] at et
      rw [et, Int.toNat_natCast]
      exact hins.2 _ (nth_mem (by have := good_insl hg; omega))
  refine good_yes hhead fun k hk => ?_
  rw [part_n] at hk
  obtain ⟨v, hv, hvn⟩ := hz.node k hk
  have hd6 := good_deg hg hvn
  have hle := cntK_le kp v (nthL N.ends v).length
  refine row_yes (by rw [part_deg hk hv]; omega) fun c hc => ?_
  rw [part_deg hk hv] at hc
  obtain ⟨i, hi, hkp, rfl⟩ := cntK_port kp v _ c hc
  obtain ⟨w, j, he, hw, hj, hback⟩ := good_end hg hvn hi
  obtain ⟨hkw, q, hq, hqw⟩ := hK.pair k v i w j hk hv hi hkp he
  unfold NetD.endOk NetD.port
  rw [part_end hz hK hg hk hv hi hkp he hq hqw]
  have hb := part_end hz hK hg hq hqw hj hkw hback hk hv
  have hlt := cntK_lt kp w hj hkw
  simp only [Int.toNat_natCast, Bool.and_eq_true, decide_eq_true_eq]
  rw [part_n, part_deg hq hqw]
  refine ⟨⟨?_, ?_⟩, hb⟩
  · unfold inB; simp; omega
  · unfold inB; simp; omega
end
end Go.Proofs.Ytcmmklcampmkjaa

/- Plain: numbers from a on, written at the places that a list names. No condition on any program. -/
namespace Go.Proofs.Ytcmmklcampmkjaa
set_option linter.unusedVariables false

/-- numbers from a on, written at the places that a list names -/
def numL : List Int → Nat → List Int → List Int
  | o, _, [] => o
  | o, a, x :: l => numL (o.set x.toNat (a : Nat)) (a + 1) l
theorem numL_length : ∀ (l o : List Int) (a : Nat), (numL o a l).length = o.length
  | [], o, a => rfl
  | x :: l, o, a => by simp only [numL]; rw [numL_length l]; simp
theorem numL_snoc (x : Int) : ∀ (l o : List Int) (a : Nat), numL o a (l ++ [x]) = (numL o a l).set x.toNat ((a + l.length : Nat) : Int)
  | [], o, a => by simp [numL]
  | y :: l, o, a => by
    show numL (o.set y.toNat (a : Nat)) (a + 1) (l ++ [x]) = (numL (o.set y.toNat (a : Nat)) (a + 1) l).set _ _
    rw [numL_snoc x l, List.length_cons, show a + 1 + l.length = a + (l.length + 1) by omega]
theorem zip_numL : ∀ (l o : List Int) (a : Nat), (l.zipIdx a).foldl (fun o p => o.set p.1.toNat (p.2 : Int)) o = numL o a l
  | [], o, a => rfl
  | x :: l, o, a => by rw [List.zipIdx_cons, List.foldl_cons, zip_numL l]; rfl
theorem numL_i64 {n : Nat} (hn : n ≤ 1000000) : ∀ (l o : List Int) (a : Nat), a + l.length ≤ 1000000 → (∀ z ∈ o, I64 z) → ∀ z ∈ numL o a l, I64 z
  | [], o, a, _, h => h
  | x :: l, o, a, ha, h => numL_i64 hn l _ _ (by simp at ha; omega) fun z hz => by
    rcases List.mem_or_eq_of_mem_set hz with h1 | h1
    · exact h z h1
    · subst h1; simp at ha; unfold I64; omega
theorem numL_other : ∀ (l o : List Int) (a x : Nat), (∀ z ∈ l, z.toNat < o.length ∧ z.toNat ≠ x) → nth (numL o a l) x = nth o x
  | [], o, a, x, _ => rfl
  | y :: l, o, a, x, h => by
    have hy := h y (by simp)
    show nth (numL (o.set y.toNat (a : Nat)) (a + 1) l) x = _
    rw [numL_other l _ _ x (fun z hz => by rw [List.length_set]; exact h z (by simp [hz])), nth_set _ _ _ _ hy.1, if_neg (fun e => hy.2 e.symm)]
theorem numL_at : ∀ (l o : List Int) (a k : Nat), k < l.length → (∀ i j, i < l.length → j < l.length → (nth l i).toNat = (nth l j).toNat → i = j) → (∀ z ∈ l, z.toNat < o.length) → nth (numL o a l) (nth l k).toNat = ((a + k : Nat) : Int)
  | [], o, a, k, hk, _, _ => absurd hk (by simp)
  | y :: l, o, a, 0, _, h1, h2 => by
    show nth (numL (o.set y.toNat (a : Nat)) (a + 1) l) y.toNat = _
    rw [numL_other l _ _ _ (fun z hz => ?_), nth_set _ _ _ _ (h2 y (by simp)), if_pos rfl]; · rfl
    refine ⟨by rw [List.length_set]; exact h2 z (by simp [hz]), fun e => ?_⟩
    obtain ⟨i, hi, ei⟩ := List.mem_iff_getElem.1 hz
    have := h1 (i + 1) 0 (by simpa using hi) (by simp) (by rw [nth_cons_succ, nth_cons_zero, nth_eq hi, ei]; exact e)
    omega
  | y :: l, o, a, k + 1, hk, h1, h2 => by
    show nth (numL (o.set y.toNat (a : Nat)) (a + 1) l) (nth l k).toNat = _
    rw [numL_at l _ (a + 1) k (by simpa using hk) (fun i j hi hj e => by have := h1 (i + 1) (j + 1) (by simpa using hi) (by simpa using hj) e; omega) (fun z hz => by rw [List.length_set]; exact h2 z (by simp [hz]))]
    congr 1; omega
end Go.Proofs.Ytcmmklcampmkjaa

/- A network that a call is writing: its top row at one block, its rows in others, its two rows of numbers apart; plain: what renumbering leaves. No condition on any program. -/
namespace Go.Proofs.Ytcmmklcampmkjaa
open Go.ChangeShapes Go.WideShapes Go.ChangeAt Go.RowKit
set_option linter.unusedVariables false

/-- the ends of a row, each node with another number -/
def mapEnds (p : List Int) (l : List (Int × Int)) : List (Int × Int) := l.map fun e => (nth p e.1.toNat, e.2)
/-- the first k nodes renumbered, into a copy -/
def renTo (N : NetD) (p : List Int) : Nat → NetD
  | 0 => N
  | k + 1 => ⟨(renTo N p k).ends.set (nth p k).toNat (mapEnds p (nthL N.ends k)), if 0 < N.ids.length then (renTo N p k).ids.set (nth p k).toNat (nth N.ids k) else (renTo N p k).ids, (renTo N p k).inputs.set (nth p k).toNat (nth N.inputs k)⟩
def renN (N : NetD) (p : List Int) : NetD := renTo N p N.ends.length
theorem renTo_len (N : NetD) (p : List Int) : ∀ k, (renTo N p k).ends.length = N.ends.length ∧ (renTo N p k).ids.length = N.ids.length ∧ (renTo N p k).inputs.length = N.inputs.length
  | 0 => ⟨rfl, rfl, rfl⟩
  | k + 1 => by
    obtain ⟨h1, h2, h3⟩ := renTo_len N p k
    refine ⟨?_, ?_, ?_⟩
    · show (List.set _ _ _).length = _; rw [List.length_set, h1]
    · show (if 0 < N.ids.length then _ else _ : List Int).length = _
      split
      · rw [List.length_set, h2]
      · exact h2
    · show (List.set _ _ _).length = _; rw [List.length_set, h3]
theorem mapEnds_len (p : List Int) (l : List (Int × Int)) : (mapEnds p l).length = l.length := by simp [mapEnds]

/-- out is being written: its top row lies at block g, ids in [d1, d2), inputs in [d2, i2), rows from i2 on and not at g -/
structure RN (w : World) (base d1 d2 i2 g : Nat) (vE vD vI : Value) (N : NetD) : Prop where
  o1 : base ≤ d1
  o2 : d1 ≤ d2
  o3 : d2 ≤ i2
  o4 : i2 ≤ w.heap.size
  g1 : base ≤ g
  g2 : g < w.heap.size
  g3 : g < d1 ∨ i2 ≤ g
  ids : IntS w d1 d2 vD N.ids
  ins : IntS w d2 i2 vI N.inputs
  top : ∃ off c, vE = .slice (some ⟨g, off, none⟩) N.ends.length c
  rows : ∃ vs : Nat → Value, Sl w g (g + 1) 1 vE N.ends.length vs ∧ ∀ i, i < N.ends.length → EndS w i2 w.heap.size (vs i) (nthL N.ends i) ∧ (rowOf (nthL N.ends i).length (vs i) = none ∨ rowOf (nthL N.ends i).length (vs i) ≠ some g)
section
variable {w w' : World} {base d1 d2 i2 g : Nat} {vE vD vI : Value} {N : NetD}
/-- writes elsewhere -/
theorem RN.far {row : Option Nat} (h : RN w base d1 d2 i2 g vE vD vI N) (hg : w.grownBy w' row) (hr : ∀ k, row = some k → k < base ∨ w.heap.size ≤ k) : RN w' base d1 d2 i2 g vE vD vI N := by
  have hs := hg.size
  have a1 := h.o1; have a2 := h.o2; have a3 := h.o3; have a4 := h.o4; have a5 := h.g1; have a6 := h.g2
  obtain ⟨vs, h1, h2⟩ := h.rows
  refine ⟨a1, a2, a3, by omega, a5, by omega, h.g3, h.ids.far hg (by omega) (fun k e => by have := hr k e; omega), h.ins.far hg (by omega) (fun k e => by have := hr k e; omega), h.top, vs, ?_, fun i hi => ?_⟩
  · exact Sl.keep h1 fun k k1 k2 => hg.block k (by omega) (fun e => by have := hr k e.symm; omega)
  · obtain ⟨e1, e2⟩ := h2 i hi
    exact ⟨(e1.far hg (Nat.le_refl _) (fun k e => by have := hr k e; omega)).mono (Nat.le_refl _) hs, e2⟩
theorem RN.still (h : RN w base d1 d2 i2 g vE vD vI N) (hg : w.grownBy w' none) : RN w' base d1 d2 i2 g vE vD vI N := h.far hg (fun k e => by cases e)
/-- what it reads as -/
theorem RN.net (h : RN w base d1 d2 i2 g vE vD vI N) : Net w base w.heap.size (.agg #[vE, vD, vI]) N := by
  have a1 := h.o1; have a2 := h.o2; have a3 := h.o3; have a4 := h.o4; have a5 := h.g1; have a6 := h.g2
  obtain ⟨vs, h1, h2⟩ := h.rows
  exact ⟨vE, vD, vI, rfl, ⟨vs, h1.mono a5 (by omega), fun i hi => (h2 i hi).1.mono (by omega) (Nat.le_refl _)⟩, h.ids.mono (by omega) (by omega), h.ins.mono (by omega) (by omega)⟩
/-- one row of ends put in the place of another -/
theorem RN.setE {off n c : Nat} (h : RN w base d1 d2 i2 g (.slice (some ⟨g, off, none⟩) n c) vD vI N) {a : Nat} (ha : a < N.ends.length) {u : Value} {xs : List (Int × Int)} (hu : EndS w i2 w.heap.size u xs) (hne : rowOf xs.length u = none ∨ rowOf xs.length u ≠ some g) :
    RN (w.setCell ⟨g, off + a, none⟩ u) base d1 d2 i2 g (.slice (some ⟨g, off, none⟩) n c) vD vI ⟨N.ends.set a xs, N.ids, N.inputs⟩ := by
  have a1 := h.o1; have a2 := h.o2; have a3 := h.o3; have a4 := h.o4; have a5 := h.g1; have a6 := h.g2; have a7 := h.g3
  have hg : w.grownBy (w.setCell ⟨g, off + a, none⟩ u) (some g) := grown_set w ⟨g, off + a, none⟩ _
  have hs := hg.size
  have hn : n = N.ends.length := by obtain ⟨o2, c2, e⟩ := h.top; injection e
  subst hn
  obtain ⟨vs, h1, h2⟩ := h.rows
  refine ⟨a1, a2, a3, by omega, a5, by omega, a7, h.ids.far hg (by omega) (fun k e => by cases e; omega), h.ins.far hg (by omega) (fun k e => by cases e; omega), ⟨off, c, by simp⟩, fun i => if i = a then u else vs i, ?_, fun i hi => ?_⟩
  · have := Sl.set h1 (j := a) (by omega) u
    simpa using this
  · simp only [List.length_set] at hi
    dsimp only
    rw [show nthL (N.ends.set a xs) i = if i = a then xs else nthL N.ends i by
      unfold nthL
      simp only [List.getD_eq_getElem?_getD, List.getElem?_set]
      by_cases e : a = i
      · subst e; simp [ha]
      · rw [if_neg e, if_neg (fun h => e h.symm)]]
    by_cases e : i = a
    · rw [if_pos e, if_pos e]
      exact ⟨(Sl.grown hu hg (Nat.le_refl _) hne : EndS _ _ _ _ _).mono (Nat.le_refl _) hs, hne⟩
    · rw [if_neg e, if_neg e]
      obtain ⟨e1, e2⟩ := h2 i hi
      exact ⟨(Sl.grown e1 hg (Nat.le_refl _) e2 : EndS _ _ _ _ _).mono (Nat.le_refl _) hs, e2⟩
theorem RN.topAt {off n c : Nat} (h : RN w base d1 d2 i2 g (.slice (some ⟨g, off, none⟩) n c) vD vI N) {a : Nat} (ha : a < N.ends.length) : ∃ x, w.cell? ⟨g, off + a, none⟩ = some x ∧ x.oneCell' = true ∧ w.frozen? ⟨g, off + a, none⟩ = false := by
  have hn : n = N.ends.length := by obtain ⟨o2, c2, e⟩ := h.top; injection e
  subst hn
  obtain ⟨vs, h1, h2⟩ := h.rows
  obtain ⟨e1, e2⟩ := h1.at_ (j := a) (by omega)
  obtain ⟨A, c2, e3, _⟩ := (h2 a ha).1
  exact ⟨_, e1, by rw [e3]; rfl, e2⟩
/-- a number set in the ids or in the inputs -/
theorem RN.setD {b off n c : Nat} (h : RN w base d1 d2 i2 g vE (.slice (some ⟨b, off, none⟩) n c) vI N) (hb1 : d1 ≤ b) (hb2 : b < d2) {a : Nat} (ha : a < N.ids.length) (z : Int) :
    RN (w.setCell ⟨b, off + a, none⟩ (.int .i64 z)) base d1 d2 i2 g vE (.slice (some ⟨b, off, none⟩) n c) vI ⟨N.ends, N.ids.set a z, N.inputs⟩ := by
  have a1 := h.o1; have a2 := h.o2; have a3 := h.o3; have a4 := h.o4; have a5 := h.g1; have a6 := h.g2; have a7 := h.g3
  have hg : w.grownBy (w.setCell ⟨b, off + a, none⟩ (.int .i64 z)) (some b) := grown_set w ⟨b, off + a, none⟩ _
  have hs := hg.size
  obtain ⟨vs, h1, h2⟩ := h.rows
  refine ⟨a1, a2, a3, by omega, a5, by omega, a7, h.ids.set ha z, h.ins.far hg (by omega) (fun k e => by cases e; omega), h.top, vs, ?_, fun i hi => ?_⟩
  · exact Sl.keep h1 fun k k1 k2 => hg.block k (by omega) (fun e => by cases e; omega)
  · obtain ⟨e1, e2⟩ := h2 i hi
    exact ⟨(e1.far hg (Nat.le_refl _) (fun k e => by cases e; omega)).mono (Nat.le_refl _) hs, e2⟩
theorem RN.setI {b off n c : Nat} (h : RN w base d1 d2 i2 g vE vD (.slice (some ⟨b, off, none⟩) n c) N) (hb1 : d2 ≤ b) (hb2 : b < i2) {a : Nat} (ha : a < N.inputs.length) (z : Int) :
    RN (w.setCell ⟨b, off + a, none⟩ (.int .i64 z)) base d1 d2 i2 g vE vD (.slice (some ⟨b, off, none⟩) n c) ⟨N.ends, N.ids, N.inputs.set a z⟩ := by
  have a1 := h.o1; have a2 := h.o2; have a3 := h.o3; have a4 := h.o4; have a5 := h.g1; have a6 := h.g2; have a7 := h.g3
  have hg : w.grownBy (w.setCell ⟨b, off + a, none⟩ (.int .i64 z)) (some b) := grown_set w ⟨b, off + a, none⟩ _
  have hs := hg.size
  obtain ⟨vs, h1, h2⟩ := h.rows
  refine ⟨a1, a2, a3, by omega, a5, by omega, a7, h.ids.far hg (by omega) (fun k e => by cases e; omega), h.ins.set ha z, h.top, vs, ?_, fun i hi => ?_⟩
  · exact Sl.keep h1 fun k k1 k2 => hg.block k (by omega) (fun e => by cases e; omega)
  · obtain ⟨e1, e2⟩ := h2 i hi
    exact ⟨(e1.far hg (Nat.le_refl _) (fun k e => by cases e; omega)).mono (Nat.le_refl _) hs, e2⟩
end
end Go.Proofs.Ytcmmklcampmkjaa

/- Plain: the network of some nodes, as the reference makes it, is the program's. No condition on any program. -/
namespace Go.Proofs.Ytcmmklcampmkjaa
set_option linter.unusedVariables false

/-- the ports that lie between two of the nodes -/
def kpB (N : NetD) (zs : List Int) (v i : Nat) : Bool := decide ((v : Int) ∈ zs) && decide ((nthE (nthL N.ends v) i).1 ∈ zs)
/-- the kept ends of a node, the ports numbered anew -/
def cutRow (N : NetD) (kp : Nat → Nat → Bool) (v m : Nat) : List (Int × Int) := ((List.range m).filter (kp v)).map fun i => ((nthE (nthL N.ends v) i).1, ((cntK kp (nthE (nthL N.ends v) i).1.toNat (nthE (nthL N.ends v) i).2.toNat : Nat) : Int))
theorem cutRow_len (N : NetD) (kp : Nat → Nat → Bool) (v m : Nat) : (cutRow N kp v m).length = cntK kp v m := by simp [cutRow, cntK]
theorem cutRow_yes {N : NetD} {kp : Nat → Nat → Bool} {v m : Nat} (h : kp v m = true) : cutRow N kp v (m + 1) = cutRow N kp v m ++ [((nthE (nthL N.ends v) m).1, ((cntK kp (nthE (nthL N.ends v) m).1.toNat (nthE (nthL N.ends v) m).2.toNat : Nat) : Int))] := by simp [cutRow, List.range_succ, h]
theorem cutRow_no {N : NetD} {kp : Nat → Nat → Bool} {v m : Nat} (h : kp v m = false) : cutRow N kp v (m + 1) = cutRow N kp v m := by simp [cutRow, List.range_succ, h]
/-- where each node goes -/
def toOf (n : Nat) (zs : List Int) : List Int := numL (List.replicate n 0) 0 zs
section
variable {N : NetD} {zs : List Int}
theorem pick_mem (hz : PickOk N zs) {w : Nat} : (w : Int) ∈ zs ↔ ∃ q, q < zs.length ∧ nth zs q = (w : Int) := by
  constructor
  · intro h
    obtain ⟨q, hq, e⟩ := List.mem_iff_getElem.1 h
    exact ⟨q, hq, by rw [nth_eq hq, e]⟩
  · rintro ⟨q, hq, e⟩; rw [← e]; exact nth_mem hq
theorem toOf_at (hz : PickOk N zs) {k w : Nat} (hk : k < zs.length) (hw : nth zs k = (w : Int)) : nth (toOf N.ends.length zs) w = (k : Int) := by
  have h := numL_at zs (List.replicate N.ends.length 0) 0 k hk (fun i j hi hj e => by
    obtain ⟨a, ea, _⟩ := hz.node i hi
    obtain ⟨b, eb, _⟩ := hz.node j hj
    rw [ea, eb, Int.toNat_natCast, Int.toNat_natCast] at e
    exact hz.once i j hi hj (by rw [ea, eb, e])) (fun z hzm => by
    obtain ⟨i, hi, e⟩ := List.mem_iff_getElem.1 hzm
    obtain ⟨a, ea, ha⟩ := hz.node i hi
    rw [nth_eq hi, e] at ea
    rw [ea, Int.toNat_natCast, List.length_replicate]; exact ha)
  rw [hw, Int.toNat_natCast, Nat.zero_add] at h
  exact h
theorem kpB_ok (hg : N.good = true) (hz : PickOk N zs) : KeepOk N zs (kpB N zs) := by
  refine ⟨fun k v i w j hk hv hi hkp he => ?_⟩
  unfold kpB at hkp
  rw [he, Bool.and_eq_true, decide_eq_true_eq, decide_eq_true_eq] at hkp
  obtain ⟨t, et, ht⟩ := hz.node k hk
  have hvn : v < N.ends.length := by rw [hv] at et; omega
  obtain ⟨w', j', e1, h1, h2, h3⟩ := good_end hg hvn hi
  rw [he] at e1
  simp only [Prod.mk.injEq] at e1
  have ew : w = w' := by omega
  have ej : j = j' := by omega
  subst ew ej
  refine ⟨?_, (pick_mem hz).1 hkp.2⟩
  unfold kpB
  rw [h3, Bool.and_eq_true, decide_eq_true_eq, decide_eq_true_eq]
  exact ⟨hkp.2, hkp.1⟩
/-- THE REFERENCE'S ROWS ARE THE PROGRAM'S -/
theorem cut_part {kp : Nat → Nat → Bool} (hg : N.good = true) (hz : PickOk N zs) (hK : KeepOk N zs kp) {k v : Nat} (hk : k < zs.length) (hv : nth zs k = (v : Int)) : ∀ m, m ≤ (nthL N.ends v).length → mapEnds (toOf N.ends.length zs) (cutRow N kp v m) = castL (partRow N kp (allU N kp zs zs.length) v m)
  | 0, _ => by simp [cutRow, mapEnds, partRow, castL]
  | m + 1, hm => by
    have ih := cut_part hg hz hK hk hv m (by omega)
    cases hb : kp v m with
    | false => rw [cutRow_no hb, partRow_no hb]; exact ih
    | true =>
      have hi : m < (nthL N.ends v).length := by omega
      obtain ⟨t, et, ht⟩ := hz.node k hk
      have hvn : v < N.ends.length := by rw [hv] at et; omega
      obtain ⟨w, j, he, h1, h2, h3⟩ := good_end hg hvn hi
      obtain ⟨hkw, q, hq, hqw⟩ := hK.pair k v m w j hk hv hi hb he
      rw [cutRow_yes hb, partRow_yes hb, castL_snoc, he]
      have hp := part_place hz hqw h2 hkw zs.length (Nat.le_refl _) hq
      dsimp only
      rw [hp]
      unfold mapEnds at ih ⊢
      rw [List.map_append, ih]
      simp only [List.map_cons, List.map_nil, Int.toNat_natCast, castP]
      rw [toOf_at hz hq hqw]
/-- the network that the reference makes of some nodes -/
theorem keep_rows {kp : Nat → Nat → Bool} (hg : N.good = true) (hz : PickOk N zs) (hK : KeepOk N zs kp) : (zs.map fun z => mapEnds (toOf N.ends.length zs) (cutRow N kp z.toNat (nthL N.ends z.toNat).length)) = (partN N zs kp).ends := by
  unfold partN partRows
  rw [List.map_map]
  apply List.map_congr_left
  intro z hzm
  obtain ⟨k, hk, e⟩ := List.mem_iff_getElem.1 hzm
  obtain ⟨t, et, ht⟩ := hz.node k hk
  rw [nth_eq hk, e] at et
  rw [et, Int.toNat_natCast]
  exact cut_part hg hz hK hk (by rw [nth_eq hk, e, et]) _ (Nat.le_refl _)
end
end Go.Proofs.Ytcmmklcampmkjaa

/- Plain: distances in a network of kept ports; networks of the same nodes have the same distances. No condition on any program. -/
namespace Go.Proofs.Ytcmmklcampmkjaa
set_option linter.unusedVariables false

/-- the nodes of two networks correspond, and so do their edges -/
structure Corr (P Q : NetD) (R : Nat → Nat → Prop) : Prop where
  go : ∀ u a s, R u a → Adj P u s → ∃ b, R s b ∧ Adj Q a b
  back : ∀ u a b, R u a → Adj Q a b → ∃ s, R s b ∧ Adj P u s
  one : ∀ u a b, R u a → R u b → a = b
  own : ∀ u v a, R u a → R v a → u = v
  inP : ∀ u a, R u a → u < P.ends.length
  inQ : ∀ u a, R u a → a < Q.ends.length
section
variable {P Q : NetD} {R : Nat → Nat → Prop}
theorem Corr.way (h : Corr P Q R) {u a : Nat} (hr : R u a) : ∀ {k t : Nat}, way P k u t → ∃ b, R t b ∧ way Q k a b
  | 0, t, e => by
    have e : u = t := e
    subst e
    exact ⟨a, hr, rfl⟩
  | k + 1, t, ⟨s, h1, h2⟩ => by
    obtain ⟨b, hb, hw⟩ := Corr.way h hr h1
    obtain ⟨c, hc, ha⟩ := h.go s b t hb h2
    exact ⟨c, hc, b, hw, ha⟩
theorem Corr.wayB (h : Corr P Q R) {u a : Nat} (hr : R u a) : ∀ {k b : Nat}, Go.Proofs.Ytcmmklcampmkjaa.way Q k a b → ∃ t, R t b ∧ Go.Proofs.Ytcmmklcampmkjaa.way P k u t
  | 0, b, e => by
    have e : a = b := e
    subst e
    exact ⟨u, hr, rfl⟩
  | k + 1, b, ⟨c, h1, h2⟩ => by
    obtain ⟨s, hs, hw⟩ := Corr.wayB h hr h1
    obtain ⟨t, ht, ha⟩ := h.back s c b hs h2
    exact ⟨t, ht, s, hw, ha⟩
/-- what is reached corresponds to something, at the same distance -/
theorem Corr.dist (h : Corr P Q R) (hP : P.nodes) (hQ : Q.nodes) {u a t : Nat} (hr : R u a) (ht : t < P.ends.length) (h0 : 0 ≤ nth (dist P u) t) : ∃ b, R t b ∧ nth (Go.Proofs.Ytcmmklcampmkjaa.dist Q a) b = nth (Go.Proofs.Ytcmmklcampmkjaa.dist P u) t := by
  obtain ⟨b, hb, hw⟩ := h.way hr (dist_way hP (h.inP _ _ hr) ht h0)
  obtain ⟨k1, k2⟩ := dist_le hQ (h.inQ _ _ hr) hw
  obtain ⟨s, hs, hw2⟩ := h.wayB hr (dist_way hQ (h.inQ _ _ hr) (h.inQ _ _ hb) k1)
  obtain rfl := h.own _ _ _ hs hb
  obtain ⟨k3, k4⟩ := dist_le hP (h.inP _ _ hr) hw2
  exact ⟨b, hb, by omega⟩
theorem Corr.eq (h : Corr P Q R) (hP : P.nodes) (hQ : Q.nodes) {u a t b : Nat} (hr : R u a) (hs : R t b) : nth (Go.Proofs.Ytcmmklcampmkjaa.dist Q a) b = nth (Go.Proofs.Ytcmmklcampmkjaa.dist P u) t := by
  by_cases h0 : 0 ≤ nth (Go.Proofs.Ytcmmklcampmkjaa.dist P u) t
  · obtain ⟨c, hc, e⟩ := h.dist hP hQ hr (h.inP _ _ hs) h0
    rw [h.one _ _ _ hs hc]; exact e
  · have l1 := (dist_low hP (h.inP _ _ hr) (h.inP _ _ hs)).1
    have l2 := (dist_low hQ (h.inQ _ _ hr) (h.inQ _ _ hs)).1
    by_cases h1 : 0 ≤ nth (Go.Proofs.Ytcmmklcampmkjaa.dist Q a) b
    · obtain ⟨s, hs2, hw⟩ := h.wayB hr (dist_way hQ (h.inQ _ _ hr) (h.inQ _ _ hs) h1)
      obtain rfl := h.own _ _ _ hs2 hs
      exact absurd (dist_le hP (h.inP _ _ hr) hw).1 h0
    · omega
end
section
variable {N : NetD} {kp : Nat → Nat → Bool} {zs : List Int}
/-- the edges of the network of kept ports -/
theorem part_adj (hg : N.good = true) (hz : PickOk N zs) (hK : KeepOk N zs kp) {a b v w : Nat} (ha : a < zs.length) (hb : b < zs.length) (hv : nth zs a = (v : Int)) (hw : nth zs b = (w : Int)) :
    Adj (partN N zs kp) a b ↔ ∃ i, i < (nthL N.ends v).length ∧ kp v i = true ∧ (nthE (nthL N.ends v) i).1 = (w : Int) := by
  obtain ⟨v', ev, hvn⟩ := hz.node a ha
  rw [hv] at ev
  obtain rfl : v = v' := by omega
  constructor
  · rintro ⟨_, _, c, hc, e⟩
    rw [part_deg ha hv] at hc
    obtain ⟨i, hi, hkp, rfl⟩ := cntK_port kp v _ c hc
    obtain ⟨x, j, he, hx, hj, _⟩ := good_end hg hvn hi
    obtain ⟨_, q, hq, hqx⟩ := hK.pair a v i x j ha hv hi hkp he
    rw [part_end hz hK hg ha hv hi hkp he hq hqx] at e
    have e : (q : Int) = (b : Int) := e
    have eq : q = b := by omega
    subst eq
    rw [hw] at hqx
    exact ⟨i, hi, hkp, by rw [he]; exact hqx.symm⟩
  · rintro ⟨i, hi, hkp, e⟩
    obtain ⟨x, j, he, hx, hj, _⟩ := good_end hg hvn hi
    rw [he] at e
    have e : (x : Int) = (w : Int) := e
    have e2 : x = w := by omega
    subst e2
    refine ⟨by rw [part_n]; exact ha, by rw [part_n]; exact hb, cntK kp v i, by rw [part_deg ha hv]; exact cntK_lt kp v hi hkp, ?_⟩
    rw [part_end hz hK hg ha hv hi hkp he hb hw]
theorem part_adj_lt {a b : Nat} (h : Adj (partN N zs kp) a b) : a < zs.length ∧ b < zs.length := by
  obtain ⟨h1, h2, _⟩ := h
  rw [part_n] at h1 h2
  exact ⟨h1, h2⟩
/-- all nodes in order -/
def allV (n : Nat) : List Int := (List.range n).map fun (v : Nat) => (v : Int)
theorem allV_len (n : Nat) : (allV n).length = n := by simp [allV]
theorem nth_allV {n v : Nat} (h : v < n) : nth (allV n) v = (v : Int) := by simp [nth, allV, h]
theorem allV_pick (N : NetD) : PickOk N (allV N.ends.length) := by
  refine ⟨fun k hk => ?_, fun a b ha hb e => ?_⟩
  · rw [allV_len] at hk; exact ⟨k, nth_allV hk, hk⟩
  · rw [allV_len] at ha hb
    rw [nth_allV ha, nth_allV hb] at e
    omega
/-- ports kept between nodes that satisfy something -/
structure KeepS (N : NetD) (S : Nat → Nat → Prop) (kp : Nat → Nat → Bool) : Prop where
  is : ∀ v i w : Nat, v < N.ends.length → i < (nthL N.ends v).length → (nthE (nthL N.ends v) i).1 = (w : Int) → (kp v i = true ↔ S v w)
theorem KeepS.ok {S : Nat → Nat → Prop} (hg : N.good = true) (h : KeepS N S kp) (hs : ∀ v w, S v w → S w v) : KeepOk N (allV N.ends.length) kp := by
  refine ⟨fun k v i w j hk hv hi hkp he => ?_⟩
  rw [allV_len] at hk
  rw [nth_allV hk] at hv
  obtain rfl : k = v := by omega
  obtain ⟨w', j', e1, h1, h2, h3⟩ := good_end hg hk hi
  rw [he] at e1
  simp only [Prod.mk.injEq] at e1
  have ew : w = w' := by omega
  have ej : j = j' := by omega
  subst ew ej
  have := (h.is k i w hk hi (by rw [he])).1 hkp
  exact ⟨(h.is w j k h1 h2 (by rw [h3])).2 (hs _ _ this), w, by rw [allV_len]; exact h1, nth_allV h1⟩
/-- THE SAME NODES, THE SAME DISTANCES: all nodes, with the ports between nodes of zs kept (and others that do not touch them), against the network of zs -/
theorem corr_part {S : Nat → Nat → Prop} (hg : N.good = true) (hS : KeepS N S kp) (hs : ∀ v w, S v w → S w v) (hz : PickOk N zs) (hzs : ∀ v w : Nat, w < N.ends.length → (v : Int) ∈ zs → (S v w ↔ (w : Int) ∈ zs)) :
    Corr (partN N (allV N.ends.length) kp) (partN N zs (kpB N zs)) (fun u a => a < zs.length ∧ nth zs a = (u : Int)) := by
  have hA := hS.ok hg hs
  have hK := kpB_ok hg hz
  have hin : ∀ u a : Nat, a < zs.length → nth zs a = (u : Int) → u < N.ends.length := fun u a ha e => by
    obtain ⟨t, et, ht⟩ := hz.node a ha
    rw [e] at et; omega
  refine ⟨fun u a s ⟨ha, hu⟩ hadj => ?_, fun u a b ⟨ha, hu⟩ hadj => ?_, fun u a b ⟨ha, hu⟩ ⟨hb, hv⟩ => hz.once a b ha hb (by rw [hu, hv]), fun u v a ⟨ha, hu⟩ ⟨_, hv⟩ => by rw [hu] at hv; omega, fun u a ⟨ha, hu⟩ => by rw [part_n, allV_len]; exact hin u a ha hu, fun u a ⟨ha, hu⟩ => by rw [part_n]; exact ha⟩
  · obtain ⟨hul, hsl⟩ := part_adj_lt hadj
    have hun := hin u a ha hu
    rw [allV_len] at hul hsl
    obtain ⟨i, hi, hkp, he⟩ := (part_adj hg (allV_pick N) hA (by rw [allV_len]; exact hul) (by rw [allV_len]; exact hsl) (nth_allV hul) (nth_allV hsl)).1 hadj
    have hm : (u : Int) ∈ zs := by rw [← hu]; exact nth_mem ha
    have hsm := (hzs u s hsl hm).1 ((hS.is u i s hun hi he).1 hkp)
    obtain ⟨b, hb, hbs⟩ := (pick_mem hz).1 hsm
    refine ⟨b, ⟨hb, hbs⟩, (part_adj hg hz hK ha hb hu hbs).2 ⟨i, hi, ?_, he⟩⟩
    unfold kpB
    rw [he, Bool.and_eq_true, decide_eq_true_eq, decide_eq_true_eq]
    exact ⟨hm, hsm⟩
  · obtain ⟨_, hb⟩ := part_adj_lt hadj
    obtain ⟨s, es, hsn⟩ := hz.node b hb
    have hun := hin u a ha hu
    obtain ⟨i, hi, hkp, he⟩ := (part_adj hg hz hK ha hb hu es).1 hadj
    have hm : (u : Int) ∈ zs := by rw [← hu]; exact nth_mem ha
    have hsm : (s : Int) ∈ zs := by rw [← es]; exact nth_mem hb
    exact ⟨s, ⟨hb, es⟩, (part_adj hg (allV_pick N) hA (by rw [allV_len]; exact hun) (by rw [allV_len]; exact hsn) (nth_allV hun) (nth_allV hsn)).2 ⟨i, hi, (hS.is u i s hun hi he).2 ((hzs u s hsn hm).2 hsm), he⟩⟩
end
end Go.Proofs.Ytcmmklcampmkjaa
