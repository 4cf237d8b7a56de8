/-
  Plain: the walk of a token through a network; it ends, and it is short. No condition on any program.
-/
import Derived.Test.YtmfjdiccohgihaaSS
namespace Go.Proofs.Ytmfjdiccohgihaa
set_option linter.unusedVariables false

/-- which ports were used, which nodes met, and the moves so far -/
structure Tk where
  used : Int → Int → Bool
  met : Nat → Bool
  moves : List (List Int)
def setU (u : Int → Int → Bool) (a b : Int) : Int → Int → Bool := fun x y => (x == a && y == b) || u x y
def setM (m : Nat → Bool) (a : Nat) : Nat → Bool := fun x => x == a || m x
def endAt (N : NetD) (v i : Nat) : Int × Int := nthE (nthL N.ends v) i
def degAt (N : NetD) (v : Nat) : Nat := (nthL N.ends v).length
/-- the token leaves node v by port i -/
def tpre (N : NetD) (v i : Nat) (σ : Tk) : Tk := ⟨setU (setU σ.used v i) (endAt N v i).1 (endAt N v i).2, σ.met, σ.moves ++ [[(v : Int), (i : Int)]]⟩
/-- and comes back -/
def tpost (e : Int × Int) (σ : Tk) : Tk := ⟨σ.used, σ.met, σ.moves ++ [[e.1, e.2]]⟩
def tstep (N : NetD) (rec : Nat → Tk → Tk) (v i : Nat) (σ : Tk) : Tk :=
  if σ.used v i = true then σ
  else tpost (endAt N v i) (if σ.met (endAt N v i).1.toNat = true then tpre N v i σ else rec (endAt N v i).1.toNat (tpre N v i σ))
def tloop (N : NetD) (rec : Nat → Tk → Tk) (v : Nat) : Nat → Tk → Tk
  | 0, σ => σ
  | k + 1, σ => tstep N rec v k (tloop N rec v k σ)
def tin (v : Nat) (σ : Tk) : Tk := ⟨σ.used, setM σ.met v, σ.moves⟩
def tvisit (N : NetD) : Nat → Nat → Tk → Tk
  | 0, _, σ => σ
  | f + 1, v, σ => tloop N (tvisit N f) v (degAt N v) (tin v σ)
theorem tvisit_succ (N : NetD) (f v : Nat) (σ : Tk) : tvisit N (f + 1) v σ = tloop N (tvisit N f) v (degAt N v) (tin v σ) := rfl
theorem tstep_used {N : NetD} {rec : Nat → Tk → Tk} {v i : Nat} {σ : Tk} (h : σ.used v i = true) : tstep N rec v i σ = σ := by unfold tstep; rw [if_pos h]
theorem tstep_met {N : NetD} {rec : Nat → Tk → Tk} {v i : Nat} {σ : Tk} (h : σ.used v i = false) (h2 : σ.met (endAt N v i).1.toNat = true) : tstep N rec v i σ = tpost (endAt N v i) (tpre N v i σ) := by unfold tstep; rw [if_neg (by rw [h]; simp), if_pos h2]
theorem tstep_new {N : NetD} {rec : Nat → Tk → Tk} {v i : Nat} {σ : Tk} (h : σ.used v i = false) (h2 : σ.met (endAt N v i).1.toNat = false) : tstep N rec v i σ = tpost (endAt N v i) (rec (endAt N v i).1.toNat (tpre N v i σ)) := by unfold tstep; rw [if_neg (by rw [h]; simp), if_neg (by rw [h2]; simp)]

/-- the met stay met -/
def KeepsMet (rec : Nat → Tk → Tk) : Prop := ∀ v σ x, σ.met x = true → (rec v σ).met x = true
theorem tstep_keeps {N : NetD} {rec : Nat → Tk → Tk} (h : KeepsMet rec) (v i : Nat) (σ : Tk) (x : Nat) (hx : σ.met x = true) : (tstep N rec v i σ).met x = true := by
  cases h1 : σ.used v i with
  | true => rw [tstep_used h1]; exact hx
  | false =>
    cases h2 : σ.met (endAt N v i).1.toNat with
    | true => rw [tstep_met h1 h2]; exact hx
    | false => rw [tstep_new h1 h2]; exact h _ _ x hx
theorem tloop_keeps {N : NetD} {rec : Nat → Tk → Tk} (h : KeepsMet rec) (v : Nat) : ∀ (k : Nat) (σ : Tk) (x : Nat), σ.met x = true → (tloop N rec v k σ).met x = true
  | 0, _, _, hx => hx
  | k + 1, σ, x, hx => tstep_keeps h v k _ x (tloop_keeps h v k σ x hx)
theorem tvisit_keeps (N : NetD) : ∀ f, KeepsMet (tvisit N f)
  | 0 => fun _ _ _ h => h
  | f + 1 => fun v σ x hx => tloop_keeps (tvisit_keeps N f) v _ _ x (by unfold tin setM; simp [hx])
theorem filter_lt {α : Type} {p q : α → Bool} (h : ∀ x, q x = true → p x = true) {a : α} (hp : p a = true) (hq : q a = false) : ∀ {l : List α}, a ∈ l → (l.filter q).length + 1 ≤ (l.filter p).length
  | [], ha => by cases ha
  | x :: l, ha => by
    have hle : ∀ l : List α, (l.filter q).length ≤ (l.filter p).length := fun l => by
      induction l with
      | nil => exact Nat.le_refl _
      | cons y l ih =>
        simp only [List.filter_cons]
        cases hy : q y with
        | true => rw [h y hy]; simpa using ih
        | false =>
          cases p y with
          | true => simp; omega
          | false => simpa using ih
    simp only [List.filter_cons]
    rcases List.mem_cons.1 ha with rfl | ha
    · rw [hp, hq]
      have := hle l
      simp; omega
    · have := filter_lt h hp hq ha
      cases hx : q x with
      | true => rw [h x hx]; simp; omega
      | false =>
        cases p x with
        | true => simp; omega
        | false => simpa using this
theorem filter_le {α : Type} {p q : α → Bool} (h : ∀ x, q x = true → p x = true) (l : List α) : (l.filter q).length ≤ (l.filter p).length := by
  induction l with
  | nil => exact Nat.le_refl _
  | cons y l ih =>
    simp only [List.filter_cons]
    cases hy : q y with
    | true => rw [h y hy]; simpa using ih
    | false =>
      cases p y with
      | true => simp; omega
      | false => simpa using ih
/-- how many of the first n nodes are not met -/
def unm (n : Nat) (m : Nat → Bool) : Nat := ((List.range n).filter fun x => !m x).length
theorem unm_mono {n : Nat} {m m' : Nat → Bool} (h : ∀ x, m x = true → m' x = true) : unm n m' ≤ unm n m :=
  filter_le (fun x hx => by
    cases hm : m x with
    | true => have := h x hm; simp [this] at hx
    | false => rfl) _
theorem unm_set {n v : Nat} {m : Nat → Bool} (hv : v < n) (hm : m v = false) : unm n (setM m v) + 1 ≤ unm n m :=
  filter_lt (fun x hx => by unfold setM at hx; cases h : m x with
    | true => simp [h] at hx
    | false => rfl) (a := v) (by simp [hm]) (by simp [setM]) (List.mem_range.2 hv)
theorem unm_le (n : Nat) (m : Nat → Bool) : unm n m ≤ n := Nat.le_trans (List.length_filter_le _ _) (by simp)
theorem unm_pos {n v : Nat} {m : Nat → Bool} (hv : v < n) (hm : m v = false) : 0 < unm n m := by have := unm_set hv hm; omega
/-- the places where a port may lie -/
def grid : List (Nat × Nat) := (List.range 40).flatMap fun v => (List.range 6).map fun i => (v, i)
theorem grid_len : grid.length = 240 := by decide +kernel
theorem mem_grid {v i : Nat} (hv : v < 40) (hi : i < 6) : (v, i) ∈ grid := by
  unfold grid
  rw [List.mem_flatMap]
  exact ⟨v, List.mem_range.2 hv, List.mem_map.2 ⟨i, List.mem_range.2 hi, rfl⟩⟩
def free (u : Int → Int → Bool) : Nat := (grid.filter fun p => !u p.1 p.2).length
theorem free_le (u : Int → Int → Bool) : free u ≤ 240 := by rw [← grid_len]; exact List.length_filter_le _ _
/-- the moves so far, and those that may come -/
def bnd (σ : Tk) : Nat := σ.moves.length + 2 * free σ.used
theorem setU_of {u : Int → Int → Bool} {a b x y : Int} (h : u x y = true) : setU u a b x y = true := by unfold setU; rw [h, Bool.or_true]
theorem setU_at (u : Int → Int → Bool) (a b : Int) : setU u a b a b = true := by unfold setU; simp
theorem setU_ne {u : Int → Int → Bool} {a b x y : Int} (h : ¬ (x = a ∧ y = b)) : setU u a b x y = u x y := by
  unfold setU
  have : (x == a && y == b) = false := by
    rw [Bool.and_eq_false_iff]
    by_cases e : x = a
    · right; simp; exact fun e2 => h ⟨e, e2⟩
    · left; simpa using e
  rw [this, Bool.false_or]
theorem bnd_pre {N : NetD} (h40 : N.ends.length ≤ 40) (h6 : ∀ v, degAt N v ≤ 6) {v i : Nat} {σ : Tk} (hi : i < degAt N v) (hu : σ.used v i = false) : bnd (tpre N v i σ) + 1 ≤ bnd σ := by
  have hv : v < N.ends.length := by
    rcases Nat.lt_or_ge v N.ends.length with h | h
    · exact h
    · exfalso
      unfold degAt nthL at hi
      rw [List.getD_eq_getElem?_getD, List.getElem?_eq_none h] at hi
      simp at hi
  have := filter_lt (l := grid) (p := fun p => !σ.used p.1 p.2) (q := fun p => !(setU (setU σ.used v i) (endAt N v i).1 (endAt N v i).2) p.1 p.2) (fun p hp => by
    cases h : σ.used p.1 p.2 with
    | true => rw [setU_of (setU_of h)] at hp; exact absurd hp (by simp)
    | false => rfl) (a := (v, i)) (by rw [hu]; rfl) (by rw [setU_of (setU_at _ _ _)]; rfl) (mem_grid (by omega) (by have := h6 v; omega))
  unfold bnd tpre free
  simp only [List.length_append, List.length_cons, List.length_nil]
  omega
theorem bnd_post (e : Int × Int) (σ : Tk) : bnd (tpost e σ) = bnd σ + 1 := by unfold bnd tpost; simp; omega
theorem bnd_in (v : Nat) (σ : Tk) : bnd (tin v σ) = bnd σ := rfl
def Shrinks (rec : Nat → Tk → Tk) : Prop := ∀ v σ, bnd (rec v σ) ≤ bnd σ
theorem tstep_bnd {N : NetD} (h40 : N.ends.length ≤ 40) (h6 : ∀ v, degAt N v ≤ 6) {rec : Nat → Tk → Tk} (h : Shrinks rec) {v i : Nat} (σ : Tk) (hi : i < degAt N v) : bnd (tstep N rec v i σ) ≤ bnd σ := by
  cases h1 : σ.used v i with
  | true => rw [tstep_used h1]; exact Nat.le_refl _
  | false =>
    have h0 := bnd_pre h40 h6 hi h1
    cases h2 : σ.met (endAt N v i).1.toNat with
    | true => rw [tstep_met h1 h2, bnd_post]; exact h0
    | false =>
      rw [tstep_new h1 h2, bnd_post]
      have := h (endAt N v i).1.toNat (tpre N v i σ)
      omega
theorem tloop_bnd {N : NetD} (h40 : N.ends.length ≤ 40) (h6 : ∀ v, degAt N v ≤ 6) {rec : Nat → Tk → Tk} (h : Shrinks rec) (v : Nat) : ∀ (k : Nat) (σ : Tk), k ≤ degAt N v → bnd (tloop N rec v k σ) ≤ bnd σ
  | 0, _, _ => Nat.le_refl _
  | k + 1, σ, hk => Nat.le_trans (tstep_bnd h40 h6 h _ (by omega)) (tloop_bnd h40 h6 h v k σ (by omega))
theorem tvisit_bnd {N : NetD} (h40 : N.ends.length ≤ 40) (h6 : ∀ v, degAt N v ≤ 6) : ∀ f, Shrinks (tvisit N f)
  | 0 => fun _ _ => Nat.le_refl _
  | f + 1 => fun v σ => by rw [tvisit_succ]; exact Nat.le_trans (tloop_bnd h40 h6 (tvisit_bnd h40 h6 f) v _ _ (Nat.le_refl _)) (Nat.le_of_eq (bnd_in v σ))
def tk0 : Tk := ⟨fun _ _ => false, fun _ => false, []⟩
/-- the moves of the token -/
def walkOf (N : NetD) (r : Nat) : List (List Int) := (tvisit N N.ends.length r tk0).moves
theorem walkOf_len {N : NetD} (h40 : N.ends.length ≤ 40) (h6 : ∀ v, degAt N v ≤ 6) (r : Nat) : (walkOf N r).length ≤ 480 := by
  have h1 := tvisit_bnd h40 h6 N.ends.length r tk0
  have h2 := free_le (tk0.used)
  unfold bnd at h1
  have : tk0.moves.length = 0 := rfl
  unfold walkOf
  omega

end Go.Proofs.Ytmfjdiccohgihaa
