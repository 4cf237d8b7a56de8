/-
  Plain: the trails of a network: from port to port over an edge and on to the port's partner; they end or close; they are marked and gathered in two passes. No condition on any program.
-/
import Derived.Test.YtmfjdiccohgihaaTokP
import Derived.Test.YtmfjdiccohgihaaQuadP
namespace Go.Proofs.Ytmfjdiccohgihaa
set_option linter.unusedVariables false

abbrev Po := Nat × Nat
def okP (N : NetD) (p : Po) : Prop := p.1 < N.ends.length ∧ p.2 < degAt N p.1
def fl (i : Nat) : Nat := if i % 2 = 0 then i + 1 else i - 1
theorem fl_fl (i : Nat) : fl (fl i) = i := by unfold fl; split <;> split <;> omega
theorem fl_le (i : Nat) : fl i ≤ i + 1 := by unfold fl; split <;> omega
/-- the other end of a port's edge -/
def ep (N : NetD) (p : Po) : Po := ((endAt N p.1 p.2).1.toNat, (endAt N p.1 p.2).2.toNat)
def pairedB (N : NetD) (p : Po) : Bool := decide (fl p.2 < degAt N p.1)
def pi (p : Po) : Po := (p.1, fl p.2)
theorem pi_pi (p : Po) : pi (pi p) = p := by unfold pi; rw [fl_fl]
/-- the next port of a trail -/
def nx (N : NetD) (p : Po) : Option Po := if pairedB N (ep N p) = true then some (pi (ep N p)) else none
section
variable {N : NetD}
theorem ep_cast (hg : N.good = true) {p : Po} (hp : okP N p) : endAt N p.1 p.2 = (((ep N p).1 : Int), ((ep N p).2 : Int)) := by
  obtain ⟨t, r, e, _⟩ := good_end hg hp.1 hp.2
  unfold ep endAt
  rw [e]; simp
theorem ep_ok (hg : N.good = true) {p : Po} (hp : okP N p) : okP N (ep N p) ∧ ep N (ep N p) = p := by
  obtain ⟨t, r, e, h1, h2, h3⟩ := good_end hg hp.1 hp.2
  have e1 : ep N p = (t, r) := by unfold ep endAt; rw [e]; simp
  rw [e1]
  refine ⟨⟨h1, h2⟩, ?_⟩
  unfold ep endAt
  rw [h3]; simp
theorem pi_ok {p : Po} (hp : okP N p) (h : pairedB N p = true) : okP N (pi p) ∧ pairedB N (pi p) = true := by
  unfold pairedB at *
  rw [decide_eq_true_eq] at *
  refine ⟨⟨hp.1, h⟩, ?_⟩
  unfold pi
  dsimp only
  rw [fl_fl]
  exact hp.2
theorem nx_yes {p : Po} (h : pairedB N (ep N p) = true) : nx N p = some (pi (ep N p)) := by unfold nx; rw [if_pos h]
theorem nx_no {p : Po} (h : pairedB N (ep N p) = false) : nx N p = none := by unfold nx; rw [if_neg (by rw [h]; simp)]
theorem nx_inv {p q : Po} (h : nx N p = some q) : pairedB N (ep N p) = true ∧ pi (ep N p) = q := by
  unfold nx at h
  split at h
  next h1 => injection h with h; exact ⟨h1, h⟩
  next => cases h
theorem nx_ok (hg : N.good = true) {p q : Po} (hp : okP N p) (h : nx N p = some q) : okP N q := by
  obtain ⟨h1, rfl⟩ := nx_inv h
  exact (pi_ok (ep_ok hg hp).1 h1).1
theorem nx_back (hg : N.good = true) {p q : Po} (hp : okP N p) (h : nx N p = some q) : pairedB N q = true ∧ pi q = ep N p ∧ ep N (pi q) = p := by
  obtain ⟨h1, rfl⟩ := nx_inv h
  refine ⟨(pi_ok (ep_ok hg hp).1 h1).2, pi_pi _, ?_⟩
  rw [pi_pi]
  exact (ep_ok hg hp).2
theorem nx_inj (hg : N.good = true) {p p' q : Po} (hp : okP N p) (hp' : okP N p') (h : nx N p = some q) (h' : nx N p' = some q) : p = p' := by
  rw [← (nx_back hg hp h).2.2, ← (nx_back hg hp' h').2.2]
end

def nthP (l : List Po) (i : Nat) : Po := l.getD i (0, 0)
theorem nthP_eq {l : List Po} {i : Nat} (h : i < l.length) : nthP l i = l[i] := by simp [nthP, h]
theorem nthP_mem {l : List Po} {i : Nat} (h : i < l.length) : nthP l i ∈ l := by rw [nthP_eq h]; exact List.getElem_mem h
theorem nthP_left {a b : List Po} {i : Nat} (h : i < a.length) : nthP (a ++ b) i = nthP a i := by simp [nthP, List.getElem?_append_left h]
theorem nthP_at (a : List Po) (x : Po) : nthP (a ++ [x]) a.length = x := by simp [nthP]
theorem mem_nthP {l : List Po} {x : Po} (h : x ∈ l) : ∃ i, i < l.length ∧ nthP l i = x := by
  obtain ⟨i, hi, e⟩ := List.mem_iff_getElem.1 h
  exact ⟨i, hi, by rw [nthP_eq hi]; exact e⟩
theorem nthP_inj {l : List Po} (h : l.Nodup) {i j : Nat} (hi : i < l.length) (hj : j < l.length) (e : nthP l i = nthP l j) : i = j := by
  rw [nthP_eq hi, nthP_eq hj] at e
  rcases Nat.lt_trichotomy i j with h1 | h1 | h1
  · exact absurd e (List.pairwise_iff_getElem.1 h i j hi hj h1)
  · exact h1
  · exact absurd e.symm (List.pairwise_iff_getElem.1 h j i hj hi h1)
theorem ext_nthP {a b : List Po} (hl : a.length = b.length) (h : ∀ i, i < a.length → nthP a i = nthP b i) : a = b := by
  apply List.ext_getElem hl
  intro i h1 h2
  have := h i h1
  rwa [nthP_eq h1, nthP_eq h2] at this
theorem subLen {α : Type} [DecidableEq α] : ∀ (l m : List α), l.Nodup → (∀ x ∈ l, x ∈ m) → l.length ≤ m.length
  | [], _, _, _ => Nat.zero_le _
  | x :: l, m, hn, h => by
    have hx := h x (List.mem_cons_self ..)
    have hn2 := List.nodup_cons.1 hn
    have := subLen l (m.erase x) hn2.2 (fun y hy => (List.mem_erase_of_ne (fun e => hn2.1 (by rw [← e]; exact hy))).2 (h y (List.mem_cons_of_mem _ hy)))
    rw [List.length_erase_of_mem hx] at this
    have : 0 < m.length := List.length_pos_of_mem hx
    simp only [List.length_cons]
    omega

/-- a stretch of a trail -/
structure Ch (N : NetD) (s : Po) (l : List Po) : Prop where
  pos : 0 < l.length
  head : nthP l 0 = s
  ok : ∀ p ∈ l, okP N p
  link : ∀ i, i + 1 < l.length → nx N (nthP l i) = some (nthP l (i + 1))
  nd : l.Nodup
def lastP (l : List Po) : Po := nthP l (l.length - 1)
theorem lastP_snoc (l : List Po) (x : Po) : lastP (l ++ [x]) = x := by unfold lastP; simp [nthP]
section
variable {N : NetD} {s : Po}
theorem Ch.one (h : okP N s) : Ch N s [s] :=
  ⟨by simp, rfl, fun p hp => by rw [List.mem_singleton.1 hp]; exact h, fun i hi => absurd hi (by simp), by simp⟩
theorem Ch.last {l : List Po} (h : Ch N s l) : okP N (lastP l) := h.ok _ (nthP_mem (by have := h.pos; omega))
theorem Ch.step (hg : N.good = true) {l : List Po} (h : Ch N s l) {q : Po} (hq : nx N (lastP l) = some q) (hs : q ≠ s) : Ch N s (l ++ [q]) := by
  have hp := h.pos
  refine ⟨by simp, by rw [nthP_left hp]; exact h.head, fun p hm => ?_, fun i hi => ?_, ?_⟩
  · rcases List.mem_append.1 hm with hm | hm
    · exact h.ok p hm
    · rw [List.mem_singleton.1 hm]; exact nx_ok hg h.last hq
  · simp only [List.length_append, List.length_cons, List.length_nil] at hi
    by_cases e : i + 1 < l.length
    · rw [nthP_left e, nthP_left (by omega)]; exact h.link i e
    · obtain rfl : i = l.length - 1 := by omega
      rw [nthP_left (by omega), show l.length - 1 + 1 = l.length by omega, nthP_at]
      exact hq
  · refine List.nodup_append.2 ⟨h.nd, by simp, fun a ha b hb e => ?_⟩
    rw [List.mem_singleton.1 hb] at e
    subst e
    obtain ⟨j, hj, e⟩ := mem_nthP ha
    match j, hj, e with
    | 0, _, e => exact hs (by rw [← e]; exact h.head)
    | j + 1, hj, e =>
      have h1 := h.link j hj
      rw [e] at h1
      have h2 := nx_inj hg (h.ok _ (nthP_mem (by omega))) h.last h1 hq
      have := nthP_inj h.nd (by omega) (by omega) h2
      omega
theorem Ch.len (hg : N.good = true) {l : List Po} (h : Ch N s l) : l.length ≤ 240 := by
  have h1 := subLen l grid h.nd (fun p hp => by
    obtain ⟨a, b⟩ := h.ok p hp
    have := (good_n hg).2
    have := good_deg hg a
    unfold degAt at b
    exact mem_grid (by omega) (by omega))
  rwa [grid_len] at h1
end

/-- l is the whole trail that begins at s; c: it is closed -/
def TrO (N : NetD) (s : Po) (l : List Po) (c : Bool) : Prop := Ch N s l ∧ nx N (lastP l) = if c = true then some s else none
section
variable {N : NetD} {s : Po}
theorem TrO.le {l l' : List Po} {c c' : Bool} (h : TrO N s l c) (h' : TrO N s l' c') : l'.length ≤ l.length ∧ ∀ i, i < l'.length → nthP l i = nthP l' i := by
  have hp := h.1.pos
  have key : ∀ i, i < l.length → i < l'.length → nthP l i = nthP l' i := by
    intro i
    induction i with
    | zero => intro _ _; rw [h.1.head, h'.1.head]
    | succ i ih =>
      intro h1 h2
      have e1 := h.1.link i h1
      have e2 := h'.1.link i h2
      rw [ih (by omega) (by omega), e2] at e1
      injection e1 with e1
      exact e1.symm
  have hle : l'.length ≤ l.length := by
    rcases Nat.lt_or_ge l.length l'.length with h1 | h1
    · exfalso
      have e1 := h'.1.link (l.length - 1) (by omega)
      rw [← key (l.length - 1) (by omega) (by omega)] at e1
      have e2 := h.2
      unfold lastP at e2
      rw [e1] at e2
      split at e2
      · injection e2 with e2
        rw [show l.length - 1 + 1 = l.length by omega] at e2
        have := nthP_inj h'.1.nd (i := l.length) (j := 0) h1 (by omega) (by rw [e2, h'.1.head])
        omega
      · cases e2
    · exact h1
  exact ⟨hle, fun i hi => key i (by omega) hi⟩
theorem TrO.uniq {l l' : List Po} {c c' : Bool} (h : TrO N s l c) (h' : TrO N s l' c') : l = l' ∧ c = c' := by
  have h1 := h.le h'
  have h2 := h'.le h
  obtain rfl : l = l' := ext_nthP (by omega) (fun i hi => h1.2 i (by omega))
  refine ⟨rfl, ?_⟩
  have e := h.2.symm.trans h'.2
  cases c <;> cases c' <;> simp at e <;> rfl
theorem TrO.ex (hg : N.good = true) (hs : okP N s) : ∃ l c, TrO N s l c := by
  suffices h : ∀ (k : Nat) (l : List Po), Ch N s l → 241 - l.length ≤ k → ∃ l c, TrO N s l c from h 241 [s] (Ch.one hs) (by simp)
  intro k
  induction k with
  | zero => intro l hl hk; have := hl.len hg; omega
  | succ k ih =>
    intro l hl hk
    cases hn : nx N (lastP l) with
    | none => exact ⟨l, false, hl, by rw [hn]; rfl⟩
    | some q =>
      by_cases e : q = s
      · exact ⟨l, true, hl, by rw [hn, e]; rfl⟩
      · exact ih _ (hl.step hg hn e) (by have := hl.len hg; simp; omega)
end
open Classical in
/-- the trail from s -/
noncomputable def trl (N : NetD) (s : Po) : List Po := if h : ∃ l c, TrO N s l c then h.choose else []
open Classical in
noncomputable def trc (N : NetD) (s : Po) : Bool := decide (∃ l, TrO N s l true)
section
variable {N : NetD} {s : Po}
theorem TrO.eq {l : List Po} {c : Bool} (h : TrO N s l c) : trl N s = l ∧ trc N s = c := by
  constructor
  · unfold trl
    have hx : ∃ l c, TrO N s l c := ⟨l, c, h⟩
    rw [dif_pos hx]
    obtain ⟨c', h'⟩ := hx.choose_spec
    exact (h'.uniq h).1
  · unfold trc
    cases c with
    | true => simp only [decide_eq_true_eq]; exact ⟨l, h⟩
    | false => simp only [decide_eq_false_iff_not]; exact fun ⟨l', h'⟩ => by have := (h'.uniq h).2; cases this
theorem trl_is (hg : N.good = true) (hs : okP N s) : TrO N s (trl N s) (trc N s) := by
  obtain ⟨l, c, h⟩ := TrO.ex hg hs
  rw [h.eq.1, h.eq.2]
  exact h
theorem trc_of_open (hg : N.good = true) (hs : okP N s) (h : pairedB N s = false) : trc N s = false := by
  have h1 := trl_is hg hs
  cases hc : trc N s with
  | false => rfl
  | true =>
    rw [hc] at h1
    have := (nx_back hg h1.1.last h1.2).1
    rw [h] at this; cases this
end

/-! ### marks -/
def markE (N : NetD) (U : Int → Int → Bool) (p : Po) : Int → Int → Bool := setU (setU U p.1 p.2) (ep N p).1 (ep N p).2
def markL (N : NetD) (U : Int → Int → Bool) (l : List Po) : Int → Int → Bool := l.foldl (markE N) U
def at_ (U : Int → Int → Bool) (p : Po) : Bool := U p.1 p.2
theorem at_setU (U : Int → Int → Bool) (q p : Po) : at_ (setU U q.1 q.2) p = (decide (p = q) || at_ U p) := by
  unfold at_ setU
  congr 1
  rw [Bool.eq_iff_iff]
  simp
  constructor
  · rintro ⟨h1, h2⟩; exact Prod.ext (by omega) (by omega)
  · rintro rfl; exact ⟨rfl, rfl⟩
theorem at_markE (N : NetD) (U : Int → Int → Bool) (q p : Po) : at_ (markE N U q) p = true ↔ at_ U p = true ∨ p = q ∨ p = ep N q := by
  unfold markE
  rw [at_setU _ (ep N q), at_setU _ q]
  simp only [Bool.or_eq_true, decide_eq_true_eq]
  constructor
  · rintro (h | h | h)
    · exact .inr (.inr h)
    · exact .inr (.inl h)
    · exact .inl h
  · rintro (h | h | h)
    · exact .inr (.inr h)
    · exact .inr (.inl h)
    · exact .inl h
theorem at_markL (N : NetD) (p : Po) : ∀ (l : List Po) (U : Int → Int → Bool), at_ (markL N U l) p = true ↔ at_ U p = true ∨ ∃ q ∈ l, p = q ∨ p = ep N q
  | [], U => by simp [markL]
  | x :: l, U => by
    show at_ (markL N (markE N U x) l) p = true ↔ _
    rw [at_markL N p l, at_markE]
    simp only [List.mem_cons, exists_eq_or_imp, or_assoc]
theorem markL_snoc (N : NetD) (U : Int → Int → Bool) (l : List Po) (x : Po) : markL N U (l ++ [x]) = markE N (markL N U l) x := by simp [markL]
theorem markL_take (N : NetD) (U : Int → Int → Bool) (l : List Po) {k : Nat} (h : k < l.length) : markL N U (l.take (k + 1)) = markE N (markL N U (l.take k)) (nthP l k) := by
  rw [List.take_succ_eq_append_getElem h, markL_snoc, nthP_eq h]

/-- marked ports come with their edges' other ends and with their partners -/
def Cl (N : NetD) (U : Int → Int → Bool) : Prop := ∀ p, okP N p → at_ U p = true → at_ U (ep N p) = true ∧ (pairedB N p = true → at_ U (pi p) = true)
def NoOp (N : NetD) (U : Int → Int → Bool) : Prop := ∀ p, okP N p → pairedB N p = false → at_ U p = true
section
variable {N : NetD}
theorem Cl.mark (hg : N.good = true) {U : Int → Int → Bool} (h : Cl N U) {s : Po} {l : List Po} {c : Bool} (ht : TrO N s l c) (hs : c = true ∨ pairedB N s = false) : Cl N (markL N U l) := by
  intro p hp hU
  have hpos := ht.1.pos
  have M : ∀ {x : Po}, at_ (markL N U l) x = true ↔ at_ U x = true ∨ ∃ q ∈ l, x = q ∨ x = ep N q := fun {x} => at_markL N x l U
  rcases M.1 hU with h1 | ⟨q, hq, h1⟩
  · obtain ⟨a, b⟩ := h p hp h1
    exact ⟨M.2 (.inl a), fun hpb => M.2 (.inl (b hpb))⟩
  · have hqo := ht.1.ok q hq
    obtain ⟨i, hi, hqi⟩ := mem_nthP hq
    rcases h1 with rfl | rfl
    · refine ⟨M.2 (.inr ⟨p, hq, .inr rfl⟩), fun hpb => ?_⟩
      match i, hi, hqi with
      | 0, hi, hqi =>
        rw [ht.1.head] at hqi
        subst hqi
        rcases hs with rfl | hs
        · have := ht.2
          rw [if_pos rfl] at this
          rw [(nx_back hg ht.1.last this).2.1]
          exact M.2 (.inr ⟨lastP l, nthP_mem (by omega), .inr rfl⟩)
        · rw [hpb] at hs; cases hs
      | i + 1, hi, hqi =>
        have h2 := ht.1.link i hi
        rw [hqi] at h2
        have hio := ht.1.ok _ (nthP_mem (l := l) (i := i) (by omega))
        rw [(nx_back hg hio h2).2.1]
        exact M.2 (.inr ⟨nthP l i, nthP_mem (by omega), .inr rfl⟩)
    · refine ⟨by rw [(ep_ok hg hqo).2]; exact M.2 (.inr ⟨q, hq, .inl rfl⟩), fun hpb => ?_⟩
      have h2 := nx_yes hpb
      by_cases e : i + 1 < l.length
      · have h3 := ht.1.link i e
        rw [hqi, h2] at h3
        injection h3 with h3
        rw [h3]
        exact M.2 (.inr ⟨_, nthP_mem e, .inl rfl⟩)
      · obtain rfl : i = l.length - 1 := by omega
        have h3 := ht.2
        rw [show lastP l = q from hqi, h2] at h3
        split at h3
        · injection h3 with h3
          rw [h3, ← ht.1.head]
          exact M.2 (.inr ⟨_, nthP_mem hpos, .inl rfl⟩)
        · cases h3
/-- what is left unmarked behind the first pass lies on closed trails -/
theorem Cl.closed (hg : N.good = true) {U : Int → Int → Bool} (h : Cl N U) (hn : NoOp N U) {s : Po} (hs : okP N s) (hU : at_ U s = false) : pairedB N s = true ∧ trc N s = true := by
  have hp : pairedB N s = true := by
    cases hc : pairedB N s with
    | true => rfl
    | false => rw [hn s hs hc] at hU; cases hU
  refine ⟨hp, ?_⟩
  cases hc : trc N s with
  | true => rfl
  | false =>
    exfalso
    have ht := trl_is hg hs
    rw [hc] at ht
    generalize trl N s = l at ht
    have hpos := ht.1.pos
    have hlo := ht.1.last
    have h1 : pairedB N (ep N (lastP l)) = false := by
      cases hx : pairedB N (ep N (lastP l)) with
      | false => rfl
      | true => have := ht.2; rw [nx_yes hx] at this; cases this
    have h2 := hn _ (ep_ok hg hlo).1 h1
    have h3 := (h _ (ep_ok hg hlo).1 h2).1
    rw [(ep_ok hg hlo).2] at h3
    have back : ∀ k, k < l.length → at_ U (nthP l (l.length - 1 - k)) = true := by
      intro k
      induction k with
      | zero => intro _; exact h3
      | succ k ih =>
        intro hk
        have a := ih (by omega)
        have hlk := ht.1.link (l.length - 1 - (k + 1)) (by omega)
        rw [show l.length - 1 - (k + 1) + 1 = l.length - 1 - k by omega] at hlk
        have hko := ht.1.ok _ (nthP_mem (l := l) (i := l.length - 1 - (k + 1)) (by omega))
        obtain ⟨b1, b2, b3⟩ := nx_back hg hko hlk
        have hqo := ht.1.ok _ (nthP_mem (l := l) (i := l.length - 1 - k) (by omega))
        have c1 := (h _ hqo a).2 b1
        have c2 := (h _ (pi_ok hqo b1).1 c1).1
        rw [b3] at c2
        exact c2
    have := back (l.length - 1) (by omega)
    rw [Nat.sub_self, ht.1.head, hU] at this
    cases this
end

/-! ### the two passes -/
structure TSt where
  seen : Int → Int → Bool
  out : List (List Po)
noncomputable def addT (N : NetD) (σ : TSt) (p : Po) : TSt := ⟨markL N σ.seen (trl N p), σ.out ++ [trl N p]⟩
/-- second: the pass that takes what is left -/
def skipB (N : NetD) (second : Bool) (σ : TSt) (p : Po) : Bool := at_ σ.seen p || (!second && pairedB N p)
noncomputable def stepT (N : NetD) (second : Bool) (v m : Nat) (σ : TSt) : TSt := if skipB N second σ (v, m) = true then σ else addT N σ (v, m)
noncomputable def rowT (N : NetD) (second : Bool) (v : Nat) : Nat → TSt → TSt
  | 0, σ => σ
  | m + 1, σ => stepT N second v m (rowT N second v m σ)
noncomputable def passT (N : NetD) (second : Bool) : Nat → TSt → TSt
  | 0, σ => σ
  | k + 1, σ => rowT N second k (degAt N k) (passT N second k σ)
def t0 : TSt := ⟨fun _ _ => false, []⟩
def headP (l : List Po) : Po := nthP l 0
/-- what holds all along -/
structure TInv (N : NetD) (σ : TSt) : Prop where
  cl : Cl N σ.seen
  mem : ∀ l ∈ σ.out, ∃ s c, okP N s ∧ TrO N s l c
  nd : (σ.out.map headP).Nodup
  hs : ∀ l ∈ σ.out, at_ σ.seen (headP l) = true
section
variable {N : NetD}
theorem TInv.zero (N : NetD) : TInv N t0 := ⟨fun p _ h => (by cases h), fun l hl => (by cases hl), (by simp [t0]), fun l hl => (by cases hl)⟩
theorem seen_mono {σ : TSt} {p q : Po} (h : at_ σ.seen q = true) : at_ (addT N σ p).seen q = true := (at_markL N q _ _).2 (.inl h)
theorem TInv.add (hg : N.good = true) {σ : TSt} (h : TInv N σ) {p : Po} (hp : okP N p) (hU : at_ σ.seen p = false) (hc : trc N p = true ∨ pairedB N p = false) : TInv N (addT N σ p) := by
  have ht := trl_is hg hp
  have hh : headP (trl N p) = p := ht.1.head
  refine ⟨h.cl.mark hg ht hc, fun l hl => ?_, ?_, fun l hl => ?_⟩
  · rcases List.mem_append.1 hl with hl | hl
    · exact h.mem l hl
    · rw [List.mem_singleton.1 hl]; exact ⟨p, _, hp, ht⟩
  · show ((σ.out ++ [trl N p]).map headP).Nodup
    rw [List.map_append]
    refine List.nodup_append.2 ⟨h.nd, by simp, fun a ha b hb e => ?_⟩
    simp only [List.map_cons, List.map_nil, List.mem_singleton] at hb
    obtain ⟨l, hl, rfl⟩ := List.mem_map.1 ha
    have := h.hs l hl
    rw [e, hb, hh, hU] at this
    cases this
  · rcases List.mem_append.1 hl with hl | hl
    · exact seen_mono (h.hs l hl)
    · rw [List.mem_singleton.1 hl, hh]
      exact (at_markL N p _ _).2 (.inr ⟨p, by have := nthP_mem ht.1.pos; rw [ht.1.head] at this; exact this, .inl rfl⟩)
theorem skip_no {second : Bool} {σ : TSt} {p : Po} (h : skipB N second σ p = false) : at_ σ.seen p = false ∧ (second = false → pairedB N p = false) := by
  unfold skipB at h
  rw [Bool.or_eq_false_iff] at h
  exact ⟨h.1, fun e => by rw [e] at h; simpa using h.2⟩
theorem stepT_skip {second : Bool} {v m : Nat} {σ : TSt} (h : skipB N second σ (v, m) = true) : stepT N second v m σ = σ := by unfold stepT; rw [if_pos h]
theorem stepT_add {second : Bool} {v m : Nat} {σ : TSt} (h : skipB N second σ (v, m) = false) : stepT N second v m σ = addT N σ (v, m) := by unfold stepT; rw [if_neg (by rw [h]; simp)]
theorem step_mono {second : Bool} {v m : Nat} {σ : TSt} {q : Po} (h : at_ σ.seen q = true) : at_ (stepT N second v m σ).seen q = true := by
  unfold stepT
  split
  · exact h
  · exact seen_mono h
theorem row_mono {second : Bool} {v : Nat} {σ : TSt} {q : Po} (h : at_ σ.seen q = true) : ∀ m, at_ (rowT N second v m σ).seen q = true
  | 0 => h
  | m + 1 => step_mono (row_mono h m)
/-- the first pass -/
theorem first_step (hg : N.good = true) {v m : Nat} {σ : TSt} (hp : okP N (v, m)) (h : TInv N σ) : TInv N (stepT N false v m σ) ∧ (pairedB N (v, m) = false → at_ (stepT N false v m σ).seen (v, m) = true) := by
  cases hs : skipB N false σ (v, m) with
  | true =>
    rw [stepT_skip hs]
    refine ⟨h, fun e => ?_⟩
    unfold skipB at hs
    rw [e] at hs
    simpa using hs
  | false =>
    rw [stepT_add hs]
    obtain ⟨h1, h2⟩ := skip_no hs
    refine ⟨h.add hg hp h1 (.inr (h2 rfl)), fun _ => ?_⟩
    have ht := trl_is hg hp
    exact (at_markL N _ _ _).2 (.inr ⟨(v, m), by have := nthP_mem ht.1.pos; rw [ht.1.head] at this; exact this, .inl rfl⟩)
theorem first_row (hg : N.good = true) {v : Nat} (hv : v < N.ends.length) {σ : TSt} (h : TInv N σ) : ∀ m, m ≤ degAt N v → TInv N (rowT N false v m σ) ∧ ∀ i, i < m → pairedB N (v, i) = false → at_ (rowT N false v m σ).seen (v, i) = true
  | 0, _ => ⟨h, fun i hi => absurd hi (by omega)⟩
  | m + 1, hm => by
    obtain ⟨h1, h2⟩ := first_row hg hv h m (by omega)
    obtain ⟨h3, h4⟩ := first_step hg (v := v) (m := m) ⟨hv, hm⟩ h1
    refine ⟨h3, fun i hi e => ?_⟩
    by_cases e2 : i = m
    · subst e2; exact h4 e
    · exact step_mono (h2 i (by omega) e)
theorem first_pass (hg : N.good = true) : ∀ k, k ≤ N.ends.length → TInv N (passT N false k t0) ∧ ∀ p : Po, okP N p → p.1 < k → pairedB N p = false → at_ (passT N false k t0).seen p = true
  | 0, _ => ⟨TInv.zero N, fun p _ hp => absurd hp (by omega)⟩
  | k + 1, hk => by
    obtain ⟨h1, h2⟩ := first_pass hg k (by omega)
    obtain ⟨h3, h4⟩ := first_row hg (v := k) (by omega) h1 (degAt N k) (Nat.le_refl _)
    refine ⟨h3, fun p hp hpk e => ?_⟩
    by_cases e2 : p.1 = k
    · obtain ⟨a, b⟩ := p
      dsimp only at e2
      subst e2
      exact h4 b hp.2 e
    · exact row_mono (h2 p hp (by omega) e) _
/-- the state behind the first pass -/
noncomputable def t1 (N : NetD) : TSt := passT N false N.ends.length t0
structure TInv2 (N : NetD) (σ : TSt) : Prop where
  inv : TInv N σ
  no : NoOp N σ.seen
theorem second_start (hg : N.good = true) : TInv2 N (t1 N) := ⟨(first_pass hg _ (Nat.le_refl _)).1, fun p hp e => (first_pass hg _ (Nat.le_refl _)).2 p hp hp.1 e⟩
theorem TInv2.left (hg : N.good = true) {σ : TSt} (h : TInv2 N σ) {p : Po} (hp : okP N p) (hU : at_ σ.seen p = false) : pairedB N p = true ∧ trc N p = true := h.inv.cl.closed hg h.no hp hU
theorem second_step (hg : N.good = true) {v m : Nat} {σ : TSt} (hp : okP N (v, m)) (h : TInv2 N σ) : TInv2 N (stepT N true v m σ) := by
  refine ⟨?_, fun p hp e => step_mono (h.no p hp e)⟩
  cases hs : skipB N true σ (v, m) with
  | true => rw [stepT_skip hs]; exact h.inv
  | false =>
    rw [stepT_add hs]
    obtain ⟨h1, _⟩ := skip_no hs
    exact h.inv.add hg hp h1 (.inl (h.left hg hp h1).2)
theorem second_row (hg : N.good = true) {v : Nat} (hv : v < N.ends.length) {σ : TSt} (h : TInv2 N σ) : ∀ m, m ≤ degAt N v → TInv2 N (rowT N true v m σ)
  | 0, _ => h
  | m + 1, hm => second_step hg (v := v) (m := m) ⟨hv, hm⟩ (second_row hg hv h m (by omega))
theorem second_pass (hg : N.good = true) : ∀ k, k ≤ N.ends.length → TInv2 N (passT N true k (t1 N))
  | 0, _ => second_start hg
  | k + 1, hk => second_row hg (by omega) (second_pass hg k (by omega)) _ (Nat.le_refl _)
/-- how many trails -/
theorem step_len (second : Bool) (v m : Nat) (σ : TSt) : (stepT N second v m σ).out.length ≤ σ.out.length + 1 := by
  unfold stepT
  split
  · omega
  · simp [addT]
theorem row_len (second : Bool) (v : Nat) (σ : TSt) : ∀ m, (rowT N second v m σ).out.length ≤ σ.out.length + m
  | 0 => Nat.le_refl _
  | m + 1 => by have := step_len (N := N) second v m (rowT N second v m σ); have := row_len second v σ m; show (stepT N second v m _).out.length ≤ _; omega
theorem TInv.len (hg : N.good = true) {σ : TSt} (h : TInv N σ) : σ.out.length ≤ 240 := by
  have h1 := subLen (σ.out.map headP) grid h.nd (fun p hp => by
    obtain ⟨l, hl, rfl⟩ := List.mem_map.1 hp
    obtain ⟨s, c, hs, ht⟩ := h.mem l hl
    have e : headP l = s := ht.1.head
    rw [e]
    have := (good_n hg).2
    have := good_deg hg hs.1
    have h1 := hs.1
    have := hs.2
    unfold degAt at this
    exact mem_grid (by omega) (by omega))
  rwa [grid_len, List.length_map] at h1
/-- the trails, in the order in which they are found -/
noncomputable def found (N : NetD) : List (List Po) := (passT N true N.ends.length (t1 N)).out
theorem found_inv (hg : N.good = true) : TInv N (passT N true N.ends.length (t1 N)) := (second_pass hg _ (Nat.le_refl _)).inv
theorem found_ch (hg : N.good = true) {l : List Po} (hl : l ∈ found N) : ∃ s, okP N s ∧ Ch N s l := by
  obtain ⟨s, c, hs, ht⟩ := (found_inv hg).mem l hl
  exact ⟨s, hs, ht.1⟩
end

end Go.Proofs.Ytmfjdiccohgihaa
