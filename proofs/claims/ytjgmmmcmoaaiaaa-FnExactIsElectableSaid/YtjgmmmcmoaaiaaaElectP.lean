/-
  Plain: numbers that spread by their least, round by round.
-/
import Derived.Test.YtjgmmmcmoaaiaaaDefP
import Derived.Test.YtjgmmmcmoaaiaaaDistC
namespace Go.Proofs.Ytjgmmmcmoaaiaaa
set_option linter.unusedVariables false

/-- a list of identifiers, one for each node -/
structure EL (n : Nat) (l : List Int) : Prop where
  len : l.length = n
  val : ∀ j, j < n → 1 ≤ nth l j ∧ nth l j ≤ 999999
def portNode (N : NetD) (v i : Nat) : Nat := (nthE (nthL N.ends v) i).1.toNat
def tellK (N : NetD) (kn : List Int) (v : Nat) (nx : List Int) : Nat → List Int
  | 0 => nx
  | k + 1 => (tellK N kn v nx k).set (portNode N v k) (min (nth (tellK N kn v nx k) (portNode N v k)) (nth kn v))
def tellA (N : NetD) (kn snd : List Int) : Nat → List Int
  | 0 => kn
  | a + 1 => tellK N kn (nth snd a).toNat (tellA N kn snd a) (nthL N.ends (nth snd a).toNat).length
def elNext (N : NetD) (kn snd : List Int) : List Int := tellA N kn snd snd.length
def elSentA (N : NetD) (snd : List Int) (a : Nat) : Nat := sumN (fun k => (nthL N.ends (nth snd k).toNat).length) a
def elSent (N : NetD) (snd : List Int) : Nat := elSentA N snd snd.length
def sndOf (n : Nat) (p : Nat → Bool) : List Int := ((List.range n).filter p).map fun (k : Nat) => (k : Int)
def cntP (p : Nat → Bool) (v : Nat) : Nat := ((List.range v).filter p).length
def freshP (kn nx : List Int) (v : Nat) : Bool := decide (nth nx v < nth kn v)
theorem portNode_lt {N : NetD} (hg : N.good = true) {v i : Nat} (hv : v < N.ends.length) (hi : i < (nthL N.ends v).length) : portNode N v i < N.ends.length ∧ Adj N v (portNode N v i) := by
  obtain ⟨t, r, e, ht, _⟩ := good_end hg hv hi
  unfold portNode
  rw [e]
  exact ⟨by simpa using ht, hv, by simpa using ht, i, hi, by rw [e]; simp⟩
theorem cntP_succ (p : Nat → Bool) (v : Nat) : cntP p (v + 1) = cntP p v + if p v = true then 1 else 0 := by
  unfold cntP
  rw [List.range_succ, List.filter_append, List.length_append]
  by_cases h : p v = true
  · rw [if_pos h]; simp [h]
  · rw [if_neg h]; simp [h]
theorem snd_get (p : Nat → Bool) : ∀ n v, v < n → p v = true → ((List.range n).filter p)[cntP p v]? = some v
  | n + 1, v, hv, hp => by
    rw [List.range_succ, List.filter_append]
    by_cases e : v = n
    · subst e
      rw [List.getElem?_append_right (by unfold cntP; exact Nat.le_refl _)]
      simp [cntP, hp]
    · have := snd_get p n v (by omega) hp
      rw [List.getElem?_append_left (List.getElem?_eq_some_iff.1 this).1]
      exact this
theorem snd_at {n v : Nat} {p : Nat → Bool} (hv : v < n) (hp : p v = true) : cntP p v < (sndOf n p).length ∧ nth (sndOf n p) (cntP p v) = v := by
  have := snd_get p n v hv hp
  obtain ⟨h1, h2⟩ := List.getElem?_eq_some_iff.1 this
  refine ⟨by simpa [sndOf] using h1, ?_⟩
  simp [sndOf, nth, this]
theorem snd_len (n : Nat) (p : Nat → Bool) : (sndOf n p).length = cntP p n := by simp [sndOf, cntP]
theorem snd_mem {n : Nat} {p : Nat → Bool} {x : Int} : x ∈ sndOf n p ↔ ∃ v : Nat, v < n ∧ p v = true ∧ x = v := by
  simp only [sndOf, List.mem_map, List.mem_filter, List.mem_range]
  constructor
  · rintro ⟨v, ⟨h1, h2⟩, h3⟩; exact ⟨v, h1, h2, h3.symm⟩
  · rintro ⟨v, h1, h2, h3⟩; exact ⟨v, ⟨h1, h2⟩, h3.symm⟩
theorem snd_nth {n a : Nat} {p : Nat → Bool} (ha : a < (sndOf n p).length) : ∃ v : Nat, v < n ∧ p v = true ∧ nth (sndOf n p) a = v := snd_mem.1 (nth_mem ha)
theorem cntP_le (p : Nat → Bool) (v : Nat) : cntP p v ≤ v := by unfold cntP; exact Nat.le_trans (List.length_filter_le _ _) (by simp)

section
variable {N : NetD} {kn nx : List Int} {v : Nat}
theorem tellK_ok (hg : N.good = true) (hk : EL N.ends.length kn) (hn : EL N.ends.length nx) (hv : v < N.ends.length) : ∀ k, k ≤ (nthL N.ends v).length →
    EL N.ends.length (tellK N kn v nx k) ∧ (∀ j, j < N.ends.length → nth (tellK N kn v nx k) j ≤ nth nx j) ∧ ∀ i, i < k → nth (tellK N kn v nx k) (portNode N v i) ≤ nth kn v
  | 0, _ => ⟨hn, fun j _ => Int.le_refl _, fun i hi => absurd hi (by omega)⟩
  | k + 1, hk2 => by
    obtain ⟨h1, h2, h3⟩ := tellK_ok hg hk hn hv k (by omega)
    have hp := (portNode_lt hg hv (i := k) (by omega)).1
    have hs : ∀ j, nth (tellK N kn v nx (k + 1)) j = if j = portNode N v k then min (nth (tellK N kn v nx k) (portNode N v k)) (nth kn v) else nth (tellK N kn v nx k) j := fun j => by
      rw [tellK, nth_set _ _ _ _ (by rw [h1.len]; exact hp)]
    refine ⟨⟨by rw [tellK, List.length_set]; exact h1.len, fun j hj => ?_⟩, fun j hj => ?_, fun i hi => ?_⟩
    · rw [hs]
      have a := h1.val j hj
      have b := h1.val _ hp
      have c := hk.val v hv
      split <;> omega
    · rw [hs]
      have a := h2 j hj
      split
      · rename_i e; subst e; omega
      · exact a
    · rw [hs]
      by_cases e : portNode N v i = portNode N v k
      · rw [if_pos e]; omega
      · rw [if_neg e]
        by_cases e2 : i = k
        · subst e2; exact absurd rfl e
        · exact h3 i (by omega)
theorem tellA_ok (hg : N.good = true) (hk : EL N.ends.length kn) {p : Nat → Bool} : ∀ a, a ≤ (sndOf N.ends.length p).length →
    EL N.ends.length (tellA N kn (sndOf N.ends.length p) a) ∧ (∀ j, j < N.ends.length → nth (tellA N kn (sndOf N.ends.length p) a) j ≤ nth kn j) ∧
      ∀ b v t, b < a → nth (sndOf N.ends.length p) b = (v : Nat) → Adj N v t → nth (tellA N kn (sndOf N.ends.length p) a) t ≤ nth kn v
  | 0, _ => ⟨hk, fun j _ => Int.le_refl _, fun b v t hb => absurd hb (by omega)⟩
  | a + 1, ha => by
    obtain ⟨h1, h2, h3⟩ := tellA_ok hg hk (p := p) a (by omega)
    obtain ⟨u, hu, _, e⟩ := snd_nth (n := N.ends.length) (p := p) (a := a) (by omega)
    have e' : (nth (sndOf N.ends.length p) a).toNat = u := by omega
    obtain ⟨k1, k2, k3⟩ := tellK_ok hg hk h1 hu _ (Nat.le_refl _)
    rw [tellA, e']
    refine ⟨k1, fun j hj => Int.le_trans (k2 j hj) (h2 j hj), fun b v t hb hv ha2 => ?_⟩
    by_cases eb : b = a
    · subst eb
      have : v = u := by omega
      subst this
      obtain ⟨_, ht, i, hi, he⟩ := ha2
      have := k3 i hi
      have ep : portNode N v i = t := by unfold portNode; rw [he]; simp
      rw [ep] at this
      exact this
    · exact Int.le_trans (k2 t ha2.2.1) (h3 b v t (by omega) hv ha2)
end
theorem next_ok {N : NetD} {kn : List Int} (hg : N.good = true) (hk : EL N.ends.length kn) (p : Nat → Bool) :
    EL N.ends.length (elNext N kn (sndOf N.ends.length p)) ∧ (∀ j, j < N.ends.length → nth (elNext N kn (sndOf N.ends.length p)) j ≤ nth kn j) ∧
      ∀ v t, p v = true → Adj N v t → nth (elNext N kn (sndOf N.ends.length p)) t ≤ nth kn v := by
  obtain ⟨h1, h2, h3⟩ := tellA_ok hg hk (p := p) _ (Nat.le_refl _)
  refine ⟨h1, h2, fun v t hp ha => ?_⟩
  obtain ⟨q1, q2⟩ := snd_at (n := N.ends.length) ha.1 hp
  exact h3 _ v t q1 q2 ha
theorem elSent_le {N : NetD} (hg : N.good = true) (p : Nat → Bool) {a : Nat} (ha : a ≤ (sndOf N.ends.length p).length) : elSentA N (sndOf N.ends.length p) a ≤ 6 * a := by
  have : elSentA N (sndOf N.ends.length p) a ≤ sumN (fun _ => 6) a := sumN_le fun k hk => by
    obtain ⟨u, hu, _, e⟩ := snd_nth (n := N.ends.length) (p := p) (a := k) (by omega)
    have e' : (nth (sndOf N.ends.length p) k).toNat = u := by omega
    rw [e']
    exact good_deg hg hu
  rw [sumN_const] at this
  omega
/-- the program's next senders -/
theorem fresh_eq {N : NetD} {kn nx : List Int} (h : ∀ j, j < N.ends.length → nth nx j ≤ nth kn j) :
    (upTo N.ends.length).filter (fun x => !(nth nx x.toNat == nth kn x.toNat)) = sndOf N.ends.length (freshP kn nx) := by
  unfold upTo sndOf
  rw [List.filter_map]
  congr 1
  apply List.filter_congr
  intro v hv
  have := h v (List.mem_range.1 hv)
  unfold freshP
  simp only [Function.comp, Int.toNat_natCast]
  by_cases e : nth nx v = nth kn v
  · rw [e]; simp
  · have h2 : nth nx v < nth kn v := by omega
    simp [e, h2]

theorem sumN_eq_zero' {f : Nat → Nat} : ∀ {n : Nat}, sumN f n = 0 → ∀ k, k < n → f k = 0
  | n + 1, h, k, hk => by
    rw [sumN] at h
    by_cases e : k = n
    · subst e; omega
    · exact sumN_eq_zero' (n := n) (by omega) k (by omega)
structure ERes where
  known : List Int
  rounds : Nat
  msgs : Nat
def elGo (N : NetD) : Nat → List Int → (Nat → Bool) → Nat → Nat → ERes
  | 0, kn, _, r, m => ⟨kn, r, m⟩
  | f + 1, kn, p, r, m => if elSent N (sndOf N.ends.length p) = 0 then ⟨kn, r, m⟩ else
      elGo N f (elNext N kn (sndOf N.ends.length p)) (freshP kn (elNext N kn (sndOf N.ends.length p))) (r + 1) (m + elSent N (sndOf N.ends.length p))
def elMu (N : NetD) (kn : List Int) (p : Nat → Bool) : Nat := 2 * sumN (fun j => (nth kn j).toNat) N.ends.length + if elSent N (sndOf N.ends.length p) = 0 then 0 else 1
def elect (N : NetD) : ERes := elGo N (elMu N N.ids (fun _ => true) + 1) N.ids (fun _ => true) 0 0
structure ETop (N : NetD) (kn : List Int) (p : Nat → Bool) (r m : Nat) : Prop where
  el : EL N.ends.length kn
  inv : ∀ v t, p v = false → Adj N v t → nth kn t ≤ nth kn v
  cap : r + elMu N kn p ≤ 80000000
  msg : m ≤ 240 * r
  eq : ∃ f, elMu N kn p < f ∧ elect N = elGo N f kn p r m
theorem ETop.zero {N : NetD} (hg : N.good = true) (hk : EL N.ends.length N.ids) : ETop N N.ids (fun _ => true) 0 0 := by
  refine ⟨hk, (fun v t h => by cases h), ?_, Nat.zero_le _, _, Nat.lt_succ_self _, rfl⟩
  have := good_n hg
  have h1 : sumN (fun j => (nth N.ids j).toNat) N.ends.length ≤ sumN (fun _ => 999999) N.ends.length := sumN_le fun j hj => by have := hk.val j hj; omega
  rw [sumN_const] at h1
  unfold elMu
  split <;> omega
theorem ETop.stop {N : NetD} {kn : List Int} {p : Nat → Bool} {r m : Nat} (h : ETop N kn p r m) (hs : elSent N (sndOf N.ends.length p) = 0) : elect N = ⟨kn, r, m⟩ := by
  obtain ⟨f, hf, e⟩ := h.eq
  cases f with
  | zero => omega
  | succ f => rw [e, elGo, if_pos hs]
theorem sumN_lt {f g : Nat → Nat} {n : Nat} (h : ∀ k, k < n → f k ≤ g k) (hex : ∃ k, k < n ∧ f k < g k) : sumN f n < sumN g n := by
  obtain ⟨k, hk, hlt⟩ := hex
  have h1 : sumN (fun j => f j + if j = k then 1 else 0) n ≤ sumN g n := sumN_le fun j hj => by
    by_cases e : j = k
    · subst e; rw [if_pos rfl]; omega
    · rw [if_neg e]; exact h j hj
  rw [sumN_at hk] at h1
  omega
theorem ETop.step {N : NetD} (hg : N.good = true) {kn : List Int} {p : Nat → Bool} {r m : Nat} (h : ETop N kn p r m) (hs : elSent N (sndOf N.ends.length p) ≠ 0) :
    ETop N (elNext N kn (sndOf N.ends.length p)) (freshP kn (elNext N kn (sndOf N.ends.length p))) (r + 1) (m + elSent N (sndOf N.ends.length p)) := by
  obtain ⟨h1, h2, h3⟩ := next_ok hg h.el p
  have hmu : elMu N (elNext N kn (sndOf N.ends.length p)) (freshP kn (elNext N kn (sndOf N.ends.length p))) < elMu N kn p := by
    unfold elMu
    rw [if_neg hs]
    have hle : sumN (fun j => (nth (elNext N kn (sndOf N.ends.length p)) j).toNat) N.ends.length ≤ sumN (fun j => (nth kn j).toNat) N.ends.length := sumN_le fun j hj => by have := h2 j hj; omega
    by_cases e : elSent N (sndOf N.ends.length (freshP kn (elNext N kn (sndOf N.ends.length p)))) = 0
    · rw [if_pos e]; omega
    · rw [if_neg e]
      have hne : 0 < (sndOf N.ends.length (freshP kn (elNext N kn (sndOf N.ends.length p)))).length := by
        rcases Nat.eq_zero_or_pos (sndOf N.ends.length (freshP kn (elNext N kn (sndOf N.ends.length p)))).length with h0 | h0
        · exact absurd (by unfold elSent elSentA; rw [h0]; rfl) e
        · exact h0
      obtain ⟨v, hv, hf, _⟩ := snd_nth hne
      unfold freshP at hf
      have hf' := of_decide_eq_true hf
      have := sumN_lt (f := fun j => (nth (elNext N kn (sndOf N.ends.length p)) j).toNat) (g := fun j => (nth kn j).toNat) (n := N.ends.length) (fun j hj => by have := h2 j hj; omega) ⟨v, hv, by have := h1.val v hv; omega⟩
      omega
  have hsl := elSent_le hg p (Nat.le_refl _)
  have hcl := cntP_le p N.ends.length
  have hn := good_n hg
  rw [snd_len] at hsl
  refine ⟨h1, fun v t hf ha => ?_, by have := h.cap; omega, ?_, ?_⟩
  · unfold freshP at hf
    have hf' := of_decide_eq_false hf
    have hv := h2 v ha.1
    have ht := h2 t ha.2.1
    cases hp : p v with
    | true => have := h3 v t hp ha; omega
    | false => have := h.inv v t hp ha; omega
  · have := h.msg
    have e : elSent N (sndOf N.ends.length p) ≤ 6 * cntP p N.ends.length := by unfold elSent; rw [snd_len]; exact hsl
    omega
  · obtain ⟨f, hf, e⟩ := h.eq
    cases f with
    | zero => omega
    | succ f => exact ⟨f, by omega, by rw [e, elGo, if_neg hs]⟩
/-- all nodes are reached from the first one -/
def conn (N : NetD) : Bool := !decide ((-1 : Int) ∈ dist N 0)
theorem conn_way {N : NetD} (hg : N.good = true) (h : conn N = true) {j : Nat} (hj : j < N.ends.length) : 0 ≤ nth (dist N 0) j := by
  have h0 := (good_n hg).1
  have hn := good_nodes hg
  have := dist_low hn (v := 0) (by omega) hj
  unfold conn at h
  have h2 : ¬ (-1 : Int) ∈ dist N 0 := by simpa using h
  have h3 : nth (dist N 0) j ≠ -1 := fun e => h2 (by rw [← e]; exact nth_mem (by rw [dist_len hn (by omega)]; exact hj))
  omega
theorem ETop.same {N : NetD} (hg : N.good = true) {kn : List Int} {p : Nat → Bool} {r m : Nat} (h : ETop N kn p r m) (hc : conn N = true) (hs : elSent N (sndOf N.ends.length p) = 0) : ∀ j, j < N.ends.length → nth kn j = nth kn 0 := by
  have hno : ∀ v t, Adj N v t → p v = false := fun v t ha => by
    rw [Bool.eq_false_iff]
    intro hp
    obtain ⟨q1, q2⟩ := snd_at ha.1 hp
    have := sumN_eq_zero' hs _ q1
    rw [q2, Int.toNat_natCast] at this
    obtain ⟨_, _, i, hi, _⟩ := ha
    omega
  have hadj : ∀ v t, Adj N v t → nth kn v = nth kn t := fun v t ha => by
    have a := h.inv v t (hno v t ha) ha
    have b := h.inv t v (hno t v (ha.symm hg)) (ha.symm hg)
    omega
  have hw : ∀ k j, way N k 0 j → nth kn j = nth kn 0 := by
    intro k
    induction k with
    | zero => intro j e; rw [← (show 0 = j from e)]
    | succ k ih => intro j ⟨t, h1, h2⟩; rw [← hadj t j h2]; exact ih t h1
  intro j hj
  exact hw _ j (dist_way (good_nodes hg) (by have := good_n hg; omega) hj (conn_way hg hc hj))
def electOk (N : NetD) : Bool := N.good && (!decide (N.ids.length = 0) && conn N)

end Go.Proofs.Ytjgmmmcmoaaiaaa
