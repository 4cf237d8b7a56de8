/-
  Plain: the order of an acyclic orientation, node by node.
-/
import Derived.Test.YtjapdfdjgjajkaaPerm
import Derived.Test.YtjapdfdjgjajkaaOri4
namespace Go.Proofs.Ytjapdfdjgjajkaa
set_option linter.unusedVariables false

def doneIn (out : List Int) (v : Nat) : Bool := decide ((v : Int) ∈ out)
def portBad (N : NetD) (o : List (List Int)) (out : List Int) (v i : Nat) : Bool := decide (nth (nthL o v) i = 0) && !doneIn out (nthE (nthL N.ends v) i).1.toNat
def freeAt (N : NetD) (o : List (List Int)) (out : List Int) (v : Nat) : Bool := !doneIn out v && (List.range (nthL N.ends v).length).all fun i => !portBad N o out v i
def ordGo (N : NetD) (o : List (List Int)) : Nat → List Int → List Int
  | 0, out => out
  | f + 1, out => if fidxN (freeAt N o out) N.ends.length < 0 then out else ordGo N o f (out ++ [fidxN (freeAt N o out) N.ends.length])
def ordAll (N : NetD) (o : List (List Int)) : List Int := ordGo N o (N.ends.length + 1) []
/-- the list so far: nodes, each once -/
structure OInv (N : NetD) (out : List Int) : Prop where
  nodup : out.Nodup
  node : ∀ x ∈ out, 0 ≤ x ∧ x < N.ends.length
theorem nodup_len : ∀ (n : Nat) (l : List Int), l.Nodup → (∀ x ∈ l, 0 ≤ x ∧ x < n) → l.length ≤ n
  | 0, l, _, h => by
    cases l with
    | nil => exact Nat.le_refl _
    | cons x l => have := h x (by simp); omega
  | n + 1, l, hn, h => by
    by_cases hm : (n : Int) ∈ l
    · have := nodup_len n (l.erase (n : Int)) (hn.erase _) (fun x hx => by
        have h1 := h x (List.mem_of_mem_erase hx)
        have h2 : x ≠ n := fun e => by
          subst e
          exact (List.Nodup.not_mem_erase hn) hx
        omega)
      rw [List.length_erase_of_mem hm] at this
      omega
    · have := nodup_len n l hn (fun x hx => by
        have h1 := h x hx
        have h2 : x ≠ n := fun e => hm (e ▸ hx)
        omega)
      omega
theorem OInv.len {N : NetD} {out : List Int} (h : OInv N out) : out.length ≤ N.ends.length := nodup_len _ _ h.nodup h.node
theorem OInv.nil (N : NetD) : OInv N [] := ⟨List.nodup_nil, fun x hx => by cases hx⟩
theorem OInv.snoc {N : NetD} {o : List (List Int)} {out : List Int} (h : OInv N out) {v : Nat} (hv : v < N.ends.length) (hf : freeAt N o out v = true) : OInv N (out ++ [(v : Int)]) := by
  unfold freeAt at hf
  rw [Bool.and_eq_true] at hf
  have hm : (v : Int) ∉ out := by simpa [doneIn] using hf.1
  refine ⟨?_, fun x hx => ?_⟩
  · rw [List.nodup_append]
    exact ⟨h.nodup, by simp, fun a ha b hb => by simp at hb; subst hb; rintro rfl; exact hm ha⟩
  · simp only [List.mem_append, List.mem_singleton] at hx
    rcases hx with hx | rfl
    · exact h.node x hx
    · omega
/-- a full list has no free node -/
theorem OInv.full {N : NetD} {o : List (List Int)} {out : List Int} (h : OInv N out) (hl : out.length = N.ends.length) : fidxN (freeAt N o out) N.ends.length = -1 := by
  refine fidxN_none fun v hv => ?_
  rw [Bool.eq_false_iff]
  intro hf
  have := (h.snoc hv hf).len
  simp at this
  omega
structure OTop (N : NetD) (o : List (List Int)) (out : List Int) : Prop where
  inv : OInv N out
  eq : ordAll N o = ordGo N o (N.ends.length + 1 - out.length) out
theorem OTop.nil (N : NetD) (o : List (List Int)) : OTop N o [] := ⟨OInv.nil N, rfl⟩
theorem OTop.stop {N : NetD} {o : List (List Int)} {out : List Int} (h : OTop N o out) (hs : fidxN (freeAt N o out) N.ends.length < 0) : ordAll N o = out := by
  have := h.inv.len
  rw [h.eq, show N.ends.length + 1 - out.length = (N.ends.length - out.length) + 1 by omega, ordGo, if_pos hs]
theorem OTop.step {N : NetD} {o : List (List Int)} {out : List Int} (h : OTop N o out) {v : Nat} (hv : v < N.ends.length) (hs : fidxN (freeAt N o out) N.ends.length = v) (hf : freeAt N o out v = true) : OTop N o (out ++ [(v : Int)]) := by
  have := (h.inv.snoc hv hf).len
  simp at this
  refine ⟨h.inv.snoc hv hf, ?_⟩
  rw [h.eq, show N.ends.length + 1 - out.length = (N.ends.length + 1 - (out.length + 1)) + 1 by omega, ordGo, if_neg (by rw [hs]; omega), hs]
  simp
theorem ordAll_top (N : NetD) (o : List (List Int)) : OTop N o (ordAll N o) ∧ fidxN (freeAt N o (ordAll N o)) N.ends.length < 0 := by
  have key : ∀ f out, f = N.ends.length + 1 - out.length → OTop N o out → OTop N o (ordAll N o) ∧ fidxN (freeAt N o (ordAll N o)) N.ends.length < 0 := by
    intro f
    induction f with
    | zero => intro out hf h; have := h.inv.len; omega
    | succ f ih =>
      intro out hf h
      rcases fidxN_cases (freeAt N o out) N.ends.length with ⟨e, _⟩ | ⟨v, hv, e, hp, _⟩
      · rw [h.stop (by omega)]; exact ⟨h, by omega⟩
      · exact ih _ (by simp; omega) (h.step hv e hp)
  exact key _ [] rfl (OTop.nil N o)
def ordOk (N : NetD) (o : List (List Int)) : Bool := oriOk N o && decide ((ordAll N o).length = N.ends.length)
def ordFull (N : NetD) (o : List (List Int)) : Bool := decide ((ordAll N o).length = N.ends.length)
def ordLst (N : NetD) (o : List (List Int)) : List Int := if ordFull N o = true then ordAll N o else []
def ordOut (N : NetD) (o : List (List Int)) : List Int := if ordOk N o = true then ordAll N o else []
theorem ordOut_len (N : NetD) (o : List (List Int)) : (ordOut N o).length ≤ N.sz := by
  unfold ordOut NetD.sz szSS; split
  · have := (ordAll_top N o).1.inv.len; omega
  · exact Nat.zero_le _
/-- the reference's look at a port -/
def portOkS (N : NetD) (o : List (List Int)) (out : List Int) (v i : Nat) : Bool := (decide (nth (nthL o v) i = 1) && decide ((nthE (nthL N.ends v) i).1 ≠ (v : Int))) || doneIn out (nthE (nthL N.ends v) i).1.toNat
def freeS (N : NetD) (o : List (List Int)) (out : List Int) (v : Nat) : Bool := !doneIn out v && (List.range (nthL N.ends v).length).all (portOkS N o out v)
theorem ori_two {N : NetD} {o : List (List Int)} (h : oriOk N o = true) {v i : Nat} (hv : v < N.ends.length) (hi : i < (nthL N.ends v).length) {t r : Nat} (e : nthE (nthL N.ends v) i = ((t : Int), (r : Int))) : nth (nthL o v) i + nth (nthL o t) r = 1 := by
  obtain ⟨_, hg, _, _, hE⟩ := oriOk_parts h
  obtain ⟨t', r', e', ht, hr, eb⟩ := good_end hg hv hi
  rw [e] at e'
  simp only [Prod.mk.injEq, Int.natCast_inj] at e'
  obtain ⟨rfl, rfl⟩ := e'
  unfold oriE at hE
  rw [List.all_eq_true] at hE
  cases hf : firstB N v i with
  | true =>
    have := hE _ (mem_edges.2 ⟨v, i, hv, hi, hf, rfl⟩)
    unfold quadAt at this
    rw [e, edgeOne_nat] at this
    simpa using this
  | false =>
    have hf2 : firstB N t r = true := by
      unfold firstB at hf ⊢
      rw [e] at hf
      rw [eb]
      simp at hf ⊢
      omega
    have := hE _ (mem_edges.2 ⟨t, r, ht, hr, hf2, rfl⟩)
    unfold quadAt at this
    rw [eb, edgeOne_nat] at this
    have : nth (nthL o t) r + nth (nthL o v) i = 1 := by simpa using this
    omega
theorem free_eq {N : NetD} {o : List (List Int)} (h : oriOk N o = true) (out : List Int) {v : Nat} (hv : v < N.ends.length) : freeS N o out v = freeAt N o out v := by
  obtain ⟨hst, hg, hp, hr, _⟩ := oriOk_parts h
  unfold freeS freeAt
  cases hd : doneIn out v with
  | true => rfl
  | false =>
    have hval : ∀ i, i < (nthL N.ends v).length → nth (nthL o v) i = 0 ∨ nth (nthL o v) i = 1 := fun i hi => by
      have hl := ports_len hp
      have hrw := ports_row hp hv
      have := rows_val hr (v := v) (i := i) (by omega) (by omega)
      omega
    rw [Bool.not_false, Bool.true_and, Bool.true_and, Bool.eq_iff_iff]
    constructor
    · intro ha
      refine rangeAll_true fun i hi => ?_
      have h1 := rangeAll_at ha hi
      unfold portOkS at h1
      unfold portBad
      rcases hval i hi with e | e
      · rw [e] at h1 ⊢
        simp at h1 ⊢
        exact h1
      · rw [e]; simp
    · intro ha
      refine rangeAll_true fun i hi => ?_
      have h1 := rangeAll_at ha hi
      unfold portBad at h1
      unfold portOkS
      obtain ⟨t, r, e, ht, hr', eb⟩ := good_end hg hv hi
      rcases hval i hi with e0 | e0
      · rw [e0] at h1 ⊢
        simp at h1 ⊢
        exact h1
      · by_cases hs : t = v
        · exfalso
          subst hs
          have h2 := rangeAll_at ha hr'
          have := ori_two h hv hi e
          unfold portBad at h2
          rw [eb, show nth (nthL o t) r = 0 by omega] at h2
          simp [hd] at h2
        · rw [e0, e]
          simp [show ¬ (t : Int) = v by omega]
theorem fidx_congr {p q : Nat → Bool} {n : Nat} (h : ∀ v, v < n → p v = q v) : fidxN p n = fidxN q n := by
  rcases fidxN_cases q n with ⟨e, h1⟩ | ⟨k, hk, e, h1, h2⟩
  · rw [e]; exact fidxN_none fun j hj => by rw [h j hj]; exact h1 j hj
  · rw [e]; exact fidxN_hit hk (by rw [h k hk]; exact h1) fun j hj => by rw [h j (by omega)]; exact h2 j hj

end Go.Proofs.Ytjapdfdjgjajkaa
