/-
  Several texts in one: TurP, Ind, Tur, TuF. No condition on any program.
-/
import Derived.Test.YtakcjdlliejldaaGreatColour
import Derived.Test.YtakcjdlliejldaaGreatClsM
import Derived.Test.YtakcjdlliejldaaGreatFind
import Derived.Test.YtakcjdlliejldaaGreatPut

/- Plain: nodes take their turns cluster by cluster; what other clusters of one colour do is not seen. -/
namespace Go.Proofs.YtakcjdlliejldaaGreat
open Go.ChangeShapes Go.WideShapes Go.ChangeAt Go.RowKit
set_option linter.unusedVariables false

/-- what a node takes: a colour, or whether it joins the set -/
def tkV (N : NetD) (set : Bool) (o : List Int) (v : Nat) : Int :=
  if set = true then (if decide ((1 : Int) ∈ thruL o (seen N v)) || decide ((v : Int) ∈ nbs N v) then 0 else 1) else ((lf (thruL o (seen N v)) : Nat) : Int)
def tkS (N : NetD) (set : Bool) (o : List Int) (v : Int) : List Int := o.set v.toNat (tkV N set o v.toNat)
def tkF (N : NetD) (set : Bool) (o l : List Int) : List Int := l.foldl (tkS N set) o
def trF (N : NetD) (set : Bool) (l : List Int) : List Int := tkF N set (negs N.ends.length) l
theorem tkS_len (N : NetD) (set : Bool) (o : List Int) (v : Int) : (tkS N set o v).length = o.length := by simp [tkS]
theorem tkF_len (N : NetD) (set : Bool) (o l : List Int) : (tkF N set o l).length = o.length := set_foldl_len (fun o v => tkS_len N set o v) l o
theorem trF_len (N : NetD) (set : Bool) (l : List Int) : (trF N set l).length = N.ends.length := by unfold trF; rw [tkF_len, negs_length]
theorem tkF_app (N : NetD) (set : Bool) (o l m : List Int) : tkF N set o (l ++ m) = tkF N set (tkF N set o l) m := List.foldl_append
theorem tkF_take (N : NetD) (set : Bool) (o l : List Int) {m : Nat} (h : m < l.length) : tkF N set o (l.take (m + 1)) = tkS N set (tkF N set o (l.take m)) (nth l m) := foldl_takeI _ _ _ h
theorem tkS_nth (N : NetD) (set : Bool) (o : List Int) {v : Nat} (h : v < o.length) (u : Nat) : nth (tkS N set o (v : Int)) u = if u = v then tkV N set o v else nth o u := by
  unfold tkS; rw [Int.toNat_natCast, nth_set _ _ _ _ h]
theorem tkV_congr {N : NetD} {set : Bool} {o p : List Int} {v : Nat} (h : ∀ x ∈ seen N v, nth o x.toNat = nth p x.toNat) : tkV N set o v = tkV N set p v := by
  have e : thruL o (seen N v) = thruL p (seen N v) := by unfold thruL; exact List.map_congr_left h
  unfold tkV; rw [e]
/-- two folds agree wherever they agreed before, if nobody sees the other places -/
theorem tkF_agree {N : NetD} {set : Bool} (P : Nat → Prop) : ∀ (l : List Nat) (o p : List Int), o.length = N.ends.length → p.length = N.ends.length → (∀ v ∈ l, v < N.ends.length ∧ ∀ x ∈ seen N v, P x.toNat) → (∀ u, P u → nth o u = nth p u) → ∀ u, P u → nth (tkF N set o (l.map fun (v : Nat) => (v : Int))) u = nth (tkF N set p (l.map fun (v : Nat) => (v : Int))) u
  | [], o, p, _, _, _, h, u, hu => h u hu
  | v :: l, o, p, ho, hp, hl, h, u, hu => by
    show nth (tkF N set (tkS N set o (v : Int)) (l.map fun (v : Nat) => (v : Int))) u = nth (tkF N set (tkS N set p (v : Int)) (l.map fun (v : Nat) => (v : Int))) u
    obtain ⟨hv, hs⟩ := hl v (by simp)
    refine tkF_agree P l _ _ (by rw [tkS_len, ho]) (by rw [tkS_len, hp]) (fun w hw => hl w (List.mem_cons_of_mem _ hw)) (fun z hz => ?_) u hu
    rw [tkS_nth _ _ _ (by omega), tkS_nth _ _ _ (by omega), tkV_congr (p := p) fun x hx => h _ (hs x hx), h z hz]
/-- a fold leaves other places alone -/
theorem tkF_other {N : NetD} {set : Bool} : ∀ (l : List Nat) (o : List Int), o.length = N.ends.length → (∀ v ∈ l, v < N.ends.length) → ∀ u, u ∉ l → nth (tkF N set o (l.map fun (v : Nat) => (v : Int))) u = nth o u
  | [], o, _, _, u, _ => rfl
  | v :: l, o, ho, hl, u, hu => by
    show nth (tkF N set (tkS N set o (v : Int)) (l.map fun (v : Nat) => (v : Int))) u = nth o u
    have hv := hl v (by simp)
    simp only [List.mem_cons, not_or] at hu
    rw [tkF_other l _ (by rw [tkS_len, ho]) (fun w hw => hl w (List.mem_cons_of_mem _ hw)) u hu.2, tkS_nth _ _ _ (by omega), if_neg hu.1]
/-- whom a node sees lies at the other side of a port, and is another -/
theorem seen_end {N : NetD} (hg : N.good = true) {v : Nat} (hv : v < N.ends.length) {x : Int} (hx : x ∈ seen N v) : ∃ i, i < (nthL N.ends v).length ∧ x = (endN N v i : Nat) ∧ endN N v i < N.ends.length := by
  unfold seen at hx
  rw [List.mem_filter] at hx
  obtain ⟨i, hi, e⟩ := List.mem_iff_getElem.1 hx.1
  rw [nbs_length] at hi
  rw [← nth_eq, nth_nbs N v hi] at e
  obtain ⟨t, r, et, ht, _⟩ := good_end hg hv hi
  rw [et] at e
  have hen : endN N v i = t := by unfold endN; rw [et]; rfl
  exact ⟨i, hi, by rw [hen]; exact e.symm, by rw [hen]; exact ht⟩
/-- A NODE'S TURN: what it takes beside its own cluster alone is what it takes beside all that came before -/
theorem turn_eq {N : NetD} {D : DecD} {set : Bool} (hg : N.good = true) (hd : DecGood N D) {c k m : Nat} (hk : nth D.colour k = (c : Int)) (hkl : k < D.colour.length) {v : Nat} (hm : m < (clusN D.cluster k).length) (hv : nth (clusN D.cluster k) m = (v : Int)) :
    tkV N set (tkF N set (trF N set (ordC D c)) ((clusN D.cluster k).take m)) v = tkV N set (tkF N set (trF N set (ordC D c ++ ordK D c k)) ((clusN D.cluster k).take m)) v := by
  have hcl := hd.clus.len
  have hmem : ∀ q ∈ clsK D k, q < N.ends.length ∧ nth D.cluster q = (k : Int) := fun q hq => by
    have := mem_clsK.1 hq; exact ⟨by omega, this.2⟩
  have hfree : ∀ q, q < N.ends.length → nth D.cluster q = (k : Int) → ∀ x ∈ seen N q, x.toNat ∉ ordKN D c k := fun q hq hqk x hx hin => by
    obtain ⟨i, hi, rfl, _⟩ := seen_end hg hq hx
    rw [Int.toNat_natCast] at hin
    obtain ⟨q2, h1, h2, _, h4⟩ := mem_ordKN.1 hin
    have hf := hd.free q i hq hi
    unfold clash at hf
    rw [hqk, h4, Int.toNat_natCast, Int.toNat_natCast, hk, h2] at hf
    simp at hf
    omega
  have hvm : v ∈ clsK D k := by
    have := nth_mem hm
    rw [hv, clusN_clsK, List.mem_map] at this
    obtain ⟨a, ha, e⟩ := this
    have : a = v := by omega
    rwa [this] at ha
  obtain ⟨v1, v2⟩ := hmem v hvm
  refine tkV_congr fun x hx => ?_
  rw [clusN_clsK, ← List.map_take]
  have hA : ∀ u, u ∉ ordKN D c k → nth (trF N set (ordC D c)) u = nth (trF N set (ordC D c ++ ordK D c k)) u := fun u hu => by
    unfold trF
    rw [tkF_app, ordK_N D c k]
    exact (tkF_other _ _ (by rw [tkF_len, negs_length]) (fun q hq => by obtain ⟨_, _, _, h, _⟩ := mem_ordKN.1 hq; omega) u hu).symm
  refine tkF_agree (fun u => u ∉ ordKN D c k) _ _ _ (trF_len _ _ _) (trF_len _ _ _) (fun q hq => ?_) hA _ (hfree v v1 v2 x hx)
  have hq' := hmem q (List.mem_of_mem_take hq)
  exact ⟨hq'.1, hfree q hq'.1 hq'.2⟩
/-- the reference's list -/
def turnsL (N : NetD) (D : DecD) (set : Bool) : List Int := trF N set (ordC D ((mostI D.colour).toNat + 1))
theorem turnsL_len (N : NetD) (D : DecD) (set : Bool) : (turnsL N D set).length = N.ends.length := trF_len _ _ _
/-- the order names each node once -/
theorem ordC_perm {N : NetD} {D : DecD} (h : askedB N D = true) : permB (clOut N D) N.ends.length = true := by
  have F := asked_facts h
  have hd := decB_is (by unfold askedB at h; rw [Bool.and_eq_true] at h; exact h.2)
  have hcl := hd.clus.len
  rw [clOut_yes h, ordC_N]
  have hnd := (ordCN_pw D ((mostI D.colour).toNat + 1)).imp RD_ne
  have hp : (ordCN D ((mostI D.colour).toNat + 1)).Perm (List.range D.cluster.length) := by
    refine (List.perm_ext_iff_of_nodup hnd List.nodup_range).2 fun v => ?_
    rw [mem_ordCN, List.mem_range]
    constructor
    · rintro ⟨_, _, _, _, _, h, _⟩; exact h
    · intro hv
      obtain ⟨a1, a2⟩ := F.low _ (nth_mem hv)
      have hq : (nth D.cluster v).toNat < D.colour.length := by omega
      obtain ⟨b1, b2⟩ := F.col _ (nth_mem hq)
      have := (mostI_spec D.colour).2.1 _ (nth_mem hq)
      exact ⟨(nth D.colour (nth D.cluster v).toNat).toNat, (nth D.cluster v).toNat, by omega, hq, by omega, hv, by omega⟩
  have hlen : (ordCN D ((mostI D.colour).toNat + 1)).length = N.ends.length := by rw [hp.length_eq, List.length_range, hcl]
  unfold permB
  rw [List.length_map, hlen, decide_eq_true rfl, Bool.and_true]
  refine rangeAll_true fun k hk => ?_
  have hk' : k < (ordCN D ((mostI D.colour).toNat + 1)).length := by omega
  unfold permAt
  have e : nth ((ordCN D ((mostI D.colour).toNat + 1)).map fun (v : Nat) => (v : Int)) k = (((ordCN D ((mostI D.colour).toNat + 1))[k]'hk' : Nat) : Int) := by rw [nth_eq (by rw [List.length_map]; exact hk')]; simp
  rw [e, ← List.map_take]
  have hin : (ordCN D ((mostI D.colour).toNat + 1))[k]'hk' < N.ends.length := by
    have := hp.mem_iff.1 (List.getElem_mem hk')
    rw [List.mem_range] at this; omega
  have hni : (ordCN D ((mostI D.colour).toNat + 1))[k]'hk' ∉ (ordCN D ((mostI D.colour).toNat + 1)).take k := fun hin => by
    obtain ⟨j, hj, e⟩ := List.mem_iff_getElem.1 hin
    rw [List.length_take] at hj
    rw [List.getElem_take] at e
    exact (List.pairwise_iff_getElem.1 hnd) j k (by omega) hk' (by omega) e
  rw [Bool.and_eq_true]
  refine ⟨by unfold inB; simp; omega, ?_⟩
  rw [Bool.not_eq_true', decide_eq_false_iff_not, List.mem_map]
  rintro ⟨a, ha, e⟩
  exact hni (by rw [show (ordCN D ((mostI D.colour).toNat + 1))[k]'hk' = a by omega]; exact ha)
/-- the program's greedy colours are the reference's turns -/
theorem gc_turns {N : NetD} {zs : List Int} (hp : permB zs N.ends.length = true) : ∀ k, k ≤ zs.length → (zs.take k).foldl (gcStep N) (negs N.ends.length) = trF N false (zs.take k)
  | 0, _ => rfl
  | k + 1, hk => by
    have h := gc_turns hp k (by omega)
    obtain ⟨t, et, ht, hni⟩ := perm_at hp (k := k) (by omega)
    unfold trF
    rw [foldl_takeI _ _ _ (by omega), tkF_take _ _ _ _ (by omega), h, et]
    have hfr : nth (trF N false (zs.take k)) t = -1 := by
      rw [← h]
      exact gc_fresh (fun o v => by simp [gcStep]) (gcStep_other N) hp k (by omega) t ht (by rw [← et]; exact hni)
    show List.set _ _ _ = List.set _ _ _
    rw [Int.toNat_natCast, ← lf_seen hfr]
    rfl
theorem gc_all {N : NetD} {D : DecD} (h : askedB N D = true) : gcAll N (clOut N D) = turnsL N D false := by
  have h1 := gc_turns (ordC_perm h) _ (Nat.le_refl _)
  rw [List.take_length] at h1
  unfold gcAll turnsL
  rw [h1, clOut_yes h]

/-! the set -/
/-- the set that takes nodes in an order, as the program builds it -/
def giHit (N : NetD) (S : List Int) (v : Nat) : Bool := !decide ((v : Int) ∈ nbs N v) && !((nbs N v).any fun x => decide (x ∈ S))
def giS (N : NetD) (S : List Int) (v : Int) : List Int := if giHit N S v.toNat = true then S ++ [v] else S
def giF (N : NetD) (l : List Int) : List Int := l.foldl (giS N) []
def onesOf (o : List Int) (m : Nat) : List Int := ((List.range m).filter fun v => decide (nth o v = 1)).map fun (v : Nat) => (v : Int)
theorem giF_take (N : NetD) (l : List Int) {k : Nat} (h : k < l.length) : giF N (l.take (k + 1)) = giS N (giF N (l.take k)) (nth l k) := foldl_takeI _ _ _ h
theorem giF_sub (N : NetD) (l : List Int) : ∀ x ∈ giF N l, x ∈ l := by
  have : ∀ (l S : List Int), ∀ x ∈ l.foldl (giS N) S, x ∈ S ∨ x ∈ l := by
    intro l
    induction l with
    | nil => intro S x h; exact .inl h
    | cons v l ih =>
      intro S x h
      rcases ih _ x h with h | h
      · unfold giS at h
        split at h
        · rw [List.mem_append, List.mem_singleton] at h
          rcases h with h | h
          · exact .inl h
          · exact .inr (by rw [h]; simp)
        · exact .inl h
      · exact .inr (List.mem_cons_of_mem _ h)
  intro x h
  rcases this l [] x h with h | h
  · cases h
  · exact h
theorem giF_len (N : NetD) (l : List Int) : (giF N l).length ≤ l.length := by
  have : ∀ (l S : List Int), (l.foldl (giS N) S).length ≤ S.length + l.length := by
    intro l
    induction l with
    | nil => intro S; simp
    | cons v l ih =>
      intro S
      have := ih (giS N S v)
      have h2 : (giS N S v).length ≤ S.length + 1 := by unfold giS; split <;> simp
      rw [List.foldl_cons, List.length_cons]; omega
  have h := this l []
  unfold giF
  simpa using h
/-- the set so far, and what the reference's list says of it -/
theorem gi_turns {N : NetD} (hg : N.good = true) {zs : List Int} (hp : permB zs N.ends.length = true) : ∀ k, k ≤ zs.length → (∀ t : Nat, t < N.ends.length → (nth (trF N true (zs.take k)) t = 1 ↔ (t : Int) ∈ giF N (zs.take k)))
  | 0, _, t, ht => by
    show nth (negs _) t = 1 ↔ (t : Int) ∈ ([] : List Int)
    unfold negs; rw [nth_replicate _ _ ht]; simp
  | k + 1, hk, t, ht => by
    have h := gi_turns hg hp k (by omega)
    obtain ⟨v, ev, hv, hni⟩ := perm_at hp (k := k) (by omega)
    have hlen := trF_len N true (zs.take k)
    rw [show trF N true (zs.take (k + 1)) = tkS N true (trF N true (zs.take k)) (nth zs k) from tkF_take _ _ _ _ (by omega), giF_take _ _ (by omega), ev, tkS_nth _ _ _ (by omega)]
    have hvS : (v : Int) ∉ giF N (zs.take k) := fun hin => hni (by rw [ev]; exact giF_sub _ _ _ hin)
    have hval : tkV N true (trF N true (zs.take k)) v = if giHit N (giF N (zs.take k)) v = true then 1 else 0 := by
      have e : decide ((1 : Int) ∈ thruL (trF N true (zs.take k)) (seen N v)) = (nbs N v).any fun x => decide (x ∈ giF N (zs.take k)) := by
        rw [Bool.eq_iff_iff, decide_eq_true_eq, List.any_eq_true]
        unfold thruL
        rw [List.mem_map]
        constructor
        · rintro ⟨x, hx, e⟩
          obtain ⟨i, hi, rfl, hlt⟩ := seen_end hg hv hx
          rw [Int.toNat_natCast] at e
          unfold seen at hx
          rw [List.mem_filter] at hx
          exact ⟨_, hx.1, by rw [decide_eq_true_eq]; exact (h _ hlt).1 e⟩
        · rintro ⟨x, hx, e⟩
          rw [decide_eq_true_eq] at e
          have hs : x ∈ seen N v := by
            unfold seen; rw [List.mem_filter]
            refine ⟨hx, ?_⟩
            have : x ≠ (v : Int) := fun e2 => hvS (by rw [← e2]; exact e)
            simpa using this
          obtain ⟨i, hi, rfl, hlt⟩ := seen_end hg hv hs
          exact ⟨_, hs, by rw [Int.toNat_natCast]; exact (h _ hlt).2 e⟩
      unfold tkV giHit
      rw [if_pos rfl, e]
      cases decide ((v : Int) ∈ nbs N v) <;> cases ((nbs N v).any fun x => decide (x ∈ giF N (zs.take k))) <;> rfl
    by_cases htv : t = v
    · rw [if_pos htv, hval, htv]
      unfold giS
      rw [Int.toNat_natCast]
      split
      · simp
      · simp [hvS]
    · rw [if_neg htv, h t ht]
      unfold giS
      split
      · rw [List.mem_append, List.mem_singleton]
        exact ⟨fun h => .inl h, fun h => h.resolve_right (by omega)⟩
      · exact Iff.rfl
theorem giF_nodup {N : NetD} {zs : List Int} (hp : permB zs N.ends.length = true) : ∀ k, k ≤ zs.length → (giF N (zs.take k)).Nodup
  | 0, _ => List.nodup_nil
  | k + 1, hk => by
    have h := giF_nodup (N := N) hp k (by omega)
    obtain ⟨v, ev, hv, hni⟩ := perm_at hp (k := k) (by omega)
    rw [giF_take _ _ (by omega)]
    unfold giS
    split
    · rw [List.nodup_append]
      refine ⟨h, by simp, fun a ha b hb => ?_⟩
      rw [List.mem_singleton] at hb
      intro e
      exact hni (by rw [← hb, ← e]; exact giF_sub _ _ _ ha)
    · exact h
theorem onesOf_pw (o : List Int) (m : Nat) : (onesOf o m).Pairwise (· < ·) := by
  unfold onesOf
  rw [List.pairwise_map]
  have h : ((List.range m).filter fun v => decide (nth o v = 1)).Pairwise (· < ·) := List.Pairwise.filter _ List.pairwise_lt_range
  exact h.imp fun h => by omega
theorem onesOf_yes {o : List Int} {m : Nat} (h : nth o m = 1) : onesOf o (m + 1) = onesOf o m ++ [(m : Int)] := by simp [onesOf, List.range_succ, h]
theorem onesOf_no {o : List Int} {m : Nat} (h : nth o m ≠ 1) : onesOf o (m + 1) = onesOf o m := by simp [onesOf, List.range_succ, h]
theorem onesOf_len (o : List Int) (m : Nat) : (onesOf o m).length ≤ m := by
  unfold onesOf; rw [List.length_map]; exact Nat.le_trans (List.length_filter_le _ _) (by simp)
/-- THE TWO SETS ARE ONE -/
theorem gi_all {N : NetD} {D : DecD} (h : askedB N D = true) : sortI (giF N (clOut N D)) = onesOf (turnsL N D true) N.ends.length := by
  have hg : N.good = true := by unfold askedB at h; rw [Bool.and_eq_true] at h; exact h.1
  have hp := ordC_perm h
  have hk := gi_turns hg hp _ (Nat.le_refl _)
  have hn := giF_nodup (N := N) hp _ (Nat.le_refl _)
  rw [List.take_length] at hk hn
  have ht : turnsL N D true = trF N true (clOut N D) := by unfold turnsL; rw [clOut_yes h]
  have hperm := sortI_perm (giF N (clOut N D))
  have hss : (sortI (giF N (clOut N D))).Pairwise (· < ·) := (List.Pairwise.and (sortI_sorted _) (hperm.nodup_iff.2 hn)).imp fun h => by omega
  have hor := onesOf_pw (turnsL N D true) N.ends.length
  refine List.Perm.eq_of_pairwise (le := (· < ·)) (fun a b _ _ k1 k2 => by omega) hss hor ?_
  refine hperm.trans ((List.perm_ext_iff_of_nodup hn (hor.imp fun h => by omega)).2 fun x => ?_)
  unfold onesOf
  rw [List.mem_map, ht]
  constructor
  · intro hx
    have hx2 := giF_sub _ _ _ hx
    obtain ⟨j, hj, e⟩ := List.mem_iff_getElem.1 hx2
    obtain ⟨t, et, htl, _⟩ := perm_at hp hj
    rw [nth_eq hj, e] at et
    refine ⟨t, ?_, et.symm⟩
    rw [List.mem_filter, List.mem_range, decide_eq_true_eq]
    exact ⟨htl, (hk t htl).2 (by rw [← et]; exact hx)⟩
  · rintro ⟨t, ht2, rfl⟩
    rw [List.mem_filter, List.mem_range, decide_eq_true_eq] at ht2
    exact (hk t ht2.1).1 ht2.2

end Go.Proofs.YtakcjdlliejldaaGreat

/- Contracts: areJoined, hasNear, greedyIndependent (program). -/
namespace Go.Proofs.YtakcjdlliejldaaGreat
open Go.ChangeShapes Go.WideShapes Go.ChangeAt Go.RowKit
set_option linter.unusedVariables false

theorem nbs_mem {N : NetD} {v : Nat} {x : Int} : x ∈ nbs N v ↔ ∃ i, i < (nthL N.ends v).length ∧ (nthE (nthL N.ends v) i).1 = x := by
  constructor
  · intro h
    obtain ⟨i, hi, e⟩ := List.mem_iff_getElem.1 h
    rw [nbs_length] at hi
    exact ⟨i, hi, by rw [← nth_nbs N v hi, nth_eq (by rw [nbs_length]; exact hi), e]⟩
  · rintro ⟨i, hi, e⟩
    rw [← e, ← nth_nbs N v hi]
    exact nth_mem (by rw [nbs_length]; exact hi)

/-- some neighbour of v is in the set -/
def hnB (N : NetD) (v : Nat) (set : List Int) : Bool := (List.range (nthL N.ends v).length).any fun k => decide ((nthE (nthL N.ends v) k).1 ∈ set)
theorem hnB_is (N : NetD) (v : Nat) (set : List Int) : hnB N v set = (nbs N v).any fun x => decide (x ∈ set) := by
  rw [Bool.eq_iff_iff]
  unfold hnB
  simp only [List.any_eq_true, List.mem_range, decide_eq_true_eq]
  constructor
  · rintro ⟨k, hk, h⟩; exact ⟨_, nbs_mem.2 ⟨k, hk, rfl⟩, h⟩
  · rintro ⟨x, hx, h⟩; obtain ⟨k, hk, e⟩ := nbs_mem.1 hx; exact ⟨k, hk, by rw [e]; exact h⟩

set_option maxHeartbeats 4000000 in
theorem hn1_any (x y : Int) (g : Nat) (zs : List Int) (V : Value) (lo hi : Nat) (w : World) (x1 : w.cell? ⟨g, 0, none⟩ = some V) (hg : g < w.heap.size) (h : IntS w lo hi V zs) (hh : hi ≤ w.heap.size) :
    Calls Tryz.prog 78 #[.agg #[.int .i64 x, .int .i64 y], .pointer (some ⟨g, 0, none⟩)] w fun e w' => e = .returned (.bool (decide (x ∈ zs))) ∧ Below w.heap.size w w' := by
  obtain ⟨A, c, rfl, hc, hd⟩ := h.dims
  obtain ⟨WA, HWA⟩ : ∃ W, Hid (W = w.alloc (.cells #[.int .i64 x, .int .i64 y] 78)) := ⟨_, Lib.hid rfl⟩
  have hbA : Below w.heap.size w WA := by rw [HWA.out]; exact below_a1 _ _
  have hsA : w.heap.size + 1 ≤ WA.heap.size := by rw [HWA.out]; simp
  have bx : BoxN WA w.heap.size #[.int .i64 x, .int .i64 y] 78 := by rw [HWA.out]; exact BoxN.new _ _ _
  have G := Lib.hid (h.below hbA hh)
  have z1 : WA.cell? ⟨g, 0, none⟩ = some (.slice A zs.length c) := (hbA.cell (p := ⟨g, 0, none⟩) hg).trans x1
  have z2 : WA.cell? ⟨w.heap.size, 0, none⟩ = some (.int .i64 x) := bx.cell 0 (by simp)
  obtain ⟨b, HB⟩ : ∃ b, Hid (decide (x ∈ zs) = b) := ⟨_, Lib.hid rfl⟩
  clear h bx
  go_enter Tryz.func78, Tryz.ntmps78
  go_upto_region 1 with (fail)
  rw [← HWA.out]; clear HWA
  go_wp2_with (go_at_call 79; refine (contains_any _ zs _ _ _ _ G.out).mono ?_; rintro e w' ⟨rfl, rfl⟩; rw [HB.out])
  go_ret
  exact ⟨ret_bool HB.out.symm, hbA⟩

set_option maxHeartbeats 1000000 in
set_option maxRecDepth 100000 in
theorem hasNear_any (v1 : Value) (N : NetD) (lo1 hi1 : Nat) (v : Nat) (v3 : Value) (zs : List Int) (lo3 hi3 : Nat) (w : World) (h1 : Net w lo1 hi1 v1 N) (hh1 : hi1 ≤ w.heap.size) (h3 : IntS w lo3 hi3 v3 zs) (hh3 : hi3 ≤ w.heap.size) (hv : v < N.ends.length) :
    Calls Tryz.prog 47 #[v1, .int .i64 (v : Nat), v3] w fun e w' => e = .returned (.bool (hnB N v zs)) ∧ Below w.heap.size w w' := by
  have hmf : ∀ (fn : Fn) (first cap : Array Value) (w : World), (Instr.makeFunc fn first cap).run Tryz.prog w = .ok (.func fn first cap) w := fun _ _ _ _ => rfl
  have hvi : (v : Int) < N.ends.length := by omega
  have F1 := Lib.hid h1
  obtain ⟨A1, c1, A1', c1', A1'', c1'', rfl, hc1, hd1, _⟩ := h1.parts
  obtain ⟨b1, o1, _, _, rfl, _⟩ := Net.rowAt F1.out (u := 0) (by omega)
  clear h1
  have F3 := Lib.hid h3
  obtain ⟨A3, c3, rfl, hc3, hd3⟩ := h3.dims
  clear h3
  obtain ⟨WA, HWA⟩ : ∃ W, Hid (W = ((w.alloc (.cells #[.slice (some ⟨b1, o1, none⟩) N.ends.length c1, .slice A1' N.ids.length c1', .slice A1'' N.inputs.length c1''] 34)).alloc (.cells #[.slice A3 zs.length c3] 23))) := ⟨_, Lib.hid rfl⟩
  have hbA : Below w.heap.size w WA := by rw [HWA.out]; exact (((Below.refl _ _).alloc (Nat.le_refl _) _).alloc (by simp; try omega) _)
  have hsA : w.heap.size + 2 ≤ WA.heap.size := by rw [HWA.out]; simp; try omega
  have bx1 : BoxN WA (w.heap.size) #[.slice (some ⟨b1, o1, none⟩) N.ends.length c1, .slice A1' N.ids.length c1', .slice A1'' N.inputs.length c1''] 34 := by rw [HWA.out]; exact (BoxN.new' _ _ _ (by simp)).still (grown_alloc _ _)
  have bx3 : BoxN WA (w.heap.size + 1) #[.slice A3 zs.length c3] 23 := by rw [HWA.out]; exact (BoxN.new' _ _ _ (by simp))
  have G1 := Lib.hid (Net.below F1.out hbA hh1); clear F1
  have G3 := Lib.hid (IntS.below F3.out hbA hh3); clear F3
  go_enter Tryz.func47, Tryz.ntmps47
  go_upto_region 1 with (fail)
  rw [← HWA.out]; clear HWA
  obtain ⟨Aa, ca, hba, qa, hca, hda, hRa⟩ := Net.rowIn G1.out hv
  have Ra := Lib.hid hRa; clear hRa
  have kbx1_0 : WA.cell? ⟨w.heap.size, 0, none⟩ = some (.slice (some ⟨b1, o1, none⟩) N.ends.length c1) := bx1.cell 0 (by simp)
  have kbx1_1 : WA.cell? ⟨w.heap.size, 1, none⟩ = some (.slice A1' N.ids.length c1') := bx1.cell 1 (by simp)
  have kbx1_2 : WA.cell? ⟨w.heap.size, 2, none⟩ = some (.slice A1'' N.inputs.length c1'') := bx1.cell 2 (by simp)
  have kbx3_0 : WA.cell? ⟨w.heap.size + 1, 0, none⟩ = some (.slice A3 zs.length c3) := bx3.cell 0 (by simp)
  have hx3 := bx3.cell 0 (by simp)
  have hl3 := bx3.lt
  have HCF := Lib.hid (ContainsFunc_End 78 #[.pointer (some ⟨w.heap.size + 1, 0, none⟩)] (enters_of Tryz.func78 (by kernel_rfl) rfl) (fun k => decide ((nthE (nthL N.ends v) k).1 ∈ zs)) _ (nthL N.ends v) _ _ _ Ra.out (by omega) (fun k hk W hW => hn1_any _ _ (w.heap.size + 1) zs _ _ _ W ((hW.cell (p := ⟨w.heap.size + 1, 0, none⟩) (by show w.heap.size + 1 < _; omega)).trans hx3) (Nat.lt_of_lt_of_le hl3 hW.size) (G3.out.below hW (by omega)) (Nat.le_trans (by omega) hW.size)))
  obtain ⟨b, HB⟩ : ∃ b, Hid (hnB N v zs = b) := ⟨_, Lib.hid rfl⟩
  clear hx3
  go_wp2_with (go_at_call 76; refine HCF.out.mono ?_; rintro e w' ⟨rfl, hb'⟩; rw [show ((List.range (nthL N.ends v).length).any fun k => decide ((nthE (nthL N.ends v) k).1 ∈ zs)) = b from HB.out])
  go_ret
  exact ⟨ret_bool HB.out.symm, hbA.trans (hb'.mono (by omega))⟩

/-- some port of u leads to v -/
def jnB (N : NetD) (u v : Nat) : Bool := (List.range (nthL N.ends u).length).any fun k => decide ((nthE (nthL N.ends u) k).1 = (v : Int))
theorem jnB_is (N : NetD) (u v : Nat) : jnB N u v = decide ((v : Int) ∈ nbs N u) := by
  rw [Bool.eq_iff_iff]
  unfold jnB
  simp only [List.any_eq_true, List.mem_range, decide_eq_true_eq]
  constructor
  · rintro ⟨k, hk, h⟩; exact nbs_mem.2 ⟨k, hk, h⟩
  · intro h; obtain ⟨k, hk, e⟩ := nbs_mem.1 h; exact ⟨k, hk, e⟩
set_option maxHeartbeats 4000000 in
theorem jn1_any (x y : Int) (g v : Nat) (w : World) (x1 : w.cell? ⟨g, 0, none⟩ = some (.int .i64 v)) (hg : g < w.heap.size) :
    Calls Tryz.prog 77 #[.agg #[.int .i64 x, .int .i64 y], .pointer (some ⟨g, 0, none⟩)] w fun e w' => e = .returned (.bool (decide (x = (v : Int)))) ∧ Below w.heap.size w w' := by
  obtain ⟨WA, HWA⟩ : ∃ W, Hid (W = w.alloc (.cells #[.int .i64 x, .int .i64 y] 78)) := ⟨_, Lib.hid rfl⟩
  have hbA : Below w.heap.size w WA := by rw [HWA.out]; exact below_a1 _ _
  have hsA : w.heap.size + 1 ≤ WA.heap.size := by rw [HWA.out]; simp
  have bx : BoxN WA w.heap.size #[.int .i64 x, .int .i64 y] 78 := by rw [HWA.out]; exact BoxN.new _ _ _
  have z1 : WA.cell? ⟨g, 0, none⟩ = some (.int .i64 v) := (hbA.cell (p := ⟨g, 0, none⟩) hg).trans x1
  have z2 : WA.cell? ⟨w.heap.size, 0, none⟩ = some (.int .i64 x) := bx.cell 0 (by simp)
  clear bx
  go_enter Tryz.func77, Tryz.ntmps77
  go_upto_region 1 with (fail)
  rw [← HWA.out]; clear HWA
  go_wp2_with fail
  go_ret
  exact ⟨ret_bool (by rw [Bool.eq_iff_iff]; simp), hbA⟩

set_option maxHeartbeats 1000000 in
set_option maxRecDepth 100000 in
theorem areJoined_any (v1 : Value) (N : NetD) (lo1 hi1 : Nat) (u : Nat) (v : Nat) (w : World) (h1 : Net w lo1 hi1 v1 N) (hh1 : hi1 ≤ w.heap.size) (hu : u < N.ends.length) :
    Calls Tryz.prog 46 #[v1, .int .i64 (u : Nat), .int .i64 (v : Nat)] w fun e w' => e = .returned (.bool (jnB N u v)) ∧ Below w.heap.size w w' := by
  have hmf : ∀ (fn : Fn) (first cap : Array Value) (w : World), (Instr.makeFunc fn first cap).run Tryz.prog w = .ok (.func fn first cap) w := fun _ _ _ _ => rfl
  have hui : (u : Int) < N.ends.length := by omega
  have F1 := Lib.hid h1
  obtain ⟨A1, c1, A1', c1', A1'', c1'', rfl, hc1, hd1, _⟩ := h1.parts
  obtain ⟨b1, o1, _, _, rfl, _⟩ := Net.rowAt F1.out (u := 0) (by omega)
  clear h1
  obtain ⟨WA, HWA⟩ : ∃ W, Hid (W = ((w.alloc (.cells #[.slice (some ⟨b1, o1, none⟩) N.ends.length c1, .slice A1' N.ids.length c1', .slice A1'' N.inputs.length c1''] 34)).alloc (.cells #[.int .i64 v] 3))) := ⟨_, Lib.hid rfl⟩
  have hbA : Below w.heap.size w WA := by rw [HWA.out]; exact (((Below.refl _ _).alloc (Nat.le_refl _) _).alloc (by simp; try omega) _)
  have hsA : w.heap.size + 2 ≤ WA.heap.size := by rw [HWA.out]; simp; try omega
  have bx1 : BoxN WA (w.heap.size) #[.slice (some ⟨b1, o1, none⟩) N.ends.length c1, .slice A1' N.ids.length c1', .slice A1'' N.inputs.length c1''] 34 := by rw [HWA.out]; exact ((BoxN.new' _ _ _ (by simp)).still (grown_alloc _ _))
  have bx3 : BoxN WA (w.heap.size + 1) #[.int .i64 v] 3 := by rw [HWA.out]; exact (BoxN.new' _ _ _ (by simp))
  have G1 := Lib.hid (Net.below F1.out hbA hh1); clear F1
  go_enter Tryz.func46, Tryz.ntmps46
  go_upto_region 1 with (fail)
  rw [← HWA.out]; clear HWA
  obtain ⟨Aa, ca, hba, qa, hca, hda, hRa⟩ := Net.rowIn G1.out hu
  have Ra := Lib.hid hRa; clear hRa
  have kbx1_0 : WA.cell? ⟨w.heap.size, 0, none⟩ = some (.slice (some ⟨b1, o1, none⟩) N.ends.length c1) := bx1.cell 0 (by simp)
  have kbx1_1 : WA.cell? ⟨w.heap.size, 1, none⟩ = some (.slice A1' N.ids.length c1') := bx1.cell 1 (by simp)
  have kbx1_2 : WA.cell? ⟨w.heap.size, 2, none⟩ = some (.slice A1'' N.inputs.length c1'') := bx1.cell 2 (by simp)
  have kbx3_0 : WA.cell? ⟨w.heap.size + 1, 0, none⟩ = some (.int .i64 v) := bx3.cell 0 (by simp)
  have hx3 := bx3.cell 0 (by simp)
  have hl3 := bx3.lt
  have HCF := Lib.hid (ContainsFunc_End 77 #[.pointer (some ⟨w.heap.size + 1, 0, none⟩)] (enters_of Tryz.func77 (by kernel_rfl) rfl) (fun k => decide ((nthE (nthL N.ends u) k).1 = (v : Int))) _ (nthL N.ends u) _ _ _ Ra.out (by omega) (fun k hk W hW => jn1_any _ _ (w.heap.size + 1) v W ((hW.cell (p := ⟨w.heap.size + 1, 0, none⟩) (by show w.heap.size + 1 < _; omega)).trans hx3) (Nat.lt_of_lt_of_le hl3 hW.size)))
  obtain ⟨b, HB⟩ : ∃ b, Hid (jnB N u v = b) := ⟨_, Lib.hid rfl⟩
  clear hx3
  go_wp2_with (go_at_call 76; refine HCF.out.mono ?_; rintro e w' ⟨rfl, hb'⟩; rw [show ((List.range (nthL N.ends u).length).any fun k => decide ((nthE (nthL N.ends u) k).1 = (v : Int))) = b from HB.out])
  go_ret
  exact ⟨ret_bool HB.out.symm, hbA.trans (hb'.mono (by omega))⟩

theorem giHit_is (N : NetD) (S : List Int) (v : Nat) : giHit N S v = (!jnB N v v && !hnB N v S) := by unfold giHit; rw [jnB_is, hnB_is]

set_option maxHeartbeats 4000000 in
set_option maxRecDepth 100000 in
theorem greedyIndependent_any (v1 : Value) (N : NetD) (lo1 hi1 : Nat) (v2 : Value) (zs : List Int) (lo2 hi2 : Nat) (w : World) (h1 : Net w lo1 hi1 v1 N) (hh1 : hi1 ≤ w.heap.size) (h2 : IntS w lo2 hi2 v2 zs) (hh2 : hi2 ≤ w.heap.size) (hg : N.good = true) (hp : permB zs N.ends.length = true) :
    Calls Tryz.prog 27 #[v1, v2] w fun e w' => ∃ r, e = .returned (r) ∧ IntS w' w.heap.size w'.heap.size r (sortI (giF N zs)) ∧ Below w.heap.size w w' := by
  obtain ⟨n1, n40⟩ := good_n hg
  have HG := Lib.hid hg; clear hg
  have HP := Lib.hid hp; clear hp
  have hzl : zs.length ≤ N.ends.length := by have := perm_len HP.out; omega
  have F1 := Lib.hid h1
  obtain ⟨A1, c1, A1', c1', A1'', c1'', rfl, hc1, hd1, _⟩ := h1.parts
  obtain ⟨b1, o1, _, _, rfl, _⟩ := Net.rowAt F1.out (u := 0) (by omega)
  clear h1
  have F2 := Lib.hid h2
  obtain ⟨A2, c2, rfl, hc2, hd2⟩ := h2.dims
  clear h2
  obtain ⟨WA, HWA⟩ : ∃ W, Hid (W = (w.alloc (.cells #[.slice (some ⟨b1, o1, none⟩) N.ends.length c1, .slice A1' N.ids.length c1', .slice A1'' N.inputs.length c1''] 34))) := ⟨_, Lib.hid rfl⟩
  have hbA : Below w.heap.size w WA := by rw [HWA.out]; exact ((Below.refl _ _).alloc (Nat.le_refl _) _)
  have hsA : w.heap.size + 1 ≤ WA.heap.size := by rw [HWA.out]; simp; try omega
  have bx1 : BoxN WA (w.heap.size) #[.slice (some ⟨b1, o1, none⟩) N.ends.length c1, .slice A1' N.ids.length c1', .slice A1'' N.inputs.length c1''] 34 := by rw [HWA.out]; exact (BoxN.new' _ _ _ (by simp))
  have G1 := Lib.hid (Net.below F1.out hbA hh1); clear F1
  have G2 := Lib.hid (IntS.below F2.out hbA hh2); clear F2
  go_enter Tryz.func27, Tryz.ntmps27
  go_upto_region 1 with (fail)
  rw [← HWA.out]; clear HWA
  go_wp2_with fail
  go_loopw [10, 5] (fun i ov wr => ∃ (k : Nat), k ≤ zs.length ∧ i = .int .i64 k ∧ Hid (OwnI wr WA.heap.size 3 ov (giF N (zs.take k))) ∧ Hid (Turned WA.heap.size WA.heap.size WA wr)) (fun i ov _ => zs.length - (intOf i).toNat)
  case atStart => exact ⟨0, Nat.zero_le _, rfl, Lib.hid (OwnI.nil _ _ _), Lib.hid (Turned.refl WA.heap.size WA.heap.size WA)⟩
  case round =>
    obtain ⟨k, hk, rfl, HO, HF1⟩ := hrel
    have hs1 := HF1.out.size
    obtain ⟨wq, rfl⟩ : ∃ wq : World, wq = wr := ⟨_, rfl⟩
    obtain ⟨S, HS⟩ : ∃ S, Hid (giF N (zs.take k) = S) := ⟨_, Lib.hid rfl⟩
    rw [HS.out] at HO
    have hSl : S.length ≤ N.ends.length := by rw [← HS.out]; have := giF_len N (zs.take k); rw [List.length_take] at this; omega
    by_cases hlt : k < zs.length
    case neg =>
      obtain rfl : k = zs.length := by omega
      have HSE := Lib.hid (show S = giF N zs by rw [← HS.out, List.take_length])
      go_wp2_with fail
      refine (sort_any _ S _ _ _ HO.out.ints (Nat.le_refl _) (by omega)).mono ?_
      rintro e W9 ⟨rfl, hr9, hg9⟩
      have hg9s := hg9.size
      have HR9 := Lib.hid hr9
      have HF9 := Lib.hid (HF1.out.grown hg9 fun g hg => .inr (by
        rcases Sl.row HO.out.ints with e | ⟨b, e, l1, l2⟩
        · rw [e] at hg; cases hg
        · rw [e] at hg; injection hg; omega))
      clear hr9 hg9
      obtain ⟨Az, cz, rfl, hcz, hdz⟩ := HR9.out.dims
      go_wp2_with fail
      go_ret
      refine ⟨_, rfl, ?_, (HF9.out.below_of hbA (by omega) (by omega))⟩
      rw [← HSE.out]
      exact HR9.out.mono (by omega) (by omega)
    obtain ⟨v, et, htl, hnm⟩ := perm_at HP.out hlt
    obtain ⟨b5, o5, rfl, _, _, x5, _⟩ := IntS.opened (IntS.turned G2.out HF1.out (by omega) (by omega)) hlt
    rw [et] at x5
    have HSS := Lib.hid (show giF N (zs.take (k + 1)) = giS N S (v : Int) by rw [giF_take _ _ hlt, HS.out, et])
    clear et hnm
    obtain ⟨Az, cz, rfl, hcz, hdz⟩ := HO.out.ints.dims
    have kbx1_0 : wq.cell? ⟨w.heap.size, 0, none⟩ = some (.slice (some ⟨b1, o1, none⟩) N.ends.length c1) := (HF1.out.boxN bx1 (by omega)).cell 0 (by simp)
    have kbx1_1 : wq.cell? ⟨w.heap.size, 1, none⟩ = some (.slice A1' N.ids.length c1') := (HF1.out.boxN bx1 (by omega)).cell 1 (by simp)
    have kbx1_2 : wq.cell? ⟨w.heap.size, 2, none⟩ = some (.slice A1'' N.inputs.length c1'') := (HF1.out.boxN bx1 (by omega)).cell 2 (by simp)
    go_wp2_with fail
    clear kbx1_0 kbx1_1 kbx1_2 x5
    refine (areJoined_any _ N lo1 hi1 v v _ (Net.turned G1.out HF1.out (by omega) (by omega)) (by omega) htl).mono ?_
    rintro e W2 ⟨rfl, hb2⟩
    have hg2 := grown_below hb2; clear hb2
    have hs2 := hg2.size
    have HF2 := Lib.hid (HF1.out.still hg2); clear HF1
    have O2 := Lib.hid (OwnI.still HO.out hg2); clear HO
    cases hj : jnB N v v with
    | true =>
      have HJ := Lib.hid hj; clear hj
      have HSE := Lib.hid (show giF N (zs.take (k + 1)) = S by rw [HSS.out]; unfold giS; rw [Int.toNat_natCast, giHit_is, HJ.out]; rfl)
      go_wp2_with fail
      go_roundw
      case rel => exact ⟨k + 1, by omega, by go_num, Lib.hid (by rw [HSE.out]; exact O2.out), HF2⟩
      case measure => simp [intOf]; omega
    | false =>
      have HJ := Lib.hid hj; clear hj
      have kbx1_0 : W2.cell? ⟨w.heap.size, 0, none⟩ = some (.slice (some ⟨b1, o1, none⟩) N.ends.length c1) := (HF2.out.boxN bx1 (by omega)).cell 0 (by simp)
      have kbx1_1 : W2.cell? ⟨w.heap.size, 1, none⟩ = some (.slice A1' N.ids.length c1') := (HF2.out.boxN bx1 (by omega)).cell 1 (by simp)
      have kbx1_2 : W2.cell? ⟨w.heap.size, 2, none⟩ = some (.slice A1'' N.inputs.length c1'') := (HF2.out.boxN bx1 (by omega)).cell 2 (by simp)
      go_wp2_with fail
      clear kbx1_0 kbx1_1 kbx1_2
      refine (hasNear_any _ N lo1 hi1 v _ S _ _ _ (Net.turned G1.out HF2.out (by omega) (by omega)) (by omega) O2.out.ints (Nat.le_refl _) htl).mono ?_
      rintro e W3 ⟨rfl, hb3⟩
      have hg3 := grown_below hb3; clear hb3
      have hs3 := hg3.size
      have HF3 := Lib.hid (HF2.out.still hg3); clear HF2
      have O3 := Lib.hid (OwnI.still O2.out hg3); clear O2
      cases hh : hnB N v S with
      | true =>
        have HH := Lib.hid hh; clear hh
        have HSE := Lib.hid (show giF N (zs.take (k + 1)) = S by rw [HSS.out]; unfold giS; rw [Int.toNat_natCast, giHit_is, HJ.out, HH.out]; rfl)
        go_wp2_with fail
        go_roundw
        case rel => exact ⟨k + 1, by omega, by go_num, Lib.hid (by rw [HSE.out]; exact O3.out), HF3⟩
        case measure => simp [intOf]; omega
      | false =>
        have HH := Lib.hid hh; clear hh
        have HSE := Lib.hid (show giF N (zs.take (k + 1)) = S ++ [(v : Int)] by rw [HSS.out]; unfold giS; rw [Int.toNat_natCast, giHit_is, HJ.out, HH.out]; rfl)
        have hlv := O3.out.lt
        go_wp2_with (at_builtin; refine append_int (s := .tmp 26) Tryz.underlying23 Tryz.info3 (by decide) W3 rfl _ rfl O3.out v _ rfl (by simp [Act.eval, go_sem]) (by omega) (by omega) ?_; intro v' w' ho' hg' hat')
        go_roundw
        case rel => exact ⟨k + 1, by omega, by go_num, Lib.hid (by rw [HSE.out]; exact ho'), Lib.hid (HF3.out.grown hg' fun g hg => .inr (by have := hlv g hg; omega))⟩
        case measure => simp [intOf]; omega

end Go.Proofs.YtakcjdlliejldaaGreat

/- Contract: the reference's turns of the nodes, cluster by cluster. -/
namespace Go.Proofs.YtakcjdlliejldaaGreat
open Go.ChangeShapes Go.WideShapes Go.ChangeAt Go.RowKit
set_option linter.unusedVariables false

set_option maxHeartbeats 1000000 in
theorem l1Own_any (v : Value) (zs : List Int) (lo hi : Nat) (w : World) (h : IntS w lo hi v zs) (hhi : hi ≤ w.heap.size) (h0 : 0 < zs.length) (hl : zs.length ≤ 1048576) :
    Calls Tryz.prog 36 #[v] w fun e w' => ∃ r, e = .returned r ∧ IntS w' w.heap.size w'.heap.size r zs ∧ Below w.heap.size w w' := by
  have F := Lib.hid h
  obtain ⟨A, c, rfl, hc, hd⟩ := h.dims
  obtain ⟨b, off, rfl, _, hb, _, _⟩ := h.opened (j := 0) h0
  have HE := Lib.hid (OwnI.empty w w.heap.size 3 rfl (Nat.le_refl _))
  have HC := Lib.hid (show ∀ j, j < zs.length → (w.alloc (.cells #[] 3)).cell? ⟨b, off + j, none⟩ = some (.int .i64 (nth zs j)) from fun j hj => (IntS.at_ (F.out.alloc hhi _) hj).1)
  clear h
  go_enter Tryz.func36, Tryz.ntmps36
  go_wp2_with (at_builtin; refine append_ints (s := .tmp 3) Tryz.underlying23 Tryz.info3 (by decide) (w.alloc (.cells #[] 3)) rfl (.tmp 4) rfl HE.out rfl (g := b) (off := off) zs rfl rfl HC.out (by simp; omega) (by simp) ?_; intro v1 w1 ho1 hg1; have HO := Lib.hid ho1; have HG1 := Lib.hid hg1; clear ho1 hg1)
  go_ret
  refine ⟨_, rfl, ?_, ?_⟩
  · have := HO.out.ints; simpa using this
  · exact ((Below.refl _ _).alloc (Nat.le_refl _) _).grown HG1.out (by simp) (fun g hg => by have := HE.out.lt g hg; omega)

set_option maxHeartbeats 8000000 in
set_option maxRecDepth 100000 in
theorem deTurns_any (v1 : Value) (N : NetD) (lo1 hi1 : Nat) (v2 : Value) (D : DecD) (lo2 hi2 : Nat) (set : Bool) (w : World) (h1 : Net w lo1 hi1 v1 N) (hh1 : hi1 ≤ w.heap.size) (h2 : Dec w lo2 hi2 v2 D) (hh2 : hi2 ≤ w.heap.size) (ha : askedB N D = true) :
    Calls Tryz.prog 23 #[v1, v2, .bool set] w fun e w' => ∃ r, e = .returned (r) ∧ IntS w' w.heap.size w'.heap.size r (turnsL N D set) ∧ Below w.heap.size w w' := by
  have HA := Lib.hid ha
  have HCF := Lib.hid (asked_facts ha)
  have hg : N.good = true := by unfold askedB at ha; rw [Bool.and_eq_true] at ha; exact ha.1
  have HDG := Lib.hid (decB_is (by unfold askedB at ha; rw [Bool.and_eq_true] at ha; exact ha.2))
  clear ha
  obtain ⟨n1, n40⟩ := good_n hg
  have HG := Lib.hid hg; clear hg
  have hcl : D.cluster.length = N.ends.length := HDG.out.clus.len
  have hcol : D.colour.length ≤ 1000 := HCF.out.clen
  have hM := HCF.out.most
  have hM0 : 0 ≤ mostI D.colour := (mostI_spec _).1
  obtain ⟨M, HMM⟩ : ∃ M : Nat, Hid (mostI D.colour = M) := ⟨(mostI D.colour).toNat, Lib.hid (by omega)⟩
  rw [HMM.out] at hM
  have hM2 : M ≤ 40 := by omega
  clear hM hM0
  have HTL := Lib.hid (show turnsL N D set = trF N set (ordC D (M + 1)) by unfold turnsL; rw [HMM.out, Int.toNat_natCast])
  have HCLN := Lib.hid hcl; clear hcl
  have hmk := fun W => run_make_row' (P := Tryz.prog) 23 3 (.int .i64 0) 8 Tryz.underlying23 Tryz.info3 rfl .i64 .i64 N.ends.length (by omega) (by omega) W
  have F1 := Lib.hid h1
  obtain ⟨A1, c1, A1', c1', A1'', c1'', rfl, hc1, hd1, _⟩ := h1.parts
  obtain ⟨b1, o1, _, _, rfl, _⟩ := Net.rowAt F1.out (u := 0) (by omega)
  clear h1
  have F2 := Lib.hid h2
  obtain ⟨A2, c2, A2', c2', rfl, hc2, hd2⟩ := h2.parts
  clear h2
  obtain ⟨WA, HWA⟩ : ∃ W, Hid (W = ((w.alloc (.cells #[.slice (some ⟨b1, o1, none⟩) N.ends.length c1, .slice A1' N.ids.length c1', .slice A1'' N.inputs.length c1''] 34)).alloc (.cells #[.slice A2 D.cluster.length c2, .slice A2' D.colour.length c2'] 36))) := ⟨_, Lib.hid rfl⟩
  have hbA : Below w.heap.size w WA := by rw [HWA.out]; exact (((Below.refl _ _).alloc (Nat.le_refl _) _).alloc (by simp; try omega) _)
  have hsA : w.heap.size + 2 ≤ WA.heap.size := by rw [HWA.out]; simp; try omega
  have bx1 : BoxN WA (w.heap.size) #[.slice (some ⟨b1, o1, none⟩) N.ends.length c1, .slice A1' N.ids.length c1', .slice A1'' N.inputs.length c1''] 34 := by rw [HWA.out]; exact ((BoxN.new' _ _ _ (by simp)).still (grown_alloc _ _))
  have bx2 : BoxN WA (w.heap.size + 1) #[.slice A2 D.cluster.length c2, .slice A2' D.colour.length c2'] 36 := by rw [HWA.out]; exact (BoxN.new' _ _ _ (by simp))
  have G1 := Lib.hid (Net.below F1.out hbA hh1); clear F1
  have G2 := Lib.hid (Dec.below F2.out hbA hh2); clear F2
  go_enter Tryz.func23, Tryz.ntmps23
  go_upto_region 1 with (fail)
  rw [← HWA.out]; clear HWA
  obtain ⟨b2, o2', rfl, _, hb2, _, _⟩ := (Dec.colourS G2.out).opened (j := 0) (by rw [HDG.out.len]; omega)
  have kbx1_0 : WA.cell? ⟨w.heap.size, 0, none⟩ = some (.slice (some ⟨b1, o1, none⟩) N.ends.length c1) := bx1.cell 0 (by simp)
  have kbx1_1 : WA.cell? ⟨w.heap.size, 1, none⟩ = some (.slice A1' N.ids.length c1') := bx1.cell 1 (by simp)
  have kbx1_2 : WA.cell? ⟨w.heap.size, 2, none⟩ = some (.slice A1'' N.inputs.length c1'') := bx1.cell 2 (by simp)
  go_upto_region 2 with (fail)
  refine nameC ?_
  intro W1 HW1
  have hg1 : WA.grownBy W1 none := by rw [HW1.out]; exact grown_alloc _ _
  have hs1 := hg1.size
  have HF1 := Lib.hid ((Turned.refl WA.heap.size WA.heap.size WA).still hg1)
  have HO := Lib.hid (show IntS W1 WA.heap.size (WA.heap.size + 1) (.slice (some ⟨WA.heap.size, 0, none⟩) N.ends.length N.ends.length) (List.replicate N.ends.length 0) by rw [HW1.out]; exact made_ints _ _ _ rfl (by omega))
  have hz : WA.heap.size + 1 ≤ W1.heap.size := by rw [HW1.out]; simp
  clear HW1 hmk
  go_wp2_with fail
  go_loopw [23] (fun i wr => ∃ (k : Nat) (zs : List Int), k ≤ N.ends.length ∧ i = .int .i64 k ∧ Hid (IntS wr WA.heap.size (WA.heap.size + 1) (.slice (some ⟨WA.heap.size, 0, none⟩) N.ends.length N.ends.length) zs) ∧ Hid (zs.length = N.ends.length) ∧ Hid (∀ j, j < N.ends.length → nth zs j = if j < k then (fun _ => (-1 : Int)) j else 0) ∧ WA.heap.size + 1 ≤ wr.heap.size ∧ Hid (Turned WA.heap.size WA.heap.size WA wr)) (fun i _ => N.ends.length - (intOf i).toNat)
  case atStart => exact ⟨0, List.replicate N.ends.length 0, Nat.zero_le _, rfl, HO, Lib.hid (by simp), Lib.hid fun j hj => by rw [nth_replicate _ _ hj]; simp, hz, HF1⟩
  case round =>
    clear HF1
    obtain ⟨k, zs, hk, rfl, HO, HL, HZ, hz, HF2⟩ := hrel
    have hs2 := HF2.out.size
    by_cases hlt : k < N.ends.length
    case pos =>
      obtain ⟨x1, x2⟩ := HO.out.at0 (j := k) (by rw [HL.out]; exact hlt)
      have HS := Lib.hid (HO.out.set0 (j := k) (by rw [HL.out]; exact hlt) (-1))
      obtain ⟨y, HY⟩ : ∃ y, Hid (nth zs k = y) := ⟨_, Lib.hid rfl⟩
      rw [HY.out] at x1
      go_wp2_with fail
      go_roundw
      case rel => exact ⟨k + 1, _, by omega, by go_num, HS, Lib.hid (by rw [List.length_set]; exact HL.out), Lib.hid (set_fold HL.out hlt HZ.out), by rw [size_setCell]; exact hz, Lib.hid (HF2.out.grown (grown_set _ ⟨WA.heap.size, k, none⟩ _) fun g hg => .inr (by cases hg; exact Nat.le_refl _))⟩
      case measure => simp [intOf]; omega
    obtain rfl : k = N.ends.length := by omega
    obtain rfl : zs = negs N.ends.length := ext_nth (by rw [HL.out, negs_length]) fun j hj => by
      rw [HL.out] at hj
      rw [HZ.out j hj, if_pos hj]; exact (nth_replicate _ _ hj).symm
    clear HL HZ hlt hk
    obtain ⟨wm, rfl⟩ : ∃ wm : World, wm = wr := ⟨_, rfl⟩
    have N_2 := Lib.hid (Net.turned G1.out HF2.out (by omega) (by omega)); clear G1
    have D_2 := Lib.hid (Dec.turned G2.out HF2.out (by omega) (by omega)); clear G2
    have bx1_2 := HF2.out.boxN bx1 (by omega); clear bx1
    have bx2_2 := HF2.out.boxN bx2 (by omega); clear bx2
    have hbA2 : Below w.heap.size w wm := (HF2.out.below_of hbA (by omega) (by omega)); clear hbA HF2
    have HOM := HO; clear HO
    go_wp2_with fail
    go_loopw [9] (fun cv wr => ∃ (c : Nat), c ≤ M + 1 ∧ cv = .int .i64 c ∧ Hid (IntS wr WA.heap.size (WA.heap.size + 1) (.slice (some ⟨WA.heap.size, 0, none⟩) N.ends.length N.ends.length) (trF N set (ordC D c))) ∧ Hid (Turned WA.heap.size (WA.heap.size + 1) wm wr)) (fun cv _ => M + 1 - (intOf cv).toNat)
    case atStart => exact ⟨0, Nat.zero_le _, rfl, HOM, Lib.hid (Turned.refl WA.heap.size (WA.heap.size + 1) wm)⟩
    case round =>
      obtain ⟨c, hc, rfl, HO, HF3⟩ := hrel
      have hs3 := HF3.out.size
      obtain ⟨wq, rfl⟩ : ∃ wq : World, wq = wr := ⟨_, rfl⟩
      have kbx2_0 : wq.cell? ⟨w.heap.size + 1, 0, none⟩ = some (.slice A2 D.cluster.length c2) := (HF3.out.boxN bx2_2 (by omega)).cell 0 (by simp)
      have kbx2_1 : wq.cell? ⟨w.heap.size + 1, 1, none⟩ = some (.slice (some ⟨b2, o2', none⟩) D.colour.length c2') := (HF3.out.boxN bx2_2 (by omega)).cell 1 (by simp)
      go_wp2_with fail
      clear kbx2_0 kbx2_1
      refine (meMost_any _ D.colour _ _ _ (Dec.colourS (Dec.turned D_2.out HF3.out (by omega) (by omega))) (by omega)).mono ?_
      rintro e w' ⟨rfl, rfl⟩
      rw [HMM.out]
      by_cases hcm : c ≤ M
      case neg =>
        obtain rfl : c = M + 1 := by omega
        have hcmi : ¬ ((M + 1 : Nat) : Int) ≤ (M : Int) := by omega
        go_wp2_with fail
        go_ret
        refine ⟨_, rfl, ?_, (HF3.out.below_of hbA2 (by omega) (by omega))⟩
        rw [HTL.out]
        exact HO.out.mono (by omega) (by omega)
      have hcmi : (c : Int) ≤ (M : Int) := by omega
      obtain ⟨oX, HO1⟩ : ∃ o, Hid (trF N set (ordC D c) = o) := ⟨_, Lib.hid rfl⟩
      have HL1 := Lib.hid (show oX.length = N.ends.length by rw [← HO1.out, trF_len])
      rw [HO1.out] at HO
      go_wp2_with fail
      refine (l1Own_any _ oX _ _ _ HO.out (by omega) (by rw [HL1.out]; omega) (by rw [HL1.out]; omega)).mono ?_
      rintro e W4 ⟨rb, rfl, hrb, hb4⟩
      have hg4 := grown_below hb4; clear hb4
      have hs4 := hg4.size
      have HF4 := Lib.hid (HF3.out.still hg4); clear HF3
      have O4 := Lib.hid (IntS.still HO.out hg4 (by omega)); clear HO
      have B4 := Lib.hid hrb; clear hrb
      obtain ⟨AB, cB, rfl, hcB, hdB⟩ := B4.out.dims
      obtain ⟨bB, oB, rfl, _, hbB, _, _⟩ := IntS.opened B4.out (j := 0) (by rw [HL1.out]; omega)
      rw [HL1.out] at hcB ⊢
      rw [HL1.out] at B4
      have kbx2_0 : W4.cell? ⟨w.heap.size + 1, 0, none⟩ = some (.slice A2 D.cluster.length c2) := (HF4.out.boxN bx2_2 (by omega)).cell 0 (by simp)
      have kbx2_1 : W4.cell? ⟨w.heap.size + 1, 1, none⟩ = some (.slice (some ⟨b2, o2', none⟩) D.colour.length c2') := (HF4.out.boxN bx2_2 (by omega)).cell 1 (by simp)
      go_wp2_with fail
      clear kbx2_0 kbx2_1
      go_loopw [42] (fun kv wr => ∃ (k : Nat), k ≤ D.colour.length ∧ kv = .int .i64 k ∧ Hid (IntS wr WA.heap.size (WA.heap.size + 1) (.slice (some ⟨WA.heap.size, 0, none⟩) N.ends.length N.ends.length) (trF N set (ordC D c ++ ordK D c k))) ∧ Hid (IntS wr wq.heap.size W4.heap.size (.slice (some ⟨bB, oB, none⟩) N.ends.length cB) oX) ∧ W4.heap.size ≤ wr.heap.size ∧ Hid (Turned WA.heap.size (WA.heap.size + 1) wm wr)) (fun kv _ => D.colour.length - (intOf kv).toNat)
      case atStart => exact ⟨0, Nat.zero_le _, rfl, Lib.hid (by rw [show ordK D c 0 = [] from rfl, List.append_nil, HO1.out]; exact O4.out), B4, Nat.le_refl _, HF4⟩
      case round =>
        clear HF4
        obtain ⟨k, hk, rfl, HO, HB, hz2, HF5⟩ := hrel
        have hs5 := HF5.out.size
        obtain ⟨ws, rfl⟩ : ∃ ws : World, ws = wr := ⟨_, rfl⟩
        obtain ⟨oY, HO2⟩ : ∃ o, Hid (trF N set (ordC D c ++ ordK D c k) = o) := ⟨_, Lib.hid rfl⟩
        have HL2 := Lib.hid (show oY.length = N.ends.length by rw [← HO2.out, trF_len])
        rw [HO2.out] at HO
        by_cases hkm : k < D.colour.length
        case neg =>
          obtain rfl : k = D.colour.length := by omega
          have HXE := Lib.hid (show oY = trF N set (ordC D (c + 1)) from HO2.out.symm)
          go_wp2_with fail
          go_roundw
          case rel => exact ⟨c + 1, by omega, by go_num, by rw [← HXE.out]; exact HO, HF5⟩
          case measure => simp [intOf]; omega
        have kbx2_0 : ws.cell? ⟨w.heap.size + 1, 0, none⟩ = some (.slice A2 D.cluster.length c2) := (HF5.out.boxN bx2_2 (by omega)).cell 0 (by simp)
        have kbx2_1 : ws.cell? ⟨w.heap.size + 1, 1, none⟩ = some (.slice (some ⟨b2, o2', none⟩) D.colour.length c2') := (HF5.out.boxN bx2_2 (by omega)).cell 1 (by simp)
        have hkmi : (k : Int) < D.colour.length := by omega
        have hcolS := Dec.colourS (Dec.turned D_2.out HF5.out (by omega) (by omega))
        have x1 := (IntS.at_ hcolS (j := k) hkm).1
        obtain ⟨y, HY⟩ : ∃ y, Hid (nth D.colour k = y) := ⟨_, Lib.hid rfl⟩
        rw [HY.out] at x1
        clear hcolS
        by_cases hyc : y = (c : Int)
        case neg =>
          have hye : (y != (c : Int)) = true := by simpa using hyc
          have HXE := Lib.hid (show oY = trF N set (ordC D c ++ ordK D c (k + 1)) by rw [← HO2.out]; simp only [ordK]; rw [HY.out, if_neg hyc, List.append_nil])
          go_wp2_with fail
          go_roundw
          case rel => exact ⟨k + 1, by omega, by go_num, by rw [← HXE.out]; exact HO, HB, hz2, HF5⟩
          case measure => simp [intOf]; omega
        have hye : (y != (c : Int)) = false := by simpa using hyc
        have HYC := Lib.hid (show nth D.colour k = (c : Int) by rw [HY.out, hyc])
        have HXE := Lib.hid (show tkF N set oY (clusN D.cluster k) = trF N set (ordC D c ++ ordK D c (k + 1)) by rw [← HO2.out]; unfold trF; rw [← tkF_app]; simp only [ordK]; rw [if_pos HYC.out, List.append_assoc])
        go_wp2_with fail
        clear x1 kbx2_0 kbx2_1
        refine (l1Own_any _ oX _ _ _ HB.out (by omega) (by rw [HL1.out]; omega) (by rw [HL1.out]; omega)).mono ?_
        rintro e W6 ⟨rw_, rfl, hrw, hb6⟩
        have hg6 := grown_below hb6; clear hb6
        have hs6 := hg6.size
        have HF6 := Lib.hid (HF5.out.still hg6); clear HF5
        have O6 := Lib.hid (IntS.still HO.out hg6 (by omega)); clear HO
        have B6 := Lib.hid (IntS.still HB.out hg6 (by omega)); clear HB
        have P6 := Lib.hid hrw; clear hrw
        obtain ⟨AP, cP, rfl, hcP, hdP⟩ := P6.out.dims
        obtain ⟨bP, oP, rfl, _, hbP, _, _⟩ := IntS.opened P6.out (j := 0) (by rw [HL1.out]; omega)
        rw [HL1.out] at hcP ⊢
        rw [HL1.out] at P6
        have kbx2_0 : W6.cell? ⟨w.heap.size + 1, 0, none⟩ = some (.slice A2 D.cluster.length c2) := (HF6.out.boxN bx2_2 (by omega)).cell 0 (by simp)
        have kbx2_1 : W6.cell? ⟨w.heap.size + 1, 1, none⟩ = some (.slice (some ⟨b2, o2', none⟩) D.colour.length c2') := (HF6.out.boxN bx2_2 (by omega)).cell 1 (by simp)
        go_wp2_with fail
        clear kbx2_0 kbx2_1
        refine (deNodes_any _ D.cluster _ _ k _ (Dec.clusterS (Dec.turned D_2.out HF6.out (by omega) (by omega))) (by omega) (by rw [HCLN.out]; omega)).mono ?_
        rintro e W7 ⟨r9, rfl, hr9, hb7⟩
        have hg7 := grown_below hb7; clear hb7
        have hs7 := hg7.size
        have HF7 := Lib.hid (HF6.out.still hg7); clear HF6
        have O7 := Lib.hid (IntS.still O6.out hg7 (by omega)); clear O6
        have B7 := Lib.hid (IntS.still B6.out hg7 (by omega)); clear B6
        have P7 := Lib.hid (IntS.still P6.out hg7 (by omega)); clear P6
        have Q7 := Lib.hid hr9; clear hr9
        obtain ⟨A9, c9, rfl, hc9, hd9⟩ := IntS.dims Q7.out
        obtain ⟨b9, o9, rfl, _, hb9, _, _⟩ := IntS.opened Q7.out (j := 0) (HCF.out.ne k hkm)
        have HCN := Lib.hid (show ∀ m, m < (clusN D.cluster k).length → ∃ v : Nat, nth (clusN D.cluster k) m = v ∧ v < N.ends.length from fun m hm => by
          have h := nth_mem hm
          rw [clusN_clsK, List.mem_map] at h
          obtain ⟨a, ha, e⟩ := h
          have := (mem_clsK.1 ha).1
          rw [HCLN.out] at this
          exact ⟨a, by rw [clusN_clsK]; exact e.symm, this⟩)
        have HTE := Lib.hid (show ∀ m v : Nat, m < (clusN D.cluster k).length → nth (clusN D.cluster k) m = (v : Int) → tkV N set (tkF N set oX ((clusN D.cluster k).take m)) v = tkV N set (tkF N set oY ((clusN D.cluster k).take m)) v from fun m v hm hv => by
          rw [← HO1.out, ← HO2.out]; exact turn_eq HG.out HDG.out HYC.out hkm hm hv)
        obtain ⟨cl, HCL⟩ : ∃ cl, Hid (clusN D.cluster k = cl) := ⟨_, Lib.hid rfl⟩
        rw [HCL.out] at HCN HTE HXE hc9 Q7 ⊢
        go_wp2_with fail
        go_loopw [57] (fun mv wr => ∃ (m : Nat), m ≤ cl.length ∧ mv = .int .i64 m ∧ Hid (IntS wr WA.heap.size (WA.heap.size + 1) (.slice (some ⟨WA.heap.size, 0, none⟩) N.ends.length N.ends.length) (tkF N set oY (cl.take m))) ∧ Hid (IntS wr ws.heap.size W6.heap.size (.slice (some ⟨bP, oP, none⟩) N.ends.length cP) (tkF N set oX (cl.take m))) ∧ Hid (IntS wr wq.heap.size W4.heap.size (.slice (some ⟨bB, oB, none⟩) N.ends.length cB) oX) ∧ Hid (IntS wr W6.heap.size W7.heap.size (.slice (some ⟨b9, o9, none⟩) cl.length c9) cl) ∧ W7.heap.size ≤ wr.heap.size ∧ Hid (Turned WA.heap.size (WA.heap.size + 1) wm wr)) (fun mv _ => cl.length - (intOf mv).toNat)
        case atStart => exact ⟨0, Nat.zero_le _, rfl, O7, P7, B7, Q7, Nat.le_refl _, HF7⟩
        case round =>
          clear HF7
          obtain ⟨m, hm, rfl, HO, HP, HB, HQ, hz3, HF8⟩ := hrel
          have hs8 := HF8.out.size
          obtain ⟨wt, rfl⟩ : ∃ wt : World, wt = wr := ⟨_, rfl⟩
          obtain ⟨p, HPP⟩ : ∃ p, Hid (tkF N set oX (cl.take m) = p) := ⟨_, Lib.hid rfl⟩
          obtain ⟨o, HOO⟩ : ∃ o, Hid (tkF N set oY (cl.take m) = o) := ⟨_, Lib.hid rfl⟩
          have HPL := Lib.hid (show p.length = N.ends.length by rw [← HPP.out, tkF_len, HL1.out])
          have HOL := Lib.hid (show o.length = N.ends.length by rw [← HOO.out, tkF_len, HL2.out])
          rw [HPP.out] at HP
          rw [HOO.out] at HO
          by_cases hlt : m < cl.length
          case neg =>
            obtain rfl : m = cl.length := by omega
            have HXF := Lib.hid (show o = trF N set (ordC D c ++ ordK D c (k + 1)) by rw [← HXE.out, ← HOO.out, List.take_length])
            go_wp2_with fail
            go_roundw
            case rel => exact ⟨k + 1, by omega, by go_num, by rw [← HXF.out]; exact HO, HB, by omega, HF8⟩
            case measure => simp [intOf]; omega
          obtain ⟨v, hv, hvn⟩ := HCN.out m hlt
          have x5 := (IntS.at_ HQ.out (j := m) hlt).1
          rw [hv] at x5
          have HVE := Lib.hid (show tkV N set o v = tkV N set p v by have := HTE.out m v hlt hv; rw [HPP.out, HOO.out] at this; exact this.symm)
          have HP2 := Lib.hid (show tkF N set oX (cl.take (m + 1)) = p.set v (tkV N set p v) by rw [tkF_take _ _ _ _ hlt, HPP.out, hv]; unfold tkS; rw [Int.toNat_natCast])
          have HO3 := Lib.hid (show tkF N set oY (cl.take (m + 1)) = o.set v (tkV N set p v) by rw [tkF_take _ _ _ _ hlt, HOO.out, hv]; unfold tkS; rw [Int.toNat_natCast, HVE.out])
          have hd6 := good_deg HG.out hvn
          have HV := Lib.hid hv; clear hv
          have kbx1_0 : wt.cell? ⟨w.heap.size, 0, none⟩ = some (.slice (some ⟨b1, o1, none⟩) N.ends.length c1) := (HF8.out.boxN bx1_2 (by omega)).cell 0 (by simp)
          have kbx1_1 : wt.cell? ⟨w.heap.size, 1, none⟩ = some (.slice A1' N.ids.length c1') := (HF8.out.boxN bx1_2 (by omega)).cell 1 (by simp)
          have kbx1_2 : wt.cell? ⟨w.heap.size, 2, none⟩ = some (.slice A1'' N.inputs.length c1'') := (HF8.out.boxN bx1_2 (by omega)).cell 2 (by simp)
          go_wp2_with fail
          clear x5 kbx1_0 kbx1_1 kbx1_2
          refine (deSeen_any _ N lo1 hi1 v _ (Net.turned N_2.out HF8.out (by omega) (by omega)) (by omega) HG.out hvn).mono ?_
          rintro e W9 ⟨r, rfl, hr, hb9⟩
          have hg9 := grown_below hb9; clear hb9
          have hs9 := hg9.size
          have HF9 := Lib.hid (HF8.out.still hg9); clear HF8
          have O9 := Lib.hid (IntS.still HO.out hg9 (by omega)); clear HO
          have P9 := Lib.hid (IntS.still HP.out hg9 (by omega)); clear HP
          have B9 := Lib.hid (IntS.still HB.out hg9 (by omega)); clear HB
          have Q9 := Lib.hid (IntS.still HQ.out hg9 (by omega)); clear HQ
          have R9 := Lib.hid hr; clear hr
          obtain ⟨Ar, cr, rfl, hcr, hdr⟩ := R9.out.dims
          have hsl := seen_len N v
          go_wp2_with fail
          refine (coThrough_any _ p _ _ _ (seen N v) _ _ _ P9.out (by omega) R9.out (by omega) (by omega) (fun j hj => by have := seen_node HG.out hvn hj; rw [HPL.out]; exact this)).mono ?_
          rintro e W10 ⟨r2, rfl, hr2, hb10⟩
          have hg10 := grown_below hb10; clear hb10
          have hs10 := hg10.size
          have HF10 := Lib.hid (HF9.out.still hg10); clear HF9
          have O10 := Lib.hid (IntS.still O9.out hg10 (by omega)); clear O9
          have P10 := Lib.hid (IntS.still P9.out hg10 (by omega)); clear P9
          have B10 := Lib.hid (IntS.still B9.out hg10 (by omega)); clear B9
          have Q10 := Lib.hid (IntS.still Q9.out hg10 (by omega)); clear Q9
          have R10 := Lib.hid (IntS.still R9.out hg10 (by omega)); clear R9
          have S10 := Lib.hid hr2; clear hr2
          obtain ⟨Aq, cq, rfl, hcq, hdq⟩ := S10.out.dims
          cases set with
          | false =>
            have hlfl := lf_le (thruL p (seen N v))
            rw [thruL_length] at hlfl
            obtain ⟨c0, HC0⟩ : ∃ c0 : Nat, Hid (lf (thruL p (seen N v)) = c0) := ⟨_, Lib.hid rfl⟩
            rw [HC0.out] at hlfl
            have HC := Lib.hid (show tkV N false p v = ((c0 : Nat) : Int) by unfold tkV; rw [if_neg (by decide), HC0.out])
            obtain ⟨y1, y2⟩ := P10.out.at_ (j := v) (by rw [HPL.out]; exact hvn)
            obtain ⟨y, HYY⟩ : ∃ y, Hid (nth p v = y) := ⟨_, Lib.hid rfl⟩
            rw [HYY.out] at y1
            have hvi : (v : Int) < N.ends.length := by omega
            go_upto_region 25 with (go_at_call 40; refine (clLeast_any _ (thruL p (seen N v)) _ _ _ S10.out (by omega) (by rw [thruL_length]; omega)).mono ?_; rintro e w' ⟨rfl, rfl⟩; rw [HC0.out])
            refine nameC ?_
            intro W11 HW11
            have hg11 : W10.grownBy W11 (some bP) := by rw [HW11.out]; exact grown_set _ _ _
            have hs11 := hg11.size
            have HF11 := Lib.hid (HF10.out.grown hg11 (fun g hg => .inr (by cases hg; omega))); clear HF10
            have HPn := Lib.hid (show IntS W11 ws.heap.size W6.heap.size (.slice (some ⟨bP, oP, none⟩) N.ends.length cP) (p.set v ((c0 : Nat) : Int)) by rw [HW11.out]; exact P10.out.set (by rw [HPL.out]; exact hvn) _)
            have HOn := Lib.hid (IntS.far O10.out hg11 (by omega) (fun g hg => .inr (by cases hg; omega)))
            have HBn := Lib.hid (IntS.far B10.out hg11 (by omega) (fun g hg => .inr (by cases hg; omega)))
            have HQn := Lib.hid (IntS.far Q10.out hg11 (by omega) (fun g hg => .inl (by cases hg; omega)))
            clear HW11 y1 y2
            obtain ⟨z1, z2⟩ := HPn.out.at_ (j := v) (by rw [List.length_set, HPL.out]; exact hvn)
            rw [nth_set _ _ _ _ (by rw [HPL.out]; exact hvn), if_pos rfl] at z1
            obtain ⟨q1, q2⟩ := HOn.out.at0 (j := v) (by rw [HOL.out]; exact hvn)
            have HS := Lib.hid (HOn.out.set0 (j := v) (by rw [HOL.out]; exact hvn) ((c0 : Nat) : Int))
            have HB9 := Lib.hid (IntS.far HBn.out (grown_set _ ⟨WA.heap.size, v, none⟩ (.int .i64 ((c0 : Nat) : Int))) (by omega) (fun g hg => .inl (by cases hg; show WA.heap.size < _; omega)))
            have HQ9 := Lib.hid (IntS.far HQn.out (grown_set _ ⟨WA.heap.size, v, none⟩ (.int .i64 ((c0 : Nat) : Int))) (by omega) (fun g hg => .inl (by cases hg; show WA.heap.size < _; omega)))
            have HP9 := Lib.hid (IntS.far HPn.out (grown_set _ ⟨WA.heap.size, v, none⟩ (.int .i64 ((c0 : Nat) : Int))) (by omega) (fun g hg => .inl (by cases hg; show WA.heap.size < _; omega)))
            have HF9 := Lib.hid (HF11.out.grown (grown_set _ ⟨WA.heap.size, v, none⟩ (.int .i64 ((c0 : Nat) : Int))) fun g hg => .inl (by cases hg; exact ⟨by show _ ≤ WA.heap.size; omega, by show WA.heap.size < _; omega⟩))
            go_wp2_with fail
            go_roundw
            case rel => exact ⟨m + 1, by omega, by go_num, Lib.hid (by rw [HO3.out, HC.out]; exact HS.out), Lib.hid (by rw [HP2.out, HC.out]; exact HP9.out), HB9, HQ9, by rw [size_setCell]; omega, HF9⟩
            case measure => simp [intOf]; omega
          | true =>
            obtain ⟨h1, HH1⟩ : ∃ h1, Hid (decide ((1 : Int) ∈ thruL p (seen N v)) = h1) := ⟨_, Lib.hid rfl⟩
            obtain ⟨h2, HH2⟩ : ∃ h2, Hid (decide ((v : Int) ∈ nbs N v) = h2) := ⟨_, Lib.hid rfl⟩
            have HCC := Lib.hid (show tkV N true p v = if (h1 || h2) = true then 0 else 1 by unfold tkV; rw [if_pos rfl, HH1.out, HH2.out])
            go_wp2_with fail
            refine (l1Has_any _ (thruL p (seen N v)) 1 _ _ _ S10.out).mono ?_
            rintro e w' ⟨rfl, rfl⟩
            rw [HH1.out]
            cases h1 with
            | true =>
              have HC := Lib.hid (show tkV N true p v = ((0 : Nat) : Int) by rw [HCC.out]; rfl)
              obtain ⟨y1, y2⟩ := P10.out.at_ (j := v) (by rw [HPL.out]; exact hvn)
              obtain ⟨y, HYY⟩ : ∃ y, Hid (nth p v = y) := ⟨_, Lib.hid rfl⟩
              rw [HYY.out] at y1
              have hvi : (v : Int) < N.ends.length := by omega
              go_upto_region 25 with (fail)
              refine nameC ?_
              intro W12 HW12
              have hg12 : W10.grownBy W12 (some bP) := by rw [HW12.out]; exact grown_set _ _ _
              have hs12 := hg12.size
              have HF12 := Lib.hid (HF10.out.grown hg12 (fun g hg => .inr (by cases hg; omega))); clear HF10
              have HPn := Lib.hid (show IntS W12 ws.heap.size W6.heap.size (.slice (some ⟨bP, oP, none⟩) N.ends.length cP) (p.set v ((0 : Nat) : Int)) by rw [HW12.out]; exact P10.out.set (by rw [HPL.out]; exact hvn) _)
              have HOn := Lib.hid (IntS.far O10.out hg12 (by omega) (fun g hg => .inr (by cases hg; omega)))
              have HBn := Lib.hid (IntS.far B10.out hg12 (by omega) (fun g hg => .inr (by cases hg; omega)))
              have HQn := Lib.hid (IntS.far Q10.out hg12 (by omega) (fun g hg => .inl (by cases hg; omega)))
              clear HW12 y1 y2
              obtain ⟨z1, z2⟩ := HPn.out.at_ (j := v) (by rw [List.length_set, HPL.out]; exact hvn)
              rw [nth_set _ _ _ _ (by rw [HPL.out]; exact hvn), if_pos rfl] at z1
              obtain ⟨q1, q2⟩ := HOn.out.at0 (j := v) (by rw [HOL.out]; exact hvn)
              have HS := Lib.hid (HOn.out.set0 (j := v) (by rw [HOL.out]; exact hvn) ((0 : Nat) : Int))
              have HB9 := Lib.hid (IntS.far HBn.out (grown_set _ ⟨WA.heap.size, v, none⟩ (.int .i64 ((0 : Nat) : Int))) (by omega) (fun g hg => .inl (by cases hg; show WA.heap.size < _; omega)))
              have HQ9 := Lib.hid (IntS.far HQn.out (grown_set _ ⟨WA.heap.size, v, none⟩ (.int .i64 ((0 : Nat) : Int))) (by omega) (fun g hg => .inl (by cases hg; show WA.heap.size < _; omega)))
              have HP9 := Lib.hid (IntS.far HPn.out (grown_set _ ⟨WA.heap.size, v, none⟩ (.int .i64 ((0 : Nat) : Int))) (by omega) (fun g hg => .inl (by cases hg; show WA.heap.size < _; omega)))
              have HF9 := Lib.hid (HF12.out.grown (grown_set _ ⟨WA.heap.size, v, none⟩ (.int .i64 ((0 : Nat) : Int))) fun g hg => .inl (by cases hg; exact ⟨by show _ ≤ WA.heap.size; omega, by show WA.heap.size < _; omega⟩))
              go_wp2_with fail
              go_roundw
              case rel => exact ⟨m + 1, by omega, by go_num, Lib.hid (by rw [HO3.out, HC.out]; exact HS.out), Lib.hid (by rw [HP2.out, HC.out]; exact HP9.out), HB9, HQ9, by rw [size_setCell]; omega, HF9⟩
              case measure => simp [intOf]; omega
            | false =>
              have kbx1_0 : W10.cell? ⟨w.heap.size, 0, none⟩ = some (.slice (some ⟨b1, o1, none⟩) N.ends.length c1) := (HF10.out.boxN bx1_2 (by omega)).cell 0 (by simp)
              have kbx1_1 : W10.cell? ⟨w.heap.size, 1, none⟩ = some (.slice A1' N.ids.length c1') := (HF10.out.boxN bx1_2 (by omega)).cell 1 (by simp)
              have kbx1_2 : W10.cell? ⟨w.heap.size, 2, none⟩ = some (.slice A1'' N.inputs.length c1'') := (HF10.out.boxN bx1_2 (by omega)).cell 2 (by simp)
              go_wp2_with fail
              clear kbx1_0 kbx1_1 kbx1_2
              refine (neNear_any _ N v lo1 hi1 _ (Net.turned N_2.out HF10.out (by omega) (by omega)) (by omega) hvn (by omega)).mono ?_
              rintro e W13 ⟨rn, rfl, hrn, hb13⟩
              have hg13 := grown_below hb13; clear hb13
              have hs13 := hg13.size
              have HF13 := Lib.hid (HF10.out.still hg13); clear HF10
              have O13 := Lib.hid (IntS.still O10.out hg13 (by omega)); clear O10
              have P13 := Lib.hid (IntS.still P10.out hg13 (by omega)); clear P10
              have B13 := Lib.hid (IntS.still B10.out hg13 (by omega)); clear B10
              have Q13 := Lib.hid (IntS.still Q10.out hg13 (by omega)); clear Q10
              have R13 := Lib.hid (IntS.still R10.out hg13 (by omega)); clear R10
              have S13 := Lib.hid (IntS.still S10.out hg13 (by omega)); clear S10
              have Y13 := Lib.hid hrn; clear hrn
              obtain ⟨Ay, cy, rfl, hcy, hdy⟩ := Y13.out.dims
              go_wp2_with fail
              refine (l1Has_any _ (nbs N v) (v : Int) _ _ _ Y13.out).mono ?_
              rintro e w' ⟨rfl, rfl⟩
              rw [HH2.out]
              cases h2 with
              | true =>
                have HC := Lib.hid (show tkV N true p v = ((0 : Nat) : Int) by rw [HCC.out]; rfl)
                obtain ⟨y1, y2⟩ := P13.out.at_ (j := v) (by rw [HPL.out]; exact hvn)
                obtain ⟨y, HYY⟩ : ∃ y, Hid (nth p v = y) := ⟨_, Lib.hid rfl⟩
                rw [HYY.out] at y1
                have hvi : (v : Int) < N.ends.length := by omega
                go_upto_region 25 with (fail)
                refine nameC ?_
                intro W14 HW14
                have hg14 : W13.grownBy W14 (some bP) := by rw [HW14.out]; exact grown_set _ _ _
                have hs14 := hg14.size
                have HF14 := Lib.hid (HF13.out.grown hg14 (fun g hg => .inr (by cases hg; omega))); clear HF13
                have HPn := Lib.hid (show IntS W14 ws.heap.size W6.heap.size (.slice (some ⟨bP, oP, none⟩) N.ends.length cP) (p.set v ((0 : Nat) : Int)) by rw [HW14.out]; exact P13.out.set (by rw [HPL.out]; exact hvn) _)
                have HOn := Lib.hid (IntS.far O13.out hg14 (by omega) (fun g hg => .inr (by cases hg; omega)))
                have HBn := Lib.hid (IntS.far B13.out hg14 (by omega) (fun g hg => .inr (by cases hg; omega)))
                have HQn := Lib.hid (IntS.far Q13.out hg14 (by omega) (fun g hg => .inl (by cases hg; omega)))
                clear HW14 y1 y2
                obtain ⟨z1, z2⟩ := HPn.out.at_ (j := v) (by rw [List.length_set, HPL.out]; exact hvn)
                rw [nth_set _ _ _ _ (by rw [HPL.out]; exact hvn), if_pos rfl] at z1
                obtain ⟨q1, q2⟩ := HOn.out.at0 (j := v) (by rw [HOL.out]; exact hvn)
                have HS := Lib.hid (HOn.out.set0 (j := v) (by rw [HOL.out]; exact hvn) ((0 : Nat) : Int))
                have HB9 := Lib.hid (IntS.far HBn.out (grown_set _ ⟨WA.heap.size, v, none⟩ (.int .i64 ((0 : Nat) : Int))) (by omega) (fun g hg => .inl (by cases hg; show WA.heap.size < _; omega)))
                have HQ9 := Lib.hid (IntS.far HQn.out (grown_set _ ⟨WA.heap.size, v, none⟩ (.int .i64 ((0 : Nat) : Int))) (by omega) (fun g hg => .inl (by cases hg; show WA.heap.size < _; omega)))
                have HP9 := Lib.hid (IntS.far HPn.out (grown_set _ ⟨WA.heap.size, v, none⟩ (.int .i64 ((0 : Nat) : Int))) (by omega) (fun g hg => .inl (by cases hg; show WA.heap.size < _; omega)))
                have HF9 := Lib.hid (HF14.out.grown (grown_set _ ⟨WA.heap.size, v, none⟩ (.int .i64 ((0 : Nat) : Int))) fun g hg => .inl (by cases hg; exact ⟨by show _ ≤ WA.heap.size; omega, by show WA.heap.size < _; omega⟩))
                go_wp2_with fail
                go_roundw
                case rel => exact ⟨m + 1, by omega, by go_num, Lib.hid (by rw [HO3.out, HC.out]; exact HS.out), Lib.hid (by rw [HP2.out, HC.out]; exact HP9.out), HB9, HQ9, by rw [size_setCell]; omega, HF9⟩
                case measure => simp [intOf]; omega
              | false =>
                have HC := Lib.hid (show tkV N true p v = ((1 : Nat) : Int) by rw [HCC.out]; rfl)
                obtain ⟨y1, y2⟩ := P13.out.at_ (j := v) (by rw [HPL.out]; exact hvn)
                obtain ⟨y, HYY⟩ : ∃ y, Hid (nth p v = y) := ⟨_, Lib.hid rfl⟩
                rw [HYY.out] at y1
                have hvi : (v : Int) < N.ends.length := by omega
                go_upto_region 25 with (fail)
                refine nameC ?_
                intro W15 HW15
                have hg15 : W13.grownBy W15 (some bP) := by rw [HW15.out]; exact grown_set _ _ _
                have hs15 := hg15.size
                have HF15 := Lib.hid (HF13.out.grown hg15 (fun g hg => .inr (by cases hg; omega))); clear HF13
                have HPn := Lib.hid (show IntS W15 ws.heap.size W6.heap.size (.slice (some ⟨bP, oP, none⟩) N.ends.length cP) (p.set v ((1 : Nat) : Int)) by rw [HW15.out]; exact P13.out.set (by rw [HPL.out]; exact hvn) _)
                have HOn := Lib.hid (IntS.far O13.out hg15 (by omega) (fun g hg => .inr (by cases hg; omega)))
                have HBn := Lib.hid (IntS.far B13.out hg15 (by omega) (fun g hg => .inr (by cases hg; omega)))
                have HQn := Lib.hid (IntS.far Q13.out hg15 (by omega) (fun g hg => .inl (by cases hg; omega)))
                clear HW15 y1 y2
                obtain ⟨z1, z2⟩ := HPn.out.at_ (j := v) (by rw [List.length_set, HPL.out]; exact hvn)
                rw [nth_set _ _ _ _ (by rw [HPL.out]; exact hvn), if_pos rfl] at z1
                obtain ⟨q1, q2⟩ := HOn.out.at0 (j := v) (by rw [HOL.out]; exact hvn)
                have HS := Lib.hid (HOn.out.set0 (j := v) (by rw [HOL.out]; exact hvn) ((1 : Nat) : Int))
                have HB9 := Lib.hid (IntS.far HBn.out (grown_set _ ⟨WA.heap.size, v, none⟩ (.int .i64 ((1 : Nat) : Int))) (by omega) (fun g hg => .inl (by cases hg; show WA.heap.size < _; omega)))
                have HQ9 := Lib.hid (IntS.far HQn.out (grown_set _ ⟨WA.heap.size, v, none⟩ (.int .i64 ((1 : Nat) : Int))) (by omega) (fun g hg => .inl (by cases hg; show WA.heap.size < _; omega)))
                have HP9 := Lib.hid (IntS.far HPn.out (grown_set _ ⟨WA.heap.size, v, none⟩ (.int .i64 ((1 : Nat) : Int))) (by omega) (fun g hg => .inl (by cases hg; show WA.heap.size < _; omega)))
                have HF9 := Lib.hid (HF15.out.grown (grown_set _ ⟨WA.heap.size, v, none⟩ (.int .i64 ((1 : Nat) : Int))) fun g hg => .inl (by cases hg; exact ⟨by show _ ≤ WA.heap.size; omega, by show WA.heap.size < _; omega⟩))
                go_wp2_with fail
                go_roundw
                case rel => exact ⟨m + 1, by omega, by go_num, Lib.hid (by rw [HO3.out, HC.out]; exact HS.out), Lib.hid (by rw [HP2.out, HC.out]; exact HP9.out), HB9, HQ9, by rw [size_setCell]; omega, HF9⟩
                case measure => simp [intOf]; omega

end Go.Proofs.YtakcjdlliejldaaGreat

/- ColourByClusters and IndependentByClusters: both sides. -/
namespace Go.Proofs.YtakcjdlliejldaaGreat
open Go.ChangeShapes Go.WideShapes Go.ChangeAt Go.RowKit
set_option linter.unusedVariables false

def cbOut (N : NetD) (D : DecD) : List Int := if askedB N D then turnsL N D false else []
def ibOut (N : NetD) (D : DecD) : List Int := if askedB N D then onesOf (turnsL N D true) N.ends.length else []
theorem cbOut_yes {N : NetD} {D : DecD} (h : askedB N D = true) : cbOut N D = turnsL N D false := by unfold cbOut; rw [if_pos h]
theorem cbOut_no {N : NetD} {D : DecD} (h : askedB N D = false) : cbOut N D = [] := by unfold cbOut; rw [h]; rfl
theorem ibOut_yes {N : NetD} {D : DecD} (h : askedB N D = true) : ibOut N D = onesOf (turnsL N D true) N.ends.length := by unfold ibOut; rw [if_pos h]
theorem ibOut_no {N : NetD} {D : DecD} (h : askedB N D = false) : ibOut N D = [] := by unfold ibOut; rw [h]; rfl
theorem asked_n {N : NetD} {D : DecD} (h : askedB N D = true) : N.ends.length ≤ 40 := by
  unfold askedB at h; rw [Bool.and_eq_true] at h; exact (good_n h.1).2
theorem cbOut_len (N : NetD) (D : DecD) : (cbOut N D).length ≤ 40 := by
  by_cases h : askedB N D = true
  · rw [cbOut_yes h, turnsL_len]; exact asked_n h
  · rw [cbOut_no (by simpa using h)]; simp
theorem ibOut_len (N : NetD) (D : DecD) : (ibOut N D).length ≤ 40 := by
  by_cases h : askedB N D = true
  · rw [ibOut_yes h]; have := onesOf_len (turnsL N D true) N.ends.length; have := asked_n h; omega
  · rw [ibOut_no (by simpa using h)]; simp

set_option maxHeartbeats 2000000 in
set_option maxRecDepth 100000 in
theorem ColourByClusters_impl (v1 : Value) (N : NetD) (lo1 hi1 : Nat) (v2 : Value) (D : DecD) (lo2 hi2 : Nat) (w : World) (h1 : Net w lo1 hi1 v1 N) (hh1 : hi1 ≤ w.heap.size) (h2 : Dec w lo2 hi2 v2 D) (hh2 : hi2 ≤ w.heap.size) (hz1 : N.sz ≤ 1048576) (hz2 : D.sz ≤ 1048576) (ok1 : N.Ok) (ok2 : D.Ok) :
    Calls Tryz.prog 19 #[v1, v2] w fun e w' => ∃ r, e = .returned (.tuple #[r, .bool (askedB N D)]) ∧ IntS w' w.heap.size w'.heap.size r (cbOut N D) ∧ Below w.heap.size w w' := by
  clear ok1 ok2
  have F1 := Lib.hid h1
  obtain ⟨A1, c1, A1', c1', A1'', c1'', rfl, hc1, hd1, _⟩ := h1.parts
  clear h1
  have F2 := Lib.hid h2
  obtain ⟨A2, c2, A2', c2', rfl, hc2, hd2⟩ := h2.parts
  clear h2
  obtain ⟨WA, HWA⟩ : ∃ W, Hid (W = ((w.alloc (.cells #[.slice A1 N.ends.length c1, .slice A1' N.ids.length c1', .slice A1'' N.inputs.length c1''] 34)).alloc (.cells #[.slice A2 D.cluster.length c2, .slice A2' D.colour.length c2'] 36))) := ⟨_, Lib.hid rfl⟩
  have hbA : Below w.heap.size w WA := by rw [HWA.out]; exact (((Below.refl _ _).alloc (Nat.le_refl _) _).alloc (by simp; try omega) _)
  have hsA : w.heap.size + 2 ≤ WA.heap.size := by rw [HWA.out]; simp; try omega
  have bx1 : BoxN WA (w.heap.size) #[.slice A1 N.ends.length c1, .slice A1' N.ids.length c1', .slice A1'' N.inputs.length c1''] 34 := by rw [HWA.out]; exact ((BoxN.new' _ _ _ (by simp)).still (grown_alloc _ _))
  have bx2 : BoxN WA (w.heap.size + 1) #[.slice A2 D.cluster.length c2, .slice A2' D.colour.length c2'] 36 := by rw [HWA.out]; exact (BoxN.new' _ _ _ (by simp))
  have G1 := Lib.hid (Net.below F1.out hbA hh1); clear F1
  have G2 := Lib.hid (Dec.below F2.out hbA hh2); clear F2
  go_enter Tryz.func19, Tryz.ntmps19
  go_upto_region 1 with (fail)
  rw [← HWA.out]; clear HWA
  have kbx1_0 : WA.cell? ⟨w.heap.size, 0, none⟩ = some (.slice A1 N.ends.length c1) := bx1.cell 0 (by simp)
  have kbx1_1 : WA.cell? ⟨w.heap.size, 1, none⟩ = some (.slice A1' N.ids.length c1') := bx1.cell 1 (by simp)
  have kbx1_2 : WA.cell? ⟨w.heap.size, 2, none⟩ = some (.slice A1'' N.inputs.length c1'') := bx1.cell 2 (by simp)
  have kbx2_0 : WA.cell? ⟨w.heap.size + 1, 0, none⟩ = some (.slice A2 D.cluster.length c2) := bx2.cell 0 (by simp)
  have kbx2_1 : WA.cell? ⟨w.heap.size + 1, 1, none⟩ = some (.slice A2' D.colour.length c2') := bx2.cell 1 (by simp)
  go_wp2_with fail
  clear kbx1_0 kbx1_1 kbx1_2 kbx2_0 kbx2_1
  refine (decompositionOk_any _ N lo1 hi1 _ D lo2 hi2 _ G1.out (by omega) G2.out (by omega) hz1 hz2).mono ?_
  rintro e W1 ⟨rfl, hb1⟩
  have hg1 := grown_below hb1; clear hb1
  have hs1 := hg1.size
  have HF1 := Lib.hid ((Turned.refl WA.heap.size WA.heap.size WA).still hg1)
  by_cases hA : askedB N D = true
  case neg =>
    have hA' : askedB N D = false := by simpa using hA
    rw [hA']
    have HA := Lib.hid hA'; clear hA hA'
    go_wp2_with fail
    go_ret2
    exact ⟨_, ret_vb HA.out.symm, by rw [cbOut_no HA.out]; exact IntS.nil _ _ _, (HF1.out.below_of hbA (by omega) (by omega))⟩
  rw [hA]
  have HA := Lib.hid hA; clear hA
  have HF9 := Lib.hid (asked_facts HA.out)
  have HPM := Lib.hid (ordC_perm HA.out)
  have HGD := Lib.hid (show N.good = true by have h := HA.out; unfold askedB at h; rw [Bool.and_eq_true] at h; exact h.1)
  go_wp2_with fail
  refine wp_region_U (fun w' => w'.cell? ⟨w.heap.size, 0, none⟩ = some (.slice A1 N.ends.length c1) ∧ w'.cell? ⟨w.heap.size, 1, none⟩ = some (.slice A1' N.ids.length c1') ∧ w'.cell? ⟨w.heap.size, 2, none⟩ = some (.slice A1'' N.inputs.length c1'') ∧ w'.cell? ⟨w.heap.size + 1, 0, none⟩ = some (.slice A2 D.cluster.length c2) ∧ w'.cell? ⟨w.heap.size + 1, 1, none⟩ = some (.slice A2' D.colour.length c2')) [] (by kernel_rfl) ?_
  refine nameU ?_
  intro W2 HW2
  have hg2 : W1.grownBy W2 none := by rw [HW2.out]; exact grown_drew _
  clear HW2
  have hs2 := hg2.size
  have HF2 := Lib.hid (HF1.out.still hg2); clear HF1
  have hS3 : W2.cell? ⟨w.heap.size, 0, none⟩ = some (.slice A1 N.ends.length c1) ∧ W2.cell? ⟨w.heap.size, 1, none⟩ = some (.slice A1' N.ids.length c1') ∧ W2.cell? ⟨w.heap.size, 2, none⟩ = some (.slice A1'' N.inputs.length c1'') ∧ W2.cell? ⟨w.heap.size + 1, 0, none⟩ = some (.slice A2 D.cluster.length c2) ∧ W2.cell? ⟨w.heap.size + 1, 1, none⟩ = some (.slice A2' D.colour.length c2') := ⟨(HF2.out.boxN bx1 (by omega)).cell 0 (by simp), (HF2.out.boxN bx1 (by omega)).cell 1 (by simp), (HF2.out.boxN bx1 (by omega)).cell 2 (by simp), (HF2.out.boxN bx2 (by omega)).cell 0 (by simp), (HF2.out.boxN bx2 (by omega)).cell 1 (by simp)⟩
  refine anyU_take (i := 0) (v := .agg #[.slice A1 N.ends.length c1, .slice A1' N.ids.length c1', .slice A1'' N.inputs.length c1'']) rfl (by kernel_rfl) (by kernel_rfl) (by kernel_rfl) (fun _ _ _ h => h) ⟨by rfl, fun w' hS' => (by obtain ⟨s1, s2, s3, s4, s5⟩ := hS'; go_simp)⟩ hS3 ?_
  simp only [List.getElem_toArray, List.getElem_cons_zero, Act.put, List.setIfInBounds_toArray, List.set_cons_zero, List.set_cons_succ]
  refine anyU_take (i := 1) (v := .agg #[.slice A2 D.cluster.length c2, .slice A2' D.colour.length c2']) rfl (by kernel_rfl) (by kernel_rfl) (by kernel_rfl) (fun _ _ _ h => h) ⟨by rfl, fun w' hS' => (by obtain ⟨s1, s2, s3, s4, s5⟩ := hS'; go_simp)⟩ hS3 ?_
  simp only [List.getElem_toArray, List.getElem_cons_succ, List.getElem_cons_zero, Act.put, List.setIfInBounds_toArray, List.set_cons_zero, List.set_cons_succ]
  refine anyU_ready (rs := [2]) (by kernel_rfl) (by simp) ?_
  refine ReadyU.cons (i := 2) rfl (fun K hK => ?_) ReadyU.nil
  simp only [List.getElem_toArray, List.getElem_cons_succ, List.getElem_cons_zero]
  refine ite_is (by rfl) ?_
  simp [go_sem]
  refine (clusterOrder_any _ D lo2 hi2 _ (Dec.turned G2.out HF2.out (by omega) (by omega)) (by omega) HF9.out.pos HF9.out.few HF9.out.low).mono ?_
  rintro e W4 ⟨r9, g, rfl, hm, hr9, hb4⟩
  have hg4 := grown_below hb4; clear hb4
  have hs4 := hg4.size
  have HF4 := Lib.hid (HF2.out.still hg4); clear HF2
  rw [order_out HA.out hm] at hr9
  have HR9 := Lib.hid hr9; clear hr9 hm
  obtain ⟨A9, c9, rfl, hc9, hd9⟩ := HR9.out.dims
  have hS5 : W4.cell? ⟨w.heap.size, 0, none⟩ = some (.slice A1 N.ends.length c1) ∧ W4.cell? ⟨w.heap.size, 1, none⟩ = some (.slice A1' N.ids.length c1') ∧ W4.cell? ⟨w.heap.size, 2, none⟩ = some (.slice A1'' N.inputs.length c1'') ∧ W4.cell? ⟨w.heap.size + 1, 0, none⟩ = some (.slice A2 D.cluster.length c2) ∧ W4.cell? ⟨w.heap.size + 1, 1, none⟩ = some (.slice A2' D.colour.length c2') := ⟨(HF4.out.boxN bx1 (by omega)).cell 0 (by simp), (HF4.out.boxN bx1 (by omega)).cell 1 (by simp), (HF4.out.boxN bx1 (by omega)).cell 2 (by simp), (HF4.out.boxN bx2 (by omega)).cell 0 (by simp), (HF4.out.boxN bx2 (by omega)).cell 1 (by simp)⟩
  refine hK.out _ _ ⟨fun _ => hS5, ?_⟩
  clear hK K hS3
  try simp only [List.getElem_toArray, List.getElem_cons_succ, List.getElem_cons_zero, Act.put, List.setIfInBounds_toArray, List.set_cons_zero, List.set_cons_succ]
  refine anyU_ready (rs := [3]) (by kernel_rfl) (by simp) ?_
  refine ReadyU.cons (i := 3) rfl (fun K hK => ?_) ReadyU.nil
  simp only [List.getElem_toArray, List.getElem_cons_succ, List.getElem_cons_zero]
  refine ite_is (by rfl) ?_
  simp [go_sem]
  refine (greedyColouring_any _ N lo1 hi1 _ (clOut N D) _ _ _ (Net.turned G1.out HF4.out (by omega) (by omega)) (by omega) HR9.out (by omega) HGD.out HPM.out).mono ?_
  rintro e W6 ⟨r, rfl, hr, hb6⟩
  have hg6 := grown_below hb6; clear hb6
  have hs6 := hg6.size
  have HF6 := Lib.hid (HF4.out.still hg6); clear HF4
  rw [gc_all HA.out, ← cbOut_yes HA.out] at hr
  have R6 := Lib.hid hr; clear hr
  have hS7 : W6.cell? ⟨w.heap.size, 0, none⟩ = some (.slice A1 N.ends.length c1) ∧ W6.cell? ⟨w.heap.size, 1, none⟩ = some (.slice A1' N.ids.length c1') ∧ W6.cell? ⟨w.heap.size, 2, none⟩ = some (.slice A1'' N.inputs.length c1'') ∧ W6.cell? ⟨w.heap.size + 1, 0, none⟩ = some (.slice A2 D.cluster.length c2) ∧ W6.cell? ⟨w.heap.size + 1, 1, none⟩ = some (.slice A2' D.colour.length c2') := ⟨(HF6.out.boxN bx1 (by omega)).cell 0 (by simp), (HF6.out.boxN bx1 (by omega)).cell 1 (by simp), (HF6.out.boxN bx1 (by omega)).cell 2 (by simp), (HF6.out.boxN bx2 (by omega)).cell 0 (by simp), (HF6.out.boxN bx2 (by omega)).cell 1 (by simp)⟩
  refine hK.out _ _ ⟨fun _ => hS7, ?_⟩
  clear hK K hS5
  try simp only [List.getElem_toArray, List.getElem_cons_succ, List.getElem_cons_zero, Act.put, List.setIfInBounds_toArray, List.set_cons_zero, List.set_cons_succ]
  refine anyU_ready (rs := [4]) (by kernel_rfl) (by simp) ?_
  refine ReadyU.cons (i := 4) rfl (fun K hK => ?_) ReadyU.nil
  simp only [List.getElem_toArray, List.getElem_cons_succ, List.getElem_cons_zero]
  refine ite_is (by rfl) ?_
  simp [go_sem]
  refine hK.out _ _ ⟨fun _ => hS7, ?_⟩
  clear hK K
  try simp only [List.getElem_toArray, List.getElem_cons_succ, List.getElem_cons_zero, Act.put, List.setIfInBounds_toArray, List.set_cons_zero, List.set_cons_succ]
  refine anyU_ready (rs := [5]) (by kernel_rfl) (by simp) ?_
  refine ReadyU.cons (i := 5) rfl (fun K hK => ?_) ReadyU.nil
  simp only [List.getElem_toArray, List.getElem_cons_succ, List.getElem_cons_zero]
  refine ite_is (by rfl) ?_
  simp [go_sem]
  refine hK.out _ _ ⟨fun _ => hS7, ?_⟩
  clear hK K
  try simp only [List.getElem_toArray, List.getElem_cons_succ, List.getElem_cons_zero, Act.put, List.setIfInBounds_toArray, List.set_cons_zero, List.set_cons_succ]
  clear hS7
  refine anyU_done (by kernel_rfl) ?_ _
  obtain ⟨Ar, cr, rfl, hcr, hdr⟩ := R6.out.dims
  go_wp2_with fail
  go_ret2
  exact ⟨_, ret_vb HA.out.symm, IntS.mono R6.out (by omega) (by omega), (HF6.out.below_of hbA (by omega) (by omega))⟩

set_option maxHeartbeats 2000000 in
set_option maxRecDepth 100000 in
theorem ColourByClusters_spec (v1 : Value) (N : NetD) (lo1 hi1 : Nat) (v2 : Value) (D : DecD) (lo2 hi2 : Nat) (w : World) (h1 : Net w lo1 hi1 v1 N) (hh1 : hi1 ≤ w.heap.size) (h2 : Dec w lo2 hi2 v2 D) (hh2 : hi2 ≤ w.heap.size) (hz1 : N.sz ≤ 1048576) (hz2 : D.sz ≤ 1048576) (ok1 : N.Ok) (ok2 : D.Ok) :
    Calls Tryz.prog 18 #[v1, v2] w fun e w' => ∃ r, e = .returned (.tuple #[r, .bool (askedB N D)]) ∧ IntS w' w.heap.size w'.heap.size r (cbOut N D) ∧ Below w.heap.size w w' := by
  clear ok1 ok2
  have F1 := Lib.hid h1
  obtain ⟨A1, c1, A1', c1', A1'', c1'', rfl, hc1, hd1, _⟩ := h1.parts
  clear h1
  have F2 := Lib.hid h2
  obtain ⟨A2, c2, A2', c2', rfl, hc2, hd2⟩ := h2.parts
  clear h2
  obtain ⟨WA, HWA⟩ : ∃ W, Hid (W = ((w.alloc (.cells #[.slice A1 N.ends.length c1, .slice A1' N.ids.length c1', .slice A1'' N.inputs.length c1''] 34)).alloc (.cells #[.slice A2 D.cluster.length c2, .slice A2' D.colour.length c2'] 36))) := ⟨_, Lib.hid rfl⟩
  have hbA : Below w.heap.size w WA := by rw [HWA.out]; exact (((Below.refl _ _).alloc (Nat.le_refl _) _).alloc (by simp; try omega) _)
  have hsA : w.heap.size + 2 ≤ WA.heap.size := by rw [HWA.out]; simp; try omega
  have bx1 : BoxN WA (w.heap.size) #[.slice A1 N.ends.length c1, .slice A1' N.ids.length c1', .slice A1'' N.inputs.length c1''] 34 := by rw [HWA.out]; exact ((BoxN.new' _ _ _ (by simp)).still (grown_alloc _ _))
  have bx2 : BoxN WA (w.heap.size + 1) #[.slice A2 D.cluster.length c2, .slice A2' D.colour.length c2'] 36 := by rw [HWA.out]; exact (BoxN.new' _ _ _ (by simp))
  have G1 := Lib.hid (Net.below F1.out hbA hh1); clear F1
  have G2 := Lib.hid (Dec.below F2.out hbA hh2); clear F2
  go_enter Tryz.func18, Tryz.ntmps18
  go_upto_region 1 with (fail)
  rw [← HWA.out]; clear HWA
  have kbx1_0 : WA.cell? ⟨w.heap.size, 0, none⟩ = some (.slice A1 N.ends.length c1) := bx1.cell 0 (by simp)
  have kbx1_1 : WA.cell? ⟨w.heap.size, 1, none⟩ = some (.slice A1' N.ids.length c1') := bx1.cell 1 (by simp)
  have kbx1_2 : WA.cell? ⟨w.heap.size, 2, none⟩ = some (.slice A1'' N.inputs.length c1'') := bx1.cell 2 (by simp)
  have kbx2_0 : WA.cell? ⟨w.heap.size + 1, 0, none⟩ = some (.slice A2 D.cluster.length c2) := bx2.cell 0 (by simp)
  have kbx2_1 : WA.cell? ⟨w.heap.size + 1, 1, none⟩ = some (.slice A2' D.colour.length c2') := bx2.cell 1 (by simp)
  go_wp2_with fail
  clear kbx1_0 kbx1_1 kbx1_2 kbx2_0 kbx2_1
  refine (deAsked_any _ N lo1 hi1 _ D lo2 hi2 _ G1.out (by omega) G2.out (by omega) hz1 hz2).mono ?_
  rintro e W1 ⟨rfl, hb1⟩
  have hg1 := grown_below hb1; clear hb1
  have hs1 := hg1.size
  have HF1 := Lib.hid ((Turned.refl WA.heap.size WA.heap.size WA).still hg1)
  by_cases hA : askedB N D = true
  case neg =>
    have hA' : askedB N D = false := by simpa using hA
    rw [hA']
    have HA := Lib.hid hA'; clear hA hA'
    go_wp2_with fail
    go_ret2
    exact ⟨_, ret_vb HA.out.symm, by rw [cbOut_no HA.out]; exact IntS.nil _ _ _, (HF1.out.below_of hbA (by omega) (by omega))⟩
  rw [hA]
  have HA := Lib.hid hA; clear hA
  have HF9 := Lib.hid (asked_facts HA.out)
  have kbx1_0 : W1.cell? ⟨w.heap.size, 0, none⟩ = some (.slice A1 N.ends.length c1) := (HF1.out.boxN bx1 (by omega)).cell 0 (by simp)
  have kbx1_1 : W1.cell? ⟨w.heap.size, 1, none⟩ = some (.slice A1' N.ids.length c1') := (HF1.out.boxN bx1 (by omega)).cell 1 (by simp)
  have kbx1_2 : W1.cell? ⟨w.heap.size, 2, none⟩ = some (.slice A1'' N.inputs.length c1'') := (HF1.out.boxN bx1 (by omega)).cell 2 (by simp)
  have kbx2_0 : W1.cell? ⟨w.heap.size + 1, 0, none⟩ = some (.slice A2 D.cluster.length c2) := (HF1.out.boxN bx2 (by omega)).cell 0 (by simp)
  have kbx2_1 : W1.cell? ⟨w.heap.size + 1, 1, none⟩ = some (.slice A2' D.colour.length c2') := (HF1.out.boxN bx2 (by omega)).cell 1 (by simp)
  go_wp2_with fail
  clear kbx1_0 kbx1_1 kbx1_2 kbx2_0 kbx2_1
  refine (deTurns_any _ N lo1 hi1 _ D lo2 hi2 false _ (Net.turned G1.out HF1.out (by omega) (by omega)) (by omega) (Dec.turned G2.out HF1.out (by omega) (by omega)) (by omega) HA.out).mono ?_
  rintro e W2 ⟨r, rfl, hr, hb2⟩
  have hg2 := grown_below hb2; clear hb2
  have hs2 := hg2.size
  have HF2 := Lib.hid (HF1.out.still hg2); clear HF1
  have R2 := Lib.hid hr; clear hr
  obtain ⟨Ar, cr, rfl, hcr, hdr⟩ := R2.out.dims
  go_wp2_with fail
  go_ret2
  refine ⟨_, ret_vb HA.out.symm, ?_, (HF2.out.below_of hbA (by omega) (by omega))⟩
  rw [cbOut_yes HA.out]
  exact IntS.mono R2.out (by omega) (by omega)

set_option maxHeartbeats 2000000 in
set_option maxRecDepth 100000 in
theorem IndependentByClusters_impl (v1 : Value) (N : NetD) (lo1 hi1 : Nat) (v2 : Value) (D : DecD) (lo2 hi2 : Nat) (w : World) (h1 : Net w lo1 hi1 v1 N) (hh1 : hi1 ≤ w.heap.size) (h2 : Dec w lo2 hi2 v2 D) (hh2 : hi2 ≤ w.heap.size) (hz1 : N.sz ≤ 1048576) (hz2 : D.sz ≤ 1048576) (ok1 : N.Ok) (ok2 : D.Ok) :
    Calls Tryz.prog 10 #[v1, v2] w fun e w' => ∃ r, e = .returned (.tuple #[r, .bool (askedB N D)]) ∧ IntS w' w.heap.size w'.heap.size r (ibOut N D) ∧ Below w.heap.size w w' := by
  clear ok1 ok2
  have F1 := Lib.hid h1
  obtain ⟨A1, c1, A1', c1', A1'', c1'', rfl, hc1, hd1, _⟩ := h1.parts
  clear h1
  have F2 := Lib.hid h2
  obtain ⟨A2, c2, A2', c2', rfl, hc2, hd2⟩ := h2.parts
  clear h2
  obtain ⟨WA, HWA⟩ : ∃ W, Hid (W = ((w.alloc (.cells #[.slice A1 N.ends.length c1, .slice A1' N.ids.length c1', .slice A1'' N.inputs.length c1''] 34)).alloc (.cells #[.slice A2 D.cluster.length c2, .slice A2' D.colour.length c2'] 36))) := ⟨_, Lib.hid rfl⟩
  have hbA : Below w.heap.size w WA := by rw [HWA.out]; exact (((Below.refl _ _).alloc (Nat.le_refl _) _).alloc (by simp; try omega) _)
  have hsA : w.heap.size + 2 ≤ WA.heap.size := by rw [HWA.out]; simp; try omega
  have bx1 : BoxN WA (w.heap.size) #[.slice A1 N.ends.length c1, .slice A1' N.ids.length c1', .slice A1'' N.inputs.length c1''] 34 := by rw [HWA.out]; exact ((BoxN.new' _ _ _ (by simp)).still (grown_alloc _ _))
  have bx2 : BoxN WA (w.heap.size + 1) #[.slice A2 D.cluster.length c2, .slice A2' D.colour.length c2'] 36 := by rw [HWA.out]; exact (BoxN.new' _ _ _ (by simp))
  have G1 := Lib.hid (Net.below F1.out hbA hh1); clear F1
  have G2 := Lib.hid (Dec.below F2.out hbA hh2); clear F2
  go_enter Tryz.func10, Tryz.ntmps10
  go_upto_region 1 with (fail)
  rw [← HWA.out]; clear HWA
  have kbx1_0 : WA.cell? ⟨w.heap.size, 0, none⟩ = some (.slice A1 N.ends.length c1) := bx1.cell 0 (by simp)
  have kbx1_1 : WA.cell? ⟨w.heap.size, 1, none⟩ = some (.slice A1' N.ids.length c1') := bx1.cell 1 (by simp)
  have kbx1_2 : WA.cell? ⟨w.heap.size, 2, none⟩ = some (.slice A1'' N.inputs.length c1'') := bx1.cell 2 (by simp)
  have kbx2_0 : WA.cell? ⟨w.heap.size + 1, 0, none⟩ = some (.slice A2 D.cluster.length c2) := bx2.cell 0 (by simp)
  have kbx2_1 : WA.cell? ⟨w.heap.size + 1, 1, none⟩ = some (.slice A2' D.colour.length c2') := bx2.cell 1 (by simp)
  go_wp2_with fail
  clear kbx1_0 kbx1_1 kbx1_2 kbx2_0 kbx2_1
  refine (decompositionOk_any _ N lo1 hi1 _ D lo2 hi2 _ G1.out (by omega) G2.out (by omega) hz1 hz2).mono ?_
  rintro e W1 ⟨rfl, hb1⟩
  have hg1 := grown_below hb1; clear hb1
  have hs1 := hg1.size
  have HF1 := Lib.hid ((Turned.refl WA.heap.size WA.heap.size WA).still hg1)
  by_cases hA : askedB N D = true
  case neg =>
    have hA' : askedB N D = false := by simpa using hA
    rw [hA']
    have HA := Lib.hid hA'; clear hA hA'
    go_wp2_with fail
    go_ret2
    exact ⟨_, ret_vb HA.out.symm, by rw [ibOut_no HA.out]; exact IntS.nil _ _ _, (HF1.out.below_of hbA (by omega) (by omega))⟩
  rw [hA]
  have HA := Lib.hid hA; clear hA
  have HF9 := Lib.hid (asked_facts HA.out)
  have HPM := Lib.hid (ordC_perm HA.out)
  have HGD := Lib.hid (show N.good = true by have h := HA.out; unfold askedB at h; rw [Bool.and_eq_true] at h; exact h.1)
  go_wp2_with fail
  refine wp_region_U (fun w' => w'.cell? ⟨w.heap.size, 0, none⟩ = some (.slice A1 N.ends.length c1) ∧ w'.cell? ⟨w.heap.size, 1, none⟩ = some (.slice A1' N.ids.length c1') ∧ w'.cell? ⟨w.heap.size, 2, none⟩ = some (.slice A1'' N.inputs.length c1'') ∧ w'.cell? ⟨w.heap.size + 1, 0, none⟩ = some (.slice A2 D.cluster.length c2) ∧ w'.cell? ⟨w.heap.size + 1, 1, none⟩ = some (.slice A2' D.colour.length c2')) [] (by kernel_rfl) ?_
  refine nameU ?_
  intro W2 HW2
  have hg2 : W1.grownBy W2 none := by rw [HW2.out]; exact grown_drew _
  clear HW2
  have hs2 := hg2.size
  have HF2 := Lib.hid (HF1.out.still hg2); clear HF1
  have hS3 : W2.cell? ⟨w.heap.size, 0, none⟩ = some (.slice A1 N.ends.length c1) ∧ W2.cell? ⟨w.heap.size, 1, none⟩ = some (.slice A1' N.ids.length c1') ∧ W2.cell? ⟨w.heap.size, 2, none⟩ = some (.slice A1'' N.inputs.length c1'') ∧ W2.cell? ⟨w.heap.size + 1, 0, none⟩ = some (.slice A2 D.cluster.length c2) ∧ W2.cell? ⟨w.heap.size + 1, 1, none⟩ = some (.slice A2' D.colour.length c2') := ⟨(HF2.out.boxN bx1 (by omega)).cell 0 (by simp), (HF2.out.boxN bx1 (by omega)).cell 1 (by simp), (HF2.out.boxN bx1 (by omega)).cell 2 (by simp), (HF2.out.boxN bx2 (by omega)).cell 0 (by simp), (HF2.out.boxN bx2 (by omega)).cell 1 (by simp)⟩
  refine anyU_take (i := 0) (v := .agg #[.slice A1 N.ends.length c1, .slice A1' N.ids.length c1', .slice A1'' N.inputs.length c1'']) rfl (by kernel_rfl) (by kernel_rfl) (by kernel_rfl) (fun _ _ _ h => h) ⟨by rfl, fun w' hS' => (by obtain ⟨s1, s2, s3, s4, s5⟩ := hS'; go_simp)⟩ hS3 ?_
  simp only [List.getElem_toArray, List.getElem_cons_zero, Act.put, List.setIfInBounds_toArray, List.set_cons_zero, List.set_cons_succ]
  refine anyU_take (i := 1) (v := .agg #[.slice A2 D.cluster.length c2, .slice A2' D.colour.length c2']) rfl (by kernel_rfl) (by kernel_rfl) (by kernel_rfl) (fun _ _ _ h => h) ⟨by rfl, fun w' hS' => (by obtain ⟨s1, s2, s3, s4, s5⟩ := hS'; go_simp)⟩ hS3 ?_
  simp only [List.getElem_toArray, List.getElem_cons_succ, List.getElem_cons_zero, Act.put, List.setIfInBounds_toArray, List.set_cons_zero, List.set_cons_succ]
  refine anyU_ready (rs := [2]) (by kernel_rfl) (by simp) ?_
  refine ReadyU.cons (i := 2) rfl (fun K hK => ?_) ReadyU.nil
  simp only [List.getElem_toArray, List.getElem_cons_succ, List.getElem_cons_zero]
  refine ite_is (by rfl) ?_
  simp [go_sem]
  refine (clusterOrder_any _ D lo2 hi2 _ (Dec.turned G2.out HF2.out (by omega) (by omega)) (by omega) HF9.out.pos HF9.out.few HF9.out.low).mono ?_
  rintro e W4 ⟨r9, g, rfl, hm, hr9, hb4⟩
  have hg4 := grown_below hb4; clear hb4
  have hs4 := hg4.size
  have HF4 := Lib.hid (HF2.out.still hg4); clear HF2
  rw [order_out HA.out hm] at hr9
  have HR9 := Lib.hid hr9; clear hr9 hm
  obtain ⟨A9, c9, rfl, hc9, hd9⟩ := HR9.out.dims
  have hS5 : W4.cell? ⟨w.heap.size, 0, none⟩ = some (.slice A1 N.ends.length c1) ∧ W4.cell? ⟨w.heap.size, 1, none⟩ = some (.slice A1' N.ids.length c1') ∧ W4.cell? ⟨w.heap.size, 2, none⟩ = some (.slice A1'' N.inputs.length c1'') ∧ W4.cell? ⟨w.heap.size + 1, 0, none⟩ = some (.slice A2 D.cluster.length c2) ∧ W4.cell? ⟨w.heap.size + 1, 1, none⟩ = some (.slice A2' D.colour.length c2') := ⟨(HF4.out.boxN bx1 (by omega)).cell 0 (by simp), (HF4.out.boxN bx1 (by omega)).cell 1 (by simp), (HF4.out.boxN bx1 (by omega)).cell 2 (by simp), (HF4.out.boxN bx2 (by omega)).cell 0 (by simp), (HF4.out.boxN bx2 (by omega)).cell 1 (by simp)⟩
  refine hK.out _ _ ⟨fun _ => hS5, ?_⟩
  clear hK K hS3
  try simp only [List.getElem_toArray, List.getElem_cons_succ, List.getElem_cons_zero, Act.put, List.setIfInBounds_toArray, List.set_cons_zero, List.set_cons_succ]
  refine anyU_ready (rs := [3]) (by kernel_rfl) (by simp) ?_
  refine ReadyU.cons (i := 3) rfl (fun K hK => ?_) ReadyU.nil
  simp only [List.getElem_toArray, List.getElem_cons_succ, List.getElem_cons_zero]
  refine ite_is (by rfl) ?_
  simp [go_sem]
  refine (greedyIndependent_any _ N lo1 hi1 _ (clOut N D) _ _ _ (Net.turned G1.out HF4.out (by omega) (by omega)) (by omega) HR9.out (by omega) HGD.out HPM.out).mono ?_
  rintro e W6 ⟨r, rfl, hr, hb6⟩
  have hg6 := grown_below hb6; clear hb6
  have hs6 := hg6.size
  have HF6 := Lib.hid (HF4.out.still hg6); clear HF4
  rw [gi_all HA.out, ← ibOut_yes HA.out] at hr
  have R6 := Lib.hid hr; clear hr
  have hS7 : W6.cell? ⟨w.heap.size, 0, none⟩ = some (.slice A1 N.ends.length c1) ∧ W6.cell? ⟨w.heap.size, 1, none⟩ = some (.slice A1' N.ids.length c1') ∧ W6.cell? ⟨w.heap.size, 2, none⟩ = some (.slice A1'' N.inputs.length c1'') ∧ W6.cell? ⟨w.heap.size + 1, 0, none⟩ = some (.slice A2 D.cluster.length c2) ∧ W6.cell? ⟨w.heap.size + 1, 1, none⟩ = some (.slice A2' D.colour.length c2') := ⟨(HF6.out.boxN bx1 (by omega)).cell 0 (by simp), (HF6.out.boxN bx1 (by omega)).cell 1 (by simp), (HF6.out.boxN bx1 (by omega)).cell 2 (by simp), (HF6.out.boxN bx2 (by omega)).cell 0 (by simp), (HF6.out.boxN bx2 (by omega)).cell 1 (by simp)⟩
  refine hK.out _ _ ⟨fun _ => hS7, ?_⟩
  clear hK K hS5
  try simp only [List.getElem_toArray, List.getElem_cons_succ, List.getElem_cons_zero, Act.put, List.setIfInBounds_toArray, List.set_cons_zero, List.set_cons_succ]
  refine anyU_ready (rs := [4]) (by kernel_rfl) (by simp) ?_
  refine ReadyU.cons (i := 4) rfl (fun K hK => ?_) ReadyU.nil
  simp only [List.getElem_toArray, List.getElem_cons_succ, List.getElem_cons_zero]
  refine ite_is (by rfl) ?_
  simp [go_sem]
  refine hK.out _ _ ⟨fun _ => hS7, ?_⟩
  clear hK K
  try simp only [List.getElem_toArray, List.getElem_cons_succ, List.getElem_cons_zero, Act.put, List.setIfInBounds_toArray, List.set_cons_zero, List.set_cons_succ]
  refine anyU_ready (rs := [5]) (by kernel_rfl) (by simp) ?_
  refine ReadyU.cons (i := 5) rfl (fun K hK => ?_) ReadyU.nil
  simp only [List.getElem_toArray, List.getElem_cons_succ, List.getElem_cons_zero]
  refine ite_is (by rfl) ?_
  simp [go_sem]
  refine hK.out _ _ ⟨fun _ => hS7, ?_⟩
  clear hK K
  try simp only [List.getElem_toArray, List.getElem_cons_succ, List.getElem_cons_zero, Act.put, List.setIfInBounds_toArray, List.set_cons_zero, List.set_cons_succ]
  clear hS7
  refine anyU_done (by kernel_rfl) ?_ _
  obtain ⟨Ar, cr, rfl, hcr, hdr⟩ := R6.out.dims
  go_wp2_with fail
  go_ret2
  exact ⟨_, ret_vb HA.out.symm, IntS.mono R6.out (by omega) (by omega), (HF6.out.below_of hbA (by omega) (by omega))⟩

set_option maxHeartbeats 2000000 in
set_option maxRecDepth 100000 in
theorem IndependentByClusters_spec (v1 : Value) (N : NetD) (lo1 hi1 : Nat) (v2 : Value) (D : DecD) (lo2 hi2 : Nat) (w : World) (h1 : Net w lo1 hi1 v1 N) (hh1 : hi1 ≤ w.heap.size) (h2 : Dec w lo2 hi2 v2 D) (hh2 : hi2 ≤ w.heap.size) (hz1 : N.sz ≤ 1048576) (hz2 : D.sz ≤ 1048576) (ok1 : N.Ok) (ok2 : D.Ok) :
    Calls Tryz.prog 7 #[v1, v2] w fun e w' => ∃ r, e = .returned (.tuple #[r, .bool (askedB N D)]) ∧ IntS w' w.heap.size w'.heap.size r (ibOut N D) ∧ Below w.heap.size w w' := by
  clear ok1 ok2
  have F1 := Lib.hid h1
  obtain ⟨A1, c1, A1', c1', A1'', c1'', rfl, hc1, hd1, _⟩ := h1.parts
  clear h1
  have F2 := Lib.hid h2
  obtain ⟨A2, c2, A2', c2', rfl, hc2, hd2⟩ := h2.parts
  clear h2
  obtain ⟨WA, HWA⟩ : ∃ W, Hid (W = ((w.alloc (.cells #[.slice A1 N.ends.length c1, .slice A1' N.ids.length c1', .slice A1'' N.inputs.length c1''] 34)).alloc (.cells #[.slice A2 D.cluster.length c2, .slice A2' D.colour.length c2'] 36))) := ⟨_, Lib.hid rfl⟩
  have hbA : Below w.heap.size w WA := by rw [HWA.out]; exact (((Below.refl _ _).alloc (Nat.le_refl _) _).alloc (by simp; try omega) _)
  have hsA : w.heap.size + 2 ≤ WA.heap.size := by rw [HWA.out]; simp; try omega
  have bx1 : BoxN WA (w.heap.size) #[.slice A1 N.ends.length c1, .slice A1' N.ids.length c1', .slice A1'' N.inputs.length c1''] 34 := by rw [HWA.out]; exact ((BoxN.new' _ _ _ (by simp)).still (grown_alloc _ _))
  have bx2 : BoxN WA (w.heap.size + 1) #[.slice A2 D.cluster.length c2, .slice A2' D.colour.length c2'] 36 := by rw [HWA.out]; exact (BoxN.new' _ _ _ (by simp))
  have G1 := Lib.hid (Net.below F1.out hbA hh1); clear F1
  have G2 := Lib.hid (Dec.below F2.out hbA hh2); clear F2
  go_enter Tryz.func7, Tryz.ntmps7
  go_upto_region 1 with (fail)
  rw [← HWA.out]; clear HWA
  have kbx1_0 : WA.cell? ⟨w.heap.size, 0, none⟩ = some (.slice A1 N.ends.length c1) := bx1.cell 0 (by simp)
  have kbx1_1 : WA.cell? ⟨w.heap.size, 1, none⟩ = some (.slice A1' N.ids.length c1') := bx1.cell 1 (by simp)
  have kbx1_2 : WA.cell? ⟨w.heap.size, 2, none⟩ = some (.slice A1'' N.inputs.length c1'') := bx1.cell 2 (by simp)
  have kbx2_0 : WA.cell? ⟨w.heap.size + 1, 0, none⟩ = some (.slice A2 D.cluster.length c2) := bx2.cell 0 (by simp)
  have kbx2_1 : WA.cell? ⟨w.heap.size + 1, 1, none⟩ = some (.slice A2' D.colour.length c2') := bx2.cell 1 (by simp)
  go_wp2_with fail
  clear kbx1_0 kbx1_1 kbx1_2 kbx2_0 kbx2_1
  refine (deAsked_any _ N lo1 hi1 _ D lo2 hi2 _ G1.out (by omega) G2.out (by omega) hz1 hz2).mono ?_
  rintro e W1 ⟨rfl, hb1⟩
  have hg1 := grown_below hb1; clear hb1
  have hs1 := hg1.size
  have HF1 := Lib.hid ((Turned.refl WA.heap.size WA.heap.size WA).still hg1)
  by_cases hA : askedB N D = true
  case neg =>
    have hA' : askedB N D = false := by simpa using hA
    rw [hA']
    have HA := Lib.hid hA'; clear hA hA'
    go_wp2_with fail
    go_ret2
    exact ⟨_, ret_vb HA.out.symm, by rw [ibOut_no HA.out]; exact IntS.nil _ _ _, (HF1.out.below_of hbA (by omega) (by omega))⟩
  rw [hA]
  have HA := Lib.hid hA; clear hA
  have HF9 := Lib.hid (asked_facts HA.out)
  have kbx1_0 : W1.cell? ⟨w.heap.size, 0, none⟩ = some (.slice A1 N.ends.length c1) := (HF1.out.boxN bx1 (by omega)).cell 0 (by simp)
  have kbx1_1 : W1.cell? ⟨w.heap.size, 1, none⟩ = some (.slice A1' N.ids.length c1') := (HF1.out.boxN bx1 (by omega)).cell 1 (by simp)
  have kbx1_2 : W1.cell? ⟨w.heap.size, 2, none⟩ = some (.slice A1'' N.inputs.length c1'') := (HF1.out.boxN bx1 (by omega)).cell 2 (by simp)
  have kbx2_0 : W1.cell? ⟨w.heap.size + 1, 0, none⟩ = some (.slice A2 D.cluster.length c2) := (HF1.out.boxN bx2 (by omega)).cell 0 (by simp)
  have kbx2_1 : W1.cell? ⟨w.heap.size + 1, 1, none⟩ = some (.slice A2' D.colour.length c2') := (HF1.out.boxN bx2 (by omega)).cell 1 (by simp)
  go_wp2_with fail
  clear kbx1_0 kbx1_1 kbx1_2 kbx2_0 kbx2_1
  refine (deTurns_any _ N lo1 hi1 _ D lo2 hi2 true _ (Net.turned G1.out HF1.out (by omega) (by omega)) (by omega) (Dec.turned G2.out HF1.out (by omega) (by omega)) (by omega) HA.out).mono ?_
  rintro e W2 ⟨r, rfl, hr, hb2⟩
  have hg2 := grown_below hb2; clear hb2
  have hs2 := hg2.size
  have HF2 := Lib.hid (HF1.out.still hg2); clear HF1
  have R2 := Lib.hid hr; clear hr
  have HTL := Lib.hid (turnsL_len N D true)
  have hn40 := asked_n HA.out
  obtain ⟨o, HO⟩ : ∃ o, Hid (turnsL N D true = o) := ⟨_, Lib.hid rfl⟩
  have HOut := Lib.hid (ibOut_yes HA.out)
  rw [HO.out] at HTL HOut R2
  obtain ⟨Ar, cr, rfl, hcr, hdr⟩ := R2.out.dims
  have N_2 := Lib.hid (Net.turned G1.out HF2.out (by omega) (by omega)); clear G1
  have D_2 := Lib.hid (Dec.turned G2.out HF2.out (by omega) (by omega)); clear G2
  have bx1_2 := HF2.out.boxN bx1 (by omega); clear bx1
  have bx2_2 := HF2.out.boxN bx2 (by omega); clear bx2
  have hbA2 : Below w.heap.size w W2 := (HF2.out.below_of hbA (by omega) (by omega)); clear hbA HF2
  go_wp2_with fail
  go_loopw [17, 6] (fun i ov wr => ∃ (m : Nat), m ≤ o.length ∧ i = .int .i64 m ∧ Hid (OwnI wr W2.heap.size 3 ov (onesOf o m)) ∧ Hid (Turned W2.heap.size W2.heap.size W2 wr)) (fun i ov _ => o.length - (intOf i).toNat)
  case atStart => exact ⟨0, Nat.zero_le _, rfl, Lib.hid (OwnI.nil _ _ _), Lib.hid (Turned.refl W2.heap.size W2.heap.size W2)⟩
  case round =>
    obtain ⟨m, hm, rfl, HZ, HF3⟩ := hrel
    have hs3 := HF3.out.size
    by_cases hml : m < o.length
    case neg =>
      obtain rfl : m = o.length := by omega
      obtain ⟨Az, cz, rfl, hcz, hdz⟩ := HZ.out.ints.dims
      have HE := Lib.hid (show ibOut N D = onesOf o o.length by rw [HOut.out, HTL.out])
      go_wp2_with fail
      go_ret2
      refine ⟨_, ret_vb HA.out.symm, ?_, (HF3.out.below_of hbA2 (by omega) (by omega))⟩
      rw [HE.out]
      exact HZ.out.ints.mono (by omega) (Nat.le_refl _)
    have hlv := HZ.out.lt
    have hol := onesOf_len o m
    have hmo : m ≤ 40 := by have := HTL.out; omega
    obtain ⟨be, oe, rfl, _, hbe', xe, _⟩ := (IntS.turned R2.out HF3.out (by omega) (by omega)).opened hml
    obtain ⟨y, HY⟩ : ∃ y, Hid (nth o m = y) := ⟨_, Lib.hid rfl⟩
    rw [HY.out] at xe
    by_cases hy : y = 1
    case neg =>
      have hye : (y == (1 : Int)) = false := by simpa using hy
      have HE := Lib.hid (show onesOf o (m + 1) = onesOf o m from onesOf_no (by rw [HY.out]; exact hy))
      go_wp2_with fail
      go_roundw
      case rel => exact ⟨m + 1, by omega, by go_num, Lib.hid (by rw [HE.out]; exact HZ.out), HF3⟩
      case measure => simp [intOf]; omega
    have hye : (y == (1 : Int)) = true := by simpa using hy
    have HE := Lib.hid (show onesOf o (m + 1) = onesOf o m ++ [(m : Int)] from onesOf_yes (by rw [HY.out]; exact hy))
    obtain ⟨zs, HZS⟩ : ∃ zs, Hid (onesOf o m = zs) := ⟨_, Lib.hid rfl⟩
    rw [HZS.out] at HZ hol HE
    go_wp2_with (at_builtin; refine append_int (s := .tmp 24) Tryz.underlying23 Tryz.info3 (by decide) wr rfl _ rfl HZ.out m _ rfl (by simp [Act.eval, go_sem]) (by omega) (by omega) ?_; intro v' w' ho' hg' hat')
    go_roundw
    case rel => exact ⟨m + 1, by omega, by go_num, Lib.hid (by rw [HE.out]; exact ho'), Lib.hid (HF3.out.grown hg' fun g hg => .inr (by have := hlv g hg; omega))⟩
    case measure => simp [intOf]; omega

end Go.Proofs.YtakcjdlliejldaaGreat
