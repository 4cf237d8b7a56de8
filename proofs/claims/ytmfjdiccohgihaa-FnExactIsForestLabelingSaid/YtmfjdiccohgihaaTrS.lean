/-
  Plain: trails that begin at different ports, sorted by where they begin: an insertion sort's result is the one sorted permutation. No condition on any program.
-/
import Derived.Test.YtmfjdiccohgihaaTrP
namespace Go.Proofs.Ytmfjdiccohgihaa
set_option linter.unusedVariables false

def keyP (p : Po) : Nat := p.1 * 8 + p.2
def keyL (l : List Po) : Nat := keyP (headP l)
theorem keyP_inj {N : NetD} (hg : N.good = true) {p q : Po} (hp : okP N p) (hq : okP N q) (e : keyP p = keyP q) : p = q := by
  have h1 := good_deg hg hp.1
  have h2 := good_deg hg hq.1
  have h3 := hp.2
  have h4 := hq.2
  unfold degAt at h3 h4
  unfold keyP at e
  exact Prod.ext (by omega) (by omega)
def nthT (l : List (List Po)) (i : Nat) : List Po := l.getD i []
theorem nthT_eq {l : List (List Po)} {i : Nat} (h : i < l.length) : nthT l i = l[i] := by simp [nthT, h]
/-- behind which element x goes, among the first k -/
def posK (out : List (List Po)) (x : Nat) : Nat → Nat
  | 0 => 0
  | k + 1 => if x < keyL (nthT out k) then posK out x k else k + 1
theorem posK_le (out : List (List Po)) (x : Nat) : ∀ k, posK out x k ≤ k
  | 0 => Nat.le_refl _
  | k + 1 => by unfold posK; split; have := posK_le out x k; omega; exact Nat.le_refl _
theorem posK_lo (out : List (List Po)) (x : Nat) : ∀ k, 0 < posK out x k → keyL (nthT out (posK out x k - 1)) ≤ x
  | 0, h => absurd h (by simp [posK])
  | k + 1, h => by
    by_cases e : x < keyL (nthT out k)
    · have e1 : posK out x (k + 1) = posK out x k := by rw [posK, if_pos e]
      rw [e1] at h ⊢
      exact posK_lo out x k h
    · have e1 : posK out x (k + 1) = k + 1 := by rw [posK, if_neg e]
      rw [e1]
      simp only [Nat.add_sub_cancel]
      omega
theorem posK_hi (out : List (List Po)) (x : Nat) : ∀ k j, posK out x k ≤ j → j < k → x < keyL (nthT out j)
  | 0, j, _, h => absurd h (by omega)
  | k + 1, j, h1, h2 => by
    by_cases e : x < keyL (nthT out k)
    · have e1 : posK out x (k + 1) = posK out x k := by rw [posK, if_pos e]
      rw [e1] at h1
      by_cases e2 : j = k
      · rw [e2]; exact e
      · exact posK_hi out x k j h1 (by omega)
    · have e1 : posK out x (k + 1) = k + 1 := by rw [posK, if_neg e]
      omega
def posT (out : List (List Po)) (x : List Po) : Nat := posK out (keyL x) out.length
def insT (out : List (List Po)) (x : List Po) : List (List Po) := out.take (posT out x) ++ [x] ++ out.drop (posT out x)
def srt (l : List (List Po)) : List (List Po) := l.foldl insT []
def srtK (l : List (List Po)) (k : Nat) : List (List Po) := srt (l.take k)
theorem srtK_succ {l : List (List Po)} {k : Nat} (h : k < l.length) : srtK l (k + 1) = insT (srtK l k) (nthT l k) := by
  unfold srtK srt
  rw [List.take_succ_eq_append_getElem h, List.foldl_append, nthT_eq h]
  rfl
theorem insT_perm (out : List (List Po)) (x : List Po) : (insT out x).Perm (out ++ [x]) := by
  unfold insT
  generalize posT out x = k
  have h1 : (out.take k ++ [x] ++ out.drop k).Perm (out.take k ++ (out.drop k ++ [x])) := by
    rw [List.append_assoc]
    exact List.Perm.append_left _ List.perm_append_comm
  rwa [← List.append_assoc, List.take_append_drop] at h1
theorem srt_perm (l : List (List Po)) : (srt l).Perm l := by
  suffices h : ∀ (l out : List (List Po)), (l.foldl insT out).Perm (out ++ l) from h l []
  intro l
  induction l with
  | nil => intro out; simp
  | cons x l ih =>
    intro out
    show (l.foldl insT (insT out x)).Perm _
    refine (ih _).trans ?_
    have := (insT_perm out x).append_right l
    rwa [List.append_assoc] at this
def LeT (l : List (List Po)) : Prop := l.Pairwise fun a b => keyL a ≤ keyL b
theorem insT_le {out : List (List Po)} (h : LeT out) (x : List Po) : LeT (insT out x) := by
  have hp := posK_le out (keyL x) out.length
  have lo : ∀ a ∈ out.take (posT out x), keyL a ≤ keyL x := fun a ha => by
    obtain ⟨i, hi, e⟩ := List.mem_iff_getElem.1 ha
    rw [List.getElem_take] at e
    have hi2 : i < posT out x := by rw [List.length_take] at hi; omega
    have hl : posT out x ≤ out.length := hp
    have h1 := posK_lo out (keyL x) out.length (by show 0 < posT out x; omega)
    rw [show posK out (keyL x) out.length = posT out x from rfl, nthT_eq (by omega)] at h1
    rw [← e]
    by_cases e2 : i = posT out x - 1
    · subst e2; exact h1
    · exact Nat.le_trans (List.pairwise_iff_getElem.1 h i (posT out x - 1) (by omega) (by omega) (by omega)) h1
  have hi' : ∀ b ∈ out.drop (posT out x), keyL x ≤ keyL b := fun b hb => by
    obtain ⟨i, hi, e⟩ := List.mem_iff_getElem.1 hb
    rw [List.getElem_drop] at e
    rw [List.length_drop] at hi
    have h1 := posK_hi out (keyL x) out.length (posT out x + i) (by show posT out x ≤ _; omega) (by omega)
    rw [nthT_eq (by omega)] at h1
    rw [← e]
    omega
  unfold LeT insT
  rw [List.append_assoc, List.pairwise_append]
  refine ⟨List.Pairwise.sublist (List.take_sublist _ _) h, ?_, fun a ha b hb => ?_⟩
  · show (x :: out.drop (posT out x)).Pairwise _
    rw [List.pairwise_cons]
    exact ⟨hi', List.Pairwise.sublist (List.drop_sublist _ _) h⟩
  · rcases List.mem_append.1 hb with hb | hb
    · rw [List.mem_singleton.1 hb]; exact lo a ha
    · exact Nat.le_trans (lo a ha) (hi' b hb)
theorem srt_le (l : List (List Po)) : LeT (srt l) := by
  suffices h : ∀ (l out : List (List Po)), LeT out → LeT (l.foldl insT out) from h l [] List.Pairwise.nil
  intro l
  induction l with
  | nil => intro out h; exact h
  | cons x l ih => intro out h; exact ih _ (insT_le h x)
def LtT (l : List (List Po)) : Prop := l.Pairwise fun a b => keyL a < keyL b
theorem lt_of_le {l : List (List Po)} (h : LeT l) (hn : (l.map keyL).Nodup) : LtT l := by
  unfold LtT
  unfold List.Nodup at hn
  rw [List.pairwise_map] at hn
  exact List.Pairwise.imp₂ (fun a b h1 h2 => by omega) h hn
theorem sorted_eq : ∀ (a b : List (List Po)), LtT a → LtT b → a.Perm b → a = b
  | [], b, _, _, h => by rw [List.nil_perm.1 h]
  | x :: a, [], _, _, h => by have := h.length_eq; simp at this
  | x :: a, y :: b, ha, hb, h => by
    unfold LtT at ha hb
    rw [List.pairwise_cons] at ha hb
    have hx : x ∈ y :: b := h.subset (List.mem_cons_self ..)
    have hy : y ∈ x :: a := h.symm.subset (List.mem_cons_self ..)
    have e : x = y := by
      rcases List.mem_cons.1 hx with e | e
      · exact e
      · rcases List.mem_cons.1 hy with e2 | e2
        · exact e2.symm
        · have := hb.1 x e; have := ha.1 y e2; omega
    subst e
    rw [sorted_eq a b ha.2 hb.2 (List.Perm.cons_inv h)]
theorem srt_unique {l l' : List (List Po)} (hn : (l.map keyL).Nodup) (hp : l'.Perm l) (hs : LtT l') : l' = srt l :=
  sorted_eq _ _ hs (lt_of_le (srt_le l) ((srt_perm l).map keyL |>.nodup_iff.2 hn)) (hp.trans (srt_perm l).symm)

/-- the trails of a network, in order -/
noncomputable def trails (N : NetD) : List (List Po) := srt (found N)
section
variable {N : NetD}
theorem found_keys (hg : N.good = true) : ((found N).map keyL).Nodup := by
  have h := (found_inv hg).nd
  show (List.map (fun l => keyP (headP l)) (found N)).Nodup
  have e : List.map (fun l => keyP (headP l)) (found N) = ((found N).map headP).map keyP := by rw [List.map_map]; rfl
  rw [e]
  unfold List.Nodup
  rw [List.pairwise_map]
  have hok : ∀ p ∈ (found N).map headP, okP N p := fun p hp => by
    obtain ⟨l, hl, rfl⟩ := List.mem_map.1 hp
    obtain ⟨s, hs, hc⟩ := found_ch hg hl
    rw [show headP l = s from hc.head]; exact hs
  refine List.Pairwise.imp_of_mem (fun {a b} ha hb hne e => hne (keyP_inj hg (hok a ha) (hok b hb) e)) h
theorem trails_mem {l : List Po} : l ∈ trails N ↔ l ∈ found N := (srt_perm _).mem_iff
theorem trails_ch (hg : N.good = true) {l : List Po} (hl : l ∈ trails N) : ∃ s, okP N s ∧ Ch N s l := found_ch hg (trails_mem.1 hl)
theorem trails_len (hg : N.good = true) : (trails N).length ≤ 240 := by
  unfold trails
  rw [(srt_perm _).length_eq]
  exact (found_inv hg).len hg
end

/-- ends as numbers -/
def castP (p : Po) : Int × Int := ((p.1 : Int), (p.2 : Int))
def castL (l : List Po) : List (Int × Int) := l.map castP
/-- the nodes and ports of a trail, as one list of numbers -/
def numsP : List Po → List Int
  | [] => []
  | p :: l => (p.1 : Int) :: (p.2 : Int) :: numsP l
theorem numsP_snoc : ∀ (l : List Po) (p : Po), numsP (l ++ [p]) = numsP l ++ [(p.1 : Int), (p.2 : Int)]
  | [], p => rfl
  | x :: l, p => by show _ :: _ :: numsP (l ++ [p]) = _; rw [numsP_snoc l p]; rfl
theorem numsP_length : ∀ l : List Po, (numsP l).length = 2 * l.length
  | [] => rfl
  | x :: l => by simp only [numsP, List.length_cons]; rw [numsP_length l]; omega
theorem nth_numsP : ∀ (l : List Po) (i : Nat), i < l.length → nth (numsP l) (2 * i) = ((nthP l i).1 : Int) ∧ nth (numsP l) (2 * i + 1) = ((nthP l i).2 : Int)
  | x :: l, 0, _ => ⟨rfl, rfl⟩
  | x :: l, i + 1, h => by
    have := nth_numsP l i (by simpa using h)
    rw [show 2 * (i + 1) = 2 * i + 1 + 1 by omega]
    exact this
theorem castL_length (l : List Po) : (castL l).length = l.length := by simp [castL]
theorem nthE_castL {l : List Po} {i : Nat} (h : i < l.length) : nthE (castL l) i = (((nthP l i).1 : Int), ((nthP l i).2 : Int)) := by
  simp [nthE, castL, castP, nthP, h]
theorem numsP_take {l : List Po} {k : Nat} (h : k < l.length) : numsP (l.take (k + 1)) = numsP (l.take k) ++ [((nthP l k).1 : Int), ((nthP l k).2 : Int)] := by
  rw [List.take_succ_eq_append_getElem h, numsP_snoc, nthP_eq h]
theorem castL_snoc (l : List Po) (p : Po) : castL (l ++ [p]) = castL l ++ [castP p] := by simp [castL]

end Go.Proofs.Ytmfjdiccohgihaa
