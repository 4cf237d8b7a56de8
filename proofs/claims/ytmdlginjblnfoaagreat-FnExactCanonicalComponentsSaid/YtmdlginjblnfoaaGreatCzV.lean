/-
  Several texts in one: KeE. No condition on any program.
-/
import Derived.Test.YtmdlginjblnfoaaGreatCzU
import Derived.Test.YtmdlginjblnfoaaGreatCzJ

/- Contract: neKeep (reference): the network of some nodes is the program's part. -/
namespace Go.Proofs.YtmdlginjblnfoaaGreat
open Go.ChangeShapes Go.WideShapes Go.ChangeAt Go.RowKit
set_option linter.unusedVariables false

theorem anyU_skip2 {P : Program} {md : Region.Mode} {ops : Array Oper} {Q : Exit → Act → World → Prop} {S : World → Prop} {T : List Nat} {i : Nat} {oi : Oper} {fuel : Nat} {listed : Array Bool} {a : Act} {w : World} (hi : ops[i]? = some oi)
    (hs : (Region.noSelect ops && waitsB md ops T listed i) = true) (hf : (Region.free md ops listed i && closedB md ops listed) = true) (hr : (Region.ready md ops listed).contains i = true)
    (hQ : ∀ c a w, Q (.panic c) (a.put oi.dst undef) w → Q (.panic c) a w) (hy : Region.wanted oi (yielded ops a.tmps) = false) (hS : S w)
    (h : anyU P md ops Q S T fuel (listed.setIfInBounds i true) (a.put oi.dst undef) w) : anyU P md ops Q S T (fuel + 1) listed a w := by
  rw [Bool.and_eq_true] at hs hf
  exact anyU_first hi (Region.noSelect_spec hs.1) hQ fuel listed a w (Region.free_spec hi hf.1) (closedB_is hf.2) hs.2 (by simpa using hr) (.inr ⟨hy, rfl⟩) hS h
/-- the booleans written so far: all ports of nodes below v, and the first i of v -/
def KAt (N : NetD) (zs : List Int) (v i : Nat) (bs : List (List Bool)) : Prop := SameB N N.ends.length bs ∧ ∀ a, a < N.ends.length → ∀ b, b < (nthL N.ends a).length → (a < v ∨ (a = v ∧ b < i)) → nthB (nthL bs a) b = kpB N zs a b
section
variable {N : NetD} {zs : List Int} {v i : Nat} {bs : List (List Bool)}
theorem KAt.step (h : KAt N zs v i bs) (hv : v < N.ends.length) (hi : i < (nthL N.ends v).length) : KAt N zs v (i + 1) (setAtB bs v i (kpB N zs v i)) := by
  have hvl : v < bs.length := by rw [h.1.1]; exact hv
  refine ⟨⟨by rw [setAtB_length]; exact h.1.1, fun a ha => by rw [setAtB_row bs hvl]; exact h.1.2 a ha⟩, fun a ha b hb hab => ?_⟩
  rw [nthL_setAtB hvl]
  by_cases e : a = v
  · subst e
    rw [if_pos rfl, nthB_set _ _ _ _ (by rw [h.1.2 a ha]; exact hi)]
    by_cases e2 : b = i
    · rw [if_pos e2, e2]
    · rw [if_neg e2]; exact h.2 a ha b hb (by omega)
  · rw [if_neg e]; exact h.2 a ha b hb (by omega)
theorem KAt.next (h : KAt N zs v (nthL N.ends v).length bs) : KAt N zs (v + 1) 0 bs := by
  refine ⟨h.1, fun a ha b hb hab => h.2 a ha b hb ?_⟩
  by_cases e : a = v
  · subst e; exact .inr ⟨rfl, hb⟩
  · exact .inl (by omega)
theorem KAt.done (h : KAt N zs N.ends.length 0 bs) : KeepB N (kpB N zs) bs := ⟨h.1, fun a ha b hb => h.2 a ha b hb (.inl ha)⟩
end
theorem numL_nat : ∀ (l o : List Int) (a m : Nat), a + l.length ≤ m → (∀ x, ∃ q : Nat, nth o x = q ∧ q ≤ m) → ∀ x, ∃ q : Nat, nth (numL o a l) x = q ∧ q ≤ m
  | [], o, a, m, _, h => h
  | y :: l, o, a, m, hm, h => by
    simp only [List.length_cons] at hm
    refine numL_nat l _ (a + 1) m (by omega) fun x => ?_
    by_cases hy : y.toNat < o.length
    · rw [nth_set _ _ _ _ hy]
      by_cases e : x = y.toNat
      · rw [if_pos e]; exact ⟨a, rfl, by omega⟩
      · rw [if_neg e]; exact h x
    · rw [List.set_eq_of_length_le (by omega)]; exact h x
theorem toOf_nat (n : Nat) (zs : List Int) (x : Nat) : ∃ q : Nat, nth (toOf n zs) x = q ∧ q ≤ zs.length := numL_nat zs _ 0 zs.length (by omega) (fun x => ⟨0, by unfold nth; simp [List.getElem?_replicate]; split <;> rfl, by omega⟩) x
theorem castP_inj {a b : Po} (h : castP a = castP b) : a = b := by
  obtain ⟨a1, a2⟩ := a
  obtain ⟨b1, b2⟩ := b
  unfold castP at h
  simp only [Prod.mk.injEq] at h ⊢
  omega
theorem castL_inj : ∀ {a b : List Po}, castL a = castL b → a = b
  | [], [], _ => rfl
  | [], _ :: _, h => by cases h
  | _ :: _, [], h => by cases h
  | x :: a, y :: b, h => by
    have h' : castP x :: castL a = castP y :: castL b := h
    injection h' with h1 h2
    rw [castP_inj h1, castL_inj h2]
theorem cutP_node {N : NetD} (hg : N.good = true) {kp : Nat → Nat → Bool} {v m : Nat} (hv : v < N.ends.length) (hm : m ≤ (nthL N.ends v).length) : ∀ p ∈ cutP N kp v m, p.1 < N.ends.length ∧ p.2 ≤ 6 := fun p hp => by
  unfold cutP at hp
  obtain ⟨i, hi, rfl⟩ := List.mem_map.1 hp
  have hil := List.mem_range.1 (List.mem_filter.1 hi).1
  obtain ⟨t, r, he, ht, hr, _⟩ := good_end hg hv (show i < (nthL N.ends v).length by omega)
  rw [he]
  simp only [Int.toNat_natCast]
  have := cntK_le kp t r
  have := good_deg hg ht
  exact ⟨ht, by omega⟩
/-- the first j ends of a row of the new network -/
def keepP (N : NetD) (zs : List Int) (kp : Nat → Nat → Bool) (v j : Nat) : List Po := ((cutP N kp v (nthL N.ends v).length).take j).map fun p => ((nth (toOf N.ends.length zs) p.1).toNat, p.2)
theorem keepP_succ {N : NetD} {zs : List Int} {kp : Nat → Nat → Bool} {v j : Nat} (h : j < (cutP N kp v (nthL N.ends v).length).length) : keepP N zs kp v (j + 1) = keepP N zs kp v j ++ [((nth (toOf N.ends.length zs) (nthP (cutP N kp v (nthL N.ends v).length) j).1).toNat, (nthP (cutP N kp v (nthL N.ends v).length) j).2)] := by
  unfold keepP
  rw [List.take_succ_eq_append_getElem h, List.map_append]
  simp [nthP, h]
theorem keepP_len (N : NetD) (zs : List Int) (kp : Nat → Nat → Bool) (v j : Nat) : (keepP N zs kp v j).length ≤ j := by unfold keepP; rw [List.length_map, List.length_take]; omega
theorem keepP_all {N : NetD} {zs : List Int} {kp : Nat → Nat → Bool} (hg : N.good = true) (hz : PickOk N zs) (hK : KeepOk N zs kp) {k v : Nat} (hk : k < zs.length) (hv : nth zs k = (v : Int)) : keepP N zs kp v (cutP N kp v (nthL N.ends v).length).length = partRow N kp (allU N kp zs zs.length) v (nthL N.ends v).length := by
  obtain ⟨t, et, ht⟩ := hz.node k hk
  have hvn : v < N.ends.length := by rw [hv] at et; omega
  apply castL_inj
  rw [← cut_part hg hz hK hk hv _ (Nat.le_refl _), ← cutP_row hg hvn _ (Nat.le_refl _)]
  unfold keepP mapEnds castL
  rw [List.take_length, List.map_map, List.map_map]
  apply List.map_congr_left
  intro p hp
  obtain ⟨q, eq, _⟩ := toOf_nat N.ends.length zs p.1
  simp only [Function.comp, castP, Int.toNat_natCast, eq]

end Go.Proofs.YtmdlginjblnfoaaGreat
