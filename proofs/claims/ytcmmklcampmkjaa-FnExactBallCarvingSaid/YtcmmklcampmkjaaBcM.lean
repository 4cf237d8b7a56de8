/-
  Several texts in one: KeE, PartN. No condition on any program.
-/
import Derived.Test.YtcmmklcampmkjaaBcL
import Derived.Test.YtcmmklcampmkjaaBcI
import Derived.Test.YtcmmklcampmkjaaBcF

/- Contract: neKeep (reference): the network of some nodes is the program's part. -/
namespace Go.Proofs.Ytcmmklcampmkjaa
open Go.ChangeShapes Go.WideShapes Go.ChangeAt Go.RowKit
set_option linter.unusedVariables false

theorem anyU_skip2 {P : Program} {md : Region.Mode} {ops : Array Oper} {Q : Exit → Act → World → Prop} {S : World → Prop} {T : List Nat} {i : Nat} {oi : Oper} {fuel : Nat} {listed : Array Bool} {a : Act} {w : World} (hi : ops[i]? = some oi)
    (hs : (Region.noSelect ops && waitsB md ops T listed i) = true) (hf : (Region.free md ops listed i && closedB md ops listed) = true) (hr : (Region.ready md ops listed).contains i = true)
    (hQ : ∀ c a w, Q (.panic c) (a.put oi.dst undef) w → Q (.panic c) a w) (hy : Region.wanted oi (yielded ops a.tmps) = false) (hS : S w)
    (h : anyU P md ops Q S T fuel (listed.setIfInBounds i true) (a.put oi.dst undef) w) : anyU P md ops Q S T (fuel + 1) listed a w := by
  rw [Bool.and_eq_true] at hs hf
  exact anyU_first hi (Region.noSelect_spec hs.1) hQ fuel listed a w (Region.free_spec hi hf.1) (closedB_is hf.2) hs.2 (by simpa using hr) (.inr ⟨hy, rfl⟩) hS h
/-- the booleans written so far: all ports of nodes below v, and the first i of v -/
def KAt (N : NetD) (zs : List Int) (v i : Nat) (bs : List (List Bool)) : Prop := SameB N N.ends.length bs ∧ ∀ a, a < N.ends.length → ∀ b, b < (nthL N.ends a).length → (a < v ∨ (a = v ∧ b < i)) → nthB (nthL bs a) b = kpB N zs a b
section
variable {N : NetD} {zs : List Int} {v i : Nat} {bs : List (List Bool)}
theorem KAt.step (h : KAt N zs v i bs) (hv : v < N.ends.length) (hi : i < (nthL N.ends v).length) : KAt N zs v (i + 1) (setAtB bs v i (kpB N zs v i)) := by
  have hvl : v < bs.length := by rw [h.1.1]; exact hv
  refine ⟨⟨by rw [setAtB_length]; exact h.1.1, fun a ha => by rw [setAtB_row bs hvl]; exact h.1.2 a ha⟩, fun a ha b hb hab => ?_⟩
  rw [nthL_setAtB hvl]
  by_cases e : a = v
  · subst e
    rw [if_pos rfl, nthB_set _ _ _ _ (by rw [h.1.2 a ha]; exact hi)]
    by_cases e2 : b = i
    · rw [if_pos e2, e2]
    · rw [if_neg e2]; exact h.2 a ha b hb (by omega)
  · rw [if_neg e]; exact h.2 a ha b hb (by omega)
theorem KAt.next (h : KAt N zs v (nthL N.ends v).length bs) : KAt N zs (v + 1) 0 bs := by
  refine ⟨h.1, fun a ha b hb hab => h.2 a ha b hb ?_⟩
  by_cases e : a = v
  · subst e; exact .inr ⟨rfl, hb⟩
  · exact .inl (by omega)
theorem KAt.done (h : KAt N zs N.ends.length 0 bs) : KeepB N (kpB N zs) bs := ⟨h.1, fun a ha b hb => h.2 a ha b hb (.inl ha)⟩
end
theorem numL_nat : ∀ (l o : List Int) (a m : Nat), a + l.length ≤ m → (∀ x, ∃ q : Nat, nth o x = q ∧ q ≤ m) → ∀ x, ∃ q : Nat, nth (numL o a l) x = q ∧ q ≤ m
  | [], o, a, m, _, h => h
  | y :: l, o, a, m, hm, h => by
    simp only [List.length_cons] at hm
    refine numL_nat l _ (a + 1) m (by omega) fun x => ?_
    by_cases hy : y.toNat < o.length
    · rw [nth_set _ _ _ _ hy]
      by_cases e : x = y.toNat
      · rw [if_pos e]; exact ⟨a, rfl, by omega⟩
      · rw [if_neg e]; exact h x
    · rw [List.set_eq_of_length_le (by omega)]; exact h x
theorem toOf_nat (n : Nat) (zs : List Int) (x : Nat) : ∃ q : Nat, nth (toOf n zs) x = q ∧ q ≤ zs.length := numL_nat zs _ 0 zs.length (by omega) (fun x => ⟨0, by unfold nth; simp [List.getElem?_replicate]; split <;> rfl, by omega⟩) x
theorem castP_inj {a b : Po} (h : castP a = castP b) : a = b := by
  obtain ⟨a1, a2⟩ := a
  obtain ⟨b1, b2⟩ := b
  unfold castP at h
  simp only [Prod.mk.injEq] at h ⊢
  omega
theorem castL_inj : ∀ {a b : List Po}, castL a = castL b → a = b
  | [], [], _ => rfl
  | [], _ :: _, h => by cases h
  | _ :: _, [], h => by cases h
  | x :: a, y :: b, h => by
    have h' : castP x :: castL a = castP y :: castL b := h
    injection h' with h1 h2
    rw [castP_inj h1, castL_inj h2]
theorem cutP_node {N : NetD} (hg : N.good = true) {kp : Nat → Nat → Bool} {v m : Nat} (hv : v < N.ends.length) (hm : m ≤ (nthL N.ends v).length) : ∀ p ∈ cutP N kp v m, p.1 < N.ends.length ∧ p.2 ≤ 6 := fun p hp => by
  unfold cutP at hp
  obtain ⟨i, hi, rfl⟩ := List.mem_map.1 hp
  have hil := List.mem_range.1 (List.mem_filter.1 hi).1
  obtain ⟨t, r, he, ht, hr, _⟩ := good_end hg hv (show i < (nthL N.ends v).length by omega)
  rw [he]
  simp only [Int.toNat_natCast]
  have := cntK_le kp t r
  have := good_deg hg ht
  exact ⟨ht, by omega⟩
/-- the first j ends of a row of the new network -/
def keepP (N : NetD) (zs : List Int) (kp : Nat → Nat → Bool) (v j : Nat) : List Po := ((cutP N kp v (nthL N.ends v).length).take j).map fun p => ((nth (toOf N.ends.length zs) p.1).toNat, p.2)
theorem keepP_succ {N : NetD} {zs : List Int} {kp : Nat → Nat → Bool} {v j : Nat} (h : j < (cutP N kp v (nthL N.ends v).length).length) : keepP N zs kp v (j + 1) = keepP N zs kp v j ++ [((nth (toOf N.ends.length zs) (nthP (cutP N kp v (nthL N.ends v).length) j).1).toNat, (nthP (cutP N kp v (nthL N.ends v).length) j).2)] := by
  unfold keepP
  rw [List.take_succ_eq_append_getElem h, List.map_append]
  simp [nthP, h]
theorem keepP_len (N : NetD) (zs : List Int) (kp : Nat → Nat → Bool) (v j : Nat) : (keepP N zs kp v j).length ≤ j := by unfold keepP; rw [List.length_map, List.length_take]; omega
theorem keepP_all {N : NetD} {zs : List Int} {kp : Nat → Nat → Bool} (hg : N.good = true) (hz : PickOk N zs) (hK : KeepOk N zs kp) {k v : Nat} (hk : k < zs.length) (hv : nth zs k = (v : Int)) : keepP N zs kp v (cutP N kp v (nthL N.ends v).length).length = partRow N kp (allU N kp zs zs.length) v (nthL N.ends v).length := by
  obtain ⟨t, et, ht⟩ := hz.node k hk
  have hvn : v < N.ends.length := by rw [hv] at et; omega
  apply castL_inj
  rw [← cut_part hg hz hK hk hv _ (Nat.le_refl _), ← cutP_row hg hvn _ (Nat.le_refl _)]
  unfold keepP mapEnds castL
  rw [List.take_length, List.map_map, List.map_map]
  apply List.map_congr_left
  intro p hp
  obtain ⟨q, eq, _⟩ := toOf_nat N.ends.length zs p.1
  simp only [Function.comp, castP, Int.toNat_natCast, eq]

end Go.Proofs.Ytcmmklcampmkjaa

/- Three slices that grow in turn, the rows apart from each other; a network whose slices lie in blocks of their own, in no order. -/
namespace Go.Proofs.Ytcmmklcampmkjaa
open Go.ChangeShapes Go.WideShapes Go.ChangeAt Go.RowKit
set_option linter.unusedVariables false

/-- three slices that a call owns: rows of ends, and two rows of numbers -/
structure GNT (w : World) (base T : Nat) (vE vD vI : Value) (rows : List (List Po)) (ids ins : List Int) : Prop where
  intro ::
  all : ∃ us : List Value, us.length = rows.length ∧ Own w base 61 vE us ∧ OwnI w base 3 vD ids ∧ OwnI w base 3 vI ins ∧
    (∀ j, j < rows.length → ∃ u, us[j]? = some u ∧ OwnE w base 60 u (nthL rows j) ∧ Ap u vE ∧ Ap u vD ∧ Ap u vI) ∧ Ap vE vD ∧ Ap vE vI ∧ Ap vD vI ∧
    (∀ (j : Nat) (u : Value), us[j]? = some u → ∀ g, u.ownBlock = some g → g < T) ∧ (∀ (i j : Nat) (u u' : Value), i < j → us[i]? = some u → us[j]? = some u' → Ap u u')
section
variable {w w' : World} {base T : Nat} {vE vD vI : Value} {rows : List (List Po)} {ids ins : List Int}
theorem GNT.nil (w : World) (base T : Nat) : GNT w base T (.slice none 0 0) (.slice none 0 0) (.slice none 0 0) [] [] [] :=
  ⟨[], rfl, Own.nil _ _ _, OwnI.nil _ _ _, OwnI.nil _ _ _, fun j hj => absurd hj (by simp), Ap.nil _, Ap.nil _, Ap.nil _, fun j u h => absurd h (by simp), fun i j u u' _ h => absurd h (by simp)⟩
theorem GNT.ltE (h : GNT w base T vE vD vI rows ids ins) : ∀ g, vE.ownBlock = some g → base ≤ g ∧ g < w.heap.size := let ⟨_, _, h, _⟩ := h.all; h.lt
theorem GNT.ltD (h : GNT w base T vE vD vI rows ids ins) : ∀ g, vD.ownBlock = some g → base ≤ g ∧ g < w.heap.size := let ⟨_, _, _, h, _⟩ := h.all; h.lt
theorem GNT.ltI (h : GNT w base T vE vD vI rows ids ins) : ∀ g, vI.ownBlock = some g → base ≤ g ∧ g < w.heap.size := let ⟨_, _, _, _, h, _⟩ := h.all; h.lt
theorem GNT.idsO (h : GNT w base T vE vD vI rows ids ins) : OwnI w base 3 vD ids := let ⟨_, _, _, h, _⟩ := h.all; h
theorem GNT.insO (h : GNT w base T vE vD vI rows ids ins) : OwnI w base 3 vI ins := let ⟨_, _, _, _, h, _⟩ := h.all; h
theorem GNT.lenE (h : GNT w base T vE vD vI rows ids ins) : ∃ A c, vE = .slice A rows.length c ∧ rows.length ≤ c ∧ c ≤ maxLen := by
  obtain ⟨us, h1, h2, _⟩ := h.all
  obtain ⟨A, c, e, a1, a2, _⟩ := h2.form
  exact ⟨A, c, by rw [e, h1], by omega, a2⟩
/-- writes elsewhere -/
theorem GNT.keptB {row : Option Nat} (h : GNT w base T vE vD vI rows ids ins) (hg : w.grownBy w' row) (hr : ∀ g, row = some g → g < base) : GNT w' base T vE vD vI rows ids ins := by
  obtain ⟨us, h1, h2, h3, h4, h5, h6⟩ := h.all
  have hk : ∀ v : Value, (∀ g, v.ownBlock = some g → base ≤ g ∧ g < w.heap.size) → v.ownBlock = none ∨ v.ownBlock ≠ row := fun v hv => by
    cases e : v.ownBlock with
    | none => exact .inl rfl
    | some g => right; intro e2; have := hr g e2.symm; have := (hv g e).1; omega
  refine ⟨us, h1, h2.kept hg (hk _ h2.lt), OwnI.kept h3 hg (hk _ h3.lt), OwnI.kept h4 hg (hk _ h4.lt), fun j hj => ?_, h6⟩
  obtain ⟨u, a1, a2, a3⟩ := h5 j hj
  exact ⟨u, a1, a2.kept hg (hk _ a2.lt), a3⟩
theorem GNT.still (h : GNT w base T vE vD vI rows ids ins) (hg : w.grownBy w' none) : GNT w' base T vE vD vI rows ids ins := h.keptB hg (fun g e => by cases e)
/-- numbers behind the third -/
theorem GNT.addI (h : GNT w base T vE vD vI rows ids ins) {vI' : Value} {x : Int} (hg : w.grownBy w' vI.ownBlock) (ho : OwnI w' base 3 vI' (ins ++ [x])) (hv : vI'.ownBlock = vI.ownBlock ∨ ∃ g, vI'.ownBlock = some g ∧ w.heap.size ≤ g) : GNT w' base T vE vD vI' rows ids (ins ++ [x]) := by
  obtain ⟨us, h1, h2, h3, h4, h5, h6, h7, h8, h9⟩ := h.all
  refine ⟨us, h1, h2.kept hg h7.keeps, OwnI.kept h3 hg h8.keeps, ho, fun j hj => ?_, h6, h7.new (fun g e => (h2.lt g e).2) hv, h8.new (fun g e => (h3.lt g e).2) hv, h9⟩
  obtain ⟨u, a1, a2, a3, a4, a5⟩ := h5 j hj
  exact ⟨u, a1, a2.kept hg a5.keeps, a3, a4, a5.new (fun g e => (a2.lt g e).2) hv⟩
/-- numbers behind the second -/
theorem GNT.addD (h : GNT w base T vE vD vI rows ids ins) {vD' : Value} {x : Int} (hg : w.grownBy w' vD.ownBlock) (ho : OwnI w' base 3 vD' (ids ++ [x])) (hv : vD'.ownBlock = vD.ownBlock ∨ ∃ g, vD'.ownBlock = some g ∧ w.heap.size ≤ g) : GNT w' base T vE vD' vI rows (ids ++ [x]) ins := by
  obtain ⟨us, h1, h2, h3, h4, h5, h6, h7, h8, h9⟩ := h.all
  refine ⟨us, h1, h2.kept hg h6.keeps, ho, OwnI.kept h4 hg h8.symm.keeps, fun j hj => ?_, h6.new (fun g e => (h2.lt g e).2) hv, h7, ((h8.symm).new (fun g e => (h4.lt g e).2) hv).symm, h9⟩
  obtain ⟨u, a1, a2, a3, a4, a5⟩ := h5 j hj
  exact ⟨u, a1, a2.kept hg a4.keeps, a3, a4.new (fun g e => (a2.lt g e).2) hv, a5⟩
/-- what it reads as -/
theorem GNT.net (h : GNT w base T vE vD vI rows ids ins) : Net w base w.heap.size (.agg #[vE, vD, vI]) ⟨rows.map castL, ids, ins⟩ := by
  obtain ⟨us, h1, h2, h3, h4, h5, _⟩ := h.all
  refine ⟨vE, vD, vI, rfl, ⟨fun j => us.getD j undef, ?_, fun j hj => ?_⟩, h3.ints, h4.ints⟩
  · have := Sl.of_own (f := fun j => us.getD j undef) h2 (fun j hj => by simp at hj; simp [hj])
    show Sl w base w.heap.size 1 vE (rows.map castL).length _
    rw [List.length_map, ← h1]
    exact this
  · simp only [List.length_map] at hj
    obtain ⟨u, a1, a2, _⟩ := h5 j hj
    have e : us.getD j undef = u := by simp [a1]
    show EndS w base w.heap.size (us.getD j undef) _
    rw [e]
    have := a2.ends
    have e2 : nthL (rows.map castL) j = castL (nthL rows j) := by simp [nthL, hj]
    show EndS w base w.heap.size u (nthL (rows.map castL) j)
    rw [e2]; exact this
end

/-- append of one row of ends onto the first, the row's slice just laid in a block of its own -/
theorem append_gnt {P : Program} {ops : Array Oper} {rest : List Oper} {o : Oper} {a : Act} {Q : Exit → Act → World → Prop} {t : TypeId} {bytes : Nat}
    (ht : P.underlying t = some (.slice 61)) (hinfo : (P.info? 61).map (fun i => (i.zero, i.size, i.bytes)) = some (some (.slice none 0 0), 1, bytes)) (hby : bytes ≤ 64)
    (w : World) (hgd : o.guard = none) {s : Operand} (x : Operand) (ho : o.op = .call { callee := .builtin .append, args := #[s, x], argTypes := #[t, t] })
    {base T : Nat} {vE vD vI : Value} {rows : List (List Po)} {ids ins : List Int} (hown : GNT w base T vE vD vI rows ids ins) {u : Value} {l : List Po} (hu : OwnE w base 60 u l) (huT : ∀ g, u.ownBlock = some g → T ≤ g) (hE : Ap u vE) (hD : Ap u vD) (hI : Ap u vI)
    (te : TypeId) (hs : a.eval s = vE) (hx : a.eval x = .slice (some ⟨w.heap.size, 0, none⟩) 1 1) (hlen : rows.length < 1099511627776) (hbase : base ≤ w.heap.size) (hTw : T ≤ w.heap.size)
    (h : ∀ v' w', GNT w' base w'.heap.size v' vD vI (rows ++ [l]) ids ins → w.grownBy w' vE.ownBlock → wpList P ops Q rest (a.put o.dst v') w') :
    wpList P ops Q (o :: rest) a (w.alloc (.cells #[u] te)) := by
  obtain ⟨us, h1, h2, h3, h4, h5, h6, h7, h8, h9, h10⟩ := hown.all
  obtain ⟨A, c, hf, _⟩ := hu.len
  refine append1 ht hinfo rfl hby w hgd x ho h2 _ te hs hx (by rw [hf]; rfl) (by omega) hbase fun v' w' ho' hg' hat' => h v' w' ?_ hg'
  have hat2 : v'.ownBlock = vE.ownBlock ∨ ∃ g, v'.ownBlock = some g ∧ w.heap.size ≤ g := hat'.imp id fun e => ⟨_, e, by omega⟩
  refine ⟨us ++ [u], by simp [h1], ho', OwnI.kept h3 hg' h6.symm.keeps, OwnI.kept h4 hg' h7.symm.keeps, fun j hj => ?_, ((h6.symm).new (fun g e => (h3.lt g e).2) hat2).symm, ((h7.symm).new (fun g e => (h4.lt g e).2) hat2).symm, h8, fun j u' he g hg => ?_, fun i j ui uj hij hi hj => ?_⟩
  rotate_left
  · have hgs := hg'.size
    rcases Nat.lt_or_ge j us.length with hl | hl
    · rw [List.getElem?_append_left hl] at he
      have := h9 j u' he g hg
      omega
    · have : j = us.length := by have := (List.getElem?_eq_some_iff.1 he).1; simp at this; omega
      subst this
      simp at he
      subst he
      have := (hu.lt g hg).2
      omega
  · rcases Nat.lt_or_ge j us.length with hl | hl
    · rw [List.getElem?_append_left hl] at hj
      rw [List.getElem?_append_left (by omega)] at hi
      exact h10 i j ui uj hij hi hj
    · have : j = us.length := by have := (List.getElem?_eq_some_iff.1 hj).1; simp at this; omega
      subst this
      simp at hj
      subst hj
      rw [List.getElem?_append_left (by omega)] at hi
      intro g hg hg2
      have := h9 i ui hi g hg
      have := huT g hg2
      omega
  by_cases e1 : j < rows.length
  · obtain ⟨u', a1, a2, a3, a4, a5⟩ := h5 j e1
    rw [nthL_append_left e1]
    exact ⟨u', by rw [List.getElem?_append_left (by omega)]; exact a1, a2.kept hg' a3.keeps, a3.new (fun g e => (a2.lt g e).2) hat2, a4, a5⟩
  · obtain rfl : j = rows.length := by simp at hj; omega
    rw [nthL_append_at]
    exact ⟨u, by rw [← h1]; simp, hu.kept hg' hE.keeps, hE.new (fun g e => (hu.lt g e).2) hat2, hD, hI⟩


/-- the blocks of two slices apart (n, m: their lengths) -/
def RA (n : Nat) (v : Value) (m : Nat) (u : Value) : Prop := ∀ g, rowOf n v = some g → rowOf m u ≠ some g
theorem RA.symm {n m : Nat} {v u : Value} (h : RA n v m u) : RA m u n v := fun g h1 h2 => h g h2 h1
theorem Ap.ra {v u : Value} (h : Ap v u) (n m : Nat) : RA n v m u := fun g h1 h2 => by
  unfold rowOf at h1 h2
  split at h1
  · cases h1
  · split at h2
    · cases h2
    · exact h g h1 h2
/-- a network whose slices lie in blocks of their own -/
def NetB (w : World) (lo hi : Nat) (v : Value) (N : NetD) : Prop :=
  ∃ (vE vD vI : Value) (vs : Nat → Value), v = .agg #[vE, vD, vI] ∧ Sl w lo hi 1 vE N.ends.length vs ∧ (∀ i, i < N.ends.length → EndS w lo hi (vs i) (nthL N.ends i)) ∧ IntS w lo hi vD N.ids ∧ IntS w lo hi vI N.inputs ∧
    (∀ i j, i < j → j < N.ends.length → RA (nthL N.ends i).length (vs i) (nthL N.ends j).length (vs j)) ∧
    (∀ i, i < N.ends.length → RA (nthL N.ends i).length (vs i) N.ends.length vE ∧ RA (nthL N.ends i).length (vs i) N.ids.length vD ∧ RA (nthL N.ends i).length (vs i) N.inputs.length vI) ∧
    RA N.ends.length vE N.ids.length vD ∧ RA N.ends.length vE N.inputs.length vI ∧ RA N.ids.length vD N.inputs.length vI
section
variable {w w' : World} {lo hi lo' hi' B l2 h2 : Nat} {v : Value} {N : NetD}
theorem NetB.net (h : NetB w lo hi v N) : Net w lo hi v N := by
  obtain ⟨vE, vD, vI, vs, e, h1, h2, h3, h4, _⟩ := h
  exact ⟨vE, vD, vI, e, ⟨vs, h1, h2⟩, h3, h4⟩
theorem NetB.below (h : NetB w lo hi v N) (hb : Below B w w') (hB : hi ≤ B) : NetB w' lo hi v N := by
  obtain ⟨vE, vD, vI, vs, e, h1, h2, h3, h4, h5⟩ := h
  exact ⟨vE, vD, vI, vs, e, Sl.below h1 hb hB, fun i hi => (h2 i hi).below hb hB, h3.below hb hB, h4.below hb hB, h5⟩
theorem NetB.turned (h : NetB w lo hi v N) (hb : Turned l2 h2 w w') (hB : hi ≤ w.heap.size) (hd : hi ≤ l2 ∨ h2 ≤ lo) : NetB w' lo hi v N := by
  obtain ⟨vE, vD, vI, vs, e, h1, h2, h3, h4, h5⟩ := h
  exact ⟨vE, vD, vI, vs, e, Sl.turned h1 hb hB hd, fun i hi => (h2 i hi).turned hb hB hd, h3.turned hb hB hd, h4.turned hb hB hd, h5⟩
theorem NetB.mono (h : NetB w lo hi v N) (k1 : lo' ≤ lo) (k2 : hi ≤ hi') : NetB w lo' hi' v N := by
  obtain ⟨vE, vD, vI, vs, e, h1, h2, h3, h4, h5⟩ := h
  exact ⟨vE, vD, vI, vs, e, Sl.mono h1 k1 k2, fun i hi => (h2 i hi).mono k1 k2, h3.mono k1 k2, h4.mono k1 k2, h5⟩
end
theorem GNT.up {w : World} {base T T' : Nat} {vE vD vI : Value} {rows : List (List Po)} {ids ins : List Int} (h : GNT w base T vE vD vI rows ids ins) (hT : T ≤ T') : GNT w base T' vE vD vI rows ids ins := by
  obtain ⟨us, h1, h2, h3, h4, h5, h6, h7, h8, h9, h10⟩ := h.all
  exact ⟨us, h1, h2, h3, h4, h5, h6, h7, h8, fun j u he g hg => by have := h9 j u he g hg; omega, h10⟩
theorem GNT.netB {w : World} {base T : Nat} {vE vD vI : Value} {rows : List (List Po)} {ids ins : List Int} (h : GNT w base T vE vD vI rows ids ins) : NetB w base w.heap.size (.agg #[vE, vD, vI]) ⟨rows.map castL, ids, ins⟩ := by
  obtain ⟨us, h1, h2, h3, h4, h5, h6, h7, h8, h9, h10⟩ := h.all
  have hu : ∀ j, j < rows.length → ∃ u, us[j]? = some u ∧ us.getD j undef = u ∧ OwnE w base 60 u (nthL rows j) ∧ Ap u vE ∧ Ap u vD ∧ Ap u vI := fun j hj => by
    obtain ⟨u, a1, a2⟩ := h5 j hj
    exact ⟨u, a1, by simp [a1], a2⟩
  have hl : (rows.map castL).length = rows.length := List.length_map ..
  refine ⟨vE, vD, vI, fun j => us.getD j undef, rfl, ?_, fun j hj => ?_, h3.ints, h4.ints, fun i j hij hj => ?_, fun j hj => ?_, h6.ra _ _, h7.ra _ _, h8.ra _ _⟩
  · have := Sl.of_own (f := fun j => us.getD j undef) h2 (fun j hj => by simp at hj; simp [hj])
    show Sl w base w.heap.size 1 vE (rows.map castL).length _
    rw [hl, ← h1]
    exact this
  · replace hj : j < rows.length := by rw [← hl]; exact hj
    obtain ⟨u, _, e, a2, _⟩ := hu j hj
    show EndS w base w.heap.size (us.getD j undef) (nthL (rows.map castL) j)
    rw [e, show nthL (rows.map castL) j = castL (nthL rows j) by simp [nthL, hj]]
    exact a2.ends
  · replace hj : j < rows.length := by rw [← hl]; exact hj
    obtain ⟨u, a1, e, _⟩ := hu j hj
    obtain ⟨u', b1, e', _⟩ := hu i (by omega)
    dsimp only
    rw [e, e']
    exact (h10 i j u' u hij b1 a1).ra _ _
  · replace hj : j < rows.length := by rw [← hl]; exact hj
    obtain ⟨u, _, e, _, a3, a4, a5⟩ := hu j hj
    dsimp only
    rw [e]
    exact ⟨a3.ra _ _, a4.ra _ _, a5.ra _ _⟩
end Go.Proofs.Ytcmmklcampmkjaa
