/-
  Append of a row onto an own slice of slices at a step of a region that draws its order; the reference's token in memory. No condition on any program.
-/
import Derived.Test.YtjapdfdjgjajkaaTok
import Derived.Test.YtjapdfdjgjajkaaSSet
import Derived.Deep.AppendLies
namespace Go.Proofs.Ytjapdfdjgjajkaa
open Go.ChangeShapes Go.WideShapes Go.ChangeAt Go.RowKit
set_option linter.unusedVariables false

theorem step_append_ss {P : Program} {o : Oper} {a : Act} {K : Act → World → Prop} {Q : Exit → Act → World → Prop} {t e : TypeId} {bytes : Nat} {w : World}
    (ht : P.underlying t = some (.slice e)) (hinfo : (P.info? e).map (fun i => (i.zero, i.size, i.bytes)) = some (some (.slice none 0 0), 1, bytes)) (hby : bytes ≤ 64)
    (s x : Operand) (ho : o.op = .call { callee := .builtin .append, args := #[s, x], argTypes := #[t, t] })
    {base top : Nat} {v : Value} {xss : List (List Int)} (hown : OwnSS w base top e v xss) {u : Value} {xs : List Int} {lo hi : Nat} (hu : IntS w lo hi u xs) (hlo : top ≤ lo) (hhi : hi ≤ w.heap.size) (hlh : lo ≤ hi) (hfar : ∀ g, v.ownBlock = some g → g < lo ∨ hi ≤ g)
    (wb : Nat) (hcell : w.cell? ⟨wb, 0, none⟩ = some u) (hs : a.eval s = v) (hx : a.eval x = .slice (some ⟨wb, 0, none⟩) 1 1) (hlen : xss.length < 1099511627776) (H : Nat) (hH : w.heap.size = H)
    (h : ∀ g cap w', OwnSS w' base hi e (.slice (some ⟨g, 0, none⟩) (xss.length + 1) cap) (xss ++ [xs]) → w.grownBy w' v.ownBlock → (v.ownBlock = some g ∨ g = H) → g < w'.heap.size → K (a.put o.dst (.slice (some ⟨g, 0, none⟩) (xss.length + 1) cap)) w') :
    Oper.wp P o a w K Q := by
  obtain ⟨vs, los, his, h1, h2, h3, h4, h5, h6⟩ := hown
  obtain ⟨A, c, rfl⟩ := (show ∃ A c, u = .slice A xs.length c from let ⟨A, c, e, _⟩ := hu; ⟨A, c, e⟩)
  obtain ⟨i, hi1, hzz⟩ := Option.map_eq_some_iff.1 hinfo
  simp only [Prod.mk.injEq] at hzz
  obtain ⟨hz, hsz, hb⟩ := hzz
  have hnb : (xss.length + 1) * bytes ≤ 140737488355328 := Nat.le_trans (Nat.mul_le_mul (show xss.length + 1 ≤ 1099511627776 by omega) hby) (by omega)
  rw [← h1] at hlen hnb h
  refine wp_append_lies w s x t ho base e i _ 1 bytes ht hi1 hz hsz hb rfl (by omega) v vs.length vs hs h2 ⟨wb, 0, none⟩ 1 1 [.slice A xs.length c] hx rfl ?_ ?_ (by omega) (by unfold maxLen; omega) hnb (by omega) H hH ?_
  · intro j u' hj
    match j, hj with
    | 0, hj =>
      simp only [List.getElem?_cons_zero, Option.some.injEq] at hj
      subst hj
      exact hcell
  · intro u' hu'
    simp only [List.mem_singleton] at hu'
    subst hu'
    rfl
  intro g cap w' ho' hg' hat' hlt'
  have hgs := hg'.size
  have hold : ∀ j, j < xss.length → ∃ u, vs[j]? = some u ∧ base ≤ los j ∧ his j ≤ top ∧ IntS w' (los j) (his j) u (nthL xss j) ∧ (g < los j ∨ his j ≤ g) := fun j hj => by
    obtain ⟨u, a1, a2, a3, a4, a5⟩ := h5 j hj
    refine ⟨u, a1, a2, a3, a4.far hg' (by omega) a5, ?_⟩
    rcases hat' with e1 | e1
    · exact a5 g e1
    · omega
  refine h g cap w' ⟨vs ++ [.slice A xs.length c], fun j => if j < xss.length then los j else lo, fun j => if j < xss.length then his j else hi, by simp [h1], ?_, by omega, by omega, fun j hj => ?_, fun i j hij hj => ?_⟩ hg' hat' hlt'
  · have : (vs ++ [Value.slice A xs.length c]).length = vs.length + 1 := by simp
    unfold Own
    rw [this]
    exact ho'
  · dsimp only
    by_cases e1 : j < xss.length
    · obtain ⟨u, a1, a2, a3, a4, a5⟩ := hold j e1
      rw [if_pos e1, if_pos e1, nthL_append_left e1]
      exact ⟨u, by rw [List.getElem?_append_left (by omega)]; exact a1, a2, by omega, a4, fun k hk => by have : some g = some k := hk; injection this with this; omega⟩
    · obtain rfl : j = xss.length := by simp at hj; omega
      rw [if_neg e1, if_neg e1, nthL_append_at]
      refine ⟨.slice A xs.length c, by rw [← h1]; simp, by omega, Nat.le_refl _, hu.far hg' hhi hfar, fun k hk => ?_⟩
      have : some g = some k := hk
      injection this with this
      subst this
      rcases hat' with e2 | e2
      · exact hfar _ e2
      · omega
  · dsimp only
    rw [if_pos (by simp at hj; omega)]
    by_cases e1 : j < xss.length
    · rw [if_pos e1]; exact h6 i j hij e1
    · rw [if_neg e1]
      obtain ⟨u, _, _, a3, _⟩ := h5 i (by simp at hj; omega)
      omega

/-- the reference's token in memory: which ports are used in rows of numbers, which nodes are met in a row of numbers that are not negative -/
def UsedL (N : NetD) (U : Int → Int → Bool) (us : List (List Int)) : Prop :=
  us.length = N.ends.length ∧ ∀ v, v < N.ends.length → (nthL us v).length = degAt N v ∧ ∀ i, i < degAt N v → nth (nthL us v) i = if U v i = true then 1 else 0
def MetL (n : Nat) (m : Nat → Bool) (fs : List Int) : Prop := fs.length = n ∧ ∀ j, j < n → (0 ≤ nth fs j ↔ m j = true)
structure TokS (w : World) (N : NetD) (B base g ulo uhi flo fhi n : Nat) (x0 x1 x2 vu vf : Value) (σ : Tk) (vm : Value) : Prop where
  box : BoxN w g #[x0, x1, x2, vu, vf, vm] 72
  used : ∃ us, UsedL N σ.used us ∧ IntSSx w ulo uhi vu us
  met : ∃ fs, MetL n σ.met fs ∧ IntS w flo fhi vf fs
  mvs : ∃ top, OwnSS w base top 23 vm σ.moves
structure LayS (B base g ulo uhi flo fhi : Nat) : Prop where
  g1 : B ≤ g
  g2 : g < base
  u1 : B ≤ ulo
  u2 : ulo ≤ uhi
  u3 : uhi ≤ base
  f1 : B ≤ flo
  f2 : flo ≤ fhi
  f3 : fhi ≤ base
  gu : g < ulo ∨ uhi ≤ g
  gf : g < flo ∨ fhi ≤ g
  uf : uhi ≤ flo ∨ fhi ≤ ulo
section
variable {w w' : World} {N : NetD} {B base g ulo uhi flo fhi n : Nat} {x0 x1 x2 vu vf : Value} {σ : Tk} {vm : Value}
theorem TokS.far {row : Option Nat} (h : TokS w N B base g ulo uhi flo fhi n x0 x1 x2 vu vf σ vm) (hL : LayS B base g ulo uhi flo fhi) (hbs : base ≤ w.heap.size) (hg : w.grownBy w' row) (hr : ∀ k, row = some k → k ≠ g ∧ (k < ulo ∨ uhi ≤ k) ∧ (k < flo ∨ fhi ≤ k) ∧ k < base) : TokS w' N B base g ulo uhi flo fhi n x0 x1 x2 vu vf σ vm :=
  ⟨h.box.far hg (fun k e => (hr k e).1), let ⟨us, h1, h2⟩ := h.used; ⟨us, h1, ISSx.far h2 hg (by have := hL.u3; omega) (fun k e => (hr k e).2.1)⟩, let ⟨fs, h1, h2⟩ := h.met; ⟨fs, h1, h2.far hg (by have := hL.f3; omega) (fun k e => (hr k e).2.2.1)⟩, let ⟨top, hm⟩ := h.mvs; ⟨top, hm.far hg (fun k e => (hr k e).2.2.2)⟩⟩
theorem TokS.still (h : TokS w N B base g ulo uhi flo fhi n x0 x1 x2 vu vf σ vm) (hL : LayS B base g ulo uhi flo fhi) (hbs : base ≤ w.heap.size) (hg : w.grownBy w' none) : TokS w' N B base g ulo uhi flo fhi n x0 x1 x2 vu vf σ vm := h.far hL hbs hg (fun k e => by cases e)
end
theorem UsedL.set {N : NetD} {U : Int → Int → Bool} {us : List (List Int)} (h : UsedL N U us) {v i : Nat} (hv : v < N.ends.length) (hi : i < degAt N v) : UsedL N (setU U v i) (setAt us v i 1) := by
  obtain ⟨h1, h2⟩ := h
  refine ⟨by rw [setAt_length, h1], fun a ha => ?_⟩
  obtain ⟨h3, h4⟩ := h2 a ha
  refine ⟨by rw [setAt_row _ (by rw [h1]; exact hv), h3], fun j hj => ?_⟩
  rw [nthL_setAt (by rw [h1]; exact hv)]
  by_cases e : a = v
  · subst e
    rw [if_pos rfl]
    by_cases e2 : j = i
    · subst e2
      rw [if_pos (setU_at _ _ _)]
      simp [nth, h3, hj]
    · rw [setU_ne (by omega)]
      have : nth ((nthL us a).set i 1) j = nth (nthL us a) j := by
        simp only [nth, List.getD_eq_getElem?_getD, List.getElem?_set]
        rw [if_neg (fun e3 => e2 e3.symm)]
      rw [this]
      exact h4 j hj
  · rw [if_neg e, setU_ne (by omega)]
    exact h4 j hj
theorem MetL.set {n a : Nat} {m : Nat → Bool} {fs : List Int} (h : MetL n m fs) (ha : a < n) {z : Int} (hz : 0 ≤ z) : MetL n (setM m a) (fs.set a z) := by
  obtain ⟨h1, h2⟩ := h
  refine ⟨by simp [h1], fun j hj => ?_⟩
  by_cases e : j = a
  · subst e
    have : nth (fs.set j z) j = z := by simp [nth, h1, hj]
    rw [this]
    simp [setM, hz]
  · have : nth (fs.set a z) j = nth fs j := by
      simp only [nth, List.getD_eq_getElem?_getD, List.getElem?_set]
      rw [if_neg (fun e3 => e e3.symm)]
    rw [this, h2 j hj]
    have h5 : (j == a) = false := by simpa using e
    simp [setM, h5]

section
variable {w w1 w2 : World} {N : NetD} {B base g ulo uhi flo fhi n : Nat} {x0 x1 x2 vu vf : Value} {σ : Tk} {vm vm' : Value}
theorem TokS.useAt {b3 o3 c3 : Nat} (h : TokS w N B base g ulo uhi flo fhi n x0 x1 x2 (.slice (some ⟨b3, o3, none⟩) n c3) vf σ vm) (hL : LayS B base g ulo uhi flo fhi) (hbs : base ≤ w.heap.size) (hn : N.ends.length = n) {v i : Nat} (hv : v < n) (hi : i < degAt N v) :
    ∃ r p c2, w.cell? ⟨b3, o3 + v, none⟩ = some (.slice (some ⟨r, p, none⟩) (degAt N v) c2) ∧ degAt N v ≤ c2 ∧ c2 ≤ 9223372036854775807 ∧ w.cell? ⟨r, p + i, none⟩ = some (.int .i64 (if σ.used v i = true then 1 else 0)) ∧ w.frozen? ⟨r, p + i, none⟩ = false ∧ ulo ≤ r ∧ r < uhi ∧ ulo ≤ b3 ∧ b3 < uhi ∧
      TokS (w.setCell ⟨r, p + i, none⟩ (.int .i64 1)) N B base g ulo uhi flo fhi n x0 x1 x2 (.slice (some ⟨b3, o3, none⟩) n c3) vf ⟨setU σ.used v i, σ.met, σ.moves⟩ vm := by
  obtain ⟨us, hu, hx⟩ := h.used
  have hl := hu.1
  have hlv := (hu.2 v (by omega)).1
  obtain ⟨b, off, r, p, c2, hA, h1, h2, h3, h4, h5, h6, h7, h8, h9, h10⟩ := ISSx.place hx (by have := hL.u3; omega) (a := v) (i := i) (by omega) (by omega)
  injection hA with hA
  injection hA with e1 e2 _
  subst e1 e2
  rw [hlv] at h5 h6
  rw [(hu.2 v (by omega)).2 i hi] at h8
  have hg : w.grownBy (w.setCell ⟨r, p + i, none⟩ (.int .i64 1)) (some r) := grown_set w ⟨r, p + i, none⟩ _
  have hu3 := hL.u3
  refine ⟨r, p, c2, h5, h6, h7, h8, h9, h3, h4, h1, h2, h.box.far hg (fun k e => by injection e; have := hL.gu; omega), ⟨_, hu.set (by omega) hi, h10 1⟩, ?_, ?_⟩
  · obtain ⟨fs, a1, a2⟩ := h.met
    exact ⟨fs, a1, a2.far hg (by have := hL.f3; omega) (fun k e => by injection e; have := hL.uf; omega)⟩
  · obtain ⟨top, hm⟩ := h.mvs
    exact ⟨top, hm.far hg (fun k e => by injection e; omega)⟩
theorem TokS.firstAt {b4 o4 c4 : Nat} (h : TokS w N B base g ulo uhi flo fhi n x0 x1 x2 vu (.slice (some ⟨b4, o4, none⟩) n c4) σ vm) (hL : LayS B base g ulo uhi flo fhi) (hbs : base ≤ w.heap.size) {t : Nat} (ht : t < n) :
    ∃ z, w.cell? ⟨b4, o4 + t, none⟩ = some (.int .i64 z) ∧ w.frozen? ⟨b4, o4 + t, none⟩ = false ∧ decide (z < 0) = !σ.met t ∧ flo ≤ b4 ∧ b4 < fhi ∧
      ∀ r : Int, 0 ≤ r → TokS (w.setCell ⟨b4, o4 + t, none⟩ (.int .i64 r)) N B base g ulo uhi flo fhi n x0 x1 x2 vu (.slice (some ⟨b4, o4, none⟩) n c4) ⟨σ.used, setM σ.met t, σ.moves⟩ vm := by
  obtain ⟨fs, hf, hx⟩ := h.met
  have hl := hf.1
  obtain ⟨b, off, hA, h1, h2, h3, h4⟩ := IntS.opened hx (show t < fs.length by omega)
  injection hA with hA
  injection hA with e1 e2 _
  subst e1 e2
  refine ⟨_, h3, h4, ?_, h1, h2, fun r hr => ?_⟩
  · have := hf.2 t ht
    cases hm : σ.met t with
    | true => rw [hm] at this; simp only [Bool.not_true, decide_eq_false_iff_not]; have := this.2 rfl; omega
    | false => rw [hm] at this; simp only [Bool.not_false, decide_eq_true_eq]; rcases Int.lt_or_le (nth fs t) 0 with e | e; exact e; exact absurd (this.1 e) (by simp)
  · have hg : w.grownBy (w.setCell ⟨b4, o4 + t, none⟩ (.int .i64 r)) (some b4) := grown_set w ⟨b4, o4 + t, none⟩ _
    have hf3 := hL.f3
    refine ⟨h.box.far hg (fun k e => by injection e; have := hL.gf; omega), ?_, ⟨_, hf.set ht hr, hx.set (by omega) r⟩, ?_⟩
    · obtain ⟨us, a1, a2⟩ := h.used
      exact ⟨us, a1, ISSx.far a2 hg (by have := hL.u3; omega) (fun k e => by injection e; have := hL.uf; omega)⟩
    · obtain ⟨top, hm⟩ := h.mvs
      exact ⟨top, hm.far hg (fun k e => by injection e; omega)⟩
theorem TokS.own (h : TokS w N B base g ulo uhi flo fhi n x0 x1 x2 vu vf σ vm) : ∀ k, vm.ownBlock = some k → base ≤ k ∧ k < w.heap.size := fun k e => by
  obtain ⟨top, hm⟩ := h.mvs
  exact hm.lt k e
theorem TokS.push (h : TokS w N B base g ulo uhi flo fhi n x0 x1 x2 vu vf σ vm) (hL : LayS B base g ulo uhi flo fhi) (hbs : base ≤ w.heap.size) {xs : List Int} {top : Nat} (hg1 : w.grownBy w1 none) (hg2 : w1.grownBy w2 vm.ownBlock) (hO : OwnSS w2 base top 23 vm' (σ.moves ++ [xs])) (hat : vm'.ownBlock = vm.ownBlock ∨ ∃ k, vm'.ownBlock = some k ∧ w1.heap.size ≤ k) :
    TokS (w2.setCell ⟨g, 5, none⟩ vm') N B base g ulo uhi flo fhi n x0 x1 x2 vu vf ⟨σ.used, σ.met, σ.moves ++ [xs]⟩ vm' ∧ Fr B base w vm (w2.setCell ⟨g, 5, none⟩ vm') vm' := by
  have hlt := h.own
  have hg3 : w2.grownBy (w2.setCell ⟨g, 5, none⟩ vm') (some g) := grown_set w2 ⟨g, 5, none⟩ _
  have z1 := hg1.size
  have z2 := hg2.size
  have hg := hL.g2
  have hr : ∀ k, vm.ownBlock = some k → base ≤ k := fun k e => (hlt k e).1
  have bx := ((h.box.still hg1).far hg2 (fun k e => by have := hr k e; omega)).set 5 vm'
  refine ⟨⟨bx, ?_, ?_, top, hO.far hg3 (fun k e => by injection e; omega)⟩, ((Fr.still hg1).trans (Fr.row hg2 hat)).trans (Fr.turn hg3 hL.g1 hg)⟩
  · obtain ⟨us, a1, a2⟩ := h.used
    have hu3 := hL.u3
    exact ⟨us, a1, ISSx.far (ISSx.far (ISSx.still a2 hg1 (by omega)) hg2 (by omega) (fun k e => by have := hr k e; omega)) hg3 (by omega) (fun k e => by injection e; have := hL.gu; omega)⟩
  · obtain ⟨fs, a1, a2⟩ := h.met
    have hf3 := hL.f3
    exact ⟨fs, a1, ((a2.still hg1 (by omega)).far hg2 (by omega) (fun k e => by have := hr k e; omega)).far hg3 (by omega) (fun k e => by injection e; have := hL.gf; omega)⟩
end

end Go.Proofs.Ytjapdfdjgjajkaa
