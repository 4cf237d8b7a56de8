/-
  Contract: the program's reading of a view.
-/
import Derived.Test.YtlfdhhmccjkogaaVr
import Derived.Deep.RegionHeld3
import Derived.Deep.AppendLies
import Derived.Test.YtlfdhhmccjkogaaReg
namespace Go.Proofs.Ytlfdhhmccjkogaa
open Go.ChangeShapes Go.WideShapes Go.ChangeAt Go.RowKit
set_option linter.unusedVariables false

def VPost (f g : Nat) (s : ByteArray) (p : Nat) (w : World) (e : Ending) (w' : World) : Prop :=
  ∃ p', p ≤ p' ∧ p' ≤ s.size ∧ BoxN w' g #[.string s, .int .i64 (p' : Nat)] 80 ∧ w.grownBy w' (some g) ∧
    ((pv f s p = none ∧ e = .returned (.pointer none)) ∨ ∃ t b, pv f s p = some (t, p') ∧ e = .returned (.pointer (some ⟨b, 0, none⟩)) ∧ TreeAt w' 63 w.heap.size w'.heap.size t b)
theorem VPost.no {f g p p' : Nat} {s : ByteArray} {w w' : World} (h1 : p ≤ p') (h2 : p' ≤ s.size) (h3 : BoxN w' g #[.string s, .int .i64 (p' : Nat)] 80) (h4 : w.grownBy w' (some g)) (h5 : pv f s p = none) : VPost f g s p w (.returned (.pointer none)) w' :=
  ⟨p', h1, h2, h3, h4, .inl ⟨h5, rfl⟩⟩
theorem VPost.yes {f g p p' b : Nat} {s : ByteArray} {w w' : World} {t : VT} (h1 : p ≤ p') (h2 : p' ≤ s.size) (h3 : BoxN w' g #[.string s, .int .i64 (p' : Nat)] 80) (h4 : w.grownBy w' (some g)) (h5 : pv f s p = some (t, p')) (h6 : TreeAt w' 63 w.heap.size w'.heap.size t b) : VPost f g s p w (.returned (.pointer (some ⟨b, 0, none⟩))) w' :=
  ⟨p', h1, h2, h3, h4, .inr ⟨t, b, h5, rfl, h6⟩⟩
theorem ite_is {c : Prop} [Decidable c] {x y : Prop} (h : c) (k : x) : if c then x else y := by rw [if_pos h]; exact k
theorem dgI_no {s : ByteArray} {m p : Nat} (h : dg s m p = none) : dgI s m p = -1 ∧ dgN s m p = p := by unfold dgI dgN; rw [h]; exact ⟨rfl, rfl⟩
theorem dgI_yes {s : ByteArray} {m p d : Nat} (h : dg s m p = some d) : dgI s m p = d ∧ dgN s m p = p + 1 := by unfold dgI dgN; rw [h]; exact ⟨rfl, rfl⟩
theorem pv_no1 {f p : Nat} {s : ByteArray} (h : dg s 6 p = none) : pv (f + 1) s p = none := by rw [pv]; unfold pnode; rw [h]
theorem pv_no2 {f p d : Nat} {s : ByteArray} (h : dg s 6 p = some d) (h2 : ¬ bt s (p + 1) = 46) : pv (f + 1) s p = none := by rw [pv]; unfold pnode; rw [h]; dsimp only; rw [if_neg h2]
theorem pv_no3 {f p d : Nat} {s : ByteArray} (h : dg s 6 p = some d) (h2 : bt s (p + 1) = 46) (h3 : dg s 9 (p + 2) = none) : pv (f + 1) s p = none := by rw [pv]; unfold pnode; rw [h]; dsimp only; rw [if_pos h2, h3]
theorem pv_leaf {f p d i : Nat} {s : ByteArray} (h : dg s 6 p = some d) (h2 : bt s (p + 1) = 46) (h3 : dg s 9 (p + 2) = some i) (h4 : d = 0 ∨ bt s (p + 3) ≠ 40) : pv (f + 1) s p = some (.node d i [] [] 0, p + 3) := by rw [pv]; unfold pnode; rw [h]; dsimp only; rw [if_pos h2, h3]; dsimp only; rw [if_pos h4]
theorem pv_deep_no {f p d i : Nat} {s : ByteArray} (h : dg s 6 p = some d) (h2 : bt s (p + 1) = 46) (h3 : dg s 9 (p + 2) = some i) (h4 : d ≠ 0) (h5 : bt s (p + 3) = 40) (h6 : ploop true (pv f s) s d [] [] (p + 4) = none) : pv (f + 1) s p = none := by
  rw [pv]; unfold pnode; rw [h]; dsimp only; rw [if_pos h2, h3]; dsimp only; rw [if_neg (by rintro (e | e); exact h4 e; exact e h5), h6]
theorem pv_deep_bad {f p d i q : Nat} {s : ByteArray} {ps : List Int} {ts : List VT} (h : dg s 6 p = some d) (h2 : bt s (p + 1) = 46) (h3 : dg s 9 (p + 2) = some i) (h4 : d ≠ 0) (h5 : bt s (p + 3) = 40) (h6 : ploop true (pv f s) s d [] [] (p + 4) = some (ps, ts, q)) (h7 : ¬ (bt s q = 41 ∧ hdD ts ≤ 80)) : pv (f + 1) s p = none := by
  rw [pv]; unfold pnode; rw [h]; dsimp only; rw [if_pos h2, h3]; dsimp only; rw [if_neg (by rintro (e | e); exact h4 e; exact e h5), h6]; dsimp only; rw [if_neg (fun e => h7 ⟨e.1, e.2 rfl⟩)]
theorem pv_deep_yes {f p d i q : Nat} {s : ByteArray} {ps : List Int} {ts : List VT} (h : dg s 6 p = some d) (h2 : bt s (p + 1) = 46) (h3 : dg s 9 (p + 2) = some i) (h4 : d ≠ 0) (h5 : bt s (p + 3) = 40) (h6 : ploop true (pv f s) s d [] [] (p + 4) = some (ps, ts, q)) (h7 : bt s q = 41) (h8 : hdD ts ≤ 80) : pv (f + 1) s p = some (.node d i ps ts (hdD ts), q + 1) := by
  rw [pv]; unfold pnode; rw [h]; dsimp only; rw [if_pos h2, h3]; dsimp only; rw [if_neg (by rintro (e | e); exact h4 e; exact e h5), h6]; dsimp only; rw [if_pos ⟨h7, fun _ => h8⟩]; rfl
def ptrV (b : Nat) : Value := .pointer (some ⟨b, 0, none⟩)
/-- the parts that have been read: each in blocks of its own, apart from the rows that grow -/
def Trs (w : World) (base : Nat) (vp vq : Value) (ts : List VT) (bs : List Nat) : Prop :=
  ∀ j, j < ts.length → ∃ lo hi, TreeAt w 63 lo hi (nthT ts j) (nthN bs j) ∧ base ≤ lo ∧ hi ≤ w.heap.size ∧ (∀ x, vp.ownBlock = some x → x < lo ∨ hi ≤ x) ∧ ∀ x, vq.ownBlock = some x → x < lo ∨ hi ≤ x
theorem leaf_at {w : World} {ty : TypeId} {lo hi d i b : Nat} (h1 : lo ≤ b) (h2 : b < hi) (h3 : BoxN w b #[.int .i64 d, .int .i64 i, .slice none 0 0, .slice none 0 0, .int .i64 (0 : Nat)] ty) : TreeAt w ty lo hi (.node d i [] [] 0) b :=
  TreeAt.mk [] h1 h2 h3 (IntS.nil _ _ _) (Sl.nil _ _ _ _ _) (Nat.le_refl _) (fun j hj => absurd hj (by simp))
theorem ploop_step {f c p p1 q j : Nat} {s : ByteArray} {ps : List Int} {ts : List VT} {t : VT} (h1 : sepAt s ts.isEmpty p = some p1) (h2 : dg s 5 p1 = some j) (h3 : bt s (p1 + 1) = 58) (h4 : pv f s (p1 + 2) = some (t, q)) (h5 : j < t.degree) (h6 : goes true ts t = true) :
    ploop true (pv f s) s (c + 1) ps ts p = ploop true (pv f s) s c (ps ++ [(j : Int)]) (ts ++ [t]) q := by
  rw [ploop, h1]; dsimp only; rw [h2]; dsimp only; rw [if_pos h3, h4]; dsimp only; rw [if_pos (by rw [decide_eq_true h5, h6]; rfl)]
theorem ploop_n1 {f c p : Nat} {s : ByteArray} {ps : List Int} {ts : List VT} (h1 : sepAt s ts.isEmpty p = none) : ploop true (pv f s) s (c + 1) ps ts p = none := by rw [ploop, h1]
theorem ploop_n2 {f c p p1 : Nat} {s : ByteArray} {ps : List Int} {ts : List VT} (h1 : sepAt s ts.isEmpty p = some p1) (h2 : dg s 5 p1 = none) : ploop true (pv f s) s (c + 1) ps ts p = none := by rw [ploop, h1]; dsimp only; rw [h2]
theorem ploop_n3 {f c p p1 j : Nat} {s : ByteArray} {ps : List Int} {ts : List VT} (h1 : sepAt s ts.isEmpty p = some p1) (h2 : dg s 5 p1 = some j) (h3 : ¬ bt s (p1 + 1) = 58) : ploop true (pv f s) s (c + 1) ps ts p = none := by rw [ploop, h1]; dsimp only; rw [h2]; dsimp only; rw [if_neg h3]
theorem ploop_n4 {f c p p1 j : Nat} {s : ByteArray} {ps : List Int} {ts : List VT} (h1 : sepAt s ts.isEmpty p = some p1) (h2 : dg s 5 p1 = some j) (h3 : bt s (p1 + 1) = 58) (h4 : pv f s (p1 + 2) = none) : ploop true (pv f s) s (c + 1) ps ts p = none := by rw [ploop, h1]; dsimp only; rw [h2]; dsimp only; rw [if_pos h3, h4]
theorem ploop_n5 {f c p p1 j q : Nat} {s : ByteArray} {ps : List Int} {ts : List VT} {t : VT} (h1 : sepAt s ts.isEmpty p = some p1) (h2 : dg s 5 p1 = some j) (h3 : bt s (p1 + 1) = 58) (h4 : pv f s (p1 + 2) = some (t, q)) (h5 : ¬ (j < t.degree ∧ goes true ts t = true)) : ploop true (pv f s) s (c + 1) ps ts p = none := by
  rw [ploop, h1]; dsimp only; rw [h2]; dsimp only; rw [if_pos h3, h4]; dsimp only; rw [if_neg]; intro h; rw [Bool.and_eq_true, decide_eq_true_eq] at h; exact h5 h

theorem own_new {w : World} {base : Nat} {e : TypeId} {v u : Value} {xs : List Value} (h : w.ownsRow base e 1 v (xs.length + 1) (xs ++ [u])) : Own w base e v (xs ++ [u]) := by unfold Own; rw [List.length_append]; exact h
theorem ownP_new {w : World} {base : Nat} {e : TypeId} {v : Value} {bs : List Nat} {b : Nat} (h : w.ownsRow base e 1 v (bs.length + 1) (bs.map ptrV ++ [.pointer (some ⟨b, 0, none⟩)])) : Own w base e v ((bs ++ [b]).map ptrV) := by
  rw [List.map_append]
  exact own_new (by rw [List.length_map]; exact h)
theorem ownI_new {w : World} {base : Nat} {e : TypeId} {v : Value} {ps : List Int} {z : Int} (h : w.ownsRow base e 1 v (ps.length + 1) (ps.map (Value.int .i64) ++ [.int .i64 z])) : OwnI w base e v (ps ++ [z]) := by
  unfold OwnI
  rw [List.map_append]
  exact own_new (by rw [List.length_map]; exact h)
theorem ap_new {vp vq : Value} {gp H n c : Nat} (hap : Apart vp vq) (hat : vp.ownBlock = some gp ∨ gp = H) (hq : ∀ k, vq.ownBlock = some k → k < H) : (Value.slice (some ⟨gp, 0, none⟩) n c).ownBlock = none ∨ (Value.slice (some ⟨gp, 0, none⟩) n c).ownBlock ≠ vq.ownBlock := by
  right
  show some gp ≠ vq.ownBlock
  rcases hat with h | h
  · rw [← h]; rcases hap with e | e | e
    · rw [h] at e; cases e
    · rw [e, h]; simp
    · exact e
  · intro e; have := hq gp e.symm; omega
theorem Try.infoI : (Try.prog.info? 3).map (fun i => (i.zero, i.size, i.bytes)) = some (some (.int .i64 0), 1, 8) := by kernel_rfl
theorem Try.infoT : (Try.prog.info? 59).map (fun i => (i.zero, i.size, i.bytes)) = some (some (.pointer none), 1, 8) := by kernel_rfl
theorem own_far {w : World} {base : Nat} {e : TypeId} {v : Value} {xs : List Value} {g : Nat} (h : Own w base e v xs) (hg : g < base) : v.ownBlock = none ∨ v.ownBlock ≠ some g := by
  rcases h.block with e | ⟨x, e, h1, _⟩
  · exact .inl e
  · right; rw [e]; intro e2; injection e2; omega
theorem Trs.still {w w' : World} {base : Nat} {vp vq : Value} {ts : List VT} {bs : List Nat} (h : Trs w base vp vq ts bs) (hg : w.grownBy w' none) : Trs w' base vp vq ts bs := fun j hj => by
  obtain ⟨lo, hi, a1, a2, a3, a4, a5⟩ := h j hj
  exact ⟨lo, hi, a1.kept hg a3 (fun x e => by cases e), a2, Nat.le_trans a3 hg.size, a4, a5⟩
theorem apart_round {A : Nat} {vp vq : Value} {gp gq hp hq : Nat} (h : Apart vp vq) (lp : ∀ x, vp.ownBlock = some x → x < A) (lq : ∀ x, vq.ownBlock = some x → x < A) (dp : vp.ownBlock = some gp ∨ gp = hp) (dq : vq.ownBlock = some gq ∨ gq = hq) (h1 : A ≤ hp) (h2 : A ≤ hq) (h3 : gp = hp → gq = hq → gp ≠ gq) : gp ≠ gq := by
  rcases dp with e1 | e1 <;> rcases dq with e2 | e2
  · rcases h with e | e | e
    · rw [e1] at e; cases e
    · rw [e2] at e; cases e
    · intro e3; rw [e1, e2, e3] at e; exact e rfl
  · have := lp _ e1; omega
  · have := lq _ e2; omega
  · exact h3 e1 e2
/-- a block that neither the rows nor the box are is as it was -/
theorem block_round {A B C D : World} {r1 r2 : Option Nat} {r k : Nat} (G : Grown2 A B r1 r2) (gy : B.grownBy C (some r)) (gz : C.grownBy D (some r)) (hk : k < A.heap.size) (h1 : some k ≠ r1) (h2 : some k ≠ r2) (h3 : k ≠ r) : D.heap[k]? = A.heap[k]? := by
  have s1 := G.size; have s2 := gy.size
  rw [gz.block k (by omega) (fun e => h3 (by injection e)), gy.block k (by omega) (fun e => h3 (by injection e)), G.block k hk h1 h2]
theorem BoxN.round {A B C D : World} {r1 r2 : Option Nat} {r g : Nat} {cs : Array Value} {ty : TypeId} (h : BoxN A g cs ty) (G : Grown2 A B r1 r2) (gy : B.grownBy C (some r)) (gz : C.grownBy D (some r)) (hk : g < A.heap.size) (h1 : ∀ x, r1 = some x → x ≠ g) (h2 : ∀ x, r2 = some x → x ≠ g) (h3 : g ≠ r) : BoxN D g cs ty :=
  (block_round G gy gz hk (fun e => h1 g e.symm rfl) (fun e => h2 g e.symm rfl) h3).trans h
theorem grown_round {w A B C D : World} {r1 r2 : Option Nat} {r g : Nat} (h : w.grownBy A (some g)) (G : Grown2 A B r1 r2) (gy : B.grownBy C (some r)) (gz : C.grownBy D (some r)) (h1 : ∀ x, r1 = some x → w.heap.size ≤ x) (h2 : ∀ x, r2 = some x → w.heap.size ≤ x) (h3 : w.heap.size ≤ r) : w.grownBy D (some g) := by
  have s1 := G.size; have s2 := gy.size; have s3 := h.size; have s4 := gz.size
  exact ⟨gz.os.trans (gy.os.trans (G.os.trans h.os)), gz.tape.trans (gy.tape.trans (G.tape.trans h.tape)), gz.output.trans (gy.output.trans (G.output.trans h.output)), by omega,
    fun i hi ho => (block_round G gy gz (by omega) (fun e => by have := h1 i e.symm; omega) (fun e => by have := h2 i e.symm; omega) (by omega)).trans (h.block i hi ho)⟩
theorem nthT_left {ts us : List VT} {j : Nat} (h : j < ts.length) : nthT (ts ++ us) j = nthT ts j := by
  unfold nthT; rw [List.getD_eq_getElem?_getD, List.getD_eq_getElem?_getD, List.getElem?_append_left h]
theorem nthN_left {ts us : List Nat} {j : Nat} (h : j < ts.length) : nthN (ts ++ us) j = nthN ts j := by
  unfold nthN; rw [List.getD_eq_getElem?_getD, List.getD_eq_getElem?_getD, List.getElem?_append_left h]
theorem nthT_last {ts : List VT} {t : VT} {j : Nat} (h : j = ts.length) : nthT (ts ++ [t]) j = t := by subst h; simp [nthT]
theorem nthN_last {ts : List Nat} {t : Nat} {j : Nat} (h : j = ts.length) : nthN (ts ++ [t]) j = t := by subst h; simp [nthN]
theorem Trs.round {A B C D : World} {base r gp gq n m cp cq lo hi b : Nat} {vp vq : Value} {ts : List VT} {t : VT} {bs : List Nat} (h : Trs A base vp vq ts bs) (ht : TreeAt A 63 lo hi t b) (hlo : base ≤ lo) (hhi : hi ≤ A.heap.size)
    (lp : ∀ x, vp.ownBlock = some x → x < lo) (lq : ∀ x, vq.ownBlock = some x → x < lo) (G : Grown2 A B vp.ownBlock vq.ownBlock) (gy : B.grownBy C (some r)) (gz : C.grownBy D (some r)) (hr : r < base)
    (dp : vp.ownBlock = some gp ∨ A.heap.size ≤ gp) (dq : vq.ownBlock = some gq ∨ A.heap.size ≤ gq) (hl : ts.length = bs.length) :
    Trs D base (.slice (some ⟨gp, 0, none⟩) n cp) (.slice (some ⟨gq, 0, none⟩) m cq) (ts ++ [t]) (bs ++ [b]) := fun j hj => by
  have s1 := G.size; have s2 := gy.size; have s4 := gz.size
  have key : ∀ (lo hi : Nat) (u : VT) (x : Nat), TreeAt A 63 lo hi u x → base ≤ lo → hi ≤ A.heap.size → (∀ y, vp.ownBlock = some y → y < lo ∨ hi ≤ y) → (∀ y, vq.ownBlock = some y → y < lo ∨ hi ≤ y) →
      ∃ lo hi, TreeAt D 63 lo hi u x ∧ base ≤ lo ∧ hi ≤ D.heap.size ∧ (∀ y, (Value.slice (some ⟨gp, 0, none⟩) n cp).ownBlock = some y → y < lo ∨ hi ≤ y) ∧ ∀ y, (Value.slice (some ⟨gq, 0, none⟩) m cq).ownBlock = some y → y < lo ∨ hi ≤ y := by
    intro lo hi u x a1 a2 a3 a4 a5
    refine ⟨lo, hi, TreeAt.keep (fun k k1 k2 => block_round G gy gz (by omega) (fun e => ?_) (fun e => ?_) (by omega)) (Nat.le_refl _) (Nat.le_refl _) u x a1, a2, by omega, fun y hy => ?_, fun y hy => ?_⟩
    · have := a4 k e.symm; omega
    · have := a5 k e.symm; omega
    · have e : gp = y := by simpa [Value.ownBlock] using hy
      subst e
      rcases dp with e | e
      · exact a4 _ e
      · omega
    · have e : gq = y := by simpa [Value.ownBlock] using hy
      subst e
      rcases dq with e | e
      · exact a5 _ e
      · omega
  rw [List.length_append, List.length_cons, List.length_nil] at hj
  by_cases hjl : j < ts.length
  · obtain ⟨lo, hi, a1, a2, a3, a4, a5⟩ := h j hjl
    rw [nthT_left hjl, nthN_left (by omega)]
    exact key lo hi _ _ a1 a2 a3 a4 a5
  · rw [nthT_last (by omega), nthN_last (by omega)]
    exact key lo hi _ _ ht hlo hhi (fun y hy => .inl (lp y hy)) (fun y hy => .inl (lq y hy))
theorem pv_depth {f p q : Nat} {s : ByteArray} {t : VT} (h : pv f s p = some (t, q)) : t.depth ≤ 80 := by
  rw [pv_eq] at h
  unfold keepF at h
  cases e : sv f s p with
  | none => rw [e] at h; cases h
  | some x =>
    obtain ⟨u, r⟩ := x
    rw [e] at h
    dsimp only at h
    by_cases hf : fine u = true
    · rw [if_pos hf] at h
      injection h with h
      injection h with h1 h2
      subst h1
      unfold fine at hf
      rw [Bool.and_eq_true, decide_eq_true_eq] at hf
      exact hf.2
    · rw [if_neg hf] at h; cases h
theorem dep_snoc {f p q : Nat} {s : ByteArray} {t : VT} {ts : List VT} (h : ∀ t ∈ ts, t.depth ≤ 80) (k : pv f s p = some (t, q)) : ∀ u ∈ ts ++ [t], u.depth ≤ 80 := by
  intro u hu
  rcases List.mem_append.1 hu with e | e
  · exact h u e
  · rw [List.mem_singleton.1 e]; exact pv_depth k
theorem rowP_form {w : World} {base : Nat} {e : TypeId} {v : Value} {bs : List Nat} {k : Nat} (h : Own w base e v (bs.map ptrV)) (hl : bs.length = k) (hk : 0 < k) : ∃ gq cq, v = .slice (some ⟨gq, 0, none⟩) k cq ∧ base ≤ gq ∧ w.cell? ⟨gq, 0, none⟩ = some (.pointer (some ⟨nthN bs 0, 0, none⟩)) ∧ Sl w base w.heap.size 1 v k (fun j => .pointer (some ⟨nthN bs j, 0, none⟩)) := by
  unfold Own at h
  rw [List.length_map, hl] at h
  have S : Sl w base w.heap.size 1 v k (fun j => .pointer (some ⟨nthN bs j, 0, none⟩)) := Sl.of_own h (fun j hj => by
    rw [List.getElem?_map, List.getElem?_eq_getElem (by omega)]
    simp [ptrV, nthN, List.getD_eq_getElem?_getD, List.getElem?_eq_getElem (show j < bs.length by omega)])
  obtain ⟨gq, cq, rfl, h1, h2⟩ := World.ownsRow.form h hk
  exact ⟨gq, cq, rfl, h1, by have := (S.at_ (j := 0) (by omega)).1; simpa using this, S⟩
theorem goes_iff {ts : List VT} {t : VT} (h : 0 < ts.length) : goes true ts t = true ↔ t.depth = (nthT ts 0).depth := by
  cases ts with
  | nil => simp at h
  | cons u ts => simp [goes, nthT]
theorem hdD_nth {ts : List VT} (h : 0 < ts.length) : hdD ts = (nthT ts 0).depth + 1 := by
  cases ts with
  | nil => simp at h
  | cons t ts => rfl
theorem trs_tree {w : World} {base lo H d i k e0 b : Nat} {ps : List Int} {ts : List VT} {bs : List Nat} {vp vq : Value} (he : hdD ts = e0 + 1) (h1 : ts.length = k) (h2 : bs.length = k) (h3 : lo ≤ b) (h4 : b < w.heap.size)
    (hb : BoxN w b #[.int .i64 d, .int .i64 i, vp, vq, .int .i64 (e0 + 1 : Int)] 63) (hp : IntS w base w.heap.size vp ps) (hq : Sl w base H 1 vq k (fun j => .pointer (some ⟨nthN bs j, 0, none⟩))) (ht : Trs w base vp vq ts bs) (hlo : lo ≤ base) (hH : H ≤ w.heap.size) :
    TreeAt w 63 lo w.heap.size (.node d i ps ts (hdD ts)) b :=
  TreeAt.mk bs h3 h4 (by rw [he]; exact hb) (hp.mono hlo (Nat.le_refl _)) (by rw [h1]; exact hq.mono hlo hH) (by omega) (fun j hj => by
    obtain ⟨l, h, a1, a2, a3, _, _⟩ := ht j hj
    exact a1.mono (Nat.le_trans hlo a2) a3)
theorem own_none (v : Value) : v.ownBlock = none ∨ v.ownBlock ≠ none := by
  cases v.ownBlock <;> simp
theorem Trs.far {w w' : World} {base g : Nat} {vp vq : Value} {ts : List VT} {bs : List Nat} (h : Trs w base vp vq ts bs) (hg : w.grownBy w' (some g)) (hb : g < base) : Trs w' base vp vq ts bs := fun j hj => by
  obtain ⟨lo, hi, a1, a2, a3, a4, a5⟩ := h j hj
  exact ⟨lo, hi, a1.kept hg a3 (fun x e => by injection e; omega), a2, Nat.le_trans a3 hg.size, a4, a5⟩
theorem grown_new {w a b : World} {g r : Nat} (h : w.grownBy a (some g)) (k : a.grownBy b (some r)) (hr : w.heap.size ≤ r) : w.grownBy b (some g) :=
  ⟨k.os.trans h.os, k.tape.trans h.tape, k.output.trans h.output, Nat.le_trans h.size k.size, fun i hi ho => (k.block i (Nat.lt_of_lt_of_le hi h.size) (fun e => by injection e; omega)).trans (h.block i hi ho)⟩

set_option maxHeartbeats 4000000 in
set_option maxRecDepth 100000 in
theorem view_any (s : ByteArray) (hs : s.size ≤ 4000) : ∀ (f g p : Nat) (w : World), s.size + 1 ≤ f + p → p ≤ s.size → BoxN w g #[.string s, .int .i64 p] 80 → Calls Try.prog 41 #[.pointer (some ⟨g, 0, none⟩)] w (VPost f g s p w) := by
  intro f
  induction f with
  | zero => intro g p w hf hp; omega
  | succ f ih =>
    intro g p w hf hp hbx
    have HIH := Lib.hid ih; clear ih
    have hgw := hbx.lt
    have HB := Lib.hid hbx; clear hbx
    have HGR := Lib.hid (World.grownBy.refl w (some g))
    cases e1 : dg s 6 p with
    | none =>
      have E1 := Lib.hid e1; clear e1
      go_enter Try.func41, Try.ntmps41
      go_upto_region 2 with ((go_at_call 49; refine (digit_any g (p) 6 s _ HB.out (by omega) hs (by omega)).mono ?_; rintro e V1 ⟨rfl, hb, hg, hz⟩; rw [(dgI_no E1.out).2] at hb; rw [(dgI_no E1.out).1]; have BG1 := Lib.hid hb; clear hb; have GR1 := Lib.hid (grownBy_trans HGR.out hg); have hw1 : V1.heap.size = w.heap.size := hz; have hv1 : w.heap.size ≤ V1.heap.size := Nat.le_of_eq hw1.symm; have hu1 : V1.heap.size ≤ w.heap.size := Nat.le_of_eq hw1; clear hw1 hz; clear hg HB HGR))
      refine nameC ?_
      intro V9 HW9
      have BT := Lib.hid (show BoxN V9 V1.heap.size #[.int .i64 (-1), .int .i64 0, .slice none 0 0, .slice none 0 0, .int .i64 0] 63 by rw [HW9.out]; exact BoxN.new _ _ _)
      have hg9 : V1.grownBy V9 none := by rw [HW9.out]; exact grown_alloc _ _
      clear HW9
      have kt0 : V9.cell? ⟨V1.heap.size, 0, none⟩ = some (.int .i64 (-1)) := BT.out.cell 0 (by simp)
      go_wp2_with fail
      go_ret
      exact VPost.no (Nat.le_refl _) hp (BG1.out.still hg9) (grownBy_trans GR1.out (grown_any hg9)) (pv_no1 E1.out)
    | some d =>
      have E1 := Lib.hid e1
      obtain ⟨q1, q2, q3⟩ := dg_some e1 (by omega)
      clear e1 q3
      go_enter Try.func41, Try.ntmps41
      go_upto_region 2 with ((go_at_call 49; refine (digit_any g (p) 6 s _ HB.out (by omega) hs (by omega)).mono ?_; rintro e V1 ⟨rfl, hb, hg, hz⟩; rw [(dgI_yes E1.out).2] at hb; rw [(dgI_yes E1.out).1]; have BG2 := Lib.hid hb; clear hb; have GR2 := Lib.hid (grownBy_trans HGR.out hg); have hw2 : V1.heap.size = w.heap.size := hz; have hv2 : w.heap.size ≤ V1.heap.size := Nat.le_of_eq hw2.symm; have hu2 : V1.heap.size ≤ w.heap.size := Nat.le_of_eq hw2; clear hw2 hz; clear hg HB HGR))
      refine nameC ?_
      intro V2 HW2
      have BT := Lib.hid (show BoxN V2 V1.heap.size #[.int .i64 d, .int .i64 0, .slice none 0 0, .slice none 0 0, .int .i64 0] 63 by rw [HW2.out]; exact BoxN.new _ _ _)
      have hg2 : V1.grownBy V2 none := by rw [HW2.out]; exact grown_alloc _ _
      have hs2 : V1.heap.size + 1 ≤ V2.heap.size := by rw [HW2.out]; simp
      have BG := Lib.hid (BG2.out.still hg2)
      have GR := Lib.hid (grownBy_trans GR2.out (grown_any hg2))
      clear HW2 hg2 BG2 GR2
      have hgt : g < V1.heap.size := by omega
      by_cases e2 : bt s (p + 1) = 46
      case neg =>
        have E2 := Lib.hid e2; clear e2
        have kt0 : V2.cell? ⟨V1.heap.size, 0, none⟩ = some (.int .i64 d) := BT.out.cell 0 (by simp)
        have kt1 : V2.cell? ⟨V1.heap.size, 1, none⟩ = some (.int .i64 0) := BT.out.cell 1 (by simp)
        have kt2 : V2.cell? ⟨V1.heap.size, 2, none⟩ = some (.slice none 0 0) := BT.out.cell 2 (by simp)
        have kt3 : V2.cell? ⟨V1.heap.size, 3, none⟩ = some (.slice none 0 0) := BT.out.cell 3 (by simp)
        have kt4 : V2.cell? ⟨V1.heap.size, 4, none⟩ = some (.int .i64 0) := BT.out.cell 4 (by simp)
        go_wp2_with (go_at_call 50; refine (next_any g (p + 1) 46 s _ BG.out (by omega) hs (by omega)).mono ?_; rintro e V21 ⟨rfl, hb, hg, hz⟩; rw [(nx_no E2.out).2] at hb; rw [(nx_no E2.out).1]; have BG21 := Lib.hid hb; clear hb; have GR21 := Lib.hid (grownBy_trans GR.out hg); have hw21 : V21.heap.size = V2.heap.size := hz; have hv21 : V2.heap.size ≤ V21.heap.size := Nat.le_of_eq hw21.symm; have hu21 : V21.heap.size ≤ V2.heap.size := Nat.le_of_eq hw21; clear hw21 hz; have BT21 := Lib.hid (BT.out.far hg (fun k e => by cases e; omega)); clear hg BG GR BT)
        go_ret
        exact VPost.no (by omega) (by omega) BG21.out GR21.out (pv_no2 E1.out E2.out)
      have E2 := Lib.hid e2
      have q4 := bt_lt e2 (by omega)
      clear e2
      have kt0 : V2.cell? ⟨V1.heap.size, 0, none⟩ = some (.int .i64 d) := BT.out.cell 0 (by simp)
      have kt1 : V2.cell? ⟨V1.heap.size, 1, none⟩ = some (.int .i64 0) := BT.out.cell 1 (by simp)
      have kt2 : V2.cell? ⟨V1.heap.size, 2, none⟩ = some (.slice none 0 0) := BT.out.cell 2 (by simp)
      have kt3 : V2.cell? ⟨V1.heap.size, 3, none⟩ = some (.slice none 0 0) := BT.out.cell 3 (by simp)
      have kt4 : V2.cell? ⟨V1.heap.size, 4, none⟩ = some (.int .i64 0) := BT.out.cell 4 (by simp)
      cases e3 : dg s 9 (p + 2) with
      | none =>
        have E3 := Lib.hid e3; clear e3
        skip
        have kfz := fun (W : World) (h : BoxN W V1.heap.size #[.int .i64 d, .int .i64 0, .slice none 0 0, .slice none 0 0, .int .i64 0] 63) => h.frozen 1
        go_upto_region 5 with (first | (go_at_call 50; refine (next_any g (p + 1) 46 s _ BG.out (by omega) hs (by omega)).mono ?_; rintro e V22 ⟨rfl, hb, hg, hz⟩; rw [(nx_yes E2.out).2] at hb; rw [(nx_yes E2.out).1]; have BG22 := Lib.hid hb; clear hb; have GR22 := Lib.hid (grownBy_trans GR.out hg); have hw22 : V22.heap.size = V2.heap.size := hz; have hv22 : V2.heap.size ≤ V22.heap.size := Nat.le_of_eq hw22.symm; have hu22 : V22.heap.size ≤ V2.heap.size := Nat.le_of_eq hw22; clear hw22 hz; have BT22 := Lib.hid (BT.out.far hg (fun k e => by cases e; omega)); clear hg BG GR BT) | (go_at_call 49; refine (digit_any g (p + 2) 9 s _ BG22.out (by omega) hs (by omega)).mono ?_; rintro e V23 ⟨rfl, hb, hg, hz⟩; rw [(dgI_no E3.out).2] at hb; rw [(dgI_no E3.out).1]; have BG23 := Lib.hid hb; clear hb; have GR23 := Lib.hid (grownBy_trans GR22.out hg); have hw23 : V23.heap.size = V22.heap.size := hz; have hv23 : V22.heap.size ≤ V23.heap.size := Nat.le_of_eq hw23.symm; have hu23 : V23.heap.size ≤ V22.heap.size := Nat.le_of_eq hw23; clear hw23 hz; have BT23 := Lib.hid (BT22.out.far hg (fun k e => by cases e; omega)); clear hg BG22 GR22 BT22; have kz := BT23.out.frozen 1; have ky : V23.cell? ⟨V1.heap.size, 1, none⟩ = some (.int .i64 0) := BT23.out.cell 1 (by simp)))
        clear kt0 kt1 kt2 kt3 kt4
        refine nameC ?_
        intro VA HWVA
        have BT_VA := Lib.hid (show BoxN VA V1.heap.size #[.int .i64 d, .int .i64 (-1), .slice none 0 0, .slice none 0 0, .int .i64 0] 63 by rw [HWVA.out]; exact BT23.out.set 1 _)
        have hgVA : V23.grownBy VA (some V1.heap.size) := by rw [HWVA.out]; exact grown_set _ _ _
        have hzVA : V23.heap.size ≤ VA.heap.size := hgVA.size
        have BG_VA := Lib.hid (BG23.out.far hgVA (fun k e => by cases e; omega))
        have GR_VA := Lib.hid (grown_new GR23.out hgVA (by omega))
        clear HWVA hgVA BT23 BG23 GR23
        clear kfz
        have kt0 : VA.cell? ⟨V1.heap.size, 0, none⟩ = some (.int .i64 d) := BT_VA.out.cell 0 (by simp)
        have kt1 : VA.cell? ⟨V1.heap.size, 1, none⟩ = some (.int .i64 (-1)) := BT_VA.out.cell 1 (by simp)
        have kt2 : VA.cell? ⟨V1.heap.size, 2, none⟩ = some (.slice none 0 0) := BT_VA.out.cell 2 (by simp)
        have kt3 : VA.cell? ⟨V1.heap.size, 3, none⟩ = some (.slice none 0 0) := BT_VA.out.cell 3 (by simp)
        have kt4 : VA.cell? ⟨V1.heap.size, 4, none⟩ = some (.int .i64 0) := BT_VA.out.cell 4 (by simp)
        go_wp2_with fail
        go_ret
        exact VPost.no (by omega) (by omega) BG_VA.out GR_VA.out (pv_no3 E1.out E2.out E3.out)
      | some i =>
        have E3 := Lib.hid e3
        obtain ⟨q5, q6, q7⟩ := dg_some e3 (by omega)
        clear e3 q7
        skip
        go_upto_region 5 with (first | (go_at_call 50; refine (next_any g (p + 1) 46 s _ BG.out (by omega) hs (by omega)).mono ?_; rintro e V22 ⟨rfl, hb, hg, hz⟩; rw [(nx_yes E2.out).2] at hb; rw [(nx_yes E2.out).1]; have BG22 := Lib.hid hb; clear hb; have GR22 := Lib.hid (grownBy_trans GR.out hg); have hw22 : V22.heap.size = V2.heap.size := hz; have hv22 : V2.heap.size ≤ V22.heap.size := Nat.le_of_eq hw22.symm; have hu22 : V22.heap.size ≤ V2.heap.size := Nat.le_of_eq hw22; clear hw22 hz; have BT22 := Lib.hid (BT.out.far hg (fun k e => by cases e; omega)); clear hg BG GR BT) | (go_at_call 49; refine (digit_any g (p + 2) 9 s _ BG22.out (by omega) hs (by omega)).mono ?_; rintro e V24 ⟨rfl, hb, hg, hz⟩; rw [(dgI_yes E3.out).2] at hb; rw [(dgI_yes E3.out).1]; have BG24 := Lib.hid hb; clear hb; have GR24 := Lib.hid (grownBy_trans GR22.out hg); have hw24 : V24.heap.size = V22.heap.size := hz; have hv24 : V22.heap.size ≤ V24.heap.size := Nat.le_of_eq hw24.symm; have hu24 : V24.heap.size ≤ V22.heap.size := Nat.le_of_eq hw24; clear hw24 hz; have BT24 := Lib.hid (BT22.out.far hg (fun k e => by cases e; omega)); clear hg BG22 GR22 BT22; have kz := BT24.out.frozen 1; have ky : V24.cell? ⟨V1.heap.size, 1, none⟩ = some (.int .i64 0) := BT24.out.cell 1 (by simp)))
        clear kt0 kt1 kt2 kt3 kt4
        refine nameC ?_
        intro V5 HWV5
        have BT_V5 := Lib.hid (show BoxN V5 V1.heap.size #[.int .i64 d, .int .i64 i, .slice none 0 0, .slice none 0 0, .int .i64 0] 63 by rw [HWV5.out]; exact BT24.out.set 1 _)
        have hgV5 : V24.grownBy V5 (some V1.heap.size) := by rw [HWV5.out]; exact grown_set _ _ _
        have hzV5 : V24.heap.size ≤ V5.heap.size := hgV5.size
        have BG_V5 := Lib.hid (BG24.out.far hgV5 (fun k e => by cases e; omega))
        have GR_V5 := Lib.hid (grown_new GR24.out hgV5 (by omega))
        clear HWV5 hgV5 BT24 BG24 GR24
        by_cases hd0 : d = 0
        case pos =>
          have hd0' : ((d : Int) == 0) = true := by simp; exact hd0
          have HD0 := Lib.hid hd0; clear hd0
          have kt0 : V5.cell? ⟨V1.heap.size, 0, none⟩ = some (.int .i64 d) := BT_V5.out.cell 0 (by simp)
          have kt1 : V5.cell? ⟨V1.heap.size, 1, none⟩ = some (.int .i64 i) := BT_V5.out.cell 1 (by simp)
          have kt2 : V5.cell? ⟨V1.heap.size, 2, none⟩ = some (.slice none 0 0) := BT_V5.out.cell 2 (by simp)
          have kt3 : V5.cell? ⟨V1.heap.size, 3, none⟩ = some (.slice none 0 0) := BT_V5.out.cell 3 (by simp)
          have kt4 : V5.cell? ⟨V1.heap.size, 4, none⟩ = some (.int .i64 0) := BT_V5.out.cell 4 (by simp)
          go_wp2_with fail
          go_ret
          refine VPost.yes (by omega) (by omega) BG_V5.out GR_V5.out (pv_leaf E1.out E2.out E3.out (.inl HD0.out)) (leaf_at (by omega) (by omega) BT_V5.out)
        have hd0' : ((d : Int) == 0) = false := by simp; exact hd0
        have hdp : 0 < d := by omega
        have HD0 := Lib.hid hd0; clear hd0
        by_cases e4 : bt s (p + 3) = 40
        case neg =>
          have E4 := Lib.hid e4; clear e4
          have kt0 : V5.cell? ⟨V1.heap.size, 0, none⟩ = some (.int .i64 d) := BT_V5.out.cell 0 (by simp)
          have kt1 : V5.cell? ⟨V1.heap.size, 1, none⟩ = some (.int .i64 i) := BT_V5.out.cell 1 (by simp)
          have kt2 : V5.cell? ⟨V1.heap.size, 2, none⟩ = some (.slice none 0 0) := BT_V5.out.cell 2 (by simp)
          have kt3 : V5.cell? ⟨V1.heap.size, 3, none⟩ = some (.slice none 0 0) := BT_V5.out.cell 3 (by simp)
          have kt4 : V5.cell? ⟨V1.heap.size, 4, none⟩ = some (.int .i64 0) := BT_V5.out.cell 4 (by simp)
          go_wp2_with (go_at_call 50; refine (next_any g (p + 3) 40 s _ BG_V5.out (by omega) hs (by omega)).mono ?_; rintro e V25 ⟨rfl, hb, hg, hz⟩; rw [(nx_no E4.out).2] at hb; rw [(nx_no E4.out).1]; have BG25 := Lib.hid hb; clear hb; have GR25 := Lib.hid (grownBy_trans GR_V5.out hg); have hw25 : V25.heap.size = V5.heap.size := hz; have hv25 : V5.heap.size ≤ V25.heap.size := Nat.le_of_eq hw25.symm; have hu25 : V25.heap.size ≤ V5.heap.size := Nat.le_of_eq hw25; clear hw25 hz; have BT25 := Lib.hid (BT_V5.out.far hg (fun k e => by cases e; omega)); clear hg BG_V5 GR_V5 BT_V5)
          go_ret
          refine VPost.yes (by omega) (by omega) BG25.out GR25.out (pv_leaf E1.out E2.out E3.out (.inr E4.out)) (leaf_at (by omega) (by omega) BT25.out)
        have E4 := Lib.hid e4
        have q8 := bt_lt e4 (by omega)
        clear e4
        have kt0 : V5.cell? ⟨V1.heap.size, 0, none⟩ = some (.int .i64 d) := BT_V5.out.cell 0 (by simp)
        have kt1 : V5.cell? ⟨V1.heap.size, 1, none⟩ = some (.int .i64 i) := BT_V5.out.cell 1 (by simp)
        have kt2 : V5.cell? ⟨V1.heap.size, 2, none⟩ = some (.slice none 0 0) := BT_V5.out.cell 2 (by simp)
        have kt3 : V5.cell? ⟨V1.heap.size, 3, none⟩ = some (.slice none 0 0) := BT_V5.out.cell 3 (by simp)
        have kt4 : V5.cell? ⟨V1.heap.size, 4, none⟩ = some (.int .i64 0) := BT_V5.out.cell 4 (by simp)
        go_upto_region 9 with (go_at_call 50; refine (next_any g (p + 3) 40 s _ BG_V5.out (by omega) hs (by omega)).mono ?_; rintro e V26 ⟨rfl, hb, hg, hz⟩; rw [(nx_yes E4.out).2] at hb; rw [(nx_yes E4.out).1]; have BG26 := Lib.hid hb; clear hb; have GR26 := Lib.hid (grownBy_trans GR_V5.out hg); have hw26 : V26.heap.size = V5.heap.size := hz; have hv26 : V5.heap.size ≤ V26.heap.size := Nat.le_of_eq hw26.symm; have hu26 : V26.heap.size ≤ V5.heap.size := Nat.le_of_eq hw26; clear hw26 hz; have BT26 := Lib.hid (BT_V5.out.far hg (fun k e => by cases e; omega)); clear hg BG_V5 GR_V5 BT_V5)
        clear kt0 kt1 kt2 kt3 kt4
        have kt0 : V26.cell? ⟨V1.heap.size, 0, none⟩ = some (.int .i64 d) := BT26.out.cell 0 (by simp)
        have kt1 : V26.cell? ⟨V1.heap.size, 1, none⟩ = some (.int .i64 i) := BT26.out.cell 1 (by simp)
        have kt2 : V26.cell? ⟨V1.heap.size, 2, none⟩ = some (.slice none 0 0) := BT26.out.cell 2 (by simp)
        have kt3 : V26.cell? ⟨V1.heap.size, 3, none⟩ = some (.slice none 0 0) := BT26.out.cell 3 (by simp)
        have kt4 : V26.cell? ⟨V1.heap.size, 4, none⟩ = some (.int .i64 0) := BT26.out.cell 4 (by simp)
        go_wp2_with fail
        clear kt0 kt1 kt2 kt3 kt4
        have hzb : V1.heap.size < V26.heap.size := by omega
        go_loopw [46] (fun i' wr => ∃ (k : Nat) (ps : List Int) (ts : List VT) (bs : List Nat) (q : Nat) (vp vq : Value), k ≤ d ∧ i' = .int .i64 k ∧ q ≤ s.size ∧ p + 4 ≤ q ∧ Hid (ps.length = k ∧ ts.length = k ∧ bs.length = k) ∧ Hid (ploop true (pv f s) s d [] [] (p + 4) = ploop true (pv f s) s (d - k) ps ts q) ∧
            Hid (BoxN wr g #[.string s, .int .i64 (q : Nat)] 80) ∧ Hid (BoxN wr V1.heap.size #[.int .i64 d, .int .i64 i, vp, vq, .int .i64 0] 63) ∧ Hid (OwnI wr V26.heap.size 3 vp ps) ∧ Hid (Own wr V26.heap.size 59 vq (bs.map ptrV)) ∧ Hid (Apart vp vq) ∧ Hid (Trs wr V26.heap.size vp vq ts bs) ∧ Hid (w.grownBy wr (some g)) ∧ V26.heap.size ≤ wr.heap.size ∧ Hid (∀ t ∈ ts, t.depth ≤ 80)) (fun i' _ => d - (intOf i').toNat)
        case atStart => exact ⟨0, [], [], [], p + 4, .slice none 0 0, .slice none 0 0, Nat.zero_le _, rfl, by omega, Nat.le_refl _, Lib.hid ⟨rfl, rfl, rfl⟩, Lib.hid (by rw [Nat.sub_zero]), BG26, BT26, Lib.hid (OwnI.nil _ _ _), Lib.hid (Own.nil _ _ _), Lib.hid (Apart.nil_left _), Lib.hid (fun j hj => absurd hj (by simp)), GR26, Nat.le_refl _, Lib.hid (fun t ht => by cases ht)⟩
        case round =>
          clear BG26 BT26 GR26
          obtain ⟨k, ps, ts, bs, q, vp, vq, hk, rfl, hq1, hq2, HLEN, HPL, BGr, BTr, HOP, HOQ, HAP, HTR, GRr, hzr, HDEP⟩ := hrel
          by_cases hlt : k < d
          case neg =>
            have HKD := Lib.hid (show d - k = 0 by omega)
            have hk1 : 0 < k := by omega
            have HPE := Lib.hid (show ploop true (pv f s) s d [] [] (p + 4) = some (ps, ts, q) by rw [HPL.out, HKD.out]; rfl)
            obtain ⟨gq, cq, rfl, hgq1, hgq2, hSl⟩ := rowP_form HOQ.out HLEN.out.2.2 hk1
            have HSL := Lib.hid hSl; clear hSl
            obtain ⟨lo0, hi0, T0, u1, u2, u3, u4⟩ := HTR.out 0 (by rw [HLEN.out.2.1]; exact hk1)
            clear u1 u2 u3 u4
            obtain ⟨_, _, _, _, _, x1, _, _, _⟩ := T0.opened
            have y1 := x1.cell 4 (by simp)
            clear x1 T0
            obtain ⟨b0, HB0⟩ : ∃ b, Hid (nthN bs 0 = b) := ⟨_, Lib.hid rfl⟩
            obtain ⟨e0, HE0⟩ : ∃ e, Hid ((nthT ts 0).depth = e) := ⟨_, Lib.hid rfl⟩
            rw [HB0.out] at hgq2 y1
            rw [HE0.out] at y1
            have HHD := Lib.hid (show hdD ts = e0 + 1 by rw [← HE0.out]; exact hdD_nth (by rw [HLEN.out.2.1]; exact hk1))
            have he0 : e0 ≤ 80 := by rw [← HE0.out]; exact HDEP.out _ (nthT_mem (by rw [HLEN.out.2.1]; exact hk1))
            have y2 : wr.cell? ⟨V1.heap.size, 3, none⟩ = some (.slice (some ⟨gq, 0, none⟩) k cq) := BTr.out.cell 3 (by simp)
            have y3 := BTr.out.frozen 4
            have y4 : wr.cell? ⟨V1.heap.size, 4, none⟩ = some (.int .i64 0) := BTr.out.cell 4 (by simp)
            go_upto_region 23 with fail
            clear hgq2 y1 y2 y3 y4
            refine nameC ?_
            intro VE HVE
            have BTE := Lib.hid (show BoxN VE V1.heap.size #[.int .i64 d, .int .i64 i, vp, .slice (some ⟨gq, 0, none⟩) k cq, .int .i64 (e0 + 1 : Int)] 63 by rw [HVE.out]; exact BTr.out.set 4 _)
            have hg : wr.grownBy VE (some V1.heap.size) := by rw [HVE.out]; exact grown_set _ _ _
            have hzE : wr.heap.size ≤ VE.heap.size := hg.size
            have BGE := Lib.hid (BGr.out.far hg (fun k e => by cases e; omega))
            have GRE := Lib.hid (grown_new GRr.out hg (by omega))
            have HOPE := Lib.hid (OwnI.far HOP.out hg (fun k e => by cases e; omega))
            have HSLE := Lib.hid (HSL.out.keep (fun x h1 h2 => hg.block x (by omega) (fun e => by injection e; omega)))
            have HTRE := Lib.hid (Trs.far HTR.out hg (by omega))
            clear HVE hg BTr BGr GRr HOP HOQ HSL HTR
            by_cases z1 : bt s q = 41
            case neg =>
              have Z1 := Lib.hid z1; clear z1
              go_wp2_with (go_at_call 50; refine (next_any g (q) 41 s _ BGE.out (by omega) hs (by omega)).mono ?_; rintro e V27 ⟨rfl, hb, hg, hz⟩; rw [(nx_no Z1.out).2] at hb; rw [(nx_no Z1.out).1]; have BG27 := Lib.hid hb; clear hb; have GR27 := Lib.hid (grownBy_trans GRE.out hg); have hw27 : V27.heap.size = VE.heap.size := hz; have hv27 : VE.heap.size ≤ V27.heap.size := Nat.le_of_eq hw27.symm; have hu27 : V27.heap.size ≤ VE.heap.size := Nat.le_of_eq hw27; clear hw27 hz; have BT27 := Lib.hid (BTE.out.far hg (fun k e => by cases e; omega)); have HOP27 := Lib.hid (OwnI.far HOPE.out hg (fun k e => by cases e; omega)); have HSL27 := Lib.hid (HSLE.out.keep (fun x h1 h2 => hg.block x (by omega) (fun e => by injection e; omega))); have HTR27 := Lib.hid (Trs.far HTRE.out hg (by omega)); clear hg BGE GRE BTE HOPE HSLE HTRE)
              go_ret
              exact VPost.no (by omega) (by omega) BG27.out GR27.out (pv_deep_bad E1.out E2.out E3.out HD0.out E4.out HPE.out (fun e => Z1.out e.1))
            have Z1 := Lib.hid z1
            have z2 := bt_lt z1 (by omega)
            clear z1
            by_cases z3 : e0 + 1 ≤ 80
            case neg =>
              have z4 : decide ((80 : Int) < (e0 : Int) + 1) = true := decide_eq_true (by omega)
              go_wp2_with (go_at_call 50; refine (next_any g (q) 41 s _ BGE.out (by omega) hs (by omega)).mono ?_; rintro e V28 ⟨rfl, hb, hg, hz⟩; rw [(nx_yes Z1.out).2] at hb; rw [(nx_yes Z1.out).1]; have BG28 := Lib.hid hb; clear hb; have GR28 := Lib.hid (grownBy_trans GRE.out hg); have hw28 : V28.heap.size = VE.heap.size := hz; have hv28 : VE.heap.size ≤ V28.heap.size := Nat.le_of_eq hw28.symm; have hu28 : V28.heap.size ≤ VE.heap.size := Nat.le_of_eq hw28; clear hw28 hz; have BT28 := Lib.hid (BTE.out.far hg (fun k e => by cases e; omega)); have HOP28 := Lib.hid (OwnI.far HOPE.out hg (fun k e => by cases e; omega)); have HSL28 := Lib.hid (HSLE.out.keep (fun x h1 h2 => hg.block x (by omega) (fun e => by injection e; omega))); have HTR28 := Lib.hid (Trs.far HTRE.out hg (by omega)); clear hg BGE GRE BTE HOPE HSLE HTRE; have kt4 : V28.cell? ⟨V1.heap.size, 4, none⟩ = some (.int .i64 (e0 + 1 : Int)) := BT28.out.cell 4 (by simp))
              go_ret
              exact VPost.no (by omega) (by omega) BG28.out GR28.out (pv_deep_bad E1.out E2.out E3.out HD0.out E4.out HPE.out (fun e => by have := e.2; rw [HHD.out] at this; exact z3 this))
            have z4 : decide ((80 : Int) < (e0 : Int) + 1) = false := decide_eq_false (by omega)
            go_wp2_with (go_at_call 50; refine (next_any g (q) 41 s _ BGE.out (by omega) hs (by omega)).mono ?_; rintro e V28 ⟨rfl, hb, hg, hz⟩; rw [(nx_yes Z1.out).2] at hb; rw [(nx_yes Z1.out).1]; have BG28 := Lib.hid hb; clear hb; have GR28 := Lib.hid (grownBy_trans GRE.out hg); have hw28 : V28.heap.size = VE.heap.size := hz; have hv28 : VE.heap.size ≤ V28.heap.size := Nat.le_of_eq hw28.symm; have hu28 : V28.heap.size ≤ VE.heap.size := Nat.le_of_eq hw28; clear hw28 hz; have BT28 := Lib.hid (BTE.out.far hg (fun k e => by cases e; omega)); have HOP28 := Lib.hid (OwnI.far HOPE.out hg (fun k e => by cases e; omega)); have HSL28 := Lib.hid (HSLE.out.keep (fun x h1 h2 => hg.block x (by omega) (fun e => by injection e; omega))); have HTR28 := Lib.hid (Trs.far HTRE.out hg (by omega)); clear hg BGE GRE BTE HOPE HSLE HTRE; have kt4 : V28.cell? ⟨V1.heap.size, 4, none⟩ = some (.int .i64 (e0 + 1 : Int)) := BT28.out.cell 4 (by simp))
            go_ret
            exact VPost.yes (by omega) (by omega) BG28.out GR28.out (pv_deep_yes E1.out E2.out E3.out HD0.out E4.out HPE.out Z1.out (by rw [HHD.out]; exact z3)) (trs_tree (HHD.out) (HLEN.out.2.1) (HLEN.out.2.2) (by omega) (by omega) BT28.out HOP28.out.ints HSL28.out HTR28.out (by omega) (by omega))
          by_cases hk0 : k = 0
          case neg =>
            have hk1 : 0 < k := by omega
            have hki : decide ((0 : Int) < k) = true := decide_eq_true (by omega)
            clear hk0
            have HC := Lib.hid (show d - k = (d - (k + 1)) + 1 by omega)
            have HEM := Lib.hid (show ts.isEmpty = false by have := HLEN.out.2.1; cases ts with | nil => simp at this; omega | cons t ts => rfl)
            by_cases f0 : bt s q = 44
            case neg =>
              have F0 := Lib.hid f0; clear f0
              have HSEP := Lib.hid (show sepAt s ts.isEmpty q = none by unfold sepAt; rw [HEM.out, if_neg (by simp), if_neg F0.out])
              go_wp2_with (go_at_call 50; refine (next_any g (q) 44 s _ BGr.out (by omega) hs (by omega)).mono ?_; rintro e V29 ⟨rfl, hb, hg, hz⟩; rw [(nx_no F0.out).2] at hb; rw [(nx_no F0.out).1]; have BG29 := Lib.hid hb; clear hb; have GR29 := Lib.hid (grownBy_trans GRr.out hg); have hw29 : V29.heap.size = wr.heap.size := hz; have hv29 : wr.heap.size ≤ V29.heap.size := Nat.le_of_eq hw29.symm; have hu29 : V29.heap.size ≤ wr.heap.size := Nat.le_of_eq hw29; clear hw29 hz; have BT29 := Lib.hid (BTr.out.far hg (fun k e => by cases e; omega)); have HOP29 := Lib.hid (OwnI.far HOP.out hg (fun k e => by cases e; omega)); have HOQ29 := Lib.hid (Own.kept HOQ.out hg (own_far HOQ.out (by omega))); have HTR29 := Lib.hid (Trs.far HTR.out hg (by omega)); clear hg BGr GRr BTr HOP HOQ HTR)
              go_ret
              exact VPost.no (by omega) (by omega) BG29.out GR29.out (pv_deep_no E1.out E2.out E3.out HD0.out E4.out (by rw [HPL.out, HC.out]; exact ploop_n1 HSEP.out))
            have F0 := Lib.hid f0
            have r0 := bt_lt f0 (by omega)
            clear f0
            have HSEP := Lib.hid (show sepAt s ts.isEmpty q = some (q + 1) by unfold sepAt; rw [HEM.out, if_neg (by simp), if_pos F0.out])
            cases f1 : dg s 5 (q + 1) with
            | none =>
              have F1 := Lib.hid f1; clear f1
              go_wp2_with (first | (go_at_call 50; refine (next_any g (q) 44 s _ BGr.out (by omega) hs (by omega)).mono ?_; rintro e V30 ⟨rfl, hb, hg, hz⟩; rw [(nx_yes F0.out).2] at hb; rw [(nx_yes F0.out).1]; have BG30 := Lib.hid hb; clear hb; have GR30 := Lib.hid (grownBy_trans GRr.out hg); have hw30 : V30.heap.size = wr.heap.size := hz; have hv30 : wr.heap.size ≤ V30.heap.size := Nat.le_of_eq hw30.symm; have hu30 : V30.heap.size ≤ wr.heap.size := Nat.le_of_eq hw30; clear hw30 hz; have BT30 := Lib.hid (BTr.out.far hg (fun k e => by cases e; omega)); have HOP30 := Lib.hid (OwnI.far HOP.out hg (fun k e => by cases e; omega)); have HOQ30 := Lib.hid (Own.kept HOQ.out hg (own_far HOQ.out (by omega))); have HTR30 := Lib.hid (Trs.far HTR.out hg (by omega)); clear hg BGr GRr BTr HOP HOQ HTR) | (go_at_call 49; refine (digit_any g (q + 1) 5 s _ BG30.out (by omega) hs (by omega)).mono ?_; rintro e V31 ⟨rfl, hb, hg, hz⟩; rw [(dgI_no F1.out).2] at hb; rw [(dgI_no F1.out).1]; have BG31 := Lib.hid hb; clear hb; have GR31 := Lib.hid (grownBy_trans GR30.out hg); have hw31 : V31.heap.size = V30.heap.size := hz; have hv31 : V30.heap.size ≤ V31.heap.size := Nat.le_of_eq hw31.symm; have hu31 : V31.heap.size ≤ V30.heap.size := Nat.le_of_eq hw31; clear hw31 hz; have BT31 := Lib.hid (BT30.out.far hg (fun k e => by cases e; omega)); have HOP31 := Lib.hid (OwnI.far HOP30.out hg (fun k e => by cases e; omega)); have HOQ31 := Lib.hid (Own.kept HOQ30.out hg (own_far HOQ30.out (by omega))); have HTR31 := Lib.hid (Trs.far HTR30.out hg (by omega)); clear hg BG30 GR30 BT30 HOP30 HOQ30 HTR30))
              go_ret
              exact VPost.no (by omega) (by omega) BG31.out GR31.out (pv_deep_no E1.out E2.out E3.out HD0.out E4.out (by rw [HPL.out, HC.out]; exact ploop_n2 HSEP.out F1.out))
            | some j =>
              have F1 := Lib.hid f1
              obtain ⟨r1, r2, r3⟩ := dg_some f1 (by omega)
              clear f1 r3
              by_cases f2 : bt s (q + 1 + 1) = 58
              case neg =>
                have F2 := Lib.hid f2; clear f2
                go_wp2_with (first | (go_at_call 50; refine (next_any g (q) 44 s _ BGr.out (by omega) hs (by omega)).mono ?_; rintro e V30 ⟨rfl, hb, hg, hz⟩; rw [(nx_yes F0.out).2] at hb; rw [(nx_yes F0.out).1]; have BG30 := Lib.hid hb; clear hb; have GR30 := Lib.hid (grownBy_trans GRr.out hg); have hw30 : V30.heap.size = wr.heap.size := hz; have hv30 : wr.heap.size ≤ V30.heap.size := Nat.le_of_eq hw30.symm; have hu30 : V30.heap.size ≤ wr.heap.size := Nat.le_of_eq hw30; clear hw30 hz; have BT30 := Lib.hid (BTr.out.far hg (fun k e => by cases e; omega)); have HOP30 := Lib.hid (OwnI.far HOP.out hg (fun k e => by cases e; omega)); have HOQ30 := Lib.hid (Own.kept HOQ.out hg (own_far HOQ.out (by omega))); have HTR30 := Lib.hid (Trs.far HTR.out hg (by omega)); clear hg BGr GRr BTr HOP HOQ HTR) | (go_at_call 49; refine (digit_any g (q + 1) 5 s _ BG30.out (by omega) hs (by omega)).mono ?_; rintro e V32 ⟨rfl, hb, hg, hz⟩; rw [(dgI_yes F1.out).2] at hb; rw [(dgI_yes F1.out).1]; have BG32 := Lib.hid hb; clear hb; have GR32 := Lib.hid (grownBy_trans GR30.out hg); have hw32 : V32.heap.size = V30.heap.size := hz; have hv32 : V30.heap.size ≤ V32.heap.size := Nat.le_of_eq hw32.symm; have hu32 : V32.heap.size ≤ V30.heap.size := Nat.le_of_eq hw32; clear hw32 hz; have BT32 := Lib.hid (BT30.out.far hg (fun k e => by cases e; omega)); have HOP32 := Lib.hid (OwnI.far HOP30.out hg (fun k e => by cases e; omega)); have HOQ32 := Lib.hid (Own.kept HOQ30.out hg (own_far HOQ30.out (by omega))); have HTR32 := Lib.hid (Trs.far HTR30.out hg (by omega)); clear hg BG30 GR30 BT30 HOP30 HOQ30 HTR30) | (go_at_call 50; refine (next_any g (q + 1 + 1) 58 s _ BG32.out (by omega) hs (by omega)).mono ?_; rintro e V33 ⟨rfl, hb, hg, hz⟩; rw [(nx_no F2.out).2] at hb; rw [(nx_no F2.out).1]; have BG33 := Lib.hid hb; clear hb; have GR33 := Lib.hid (grownBy_trans GR32.out hg); have hw33 : V33.heap.size = V32.heap.size := hz; have hv33 : V32.heap.size ≤ V33.heap.size := Nat.le_of_eq hw33.symm; have hu33 : V33.heap.size ≤ V32.heap.size := Nat.le_of_eq hw33; clear hw33 hz; have BT33 := Lib.hid (BT32.out.far hg (fun k e => by cases e; omega)); have HOP33 := Lib.hid (OwnI.far HOP32.out hg (fun k e => by cases e; omega)); have HOQ33 := Lib.hid (Own.kept HOQ32.out hg (own_far HOQ32.out (by omega))); have HTR33 := Lib.hid (Trs.far HTR32.out hg (by omega)); clear hg BG32 GR32 BT32 HOP32 HOQ32 HTR32))
                go_ret
                exact VPost.no (by omega) (by omega) BG33.out GR33.out (pv_deep_no E1.out E2.out E3.out HD0.out E4.out (by rw [HPL.out, HC.out]; exact ploop_n3 HSEP.out F1.out F2.out))
              have F2 := Lib.hid f2
              have r4 := bt_lt f2 (by omega)
              clear f2
              go_upto_region 17 with (first | (go_at_call 50; refine (next_any g (q) 44 s _ BGr.out (by omega) hs (by omega)).mono ?_; rintro e V30 ⟨rfl, hb, hg, hz⟩; rw [(nx_yes F0.out).2] at hb; rw [(nx_yes F0.out).1]; have BG30 := Lib.hid hb; clear hb; have GR30 := Lib.hid (grownBy_trans GRr.out hg); have hw30 : V30.heap.size = wr.heap.size := hz; have hv30 : wr.heap.size ≤ V30.heap.size := Nat.le_of_eq hw30.symm; have hu30 : V30.heap.size ≤ wr.heap.size := Nat.le_of_eq hw30; clear hw30 hz; have BT30 := Lib.hid (BTr.out.far hg (fun k e => by cases e; omega)); have HOP30 := Lib.hid (OwnI.far HOP.out hg (fun k e => by cases e; omega)); have HOQ30 := Lib.hid (Own.kept HOQ.out hg (own_far HOQ.out (by omega))); have HTR30 := Lib.hid (Trs.far HTR.out hg (by omega)); clear hg BGr GRr BTr HOP HOQ HTR) | (go_at_call 49; refine (digit_any g (q + 1) 5 s _ BG30.out (by omega) hs (by omega)).mono ?_; rintro e V32 ⟨rfl, hb, hg, hz⟩; rw [(dgI_yes F1.out).2] at hb; rw [(dgI_yes F1.out).1]; have BG32 := Lib.hid hb; clear hb; have GR32 := Lib.hid (grownBy_trans GR30.out hg); have hw32 : V32.heap.size = V30.heap.size := hz; have hv32 : V30.heap.size ≤ V32.heap.size := Nat.le_of_eq hw32.symm; have hu32 : V32.heap.size ≤ V30.heap.size := Nat.le_of_eq hw32; clear hw32 hz; have BT32 := Lib.hid (BT30.out.far hg (fun k e => by cases e; omega)); have HOP32 := Lib.hid (OwnI.far HOP30.out hg (fun k e => by cases e; omega)); have HOQ32 := Lib.hid (Own.kept HOQ30.out hg (own_far HOQ30.out (by omega))); have HTR32 := Lib.hid (Trs.far HTR30.out hg (by omega)); clear hg BG30 GR30 BT30 HOP30 HOQ30 HTR30) | (go_at_call 50; refine (next_any g (q + 1 + 1) 58 s _ BG32.out (by omega) hs (by omega)).mono ?_; rintro e V34 ⟨rfl, hb, hg, hz⟩; rw [(nx_yes F2.out).2] at hb; rw [(nx_yes F2.out).1]; have BG34 := Lib.hid hb; clear hb; have GR34 := Lib.hid (grownBy_trans GR32.out hg); have hw34 : V34.heap.size = V32.heap.size := hz; have hv34 : V32.heap.size ≤ V34.heap.size := Nat.le_of_eq hw34.symm; have hu34 : V34.heap.size ≤ V32.heap.size := Nat.le_of_eq hw34; clear hw34 hz; have BT34 := Lib.hid (BT32.out.far hg (fun k e => by cases e; omega)); have HOP34 := Lib.hid (OwnI.far HOP32.out hg (fun k e => by cases e; omega)); have HOQ34 := Lib.hid (Own.kept HOQ32.out hg (own_far HOQ32.out (by omega))); have HTR34 := Lib.hid (Trs.far HTR32.out hg (by omega)); clear hg BG32 GR32 BT32 HOP32 HOQ32 HTR32))
              go_wp2_with fail
              have HLPQ := Lib.hid (And.intro (fun x hx => (HOP34.out.lt x hx).2) (fun x hx => (HOQ34.out.lt x hx).2) : (∀ x, vp.ownBlock = some x → x < V34.heap.size) ∧ (∀ x, vq.ownBlock = some x → x < V34.heap.size))
              refine (HIH.out g (q + 1 + 2) _ (by omega) (by omega) BG34.out).mono ?_
              rintro e V35 ⟨q', hp1, hp2, hb, hg, hm⟩
              have BG35 := Lib.hid hb; clear hb
              have GR35 := Lib.hid (grownBy_trans GR34.out hg)
              have hv35 := hg.size
              have BT35 := Lib.hid (BT34.out.far hg (fun k e => by cases e; omega))
              have HOP35 := Lib.hid (OwnI.far HOP34.out hg (fun k e => by cases e; omega))
              have HOQ35 := Lib.hid (Own.kept HOQ34.out hg (own_far HOQ34.out (by omega)))
              have HTR35 := Lib.hid (Trs.far HTR34.out hg (by omega))
              clear hg BG34 GR34 BT34 HOP34 HOQ34 HTR34
              rcases hm with ⟨hn, rfl⟩ | ⟨t, b, hy, rfl, ht⟩
              case inl =>
                have HN := Lib.hid hn; clear hn
                go_wp2_with fail
                go_quiet (fail)
                go_wp2_with fail
                go_ret
                exact VPost.no (by omega) (by omega) (BG35.out.still (grown_drewN _ nq)) (grownBy_trans GR35.out (grown_any (grown_drewN _ nq))) (pv_deep_no E1.out E2.out E3.out HD0.out E4.out (by rw [HPL.out, HC.out]; exact ploop_n4 HSEP.out F1.out F2.out HN.out))
              have HY := Lib.hid hy; clear hy
              have HT := Lib.hid ht
              obtain ⟨vp9, vq9, bs9, u1, u2, u3, u4, u5, u6⟩ := ht.opened
              clear u4 u5 u6 ht
              have z0 : V35.cell? ⟨b, 0, none⟩ = some (.int .i64 t.degree) := u3.cell 0 (by simp)
              have z1 : V35.cell? ⟨b, 4, none⟩ = some (.int .i64 t.depth) := u3.cell 4 (by simp)
              by_cases hjd : j < t.degree
              case neg =>
                have hjd' : decide ((t.degree : Int) ≤ j) = true := decide_eq_true (by omega)
                have hjd3 : decide (t.degree ≤ j) = true := decide_eq_true (by omega)
                have HJD := Lib.hid hjd; clear hjd
                go_wp2_with fail
                go_quiet (fail)
                go_wp2_with fail
                go_ret
                exact VPost.no (by omega) (by omega) (BG35.out.still (grown_drewN _ nq)) (grownBy_trans GR35.out (grown_any (grown_drewN _ nq))) (pv_deep_no E1.out E2.out E3.out HD0.out E4.out (by rw [HPL.out, HC.out]; exact ploop_n5 HSEP.out F1.out F2.out HY.out (fun e => HJD.out e.1)))
              have hjd' : decide ((t.degree : Int) ≤ j) = false := decide_eq_false (by omega)
              have hjd3 : decide (t.degree ≤ j) = false := decide_eq_false (by omega)
              have hjd2 : (j : Int) < t.degree := by omega
              obtain ⟨gq0, cq0, hvq, hgq1, hgq2, hSl⟩ := rowP_form HOQ35.out HLEN.out.2.2 hk1
              have HVQ := Lib.hid hvq; clear hvq hSl
              have x3 : V35.cell? ⟨V1.heap.size, 3, none⟩ = some (.slice (some ⟨gq0, 0, none⟩) k cq0) := by rw [← HVQ.out]; exact BT35.out.cell 3 (by simp)
              obtain ⟨lo0, hi0, T0, w1, w2, w3, w4⟩ := HTR35.out 0 (by rw [HLEN.out.2.1]; exact hk1)
              clear w1 w2 w3 w4
              obtain ⟨_, _, _, _, _, x1, _, _, _⟩ := T0.opened
              have y1 := x1.cell 4 (by simp)
              clear x1 T0
              obtain ⟨b0, HB0⟩ : ∃ b, Hid (nthN bs 0 = b) := ⟨_, Lib.hid rfl⟩
              obtain ⟨e0, HE0⟩ : ∃ e, Hid ((nthT ts 0).depth = e) := ⟨_, Lib.hid rfl⟩
              rw [HB0.out] at hgq2 y1
              rw [HE0.out] at y1
              by_cases hde : t.depth = e0
              case neg =>
                have HDE := Lib.hid (fun e => hde (by rw [← HE0.out]; exact (goes_iff (by rw [HLEN.out.2.1]; exact hk1)).1 e) : ¬ goes true ts t = true)
                have hd1 : ((t.depth : Int) == (e0 : Int)) = false := by simp; omega
                have hd2 : ((t.depth : Int) != (e0 : Int)) = true := by simp; omega
                have hd3 : decide ((t.depth : Int) = (e0 : Int)) = false := decide_eq_false (by omega)
                clear hde
                go_wp2_with fail
                go_quiet (fail)
                go_wp2_with fail
                go_ret
                exact VPost.no (by omega) (by omega) (BG35.out.still (grown_drewN _ nq)) (grownBy_trans GR35.out (grown_any (grown_drewN _ nq))) (pv_deep_no E1.out E2.out E3.out HD0.out E4.out (by rw [HPL.out, HC.out]; exact ploop_n5 HSEP.out F1.out F2.out HY.out (fun e => HDE.out e.2)))
              have HGO := Lib.hid ((goes_iff (by rw [HLEN.out.2.1]; exact hk1)).2 (by rw [HE0.out]; exact hde) : goes true ts t = true)
              have hd1 : ((t.depth : Int) == (e0 : Int)) = true := by simp; omega
              have hd2 : ((t.depth : Int) != (e0 : Int)) = false := by simp; omega
              clear hde
              go_wp2_with fail
              go_quiet (fail)
              go_upto_region 20 with (fail)
              clear z0 z1 hjd' hjd3 u3 x3 y1 hgq2 hd1 hd2 hki
              refine nameC ?_
              intro V8 HW8
              have hg8 : V35.grownBy V8 none := by rw [HW8.out]; exact grown_drewN _ _
              have hs8 := hg8.size
              have BG8 := Lib.hid (BG35.out.still hg8)
              have BT8 := Lib.hid (BT35.out.still hg8)
              have HOP8 := Lib.hid (OwnI.still HOP35.out hg8)
              have HOQ8 := Lib.hid (Own.kept HOQ35.out hg8 (own_none _))
              have HTR8 := Lib.hid (Trs.still HTR35.out hg8)
              have HT8 := Lib.hid (HT.out.kept hg8 (Nat.le_refl _) (no_row _ _))
              have GR8 := Lib.hid (grownBy_trans GR35.out (grown_any hg8))
              clear HW8 hg8 BG35 BT35 HOP35 HOQ35 GR35 HT
              obtain ⟨i1, hi1, hz1⟩ := Option.map_eq_some_iff.1 Try.infoI
              simp only [Prod.mk.injEq] at hz1
              obtain ⟨hz1a, hz1b, hz1c⟩ := hz1
              obtain ⟨i2, hi2, hz2⟩ := Option.map_eq_some_iff.1 Try.infoT
              simp only [Prod.mk.injEq] at hz2
              obtain ⟨hz2a, hz2b, hz2c⟩ := hz2
              have HI1 := Lib.hid hz1a; have HI2 := Lib.hid hz1b; have HI3 := Lib.hid hz1c
              have HJ1 := Lib.hid hz2a; have HJ2 := Lib.hid hz2b; have HJ3 := Lib.hid hz2c
              have HII := Lib.hid hi1; have HJJ := Lib.hid hi2
              clear hz1a hz1b hz1c hz2a hz2b hz2c hi1 hi2
              refine wp_region_U (fun w' => w'.cell? ⟨V1.heap.size, 2, none⟩ = some vp ∧ w'.cell? ⟨V1.heap.size, 3, none⟩ = some vq) [1, 18, 19, 20, 21] (by kernel_rfl) ?_
              refine nameU ?_
              intro C0 HC0
              have hg9 : V8.grownBy C0 none := by rw [HC0.out]; exact grown_drew _
              have hs9 := hg9.size
              have BT9 := Lib.hid (BT8.out.still hg9)
              have OP9 := Lib.hid (OwnI.still HOP8.out hg9)
              have OQ9 := Lib.hid (Own.kept HOQ8.out hg9 (own_none _))
              have G29 := Lib.hid ((Grown2.refl V8 vp.ownBlock vq.ownBlock).none hg9)
              have LP := Lib.hid HOP8.out.lt
              have LQ := Lib.hid HOQ8.out.lt
              have hS9 : C0.cell? ⟨V1.heap.size, 2, none⟩ = some vp ∧ C0.cell? ⟨V1.heap.size, 3, none⟩ = some vq := ⟨BT9.out.cell 2 (by simp), BT9.out.cell 3 (by simp)⟩
              clear HC0 hg9
              refine anyU_takeY (i := 1) (v := .pointer (some ⟨V1.heap.size, 0, none⟩)) rfl (by kernel_rfl) (by kernel_rfl) (by kernel_rfl) (fun _ _ _ h => h) ⟨by rfl, fun w => (by go_simp)⟩ ?_
              simp only [List.getElem_toArray, List.getElem_cons_succ, List.getElem_cons_zero, Act.put, List.setIfInBounds_toArray, List.set_cons_zero, List.set_cons_succ]
              refine anyU_take (i := 0) (v := .pointer (some ⟨V1.heap.size, 0, none⟩)) rfl (by kernel_rfl) (by kernel_rfl) (by kernel_rfl) (fun _ _ _ h => h) ⟨by rfl, fun w' hS' => (by obtain ⟨s1, s2⟩ := hS'; go_simp)⟩ hS9 ?_
              simp only [List.getElem_toArray, List.getElem_cons_zero, Act.put, List.setIfInBounds_toArray, List.set_cons_zero, List.set_cons_succ]
              refine anyU_take (i := 2) (v := .pointer (some ⟨V1.heap.size, 0, none⟩)) rfl (by kernel_rfl) (by kernel_rfl) (by kernel_rfl) (fun _ _ _ h => h) ⟨by rfl, fun w' hS' => (by obtain ⟨s1, s2⟩ := hS'; go_simp)⟩ hS9 ?_
              simp only [List.getElem_toArray, List.getElem_cons_succ, List.getElem_cons_zero, Act.put, List.setIfInBounds_toArray, List.set_cons_zero, List.set_cons_succ]
              refine anyU_take (i := 3) (v := .pointer (some ⟨V1.heap.size, 0, none⟩)) rfl (by kernel_rfl) (by kernel_rfl) (by kernel_rfl) (fun _ _ _ h => h) ⟨by rfl, fun w' hS' => (by obtain ⟨s1, s2⟩ := hS'; go_simp)⟩ hS9 ?_
              simp only [List.getElem_toArray, List.getElem_cons_succ, List.getElem_cons_zero, Act.put, List.setIfInBounds_toArray, List.set_cons_zero, List.set_cons_succ]
              refine anyU_take (i := 4) (v := .pointer (some ⟨V1.heap.size, 2, none⟩)) rfl (by kernel_rfl) (by kernel_rfl) (by kernel_rfl) (fun _ _ _ h => h) ⟨by rfl, fun w' hS' => (by obtain ⟨s1, s2⟩ := hS'; go_simp)⟩ hS9 ?_
              simp only [List.getElem_toArray, List.getElem_cons_succ, List.getElem_cons_zero, Act.put, List.setIfInBounds_toArray, List.set_cons_zero, List.set_cons_succ]
              refine anyU_take (i := 5) (v := vp) rfl (by kernel_rfl) (by kernel_rfl) (by kernel_rfl) (fun _ _ _ h => h) ⟨by rfl, fun w' hS' => (by obtain ⟨s1, s2⟩ := hS'; go_simp)⟩ hS9 ?_
              simp only [List.getElem_toArray, List.getElem_cons_succ, List.getElem_cons_zero, Act.put, List.setIfInBounds_toArray, List.set_cons_zero, List.set_cons_succ]
              refine anyU_take (i := 6) (v := .int .i64 j) rfl (by kernel_rfl) (by kernel_rfl) (by kernel_rfl) (fun _ _ _ h => h) ⟨by rfl, fun w' hS' => (by obtain ⟨s1, s2⟩ := hS'; go_simp)⟩ hS9 ?_
              simp only [List.getElem_toArray, List.getElem_cons_succ, List.getElem_cons_zero, Act.put, List.setIfInBounds_toArray, List.set_cons_zero, List.set_cons_succ]
              refine anyU_take (i := 9) (v := .pointer (some ⟨V1.heap.size, 0, none⟩)) rfl (by kernel_rfl) (by kernel_rfl) (by kernel_rfl) (fun _ _ _ h => h) ⟨by rfl, fun w' hS' => (by obtain ⟨s1, s2⟩ := hS'; go_simp)⟩ hS9 ?_
              simp only [List.getElem_toArray, List.getElem_cons_succ, List.getElem_cons_zero, Act.put, List.setIfInBounds_toArray, List.set_cons_zero, List.set_cons_succ]
              refine anyU_take (i := 10) (v := .pointer (some ⟨V1.heap.size, 0, none⟩)) rfl (by kernel_rfl) (by kernel_rfl) (by kernel_rfl) (fun _ _ _ h => h) ⟨by rfl, fun w' hS' => (by obtain ⟨s1, s2⟩ := hS'; go_simp)⟩ hS9 ?_
              simp only [List.getElem_toArray, List.getElem_cons_succ, List.getElem_cons_zero, Act.put, List.setIfInBounds_toArray, List.set_cons_zero, List.set_cons_succ]
              refine anyU_take (i := 11) (v := .pointer (some ⟨V1.heap.size, 3, none⟩)) rfl (by kernel_rfl) (by kernel_rfl) (by kernel_rfl) (fun _ _ _ h => h) ⟨by rfl, fun w' hS' => (by obtain ⟨s1, s2⟩ := hS'; go_simp)⟩ hS9 ?_
              simp only [List.getElem_toArray, List.getElem_cons_succ, List.getElem_cons_zero, Act.put, List.setIfInBounds_toArray, List.set_cons_zero, List.set_cons_succ]
              refine anyU_take (i := 12) (v := vq) rfl (by kernel_rfl) (by kernel_rfl) (by kernel_rfl) (fun _ _ _ h => h) ⟨by rfl, fun w' hS' => (by obtain ⟨s1, s2⟩ := hS'; go_simp)⟩ hS9 ?_
              simp only [List.getElem_toArray, List.getElem_cons_succ, List.getElem_cons_zero, Act.put, List.setIfInBounds_toArray, List.set_cons_zero, List.set_cons_succ]
              refine anyU_take (i := 13) (v := .pointer (some ⟨b, 0, none⟩)) rfl (by kernel_rfl) (by kernel_rfl) (by kernel_rfl) (fun _ _ _ h => h) ⟨by rfl, fun w' hS' => (by obtain ⟨s1, s2⟩ := hS'; go_simp)⟩ hS9 ?_
              simp only [List.getElem_toArray, List.getElem_cons_succ, List.getElem_cons_zero, Act.put, List.setIfInBounds_toArray, List.set_cons_zero, List.set_cons_succ]
              have hnp : (ps.map (Value.int .i64)).length ≤ 6 := by rw [List.length_map, HLEN.out.1]; omega
              have hnq : (bs.map ptrV).length ≤ 6 := by rw [List.length_map, HLEN.out.2.2]; omega
              have hbb : V26.heap.size ≤ C0.heap.size := by omega
              refine anyU_ready (rs := [7, 14]) (by kernel_rfl) (by simp) ?_
              refine ReadyU.cons (i := 7) rfl (fun K hK => ?_) ?_
              · simp only [List.getElem_toArray, List.getElem_cons_succ, List.getElem_cons_zero]
                refine ite_is (by rfl) ?_
                simp [go_sem]
                refine hK.out _ _ ⟨fun _ => ⟨(BT9.out.still (grown_alloc _ _)).cell 2 (by simp), (BT9.out.still (grown_alloc _ _)).cell 3 (by simp)⟩, ?_⟩
                clear hK K
                try simp only [List.getElem_toArray, List.getElem_cons_succ, List.getElem_cons_zero, Act.put, List.setIfInBounds_toArray, List.set_cons_zero, List.set_cons_succ]
                refine nameU ?_
                intro C1 HC1
                have hg1 : C0.grownBy C1 none := by rw [HC1.out]; exact grown_alloc _ _
                have hs1x := hg1.size
                have BX1 := Lib.hid (show BoxN C1 C0.heap.size #[.int .i64 j] 3 by rw [HC1.out]; exact BoxN.new _ _ _)
                have BT1x := Lib.hid (BT9.out.still hg1)
                have OP1x := Lib.hid (OwnI.still OP9.out hg1)
                have OQ1x := Lib.hid (Own.kept OQ9.out hg1 (own_none _))
                have G21x := Lib.hid (G29.out.none hg1)
                clear HC1 hg1
                refine anyU_ready (rs := [8, 14]) (by kernel_rfl) (by simp) ?_
                refine ReadyU.cons (i := 8) rfl (fun K hK => ?_) ?_
                · refine step_append_lies C1 (by rfl) _ _ _ (by rfl) V26.heap.size 3 i1 _ 1 8 Try.underlying52 HII.out HI1.out HI2.out HI3.out rfl (by omega) vp _ (ps.map (Value.int .i64)) (by rfl) OP1x.out ⟨C0.heap.size, 0, none⟩ 1 1 [.int .i64 j] (by rfl) (by rfl) (World.news_of_block BX1.out) (by simp [Value.oneCell']) (by omega) (by unfold maxLen; omega) (by omega) (by omega) _ rfl ?_
                  intro gp cp C2 hown hgrow hatp hltp
                  simp only [List.length_map] at hown
                  have hs2x := hgrow.size
                  have BT2x := Lib.hid (BT1x.out.far hgrow (fun x e => by have := LP.out x e; omega))
                  have G22x := Lib.hid (G21x.out.fst hgrow)
                  have OP2x := Lib.hid (ownI_new hown)
                  have OQ2x := Lib.hid (Own.kept OQ1x.out hgrow HAP.out.symm.keeps)
                  refine hK.out _ _ ⟨fun _ => ⟨(BT2x.out).cell 2 (by simp), (BT2x.out).cell 3 (by simp)⟩, ?_⟩
                  clear hK K hown hgrow
                  try simp only [List.getElem_toArray, List.getElem_cons_succ, List.getElem_cons_zero, Act.put, List.setIfInBounds_toArray, List.set_cons_zero, List.set_cons_succ]
                  refine anyU_ready (rs := [14]) (by kernel_rfl) (by simp) ?_
                  refine ReadyU.cons (i := 14) rfl (fun K hK => ?_) ?_
                  · simp only [List.getElem_toArray, List.getElem_cons_succ, List.getElem_cons_zero]
                    refine ite_is (by rfl) ?_
                    simp [go_sem]
                    refine hK.out _ _ ⟨fun _ => ⟨(BT2x.out.still (grown_alloc _ _)).cell 2 (by simp), (BT2x.out.still (grown_alloc _ _)).cell 3 (by simp)⟩, ?_⟩
                    clear hK K
                    try simp only [List.getElem_toArray, List.getElem_cons_succ, List.getElem_cons_zero, Act.put, List.setIfInBounds_toArray, List.set_cons_zero, List.set_cons_succ]
                    refine nameU ?_
                    intro C3 HC3
                    have hg3 : C2.grownBy C3 none := by rw [HC3.out]; exact grown_alloc _ _
                    have hs3x := hg3.size
                    have BX3 := Lib.hid (show BoxN C3 C2.heap.size #[.pointer (some ⟨b, 0, none⟩)] 59 by rw [HC3.out]; exact BoxN.new _ _ _)
                    have BT3x := Lib.hid (BT2x.out.still hg3)
                    have OP3x := Lib.hid (OwnI.still OP2x.out hg3)
                    have OQ3x := Lib.hid (Own.kept OQ2x.out hg3 (own_none _))
                    have G23x := Lib.hid (G22x.out.none hg3)
                    clear HC3 hg3
                    refine anyU_ready (rs := [15]) (by kernel_rfl) (by simp) ?_
                    refine ReadyU.cons (i := 15) rfl (fun K hK => ?_) ?_
                    · refine step_append_lies C3 (by rfl) _ _ _ (by rfl) V26.heap.size 59 i2 _ 1 8 Try.underlying61 HJJ.out HJ1.out HJ2.out HJ3.out rfl (by omega) vq _ (bs.map ptrV) (by rfl) OQ3x.out ⟨C2.heap.size, 0, none⟩ 1 1 [.pointer (some ⟨b, 0, none⟩)] (by rfl) (by rfl) (World.news_of_block BX3.out) (by simp [Value.oneCell']) (by omega) (by unfold maxLen; omega) (by omega) (by omega) _ rfl ?_
                      intro gq cq C4 hown hgrow hatq hltq
                      simp only [List.length_map] at hown
                      have hs4x := hgrow.size
                      have BT4x := Lib.hid (BT3x.out.far hgrow (fun x e => by have := LQ.out x e; omega))
                      have G24x := Lib.hid (G23x.out.snd hgrow)
                      have OQ4x := Lib.hid (ownP_new hown)
                      have OP4x := Lib.hid (OwnI.kept OP3x.out hgrow (ap_new HAP.out hatp (fun x e => by have := LQ.out x e; omega)))
                      refine hK.out _ _ ⟨fun _ => ⟨(BT4x.out).cell 2 (by simp), (BT4x.out).cell 3 (by simp)⟩, ?_⟩
                      clear hK K hown hgrow
                      try simp only [List.getElem_toArray, List.getElem_cons_succ, List.getElem_cons_zero, Act.put, List.setIfInBounds_toArray, List.set_cons_zero, List.set_cons_succ]
                      have hSz : C4.cell? ⟨V1.heap.size, 2, none⟩ = some vp ∧ C4.cell? ⟨V1.heap.size, 3, none⟩ = some vq := ⟨(BT4x.out).cell 2 (by simp), (BT4x.out).cell 3 (by simp)⟩
                      refine anyU_ready (rs := [16]) (by kernel_rfl) (by simp) ?_
                      refine ReadyU.cons (i := 16) rfl (fun K hK => ?_) ReadyU.nil
                      simp only [List.getElem_toArray, List.getElem_cons_succ, List.getElem_cons_zero]
                      refine ite_is (by rfl) ?_
                      simp [go_sem]
                      refine hK.out _ _ ⟨fun _ => hSz, ?_⟩
                      clear hK K
                      try simp only [List.getElem_toArray, List.getElem_cons_succ, List.getElem_cons_zero, Act.put, List.setIfInBounds_toArray, List.set_cons_zero, List.set_cons_succ]
                      refine anyU_ready (rs := [17]) (by kernel_rfl) (by simp) ?_
                      refine ReadyU.cons (i := 17) rfl (fun K hK => ?_) ReadyU.nil
                      simp only [List.getElem_toArray, List.getElem_cons_succ, List.getElem_cons_zero]
                      refine ite_is (by rfl) ?_
                      simp [go_sem]
                      refine hK.out _ _ ⟨fun _ => hSz, ?_⟩
                      clear hK K
                      try simp only [List.getElem_toArray, List.getElem_cons_succ, List.getElem_cons_zero, Act.put, List.setIfInBounds_toArray, List.set_cons_zero, List.set_cons_succ]
                      have z2 := hSz.1
                      have zf := BT4x.out.frozen 2
                      refine anyU_ready (rs := [18]) (by kernel_rfl) (by simp) ?_
                      refine ReadyU.cons (i := 18) rfl (fun K hK => ?_) ReadyU.nil
                      simp only [List.getElem_toArray, List.getElem_cons_succ, List.getElem_cons_zero]
                      refine ite_is (by rfl) ?_
                      simp [go_sem, z2, zf]
                      refine hK.out _ _ ⟨fun h => absurd h (by decide), ?_⟩
                      clear hK K z2 zf hSz
                      try simp only [List.getElem_toArray, List.getElem_cons_succ, List.getElem_cons_zero, Act.put, List.setIfInBounds_toArray, List.set_cons_zero, List.set_cons_succ]
                      refine nameU ?_
                      intro CY HCY
                      have hgy : C4.grownBy CY (some V1.heap.size) := by rw [HCY.out]; exact grown_set _ _ _
                      have hsy : C4.heap.size ≤ CY.heap.size := hgy.size
                      have BTy := Lib.hid (show BoxN CY V1.heap.size #[.int .i64 d, .int .i64 i, .slice (some ⟨gp, 0, none⟩) (ps.length + 1) cp, vq, .int .i64 0] 63 by rw [HCY.out]; exact BT4x.out.set 2 _)
                      clear HCY
                      refine anyU_ready (rs := [19]) (by kernel_rfl) (by simp) ?_
                      refine ReadyU.cons (i := 19) rfl (fun K hK => ?_) ReadyU.nil
                      simp only [List.getElem_toArray, List.getElem_cons_succ, List.getElem_cons_zero]
                      refine ite_is (by rfl) ?_
                      simp [go_sem]
                      refine hK.out _ _ ⟨fun h => absurd h (by decide), ?_⟩
                      clear hK K
                      try simp only [List.getElem_toArray, List.getElem_cons_succ, List.getElem_cons_zero, Act.put, List.setIfInBounds_toArray, List.set_cons_zero, List.set_cons_succ]
                      refine anyU_ready (rs := [20]) (by kernel_rfl) (by simp) ?_
                      refine ReadyU.cons (i := 20) rfl (fun K hK => ?_) ReadyU.nil
                      simp only [List.getElem_toArray, List.getElem_cons_succ, List.getElem_cons_zero]
                      refine ite_is (by rfl) ?_
                      simp [go_sem]
                      refine hK.out _ _ ⟨fun h => absurd h (by decide), ?_⟩
                      clear hK K
                      try simp only [List.getElem_toArray, List.getElem_cons_succ, List.getElem_cons_zero, Act.put, List.setIfInBounds_toArray, List.set_cons_zero, List.set_cons_succ]
                      have z3 : CY.cell? ⟨V1.heap.size, 3, none⟩ = some vq := BTy.out.cell 3 (by simp)
                      have zf := BTy.out.frozen 3
                      refine anyU_ready (rs := [21]) (by kernel_rfl) (by simp) ?_
                      refine ReadyU.cons (i := 21) rfl (fun K hK => ?_) ReadyU.nil
                      simp only [List.getElem_toArray, List.getElem_cons_succ, List.getElem_cons_zero]
                      refine ite_is (by rfl) ?_
                      simp [go_sem, z3, zf]
                      refine hK.out _ _ ⟨fun h => absurd h (by decide), ?_⟩
                      clear hK K z3 zf
                      try simp only [List.getElem_toArray, List.getElem_cons_succ, List.getElem_cons_zero, Act.put, List.setIfInBounds_toArray, List.set_cons_zero, List.set_cons_succ]
                      refine nameU ?_
                      intro CZ HCZ
                      have hgz : CY.grownBy CZ (some V1.heap.size) := by rw [HCZ.out]; exact grown_set _ _ _
                      have hsz : CY.heap.size ≤ CZ.heap.size := hgz.size
                      have BTz := Lib.hid (show BoxN CZ V1.heap.size #[.int .i64 d, .int .i64 i, .slice (some ⟨gp, 0, none⟩) (ps.length + 1) cp, .slice (some ⟨gq, 0, none⟩) (bs.length + 1) cq, .int .i64 0] 63 by rw [HCZ.out]; exact BTy.out.set 3 _)
                      clear HCZ
                      refine anyU_done (by kernel_rfl) ?_ _
                      have hp8 := Lib.hid (hatp.imp (fun e => e) (fun e => by omega) : vp.ownBlock = some gp ∨ V8.heap.size ≤ gp)
                      have hq8 := Lib.hid (hatq.imp (fun e => e) (fun e => by omega) : vq.ownBlock = some gq ∨ V8.heap.size ≤ gq)
                      have hne := Lib.hid (apart_round HAP.out (fun x hx => (LP.out x hx).2) (fun x hx => (LQ.out x hx).2) hatp hatq (by clear hatp hatq; omega) (by clear hatp hatq; omega) (fun e1 e2 => by clear hatp hatq; omega) : gp ≠ gq)
                      clear hatp hatq
                      have hBG := BoxN.round BG8.out G24x.out hgy hgz (by omega) (fun x hx => by have := (LP.out x hx).1; omega) (fun x hx => by have := (LQ.out x hx).1; omega) (by omega)
                      have hGR := grown_round GR8.out G24x.out hgy hgz (fun x hx => by have := (LP.out x hx).1; omega) (fun x hx => by have := (LQ.out x hx).1; omega) (by omega)
                      have hTR := Trs.round (n := ps.length + 1) (m := bs.length + 1) (cp := cp) (cq := cq) HTR8.out HT8.out (by omega) (by omega) (fun x hx => by have := HLPQ.out.1 x hx; omega) (fun x hx => by have := HLPQ.out.2 x hx; omega) G24x.out hgy hgz (by omega) hp8.out hq8.out (by rw [HLEN.out.2.1, HLEN.out.2.2])
                      have hOP := (((OP4x.out.far hgy (fun x e => by cases e; omega)).far hgz (fun x e => by cases e; omega)))
                      have hOQ := (((OQ4x.out.kept hgy (own_far OQ4x.out (by omega))).kept hgz (own_far ((OQ4x.out.kept hgy (own_far OQ4x.out (by omega)))) (by omega))))
                      have hPL := HPL.out
                      rw [HC.out, ploop_step HSEP.out F1.out F2.out HY.out hjd HGO.out] at hPL
                      go_wp2_with fail
                      go_roundw
                      case rel => exact ⟨k + 1, ps ++ [(j : Int)], ts ++ [t], bs ++ [b], q', _, _, by omega, by go_num, by omega, by omega, Lib.hid (by simp only [List.length_append, List.length_cons, List.length_nil]; have := HLEN.out; omega), Lib.hid hPL, Lib.hid hBG, Lib.hid BTz.out, Lib.hid hOP, Lib.hid hOQ, Lib.hid (.inr (.inr (by simpa [Value.ownBlock] using hne.out))), Lib.hid hTR, Lib.hid hGR, by omega, Lib.hid (dep_snoc HDEP.out HY.out)⟩
                      case measure => simp [intOf]; omega
                    exact ReadyU.nil
                  exact ReadyU.nil
                refine ReadyU.cons (i := 14) rfl (fun K hK => ?_) ?_
                · simp only [List.getElem_toArray, List.getElem_cons_succ, List.getElem_cons_zero]
                  refine ite_is (by rfl) ?_
                  simp [go_sem]
                  refine hK.out _ _ ⟨fun _ => ⟨(BT1x.out.still (grown_alloc _ _)).cell 2 (by simp), (BT1x.out.still (grown_alloc _ _)).cell 3 (by simp)⟩, ?_⟩
                  clear hK K
                  try simp only [List.getElem_toArray, List.getElem_cons_succ, List.getElem_cons_zero, Act.put, List.setIfInBounds_toArray, List.set_cons_zero, List.set_cons_succ]
                  refine nameU ?_
                  intro C5 HC5
                  have hg5 : C1.grownBy C5 none := by rw [HC5.out]; exact grown_alloc _ _
                  have hs5x := hg5.size
                  have BX5 := Lib.hid (show BoxN C5 C1.heap.size #[.pointer (some ⟨b, 0, none⟩)] 59 by rw [HC5.out]; exact BoxN.new _ _ _)
                  have BT5x := Lib.hid (BT1x.out.still hg5)
                  have OP5x := Lib.hid (OwnI.still OP1x.out hg5)
                  have OQ5x := Lib.hid (Own.kept OQ1x.out hg5 (own_none _))
                  have G25x := Lib.hid (G21x.out.none hg5)
                  have B75x := Lib.hid (BX1.out.still hg5)
                  clear HC5 hg5
                  refine anyU_ready (rs := [8]) (by kernel_rfl) (by simp) ?_
                  refine ReadyU.cons (i := 8) rfl (fun K hK => ?_) ?_
                  · refine step_append_lies C5 (by rfl) _ _ _ (by rfl) V26.heap.size 3 i1 _ 1 8 Try.underlying52 HII.out HI1.out HI2.out HI3.out rfl (by omega) vp _ (ps.map (Value.int .i64)) (by rfl) OP5x.out ⟨C0.heap.size, 0, none⟩ 1 1 [.int .i64 j] (by rfl) (by rfl) (World.news_of_block B75x.out) (by simp [Value.oneCell']) (by omega) (by unfold maxLen; omega) (by omega) (by omega) _ rfl ?_
                    intro gp cp C6 hown hgrow hatp hltp
                    simp only [List.length_map] at hown
                    have hs6x := hgrow.size
                    have BT6x := Lib.hid (BT5x.out.far hgrow (fun x e => by have := LP.out x e; omega))
                    have G26x := Lib.hid (G25x.out.fst hgrow)
                    have OP6x := Lib.hid (ownI_new hown)
                    have OQ6x := Lib.hid (Own.kept OQ5x.out hgrow HAP.out.symm.keeps)
                    have B146x := Lib.hid (BX5.out.far hgrow (fun x e => by have := LP.out x e; omega))
                    refine hK.out _ _ ⟨fun _ => ⟨(BT6x.out).cell 2 (by simp), (BT6x.out).cell 3 (by simp)⟩, ?_⟩
                    clear hK K hown hgrow
                    try simp only [List.getElem_toArray, List.getElem_cons_succ, List.getElem_cons_zero, Act.put, List.setIfInBounds_toArray, List.set_cons_zero, List.set_cons_succ]
                    refine anyU_ready (rs := [15]) (by kernel_rfl) (by simp) ?_
                    refine ReadyU.cons (i := 15) rfl (fun K hK => ?_) ?_
                    · refine step_append_lies C6 (by rfl) _ _ _ (by rfl) V26.heap.size 59 i2 _ 1 8 Try.underlying61 HJJ.out HJ1.out HJ2.out HJ3.out rfl (by omega) vq _ (bs.map ptrV) (by rfl) OQ6x.out ⟨C1.heap.size, 0, none⟩ 1 1 [.pointer (some ⟨b, 0, none⟩)] (by rfl) (by rfl) (World.news_of_block B146x.out) (by simp [Value.oneCell']) (by omega) (by unfold maxLen; omega) (by omega) (by omega) _ rfl ?_
                      intro gq cq C7 hown hgrow hatq hltq
                      simp only [List.length_map] at hown
                      have hs7x := hgrow.size
                      have BT7x := Lib.hid (BT6x.out.far hgrow (fun x e => by have := LQ.out x e; omega))
                      have G27x := Lib.hid (G26x.out.snd hgrow)
                      have OQ7x := Lib.hid (ownP_new hown)
                      have OP7x := Lib.hid (OwnI.kept OP6x.out hgrow (ap_new HAP.out hatp (fun x e => by have := LQ.out x e; omega)))
                      refine hK.out _ _ ⟨fun _ => ⟨(BT7x.out).cell 2 (by simp), (BT7x.out).cell 3 (by simp)⟩, ?_⟩
                      clear hK K hown hgrow
                      try simp only [List.getElem_toArray, List.getElem_cons_succ, List.getElem_cons_zero, Act.put, List.setIfInBounds_toArray, List.set_cons_zero, List.set_cons_succ]
                      have hSz : C7.cell? ⟨V1.heap.size, 2, none⟩ = some vp ∧ C7.cell? ⟨V1.heap.size, 3, none⟩ = some vq := ⟨(BT7x.out).cell 2 (by simp), (BT7x.out).cell 3 (by simp)⟩
                      refine anyU_ready (rs := [16]) (by kernel_rfl) (by simp) ?_
                      refine ReadyU.cons (i := 16) rfl (fun K hK => ?_) ReadyU.nil
                      simp only [List.getElem_toArray, List.getElem_cons_succ, List.getElem_cons_zero]
                      refine ite_is (by rfl) ?_
                      simp [go_sem]
                      refine hK.out _ _ ⟨fun _ => hSz, ?_⟩
                      clear hK K
                      try simp only [List.getElem_toArray, List.getElem_cons_succ, List.getElem_cons_zero, Act.put, List.setIfInBounds_toArray, List.set_cons_zero, List.set_cons_succ]
                      refine anyU_ready (rs := [17]) (by kernel_rfl) (by simp) ?_
                      refine ReadyU.cons (i := 17) rfl (fun K hK => ?_) ReadyU.nil
                      simp only [List.getElem_toArray, List.getElem_cons_succ, List.getElem_cons_zero]
                      refine ite_is (by rfl) ?_
                      simp [go_sem]
                      refine hK.out _ _ ⟨fun _ => hSz, ?_⟩
                      clear hK K
                      try simp only [List.getElem_toArray, List.getElem_cons_succ, List.getElem_cons_zero, Act.put, List.setIfInBounds_toArray, List.set_cons_zero, List.set_cons_succ]
                      have z2 := hSz.1
                      have zf := BT7x.out.frozen 2
                      refine anyU_ready (rs := [18]) (by kernel_rfl) (by simp) ?_
                      refine ReadyU.cons (i := 18) rfl (fun K hK => ?_) ReadyU.nil
                      simp only [List.getElem_toArray, List.getElem_cons_succ, List.getElem_cons_zero]
                      refine ite_is (by rfl) ?_
                      simp [go_sem, z2, zf]
                      refine hK.out _ _ ⟨fun h => absurd h (by decide), ?_⟩
                      clear hK K z2 zf hSz
                      try simp only [List.getElem_toArray, List.getElem_cons_succ, List.getElem_cons_zero, Act.put, List.setIfInBounds_toArray, List.set_cons_zero, List.set_cons_succ]
                      refine nameU ?_
                      intro CY HCY
                      have hgy : C7.grownBy CY (some V1.heap.size) := by rw [HCY.out]; exact grown_set _ _ _
                      have hsy : C7.heap.size ≤ CY.heap.size := hgy.size
                      have BTy := Lib.hid (show BoxN CY V1.heap.size #[.int .i64 d, .int .i64 i, .slice (some ⟨gp, 0, none⟩) (ps.length + 1) cp, vq, .int .i64 0] 63 by rw [HCY.out]; exact BT7x.out.set 2 _)
                      clear HCY
                      refine anyU_ready (rs := [19]) (by kernel_rfl) (by simp) ?_
                      refine ReadyU.cons (i := 19) rfl (fun K hK => ?_) ReadyU.nil
                      simp only [List.getElem_toArray, List.getElem_cons_succ, List.getElem_cons_zero]
                      refine ite_is (by rfl) ?_
                      simp [go_sem]
                      refine hK.out _ _ ⟨fun h => absurd h (by decide), ?_⟩
                      clear hK K
                      try simp only [List.getElem_toArray, List.getElem_cons_succ, List.getElem_cons_zero, Act.put, List.setIfInBounds_toArray, List.set_cons_zero, List.set_cons_succ]
                      refine anyU_ready (rs := [20]) (by kernel_rfl) (by simp) ?_
                      refine ReadyU.cons (i := 20) rfl (fun K hK => ?_) ReadyU.nil
                      simp only [List.getElem_toArray, List.getElem_cons_succ, List.getElem_cons_zero]
                      refine ite_is (by rfl) ?_
                      simp [go_sem]
                      refine hK.out _ _ ⟨fun h => absurd h (by decide), ?_⟩
                      clear hK K
                      try simp only [List.getElem_toArray, List.getElem_cons_succ, List.getElem_cons_zero, Act.put, List.setIfInBounds_toArray, List.set_cons_zero, List.set_cons_succ]
                      have z3 : CY.cell? ⟨V1.heap.size, 3, none⟩ = some vq := BTy.out.cell 3 (by simp)
                      have zf := BTy.out.frozen 3
                      refine anyU_ready (rs := [21]) (by kernel_rfl) (by simp) ?_
                      refine ReadyU.cons (i := 21) rfl (fun K hK => ?_) ReadyU.nil
                      simp only [List.getElem_toArray, List.getElem_cons_succ, List.getElem_cons_zero]
                      refine ite_is (by rfl) ?_
                      simp [go_sem, z3, zf]
                      refine hK.out _ _ ⟨fun h => absurd h (by decide), ?_⟩
                      clear hK K z3 zf
                      try simp only [List.getElem_toArray, List.getElem_cons_succ, List.getElem_cons_zero, Act.put, List.setIfInBounds_toArray, List.set_cons_zero, List.set_cons_succ]
                      refine nameU ?_
                      intro CZ HCZ
                      have hgz : CY.grownBy CZ (some V1.heap.size) := by rw [HCZ.out]; exact grown_set _ _ _
                      have hsz : CY.heap.size ≤ CZ.heap.size := hgz.size
                      have BTz := Lib.hid (show BoxN CZ V1.heap.size #[.int .i64 d, .int .i64 i, .slice (some ⟨gp, 0, none⟩) (ps.length + 1) cp, .slice (some ⟨gq, 0, none⟩) (bs.length + 1) cq, .int .i64 0] 63 by rw [HCZ.out]; exact BTy.out.set 3 _)
                      clear HCZ
                      refine anyU_done (by kernel_rfl) ?_ _
                      have hp8 := Lib.hid (hatp.imp (fun e => e) (fun e => by omega) : vp.ownBlock = some gp ∨ V8.heap.size ≤ gp)
                      have hq8 := Lib.hid (hatq.imp (fun e => e) (fun e => by omega) : vq.ownBlock = some gq ∨ V8.heap.size ≤ gq)
                      have hne := Lib.hid (apart_round HAP.out (fun x hx => (LP.out x hx).2) (fun x hx => (LQ.out x hx).2) hatp hatq (by clear hatp hatq; omega) (by clear hatp hatq; omega) (fun e1 e2 => by clear hatp hatq; omega) : gp ≠ gq)
                      clear hatp hatq
                      have hBG := BoxN.round BG8.out G27x.out hgy hgz (by omega) (fun x hx => by have := (LP.out x hx).1; omega) (fun x hx => by have := (LQ.out x hx).1; omega) (by omega)
                      have hGR := grown_round GR8.out G27x.out hgy hgz (fun x hx => by have := (LP.out x hx).1; omega) (fun x hx => by have := (LQ.out x hx).1; omega) (by omega)
                      have hTR := Trs.round (n := ps.length + 1) (m := bs.length + 1) (cp := cp) (cq := cq) HTR8.out HT8.out (by omega) (by omega) (fun x hx => by have := HLPQ.out.1 x hx; omega) (fun x hx => by have := HLPQ.out.2 x hx; omega) G27x.out hgy hgz (by omega) hp8.out hq8.out (by rw [HLEN.out.2.1, HLEN.out.2.2])
                      have hOP := (((OP7x.out.far hgy (fun x e => by cases e; omega)).far hgz (fun x e => by cases e; omega)))
                      have hOQ := (((OQ7x.out.kept hgy (own_far OQ7x.out (by omega))).kept hgz (own_far ((OQ7x.out.kept hgy (own_far OQ7x.out (by omega)))) (by omega))))
                      have hPL := HPL.out
                      rw [HC.out, ploop_step HSEP.out F1.out F2.out HY.out hjd HGO.out] at hPL
                      go_wp2_with fail
                      go_roundw
                      case rel => exact ⟨k + 1, ps ++ [(j : Int)], ts ++ [t], bs ++ [b], q', _, _, by omega, by go_num, by omega, by omega, Lib.hid (by simp only [List.length_append, List.length_cons, List.length_nil]; have := HLEN.out; omega), Lib.hid hPL, Lib.hid hBG, Lib.hid BTz.out, Lib.hid hOP, Lib.hid hOQ, Lib.hid (.inr (.inr (by simpa [Value.ownBlock] using hne.out))), Lib.hid hTR, Lib.hid hGR, by omega, Lib.hid (dep_snoc HDEP.out HY.out)⟩
                      case measure => simp [intOf]; omega
                    exact ReadyU.nil
                  exact ReadyU.nil
                exact ReadyU.nil
              refine ReadyU.cons (i := 14) rfl (fun K hK => ?_) ?_
              · simp only [List.getElem_toArray, List.getElem_cons_succ, List.getElem_cons_zero]
                refine ite_is (by rfl) ?_
                simp [go_sem]
                refine hK.out _ _ ⟨fun _ => ⟨(BT9.out.still (grown_alloc _ _)).cell 2 (by simp), (BT9.out.still (grown_alloc _ _)).cell 3 (by simp)⟩, ?_⟩
                clear hK K
                try simp only [List.getElem_toArray, List.getElem_cons_succ, List.getElem_cons_zero, Act.put, List.setIfInBounds_toArray, List.set_cons_zero, List.set_cons_succ]
                refine nameU ?_
                intro C8 HC8
                have hg8 : C0.grownBy C8 none := by rw [HC8.out]; exact grown_alloc _ _
                have hs8x := hg8.size
                have BX8 := Lib.hid (show BoxN C8 C0.heap.size #[.pointer (some ⟨b, 0, none⟩)] 59 by rw [HC8.out]; exact BoxN.new _ _ _)
                have BT8x := Lib.hid (BT9.out.still hg8)
                have OP8x := Lib.hid (OwnI.still OP9.out hg8)
                have OQ8x := Lib.hid (Own.kept OQ9.out hg8 (own_none _))
                have G28x := Lib.hid (G29.out.none hg8)
                clear HC8 hg8
                refine anyU_ready (rs := [7]) (by kernel_rfl) (by simp) ?_
                refine ReadyU.cons (i := 7) rfl (fun K hK => ?_) ?_
                · simp only [List.getElem_toArray, List.getElem_cons_succ, List.getElem_cons_zero]
                  refine ite_is (by rfl) ?_
                  simp [go_sem]
                  refine hK.out _ _ ⟨fun _ => ⟨(BT8x.out.still (grown_alloc _ _)).cell 2 (by simp), (BT8x.out.still (grown_alloc _ _)).cell 3 (by simp)⟩, ?_⟩
                  clear hK K
                  try simp only [List.getElem_toArray, List.getElem_cons_succ, List.getElem_cons_zero, Act.put, List.setIfInBounds_toArray, List.set_cons_zero, List.set_cons_succ]
                  refine nameU ?_
                  intro C9 HC9
                  have hg9 : C8.grownBy C9 none := by rw [HC9.out]; exact grown_alloc _ _
                  have hs9x := hg9.size
                  have BX9 := Lib.hid (show BoxN C9 C8.heap.size #[.int .i64 j] 3 by rw [HC9.out]; exact BoxN.new _ _ _)
                  have BT9x := Lib.hid (BT8x.out.still hg9)
                  have OP9x := Lib.hid (OwnI.still OP8x.out hg9)
                  have OQ9x := Lib.hid (Own.kept OQ8x.out hg9 (own_none _))
                  have G29x := Lib.hid (G28x.out.none hg9)
                  have B149x := Lib.hid (BX8.out.still hg9)
                  clear HC9 hg9
                  refine anyU_ready (rs := [8]) (by kernel_rfl) (by simp) ?_
                  refine ReadyU.cons (i := 8) rfl (fun K hK => ?_) ?_
                  · refine step_append_lies C9 (by rfl) _ _ _ (by rfl) V26.heap.size 3 i1 _ 1 8 Try.underlying52 HII.out HI1.out HI2.out HI3.out rfl (by omega) vp _ (ps.map (Value.int .i64)) (by rfl) OP9x.out ⟨C8.heap.size, 0, none⟩ 1 1 [.int .i64 j] (by rfl) (by rfl) (World.news_of_block BX9.out) (by simp [Value.oneCell']) (by omega) (by unfold maxLen; omega) (by omega) (by omega) _ rfl ?_
                    intro gp cp C10 hown hgrow hatp hltp
                    simp only [List.length_map] at hown
                    have hs10x := hgrow.size
                    have BT10x := Lib.hid (BT9x.out.far hgrow (fun x e => by have := LP.out x e; omega))
                    have G210x := Lib.hid (G29x.out.fst hgrow)
                    have OP10x := Lib.hid (ownI_new hown)
                    have OQ10x := Lib.hid (Own.kept OQ9x.out hgrow HAP.out.symm.keeps)
                    have B1410x := Lib.hid (B149x.out.far hgrow (fun x e => by have := LP.out x e; omega))
                    refine hK.out _ _ ⟨fun _ => ⟨(BT10x.out).cell 2 (by simp), (BT10x.out).cell 3 (by simp)⟩, ?_⟩
                    clear hK K hown hgrow
                    try simp only [List.getElem_toArray, List.getElem_cons_succ, List.getElem_cons_zero, Act.put, List.setIfInBounds_toArray, List.set_cons_zero, List.set_cons_succ]
                    refine anyU_ready (rs := [15]) (by kernel_rfl) (by simp) ?_
                    refine ReadyU.cons (i := 15) rfl (fun K hK => ?_) ?_
                    · refine step_append_lies C10 (by rfl) _ _ _ (by rfl) V26.heap.size 59 i2 _ 1 8 Try.underlying61 HJJ.out HJ1.out HJ2.out HJ3.out rfl (by omega) vq _ (bs.map ptrV) (by rfl) OQ10x.out ⟨C0.heap.size, 0, none⟩ 1 1 [.pointer (some ⟨b, 0, none⟩)] (by rfl) (by rfl) (World.news_of_block B1410x.out) (by simp [Value.oneCell']) (by omega) (by unfold maxLen; omega) (by omega) (by omega) _ rfl ?_
                      intro gq cq C11 hown hgrow hatq hltq
                      simp only [List.length_map] at hown
                      have hs11x := hgrow.size
                      have BT11x := Lib.hid (BT10x.out.far hgrow (fun x e => by have := LQ.out x e; omega))
                      have G211x := Lib.hid (G210x.out.snd hgrow)
                      have OQ11x := Lib.hid (ownP_new hown)
                      have OP11x := Lib.hid (OwnI.kept OP10x.out hgrow (ap_new HAP.out hatp (fun x e => by have := LQ.out x e; omega)))
                      refine hK.out _ _ ⟨fun _ => ⟨(BT11x.out).cell 2 (by simp), (BT11x.out).cell 3 (by simp)⟩, ?_⟩
                      clear hK K hown hgrow
                      try simp only [List.getElem_toArray, List.getElem_cons_succ, List.getElem_cons_zero, Act.put, List.setIfInBounds_toArray, List.set_cons_zero, List.set_cons_succ]
                      have hSz : C11.cell? ⟨V1.heap.size, 2, none⟩ = some vp ∧ C11.cell? ⟨V1.heap.size, 3, none⟩ = some vq := ⟨(BT11x.out).cell 2 (by simp), (BT11x.out).cell 3 (by simp)⟩
                      refine anyU_ready (rs := [16]) (by kernel_rfl) (by simp) ?_
                      refine ReadyU.cons (i := 16) rfl (fun K hK => ?_) ReadyU.nil
                      simp only [List.getElem_toArray, List.getElem_cons_succ, List.getElem_cons_zero]
                      refine ite_is (by rfl) ?_
                      simp [go_sem]
                      refine hK.out _ _ ⟨fun _ => hSz, ?_⟩
                      clear hK K
                      try simp only [List.getElem_toArray, List.getElem_cons_succ, List.getElem_cons_zero, Act.put, List.setIfInBounds_toArray, List.set_cons_zero, List.set_cons_succ]
                      refine anyU_ready (rs := [17]) (by kernel_rfl) (by simp) ?_
                      refine ReadyU.cons (i := 17) rfl (fun K hK => ?_) ReadyU.nil
                      simp only [List.getElem_toArray, List.getElem_cons_succ, List.getElem_cons_zero]
                      refine ite_is (by rfl) ?_
                      simp [go_sem]
                      refine hK.out _ _ ⟨fun _ => hSz, ?_⟩
                      clear hK K
                      try simp only [List.getElem_toArray, List.getElem_cons_succ, List.getElem_cons_zero, Act.put, List.setIfInBounds_toArray, List.set_cons_zero, List.set_cons_succ]
                      have z2 := hSz.1
                      have zf := BT11x.out.frozen 2
                      refine anyU_ready (rs := [18]) (by kernel_rfl) (by simp) ?_
                      refine ReadyU.cons (i := 18) rfl (fun K hK => ?_) ReadyU.nil
                      simp only [List.getElem_toArray, List.getElem_cons_succ, List.getElem_cons_zero]
                      refine ite_is (by rfl) ?_
                      simp [go_sem, z2, zf]
                      refine hK.out _ _ ⟨fun h => absurd h (by decide), ?_⟩
                      clear hK K z2 zf hSz
                      try simp only [List.getElem_toArray, List.getElem_cons_succ, List.getElem_cons_zero, Act.put, List.setIfInBounds_toArray, List.set_cons_zero, List.set_cons_succ]
                      refine nameU ?_
                      intro CY HCY
                      have hgy : C11.grownBy CY (some V1.heap.size) := by rw [HCY.out]; exact grown_set _ _ _
                      have hsy : C11.heap.size ≤ CY.heap.size := hgy.size
                      have BTy := Lib.hid (show BoxN CY V1.heap.size #[.int .i64 d, .int .i64 i, .slice (some ⟨gp, 0, none⟩) (ps.length + 1) cp, vq, .int .i64 0] 63 by rw [HCY.out]; exact BT11x.out.set 2 _)
                      clear HCY
                      refine anyU_ready (rs := [19]) (by kernel_rfl) (by simp) ?_
                      refine ReadyU.cons (i := 19) rfl (fun K hK => ?_) ReadyU.nil
                      simp only [List.getElem_toArray, List.getElem_cons_succ, List.getElem_cons_zero]
                      refine ite_is (by rfl) ?_
                      simp [go_sem]
                      refine hK.out _ _ ⟨fun h => absurd h (by decide), ?_⟩
                      clear hK K
                      try simp only [List.getElem_toArray, List.getElem_cons_succ, List.getElem_cons_zero, Act.put, List.setIfInBounds_toArray, List.set_cons_zero, List.set_cons_succ]
                      refine anyU_ready (rs := [20]) (by kernel_rfl) (by simp) ?_
                      refine ReadyU.cons (i := 20) rfl (fun K hK => ?_) ReadyU.nil
                      simp only [List.getElem_toArray, List.getElem_cons_succ, List.getElem_cons_zero]
                      refine ite_is (by rfl) ?_
                      simp [go_sem]
                      refine hK.out _ _ ⟨fun h => absurd h (by decide), ?_⟩
                      clear hK K
                      try simp only [List.getElem_toArray, List.getElem_cons_succ, List.getElem_cons_zero, Act.put, List.setIfInBounds_toArray, List.set_cons_zero, List.set_cons_succ]
                      have z3 : CY.cell? ⟨V1.heap.size, 3, none⟩ = some vq := BTy.out.cell 3 (by simp)
                      have zf := BTy.out.frozen 3
                      refine anyU_ready (rs := [21]) (by kernel_rfl) (by simp) ?_
                      refine ReadyU.cons (i := 21) rfl (fun K hK => ?_) ReadyU.nil
                      simp only [List.getElem_toArray, List.getElem_cons_succ, List.getElem_cons_zero]
                      refine ite_is (by rfl) ?_
                      simp [go_sem, z3, zf]
                      refine hK.out _ _ ⟨fun h => absurd h (by decide), ?_⟩
                      clear hK K z3 zf
                      try simp only [List.getElem_toArray, List.getElem_cons_succ, List.getElem_cons_zero, Act.put, List.setIfInBounds_toArray, List.set_cons_zero, List.set_cons_succ]
                      refine nameU ?_
                      intro CZ HCZ
                      have hgz : CY.grownBy CZ (some V1.heap.size) := by rw [HCZ.out]; exact grown_set _ _ _
                      have hsz : CY.heap.size ≤ CZ.heap.size := hgz.size
                      have BTz := Lib.hid (show BoxN CZ V1.heap.size #[.int .i64 d, .int .i64 i, .slice (some ⟨gp, 0, none⟩) (ps.length + 1) cp, .slice (some ⟨gq, 0, none⟩) (bs.length + 1) cq, .int .i64 0] 63 by rw [HCZ.out]; exact BTy.out.set 3 _)
                      clear HCZ
                      refine anyU_done (by kernel_rfl) ?_ _
                      have hp8 := Lib.hid (hatp.imp (fun e => e) (fun e => by omega) : vp.ownBlock = some gp ∨ V8.heap.size ≤ gp)
                      have hq8 := Lib.hid (hatq.imp (fun e => e) (fun e => by omega) : vq.ownBlock = some gq ∨ V8.heap.size ≤ gq)
                      have hne := Lib.hid (apart_round HAP.out (fun x hx => (LP.out x hx).2) (fun x hx => (LQ.out x hx).2) hatp hatq (by clear hatp hatq; omega) (by clear hatp hatq; omega) (fun e1 e2 => by clear hatp hatq; omega) : gp ≠ gq)
                      clear hatp hatq
                      have hBG := BoxN.round BG8.out G211x.out hgy hgz (by omega) (fun x hx => by have := (LP.out x hx).1; omega) (fun x hx => by have := (LQ.out x hx).1; omega) (by omega)
                      have hGR := grown_round GR8.out G211x.out hgy hgz (fun x hx => by have := (LP.out x hx).1; omega) (fun x hx => by have := (LQ.out x hx).1; omega) (by omega)
                      have hTR := Trs.round (n := ps.length + 1) (m := bs.length + 1) (cp := cp) (cq := cq) HTR8.out HT8.out (by omega) (by omega) (fun x hx => by have := HLPQ.out.1 x hx; omega) (fun x hx => by have := HLPQ.out.2 x hx; omega) G211x.out hgy hgz (by omega) hp8.out hq8.out (by rw [HLEN.out.2.1, HLEN.out.2.2])
                      have hOP := (((OP11x.out.far hgy (fun x e => by cases e; omega)).far hgz (fun x e => by cases e; omega)))
                      have hOQ := (((OQ11x.out.kept hgy (own_far OQ11x.out (by omega))).kept hgz (own_far ((OQ11x.out.kept hgy (own_far OQ11x.out (by omega)))) (by omega))))
                      have hPL := HPL.out
                      rw [HC.out, ploop_step HSEP.out F1.out F2.out HY.out hjd HGO.out] at hPL
                      go_wp2_with fail
                      go_roundw
                      case rel => exact ⟨k + 1, ps ++ [(j : Int)], ts ++ [t], bs ++ [b], q', _, _, by omega, by go_num, by omega, by omega, Lib.hid (by simp only [List.length_append, List.length_cons, List.length_nil]; have := HLEN.out; omega), Lib.hid hPL, Lib.hid hBG, Lib.hid BTz.out, Lib.hid hOP, Lib.hid hOQ, Lib.hid (.inr (.inr (by simpa [Value.ownBlock] using hne.out))), Lib.hid hTR, Lib.hid hGR, by omega, Lib.hid (dep_snoc HDEP.out HY.out)⟩
                      case measure => simp [intOf]; omega
                    exact ReadyU.nil
                  exact ReadyU.nil
                exact ReadyU.nil
              exact ReadyU.nil
          subst hk0
          have HC := Lib.hid (show d - 0 = (d - (0 + 1)) + 1 by omega)
          have HNIL := Lib.hid (show ts = [] from List.eq_nil_of_length_eq_zero HLEN.out.2.1)
          have HSEP := Lib.hid (show sepAt s ts.isEmpty q = some q by rw [HNIL.out]; rfl)
          cases f1 : dg s 5 (q) with
          | none =>
            have F1 := Lib.hid f1; clear f1
            go_wp2_with (go_at_call 49; refine (digit_any g (q) 5 s _ BGr.out (by omega) hs (by omega)).mono ?_; rintro e V36 ⟨rfl, hb, hg, hz⟩; rw [(dgI_no F1.out).2] at hb; rw [(dgI_no F1.out).1]; have BG36 := Lib.hid hb; clear hb; have GR36 := Lib.hid (grownBy_trans GRr.out hg); have hw36 : V36.heap.size = wr.heap.size := hz; have hv36 : wr.heap.size ≤ V36.heap.size := Nat.le_of_eq hw36.symm; have hu36 : V36.heap.size ≤ wr.heap.size := Nat.le_of_eq hw36; clear hw36 hz; have BT36 := Lib.hid (BTr.out.far hg (fun k e => by cases e; omega)); have HOP36 := Lib.hid (OwnI.far HOP.out hg (fun k e => by cases e; omega)); have HOQ36 := Lib.hid (Own.kept HOQ.out hg (own_far HOQ.out (by omega))); have HTR36 := Lib.hid (Trs.far HTR.out hg (by omega)); clear hg BGr GRr BTr HOP HOQ HTR)
            go_ret
            exact VPost.no (by omega) (by omega) BG36.out GR36.out (pv_deep_no E1.out E2.out E3.out HD0.out E4.out (by rw [HPL.out, HC.out]; exact ploop_n2 HSEP.out F1.out))
          | some j =>
            have F1 := Lib.hid f1
            obtain ⟨r1, r2, r3⟩ := dg_some f1 (by omega)
            clear f1 r3
            by_cases f2 : bt s (q + 1) = 58
            case neg =>
              have F2 := Lib.hid f2; clear f2
              go_wp2_with (first | (go_at_call 49; refine (digit_any g (q) 5 s _ BGr.out (by omega) hs (by omega)).mono ?_; rintro e V37 ⟨rfl, hb, hg, hz⟩; rw [(dgI_yes F1.out).2] at hb; rw [(dgI_yes F1.out).1]; have BG37 := Lib.hid hb; clear hb; have GR37 := Lib.hid (grownBy_trans GRr.out hg); have hw37 : V37.heap.size = wr.heap.size := hz; have hv37 : wr.heap.size ≤ V37.heap.size := Nat.le_of_eq hw37.symm; have hu37 : V37.heap.size ≤ wr.heap.size := Nat.le_of_eq hw37; clear hw37 hz; have BT37 := Lib.hid (BTr.out.far hg (fun k e => by cases e; omega)); have HOP37 := Lib.hid (OwnI.far HOP.out hg (fun k e => by cases e; omega)); have HOQ37 := Lib.hid (Own.kept HOQ.out hg (own_far HOQ.out (by omega))); have HTR37 := Lib.hid (Trs.far HTR.out hg (by omega)); clear hg BGr GRr BTr HOP HOQ HTR) | (go_at_call 50; refine (next_any g (q + 1) 58 s _ BG37.out (by omega) hs (by omega)).mono ?_; rintro e V38 ⟨rfl, hb, hg, hz⟩; rw [(nx_no F2.out).2] at hb; rw [(nx_no F2.out).1]; have BG38 := Lib.hid hb; clear hb; have GR38 := Lib.hid (grownBy_trans GR37.out hg); have hw38 : V38.heap.size = V37.heap.size := hz; have hv38 : V37.heap.size ≤ V38.heap.size := Nat.le_of_eq hw38.symm; have hu38 : V38.heap.size ≤ V37.heap.size := Nat.le_of_eq hw38; clear hw38 hz; have BT38 := Lib.hid (BT37.out.far hg (fun k e => by cases e; omega)); have HOP38 := Lib.hid (OwnI.far HOP37.out hg (fun k e => by cases e; omega)); have HOQ38 := Lib.hid (Own.kept HOQ37.out hg (own_far HOQ37.out (by omega))); have HTR38 := Lib.hid (Trs.far HTR37.out hg (by omega)); clear hg BG37 GR37 BT37 HOP37 HOQ37 HTR37))
              go_ret
              exact VPost.no (by omega) (by omega) BG38.out GR38.out (pv_deep_no E1.out E2.out E3.out HD0.out E4.out (by rw [HPL.out, HC.out]; exact ploop_n3 HSEP.out F1.out F2.out))
            have F2 := Lib.hid f2
            have r4 := bt_lt f2 (by omega)
            clear f2
            go_upto_region 17 with (first | (go_at_call 49; refine (digit_any g (q) 5 s _ BGr.out (by omega) hs (by omega)).mono ?_; rintro e V37 ⟨rfl, hb, hg, hz⟩; rw [(dgI_yes F1.out).2] at hb; rw [(dgI_yes F1.out).1]; have BG37 := Lib.hid hb; clear hb; have GR37 := Lib.hid (grownBy_trans GRr.out hg); have hw37 : V37.heap.size = wr.heap.size := hz; have hv37 : wr.heap.size ≤ V37.heap.size := Nat.le_of_eq hw37.symm; have hu37 : V37.heap.size ≤ wr.heap.size := Nat.le_of_eq hw37; clear hw37 hz; have BT37 := Lib.hid (BTr.out.far hg (fun k e => by cases e; omega)); have HOP37 := Lib.hid (OwnI.far HOP.out hg (fun k e => by cases e; omega)); have HOQ37 := Lib.hid (Own.kept HOQ.out hg (own_far HOQ.out (by omega))); have HTR37 := Lib.hid (Trs.far HTR.out hg (by omega)); clear hg BGr GRr BTr HOP HOQ HTR) | (go_at_call 50; refine (next_any g (q + 1) 58 s _ BG37.out (by omega) hs (by omega)).mono ?_; rintro e V39 ⟨rfl, hb, hg, hz⟩; rw [(nx_yes F2.out).2] at hb; rw [(nx_yes F2.out).1]; have BG39 := Lib.hid hb; clear hb; have GR39 := Lib.hid (grownBy_trans GR37.out hg); have hw39 : V39.heap.size = V37.heap.size := hz; have hv39 : V37.heap.size ≤ V39.heap.size := Nat.le_of_eq hw39.symm; have hu39 : V39.heap.size ≤ V37.heap.size := Nat.le_of_eq hw39; clear hw39 hz; have BT39 := Lib.hid (BT37.out.far hg (fun k e => by cases e; omega)); have HOP39 := Lib.hid (OwnI.far HOP37.out hg (fun k e => by cases e; omega)); have HOQ39 := Lib.hid (Own.kept HOQ37.out hg (own_far HOQ37.out (by omega))); have HTR39 := Lib.hid (Trs.far HTR37.out hg (by omega)); clear hg BG37 GR37 BT37 HOP37 HOQ37 HTR37))
            go_wp2_with fail
            have HLPQ := Lib.hid (And.intro (fun x hx => (HOP39.out.lt x hx).2) (fun x hx => (HOQ39.out.lt x hx).2) : (∀ x, vp.ownBlock = some x → x < V39.heap.size) ∧ (∀ x, vq.ownBlock = some x → x < V39.heap.size))
            refine (HIH.out g (q + 2) _ (by omega) (by omega) BG39.out).mono ?_
            rintro e V40 ⟨q', hp1, hp2, hb, hg, hm⟩
            have BG40 := Lib.hid hb; clear hb
            have GR40 := Lib.hid (grownBy_trans GR39.out hg)
            have hv40 := hg.size
            have BT40 := Lib.hid (BT39.out.far hg (fun k e => by cases e; omega))
            have HOP40 := Lib.hid (OwnI.far HOP39.out hg (fun k e => by cases e; omega))
            have HOQ40 := Lib.hid (Own.kept HOQ39.out hg (own_far HOQ39.out (by omega)))
            have HTR40 := Lib.hid (Trs.far HTR39.out hg (by omega))
            clear hg BG39 GR39 BT39 HOP39 HOQ39 HTR39
            rcases hm with ⟨hn, rfl⟩ | ⟨t, b, hy, rfl, ht⟩
            case inl =>
              have HN := Lib.hid hn; clear hn
              go_wp2_with fail
              go_quiet (fail)
              go_wp2_with fail
              go_ret
              exact VPost.no (by omega) (by omega) (BG40.out.still (grown_drewN _ nq)) (grownBy_trans GR40.out (grown_any (grown_drewN _ nq))) (pv_deep_no E1.out E2.out E3.out HD0.out E4.out (by rw [HPL.out, HC.out]; exact ploop_n4 HSEP.out F1.out F2.out HN.out))
            have HY := Lib.hid hy; clear hy
            have HT := Lib.hid ht
            obtain ⟨vp9, vq9, bs9, u1, u2, u3, u4, u5, u6⟩ := ht.opened
            clear u4 u5 u6 ht
            have z0 : V40.cell? ⟨b, 0, none⟩ = some (.int .i64 t.degree) := u3.cell 0 (by simp)
            have z1 : V40.cell? ⟨b, 4, none⟩ = some (.int .i64 t.depth) := u3.cell 4 (by simp)
            by_cases hjd : j < t.degree
            case neg =>
              have hjd' : decide ((t.degree : Int) ≤ j) = true := decide_eq_true (by omega)
              have hjd3 : decide (t.degree ≤ j) = true := decide_eq_true (by omega)
              have HJD := Lib.hid hjd; clear hjd
              go_wp2_with fail
              go_quiet (fail)
              go_wp2_with fail
              go_ret
              exact VPost.no (by omega) (by omega) (BG40.out.still (grown_drewN _ nq)) (grownBy_trans GR40.out (grown_any (grown_drewN _ nq))) (pv_deep_no E1.out E2.out E3.out HD0.out E4.out (by rw [HPL.out, HC.out]; exact ploop_n5 HSEP.out F1.out F2.out HY.out (fun e => HJD.out e.1)))
            have hjd' : decide ((t.degree : Int) ≤ j) = false := decide_eq_false (by omega)
            have hjd3 : decide (t.degree ≤ j) = false := decide_eq_false (by omega)
            have hjd2 : (j : Int) < t.degree := by omega
            have HGO := Lib.hid (show goes true ts t = true by rw [HNIL.out]; rfl)
            go_wp2_with fail
            go_quiet (fail)
            go_upto_region 20 with (fail)
            clear z0 z1 hjd' hjd3 u3
            refine nameC ?_
            intro V8 HW8
            have hg8 : V40.grownBy V8 none := by rw [HW8.out]; exact grown_drewN _ _
            have hs8 := hg8.size
            have BG8 := Lib.hid (BG40.out.still hg8)
            have BT8 := Lib.hid (BT40.out.still hg8)
            have HOP8 := Lib.hid (OwnI.still HOP40.out hg8)
            have HOQ8 := Lib.hid (Own.kept HOQ40.out hg8 (own_none _))
            have HTR8 := Lib.hid (Trs.still HTR40.out hg8)
            have HT8 := Lib.hid (HT.out.kept hg8 (Nat.le_refl _) (no_row _ _))
            have GR8 := Lib.hid (grownBy_trans GR40.out (grown_any hg8))
            clear HW8 hg8 BG40 BT40 HOP40 HOQ40 GR40 HT
            obtain ⟨i1, hi1, hz1⟩ := Option.map_eq_some_iff.1 Try.infoI
            simp only [Prod.mk.injEq] at hz1
            obtain ⟨hz1a, hz1b, hz1c⟩ := hz1
            obtain ⟨i2, hi2, hz2⟩ := Option.map_eq_some_iff.1 Try.infoT
            simp only [Prod.mk.injEq] at hz2
            obtain ⟨hz2a, hz2b, hz2c⟩ := hz2
            have HI1 := Lib.hid hz1a; have HI2 := Lib.hid hz1b; have HI3 := Lib.hid hz1c
            have HJ1 := Lib.hid hz2a; have HJ2 := Lib.hid hz2b; have HJ3 := Lib.hid hz2c
            have HII := Lib.hid hi1; have HJJ := Lib.hid hi2
            clear hz1a hz1b hz1c hz2a hz2b hz2c hi1 hi2
            refine wp_region_U (fun w' => w'.cell? ⟨V1.heap.size, 2, none⟩ = some vp ∧ w'.cell? ⟨V1.heap.size, 3, none⟩ = some vq) [1, 18, 19, 20, 21] (by kernel_rfl) ?_
            refine nameU ?_
            intro C0 HC0
            have hg9 : V8.grownBy C0 none := by rw [HC0.out]; exact grown_drew _
            have hs9 := hg9.size
            have BT9 := Lib.hid (BT8.out.still hg9)
            have OP9 := Lib.hid (OwnI.still HOP8.out hg9)
            have OQ9 := Lib.hid (Own.kept HOQ8.out hg9 (own_none _))
            have G29 := Lib.hid ((Grown2.refl V8 vp.ownBlock vq.ownBlock).none hg9)
            have LP := Lib.hid HOP8.out.lt
            have LQ := Lib.hid HOQ8.out.lt
            have hS9 : C0.cell? ⟨V1.heap.size, 2, none⟩ = some vp ∧ C0.cell? ⟨V1.heap.size, 3, none⟩ = some vq := ⟨BT9.out.cell 2 (by simp), BT9.out.cell 3 (by simp)⟩
            clear HC0 hg9
            refine anyU_takeY (i := 1) (v := .pointer (some ⟨V1.heap.size, 0, none⟩)) rfl (by kernel_rfl) (by kernel_rfl) (by kernel_rfl) (fun _ _ _ h => h) ⟨by rfl, fun w => (by go_simp)⟩ ?_
            simp only [List.getElem_toArray, List.getElem_cons_succ, List.getElem_cons_zero, Act.put, List.setIfInBounds_toArray, List.set_cons_zero, List.set_cons_succ]
            refine anyU_take (i := 0) (v := .pointer (some ⟨V1.heap.size, 0, none⟩)) rfl (by kernel_rfl) (by kernel_rfl) (by kernel_rfl) (fun _ _ _ h => h) ⟨by rfl, fun w' hS' => (by obtain ⟨s1, s2⟩ := hS'; go_simp)⟩ hS9 ?_
            simp only [List.getElem_toArray, List.getElem_cons_zero, Act.put, List.setIfInBounds_toArray, List.set_cons_zero, List.set_cons_succ]
            refine anyU_take (i := 2) (v := .pointer (some ⟨V1.heap.size, 0, none⟩)) rfl (by kernel_rfl) (by kernel_rfl) (by kernel_rfl) (fun _ _ _ h => h) ⟨by rfl, fun w' hS' => (by obtain ⟨s1, s2⟩ := hS'; go_simp)⟩ hS9 ?_
            simp only [List.getElem_toArray, List.getElem_cons_succ, List.getElem_cons_zero, Act.put, List.setIfInBounds_toArray, List.set_cons_zero, List.set_cons_succ]
            refine anyU_take (i := 3) (v := .pointer (some ⟨V1.heap.size, 0, none⟩)) rfl (by kernel_rfl) (by kernel_rfl) (by kernel_rfl) (fun _ _ _ h => h) ⟨by rfl, fun w' hS' => (by obtain ⟨s1, s2⟩ := hS'; go_simp)⟩ hS9 ?_
            simp only [List.getElem_toArray, List.getElem_cons_succ, List.getElem_cons_zero, Act.put, List.setIfInBounds_toArray, List.set_cons_zero, List.set_cons_succ]
            refine anyU_take (i := 4) (v := .pointer (some ⟨V1.heap.size, 2, none⟩)) rfl (by kernel_rfl) (by kernel_rfl) (by kernel_rfl) (fun _ _ _ h => h) ⟨by rfl, fun w' hS' => (by obtain ⟨s1, s2⟩ := hS'; go_simp)⟩ hS9 ?_
            simp only [List.getElem_toArray, List.getElem_cons_succ, List.getElem_cons_zero, Act.put, List.setIfInBounds_toArray, List.set_cons_zero, List.set_cons_succ]
            refine anyU_take (i := 5) (v := vp) rfl (by kernel_rfl) (by kernel_rfl) (by kernel_rfl) (fun _ _ _ h => h) ⟨by rfl, fun w' hS' => (by obtain ⟨s1, s2⟩ := hS'; go_simp)⟩ hS9 ?_
            simp only [List.getElem_toArray, List.getElem_cons_succ, List.getElem_cons_zero, Act.put, List.setIfInBounds_toArray, List.set_cons_zero, List.set_cons_succ]
            refine anyU_take (i := 6) (v := .int .i64 j) rfl (by kernel_rfl) (by kernel_rfl) (by kernel_rfl) (fun _ _ _ h => h) ⟨by rfl, fun w' hS' => (by obtain ⟨s1, s2⟩ := hS'; go_simp)⟩ hS9 ?_
            simp only [List.getElem_toArray, List.getElem_cons_succ, List.getElem_cons_zero, Act.put, List.setIfInBounds_toArray, List.set_cons_zero, List.set_cons_succ]
            refine anyU_take (i := 9) (v := .pointer (some ⟨V1.heap.size, 0, none⟩)) rfl (by kernel_rfl) (by kernel_rfl) (by kernel_rfl) (fun _ _ _ h => h) ⟨by rfl, fun w' hS' => (by obtain ⟨s1, s2⟩ := hS'; go_simp)⟩ hS9 ?_
            simp only [List.getElem_toArray, List.getElem_cons_succ, List.getElem_cons_zero, Act.put, List.setIfInBounds_toArray, List.set_cons_zero, List.set_cons_succ]
            refine anyU_take (i := 10) (v := .pointer (some ⟨V1.heap.size, 0, none⟩)) rfl (by kernel_rfl) (by kernel_rfl) (by kernel_rfl) (fun _ _ _ h => h) ⟨by rfl, fun w' hS' => (by obtain ⟨s1, s2⟩ := hS'; go_simp)⟩ hS9 ?_
            simp only [List.getElem_toArray, List.getElem_cons_succ, List.getElem_cons_zero, Act.put, List.setIfInBounds_toArray, List.set_cons_zero, List.set_cons_succ]
            refine anyU_take (i := 11) (v := .pointer (some ⟨V1.heap.size, 3, none⟩)) rfl (by kernel_rfl) (by kernel_rfl) (by kernel_rfl) (fun _ _ _ h => h) ⟨by rfl, fun w' hS' => (by obtain ⟨s1, s2⟩ := hS'; go_simp)⟩ hS9 ?_
            simp only [List.getElem_toArray, List.getElem_cons_succ, List.getElem_cons_zero, Act.put, List.setIfInBounds_toArray, List.set_cons_zero, List.set_cons_succ]
            refine anyU_take (i := 12) (v := vq) rfl (by kernel_rfl) (by kernel_rfl) (by kernel_rfl) (fun _ _ _ h => h) ⟨by rfl, fun w' hS' => (by obtain ⟨s1, s2⟩ := hS'; go_simp)⟩ hS9 ?_
            simp only [List.getElem_toArray, List.getElem_cons_succ, List.getElem_cons_zero, Act.put, List.setIfInBounds_toArray, List.set_cons_zero, List.set_cons_succ]
            refine anyU_take (i := 13) (v := .pointer (some ⟨b, 0, none⟩)) rfl (by kernel_rfl) (by kernel_rfl) (by kernel_rfl) (fun _ _ _ h => h) ⟨by rfl, fun w' hS' => (by obtain ⟨s1, s2⟩ := hS'; go_simp)⟩ hS9 ?_
            simp only [List.getElem_toArray, List.getElem_cons_succ, List.getElem_cons_zero, Act.put, List.setIfInBounds_toArray, List.set_cons_zero, List.set_cons_succ]
            have hnp : (ps.map (Value.int .i64)).length ≤ 6 := by rw [List.length_map, HLEN.out.1]; omega
            have hnq : (bs.map ptrV).length ≤ 6 := by rw [List.length_map, HLEN.out.2.2]; omega
            have hbb : V26.heap.size ≤ C0.heap.size := by omega
            refine anyU_ready (rs := [7, 14]) (by kernel_rfl) (by simp) ?_
            refine ReadyU.cons (i := 7) rfl (fun K hK => ?_) ?_
            · simp only [List.getElem_toArray, List.getElem_cons_succ, List.getElem_cons_zero]
              refine ite_is (by rfl) ?_
              simp [go_sem]
              refine hK.out _ _ ⟨fun _ => ⟨(BT9.out.still (grown_alloc _ _)).cell 2 (by simp), (BT9.out.still (grown_alloc _ _)).cell 3 (by simp)⟩, ?_⟩
              clear hK K
              try simp only [List.getElem_toArray, List.getElem_cons_succ, List.getElem_cons_zero, Act.put, List.setIfInBounds_toArray, List.set_cons_zero, List.set_cons_succ]
              refine nameU ?_
              intro C1 HC1
              have hg1 : C0.grownBy C1 none := by rw [HC1.out]; exact grown_alloc _ _
              have hs1x := hg1.size
              have BX1 := Lib.hid (show BoxN C1 C0.heap.size #[.int .i64 j] 3 by rw [HC1.out]; exact BoxN.new _ _ _)
              have BT1x := Lib.hid (BT9.out.still hg1)
              have OP1x := Lib.hid (OwnI.still OP9.out hg1)
              have OQ1x := Lib.hid (Own.kept OQ9.out hg1 (own_none _))
              have G21x := Lib.hid (G29.out.none hg1)
              clear HC1 hg1
              refine anyU_ready (rs := [8, 14]) (by kernel_rfl) (by simp) ?_
              refine ReadyU.cons (i := 8) rfl (fun K hK => ?_) ?_
              · refine step_append_lies C1 (by rfl) _ _ _ (by rfl) V26.heap.size 3 i1 _ 1 8 Try.underlying52 HII.out HI1.out HI2.out HI3.out rfl (by omega) vp _ (ps.map (Value.int .i64)) (by rfl) OP1x.out ⟨C0.heap.size, 0, none⟩ 1 1 [.int .i64 j] (by rfl) (by rfl) (World.news_of_block BX1.out) (by simp [Value.oneCell']) (by omega) (by unfold maxLen; omega) (by omega) (by omega) _ rfl ?_
                intro gp cp C2 hown hgrow hatp hltp
                simp only [List.length_map] at hown
                have hs2x := hgrow.size
                have BT2x := Lib.hid (BT1x.out.far hgrow (fun x e => by have := LP.out x e; omega))
                have G22x := Lib.hid (G21x.out.fst hgrow)
                have OP2x := Lib.hid (ownI_new hown)
                have OQ2x := Lib.hid (Own.kept OQ1x.out hgrow HAP.out.symm.keeps)
                refine hK.out _ _ ⟨fun _ => ⟨(BT2x.out).cell 2 (by simp), (BT2x.out).cell 3 (by simp)⟩, ?_⟩
                clear hK K hown hgrow
                try simp only [List.getElem_toArray, List.getElem_cons_succ, List.getElem_cons_zero, Act.put, List.setIfInBounds_toArray, List.set_cons_zero, List.set_cons_succ]
                refine anyU_ready (rs := [14]) (by kernel_rfl) (by simp) ?_
                refine ReadyU.cons (i := 14) rfl (fun K hK => ?_) ?_
                · simp only [List.getElem_toArray, List.getElem_cons_succ, List.getElem_cons_zero]
                  refine ite_is (by rfl) ?_
                  simp [go_sem]
                  refine hK.out _ _ ⟨fun _ => ⟨(BT2x.out.still (grown_alloc _ _)).cell 2 (by simp), (BT2x.out.still (grown_alloc _ _)).cell 3 (by simp)⟩, ?_⟩
                  clear hK K
                  try simp only [List.getElem_toArray, List.getElem_cons_succ, List.getElem_cons_zero, Act.put, List.setIfInBounds_toArray, List.set_cons_zero, List.set_cons_succ]
                  refine nameU ?_
                  intro C3 HC3
                  have hg3 : C2.grownBy C3 none := by rw [HC3.out]; exact grown_alloc _ _
                  have hs3x := hg3.size
                  have BX3 := Lib.hid (show BoxN C3 C2.heap.size #[.pointer (some ⟨b, 0, none⟩)] 59 by rw [HC3.out]; exact BoxN.new _ _ _)
                  have BT3x := Lib.hid (BT2x.out.still hg3)
                  have OP3x := Lib.hid (OwnI.still OP2x.out hg3)
                  have OQ3x := Lib.hid (Own.kept OQ2x.out hg3 (own_none _))
                  have G23x := Lib.hid (G22x.out.none hg3)
                  clear HC3 hg3
                  refine anyU_ready (rs := [15]) (by kernel_rfl) (by simp) ?_
                  refine ReadyU.cons (i := 15) rfl (fun K hK => ?_) ?_
                  · refine step_append_lies C3 (by rfl) _ _ _ (by rfl) V26.heap.size 59 i2 _ 1 8 Try.underlying61 HJJ.out HJ1.out HJ2.out HJ3.out rfl (by omega) vq _ (bs.map ptrV) (by rfl) OQ3x.out ⟨C2.heap.size, 0, none⟩ 1 1 [.pointer (some ⟨b, 0, none⟩)] (by rfl) (by rfl) (World.news_of_block BX3.out) (by simp [Value.oneCell']) (by omega) (by unfold maxLen; omega) (by omega) (by omega) _ rfl ?_
                    intro gq cq C4 hown hgrow hatq hltq
                    simp only [List.length_map] at hown
                    have hs4x := hgrow.size
                    have BT4x := Lib.hid (BT3x.out.far hgrow (fun x e => by have := LQ.out x e; omega))
                    have G24x := Lib.hid (G23x.out.snd hgrow)
                    have OQ4x := Lib.hid (ownP_new hown)
                    have OP4x := Lib.hid (OwnI.kept OP3x.out hgrow (ap_new HAP.out hatp (fun x e => by have := LQ.out x e; omega)))
                    refine hK.out _ _ ⟨fun _ => ⟨(BT4x.out).cell 2 (by simp), (BT4x.out).cell 3 (by simp)⟩, ?_⟩
                    clear hK K hown hgrow
                    try simp only [List.getElem_toArray, List.getElem_cons_succ, List.getElem_cons_zero, Act.put, List.setIfInBounds_toArray, List.set_cons_zero, List.set_cons_succ]
                    have hSz : C4.cell? ⟨V1.heap.size, 2, none⟩ = some vp ∧ C4.cell? ⟨V1.heap.size, 3, none⟩ = some vq := ⟨(BT4x.out).cell 2 (by simp), (BT4x.out).cell 3 (by simp)⟩
                    refine anyU_ready (rs := [16]) (by kernel_rfl) (by simp) ?_
                    refine ReadyU.cons (i := 16) rfl (fun K hK => ?_) ReadyU.nil
                    simp only [List.getElem_toArray, List.getElem_cons_succ, List.getElem_cons_zero]
                    refine ite_is (by rfl) ?_
                    simp [go_sem]
                    refine hK.out _ _ ⟨fun _ => hSz, ?_⟩
                    clear hK K
                    try simp only [List.getElem_toArray, List.getElem_cons_succ, List.getElem_cons_zero, Act.put, List.setIfInBounds_toArray, List.set_cons_zero, List.set_cons_succ]
                    refine anyU_ready (rs := [17]) (by kernel_rfl) (by simp) ?_
                    refine ReadyU.cons (i := 17) rfl (fun K hK => ?_) ReadyU.nil
                    simp only [List.getElem_toArray, List.getElem_cons_succ, List.getElem_cons_zero]
                    refine ite_is (by rfl) ?_
                    simp [go_sem]
                    refine hK.out _ _ ⟨fun _ => hSz, ?_⟩
                    clear hK K
                    try simp only [List.getElem_toArray, List.getElem_cons_succ, List.getElem_cons_zero, Act.put, List.setIfInBounds_toArray, List.set_cons_zero, List.set_cons_succ]
                    have z2 := hSz.1
                    have zf := BT4x.out.frozen 2
                    refine anyU_ready (rs := [18]) (by kernel_rfl) (by simp) ?_
                    refine ReadyU.cons (i := 18) rfl (fun K hK => ?_) ReadyU.nil
                    simp only [List.getElem_toArray, List.getElem_cons_succ, List.getElem_cons_zero]
                    refine ite_is (by rfl) ?_
                    simp [go_sem, z2, zf]
                    refine hK.out _ _ ⟨fun h => absurd h (by decide), ?_⟩
                    clear hK K z2 zf hSz
                    try simp only [List.getElem_toArray, List.getElem_cons_succ, List.getElem_cons_zero, Act.put, List.setIfInBounds_toArray, List.set_cons_zero, List.set_cons_succ]
                    refine nameU ?_
                    intro CY HCY
                    have hgy : C4.grownBy CY (some V1.heap.size) := by rw [HCY.out]; exact grown_set _ _ _
                    have hsy : C4.heap.size ≤ CY.heap.size := hgy.size
                    have BTy := Lib.hid (show BoxN CY V1.heap.size #[.int .i64 d, .int .i64 i, .slice (some ⟨gp, 0, none⟩) (ps.length + 1) cp, vq, .int .i64 0] 63 by rw [HCY.out]; exact BT4x.out.set 2 _)
                    clear HCY
                    refine anyU_ready (rs := [19]) (by kernel_rfl) (by simp) ?_
                    refine ReadyU.cons (i := 19) rfl (fun K hK => ?_) ReadyU.nil
                    simp only [List.getElem_toArray, List.getElem_cons_succ, List.getElem_cons_zero]
                    refine ite_is (by rfl) ?_
                    simp [go_sem]
                    refine hK.out _ _ ⟨fun h => absurd h (by decide), ?_⟩
                    clear hK K
                    try simp only [List.getElem_toArray, List.getElem_cons_succ, List.getElem_cons_zero, Act.put, List.setIfInBounds_toArray, List.set_cons_zero, List.set_cons_succ]
                    refine anyU_ready (rs := [20]) (by kernel_rfl) (by simp) ?_
                    refine ReadyU.cons (i := 20) rfl (fun K hK => ?_) ReadyU.nil
                    simp only [List.getElem_toArray, List.getElem_cons_succ, List.getElem_cons_zero]
                    refine ite_is (by rfl) ?_
                    simp [go_sem]
                    refine hK.out _ _ ⟨fun h => absurd h (by decide), ?_⟩
                    clear hK K
                    try simp only [List.getElem_toArray, List.getElem_cons_succ, List.getElem_cons_zero, Act.put, List.setIfInBounds_toArray, List.set_cons_zero, List.set_cons_succ]
                    have z3 : CY.cell? ⟨V1.heap.size, 3, none⟩ = some vq := BTy.out.cell 3 (by simp)
                    have zf := BTy.out.frozen 3
                    refine anyU_ready (rs := [21]) (by kernel_rfl) (by simp) ?_
                    refine ReadyU.cons (i := 21) rfl (fun K hK => ?_) ReadyU.nil
                    simp only [List.getElem_toArray, List.getElem_cons_succ, List.getElem_cons_zero]
                    refine ite_is (by rfl) ?_
                    simp [go_sem, z3, zf]
                    refine hK.out _ _ ⟨fun h => absurd h (by decide), ?_⟩
                    clear hK K z3 zf
                    try simp only [List.getElem_toArray, List.getElem_cons_succ, List.getElem_cons_zero, Act.put, List.setIfInBounds_toArray, List.set_cons_zero, List.set_cons_succ]
                    refine nameU ?_
                    intro CZ HCZ
                    have hgz : CY.grownBy CZ (some V1.heap.size) := by rw [HCZ.out]; exact grown_set _ _ _
                    have hsz : CY.heap.size ≤ CZ.heap.size := hgz.size
                    have BTz := Lib.hid (show BoxN CZ V1.heap.size #[.int .i64 d, .int .i64 i, .slice (some ⟨gp, 0, none⟩) (ps.length + 1) cp, .slice (some ⟨gq, 0, none⟩) (bs.length + 1) cq, .int .i64 0] 63 by rw [HCZ.out]; exact BTy.out.set 3 _)
                    clear HCZ
                    refine anyU_done (by kernel_rfl) ?_ _
                    have hp8 := Lib.hid (hatp.imp (fun e => e) (fun e => by omega) : vp.ownBlock = some gp ∨ V8.heap.size ≤ gp)
                    have hq8 := Lib.hid (hatq.imp (fun e => e) (fun e => by omega) : vq.ownBlock = some gq ∨ V8.heap.size ≤ gq)
                    have hne := Lib.hid (apart_round HAP.out (fun x hx => (LP.out x hx).2) (fun x hx => (LQ.out x hx).2) hatp hatq (by clear hatp hatq; omega) (by clear hatp hatq; omega) (fun e1 e2 => by clear hatp hatq; omega) : gp ≠ gq)
                    clear hatp hatq
                    have hBG := BoxN.round BG8.out G24x.out hgy hgz (by omega) (fun x hx => by have := (LP.out x hx).1; omega) (fun x hx => by have := (LQ.out x hx).1; omega) (by omega)
                    have hGR := grown_round GR8.out G24x.out hgy hgz (fun x hx => by have := (LP.out x hx).1; omega) (fun x hx => by have := (LQ.out x hx).1; omega) (by omega)
                    have hTR := Trs.round (n := ps.length + 1) (m := bs.length + 1) (cp := cp) (cq := cq) HTR8.out HT8.out (by omega) (by omega) (fun x hx => by have := HLPQ.out.1 x hx; omega) (fun x hx => by have := HLPQ.out.2 x hx; omega) G24x.out hgy hgz (by omega) hp8.out hq8.out (by rw [HLEN.out.2.1, HLEN.out.2.2])
                    have hOP := (((OP4x.out.far hgy (fun x e => by cases e; omega)).far hgz (fun x e => by cases e; omega)))
                    have hOQ := (((OQ4x.out.kept hgy (own_far OQ4x.out (by omega))).kept hgz (own_far ((OQ4x.out.kept hgy (own_far OQ4x.out (by omega)))) (by omega))))
                    have hPL := HPL.out
                    rw [HC.out, ploop_step HSEP.out F1.out F2.out HY.out hjd HGO.out] at hPL
                    go_wp2_with fail
                    go_roundw
                    case rel => exact ⟨0 + 1, ps ++ [(j : Int)], ts ++ [t], bs ++ [b], q', _, _, by omega, by go_num, by omega, by omega, Lib.hid (by simp only [List.length_append, List.length_cons, List.length_nil]; have := HLEN.out; omega), Lib.hid hPL, Lib.hid hBG, Lib.hid BTz.out, Lib.hid hOP, Lib.hid hOQ, Lib.hid (.inr (.inr (by simpa [Value.ownBlock] using hne.out))), Lib.hid hTR, Lib.hid hGR, by omega, Lib.hid (dep_snoc HDEP.out HY.out)⟩
                    case measure => simp [intOf]; omega
                  exact ReadyU.nil
                exact ReadyU.nil
              refine ReadyU.cons (i := 14) rfl (fun K hK => ?_) ?_
              · simp only [List.getElem_toArray, List.getElem_cons_succ, List.getElem_cons_zero]
                refine ite_is (by rfl) ?_
                simp [go_sem]
                refine hK.out _ _ ⟨fun _ => ⟨(BT1x.out.still (grown_alloc _ _)).cell 2 (by simp), (BT1x.out.still (grown_alloc _ _)).cell 3 (by simp)⟩, ?_⟩
                clear hK K
                try simp only [List.getElem_toArray, List.getElem_cons_succ, List.getElem_cons_zero, Act.put, List.setIfInBounds_toArray, List.set_cons_zero, List.set_cons_succ]
                refine nameU ?_
                intro C5 HC5
                have hg5 : C1.grownBy C5 none := by rw [HC5.out]; exact grown_alloc _ _
                have hs5x := hg5.size
                have BX5 := Lib.hid (show BoxN C5 C1.heap.size #[.pointer (some ⟨b, 0, none⟩)] 59 by rw [HC5.out]; exact BoxN.new _ _ _)
                have BT5x := Lib.hid (BT1x.out.still hg5)
                have OP5x := Lib.hid (OwnI.still OP1x.out hg5)
                have OQ5x := Lib.hid (Own.kept OQ1x.out hg5 (own_none _))
                have G25x := Lib.hid (G21x.out.none hg5)
                have B75x := Lib.hid (BX1.out.still hg5)
                clear HC5 hg5
                refine anyU_ready (rs := [8]) (by kernel_rfl) (by simp) ?_
                refine ReadyU.cons (i := 8) rfl (fun K hK => ?_) ?_
                · refine step_append_lies C5 (by rfl) _ _ _ (by rfl) V26.heap.size 3 i1 _ 1 8 Try.underlying52 HII.out HI1.out HI2.out HI3.out rfl (by omega) vp _ (ps.map (Value.int .i64)) (by rfl) OP5x.out ⟨C0.heap.size, 0, none⟩ 1 1 [.int .i64 j] (by rfl) (by rfl) (World.news_of_block B75x.out) (by simp [Value.oneCell']) (by omega) (by unfold maxLen; omega) (by omega) (by omega) _ rfl ?_
                  intro gp cp C6 hown hgrow hatp hltp
                  simp only [List.length_map] at hown
                  have hs6x := hgrow.size
                  have BT6x := Lib.hid (BT5x.out.far hgrow (fun x e => by have := LP.out x e; omega))
                  have G26x := Lib.hid (G25x.out.fst hgrow)
                  have OP6x := Lib.hid (ownI_new hown)
                  have OQ6x := Lib.hid (Own.kept OQ5x.out hgrow HAP.out.symm.keeps)
                  have B146x := Lib.hid (BX5.out.far hgrow (fun x e => by have := LP.out x e; omega))
                  refine hK.out _ _ ⟨fun _ => ⟨(BT6x.out).cell 2 (by simp), (BT6x.out).cell 3 (by simp)⟩, ?_⟩
                  clear hK K hown hgrow
                  try simp only [List.getElem_toArray, List.getElem_cons_succ, List.getElem_cons_zero, Act.put, List.setIfInBounds_toArray, List.set_cons_zero, List.set_cons_succ]
                  refine anyU_ready (rs := [15]) (by kernel_rfl) (by simp) ?_
                  refine ReadyU.cons (i := 15) rfl (fun K hK => ?_) ?_
                  · refine step_append_lies C6 (by rfl) _ _ _ (by rfl) V26.heap.size 59 i2 _ 1 8 Try.underlying61 HJJ.out HJ1.out HJ2.out HJ3.out rfl (by omega) vq _ (bs.map ptrV) (by rfl) OQ6x.out ⟨C1.heap.size, 0, none⟩ 1 1 [.pointer (some ⟨b, 0, none⟩)] (by rfl) (by rfl) (World.news_of_block B146x.out) (by simp [Value.oneCell']) (by omega) (by unfold maxLen; omega) (by omega) (by omega) _ rfl ?_
                    intro gq cq C7 hown hgrow hatq hltq
                    simp only [List.length_map] at hown
                    have hs7x := hgrow.size
                    have BT7x := Lib.hid (BT6x.out.far hgrow (fun x e => by have := LQ.out x e; omega))
                    have G27x := Lib.hid (G26x.out.snd hgrow)
                    have OQ7x := Lib.hid (ownP_new hown)
                    have OP7x := Lib.hid (OwnI.kept OP6x.out hgrow (ap_new HAP.out hatp (fun x e => by have := LQ.out x e; omega)))
                    refine hK.out _ _ ⟨fun _ => ⟨(BT7x.out).cell 2 (by simp), (BT7x.out).cell 3 (by simp)⟩, ?_⟩
                    clear hK K hown hgrow
                    try simp only [List.getElem_toArray, List.getElem_cons_succ, List.getElem_cons_zero, Act.put, List.setIfInBounds_toArray, List.set_cons_zero, List.set_cons_succ]
                    have hSz : C7.cell? ⟨V1.heap.size, 2, none⟩ = some vp ∧ C7.cell? ⟨V1.heap.size, 3, none⟩ = some vq := ⟨(BT7x.out).cell 2 (by simp), (BT7x.out).cell 3 (by simp)⟩
                    refine anyU_ready (rs := [16]) (by kernel_rfl) (by simp) ?_
                    refine ReadyU.cons (i := 16) rfl (fun K hK => ?_) ReadyU.nil
                    simp only [List.getElem_toArray, List.getElem_cons_succ, List.getElem_cons_zero]
                    refine ite_is (by rfl) ?_
                    simp [go_sem]
                    refine hK.out _ _ ⟨fun _ => hSz, ?_⟩
                    clear hK K
                    try simp only [List.getElem_toArray, List.getElem_cons_succ, List.getElem_cons_zero, Act.put, List.setIfInBounds_toArray, List.set_cons_zero, List.set_cons_succ]
                    refine anyU_ready (rs := [17]) (by kernel_rfl) (by simp) ?_
                    refine ReadyU.cons (i := 17) rfl (fun K hK => ?_) ReadyU.nil
                    simp only [List.getElem_toArray, List.getElem_cons_succ, List.getElem_cons_zero]
                    refine ite_is (by rfl) ?_
                    simp [go_sem]
                    refine hK.out _ _ ⟨fun _ => hSz, ?_⟩
                    clear hK K
                    try simp only [List.getElem_toArray, List.getElem_cons_succ, List.getElem_cons_zero, Act.put, List.setIfInBounds_toArray, List.set_cons_zero, List.set_cons_succ]
                    have z2 := hSz.1
                    have zf := BT7x.out.frozen 2
                    refine anyU_ready (rs := [18]) (by kernel_rfl) (by simp) ?_
                    refine ReadyU.cons (i := 18) rfl (fun K hK => ?_) ReadyU.nil
                    simp only [List.getElem_toArray, List.getElem_cons_succ, List.getElem_cons_zero]
                    refine ite_is (by rfl) ?_
                    simp [go_sem, z2, zf]
                    refine hK.out _ _ ⟨fun h => absurd h (by decide), ?_⟩
                    clear hK K z2 zf hSz
                    try simp only [List.getElem_toArray, List.getElem_cons_succ, List.getElem_cons_zero, Act.put, List.setIfInBounds_toArray, List.set_cons_zero, List.set_cons_succ]
                    refine nameU ?_
                    intro CY HCY
                    have hgy : C7.grownBy CY (some V1.heap.size) := by rw [HCY.out]; exact grown_set _ _ _
                    have hsy : C7.heap.size ≤ CY.heap.size := hgy.size
                    have BTy := Lib.hid (show BoxN CY V1.heap.size #[.int .i64 d, .int .i64 i, .slice (some ⟨gp, 0, none⟩) (ps.length + 1) cp, vq, .int .i64 0] 63 by rw [HCY.out]; exact BT7x.out.set 2 _)
                    clear HCY
                    refine anyU_ready (rs := [19]) (by kernel_rfl) (by simp) ?_
                    refine ReadyU.cons (i := 19) rfl (fun K hK => ?_) ReadyU.nil
                    simp only [List.getElem_toArray, List.getElem_cons_succ, List.getElem_cons_zero]
                    refine ite_is (by rfl) ?_
                    simp [go_sem]
                    refine hK.out _ _ ⟨fun h => absurd h (by decide), ?_⟩
                    clear hK K
                    try simp only [List.getElem_toArray, List.getElem_cons_succ, List.getElem_cons_zero, Act.put, List.setIfInBounds_toArray, List.set_cons_zero, List.set_cons_succ]
                    refine anyU_ready (rs := [20]) (by kernel_rfl) (by simp) ?_
                    refine ReadyU.cons (i := 20) rfl (fun K hK => ?_) ReadyU.nil
                    simp only [List.getElem_toArray, List.getElem_cons_succ, List.getElem_cons_zero]
                    refine ite_is (by rfl) ?_
                    simp [go_sem]
                    refine hK.out _ _ ⟨fun h => absurd h (by decide), ?_⟩
                    clear hK K
                    try simp only [List.getElem_toArray, List.getElem_cons_succ, List.getElem_cons_zero, Act.put, List.setIfInBounds_toArray, List.set_cons_zero, List.set_cons_succ]
                    have z3 : CY.cell? ⟨V1.heap.size, 3, none⟩ = some vq := BTy.out.cell 3 (by simp)
                    have zf := BTy.out.frozen 3
                    refine anyU_ready (rs := [21]) (by kernel_rfl) (by simp) ?_
                    refine ReadyU.cons (i := 21) rfl (fun K hK => ?_) ReadyU.nil
                    simp only [List.getElem_toArray, List.getElem_cons_succ, List.getElem_cons_zero]
                    refine ite_is (by rfl) ?_
                    simp [go_sem, z3, zf]
                    refine hK.out _ _ ⟨fun h => absurd h (by decide), ?_⟩
                    clear hK K z3 zf
                    try simp only [List.getElem_toArray, List.getElem_cons_succ, List.getElem_cons_zero, Act.put, List.setIfInBounds_toArray, List.set_cons_zero, List.set_cons_succ]
                    refine nameU ?_
                    intro CZ HCZ
                    have hgz : CY.grownBy CZ (some V1.heap.size) := by rw [HCZ.out]; exact grown_set _ _ _
                    have hsz : CY.heap.size ≤ CZ.heap.size := hgz.size
                    have BTz := Lib.hid (show BoxN CZ V1.heap.size #[.int .i64 d, .int .i64 i, .slice (some ⟨gp, 0, none⟩) (ps.length + 1) cp, .slice (some ⟨gq, 0, none⟩) (bs.length + 1) cq, .int .i64 0] 63 by rw [HCZ.out]; exact BTy.out.set 3 _)
                    clear HCZ
                    refine anyU_done (by kernel_rfl) ?_ _
                    have hp8 := Lib.hid (hatp.imp (fun e => e) (fun e => by omega) : vp.ownBlock = some gp ∨ V8.heap.size ≤ gp)
                    have hq8 := Lib.hid (hatq.imp (fun e => e) (fun e => by omega) : vq.ownBlock = some gq ∨ V8.heap.size ≤ gq)
                    have hne := Lib.hid (apart_round HAP.out (fun x hx => (LP.out x hx).2) (fun x hx => (LQ.out x hx).2) hatp hatq (by clear hatp hatq; omega) (by clear hatp hatq; omega) (fun e1 e2 => by clear hatp hatq; omega) : gp ≠ gq)
                    clear hatp hatq
                    have hBG := BoxN.round BG8.out G27x.out hgy hgz (by omega) (fun x hx => by have := (LP.out x hx).1; omega) (fun x hx => by have := (LQ.out x hx).1; omega) (by omega)
                    have hGR := grown_round GR8.out G27x.out hgy hgz (fun x hx => by have := (LP.out x hx).1; omega) (fun x hx => by have := (LQ.out x hx).1; omega) (by omega)
                    have hTR := Trs.round (n := ps.length + 1) (m := bs.length + 1) (cp := cp) (cq := cq) HTR8.out HT8.out (by omega) (by omega) (fun x hx => by have := HLPQ.out.1 x hx; omega) (fun x hx => by have := HLPQ.out.2 x hx; omega) G27x.out hgy hgz (by omega) hp8.out hq8.out (by rw [HLEN.out.2.1, HLEN.out.2.2])
                    have hOP := (((OP7x.out.far hgy (fun x e => by cases e; omega)).far hgz (fun x e => by cases e; omega)))
                    have hOQ := (((OQ7x.out.kept hgy (own_far OQ7x.out (by omega))).kept hgz (own_far ((OQ7x.out.kept hgy (own_far OQ7x.out (by omega)))) (by omega))))
                    have hPL := HPL.out
                    rw [HC.out, ploop_step HSEP.out F1.out F2.out HY.out hjd HGO.out] at hPL
                    go_wp2_with fail
                    go_roundw
                    case rel => exact ⟨0 + 1, ps ++ [(j : Int)], ts ++ [t], bs ++ [b], q', _, _, by omega, by go_num, by omega, by omega, Lib.hid (by simp only [List.length_append, List.length_cons, List.length_nil]; have := HLEN.out; omega), Lib.hid hPL, Lib.hid hBG, Lib.hid BTz.out, Lib.hid hOP, Lib.hid hOQ, Lib.hid (.inr (.inr (by simpa [Value.ownBlock] using hne.out))), Lib.hid hTR, Lib.hid hGR, by omega, Lib.hid (dep_snoc HDEP.out HY.out)⟩
                    case measure => simp [intOf]; omega
                  exact ReadyU.nil
                exact ReadyU.nil
              exact ReadyU.nil
            refine ReadyU.cons (i := 14) rfl (fun K hK => ?_) ?_
            · simp only [List.getElem_toArray, List.getElem_cons_succ, List.getElem_cons_zero]
              refine ite_is (by rfl) ?_
              simp [go_sem]
              refine hK.out _ _ ⟨fun _ => ⟨(BT9.out.still (grown_alloc _ _)).cell 2 (by simp), (BT9.out.still (grown_alloc _ _)).cell 3 (by simp)⟩, ?_⟩
              clear hK K
              try simp only [List.getElem_toArray, List.getElem_cons_succ, List.getElem_cons_zero, Act.put, List.setIfInBounds_toArray, List.set_cons_zero, List.set_cons_succ]
              refine nameU ?_
              intro C8 HC8
              have hg8 : C0.grownBy C8 none := by rw [HC8.out]; exact grown_alloc _ _
              have hs8x := hg8.size
              have BX8 := Lib.hid (show BoxN C8 C0.heap.size #[.pointer (some ⟨b, 0, none⟩)] 59 by rw [HC8.out]; exact BoxN.new _ _ _)
              have BT8x := Lib.hid (BT9.out.still hg8)
              have OP8x := Lib.hid (OwnI.still OP9.out hg8)
              have OQ8x := Lib.hid (Own.kept OQ9.out hg8 (own_none _))
              have G28x := Lib.hid (G29.out.none hg8)
              clear HC8 hg8
              refine anyU_ready (rs := [7]) (by kernel_rfl) (by simp) ?_
              refine ReadyU.cons (i := 7) rfl (fun K hK => ?_) ?_
              · simp only [List.getElem_toArray, List.getElem_cons_succ, List.getElem_cons_zero]
                refine ite_is (by rfl) ?_
                simp [go_sem]
                refine hK.out _ _ ⟨fun _ => ⟨(BT8x.out.still (grown_alloc _ _)).cell 2 (by simp), (BT8x.out.still (grown_alloc _ _)).cell 3 (by simp)⟩, ?_⟩
                clear hK K
                try simp only [List.getElem_toArray, List.getElem_cons_succ, List.getElem_cons_zero, Act.put, List.setIfInBounds_toArray, List.set_cons_zero, List.set_cons_succ]
                refine nameU ?_
                intro C9 HC9
                have hg9 : C8.grownBy C9 none := by rw [HC9.out]; exact grown_alloc _ _
                have hs9x := hg9.size
                have BX9 := Lib.hid (show BoxN C9 C8.heap.size #[.int .i64 j] 3 by rw [HC9.out]; exact BoxN.new _ _ _)
                have BT9x := Lib.hid (BT8x.out.still hg9)
                have OP9x := Lib.hid (OwnI.still OP8x.out hg9)
                have OQ9x := Lib.hid (Own.kept OQ8x.out hg9 (own_none _))
                have G29x := Lib.hid (G28x.out.none hg9)
                have B149x := Lib.hid (BX8.out.still hg9)
                clear HC9 hg9
                refine anyU_ready (rs := [8]) (by kernel_rfl) (by simp) ?_
                refine ReadyU.cons (i := 8) rfl (fun K hK => ?_) ?_
                · refine step_append_lies C9 (by rfl) _ _ _ (by rfl) V26.heap.size 3 i1 _ 1 8 Try.underlying52 HII.out HI1.out HI2.out HI3.out rfl (by omega) vp _ (ps.map (Value.int .i64)) (by rfl) OP9x.out ⟨C8.heap.size, 0, none⟩ 1 1 [.int .i64 j] (by rfl) (by rfl) (World.news_of_block BX9.out) (by simp [Value.oneCell']) (by omega) (by unfold maxLen; omega) (by omega) (by omega) _ rfl ?_
                  intro gp cp C10 hown hgrow hatp hltp
                  simp only [List.length_map] at hown
                  have hs10x := hgrow.size
                  have BT10x := Lib.hid (BT9x.out.far hgrow (fun x e => by have := LP.out x e; omega))
                  have G210x := Lib.hid (G29x.out.fst hgrow)
                  have OP10x := Lib.hid (ownI_new hown)
                  have OQ10x := Lib.hid (Own.kept OQ9x.out hgrow HAP.out.symm.keeps)
                  have B1410x := Lib.hid (B149x.out.far hgrow (fun x e => by have := LP.out x e; omega))
                  refine hK.out _ _ ⟨fun _ => ⟨(BT10x.out).cell 2 (by simp), (BT10x.out).cell 3 (by simp)⟩, ?_⟩
                  clear hK K hown hgrow
                  try simp only [List.getElem_toArray, List.getElem_cons_succ, List.getElem_cons_zero, Act.put, List.setIfInBounds_toArray, List.set_cons_zero, List.set_cons_succ]
                  refine anyU_ready (rs := [15]) (by kernel_rfl) (by simp) ?_
                  refine ReadyU.cons (i := 15) rfl (fun K hK => ?_) ?_
                  · refine step_append_lies C10 (by rfl) _ _ _ (by rfl) V26.heap.size 59 i2 _ 1 8 Try.underlying61 HJJ.out HJ1.out HJ2.out HJ3.out rfl (by omega) vq _ (bs.map ptrV) (by rfl) OQ10x.out ⟨C0.heap.size, 0, none⟩ 1 1 [.pointer (some ⟨b, 0, none⟩)] (by rfl) (by rfl) (World.news_of_block B1410x.out) (by simp [Value.oneCell']) (by omega) (by unfold maxLen; omega) (by omega) (by omega) _ rfl ?_
                    intro gq cq C11 hown hgrow hatq hltq
                    simp only [List.length_map] at hown
                    have hs11x := hgrow.size
                    have BT11x := Lib.hid (BT10x.out.far hgrow (fun x e => by have := LQ.out x e; omega))
                    have G211x := Lib.hid (G210x.out.snd hgrow)
                    have OQ11x := Lib.hid (ownP_new hown)
                    have OP11x := Lib.hid (OwnI.kept OP10x.out hgrow (ap_new HAP.out hatp (fun x e => by have := LQ.out x e; omega)))
                    refine hK.out _ _ ⟨fun _ => ⟨(BT11x.out).cell 2 (by simp), (BT11x.out).cell 3 (by simp)⟩, ?_⟩
                    clear hK K hown hgrow
                    try simp only [List.getElem_toArray, List.getElem_cons_succ, List.getElem_cons_zero, Act.put, List.setIfInBounds_toArray, List.set_cons_zero, List.set_cons_succ]
                    have hSz : C11.cell? ⟨V1.heap.size, 2, none⟩ = some vp ∧ C11.cell? ⟨V1.heap.size, 3, none⟩ = some vq := ⟨(BT11x.out).cell 2 (by simp), (BT11x.out).cell 3 (by simp)⟩
                    refine anyU_ready (rs := [16]) (by kernel_rfl) (by simp) ?_
                    refine ReadyU.cons (i := 16) rfl (fun K hK => ?_) ReadyU.nil
                    simp only [List.getElem_toArray, List.getElem_cons_succ, List.getElem_cons_zero]
                    refine ite_is (by rfl) ?_
                    simp [go_sem]
                    refine hK.out _ _ ⟨fun _ => hSz, ?_⟩
                    clear hK K
                    try simp only [List.getElem_toArray, List.getElem_cons_succ, List.getElem_cons_zero, Act.put, List.setIfInBounds_toArray, List.set_cons_zero, List.set_cons_succ]
                    refine anyU_ready (rs := [17]) (by kernel_rfl) (by simp) ?_
                    refine ReadyU.cons (i := 17) rfl (fun K hK => ?_) ReadyU.nil
                    simp only [List.getElem_toArray, List.getElem_cons_succ, List.getElem_cons_zero]
                    refine ite_is (by rfl) ?_
                    simp [go_sem]
                    refine hK.out _ _ ⟨fun _ => hSz, ?_⟩
                    clear hK K
                    try simp only [List.getElem_toArray, List.getElem_cons_succ, List.getElem_cons_zero, Act.put, List.setIfInBounds_toArray, List.set_cons_zero, List.set_cons_succ]
                    have z2 := hSz.1
                    have zf := BT11x.out.frozen 2
                    refine anyU_ready (rs := [18]) (by kernel_rfl) (by simp) ?_
                    refine ReadyU.cons (i := 18) rfl (fun K hK => ?_) ReadyU.nil
                    simp only [List.getElem_toArray, List.getElem_cons_succ, List.getElem_cons_zero]
                    refine ite_is (by rfl) ?_
                    simp [go_sem, z2, zf]
                    refine hK.out _ _ ⟨fun h => absurd h (by decide), ?_⟩
                    clear hK K z2 zf hSz
                    try simp only [List.getElem_toArray, List.getElem_cons_succ, List.getElem_cons_zero, Act.put, List.setIfInBounds_toArray, List.set_cons_zero, List.set_cons_succ]
                    refine nameU ?_
                    intro CY HCY
                    have hgy : C11.grownBy CY (some V1.heap.size) := by rw [HCY.out]; exact grown_set _ _ _
                    have hsy : C11.heap.size ≤ CY.heap.size := hgy.size
                    have BTy := Lib.hid (show BoxN CY V1.heap.size #[.int .i64 d, .int .i64 i, .slice (some ⟨gp, 0, none⟩) (ps.length + 1) cp, vq, .int .i64 0] 63 by rw [HCY.out]; exact BT11x.out.set 2 _)
                    clear HCY
                    refine anyU_ready (rs := [19]) (by kernel_rfl) (by simp) ?_
                    refine ReadyU.cons (i := 19) rfl (fun K hK => ?_) ReadyU.nil
                    simp only [List.getElem_toArray, List.getElem_cons_succ, List.getElem_cons_zero]
                    refine ite_is (by rfl) ?_
                    simp [go_sem]
                    refine hK.out _ _ ⟨fun h => absurd h (by decide), ?_⟩
                    clear hK K
                    try simp only [List.getElem_toArray, List.getElem_cons_succ, List.getElem_cons_zero, Act.put, List.setIfInBounds_toArray, List.set_cons_zero, List.set_cons_succ]
                    refine anyU_ready (rs := [20]) (by kernel_rfl) (by simp) ?_
                    refine ReadyU.cons (i := 20) rfl (fun K hK => ?_) ReadyU.nil
                    simp only [List.getElem_toArray, List.getElem_cons_succ, List.getElem_cons_zero]
                    refine ite_is (by rfl) ?_
                    simp [go_sem]
                    refine hK.out _ _ ⟨fun h => absurd h (by decide), ?_⟩
                    clear hK K
                    try simp only [List.getElem_toArray, List.getElem_cons_succ, List.getElem_cons_zero, Act.put, List.setIfInBounds_toArray, List.set_cons_zero, List.set_cons_succ]
                    have z3 : CY.cell? ⟨V1.heap.size, 3, none⟩ = some vq := BTy.out.cell 3 (by simp)
                    have zf := BTy.out.frozen 3
                    refine anyU_ready (rs := [21]) (by kernel_rfl) (by simp) ?_
                    refine ReadyU.cons (i := 21) rfl (fun K hK => ?_) ReadyU.nil
                    simp only [List.getElem_toArray, List.getElem_cons_succ, List.getElem_cons_zero]
                    refine ite_is (by rfl) ?_
                    simp [go_sem, z3, zf]
                    refine hK.out _ _ ⟨fun h => absurd h (by decide), ?_⟩
                    clear hK K z3 zf
                    try simp only [List.getElem_toArray, List.getElem_cons_succ, List.getElem_cons_zero, Act.put, List.setIfInBounds_toArray, List.set_cons_zero, List.set_cons_succ]
                    refine nameU ?_
                    intro CZ HCZ
                    have hgz : CY.grownBy CZ (some V1.heap.size) := by rw [HCZ.out]; exact grown_set _ _ _
                    have hsz : CY.heap.size ≤ CZ.heap.size := hgz.size
                    have BTz := Lib.hid (show BoxN CZ V1.heap.size #[.int .i64 d, .int .i64 i, .slice (some ⟨gp, 0, none⟩) (ps.length + 1) cp, .slice (some ⟨gq, 0, none⟩) (bs.length + 1) cq, .int .i64 0] 63 by rw [HCZ.out]; exact BTy.out.set 3 _)
                    clear HCZ
                    refine anyU_done (by kernel_rfl) ?_ _
                    have hp8 := Lib.hid (hatp.imp (fun e => e) (fun e => by omega) : vp.ownBlock = some gp ∨ V8.heap.size ≤ gp)
                    have hq8 := Lib.hid (hatq.imp (fun e => e) (fun e => by omega) : vq.ownBlock = some gq ∨ V8.heap.size ≤ gq)
                    have hne := Lib.hid (apart_round HAP.out (fun x hx => (LP.out x hx).2) (fun x hx => (LQ.out x hx).2) hatp hatq (by clear hatp hatq; omega) (by clear hatp hatq; omega) (fun e1 e2 => by clear hatp hatq; omega) : gp ≠ gq)
                    clear hatp hatq
                    have hBG := BoxN.round BG8.out G211x.out hgy hgz (by omega) (fun x hx => by have := (LP.out x hx).1; omega) (fun x hx => by have := (LQ.out x hx).1; omega) (by omega)
                    have hGR := grown_round GR8.out G211x.out hgy hgz (fun x hx => by have := (LP.out x hx).1; omega) (fun x hx => by have := (LQ.out x hx).1; omega) (by omega)
                    have hTR := Trs.round (n := ps.length + 1) (m := bs.length + 1) (cp := cp) (cq := cq) HTR8.out HT8.out (by omega) (by omega) (fun x hx => by have := HLPQ.out.1 x hx; omega) (fun x hx => by have := HLPQ.out.2 x hx; omega) G211x.out hgy hgz (by omega) hp8.out hq8.out (by rw [HLEN.out.2.1, HLEN.out.2.2])
                    have hOP := (((OP11x.out.far hgy (fun x e => by cases e; omega)).far hgz (fun x e => by cases e; omega)))
                    have hOQ := (((OQ11x.out.kept hgy (own_far OQ11x.out (by omega))).kept hgz (own_far ((OQ11x.out.kept hgy (own_far OQ11x.out (by omega)))) (by omega))))
                    have hPL := HPL.out
                    rw [HC.out, ploop_step HSEP.out F1.out F2.out HY.out hjd HGO.out] at hPL
                    go_wp2_with fail
                    go_roundw
                    case rel => exact ⟨0 + 1, ps ++ [(j : Int)], ts ++ [t], bs ++ [b], q', _, _, by omega, by go_num, by omega, by omega, Lib.hid (by simp only [List.length_append, List.length_cons, List.length_nil]; have := HLEN.out; omega), Lib.hid hPL, Lib.hid hBG, Lib.hid BTz.out, Lib.hid hOP, Lib.hid hOQ, Lib.hid (.inr (.inr (by simpa [Value.ownBlock] using hne.out))), Lib.hid hTR, Lib.hid hGR, by omega, Lib.hid (dep_snoc HDEP.out HY.out)⟩
                    case measure => simp [intOf]; omega
                  exact ReadyU.nil
                exact ReadyU.nil
              exact ReadyU.nil
            exact ReadyU.nil

end Go.Proofs.Ytlfdhhmccjkogaa
