/-
  Plain: the text of a view cut at a depth; a view that was read fits into the text it was read from. No condition on any program.
-/
import Derived.Test.YtlfdhhmccjkogaaVtM
namespace Go.Proofs.Ytlfdhhmccjkogaa
set_option linter.unusedVariables false

def dig (n : Nat) : UInt8 := UInt8.ofNat (48 + n)
def hdT (t : VT) : List UInt8 := [dig t.degree, 46, dig t.input]
/-- the text of the first k parts, each with what stands ahead of it -/
def kids (sub : VT → List UInt8) (ps : List Int) (ts : List VT) : Nat → List UInt8
  | 0 => []
  | k + 1 => kids sub ps ts k ++ ([if k = 0 then 40 else 44, dig (nth ps k).toNat, 58] ++ sub (nthT ts k))
/-- the text of a view that is cut at depth n -/
def txt : Nat → VT → List UInt8
  | 0, t => hdT t
  | n + 1, t => if t.parts.length = 0 then hdT t else hdT t ++ kids (txt n) t.ports t.parts t.parts.length ++ [41]
theorem hdT_len (t : VT) : (hdT t).length = 3 := rfl
/-- its numbers are digits, down to depth n -/
def Ok0 (t : VT) : Prop := t.degree ≤ 6 ∧ t.input ≤ 9 ∧ t.ports.length = t.parts.length ∧ t.parts.length ≤ 6 ∧ ∀ j, j < t.parts.length → ∃ a : Nat, nth t.ports j = a ∧ a ≤ 5
def OkT : Nat → VT → Prop
  | 0, t => Ok0 t
  | n + 1, t => Ok0 t ∧ ∀ j, j < t.parts.length → OkT n (nthT t.parts j)
theorem OkT_zero {t : VT} : OkT 0 t ↔ (t.degree ≤ 6 ∧ t.input ≤ 9 ∧ t.ports.length = t.parts.length ∧ t.parts.length ≤ 6 ∧ ∀ j, j < t.parts.length → ∃ a : Nat, nth t.ports j = a ∧ a ≤ 5) := Iff.rfl
theorem OkT_succ {n : Nat} {t : VT} : OkT (n + 1) t ↔ (OkT 0 t ∧ ∀ j, j < t.parts.length → OkT n (nthT t.parts j)) := Iff.rfl
theorem OkT.zero : ∀ {n : Nat} {t : VT}, OkT n t → OkT 0 t
  | 0, _, h => h
  | _ + 1, _, h => (OkT_succ.1 h).1
theorem kids_left {sub : VT → List UInt8} {ps js : List Int} {ts us : List VT} (hp : ps.length = ts.length) : ∀ {k : Nat}, k ≤ ts.length → kids sub (ps ++ js) (ts ++ us) k = kids sub ps ts k
  | 0, _ => rfl
  | k + 1, h => by
    have e1 : nth (ps ++ js) k = nth ps k := by
      unfold nth; rw [List.getD_eq_getElem?_getD, List.getD_eq_getElem?_getD, List.getElem?_append_left (by omega)]
    have e2 : nthT (ts ++ us) k = nthT ts k := by
      unfold nthT; rw [List.getD_eq_getElem?_getD, List.getD_eq_getElem?_getD, List.getElem?_append_left (by omega)]
    rw [kids, kids, kids_left hp (by omega), e1, e2]
theorem kids_snoc {sub : VT → List UInt8} {ps : List Int} {ts : List VT} {j : Int} {t : VT} (hp : ps.length = ts.length) :
    (kids sub (ps ++ [j]) (ts ++ [t]) (ts ++ [t]).length).length = (kids sub ps ts ts.length).length + 3 + (sub t).length := by
  have e : (ts ++ [t]).length = ts.length + 1 := by simp
  have e2 : nthT (ts ++ [t]) ts.length = t := by simp [nthT]
  rw [e, kids, kids_left hp (Nat.le_refl _), e2]
  simp only [List.length_append, List.length_cons, List.length_nil]
  omega
/-- what a reading of one part says -/
def ReadOk (n : Nat) (sub : Nat → Option (VT × Nat)) : Prop := ∀ p t q, sub p = some (t, q) → p ≤ q ∧ (txt n t).length ≤ q - p ∧ OkT n t
theorem ploop_ok {n : Nat} {sub : Nat → Option (VT × Nat)} {s : ByteArray} (hs : ReadOk n sub) : ∀ {c : Nat} {ps : List Int} {ts : List VT} {p : Nat} {ps' : List Int} {ts' : List VT} {q : Nat},
    ps.length = ts.length → (∀ j, j < ts.length → ∃ a : Nat, nth ps j = a ∧ a ≤ 5) → (∀ j, j < ts.length → OkT n (nthT ts j)) → ploop true sub s c ps ts p = some (ps', ts', q) →
    ps'.length = ts'.length ∧ ts'.length = ts.length + c ∧ (∀ j, j < ts'.length → ∃ a : Nat, nth ps' j = a ∧ a ≤ 5) ∧ (∀ j, j < ts'.length → OkT n (nthT ts' j)) ∧ p ≤ q ∧
      (kids (txt n) ps' ts' ts'.length).length + p ≤ (kids (txt n) ps ts ts.length).length + q + (if ts.length = 0 then 1 else 0)
  | 0, ps, ts, p, ps', ts', q, hp, h1, h2, h => by
    rw [ploop] at h
    injection h with h
    injection h with e1 h
    injection h with e2 e3
    subst e1; subst e2; subst e3
    exact ⟨hp, rfl, h1, h2, Nat.le_refl _, by omega⟩
  | c + 1, ps, ts, p, ps', ts', q, hp, h1, h2, h => by
    rw [ploop] at h
    split at h
    · cases h
    · rename_i p1 e1
      split at h
      · cases h
      · rename_i j e2
        obtain ⟨_, hj5, _⟩ := dg_some e2 (by omega)
        split at h
        · split at h
          · cases h
          · rename_i t q1 e3
            obtain ⟨r1, r2, r3⟩ := hs _ _ _ e3
            split at h
            · have hl : (ps ++ [(j : Int)]).length = (ts ++ [t]).length := by simp [hp]
              have hps : ∀ i, i < (ts ++ [t]).length → ∃ a : Nat, nth (ps ++ [(j : Int)]) i = a ∧ a ≤ 5 := fun i hi => by
                by_cases e : i < ts.length
                · obtain ⟨a, ea, ha⟩ := h1 i e
                  exact ⟨a, by rw [← ea]; unfold nth; rw [List.getD_eq_getElem?_getD, List.getD_eq_getElem?_getD, List.getElem?_append_left (by omega)], ha⟩
                · have e4 : i = ps.length := by simp at hi; omega
                  exact ⟨j, by subst e4; simp [nth], hj5⟩
              have hts : ∀ i, i < (ts ++ [t]).length → OkT n (nthT (ts ++ [t]) i) := fun i hi => by
                by_cases e : i < ts.length
                · have e5 : nthT (ts ++ [t]) i = nthT ts i := by unfold nthT; rw [List.getD_eq_getElem?_getD, List.getD_eq_getElem?_getD, List.getElem?_append_left e]
                  rw [e5]; exact h2 i e
                · have e4 : i = ts.length := by simp at hi; omega
                  subst e4
                  have e5 : nthT (ts ++ [t]) ts.length = t := by simp [nthT]
                  rw [e5]; exact r3
              obtain ⟨a1, a2, a3, a4, a5, a6⟩ := ploop_ok hs hl hps hts h
              rw [kids_snoc hp] at a6
              have hsep : p1 = p + (if ts.length = 0 then 0 else 1) := by
                unfold sepAt at e1
                cases ts with
                | nil => simp at e1; simp [e1]
                | cons u us =>
                  simp at e1
                  simp [e1.2]
              have hne : ¬ (ts ++ [t]).length = 0 := by simp
              rw [if_neg hne] at a6
              refine ⟨a1, by rw [a2]; simp; omega, a3, a4, ?_, ?_⟩
              · split at hsep <;> omega
              · split at hsep <;> rename_i hz
                · rw [if_pos hz]; omega
                · rw [if_neg hz]; omega
            · cases h
        · cases h
theorem pv_ok {s : ByteArray} : ∀ {f : Nat} (n : Nat), ReadOk n (pv f s)
  | 0, n => fun p t q h => by cases h
  | f + 1, n => fun p t q h => by
    rw [pv] at h
    unfold pnode at h
    split at h
    · cases h
    · rename_i d e1
      obtain ⟨_, hd6, _⟩ := dg_some e1 (by omega)
      split at h
      · split at h
        · cases h
        · rename_i i e2
          obtain ⟨_, hi9, _⟩ := dg_some e2 (by omega)
          split at h
          · injection h with h
            injection h with h1 h2
            subst h1; subst h2
            have h0 : OkT 0 (.node d i [] [] 0) := OkT_zero.2 ⟨hd6, hi9, rfl, Nat.zero_le _, fun j hj => absurd hj (by simp [VT.parts])⟩
            cases n with
            | zero => exact ⟨by omega, by show 3 ≤ _; omega, h0⟩
            | succ n =>
              refine ⟨by omega, ?_, OkT_succ.2 ⟨h0, fun j hj => absurd hj (by simp [VT.parts])⟩⟩
              rw [txt, if_pos (show (VT.node d i [] [] 0).parts.length = 0 from rfl), hdT_len]; omega
          · split at h
            · cases h
            · rename_i ps ts q1 e3
              split at h
              · injection h with h
                injection h with h1 h2
                subst h1; subst h2
                cases n with
                | zero =>
                  obtain ⟨a1, a2, a3, a4, a5, a6⟩ := ploop_ok (pv_ok 0) rfl (fun j hj => absurd hj (by simp)) (fun j hj => absurd hj (by simp)) e3
                  exact ⟨by omega, by show 3 ≤ _; omega, OkT_zero.2 ⟨hd6, hi9, a1, by show ts.length ≤ 6; simp at a2; omega, a3⟩⟩
                | succ n =>
                  obtain ⟨a1, a2, a3, a4, a5, a6⟩ := ploop_ok (pv_ok n) rfl (fun j hj => absurd hj (by simp)) (fun j hj => absurd hj (by simp)) e3
                  refine ⟨by omega, ?_, OkT_succ.2 ⟨OkT_zero.2 ⟨hd6, hi9, a1, by show ts.length ≤ 6; simp at a2; omega, a3⟩, a4⟩⟩
                  rw [txt]
                  by_cases hz : (VT.node d i ps ts (if true = true then hdD ts else mxD ts)).parts.length = 0
                  · rw [if_pos hz, hdT_len]; omega
                  · rw [if_neg hz]
                    have a6' : (kids (txt n) ps ts ts.length).length + (p + 4) ≤ q1 + 1 := by
                      have e0 : (kids (txt n) ([] : List Int) [] ([] : List VT).length).length = 0 := rfl
                      rw [e0, if_pos (show ([] : List VT).length = 0 from rfl)] at a6
                      omega
                    simp only [List.length_append, hdT_len, List.length_cons, List.length_nil]
                    show 3 + (kids (txt n) ps ts ts.length).length + 1 ≤ _
                    omega
              · cases h
      · cases h
theorem OkT.at_ {n : Nat} {t : VT} (h : OkT (n + 1) t) {j : Nat} (hj : j < t.parts.length) : OkT n (nthT t.parts j) := (OkT_succ.1 h).2 j hj

end Go.Proofs.Ytlfdhhmccjkogaa
