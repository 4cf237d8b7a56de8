/-
  Plain: what CutView and ChildView return. No condition on any program.
-/
import Derived.Test.YtlfdhhmccjkogaaTxQ
import Derived.Test.YtlfdhhmccjkogaaVi
namespace Go.Proofs.Ytlfdhhmccjkogaa
set_option linter.unusedVariables false

theorem vread_ok {s : ByteArray} {t : VT} (h : vread s = some t) (n : Nat) : OkT n t ∧ (txt n t).length ≤ 4000 := by
  unfold vread at h
  split at h
  · rename_i hs
    split at h
    · cases h
    · rename_i t' q e
      split at h
      · rename_i hq
        injection h with h; subst h
        obtain ⟨h1, h2, h3⟩ := pv_ok n _ _ _ e
        exact ⟨h3, by omega⟩
      · cases h
  · cases h
/-- what CutView returns -/
def cutOk (s : ByteArray) (x : Int) : Bool := match vread s with
  | none => false
  | some _ => inB x 0 80
def cutS (s : ByteArray) (x : Int) : ByteArray := match vread s with
  | none => ⟨#[]⟩
  | some t => if inB x 0 80 = true then txtS x.toNat t else ⟨#[]⟩
/-- what ChildView returns -/
def chlOk (s : ByteArray) (x : Int) : Bool := match vread s with
  | none => false
  | some t => inB x 0 ((t.parts.length : Int) - 1)
def chlS (s : ByteArray) (x : Int) : ByteArray := match vread s with
  | none => ⟨#[]⟩
  | some t => if inB x 0 ((t.parts.length : Int) - 1) = true then txtS 80 (nthT t.parts x.toNat) else ⟨#[]⟩
def chlI (s : ByteArray) (x : Int) : Int := match vread s with
  | none => 0
  | some t => if inB x 0 ((t.parts.length : Int) - 1) = true then nth t.ports x.toNat else 0
section
variable {s : ByteArray} {x : Int} {t : VT}
theorem cut_none (h : vread s = none) : cutOk s x = false ∧ cutS s x = ⟨#[]⟩ := by unfold cutOk cutS; rw [h]; exact ⟨rfl, rfl⟩
theorem cut_out (h : vread s = some t) (hx : inB x 0 80 = false) : cutOk s x = false ∧ cutS s x = ⟨#[]⟩ := by unfold cutOk cutS; rw [h]; simp [hx]
theorem cut_yes (h : vread s = some t) (hx : inB x 0 80 = true) : cutOk s x = true ∧ cutS s x = txtS x.toNat t := by unfold cutOk cutS; rw [h]; simp [hx]
theorem chl_none (h : vread s = none) : chlOk s x = false ∧ chlS s x = ⟨#[]⟩ ∧ chlI s x = 0 := by unfold chlOk chlS chlI; rw [h]; exact ⟨rfl, rfl, rfl⟩
theorem chl_out (h : vread s = some t) (hx : inB x 0 ((t.parts.length : Int) - 1) = false) : chlOk s x = false ∧ chlS s x = ⟨#[]⟩ ∧ chlI s x = 0 := by unfold chlOk chlS chlI; rw [h]; simp [hx]
theorem chl_yes (h : vread s = some t) (hx : inB x 0 ((t.parts.length : Int) - 1) = true) : chlOk s x = true ∧ chlS s x = txtS 80 (nthT t.parts x.toNat) ∧ chlI s x = nth t.ports x.toNat := by unfold chlOk chlS chlI; rw [h]; simp [hx]
end
theorem inB_iff {x lo hi : Int} : inB x lo hi = true ↔ lo ≤ x ∧ x ≤ hi := by unfold inB; simp
theorem OkT.kid {t : VT} (h : ∀ n, OkT n t ∧ (txt n t).length ≤ 4000) {j : Nat} (hj : j < t.parts.length) (n : Nat) : OkT n (nthT t.parts j) ∧ (txt n (nthT t.parts j)).length ≤ 4000 := by
  refine ⟨(h (n + 1)).1.at_ hj, ?_⟩
  have h1 := (h (n + 1)).2
  obtain ⟨a, ha, _⟩ := (h (n + 1)).1.port hj
  have := (kids_next (sub := txt n) (ps := t.ports) (ts := t.parts) hj ha).2
  rw [txt_deep_len (by omega)] at h1
  omega

end Go.Proofs.Ytlfdhhmccjkogaa
