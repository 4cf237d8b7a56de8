/-
  Plain: bytes of a view's text as cells and as a string. No condition on any program.
-/
import Derived.Test.YtlfdhhmccjkogaaTxP
import Derived.Lib.UnsafeStr
namespace Go.Proofs.Ytlfdhhmccjkogaa
set_option linter.unusedVariables false

theorem dig_nat {n : Nat} (h : n ≤ 9) : (dig n).toNat = 48 + n := by unfold dig; simp; omega
theorem bc_hd {t : VT} (h1 : t.degree ≤ 6) (h2 : t.input ≤ 9) : Lib.byteCells (hdT t) = [.int .u8 (48 + (t.degree : Int)), .int .u8 46, .int .u8 (48 + (t.input : Int))] := by
  unfold hdT Lib.byteCells
  simp only [List.map_cons, List.map_nil, dig_nat (show t.degree ≤ 9 by omega), dig_nat h2]
  rfl
theorem bc_kid {a : Nat} (c : UInt8) (h : a ≤ 9) : Lib.byteCells [c, dig a, 58] = [.int .u8 (c.toNat : Int), .int .u8 (48 + (a : Int)), .int .u8 58] := by
  unfold Lib.byteCells
  simp only [List.map_cons, List.map_nil, dig_nat h]
  rfl
theorem bc_one (l : List UInt8) : ∀ u ∈ Lib.byteCells l, u.oneCell' = true := fun u hu => by
  unfold Lib.byteCells at hu
  obtain ⟨b, _, rfl⟩ := List.mem_map.1 hu
  rfl
theorem kids_mono {sub : VT → List UInt8} {ps : List Int} {ts : List VT} : ∀ {m k : Nat}, k ≤ m → (kids sub ps ts k).length ≤ (kids sub ps ts m).length
  | 0, k, h => by obtain rfl : k = 0 := by omega
                  exact Nat.le_refl _
  | m + 1, k, h => by
    by_cases e : k = m + 1
    · subst e; exact Nat.le_refl _
    · have := kids_mono (sub := sub) (ps := ps) (ts := ts) (show k ≤ m by omega)
      rw [kids, List.length_append]; omega
theorem kids_next {sub : VT → List UInt8} {ps : List Int} {ts : List VT} {k m a : Nat} (hk : k < m) (ha : nth ps k = (a : Int)) :
    kids sub ps ts (k + 1) = kids sub ps ts k ++ ([if k = 0 then 40 else 44, dig a, 58] ++ sub (nthT ts k)) ∧ (kids sub ps ts k).length + 3 + (sub (nthT ts k)).length ≤ (kids sub ps ts m).length := by
  have e : kids sub ps ts (k + 1) = kids sub ps ts k ++ ([if k = 0 then 40 else 44, dig a, 58] ++ sub (nthT ts k)) := by rw [kids, ha]; rfl
  refine ⟨e, ?_⟩
  have := kids_mono (sub := sub) (ps := ps) (ts := ts) (show k + 1 ≤ m by omega)
  rw [e] at this
  simp only [List.length_append, List.length_cons, List.length_nil] at this
  omega
theorem txt_flat {n : Nat} {t : VT} (h : n = 0 ∨ t.parts.length = 0) : txt n t = hdT t := by
  cases n with
  | zero => rfl
  | succ n => rw [txt, if_pos (h.resolve_left (by omega))]
theorem txt_deep {n : Nat} {t : VT} (h : ¬ t.parts.length = 0) : txt (n + 1) t = hdT t ++ kids (txt n) t.ports t.parts t.parts.length ++ [41] := by rw [txt, if_neg h]
theorem txt_deep_len {n : Nat} {t : VT} (h : ¬ t.parts.length = 0) : (txt (n + 1) t).length = (kids (txt n) t.ports t.parts t.parts.length).length + 4 := by
  rw [txt_deep h]; simp only [List.length_append, hdT_len, List.length_cons, List.length_nil]; omega
theorem OkT.deg {n : Nat} {t : VT} (h : OkT n t) : t.degree ≤ 6 ∧ t.input ≤ 9 ∧ t.ports.length = t.parts.length ∧ t.parts.length ≤ 6 := by
  have := OkT_zero.1 h.zero
  exact ⟨this.1, this.2.1, this.2.2.1, this.2.2.2.1⟩
theorem OkT.port {n : Nat} {t : VT} (h : OkT n t) {j : Nat} (hj : j < t.parts.length) : ∃ a : Nat, nth t.ports j = a ∧ a ≤ 5 := (OkT_zero.1 h.zero).2.2.2.2 j hj
/-- the text of a view's beginning, as a string -/
def txtS (n : Nat) (t : VT) : ByteArray := ⟨(txt n t).toArray⟩
end Go.Proofs.Ytlfdhhmccjkogaa
