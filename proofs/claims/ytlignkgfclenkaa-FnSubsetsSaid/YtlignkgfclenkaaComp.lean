/-
  Contracts: components of a network (program and reference), the greatest of some numbers.
-/
import Derived.Test.YtlignkgfclenkaaCompP
import Derived.Test.YtlignkgfclenkaaFrame
import Derived.Test.YtlignkgfclenkaaRepeat
import Derived.Test.YtlignkgfclenkaaDistI
import Derived.Test.YtlignkgfclenkaaNearP
import Derived.Test.YtlignkgfclenkaaShelf
namespace Go.Proofs.Ytlignkgfclenkaa
open Go.ChangeShapes Go.WideShapes Go.ChangeAt Go.RowKit
set_option linter.unusedVariables false

theorem foldl_max_mostI : ∀ (zs : List Int) (a : Int), 0 ≤ a → zs.foldl max a = zs.foldl (fun a x => if x < a then a else x) a
  | [], a, _ => rfl
  | x :: zs, a, h => by
    rw [List.foldl_cons, List.foldl_cons]
    have e : max a x = if x < a then a else x := by split <;> omega
    rw [e]
    exact foldl_max_mostI zs _ (by split <;> omega)
theorem maxOf_mostI {zs : List Int} (hn : 0 < zs.length) (h0 : ∀ x ∈ zs, 0 ≤ x) : Lib.maxOf zs = mostI zs := by
  cases zs with
  | nil => simp at hn
  | cons x zs =>
    have hx := h0 x (List.mem_cons_self ..)
    unfold Lib.maxOf mostI
    rw [List.headD_cons, List.foldl_cons, List.foldl_cons, if_neg (by omega), show max x x = x by omega]
    exact foldl_max_mostI zs x hx
theorem l1Most_any (a b : Int) (w : World) : Calls Try.prog 104 #[.int .i64 a, .int .i64 b] w fun e w' => e = .returned (.int .i64 (if b < a then a else b)) ∧ w = w' := by
  by_cases h : b < a
  · go_enter Try.func104, Try.ntmps104
    go_wp2
    go_ret
    exact ⟨rfl, rfl⟩
  · go_enter Try.func104, Try.ntmps104
    go_wp2
    go_ret
    exact ⟨rfl, rfl⟩

def ballL (ds : List Int) (r : Int) (m : Nat) : List Int := ((List.range m).filter fun w => inB (nth ds w) 0 r).map fun (w : Nat) => (w : Int)
theorem ballL_yes {ds : List Int} {r : Int} {m : Nat} (h : inB (nth ds m) 0 r = true) : ballL ds r (m + 1) = ballL ds r m ++ [(m : Int)] := by simp [ballL, List.range_succ, h]
theorem ballL_no {ds : List Int} {r : Int} {m : Nat} (h : inB (nth ds m) 0 r = false) : ballL ds r (m + 1) = ballL ds r m := by simp [ballL, List.range_succ, h]
theorem ballL_len (ds : List Int) (r : Int) (m : Nat) : (ballL ds r m).length ≤ m := by
  unfold ballL; rw [List.length_map]; exact Nat.le_trans (List.length_filter_le _ _) (by simp)
def ball (N : NetD) (v : Nat) (r : Int) : List Int := ballL (dist N v) r N.ends.length
theorem filter_head {p : Nat → Bool} : ∀ {n c : Nat}, c < n → p c = true → (∀ j, j < c → p j = false) → ∃ l, (List.range n).filter p = c :: l := by
  intro n c hc hp hb
  have h1 : List.range n = List.range c ++ (List.range (n - c)).map (c + ·) := by
    rw [← List.range_add]; congr 1; omega
  have h2 : (List.range c).filter p = [] := by
    rw [List.filter_eq_nil_iff]
    intro a ha
    rw [hb a (List.mem_range.1 ha)]; simp
  have h3 : n - c = (n - c - 1) + 1 := by omega
  rw [h1, List.filter_append, h2, List.nil_append, h3, List.range_succ_eq_map, List.map_cons, List.filter_cons, Nat.add_zero, if_pos hp]
  exact ⟨_, rfl⟩
theorem ball_head {N : NetD} (hg : N.good = true) {v : Nat} (hv : v < N.ends.length) : ∃ l, ball N v 40 = (comp N v : Int) :: l := by
  obtain ⟨a, b, c⟩ := comp_spec hg hv
  obtain ⟨n1, n40⟩ := good_n hg
  have hlow := fun {j} (hj : j < N.ends.length) => dist_low (good_nodes hg) hv hj
  obtain ⟨l, e⟩ := filter_head (p := fun w => inB (nth (dist N v) w) 0 40) a (by
    have := hlow a
    unfold Reach at b
    exact inB_true b (by omega)) (fun j hj => by
    have := c j hj
    unfold Reach at this
    exact inB_low (by omega))
  refine ⟨l.map fun (w : Nat) => (w : Int), ?_⟩
  unfold ball ballL
  rw [e]; rfl

end Go.Proofs.Ytlignkgfclenkaa
