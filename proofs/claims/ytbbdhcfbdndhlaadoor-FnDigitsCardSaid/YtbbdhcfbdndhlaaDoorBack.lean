/-
  The contract of slices.Backward at numbers: all come, the last first; each comes with its index. No condition on any program.
-/
import Derived.Test.YtbbdhcfbdndhlaaDoorRegIn
import Derived.Test.YtbbdhcfbdndhlaaDoorFrame
import Derived.Shelf.Abstract
namespace Go.Proofs.YtbbdhcfbdndhlaaDoor
open Go.RowKit Go.Shelf
attribute [local go_sem] Oper.semAt_some
set_option linter.unusedVariables false

/-- what comes: an index of the list -/
abbrev Ix (n : Nat) := { k : Nat // k < n }
/-- the first k that come, of n: n - 1, n - 2, .. -/
def downs (n : Nat) : Nat → List (Ix n)
  | 0 => []
  | k + 1 => downs n k ++ (if h : k < n then [⟨n - 1 - k, by omega⟩] else [])
theorem downs_length {n : Nat} : ∀ {k : Nat}, k ≤ n → (downs n k).length = k
  | 0, _ => rfl
  | k + 1, h => by rw [downs, dif_pos (show k < n by omega), List.length_append, downs_length (show k ≤ n by omega)]; rfl
theorem downs_succ {n k : Nat} (h : k < n) : downs n (k + 1) = downs n k ++ [⟨n - 1 - k, by omega⟩] := by rw [downs, dif_pos h]

/-- what a round keeps: the list's blocks and the box -/
def Kp2 (lo hi Bs : Nat) (W W' : World) : Prop := (∀ k, lo ≤ k → k < hi → W'.heap[k]? = W.heap[k]?) ∧ W'.heap[Bs]? = W.heap[Bs]?
theorem Kp2.trans {lo hi Bs : Nat} {A B C : World} (h : Kp2 lo hi Bs A B) (k : Kp2 lo hi Bs B C) : Kp2 lo hi Bs A C := ⟨fun i h1 h2 => (k.1 i h1 h2).trans (h.1 i h1 h2), k.2.trans h.2⟩
theorem Kp2.refl (lo hi Bs : Nat) (A : World) : Kp2 lo hi Bs A A := ⟨fun _ _ _ => rfl, rfl⟩
theorem Kp2.put {lo hi Bs : Nat} {w : World} (h1 : hi ≤ w.heap.size) (h2 : Bs < w.heap.size) (W : World) (l : Nat) (o o' : Obj) (hl : w.heap.size ≤ l) (ho : W.heap[l]? = some o) : Kp2 lo hi Bs W (W.putObj l o') := by
  have key : ∀ k, k ≠ l → (W.putObj l o').heap[k]? = W.heap[k]? := fun k hk => by
    simp only [World.putObj, Array.getElem?_setIfInBounds]
    rw [if_neg (fun e => hk e.symm)]
  exact ⟨fun k _ hk => key k (by omega), key Bs (by omega)⟩
theorem Kp2.grown {lo hi Bs : Nat} {w w' : World} {row : Option Nat} (hg : w.grownBy w' row) (h1 : hi ≤ w.heap.size) (h2 : Bs < w.heap.size) (hr : ∀ g, row = some g → (g < lo ∨ hi ≤ g) ∧ g ≠ Bs) : Kp2 lo hi Bs w w' :=
  ⟨fun k hk1 hk2 => hg.block k (by omega) (fun e => by have := hr k e.symm; omega), hg.block Bs h2 (fun e => (hr Bs e.symm).2 rfl)⟩
set_option maxRecDepth 100000 in
set_option maxHeartbeats 2000000 in
theorem back1_in (n : Nat) (hn : 1 ≤ n) (l Bs lo hi : Nat) (v : Value) (zs : List Int) (hl : zs.length ≤ 1099511627776) (J Jx : List (Ix zs.length) → World → Prop)
    (hY : ∀ pre x W, J pre W → pre.length < zs.length → YieldAt Fence.wide (n - 1) Tryd.prog l #[.int .i64 (x.1 : Nat), .int .i64 (nth zs x.1)] W fun e W' =>
      (e = .returned (.bool true) ∧ J (pre ++ [x]) W' ∧ Kp2 lo hi Bs W W') ∨ (e = .returned (.bool false) ∧ Jx (pre ++ [x]) W'))
    (W : World) (hbx : BoxN W Bs #[v] 26) (hI : IntS W lo hi v zs) (h0 : J [] W) :
    CallsIn Fence.wide n Tryd.prog 40 #[.func (.yield l) #[] #[], .pointer (some ⟨Bs, 0, none⟩)] W fun e W' => (∃ v, e = .returned v) ∧
      ((∃ ys, ys = downs zs.length zs.length ∧ J ys W') ∨ (∃ pre, (∃ k, k ≤ zs.length ∧ pre = downs zs.length k) ∧ Jx pre W')) := by
  refine callsIn_of_wp Tryd.func40 rfl trivial ?_ rfl
  simp only [Tryd.ntmps40, List.size_toArray, List.length_cons, List.length_nil, Nat.reduceAdd, Nat.reduceSub, Array.replicate_succ, Array.replicate_zero, List.push_toArray, List.append_toArray, List.nil_append, List.cons_append]
  have HI := Lib.hid hI
  have HX := Lib.hid hbx
  obtain ⟨A, c, rfl, hc, hd⟩ := hI.dims
  obtain ⟨len, HLEN⟩ : ∃ m, Hid (zs.length = m) := ⟨_, Lib.hid rfl⟩
  have hl2 : len ≤ 1099511627776 := by rw [← HLEN.out]; exact hl
  have hvv : Hid (Value.slice A zs.length c = .slice A len c) := Lib.hid (by rw [HLEN.out])
  have kb : W.cell? ⟨Bs, 0, none⟩ = some (.slice A len c) := by rw [← hvv.out]; exact HX.out.cell 0 (by simp)
  have hw0 : IntKind.i64.wrap ((len : Int) - 1) = (len : Int) - 1 := IntWalk.i64_in _ (by omega)
  clear hI hbx hl hc
  have HY := Lib.hid hY
  clear hY
  gi_wp2
  clear kb
  gi_loopw [3] (fun i wr => ∃ k : Nat, k ≤ len ∧ i = .int .i64 ((len : Int) - 1 - k) ∧ J (downs zs.length k) wr ∧ Hid (Kp2 lo hi Bs W wr))
    (fun i _ => (intOf i + 1).toNat)
  case atStart => exact ⟨0, Nat.zero_le _, by simp, h0, Lib.hid (Kp2.refl _ _ _ _)⟩
  case round =>
    obtain ⟨k, hk, rfl, hJs, HK⟩ := hrel
    have HX1 := Lib.hid (show BoxN wr Bs #[.slice A zs.length c] 26 from HK.out.2.trans HX.out)
    have HI1 := Lib.hid (show IntS wr lo hi (.slice A zs.length c) zs from Sl.keep HI.out HK.out.1)
    have kbr : wr.cell? ⟨Bs, 0, none⟩ = some (.slice A len c) := by rw [← hvv.out]; exact HX1.out.cell 0 (by simp)
    by_cases hlt : k < len
    · obtain ⟨i, HIX⟩ : ∃ i : Nat, Hid (len - 1 - k = i) := ⟨_, Lib.hid rfl⟩
      have hii : (len : Int) - 1 - (k : Int) = (i : Int) := by have := HIX.out; omega
      have hil : i < len := by have := HIX.out; omega
      have hili : (i : Int) < len := by omega
      have hw1 : IntKind.i64.wrap ((i : Int) - 1) = (i : Int) - 1 := IntWalk.i64_in _ (by omega)
      have hilz : i < zs.length := by rw [HLEN.out]; exact hil
      obtain ⟨b, off, rfl, _, _, hcx', _⟩ := IntS.opened HI1.out (j := i) hilz
      obtain ⟨fn, tmps, assign, body, hy, hR⟩ := HY.out _ (⟨i, hilz⟩ : Ix zs.length) wr hJs (by rw [downs_length (by rw [HLEN.out]; exact hk), HLEN.out]; exact hlt)
      dsimp only at hy
      rw [hii]
      obtain ⟨y, HYY⟩ : ∃ y, Hid (nth zs i = y) := ⟨_, Lib.hid rfl⟩
      rw [HYY.out] at hcx' hy
      clear hii
      gi_wp2
      refine hR.mono ?_
      rintro e W3 (⟨rfl, hJ3, hk3⟩ | ⟨rfl, hJx3⟩)
      · gi_wp2
        go_roundw
        case rel => exact ⟨k + 1, by omega, by (have := HIX.out; first | (congr 1; done) | (congr 1; omega)), by rw [downs_succ (by rw [HLEN.out]; exact hlt)]; have e : (⟨zs.length - 1 - k, by rw [HLEN.out]; omega⟩ : Ix zs.length) = ⟨i, hilz⟩ := Subtype.ext (by have := HIX.out; have := HLEN.out; show zs.length - 1 - k = i; omega); rw [e]; exact hJ3, Lib.hid (HK.out.trans hk3)⟩
        case measure => simp [intOf] <;> omega
      · gi_wp2
        refine bodyPost_ret (results_none rfl _ _ _) rfl ?_
        exact ⟨⟨_, rfl⟩, .inr ⟨_, ⟨k + 1, by rw [HLEN.out]; omega, by rw [downs_succ (by rw [HLEN.out]; exact hlt)]; congr 2; exact Subtype.ext (by have := HIX.out; have := HLEN.out; show i = zs.length - 1 - k; omega)⟩, hJx3⟩⟩
    · have hneg : ¬ (0 : Int) ≤ (len : Int) - 1 - (k : Int) := by omega
      have hkl : k = zs.length := by rw [HLEN.out]; omega
      have HKL := Lib.hid hkl; clear hkl
      gi_wp2
      go_end0
      rw [HKL.out] at hJs
      refine ⟨⟨_, rfl⟩, .inl ?_⟩
      first | exact hJs | exact ⟨_, rfl, hJs⟩
set_option maxHeartbeats 1000000 in
theorem back_any (A : Option Addr) (n c : Nat) (w : World) : Calls Tryd.prog 29 #[.slice A n c] w fun e w' => e = .returned (.func (.func 40) #[] #[.pointer (some ⟨w.heap.size, 0, none⟩)]) ∧ w' = w.alloc (.cells #[.slice A n c] 26) := by
  go_enter Tryd.func29, Tryd.ntmps29
  go_wp2
  go_ret
  exact ⟨rfl, rfl⟩
theorem back_stops (n : Nat) (hn : 1 ≤ n) (Bs lo hi : Nat) (v : Value) (zs : List Int) (hl : zs.length ≤ 1099511627776) (w : World) (hB : Bs < w.heap.size) (hh : hi ≤ w.heap.size) (hbx : BoxN w Bs #[v] 26) (hI : IntS w lo hi v zs) :
    SeqStopsK Fence.wide n Tryd.prog 40 #[.pointer (some ⟨Bs, 0, none⟩)] (fun x : Ix zs.length => #[Value.int .i64 (x.1 : Nat), Value.int .i64 (nth zs x.1)]) (Kp2 lo hi Bs) (fun ys => ys = downs zs.length zs.length)
      (fun pre => ∃ k, k ≤ zs.length ∧ pre = downs zs.length k) zs.length w := fun l J Jx W hW _ _ hY h0 =>
  back1_in n hn l Bs lo hi v zs hl J Jx hY W (hbx.below hW hB) (hI.below hW hh) h0

end Go.Proofs.YtbbdhcfbdndhlaaDoor
