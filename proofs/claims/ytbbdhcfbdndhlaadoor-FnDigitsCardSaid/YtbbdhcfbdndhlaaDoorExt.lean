/-
  Worlds that extend a world: all that was there is there still, new blocks may have come, draws may have been made. Regions whose operations read old memory and whose callees only make new memory: one walk of the text's order serves every order.
-/
import Derived.Test.YtbbdhcfbdndhlaaDoorMem
import Derived.Deep.Quiet
import Derived.BigQuiet
namespace Go.Proofs.YtbbdhcfbdndhlaaDoor
open Go.RowKit

/-- what has come: new blocks, and how many draws there have been -/
structure More where
  blocks : Array Obj
  draws : Nat
instance : Nonempty More := ⟨⟨#[], 0⟩⟩
def ext (W : World) (p : More) : World := { W with heap := W.heap ++ p.blocks, drawn := p.draws }
theorem ext_heap_old (W : World) (p : More) {k : Nat} (h : k < W.heap.size) : (ext W p).heap[k]? = W.heap[k]? := by simp [ext, Array.getElem?_append, h]
theorem ext_below (W : World) (p : More) : Below W.heap.size W (ext W p) := ⟨rfl, rfl, rfl, by simp [ext], fun k hk => ext_heap_old W p hk⟩
theorem ext_of_below {W w : World} (h : Below W.heap.size W w) : ∃ p, w = ext W p := by
  refine ⟨⟨w.heap.extract W.heap.size w.heap.size, w.drawn⟩, ?_⟩
  obtain ⟨h1, h2, h3, h4, h5⟩ := h
  cases w with
  | mk hp tp dr os out =>
    simp only [ext]
    simp only at h1 h2 h3 h4 h5
    subst h1 h2 h3
    congr 1
    apply Array.ext_getElem?
    intro i
    rw [Array.getElem?_append]
    by_cases hi : i < W.heap.size
    · rw [if_pos hi]; exact h5 i hi
    · rw [if_neg hi, Array.getElem?_extract]
      by_cases hl : i < hp.size
      · rw [if_pos (by omega), show W.heap.size + (i - W.heap.size) = i by omega]
      · rw [if_neg (by omega), Array.getElem?_eq_none (by omega)]
theorem ext_cell (W : World) {a : Addr} (h : a.block < W.heap.size) {v : Value} (hc : W.cell? a = some v) : ∀ p, (ext W p).cell? a = some v := fun p => (World.cell?_of_block (w := W) (ext_heap_old W p h)).trans hc
theorem ext_size (W : World) (p : More) : W.heap.size ≤ (ext W p).heap.size := (ext_below W p).size
/-- a callee's contract, met in such a world -/
theorem ext_call {P : Program} {f : FuncId} {args : Array Value} {W : World} {p : More} {v : Value}
    (h : Calls P f args (ext W p) fun e w' => e = .returned v ∧ Below (ext W p).heap.size (ext W p) w') : Calls P f args (ext W p) fun e w'' => e = .returned v ∧ ∃ q, w'' = ext W q :=
  h.mono fun _ _ ⟨he, hb⟩ => ⟨he, ext_of_below ((ext_below W p).trans (hb.mono (ext_size W p)))⟩
theorem ext_call_same {P : Program} {f : FuncId} {args : Array Value} {W : World} {p : More} {v : Value}
    (h : Calls P f args (ext W p) fun e w' => e = .returned v ∧ ext W p = w') : Calls P f args (ext W p) fun e w'' => e = .returned v ∧ ∃ q, w'' = ext W q :=
  h.mono fun _ _ ⟨he, hb⟩ => ⟨he, p, hb.symm⟩
theorem wp_region_ext {P : Program} {id : Nat} {Q : Exit → Act → World → Prop} {a : Act} {w : World} {l : List Oper} (hm : P.follows .mixedOrders = true) (hB : Region.lexB .any l.toArray = true)
    (h : wpQuiet P l.toArray (fun w' => ∃ p, w' = ext w p) (fun a' => ∀ w', (∃ p, w' = ext w p) → Q .normal a' w') l a) : (Code.region id l.toArray true).wp P Q a w :=
  wp_region_quiet (C := fun w' => ∃ p, w' = ext w p) hm hB ⟨⟨#[], w.drawn + 1⟩, by simp [ext]⟩ (by simpa using h)

end Go.Proofs.YtbbdhcfbdndhlaaDoor
