/-
  Words for the walks over arrays: a block's cells as a list of words; a new block, a row stored and loaded, each as one step of a walk that leaves the world a variable.
-/
import Derived.Test.YtmokngiokdffdaaDa
import Derived.Laws.Rows
namespace Go.Proofs.Ytmokngiokdffdaa.P
open Go.RowKit Go.Proofs.YtmokngiokdffdaaW.PrintWords Go.Proofs.YtmokngiokdffdaaW.PrintLast Go.Proofs.YtmokngiokdffdaaW.PrintMore
set_option linter.unusedVariables false

/-- The cells of words. -/
def wv (L : List Nat) : List Value := L.map fun x => .int .u32 ((x : Nat) : Int)
theorem wv_length (L : List Nat) : (wv L).length = L.length := by simp [wv]
theorem wv_append (L M : List Nat) : wv (L ++ M) = wv L ++ wv M := by simp [wv]
theorem wv_cell {w : World} {g t : Nat} {L : List Nat} (h : w.heap[g]? = some (.cells (wv L).toArray t (0, 0))) (i : Nat) (hi : i < L.length) : w.cell? ⟨g, i, none⟩ = some (.int .u32 ((L.getD i 0 : Nat) : Int)) := by
  rw [blk_cell h i]
  simp [wv, hi, List.getD_eq_getElem?_getD]
theorem wv_set (L : List Nat) (i x : Nat) : (wv L).toArray.setIfInBounds i (.int .u32 ((x : Nat) : Int)) = (wv (L.set i x)).toArray := by
  simp [wv, List.map_set]
theorem nums_cell {w : World} {g t : Nat} {k : IntKind} {L : List Int} (h : w.heap[g]? = some (.cells (nums k L).toArray t (0, 0))) (i : Nat) (hi : i < L.length) : w.cell? ⟨g, i, none⟩ = some (.int k (L.getD i 0)) := by
  rw [blk_cell h i]
  simp [nums, hi, List.getD_eq_getElem?_getD]
theorem wv_one (L : List Nat) : (wv L).toArray.all (·.oneCell') = true := by
  simp [wv, Value.oneCell']
theorem nums_one (k : IntKind) (L : List Int) : (nums k L).toArray.all (·.oneCell') = true := by
  simp [nums, Value.oneCell']

section
variable {P : Program} {ops : Array Oper} {rest : List Oper} {o : Oper} {a : Act} {Q : Exit → Act → World → Prop} {W : World}
/-- A new block of its zeroes. -/
theorem alloc_ev (cs : Array Value) (t : TypeId) (hgd : o.guard = none) (hop : o.op = .alloc t)
    (hrun : (execOp a.eval o).run P W = .ok (.value (.pointer (some ⟨W.heap.size, 0, none⟩))) (W.alloc (.cells cs t (0, 0))))
    (h : ∀ w1, Aside0 (w1.heap[W.heap.size]? = some (.cells cs t (0, 0))) → Aside0 (Below W.heap.size W w1) → Aside0 (w1.heap.size = W.heap.size + 1) → wpList P ops Q rest (a.put o.dst (.pointer (some ⟨W.heap.size, 0, none⟩))) w1) : wpList P ops Q (o :: rest) a W :=
  Kd.event_run hgd hrun (h _ ⟨blk_new W _⟩ ⟨below_alloc (Below.refl _ _) _⟩ ⟨by simp⟩)
/-- A value laid in a new block. -/
theorem box_ev (cs : Array Value) (t : TypeId) (x : Operand) (hgd : o.guard = none) (hop : o.op = .box t x) (hx : a.eval x = .agg cs)
    (h : ∀ w1, Aside0 (w1.heap[W.heap.size]? = some (.cells cs t (0, 0))) → Aside0 (Below W.heap.size W w1) → Aside0 (w1.heap.size = W.heap.size + 1) → wpList P ops Q rest (a.put o.dst (.pointer (some ⟨W.heap.size, 0, none⟩))) w1) : wpList P ops Q (o :: rest) a W := by
  refine Kd.event_run hgd ?_ (h _ ⟨blk_new W _⟩ ⟨below_alloc (Below.refl _ _) _⟩ ⟨by simp⟩)
  unfold execOp
  simp only [hop, hx, Sem.run_bind, Instr.box, newVar, newRow, run_newObj_alloc, Sem.run_pure, Result.andThen_ok]
  rfl
/-- A whole row stored at a block's head. -/
theorem store_ev {w0 : World} (g : Nat) (cells old : Array Value) (t ty : TypeId) (x y : Operand) (hgd : o.guard = none) (ho : o.op = .store ty x y) (hx : a.eval x = .pointer (some ⟨g, 0, none⟩)) (hy : a.eval y = .agg cells)
    (hg : w0.heap[g]? = some (.cells old t (0, 0))) (hi : (P.info? ty).map (·.size) = some cells.size) (hold : old.size = cells.size) (h1 : cells.all (·.oneCell') = true)
    (h : ∀ w1, Aside0 (w1.heap[g]? = some (.cells cells t (0, 0))) → Aside0 (w0.grownBy w1 (some g)) → wpList P ops Q rest (a.put o.dst undef) w1) : wpList P ops Q (o :: rest) a w0 :=
  wpList_store_row hgd ty x y ho g cells hx hy t old hg hi hold h1 (h _ ⟨setRow_heap w0 g old cells t (0, 0) hg⟩ ⟨rfl, rfl, rfl, by simp, fun k hk hne => setRow_other w0 g k cells (fun e => hne (by rw [e]))⟩)
/-- An array literal. -/
theorem build_ev (cells : Array Value) (t : TypeId) (parts : Array (Nat × Operand)) (hg : o.guard = none) (ho : o.op = .build t parts)
    (hc : P.built t (parts.map fun (i, x) => (i, a.eval x)).toList = some cells)
    (h : wpList P ops Q rest (a.put o.dst (.agg cells)) W) : wpList P ops Q (o :: rest) a W := by
  refine wpList_build hg t parts ho (by rw [hc]; rfl) ?_
  rw [hc]; exact h
end

/-- What holds of worlds between which block g alone may have been written. -/
theorem kg_refl (g : Nat) (w : World) : w.grownBy w (some g) := ⟨rfl, rfl, rfl, Nat.le_refl _, fun _ _ _ => rfl⟩
theorem kg_trans {g : Nat} {a b c : World} (h : a.grownBy b (some g)) (k : b.grownBy c (some g)) : a.grownBy c (some g) :=
  ⟨k.os.trans h.os, k.tape.trans h.tape, k.output.trans h.output, Nat.le_trans h.size k.size, fun i hi hn => (k.block i (Nat.lt_of_lt_of_le hi h.size) hn).trans (h.block i hi hn)⟩
theorem kg_below {g : Nat} {a b : World} (h : Below a.heap.size a b) : a.grownBy b (some g) := grown_of_below h _
theorem kg_set {g : Nat} (w : World) (j : Nat) (v : Value) : w.grownBy (w.setCell ⟨g, j, none⟩ v) (some g) := ⟨rfl, rfl, rfl, by simp, fun i _ hn => Below.heap_setCell w ⟨g, j, none⟩ v i (fun e => hn (by rw [e]))⟩
theorem kg_drew {g : Nat} {a b : World} (h : a.grownBy b (some g)) : a.grownBy b.drew (some g) := ⟨h.os, h.tape, h.output, h.size, h.block⟩
theorem kg_drewN {g : Nat} {a b : World} (h : a.grownBy b (some g)) (n : Nat) : a.grownBy (b.drewN n) (some g) := ⟨h.os, h.tape, h.output, h.size, h.block⟩
theorem kg_blk {g i : Nat} {a b : World} {o : Obj} (h : a.grownBy b (some g)) (hb : a.heap[i]? = some o) (hi : i ≠ g) : b.heap[i]? = some o := (h.block i (blk_lt hb) (by simpa using hi)).trans hb
theorem below_kg {B g : Nat} {w a b : World} (h : Below B w a) (hB : B ≤ a.heap.size) (k : a.grownBy b (some g)) (hg : B ≤ g) : Below B w b := h.grown k hB (fun i e => by cases e; exact hg)

end Go.Proofs.Ytmokngiokdffdaa.P
