/-
  Words for the walks over arrays, further: an array or struct loaded from inside a block; one element out of an array's value.
-/
import Derived.Test.YtmokngiokdffdaaHw
namespace Go.Proofs.Ytmokngiokdffdaa.P
open Go.RowKit Go.Proofs.YtmokngiokdffdaaW.PrintWords Go.Proofs.YtmokngiokdffdaaW.PrintLast Go.Proofs.YtmokngiokdffdaaW.PrintMore
set_option linter.unusedVariables false
section
variable {P : Program} {ops : Array Oper} {rest : List Oper} {o : Oper} {a : Act} {Q : Exit → Act → World → Prop} {W : World}
theorem run_loadVar_at (W : World) (ty : TypeId) (a0 : Addr) (cs : List Value) (d : TypeDesc)
    (hc : ∀ j v, cs[j]? = some v → W.cell? (a0.add j) = some v)
    (hu : P.underlying ty = some d) (hd : (match d with | .struct _ | .array _ _ => true | _ => false) = true) (hi : (P.info? ty).map (·.size) = some cs.length) :
    (loadVar ty a0).run P W = .ok (.agg cs.toArray) W := by
  have hl := run_loadCells_list (P := P) W a0 cs hc
  cases hq : P.info? ty with
  | none => simp [hq] at hi
  | some i =>
    have hs : i.size = cs.length := by simpa [hq] using hi
    have hagg : (isAgg ty).run P W = .ok true W := by
      unfold isAgg
      rw [Sem.run_bind, run_underlying hu W]
      cases d <;> simp_all
    simp [loadVar, Sem.run_bind, hagg, sizeOf, typeInfo, hq, hs, hl]
/-- An array or struct read at whatever address. -/
theorem load_ev (ty : TypeId) (x : Operand) (a0 : Addr) (cs : List Value) (d : TypeDesc) (hgd : o.guard = none) (ho : o.op = .load ty x) (hx : a.eval x = .pointer (some a0))
    (hc : ∀ j v, cs[j]? = some v → W.cell? (a0.add j) = some v)
    (hu : P.underlying ty = some d) (hd : (match d with | .struct _ | .array _ _ => true | _ => false) = true) (hi : (P.info? ty).map (·.size) = some cs.length)
    (h : wpList P ops Q rest (a.put o.dst (.agg cs.toArray)) W) : wpList P ops Q (o :: rest) a W := by
  refine wpList_plain hgd fun K hK => ?_
  unfold Oper.wp execOp
  simp only [ho, hx, Instr.loadAt, Instr.sureAddr, Sem.run_bind, Sem.run_pure, Result.andThen_ok, run_loadVar_at W ty a0 cs d hc hu hd hi]
  exact hK _ _ h
/-- One element of an array's value. -/
theorem index_ev (ty e : TypeId) (x y : Operand) (cs : Array Value) (k len : Nat) (v : Value) (kd : IntKind) (hgd : o.guard = none) (ho : o.op = .index ty x y) (hx : a.eval x = .agg cs) (hy : a.eval y = .int .i64 (k : Int))
    (hu : P.underlying ty = some (.array len e)) (he : P.underlying e = some (.int kd)) (hi : (P.info? e).map (·.size) = some 1) (hk : k < len) (hv : cs[k]? = some v)
    (h : wpList P ops Q rest (a.put o.dst v) W) : wpList P ops Q (o :: rest) a W := by
  refine wpList_plain hgd fun K hK => ?_
  have hrun : (Instr.index ty (.agg cs) (.int .i64 (k : Int))).run P W = .ok v W := by
    cases hq : P.info? e with
    | none => simp [hq] at hi
    | some i =>
      have hs : i.size = 1 := by simpa [hq] using hi
      have hagg : (isAgg e).run P W = .ok false W := by
        unfold isAgg
        rw [Sem.run_bind, run_underlying he W]
        rfl
      simp [Instr.index, asIntOf, Sem.run_bind, run_underlying hu, sizeOf, typeInfo, hq, hs, part, hagg, hv, hk]
  unfold Oper.wp execOp
  simp only [ho, hx, hy, Sem.run_bind, hrun, Result.andThen_ok]
  exact hK _ _ h
end
end Go.Proofs.Ytmokngiokdffdaa.P
