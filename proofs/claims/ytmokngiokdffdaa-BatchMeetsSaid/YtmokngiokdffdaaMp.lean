/-
  A request's pair as a key of a map; a map of pairs that the call makes: what it holds.
-/
import Derived.Test.YtmokngiokdffdaaLi
import Derived.DeepKeys4
import Derived.Maps.Views
import Derived.Carry
namespace Go.Proofs.Ytmokngiokdffdaa.P
open Go.RowKit Go.Proofs.YtmokngiokdffdaaW.PrintWords Go.Proofs.YtmokngiokdffdaaW.PrintLast Go.Proofs.YtmokngiokdffdaaW.PrintMore
open Go.Maps (Keyed IsMap)
set_option linter.unusedVariables false

theorem laidOut : laidOutB Try.prog = true := by kernel_rfl
theorem row58 : 58 < Try.prog.types.size := of_decide_eq_true (by kernel_rfl)
theorem wide58 : (match Try.prog.underlying 58 with | some (.array _ _) | some (.struct _) => true | _ => false) = true := by kernel_rfl
theorem law58 : Keyed Try.prog 58 := Keyed.of_law (deep_law_laid laidOut (m := 2) (by omega) row58 (by kernel_rfl) wide58)
theorem kt58 : Try.prog.keyType 58 = true := by kernel_rfl
theorem types_size : ∃ N, Try.prog.types.size = N + 1 := ⟨Try.prog.types.size - 1, by kernel_rfl⟩
theorem cells58 : Try.prog.cellsOf 58 = 2 := by kernel_rfl
theorem cells3 : Try.prog.cellsOf 3 = 1 := by kernel_rfl

def pairV (c n : Int) : Value := .agg #[.int .i64 c, .int .i64 n]
def In64 (x : Int) : Prop := -9223372036854775808 ≤ x ∧ x < 9223372036854775808
theorem wf64 {x : Int} (h : In64 x) : (Lit.int .i64 x).wf = true := WalkArith.wf_i64 (by unfold In64 at h; omega)
theorem key_gen {P : Program} {k : TypeId} (f0 f1 : Field) (hu : P.underlying k = some (.struct #[f0, f1])) (t0 : P.underlying f0.type = some (.int .i64)) (t1 : P.underlying f1.type = some (.int .i64)) (n0 : (f0.name != "_") = true) (n1 : (f1.name != "_") = true)
    (o0 : f0.offset = 0) (o1 : f1.offset = 1) (hc : P.cellsOf k = 2) (c0 : P.cellsOf f0.type = 1) (c1 : P.cellsOf f1.type = 1) (hkt : P.keyType k = true) (hs : ∃ N, P.types.size = N + 1) (c n : Int) (wc : (Lit.int .i64 c).wf = true) (wn : (Lit.int .i64 n).wf = true) :
    ∃ kl, keyOf P k (pairV c n) = some kl := by
  obtain ⟨N, hN⟩ := hs
  have e0 : P.keyLits (N + 1) f0.type [.int .i64 c] = some [.int .i64 c] := by simp [Program.keyLits, t0, wc]
  have e1 : P.keyLits (N + 1) f1.type [.int .i64 n] = some [.int .i64 n] := by simp [Program.keyLits, t1, wn]
  refine ⟨.string (keyBytes [.int .i64 c, .int .i64 n]), ?_⟩
  unfold keyOf pairV
  have hf : Value.formed P k (.agg #[.int .i64 c, .int .i64 n]) = true := by simp [Value.formed, hu, hc]
  have hk : P.keyLits (P.types.size + 1) k [.int .i64 c, .int .i64 n] = some [.int .i64 c, .int .i64 n] := by
    rw [hN]
    unfold Program.keyLits
    simp [hu, hc, n0, n1, o0, o1, c0, c1, e0, e1]
  simp only [hu, hkt, hf, Bool.and_self, if_true, Value.cells]
  rw [hk]
  rfl
theorem key_some (c n : Int) (hc : In64 c) (hn : In64 n) : ∃ kl, keyOf Try.prog 58 (pairV c n) = some kl :=
  key_gen _ _ Try.underlying58 Try.underlying3 Try.underlying3 (by decide) (by decide) rfl rfl cells58 cells3 cells3 kt58 types_size c n (wf64 hc) (wf64 hn)

noncomputable def kl (c n : Int) : Lit := (keyOf Try.prog 58 (pairV c n)).getD (.bool false)
theorem key_eq {c n : Int} (hc : In64 c) (hn : In64 n) : keyOf Try.prog 58 (pairV c n) = some (kl c n) := by
  obtain ⟨l, h⟩ := key_some c n hc hn
  unfold kl
  rw [h]; rfl
theorem kl_inj {c n c' n' : Int} (hc : In64 c) (hn : In64 n) (hc' : In64 c') (hn' : In64 n') (h : kl c n = kl c' n') : c = c' ∧ n = n' := by
  have h1 := key_eq hc hn
  rw [h] at h1
  have h2 := law58.inj h1 (key_eq hc' hn')
  unfold pairV at h2
  simp only [Value.agg.injEq, Array.mk.injEq, List.cons.injEq, Value.int.injEq, true_and, and_true] at h2
  exact h2

theorem zero4 (w : World) : (zeroValue 4).run Try.prog w = .ok (.bool false) w := by kernel_rfl

/-- Block b is a map of at most n entries in which just the pairs ps stand. -/
def PairMap (w : World) (b n : Nat) (ps : List (Int × Int)) : Prop :=
  ∃ D : DataW Unit, w.ownsMap Try.prog 58 (plainElem Try.prog 4) b n D ∧ IsMap D ∧ ∀ c m, In64 c → In64 m → D.atKey (kl c m) (.lit (.bool false)) = .lit (.bool (decide ((c, m) ∈ ps)))
theorem PairMap.made (w : World) : PairMap (w.alloc (.map #[] 0)) w.heap.size 0 [] :=
  ⟨.map [], World.ownsMap_made _ _ _ _, ⟨[], rfl⟩, fun c m _ _ => by simp [DataW.atKey]⟩
theorem PairMap.kept {w w' : World} {b n : Nat} {ps : List (Int × Int)} (h : PairMap w b n ps) (hb : Below w.heap.size w w') : PairMap w' b n ps := by
  obtain ⟨D, h1, h2, h3⟩ := h
  exact ⟨D, h1.kept (grown_of_below hb none) (by simp), h2, h3⟩
theorem PairMap.kept' {w w' : World} {b n g : Nat} {ps : List (Int × Int)} (h : PairMap w b n ps) (hg : w.grownBy w' (some g)) (hne : b ≠ g) : PairMap w' b n ps := by
  obtain ⟨D, h1, h2, h3⟩ := h
  exact ⟨D, h1.kept hg (by simpa using hne), h2, h3⟩
theorem PairMap.lt {w : World} {b n : Nat} {ps : List (Int × Int)} (h : PairMap w b n ps) : b < w.heap.size := by
  obtain ⟨D, h1, _, _⟩ := h
  exact h1.lt

section
variable {ops : Array Oper} {rest : List Oper} {o : Oper} {a : Act} {Q : Exit → Act → World → Prop} {W : World}
theorem put_ev (m x v : Operand) (b n : Nat) (ps : List (Int × Int)) (c k : Int) (hgd : o.guard = none) (hop : o.op = Op.mapUpdate 56 m x v) (hm : a.eval m = .map (some b)) (hx : a.eval x = pairV c k) (hv : a.eval v = .bool true)
    (hown : PairMap W b n ps) (hn : n < 100000) (hc : In64 c) (hk : In64 k)
    (h : ∀ w', Aside0 (PairMap w' b (n + 1) ((c, k) :: ps)) → Aside0 (W.grownBy w' (some b)) → wpList Try.prog ops Q rest (a.put o.dst undef) w') : wpList Try.prog ops Q (o :: rest) a W := by
  obtain ⟨D, h1, h2, h3⟩ := hown
  refine wpList_mapUpdate_own W hgd m x v 56 hop 58 4 law58 Try.underlying56 _ b n D hm h1 (by unfold maxLen; omega) _ _ (kl c k) hx hv (key_eq hc hk) (.lit (.bool true)) [] (plainElem_bool Try.underlying4 true) ?_
  intro w' ho hg
  refine h w' ⟨⟨_, ho, h2.put _ _, fun c' k' hc' hk' => ?_⟩⟩ ⟨hg⟩
  by_cases e : kl c' k' = kl c k
  · obtain ⟨rfl, rfl⟩ := kl_inj hc' hk' hc hk e
    rw [Go.Maps.atKey_put_same h2 (law58.key (key_eq hc hk))]
    simp
  · rw [Go.Maps.atKey_put_other e, h3 c' k' hc' hk']
    have hne : (c', k') ≠ (c, k) := fun e2 => e (by cases e2; rfl)
    congr 2
    simp [hne]
theorem get_ev (m x : Operand) (b n : Nat) (ps : List (Int × Int)) (c k : Int) (hgd : o.guard = none) (hop : o.op = Op.lookup 56 m x false) (hm : a.eval m = .map (some b)) (hx : a.eval x = pairV c k)
    (hown : PairMap W b n ps) (hc : In64 c) (hk : In64 k)
    (h : wpList Try.prog ops Q rest (a.put o.dst (.bool (decide ((c, k) ∈ ps)))) W) : wpList Try.prog ops Q (o :: rest) a W := by
  obtain ⟨D, h1, h2, h3⟩ := hown
  obtain ⟨v, pl, hrun, hv⟩ := h1.lookup law58 Try.underlying56 (zero4 W) (plainElem_bool Try.underlying4 false) (key_eq hc hk)
  rw [h3 c k hc hk] at hv
  have hvb : v = .bool (decide ((c, k) ∈ ps)) := by
    unfold plainElem at hv
    rw [Try.underlying4] at hv
    cases v <;> simp at hv
    rw [hv.1]
  rw [hvb] at hrun
  refine wpList_plain hgd fun K hK => ?_
  unfold Oper.wp
  simp [execOp, hop, hm, hx, hrun, Result.andThen]
  exact hK _ _ h
end
end Go.Proofs.Ytmokngiokdffdaa.P
