/-
  WindowTells: the walk at every input.
-/
import Derived.Test.YtmokngiokdffdaaDoorWt
import Derived.Test.YtmokngiokdffdaaDoorWq
namespace Go.Proofs.YtmokngiokdffdaaDoor.P
open Go.RowKit

theorem WindowTells_walk (b0 b1 a1 a2 : Int) (w : World) (u0 : (Lit.int .i64 b0).wf = true) (u1 : (Lit.int .u64 b1).wf = true)
    (_ : (Lit.int .i64 a1).wf = true) (w2 : (Lit.int .i64 a2).wf = true) (hT : TabOK w) :
    Calls Tryd.prog 7 #[.agg #[.int .i64 b0, .int .u64 b1], .int .i64 a1, .int .i64 a2] w fun e w' => e = .returned (.bool true) ∧ Below w.heap.size w w' := by
  obtain ⟨m, rfl, hm⟩ := u64_nat u1
  have hB := (wf_i64 u0).1
  have hn := (wf_i64 w2).2
  by_cases h : askI b0 m 64 a2 = 0
  · exact Tells_core 200 b0 (m : Int) a1 a2 _ _ _ _ _ _ _ w hT (Mark_eq0 200 (by omega) b0 m a2 hm hB hn h) (RMark_eq0 200 (by omega) b0 m a2 hm hB hn h)
      (Good_eq b0 m hm hB) (RGood_eq 200 (by omega) b0 m hm hB) (Done_eq b0 m a2 hm hB hn) (RDone_eq 200 (by omega) b0 m a2 hm hB hn)
      (Count_eq b0 m hm hB) (RCount_eq 200 (by omega) b0 m hm hB) (Ask_eq 200 (by omega) b0 m a1 a2 hm hB hn) (RAsk_eq 200 (by omega) b0 m a1 a2 hm hB hn) (lives09 200 (by omega))
  · exact Tells_core 200 b0 (m : Int) a1 a2 _ _ _ _ _ _ _ w hT (Mark_eq1 200 (by omega) b0 m a2 hm hB hn h) (RMark_eq1 200 (by omega) b0 m a2 hm hB hn h)
      (Good_eq b0 m hm hB) (RGood_eq 200 (by omega) b0 m hm hB) (Done_eq b0 m a2 hm hB hn) (RDone_eq 200 (by omega) b0 m a2 hm hB hn)
      (Count_eq b0 m hm hB) (RCount_eq 200 (by omega) b0 m hm hB) (Ask_eq 200 (by omega) b0 m a1 a2 hm hB hn) (RAsk_eq 200 (by omega) b0 m a1 a2 hm hB hn) (lives09 200 (by omega))

end Go.Proofs.YtmokngiokdffdaaDoor.P
