/-
  The number of a round: a table of 64 words, one of them; the program's and the reference's.
-/
import Derived.Test.YtmokngiokdffdaaHw
namespace Go.Proofs.Ytmokngiokdffdaa.P
open Go.RowKit Go.Proofs.YtmokngiokdffdaaW.PrintWords Go.Proofs.YtmokngiokdffdaaW.PrintLast Go.Proofs.YtmokngiokdffdaaW.PrintMore
set_option linter.unusedVariables false

def zerosU32 : Array Value := (wv (List.replicate 64 0)).toArray
set_option maxRecDepth 100000 in
set_option maxHeartbeats 1000000 in
theorem round_any (t : Nat) (ht : t < 64) (w : World) :
    Calls Try.prog 43 #[.int .i64 (t : Int)] w fun e w' => e = .returned (.int .u32 ((Sh.kOf t : Nat) : Int)) ∧ Below w.heap.size w w' := by
  have HT := Aside0.mk ht

  go_enter Try.func43, Try.ntmps43
  go_wp2_with (first
    | (refine build_ev (wv Sh.ktab).toArray 77 _ rfl rfl (by kernel_rfl) ?_; skip)
    | (refine alloc_ev zerosU32 77 rfl rfl (by kernel_rfl) ?_; intro w1 BK HB HS)
    | (refine store_ev w.heap.size (wv Sh.ktab).toArray zerosU32 77 77 _ _ rfl rfl rfl rfl BK.out (by kernel_rfl) (by kernel_rfl) (wv_one _) ?_; intro w2 BK2 HK2; have q := wv_cell BK2.out t (show t < Sh.ktab.length from HT.out)))
  go_ret
  exact ⟨rfl, below_kg HB.out HB.out.size HK2.out (Nat.le_refl _)⟩
set_option maxRecDepth 100000 in
set_option maxHeartbeats 1000000 in
theorem constant_any (t : Nat) (ht : t < 64) (w : World) :
    Calls Try.prog 37 #[.int .i64 (t : Int)] w fun e w' => e = .returned (.int .u32 ((Sh.kOf t : Nat) : Int)) ∧ Below w.heap.size w w' := by
  have HT := Aside0.mk ht

  go_enter Try.func37, Try.ntmps37
  go_wp2_with (first
    | (refine build_ev (wv Sh.ktab).toArray 77 _ rfl rfl (by kernel_rfl) ?_; skip)
    | (refine alloc_ev zerosU32 77 rfl rfl (by kernel_rfl) ?_; intro w1 BK HB HS)
    | (refine store_ev w.heap.size (wv Sh.ktab).toArray zerosU32 77 77 _ _ rfl rfl rfl rfl BK.out (by kernel_rfl) (by kernel_rfl) (wv_one _) ?_; intro w2 BK2 HK2; have q := wv_cell BK2.out t (show t < Sh.ktab.length from HT.out)))
  go_ret
  exact ⟨rfl, below_kg HB.out HB.out.size HK2.out (Nat.le_refl _)⟩
end Go.Proofs.Ytmokngiokdffdaa.P
