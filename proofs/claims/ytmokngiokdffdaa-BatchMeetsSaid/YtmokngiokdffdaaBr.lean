/-
  The batch that is nothing; the chapter's example: its bytes, and two digests that differ (computed by the kernel).
-/
import Derived.Test.YtmokngiokdffdaaEq
namespace Go.Proofs.Ytmokngiokdffdaa.P
open Go.RowKit Go.Proofs.YtmokngiokdffdaaW.PrintWords Go.Proofs.YtmokngiokdffdaaW.PrintLast Go.Proofs.YtmokngiokdffdaaW.PrintMore
set_option linter.unusedVariables false

theorem reqs_nil (w : World) : ReqsAt w none [] := ⟨by decide, fun r h => by simp at h, fun h => absurd h (by decide)⟩

set_option maxHeartbeats 1000000 in
theorem None_any (w : World) : Calls Try.prog 17 #[] w fun e w' => e = .returned (.agg #[.bool true, .slice none 0 0]) ∧ Below w.heap.size w w' := by
  go_enter Try.func17, Try.ntmps17
  go_wp2_with (first
    | (refine alloc_ev #[.bool false, .slice none 0 0] 24 rfl rfl (by kernel_rfl) ?_; intro w1 BK1 HB1 HS1)
    | (refine build_ev #[.bool true, .slice none 0 0] 24 _ rfl rfl (by kernel_rfl) ?_)
    | (refine store_ev w.heap.size #[.bool true, .slice none 0 0] #[.bool false, .slice none 0 0] 24 24 _ _ rfl rfl rfl rfl BK1.out (by kernel_rfl) rfl (by kernel_rfl) ?_; intro w2 BK2 HK2))
  refine bodyPost_ret (results_cell_row rfl _ _ w.heap.size 24 #[.bool true, .slice none 0 0] (0, 0) _ rfl BK2.out Try.underlying24 rfl (by kernel_rfl)) rfl ?_
  exact ⟨rfl, below_kg HB1.out HB1.out.size HK2.out (Nat.le_refl _)⟩

theorem batB_none : batB true [] = [0] := by decide
theorem batB_empty : batB false [] = [1, 1] := by decide
set_option maxRecDepth 100000 in
theorem digests_differ : (batD true [] == batD false []) = false := by decide +kernel

theorem PutNone (w : World) : Calls Try.prog 16 #[.slice none 0 0, .agg #[.bool true, .slice none 0 0]] w fun e w' => ∃ A c, e = .returned (.slice A 1 c) ∧ (∀ W, Below w'.heap.size w' W → (convert 53 9 (.slice A 1 c)).run Try.prog W = .ok (.string ⟨#[0]⟩) W) ∧ Below w.heap.size w w' := by
  refine (BatPut_nil true none [] 0 w (reqs_nil w) Small.nil).mono ?_
  rintro e w' ⟨v, rfl, hR, hb⟩
  obtain ⟨A, c, rfl, hc, hC⟩ := Kd.R_reads hR
  rw [batB_none] at hC
  refine ⟨A, c, by rw [batB_none]; rfl, fun W hW => ?_, hb⟩
  exact (Kd.C_string (P := Try.prog) (A := A) (c := c) Try.underlying53 Try.underlying5 Try.underlying9 (Kd.C_below hC hW)).trans rfl
theorem PutEmpty (w : World) : Calls Try.prog 16 #[.slice none 0 0, .agg #[.bool false, .slice none 0 0]] w fun e w' => ∃ A c, e = .returned (.slice A 2 c) ∧ (∀ W, Below w'.heap.size w' W → (convert 53 9 (.slice A 2 c)).run Try.prog W = .ok (.string ⟨#[1, 1]⟩) W) ∧ Below w.heap.size w w' := by
  refine (BatPut_nil false none [] 0 w (reqs_nil w) Small.nil).mono ?_
  rintro e w' ⟨v, rfl, hR, hb⟩
  obtain ⟨A, c, rfl, hc, hC⟩ := Kd.R_reads hR
  rw [batB_empty] at hC
  refine ⟨A, c, by rw [batB_empty]; rfl, fun W hW => ?_, hb⟩
  exact (Kd.C_string (P := Try.prog) (A := A) (c := c) Try.underlying53 Try.underlying5 Try.underlying9 (Kd.C_below hC hW)).trans rfl
theorem DigNone (w : World) : Calls Try.prog 18 #[.agg #[.bool true, .slice none 0 0]] w fun e w' => e = .returned (.agg (nums .u8 (batD true [])).toArray) ∧ Below w.heap.size w w' := BatDigest_any true none [] 0 w (reqs_nil w) Small.nil
theorem DigEmpty (w : World) : Calls Try.prog 18 #[.agg #[.bool false, .slice none 0 0]] w fun e w' => e = .returned (.agg (nums .u8 (batD false [])).toArray) ∧ Below w.heap.size w w' := BatDigest_any false none [] 0 w (reqs_nil w) Small.nil
theorem batD_length (noop : Bool) (rs : List Req) : (batD noop rs).length = 32 := dig_length _

set_option maxRecDepth 100000 in
set_option maxHeartbeats 4000000 in
theorem lives7 (w : World) : Calls Try.prog 6 #[] w fun e w' => e = .returned (.bool true) ∧ Below w.heap.size w w' := by
  obtain ⟨D1, hD1⟩ : ∃ D, batD true [] = D := ⟨_, rfl⟩
  obtain ⟨D2, hD2⟩ : ∃ D, batD false [] = D := ⟨_, rfl⟩
  have HD1 := Aside0.mk hD1
  have HD2 := Aside0.mk hD2
  have hne := neq_dig D1 D2 (by rw [← hD1]; exact batD_length _ _) (by rw [← hD2]; exact batD_length _ _)
  have hdf := digests_differ
  rw [hD1, hD2] at hdf
  simp only [hdf, Bool.not_false] at hne
  clear hdf hD1 hD2
  go_enter Try.func6, Try.ntmps6
  have dn := fun W => DigNone W
  have de := fun W => DigEmpty W
  rw [HD1.out] at dn
  rw [HD2.out] at de
  have DN := Aside0.mk dn; have DE := Aside0.mk de
  clear dn de
  have HB := Aside0.mk (Below.refl w.heap.size w)
  go_wp2_with (first
    | (go_at_call 17; (with_reducible refine (None_any _).mono ?_); rintro e w' ⟨rfl, hb⟩; have HBn := Aside0.mk (below_step HB.out hb); clear HB hb; have HB := HBn; clear HBn)
    | (go_at_call 16; (with_reducible refine (PutNone _).mono ?_); rintro e w' ⟨A, c, rfl, hcv, hb⟩; have HBn := Aside0.mk (below_step HB.out hb); clear HB hb; have HB := HBn; clear HBn; have cv := hcv _ (Below.refl _ _); clear hcv)
    | (go_at_call 16; (with_reducible refine (PutEmpty _).mono ?_); rintro e w' ⟨A', c', rfl, hcv, hb⟩; have HBn := Aside0.mk (below_step HB.out hb); clear HB hb; have HB := HBn; clear HBn; have cv2 := hcv _ (Below.refl _ _); clear hcv)
    | (go_at_call 18; (with_reducible refine (DN.out _).mono ?_); rintro e w' ⟨rfl, hb⟩; have HBn := Aside0.mk (below_step HB.out hb); clear HB hb; have HB := HBn; clear HBn)
    | (go_at_call 18; (with_reducible refine (DE.out _).mono ?_); rintro e w' ⟨rfl, hb⟩; have HBn := Aside0.mk (below_step HB.out hb); clear HB hb; have HB := HBn; clear HBn))
  go_ret
  exact ⟨rfl, HB.out⟩
end Go.Proofs.Ytmokngiokdffdaa.P
