/-
  tally.Read.
-/
import Derived.Test.YtmokngiokdffdaaDoorRi
import Derived.Test.YtmokngiokdffdaaDoorPt
namespace Go.Proofs.YtmokngiokdffdaaDoor.P
open Go.RowKit Go.Proofs.YtmokngiokdffdaaDoorW.PrintWords Go.Proofs.YtmokngiokdffdaaDoorW.PrintLast Go.Proofs.YtmokngiokdffdaaDoorW.PrintMore
set_option linter.unusedVariables false

set_option maxRecDepth 100000 in
set_option maxHeartbeats 8000000 in
theorem Read_any (A0 : Option Addr) (c0 : Nat) (l0 : List Int) (w : World) (hr0 : Kd.C (Kd.int .u8) w A0 l0.length l0) (hl : l0.length < 1000000) (hby : ∀ x ∈ l0, 0 ≤ x ∧ x < 256) :
    Calls Tryd.prog 34 #[.slice A0 l0.length c0] w fun en w' => ∃ g w0, en = .returned (.pointer (some ⟨g, 0, none⟩)) ∧ RdP w0 w' g l0 0 ∧ Below w.heap.size w w0 := by
  have HB := Aside0.mk (Below.refl w.heap.size w)
  have HR0 := Aside0.mk hr0
  have HBY := Aside0.mk hby
  clear hr0 hby
  go_enter Tryd.func34, Tryd.ntmps34
  go_wp2_with (first
    | ((with_reducible refine gate_dst (N := 3) rfl ?_); refine Kd.R_lit (Kd.int .u8) _ 5 ?hg (N := 3) ?hd (xs := ([] : List Int)) (inner := []) (ok := fun _ => True) (okp := fun _ => True) ?hr ?hp (fun _ hk => hk) trivial (Below.refl _ _) (Nat.le_refl _) (by simp) ?_; (case hd => rfl); (case hg => rfl); (case hr => first | (go_simp; done) | (go_simp; rfl)); (case hp => exact (Reps.none _ _)); intro v3 w3 ho3 hb hg_ hnew_; clear hg_ hnew_; have HO := Aside0.mk (Kd.R_lower ho3 (below_size HB.out)); have HB' := Aside0.mk (below_step HB.out hb); clear HB ho3 hb; have HB := HB'; clear HB')
    | ((with_reducible refine gate_builtin (b := .append) (xs := #[.tmp 3, .tmp 4]) rfl ?_); at_builtin; refine Kd.R_append_rows (Kd.int .u8) (w0 := w) w.heap.size rfl (.tmp 3) (.tmp 4) 54 5 (.int .u8 0) 1 rfl Tryd.underlying54 info5 rfl (by decide) (by omega) v3 ([] : List Int) l0 _ _ _ (fun _ => True) (fun _ => False) rfl rfl ?aO ?aR (fun _ _ h => h) (fun _ h => h.elim) ?aF ?aB ?aS ?aL ?_; (case aR => exact (Kd.C_below HR0.out HB.out)); (case aB => exact HB.out); (case aF => exact (fun _ _ => trivial)); (case aO => exact HO.out); (case aS => exact (below_size HB.out)); (case aL => simp; omega); intro v5 w5 ho hb hg hat; obtain ⟨A5, c5, rfl, hc5, hC5⟩ := Kd.R_reads ho; have HC5 := Aside0.mk hC5; have HD5 := Aside0.mk hc5; have HB' := Aside0.mk hb; clear HB HO hC5 hc5 ho hb hg hat; have HB := HB'; clear HB'))
  go_ret
  refine ⟨w5.heap.size, w5, rfl, ⟨⟨A5, c5, ?_, ?_, ?_⟩, Nat.le_refl _, below_alloc (Below.refl _ _) _, HBY.out⟩, HB.out⟩
  · exact World.alloc_heap_new _ _
  · exact HD5.out
  · exact HC5.out

set_option maxRecDepth 100000 in
set_option maxHeartbeats 8000000 in
theorem RRead_any (A0 : Option Addr) (c0 : Nat) (l0 : List Int) (w : World) (hr0 : Kd.C (Kd.int .u8) w A0 l0.length l0) (hl : l0.length < 1000000) :
    Calls Tryd.prog 35 #[.slice A0 l0.length c0] w fun en w' => ∃ g w0, en = .returned (.pointer (some ⟨g, 0, none⟩)) ∧ IsS64 w0 w' g l0 0 0 ∧ Below w0.heap.size w0 w' ∧ Below w.heap.size w w0 := by
  have HB := Aside0.mk (Below.refl w.heap.size w)
  have HR0 := Aside0.mk hr0
  clear hr0
  go_enter Tryd.func35, Tryd.ntmps35
  go_wp2_with (first
    | ((with_reducible refine gate_dst (N := 3) rfl ?_); refine Kd.R_lit (Kd.int .u8) _ 5 ?hg (N := 3) ?hd (xs := ([] : List Int)) (inner := []) (ok := fun _ => True) (okp := fun _ => True) ?hr ?hp (fun _ hk => hk) trivial (Below.refl _ _) (Nat.le_refl _) (by simp) ?_; (case hd => rfl); (case hg => rfl); (case hr => first | (go_simp; done) | (go_simp; rfl)); (case hp => exact (Reps.none _ _)); intro v3 w3 ho3 hb hg_ hnew_; clear hg_ hnew_; have HO := Aside0.mk (Kd.R_lower ho3 (below_size HB.out)); have HB' := Aside0.mk (below_step HB.out hb); clear HB ho3 hb; have HB := HB'; clear HB')
    | ((with_reducible refine gate_builtin (b := .append) (xs := #[.tmp 3, .tmp 4]) rfl ?_); at_builtin; refine Kd.R_append_rows (Kd.int .u8) (w0 := w) w.heap.size rfl (.tmp 3) (.tmp 4) 54 5 (.int .u8 0) 1 rfl Tryd.underlying54 info5 rfl (by decide) (by omega) v3 ([] : List Int) l0 _ _ _ (fun _ => True) (fun _ => False) rfl rfl ?aO ?aR (fun _ _ h => h) (fun _ h => h.elim) ?aF ?aB ?aS ?aL ?_; (case aR => exact (Kd.C_below HR0.out HB.out)); (case aB => exact HB.out); (case aF => exact (fun _ _ => trivial)); (case aO => exact HO.out); (case aS => exact (below_size HB.out)); (case aL => simp; omega); intro v5 w5 ho hb hg hat; obtain ⟨A5, c5, rfl, hc5, hC5⟩ := Kd.R_reads ho; have HC5 := Aside0.mk hC5; have HD5 := Aside0.mk hc5; have HB' := Aside0.mk hb; clear HB HO hC5 hc5 ho hb hg hat; have HB := HB'; clear HB'))
  go_ret
  exact ⟨w5.heap.size, w5, rfl, IsS64.new w5 w5 A5 c5 l0 0 0 (Below.refl _ _) HC5.out, below_alloc (Below.refl _ _) _, HB.out⟩

end Go.Proofs.YtmokngiokdffdaaDoor.P
