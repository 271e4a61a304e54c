/-
  WindowTells: the walk along its one way, and the plain law that the two texts tell the same.
-/
import Derived.Test.YtmokngiokdffdaaDoorWn
import Derived.Deep.RegionHeld3
namespace Go.Proofs.YtmokngiokdffdaaDoor.P
open Go.RowKit Go.Proofs.YtmokngiokdffdaaDoorW.PrintWords Go.Proofs.YtmokngiokdffdaaDoorW.PrintLast Go.Proofs.YtmokngiokdffdaaDoorW.PrintMore
attribute [local go_sem] max2_int min2_int max_two min_two max_three min_three max_four min_four
attribute [local go_sem high] eqA38
open Ma
set_option linter.unusedVariables false

set_option maxRecDepth 100000 in
set_option maxHeartbeats 8000000 in
theorem Tells_core (k : Nat) (B m size n v1 v2 v3 cI aI : Int) (g dB : Bool) (w : World) (hT : TabOK w)
    (hMark : window_Mark.f k B m n = some (v1, v2, v3)) (hRMark : raddleref09_Mark.f k B m n = some (v1, v2, v3))
    (hG : window_Good.f B m = some g) (hRG : raddleref09_Good.f k B m = some g) (hD : window_Done.f B m n = some dB) (hRD : raddleref09_Done.f k B m n = some dB)
    (hC : window_Count.f B m = some cI) (hRC : raddleref09_Count.f k B m = some cI) (hA : window_Ask.f k B m size n = some aI) (hRA : raddleref09_Ask.f k B m size n = some aI)
    (hL : raddlelaw09_lives.f k = some true) :
    Calls Tryd.prog 7 #[.agg #[.int .i64 B, .int .u64 m], .int .i64 size, .int .i64 n] w fun e w' => e = .returned (.bool true) ∧ Below w.heap.size w w' := by
  have hu38 := Tryd.underlying38
  have KM := Aside0.mk hMark
  have KRM := Aside0.mk hRMark
  have KG := Aside0.mk hG
  have KRG := Aside0.mk hRG
  have KD := Aside0.mk hD
  have KRD := Aside0.mk hRD
  have KC := Aside0.mk hC
  have KRC := Aside0.mk hRC
  have KA := Aside0.mk hA
  have KRA := Aside0.mk hRA
  have KL := Aside0.mk hL
  have KN : Aside0 (window_New.f = some (1, 0)) := Aside0.mk rfl
  clear hMark hRMark hG hRG hD hRD hC hRC hA hRA hL
  go_enter Tryd.func7, Tryd.ntmps7
  go_wp2_with fail
  refine (window_Mark.calls k B m n v1 v2 v3 _ KM.out (hT.alloc _)).mono ?_
  rintro e w1 ⟨rfl, hb1⟩
  have HB := Aside0.mk (below_step (below_alloc (Below.refl w.heap.size w) _) hb1)
  have BK0 := Aside0.mk (blk_below (World.alloc_heap_new w (.cells #[.int .i64 B, .int .u64 m] 38)) hb1)
  have h1lt : w.heap.size < w1.heap.size := blk_lt BK0.out
  have hc0 : w1.cell? ⟨w.heap.size, 0, none⟩ = some (.int .i64 B) := (blk_cell BK0.out 0).trans rfl
  have hc1 : w1.cell? ⟨w.heap.size, 1, none⟩ = some (.int .u64 m) := (blk_cell BK0.out 1).trans rfl
  clear hb1
  go_wp2_with fail
  refine (raddleref09_Mark.calls k B m n v1 v2 v3 _ KRM.out).mono ?_
  rintro e w2 ⟨rfl, hb2⟩
  have HB2 := Aside0.mk (below_step (below_alloc HB.out (.cells #[.int .i64 v1, .int .u64 v2] 38)) hb2)
  have BV := Aside0.mk (blk_below (World.alloc_heap_new w1 (.cells #[.int .i64 v1, .int .u64 v2] 38)) hb2)
  have BK := Aside0.mk (blk_below (blk_alloc BK0.out (.cells #[.int .i64 v1, .int .u64 v2] 38)) hb2)
  have h2lt : w1.heap.size < w2.heap.size := blk_lt BV.out
  clear hb2 HB BK0 hc0 hc1
  have HB := HB2
  clear HB2
  go_wp2_with fail
  have BX := Aside0.mk (World.alloc_heap_new w2 (.cells #[.int .i64 v1, .int .u64 v2] 38))
  have HB3 := Aside0.mk (below_alloc HB.out (.cells #[.int .i64 v1, .int .u64 v2] 38))
  clear HB
  have HB := HB3
  have q1 : (w2.alloc (.cells #[.int .i64 v1, .int .u64 v2] 38)).cell? ⟨w.heap.size, 0, none⟩ = some (.int .i64 B) := (blk_cell (blk_alloc BK.out _) 0).trans rfl
  have q2 : (w2.alloc (.cells #[.int .i64 v1, .int .u64 v2] 38)).cell? ⟨w.heap.size, 1, none⟩ = some (.int .u64 m) := (blk_cell (blk_alloc BK.out _) 1).trans rfl
  have q3 : (w2.alloc (.cells #[.int .i64 v1, .int .u64 v2] 38)).cell? ⟨w1.heap.size, 0, none⟩ = some (.int .i64 v1) := (blk_cell (blk_alloc BV.out _) 0).trans rfl
  have q4 : (w2.alloc (.cells #[.int .i64 v1, .int .u64 v2] 38)).cell? ⟨w1.heap.size, 1, none⟩ = some (.int .u64 v2) := (blk_cell (blk_alloc BV.out _) 1).trans rfl
  have q5 : (w2.alloc (.cells #[.int .i64 v1, .int .u64 v2] 38)).cell? ⟨w2.heap.size, 0, none⟩ = some (.int .i64 v1) := (blk_cell BX.out 0).trans rfl
  have q6 : (w2.alloc (.cells #[.int .i64 v1, .int .u64 v2] 38)).cell? ⟨w2.heap.size, 1, none⟩ = some (.int .u64 v2) := (blk_cell BX.out 1).trans rfl
  clear BX HB3
  generalize (w2.alloc (.cells #[.int .i64 v1, .int .u64 v2] 38)) = W3 at q1 q2 q3 q4 q5 q6 HB ⊢
  go_region_held3 (fun w' => w'.cell? ⟨w.heap.size, 0, none⟩ = some (.int .i64 B) ∧ w'.cell? ⟨w.heap.size, 1, none⟩ = some (.int .u64 m) ∧ w'.cell? ⟨w1.heap.size, 0, none⟩ = some (.int .i64 v1) ∧ w'.cell? ⟨w1.heap.size, 1, none⟩ = some (.int .u64 v2) ∧ w'.cell? ⟨w2.heap.size, 0, none⟩ = some (.int .i64 v1) ∧ w'.cell? ⟨w2.heap.size, 1, none⟩ = some (.int .u64 v2))
    (first | exact ⟨q1, q2, q3, q4, q5, q6⟩ | go_keep)
    (first
      | (go_at_call 25; refine (window_New.calls 1 0 _ KN.out).mono ?_; rintro e wn ⟨rfl, hbl⟩; have p1 := pw_cell_below hbl q1; have p2 := pw_cell_below hbl q2; have p3 := pw_cell_below hbl q3; have p4 := pw_cell_below hbl q4; have p5 := pw_cell_below hbl q5; have p6 := pw_cell_below hbl q6; clear q1 q2 q3 q4 q5 q6; have q1 := p1; have q2 := p2; have q3 := p3; have q4 := p4; have q5 := p5; have q6 := p6; clear p1 p2 p3 p4 p5 p6; have HB' := Aside0.mk (below_step (by first | exact HB.out | exact below_drew HB.out) hbl); clear HB; have HB := HB'; clear HB' hbl)
      | (go_at_call 26; refine (window_Good.calls B m g _ KG.out).mono ?_; rintro e wn ⟨rfl, hbl⟩; have p1 := pw_cell_below hbl q1; have p2 := pw_cell_below hbl q2; have p3 := pw_cell_below hbl q3; have p4 := pw_cell_below hbl q4; have p5 := pw_cell_below hbl q5; have p6 := pw_cell_below hbl q6; clear q1 q2 q3 q4 q5 q6; have q1 := p1; have q2 := p2; have q3 := p3; have q4 := p4; have q5 := p5; have q6 := p6; clear p1 p2 p3 p4 p5 p6; have HB' := Aside0.mk (below_step (by first | exact HB.out | exact below_drew HB.out) hbl); clear HB; have HB := HB'; clear HB' hbl)
      | (go_at_call 27; refine (raddleref09_Good.calls k B m g _ KRG.out).mono ?_; rintro e wn ⟨rfl, hbl⟩; have p1 := pw_cell_below hbl q1; have p2 := pw_cell_below hbl q2; have p3 := pw_cell_below hbl q3; have p4 := pw_cell_below hbl q4; have p5 := pw_cell_below hbl q5; have p6 := pw_cell_below hbl q6; clear q1 q2 q3 q4 q5 q6; have q1 := p1; have q2 := p2; have q3 := p3; have q4 := p4; have q5 := p5; have q6 := p6; clear p1 p2 p3 p4 p5 p6; have HB' := Aside0.mk (below_step (by first | exact HB.out | exact below_drew HB.out) hbl); clear HB; have HB := HB'; clear HB' hbl)
      | (go_at_call 28; refine (window_Done.calls B m n dB _ KD.out).mono ?_; rintro e wn ⟨rfl, hbl⟩; have p1 := pw_cell_below hbl q1; have p2 := pw_cell_below hbl q2; have p3 := pw_cell_below hbl q3; have p4 := pw_cell_below hbl q4; have p5 := pw_cell_below hbl q5; have p6 := pw_cell_below hbl q6; clear q1 q2 q3 q4 q5 q6; have q1 := p1; have q2 := p2; have q3 := p3; have q4 := p4; have q5 := p5; have q6 := p6; clear p1 p2 p3 p4 p5 p6; have HB' := Aside0.mk (below_step (by first | exact HB.out | exact below_drew HB.out) hbl); clear HB; have HB := HB'; clear HB' hbl)
      | (go_at_call 29; refine (raddleref09_Done.calls k B m n dB _ KRD.out).mono ?_; rintro e wn ⟨rfl, hbl⟩; have p1 := pw_cell_below hbl q1; have p2 := pw_cell_below hbl q2; have p3 := pw_cell_below hbl q3; have p4 := pw_cell_below hbl q4; have p5 := pw_cell_below hbl q5; have p6 := pw_cell_below hbl q6; clear q1 q2 q3 q4 q5 q6; have q1 := p1; have q2 := p2; have q3 := p3; have q4 := p4; have q5 := p5; have q6 := p6; clear p1 p2 p3 p4 p5 p6; have HB' := Aside0.mk (below_step (by first | exact HB.out | exact below_drew HB.out) hbl); clear HB; have HB := HB'; clear HB' hbl)
      | (go_at_call 30; refine (window_Count.calls B m cI _ KC.out (by first | exact hT.below' HB.out | exact (hT.below' HB.out).drew)).mono ?_; rintro e wn ⟨rfl, hbl⟩; have p1 := pw_cell_below hbl q1; have p2 := pw_cell_below hbl q2; have p3 := pw_cell_below hbl q3; have p4 := pw_cell_below hbl q4; have p5 := pw_cell_below hbl q5; have p6 := pw_cell_below hbl q6; clear q1 q2 q3 q4 q5 q6; have q1 := p1; have q2 := p2; have q3 := p3; have q4 := p4; have q5 := p5; have q6 := p6; clear p1 p2 p3 p4 p5 p6; have HB' := Aside0.mk (below_step (by first | exact HB.out | exact below_drew HB.out) hbl); clear HB; have HB := HB'; clear HB' hbl)
      | (go_at_call 31; refine (raddleref09_Count.calls k B m cI _ KRC.out).mono ?_; rintro e wn ⟨rfl, hbl⟩; have p1 := pw_cell_below hbl q1; have p2 := pw_cell_below hbl q2; have p3 := pw_cell_below hbl q3; have p4 := pw_cell_below hbl q4; have p5 := pw_cell_below hbl q5; have p6 := pw_cell_below hbl q6; clear q1 q2 q3 q4 q5 q6; have q1 := p1; have q2 := p2; have q3 := p3; have q4 := p4; have q5 := p5; have q6 := p6; clear p1 p2 p3 p4 p5 p6; have HB' := Aside0.mk (below_step (by first | exact HB.out | exact below_drew HB.out) hbl); clear HB; have HB := HB'; clear HB' hbl)
      | (go_at_call 32; refine (window_Ask.calls k B m size n aI _ KA.out).mono ?_; rintro e wn ⟨rfl, hbl⟩; have p1 := pw_cell_below hbl q1; have p2 := pw_cell_below hbl q2; have p3 := pw_cell_below hbl q3; have p4 := pw_cell_below hbl q4; have p5 := pw_cell_below hbl q5; have p6 := pw_cell_below hbl q6; clear q1 q2 q3 q4 q5 q6; have q1 := p1; have q2 := p2; have q3 := p3; have q4 := p4; have q5 := p5; have q6 := p6; clear p1 p2 p3 p4 p5 p6; have HB' := Aside0.mk (below_step (by first | exact HB.out | exact below_drew HB.out) hbl); clear HB; have HB := HB'; clear HB' hbl)
      | (go_at_call 33; refine (raddleref09_Ask.calls k B m size n aI _ KRA.out).mono ?_; rintro e wn ⟨rfl, hbl⟩; have p1 := pw_cell_below hbl q1; have p2 := pw_cell_below hbl q2; have p3 := pw_cell_below hbl q3; have p4 := pw_cell_below hbl q4; have p5 := pw_cell_below hbl q5; have p6 := pw_cell_below hbl q6; clear q1 q2 q3 q4 q5 q6; have q1 := p1; have q2 := p2; have q3 := p3; have q4 := p4; have q5 := p5; have q6 := p6; clear p1 p2 p3 p4 p5 p6; have HB' := Aside0.mk (below_step (by first | exact HB.out | exact below_drew HB.out) hbl); clear HB; have HB := HB'; clear HB' hbl)
      | (go_at_call 21; refine (raddlelaw09_lives.calls k true _ KL.out (by first | exact hT.below' HB.out | exact (hT.below' HB.out).drew)).mono ?_; rintro e wn ⟨rfl, hbl⟩; have p1 := pw_cell_below hbl q1; have p2 := pw_cell_below hbl q2; have p3 := pw_cell_below hbl q3; have p4 := pw_cell_below hbl q4; have p5 := pw_cell_below hbl q5; have p6 := pw_cell_below hbl q6; clear q1 q2 q3 q4 q5 q6; have q1 := p1; have q2 := p2; have q3 := p3; have q4 := p4; have q5 := p5; have q6 := p6; clear p1 p2 p3 p4 p5 p6; have HB' := Aside0.mk (below_step (by first | exact HB.out | exact below_drew HB.out) hbl); clear HB; have HB := HB'; clear HB' hbl))
  go_wp2
  go_ret
  exact ⟨rfl, HB.out⟩

end Go.Proofs.YtmokngiokdffdaaDoor.P
