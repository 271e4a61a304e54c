/-
  BatchMeets: for every two readings the law returns true.
-/
import Derived.Test.YtmokngiokdffdaaSm
import Derived.Deep.RegionHeld3
namespace Go.Proofs.Ytmokngiokdffdaa.P
open Go.RowKit Go.Proofs.YtmokngiokdffdaaW.PrintWords Go.Proofs.YtmokngiokdffdaaW.PrintLast Go.Proofs.YtmokngiokdffdaaW.PrintMore
set_option linter.unusedVariables false
set_option linter.unusedSimpArgs false

theorem costR_len (rs : List Req) : 20 * rs.length ≤ costR rs := by
  unfold costR
  induction rs with
  | nil => simp
  | cons r rs ih => simp only [List.map_cons, List.sum_cons, List.length_cons]; omega
theorem costR_mem {rs : List Req} {r : Req} (h : r ∈ rs) : 20 + r.data.size ≤ costR rs := by
  unfold costR
  induction rs with
  | nil => cases h
  | cons x rs ih =>
    simp only [List.map_cons, List.sum_cons]
    rcases List.mem_cons.1 h with rfl | h
    · omega
    · have := ih h; omega
def two {X : Type} (a b : X) : Nat → X := fun i => if i = 0 then a else b
theorem costTo_two (ra rb : List Req) : costTo (two ra rb) 2 = 5 + costR ra + (5 + costR rb) := by
  unfold costTo; simp [List.range_succ, two]

/-- Light on two batches. -/
theorem Light_two (w : World) (gp : Nat) (A : Option Addr) (ra : List Req) (ca : Nat) (B : Option Addr) (rb : List Req) (cb : Nat) (hpa : w.cell? ⟨gp, 1, none⟩ = some (.slice A ra.length ca)) (hpb : w.cell? ⟨gp, 3, none⟩ = some (.slice B rb.length cb))
    (hA : ReqsAt w A ra) (hB : ReqsAt w B rb) (hda : ∀ r ∈ ra, r.data.size ≤ 9223372036854775807) (hdb : ∀ r ∈ rb, r.data.size ≤ 9223372036854775807) :
    Calls Try.prog 5 #[.slice (some ⟨gp, 0, none⟩) 2 2] w fun e w' => ∃ b : Bool, e = .returned (.bool b) ∧ (b = true → 10 + costR ra + costR rb ≤ 4000) ∧ Below w.heap.size w w' := by
  refine (Light_any w gp 2 (two A B) (two ra rb) (two ca cb) ⟨fun i hi => ?_, fun i hi => ?_⟩ (by decide) (fun i hi => ?_)).mono ?_
  · rcases (show i = 0 ∨ i = 1 by omega) with rfl | rfl
    · exact hpa
    · exact hpb
  · rcases (show i = 0 ∨ i = 1 by omega) with rfl | rfl
    · exact hA
    · exact hB
  · rcases (show i = 0 ∨ i = 1 by omega) with rfl | rfl
    · exact hda
    · exact hdb
  · rintro e w' ⟨b, rfl, h, hd⟩
    exact ⟨b, rfl, fun hb => by have := h hb; rw [costTo_two] at this; omega, hd.below⟩

set_option maxRecDepth 100000 in
set_option maxHeartbeats 4000000 in
theorem BatchMeets_any (na : Bool) (A : Option Addr) (ra : List Req) (ca : Nat) (nb : Bool) (B : Option Addr) (rb : List Req) (cb : Nat) (w : World) (hA : ReqsAt w A ra) (hB : ReqsAt w B rb)
    (hda : ∀ r ∈ ra, r.data.size ≤ 9223372036854775807) (hdb : ∀ r ∈ rb, r.data.size ≤ 9223372036854775807) :
    Calls Try.prog 3 #[.agg #[.bool na, .slice A ra.length ca], .agg #[.bool nb, .slice B rb.length cb]] w fun e w' => e = .returned (.bool true) ∧ Below w.heap.size w w' := by
  have HA := Aside0.mk hA
  have HBB := Aside0.mk hB
  have HDA := Aside0.mk hda
  have HDB := Aside0.mk hdb
  clear hA hB hda hdb
  go_enter Try.func3, Try.ntmps3
  go_wp2_with (first
    | (refine box_ev #[.bool na, .slice A ra.length ca] 24 (.tmp 0) rfl rfl rfl ?_; intro w1 BK1 HB1 HS1)
    | (refine box_ev #[.bool nb, .slice B rb.length cb] 24 (.tmp 1) rfl rfl rfl ?_; intro w2 BK2 HB2 HS2; have BKA := Aside0.mk (blk_below BK1.out HB2.out); have BKB := Aside0.mk BK2.out; have HBW := Aside0.mk (below_step HB1.out HB2.out); clear BK1 BK2 HB1 HB2 HS1 HS2)
    | (refine wpList_load_row rfl 24 (.tmp 2) rfl w.heap.size rfl 24 _ (0, 0) _ BKA.out Try.underlying24 rfl (by kernel_rfl) ?_)
    | (refine wpList_load_row rfl 24 (.tmp 3) rfl w1.heap.size rfl 24 _ (0, 0) _ BKB.out Try.underlying24 rfl (by kernel_rfl) ?_)
    | (refine lit_ev #[.bool na, .slice A ra.length ca, .bool nb, .slice B rb.length cb] 24 47 2 _ rfl rfl (by kernel_rfl) ?_; intro w3 BK3 HB3 HS3; have HBV := Aside0.mk (below_step HBW.out HB3.out))
    | (go_at_call 5; (with_reducible refine (Light_two _ w2.heap.size A ra ca B rb cb ((blk_cell BK3.out 1).trans rfl) ((blk_cell BK3.out 3).trans rfl) (HA.out.below HBV.out) (HBB.out.below HBV.out) HDA.out HDB.out).mono ?_); rintro e w4 ⟨bl, rfl, hcost, hb4⟩; have HCOST := Aside0.mk hcost; have HB := Aside0.mk (below_step HBV.out hb4); have q1 : w4.cell? ⟨w.heap.size, 0, none⟩ = some (.bool na) := pw_cell_below hb4 (pw_cell_below HB3.out ((blk_cell BKA.out 0).trans rfl)); have q2 : w4.cell? ⟨w.heap.size, 1, none⟩ = some (.slice A ra.length ca) := pw_cell_below hb4 (pw_cell_below HB3.out ((blk_cell BKA.out 1).trans rfl)); have q3 : w4.cell? ⟨w1.heap.size, 0, none⟩ = some (.bool nb) := pw_cell_below hb4 (pw_cell_below HB3.out ((blk_cell BKB.out 0).trans rfl)); have q4 : w4.cell? ⟨w1.heap.size, 1, none⟩ = some (.slice B rb.length cb) := pw_cell_below hb4 (pw_cell_below HB3.out ((blk_cell BKB.out 1).trans rfl)); clear hcost hb4 BKA BKB BK3 HB3 HBV HBW HS3))
  · go_wp2_with (go_at_call 6; (with_reducible refine (lives7 _).mono ?_); rintro e w5 ⟨rfl, hb5⟩; have HB5 := Aside0.mk (below_step HB.out hb5); clear hb5)
    go_ret
    exact ⟨rfl, HB5.out⟩
  · rename_i hnb K2 hK2
    have hbt : bl = true := by simpa using hnb
    subst hbt
    have hcost := HCOST.out rfl
    have hla := costR_len ra
    have hlb := costR_len rb
    have hna : ra.length < 100000 := by omega
    have hnb2 : rb.length < 100000 := by omega
    obtain ⟨x, hx⟩ : ∃ x, refMeets ra rb = x := ⟨_, rfl⟩
    obtain ⟨y, hy⟩ : ∃ y, sameB na nb ra rb = y := ⟨_, rfl⟩
    have C7 : Aside0 (∀ W, Below w.heap.size w W → Calls Try.prog 7 #[.agg #[.bool na, .slice A ra.length ca], .agg #[.bool nb, .slice B rb.length cb]] W fun e w' => e = .returned (.bool x) ∧ Below W.heap.size W w') := ⟨fun W hW => by rw [← hx, ← meets_ref]; exact Meet_any na A ra ca nb B rb cb W (HA.out.below hW) (HBB.out.below hW) hna hnb2⟩
    have D7 : Aside0 (∀ W, Below w.heap.size w W → Calls Try.prog 7 #[.agg #[.bool nb, .slice B rb.length cb], .agg #[.bool na, .slice A ra.length ca]] W fun e w' => e = .returned (.bool x) ∧ Below W.heap.size W w') := ⟨fun W hW => by rw [← hx, ← meets_swap]; exact Meet_any nb B rb cb na A ra ca W (HBB.out.below hW) (HA.out.below hW) hnb2 hna⟩
    have C8 : Aside0 (∀ W, Below w.heap.size w W → Calls Try.prog 8 #[.agg #[.bool na, .slice A ra.length ca], .agg #[.bool nb, .slice B rb.length cb]] W fun e w' => e = .returned (.bool x) ∧ Below W.heap.size W w') := ⟨fun W hW => by rw [← hx]; exact RMeet_any na A ra ca nb B rb cb W (HA.out.below hW) (HBB.out.below hW) hna hnb2⟩
    have C9 : Aside0 (∀ W, Below w.heap.size w W → Calls Try.prog 9 #[.agg #[.bool na, .slice A ra.length ca], .agg #[.bool nb, .slice B rb.length cb]] W fun e w' => e = .returned (.bool y) ∧ Below W.heap.size W w') := ⟨fun W hW => by rw [← hy]; exact Same_any na A ra ca nb B rb cb W (HA.out.below hW) (HBB.out.below hW) hna⟩
    have C10 : Aside0 (∀ W, Below w.heap.size w W → Calls Try.prog 10 #[.agg #[.bool na, .slice A ra.length ca], .agg #[.bool nb, .slice B rb.length cb]] W fun e w' => e = .returned (.bool y) ∧ Below W.heap.size W w') := ⟨fun W hW => by rw [← hy]; exact RSame_any na A ra ca nb B rb cb W (HA.out.below hW) (HBB.out.below hW) hna⟩
    have D9 : Aside0 (∀ W, Below w.heap.size w W → Calls Try.prog 9 #[.agg #[.bool na, .slice A ra.length ca], .agg #[.bool na, .slice A ra.length ca]] W fun e w' => e = .returned (.bool true) ∧ Below W.heap.size W w') := ⟨fun W hW => by
      have e : sameB na na ra ra = true := by unfold sameB; rw [sameL_refl]; simp
      rw [← e]; exact Same_any na A ra ca na A ra ca W (HA.out.below hW) (HA.out.below hW) hna⟩
    have C6 : Aside0 (∀ W, Below w.heap.size w W → Calls Try.prog 6 #[] W fun e w' => e = .returned (.bool true) ∧ Below W.heap.size W w') := ⟨fun W _ => lives7 W⟩
    clear hnb hcost hla hlb hna hnb2 hx hy HCOST HA HBB HDA HDB
    generalize hg1 : w1.heap.size = g1 at q3 q4 ⊢
    generalize hg2 : w2.heap.size = g2
    clear hg1 hg2
    go_region_held3 (fun w' => w'.cell? ⟨w.heap.size, 0, none⟩ = some (.bool na) ∧ w'.cell? ⟨w.heap.size, 1, none⟩ = some (.slice A ra.length ca) ∧ w'.cell? ⟨g1, 0, none⟩ = some (.bool nb) ∧ w'.cell? ⟨g1, 1, none⟩ = some (.slice B rb.length cb)) (first | exact ⟨q1, q2, q3, q4⟩ | go_keep)
      (first 
        | (go_at_call 7; (with_reducible refine (C7.out _ (by first | exact HB.out | exact below_drew HB.out)).mono ?_); rintro e wn ⟨rfl, hbl⟩; have p1 := pw_cell_below hbl q1; have p2 := pw_cell_below hbl q2; have p3 := pw_cell_below hbl q3; have p4 := pw_cell_below hbl q4; clear q1 q2 q3 q4; have q1 := p1; have q2 := p2; have q3 := p3; have q4 := p4; clear p1 p2 p3 p4; have HB' := Aside0.mk (below_step (by first | exact HB.out | exact below_drew HB.out) hbl); clear HB; have HB := HB'; clear HB' hbl) 
        | (go_at_call 7; (with_reducible refine (D7.out _ (by first | exact HB.out | exact below_drew HB.out)).mono ?_); rintro e wn ⟨rfl, hbl⟩; have p1 := pw_cell_below hbl q1; have p2 := pw_cell_below hbl q2; have p3 := pw_cell_below hbl q3; have p4 := pw_cell_below hbl q4; clear q1 q2 q3 q4; have q1 := p1; have q2 := p2; have q3 := p3; have q4 := p4; clear p1 p2 p3 p4; have HB' := Aside0.mk (below_step (by first | exact HB.out | exact below_drew HB.out) hbl); clear HB; have HB := HB'; clear HB' hbl) 
        | (go_at_call 8; (with_reducible refine (C8.out _ (by first | exact HB.out | exact below_drew HB.out)).mono ?_); rintro e wn ⟨rfl, hbl⟩; have p1 := pw_cell_below hbl q1; have p2 := pw_cell_below hbl q2; have p3 := pw_cell_below hbl q3; have p4 := pw_cell_below hbl q4; clear q1 q2 q3 q4; have q1 := p1; have q2 := p2; have q3 := p3; have q4 := p4; clear p1 p2 p3 p4; have HB' := Aside0.mk (below_step (by first | exact HB.out | exact below_drew HB.out) hbl); clear HB; have HB := HB'; clear HB' hbl) 
        | (go_at_call 9; (with_reducible refine (C9.out _ (by first | exact HB.out | exact below_drew HB.out)).mono ?_); rintro e wn ⟨rfl, hbl⟩; have p1 := pw_cell_below hbl q1; have p2 := pw_cell_below hbl q2; have p3 := pw_cell_below hbl q3; have p4 := pw_cell_below hbl q4; clear q1 q2 q3 q4; have q1 := p1; have q2 := p2; have q3 := p3; have q4 := p4; clear p1 p2 p3 p4; have HB' := Aside0.mk (below_step (by first | exact HB.out | exact below_drew HB.out) hbl); clear HB; have HB := HB'; clear HB' hbl) 
        | (go_at_call 9; (with_reducible refine (D9.out _ (by first | exact HB.out | exact below_drew HB.out)).mono ?_); rintro e wn ⟨rfl, hbl⟩; have p1 := pw_cell_below hbl q1; have p2 := pw_cell_below hbl q2; have p3 := pw_cell_below hbl q3; have p4 := pw_cell_below hbl q4; clear q1 q2 q3 q4; have q1 := p1; have q2 := p2; have q3 := p3; have q4 := p4; clear p1 p2 p3 p4; have HB' := Aside0.mk (below_step (by first | exact HB.out | exact below_drew HB.out) hbl); clear HB; have HB := HB'; clear HB' hbl) 
        | (go_at_call 10; (with_reducible refine (C10.out _ (by first | exact HB.out | exact below_drew HB.out)).mono ?_); rintro e wn ⟨rfl, hbl⟩; have p1 := pw_cell_below hbl q1; have p2 := pw_cell_below hbl q2; have p3 := pw_cell_below hbl q3; have p4 := pw_cell_below hbl q4; clear q1 q2 q3 q4; have q1 := p1; have q2 := p2; have q3 := p3; have q4 := p4; clear p1 p2 p3 p4; have HB' := Aside0.mk (below_step (by first | exact HB.out | exact below_drew HB.out) hbl); clear HB; have HB := HB'; clear HB' hbl) 
        | (go_at_call 6; (with_reducible refine (C6.out _ (by first | exact HB.out | exact below_drew HB.out)).mono ?_); rintro e wn ⟨rfl, hbl⟩; have p1 := pw_cell_below hbl q1; have p2 := pw_cell_below hbl q2; have p3 := pw_cell_below hbl q3; have p4 := pw_cell_below hbl q4; clear q1 q2 q3 q4; have q1 := p1; have q2 := p2; have q3 := p3; have q4 := p4; clear p1 p2 p3 p4; have HB' := Aside0.mk (below_step (by first | exact HB.out | exact below_drew HB.out) hbl); clear HB; have HB := HB'; clear HB' hbl))
    go_wp2
    go_ret
    exact ⟨rfl, HB.out⟩
end Go.Proofs.Ytmokngiokdffdaa.P
