/-
  WindowReads: the walk.
-/
import Derived.Test.YtmokngiokdffdaaDoorWx
namespace Go.Proofs.YtmokngiokdffdaaDoor.P
open Go.RowKit Go.Proofs.YtmokngiokdffdaaDoorW.PrintWords Go.Proofs.YtmokngiokdffdaaDoorW.PrintLast Go.Proofs.YtmokngiokdffdaaDoorW.PrintMore
attribute [local go_sem high] eqA38
set_option linter.unusedVariables false
set_option linter.unusedSimpArgs false

set_option maxRecDepth 100000 in
set_option maxHeartbeats 8000000 in
theorem Reads_lives (A0 : Option Addr) (c0 : Nat) (l0 : List Int) (B : Int) (m : Nat) (w : World) (hT : TabOK w) (h : 2000 < l0.length) :
    Calls Tryd.prog 9 #[.slice A0 l0.length c0, .agg #[.int .i64 B, .int .u64 (m : Int)]] w fun e w' => e = .returned (.bool true) ∧ Below w.heap.size w w' := by
  have KL := Aside0.mk (lives09 10 (by omega))
  have HB := Aside0.mk (below_alloc (Below.refl w.heap.size w) (.cells #[.int .i64 B, .int .u64 (m : Int)] 38))
  have hd : decide (2000 < (l0.length : Int)) = true := decide_eq_true (by omega)
  clear h
  go_enter Tryd.func9, Tryd.ntmps9
  go_wp2_with (go_at_call 21; refine (raddlelaw09_lives.calls 10 true _ KL.out (hT.below' HB.out)).mono ?_; rintro e wn ⟨rfl, hbl⟩)
  go_ret
  exact ⟨rfl, below_step HB.out hbl⟩

set_option maxRecDepth 100000 in
set_option maxHeartbeats 8000000 in
theorem Reads_core (A0 : Option Addr) (c0 : Nat) (l0 : List Int) (B : Int) (m : Nat) (w : World) (hm : m < 2 ^ 64) (hB : B < 9223372036854775808) (hT : TabOK w)
    (hl : l0.length ≤ 2000) (hr0 : Kd.C (Kd.int .u8) w A0 l0.length l0) (hc0 : l0.length ≤ c0) (hby : ∀ x ∈ l0, 0 ≤ x ∧ x < 256) :
    Calls Tryd.prog 9 #[.slice A0 l0.length c0, .agg #[.int .i64 B, .int .u64 (m : Int)]] w fun e w' => e = .returned (.bool true) ∧ Below w.heap.size w w' := by
  have hu38 := Tryd.underlying38
  have KL := Aside0.mk (lives09 10 (by omega))
  have hd : decide (2000 < (l0.length : Int)) = false := decide_eq_false (by omega)
  have HR0 := Aside0.mk hr0
  have HC0 := Aside0.mk hc0
  have HBY := Aside0.mk hby
  have HPUT := Aside0.mk (RPut_eq 200 l0 B m hm hB (by omega) (by omega))
  obtain ⟨gB, gm, x2, x3, n1, n2, n3, e1, e2, e3, r1, r3, hgB, hgm, hx2, hx2', hx3, hx3', hmm, hN1, hN2, hN3, hS1, hK2, hdrop⟩ := reads_same l0 hby
  obtain ⟨R0, hR0⟩ : ∃ R0, (getR gB (gm : Int) e3 (goodB gB gm)).1 = R0 := ⟨_, rfl⟩
  obtain ⟨R1, hR1⟩ : ∃ R1, (getR gB (gm : Int) e3 (goodB gB gm)).2 = R1 := ⟨_, rfl⟩
  obtain ⟨lf, hlf⟩ : ∃ lf : Int, (if e3 = 0 then (r3.length : Int) else 0) = lf := ⟨_, rfl⟩
  have HG38 : Aside0 (∀ (w0 W : World) (g : Nat), RdP w0 W g l0 0 → Calls Tryd.prog 38 #[.pointer (some ⟨g, 0, none⟩)] W fun en w' => en = .returned (.agg #[.int .i64 R0, .int .u64 R1]) ∧ RdP w0 w' g r3 e3 ∧ Kp g W w') :=
    Aside0.mk (fun w0 W g hI => (Get_any w0 W g l0 0 hI gB r1 e1 hS1 (gm : Int) r3 e3 hK2 (goodB gB gm) (Good_eq gB gm hgm hgB)).mono (by
      rintro en w' ⟨rfl, h2, h3⟩
      rw [hR0, hR1]
      exact ⟨rfl, h2, h3⟩))
  have HG39 : Aside0 (∀ (w0 W : World) (g : Nat), RsP w0 W g l0 0 0 → Calls Tryd.prog 39 #[.pointer (some ⟨g, 0, none⟩)] W fun en w' => en = .returned (.agg #[.int .i64 R0, .int .u64 R1]) ∧ RsP w0 w' g l0 n3 e3 ∧ Kp g W w') :=
    Aside0.mk (fun w0 W g hI => (RGet_any w0 W g l0 0 0 hI gB n1 e1 hN1 x2 n2 e2 hN2 x3 n3 e3 hN3 hx2 hx2' hx3 hx3' 200 (goodB gB gm) (by rw [← hmm]; exact RGood_eq 200 (by omega) gB gm hgm hgB)).mono (by
      rintro en w' ⟨rfl, h2, h3⟩
      rw [← hmm, hR0, hR1]
      exact ⟨rfl, h2, h3⟩))
  have HL41 : Aside0 (∀ (w0 W : World) (g : Nat), RdP w0 W g r3 e3 → Calls Tryd.prog 41 #[.pointer (some ⟨g, 0, none⟩)] W fun en w' => en = .returned (.int .i64 lf) ∧ w' = W) :=
    Aside0.mk (fun w0 W g hI => (Left_any w0 W g r3 e3 hI).mono (by rintro en w' ⟨rfl, h2⟩; exact ⟨by rw [hlf], h2⟩))
  have HL42 : Aside0 (∀ (w0 W : World) (g : Nat), RsP w0 W g l0 n3 e3 → Calls Tryd.prog 42 #[.pointer (some ⟨g, 0, none⟩)] W fun en w' => en = .returned (.int .i64 lf) ∧ Drawn0 W w') :=
    Aside0.mk (fun w0 W g hI => (RLeft_any w0 W g l0 n3 e3 hI).mono (by
      rintro en w' ⟨rfl, h2⟩
      refine ⟨?_, h2⟩
      rw [← hlf]
      by_cases he : e3 = 0
      · rw [if_pos he, if_pos he, hdrop he]
      · rw [if_neg he, if_neg he]))
  have HB0 := Aside0.mk (below_alloc (Below.refl w.heap.size w) (.cells #[.int .i64 B, .int .u64 (m : Int)] 38))
  have BK0 := Aside0.mk (World.alloc_heap_new w (.cells #[.int .i64 B, .int .u64 (m : Int)] 38))
  clear hr0 hc0 hby hgB hgm hx2 hx2' hx3 hx3' hmm hN1 hN2 hN3 hS1 hK2 hdrop hR0 hR1 hlf
  go_enter Tryd.func9, Tryd.ntmps9
  go_wp2_with fail
  refine (Read_any A0 c0 l0 _ (Kd.C_below HR0.out HB0.out) (by omega) HBY.out).mono ?_
  rintro e wr ⟨g, wA, rfl, hI, hbA⟩
  have HI0 := Aside0.mk hI
  have HBA := Aside0.mk (below_step HB0.out hbA)
  have HBR := Aside0.mk (below_step HBA.out hI.below)
  have BKA := Aside0.mk (blk_below (blk_below BK0.out hbA) hI.below)
  have HgA : Aside0 (w.heap.size ≠ g) := Aside0.mk (by have h1 := hI.far; have h2 := blk_lt (blk_below BK0.out hbA); omega)
  clear hI hbA HB0 BK0
  go_wp2_with fail
  refine (RRead2 A0 c0 l0 _ (Kd.C_below HR0.out HBR.out) (by omega) HBY.out).mono ?_
  rintro e ws ⟨g2, wB, rfl, hJ, hbB⟩
  have HJ := Aside0.mk hJ
  have HI := Aside0.mk ((HI0.out.grow hbB).grow hJ.below)
  have BK := Aside0.mk (blk_below (blk_below BKA.out hbB) hJ.below)
  have HgB : Aside0 (g < wB.heap.size ∧ w.heap.size ≠ g2 ∧ wA.heap.size ≤ g2 ∧ g ≠ g2) := Aside0.mk (by
    have h1 := hJ.far; have h2 := HI0.out.lt; have h3 := hbB.size; have h4 := blk_lt BKA.out; have h5 := HI0.out.below.size
    exact ⟨by omega, by omega, by omega, by omega⟩)
  clear hJ hbB HI0 BKA HBR
  go_wp2_with fail
  have HBW := Aside0.mk (below_step HBA.out HI.out.below)
  have q1 : ws.cell? ⟨w.heap.size, 0, none⟩ = some (.int .i64 B) := (blk_cell BK.out 0).trans rfl
  have q2 : ws.cell? ⟨w.heap.size, 1, none⟩ = some (.int .u64 (m : Int)) := (blk_cell BK.out 1).trans rfl
  have tok1 := Aside0.mk trivial
  refine wp_region_held_drew (S := fun w' => w'.cell? ⟨w.heap.size, 0, none⟩ = some (.int .i64 B) ∧ w'.cell? ⟨w.heap.size, 1, none⟩ = some (.int .u64 (m : Int))) (by kernel_rfl) ⟨q1, q2⟩ (fun hHeld => ?_)
  refine wpAnyH_take (i := 0) (oi := _) (v := ?vv0) rfl (by kernel_rfl) (by kernel_rfl) (by kernel_rfl) (fun _ _ _ h => h) (Or.inl ⟨by rfl, ?hy0⟩) (by assumption) ?rest0
  case hy0 => intro w hSw; (try dsimp only at hSw); go_simp; (try with_reducible rfl)
  try simp only [Act.put, List.setIfInBounds_toArray, List.set_cons_zero, List.set_cons_succ]
  refine wpAnyH_take (i := 1) (oi := _) (v := ?vv1) rfl (by kernel_rfl) (by kernel_rfl) (by kernel_rfl) (fun _ _ _ h => h) (Or.inl ⟨by rfl, ?hy1⟩) (by assumption) ?rest1
  case hy1 => intro w hSw; (try dsimp only at hSw); go_simp; (try with_reducible rfl)
  try simp only [Act.put, List.setIfInBounds_toArray, List.set_cons_zero, List.set_cons_succ]
  refine wpAnyH_take (i := 4) (oi := _) (v := ?vv4) rfl (by kernel_rfl) (by kernel_rfl) (by kernel_rfl) (fun _ _ _ h => h) (Or.inl ⟨by rfl, ?hy4⟩) (by assumption) ?rest4
  case hy4 => intro w hSw; (try dsimp only at hSw); go_simp; (try with_reducible rfl)
  try simp only [Act.put, List.setIfInBounds_toArray, List.set_cons_zero, List.set_cons_succ]
  refine wpAnyH_take (i := 5) (oi := _) (v := ?vv5) rfl (by kernel_rfl) (by kernel_rfl) (by kernel_rfl) (fun _ _ _ h => h) (Or.inl ⟨by rfl, ?hy5⟩) (by assumption) ?rest5
  case hy5 => intro w hSw; (try dsimp only at hSw); go_simp; (try with_reducible rfl)
  try simp only [Act.put, List.setIfInBounds_toArray, List.set_cons_zero, List.set_cons_succ]
  refine wpAnyH_ready (rs := [2]) (by kernel_rfl) (by simp) ?_
  refine AllReadyH.cons rfl (fun K hK => ?_) AllReadyH.nil
  go_simp
  refine (WPut_any A0 c0 l0 B m hm hB _ (by first | exact Kd.C_below HR0.out HBW.out | exact Kd.C_drew (Kd.C_below HR0.out HBW.out)) HC0.out (by omega)).mono ?_; rintro e w1 ⟨v17, rfl, hR, hbl⟩; obtain ⟨A1, c1, rfl, hc1, hC1⟩ := Kd.R_reads hR; have HC1 := Aside0.mk hC1; have HD1 := Aside0.mk hc1; have HI' := Aside0.mk ((by first | exact HI.out | exact HI.out.drew : RdP wA _ g l0 0).grow hbl); have HJ' := Aside0.mk ((by first | exact HJ.out | exact HJ.out.drew : RsP wB _ g2 l0 0 0).grow hbl); have BK' := Aside0.mk ((hbl.block _ (blk_lt BK.out)).trans BK.out); clear q1 q2 HI HJ BK HBW hR hc1 hbl; have HI := HI'; have HJ := HJ'; have BK := BK'; clear HI' HJ' BK'; have HBW := Aside0.mk (below_step HBA.out HI.out.below); have cv10 : (convert 54 9 (.slice A1 (putW l0 B m).length c1)).run Tryd.prog w1 = .ok (.string (strOfNums (putW l0 B m))) w1 := Kd.C_string (P := Tryd.prog) (A := A1) (c := c1) Tryd.underlying54 Tryd.underlying5 Tryd.underlying9 hC1; have cv11 : (convert 54 9 (.slice A1 (putW l0 B m).length c1)).run Tryd.prog w1.drew = .ok (.string (strOfNums (putW l0 B m))) w1.drew := Kd.C_string (P := Tryd.prog) (A := A1) (c := c1) Tryd.underlying54 Tryd.underlying5 Tryd.underlying9 (Kd.C_drew hC1); clear hC1; have q1 : w1.cell? ⟨w.heap.size, 0, none⟩ = some (.int .i64 B) := (blk_cell BK.out 0).trans rfl; have q2 : w1.cell? ⟨w.heap.size, 1, none⟩ = some (.int .u64 (m : Int)) := (blk_cell BK.out 1).trans rfl
  (try go_wp2_with fail)
  refine hK.out _ _ ⟨q1, q2⟩ (fun hHeld => ?_)
  clear hK K
  try simp only [Act.put, List.setIfInBounds_toArray, List.set_cons_zero, List.set_cons_succ]
  refine wpAnyH_strong (S' := fun w' => (w'.cell? ⟨w.heap.size, 0, none⟩ = some (.int .i64 B) ∧ w'.cell? ⟨w.heap.size, 1, none⟩ = some (.int .u64 (m : Int))) ∧ (convert 54 9 (.slice A1 (putW l0 B m).length c1)).run Tryd.prog w' = .ok (.string (strOfNums (putW l0 B m))) w') (fun _ h => h.1) _ _ _ _ ?_
  have hHeld2 := (⟨hHeld, cv10⟩ : (fun w' => (w'.cell? ⟨w.heap.size, 0, none⟩ = some (.int .i64 B) ∧ w'.cell? ⟨w.heap.size, 1, none⟩ = some (.int .u64 (m : Int))) ∧ (convert 54 9 (.slice A1 (putW l0 B m).length c1)).run Tryd.prog w' = .ok (.string (strOfNums (putW l0 B m))) w') w1)
  clear hHeld
  have hHeld := hHeld2
  clear hHeld2
  refine wpAnyH_take (i := 3) (oi := _) (v := ?vv3) rfl (by kernel_rfl) (by kernel_rfl) (by kernel_rfl) (fun _ _ _ h => h) (Or.inl ⟨by rfl, ?hy3⟩) (by assumption) ?rest3
  case hy3 => intro w hSw; (try dsimp only at hSw); go_simp; (try with_reducible rfl)
  try simp only [Act.put, List.setIfInBounds_toArray, List.set_cons_zero, List.set_cons_succ]
  refine wpAnyH_ready (rs := [6]) (by kernel_rfl) (by simp) ?_
  refine AllReadyH.cons rfl (fun K hK => ?_) AllReadyH.nil
  go_simp
  refine (raddleref09_Put.calls 200 A0 c0 l0 B (m : Int) (putW l0 B m) _ (by first | exact Kd.C_below HR0.out HBW.out | exact Kd.C_drew (Kd.C_below HR0.out HBW.out)) HC0.out HPUT.out).mono ?_; rintro e w2 ⟨v21, rfl, hR, hbl⟩; obtain ⟨A2, c2, rfl, hc2, hC2⟩ := Kd.R_reads hR; have hC1 := Kd.C_below (by first | exact HC1.out | exact Kd.C_drew HC1.out) hbl; have HI' := Aside0.mk ((by first | exact HI.out | exact HI.out.drew : RdP wA _ g l0 0).grow hbl); have HJ' := Aside0.mk ((by first | exact HJ.out | exact HJ.out.drew : RsP wB _ g2 l0 0 0).grow hbl); have BK' := Aside0.mk ((hbl.block _ (blk_lt BK.out)).trans BK.out); clear q1 q2 HI HJ BK HBW hR hc2 hbl; have HI := HI'; have HJ := HJ'; have BK := BK'; clear HI' HJ' BK'; have HBW := Aside0.mk (below_step HBA.out HI.out.below); have cv30 : (convert 54 9 (.slice A1 (putW l0 B m).length c1)).run Tryd.prog w2 = .ok (.string (strOfNums (putW l0 B m))) w2 := Kd.C_string (P := Tryd.prog) (A := A1) (c := c1) Tryd.underlying54 Tryd.underlying5 Tryd.underlying9 hC1; have cv31 : (convert 54 9 (.slice A1 (putW l0 B m).length c1)).run Tryd.prog w2.drew = .ok (.string (strOfNums (putW l0 B m))) w2.drew := Kd.C_string (P := Tryd.prog) (A := A1) (c := c1) Tryd.underlying54 Tryd.underlying5 Tryd.underlying9 (Kd.C_drew hC1); have cv40 : (convert 54 9 (.slice A2 (putW l0 B m).length c2)).run Tryd.prog w2 = .ok (.string (strOfNums (putW l0 B m))) w2 := Kd.C_string (P := Tryd.prog) (A := A2) (c := c2) Tryd.underlying54 Tryd.underlying5 Tryd.underlying9 hC2; have cv41 : (convert 54 9 (.slice A2 (putW l0 B m).length c2)).run Tryd.prog w2.drew = .ok (.string (strOfNums (putW l0 B m))) w2.drew := Kd.C_string (P := Tryd.prog) (A := A2) (c := c2) Tryd.underlying54 Tryd.underlying5 Tryd.underlying9 (Kd.C_drew hC2); have HC1' := Aside0.mk hC1; clear HC1 hC1 hC2; have HC1 := HC1'; clear HC1'; have q1 : w2.cell? ⟨w.heap.size, 0, none⟩ = some (.int .i64 B) := (blk_cell BK.out 0).trans rfl; have q2 : w2.cell? ⟨w.heap.size, 1, none⟩ = some (.int .u64 (m : Int)) := (blk_cell BK.out 1).trans rfl
  (try go_wp2_with fail)
  refine hK.out _ _ ⟨⟨q1, q2⟩, cv30⟩ (fun hHeld => ?_)
  clear hK K
  try simp only [Act.put, List.setIfInBounds_toArray, List.set_cons_zero, List.set_cons_succ]
  refine wpAnyH_ready (rs := [7]) (by kernel_rfl) (by simp) ?_
  refine AllReadyH.cons rfl (fun K hK => ?_) AllReadyH.nil
  go_simp
  refine hK.out _ _ ⟨⟨q1, q2⟩, cv30⟩ (fun hHeld => ?_)
  clear hK K
  try simp only [Act.put, List.setIfInBounds_toArray, List.set_cons_zero, List.set_cons_succ]
  refine wpAnyH_take (i := 8) (oi := _) (v := ?vv8) rfl (by kernel_rfl) (by kernel_rfl) (by kernel_rfl) (fun _ _ _ h => h) (Or.inl ⟨by rfl, ?hy8⟩) (by assumption) ?rest8
  case hy8 => intro w hSw; (try dsimp only at hSw); go_simp; (try with_reducible rfl)
  try simp only [Act.put, List.setIfInBounds_toArray, List.set_cons_zero, List.set_cons_succ]
  refine wpAnyH_take (i := 9) (oi := _) (v := ?vv9) rfl (by kernel_rfl) (by kernel_rfl) (by kernel_rfl) (fun _ _ _ h => h) (Or.inl ⟨by rfl, ?hy9⟩) (by assumption) ?rest9
  case hy9 => intro w hSw; (try dsimp only at hSw); go_simp; (try with_reducible rfl)
  try simp only [Act.put, List.setIfInBounds_toArray, List.set_cons_zero, List.set_cons_succ]
  refine wpAnyH_take (i := 10) (oi := _) (v := ?vv10) rfl (by kernel_rfl) (by kernel_rfl) (by kernel_rfl) (fun _ _ _ h => h) (Or.inl ⟨by rfl, ?hy10⟩) (by assumption) ?rest10
  case hy10 => intro w hSw; (try dsimp only at hSw); go_simp; (try with_reducible rfl)
  try simp only [Act.put, List.setIfInBounds_toArray, List.set_cons_zero, List.set_cons_succ]
  refine wpAnyH_take (i := 12) (oi := _) (v := ?vv12) rfl (by kernel_rfl) (by kernel_rfl) (by kernel_rfl) (fun _ _ _ h => h) (Or.inl ⟨by rfl, ?hy12⟩) (by assumption) ?rest12
  case hy12 => intro w hSw; (try dsimp only at hSw); go_simp; (try with_reducible rfl)
  try simp only [Act.put, List.setIfInBounds_toArray, List.set_cons_zero, List.set_cons_succ]
  refine wpAnyH_ready (rs := [11]) (by kernel_rfl) (by simp) ?_
  refine AllReadyH.cons rfl (fun K hK => ?_) AllReadyH.nil
  go_simp
  refine (HG38.out wA _ g (by first | exact HI.out | exact HI.out.drew)).mono ?_; rintro e w3 ⟨rfl, hI', hK'⟩; have hsm := RdP.same (by first | exact HI.out | exact HI.out.drew : RdP wA _ g l0 0) hI'; obtain ⟨wB', hJ', hsz⟩ := RsP.other (by first | exact HJ.out | exact HJ.out.drew : RsP wB _ g2 l0 0 0) hK' hsm HgB.out.1 (by obtain ⟨Ax, cx, hx, _⟩ := HI.out.blk; exact ⟨Ax, cx, hx⟩); have HC1' := Aside0.mk (C_other HC1.out hK' (fun a x hx => by obtain ⟨Ax, cx, hbx, _⟩ := HI.out.blk; exact cell_u8_ne hbx hx)); clear HC1; have HC1 := HC1'; clear HC1'; have cv5 : (convert 54 9 (.slice A1 (putW l0 B m).length c1)).run Tryd.prog w3 = .ok (.string (strOfNums (putW l0 B m))) w3 := Kd.C_string (P := Tryd.prog) (A := A1) (c := c1) Tryd.underlying54 Tryd.underlying5 Tryd.underlying9 HC1.out; have HI' := Aside0.mk hI'; have HJ' := Aside0.mk hJ'; have BK' := Aside0.mk (Kp.blk hK' BK.out HgA.out); clear q1 q2 HI HJ BK HBW hI' hJ' hK' hsm hsz; have HI := HI'; have HJ := HJ'; have BK := BK'; clear HI' HJ' BK'; have HBW := Aside0.mk (below_step HBA.out HI.out.below); have q1 : w3.cell? ⟨w.heap.size, 0, none⟩ = some (.int .i64 B) := (blk_cell BK.out 0).trans rfl; have q2 : w3.cell? ⟨w.heap.size, 1, none⟩ = some (.int .u64 (m : Int)) := (blk_cell BK.out 1).trans rfl
  (try go_wp2_with fail)
  refine hK.out _ _ ⟨⟨q1, q2⟩, cv5⟩ (fun hHeld => ?_)
  clear hK K
  try simp only [Act.put, List.setIfInBounds_toArray, List.set_cons_zero, List.set_cons_succ]
  refine wpAnyH_ready (rs := [13]) (by kernel_rfl) (by simp) ?_
  refine AllReadyH.cons rfl (fun K hK => ?_) AllReadyH.nil
  go_simp
  refine (HG39.out wB' _ g2 (by first | exact HJ.out | exact HJ.out.drew)).mono ?_; rintro e w4 ⟨rfl, hJ', hK'⟩; have hsm := RsP.same (by first | exact HJ.out | exact HJ.out.drew : RsP wB' _ g2 l0 0 0) hJ'; have HC1' := Aside0.mk (C_other HC1.out hK' (fun a x hx => by obtain ⟨Ax, cx, hbx, _⟩ := HJ.out.blk; exact cell_u8_ne' hbx hx)); clear HC1; have HC1 := HC1'; clear HC1'; have cv6 : (convert 54 9 (.slice A1 (putW l0 B m).length c1)).run Tryd.prog w4 = .ok (.string (strOfNums (putW l0 B m))) w4 := Kd.C_string (P := Tryd.prog) (A := A1) (c := c1) Tryd.underlying54 Tryd.underlying5 Tryd.underlying9 HC1.out; have HI' := Aside0.mk (RdP.other (by first | exact HI.out | exact HI.out.drew : RdP wA _ g r3 e3) hK' hsm HgB.out.2.2.1 HgB.out.2.2.2); have HJ' := Aside0.mk hJ'; have BK' := Aside0.mk (Kp.blk hK' BK.out HgB.out.2.1); clear q1 q2 HI HJ BK HBW hJ' hK' hsm; have HI := HI'; have HJ := HJ'; have BK := BK'; clear HI' HJ' BK'; have HBW := Aside0.mk (below_step HBA.out HI.out.below); have qe : w4.cell? ⟨g2, 2, none⟩ = some (.int .i64 e3) := (by obtain ⟨Ax, cx, hx, _⟩ := HJ.out.blk; exact (blk_cell hx 2).trans rfl); have q1 : w4.cell? ⟨w.heap.size, 0, none⟩ = some (.int .i64 B) := (blk_cell BK.out 0).trans rfl; have q2 : w4.cell? ⟨w.heap.size, 1, none⟩ = some (.int .u64 (m : Int)) := (blk_cell BK.out 1).trans rfl
  (try go_wp2_with fail)
  refine hK.out _ _ ⟨⟨q1, q2⟩, cv6⟩ (fun hHeld => ?_)
  clear hK K
  try simp only [Act.put, List.setIfInBounds_toArray, List.set_cons_zero, List.set_cons_succ]
  refine wpAnyH_strong (S' := fun w' => ((w'.cell? ⟨w.heap.size, 0, none⟩ = some (.int .i64 B) ∧ w'.cell? ⟨w.heap.size, 1, none⟩ = some (.int .u64 (m : Int))) ∧ (convert 54 9 (.slice A1 (putW l0 B m).length c1)).run Tryd.prog w' = .ok (.string (strOfNums (putW l0 B m))) w') ∧ w'.cell? ⟨g2, 2, none⟩ = some (.int .i64 e3)) (fun _ h => h.1) _ _ _ _ ?_
  have hHeld2 := (⟨hHeld, qe⟩ : (fun w' => ((w'.cell? ⟨w.heap.size, 0, none⟩ = some (.int .i64 B) ∧ w'.cell? ⟨w.heap.size, 1, none⟩ = some (.int .u64 (m : Int))) ∧ (convert 54 9 (.slice A1 (putW l0 B m).length c1)).run Tryd.prog w' = .ok (.string (strOfNums (putW l0 B m))) w') ∧ w'.cell? ⟨g2, 2, none⟩ = some (.int .i64 e3)) w4)
  clear hHeld
  have hHeld := hHeld2
  clear hHeld2
  refine wpAnyH_take (i := 14) (oi := _) (v := ?vv14) rfl (by kernel_rfl) (by kernel_rfl) (by kernel_rfl) (fun _ _ _ h => h) (Or.inl ⟨by rfl, ?hy14⟩) (by assumption) ?rest14
  case hy14 => intro w hSw; (try dsimp only at hSw); go_simp; (try with_reducible rfl)
  try simp only [Act.put, List.setIfInBounds_toArray, List.set_cons_zero, List.set_cons_succ]
  refine wpAnyH_take (i := 15) (oi := _) (v := ?vv15) rfl (by kernel_rfl) (by kernel_rfl) (by kernel_rfl) (fun _ _ _ h => h) (Or.inl ⟨by rfl, ?hy15⟩) (by assumption) ?rest15
  case hy15 => intro w hSw; (try dsimp only at hSw); go_simp; (try with_reducible rfl)
  try simp only [Act.put, List.setIfInBounds_toArray, List.set_cons_zero, List.set_cons_succ]
  refine wpAnyH_take (i := 16) (oi := _) (v := ?vv16) rfl (by kernel_rfl) (by kernel_rfl) (by kernel_rfl) (fun _ _ _ h => h) (Or.inl ⟨by rfl, ?hy16⟩) (by assumption) ?rest16
  case hy16 => intro w hSw; (try dsimp only at hSw); go_simp; (try with_reducible rfl)
  try simp only [Act.put, List.setIfInBounds_toArray, List.set_cons_zero, List.set_cons_succ]
  refine wpAnyH_take (i := 17) (oi := _) (v := ?vv17) rfl (by kernel_rfl) (by kernel_rfl) (by kernel_rfl) (fun _ _ _ h => h) (Or.inl ⟨by rfl, ?hy17⟩) (by assumption) ?rest17
  case hy17 => intro w hSw; (try dsimp only at hSw); go_simp; (try with_reducible rfl)
  try simp only [Act.put, List.setIfInBounds_toArray, List.set_cons_zero, List.set_cons_succ]
  refine wpAnyH_take (i := 19) (oi := _) (v := ?vv19) rfl (by kernel_rfl) (by kernel_rfl) (by kernel_rfl) (fun _ _ _ h => h) (Or.inl ⟨by rfl, ?hy19⟩) (by assumption) ?rest19
  case hy19 => intro w hSw; (try dsimp only at hSw); go_simp; (try with_reducible rfl)
  try simp only [Act.put, List.setIfInBounds_toArray, List.set_cons_zero, List.set_cons_succ]
  refine wpAnyH_take (i := 20) (oi := _) (v := ?vv20) rfl (by kernel_rfl) (by kernel_rfl) (by kernel_rfl) (fun _ _ _ h => h) (Or.inl ⟨by rfl, ?hy20⟩) (by assumption) ?rest20
  case hy20 => intro w hSw; (try dsimp only at hSw); go_simp; (try with_reducible rfl)
  try simp only [Act.put, List.setIfInBounds_toArray, List.set_cons_zero, List.set_cons_succ]
  refine wpAnyH_take (i := 21) (oi := _) (v := ?vv21) rfl (by kernel_rfl) (by kernel_rfl) (by kernel_rfl) (fun _ _ _ h => h) (Or.inl ⟨by rfl, ?hy21⟩) (by assumption) ?rest21
  case hy21 => intro w hSw; (try dsimp only at hSw); go_simp; (try with_reducible rfl)
  try simp only [Act.put, List.setIfInBounds_toArray, List.set_cons_zero, List.set_cons_succ]
  refine wpAnyH_take (i := 22) (oi := _) (v := ?vv22) rfl (by kernel_rfl) (by kernel_rfl) (by kernel_rfl) (fun _ _ _ h => h) (Or.inl ⟨by rfl, ?hy22⟩) (by assumption) ?rest22
  case hy22 => intro w hSw; (try dsimp only at hSw); go_simp; (try with_reducible rfl)
  try simp only [Act.put, List.setIfInBounds_toArray, List.set_cons_zero, List.set_cons_succ]
  refine wpAnyH_ready (rs := [18]) (by kernel_rfl) (by simp) ?_
  refine AllReadyH.cons rfl (fun K hK => ?_) AllReadyH.nil
  go_simp
  refine (Err_any wA _ g r3 e3 (by first | exact HI.out | exact HI.out.drew)).mono ?_; rintro e w5 ⟨rfl, rfl⟩
  (try go_wp2_with fail)
  refine hK.out _ _ hHeld (fun hHeld => ?_)
  clear hK K
  try simp only [Act.put, List.setIfInBounds_toArray, List.set_cons_zero, List.set_cons_succ]
  refine wpAnyH_take (i := 23) (oi := _) (v := ?vv23) rfl (by kernel_rfl) (by kernel_rfl) (by kernel_rfl) (fun _ _ _ h => h) (Or.inl ⟨by rfl, ?hy23⟩) (by assumption) ?rest23
  case hy23 => intro w hSw; (try dsimp only at hSw); go_simp; (try with_reducible rfl)
  try simp only [Act.put, List.setIfInBounds_toArray, List.set_cons_zero, List.set_cons_succ]
  refine wpAnyH_take (i := 24) (oi := _) (v := ?vv24) rfl (by kernel_rfl) (by kernel_rfl) (by kernel_rfl) (fun _ _ _ h => h) (Or.inl ⟨by rfl, ?hy24⟩) (by assumption) ?rest24
  case hy24 => intro w hSw; (try dsimp only at hSw); go_simp; (try with_reducible rfl)
  try simp only [Act.put, List.setIfInBounds_toArray, List.set_cons_zero, List.set_cons_succ]
  refine wpAnyH_take (i := 25) (oi := _) (v := ?vv25) rfl (by kernel_rfl) (by kernel_rfl) (by kernel_rfl) (fun _ _ _ h => h) (Or.inl ⟨by rfl, ?hy25⟩) (by assumption) ?rest25
  case hy25 => intro w hSw; (try dsimp only at hSw); go_simp; (try with_reducible rfl)
  try simp only [Act.put, List.setIfInBounds_toArray, List.set_cons_zero, List.set_cons_succ]
  refine wpAnyH_take (i := 26) (oi := _) (v := ?vv26) rfl (by kernel_rfl) (by kernel_rfl) (by kernel_rfl) (fun _ _ _ h => h) (Or.inl ⟨by rfl, ?hy26⟩) (by assumption) ?rest26
  case hy26 => intro w hSw; (try dsimp only at hSw); go_simp; (try with_reducible rfl)
  try simp only [Act.put, List.setIfInBounds_toArray, List.set_cons_zero, List.set_cons_succ]
  refine wpAnyH_take (i := 28) (oi := _) (v := ?vv28) rfl (by kernel_rfl) (by kernel_rfl) (by kernel_rfl) (fun _ _ _ h => h) (Or.inl ⟨by rfl, ?hy28⟩) (by assumption) ?rest28
  case hy28 => intro w hSw; (try dsimp only at hSw); go_simp; (try with_reducible rfl)
  try simp only [Act.put, List.setIfInBounds_toArray, List.set_cons_zero, List.set_cons_succ]
  refine wpAnyH_ready (rs := [27]) (by kernel_rfl) (by simp) ?_
  refine AllReadyH.cons rfl (fun K hK => ?_) AllReadyH.nil
  go_simp
  refine (HL41.out wA _ g (by first | exact HI.out | exact HI.out.drew)).mono ?_; rintro e w6 ⟨rfl, rfl⟩
  (try go_wp2_with fail)
  refine hK.out _ _ hHeld (fun hHeld => ?_)
  clear hK K
  try simp only [Act.put, List.setIfInBounds_toArray, List.set_cons_zero, List.set_cons_succ]
  refine wpAnyH_ready (rs := [29]) (by kernel_rfl) (by simp) ?_
  refine AllReadyH.cons rfl (fun K hK => ?_) AllReadyH.nil
  go_simp
  refine (HL42.out wB' _ g2 (by first | exact HJ.out | exact HJ.out.drew)).mono ?_; rintro e w7 ⟨rfl, ⟨dm, rfl⟩⟩
  (try go_wp2_with fail)
  refine hK.out _ _ ⟨⟨⟨q1, q2⟩, Kd.C_string (P := Tryd.prog) (A := A1) (c := c1) Tryd.underlying54 Tryd.underlying5 Tryd.underlying9 (Kd.C_drewN HC1.out dm)⟩, qe⟩ (fun hHeld => ?_)
  clear hK K
  try simp only [Act.put, List.setIfInBounds_toArray, List.set_cons_zero, List.set_cons_succ]
  refine wpAnyH_take (i := 30) (oi := _) (v := ?vv30) rfl (by kernel_rfl) (by kernel_rfl) (by kernel_rfl) (fun _ _ _ h => h) (Or.inl ⟨by rfl, ?hy30⟩) (by assumption) ?rest30
  case hy30 => intro w hSw; (try dsimp only at hSw); go_simp; (try with_reducible rfl)
  try simp only [Act.put, List.setIfInBounds_toArray, List.set_cons_zero, List.set_cons_succ]
  refine wpAnyH_take (i := 31) (oi := _) (v := ?vv31) rfl (by kernel_rfl) (by kernel_rfl) (by kernel_rfl) (fun _ _ _ h => h) (Or.inl ⟨by rfl, ?hy31⟩) (by assumption) ?rest31
  case hy31 => intro w hSw; (try dsimp only at hSw); go_simp; (try with_reducible rfl)
  try simp only [Act.put, List.setIfInBounds_toArray, List.set_cons_zero, List.set_cons_succ]
  refine wpAnyH_take (i := 32) (oi := _) (v := ?vv32) rfl (by kernel_rfl) (by kernel_rfl) (by kernel_rfl) (fun _ _ _ h => h) (Or.inl ⟨by rfl, ?hy32⟩) (by assumption) ?rest32
  case hy32 => intro w hSw; (try dsimp only at hSw); go_simp; (try with_reducible rfl)
  try simp only [Act.put, List.setIfInBounds_toArray, List.set_cons_zero, List.set_cons_succ]
  refine wpAnyH_ready (rs := [33]) (by kernel_rfl) (by simp) ?_
  refine AllReadyH.cons rfl (fun K hK => ?_) AllReadyH.nil
  go_simp
  refine (raddlelaw09_lives.calls 10 true _ KL.out (by first | exact hT.below' HBW.out | exact (hT.below' HBW.out).drew | exact (hT.below' HBW.out).drewN _)).mono ?_; rintro e wn ⟨rfl, hbl⟩; have HBN := Aside0.mk (below_step (by first | exact HBW.out | exact below_drew HBW.out | exact pw_below_drewN HBW.out _ : Below w.heap.size w _) hbl)
  (try go_wp2_with fail)
  refine hK.out _ _ ⟨⟨⟨pw_cell_below hbl q1, pw_cell_below hbl q2⟩, Kd.C_string (P := Tryd.prog) (A := A1) (c := c1) Tryd.underlying54 Tryd.underlying5 Tryd.underlying9 (Kd.C_below (Kd.C_drewN HC1.out dm) hbl)⟩, pw_cell_below hbl qe⟩ (fun hHeld => ?_)
  clear hK K
  try simp only [Act.put, List.setIfInBounds_toArray, List.set_cons_zero, List.set_cons_succ]
  refine wpAnyH_take (i := 34) (oi := _) (v := ?vv34) rfl (by kernel_rfl) (by kernel_rfl) (by kernel_rfl) (fun _ _ _ h => h) (Or.inl ⟨by rfl, ?hy34⟩) (by assumption) ?rest34
  case hy34 => intro w hSw; (try dsimp only at hSw); go_simp; (try with_reducible rfl)
  try simp only [Act.put, List.setIfInBounds_toArray, List.set_cons_zero, List.set_cons_succ]
  refine wpAnyH_take (i := 35) (oi := _) (v := ?vv35) rfl (by kernel_rfl) (by kernel_rfl) (by kernel_rfl) (fun _ _ _ h => h) (Or.inl ⟨by rfl, ?hy35⟩) (by assumption) ?rest35
  case hy35 => intro w hSw; (try dsimp only at hSw); go_simp; (try with_reducible rfl)
  try simp only [Act.put, List.setIfInBounds_toArray, List.set_cons_zero, List.set_cons_succ]
  go_simp
  refine wpAnyH_done (by kernel_rfl) ?_ _
  all_goals
    go_wp2
    go_ret
    exact ⟨by simp, HBN.out⟩

theorem WindowReads_walk (a0 : Option Addr) (len0 cap0 : Nat) (z0 : List Int) (b1_0 b1_1 : Int) (w : World)
    (w0 : (a0 = none ∧ len0 = 0 ∧ cap0 = 0 ∧ z0 = []) ∨ ∃ x, a0 = some x ∧ len0 ≤ cap0 ∧ cap0 ≤ maxLen ∧ z0.length = cap0 ∧ (∀ i, i < z0.length → w.cell? (x.add i) = some (.int .u8 (z0.getD i 0))) ∧ ∀ n ∈ z0, (Lit.int .u8 n).wf = true) (y0 : len0 * 1 ≤ 140737488351232)
    (u0 : (Lit.int .i64 b1_0).wf = true) (u1 : (Lit.int .u64 b1_1).wf = true) (hT : TabOK w) :
    Calls Tryd.prog 9 #[.slice a0 len0 cap0, .agg #[.int .i64 b1_0, .int .u64 b1_1]] w fun e w' => e = .returned (.bool true) ∧ Below w.heap.size w w' := by
  obtain ⟨l0, rfl, hr0, hm0, hw0, hc0⟩ := ReadsInt.ofRowC w0
  obtain ⟨m, rfl, hm⟩ := u64_nat u1
  have hC := Kd.C_of_reads (d := (0 : Int)) (h1 := fun _ => rfl) hr0
  by_cases h1 : 2000 < l0.length
  · exact Reads_lives a0 cap0 l0 b1_0 m w hT h1
  · exact Reads_core a0 cap0 l0 b1_0 m w hm (wf_i64 u0).2 hT (by omega) hC hc0 (fun x hx => wf_u8' (hw0 x hx))

end Go.Proofs.YtmokngiokdffdaaDoor.P
