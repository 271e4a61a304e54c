/-
  window.Get.
-/
import Derived.Test.YtmokngiokdffdaaDoorRh
import Derived.Test.YtmokngiokdffdaaDoorRb
namespace Go.Proofs.YtmokngiokdffdaaDoor.P
open Go.RowKit Go.Proofs.YtmokngiokdffdaaDoorW.PrintWords Go.Proofs.YtmokngiokdffdaaDoorW.PrintLast Go.Proofs.YtmokngiokdffdaaDoorW.PrintMore
attribute [local go_sem high] eqA38
set_option linter.unusedVariables false

theorem RdP.grow {w0 w w' : World} {g : Nat} {rest : List Int} {e : Int} (h : RdP w0 w g rest e) (hb : Below w.heap.size w w') : RdP w0 w' g rest e := by
  obtain ⟨A, c, hb0, hc, hC⟩ := h.blk
  exact ⟨⟨A, c, (hb.block g (blk_lt hb0)).trans hb0, hc, hC⟩, h.far, below_step h.below hb, h.byte⟩
theorem RdP.drew {w0 w : World} {g : Nat} {rest : List Int} {e : Int} (h : RdP w0 w g rest e) : RdP w0 w.drew g rest e := ⟨h.blk, h.far, below_drew h.below, h.byte⟩
theorem RdP.store {w0 w : World} {g : Nat} {rest : List Int} {e : Int} (h : RdP w0 w g rest e) (k j : Nat) (v : Value) (hk : g ≠ k) (hf : w0.heap.size ≤ k) : RdP w0 (w.setCell ⟨k, j, none⟩ v) g rest e := by
  obtain ⟨A, c, hb0, hc, hC⟩ := h.blk
  exact ⟨⟨A, c, blk_far hb0 hk v, hc, hC⟩, h.far, h.below.setCell (p := ⟨k, j, none⟩) hf _, h.byte⟩
theorem RdP.lt {w0 w : World} {g : Nat} {rest : List Int} {e : Int} (h : RdP w0 w g rest e) : g < w.heap.size := by
  obtain ⟨A, c, hb0, hc, hC⟩ := h.blk
  exact blk_lt hb0
theorem Kp.blk {g i : Nat} {a b : World} {o : Obj} (h : Kp g a b) (hb : a.heap[i]? = some o) (hi : i ≠ g) : b.heap[i]? = some o := (h.2 i (blk_lt hb) hi).trans hb
theorem Kp.alloc {g : Nat} {a b : World} (h : Kp g a b) (o : Obj) : Kp g a (b.alloc o) := h.trans (Kp.below (below_alloc (Below.refl _ _) o))
theorem Kp.store {g k j : Nat} {a b : World} (h : Kp g a b) (v : Value) (hk : a.heap.size ≤ k) : Kp g a (b.setCell ⟨k, j, none⟩ v) :=
  ⟨by simpa using h.1, fun i hi hg => (Below.heap_setCell b ⟨k, j, none⟩ v i (by show i ≠ k; omega)).trans (h.2 i hi hg)⟩
theorem Kp.drew {g : Nat} {a b : World} (h : Kp g a b.drew) : Kp g a b := h

/-- The bits so far, what is left, the error: after k of Get's rounds. -/
def getK (rest : List Int) (e : Int) : Nat → Int × List Int × Int
  | 0 => (0, rest, e)
  | k + 1 => (bits .or .u64 (IntKind.u64.wrap ((getK rest e k).1 * 4294967296)) (IntKind.u64.wrap (numS (getK rest e k).2.1 (getK rest e k).2.2 4294967295).1),
      (numS (getK rest e k).2.1 (getK rest e k).2.2 4294967295).2.1, (numS (getK rest e k).2.1 (getK rest e k).2.2 4294967295).2.2)

def getR (B b e : Int) (gd : Bool) : Int × Int := if e = 0 ∧ gd = true then (B, b) else (0, 0)

set_option maxRecDepth 100000 in
set_option maxHeartbeats 8000000 in
theorem Get_any (w0 w : World) (g : Nat) (rest : List Int) (e : Int) (hI : RdP w0 w g rest e) (B : Int) (rest1 : List Int) (e1 : Int) (hN1 : numS rest e 1099511627777 = (B, rest1, e1))
    (b3 : Int) (rest3 : List Int) (e3 : Int) (h3 : getK rest1 e1 2 = (b3, rest3, e3)) (gd : Bool) (hG : window_Good.f B b3 = some gd) :
    Calls Tryd.prog 38 #[.pointer (some ⟨g, 0, none⟩)] w fun en w' => en = .returned (.agg #[.int .i64 (getR B b3 e3 gd).1, .int .u64 (getR B b3 e3 gd).2]) ∧ RdP w0 w' g rest3 e3 ∧ Kp g w w' := by
  have H3 := Aside0.mk h3
  have HG := Aside0.mk hG
  clear h3 hG
  have HI := Aside0.mk (hI.grow (below_alloc (Below.refl w.heap.size w) (.cells #[.int .i64 0, .int .u64 0] 38)))
  have HL := Aside0.mk hI.lt
  have HF := Aside0.mk hI.far
  have hu38 := Tryd.underlying38
  have H1 : Aside0 (∀ W, RdP w0 W g rest e → Calls Tryd.prog 56 #[.pointer (some ⟨g, 0, none⟩), .int .i64 1099511627777] W fun en w' => en = .returned (.int .i64 B) ∧ RdP w0 w' g rest1 e1 ∧ Kp g W w') :=
    Aside0.mk (fun W hW => (Num_any w0 W g rest e 1099511627777 hW).mono (by intro en w' h; unfold NumR at h; rw [hN1] at h; exact h))
  clear hN1 hI
  go_enter Tryd.func38, Tryd.ntmps38
  go_wp2_with fail
  refine (H1.out _ HI.out).mono ?_
  rintro en w1 ⟨rfl, hI1, hK1⟩
  have HI1 := Aside0.mk (hI1.grow (below_alloc (Below.refl w1.heap.size w1) (.cells #[.int .i64 B, .int .u64 0] 38)))
  have HGR := Aside0.mk (blk_alloc (hK1.blk (World.alloc_heap_new w (.cells #[.int .i64 0, .int .u64 0] 38)) (Nat.ne_of_gt HL.out)) (.cells #[.int .i64 B, .int .u64 0] 38))
  have HGW := Aside0.mk (World.alloc_heap_new w1 (.cells #[.int .i64 B, .int .u64 0] 38))
  have HK1 := Aside0.mk (((Kp.refl g w).alloc _).trans (hK1.alloc (.cells #[.int .i64 B, .int .u64 0] 38)))
  have hgs : w.heap.size < w1.heap.size := by have := hK1.1; simp at this; omega
  clear hI1 hK1 HI H1
  go_wp2
  generalize (w1.alloc (.cells #[.int .i64 B, .int .u64 0] 38)) = W2 at HI1 HGR HGW HK1 ⊢
  go_loopw [7] (fun v7 wr => ∃ k : Nat, k ≤ 2 ∧ v7 = .int .i64 k ∧ Aside0 (RdP w0 wr g (getK rest1 e1 k).2.1 (getK rest1 e1 k).2.2 ∧ Kp g w wr ∧ wr.heap[w.heap.size]? = some (.cells #[.int .i64 0, .int .u64 0] 38 (0, 0)) ∧ wr.heap[w1.heap.size]? = some (.cells #[.int .i64 B, .int .u64 (getK rest1 e1 k).1] 38 (0, 0))))
    (fun v7 _ => 2 - (intOf v7).toNat)
  case atStart => exact ⟨0, by omega, rfl, ⟨HI1.out, HK1.out, HGR.out, HGW.out⟩⟩
  case round =>
    obtain ⟨k, hk, rfl, HS⟩ := hrel
    clear HI1 HK1 HGR HGW
    rcases hg : getK rest1 e1 k with ⟨b, rs, er⟩
    rcases hn : numS rs er 4294967295 with ⟨x, rs2, er2⟩
    have hs : getK rest1 e1 (k + 1) = (bits .or .u64 (IntKind.u64.wrap (b * 4294967296)) (IntKind.u64.wrap x), rs2, er2) := by
      unfold getK; rw [hg]; simp only; rw [hn]
    have HSS := Aside0.mk hs
    have HGG := Aside0.mk hg
    have HN : Aside0 (∀ W, RdP w0 W g rs er → Calls Tryd.prog 56 #[.pointer (some ⟨g, 0, none⟩), .int .i64 4294967295] W fun en w' => en = .returned (.int .i64 x) ∧ RdP w0 w' g rs2 er2 ∧ Kp g W w') :=
      Aside0.mk (fun W hW => (Num_any w0 W g rs er 4294967295 hW).mono (by intro en w' h; unfold NumR at h; rw [hn] at h; exact h))
    have hS := HS.out
    rw [hg] at hS
    simp only at hS
    clear HS hs hn hg
    have HI := Aside0.mk hS.1
    have HK := Aside0.mk hS.2.1
    have HGR := Aside0.mk hS.2.2.1
    have HGW := Aside0.mk hS.2.2.2
    clear hS
    by_cases hk2 : k = 2
    · subst hk2
      have hz : (rs, er, b) = (rest3, e3, b3) := by
        have := HGG.out.symm.trans H3.out
        cases this; rfl
      cases hz
      clear HSS HGG H3 HN
      have q0 : wr.cell? ⟨w1.heap.size, 0, none⟩ = some (.int .i64 B) := (blk_cell HGW.out 0).trans rfl
      have q1 : wr.cell? ⟨w1.heap.size, 1, none⟩ = some (.int .u64 b3) := (blk_cell HGW.out 1).trans rfl
      have p0 : wr.cell? ⟨w.heap.size, 0, none⟩ = some (.int .i64 0) := (blk_cell HGR.out 0).trans rfl
      have p1 : wr.cell? ⟨w.heap.size, 1, none⟩ = some (.int .u64 0) := (blk_cell HGR.out 1).trans rfl
      have f0 := blk_frozen HGR.out 0
      have f1 := blk_frozen HGR.out 1
      by_cases hee : e3 = 0
      · have hd : (e3 != 0) = false := by simp [hee]
        have hB1 : gd = true → (B == 0) = false := by
          intro hgd
          subst hgd
          have h1 := HG.out
          unfold window_Good.f at h1
          by_cases hB : B < 1
          · rw [if_pos hB] at h1; cases h1
          · exact beq_eq_false_iff_ne.mpr (by omega)
        cases gd with
        | false =>
          have hr : getR B b3 e3 false = (0, 0) := by unfold getR; rw [if_neg (by simp)]
          have HRR := Aside0.mk hr
          clear hr hee hB1
          go_wp2_with (first | (go_at_call 40; refine (Err_any w0 _ g rest3 e3 HI.out).mono ?_; rintro en w' ⟨rfl, rfl⟩) | (go_at_call 26; refine (window_Good.calls B b3 false _ HG.out).mono ?_; rintro en w5 ⟨rfl, hbl⟩; have q0' := pw_cell_below hbl q0; have q1' := pw_cell_below hbl q1; have HI' := Aside0.mk (HI.out.grow hbl); have HK' := Aside0.mk (HK.out.trans (Kp.below hbl)); have HGR' := Aside0.mk ((hbl.block _ (blk_lt HGR.out)).trans HGR.out); clear q0 q1 p0 p1 f0 f1 hbl HI HK HGR; have HI := HI'; have HK := HK'; have HGR := HGR'; clear HI' HK' HGR'; have f0 := blk_frozen HGR.out 0; have f1 := blk_frozen HGR.out 1; have p0 : w5.cell? ⟨w.heap.size, 0, none⟩ = some (.int .i64 0) := (blk_cell HGR.out 0).trans rfl; have p1 : w5.cell? ⟨w.heap.size, 1, none⟩ = some (.int .u64 0) := (blk_cell HGR.out 1).trans rfl))
          refine bodyPost_ret (results_cell_row rfl _ _ w.heap.size 38 #[.int .i64 0, .int .u64 0] (0, 0) _ rfl (by have := blk_set (blk_set HGR.out 0 (.int .i64 0)) 1 (.int .u64 0); simpa using this) Tryd.underlying38 rfl (by kernel_rfl)) rfl ?_
          rw [HRR.out]
          exact ⟨rfl, (HI.out.store _ _ _ (by have := HL.out; omega) (by have := HF.out; have := HL.out; omega)).store _ _ _ (by have := HL.out; omega) (by have := HF.out; have := HL.out; omega), (HK.out.store _ (Nat.le_refl _)).store _ (Nat.le_refl _)⟩
        | true =>
          have hr : getR B b3 e3 true = (B, b3) := by unfold getR; rw [if_pos ⟨hee, rfl⟩]
          have hB2 := hB1 rfl
          have HRR := Aside0.mk hr
          clear hr hee hB1
          go_wp2_with (first | (go_at_call 40; refine (Err_any w0 _ g rest3 e3 HI.out).mono ?_; rintro en w' ⟨rfl, rfl⟩) | (go_at_call 26; refine (window_Good.calls B b3 true _ HG.out).mono ?_; rintro en w5 ⟨rfl, hbl⟩; have q0' := pw_cell_below hbl q0; have q1' := pw_cell_below hbl q1; have HI' := Aside0.mk (HI.out.grow hbl); have HK' := Aside0.mk (HK.out.trans (Kp.below hbl)); have HGR' := Aside0.mk ((hbl.block _ (blk_lt HGR.out)).trans HGR.out); clear q0 q1 p0 p1 f0 f1 hbl HI HK HGR; have HI := HI'; have HK := HK'; have HGR := HGR'; clear HI' HK' HGR'; have f0 := blk_frozen HGR.out 0; have f1 := blk_frozen HGR.out 1; have p0 : w5.cell? ⟨w.heap.size, 0, none⟩ = some (.int .i64 0) := (blk_cell HGR.out 0).trans rfl; have p1 : w5.cell? ⟨w.heap.size, 1, none⟩ = some (.int .u64 0) := (blk_cell HGR.out 1).trans rfl))
          refine bodyPost_ret (results_cell_row rfl _ _ w.heap.size 38 #[.int .i64 B, .int .u64 b3] (0, 0) _ rfl (by have := blk_set (blk_set HGR.out 0 (.int .i64 B)) 1 (.int .u64 b3); simpa using this) Tryd.underlying38 rfl (by kernel_rfl)) rfl ?_
          rw [HRR.out]
          exact ⟨rfl, (HI.out.store _ _ _ (by have := HL.out; omega) (by have := HF.out; have := HL.out; omega)).store _ _ _ (by have := HL.out; omega) (by have := HF.out; have := HL.out; omega), (HK.out.store _ (Nat.le_refl _)).store _ (Nat.le_refl _)⟩
      · have hd : (e3 != 0) = true := by simp [hee]
        have hr : getR B b3 e3 gd = (0, 0) := by unfold getR; rw [if_neg (fun h => hee h.1)]
        have HRR := Aside0.mk hr
        clear hr hee
        go_wp2_with (first | (go_at_call 40; refine (Err_any w0 _ g rest3 e3 HI.out).mono ?_; rintro en w' ⟨rfl, rfl⟩) | (go_at_call 26; refine (window_Good.calls B b3 false _ HG.out).mono ?_; rintro en w5 ⟨rfl, hbl⟩; have q0' := pw_cell_below hbl q0; have q1' := pw_cell_below hbl q1; have HI' := Aside0.mk (HI.out.grow hbl); have HK' := Aside0.mk (HK.out.trans (Kp.below hbl)); have HGR' := Aside0.mk ((hbl.block _ (blk_lt HGR.out)).trans HGR.out); clear q0 q1 p0 p1 f0 f1 hbl HI HK HGR; have HI := HI'; have HK := HK'; have HGR := HGR'; clear HI' HK' HGR'; have f0 := blk_frozen HGR.out 0; have f1 := blk_frozen HGR.out 1; have p0 : w5.cell? ⟨w.heap.size, 0, none⟩ = some (.int .i64 0) := (blk_cell HGR.out 0).trans rfl; have p1 : w5.cell? ⟨w.heap.size, 1, none⟩ = some (.int .u64 0) := (blk_cell HGR.out 1).trans rfl))
        refine bodyPost_ret (results_cell_row rfl _ _ w.heap.size 38 #[.int .i64 0, .int .u64 0] (0, 0) _ rfl (by have := blk_set (blk_set HGR.out 0 (.int .i64 0)) 1 (.int .u64 0); simpa using this) Tryd.underlying38 rfl (by kernel_rfl)) rfl ?_
        rw [HRR.out]
        exact ⟨rfl, (HI.out.store _ _ _ (by have := HL.out; omega) (by have := HF.out; have := HL.out; omega)).store _ _ _ (by have := HL.out; omega) (by have := HF.out; have := HL.out; omega), (HK.out.store _ (Nat.le_refl _)).store _ (Nat.le_refl _)⟩
    · have hk3 : (k : Int) < 2 := by omega
      have q1 : wr.cell? ⟨w1.heap.size, 1, none⟩ = some (.int .u64 b) := (blk_cell HGW.out 1).trans rfl
      clear hk2
      go_wp2_with fail
      go_region_with (first
          | (go_at_call 56; refine (HN.out _ (by first | exact HI.out | exact HI.out.drew)).mono ?_; rintro en w2 ⟨rfl, hI2, hK2⟩; have HI2 := Aside0.mk hI2; have HK2 := Aside0.mk (HK.out.trans hK2); have HGR2 := Aside0.mk (hK2.blk HGR.out (Nat.ne_of_gt HL.out)); have HGW2 := Aside0.mk (hK2.blk HGW.out (by have := HL.out; omega)); clear q1; have q1 : w2.cell? ⟨w1.heap.size, 1, none⟩ = some (.int .u64 b) := (blk_cell HGW2.out 1).trans rfl; have f1 := blk_frozen HGW2.out 1; clear HI HK HGR HGW hI2 hK2))
      all_goals
        go_wp2
        go_roundw
        case rel =>
          refine ⟨k + 1, by omega, by go_num, ⟨?_, ?_, ?_, ?_⟩⟩
          · rw [HSS.out]; exact HI2.out.store _ _ _ (by have := HL.out; omega) (by have := HF.out; have := HL.out; omega)
          · exact HK2.out.store _ (by omega)
          · exact blk_far HGR2.out (by show w.heap.size ≠ w1.heap.size; omega) _
          · rw [HSS.out]; have := blk_set HGW2.out 1 (.int .u64 (bits .or .u64 (IntKind.u64.wrap (b * 4294967296)) (IntKind.u64.wrap x))); simpa using this
        case measure => simp [intOf]; omega

end Go.Proofs.YtmokngiokdffdaaDoor.P
