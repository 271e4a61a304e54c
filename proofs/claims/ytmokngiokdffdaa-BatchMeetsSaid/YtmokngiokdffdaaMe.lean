/-
  batch.Meet: have two batches a request in common?
-/
import Derived.Test.YtmokngiokdffdaaMp
import Derived.Deep.LoopGhost
namespace Go.Proofs.Ytmokngiokdffdaa.P
open Go.RowKit Go.Proofs.YtmokngiokdffdaaW.PrintWords Go.Proofs.YtmokngiokdffdaaW.PrintLast Go.Proofs.YtmokngiokdffdaaW.PrintMore
set_option linter.unusedVariables false

def pr (r : Req) : Int × Int := (r.client, r.num)
set_option maxHeartbeats 1000000 in
theorem of_any (r : Req) (hr : r.ok) (w : World) : Calls Try.prog 19 #[.agg r.cells.toArray] w fun e w' => e = .returned (.agg #[.int .i64 r.client, .int .i64 r.num]) ∧ Below w.heap.size w w' := by
  have HQ := Aside0.mk hr
  clear hr
  go_enter Try.func19, Try.ntmps19
  go_wp2_with (first
    | (refine box_ev r.cells.toArray 52 _ rfl rfl rfl ?_; intro w1 BK1 HB1 HS1)
    | (refine alloc_ev #[.int .i64 0, .int .i64 0] 58 rfl rfl (by kernel_rfl) ?_; intro w2 BK2 HB2 HS2; have q1 : w2.cell? ⟨w.heap.size, 0, none⟩ = some (.int .i64 r.client) := pw_cell_below HB2.out ((blk_cell BK1.out 0).trans (cells_0 r)); have q2 : w2.cell? ⟨w.heap.size, 1, none⟩ = some (.int .i64 r.num) := pw_cell_below HB2.out ((blk_cell BK1.out 1).trans (cells_1 r)))
    | (refine build_ev #[.int .i64 r.client, .int .i64 r.num] 58 _ rfl rfl (by kernel_rfl) ?_)
    | (refine store_ev w1.heap.size #[.int .i64 r.client, .int .i64 r.num] #[.int .i64 0, .int .i64 0] 58 58 _ _ rfl rfl rfl rfl BK2.out (by kernel_rfl) rfl (by kernel_rfl) ?_; intro w3 BK3 HK3))
  refine bodyPost_ret (results_cell_row rfl _ _ w1.heap.size 58 #[.int .i64 r.client, .int .i64 r.num] (0, 0) _ rfl BK3.out Try.underlying58 rfl (by kernel_rfl)) rfl ?_
  exact ⟨rfl, below_kg (below_step HB1.out HB2.out) (Nat.le_trans HB1.out.size HB2.out.size) HK3.out HB1.out.size⟩

/-- The pairs of requests, the last one first. -/
def prs (rs : List Req) : List (Int × Int) := (rs.map pr).reverse
theorem prs_step (rs : List Req) (k : Nat) (r : Req) (h : rs[k]? = some r) : prs (rs.take (k + 1)) = (r.client, r.num) :: prs (rs.take k) := by
  unfold prs
  rw [List.take_add_one, h, List.map_append, List.reverse_append]
  rfl
def hit (ra : List Req) (r : Req) : Bool := decide ((r.client, r.num) ∈ prs ra)
def NoHit (ra rb : List Req) (j : Nat) : Prop := (rb.take j).any (hit ra) = false
def meets (ra rb : List Req) : Bool := rb.any (hit ra)

theorem get_to {ops : Array Oper} {rest : List Oper} {o : Oper} {a : Act} {Q : Exit → Act → World → Prop} {W : World} (m x : Operand) (b n : Nat) (ps : List (Int × Int)) (c k : Int) (bt : Bool) (hbt : decide ((c, k) ∈ ps) = bt) (hgd : o.guard = none) (hop : o.op = Op.lookup 56 m x false) (hm : a.eval m = .map (some b)) (hx : a.eval x = pairV c k)
    (hown : PairMap W b n ps) (hc : In64 c) (hk : In64 k)
    (h : wpList Try.prog ops Q rest (a.put o.dst (.bool bt)) W) : wpList Try.prog ops Q (o :: rest) a W := by
  subst hbt
  exact get_ev m x b n ps c k hgd hop hm hx hown hc hk h
theorem make_map_ev {ops : Array Oper} {rest : List Oper} {o : Oper} {a : Act} {Q : Exit → Act → World → Prop} {W : World} (hgd : o.guard = none) (hop : o.op = Op.makeMap 56 none)
    (h : ∀ w', Aside0 (PairMap w' W.heap.size 0 []) → Aside0 (Below W.heap.size W w') → wpList Try.prog ops Q rest (a.put o.dst (.map (some W.heap.size))) w') : wpList Try.prog ops Q (o :: rest) a W := by
  refine Kd.event_run hgd ?_ (h _ ⟨PairMap.made W⟩ ⟨below_alloc (Below.refl _ _) _⟩)
  have hmm := @run_makeMap Try.prog 56 W
  unfold execOp
  simp only [hop, Option.map_none, Sem.run_bind, hmm, Result.andThen_ok]
  rfl

set_option maxRecDepth 100000 in
set_option maxHeartbeats 4000000 in
theorem Meet_any (na : Bool) (A : Option Addr) (ra : List Req) (ca : Nat) (nb : Bool) (B : Option Addr) (rb : List Req) (cb : Nat) (w : World) (hA : ReqsAt w A ra) (hB : ReqsAt w B rb) (hna : ra.length < 100000) (hnb : rb.length < 100000) :
    Calls Try.prog 7 #[.agg #[.bool na, .slice A ra.length ca], .agg #[.bool nb, .slice B rb.length cb]] w fun e w' => e = .returned (.bool (meets ra rb)) ∧ Below w.heap.size w w' := by
  have HA := Aside0.mk hA
  have HBB := Aside0.mk hB
  clear hA hB
  have hmm := @run_makeMap Try.prog
  go_enter Try.func7, Try.ntmps7
  go_wp2_with (first
    | (refine box_ev #[.bool na, .slice A ra.length ca] 24 (.tmp 0) rfl rfl rfl ?_; intro w1 BK1 HB1 HS1)
    | (refine box_ev #[.bool nb, .slice B rb.length cb] 24 (.tmp 1) rfl rfl rfl ?_; intro w2 BK2 HB2 HS2)
    | (refine make_map_ev rfl rfl ?_; intro w3 HM HB3; have HBW := Aside0.mk (below_step (below_step HB1.out HB2.out) HB3.out); have HGB := Aside0.mk ((HB3.out.block _ (blk_lt BK2.out)).trans BK2.out); have q1 : w3.cell? ⟨w.heap.size, 1, none⟩ = some (.slice A ra.length ca) := pw_cell_below HB3.out (pw_cell_below HB2.out ((blk_cell BK1.out 1).trans rfl))))
  have HMM : Aside0 (PairMap w3 w2.heap.size 0 (prs (ra.take 0))) := HM
  have HN : Aside0 (w.heap.size ≤ w2.heap.size ∧ w1.heap.size ≠ w2.heap.size ∧ w.heap.size ≤ w1.heap.size) := ⟨by have := HB1.out.size; have := HS2.out; omega⟩
  have hnaI : (ra.length : Int) < 100000 := by omega
  have hnbI : (rb.length : Int) < 100000 := by omega
  clear q1 HM BK1 BK2 HB1 HB2 HB3 hmm
  go_loopw [14] (fun v14 wr => ∃ k : Nat, v14 = .int .i64 k ∧ Aside0 (k ≤ ra.length) ∧ Aside0 (PairMap wr w2.heap.size k (prs (ra.take k))) ∧ Aside0 (Below w.heap.size w wr) ∧ Aside0 (wr.heap[w1.heap.size]? = some (.cells #[.bool nb, .slice B rb.length cb] 24 (0, 0)))) (fun v14 _ => ra.length - (intOf v14).toNat)
  case atStart => exact ⟨0, rfl, ⟨by omega⟩, HMM, HBW, HGB⟩
  case round =>
    clear HMM HBW HGB
    obtain ⟨k, rfl, HK, HM, HBW, HGB⟩ := hrel
    by_cases hk : k < ra.length
    · have c0 : decide ((k : Int) < (ra.length : Int)) = true := decide_eq_true (by omega)
      obtain ⟨r, hr⟩ : ∃ r, ra[k]? = some r := ⟨_, List.getElem?_eq_getElem hk⟩
      have HOK := Aside0.mk (HA.out.ok r (List.mem_of_getElem? hr))
      obtain ⟨ad, rfl, hcell⟩ := (HA.out.below HBW.out).cell (by omega)
      have HCELL := Aside0.mk (fun j v hj => hcell k r hr j v hj)
      have HRK := Aside0.mk hr
      clear hr hcell
      go_wp2_with (first
        | (refine load_ev 52 _ (ad.add (k * 19)) r.cells _ rfl rfl rfl HCELL.out Try.underlying52 rfl (size52 HOK.out) ?_)
        | (refine alloc_ev zReq.cells.toArray 52 rfl rfl (by kernel_rfl) ?_; intro w5 BK5 HB5 HS5)
        | (refine store_ev wr.heap.size r.cells.toArray zReq.cells.toArray 52 52 _ _ rfl rfl rfl rfl BK5.out (size52' HOK.out) (zReq_size HOK.out) (cells_one r) ?_; intro w6 BK6 HK6; have HB6 := Aside0.mk (below_kg HB5.out HB5.out.size HK6.out (Nat.le_refl _)))
        | (refine wpList_load_row rfl 52 _ rfl wr.heap.size rfl 52 _ (0, 0) _ BK6.out Try.underlying52 rfl (size52' HOK.out) ?_)
        | (go_at_call 19; (with_reducible refine (of_any r HOK.out _).mono ?_); rintro e w7 ⟨rfl, hbl⟩; have HB7 := Aside0.mk (below_step HB6.out hbl); have HM7 := Aside0.mk (HM.out.kept HB7.out); clear hbl)
        | (refine put_ev _ _ _ w2.heap.size k (prs (ra.take k)) r.client r.num rfl rfl rfl rfl rfl HM7.out (by omega) HOK.out.client HOK.out.num ?_; intro w8 HM8 HK8))
      go_roundw
      case rel =>
        refine ⟨k + 1, by go_num, ⟨by omega⟩, ⟨?_⟩, ⟨?_⟩, ⟨?_⟩⟩
        · rw [prs_step _ _ _ HRK.out]; exact HM8.out
        · exact below_kg (below_step HBW.out HB7.out) (Nat.le_trans HBW.out.size HB7.out.size) HK8.out HN.out.1
        · exact kg_blk HK8.out ((HB7.out.block _ (blk_lt HGB.out)).trans HGB.out) HN.out.2.1
      case measure => simp [intOf]; omega
    · have c0 : decide ((k : Int) < (ra.length : Int)) = false := decide_eq_false (by omega)
      have hkk : k = ra.length := by have := HK.out; omega
      have HM2 : Aside0 (PairMap wr w2.heap.size k (prs ra)) := ⟨by have h := HM.out; rw [hkk, List.take_length] at h; rw [hkk]; exact h⟩
      have q1 : wr.cell? ⟨w1.heap.size, 1, none⟩ = some (.slice B rb.length cb) := (blk_cell HGB.out 1).trans rfl
      clear HM hkk
      go_wp2_with fail
      obtain ⟨wo, rfl⟩ : ∃ wo : World, wo = wr := ⟨_, rfl⟩
      have HZ : Aside0 (NoHit ra rb 0) := ⟨rfl⟩
      have HB0 := Aside0.mk (Below.refl wo.heap.size wo)
      clear q1
      go_loopg [4, 25] rb.length (fun gk v4 v25 wr => ∃ j : Nat, v4 = .bool false ∧ v25 = .int .i64 j ∧ Aside0 (j + gk = rb.length) ∧ Aside0 (NoHit ra rb j) ∧ Aside0 (Below wo.heap.size wo wr))
      case atStart => exact ⟨0, rfl, rfl, ⟨Nat.zero_add _⟩, HZ, HB0⟩
      case round =>
        clear HZ HB0
        obtain ⟨j, rfl, rfl, HJ, HZ, HB0⟩ := hrel
        by_cases hj : j < rb.length
        · have c1 : decide ((j : Int) < (rb.length : Int)) = true := decide_eq_true (by omega)
          obtain ⟨r, hr⟩ : ∃ r, rb[j]? = some r := ⟨_, List.getElem?_eq_getElem hj⟩
          have HOK := Aside0.mk (HBB.out.ok r (List.mem_of_getElem? hr))
          have HMEM := Aside0.mk (List.mem_of_getElem? hr)
          obtain ⟨ad, rfl, hcell⟩ := (HBB.out.below (below_step HBW.out HB0.out)).cell (by omega)
          have HCELL := Aside0.mk (fun i v hi => hcell j r hr i v hi)
          have HRK := Aside0.mk hr
          have HJJ := Aside0.mk hj
          have hjI : (j : Int) < 100000 := by omega
          have HJI : Aside0 (j < 4611686018427387904) := ⟨by omega⟩
          obtain ⟨bt, hbt⟩ : ∃ b, hit ra r = b := ⟨_, rfl⟩
          have HBT := Aside0.mk hbt
          clear hr hcell hbt
          cases bt
          · go_wp2_with (first
              | (refine load_ev 52 _ (ad.add (j * 19)) r.cells _ rfl rfl rfl HCELL.out Try.underlying52 rfl (size52 HOK.out) ?_)
              | (refine alloc_ev zReq.cells.toArray 52 rfl rfl (by kernel_rfl) ?_; intro w5 BK5 HB5 HS5)
              | (refine store_ev wr.heap.size r.cells.toArray zReq.cells.toArray 52 52 _ _ rfl rfl rfl rfl BK5.out (size52' HOK.out) (zReq_size HOK.out) (cells_one r) ?_; intro w6 BK6 HK6; have HB6 := Aside0.mk (below_kg HB5.out HB5.out.size HK6.out (Nat.le_refl _)))
              | (refine wpList_load_row rfl 52 _ rfl wr.heap.size rfl 52 _ (0, 0) _ BK6.out Try.underlying52 rfl (size52' HOK.out) ?_)
              | (go_at_call 19; (with_reducible refine (of_any r HOK.out _).mono ?_); rintro e w7 ⟨rfl, hbl⟩; have HB7 := Aside0.mk (below_step HB0.out (below_step HB6.out hbl)); have HM7 := Aside0.mk (HM2.out.kept HB7.out); clear hbl)
              | (refine get_to _ _ w2.heap.size k (prs ra) r.client r.num _ HBT.out rfl rfl rfl rfl HM7.out HOK.out.client HOK.out.num ?_; clear hj c1 hnaI hnbI hna hnb hk c0 hjI))
            go_roundg (gk - 1)
            case measure => have := HJ.out; have := HJJ.out; omega
            case rel =>
              refine ⟨j + 1, rfl, by rw [wrap_nat_succ j HJI.out], ⟨by have := HJ.out; have := HJJ.out; omega⟩, ⟨?_⟩, HB7⟩
              have h := HZ.out
              unfold NoHit at h ⊢
              rw [List.take_add_one, HRK.out, List.any_append, h]
              simp [HBT.out]
          · go_wp2_with (first
              | (refine load_ev 52 _ (ad.add (j * 19)) r.cells _ rfl rfl rfl HCELL.out Try.underlying52 rfl (size52 HOK.out) ?_)
              | (refine alloc_ev zReq.cells.toArray 52 rfl rfl (by kernel_rfl) ?_; intro w5 BK5 HB5 HS5)
              | (refine store_ev wr.heap.size r.cells.toArray zReq.cells.toArray 52 52 _ _ rfl rfl rfl rfl BK5.out (size52' HOK.out) (zReq_size HOK.out) (cells_one r) ?_; intro w6 BK6 HK6; have HB6 := Aside0.mk (below_kg HB5.out HB5.out.size HK6.out (Nat.le_refl _)))
              | (refine wpList_load_row rfl 52 _ rfl wr.heap.size rfl 52 _ (0, 0) _ BK6.out Try.underlying52 rfl (size52' HOK.out) ?_)
              | (go_at_call 19; (with_reducible refine (of_any r HOK.out _).mono ?_); rintro e w7 ⟨rfl, hbl⟩; have HB7 := Aside0.mk (below_step HB0.out (below_step HB6.out hbl)); have HM7 := Aside0.mk (HM2.out.kept HB7.out); clear hbl)
              | (refine get_to _ _ w2.heap.size k (prs ra) r.client r.num _ HBT.out rfl rfl rfl rfl HM7.out HOK.out.client HOK.out.num ?_; clear hj c1 hnaI hnbI hna hnb hk c0 hjI))
            go_ret
            refine ⟨?_, below_step HBW.out HB7.out⟩
            have e : meets ra rb = true := List.any_eq_true.2 ⟨r, HMEM.out, HBT.out⟩
            rw [e]; rfl
        · have c1 : decide ((j : Int) < (rb.length : Int)) = false := decide_eq_false (by omega)
          have hjj : j = rb.length := by have := HJ.out; omega
          have HF : Aside0 (meets ra rb = false) := ⟨by have h := HZ.out; unfold NoHit at h; rw [hjj, List.take_length] at h; exact h⟩
          clear HZ hjj
          go_wp2_with fail
          go_ret
          exact ⟨by rw [HF.out]; rfl, below_step HBW.out HB0.out⟩
end Go.Proofs.Ytmokngiokdffdaa.P
