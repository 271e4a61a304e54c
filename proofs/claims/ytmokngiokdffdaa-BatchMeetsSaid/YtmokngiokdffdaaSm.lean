/-
  batch.Same and the reference's Same: are two batches the same?
-/
import Derived.Test.YtmokngiokdffdaaRm
namespace Go.Proofs.Ytmokngiokdffdaa.P
open Go.RowKit Go.Proofs.YtmokngiokdffdaaW.PrintWords Go.Proofs.YtmokngiokdffdaaW.PrintLast Go.Proofs.YtmokngiokdffdaaW.PrintMore
set_option linter.unusedVariables false
set_option linter.unusedSimpArgs false

/-- A struct's load, in a region that only reads. -/
theorem quiet_load {P : Program} {ops : Array Oper} {Q : Act → Prop} {a : Act} {o : Oper} {rest : List Oper} {w0 : World} (ty : TypeId) (x : Operand) (a0 : Addr) (cs : List Value) (d : TypeDesc) (hgd : o.guard = none) (ho : o.op = .load ty x) (hx : a.eval x = .pointer (some a0))
    (hc : ∀ j v, cs[j]? = some v → w0.cell? (a0.add j) = some v)
    (hu : P.underlying ty = some d) (hd : (match d with | .struct _ | .array _ _ => true | _ => false) = true) (hi : (P.info? ty).map (·.size) = some cs.length)
    (h : wpQuiet P ops (fun w' => ∃ n, w' = w0.drewN n) Q rest (a.put o.dst (.agg cs.toArray))) : wpQuiet P ops (fun w' => ∃ n, w' = w0.drewN n) Q (o :: rest) a := by
  refine wpQuiet_step (fun K hK => ?_)
  have hw : Region.wanted o (yielded ops a.tmps) = true := by simp [Region.wanted, hgd]
  rw [if_pos hw]
  refine ⟨.agg cs.toArray, ?_, hK _ h⟩
  rintro w' ⟨n, rfl⟩
  unfold Oper.quietAt execOp
  simp only [ho, hx, Instr.loadAt, Instr.sureAddr, Sem.run_bind, Sem.run_pure, Result.andThen_ok, run_loadVar_at (w0.drewN n) ty a0 cs d hc hu hd hi]
  exact ⟨rfl, rfl⟩

/-- The same requests, in the same order. -/
def sameL : List Req → List Req → Bool
  | [], [] => true
  | r :: rs, s :: ss => reqEq r s && sameL rs ss
  | _, _ => false
theorem sameL_refl : ∀ rs : List Req, sameL rs rs = true
  | [] => rfl
  | r :: rs => by unfold sameL; rw [reqEq_refl, sameL_refl rs]; rfl
theorem sameL_len : ∀ {rs ss : List Req}, rs.length ≠ ss.length → sameL rs ss = false
  | [], [], h => absurd rfl h
  | [], _ :: _, _ => rfl
  | _ :: _, [], _ => rfl
  | r :: rs, s :: ss, h => by
    unfold sameL
    rw [sameL_len (rs := rs) (ss := ss) (fun e => h (by simp [e]))]
    simp
theorem sameL_iff : ∀ (rs ss : List Req), rs.length = ss.length → (sameL rs ss = true ↔ ∀ (i : Nat) (r s : Req), rs[i]? = some r → ss[i]? = some s → reqEq r s = true)
  | [], [], _ => ⟨fun _ i r s h => by simp at h, fun _ => rfl⟩
  | r :: rs, s :: ss, h => by
    unfold sameL
    rw [Bool.and_eq_true, sameL_iff rs ss (by simpa using h)]
    constructor
    · rintro ⟨h1, h2⟩ i x y hx hy
      cases i with
      | zero => simp at hx hy; rw [← hx, ← hy]; exact h1
      | succ i => exact h2 i x y (by simpa using hx) (by simpa using hy)
    · intro h1
      exact ⟨h1 0 r s rfl rfl, fun i x y hx hy => h1 (i + 1) x y (by simpa using hx) (by simpa using hy)⟩
  | [], _ :: _, h => by simp at h
  | _ :: _, [], h => by simp at h
def EqTo (rs ss : List Req) (k : Nat) : Prop := ∀ i : Nat, i < k → ∀ r s : Req, rs[i]? = some r → ss[i]? = some s → reqEq r s = true
theorem EqTo.all {rs ss : List Req} {k : Nat} (h : EqTo rs ss k) (hl : rs.length = ss.length) (hk : k = rs.length) : sameL rs ss = true := by
  refine (sameL_iff rs ss hl).2 (fun i r s hr hs => h i ?_ r s hr hs)
  rw [hk]; exact (List.getElem?_eq_some_iff.1 hr).1
theorem EqTo.step {rs ss : List Req} {k : Nat} {r s : Req} (h : EqTo rs ss k) (hr : rs[k]? = some r) (hs : ss[k]? = some s) (he : reqEq r s = true) : EqTo rs ss (k + 1) := by
  intro i hi x y hx hy
  by_cases e : i = k
  · subst e
    rw [hr] at hx; rw [hs] at hy
    cases hx; cases hy; exact he
  · exact h i (by omega) x y hx hy
theorem sameL_no {rs ss : List Req} {k : Nat} {r s : Req} (hl : rs.length = ss.length) (hr : rs[k]? = some r) (hs : ss[k]? = some s) (he : reqEq r s = false) : sameL rs ss = false := by
  rw [Bool.eq_false_iff]
  intro h
  have := (sameL_iff rs ss hl).1 h k r s hr hs
  rw [he] at this; cases this

set_option maxRecDepth 100000 in
set_option maxHeartbeats 4000000 in
theorem same_any (A : Option Addr) (ra : List Req) (ca : Nat) (B : Option Addr) (rb : List Req) (cb : Nat) (w : World) (hA : ReqsAt w A ra) (hB : ReqsAt w B rb) (hlen : ra.length ≤ 140737488351232) :
    Calls Try.prog 20 #[.slice A ra.length ca, .slice B rb.length cb] w fun e w' => e = .returned (.bool (sameL ra rb)) ∧ Drawn0 w w' := by
  have HA := Aside0.mk hA
  have HB := Aside0.mk hB
  clear hA hB
  by_cases hl : ra.length = rb.length
  · have HL := Aside0.mk hl
    have hmax := HA.out.size
    obtain ⟨n, hn⟩ : ∃ n, ra.length = n := ⟨_, rfl⟩
    have hn2 : rb.length = n := by omega
    have HN := Aside0.mk hn
    have HN2 := Aside0.mk hn2
    rw [hn, hn2]
    rw [hn] at hmax
    have HMAX : Aside0 (n < 4611686018427387904) := ⟨by omega⟩
    clear hl hn hn2
    have hne : ((n : Int) != (n : Int)) = false := by simp
    go_enter Try.func20, Try.ntmps20
    go_wp2_with fail
    have HZ : Aside0 (EqTo ra rb 0) := ⟨fun i hi => absurd hi (Nat.not_lt_zero i)⟩
    have HW : Aside0 (∃ q, w = w.drewN q) := ⟨⟨0, rfl⟩⟩
    go_loopg [4, 13] n (fun gk v4 v13 wr => ∃ k : Nat, v4 = .bool false ∧ v13 = .int .i64 k ∧ Aside0 (k + gk = n) ∧ Aside0 (EqTo ra rb k) ∧ Aside0 (∃ q, wr = w.drewN q))
    case atStart => exact ⟨0, rfl, rfl, ⟨Nat.zero_add _⟩, HZ, HW⟩
    case round =>
      clear HZ HW
      obtain ⟨k, rfl, rfl, HK, HZ, HW⟩ := hrel
      obtain ⟨q, rfl⟩ := HW.out
      by_cases hk : k < n
      · have c0 : decide ((k : Int) < (n : Int)) = true := decide_eq_true (by omega)
        obtain ⟨r, hr⟩ : ∃ r, ra[k]? = some r := ⟨_, List.getElem?_eq_getElem (by rw [HN.out]; exact hk)⟩
        obtain ⟨s, hs⟩ : ∃ s, rb[k]? = some s := ⟨_, List.getElem?_eq_getElem (by rw [HN2.out]; exact hk)⟩
        obtain ⟨ad, rfl, hca⟩ := HA.out.cell (by rw [HN.out]; omega)
        obtain ⟨bd, rfl, hcb⟩ := HB.out.cell (by rw [HN2.out]; omega)
        have HRO := Aside0.mk (HA.out.ok r (List.mem_of_getElem? hr))
        have HSO := Aside0.mk (HB.out.ok s (List.mem_of_getElem? hs))
        have HCA : Aside0 (∀ j v, r.cells[j]? = some v → (w.drewN q).cell? ((ad.add (k * 19)).add j) = some v) := ⟨fun j v hj => hca k r hr j v hj⟩
        have HCB : Aside0 (∀ j v, s.cells[j]? = some v → (w.drewN q).cell? ((bd.add (k * 19)).add j) = some v) := ⟨fun j v hj => hcb k s hs j v hj⟩
        have HR := Aside0.mk hr
        have HS := Aside0.mk hs
        have HKK := Aside0.mk hk
        have HKJ : Aside0 (k < 4611686018427387904) := ⟨by have := HMAX.out; omega⟩
        have HWQ : Aside0 (∀ nq, ∃ m, (w.drewN q).drewN nq = w.drewN m) := ⟨fun nq => ⟨q + nq, World.drewN_drewN _ _ _⟩⟩
        obtain ⟨b, hb⟩ : ∃ b, reqEq r s = b := ⟨_, rfl⟩
        have hq := neq_req r s HRO.out HSO.out
        rw [hb] at hq
        have HBQ := Aside0.mk hb
        have k1 : (k : Int) < (n : Int) := by omega
        clear hr hs hca hcb hb HW
        generalize w.drewN q = wq at HCA HCB HWQ ⊢
        cases b
        · simp only [Bool.not_false] at hq
          go_wp2_with fail
          refine wp_region_quiet_lit (by kernel_rfl) (by kernel_rfl) ?_
          repeat (first | (refine quiet_load 52 _ (ad.add (k * 19)) r.cells _ rfl rfl rfl HCA.out Try.underlying52 rfl (size52 HRO.out) ?_; try simp only [Act.put, List.setIfInBounds_toArray, List.set_cons_zero, List.set_cons_succ]) | (refine quiet_load 52 _ (bd.add (k * 19)) s.cells _ rfl rfl rfl HCB.out Try.underlying52 rfl (size52 HSO.out) ?_; try simp only [Act.put, List.setIfInBounds_toArray, List.set_cons_zero, List.set_cons_succ]) | go_big_quiet_step (fail))
          refine wpQuiet_nil ?_
          intro _ hw'
          obtain ⟨nq, hw''⟩ := hw'
          subst hw''
          clear hk k1 c0 hmax hne hq
          go_wp2_with fail
          go_ret
          refine ⟨?_, ?_⟩
          · rw [sameL_no HL.out HR.out HS.out HBQ.out]; rfl
          · obtain ⟨m, hm⟩ := HWQ.out nq
            exact ⟨⟨m, hm⟩⟩
        · simp only [Bool.not_true] at hq
          go_wp2_with fail
          refine wp_region_quiet_lit (by kernel_rfl) (by kernel_rfl) ?_
          repeat (first | (refine quiet_load 52 _ (ad.add (k * 19)) r.cells _ rfl rfl rfl HCA.out Try.underlying52 rfl (size52 HRO.out) ?_; try simp only [Act.put, List.setIfInBounds_toArray, List.set_cons_zero, List.set_cons_succ]) | (refine quiet_load 52 _ (bd.add (k * 19)) s.cells _ rfl rfl rfl HCB.out Try.underlying52 rfl (size52 HSO.out) ?_; try simp only [Act.put, List.setIfInBounds_toArray, List.set_cons_zero, List.set_cons_succ]) | go_big_quiet_step (fail))
          refine wpQuiet_nil ?_
          intro _ hw'
          obtain ⟨nq, hw''⟩ := hw'
          subst hw''
          clear hk k1 c0 hmax hne hq
          go_wp2_with fail
          go_roundg (gk - 1)
          case measure => have := HK.out; have := HKK.out; omega
          case rel => exact ⟨k + 1, rfl, by rw [wrap_nat_succ k HKJ.out], ⟨by have := HK.out; have := HKK.out; omega⟩, ⟨HZ.out.step HR.out HS.out HBQ.out⟩, ⟨HWQ.out _⟩⟩
      · have c0 : decide ((k : Int) < (n : Int)) = false := decide_eq_false (by omega)
        have hkk : k = ra.length := by have := HK.out; have := HN.out; omega
        have HF : Aside0 (sameL ra rb = true) := ⟨HZ.out.all HL.out hkk⟩
        clear hkk HZ HW
        go_wp2_with fail
        go_ret
        exact ⟨by rw [HF.out]; rfl, ⟨⟨_, rfl⟩⟩⟩
  · have hne : ((ra.length : Int) != (rb.length : Int)) = true := by rw [bne_iff_ne]; omega
    have hne2 : ((ra.length : Int) = (rb.length : Int)) = False := eq_false (by omega)
    have HF : Aside0 (sameL ra rb = false) := ⟨sameL_len hl⟩
    clear hl
    go_enter Try.func20, Try.ntmps20
    go_wp2_with fail
    go_ret
    exact ⟨by rw [HF.out]; rfl, Drawn0.refl _⟩
def sameB (na nb : Bool) (ra rb : List Req) : Bool := (na == nb) && sameL ra rb

set_option maxRecDepth 100000 in
set_option maxHeartbeats 4000000 in
theorem Same_any (na : Bool) (A : Option Addr) (ra : List Req) (ca : Nat) (nb : Bool) (B : Option Addr) (rb : List Req) (cb : Nat) (w : World) (hA : ReqsAt w A ra) (hB : ReqsAt w B rb) (hna : ra.length < 100000) :
    Calls Try.prog 9 #[.agg #[.bool na, .slice A ra.length ca], .agg #[.bool nb, .slice B rb.length cb]] w fun e w' => e = .returned (.bool (sameB na nb ra rb)) ∧ Below w.heap.size w w' := by
  have HA := Aside0.mk hA
  have HBB := Aside0.mk hB
  have HNA : Aside0 (ra.length ≤ 140737488351232) := ⟨by omega⟩
  obtain ⟨bq, hbq⟩ : ∃ b, (na == nb) = b := ⟨_, rfl⟩
  have HQ := Aside0.mk hbq
  clear hA hB hna
  cases bq
  all_goals
    go_enter Try.func9, Try.ntmps9
    go_wp2_with (first
      | (refine box_ev #[.bool na, .slice A ra.length ca] 24 (.tmp 0) rfl rfl rfl ?_; intro w1 BK1 HB1 HS1)
      | (refine box_ev #[.bool nb, .slice B rb.length cb] 24 (.tmp 1) rfl rfl rfl ?_; intro w2 BK2 HB2 HS2; have p0 : w2.cell? ⟨w.heap.size, 0, none⟩ = some (.bool na) := pw_cell_below HB2.out ((blk_cell BK1.out 0).trans rfl); have p1 : w2.cell? ⟨w.heap.size, 1, none⟩ = some (.slice A ra.length ca) := pw_cell_below HB2.out ((blk_cell BK1.out 1).trans rfl); have p2 : w2.cell? ⟨w1.heap.size, 0, none⟩ = some (.bool nb) := (blk_cell BK2.out 0).trans rfl; have p3 : w2.cell? ⟨w1.heap.size, 1, none⟩ = some (.slice B rb.length cb) := (blk_cell BK2.out 1).trans rfl; have HBW := Aside0.mk (below_step HB1.out HB2.out))
      | (go_at_call 20; (with_reducible refine (same_any A ra ca B rb cb _ (HA.out.below HBW.out) (HBB.out.below HBW.out) HNA.out).mono ?_); rintro e w3 ⟨rfl, hd⟩; have HD := Aside0.mk hd; clear hd))
  · go_ret
    refine ⟨?_, HBW.out⟩
    unfold sameB; rw [HQ.out]; rfl
  · go_ret
    refine ⟨?_, below_step HBW.out HD.out.below⟩
    unfold sameB; rw [HQ.out]; rfl

set_option maxRecDepth 100000 in
set_option maxHeartbeats 4000000 in
theorem RSame_any (na : Bool) (A : Option Addr) (ra : List Req) (ca : Nat) (nb : Bool) (B : Option Addr) (rb : List Req) (cb : Nat) (w : World) (hA : ReqsAt w A ra) (hB : ReqsAt w B rb) (hna : ra.length < 100000) :
    Calls Try.prog 10 #[.agg #[.bool na, .slice A ra.length ca], .agg #[.bool nb, .slice B rb.length cb]] w fun e w' => e = .returned (.bool (sameB na nb ra rb)) ∧ Below w.heap.size w w' := by
  have HA := Aside0.mk hA
  have HBB := Aside0.mk hB
  by_cases hq : na = nb
  · have HQ : Aside0 (sameB na nb ra rb = sameL ra rb) := ⟨by unfold sameB; rw [hq]; simp⟩
    have e1 : (na == nb) = true := by rw [hq]; simp
    clear hq
    by_cases hl : ra.length = rb.length
    · have HL := Aside0.mk hl
      obtain ⟨n, hn⟩ : ∃ n, ra.length = n := ⟨_, rfl⟩
      have hn2 : rb.length = n := by omega
      have HN := Aside0.mk hn
      have HN2 := Aside0.mk hn2
      rw [hn, hn2]
      rw [hn] at hna
      have HMAX : Aside0 (n < 4611686018427387904) := ⟨by omega⟩
      clear hl hn hn2 hna hA hB
      have hne : ((n : Int) != (n : Int)) = false := by simp
      go_enter Try.func10, Try.ntmps10
      go_wp2_with (first
        | (refine box_ev #[.bool na, .slice A n ca] 24 (.tmp 0) rfl rfl rfl ?_; intro w1 BK1 HB1 HS1)
        | (refine box_ev #[.bool nb, .slice B n cb] 24 (.tmp 1) rfl rfl rfl ?_; intro w2 BK2 HB2 HS2; have p0 : w2.cell? ⟨w.heap.size, 0, none⟩ = some (.bool na) := pw_cell_below HB2.out ((blk_cell BK1.out 0).trans rfl); have p2 : w2.cell? ⟨w1.heap.size, 0, none⟩ = some (.bool nb) := (blk_cell BK2.out 0).trans rfl; have p1 : w2.cell? ⟨w.heap.size, 1, none⟩ = some (.slice A n ca) := pw_cell_below HB2.out ((blk_cell BK1.out 1).trans rfl); have p3 : w2.cell? ⟨w1.heap.size, 1, none⟩ = some (.slice B n cb) := (blk_cell BK2.out 1).trans rfl; have HBW := Aside0.mk (below_step HB1.out HB2.out)))
      have HQ1 : Aside0 (w2.cell? ⟨w.heap.size, 1, none⟩ = some (.slice A n ca)) := ⟨p1⟩
      have HQ2 : Aside0 (w2.cell? ⟨w1.heap.size, 1, none⟩ = some (.slice B n cb)) := ⟨p3⟩
      have HA2 := Aside0.mk (HA.out.below HBW.out)
      have HB2' := Aside0.mk (HBB.out.below HBW.out)
      have HZ : Aside0 (EqTo ra rb 0) := ⟨fun i hi => absurd hi (Nat.not_lt_zero i)⟩
      have HW : Aside0 (∃ q, w2 = w2.drewN q) := ⟨⟨0, rfl⟩⟩
      clear BK1 BK2 HB1 HB2 p0 p1 p2 p3 e1 hne
      go_loopg [4, 5] n (fun gk v4 v5 wr => ∃ k : Nat, v4 = .bool false ∧ v5 = .int .i64 k ∧ Aside0 (k + gk = n) ∧ Aside0 (EqTo ra rb k) ∧ Aside0 (∃ q, wr = w2.drewN q))
      case atStart => exact ⟨0, rfl, rfl, ⟨Nat.zero_add _⟩, HZ, HW⟩
      case round =>
        clear HZ HW
        obtain ⟨k, rfl, rfl, HK, HZ, HW⟩ := hrel
        obtain ⟨q, rfl⟩ := HW.out
        have q1 : (w2.drewN q).cell? ⟨w.heap.size, 1, none⟩ = some (.slice A n ca) := HQ1.out
        have q2 : (w2.drewN q).cell? ⟨w1.heap.size, 1, none⟩ = some (.slice B n cb) := HQ2.out
        by_cases hk : k < n
        · have c0 : decide ((k : Int) < (n : Int)) = true := decide_eq_true (by omega)
          obtain ⟨r, hr⟩ : ∃ r, ra[k]? = some r := ⟨_, List.getElem?_eq_getElem (by rw [HN.out]; exact hk)⟩
          obtain ⟨s, hs⟩ : ∃ s, rb[k]? = some s := ⟨_, List.getElem?_eq_getElem (by rw [HN2.out]; exact hk)⟩
          obtain ⟨ad, rfl, hca⟩ := HA2.out.cell (by rw [HN.out]; omega)
          obtain ⟨bd, rfl, hcb⟩ := HB2'.out.cell (by rw [HN2.out]; omega)
          have HRO := Aside0.mk (HA2.out.ok r (List.mem_of_getElem? hr))
          have HSO := Aside0.mk (HB2'.out.ok s (List.mem_of_getElem? hs))
          have HCA : Aside0 (∀ j v, r.cells[j]? = some v → (w2.drewN q).cell? ((ad.add (k * 19)).add j) = some v) := ⟨fun j v hj => hca k r hr j v hj⟩
          have HCB : Aside0 (∀ j v, s.cells[j]? = some v → (w2.drewN q).cell? ((bd.add (k * 19)).add j) = some v) := ⟨fun j v hj => hcb k s hs j v hj⟩
          have HR := Aside0.mk hr
          have HS := Aside0.mk hs
          have HKK := Aside0.mk hk
          have HKJ : Aside0 (k < 4611686018427387904) := ⟨by have := HMAX.out; omega⟩
          have HWQ : Aside0 (∀ nq, ∃ m, (w2.drewN q).drewN nq = w2.drewN m) := ⟨fun nq => ⟨q + nq, World.drewN_drewN _ _ _⟩⟩
          have HBQ : Aside0 (∀ nq, Below w.heap.size w ((w2.drewN q).drewN nq)) := ⟨fun nq => pw_below_drewN (pw_below_drewN HBW.out _) _⟩
          obtain ⟨b, hb⟩ : ∃ b, reqEq r s = b := ⟨_, rfl⟩
          have hq := neq_req r s HRO.out HSO.out
          rw [hb] at hq
          have HBE := Aside0.mk hb
          have k1 : (k : Int) < (n : Int) := by omega
          clear hr hs hca hcb hb HW
          generalize w2.drewN q = wq at q1 q2 HCA HCB HWQ HBQ ⊢
          cases b
          · simp only [Bool.not_false] at hq
            go_wp2_with fail
            refine wp_region_quiet_lit (by kernel_rfl) (by kernel_rfl) ?_
            repeat (first | (refine quiet_load 52 _ (ad.add (k * 19)) r.cells _ rfl rfl rfl HCA.out Try.underlying52 rfl (size52 HRO.out) ?_; try simp only [Act.put, List.setIfInBounds_toArray, List.set_cons_zero, List.set_cons_succ]) | (refine quiet_load 52 _ (bd.add (k * 19)) s.cells _ rfl rfl rfl HCB.out Try.underlying52 rfl (size52 HSO.out) ?_; try simp only [Act.put, List.setIfInBounds_toArray, List.set_cons_zero, List.set_cons_succ]) | go_big_quiet_step (fail))
            refine wpQuiet_nil ?_
            intro _ hw'
            obtain ⟨nq, hw''⟩ := hw'
            subst hw''
            clear hk k1 c0 hq
            go_wp2_with fail
            go_ret
            refine ⟨?_, HBQ.out _⟩
            rw [HQ.out, sameL_no HL.out HR.out HS.out HBE.out]; rfl
          · simp only [Bool.not_true] at hq
            go_wp2_with fail
            refine wp_region_quiet_lit (by kernel_rfl) (by kernel_rfl) ?_
            repeat (first | (refine quiet_load 52 _ (ad.add (k * 19)) r.cells _ rfl rfl rfl HCA.out Try.underlying52 rfl (size52 HRO.out) ?_; try simp only [Act.put, List.setIfInBounds_toArray, List.set_cons_zero, List.set_cons_succ]) | (refine quiet_load 52 _ (bd.add (k * 19)) s.cells _ rfl rfl rfl HCB.out Try.underlying52 rfl (size52 HSO.out) ?_; try simp only [Act.put, List.setIfInBounds_toArray, List.set_cons_zero, List.set_cons_succ]) | go_big_quiet_step (fail))
            refine wpQuiet_nil ?_
            intro _ hw'
            obtain ⟨nq, hw''⟩ := hw'
            subst hw''
            clear hk k1 c0 hq
            go_wp2_with fail
            go_roundg (gk - 1)
            case measure => have := HK.out; have := HKK.out; omega
            case rel => exact ⟨k + 1, rfl, by rw [wrap_nat_succ k HKJ.out], ⟨by have := HK.out; have := HKK.out; omega⟩, ⟨HZ.out.step HR.out HS.out HBE.out⟩, ⟨HWQ.out _⟩⟩
        · have c0 : decide ((k : Int) < (n : Int)) = false := decide_eq_false (by omega)
          have hkk : k = ra.length := by have := HK.out; have := HN.out; omega
          have HF : Aside0 (sameL ra rb = true) := ⟨HZ.out.all HL.out hkk⟩
          clear hkk HZ HW
          go_wp2_with fail
          go_ret
          exact ⟨by rw [HQ.out, HF.out]; rfl, pw_below_drewN HBW.out _⟩
    · have hne : ((ra.length : Int) != (rb.length : Int)) = true := by rw [bne_iff_ne]; omega
      have hne2 : ((ra.length : Int) = (rb.length : Int)) = False := eq_false (by omega)
      have HF : Aside0 (sameL ra rb = false) := ⟨sameL_len hl⟩
      clear hl hna hA hB
      go_enter Try.func10, Try.ntmps10
      go_wp2_with (first
        | (refine box_ev #[.bool na, .slice A ra.length ca] 24 (.tmp 0) rfl rfl rfl ?_; intro w1 BK1 HB1 HS1)
        | (refine box_ev #[.bool nb, .slice B rb.length cb] 24 (.tmp 1) rfl rfl rfl ?_; intro w2 BK2 HB2 HS2; have p0 : w2.cell? ⟨w.heap.size, 0, none⟩ = some (.bool na) := pw_cell_below HB2.out ((blk_cell BK1.out 0).trans rfl); have p2 : w2.cell? ⟨w1.heap.size, 0, none⟩ = some (.bool nb) := (blk_cell BK2.out 0).trans rfl; have p1 : w2.cell? ⟨w.heap.size, 1, none⟩ = some (.slice A ra.length ca) := pw_cell_below HB2.out ((blk_cell BK1.out 1).trans rfl); have p3 : w2.cell? ⟨w1.heap.size, 1, none⟩ = some (.slice B rb.length cb) := (blk_cell BK2.out 1).trans rfl; have HBW := Aside0.mk (below_step HB1.out HB2.out)))
      go_ret
      exact ⟨by rw [HQ.out, HF.out]; rfl, HBW.out⟩
  · have HQ : Aside0 (sameB na nb ra rb = false) := ⟨by unfold sameB; rw [beq_eq_false_iff_ne.mpr hq]; rfl⟩
    have e1 : (na == nb) = false := beq_eq_false_iff_ne.mpr hq
    clear hq hna hA hB
    go_enter Try.func10, Try.ntmps10
    go_wp2_with (first
      | (refine box_ev #[.bool na, .slice A ra.length ca] 24 (.tmp 0) rfl rfl rfl ?_; intro w1 BK1 HB1 HS1)
      | (refine box_ev #[.bool nb, .slice B rb.length cb] 24 (.tmp 1) rfl rfl rfl ?_; intro w2 BK2 HB2 HS2; have p0 : w2.cell? ⟨w.heap.size, 0, none⟩ = some (.bool na) := pw_cell_below HB2.out ((blk_cell BK1.out 0).trans rfl); have p2 : w2.cell? ⟨w1.heap.size, 0, none⟩ = some (.bool nb) := (blk_cell BK2.out 0).trans rfl; have p1 : w2.cell? ⟨w.heap.size, 1, none⟩ = some (.slice A ra.length ca) := pw_cell_below HB2.out ((blk_cell BK1.out 1).trans rfl); have p3 : w2.cell? ⟨w1.heap.size, 1, none⟩ = some (.slice B rb.length cb) := (blk_cell BK2.out 1).trans rfl; have HBW := Aside0.mk (below_step HB1.out HB2.out)))
    go_ret
    exact ⟨by rw [HQ.out]; rfl, HBW.out⟩
end Go.Proofs.Ytmokngiokdffdaa.P
