/-
  The reference's Meet.
-/
import Derived.Test.YtmokngiokdffdaaMe
namespace Go.Proofs.Ytmokngiokdffdaa.P
open Go.RowKit Go.Proofs.YtmokngiokdffdaaW.PrintWords Go.Proofs.YtmokngiokdffdaaW.PrintLast Go.Proofs.YtmokngiokdffdaaW.PrintMore
set_option linter.unusedVariables false

def samePair (r s : Req) : Bool := r.client == s.client && r.num == s.num
def refMeets (ra rb : List Req) : Bool := ra.any fun r => rb.any fun s => samePair r s
def NoneA (ra rb : List Req) (i : Nat) : Prop := ∀ r ∈ ra.take i, ∀ s ∈ rb, samePair r s = false
def NoneB (r : Req) (rb : List Req) (k : Nat) : Prop := ∀ s ∈ rb.take k, samePair r s = false

theorem hit_iff (ra : List Req) (s : Req) : hit ra s = true ↔ ∃ r ∈ ra, samePair r s = true := by
  unfold hit prs samePair pr
  rw [decide_eq_true_iff, List.mem_reverse, List.mem_map]
  constructor
  · rintro ⟨r, hr, e⟩
    refine ⟨r, hr, ?_⟩
    simp only [Prod.mk.injEq] at e
    rw [e.1, e.2]; simp
  · rintro ⟨r, hr, e⟩
    simp only [Bool.and_eq_true, beq_iff_eq] at e
    exact ⟨r, hr, by rw [e.1, e.2]⟩
theorem meets_ref (ra rb : List Req) : meets ra rb = refMeets ra rb := by
  rw [Bool.eq_iff_iff]
  unfold meets refMeets
  simp only [List.any_eq_true, hit_iff]
  constructor
  · rintro ⟨s, hs, r, hr, e⟩; exact ⟨r, hr, s, hs, e⟩
  · rintro ⟨r, hr, s, hs, e⟩; exact ⟨s, hs, r, hr, e⟩
theorem meets_swap (ra rb : List Req) : meets rb ra = refMeets ra rb := by
  rw [Bool.eq_iff_iff]
  unfold meets refMeets
  simp only [List.any_eq_true, hit_iff]
  have hc : ∀ r s : Req, samePair r s = true ↔ samePair s r = true := fun r s => by
    unfold samePair
    simp only [Bool.and_eq_true, beq_iff_eq]
    constructor <;> rintro ⟨h1, h2⟩ <;> exact ⟨h1.symm, h2.symm⟩
  constructor
  · rintro ⟨r, hr, s, hs, e⟩; exact ⟨r, hr, s, hs, (hc s r).1 e⟩
  · rintro ⟨r, hr, s, hs, e⟩; exact ⟨r, hr, s, hs, (hc r s).1 e⟩

theorem noneB_step {r s : Req} {rb : List Req} {k : Nat} (h : NoneB r rb k) (hs : rb[k]? = some s) (he : samePair r s = false) : NoneB r rb (k + 1) := by
  intro x hx
  rw [List.take_add_one, hs] at hx
  rcases List.mem_append.1 hx with h1 | h1
  · exact h x h1
  · simp at h1; rw [h1]; exact he

set_option maxRecDepth 100000 in
set_option maxHeartbeats 4000000 in
theorem RMeet_any (na : Bool) (A : Option Addr) (ra : List Req) (ca : Nat) (nb : Bool) (B : Option Addr) (rb : List Req) (cb : Nat) (w : World) (hA : ReqsAt w A ra) (hB : ReqsAt w B rb) (hna : ra.length < 100000) (hnb : rb.length < 100000) :
    Calls Try.prog 8 #[.agg #[.bool na, .slice A ra.length ca], .agg #[.bool nb, .slice B rb.length cb]] w fun e w' => e = .returned (.bool (refMeets ra rb)) ∧ Below w.heap.size w w' := by
  have HA := Aside0.mk hA
  have HBB := Aside0.mk hB
  have HNA := Aside0.mk hna
  have HNB := Aside0.mk hnb
  clear hA hB hna hnb
  go_enter Try.func8, Try.ntmps8
  go_wp2_with (first
    | (refine box_ev #[.bool na, .slice A ra.length ca] 24 (.tmp 0) rfl rfl rfl ?_; intro w1 BK1 HB1 HS1)
    | (refine box_ev #[.bool nb, .slice B rb.length cb] 24 (.tmp 1) rfl rfl rfl ?_; intro w2 BK2 HB2 HS2))
  have HBW := Aside0.mk (below_step HB1.out HB2.out)
  have HQ1 : Aside0 (w2.cell? ⟨w.heap.size, 1, none⟩ = some (.slice A ra.length ca)) := ⟨pw_cell_below HB2.out ((blk_cell BK1.out 1).trans rfl)⟩
  have HQ2 : Aside0 (w2.cell? ⟨w1.heap.size, 1, none⟩ = some (.slice B rb.length cb)) := ⟨(blk_cell BK2.out 1).trans rfl⟩
  have HZ : Aside0 (NoneA ra rb 0) := ⟨fun r hr => by simp at hr⟩
  have HA2 := Aside0.mk (HA.out.below HBW.out)
  have HB2' := Aside0.mk (HBB.out.below HBW.out)
  have HW : Aside0 (∃ q, w2 = w2.drewN q) := ⟨⟨0, rfl⟩⟩
  clear BK1 BK2 HB1 HB2
  go_loopg [4, 5] ra.length (fun gk v4 v5 wr => ∃ i : Nat, v4 = .bool false ∧ v5 = .int .i64 i ∧ Aside0 (i + gk = ra.length) ∧ Aside0 (NoneA ra rb i) ∧ Aside0 (∃ q, wr = w2.drewN q))
  case atStart => exact ⟨0, rfl, rfl, ⟨Nat.zero_add _⟩, HZ, HW⟩
  case round =>
    clear HZ HW
    obtain ⟨i, rfl, rfl, HI, HZ, HW⟩ := hrel
    obtain ⟨q0, rfl⟩ := HW.out
    have q1 : (w2.drewN q0).cell? ⟨w.heap.size, 1, none⟩ = some (.slice A ra.length ca) := HQ1.out
    by_cases hi : i < ra.length
    · have c0 : decide ((i : Int) < (ra.length : Int)) = true := decide_eq_true (by omega)
      obtain ⟨r, hr⟩ : ∃ r, ra[i]? = some r := ⟨_, List.getElem?_eq_getElem hi⟩
      have HRK := Aside0.mk hr
      have HII := Aside0.mk hi
      have HIJ : Aside0 (i < 4611686018427387904) := ⟨by have := HNA.out; omega⟩
      have HZB : Aside0 (NoneB r rb 0) := ⟨fun s hs => by simp at hs⟩
      have HWI : Aside0 (∃ q, w2.drewN q0 = w2.drewN q) := ⟨⟨_, rfl⟩⟩
      clear hr HW
      go_wp2_with fail
      obtain ⟨og, rfl⟩ : ∃ og, og = gk := ⟨_, rfl⟩
      clear q1
      go_loopg [4, 6] rb.length (fun gk v4 v6 wr => ∃ k : Nat, v4 = .bool false ∧ v6 = .int .i64 k ∧ Aside0 (k + gk = rb.length) ∧ Aside0 (NoneB r rb k) ∧ Aside0 (∃ q, wr = w2.drewN q))
      case atStart => exact ⟨0, rfl, rfl, ⟨Nat.zero_add _⟩, HZB, HWI⟩
      case round =>
        clear HZB HWI
        obtain ⟨k, rfl, rfl, HK, HZB, HW⟩ := hrel
        obtain ⟨q, rfl⟩ := HW.out
        have q1 : (w2.drewN q).cell? ⟨w.heap.size, 1, none⟩ = some (.slice A ra.length ca) := HQ1.out
        have q2 : (w2.drewN q).cell? ⟨w1.heap.size, 1, none⟩ = some (.slice B rb.length cb) := HQ2.out
        by_cases hk : k < rb.length
        · have c1 : decide ((k : Int) < (rb.length : Int)) = true := decide_eq_true (by omega)
          obtain ⟨s, hs⟩ : ∃ s, rb[k]? = some s := ⟨_, List.getElem?_eq_getElem hk⟩
          obtain ⟨ad, hAd, hca⟩ := HA2.out.cell (by omega)
          obtain ⟨bd, hBd, hcb⟩ := HB2'.out.cell (by omega)
          rw [hAd] at q1
          rw [hBd] at q2
          have hr := HRK.out
          have pa0 : (w2.drewN q).cell? (ad.add (i * 19)) = some (.int .i64 r.client) := hca i r hr 0 _ rfl
          have pa1 : (w2.drewN q).cell? ⟨(ad.add (i * 19)).block, (ad.add (i * 19)).off + 1, none⟩ = some (.int .i64 r.num) := hca i r hr 1 _ rfl
          have pb0 : (w2.drewN q).cell? (bd.add (k * 19)) = some (.int .i64 s.client) := hcb k s hs 0 _ rfl
          have pb1 : (w2.drewN q).cell? ⟨(bd.add (k * 19)).block, (bd.add (k * 19)).off + 1, none⟩ = some (.int .i64 s.num) := hcb k s hs 1 _ rfl
          have HSK := Aside0.mk hs
          have HKK := Aside0.mk hk
          have HKJ : Aside0 (k < 4611686018427387904) := ⟨by have := HNB.out; omega⟩
          have HWQ : Aside0 (∀ nq, ∃ m, (w2.drewN q).drewN nq = w2.drewN m) := ⟨fun nq => ⟨q + nq, World.drewN_drewN _ _ _⟩⟩
          have HBQ : Aside0 (∀ nq, Below w.heap.size w ((w2.drewN q).drewN nq)) := ⟨fun nq => pw_below_drewN (pw_below_drewN HBW.out _) _⟩
          have i1 : (i : Int) < (ra.length : Int) := by omega
          have k1 : (k : Int) < (rb.length : Int) := by omega
          clear hr hs hca hcb hAd hBd HW
          generalize w2.drewN q = wq at q1 q2 pa0 pa1 pb0 pb1 HWQ HBQ ⊢
          obtain ⟨b1, hb1⟩ : ∃ b, (r.client == s.client) = b := ⟨_, rfl⟩
          obtain ⟨b2, hb2⟩ : ∃ b, (r.num == s.num) = b := ⟨_, rfl⟩
          have HSP : Aside0 (samePair r s = (b1 && b2)) := ⟨by unfold samePair; rw [hb1, hb2]⟩
          cases b1
          · go_wp2_with fail
            go_quiet (fail)
            clear hi hk c0 c1 i1 k1
            go_wp2_with fail
            go_roundg (gk - 1)
            case measure => have := HK.out; have := HKK.out; omega
            case rel => exact ⟨k + 1, rfl, by rw [wrap_nat_succ k HKJ.out], ⟨by have := HK.out; have := HKK.out; omega⟩, ⟨noneB_step HZB.out HSK.out (by rw [HSP.out]; rfl)⟩, ⟨HWQ.out _⟩⟩
          · cases b2
            · go_wp2_with fail
              go_quiet (fail)
              clear hi hk c0 c1 i1 k1
              go_wp2_with fail
              go_roundg (gk - 1)
              case measure => have := HK.out; have := HKK.out; omega
              case rel => exact ⟨k + 1, rfl, by rw [wrap_nat_succ k HKJ.out], ⟨by have := HK.out; have := HKK.out; omega⟩, ⟨noneB_step HZB.out HSK.out (by rw [HSP.out]; rfl)⟩, ⟨HWQ.out _⟩⟩
            · go_wp2_with fail
              go_quiet (fail)
              clear hi hk c0 c1 i1 k1
              go_wp2_with fail
              go_ret
              refine ⟨?_, HBQ.out _⟩
              have e : refMeets ra rb = true := List.any_eq_true.2 ⟨r, List.mem_of_getElem? HRK.out, List.any_eq_true.2 ⟨s, List.mem_of_getElem? HSK.out, HSP.out⟩⟩
              rw [e]; rfl
        · have c1 : decide ((k : Int) < (rb.length : Int)) = false := decide_eq_false (by omega)
          have hkk : k = rb.length := by have := HK.out; omega
          have HF : Aside0 (NoneA ra rb (i + 1)) := ⟨by
            have h := HZB.out
            unfold NoneB at h
            rw [hkk, List.take_length] at h
            intro x hx
            rw [List.take_add_one, HRK.out] at hx
            rcases List.mem_append.1 hx with h1 | h1
            · exact HZ.out x h1
            · simp at h1; rw [h1]; exact h⟩
          clear hkk HZB HW hi c0
          go_wp2_with fail
          go_roundg (og - 1)
          case measure => have := HI.out; have := HII.out; omega
          case rel => exact ⟨i + 1, rfl, by rw [wrap_nat_succ i HIJ.out], ⟨by have := HI.out; have := HII.out; omega⟩, HF, ⟨⟨_, rfl⟩⟩⟩
    · have c0 : decide ((i : Int) < (ra.length : Int)) = false := decide_eq_false (by omega)
      have hii : i = ra.length := by have := HI.out; omega
      have HF : Aside0 (refMeets ra rb = false) := ⟨by
        have h := HZ.out
        unfold NoneA at h
        rw [hii, List.take_length] at h
        unfold refMeets
        rw [Bool.eq_false_iff]
        intro h2
        obtain ⟨r, hr, h3⟩ := List.any_eq_true.1 h2
        obtain ⟨s, hs, h4⟩ := List.any_eq_true.1 h3
        rw [h r hr s hs] at h4; cases h4⟩
      clear hii HZ HW
      go_wp2_with fail
      go_ret
      exact ⟨by rw [HF.out]; rfl, pw_below_drewN HBW.out _⟩
end Go.Proofs.Ytmokngiokdffdaa.P
