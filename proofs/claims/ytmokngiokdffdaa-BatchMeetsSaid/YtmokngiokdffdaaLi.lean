/-
  Light: where it answers yes, the batches are small.
-/
import Derived.Test.YtmokngiokdffdaaBr
import Derived.Deep.LoopGhost
namespace Go.Proofs.Ytmokngiokdffdaa.P
open Go.RowKit Go.Proofs.YtmokngiokdffdaaW.PrintWords Go.Proofs.YtmokngiokdffdaaW.PrintLast Go.Proofs.YtmokngiokdffdaaW.PrintMore
set_option linter.unusedVariables false

def addC (a b : Int) : Int := if a > 4000 then 4001 else if b > 4000 then 4001 else if a > 4000 - b then 4001 else a + b
theorem Add_eq (a b : Int) (ha : 0 ≤ a ∧ a ≤ 4001) (hb : 0 ≤ b ∧ b < 9223372036854775808) : raddleref01_Add.f a b 4000 = some (addC a b) := by
  unfold raddleref01_Add.f addC
  have e1 : wrap64 (4000 + 1) = 4001 := by unfold wrap64; omega
  have e2 : wrap64 (4000 - b) = 4000 - b := by unfold wrap64; omega
  rw [e1, e2]
  by_cases h1 : a > 4000
  · rw [if_pos h1, if_pos h1]
  · rw [if_neg h1, if_neg h1]
    by_cases h2 : b > 4000
    · rw [if_pos h2, if_pos h2]
    · rw [if_neg h2, if_neg h2]
      by_cases h3 : a > 4000 - b
      · rw [if_pos h3, if_pos h3]
      · rw [if_neg h3, if_neg h3]
        congr 1
        unfold wrap64; omega
theorem Add_q (a b : Int) (ha : 0 ≤ a ∧ a ≤ 4001) (hb : 0 ≤ b ∧ b < 9223372036854775808) (w : World) (n : Nat) :
    Calls Try.prog 15 #[.int .i64 a, .int .i64 b, .int .i64 4000] (w.drewN n) fun e w' => e = .returned (.int .i64 (addC a b)) ∧ ∃ m, w' = w.drewN m :=
  Calls.quiet_of ((raddleref01_Add.calls a b 4000 _ _ (Add_eq a b ha hb)).mono fun _ _ h => ⟨h.1, h.2.out⟩)
theorem Add_any (a b : Int) (ha : 0 ≤ a ∧ a ≤ 4001) (hb : 0 ≤ b ∧ b < 9223372036854775808) (w : World) :
    Calls Try.prog 15 #[.int .i64 a, .int .i64 b, .int .i64 4000] w fun e w' => e = .returned (.int .i64 (addC a b)) ∧ Drawn0 w w' :=
  (raddleref01_Add.calls a b 4000 _ _ (Add_eq a b ha hb)).mono fun _ _ h => h
theorem addC_range (a b : Int) (ha : 0 ≤ a) (hb : 0 ≤ b) : 0 ≤ addC a b ∧ addC a b ≤ 4001 := by
  unfold addC; split
  · omega
  · split
    · omega
    · split <;> omega
theorem addC_small (a b : Int) (h : addC a b ≤ 4000) : addC a b = a + b ∧ a ≤ 4000 := by
  unfold addC at h ⊢; split at h
  · omega
  · rename_i h1
    rw [if_neg h1]
    split at h
    · omega
    · rename_i h2
      rw [if_neg h2]
      split at h
      · omega
      · rename_i h3
        rw [if_neg h3]
        exact ⟨rfl, by omega⟩

def costR (rs : List Req) : Nat := (rs.map fun r => 20 + r.data.size).sum
def costTo (R : Nat → List Req) (i : Nat) : Nat := ((List.range i).map fun j => 5 + costR (R j)).sum
theorem costTo_succ (R : Nat → List Req) (i : Nat) : costTo R (i + 1) = costTo R i + (5 + costR (R i)) := by
  unfold costTo; rw [List.range_succ, List.map_append, List.sum_append]; simp
theorem costR_succ (rs : List Req) (k : Nat) (r : Req) (h : rs[k]? = some r) : costR (rs.take (k + 1)) = costR (rs.take k) + (20 + r.data.size) := by
  unfold costR; rw [List.take_add_one, h, List.map_append, List.sum_append]; simp

/-- 'l' is a row of m batches. -/
structure Bats (w : World) (gp m : Nat) (A : Nat → Option Addr) (R : Nat → List Req) (C : Nat → Nat) : Prop where
  cell : ∀ i, i < m → w.cell? ⟨gp, i * 2 + 1, none⟩ = some (.slice (A i) (R i).length (C i))
  row : ∀ i, i < m → ReqsAt w (A i) (R i)

def LightPost (w : World) (m : Nat) (R : Nat → List Req) (e : Ending) (w' : World) : Prop := ∃ b : Bool, e = .returned (.bool b) ∧ (b = true → costTo R m ≤ 4000) ∧ Drawn0 w w'

set_option maxRecDepth 100000 in
set_option maxHeartbeats 4000000 in
theorem Light_any (w : World) (gp m : Nat) (A : Nat → Option Addr) (R : Nat → List Req) (C : Nat → Nat) (hB : Bats w gp m A R C) (hm : m < 1000) (hd : ∀ i, i < m → ∀ r ∈ R i, r.data.size ≤ 9223372036854775807) :
    Calls Try.prog 5 #[.slice (some ⟨gp, 0, none⟩) m m] w (LightPost w m R) := by
  have HBB := Aside0.mk hB
  have HDD := Aside0.mk hd
  clear hB hd
  go_enter Try.func5, Try.ntmps5
  go_wp2_with fail
  go_loopw [3, 4] (fun v3 v4 wr => ∃ (i : Nat) (n : Int), v3 = .int .i64 n ∧ v4 = .int .i64 i ∧ Aside0 (i ≤ m) ∧ Aside0 (0 ≤ n ∧ n ≤ 4001) ∧ Aside0 (n ≤ 4000 → n = costTo R i) ∧ Aside0 (∃ q, wr = w.drewN q)) (fun _ v4 _ => m - (intOf v4).toNat)
  case atStart => exact ⟨0, 0, rfl, rfl, ⟨by omega⟩, ⟨by omega⟩, ⟨fun _ => rfl⟩, ⟨⟨0, rfl⟩⟩⟩
  case round =>
    obtain ⟨i, n, rfl, rfl, HI, HN, HC, HW⟩ := hrel
    by_cases hi : i < m
    · by_cases hn : n ≤ 4000
      · have c0 : decide ((i : Int) < (m : Int)) = true := decide_eq_true (by omega)
        have c1 : decide (n ≤ 4000) = true := decide_eq_true hn
        obtain ⟨q0, rfl⟩ := HW.out
        have q1 := HBB.out.cell i hi
        go_wp2_with (go_at_call 15; (with_reducible refine (Add_any n 5 HN.out (by decide) _).mono ?_); rintro e w' ⟨rfl, ⟨nd, rfl⟩⟩)
        have HN5 := Aside0.mk (addC_range n 5 HN.out.1 (by decide))
        have HC5 : Aside0 (addC n 5 ≤ 4000 → addC n 5 = costTo R i + 5 + costR ((R i).take 0)) := ⟨fun h => by
          obtain ⟨h1, h2⟩ := addC_small n 5 h
          have h3 := HC.out h2
          rw [h1, h3, List.take_zero]
          simp [costR]⟩
        have HW5 : Aside0 (∃ q, w.drewN (q0 + nd) = w.drewN q) := ⟨⟨_, rfl⟩⟩
        generalize addC n 5 = n5 at HN5 HC5 ⊢
        clear HN HC hn c0 c1 HW
        go_loopw [3, 5] (fun v3 v5 wr => ∃ (k : Nat) (n : Int), v3 = .int .i64 n ∧ v5 = .int .i64 k ∧ Aside0 (k ≤ (R i).length) ∧ Aside0 (0 ≤ n ∧ n ≤ 4001) ∧ Aside0 (n ≤ 4000 → n = costTo R i + 5 + costR ((R i).take k)) ∧ Aside0 (∃ q, wr = w.drewN q)) (fun _ v5 _ => (R i).length - (intOf v5).toNat)
        case atStart => exact ⟨0, n5, rfl, rfl, ⟨by omega⟩, HN5, HC5, HW5⟩
        case round =>
          clear HN5 HC5 HW5
          obtain ⟨k, n, rfl, rfl, HK, HN, HC, HW⟩ := hrel
          obtain ⟨q2, rfl⟩ := HW.out
          have hRI := HBB.out.row i hi
          have hmax := hRI.size
          by_cases hk : k < (R i).length
          · have c0 : decide ((k : Int) < ((R i).length : Int)) = true := decide_eq_true (by omega)
            by_cases hn : n ≤ 4000
            · have c1 : decide (n ≤ 4000) = true := decide_eq_true hn
              obtain ⟨r, hr⟩ : ∃ r, (R i)[k]? = some r := ⟨_, List.getElem?_eq_getElem hk⟩
              obtain ⟨ad, hA, hcell⟩ := hRI.cell (by omega)
              rw [hA] at q1
              have q3 := hcell k r hr 2 (.string r.data) rfl
              have hrs : r.data.size ≤ 9223372036854775807 := HDD.out i hi r (List.mem_of_getElem? hr)
              have hr20 := addC_range n 20 HN.out.1 (by decide)
              have p1 : (w.drewN q2).cell? ⟨gp, i * 2 + 1, none⟩ = some (.slice (some ad) (R i).length (C i)) := q1
              have p3 : (w.drewN q2).cell? ⟨(ad.add (k * 19)).block, (ad.add (k * 19)).off + 2, none⟩ = some (.string r.data) := q3
              clear q1 q3
              have C1 := Aside0.mk (Add_q n 20 HN.out (by decide) (w.drewN q2))
              have C2 := Aside0.mk (Add_q (addC n 20) r.data.size hr20 (by omega) (w.drewN q2))
              have HWQ : Aside0 (∀ nq, ∃ q, (w.drewN q2).drewN nq = w.drewN q) := ⟨fun nq => ⟨q2 + nq, World.drewN_drewN _ _ _⟩⟩
              have HRA := Aside0.mk (addC_range (addC n 20) r.data.size hr20.1 (by omega))
              have HR := Aside0.mk hr
              have kmax : (k : Int) < ((R i).length : Int) := by omega
              clear hr hr20 hcell hA hRI HW
              generalize w.drewN q2 = wq at p1 p3 C1 C2 HWQ ⊢
              go_wp2_with fail
              go_quiet ((first | (go_at_call 15; with_reducible exact C1.out _) | (go_at_call 15; with_reducible exact C2.out _)))
              go_wp2_with fail
              go_roundw
              case rel =>
                refine ⟨k + 1, addC (addC n 20) r.data.size, rfl, by go_num, ⟨by omega⟩, HRA, ⟨fun h => ?_⟩, ⟨HWQ.out _⟩⟩
                obtain ⟨h1, h2⟩ := addC_small _ _ h
                obtain ⟨h3, h4⟩ := addC_small _ _ h2
                rw [h1, h3, HC.out h4, costR_succ _ _ _ HR.out]
                omega
              case measure => simp [intOf]; omega
            · have c1 : decide (n ≤ 4000) = false := decide_eq_false hn
              clear HC
              go_wp2_with fail
              go_roundw
              case rel => exact ⟨i + 1, n, rfl, by go_num, ⟨by omega⟩, HN, ⟨fun h => absurd h hn⟩, ⟨⟨_, rfl⟩⟩⟩
              case measure => simp [intOf]; omega
          · have c0 : decide ((k : Int) < ((R i).length : Int)) = false := decide_eq_false (by omega)
            have hkk : k = (R i).length := by have := HK.out; omega
            have HC2 : Aside0 (n ≤ 4000 → n = costTo R (i + 1)) := ⟨fun h => by
              have h1 := HC.out h
              rw [hkk, List.take_length] at h1
              rw [h1, costTo_succ]; omega⟩
            clear HC hkk
            go_wp2_with fail
            go_roundw
            case rel => exact ⟨i + 1, n, rfl, by go_num, ⟨by omega⟩, HN, HC2, ⟨⟨_, rfl⟩⟩⟩
            case measure => simp [intOf]; omega
      · have c0 : decide ((i : Int) < (m : Int)) = true := decide_eq_true (by omega)
        have c1 : decide (n ≤ 4000) = false := decide_eq_false hn
        obtain ⟨q0, rfl⟩ := HW.out
        clear HC
        go_wp2_with fail
        go_ret
        exact ⟨false, rfl, (fun h => by cases h), ⟨⟨_, rfl⟩⟩⟩
    · have c0 : decide ((i : Int) < (m : Int)) = false := decide_eq_false (by omega)
      obtain ⟨q0, rfl⟩ := HW.out
      have him : i = m := by have := HI.out; omega
      by_cases hn : n ≤ 4000
      · have c1 : decide (n ≤ 4000) = true := decide_eq_true hn
        have HF : Aside0 (costTo R m ≤ 4000) := ⟨by have h := HC.out hn; rw [him] at h; omega⟩
        clear HC him
        go_wp2_with fail
        go_ret
        exact ⟨true, rfl, fun _ => HF.out, ⟨⟨_, rfl⟩⟩⟩
      · have c1 : decide (n ≤ 4000) = false := decide_eq_false hn
        clear HC him
        go_wp2_with fail
        go_ret
        exact ⟨false, rfl, (fun h => by cases h), ⟨⟨_, rfl⟩⟩⟩
end Go.Proofs.Ytmokngiokdffdaa.P
