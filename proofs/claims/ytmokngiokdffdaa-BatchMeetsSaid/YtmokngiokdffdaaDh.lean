/-
  digest.Sum: the digest of parts, one behind the other; the program's.
-/
import Derived.Test.YtmokngiokdffdaaDg
namespace Go.Proofs.Ytmokngiokdffdaa.P
open Go.RowKit Go.Proofs.YtmokngiokdffdaaW.PrintWords Go.Proofs.YtmokngiokdffdaaW.PrintLast Go.Proofs.YtmokngiokdffdaaW.PrintMore
set_option linter.unusedVariables false

def partsTo (L : Nat → List Int) (k : Nat) : List Int := (List.range k).flatMap L
theorem partsTo_succ (L : Nat → List Int) (k : Nat) : partsTo L (k + 1) = partsTo L k ++ L k := by
  unfold partsTo; rw [List.range_succ, List.flatMap_append]; simp
theorem partsTo_le (L : Nat → List Int) (m : Nat) : ∀ k, k ≤ m → (partsTo L k).length ≤ (partsTo L m).length := by
  intro k hk
  induction m with
  | zero => have : k = 0 := by omega
            subst this; exact Nat.le_refl _
  | succ m ih =>
    by_cases h : k = m + 1
    · subst h; exact Nat.le_refl _
    · have h1 := ih (by omega)
      rw [partsTo_succ, List.length_append]; omega
theorem partsTo_byte (L : Nat → List Int) (m : Nat) (h : ∀ k, k < m → ∀ x ∈ L k, 0 ≤ x ∧ x < 256) : ∀ x ∈ partsTo L m, 0 ≤ x ∧ x < 256 := by
  intro x hx
  unfold partsTo at hx
  obtain ⟨k, hk, hx⟩ := List.mem_flatMap.1 hx
  exact h k (List.mem_range.1 hk) x hx

set_option maxRecDepth 100000 in
set_option maxHeartbeats 2000000 in
theorem Sum_any (m gp : Nat) (A : Nat → Option Addr) (L : Nat → List Int) (C : Nat → Nat) (w : World)
    (hp : ∀ k, k < m → w.cell? ⟨gp, k, none⟩ = some (.slice (A k) (L k).length (C k))) (hr : ∀ k, k < m → ReadsInt w .u8 (A k) (L k).length (L k)) (hc : ∀ k, k < m → (L k).length ≤ C k)
    (hby : ∀ k, k < m → ∀ x ∈ L k, 0 ≤ x ∧ x < 256) (hlen : (partsTo L m).length < 1000000000) (hm : m < 1000) :
    Calls Try.prog 26 #[.slice (some ⟨gp, 0, none⟩) m m] w fun e w' => e = .returned (.agg (nums .u8 (dig (partsTo L m))).toArray) ∧ Below w.heap.size w w' := by
  have HP := Aside0.mk hp
  have HR := Aside0.mk hr
  have HC := Aside0.mk hc
  have HBY := Aside0.mk hby
  have HLEN := Aside0.mk hlen
  clear hp hr hc hby hlen
  go_enter Try.func26, Try.ntmps26
  go_wp2_with (first
    | (refine alloc_ev (nums .u8 zerosU8).toArray 29 rfl rfl (by kernel_rfl) ?_; intro w1 BK1 HB1 HS1)
    | (go_at_call 33; (with_reducible refine (begun_any _).mono ?_); rintro e w2 ⟨rfl, hs2, hb2⟩; have HS2 := Aside0.mk hs2; have HB2 := Aside0.mk hb2; clear hs2 hb2))
  have HBW := Aside0.mk (below_step HB1.out HB2.out)
  have HD0 : Aside0 (w2.heap[w.heap.size]? = some (.cells (nums .u8 zerosU8).toArray 29 (0, 0))) := ⟨(HB2.out.block _ (blk_lt BK1.out)).trans BK1.out⟩
  have HS3 : Aside0 (Str w2 w1.heap.size (partsTo L 0)) := HS2
  have HGE : Aside0 (w.heap.size < w1.heap.size) := ⟨by have := HS1.out; omega⟩
  clear HB1 HB2 BK1 HS1 HS2
  go_loopw [9] (fun v9 wr => ∃ k : Nat, v9 = .int .i64 k ∧ Aside0 (k ≤ m) ∧ Aside0 (Str wr w1.heap.size (partsTo L k)) ∧ Aside0 (Below w.heap.size w wr) ∧ Aside0 (wr.heap[w.heap.size]? = some (.cells (nums .u8 zerosU8).toArray 29 (0, 0)))) (fun v9 _ => m - (intOf v9).toNat)
  case atStart => exact ⟨0, rfl, ⟨by omega⟩, HS3, HBW, HD0⟩
  case round =>
    clear HS3 HBW HD0
    obtain ⟨k, rfl, HK, HS3, HBW, HD0⟩ := hrel
    by_cases hk : k < m
    · have c0 : decide ((k : Int) < (m : Int)) = true := decide_eq_true (by omega)
      have q1 := pw_cell_below HBW.out (HP.out k hk)
      have hR := (HR.out k hk).below HBW.out
      have HR1 := Aside0.mk hR
      have HFAR : Aside0 (∀ a, A k = some a → 0 < (L k).length → a.block ≠ w1.heap.size) := ⟨fun a ha hl => by
        obtain ⟨ad, e, hcell⟩ := (HR.out k hk).2.2 hl
        rw [ha] at e; cases e
        have h1 := World.block_lt_of_cell? w _ (hcell 0 hl)
        have h2 : (a.add 0).block = a.block := by unfold Addr.add; rfl
        have h3 := HGE.out
        omega⟩
      have HL1 : Aside0 ((partsTo L k).length + (L k).length < 1099511627776) := ⟨by
        have h1 := partsTo_le L m (k + 1) (by omega)
        rw [partsTo_succ, List.length_append] at h1
        have h2 := HLEN.out
        omega⟩
      clear hR
      go_wp2_with (go_at_call 34; (with_reducible refine (write_any w1.heap.size (partsTo L k) (L k) (A k) (C k) _ HS3.out HR1.out (HC.out k hk) HFAR.out (HBY.out k hk) HL1.out).mono ?_); rintro e w3 ⟨rfl, hs4, hk4⟩; have HS4 := Aside0.mk hs4; have HK4 := Aside0.mk hk4; clear hs4 hk4)
      go_roundw
      case rel => exact ⟨k + 1, by go_num, ⟨by omega⟩, ⟨by rw [partsTo_succ]; exact HS4.out⟩, ⟨below_kg HBW.out HBW.out.size HK4.out (by have := HGE.out; omega)⟩, ⟨kg_blk HK4.out HD0.out (by have := HGE.out; omega)⟩⟩
      case measure => simp [intOf]; omega
    · have c0 : decide ((k : Int) < (m : Int)) = false := decide_eq_false (by omega)
      have hkm : k = m := by have := HK.out; omega
      have HS5 : Aside0 (Str wr w1.heap.size (partsTo L m)) := ⟨by rw [← hkm]; exact HS3.out⟩
      clear HS3 hkm
      go_wp2_with (first
        | (go_at_call 35; (with_reducible refine (end_any w1.heap.size (partsTo L m) _ HS5.out (partsTo_byte L m HBY.out) HLEN.out).mono ?_); rintro e w5 ⟨rfl, hk5⟩; have HK5 := Aside0.mk hk5; clear hk5; have HD1 := Aside0.mk (kg_blk HK5.out HD0.out (by have := HGE.out; omega)))
        | (refine store_ev w.heap.size (nums .u8 (dig (partsTo L m))).toArray (nums .u8 zerosU8).toArray 29 29 _ _ rfl rfl rfl rfl HD1.out (size29 (dig_length _)) (by rw [List.size_toArray, List.size_toArray, nums_length, nums_length, dig_length]; rfl) (nums_one _ _) ?_; intro w8 BK8 HK8))
      refine bodyPost_ret (results_cell_row rfl _ _ w.heap.size 29 (nums .u8 (dig (partsTo L m))).toArray (0, 0) _ rfl BK8.out Try.underlying29 rfl (size29 (dig_length _))) rfl ?_
      exact ⟨rfl, below_kg (below_kg HBW.out HBW.out.size HK5.out (by have := HGE.out; omega)) (Nat.le_trans HBW.out.size HK5.out.size) HK8.out (Nat.le_refl _)⟩
end Go.Proofs.Ytmokngiokdffdaa.P
