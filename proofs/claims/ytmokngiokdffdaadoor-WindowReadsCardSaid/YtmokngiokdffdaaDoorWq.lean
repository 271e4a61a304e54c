/-
  Plain law: what the reference's window functions answer, with enough rounds: the same as the program's.
-/
import Derived.Test.YtmokngiokdffdaaDoorWn
namespace Go.Proofs.YtmokngiokdffdaaDoor.P
open Go.RowKit Go.Proofs.YtmokngiokdffdaaDoorW.PrintWords Go.Proofs.YtmokngiokdffdaaDoorW.PrintLast Go.Proofs.YtmokngiokdffdaaDoorW.PrintMore
open Ma
set_option linter.unusedVariables false

theorem bitsL_last (m : Nat) (h : 0 < (bitsL m).length) (i : Nat) (hi : i ∈ bitsL m) : i ≤ (bitsL m)[(bitsL m).length - 1] := by
  have hp : (bitsL m).Pairwise (· < ·) := List.Pairwise.filter _ List.pairwise_lt_range
  obtain ⟨a, ha, rfl⟩ := List.getElem_of_mem hi
  by_cases e : a = (bitsL m).length - 1
  · subst e; exact Nat.le_refl _
  · exact Nat.le_of_lt (List.pairwise_iff_getElem.1 hp a ((bitsL m).length - 1) ha (by omega) (by omega))

theorem RGood_eq (k : Nat) (hk : 140 ≤ k) (B : Int) (m : Nat) (hm : m < 2 ^ 64) (hB : -9223372036854775808 ≤ B) : raddleref09_Good.f k B (m : Int) = some (goodB B m) := by
  unfold raddleref09_Good.f
  by_cases h1 : B < 1
  · rw [if_pos h1]; unfold goodB; rw [decide_eq_false (by omega)]; rfl
  · rw [if_neg h1]
    by_cases h2 : B > 1099511627777
    · rw [if_pos h2]; unfold goodB; rw [decide_eq_false (by omega)]; rfl
    · have e0 : (0 : Int) = ((0 : Nat) : Int) := rfl
      rw [if_neg h2, e0, obind _ (RHas_eq k m hm _ (by omega)), hasB_nat m 0 (by omega)]
      cases hb0 : m.testBit 0 with
      | true => rw [if_pos rfl]; unfold goodB; rw [hb0]; simp
      | false =>
        rw [if_neg (by decide), obind _ (RList_eq k m hm hk)]
        have hl := bitsL_length m
        have hlen := ints_length (bitsL m)
        by_cases hz : ((ints (bitsL m)).length : Int) = ((0 : Nat) : Int)
        · rw [if_pos hz]
          congr 1
          symm
          rw [goodB_iff B m hm]
          refine ⟨by omega, by omega, hb0, fun i hi => ?_⟩
          have hi64 : i < 64 := Nat.lt_of_not_le fun hle => by rw [testBit_big m hm i hle] at hi; cases hi
          have hmem := mem_bitsL.2 ⟨hi64, hi⟩
          have hnil : bitsL m = [] := List.eq_nil_of_length_eq_zero (by omega)
          rw [hnil] at hmem; cases hmem
        · have hpos : 0 < (bitsL m).length := by omega
          have hw : wrap64 (((ints (bitsL m)).length : Int) - 1) = (((bitsL m).length - 1 : Nat) : Int) := by unfold wrap64; omega
          have hw2 : wrap64 (1099511627776 - B) = 1099511627776 - B := by unfold wrap64; omega
          have hrd : rd (ints (bitsL m)) (((bitsL m).length - 1 : Nat) : Int) = (((bitsL m)[(bitsL m).length - 1] : Nat) : Int) := by
            rw [rd_nat _ _ (by omega)]; simp [ints]
          rw [if_neg hz, hw, if_pos (by omega), if_pos (by omega), hw2, hrd]
          congr 1
          rw [Bool.eq_iff_iff, decide_eq_true_eq, goodB_iff B m hm]
          constructor
          · intro h
            refine ⟨by omega, by omega, hb0, fun i hi => ?_⟩
            have hi64 : i < 64 := Nat.lt_of_not_le fun hle => by rw [testBit_big m hm i hle] at hi; cases hi
            have := bitsL_last m hpos i (mem_bitsL.2 ⟨hi64, hi⟩)
            omega
          · intro h
            have hmem : (bitsL m)[(bitsL m).length - 1] ∈ bitsL m := List.getElem_mem _
            have := h.2.2.2 _ (mem_bitsL.1 hmem).2
            omega

theorem RDone_eq (k : Nat) (hk : 140 ≤ k) (B : Int) (m : Nat) (n : Int) (hm : m < 2 ^ 64) (hB : -9223372036854775808 ≤ B) (hn : n < 9223372036854775808) : raddleref09_Done.f k B (m : Int) n = some (doneB B m n) := by
  unfold raddleref09_Done.f doneB
  rw [obind _ (RGood_eq k hk B m hm hB)]
  cases hg : goodB B m with
  | false => rfl
  | true =>
    have hb := goodB_bd hg
    rw [if_pos rfl]
    by_cases h1 : n ≥ 1
    · rw [if_pos h1, decide_eq_true (show 1 ≤ n from h1)]
      by_cases h2 : n < B
      · rw [if_pos h2, decide_eq_true h2]; rfl
      · have hw : wrap64 (n - B) = n - B := by unfold wrap64; omega
        rw [if_neg h2, decide_eq_false h2, hw, obind _ (RHas_eq k m hm _ (by omega))]
        simp
    · rw [if_neg h1, decide_eq_false (show ¬ 1 ≤ n from h1)]; rfl

theorem RAsk_eq (k : Nat) (hk : 141 ≤ k) (B : Int) (m : Nat) (size n : Int) (hm : m < 2 ^ 64) (hB : -9223372036854775808 ≤ B) (hn : n < 9223372036854775808) :
    raddleref09_Ask.f k B (m : Int) size n = some (askI B m size n) := by
  obtain ⟨k, rfl⟩ : ∃ q, k = q + 1 := ⟨k - 1, by omega⟩
  unfold raddleref09_Ask.f askI
  rw [obind _ (RGood_eq (k + 1) (by omega) B m hm hB)]
  cases hg : goodB B m with
  | false => simp [raddleref09_Ask.j0]
  | true =>
    have hb := goodB_bd hg
    rw [if_pos rfl]
    simp only [raddleref09_Ask.j0, Bool.true_eq_false, false_or]
    by_cases h1 : size < 1
    · rw [if_pos h1, if_pos trivial, if_pos (.inl h1)]
    · rw [if_neg h1]
      by_cases h2 : size > 64
      · rw [if_pos h2, if_pos trivial, if_pos (.inr (.inl h2))]
      · rw [if_neg h2]
        by_cases h3 : n < 1
        · rw [if_pos h3, if_pos trivial, if_pos (.inr (.inr (.inl h3)))]
        · rw [if_neg h3]
          by_cases h4 : n > 1099511627776
          · rw [decide_eq_true h4, if_pos rfl, if_pos (.inr (.inr (.inr h4)))]
          · rw [decide_eq_false h4, if_neg (by decide), if_neg (show ¬ (size < 1 ∨ size > 64 ∨ n < 1 ∨ n > 1099511627776) by omega), obind _ (RDone_eq k (by omega) B m n hm hB hn)]
            cases hd : doneB B m n with
            | true => rfl
            | false =>
              have hw : wrap64 (n - B) = n - B := by unfold wrap64; omega
              rw [hw]
              simp only [Bool.false_eq_true, if_false]
              split <;> rfl

theorem ROnes_l0 (m : Nat) (hm : m < 2 ^ 64) (d : Nat) : ∀ (k j : Nat), j ≤ onesN m → onesN m - j = d → d + 71 ≤ k → raddleref08_Ones.l0 k (m : Int) (j : Int) = some ((onesN m : Nat) : Int) := by
  obtain ⟨ho1, ho2, ho3⟩ := onesN_spec m hm
  generalize onesN m = t at *
  induction d with
  | zero =>
    intro k j hj hd hk
    obtain ⟨k, rfl⟩ : ∃ q, k = q + 1 := ⟨k - 1, by omega⟩
    obtain rfl : j = t := by omega
    simp only [raddleref08_Ones.l0]
    by_cases h : (j : Int) < 64
    · rw [if_pos h, obind _ (RHas_eq k m hm _ (by omega)), hasB_nat m j (by omega), ho3, if_neg (by decide)]
    · rw [if_neg h]
  | succ d ih =>
    intro k j hj hd hk
    obtain ⟨k, rfl⟩ : ∃ q, k = q + 1 := ⟨k - 1, by omega⟩
    simp only [raddleref08_Ones.l0]
    rw [if_pos (by omega), obind _ (RHas_eq k m hm _ (by omega)), hasB_nat m j (by omega), ho2 j (by omega), if_pos rfl, wrap_nat_succ j (by omega)]
    exact ih k (j + 1) (by omega) (by omega) (by omega)
theorem ROnes_eq (k : Nat) (hk : 140 ≤ k) (m : Nat) (hm : m < 2 ^ 64) : raddleref08_Ones.f k (m : Int) = some ((onesN m : Nat) : Int) :=
  ROnes_l0 m hm (onesN m) k 0 (by omega) (by omega) (by have := (onesN_spec m hm).1; omega)

theorem RDown_l0 (l : List Int) (hl : l.length ≤ 64) (hx : ∀ x ∈ l, 0 ≤ x ∧ x < 64) (n : Int) (hn : 0 ≤ n ∧ n < 64) (d : Nat) : ∀ (k j o : Nat), o < 2 ^ 64 → j ≤ l.length → l.length - j = d → d + 71 ≤ k →
    raddleref08_Down.l0 k n l (o : Int) (j : Int) = some ((((l.drop j).map (fun x => x - n)).foldl withN o : Nat) : Int) := by
  induction d with
  | zero =>
    intro k j o ho hj hd hk
    obtain ⟨k, rfl⟩ : ∃ q, k = q + 1 := ⟨k - 1, by omega⟩
    simp only [raddleref08_Down.l0]
    rw [if_neg (by omega), List.drop_of_length_le (by omega)]; rfl
  | succ d ih =>
    intro k j o ho hj hd hk
    obtain ⟨k, rfl⟩ : ∃ q, k = q + 1 := ⟨k - 1, by omega⟩
    have hlt : j < l.length := by omega
    have hb := hx _ (List.getElem_mem hlt)
    have hw : wrap64 (l[j] - n) = l[j] - n := by unfold wrap64; omega
    simp only [raddleref08_Down.l0]
    rw [if_pos (by omega), if_pos (by omega), rd_nat l j hlt, hw, obind _ (RWith_eq k o ho _ (by omega)), wrap_nat_succ j (by omega), ih k (j + 1) _ (withN_lt o ho _) (by omega) (by omega) (by omega), List.drop_eq_getElem_cons hlt]
    rfl

theorem RDown_eq (k : Nat) (hk : 140 ≤ k) (m : Nat) (hm : m < 2 ^ 64) (n : Int) : raddleref08_Down.f k (m : Int) n = some ((downN m n : Nat) : Int) := by
  unfold raddleref08_Down.f
  by_cases h1 : n < 1
  · rw [if_pos h1]; unfold downN; rw [if_pos h1]
  · rw [if_neg h1]
    by_cases h2 : n > 63
    · rw [if_pos h2]; unfold downN; rw [if_neg h1, if_neg (by omega)]; rfl
    · have hl := bitsL_length m
      have hx : ∀ x ∈ ints (bitsL m), 0 ≤ x ∧ x < 64 := by
        intro x h
        simp only [ints, List.mem_map] at h
        obtain ⟨i, hi, rfl⟩ := h
        have := (mem_bitsL.1 hi).1
        omega
      have h := RDown_l0 (ints (bitsL m)) (by rw [ints_length]; exact hl) hx n (by omega) (ints (bitsL m)).length k 0 0 (by decide) (by omega) (by omega) (by rw [ints_length]; omega)
      have e0 : ((0 : Nat) : Int) = 0 := rfl
      rw [if_neg h2, obind _ (RList_eq k m hm hk)]
      rw [e0, List.drop_zero] at h
      rw [h]
      congr 2
      apply Nat.eq_of_testBit_eq
      intro j
      have ht := testBit_ofL ((ints (bitsL m)).map (fun x => x - n)) j
      unfold ofL at ht
      rw [ht, testBit_downN m hm, Bool.eq_iff_iff, List.any_eq_true]
      simp only [List.mem_map, ints, decide_eq_true_eq]
      constructor
      · rintro ⟨y, ⟨x, ⟨i, hi, rfl⟩, rfl⟩, ha, hb, hc⟩
        have e : j + n.toNat = i := by omega
        rw [e]; exact (mem_bitsL.1 hi).2
      · intro hb
        have hi64 : j + n.toNat < 64 := Nat.lt_of_not_le fun hle => by rw [testBit_big m hm _ hle] at hb; cases hb
        exact ⟨(j : Int), ⟨((j + n.toNat : Nat) : Int), ⟨_, mem_bitsL.2 ⟨hi64, hb⟩, rfl⟩, by omega⟩, by omega, by omega, rfl⟩

theorem RMark_eq0 (k : Nat) (hk : 141 ≤ k) (B : Int) (m : Nat) (n : Int) (hm : m < 2 ^ 64) (hB : -9223372036854775808 ≤ B) (hn : n < 9223372036854775808) (h : askI B m 64 n = 0) :
    raddleref09_Mark.f k B (m : Int) n = some (B + (onesN (nextM B m n) : Int), ((downN (nextM B m n) (onesN (nextM B m n) : Int) : Nat) : Int), 0) := by
  obtain ⟨hg, h1, h2, h3, h4, h5⟩ := askI_zero h
  have hG := (goodB_iff B m hm).1 hg
  have hlt := nextM_lt hm hG h1 h2 h4
  have hgood := mark_good hm hG h1 h2 h4
  have hbd := goodB_bd hg
  unfold raddleref09_Mark.f
  rw [obind _ (RAsk_eq k hk B m 64 n hm hB hn), h, if_pos rfl]
  have hw : wrap64 (n - B) = n - B := by unfold wrap64; omega
  have e1 : raddleref08_With.f k (m : Int) (wrap64 (n - B)) = some ((nextM B m n : Nat) : Int) := by rw [hw]; exact RWith_eq k m hm _ (by omega)
  rw [obind _ e1, obind _ (ROnes_eq k (by omega) _ hlt), obind _ (RDown_eq k (by omega) _ hlt _)]
  have hw2 : wrap64 (B + ((onesN (nextM B m n) : Nat) : Int)) = B + ((onesN (nextM B m n) : Nat) : Int) := by
    have := hgood.1; have := hgood.2.1
    unfold wrap64; omega
  rw [hw2]
theorem RMark_eq1 (k : Nat) (hk : 141 ≤ k) (B : Int) (m : Nat) (n : Int) (hm : m < 2 ^ 64) (hB : -9223372036854775808 ≤ B) (hn : n < 9223372036854775808) (h : askI B m 64 n ≠ 0) :
    raddleref09_Mark.f k B (m : Int) n = some (0, 0, askI B m 64 n) := by
  unfold raddleref09_Mark.f
  rw [obind _ (RAsk_eq k hk B m 64 n hm hB hn), if_neg h]
theorem RCount_eq (k : Nat) (hk : 140 ≤ k) (B : Int) (m : Nat) (hm : m < 2 ^ 64) (hB : -9223372036854775808 ≤ B) : raddleref09_Count.f k B (m : Int) = some (countI B m) := by
  unfold raddleref09_Count.f countI
  rw [obind _ (RGood_eq k hk B m hm hB)]
  cases hg : goodB B m with
  | false => rfl
  | true =>
    have hb := goodB_bd hg
    have hl := bitsL_length m
    have w1 : wrap64 (B - 1) = B - 1 := by unfold wrap64; omega
    have w2 : wrap64 (B - 1 + ((bitsL m).length : Int)) = B - 1 + ((bitsL m).length : Int) := by unfold wrap64; omega
    rw [if_pos rfl, if_pos rfl, obind _ (RList_eq k m hm hk), ints_length, w1, w2]

end Go.Proofs.YtmokngiokdffdaaDoor.P
