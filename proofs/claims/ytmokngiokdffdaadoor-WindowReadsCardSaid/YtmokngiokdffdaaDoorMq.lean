/-
  Plain law: the reference's mask functions, with enough rounds, in bits of a Nat below 2^64.
-/
import Derived.Test.YtmokngiokdffdaaDoorMp
namespace Go.Proofs.YtmokngiokdffdaaDoor.P
open Go.RowKit Go.Proofs.YtmokngiokdffdaaDoorW.PrintWords Go.Proofs.YtmokngiokdffdaaDoorW.PrintLast Go.Proofs.YtmokngiokdffdaaDoorW.PrintMore
open Ma

theorem wrap_nat_succ (j : Nat) (h : j < 9223372036854775807) : wrap64 ((j : Int) + 1) = ((j + 1 : Nat) : Int) := by unfold wrap64; omega
theorem half_nat (x : Nat) (hx : x < 2 ^ 64) : IntKind.u64.wrap (Int.tdiv (x : Int) 2) = ((x / 2 : Nat) : Int) := by
  have : Int.tdiv (x : Int) 2 = ((x / 2 : Nat) : Int) := by rw [Int.tdiv_eq_ediv_of_nonneg (by omega)]; omega
  rw [this, IntKind.wrap_u64]; omega
theorem odd_nat (x : Nat) : (Int.tmod (x : Int) 2 == 1) = decide (x % 2 = 1) := by
  rw [Int.tmod_eq_emod_of_nonneg (by omega)]
  rw [Bool.eq_iff_iff]; simp only [beq_iff_eq, decide_eq_true_eq]; omega

theorem RHas_l0 (n d : Nat) (hn : n < 64) : ∀ (k x j : Nat), x < 2 ^ 64 → j ≤ n → n - j = d → d < k →
    raddleref08_Has.l0 k (x : Int) (n : Int) (j : Int) = some (decide ((x / 2 ^ (n - j)) % 2 = 1)) := by
  induction d with
  | zero =>
    intro k x j hx hj hd hk
    obtain ⟨k, rfl⟩ : ∃ m, k = m + 1 := ⟨k - 1, by omega⟩
    simp only [raddleref08_Has.l0]
    rw [if_neg (by omega), odd_nat, hd]; simp
  | succ d ih =>
    intro k x j hx hj hd hk
    obtain ⟨k, rfl⟩ : ∃ m, k = m + 1 := ⟨k - 1, by omega⟩
    simp only [raddleref08_Has.l0]
    rw [if_pos (by omega), half_nat x hx, wrap_nat_succ j (by omega), ih k (x / 2) (j + 1) (by omega) (by omega) (by omega) (by omega)]
    have e : n - j = (n - (j + 1)) + 1 := by omega
    rw [e, Nat.pow_succ, Nat.mul_comm (2 ^ _) 2, ← Nat.div_div_eq_div_mul]

theorem RHas_eq (k m : Nat) (hm : m < 2 ^ 64) (i : Int) (hk : 70 ≤ k) : raddleref08_Has.f k (m : Int) i = some (hasB m i) := by
  obtain ⟨k, rfl⟩ : ∃ j, k = j + 1 := ⟨k - 1, by omega⟩
  unfold raddleref08_Has.f
  by_cases h0 : i < 0
  · rw [if_pos h0]; simp only [raddleref08_Has.j0, if_true]
    have : ¬ (0 ≤ i ∧ i < 64) := by omega
    simp [hasB, this]
  · rw [if_neg h0]
    by_cases h1 : i > 63
    · have : ¬ (0 ≤ i ∧ i < 64) := by omega
      simp [raddleref08_Has.j0, h1, hasB, this]
    · obtain ⟨n, rfl⟩ := Int.eq_ofNat_of_zero_le (show 0 ≤ i by omega)
      have hn : n < 64 := by omega
      have hd : decide ((n : Int) > 63) = false := decide_eq_false h1
      rw [hd]; simp only [raddleref08_Has.j0]
      have hz := RHas_l0 n n hn k m 0 hm (by omega) (by omega) (by omega)
      simp only [Nat.sub_zero] at hz
      rw [if_neg (by decide)]
      have e0 : ((0 : Nat) : Int) = 0 := rfl
      rw [e0] at hz
      rw [hz]
      have : (0 ≤ (n : Int) ∧ (n : Int) < 64) := by omega
      simp only [hasB, this, and_self, decide_true, Bool.true_and, Int.toNat_natCast, Nat.testBit_eq_decide_div_mod_eq]

theorem Rpower_l0 (n d : Nat) (hn : n < 64) : ∀ (k p j : Nat), j ≤ n → n - j = d → d < k → p * 2 ^ d < 2 ^ 64 →
    raddleref08_power.l0 k (n : Int) (p : Int) (j : Int) = some ((p * 2 ^ d : Nat) : Int) := by
  induction d with
  | zero =>
    intro k p j hj hd hk _
    obtain ⟨k, rfl⟩ : ∃ m, k = m + 1 := ⟨k - 1, by omega⟩
    simp only [raddleref08_power.l0]
    rw [if_neg (by omega)]; simp
  | succ d ih =>
    intro k p j hj hd hk hp
    obtain ⟨k, rfl⟩ : ∃ m, k = m + 1 := ⟨k - 1, by omega⟩
    simp only [raddleref08_power.l0]
    have h2 : 2 * p * 2 ^ d = p * 2 ^ (d + 1) := by rw [Nat.pow_succ, Nat.mul_comm 2 p, Nat.mul_assoc, Nat.mul_comm 2]
    have h1 : 2 * p < 2 ^ 64 := by
      have := Nat.le_mul_of_pos_right (2 * p) (Nat.two_pow_pos d)
      omega
    have hw : IntKind.u64.wrap (2 * (p : Int)) = ((2 * p : Nat) : Int) := by rw [IntKind.wrap_u64]; omega
    rw [if_pos (by omega), hw, wrap_nat_succ j (by omega), ih k (2 * p) (j + 1) (by omega) (by omega) (by omega) (by omega), h2]

theorem or_two_pow (m n : Nat) (h : m.testBit n = false) : m ||| 2 ^ n = m + 2 ^ n := by
  have h1 : m % 2 ^ (n + 1) < 2 ^ n := by
    rw [Nat.testBit_eq_decide_div_mod_eq] at h
    have h0 : m / 2 ^ n % 2 = 0 := by
      rcases Nat.mod_two_eq_zero_or_one (m / 2 ^ n) with e | e
      · exact e
      · rw [e] at h; simp at h
    have e : m % 2 ^ (n + 1) = m % 2 ^ n := by
      rw [Nat.pow_succ, Nat.mod_mul, h0]; simp
    rw [e]; exact Nat.mod_lt _ (Nat.two_pow_pos n)
  generalize hb : m % 2 ^ (n + 1) = b at h1
  generalize ha : m / 2 ^ (n + 1) = a
  have hm : m = 2 ^ (n + 1) * a + b := by rw [← ha, ← hb]; exact (Nat.div_add_mod _ _).symm
  have hlt : b < 2 ^ (n + 1) := by rw [Nat.pow_succ]; omega
  have hlt2 : 2 ^ n + b < 2 ^ (n + 1) := by rw [Nat.pow_succ]; omega
  have e1 : 2 ^ n ||| b = 2 ^ n + b := by
    have := Nat.two_pow_add_eq_or_of_lt h1 1
    simpa using this.symm
  rw [hm, Nat.two_pow_add_eq_or_of_lt hlt a, Nat.or_assoc, Nat.or_comm b, e1, ← Nat.two_pow_add_eq_or_of_lt hlt2 a, ← Nat.two_pow_add_eq_or_of_lt hlt a]
  omega

theorem RWith_eq (k m : Nat) (hm : m < 2 ^ 64) (i : Int) (hk : 70 ≤ k) : raddleref08_With.f k (m : Int) i = some ((withN m i : Nat) : Int) := by
  unfold raddleref08_With.f
  by_cases h0 : i < 0
  · have : ¬ (0 ≤ i ∧ i < 64) := by omega
    simp [h0, withN, this]
  · by_cases h1 : i > 63
    · have : ¬ (0 ≤ i ∧ i < 64) := by omega
      simp [h0, h1, withN, this]
    · have h01 : (0 ≤ i ∧ i < 64) := by omega
      rw [if_neg h0, if_neg h1, RHas_eq k m hm i hk]
      simp only [Option.bind_some, hasB, h01, and_self, decide_true, Bool.true_and]
      obtain ⟨n, rfl⟩ := Int.eq_ofNat_of_zero_le h01.1
      simp only [Int.toNat_natCast, withN, h01, and_self, if_true]
      by_cases hb : m.testBit n = true
      · rw [if_pos hb]
        have : m ||| 2 ^ n = m := by
          apply Nat.eq_of_testBit_eq; intro j
          rw [Nat.testBit_or, Nat.testBit_two_pow]
          by_cases e : n = j
          · subst e; simp [hb]
          · simp [e]
        rw [this]
      · have hb' : m.testBit n = false := by simpa using hb
        rw [if_neg hb]
        have hn : n < 64 := by omega
        have h2n : 2 ^ n < 2 ^ 64 := Nat.pow_lt_pow_right (by decide) hn
        have hp := Rpower_l0 n n hn k 1 0 (by omega) (by omega) (by omega) (by rw [Nat.one_mul]; exact h2n)
        have e0 : ((0 : Nat) : Int) = 0 := rfl
        have e1 : ((1 : Nat) : Int) = 1 := rfl
        rw [e0, e1, Nat.one_mul] at hp
        unfold raddleref08_power.f
        rw [hp]
        simp only [Option.bind_some]
        have hl : m ||| 2 ^ n < 2 ^ 64 := Nat.or_lt_two_pow hm h2n
        rw [or_two_pow m n hb'] at hl ⊢
        generalize 2 ^ n = p at hl
        have : IntKind.u64.wrap ((m : Int) + (p : Int)) = ((m + p : Nat) : Int) := by rw [IntKind.wrap_u64]; omega
        rw [this]

/-- The set of a list's numbers. -/
def ofL (l : List Int) : Nat := l.foldl withN 0
theorem fold_lt (l : List Int) : ∀ m, m < 2 ^ 64 → l.foldl withN m < 2 ^ 64 := by
  induction l with
  | nil => intro m h; exact h
  | cons i l ih => intro m h; exact ih _ (withN_lt m h i)
theorem ofL_lt (l : List Int) : ofL l < 2 ^ 64 := fold_lt l 0 (by decide)
theorem fold_cast (l : List Int) : ∀ m : Nat, m < 2 ^ 64 → l.foldl withI (m : Int) = ((l.foldl withN m : Nat) : Int) := by
  induction l with
  | nil => intro m _; rfl
  | cons i l ih => intro m h; simp only [List.foldl_cons]; rw [withI_nat m h i]; exact ih _ (withN_lt m h i)
theorem Of_eq (l : List Int) : mask_Of.f l = some ((ofL l : Nat) : Int) := by
  unfold mask_Of.f ofL
  have := fold_cast l 0 (by decide)
  exact congrArg some this
theorem testBit_fold (l : List Int) (k : Nat) : ∀ m, (l.foldl withN m).testBit k = (m.testBit k || l.any (fun i => decide (0 ≤ i ∧ i < 64 ∧ i = (k : Int)))) := by
  induction l with
  | nil => intro m; simp
  | cons i l ih => intro m; simp only [List.foldl_cons, List.any_cons]; rw [ih, testBit_withN, Bool.or_assoc]
theorem testBit_ofL (l : List Int) (k : Nat) : (ofL l).testBit k = l.any (fun i => decide (0 ≤ i ∧ i < 64 ∧ i = (k : Int))) := by
  unfold ofL; rw [testBit_fold, Nat.zero_testBit, Bool.false_or]
theorem ofL_bitsL (m : Nat) (hm : m < 2 ^ 64) : ofL (ints (bitsL m)) = m := by
  apply Nat.eq_of_testBit_eq
  intro k
  rw [testBit_ofL, Bool.eq_iff_iff, List.any_eq_true]
  simp only [ints, List.mem_map, decide_eq_true_eq]
  constructor
  · rintro ⟨i, ⟨x, hx, rfl⟩, _, _, h3⟩
    have : x = k := by omega
    subst this
    exact (mem_bitsL.1 hx).2
  · intro h
    have hk : k < 64 := by
      apply Nat.lt_of_not_le; intro hle
      rw [testBit_big m hm k hle] at h; cases h
    exact ⟨(k : Int), ⟨k, mem_bitsL.2 ⟨hk, h⟩, rfl⟩, by omega, by omega, rfl⟩

theorem rd_nat (l : List Int) (j : Nat) (h : j < l.length) : rd l (j : Int) = l[j] := by
  simp [rd, List.getD_eq_getElem?_getD, h]

theorem ROf_l0 (l : List Int) (hl : l.length < 1000000) (d : Nat) : ∀ (k j m : Nat), m < 2 ^ 64 → j ≤ l.length → l.length - j = d → d + 70 < k →
    raddleref08_Of.l0 k l (m : Int) (j : Int) = some (((l.drop j).foldl withN m : Nat) : Int) := by
  induction d with
  | zero =>
    intro k j m hm hj hd hk
    obtain ⟨k, rfl⟩ : ∃ q, k = q + 1 := ⟨k - 1, by omega⟩
    simp only [raddleref08_Of.l0]
    rw [if_neg (by omega), List.drop_of_length_le (by omega)]; rfl
  | succ d ih =>
    intro k j m hm hj hd hk
    obtain ⟨k, rfl⟩ : ∃ q, k = q + 1 := ⟨k - 1, by omega⟩
    have hlt : j < l.length := by omega
    simp only [raddleref08_Of.l0]
    rw [if_pos (by omega), if_pos (by omega), rd_nat l j hlt, RWith_eq k m hm _ (by omega)]
    simp only [Option.bind_some]
    rw [wrap_nat_succ j (by omega), ih k (j + 1) _ (withN_lt m hm _) (by omega) (by omega) (by omega), List.drop_eq_getElem_cons hlt]
    rfl
theorem ROf_eq (k : Nat) (l : List Int) (hl : l.length < 1000000) (hk : l.length + 71 ≤ k) : raddleref08_Of.f k l = some ((ofL l : Nat) : Int) := by
  have := ROf_l0 l hl l.length k 0 0 (by decide) (by omega) (by omega) (by omega)
  unfold raddleref08_Of.f
  have e0 : ((0 : Nat) : Int) = 0 := rfl
  rw [e0] at this
  rw [this]; rfl

end Go.Proofs.YtmokngiokdffdaaDoor.P
