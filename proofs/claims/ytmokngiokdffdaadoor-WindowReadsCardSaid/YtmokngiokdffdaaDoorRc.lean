/-
  Plain law: the reference's Put tells the same bytes as the program's.
-/
import Derived.Test.YtmokngiokdffdaaDoorRb
namespace Go.Proofs.YtmokngiokdffdaaDoor.P
open Go.RowKit Go.Proofs.YtmokngiokdffdaaDoorW.PrintWords Go.Proofs.YtmokngiokdffdaaDoorW.PrintLast Go.Proofs.YtmokngiokdffdaaDoorW.PrintMore
set_option linter.unusedVariables false

theorem beD_succ (n j : Nat) : beD n (j + 1) = beD (n / 256) j ++ [((n % 256 : Nat) : Int)] := by
  apply List.ext_getElem?
  intro i
  by_cases hi : i < j
  · rw [beD_get n (j + 1) i (by omega), List.getElem?_append_left (by rw [beD_length]; exact hi), beD_get _ j i hi]
    have e : j + 1 - 1 - i = (j - 1 - i) + 1 := by omega
    rw [e, Nat.pow_succ, Nat.mul_comm, ← Nat.div_div_eq_div_mul]
  · by_cases he : i = j
    · subst he
      rw [beD_get n (i + 1) i (by omega), List.getElem?_append_right (by rw [beD_length]; omega), beD_length]
      have e : i + 1 - 1 - i = 0 := by omega
      rw [e]; simp
    · rw [List.getElem?_eq_none (by rw [beD_length]; omega), List.getElem?_eq_none (by rw [List.length_append, beD_length]; simp; omega)]

theorem digits_l0 (d : Nat) : ∀ (k n : Nat) (acc : List Int), n < 256 ^ d → n < 9223372036854775808 → d < k → acc.length + d < 1000000 →
    raddleref01_digits.l0 k (n : Int) acc = some (beD n (dg d n) ++ acc) := by
  induction d with
  | zero =>
    intro k n acc h hn hk ha
    obtain ⟨k, rfl⟩ : ∃ q, k = q + 1 := ⟨k - 1, by omega⟩
    simp at h; subst h
    simp only [raddleref01_digits.l0]
    rw [if_neg (by omega)]; rfl
  | succ d ih =>
    intro k n acc h hn hk ha
    obtain ⟨k, rfl⟩ : ∃ q, k = q + 1 := ⟨k - 1, by omega⟩
    simp only [raddleref01_digits.l0]
    by_cases h0 : n = 0
    · subst h0
      rw [if_neg (by omega)]; simp [dg, beD]
    · have e1 : Int.tmod (n : Int) 256 % 256 = ((n % 256 : Nat) : Int) := by rw [Int.tmod_eq_emod_of_nonneg (by omega)]; omega
      have e2 : wrap64 (Int.tdiv (n : Int) 256) = ((n / 256 : Nat) : Int) := by
        have : Int.tdiv (n : Int) 256 = ((n / 256 : Nat) : Int) := by rw [Int.tdiv_eq_ediv_of_nonneg (by omega)]; omega
        rw [this]; unfold wrap64; omega
      have e3 : dg (d + 1) n = dg d (n / 256) + 1 := by rw [dg, if_neg h0, Nat.add_comm]
      rw [if_pos (by omega), obind _ rfl, e1, e2, if_pos (by simp; omega), ih k (n / 256) _ (by rw [Nat.pow_succ] at h; omega) (by omega) (by omega) (by simp; omega), e3, beD_succ, List.append_assoc]

theorem digits_eq (k n : Nat) (hn : n < 9223372036854775808) (hk : 9 ≤ k) : raddleref01_digits.f k (n : Int) = some (beD n (dg 8 n)) := by
  have h := digits_l0 8 k n [] (Nat.lt_trans hn (by decide)) hn (by omega) (by simp)
  rw [List.append_nil] at h
  exact h

theorem RPut1_eq (k : Nat) (l : List Int) (a : Int) (ha : a < 9223372036854775808) (hk : 9 ≤ k) (hl : l.length < 1000000) : raddleref01_Put.f k l a = some (putN l a) := by
  unfold raddleref01_Put.f putN
  rw [obind _ rfl, if_pos (by simp; omega), obind _ rfl]
  by_cases h0 : a < 0
  · rw [if_pos h0, if_pos h0]; rfl
  · obtain ⟨n, rfl⟩ := Int.eq_ofNat_of_zero_le (show 0 ≤ a by omega)
    have hd := (dg_le 8 n (Nat.lt_trans (show n < 9223372036854775808 by omega) (by decide))).1
    have e1 : ((beD n (dg 8 n)).length : Int) % 256 = ((dg 8 n : Nat) : Int) := by rw [beD_length]; omega
    rw [if_neg h0, if_neg h0, obind _ (digits_eq k n (by omega) hk), if_pos (by simp; omega), obind _ rfl, if_pos (by simp [beD_length]; omega), e1]
    unfold putB
    simp

theorem RPut_eq (k : Nat) (l : List Int) (B : Int) (m : Nat) (hm : m < 2 ^ 64) (hB : B < 9223372036854775808) (hk : 9 ≤ k) (hl : l.length < 100000) : raddleref09_Put.f k l B (m : Int) = some (putW l B m) := by
  have hl1 : (putN l B).length ≤ l.length + 9 := by
    unfold putN; split
    · omega
    · have := putB_length B.toNat (by omega)
      rw [List.length_append]; omega
  have e1 : wrap64 (IntKind.u64.wrap (Int.tdiv (m : Int) 4294967296)) = ((m / 4294967296 : Nat) : Int) := by
    have : Int.tdiv (m : Int) 4294967296 = ((m / 4294967296 : Nat) : Int) := by rw [Int.tdiv_eq_ediv_of_nonneg (by omega)]; omega
    rw [this, IntKind.wrap_u64]; unfold wrap64; omega
  have e2 : wrap64 (Int.tmod (m : Int) 4294967296) = ((m % 4294967296 : Nat) : Int) := by
    rw [Int.tmod_eq_emod_of_nonneg (by omega)]; unfold wrap64; omega
  have p1 : ∀ (x : List Int) (q : Nat), putN x (q : Int) = x ++ putB q := fun x q => by unfold putN; rw [if_neg (by omega)]; rfl
  have hl2 := putB_length (m / 4294967296) (by omega)
  unfold raddleref09_Put.f putW
  rw [obind _ (RPut1_eq k l B hB hk (by omega)), e1, e2, obind _ (RPut1_eq k _ _ (by omega) hk (by omega)), p1, obind _ (RPut1_eq k _ _ (by omega) hk (by rw [List.length_append]; omega)), p1]

end Go.Proofs.YtmokngiokdffdaaDoor.P
