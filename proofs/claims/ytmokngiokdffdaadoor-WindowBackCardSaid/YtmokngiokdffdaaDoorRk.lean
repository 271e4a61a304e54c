/-
  Plain law: what Put lays is what the reader reads.
-/
import Derived.Test.YtmokngiokdffdaaDoorRj
import Derived.Test.YtmokngiokdffdaaDoorRc
namespace Go.Proofs.YtmokngiokdffdaaDoor.P
open Go.RowKit Go.Proofs.YtmokngiokdffdaaDoorW.PrintWords Go.Proofs.YtmokngiokdffdaaDoorW.PrintLast Go.Proofs.YtmokngiokdffdaaDoorW.PrintMore
set_option linter.unusedVariables false

theorem valF_beD (k : Nat) : ∀ n, n < 256 ^ k → valF (beD n k) = (n : Int) := by
  induction k with
  | zero => intro n h; simp at h; subst h; rfl
  | succ k ih =>
    intro n h
    rw [beD_succ, valF_snoc, ih (n / 256) (by rw [Nat.pow_succ] at h; omega)]
    omega
theorem dg_ge (f : Nat) : ∀ n, dg f n ≠ 0 → 256 ^ (dg f n - 1) ≤ n := by
  induction f with
  | zero => intro n h; exact absurd rfl h
  | succ f ih =>
    intro n h
    unfold dg at h ⊢
    by_cases h0 : n = 0
    · rw [if_pos h0] at h; exact absurd rfl h
    · rw [if_neg h0]
      have e : 1 + dg f (n / 256) - 1 = dg f (n / 256) := by omega
      rw [e]
      by_cases h1 : dg f (n / 256) = 0
      · rw [h1]; simp; omega
      · have h2 := ih (n / 256) h1
        obtain ⟨j, hj⟩ : ∃ j, dg f (n / 256) = j + 1 := ⟨dg f (n / 256) - 1, by omega⟩
        rw [hj] at h2 ⊢
        simp only [Nat.add_sub_cancel] at h2
        rw [Nat.pow_succ]; omega

theorem rd_append_lt (l t : List Int) (i : Nat) (h : i < l.length) : rd (l ++ t) (i : Int) = rd l (i : Int) := by
  rw [rd_nat (l ++ t) i (by rw [List.length_append]; omega), rd_nat l i h, List.getElem_append_left h]

theorem numF_putB (n : Nat) (hn : n < 9223372036854775808) (t : List Int) : numF (putB n ++ t) = ((n : Int), 1 + ((dg 8 n : Nat) : Int), 0) := by
  obtain ⟨h8, hlt⟩ := dg_le 8 n (Nat.lt_trans hn (by decide))
  have hge := dg_ge 8 n
  generalize hk : dg 8 n = k at h8 hlt hge
  have hpl : (putB n).length = k + 1 := by unfold putB; rw [List.length_cons, beD_length, hk]
  have h0 : rd (putB n ++ t) 0 = (k : Int) := by
    have := rd_append_lt (putB n) t 0 (by omega)
    have e : ((0 : Nat) : Int) = 0 := rfl
    rw [e] at this
    rw [this]
    have h2 := rd_nat (putB n) 0 (by omega)
    rw [e] at h2
    rw [h2]; unfold putB; simp [hk]
  have h1 : 0 < k → rd (putB n ++ t) 1 = ((n / 256 ^ (k - 1) % 256 : Nat) : Int) := by
    intro hk0
    have := rd_append_lt (putB n) t 1 (by omega)
    have e : ((1 : Nat) : Int) = 1 := rfl
    rw [e] at this
    rw [this]
    have h2 := rd_nat (putB n) 1 (by omega)
    rw [e] at h2
    rw [h2]
    have h3 := beD_get n k 0 hk0
    have h4 : (putB n)[1]? = (beD n k)[0]? := by unfold putB; rw [hk]; rfl
    rw [h3, List.getElem?_eq_getElem (by omega)] at h4
    rw [Option.some.inj h4, Nat.sub_zero]
  have hd : 0 < k → 0 < n / 256 ^ (k - 1) ∧ n / 256 ^ (k - 1) < 256 := by
    intro hk0
    have h2 := hge (by omega)
    obtain ⟨j, rfl⟩ : ∃ j, k = j + 1 := ⟨k - 1, by omega⟩
    simp only [Nat.add_sub_cancel] at h2 ⊢
    have hp : 0 < 256 ^ j := Nat.pow_pos (by decide)
    refine ⟨Nat.div_pos h2 hp, ?_⟩
    rw [Nat.div_lt_iff_lt_mul hp, Nat.mul_comm, ← Nat.pow_succ]; exact hlt
  have hd8 : k = 8 → n / 256 ^ (k - 1) ≤ 127 := by
    rintro rfl
    have : (256 : Nat) ^ (8 - 1) = 72057594037927936 := by decide
    rw [this]; omega
  have hd2 : 0 < k → n / 256 ^ (k - 1) % 256 = n / 256 ^ (k - 1) := fun h => Nat.mod_eq_of_lt (hd h).2
  have htk : ((putB n ++ t).drop 1).take (k : Int).toNat = beD n k := by
    have : (putB n ++ t).drop 1 = beD n k ++ t := by unfold putB; rw [hk]; rfl
    rw [this, Int.toNat_natCast, List.take_append_of_le_length (by rw [beD_length]; exact Nat.le_refl _), List.take_of_length_le (by rw [beD_length]; exact Nat.le_refl _)]
  unfold numF
  rw [h0, htk, valF_beD k n hlt]
  have hL : (putB n ++ t).length = k + 1 + t.length := by rw [List.length_append, hpl]
  rw [if_neg (by omega), if_neg (by omega), if_neg (by omega), if_neg, if_neg]
  · rintro ⟨ha, hb⟩
    have h9 : 0 < k := by omega
    rw [h1 h9, hd2 h9] at hb
    have := hd8 (by omega)
    omega
  · rintro ⟨ha, hb⟩
    have h9 : 0 < k := by omega
    rw [h1 h9, hd2 h9] at hb
    have := (hd h9).1
    omega

theorem drop_putB (n : Nat) (hn : n < 9223372036854775808) (t : List Int) : (putB n ++ t).drop (1 + ((dg 8 n : Nat) : Int)).toNat = t := by
  have hpl : (putB n).length = dg 8 n + 1 := by unfold putB; rw [List.length_cons, beD_length]
  have e : (1 + ((dg 8 n : Nat) : Int)).toNat = (putB n).length := by omega
  rw [e, List.drop_left]

theorem numS_putB (n : Nat) (most : Int) (hn : n < 9223372036854775808) (hm : (n : Int) ≤ most) (t : List Int) : numS (putB n ++ t) 0 most = ((n : Int), t, 0) := by
  unfold numS
  rw [numF_putB n hn t]
  simp only
  rw [if_neg (fun h => h rfl), if_neg (fun h => h rfl), if_neg (by omega), drop_putB n hn t]

theorem u64_of_lt (a : Int) (h0 : 0 ≤ a) (h1 : a < 18446744073709551616) : IntKind.u64.wrap a = a := by rw [IntKind.wrap_u64]; omega

theorem or_two (hi lo : Nat) (h1 : hi < 4294967296) (h2 : lo < 4294967296) : bits .or .u64 (IntKind.u64.wrap ((hi : Int) * 4294967296)) (IntKind.u64.wrap (lo : Int)) = ((hi * 4294967296 + lo : Nat) : Int) := by
  rw [u64_of_lt _ (by omega) (by omega), u64_of_lt _ (by omega) (by omega)]
  have := bits_join .u64 64 (by decide) (fun n a b => by rw [IntKind.wrap_u64]; omega) 32 ((hi : Int) * 4294967296) (lo : Int) (by omega) (by omega) (by omega) (by omega) (by omega) (by omega)
  rw [this]; omega

theorem getK_two (r1 : List Int) (e1 : Int) (hi lo : Nat) (r2 r3 : List Int) (e2 e3 : Int) (h1 : hi < 4294967296) (h2 : lo < 4294967296) (hn1 : numS r1 e1 4294967295 = ((hi : Int), r2, e2)) (hn2 : numS r2 e2 4294967295 = ((lo : Int), r3, e3)) :
    getK r1 e1 2 = (((hi * 4294967296 + lo : Nat) : Int), r3, e3) := by
  have h3 := or_two 0 hi (by decide) h1
  have h4 := or_two hi lo h1 h2
  have e0 : ((0 : Nat) : Int) = 0 := rfl
  rw [e0] at h3
  have g1 : getK r1 e1 1 = ((hi : Int), r2, e2) := by
    unfold getK
    unfold getK
    simp only [hn1]
    rw [h3]; simp
  unfold getK
  simp only [g1, hn2]
  rw [h4]

/-- A good window that was put, with bytes behind it, is read as it was put. -/
theorem back_reads (B m : Nat) (t : List Int) (hB : B ≤ 1099511627777) (hm : m < 2 ^ 64) :
    ∃ r1, numS (putW [] (B : Int) m ++ t) 0 1099511627777 = ((B : Int), r1, 0) ∧ getK r1 0 2 = ((m : Int), t, 0) := by
  have e : putW [] (B : Int) m ++ t = putB B ++ (putB (m / 4294967296) ++ (putB (m % 4294967296) ++ t)) := by
    unfold putW putN
    rw [if_neg (by omega), Int.toNat_natCast]
    simp
  rw [e]
  refine ⟨_, numS_putB B _ (by omega) (by omega) _, ?_⟩
  rw [getK_two _ 0 (m / 4294967296) (m % 4294967296) _ _ 0 0 (by omega) (by omega) (numS_putB _ _ (by omega) (by omega) _) (numS_putB _ _ (by omega) (by omega) _)]
  have : m / 4294967296 * 4294967296 + m % 4294967296 = m := by omega
  rw [this]

theorem putB_byte (n : Nat) (hn : n < 9223372036854775808) : ∀ x ∈ putB n, 0 ≤ x ∧ x < 256 := by
  intro x hx
  have h8 := (dg_le 8 n (Nat.lt_trans hn (by decide))).1
  unfold putB at hx
  rcases List.mem_cons.1 hx with rfl | hx
  · omega
  · unfold beD at hx
    obtain ⟨i, _, rfl⟩ := List.mem_map.1 hx
    omega
theorem putW_byte (l : List Int) (B : Int) (m : Nat) (hB : B < 9223372036854775808) (hm : m < 2 ^ 64) (hl : ∀ x ∈ l, 0 ≤ x ∧ x < 256) : ∀ x ∈ putW l B m, 0 ≤ x ∧ x < 256 := by
  intro x hx
  unfold putW putN at hx
  rcases List.mem_append.1 hx with hx | hx
  · rcases List.mem_append.1 hx with hx | hx
    · split at hx
      · exact hl x hx
      · rcases List.mem_append.1 hx with hx | hx
        · exact hl x hx
        · exact putB_byte _ (by omega) x hx
    · exact putB_byte _ (by omega) x hx
  · exact putB_byte _ (by omega) x hx
theorem putW_length (l : List Int) (B : Int) (m : Nat) (hB : B < 9223372036854775808) (hm : m < 2 ^ 64) : (putW l B m).length ≤ l.length + 27 := by
  have h1 := putB_length B.toNat (by omega)
  have h2 := putB_length (m / 4294967296) (by omega)
  have h3 := putB_length (m % 4294967296) (by omega)
  unfold putW putN
  split <;> simp only [List.length_append] <;> omega

end Go.Proofs.YtmokngiokdffdaaDoor.P
